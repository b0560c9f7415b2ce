/- Plain laws of certificates: images of a set, features of the greater image, networks of one layer. -/
import Derived.Test.YtbfigbpjoaccdaaGreatQD10
import Derived.Test.YtbfigbpjoaccdaaGreatUImgK
import Derived.Test.YtbfigbpjoaccdaaGreatQD7
namespace Go.Proofs.YtbfigbpjoaccdaaGreat
open Go Go.RowKit Go.Shelf
set_option linter.unusedVariables false
set_option linter.unusedSimpArgs false

/-- The value of a set of one pixel that a number chooses. -/
def betV (a b : Int) (c : Nat) : Int := a + (c : Int).tmod (b - a + 1)
theorem betV_in {a b : Int} (h : a ≤ b) (c : Nat) : a ≤ betV a b c ∧ betV a b c ≤ b := by
  have h1 := Int.tmod_nonneg (b - a + 1) (Int.natCast_nonneg c)
  have h2 := Int.tmod_lt_of_pos (c : Int) (show 0 < b - a + 1 by omega)
  unfold betV
  omega
def chsN (cs : List Nat) (i : Nat) : Nat := cs[i % cs.length]?.getD 0
def betL (xs ys : List Int) (cs : List Nat) : List Int := (List.range xs.length).map fun i => betV (xs[i]?.getD 0) (ys[i]?.getD 0) (chsN cs i)
theorem betL_length (xs ys : List Int) (cs : List Nat) : (betL xs ys cs).length = xs.length := by simp [betL]
theorem betL_at {xs ys : List Int} {cs : List Nat} {i : Nat} (hi : i < xs.length) : (betL xs ys cs)[i]?.getD 0 = betV (xs[i]?.getD 0) (ys[i]?.getD 0) (chsN cs i) := getD_range_map _ hi

theorem camB_iff {m : ImN} : camB m = true ↔ ((1 ≤ m.w ∧ m.w ≤ 16) ∧ (1 ≤ m.h ∧ m.h ≤ 16) ∧ (m.px.length : Int) = m.w * m.h) ∧ allIn 0 255 m.px = true := by
  constructor
  · intro h
    simp only [camB, Bool.and_eq_true] at h
    obtain ⟨h1, h2, h3, _⟩ := vld_true h.1
    exact ⟨⟨h1, h2, h3⟩, h.2⟩
  · rintro ⟨⟨h1, h2, h3⟩, h4⟩
    simp only [camB, vld, Bool.and_eq_true, inR_true, decide_eq_true_eq]
    refine ⟨⟨⟨⟨h1, h2⟩, h3⟩, ?_⟩, h4⟩
    refine allIn_of fun k hk => ?_
    have := allIn_getD h4 hk
    omega
theorem camB_len {m : ImN} (h : camB m = true) : m.px.length ≤ 256 := by
  obtain ⟨⟨⟨h1, h2⟩, ⟨h3, h4⟩, h5⟩, _⟩ := camB_iff.1 h
  have := Int.mul_le_mul h2 h4 (by omega) (by omega)
  omega
/-- Two images of a valid network, each pixel of one no greater than that of the other. -/
structure SetOk (N : NetN) (m m' : ImN) : Prop where
  net : NetOk N
  w : m.w = N.w
  h : m.h = N.h
  w' : m'.w = N.w
  h' : m'.h = N.h
  c : camB m = true
  c' : camB m' = true
  len : m'.px.length = m.px.length
  small : m.px.length ≤ 256
  le : ∀ i, i < m.px.length → m.px[i]?.getD 0 ≤ m'.px[i]?.getD 0
def setB (N : NetN) (m m' : ImN) : Bool := decide (chkF N [m, m'] = 0) && leB m.px m'.px
theorem setB_ok {N : NetN} {m m' : ImN} (h : setB N m m' = true) : SetOk N m m' := by
  simp only [setB, Bool.and_eq_true, decide_eq_true_eq] at h
  obtain ⟨h1, ⟨h2, h3, h4⟩, h5, h6, h7⟩ := chkF_two h.1
  obtain ⟨⟨_, _, e1⟩, _⟩ := camB_iff.1 h4
  obtain ⟨⟨_, _, e2⟩, _⟩ := camB_iff.1 h7
  exact ⟨h1, h2, h3, h5, h6, h4, h7, by rw [h2, h3] at e1; rw [h5, h6] at e2; omega, camB_len h4, fun i hi => of_decide_eq_true (allTo_at h.2 hi)⟩
theorem chkF_of_two {N : NetN} {m m' : ImN} (h0 : netOk N = true) (h1 : camB m = true) (h2 : camB m' = true) (h3 : m.w = N.w ∧ m.h = N.h) (h4 : m'.w = N.w ∧ m'.h = N.h) : chkF N [m, m'] = 0 := by
  unfold chkF
  have e1 : camsB [m, m'] = true := by simp [camsB, allTo, imAt, h1, h2]
  have e2 : fitsB N [m, m'] = true := by simp [fitsB, allTo, imAt, h3, h4]
  rw [if_pos h0, if_pos e1, if_pos e2]
theorem chkF_of_one {N : NetN} {m : ImN} (h0 : netOk N = true) (h1 : camB m = true) (h3 : m.w = N.w ∧ m.h = N.h) : chkF N [m] = 0 := by
  unfold chkF
  have e1 : camsB [m] = true := by simp [camsB, allTo, imAt, h1]
  have e2 : fitsB N [m] = true := by simp [fitsB, allTo, imAt, h3]
  rw [if_pos h0, if_pos e1, if_pos e2]
theorem setB_net {N : NetN} {m m' : ImN} (h : setB N m m' = true) : netOk N = true := by
  simp only [setB, Bool.and_eq_true, decide_eq_true_eq] at h
  have := h.1
  unfold chkF at this
  cases e : netOk N with
  | true => rfl
  | false => rw [e] at this; simp at this
/-- Pixels within two images. -/
structure MidB (n : Nat) (xs zs ys : List Int) : Prop where
  len : zs.length = n
  bd : ∀ i, i < n → xs[i]?.getD 0 ≤ zs[i]?.getD 0 ∧ zs[i]?.getD 0 ≤ ys[i]?.getD 0
theorem mid_bet {n : Nat} {xs ys : List Int} (hn : xs.length = n) (h : ∀ i, i < n → xs[i]?.getD 0 ≤ ys[i]?.getD 0) (cs : List Nat) : MidB n xs (betL xs ys cs) ys :=
  ⟨by rw [betL_length, hn], fun i hi => by rw [betL_at (by omega)]; exact betV_in (h i hi) _⟩
theorem SetOk.cam {N : NetN} {m m' : ImN} (h : SetOk N m m') {zs : List Int} (hz : MidB m.px.length m.px zs m'.px) : camB ⟨m.w, m.h, zs⟩ = true := by
  have h1 := camB_iff.1 h.c
  have h2 := camB_iff.1 h.c'
  refine camB_iff.2 ⟨⟨h1.1.1, h1.1.2.1, by rw [hz.len]; exact h1.1.2.2⟩, allIn_of fun k hk => ?_⟩
  rw [hz.len] at hk
  have e1 := hz.bd k hk
  have e2 := allIn_getD h1.2 hk
  have e3 := allIn_getD h2.2 (show k < m'.px.length by rw [h.len]; exact hk)
  show 0 ≤ zs[k]?.getD 0 ∧ zs[k]?.getD 0 ≤ 255
  omega

theorem sumTo_le {f g : Nat → Int} : ∀ {n : Nat}, (∀ i, i < n → f i ≤ g i) → sumTo f n ≤ sumTo g n
  | 0, _ => Int.le_refl _
  | n + 1, h => by
    have := sumTo_le (n := n) fun i hi => h i (by omega)
    have := h n (by omega)
    simp only [sumTo]
    omega
theorem feat_le {pw cw ch gx c n : Nat} {f g : Nat → Int} (h : ∀ i, i < n → f i ≤ g i) : featTo pw cw ch gx f c n ≤ featTo pw cw ch gx g c n := by
  unfold featTo
  refine sumTo_le fun i hi => ?_
  have := h i hi
  split <;> omega
theorem featL_mono {N : NetN} {xs ys : List Int} (hl : xs.length = ys.length) (h : ∀ i, i < xs.length → xs[i]?.getD 0 ≤ ys[i]?.getD 0) (c : Nat) : (featL N xs)[c]?.getD 0 ≤ (featL N ys)[c]?.getD 0 := by
  by_cases hc : c < N.nf
  · unfold featL
    rw [featsTo_at _ _ _ _ _ hc, featsTo_at _ _ _ _ _ hc, ← hl]
    exact feat_le h
  · rw [List.getElem?_eq_none (by rw [featL_length]; omega), List.getElem?_eq_none (by rw [featL_length]; omega)]
    exact Int.le_refl _
theorem bndL_length (N : NetN) (xs ys : List Int) : (bndL N xs ys).length = N.nf := by simp [bndL]
theorem bndL_at {N : NetN} {xs ys : List Int} {j : Nat} (hj : j < N.nf) : loAt (bndL N xs ys) j = (featL N xs)[j]?.getD 0 ∧ hiAt (bndL N xs ys) j = (featL N ys)[j]?.getD 0 := by
  unfold loAt hiAt bndL
  rw [List.getElem?_map, List.getElem?_range hj]
  exact ⟨rfl, rfl⟩
theorem bnd_sub {N : NetN} {n : Nat} {xs ys us vs : List Int} (hx : xs.length = n) (hy : ys.length = n) (hu : us.length = n) (hv : vs.length = n) (h1 : ∀ i, i < n → xs[i]?.getD 0 ≤ us[i]?.getD 0) (h2 : ∀ i, i < n → us[i]?.getD 0 ≤ vs[i]?.getD 0)
    (h3 : ∀ i, i < n → vs[i]?.getD 0 ≤ ys[i]?.getD 0) : SubB (bndL N us vs) (bndL N xs ys) where
  len := by rw [bndL_length, bndL_length]
  bd := fun j hj => by
    rw [bndL_length] at hj
    rw [(bndL_at hj).1, (bndL_at hj).2, (bndL_at hj).1, (bndL_at hj).2]
    exact ⟨featL_mono (by omega) (fun i hi => h1 i (by omega)) j, featL_mono (by omega) (fun i hi => h3 i (by omega)) j⟩
  ok := fun j hj => by
    rw [bndL_length] at hj
    rw [(bndL_at hj).1, (bndL_at hj).2]
    exact featL_mono (by omega) (fun i hi => h2 i (by omega)) j
theorem bnd_dup (N : NetN) (xs : List Int) : bndL N xs xs = dupL (featL N xs) := by
  refine List.ext_getElem (by simp [bndL, dupL, featL_length]) fun j h1 h2 => ?_
  rw [bndL_length] at h1
  have hj : j < (featL N xs).length := by rw [featL_length]; exact h1
  simp only [bndL, dupL, List.getElem_map, List.getElem_range, bndF]
  rw [List.getElem?_eq_getElem hj]
  rfl
theorem fwdB_pos {N : NetN} (h : NetOk N) {l : List (Int × Int)} (hl : l.length = N.nf) : 0 < (fwdB N.Ls l).length := by
  rw [fwdB_at, bndAt_len, hl]
  have := width_le h (i := N.Ls.length) (Nat.le_refl _)
  omega

/-! ### What the laws of certificates ask -/

theorem nIn8 {s : Int} (h : 0 ≤ s ∧ s ≤ 8) : nIn 0 8 s = true := nIn_true.2 h
theorem cert_set {N : NetN} {m m' : ImN} {s : Int} (h : setB N m m' = true) (hs : 0 ≤ s ∧ s ≤ 8) : certV N m m' s = ((certN N.Ls N.low N.high s.toNat (bndL N m.px m'.px) : Nat) : Int) ∧ certE N m m' s = 0 := by
  simp only [setB, Bool.and_eq_true, decide_eq_true_eq] at h
  exact cert_good h.1 h.2 (nIn8 hs)
theorem chk_mid {N : NetN} {m m' : ImN} {zs : List Int} (h : setB N m m' = true) (hz : MidB m.px.length m.px zs m'.px) : chkF N [⟨m.w, m.h, zs⟩] = 0 :=
  chkF_of_one (setB_net h) ((setB_ok h).cam hz) ⟨(setB_ok h).w, (setB_ok h).h⟩

/-! ### More splits, smaller sets, single images -/

theorem more_law {N : NetN} {m m' : ImN} {s t : Int} (hs : 0 ≤ s) (ht : 0 ≤ t) (h3 : certN N.Ls N.low N.high s.toNat (bndL N m.px m'.px) ≠ 3) :
    certN N.Ls N.low N.high (s + t).toNat (bndL N m.px m'.px) = certN N.Ls N.low N.high s.toNat (bndL N m.px m'.px) := by
  rw [show (s + t).toNat = s.toNat + t.toNat by omega]
  exact certN_more _ _ _ h3
theorem setB_of {N : NetN} {m m' : ImN} (h : setB N m m' = true) {xs ys : List Int} (hx : MidB m.px.length m.px xs m'.px) (hy : MidB m.px.length m.px ys m'.px) (hle : ∀ i, i < m.px.length → xs[i]?.getD 0 ≤ ys[i]?.getD 0) :
    setB N ⟨m.w, m.h, xs⟩ ⟨m.w, m.h, ys⟩ = true := by
  have hS := setB_ok h
  simp only [setB, Bool.and_eq_true, decide_eq_true_eq]
  refine ⟨chkF_of_two (setB_net h) (hS.cam hx) (hS.cam hy) ⟨hS.w, hS.h⟩ ⟨hS.w, hS.h⟩, ?_⟩
  have key : ∀ n, n ≤ m.px.length → allTo (fun i => decide (xs[i]?.getD 0 ≤ ys[i]?.getD 0)) n = true := by
    intro n
    induction n with
    | zero => intro _; rfl
    | succ n ih => intro hn; exact allTo_succ (ih (by omega)) (decide_eq_true (hle n (by omega)))
  exact key _ (by rw [hx.len]; exact Nat.le_refl _)
theorem part_law {N : NetN} {m m' : ImN} (h : setB N m m' = true) {xs ys : List Int} (hx : MidB m.px.length m.px xs m'.px) (hy : MidB m.px.length m.px ys m'.px) (hle : ∀ i, i < m.px.length → xs[i]?.getD 0 ≤ ys[i]?.getD 0)
    (h3 : certN N.Ls N.low N.high 0 (bndL N m.px m'.px) ≠ 3) : certN N.Ls N.low N.high 0 (bndL N xs ys) = certN N.Ls N.low N.high 0 (bndL N m.px m'.px) := by
  have hS := setB_ok h
  exact judgeB_sub hS.net.lt (bnd_sub rfl hS.len hx.len hy.len (fun i hi => (hx.bd i hi).1) hle (fun i hi => (hy.bd i hi).2)) (fwdB_pos hS.net (bndL_length _ _ _)) h3
theorem one_law (N : NetN) (xs : List Int) (s : Nat) : certN N.Ls N.low N.high s (bndL N xs xs) = verdB N.low N.high (scoreN N.Ls (featL N xs)) (scoreN N.Ls (featL N xs)) := by
  rw [bnd_dup]
  exact certN_one _ _
theorem zip_list {pw ph : Nat} {xs ys : List Int} {how : Int} {i : Nat} (hi : i < pw * ph) (h : -2147483648 ≤ zipF how (xs[i]?.getD 0) (ys[i]?.getD 0) ∧ zipF how (xs[i]?.getD 0) (ys[i]?.getD 0) ≤ 2147483648) :
    (img pw ph (zipG pw xs ys how))[i]?.getD 0 = zipF how (xs[i]?.getD 0) (ys[i]?.getD 0) := by
  have e : ∀ L : List Int, px L (i : Int) = L[i]?.getD 0 := fun L => by unfold px; rw [Int.toNat_natCast]
  unfold img
  rw [getD_range_map _ hi]
  unfold zipG
  rw [cXY, e, e, clamp_id h.1 h.2]
theorem zip_mid {pw ph : Nat} {xs ys us bs : List Int} (ha : MidB (pw * ph) xs us ys) (hb : MidB (pw * ph) xs bs ys) (hx : ∀ i, i < pw * ph → 0 ≤ xs[i]?.getD 0) (hy : ∀ i, i < pw * ph → ys[i]?.getD 0 ≤ 255) :
    MidB (pw * ph) xs (img pw ph (zipG pw us bs 3)) ys ∧ MidB (pw * ph) xs (img pw ph (zipG pw us bs 4)) ys ∧ ∀ i, i < pw * ph → (img pw ph (zipG pw us bs 3))[i]?.getD 0 ≤ (img pw ph (zipG pw us bs 4))[i]?.getD 0 := by
  have f3 : ∀ a b : Int, zipF 3 a b = min a b := fun a b => rfl
  have f4 : ∀ a b : Int, zipF 4 a b = max a b := fun a b => rfl
  have key : ∀ i, i < pw * ph → (img pw ph (zipG pw us bs 3))[i]?.getD 0 = min (us[i]?.getD 0) (bs[i]?.getD 0) ∧ (img pw ph (zipG pw us bs 4))[i]?.getD 0 = max (us[i]?.getD 0) (bs[i]?.getD 0) := fun i hi => by
    have h1 := ha.bd i hi
    have h2 := hb.bd i hi
    have h3 := hx i hi
    have h4 := hy i hi
    exact ⟨(zip_list hi (by rw [f3]; omega)).trans (f3 _ _), (zip_list hi (by rw [f4]; omega)).trans (f4 _ _)⟩
  refine ⟨⟨img_length _ _ _, fun i hi => ?_⟩, ⟨img_length _ _ _, fun i hi => ?_⟩, fun i hi => ?_⟩
  all_goals
    have h1 := ha.bd i hi
    have h2 := hb.bd i hi
    have h3 := key i hi
    omega

/-! ### Features are sums; networks of one layer -/

end Go.Proofs.YtbfigbpjoaccdaaGreat

/- Plain laws of certificates: images of a set, features of the greater image, networks of one layer. -/
import Derived.Test.YtbfigbpjoaccdaaGreatQC21
import Derived.Test.YtbfigbpjoaccdaaGreatUImgK
import Derived.Test.YtbfigbpjoaccdaaGreatQC3
namespace Go.Proofs.YtbfigbpjoaccdaaGreat
open Go Go.RowKit Go.Shelf
set_option linter.unusedVariables false
set_option linter.unusedSimpArgs false

/-- The value of a set of one pixel that a number chooses. -/
def betV (a b : Int) (c : Nat) : Int := a + (c : Int).tmod (b - a + 1)
theorem betV_in {a b : Int} (h : a ≤ b) (c : Nat) : a ≤ betV a b c ∧ betV a b c ≤ b := by
  have h1 := Int.tmod_nonneg (b - a + 1) (Int.natCast_nonneg c)
  have h2 := Int.tmod_lt_of_pos (c : Int) (show 0 < b - a + 1 by omega)
  unfold betV
  omega
def chsN (cs : List Nat) (i : Nat) : Nat := cs[i % cs.length]?.getD 0
def betL (xs ys : List Int) (cs : List Nat) : List Int := (List.range xs.length).map fun i => betV (xs[i]?.getD 0) (ys[i]?.getD 0) (chsN cs i)
theorem betL_length (xs ys : List Int) (cs : List Nat) : (betL xs ys cs).length = xs.length := by simp [betL]
theorem betL_at {xs ys : List Int} {cs : List Nat} {i : Nat} (hi : i < xs.length) : (betL xs ys cs)[i]?.getD 0 = betV (xs[i]?.getD 0) (ys[i]?.getD 0) (chsN cs i) := getD_range_map _ hi

theorem camB_iff {m : ImN} : camB m = true ↔ ((1 ≤ m.w ∧ m.w ≤ 16) ∧ (1 ≤ m.h ∧ m.h ≤ 16) ∧ (m.px.length : Int) = m.w * m.h) ∧ allIn 0 255 m.px = true := by
  constructor
  · intro h
    simp only [camB, Bool.and_eq_true] at h
    obtain ⟨h1, h2, h3, _⟩ := vld_true h.1
    exact ⟨⟨h1, h2, h3⟩, h.2⟩
  · rintro ⟨⟨h1, h2, h3⟩, h4⟩
    simp only [camB, vld, Bool.and_eq_true, inR_true, decide_eq_true_eq]
    refine ⟨⟨⟨⟨h1, h2⟩, h3⟩, ?_⟩, h4⟩
    refine allIn_of fun k hk => ?_
    have := allIn_getD h4 hk
    omega
theorem camB_len {m : ImN} (h : camB m = true) : m.px.length ≤ 256 := by
  obtain ⟨⟨⟨h1, h2⟩, ⟨h3, h4⟩, h5⟩, _⟩ := camB_iff.1 h
  have := Int.mul_le_mul h2 h4 (by omega) (by omega)
  omega
/-- Two images of a valid network, each pixel of one no greater than that of the other. -/
structure SetOk (N : NetN) (m m' : ImN) : Prop where
  net : NetOk N
  w : m.w = N.w
  h : m.h = N.h
  w' : m'.w = N.w
  h' : m'.h = N.h
  c : camB m = true
  c' : camB m' = true
  len : m'.px.length = m.px.length
  small : m.px.length ≤ 256
  le : ∀ i, i < m.px.length → m.px[i]?.getD 0 ≤ m'.px[i]?.getD 0
def setB (N : NetN) (m m' : ImN) : Bool := decide (chkF N [m, m'] = 0) && leB m.px m'.px
theorem setB_ok {N : NetN} {m m' : ImN} (h : setB N m m' = true) : SetOk N m m' := by
  simp only [setB, Bool.and_eq_true, decide_eq_true_eq] at h
  obtain ⟨h1, ⟨h2, h3, h4⟩, h5, h6, h7⟩ := chkF_two h.1
  obtain ⟨⟨_, _, e1⟩, _⟩ := camB_iff.1 h4
  obtain ⟨⟨_, _, e2⟩, _⟩ := camB_iff.1 h7
  exact ⟨h1, h2, h3, h5, h6, h4, h7, by rw [h2, h3] at e1; rw [h5, h6] at e2; omega, camB_len h4, fun i hi => of_decide_eq_true (allTo_at h.2 hi)⟩
theorem chkF_of_two {N : NetN} {m m' : ImN} (h0 : netOk N = true) (h1 : camB m = true) (h2 : camB m' = true) (h3 : m.w = N.w ∧ m.h = N.h) (h4 : m'.w = N.w ∧ m'.h = N.h) : chkF N [m, m'] = 0 := by
  unfold chkF
  have e1 : camsB [m, m'] = true := by simp [camsB, allTo, imAt, h1, h2]
  have e2 : fitsB N [m, m'] = true := by simp [fitsB, allTo, imAt, h3, h4]
  rw [if_pos h0, if_pos e1, if_pos e2]
theorem chkF_of_one {N : NetN} {m : ImN} (h0 : netOk N = true) (h1 : camB m = true) (h3 : m.w = N.w ∧ m.h = N.h) : chkF N [m] = 0 := by
  unfold chkF
  have e1 : camsB [m] = true := by simp [camsB, allTo, imAt, h1]
  have e2 : fitsB N [m] = true := by simp [fitsB, allTo, imAt, h3]
  rw [if_pos h0, if_pos e1, if_pos e2]
theorem setB_net {N : NetN} {m m' : ImN} (h : setB N m m' = true) : netOk N = true := by
  simp only [setB, Bool.and_eq_true, decide_eq_true_eq] at h
  have := h.1
  unfold chkF at this
  cases e : netOk N with
  | true => rfl
  | false => rw [e] at this; simp at this
/-- Pixels within two images. -/
structure MidB (n : Nat) (xs zs ys : List Int) : Prop where
  len : zs.length = n
  bd : ∀ i, i < n → xs[i]?.getD 0 ≤ zs[i]?.getD 0 ∧ zs[i]?.getD 0 ≤ ys[i]?.getD 0
theorem mid_bet {n : Nat} {xs ys : List Int} (hn : xs.length = n) (h : ∀ i, i < n → xs[i]?.getD 0 ≤ ys[i]?.getD 0) (cs : List Nat) : MidB n xs (betL xs ys cs) ys :=
  ⟨by rw [betL_length, hn], fun i hi => by rw [betL_at (by omega)]; exact betV_in (h i hi) _⟩
theorem SetOk.cam {N : NetN} {m m' : ImN} (h : SetOk N m m') {zs : List Int} (hz : MidB m.px.length m.px zs m'.px) : camB ⟨m.w, m.h, zs⟩ = true := by
  have h1 := camB_iff.1 h.c
  have h2 := camB_iff.1 h.c'
  refine camB_iff.2 ⟨⟨h1.1.1, h1.1.2.1, by rw [hz.len]; exact h1.1.2.2⟩, allIn_of fun k hk => ?_⟩
  rw [hz.len] at hk
  have e1 := hz.bd k hk
  have e2 := allIn_getD h1.2 hk
  have e3 := allIn_getD h2.2 (show k < m'.px.length by rw [h.len]; exact hk)
  show 0 ≤ zs[k]?.getD 0 ∧ zs[k]?.getD 0 ≤ 255
  omega

theorem sumTo_le {f g : Nat → Int} : ∀ {n : Nat}, (∀ i, i < n → f i ≤ g i) → sumTo f n ≤ sumTo g n
  | 0, _ => Int.le_refl _
  | n + 1, h => by
    have := sumTo_le (n := n) fun i hi => h i (by omega)
    have := h n (by omega)
    simp only [sumTo]
    omega
theorem feat_le {pw cw ch gx c n : Nat} {f g : Nat → Int} (h : ∀ i, i < n → f i ≤ g i) : featTo pw cw ch gx f c n ≤ featTo pw cw ch gx g c n := by
  unfold featTo
  refine sumTo_le fun i hi => ?_
  have := h i hi
  split <;> omega
theorem featL_mono {N : NetN} {xs ys : List Int} (hl : xs.length = ys.length) (h : ∀ i, i < xs.length → xs[i]?.getD 0 ≤ ys[i]?.getD 0) (c : Nat) : (featL N xs)[c]?.getD 0 ≤ (featL N ys)[c]?.getD 0 := by
  by_cases hc : c < N.nf
  · unfold featL
    rw [featsTo_at _ _ _ _ _ hc, featsTo_at _ _ _ _ _ hc, ← hl]
    exact feat_le h
  · rw [List.getElem?_eq_none (by rw [featL_length]; omega), List.getElem?_eq_none (by rw [featL_length]; omega)]
    exact Int.le_refl _
theorem bndL_length (N : NetN) (xs ys : List Int) : (bndL N xs ys).length = N.nf := by simp [bndL]
theorem bndL_at {N : NetN} {xs ys : List Int} {j : Nat} (hj : j < N.nf) : loAt (bndL N xs ys) j = (featL N xs)[j]?.getD 0 ∧ hiAt (bndL N xs ys) j = (featL N ys)[j]?.getD 0 := by
  unfold loAt hiAt bndL
  rw [List.getElem?_map, List.getElem?_range hj]
  exact ⟨rfl, rfl⟩
theorem bnd_in {N : NetN} {n : Nat} {xs zs ys : List Int} (hx : xs.length = n) (hy : ys.length = n) (h : MidB n xs zs ys) : InB (bndL N xs ys) (featL N zs) where
  len := by rw [bndL_length, featL_length]
  bd := fun j hj => by
    rw [bndL_length] at hj
    rw [(bndL_at hj).1, (bndL_at hj).2]
    exact ⟨featL_mono (by rw [hx, h.len]) (fun i hi => (h.bd i (by omega)).1) j, featL_mono (by rw [hy, h.len]) (fun i hi => (h.bd i (by rw [h.len] at hi; exact hi)).2) j⟩
theorem fwdB_pos {N : NetN} (h : NetOk N) {l : List (Int × Int)} (hl : l.length = N.nf) : 0 < (fwdB N.Ls l).length := by
  rw [fwdB_at, bndAt_len, hl]
  have := width_le h (i := N.Ls.length) (Nat.le_refl _)
  omega

/-! ### What the laws of certificates ask -/

theorem nIn8 {s : Int} (h : 0 ≤ s ∧ s ≤ 8) : nIn 0 8 s = true := nIn_true.2 h
theorem cert_set {N : NetN} {m m' : ImN} {s : Int} (h : setB N m m' = true) (hs : 0 ≤ s ∧ s ≤ 8) : certV N m m' s = ((certN N.Ls N.low N.high s.toNat (bndL N m.px m'.px) : Nat) : Int) ∧ certE N m m' s = 0 := by
  simp only [setB, Bool.and_eq_true, decide_eq_true_eq] at h
  exact cert_good h.1 h.2 (nIn8 hs)
theorem cert_not {N : NetN} {m m' : ImN} {s : Int} (h : ¬ (setB N m m' = true ∧ 0 ≤ s ∧ s ≤ 8)) : certE N m m' s ≠ 0 := by
  by_cases h1 : chkF N [m, m'] = 0
  · by_cases h2 : leB m.px m'.px = true ∧ nIn 0 8 s = true
    · exact absurd ⟨by simp [setB, h1, h2.1], nIn_true.1 h2.2⟩ h
    · unfold certE; rw [if_pos h1, if_neg h2]; decide
  · rw [(cert_bad h1).2]; exact h1
theorem certN_mem {Ls : List LayN} {low high : Int} : ∀ (s : Nat) (l : List (Int × Int)), 1 ≤ certN Ls low high s l ∧ certN Ls low high s l ≤ 3 := by
  have hv : ∀ a b : Int, 1 ≤ verdB low high a b ∧ verdB low high a b ≤ 3 := fun a b => by unfold verdB; split <;> (try split) <;> omega
  intro s
  induction s with
  | zero => intro l; unfold certN judgeB; exact hv _ _
  | succ s ih =>
    intro l
    have h1 := hv (loAt (fwdB Ls l) 0) (hiAt (fwdB Ls l) 0)
    have h2 := ih (leftB l)
    have h3 := ih (rightB l)
    unfold certN
    unfold judgeB
    repeat' split
    all_goals first | exact h1 | exact h2 | exact h3 | omega
theorem hold_law {N : NetN} {m m' : ImN} {zs : List Int} {s : Nat} (h : setB N m m' = true) (hz : MidB m.px.length m.px zs m'.px) (h3 : certN N.Ls N.low N.high s (bndL N m.px m'.px) ≠ 3) :
    verdB N.low N.high (scoreN N.Ls (featL N zs)) (scoreN N.Ls (featL N zs)) = certN N.Ls N.low N.high s (bndL N m.px m'.px) := by
  have hS := setB_ok h
  exact certN_holds hS.net.lt s _ _ (bnd_in rfl hS.len hz) (fwdB_pos hS.net (bndL_length _ _ _)) h3
theorem chk_mid {N : NetN} {m m' : ImN} {zs : List Int} (h : setB N m m' = true) (hz : MidB m.px.length m.px zs m'.px) : chkF N [⟨m.w, m.h, zs⟩] = 0 :=
  chkF_of_one (setB_net h) ((setB_ok h).cam hz) ⟨(setB_ok h).w, (setB_ok h).h⟩

/-! ### More splits, smaller sets, single images -/

/-! ### Features are sums; networks of one layer -/

theorem feat_sum {N : NetN} (h : NetOk N) {xs : List Int} (hx : (xs.length : Int) = N.w * N.h) : sumTo (fun c => (featL N xs)[c]?.getD 0) N.nf = rect (gpx N.w.toNat xs) 0 0 N.w.toNat N.h.toNat := by
  have hc := h.cells
  have hl : xs.length = N.h.toNat * N.w.toNat := by
    have h1 := h.w
    have h2 := h.h
    have : ((N.h.toNat * N.w.toNat : Nat) : Int) = N.h * N.w := by rw [Int.natCast_mul, Int.toNat_of_nonneg (by omega), Int.toNat_of_nonneg (by omega)]
    rw [Int.mul_comm] at hx
    omega
  rw [sumTo_congr' (g := fun c => featTo N.w.toNat (N.w.toNat / N.gx.toNat) (N.h.toNat / N.gy.toNat) N.gx.toNat (fun i => xs[i]?.getD 0) c (N.h.toNat * N.w.toNat)) (fun c hc => by
    unfold featL; rw [featsTo_at _ _ _ _ _ hc, hl]), h.nfN, feat_all hc.w0 hc.h0 hc.ex hc.ey _ _ (Nat.le_refl _), sum_lines, rect_grid]
  unfold gridTo rowTo
  refine sumTo_congr' fun y _ => sumTo_congr' fun x _ => ?_
  unfold gpx px
  rw [show ((y : Int) * (N.w.toNat : Int) + (x : Int)).toNat = y * N.w.toNat + x by
    have : ((y * N.w.toNat + x : Nat) : Int) = (y : Int) * (N.w.toNat : Int) + (x : Int) := by simp
    omega]
theorem score_one {Ls : List LayN} (h1 : Ls.length = 1) (hb : 1 ≤ (layAt Ls 0).bs.length) (l : List Int) : scoreN Ls l = bAt (layAt Ls 0) 0 + sumJ (fun j => wAt (layAt Ls 0) 0 j * l[j]?.getD 0) l.length := by
  obtain ⟨L, rfl⟩ : ∃ L, Ls = [L] := by
    match Ls, h1 with
    | [L], _ => exact ⟨L, rfl⟩
  show (layL L false l)[0]?.getD 0 = _
  unfold layL
  rw [getD_range_map _ (show 0 < L.bs.length from hb)]
  rfl
theorem verd_law (low high s : Int) (h : low < high) : (verdB low high s s = 1 ↔ high ≤ s) ∧ (verdB low high s s = 2 ↔ s ≤ low) ∧ 1 ≤ verdB low high s s ∧ verdB low high s s ≤ 3 := by
  unfold verdB
  split <;> (try split) <;> omega
end Go.Proofs.YtbfigbpjoaccdaaGreat

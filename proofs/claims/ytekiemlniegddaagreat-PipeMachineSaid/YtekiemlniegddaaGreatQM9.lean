/- Contracts and laws (PcE, PcF, PcG, PcH, PcI, PcJ). -/
import Derived.Test.YtekiemlniegddaaGreatQM5
import Derived.Test.YtekiemlniegddaaGreatQM6
set_option linter.unusedVariables false
set_option linter.unusedSimpArgs false
namespace Go.Proofs.YtekiemlniegddaaGreat
open Go Go.RowKit Go.Shelf
theorem px_imgE {pw ph : Nat} {g : Int → Int → Int} {i : Nat} (hi : i < pw * ph) : px (img pw ph g) (i : Int) = pix (g (cX pw i) (cY pw i)) := by
 unfold px img
 rw [Int.toNat_natCast, List.getElem?_map, List.getElem?_range hi]; rfl
theorem img_vld {w h : Int} (hw : 1 ≤ w ∧ w ≤ 16) (hh : 1 ≤ h ∧ h ≤ 16) (g : Int → Int → Int) : vld w h (img w.toNat h.toNat g) = true := by
 unfold vld
 rw [img_length]
 have h1 : ((w.toNat * h.toNat : Nat) : Int) = w * h := by push_cast; rw [Int.toNat_of_nonneg (by omega), Int.toNat_of_nonneg (by omega)]
 have h2 : allIn (-2147483648) 2147483648 (img w.toNat h.toNat g) = true := by
  unfold allIn img
  rw [List.all_eq_true]
  intro x hx
  obtain ⟨i, _, rfl⟩ := List.mem_map.1 hx
  have := clamp_bd (g (cX w.toNat i) (cY w.toNat i))
  simp; omega
 rw [h1, h2]
 simp [inR, hw.1, hw.2, hh.1, hh.2]
/-- A valid image of a size. -/
structure PicOk (w h : Int) (m : PicN) : Prop where
 we : m.w = w
 he : m.h = h
 v : vld w h m.px = true
/-- A valid step on valid images gives a valid image; its values. -/
def stepG (s : StepN) (A B : PicN) (w : Int) (h : Int) : Int → Int → Int :=
 if s.op = 1 then pointG w A.px s.pt else if s.op = 2 then zipG w A.px B.px s.how else if s.op = 3 then convG s.bd w h A.px s.kw.toNat s.kh.toNat s.taps else if s.op = 4 then morG true w h A.px s.sw.toNat s.sh.toNat s.bits else morG false w h A.px s.sw.toNat s.sh.toNat s.bits
theorem appS_ok {s : StepN} {ms : List PicN} {w h : Int} (hn : needB s = true) (hA : PicOk w h (picAt ms s.a.toNat)) (hB : s.op = 2 → PicOk w h (picAt ms s.b.toNat)) :
  appS s ms = { w := w, h := h, px := img w.toNat h.toNat (stepG s (picAt ms s.a.toNat) (picAt ms s.b.toNat) w h), err := 0 } := by
 obtain ⟨a1, a2, a3⟩ := hA
 unfold needB at hn
 unfold appS stepG
 by_cases h1 : s.op = 1
 ·rw [if_pos h1] at hn ⊢
  rw [if_pos h1]
  unfold pointS
  rw [a1, a2, if_pos a3, if_pos hn]
 rw [if_neg h1] at hn ⊢
 rw [if_neg h1]
 by_cases h2 : s.op = 2
 ·obtain ⟨b1, b2, b3⟩ := hB h2
  rw [if_pos h2] at hn ⊢
  rw [if_pos h2]
  unfold zipS
  rw [a1, a2, b1, b2, if_pos a3, if_pos b3, if_pos (by simp), if_pos hn]
 rw [if_neg h2] at hn ⊢
 rw [if_neg h2]
 by_cases h3 : s.op = 3
 ·rw [if_pos h3] at hn ⊢
  rw [if_pos h3]
  rw [Bool.and_eq_true] at hn
  unfold convS
  rw [a1, a2, if_pos a3, if_pos hn.1, if_pos hn.2]
 rw [if_neg h3] at hn ⊢
 rw [if_neg h3]
 by_cases h4 : s.op = 4
 ·rw [if_pos (.inl h4)] at hn
  rw [if_pos h4, if_pos h4]
  unfold morS
  rw [a1, a2, if_pos a3, if_pos hn]
 rw [if_neg h4]
 by_cases h5 : s.op = 5
 ·rw [if_pos (.inr h5)] at hn
  rw [if_pos h5, if_neg h4]
  unfold morS
  rw [a1, a2, if_pos a3, if_pos hn]
 rw [if_neg (by rintro (h | h); exact h4 h; exact h5 h)] at hn
 cases hn
theorem PicOk.img {w h : Int} (hw : 1 ≤ w ∧ w ≤ 16) (hh : 1 ≤ h ∧ h ≤ 16) (g : Int → Int → Int) : PicOk w h ⟨w, h, img w.toNat h.toNat g⟩ := ⟨rfl, rfl, img_vld hw hh g⟩
theorem sideB_nn {n : Int} (h : n = 1 ∨ n = 3 ∨ n = 5) : ((n.toNat : Nat) : Int) = n := Int.toNat_of_nonneg (by omega)
theorem kern_facts {kw kh : Int} {taps : List Int} (h : kernOk kw kh taps = true) : ((kw.toNat : Nat) : Int) = kw ∧ ((kh.toNat : Nat) : Int) = kh ∧ kw.toNat * kh.toNat = taps.length ∧ taps.length ≤ 25 ∧ allIn (-65536) 65536 taps = true := by
 unfold kernOk at h
 rw [Bool.and_eq_true] at h
 obtain ⟨h1, h2, h3⟩ := sidesB_true h.1
 have e1 := sideB_nn h1
 have e2 := sideB_nn h2
 have e3 : ((kw.toNat * kh.toNat : Nat) : Int) = taps.length := by push_cast; rw [e1, e2, h3]
 have e4 : kw.toNat * kh.toNat ≤ 5 * 5 := Nat.mul_le_mul (by omega) (by omega)
 exact ⟨e1, e2, by omega, by omega, h.2⟩
theorem shape_facts {sw sh : Int} {bits : List Bool} (h : shapeOk sw sh bits = true) : ((sw.toNat : Nat) : Int) = sw ∧ ((sh.toNat : Nat) : Int) = sh ∧ sw.toNat * sh.toNat = bits.length ∧ bits.length ≤ 25 ∧ bits.any (fun x => decide (true = x)) = true := by
 unfold shapeOk at h
 rw [Bool.and_eq_true] at h
 obtain ⟨h1, h2, h3⟩ := sidesB_true h.1
 have e1 := sideB_nn h1
 have e2 := sideB_nn h2
 have e3 : ((sw.toNat * sh.toNat : Nat) : Int) = bits.length := by push_cast; rw [e1, e2, h3]
 have e4 : sw.toNat * sh.toNat ≤ 5 * 5 := Nat.mul_le_mul (by omega) (by omega)
 exact ⟨e1, e2, by omega, by omega, h.2⟩
theorem noBit_any (s : StepN) : ∀ k, k ≤ s.bits.length → noBit s k = true → (s.bits.take k).any (fun x => decide (true = x)) = false
 | 0, _, _ => by simp
 | k + 1, hk, h => by
  unfold noBit at h
  rw [Bool.and_eq_true] at h
  rw [List.take_succ_eq_append_getElem (by omega : k < s.bits.length), List.any_append, noBit_any s k (by omega) h.1]
  have : s.bits[k] = false := by
   have h2 := h.2
   unfold bitAt at h2
   rw [List.getElem?_eq_getElem (by omega)] at h2
   simpa using h2
  rw [this]; simp
section
variable {w h : Int} {lanes g j n : Nat}
/-- Behind the head's instructions: the register 0, brought into the range of values, has the image's value. -/
theorem head_run (hw : 1 ≤ w ∧ w ≤ 16) (hh : 1 ≤ h ∧ h ≤ 16) (hn : (n : Int) = w * h) (hj : j < lanes) (hi : g * lanes + j < n) {s : StepN} {A B : PicN} (hs : needB s = true) (hA : PicOk w h A) (hB : s.op = 2 → PicOk w h B) {F : FnL} {M : MacN}
    (mA : AtImg M.mem (numF (F s.a)) A.px n) (mB : s.op = 2 → AtImg M.mem (numF (F s.b)) B.px n) :
    (runM lanes (headC w h lanes g F s) M).mem = M.mem ∧ pix ((runM lanes (headC w h lanes g F s) M).regs 0 j) = px (img w.toNat h.toNat (stepG s A B w h)) ((g * lanes + j : Nat) : Int) := by
  have hwn : ((w.toNat : Nat) : Int) = w := Int.toNat_of_nonneg (by omega)
  have hhn : ((h.toNat : Nat) : Int) = h := Int.toNat_of_nonneg (by omega)
  have hnn : w.toNat * h.toNat = n := by have : ((w.toNat * h.toNat : Nat) : Int) = n := by push_cast; rw [hwn, hhn, hn]
                                         omega
  have hx := (vld_true hA.v).2.2.2
  obtain ⟨i, hie⟩ : ∃ i, g * lanes + j = i := ⟨_, rfl⟩
  have hcx : cX w.toNat i = (i : Int) % w := by unfold cX; rw [← hwn]; push_cast; simp
  have hcy : cY w.toNat i = (i : Int) / w := by unfold cY; rw [← hwn]; push_cast; simp
  have hxy : (i : Int) / w * w + (i : Int) % w = i := by rw [Int.mul_comm]; exact Int.mul_ediv_add_emod _ _
  rw [hie] at hi
  rw [hie, px_imgE (by rw [hnn]; exact hi), hcx, hcy]
  unfold headC stepG
  unfold needB at hs
  by_cases h1 : s.op = 1
  · rw [if_pos h1, if_pos h1]
    rw [runM_cons, runM_cons, runM_nil]
    refine ⟨rfl, ?_⟩
    show pix (pix (pointF s.pt (pix ((stepM lanes (insL w h lanes g 0 (numF (F s.a)) 0 0 0 0) M).regs (0 : Int).toNat j)))) = _
    rw [insL_at hw.1 hh.1 hn hj (by rw [hie]; exact hi) mA rfl, hie, ldV_zero hw.1 hh.1 hn hi, pix_id (px_bd hx _).1 (px_bd hx _).2, pix_pix]
    unfold pointG
    rw [hxy]
  rw [if_neg h1] at hs
  rw [if_neg h1, if_neg h1]
  by_cases h2 : s.op = 2
  · have hy := (vld_true (hB h2).v).2.2.2
    rw [if_pos h2, if_pos h2]
    rw [runM_cons, runM_cons, runM_cons, runM_nil]
    refine ⟨rfl, ?_⟩
    show pix (pix (zipF s.how (pix ((stepM lanes (insL w h lanes g 1 (numF (F s.b)) 0 0 0 0) (stepM lanes (insL w h lanes g 0 (numF (F s.a)) 0 0 0 0) M)).regs (0 : Int).toNat j)) (pix ((stepM lanes (insL w h lanes g 1 (numF (F s.b)) 0 0 0 0) (stepM lanes (insL w h lanes g 0 (numF (F s.a)) 0 0 0 0) M)).regs (1 : Int).toNat j)))) = _
    rw [insL_other (by decide), insL_at hw.1 hh.1 hn hj (by rw [hie]; exact hi) mA rfl, insL_at (M := stepM lanes (insL w h lanes g 0 (numF (F s.a)) 0 0 0 0) M) hw.1 hh.1 hn hj (by rw [hie]; exact hi) (show AtImg (stepM lanes (insL w h lanes g 0 (numF (F s.a)) 0 0 0 0) M).mem _ _ _ from mB h2) rfl, hie, ldV_zero hw.1 hh.1 hn hi, ldV_zero hw.1 hh.1 hn hi, pix_id (px_bd hx _).1 (px_bd hx _).2, pix_id (px_bd hy _).1 (px_bd hy _).2, pix_pix]
    unfold zipG
    rw [hxy]
  rw [if_neg h2] at hs
  rw [if_neg h2, if_neg h2]
  by_cases h3 : s.op = 3
  · rw [if_pos h3] at hs
    rw [if_pos h3, if_pos h3]
    rw [Bool.and_eq_true, decide_eq_true_eq] at hs
    obtain ⟨k1, k2, k3, k4, k5⟩ := kern_facts hs.1
    rw [runM_cons]
    obtain ⟨t1, t2, _, _⟩ := taps_run hw.1 hh.1 hn hj (by rw [hie]; exact hi) (kw := s.kw.toNat) (kh := s.kh.toNat) k1.symm k2.symm hx k5 hs.2 k4 s.taps.length (stepM lanes insC M) (Nat.le_refl _) mA rfl
    refine ⟨t1, ?_⟩
    rw [t2, hie]
    unfold convG
    rw [k3]
  rw [if_neg h3] at hs
  rw [if_neg h3, if_neg h3]
  have hop : (s.op = 4 ∨ s.op = 5) ∧ shapeOk s.sw s.sh s.bits = true := by
    by_cases h45 : s.op = 4 ∨ s.op = 5
    · rw [if_pos h45] at hs; exact ⟨h45, hs⟩
    · rw [if_neg h45] at hs; cases hs
  obtain ⟨k1, k2, k3, k4, k5⟩ := shape_facts hop.2
  have fin : ∀ mx : Bool, (mx = true ∧ s.op = 4 ∨ mx = false ∧ s.op = 5) → (runM lanes (bitsC w h lanes g (numF (F s.a)) s s.bits.length) M).mem = M.mem ∧ pix ((runM lanes (bitsC w h lanes g (numF (F s.a)) s s.bits.length) M).regs 0 j) = pix (morG mx w h A.px s.sw.toNat s.sh.toNat s.bits ((i : Int) % w) ((i : Int) / w)) := fun mx hmx => by
    obtain ⟨t1, t2⟩ := bits_run hw.1 hh.1 hn hj (by rw [hie]; exact hi) (sw := s.sw.toNat) (sh := s.sh.toNat) k1.symm k2.symm hmx hx s.bits.length M mA
    refine ⟨t1, ?_⟩
    rcases t2 with ⟨e, _⟩ | ⟨_, e⟩
    · have := noBit_any s s.bits.length (Nat.le_refl _) e
      rw [List.take_length, k5] at this; cases this
    · rw [e, hie]
      unfold morG
      rw [k3]
  rcases hop.1 with h4 | h5
  · rw [if_pos h4]; exact fin true (.inl ⟨rfl, h4⟩)
  · rw [if_neg (by omega)]; exact fin false (.inr ⟨rfl, h5⟩)
/-- Points that are carried. -/
def ptsN (m : PicN) (l : List PointN) : PicN := l.foldl (fun m p => resN (pointS m.w m.h m.px p)) m
theorem ptsN_snoc (m : PicN) (l : List PointN) (p : PointN) : ptsN m (l ++ [p]) = resN (pointS (ptsN m l).w (ptsN m l).h (ptsN m l).px p) := by unfold ptsN; rw [List.foldl_append]; rfl
theorem point_ok {w h : Int} (hw : 1 ≤ w ∧ w ≤ 16) (hh : 1 ≤ h ∧ h ≤ 16) {m : PicN} (hm : PicOk w h m) {p : PointN} (hp : p.ok = true) : resN (pointS m.w m.h m.px p) = ⟨w, h, img w.toNat h.toNat (pointG w m.px p)⟩ := by
 obtain ⟨a1, a2, a3⟩ := hm
 unfold pointS
 rw [a1, a2, if_pos a3, if_pos hp]; rfl
theorem pts_run (hw : 1 ≤ w ∧ w ≤ 16) (hh : 1 ≤ h ∧ h ≤ 16) (hn : (n : Int) = w * h) {i : Nat} (hi : i < n) : ∀ (l : List PointN) (m : PicN) (M : MacN), (∀ p ∈ l, p.ok = true) → PicOk w h m → pix (M.regs 0 j) = px m.px (i : Int) →
    PicOk w h (ptsN m l) ∧ (runM lanes (l.map insP) M).mem = M.mem ∧ pix ((runM lanes (l.map insP) M).regs 0 j) = px (ptsN m l).px (i : Int)
  | [], m, M, _, hm, he => ⟨hm, rfl, he⟩
  | p :: l, m, M, hp, hm, he => by
    have hwn : ((w.toNat : Nat) : Int) = w := Int.toNat_of_nonneg (by omega)
    have hhn : ((h.toNat : Nat) : Int) = h := Int.toNat_of_nonneg (by omega)
    have hnn : w.toNat * h.toNat = n := by have : ((w.toNat * h.toNat : Nat) : Int) = n := by push_cast; rw [hwn, hhn, hn]
                                           omega
    have e := point_ok hw hh hm (hp p (by simp))
    have hstep : pix ((stepM lanes (insP p) M).regs 0 j) = px (resN (pointS m.w m.h m.px p)).px (i : Int) := by
      show pix (pix (pointF p (pix (M.regs (0 : Int).toNat j)))) = _
      rw [pix_pix]
      show pix (pointF p (pix (M.regs 0 j))) = _
      rw [he, e]
      show _ = px (img w.toNat h.toNat (pointG w m.px p)) (i : Int)
      rw [px_imgE (by rw [hnn]; exact hi)]
      unfold pointG cX cY
      have : ((i / w.toNat : Nat) : Int) * w + ((i % w.toNat : Nat) : Int) = i := by
        rw [← hwn]; push_cast; rw [Int.toNat_natCast]
        have := Nat.div_add_mod i w.toNat
        rw [Nat.mul_comm] at this
        exact_mod_cast this
      rw [this]
    have hm2 : PicOk w h (resN (pointS m.w m.h m.px p)) := by rw [e]; exact PicOk.img hw hh _
    obtain ⟨r1, r2, r3⟩ := pts_run hw hh hn hi l _ (stepM lanes (insP p) M) (fun q hq => hp q (by simp [hq])) hm2 hstep
    exact ⟨r1, r2, r3⟩
theorem cell_same (hw : 1 ≤ w) (hh : 1 ≤ h) (hn : (n : Int) = w * h) {i : Nat} (hi : i < n) : cellN w h ((i : Int) % w + 0) ((i : Int) / w + 0) 0 = i := by
 have h1 := Int.emod_nonneg (i : Int) (show w ≠ 0 by omega)
 have h2 := Int.emod_lt_of_pos (i : Int) (show 0 < w by omega)
 have h3 : 0 ≤ (i : Int) / w := Int.ediv_nonneg (by omega) (by omega)
 have h4 : (i : Int) / w < h := Int.ediv_lt_of_lt_mul (by omega) (by rw [Int.mul_comm]; omega)
 have h5 : (i : Int) / w * w + (i : Int) % w = i := by rw [Int.mul_comm]; exact Int.mul_ediv_add_emod _ _
 rw [Int.add_zero, Int.add_zero]
 unfold cellN cellX
 simp only [show ¬ (0 : Int) = 2 by decide, show ¬ (0 : Int) = 3 by decide, if_false]
 rw [if_pos (by simp only [Bool.and_eq_true, inR_true]; omega)]
 exact h5
theorem adr_same (hw : 1 ≤ w) (hh : 1 ≤ h) (hn : (n : Int) = w * h) (to : Int) (hto : 0 ≤ to) (hj : j < lanes) : adrAt w h lanes g to 0 0 0 j = if g * lanes + j < n then to + ((g * lanes + j : Nat) : Int) else -1 := by
 unfold adrAt
 by_cases hi : g * lanes + j < n
 ·rw [if_pos (by rw [← hn]; exact Int.ofNat_lt.2 hi), cell_same hw hh hn hi, if_pos (by omega), if_pos hi]
 ·rw [if_neg (by rw [← hn]; omega), if_neg hi]
/-- What a store leaves. -/
theorem sto_at {ad v : Nat → Int} {mem : Nat → Int} {to : Int} (hto : 0 ≤ to) (b : Nat) (had : ∀ j, j < lanes → ad j = if b + j < n then to + ((b + j : Nat) : Int) else -1) :
  ∀ k, k ≤ lanes → ∀ x : Nat, stoM ad v mem k x = if to + b ≤ (x : Int) ∧ (x : Int) < to + b + k ∧ (x : Int) < to + n then v ((x : Int) - to - b).toNat else mem x
 | 0, _, x => by rw [stoM, if_neg (by omega)]
 | k + 1, hk, x => by
  have ih := sto_at (v := v) (mem := mem) hto b had k (by omega) x
  simp only [stoM]
  rw [had k (by omega), ih]
  by_cases hb : b + k < n
  ·rw [if_pos hb]
   by_cases e : (x : Int) = to + ((b + k : Nat) : Int)
   ·rw [if_pos ⟨by omega, e⟩, if_pos (by omega)]
    congr 1
    omega
   ·rw [if_neg (fun h => e h.2)]
    by_cases e2 : to + b ≤ (x : Int) ∧ (x : Int) < to + b + k ∧ (x : Int) < to + n
    ·rw [if_pos e2, if_pos (by omega)]
    ·rw [if_neg e2, if_neg (by omega)]
  ·rw [if_neg hb, if_neg (by omega)]
   by_cases e2 : to + b ≤ (x : Int) ∧ (x : Int) < to + b + k ∧ (x : Int) < to + n
   ·rw [if_pos e2, if_pos (by omega)]
   ·rw [if_neg e2, if_neg (by omega)]
theorem step_mem {x : InsN} (hx : x.op ≠ 2) (M : MacN) : (stepM lanes x M).mem = M.mem := by
 unfold stepM
 by_cases h1 : x.op = 1
 ·rw [if_pos h1]; rfl
 rw [if_neg h1, if_neg hx]
 by_cases h3 : x.op = 3
 ·rw [if_pos h3]; rfl
 rw [if_neg h3]
 by_cases h4 : x.op = 4
 ·rw [if_pos h4]; rfl
 rw [if_neg h4]
 by_cases h5 : x.op = 5
 ·rw [if_pos h5]; rfl
 rw [if_neg h5]
 by_cases h6 : x.op = 6
 ·rw [if_pos h6]; rfl
 rw [if_neg h6]
theorem opL (d p dx dy v b : Int) : (insL w h lanes g d p dx dy v b).op ≠ 2 := show (1 : Int) ≠ 2 by decide
theorem opZ (how : Int) : (insZ how).op ≠ 2 := show (5 : Int) ≠ 2 by decide
theorem opP (p : PointN) : (insP p).op ≠ 2 := show (4 : Int) ≠ 2 by decide
theorem opA (v : Int) : (insA v).op ≠ 2 := show (6 : Int) ≠ 2 by decide
theorem opC : insC.op ≠ 2 := show (3 : Int) ≠ 2 by decide
theorem run_mem : ∀ (l : List InsN), (∀ x ∈ l, x.op ≠ 2) → ∀ M : MacN, (runM lanes l M).mem = M.mem
 | [], _, M => rfl
 | x :: l, hl, M => by rw [runM_cons, run_mem l (fun y hy => hl y (by simp [hy])), step_mem (hl x (by simp))]
theorem taps_ops (p : Int) (s : StepN) : ∀ k, ∀ x ∈ tapsC w h lanes g p s k, x.op ≠ 2
 | 0, x, hx => by cases hx
 | k + 1, x, hx => by
  rw [tapsC] at hx
  rcases List.mem_append.1 hx with hx | hx
  ·exact taps_ops p s k x hx
  ·split at hx
   ·cases hx
   ·simp only [List.mem_cons, List.not_mem_nil, or_false] at hx
    rcases hx with rfl | rfl
    ·exact opL _ _ _ _ _ _
    ·exact opA _
theorem bits_ops (p : Int) (s : StepN) : ∀ k, ∀ x ∈ bitsC w h lanes g p s k, x.op ≠ 2
 | 0, x, hx => by cases hx
 | k + 1, x, hx => by
  rw [bitsC] at hx
  rcases List.mem_append.1 hx with hx | hx
  ·exact bits_ops p s k x hx
  ·split at hx
   ·cases hx
   split at hx
   ·simp only [List.mem_cons, List.not_mem_nil, or_false] at hx
    subst hx; exact opL _ _ _ _ _ _
   ·simp only [List.mem_cons, List.not_mem_nil, or_false] at hx
    rcases hx with rfl | rfl
    ·exact opL _ _ _ _ _ _
    ·exact opZ _
theorem head_ops (F : FnL) (s : StepN) : ∀ x ∈ headC w h lanes g F s, x.op ≠ 2 := by
 intro x hx
 unfold headC at hx
 split at hx
 ·simp only [List.mem_cons, List.not_mem_nil, or_false] at hx; rcases hx with rfl | rfl; exact opL _ _ _ _ _ _; exact opP _
 split at hx
 ·simp only [List.mem_cons, List.not_mem_nil, or_false] at hx; rcases hx with rfl | rfl | rfl; exact opL _ _ _ _ _ _; exact opL _ _ _ _ _ _; exact opZ _
 split at hx
 ·rcases List.mem_cons.1 hx with rfl | hx
  ·exact opC
  ·exact taps_ops _ _ _ x hx
 ·exact bits_ops _ _ _ x hx
/-- A round's groups. -/
theorem round_run (hw : 1 ≤ w ∧ w ≤ 16) (hh : 1 ≤ h ∧ h ≤ 16) (hn : (n : Int) = w * h) (hl : 1 ≤ lanes) {r : RndN} {A B : PicN} (hs : needB r.head = true) (hps : ∀ p ∈ r.pts, p.ok = true) (hA : PicOk w h A) (hB : r.head.op = 2 → PicOk w h B) {F : FnL} {to : Int} (hto : 0 ≤ to)
  (dA : numF (F r.head.a) + n ≤ to ∨ to + n ≤ numF (F r.head.a)) (dB : r.head.op = 2 → numF (F r.head.b) + n ≤ to ∨ to + n ≤ numF (F r.head.b)) {M : MacN}
  (mA : AtImg M.mem (numF (F r.head.a)) A.px n) (mB : r.head.op = 2 → AtImg M.mem (numF (F r.head.b)) B.px n) {im : PicN} (him : im = ptsN ⟨w, h, img w.toNat h.toNat (stepG r.head A B w h)⟩ r.pts) :
  ∀ k, (∀ x : Nat, (runM lanes (roundC w h lanes F r to k) M).mem x = if to ≤ (x : Int) ∧ (x : Int) < to + n ∧ (x : Int) < to + (k * lanes : Nat) then px im.px ((x : Int) - to) else M.mem x)
 | 0 => fun x => by rw [roundC, runM_nil, if_neg (by omega)]
 | k + 1 => fun x => by
  have ih := round_run hw hh hn hl hs hps hA hB hto dA dB mA mB him k
  obtain ⟨M1, hM1⟩ : ∃ M1, runM lanes (roundC w h lanes F r to k) M = M1 := ⟨_, rfl⟩
  rw [hM1] at ih
  rw [roundC, runM_app, hM1, groupC, runM_app, runM_app]
  have keep : ∀ {p : Int} {xs : List Int}, (p + n ≤ to ∨ to + n ≤ p) → AtImg M.mem p xs n → AtImg M1.mem p xs n := fun hd ha => ⟨ha.nn, fun i hi => by rw [ih, if_neg (by have := ha.nn; omega)]; exact ha.val i hi⟩
  have mA1 := keep dA mA
  have mB1 := fun h2 => keep (dB h2) (mB h2)
  have hstart : PicOk w h ⟨w, h, img w.toNat h.toNat (stepG r.head A B w h)⟩ := PicOk.img hw hh _
  obtain ⟨M2, hM2⟩ : ∃ M2, runM lanes (headC w h lanes k F r.head) M1 = M2 := ⟨_, rfl⟩
  obtain ⟨M3, hM3⟩ : ∃ M3, runM lanes (r.pts.map insP) M2 = M3 := ⟨_, rfl⟩
  rw [hM2, hM3, runM_cons, runM_nil]
  have lane : ∀ j, j < lanes → k * lanes + j < n → M3.mem = M1.mem ∧ pix (M3.regs 0 j) = px im.px ((k * lanes + j : Nat) : Int) := fun j hj hi => by
   obtain ⟨a1, a2⟩ := head_run hw hh hn hj hi hs hA hB mA1 mB1
   rw [hM2] at a1 a2
   obtain ⟨_, b2, b3⟩ := pts_run (lanes := lanes) hw hh hn hi r.pts _ M2 hps hstart a2
   rw [hM3] at b2 b3
   exact ⟨b2.trans a1, by rw [b3, him]⟩
  have hmem : (stepM lanes (insS w h lanes k to) M3).mem = stoM (adOf (insS w h lanes k to)) (fun j => pix (M3.regs 0 j)) M3.mem lanes := rfl
  rw [hmem, sto_at (n := n) (lanes := lanes) hto (k * lanes) (fun j hj => by
   show (adrN w h lanes k to 0 0 0)[j]?.getD 0 = _
   rw [adrN_at w h k to 0 0 0 hj, adr_same hw.1 hh.1 hn to hto hj]) lanes (Nat.le_refl _) x]
  have hmem3 : M3.mem = M1.mem := by
   rw [← hM3, ← hM2, run_mem _ (fun x hx => by obtain ⟨p, _, rfl⟩ := List.mem_map.1 hx; exact opP p), run_mem _ (head_ops F r.head)]
  have hk1 : (((k + 1) * lanes : Nat) : Int) = (k * lanes : Nat) + lanes := by push_cast; rw [Int.add_mul]; omega
  by_cases e : to + ((k * lanes : Nat) : Int) ≤ (x : Int) ∧ (x : Int) < to + ((k * lanes : Nat) : Int) + lanes ∧ (x : Int) < to + n
  ·rw [if_pos e, if_pos (by omega)]
   obtain ⟨j, hj⟩ : ∃ j : Nat, (x : Int) = to + ((k * lanes : Nat) : Int) + j := ⟨((x : Int) - to - ((k * lanes : Nat) : Int)).toNat, by omega⟩
   rw [show ((x : Int) - to - ((k * lanes : Nat) : Int)).toNat = j by omega]
   have := (lane j (by omega) (by omega)).2
   rw [this]
   congr 1
   omega
  ·rw [if_neg e, hmem3, ih]
   by_cases e2 : to ≤ (x : Int) ∧ (x : Int) < to + n ∧ (x : Int) < to + (k * lanes : Nat)
   ·rw [if_pos e2, if_pos (by omega)]
   ·rw [if_neg e2, if_neg (by omega)]
end
end Go.Proofs.YtekiemlniegddaaGreat
namespace Go.Proofs.YtekiemlniegddaaGreat
open Go Go.RowKit Go.Shelf
/-- Images have places, each one of its own; all other places are free. -/
structure AllocOk (mx n K : Nat) (F : FnL) (fs : List Nat) : Prop where
 at_ : ∀ m x, F m = some x → ∃ t : Nat, t < mx ∧ x = ilit ((t : Int) * n) ∧ t ∉ fs ∧ ∃ k : Nat, k < K ∧ m = (k : Int)
 inj : ∀ m m' x, F m = some x → F m' = some x → m = m'
 nd : fs.Nodup
 lt : ∀ t ∈ fs, t < mx
 cnt : cntF F K + fs.length = mx
def freeL (n : Nat) (fs : List Nat) : List Int := fs.map fun (t : Nat) => (t : Int) * (n : Int)
theorem mul_inj_n {n a b : Nat} (hn : 0 < n) (h : (a : Int) * n = (b : Int) * n) : a = b := by
 have h2 : a * n = b * n := by exact_mod_cast h
 exact Nat.eq_of_mul_eq_mul_right hn h2
section
variable {mx n K : Nat} {F : FnL} {fs : List Nat}
theorem AllocOk.del (h : AllocOk mx n K F fs) (hn : 0 < n) {m : Nat} (hm : m < K) {t : Nat} (hF : F (m : Int) = some (ilit ((t : Int) * n))) : AllocOk mx n K (delF F (m : Int)) (fs ++ [t]) := by
 obtain ⟨t', h1, h2, h3, _⟩ := h.at_ _ _ hF
 obtain rfl : t = t' := mul_inj_n hn (by injection h2)
 refine ⟨fun k x hx => ?_, fun k k' x hx hx' => ?_, ?_, ?_, ?_⟩
 ·by_cases e : k = (m : Int)
  ·subst e; rw [delF_same] at hx; cases hx
  ·rw [delF_ne _ e] at hx
   obtain ⟨t2, g1, g2, g3, g4⟩ := h.at_ _ _ hx
   refine ⟨t2, g1, g2, ?_, g4⟩
   intro hmem
   rcases List.mem_append.1 hmem with hmem | hmem
   ·exact g3 hmem
   ·rw [List.mem_singleton.1 hmem] at g2
    rw [g2] at hx
    exact e (h.inj _ _ _ hx hF)
 ·by_cases e : k = (m : Int)
  ·subst e; rw [delF_same] at hx; cases hx
  ·by_cases e' : k' = (m : Int)
   ·subst e'; rw [delF_same] at hx'; cases hx'
   ·rw [delF_ne _ e] at hx; rw [delF_ne _ e'] at hx'; exact h.inj _ _ _ hx hx'
 ·rw [List.nodup_append]
  refine ⟨h.nd, by simp, fun a ha b hb => ?_⟩
  rw [List.mem_singleton.1 hb]
  exact fun e => h3 (e ▸ ha)
 ·intro a ha
  rcases List.mem_append.1 ha with ha | ha
  ·exact h.lt a ha
  ·rw [List.mem_singleton.1 ha]; exact h1
 ·have := cntF_del F hm
  rw [hF] at this
  rw [List.length_append, List.length_singleton]
  have := h.cnt
  simp at *
  omega
theorem AllocOk.put {t : Nat} (h : AllocOk mx n K F (fs ++ [t])) (hn : 0 < n) {m : Nat} (hm : m < K) (hF : F (m : Int) = none) : AllocOk mx n K (putF F (m : Int) (ilit ((t : Int) * n))) fs := by
 have hnd := h.nd
 rw [List.nodup_append] at hnd
 refine ⟨fun k x hx => ?_, fun k k' x hx hx' => ?_, hnd.1, fun a ha => h.lt a (by simp [ha]), ?_⟩
 ·by_cases e : k = (m : Int)
  ·subst e; rw [putF_same] at hx; cases hx
   exact ⟨t, h.lt t (by simp), rfl, fun ht => hnd.2.2 t ht t (by simp) rfl, m, hm, rfl⟩
  ·rw [putF_ne _ _ e] at hx
   obtain ⟨t2, g1, g2, g3, g4⟩ := h.at_ _ _ hx
   exact ⟨t2, g1, g2, fun ht => g3 (by simp [ht]), g4⟩
 ·have old : ∀ j, j ≠ (m : Int) → F j = some (ilit ((t : Int) * n)) → False := fun j _ hj => by
   obtain ⟨t2, g1, g2, g3, g4⟩ := h.at_ _ _ hj
   obtain rfl : t = t2 := mul_inj_n hn (by injection g2)
   exact g3 (by simp)
  by_cases e : k = (m : Int)
  ·subst e
   rw [putF_same] at hx
   by_cases e' : k' = (m : Int)
   ·exact e'.symm
   ·rw [putF_ne _ _ e'] at hx'
    exact absurd (hx' ▸ hx.symm ▸ rfl : F k' = some (ilit ((t : Int) * n))) (fun hh => old k' e' hh)
  ·by_cases e' : k' = (m : Int)
   ·subst e'
    rw [putF_same] at hx'
    rw [putF_ne _ _ e] at hx
    exact absurd (hx ▸ hx'.symm ▸ rfl : F k = some (ilit ((t : Int) * n))) (fun hh => old k e hh)
   ·rw [putF_ne _ _ e] at hx; rw [putF_ne _ _ e'] at hx'; exact h.inj _ _ _ hx hx'
 ·rw [cntF_put F _ hm, hF]
  have := h.cnt
  rw [List.length_append, List.length_singleton] at this
  simp
  omega
theorem cntF_lt {A B : FnL} : ∀ {K : Nat}, (∀ j : Nat, j < K → (A (j : Int)).isSome = true → (B (j : Int)).isSome = true) → (∃ j : Nat, j < K ∧ A (j : Int) = none ∧ (B (j : Int)).isSome = true) → cntF A K + 1 ≤ cntF B K
 | 0, _, ⟨j, hj, _⟩ => by omega
 | K + 1, h, ⟨j, hj, h1, h2⟩ => by
  have mono : ∀ {K : Nat}, (∀ j : Nat, j < K → (A (j : Int)).isSome = true → (B (j : Int)).isSome = true) → cntF A K ≤ cntF B K := by
   intro K
   induction K with
   | zero => intro _; exact Nat.le_refl _
   | succ K ih =>
    intro h
    have := ih (fun j hj => h j (by omega))
    rw [cntF, cntF]
    by_cases e : (A (K : Int)).isSome = true
    ·rw [if_pos e, if_pos (h K (by omega) e)]; omega
    ·rw [if_neg e]; omega
  rw [cntF, cntF]
  by_cases e : j = K
  ·subst e
   have := mono (K := j) (fun i hi => h i (by omega))
   rw [h1, if_pos h2]
   simp
   omega
  ·have := cntF_lt (K := K) (fun i hi => h i (by omega)) ⟨j, by omega, h1, h2⟩
   by_cases e1 : (A (K : Int)).isSome = true
   ·rw [if_pos e1, if_pos (h K (by omega) e1)]; omega
   ·rw [if_neg e1]; omega
/-- Places that are not in use are free again. -/
theorem sweep_ok (hn : 0 < n) {live : FnL} {C : CmN} {fs : List Nat} (hC : AllocOk mx n K C.at_ fs) (hf : C.free = freeL n fs) : ∀ k, k ≤ K →
  ∃ fs', AllocOk mx n K (sweepN live C k).at_ fs' ∧ (sweepN live C k).free = freeL n fs' ∧ (sweepN live C k).code = C.code ∧ ∀ m : Int, (sweepN live C k).at_ m = if 0 ≤ m ∧ m < k ∧ truF (live m) = false then none else C.at_ m
 | 0, _ => ⟨fs, hC, hf, rfl, fun m => by rw [sweepN, if_neg (by omega)]⟩
 | k + 1, hk => by
  obtain ⟨fs1, a1, a2, a3, a4⟩ := sweep_ok hn hC hf k (by omega) (live := live)
  obtain ⟨S, hS⟩ : ∃ S, sweepN live C k = S := ⟨_, rfl⟩
  rw [sweepN]
  rw [hS] at a1 a2 a3 a4 ⊢
  have hk4 := a4 (k : Int)
  rw [if_neg (by omega)] at hk4
  by_cases hc : (S.at_ (k : Int)).isSome = true ∧ truF (live (k : Int)) = false
  ·rw [if_pos hc]
   obtain ⟨x, hx⟩ := Option.isSome_iff_exists.1 hc.1
   obtain ⟨t, g1, g2, g3, _⟩ := a1.at_ _ _ hx
   subst g2
   refine ⟨fs1 ++ [t], a1.del hn (by omega) hx, ?_, a3, fun m => ?_⟩
   ·simp only [a2, hx]; unfold freeL; rw [List.map_append]; rfl
   ·simp only
    by_cases e : m = (k : Int)
    ·subst e; rw [delF_same, if_pos ⟨by omega, by omega, hc.2⟩]
    ·rw [delF_ne _ e, a4 m]
     by_cases e2 : 0 ≤ m ∧ m < k ∧ truF (live m) = false
     ·rw [if_pos e2, if_pos ⟨e2.1, by omega, e2.2.2⟩]
     ·rw [if_neg e2, if_neg (fun e3 => e2 ⟨e3.1, by omega, e3.2.2⟩)]
  ·rw [if_neg hc]
   refine ⟨fs1, a1, a2, a3, fun m => ?_⟩
   rw [a4 m]
   by_cases e : m = (k : Int)
   ·subst e
    rw [if_neg (by omega)]
    by_cases e2 : truF (live (k : Int)) = false
    ·rw [if_pos ⟨by omega, by omega, e2⟩]
     have : ¬ (S.at_ (k : Int)).isSome = true := fun h => hc ⟨h, e2⟩
     rw [hk4] at this
     cases hh : C.at_ (k : Int) with
     | none => rfl
     | some x => rw [hh] at this; simp at this
    ·rw [if_neg (fun h => e2 h.2.2)]
   ·by_cases e2 : 0 ≤ m ∧ m < k ∧ truF (live m) = false
    ·rw [if_pos e2, if_pos ⟨e2.1, by omega, e2.2.2⟩]
    ·rw [if_neg e2, if_neg (fun e3 => e2 ⟨e3.1, by omega, e3.2.2⟩)]
/-- A free place is given. -/
theorem place_ok (hn : 0 < n) {C : CmN} {fs : List Nat} (hC : AllocOk mx n K C.at_ fs) (hf : C.free = freeL n fs) (h0 : fs ≠ []) {m : Nat} (hm : m < K) (hF : C.at_ (m : Int) = none) :
  ∃ (fs' : List Nat) (t : Nat), t < mx ∧ lastN C = (t : Int) * n ∧ AllocOk mx n K (placeN C (m : Int)).at_ fs' ∧ (placeN C (m : Int)).free = freeL n fs' ∧ (placeN C (m : Int)).at_ = putF C.at_ (m : Int) (ilit ((t : Int) * n)) ∧ ∀ k x, C.at_ k = some x → x ≠ ilit ((t : Int) * n) := by
 obtain ⟨fs', t, rfl⟩ : ∃ fs' t, fs = fs' ++ [t] := ⟨fs.dropLast, fs.getLast h0, (List.dropLast_concat_getLast h0).symm⟩
 have hl : lastN C = (t : Int) * n := by
  unfold lastN
  rw [hf]; unfold freeL
  simp
 refine ⟨fs', t, hC.lt t (by simp), hl, ?_, ?_, ?_, fun k x hx e => ?_⟩
 ·unfold placeN; rw [hl]; exact hC.put hn hm hF
 ·unfold placeN
  simp only [hf]
  unfold freeL
  rw [List.map_append]
  simp
 ·unfold placeN; rw [hl]
 ·subst e
  obtain ⟨t2, g1, g2, g3, _⟩ := hC.at_ _ _ hx
  obtain rfl : t = t2 := mul_inj_n hn (by injection g2)
  exact g3 (by simp)
theorem freeN_is (n : Nat) : ∀ k, freeN (n : Int) k = freeL n (List.range k).reverse
 | 0 => rfl
 | k + 1 => by rw [freeN, freeN_is n k, List.range_succ, List.reverse_append]; rfl
theorem alloc_zero (mx n K : Nat) : AllocOk mx n K (fun _ => none) (List.range mx).reverse := by
 refine ⟨fun m x h => (by cases h), fun m m' x h => (by cases h), ?_, fun t ht => ?_, ?_⟩
 ·unfold List.Nodup; rw [List.pairwise_reverse]; exact List.Pairwise.imp (fun h => h.symm) List.nodup_range
 ·rw [List.mem_reverse] at ht; exact List.mem_range.1 ht
 ·have : ∀ K, cntF (fun _ => none) K = 0 := fun K => by
   induction K with
   | zero => rfl
   | succ K ih => rw [cntF, ih]; rfl
  rw [this]; simp
end
end Go.Proofs.YtekiemlniegddaaGreat
namespace Go.Proofs.YtekiemlniegddaaGreat
open Go Go.RowKit Go.Shelf
theorem stepsB_all {inp : Int} {ss : List StepN} : ∀ {m k : Nat}, stepsB inp ss m = true → k < m → needB (stAt ss k) = true ∧ refB inp k (stAt ss k) = true
 | m + 1, k, h, hk => by
  rw [stepsB, Bool.and_eq_true] at h
  by_cases e : k = m
  ·subst e; rw [Bool.and_eq_true] at h; exact h.2
  ·exact stepsB_all h.1 (by omega)
theorem refOk_of {P : PipeN} (hP : pipeB P = true) : RefOk P.inp P.ss := fun i hi m hm => by
 obtain ⟨_, _, _, _, hall⟩ := pipeB_true hP
 obtain ⟨h1, h2⟩ := refB_true (stepsB_all hall hi).2
 rcases opsN_cases (stAt P.ss i) with ⟨e, _⟩ | ⟨e, hop, _⟩
 ·rw [e, List.mem_singleton] at hm; subst hm; omega
 ·rw [e] at hm
  simp only [List.mem_cons, List.not_mem_nil, or_false] at hm
  have := h2 hop
  rcases hm with rfl | rfl <;> omega
theorem afterN_app (ss : List StepN) (ms : List PicN) {k : Nat} : ∀ {j i : Nat}, k ≤ j → i < ms.length + k → picAt (afterN ss ms j) i = picAt (afterN ss ms k) i
  | 0, i, hk, hi => by obtain rfl : k = 0 := by omega
                       rfl
  | j + 1, i, hk, hi => by
    by_cases e : k = j + 1
    · subst e; rfl
    · rw [afterN, picAt_snoc, if_pos (by rw [afterN_length]; omega)]
      exact afterN_app ss ms (by omega) hi
/-- The image of a number. -/
def imN (P : PipeN) (ms : List PicN) (m : Int) : PicN := picAt (afterN P.ss ms P.ss.length) m.toNat
section
variable {P : PipeN} {ms : List PicN}
theorem imN_in (hi : ms.length = P.inp.toNat) {m : Nat} (hm : m < P.inp.toNat) : imN P ms (m : Int) = picAt ms m := by
 unfold imN
 rw [Int.toNat_natCast, afterN_app P.ss ms (k := 0) (Nat.zero_le _) (by omega)]; rfl
theorem imN_step (hP : pipeB P = true) (hi : ms.length = P.inp.toNat) {k : Nat} (hk : k < P.ss.length) : imN P ms (P.inp + k) = resN (appS (stAt P.ss k) (afterN P.ss ms k)) := by
 obtain ⟨_, _, h3, _, _⟩ := pipeB_true hP
 unfold imN
 rw [show (P.inp + (k : Int)).toNat = ms.length + k by omega, afterN_app P.ss ms (k := k + 1) (by omega) (by omega), afterN, picAt_snoc, if_neg (by rw [afterN_length]; omega), if_pos (by rw [afterN_length])]
theorem imN_op (hP : pipeB P = true) (hi : ms.length = P.inp.toNat) {k : Nat} (hk : k < P.ss.length) {m : Int} (h0 : 0 ≤ m) (hm : m < P.inp + k) : picAt (afterN P.ss ms k) m.toNat = imN P ms m := by
 obtain ⟨_, _, h3, _, _⟩ := pipeB_true hP
 unfold imN
 exact (afterN_app P.ss ms (k := k) (j := P.ss.length) (by omega) (by omega)).symm
theorem given_at {ms : List PicN} {n w h : Int} (hg : givenB ms n w h = true) {i : Nat} (hi : i < ms.length) : PicOk w h (picAt ms i) := by
 unfold givenB at hg
 rw [Bool.and_eq_true, List.all_eq_true] at hg
 have := hg.2 (ms[i]) (List.getElem_mem hi)
 simp only [Bool.and_eq_true, decide_eq_true_eq] at this
 unfold picAt
 rw [List.getElem?_eq_getElem hi]
 simp only [Option.getD_some]
 exact ⟨this.2.1, this.2.2, by rw [← this.2.1, ← this.2.2]; exact this.1⟩
/-- All images are valid; what a step makes. -/
theorem imN_all (hP : pipeB P = true) (hg : givenB ms P.inp P.w P.h = true) : ∀ k, k ≤ P.ss.length → ∀ m : Int, 0 ≤ m → m < P.inp + k → PicOk P.w P.h (imN P ms m)
 | 0, _, m, h0, hm => by
  obtain ⟨_, _, h3, _, _⟩ := pipeB_true hP
  have hl := givenB_len hg
  obtain ⟨t, rfl⟩ : ∃ t : Nat, m = (t : Int) := ⟨m.toNat, by omega⟩
  rw [imN_in (by omega) (by omega)]
  exact given_at hg (by omega)
 | k + 1, hk, m, h0, hm => by
  by_cases e : m < P.inp + k
  ·exact imN_all hP hg k (by omega) m h0 e
  ·obtain ⟨⟨w1, w2⟩, ⟨h1, h2⟩, h3, _, hall⟩ := pipeB_true hP
   have hl := givenB_len hg
   obtain rfl : m = P.inp + k := by omega
   obtain ⟨n1, n2⟩ := stepsB_all hall (show k < P.ss.length by omega)
   obtain ⟨r1, r2⟩ := refB_true n2
   rw [imN_step hP (by omega) (by omega)]
   have hA : PicOk P.w P.h (picAt (afterN P.ss ms k) (stAt P.ss k).a.toNat) := by rw [imN_op hP (by omega) (by omega) r1.1 (by omega)]; exact imN_all hP hg k (by omega) _ r1.1 (by omega)
   have hB : (stAt P.ss k).op = 2 → PicOk P.w P.h (picAt (afterN P.ss ms k) (stAt P.ss k).b.toNat) := fun h => by
    have := r2 h
    rw [imN_op hP (by omega) (by omega) this.1 (by omega)]; exact imN_all hP hg k (by omega) _ this.1 (by omega)
   rw [appS_ok n1 hA hB]
   exact PicOk.img ⟨w1, w2⟩ ⟨h1, h2⟩ _
theorem imN_val (hP : pipeB P = true) (hg : givenB ms P.inp P.w P.h = true) {k : Nat} (hk : k < P.ss.length) :
  imN P ms (P.inp + k) = ⟨P.w, P.h, img P.w.toNat P.h.toNat (stepG (stAt P.ss k) (imN P ms (stAt P.ss k).a) (imN P ms (stAt P.ss k).b) P.w P.h)⟩ := by
 obtain ⟨⟨w1, w2⟩, ⟨h1, h2⟩, h3, _, hall⟩ := pipeB_true hP
 have hl := givenB_len hg
 obtain ⟨n1, n2⟩ := stepsB_all hall hk
 obtain ⟨r1, r2⟩ := refB_true n2
 rw [imN_step hP (by omega) hk]
 have eA := imN_op (P := P) (ms := ms) hP (by omega) hk r1.1 (show (stAt P.ss k).a < P.inp + k by omega)
 have hA : PicOk P.w P.h (picAt (afterN P.ss ms k) (stAt P.ss k).a.toNat) := by rw [eA]; exact imN_all hP hg k (by omega) _ r1.1 (by omega)
 by_cases h2 : (stAt P.ss k).op = 2
 ·have b := r2 h2
  have eB := imN_op (P := P) (ms := ms) hP (by omega) hk b.1 (show (stAt P.ss k).b < P.inp + k by omega)
  have hB : PicOk P.w P.h (picAt (afterN P.ss ms k) (stAt P.ss k).b.toNat) := by rw [eB]; exact imN_all hP hg k (by omega) _ b.1 (by omega)
  rw [appS_ok n1 hA (fun _ => hB), eA, eB]; rfl
 ·rw [appS_ok n1 hA (fun h => absurd h h2), eA]
  have : stepG (stAt P.ss k) (imN P ms (stAt P.ss k).a) (picAt (afterN P.ss ms k) (stAt P.ss k).b.toNat) P.w P.h = stepG (stAt P.ss k) (imN P ms (stAt P.ss k).a) (imN P ms (stAt P.ss k).b) P.w P.h := by
   unfold stepG; rw [if_neg h2, if_neg h2]
  rw [this]; rfl
/-- The image that a round leaves is its head's, with the points that are carried. -/
theorem rds_chain (hP : pipeB P = true) (hg : givenB ms P.inp P.w P.h = true) : ∀ k, k ≤ P.ss.length → ∀ q, q < (rdsS P.inp (useF P.ss P.ss.length) P.ss k).out.length →
  imN P ms (rnAt (rdsS P.inp (useF P.ss P.ss.length) P.ss k).out q).res = ptsN (imN P ms (P.inp + (rnAt (rdsS P.inp (useF P.ss P.ss.length) P.ss k).out q).at_)) (rnAt (rdsS P.inp (useF P.ss P.ss.length) P.ss k).out q).pts ∧ ∀ p ∈ (rnAt (rdsS P.inp (useF P.ss P.ss.length) P.ss k).out q).pts, p.ok = true
 | 0, _, q, hq => absurd hq (Nat.not_lt_zero _)
 | k + 1, hk, q, hq => by
  have hr := refOk_of hP
  have ih := rds_chain hP hg k (by omega)
  have ok1 := rds_ok hr k (by omega)
  rw [rdsS] at hq ⊢
  cases hc : carB P.inp (useF P.ss P.ss.length) (stAt P.ss k) with
  | false =>
   rw [hc] at hq
   rw [if_neg (by simp)] at hq ⊢
   obtain ⟨R, hR⟩ : ∃ R, rdsS P.inp (useF P.ss P.ss.length) P.ss k = R := ⟨_, rfl⟩
   rw [hR] at ih ok1 hq ⊢
   simp only [List.length_append, List.length_singleton] at hq ⊢
   rw [rnAt_app (by omega)]
   by_cases e : q = R.out.length
   ·rw [if_pos e]; exact ⟨rfl, fun p hp => by cases hp⟩
   ·rw [if_neg e]; exact ih q (by omega)
  | true =>
   rw [hc] at hq
   rw [if_pos rfl] at hq ⊢
   obtain ⟨t, ht, hof, hres⟩ := of_here ok1 hr (by omega) hc
   obtain ⟨R, hR⟩ : ∃ R, rdsS P.inp (useF P.ss P.ss.length) P.ss k = R := ⟨_, rfl⟩
   rw [hR] at ih ok1 hq ht hof hres ⊢
   rw [hof] at hq ⊢
   have htn : (numF (some (ilit (t : Int)))).toNat = t := by show ((t : Int)).toNat = t; simp
   rw [htn] at hq ⊢
   simp only [List.length_set] at hq ⊢
   rw [rnAt_set ht]
   by_cases e : q = t
   ·rw [if_pos e]
    obtain ⟨c1, c2⟩ := ih t ht
    obtain ⟨⟨w1, w2⟩, ⟨h1, h2⟩, h3, _, hall⟩ := pipeB_true hP
    obtain ⟨n1, n2⟩ := stepsB_all hall (show k < P.ss.length by omega)
    obtain ⟨r1, r2⟩ := refB_true n2
    have hop := (carB_true hc).1
    have hptok : (stAt P.ss k).pt.ok = true := by unfold needB at n1; rwa [if_pos hop] at n1
    have hA : PicOk P.w P.h (imN P ms (stAt P.ss k).a) := imN_all hP hg k (by omega) _ r1.1 (by omega)
    have key : imN P ms (P.inp + (k : Int)) = resN (pointS (imN P ms (stAt P.ss k).a).w (imN P ms (stAt P.ss k).a).h (imN P ms (stAt P.ss k).a).px (stAt P.ss k).pt) := by
     rw [imN_val hP hg (by omega), point_ok ⟨w1, w2⟩ ⟨h1, h2⟩ hA hptok]
     unfold stepG; rw [if_pos hop]
    refine ⟨?_, fun p hp => ?_⟩
    ·show imN P ms (P.inp + (k : Int)) = ptsN (imN P ms (P.inp + (rnAt R.out t).at_)) ((rnAt R.out t).pts ++ [(stAt P.ss k).pt])
     rw [ptsN_snoc, ← c1, hres, key]
    ·rcases List.mem_append.1 (show p ∈ (rnAt R.out t).pts ++ [(stAt P.ss k).pt] from hp) with hp | hp
     ·exact c2 p hp
     ·rw [List.mem_singleton.1 hp]; exact hptok
   ·rw [if_neg e]; exact ih q hq
end
/-- What holds of a compiler before a round. -/
structure CmpOk (P : PipeN) (ms : List PicN) (n : Nat) (k : Nat) (C : CmN) (mem : Nat → Int) : Prop where
 al : ∃ fs, AllocOk (mostP P) n (P.inp.toNat + P.ss.length) C.at_ fs ∧ C.free = freeL n fs
 av : ∀ m, (C.at_ m).isSome = true → availN P.inp (rdsN P.inp P.ss) k m
 lv : ∀ m, (plS P.inp.toNat (lastI P) (rdsN P.inp P.ss) k).live m = some (.bool true) → (C.at_ m).isSome = true
 mem : ∀ m, (plS P.inp.toNat (lastI P) (rdsN P.inp P.ss) k).live m = some (.bool true) → AtImg mem (numF (C.at_ m)) (imN P ms m).px n
theorem place_apart {a b n : Nat} (h : a ≠ b) : (a : Int) * n + n ≤ (b : Int) * n ∨ (b : Int) * n + n ≤ (a : Int) * n := by
 rcases Nat.lt_or_gt_of_ne h with h | h
 ·left
  have := Nat.mul_le_mul_right n (show a + 1 ≤ b by omega)
  rw [Nat.add_mul, Nat.one_mul] at this
  exact_mod_cast this
 ·right
  have := Nat.mul_le_mul_right n (show b + 1 ≤ a by omega)
  rw [Nat.add_mul, Nat.one_mul] at this
  exact_mod_cast this
theorem most_le (I : Nat) (last : Int) (rs : List RndN) (m : Nat) : ∀ {k R : Nat}, k < R → cntF (livN I last rs k) m ≤ mostN I last rs m R
 | k, R + 1, h => by
  rw [mostN]
  by_cases e : k = R
  ·subst e; omega
  ·have := most_le I last rs m (k := k) (R := R) (by omega); omega
theorem avail_bd {P : PipeN} (hP : pipeB P = true) {k : Nat} (hk : k ≤ (rdsN P.inp P.ss).length) {m : Int} (h : availN P.inp (rdsN P.inp P.ss) k m) : 0 ≤ m ∧ m < P.inp + P.ss.length := by
 obtain ⟨_, _, h3, _, _⟩ := pipeB_true hP
 rcases h with h | ⟨q, hq, rfl⟩
 ·omega
 ·have := res_bd (refOk_of hP) (q := q) (by omega); omega
/-- Behind a round. -/
theorem cmp_round {P : PipeN} {ms : List PicN} (hP : pipeB P = true) (hg : givenB ms P.inp P.w P.h = true) {n : Nat} (hn : (n : Int) = P.w * P.h) {lanes : Int} (hl : 1 ≤ lanes) {k : Nat} (hk : k < (rdsN P.inp P.ss).length) {C : CmN} {M : MacN} (hC : CmpOk P ms n k C M.mem) :
  ∃ code', (rndC P lanes (livN P.inp.toNat (lastI P) (rdsN P.inp P.ss) k) (rnAt (rdsN P.inp P.ss) k) C).code = C.code ++ code' ∧ CmpOk P ms n (k + 1) (rndC P lanes (livN P.inp.toNat (lastI P) (rdsN P.inp P.ss) k) (rnAt (rdsN P.inp P.ss) k) C) (runM lanes.toNat code' M).mem ∧
   ∃ F to, code' = roundC P.w P.h lanes.toNat F (rnAt (rdsN P.inp P.ss) k) to (grpsN P.w P.h lanes).toNat ∧ (∃ t : Nat, t < mostP P ∧ to = (t : Int) * n) ∧ ∀ m ∈ opsN (rnAt (rdsN P.inp P.ss) k).head, ∃ t : Nat, t < mostP P ∧ numF (F m) = (t : Int) * n := by
 obtain ⟨⟨w1, w2⟩, ⟨h1, h2⟩, ⟨i1, i2⟩, ⟨l1, l2⟩, hall⟩ := pipeB_true hP
 have hr := refOk_of hP
 have hn0 : 0 < n := by have := Int.mul_pos (show 0 < P.w by omega) (show 0 < P.h by omega); omega
 obtain ⟨rs, hrs⟩ : ∃ rs, rdsN P.inp P.ss = rs := ⟨_, rfl⟩
 have hIn : ((P.inp.toNat : Nat) : Int) = P.inp := Int.toNat_of_nonneg (by omega)
 have hnot := res_not_ops hr
 have hres := res_bd hr hk
 have hinj := fun q (hq : q < (rdsN P.inp P.ss).length) => res_inj hr hq hk
 have hthere := fun m hm => head_there hr hk (m := m) hm
 have hhead := (rdsN_ok hr).head k hk
 have hchain := rds_chain hP hg P.ss.length (Nat.le_refl _) k hk
 have hlive := fun m => plS_live (I := P.inp.toNat) (last := lastI P) hnot m k (by omega)
 have hlive2 := fun m => plS_live (I := P.inp.toNat) (last := lastI P) hnot m (k + 1) (by omega)
 have hleft := fun m => plS_left P.inp.toNat (lastI P) (rdsN P.inp P.ss) m k
 have hleft2 := fun m => plS_left P.inp.toNat (lastI P) (rdsN P.inp P.ss) m (k + 1)
 have hmost : cntF (livN P.inp.toNat (lastI P) (rdsN P.inp P.ss) k) (P.inp.toNat + P.ss.length) ≤ mostP P := most_le _ _ _ _ hk
 have hmono := fun m => cntR_mono (rdsN P.inp P.ss) m (a := k + 1) (b := (rdsN P.inp P.ss).length) hk
 have hbd := fun m hm => avail_bd hP (k := k) (by omega) (m := m) hm
 change imN P ms (rnAt (rdsN P.inp P.ss) k).res = ptsN (imN P ms (P.inp + (rnAt (rdsN P.inp P.ss) k).at_)) (rnAt (rdsN P.inp P.ss) k).pts ∧ ∀ p ∈ (rnAt (rdsN P.inp P.ss) k).pts, p.ok = true at hchain
 change (rnAt (rdsN P.inp P.ss) k).at_ < P.ss.length ∧ (rnAt (rdsN P.inp P.ss) k).head = stAt P.ss (rnAt (rdsN P.inp P.ss) k).at_ at hhead
 obtain ⟨⟨fs, hal, hfree⟩, hav, hlv, hmem⟩ := hC
 rw [hIn] at hlive hlive2
 rw [hrs] at hk hnot hres hinj hthere hhead hchain hlive hlive2 hleft hleft2 hmost hmono hbd hav hlv hmem ⊢
 obtain ⟨r, hrr⟩ : ∃ r, rnAt rs k = r := ⟨_, rfl⟩
 have hnotk := hnot k hk
 rw [hrr] at hres hinj hthere hhead hchain hnotk ⊢
 obtain ⟨LN, hLN⟩ : ∃ L, livN P.inp.toNat (lastI P) rs k = L := ⟨_, rfl⟩
 have hLNat : ∀ m, LN m = if m = r.res then some (.bool true) else (plS P.inp.toNat (lastI P) rs k).live m := fun m => by
  rw [← hLN]; unfold livN; rw [hrr]; rfl
 rw [hLN] at hmost ⊢
 obtain ⟨T, hT⟩ : ∃ T : Nat, r.res = (T : Int) := ⟨r.res.toNat, by omega⟩
 have hTK : T < P.inp.toNat + P.ss.length := by omega
 -- the sweep
 obtain ⟨fs1, s1, s2, s3, s4⟩ := sweep_ok hn0 (live := LN) hal hfree (P.inp.toNat + P.ss.length) (Nat.le_refl _)
 have hresF : C.at_ r.res = none := by
  cases hh : C.at_ r.res with
  | none => rfl
  | some x =>
   exfalso
   rcases hav r.res (by rw [hh]; rfl) with h | ⟨q, hq, e⟩
   ·omega
   ·have := hinj q (by omega) e; omega
 obtain ⟨S, hS⟩ : ∃ S, sweepN LN C (P.inp.toNat + P.ss.length) = S := ⟨_, rfl⟩
 rw [hS] at s1 s2 s3 s4
 have hSdom : ∀ m, (S.at_ m).isSome = true → truF (LN m) = true ∧ S.at_ m = C.at_ m := fun m hm => by
  rw [s4 m] at hm
  by_cases e : 0 ≤ m ∧ m < ((P.inp.toNat + P.ss.length : Nat) : Int) ∧ truF (LN m) = false
  ·rw [if_pos e] at hm; cases hm
  ·have := s4 m
   rw [if_neg e] at this hm
   refine ⟨?_, this⟩
   have b := hbd m (hav m hm)
   cases ht : truF (LN m) with
   | true => rfl
   | false => exact absurd ⟨b.1, by push_cast; omega, ht⟩ e
 have hSres : S.at_ (T : Int) = none := by
  cases hh : S.at_ (T : Int) with
  | none => rfl
  | some x =>
   have := (hSdom (T : Int) (by rw [hh]; rfl)).2
   rw [← hT, hresF, hT, hh] at this; cases this
 have hfs : fs1 ≠ [] := by
  intro e
  have hc := s1.cnt
  rw [e, List.length_nil] at hc
  have := cntF_lt (A := S.at_) (B := LN) (K := P.inp.toNat + P.ss.length) (fun j hj h => by
   have := (hSdom _ h).1
   cases hh : LN (j : Int) with
   | none => rw [hh] at this; cases this
   | some x => rfl) ⟨T, hTK, hSres, by rw [hLNat, ← hT, if_pos rfl]; rfl⟩
  omega
 obtain ⟨fs2, t, p1, p2, p3, p4, p5, p6⟩ := place_ok hn0 s1 s2 hfs hTK hSres
 refine ⟨roundC P.w P.h lanes.toNat (placeN S r.res).at_ r (lastN S) (grpsN P.w P.h lanes).toNat, ?_, ?_⟩
 ·unfold rndC
  simp only [hS]
  show S.code ++ _ = _
  rw [s3]
 obtain ⟨D, hD⟩ : ∃ D, placeN S r.res = D := ⟨_, rfl⟩
 have hD2 : placeN S (T : Int) = D := by rw [← hT]; exact hD
 rw [hD2] at p3 p4 p5
 have hrd : rndC P lanes LN r C = ⟨D.at_, D.free, D.code ++ roundC P.w P.h lanes.toNat D.at_ r (lastN S) (grpsN P.w P.h lanes).toNat⟩ := by unfold rndC; simp only [hS, hD]
 rw [hrd, hD, p2]
 -- where the head's images are
 have hopd : ∀ m ∈ opsN r.head, ∃ tm : Nat, tm < mostP P ∧ D.at_ m = some (ilit ((tm : Int) * n)) ∧ tm ≠ t ∧ AtImg M.mem (numF (D.at_ m)) (imN P ms m).px n ∧ PicOk P.w P.h (imN P ms m) := fun m hm => by
  obtain ⟨a1, a2⟩ := hthere m hm
  have hmr : m ≠ r.res := fun e => hnotk (e ▸ hm)
  have hi := inOps_pos hm
  have hav1 : availN P.inp rs k m := a2.elim (fun h => .inl ⟨a1, h⟩) .inr
  have h1' := hleft m
  have h3' := hmono m
  have hstep : cntR rs m (k + 1) = cntR rs m k + inOps (rnAt rs k).head m := rfl
  rw [hrr, hi] at hstep
  have hli : (plS P.inp.toNat (lastI P) rs k).live m = some (.bool true) := by
   rcases hlive m with ⟨e, _⟩ | ⟨_, e⟩
   ·exact e
   ·exact absurd ⟨hav1, by omega⟩ e
  have hCm := hlv m hli
  have b := hbd m hav1
  have hLm : truF (LN m) = true := by rw [hLNat, if_neg hmr, hli]; rfl
  have hSm : S.at_ m = C.at_ m := by rw [s4 m, if_neg (by rw [hLm]; simp)]
  have hDm : D.at_ m = C.at_ m := by rw [p5, putF_ne _ _ (by rw [← hT]; exact hmr), hSm]
  obtain ⟨x, hx⟩ := Option.isSome_iff_exists.1 hCm
  obtain ⟨tm, g1, g2, g3, g4⟩ := hal.at_ _ _ hx
  subst g2
  refine ⟨tm, g1, by rw [hDm, hx], fun e => ?_, by rw [hDm]; exact hmem m hli, imN_all hP hg P.ss.length (Nat.le_refl _) m a1 b.2⟩
  subst e
  exact p6 m _ (by rw [hSm, hx]) rfl
 have hneed := (stepsB_all hall hhead.1).1
 rw [← hhead.2] at hneed
 obtain ⟨ta, ga1, ga2, ga3, ga4, ga5⟩ := hopd _ (opsN_a r.head)
 have hopB : r.head.op = 2 → r.head.b ∈ opsN r.head := fun h => by
  rcases opsN_cases r.head with ⟨e, h2⟩ | ⟨e, _, _⟩
  ·have : r.head.a = r.head.b := by
    by_cases hab : r.head.a = r.head.b
    ·exact hab
    ·exact absurd ⟨h, hab⟩ h2
   rw [e, this]; simp
  ·rw [e]; simp
 have hval := imN_val hP hg hhead.1
 rw [← hhead.2] at hval
 have hrun := round_run (lanes := lanes.toNat) ⟨w1, w2⟩ ⟨h1, h2⟩ hn (by omega) (r := r) (A := imN P ms r.head.a) (B := imN P ms r.head.b) hneed hchain.2 ga5 (fun h => (hopd _ (hopB h)).choose_spec.2.2.2.2) (F := D.at_) (to := (t : Int) * n) (Int.mul_nonneg (by omega) (by omega))
  (by rw [ga2]; exact place_apart ga3) (fun h => by obtain ⟨tb, gb1, gb2, gb3, _⟩ := hopd _ (hopB h); rw [gb2]; exact place_apart gb3) (M := M) ga4 (fun h => by obtain ⟨tb, gb1, gb2, gb3, gb4, _⟩ := hopd _ (hopB h); exact gb4) (im := imN P ms r.res) (by rw [hchain.1, hval])
  (grpsN P.w P.h lanes).toNat
 obtain ⟨M', hM'⟩ : ∃ M', runM lanes.toNat (roundC P.w P.h lanes.toNat D.at_ r ((t : Int) * n) (grpsN P.w P.h lanes).toNat) M = M' := ⟨_, rfl⟩
 rw [hM'] at hrun ⊢
 have hgr : (n : Int) ≤ ((grpsN P.w P.h lanes).toNat * lanes.toNat : Nat) := by
  unfold grpsN
  rw [← hn]
  have e1 := Int.emod_lt_of_pos ((n : Int) + lanes - 1) (show 0 < lanes by omega)
  have e2 := Int.mul_ediv_add_emod ((n : Int) + lanes - 1) lanes
  have e3 : 0 ≤ ((n : Int) + lanes - 1) / lanes := Int.ediv_nonneg (by omega) (by omega)
  push_cast
  rw [Int.toNat_of_nonneg e3, Int.toNat_of_nonneg (show 0 ≤ lanes by omega), Int.mul_comm]
  omega
 have hin : ∀ i : Nat, i < n → M'.mem (((t : Int) * n).toNat + i) = px (imN P ms r.res).px (i : Int) := fun i hi => by
  have h0 : 0 ≤ (t : Int) * n := Int.mul_nonneg (by omega) (by omega)
  rw [hrun, if_pos (by omega)]
  congr 1
  omega
 have hout : ∀ {p : Int} {xs : List Int}, (p + n ≤ (t : Int) * n ∨ (t : Int) * n + n ≤ p) → AtImg M.mem p xs n → AtImg M'.mem p xs n := fun hd ha => ⟨ha.nn, fun i hi => by rw [hrun, if_neg (by have := ha.nn; omega)]; exact ha.val i hi⟩
 have hav' : ∀ m, availN P.inp rs k m → availN P.inp rs (k + 1) m := fun m h => h.imp id (fun ⟨q, hq, e⟩ => ⟨q, by omega, e⟩)
 refine ⟨⟨⟨fs2, p3, p4⟩, fun m hm => ?_, fun m hm => ?_, fun m hm => ?_⟩, D.at_, _, rfl, ⟨t, p1, rfl⟩, fun m hm => by obtain ⟨tm, g1, g2, _⟩ := hopd m hm; exact ⟨tm, g1, by rw [g2]; rfl⟩⟩
 ·rw [hrs]
  simp only at hm
  by_cases e : m = r.res
  ·exact .inr ⟨k, by omega, by rw [hrr, e]⟩
  ·rw [p5, putF_ne _ _ (by rw [← hT]; exact e)] at hm
   exact hav' m (hav m (by rw [← (hSdom m hm).2]; exact hm))
 ·rw [hrs] at hm
  simp only
  by_cases e : m = r.res
  ·rw [p5, e, hT, putF_same]; rfl
  ·rcases hlive2 m with ⟨_, a1, a2⟩ | ⟨a1, _⟩
   ·have hav1 : availN P.inp rs k m := a1.imp id (fun ⟨q, hq, e2⟩ => by
     by_cases e3 : q = k
     ·subst e3; rw [hrr] at e2; exact absurd e2.symm e
     ·exact ⟨q, by omega, e2⟩)
    have x1 := hleft m
    have x2 := hleft2 m
    have hstep : cntR rs m (k + 1) = cntR rs m k + inOps (rnAt rs k).head m := rfl
    have hli : (plS P.inp.toNat (lastI P) rs k).live m = some (.bool true) := by
     rcases hlive m with ⟨e2, _⟩ | ⟨_, e2⟩
     ·exact e2
     ·exact absurd ⟨hav1, by omega⟩ e2
    have hLm : truF (LN m) = true := by rw [hLNat, if_neg e, hli]; rfl
    rw [p5, putF_ne _ _ (by rw [← hT]; exact e), s4 m, if_neg (by rw [hLm]; simp)]
    exact hlv m hli
   ·rw [a1] at hm; cases hm
 ·rw [hrs] at hm
  simp only
  by_cases e : m = r.res
  ·rw [p5, e, hT, putF_same, ← hT]
   exact ⟨Int.mul_nonneg (by omega) (by omega), hin⟩
  ·rcases hlive2 m with ⟨_, a1, a2⟩ | ⟨a1, _⟩
   ·have hav1 : availN P.inp rs k m := a1.imp id (fun ⟨q, hq, e2⟩ => by
     by_cases e3 : q = k
     ·subst e3; rw [hrr] at e2; exact absurd e2.symm e
     ·exact ⟨q, by omega, e2⟩)
    have x1 := hleft m
    have x2 := hleft2 m
    have hstep : cntR rs m (k + 1) = cntR rs m k + inOps (rnAt rs k).head m := rfl
    have hli : (plS P.inp.toNat (lastI P) rs k).live m = some (.bool true) := by
     rcases hlive m with ⟨e2, _⟩ | ⟨_, e2⟩
     ·exact e2
     ·exact absurd ⟨hav1, by omega⟩ e2
    have hLm : truF (LN m) = true := by rw [hLNat, if_neg e, hli]; rfl
    have hSm : S.at_ m = C.at_ m := by rw [s4 m, if_neg (by rw [hLm]; simp)]
    rw [p5, putF_ne _ _ (by rw [← hT]; exact e), hSm]
    obtain ⟨x, hx⟩ := Option.isSome_iff_exists.1 (hlv m hli)
    obtain ⟨tm, g1, g2, g3, g4⟩ := hal.at_ _ _ hx
    subst g2
    have hne : tm ≠ t := fun e3 => by subst e3; exact p6 m _ (by rw [hSm, hx]) rfl
    refine hout ?_ (hmem m hli)
    rw [hx]; exact place_apart hne
   ·rw [a1] at hm; cases hm
end Go.Proofs.YtekiemlniegddaaGreat
namespace Go.Proofs.YtekiemlniegddaaGreat
open Go Go.RowKit Go.Shelf
theorem memN_app (ats : List Int) (x : Int) (ms : List PicN) : ∀ k, k ≤ ats.length → memN (ats ++ [x]) ms k = memN ats ms k
 | 0, _ => rfl
 | k + 1, h => by rw [memN, memN, memN_app ats x ms k (by omega), List.getElem?_append_left (by omega)]
theorem inp_len (left : FnL) (C : CmN) : ∀ k, (inpN left C k).inp.length = k
 | 0 => rfl
 | k + 1 => by
  rw [inpN]
  split <;> simp [inp_len left C k]
/-- What holds of the compiler while the given images get their places. -/
structure InpOk (P : PipeN) (ms : List PicN) (n : Nat) (left : FnL) (k : Nat) (S : InC) : Prop where
 al : ∃ fs, AllocOk (mostP P) n (P.inp.toNat + P.ss.length) S.c.at_ fs ∧ S.c.free = freeL n fs
 code : S.c.code = []
 dom : ∀ m, (S.c.at_ m).isSome = true ↔ ∃ i : Nat, i < k ∧ m = (i : Int) ∧ 0 < numF (left (i : Int))
 ad : ∀ x ∈ S.inp, x = -1 ∨ ∃ t : Nat, t < mostP P ∧ x = (t : Int) * n
 mem : ∀ i : Nat, i < k → 0 < numF (left (i : Int)) → AtImg (memN S.inp ms k) (numF (S.c.at_ (i : Int))) (picAt ms i).px n
theorem inp_ok {P : PipeN} {ms : List PicN} (hP : pipeB P = true) (hg : givenB ms P.inp P.w P.h = true) {n : Nat} (hn : (n : Int) = P.w * P.h) :
  ∀ k, k ≤ P.inp.toNat → InpOk P ms n (lefF (lastI P) (rdsN P.inp P.ss) (rdsN P.inp P.ss).length) k (inpN (lefF (lastI P) (rdsN P.inp P.ss) (rdsN P.inp P.ss).length) ⟨fun _ => none, freeN (P.w * P.h) (mostP P), []⟩ k)
 | 0, _ => ⟨⟨_, alloc_zero _ _ _, by show freeN (P.w * P.h) (mostP P) = _; rw [← hn]; exact freeN_is n _⟩, rfl, fun m => ⟨fun h => (by cases h), fun ⟨i, h, _⟩ => (by omega)⟩, fun x hx => (by cases hx), fun i h => (by omega)⟩
 | k + 1, hk => by
  have ih := inp_ok hP hg hn k (by omega)
  obtain ⟨⟨w1, w2⟩, ⟨h1, h2⟩, ⟨i1, i2⟩, ⟨l1, l2⟩, hall⟩ := pipeB_true hP
  have hn0 : 0 < n := by have := Int.mul_pos (show 0 < P.w by omega) (show 0 < P.h by omega); omega
  have hr := refOk_of hP
  have hlen := inp_len (lefF (lastI P) (rdsN P.inp P.ss) (rdsN P.inp P.ss).length) ⟨fun _ => none, freeN (P.w * P.h) (mostP P), []⟩ k
  obtain ⟨q0, hq0, _⟩ := last_there hr (show 0 < P.ss.length by omega)
  have hres0 := res_bd hr (q := 0) (by omega)
  have hliv : ∀ m, (livN P.inp.toNat (lastI P) (rdsN P.inp P.ss) 0) m = if m = (rnAt (rdsN P.inp P.ss) 0).res then some (.bool true) else if 0 ≤ m ∧ m < P.inp.toNat ∧ 0 < numF (lefF (lastI P) (rdsN P.inp P.ss) (rdsN P.inp P.ss).length m) then some (.bool true) else none := fun m => by
   unfold livN putF; rw [plS]; simp only; rw [livI_at]
  have hmost : cntF (livN P.inp.toNat (lastI P) (rdsN P.inp P.ss) 0) (P.inp.toNat + P.ss.length) ≤ mostP P := most_le _ _ _ _ (by omega)
  obtain ⟨left, hleft⟩ : ∃ L, lefF (lastI P) (rdsN P.inp P.ss) (rdsN P.inp P.ss).length = L := ⟨_, rfl⟩
  rw [hleft] at ih hlen hliv ⊢
  obtain ⟨S, hS⟩ : ∃ S, inpN left ⟨fun _ => none, freeN (P.w * P.h) (mostP P), []⟩ k = S := ⟨_, rfl⟩
  rw [inpN]
  rw [hS] at ih hlen ⊢
  obtain ⟨⟨fs, a1, a2⟩, c1, d1, e1, m1⟩ := ih
  have hpic := fun i (hi : i < P.inp.toNat) => given_at hg (i := i) (by have := givenB_len hg; omega)
  have hpl : ∀ i, i < P.inp.toNat → (picAt ms i).px.length = n := fun i hi => by
   have := (vld_true (hpic i hi).v).2.2.1
   omega
  by_cases hz : numF (left (k : Int)) = 0
  ·rw [if_pos hz]
   refine ⟨⟨fs, a1, a2⟩, c1, fun m => ?_, fun x hx => ?_, fun i hi hp => ?_⟩
   ·simp only; rw [d1]
    constructor
    ·rintro ⟨i, h, r⟩; exact ⟨i, by omega, r⟩
    ·rintro ⟨i, h, r1, r2⟩
     by_cases e : i = k
     ·subst e; omega
     ·exact ⟨i, by omega, r1, r2⟩
   ·rcases List.mem_append.1 hx with hx | hx
    ·exact e1 x hx
    ·exact .inl (List.mem_singleton.1 hx)
   ·have hik : i < k := by
     rcases Nat.lt_or_ge i k with h | h
     ·exact h
     ·obtain rfl : i = k := by omega
      omega
    have := m1 i hik hp
    refine ⟨this.nn, fun j hj => ?_⟩
    show memN (S.inp ++ [-1]) ms (k + 1) _ = _
    rw [memN, memN_app _ _ _ _ (by omega), List.getElem?_append_right (by omega), hlen]
    unfold putImg
    rw [if_neg (by simp)]
    exact this.val j hj
  ·have hz' : 0 < numF (left (k : Int)) := by
    have := lefF_num (lastI P) (rdsN P.inp P.ss) (k : Int) (rdsN P.inp P.ss).length
    rw [hleft] at this
    omega
   rw [if_neg hz]
   have hnone : S.c.at_ (k : Int) = none := by
    cases hh : S.c.at_ (k : Int) with
    | none => rfl
    | some x =>
     obtain ⟨i, g1, g2, _⟩ := (d1 (k : Int)).1 (by rw [hh]; rfl)
     omega
   have hfs : fs ≠ [] := by
    intro e
    have hc := a1.cnt
    rw [e, List.length_nil] at hc
    have := cntF_lt (A := S.c.at_) (B := livN P.inp.toNat (lastI P) (rdsN P.inp P.ss) 0) (K := P.inp.toNat + P.ss.length) (fun j hj h => by
     obtain ⟨i, g1, g2, g3⟩ := (d1 _).1 h
     rw [hliv]
     by_cases e1 : (j : Int) = (rnAt (rdsN P.inp P.ss) 0).res
     ·rw [if_pos e1]; rfl
     ·rw [if_neg e1, if_pos ⟨by omega, by omega, by rw [g2]; exact g3⟩]; rfl) ⟨k, by omega, hnone, by
      rw [hliv]
      by_cases e1 : (k : Int) = (rnAt (rdsN P.inp P.ss) 0).res
      ·rw [if_pos e1]; rfl
      ·rw [if_neg e1, if_pos ⟨by omega, by omega, hz'⟩]; rfl⟩
    omega
   obtain ⟨fs2, t, p1, p2, p3, p4, p5, p6⟩ := place_ok hn0 a1 a2 hfs (show k < P.inp.toNat + P.ss.length by omega) hnone
   refine ⟨⟨fs2, p3, p4⟩, c1, fun m => ?_, fun x hx => ?_, fun i hi hp => ?_⟩
   ·simp only
    rw [p5]
    by_cases e : m = (k : Int)
    ·subst e; rw [putF_same]; exact ⟨fun _ => ⟨k, by omega, rfl, hz'⟩, fun _ => rfl⟩
    ·rw [putF_ne _ _ e, d1]
     constructor
     ·rintro ⟨i, h, r⟩; exact ⟨i, by omega, r⟩
     ·rintro ⟨i, h, r1, r2⟩
      by_cases e2 : i = k
      ·subst e2; exact absurd r1 e
      ·exact ⟨i, by omega, r1, r2⟩
   ·rcases List.mem_append.1 hx with hx | hx
    ·exact e1 x hx
    ·rw [List.mem_singleton.1 hx]; exact .inr ⟨t, p1, p2⟩
   ·show AtImg (memN (S.inp ++ [lastN S.c]) ms (k + 1)) _ _ _
    rw [memN, memN_app _ _ _ _ (by omega), List.getElem?_append_right (by omega), hlen]
    simp only [Nat.sub_self, List.getElem?_cons_zero, Option.getD_some]
    rw [p2, p5]
    have h0 : 0 ≤ (t : Int) * n := Int.mul_nonneg (by omega) (by omega)
    by_cases e : i = k
    ·subst e
     rw [putF_same]
     refine ⟨h0, fun j hj => ?_⟩
     unfold putImg
     show (if 0 ≤ (t : Int) * n ∧ (t : Int) * n ≤ ((((t : Int) * n).toNat + j : Nat) : Int) ∧ ((((t : Int) * n).toNat + j : Nat) : Int) < (t : Int) * n + (picAt ms i).px.length then _ else _) = _
     rw [hpl i (by omega), if_pos (by omega)]
     congr 1
     show ((((t : Int) * n).toNat + j : Nat) : Int) - (t : Int) * n = j
     omega
    ·rw [putF_ne _ _ (by omega)]
     have hm := m1 i (by omega) hp
     obtain ⟨x, hx⟩ := Option.isSome_iff_exists.1 ((d1 (i : Int)).2 ⟨i, by omega, rfl, hp⟩)
     obtain ⟨ti, g1, g2, _⟩ := a1.at_ _ _ hx
     subst g2
     have hne : ti ≠ t := fun e3 => by subst e3; exact p6 _ _ hx rfl
     have hap := place_apart (n := n) hne
     rw [hx] at hm ⊢
     refine ⟨hm.nn, fun j hj => ?_⟩
     unfold putImg
     rw [hpl k (by omega), if_neg]
     ·exact hm.val j hj
     ·show ¬ (0 ≤ (t : Int) * n ∧ (t : Int) * n ≤ ((((ti : Int) * n).toNat + j : Nat) : Int) ∧ ((((ti : Int) * n).toNat + j : Nat) : Int) < (t : Int) * n + n)
      have : 0 ≤ (ti : Int) * n := Int.mul_nonneg (by omega) (by omega)
      omega
/-- Before the first round. -/
theorem cmp_start {P : PipeN} {ms : List PicN} (hP : pipeB P = true) (hg : givenB ms P.inp P.w P.h = true) {n : Nat} (hn : (n : Int) = P.w * P.h) :
  CmpOk P ms n 0 (cmp0 P (mostP P)).c (memN (cmp0 P (mostP P)).inp ms P.inp.toNat) ∧ (cmp0 P (mostP P)).c.code = [] ∧ (∀ x ∈ (cmp0 P (mostP P)).inp, x = -1 ∨ ∃ t : Nat, t < mostP P ∧ x = (t : Int) * n) ∧ (cmp0 P (mostP P)).inp.length = P.inp.toNat := by
 obtain ⟨al, code, dom, ad, mem⟩ := inp_ok hP hg hn P.inp.toNat (Nat.le_refl _)
 obtain ⟨_, _, ⟨i1, i2⟩, _, _⟩ := pipeB_true hP
 have hl := givenB_len hg
 have hlive : ∀ m, (plS P.inp.toNat (lastI P) (rdsN P.inp P.ss) 0).live m = if 0 ≤ m ∧ m < P.inp.toNat ∧ 0 < numF (lefF (lastI P) (rdsN P.inp P.ss) (rdsN P.inp P.ss).length m) then some (.bool true) else none := fun m => by rw [plS]; simp only; rw [livI_at]
 refine ⟨⟨al, fun m hm => ?_, fun m hm => ?_, fun m hm => ?_⟩, code, ad, inp_len _ _ _⟩
 ·obtain ⟨i, h1, h2, h3⟩ := (dom m).1 hm
  exact .inl ⟨by omega, by omega⟩
 ·rw [hlive] at hm
  split at hm
  ·rename_i h
   exact (dom m).2 ⟨m.toNat, by omega, by omega, by rw [show ((m.toNat : Nat) : Int) = m by omega]; exact h.2.2⟩
  ·cases hm
 ·rw [hlive] at hm
  split at hm
  ·rename_i h
   obtain ⟨i, rfl⟩ : ∃ i : Nat, m = (i : Int) := ⟨m.toNat, by omega⟩
   rw [imN_in (by omega) (by omega)]
   exact mem i (by omega) h.2.2
  ·cases hm
/-- Before any round, and behind the last one. -/
theorem cmp_all {P : PipeN} {ms : List PicN} (hP : pipeB P = true) (hg : givenB ms P.inp P.w P.h = true) {n : Nat} (hn : (n : Int) = P.w * P.h) {lanes : Int} (hl : 1 ≤ lanes) :
  ∀ k, k ≤ (rdsN P.inp P.ss).length → CmpOk P ms n k (cmpS P lanes k) (runM lanes.toNat (cmpS P lanes k).code ⟨fun _ _ => 0, memN (cmp0 P (mostP P)).inp ms P.inp.toNat⟩).mem
 | 0, _ => by
  obtain ⟨h1, h2, _⟩ := cmp_start hP hg hn
  rw [cmpS, h2, runM_nil]; exact h1
 | k + 1, hk => by
  have ih := cmp_all hP hg hn hl k (by omega)
  obtain ⟨code', h1, h2, _⟩ := cmp_round hP hg hn hl (show k < (rdsN P.inp P.ss).length by omega) ih
  rw [cmpS, h1, runM_app]
  exact h2
theorem outN_px {M : MacN} {p : Int} {xs : List Int} {n : Nat} (h : AtImg M.mem p xs n) (hl : xs.length = n) : outN M p n = xs := by
 subst hl
 unfold outN
 refine List.ext_getElem (by simp) fun i h1 h2 => ?_
 simp only [List.getElem_map, List.getElem_range]
 rw [h.val i h2]
 unfold px; rw [Int.toNat_natCast, List.getElem?_eq_getElem h2]; rfl
/-- The result of the code's run. -/
theorem cmp_result {P : PipeN} {ms : List PicN} (hP : pipeB P = true) (hg : givenB ms P.inp P.w P.h = true) {lanes : Int} (hl : 1 ≤ lanes) :
  (∃ t : Nat, t < mostP P ∧ numF ((cmpS P lanes (rdsN P.inp P.ss).length).at_ (lastI P)) = (t : Int) * (P.w.toNat * P.h.toNat : Nat)) ∧
  outN (runM lanes.toNat (cmpS P lanes (rdsN P.inp P.ss).length).code ⟨fun _ _ => 0, memN (cmp0 P (mostP P)).inp ms P.inp.toNat⟩) (numF ((cmpS P lanes (rdsN P.inp P.ss).length).at_ (lastI P))) (P.w.toNat * P.h.toNat) = (meanN P ms).px := by
 obtain ⟨⟨w1, w2⟩, ⟨h1, h2⟩, ⟨i1, i2⟩, ⟨l1, l2⟩, hall⟩ := pipeB_true hP
 have hn : ((P.w.toNat * P.h.toNat : Nat) : Int) = P.w * P.h := by push_cast; rw [Int.toNat_of_nonneg (by omega), Int.toNat_of_nonneg (by omega)]
 have hl' := givenB_len hg
 have hr := refOk_of hP
 have hC := cmp_all hP hg hn hl (rdsN P.inp P.ss).length (Nat.le_refl _)
 obtain ⟨q, hq, hqr⟩ := last_there hr (show 0 < P.ss.length by omega)
 have hli : (plS P.inp.toNat (lastI P) (rdsN P.inp P.ss) (rdsN P.inp P.ss).length).live (lastI P) = some (.bool true) := by
  have hlf := plS_left P.inp.toNat (lastI P) (rdsN P.inp P.ss) (lastI P) (rdsN P.inp P.ss).length
  have hone : isL (lastI P) (lastI P) = 1 := by unfold isL; rw [if_pos rfl]
  rcases plS_live (I := P.inp.toNat) (last := lastI P) (res_not_ops hr) (lastI P) (rdsN P.inp P.ss).length (Nat.le_refl _) with ⟨e, _⟩ | ⟨_, e⟩
  ·exact e
  ·exact absurd ⟨.inr ⟨q, hq, by rw [hqr]; rfl⟩, by omega⟩ e
 have hm := hC.mem _ hli
 obtain ⟨fs, a1, _⟩ := hC.al
 obtain ⟨x, hx⟩ := Option.isSome_iff_exists.1 (hC.lv _ hli)
 obtain ⟨t, g1, g2, _⟩ := a1.at_ _ _ hx
 have hmean : meanN P ms = imN P ms (lastI P) := by
  unfold meanN imN lastI
  congr 1
  omega
 have hpic := imN_all hP hg P.ss.length (Nat.le_refl _) (lastI P) (by unfold lastI; omega) (by unfold lastI; omega)
 have hlen : (imN P ms (lastI P)).px.length = P.w.toNat * P.h.toNat := by have := (vld_true hpic.v).2.2.1; omega
 exact ⟨⟨t, g1, by rw [hx, g2]; rfl⟩, by rw [hmean]; exact outN_px hm hlen⟩
end Go.Proofs.YtekiemlniegddaaGreat
namespace Go.Proofs.YtekiemlniegddaaGreat
open Go Go.RowKit Go.Shelf
/-- A machine's numbers, for the code of images of a size. -/
structure VecOk (v : VecN) (w h : Int) (n mx : Nat) : Prop where
 l : 1 ≤ v.lanes ∧ v.lanes ≤ 16
 r : 2 ≤ v.regs ∧ v.regs ≤ 16
 we : 1 ≤ w ∧ w ≤ 16
 he : 1 ≤ h ∧ h ≤ 16
 ne : (n : Int) = w * h
 m : (mx : Int) * n ≤ v.mem
section
variable {v : VecN} {w h : Int} {n mx : Nat}
theorem place_in (hv : VecOk v w h n mx) {t : Nat} (ht : t < mx) : 0 ≤ (t : Int) * n ∧ (t : Int) * n + n ≤ v.mem := by
 have h1 := Nat.mul_le_mul_right n (show t + 1 ≤ mx by omega)
 rw [Nat.add_mul, Nat.one_mul] at h1
 have h2 : (t : Int) * n + n ≤ (mx : Int) * n := by exact_mod_cast h1
 have := hv.m
 exact ⟨Int.mul_nonneg (by omega) (by omega), by omega⟩
theorem adr_ok (hv : VecOk v w h n mx) (g : Nat) {p : Int} (hp : 0 ≤ p ∧ p + n ≤ v.mem) (dx dy bd : Int) : adrB v (adrN w h v.lanes.toNat g p dx dy bd) = true := by
 have hm : 0 < v.mem := by have h1 := hv.ne; have := Int.mul_pos (show 0 < w by have := hv.we; omega) (show 0 < h by have := hv.he; omega); omega
 unfold adrB adrN
 rw [Bool.and_eq_true, List.all_eq_true]
 refine ⟨by rw [List.length_map, List.length_range, decide_eq_true_eq]; have := hv.l; omega, fun x hx => ?_⟩
 obtain ⟨j, _, rfl⟩ := List.mem_map.1 hx
 rw [inR_true]
 unfold adrAt
 have hb := cell_bd (w := w) (h := h) (x := ((g * v.lanes.toNat + j : Nat) : Int) % w + dx) (y := ((g * v.lanes.toNat + j : Nat) : Int) / w + dy) (bd := bd) hv.we.1 hv.he.1
 have := hv.ne
 split
 ·split <;> omega
 ·omega
theorem insL_ok (hv : VecOk v w h n mx) (g : Nat) {d p : Int} (hd : d = 0 ∨ d = 1) (hp : 0 ≤ p ∧ p + n ≤ v.mem) (dx dy bd : Int) {val : Int} (hval : -2147483648 ≤ val ∧ val ≤ 2147483648) : insB v (insL w h v.lanes.toNat g d p dx dy val bd) = true := by
 have hr := hv.r
 show (if (1 : Int) = 1 then inR d 0 (v.regs - 1) && (inR val (-2147483648) 2147483648 && adrB v (adrN w h v.lanes.toNat g p dx dy bd)) else _) = true
 rw [if_pos rfl, adr_ok hv g hp]
 simp only [Bool.and_true, Bool.and_eq_true, inR_true]
 omega
theorem insS_ok (hv : VecOk v w h n mx) (g : Nat) {p : Int} (hp : 0 ≤ p ∧ p + n ≤ v.mem) : insB v (insS w h v.lanes.toNat g p) = true := by
 have hr := hv.r
 show (if (2 : Int) = 1 then _ else if (2 : Int) = 2 then inR 0 0 (v.regs - 1) && adrB v (adrN w h v.lanes.toNat g p 0 0 0) else _) = true
 rw [if_neg (by decide), if_pos rfl, adr_ok hv g hp]
 simp only [Bool.and_true, inR_true]
 omega
theorem insP_ok (hv : VecOk v w h n mx) {p : PointN} (hp : p.ok = true) : insB v (insP p) = true := by
 have hr := hv.r
 unfold insB insP
 simp only [show ¬ (4 : Int) = 1 by decide, show ¬ (4 : Int) = 2 by decide, show ¬ (4 : Int) = 3 by decide, if_false, if_true, hp, Bool.and_true, Bool.and_eq_true, inR_true]
 omega
theorem insZ_ok (hv : VecOk v w h n mx) {how : Int} (hh : 1 ≤ how ∧ how ≤ 6) : insB v (insZ how) = true := by
 have hr := hv.r
 unfold insB insZ
 simp only [show ¬ (5 : Int) = 1 by decide, show ¬ (5 : Int) = 2 by decide, show ¬ (5 : Int) = 3 by decide, show ¬ (5 : Int) = 4 by decide, if_false, if_true, Bool.and_eq_true, inR_true]
 omega
theorem insA_ok (hv : VecOk v w h n mx) {x : Int} (hx : -65536 ≤ x ∧ x ≤ 65536) : insB v (insA x) = true := by
 have hr := hv.r
 unfold insB insA
 simp only [show ¬ (6 : Int) = 1 by decide, show ¬ (6 : Int) = 2 by decide, show ¬ (6 : Int) = 3 by decide, show ¬ (6 : Int) = 4 by decide, show ¬ (6 : Int) = 5 by decide, if_false, if_true, Bool.and_eq_true, inR_true]
 omega
theorem insC_ok (hv : VecOk v w h n mx) : insB v insC = true := by
 have hr := hv.r
 unfold insB insC
 simp only [show ¬ (3 : Int) = 1 by decide, show ¬ (3 : Int) = 2 by decide, if_false, if_true, Bool.and_eq_true, inR_true]
 omega
theorem taps_ok (hv : VecOk v w h n mx) (g : Nat) {p : Int} (hp : 0 ≤ p ∧ p + n ≤ v.mem) {s : StepN} (ht : allIn (-65536) 65536 s.taps = true) : ∀ k, ∀ x ∈ tapsC w h v.lanes.toNat g p s k, insB v x = true
 | 0, x, hx => by cases hx
 | k + 1, x, hx => by
  rw [tapsC] at hx
  rcases List.mem_append.1 hx with hx | hx
  ·exact taps_ok hv g hp ht k x hx
  ·have hb := px_bdB (B := 65536) (by decide) ht (k : Int)
   rw [← getD_px] at hb
   split at hx
   ·cases hx
   ·simp only [List.mem_cons, List.not_mem_nil, or_false] at hx
    rcases hx with rfl | rfl
    ·exact insL_ok hv g (.inr rfl) hp _ _ _ (by omega)
    ·exact insA_ok hv hb
theorem bits_ok (hv : VecOk v w h n mx) (g : Nat) {p : Int} (hp : 0 ≤ p ∧ p + n ≤ v.mem) (s : StepN) : ∀ k, ∀ x ∈ bitsC w h v.lanes.toNat g p s k, insB v x = true
 | 0, x, hx => by cases hx
 | k + 1, x, hx => by
  rw [bitsC] at hx
  have hval : -2147483648 ≤ valC s ∧ valC s ≤ 2147483648 := by unfold valC; split <;> omega
  rcases List.mem_append.1 hx with hx | hx
  ·exact bits_ok hv g hp s k x hx
  ·split at hx
   ·cases hx
   split at hx
   ·simp only [List.mem_cons, List.not_mem_nil, or_false] at hx
    subst hx
    exact insL_ok hv g (.inl rfl) hp _ _ _ hval
   ·simp only [List.mem_cons, List.not_mem_nil, or_false] at hx
    rcases hx with rfl | rfl
    ·exact insL_ok hv g (.inr rfl) hp _ _ _ hval
    ·exact insZ_ok hv (by unfold howC; split <;> omega)
theorem head_ok (hv : VecOk v w h n mx) (g : Nat) {F : FnL} {s : StepN} (hs : needB s = true) (hp : ∀ m ∈ opsN s, 0 ≤ numF (F m) ∧ numF (F m) + n ≤ v.mem) : ∀ x ∈ headC w h v.lanes.toNat g F s, insB v x = true := by
 intro x hx
 have ha := hp _ (opsN_a s)
 unfold needB at hs
 unfold headC at hx
 by_cases h1 : s.op = 1
 ·rw [if_pos h1] at hs hx
  simp only [List.mem_cons, List.not_mem_nil, or_false] at hx
  rcases hx with rfl | rfl
  ·exact insL_ok hv g (.inl rfl) ha _ _ _ (by omega)
  ·exact insP_ok hv hs
 rw [if_neg h1] at hs hx
 by_cases h2 : s.op = 2
 ·rw [if_pos h2] at hs hx
  rw [decide_eq_true_eq] at hs
  have hb : 0 ≤ numF (F s.b) ∧ numF (F s.b) + n ≤ v.mem := by
   by_cases hab : s.a = s.b
   ·rw [← hab]; exact ha
   ·exact hp _ (by unfold opsN; rw [if_pos ⟨h2, hab⟩]; simp)
  simp only [List.mem_cons, List.not_mem_nil, or_false] at hx
  rcases hx with rfl | rfl | rfl
  ·exact insL_ok hv g (.inl rfl) ha _ _ _ (by omega)
  ·exact insL_ok hv g (.inr rfl) hb _ _ _ (by omega)
  ·exact insZ_ok hv hs
 rw [if_neg h2] at hs hx
 by_cases h3 : s.op = 3
 ·rw [if_pos h3] at hs hx
  rw [Bool.and_eq_true] at hs
  rcases List.mem_cons.1 hx with rfl | hx
  ·exact insC_ok hv
  ·exact taps_ok hv g ha (kern_facts hs.1).2.2.2.2 _ x hx
 rw [if_neg h3] at hx
 exact bits_ok hv g ha s _ x hx
theorem round_ok (hv : VecOk v w h n mx) {F : FnL} {r : RndN} {to : Int} (hs : needB r.head = true) (hps : ∀ p ∈ r.pts, p.ok = true) (hp : ∀ m ∈ opsN r.head, 0 ≤ numF (F m) ∧ numF (F m) + n ≤ v.mem) (hto : 0 ≤ to ∧ to + n ≤ v.mem) :
  ∀ k, ∀ x ∈ roundC w h v.lanes.toNat F r to k, insB v x = true
 | 0, x, hx => by cases hx
 | k + 1, x, hx => by
  rw [roundC] at hx
  rcases List.mem_append.1 hx with hx | hx
  ·exact round_ok hv hs hps hp hto k x hx
  ·unfold groupC at hx
   rcases List.mem_append.1 hx with hx | hx
   ·rcases List.mem_append.1 hx with hx | hx
    ·exact head_ok hv k hs hp x hx
    ·obtain ⟨p, hpp, rfl⟩ := List.mem_map.1 hx
     exact insP_ok hv (hps p hpp)
   ·rw [List.mem_singleton.1 hx]; exact insS_ok hv k hto
end
/-! ### Lengths -/
def nzN (l : List Int) : Nat → Nat
 | 0 => 0
 | k + 1 => nzN l k + if l[k]?.getD 0 = 0 then 0 else 1
def trN (l : List Bool) : Nat → Nat
 | 0 => 0
 | k + 1 => trN l k + if l[k]?.getD false = true then 1 else 0
/-- What a head adds to the length. -/
def headL (s : StepN) : Nat := if s.op = 1 then 3 else if s.op = 2 then 4 else if s.op = 3 then 2 + 2 * nzN s.taps s.taps.length else 2 * trN s.bits s.bits.length
def lenR (rs : List RndN) : Nat → Nat
 | 0 => 0
 | k + 1 => lenR rs k + ((rnAt rs k).pts.length + headL (rnAt rs k).head)
def lenP (P : PipeN) (lanes : Int) : Int := (lenR (rdsN P.inp P.ss) (rdsN P.inp P.ss).length : Int) * grpsN P.w P.h lanes
theorem taps_len (w h : Int) (lanes g : Nat) (p : Int) (s : StepN) : ∀ k, (tapsC w h lanes g p s k).length = 2 * nzN s.taps k
 | 0 => rfl
 | k + 1 => by
  rw [tapsC, List.length_append, taps_len w h lanes g p s k, nzN]
  split <;> simp <;> omega
theorem bits_len (w h : Int) (lanes g : Nat) (p : Int) (s : StepN) : ∀ k, (bitsC w h lanes g p s k).length + (if noBit s k = true then 0 else 1) = 2 * trN s.bits k ∧ (noBit s k = true → trN s.bits k = 0)
 | 0 => by simp [bitsC, noBit, trN]
 | k + 1 => by
  obtain ⟨i1, i2⟩ := bits_len w h lanes g p s k
  have hb : bitAt s k = s.bits[k]?.getD false := rfl
  rw [bitsC, List.length_append, trN, show noBit s (k + 1) = (noBit s k && !bitAt s k) from rfl]
  cases hbit : bitAt s k with
  | false =>
   rw [hbit] at hb
   rw [if_pos rfl, ← hb]
   simp only [Bool.not_false, Bool.and_true, Bool.false_eq_true, if_false, Nat.add_zero, List.length_nil]
   exact ⟨i1, i2⟩
  | true =>
   rw [hbit] at hb
   rw [if_neg (by simp), ← hb]
   simp only [Bool.not_true, Bool.and_false, Bool.false_eq_true, if_false, if_true]
   refine ⟨?_, fun h => by cases h⟩
   cases hnb : noBit s k with
   | true => rw [hnb] at i1; have := i2 hnb; simp at *; omega
   | false => rw [hnb] at i1; simp at *; omega
theorem tr_pos (l : List Bool) : ∀ k, k ≤ l.length → trN l k = 0 → (l.take k).any (fun x => decide (true = x)) = false
 | 0, _, _ => by simp
 | k + 1, hk, h => by
  rw [trN] at h
  rw [List.take_succ_eq_append_getElem (by omega : k < l.length), List.any_append, tr_pos l k (by omega) (by omega)]
  rw [List.getElem?_eq_getElem (by omega)] at h
  cases hx : l[k] with
  | false => simp
  | true => rw [hx] at h; simp at h
theorem group_len {w h : Int} {lanes g : Nat} {F : FnL} {r : RndN} {to : Int} (hs : needB r.head = true) : (groupC w h lanes g F r to).length = r.pts.length + headL r.head := by
 unfold groupC headC headL
 unfold needB at hs
 rw [List.length_append, List.length_append, List.length_map, List.length_singleton]
 by_cases h1 : r.head.op = 1
 ·rw [if_pos h1, if_pos h1]; simp; omega
 rw [if_neg h1] at hs
 rw [if_neg h1, if_neg h1]
 by_cases h2 : r.head.op = 2
 ·rw [if_pos h2, if_pos h2]; simp; omega
 rw [if_neg h2] at hs
 rw [if_neg h2, if_neg h2]
 by_cases h3 : r.head.op = 3
 ·rw [if_pos h3, if_pos h3, List.length_cons, taps_len]; omega
 rw [if_neg h3] at hs
 rw [if_neg h3, if_neg h3]
 obtain ⟨b1, b2⟩ := bits_len w h lanes g (numF (F r.head.a)) r.head r.head.bits.length
 have hsh : shapeOk r.head.sw r.head.sh r.head.bits = true := by
  by_cases h45 : r.head.op = 4 ∨ r.head.op = 5
  ·rw [if_pos h45] at hs; exact hs
  ·rw [if_neg h45] at hs; cases hs
 have hany := (shape_facts hsh).2.2.2.2
 have hne : trN r.head.bits r.head.bits.length ≠ 0 := fun e => by
  have := tr_pos r.head.bits _ (Nat.le_refl _) e
  rw [List.take_length, hany] at this; cases this
 have hnb : noBit r.head r.head.bits.length = false := by
  cases hh : noBit r.head r.head.bits.length with
  | false => rfl
  | true => exact absurd (b2 hh) hne
 rw [hnb] at b1
 simp at b1
 omega
theorem round_len {w h : Int} {lanes : Nat} {F : FnL} {r : RndN} {to : Int} (hs : needB r.head = true) : ∀ k, (roundC w h lanes F r to k).length = (r.pts.length + headL r.head) * k
 | 0 => rfl
 | k + 1 => by rw [roundC, List.length_append, round_len hs k, group_len hs, Nat.mul_succ]
/-- Images of zeros. -/
def zeroPics (P : PipeN) : List PicN := List.replicate P.inp.toNat ⟨P.w, P.h, img P.w.toNat P.h.toNat (fun _ _ => 0)⟩
theorem zero_given {P : PipeN} (hP : pipeB P = true) : givenB (zeroPics P) P.inp P.w P.h = true := by
 obtain ⟨hw, hh, hi, _, _⟩ := pipeB_true hP
 unfold givenB zeroPics
 rw [Bool.and_eq_true, decide_eq_true_eq, List.all_eq_true]
 refine ⟨by simp; omega, fun m hm => ?_⟩
 obtain ⟨_, rfl⟩ := List.mem_replicate.1 hm
 simp [img_vld hw hh]
/-- All compiled instructions are valid; how many there are. -/
theorem cmp_code {P : PipeN} (hP : pipeB P = true) {v : VecN} (hv : VecOk v P.w P.h (P.w.toNat * P.h.toNat) (mostP P)) :
  ∀ k, k ≤ (rdsN P.inp P.ss).length → (∀ x ∈ (cmpS P v.lanes k).code, insB v x = true) ∧ (cmpS P v.lanes k).code.length = lenR (rdsN P.inp P.ss) k * (grpsN P.w P.h v.lanes).toNat
 | 0, _ => by
  obtain ⟨_, h2, _⟩ := cmp_start hP (zero_given hP) hv.ne
  rw [cmpS, h2]
  exact ⟨fun x hx => (by cases hx), by simp [lenR]⟩
 | k + 1, hk => by
  obtain ⟨i1, i2⟩ := cmp_code hP hv k (by omega)
  have hC := cmp_all hP (zero_given hP) hv.ne hv.l.1 k (by omega)
  obtain ⟨code', h1, _, F, to, rfl, ⟨t, ht, rfl⟩, hop⟩ := cmp_round hP (zero_given hP) hv.ne hv.l.1 (show k < (rdsN P.inp P.ss).length by omega) hC
  obtain ⟨_, _, _, _, hall⟩ := pipeB_true hP
  have hhead := (rdsN_ok (refOk_of hP)).head k (by unfold rdsN at hk; omega)
  change (rnAt (rdsN P.inp P.ss) k).at_ < P.ss.length ∧ (rnAt (rdsN P.inp P.ss) k).head = stAt P.ss (rnAt (rdsN P.inp P.ss) k).at_ at hhead
  have hneed := (stepsB_all hall hhead.1).1
  rw [← hhead.2] at hneed
  have hchain := (rds_chain hP (zero_given hP) P.ss.length (Nat.le_refl _) k (by unfold rdsN at hk; omega)).2
  change ∀ p ∈ (rnAt (rdsN P.inp P.ss) k).pts, p.ok = true at hchain
  rw [cmpS, h1]
  refine ⟨fun x hx => ?_, ?_⟩
  ·rcases List.mem_append.1 hx with hx | hx
   ·exact i1 x hx
   ·exact round_ok hv hneed hchain (fun m hm => by obtain ⟨tm, g1, g2⟩ := hop m hm; rw [g2]; exact place_in hv g1) (place_in hv ht) _ x hx
  ·rw [List.length_append, i2, round_len hneed, lenR]; exact (Nat.add_mul _ _ _).symm
theorem nz_le (l : List Int) : ∀ k, nzN l k ≤ k
 | 0 => Nat.le_refl _
 | k + 1 => by have := nz_le l k; rw [nzN]; split <;> omega
theorem tr_le (l : List Bool) : ∀ k, trN l k ≤ k
 | 0 => Nat.le_refl _
 | k + 1 => by have := tr_le l k; rw [trN]; split <;> omega
theorem headL_le {s : StepN} (hs : needB s = true) : headL s ≤ 52 := by
 unfold needB at hs
 unfold headL
 by_cases h1 : s.op = 1
 ·rw [if_pos h1]; omega
 rw [if_neg h1] at hs ⊢
 by_cases h2 : s.op = 2
 ·rw [if_pos h2]; omega
 rw [if_neg h2] at hs ⊢
 by_cases h3 : s.op = 3
 ·rw [if_pos h3] at hs ⊢
  rw [Bool.and_eq_true] at hs
  have := (kern_facts hs.1).2.2.2.1
  have := nz_le s.taps s.taps.length
  omega
 rw [if_neg h3] at hs ⊢
 have hsh : shapeOk s.sw s.sh s.bits = true := by
  by_cases h45 : s.op = 4 ∨ s.op = 5
  ·rw [if_pos h45] at hs; exact hs
  ·rw [if_neg h45] at hs; cases hs
 have := (shape_facts hsh).2.2.2.1
 have := tr_le s.bits s.bits.length
 omega
def sumR (l : List RndN) : Nat := (l.map fun r => r.pts.length + 1).sum
/-- Points and heads together are the steps. -/
theorem pts_count {I : Int} {ss : List StepN} (hr : RefOk I ss) : ∀ k, k ≤ ss.length → sumR (rdsS I (useF ss ss.length) ss k).out = k
 | 0, _ => rfl
 | k + 1, hk => by
  have ih := pts_count hr k (by omega)
  have ok1 := rds_ok hr k (by omega)
  rw [rdsS]
  cases hc : carB I (useF ss ss.length) (stAt ss k) with
  | false =>
   rw [if_neg (by simp)]
   simp only
   unfold sumR at ih ⊢
   rw [List.map_append, List.sum_append, ih]; simp
  | true =>
   rw [if_pos rfl]
   obtain ⟨t, ht, hof, hres⟩ := of_here ok1 hr (by omega) hc
   rw [hof]
   have htn : (numF (some (ilit (t : Int)))).toNat = t := by show ((t : Int)).toNat = t; simp
   rw [htn]
   obtain ⟨l, hl⟩ : ∃ l, (rdsS I (useF ss ss.length) ss k).out = l := ⟨_, rfl⟩
   rw [hl] at ih ht ⊢
   simp only
   unfold sumR at ih ⊢
   have key : ∀ (l : List RndN) (t : Nat), t < l.length → ((l.set t (carR (rnAt l t) (stAt ss k).pt (I + k))).map fun r => r.pts.length + 1).sum = (l.map fun r => r.pts.length + 1).sum + 1 := by
    intro l
    induction l with
    | nil => intro t h; simp at h
    | cons a l ih =>
     intro t h
     cases t with
     | zero => simp [rnAt, carR]; omega
     | succ t =>
      have := ih t (by simpa using h)
      simp only [List.set_cons_succ, List.map_cons, List.sum_cons]
      have e : rnAt (a :: l) (t + 1) = rnAt l t := by simp [rnAt]
      rw [e, this]; omega
   rw [key l t ht, ih]
theorem lenR_le {P : PipeN} (hP : pipeB P = true) : lenR (rdsN P.inp P.ss) (rdsN P.inp P.ss).length ≤ 52 * P.ss.length := by
 obtain ⟨_, _, _, _, hall⟩ := pipeB_true hP
 have hr := refOk_of hP
 have h1 := pts_count hr P.ss.length (Nat.le_refl _)
 change sumR (rdsN P.inp P.ss) = _ at h1
 unfold sumR at h1
 have hneed : ∀ q, q < (rdsN P.inp P.ss).length → needB (rnAt (rdsN P.inp P.ss) q).head = true := fun q hq => by
  have hhead := (rdsN_ok hr).head q hq
  change (rnAt (rdsN P.inp P.ss) q).at_ < P.ss.length ∧ (rnAt (rdsN P.inp P.ss) q).head = stAt P.ss (rnAt (rdsN P.inp P.ss) q).at_ at hhead
  rw [hhead.2]; exact (stepsB_all hall hhead.1).1
 obtain ⟨rs, hrs⟩ : ∃ rs, rdsN P.inp P.ss = rs := ⟨_, rfl⟩
 rw [hrs] at h1 hneed ⊢
 rw [← h1]
 suffices key : ∀ k, k ≤ rs.length → lenR rs k ≤ 52 * ((rs.take k).map fun r => r.pts.length + 1).sum by
  have := key rs.length (Nat.le_refl _)
  rwa [List.take_length] at this
 intro k
 induction k with
 | zero => intro _; simp [lenR]
 | succ k ih =>
  intro hk
  have := ih (by omega)
  have hb := headL_le (hneed k (by omega))
  have e : rnAt rs k = rs[k] := by unfold rnAt; rw [List.getElem?_eq_getElem (by omega)]; rfl
  rw [lenR, List.take_succ_eq_append_getElem (by omega : k < rs.length), List.map_append, List.sum_append]
  simp only [List.map_cons, List.map_nil, List.sum_cons, List.sum_nil]
  rw [e] at hb ⊢
  omega
theorem grps_le {w h lanes : Int} (hw : 1 ≤ w ∧ w ≤ 16) (hh : 1 ≤ h ∧ h ≤ 16) (hl : 1 ≤ lanes ∧ lanes ≤ 16) : 0 ≤ grpsN w h lanes ∧ grpsN w h lanes ≤ 256 := by
 have h1 := prod_bd (a := w) (x := h) (m := 16) (n := 16) (by omega) (by omega) (by omega) (by omega) (by omega)
 have h0 := Int.mul_pos (show 0 < w by omega) (show 0 < h by omega)
 unfold grpsN
 refine ⟨Int.ediv_nonneg (by omega) (by omega), ?_⟩
 have : (w * h + lanes - 1) / lanes < 257 := Int.ediv_lt_of_lt_mul (by omega) (by
  have : w * h ≤ 256 := by omega
  have := Int.mul_le_mul_of_nonneg_left hl.1 (show (0 : Int) ≤ 257 by omega)
  omega)
 omega
/-- The compiled code is valid, and as long as Length says. -/
theorem cmp_valid {P : PipeN} (hP : pipeB P = true) {v : VecN} (hvec : vecB v = true) (hroom : roomP P ≤ v.mem) : chkS v (cmpC P v) = 0 ∧ ((cmpC P v).ins.length : Int) = lenP P v.lanes := by
 have hP' := hP
 obtain ⟨hw, hh, hi, ⟨l1, l2⟩, hall⟩ := pipeB_true hP
 unfold vecB at hvec
 simp only [Bool.and_eq_true, inR_true] at hvec
 have hn : ((P.w.toNat * P.h.toNat : Nat) : Int) = P.w * P.h := by push_cast; rw [Int.toNat_of_nonneg (by omega), Int.toNat_of_nonneg (by omega)]
 have hv : VecOk v P.w P.h (P.w.toNat * P.h.toNat) (mostP P) := ⟨hvec.1, hvec.2.1, hw, hh, hn, by rw [hn, ← Int.mul_assoc]; exact hroom⟩
 obtain ⟨c1, c2⟩ := cmp_code hP hv (rdsN P.inp P.ss).length (Nat.le_refl _)
 obtain ⟨_, _, s3, s4⟩ := cmp_start hP (zero_given hP) hn
 obtain ⟨⟨t, t1, t2⟩, _⟩ := cmp_result hP (zero_given hP) hvec.1.1
 have hlen := lenR_le hP
 have hgr := grps_le hw hh hvec.1
 have hcl : (cmpS P v.lanes (rdsN P.inp P.ss).length).code.length ≤ 200000 := by
  rw [c2]
  have := Nat.mul_le_mul (show lenR (rdsN P.inp P.ss) (rdsN P.inp P.ss).length ≤ 52 * 12 by omega) (show (grpsN P.w P.h v.lanes).toNat ≤ 256 by omega)
  omega
 refine ⟨?_, ?_⟩
 ·have hb : codeB v (cmpC P v) = true := by
   unfold codeB cmpC
   simp only [Bool.and_eq_true, inR_true, decide_eq_true_eq, List.all_eq_true]
   have hp := place_in hv t1
   rw [← t2] at hp
   refine ⟨⟨hw, hh⟩, by omega, hcl, by omega, fun x hx => ?_, c1⟩
   rcases s3 x hx with e | ⟨u, u1, u2⟩
   ·simp [e]
   ·have := place_in hv u1
    simp only [Bool.or_eq_true, decide_eq_true_eq, inR_true]
    right
    rw [u2]; omega
  have hvb : vecB v = true := by unfold vecB; simp only [Bool.and_eq_true, inR_true]; exact hvec
  unfold chkS
  rw [if_pos hvb, if_pos hb]
 ·show ((cmpS P v.lanes (rdsN P.inp P.ss).length).code.length : Int) = _
  rw [c2]
  unfold lenP
  push_cast
  rw [Int.toNat_of_nonneg hgr.1]
/-- THE STAGE'S THEOREM, in plain numbers: the code that is compiled gives the meaning. -/
theorem cmp_mean {P : PipeN} (hP : pipeB P = true) {v : VecN} (hvec : vecB v = true) (hroom : roomP P ≤ v.mem) {ms : List PicN} (hg : givenB ms P.inp P.w P.h = true) : runS v (cmpC P v) ms = meanS P ms := by
 obtain ⟨hc, _⟩ := cmp_valid hP hvec hroom
 unfold vecB at hvec
 simp only [Bool.and_eq_true, inR_true] at hvec
 obtain ⟨hw, hh, hi, hl, _⟩ := pipeB_true hP
 obtain ⟨_, _, s3, s4⟩ := cmp_start (ms := ms) hP hg (n := P.w.toNat * P.h.toNat) (by push_cast; rw [Int.toNat_of_nonneg (by omega), Int.toNat_of_nonneg (by omega)])
 obtain ⟨_, r2⟩ := cmp_result hP hg hvec.1.1
 have hin : ((cmpC P v).inp.length : Int) = P.inp := by show ((cmp0 P (mostP P)).inp.length : Int) = _; omega
 have hmean : (meanN P ms).w = P.w ∧ (meanN P ms).h = P.h := by
  have hl' := givenB_len hg
  have : meanN P ms = imN P ms (lastI P) := by
   unfold meanN imN lastI
   congr 1
   omega
  rw [this]
  have hpic := imN_all hP hg P.ss.length (Nat.le_refl _) (lastI P) (by unfold lastI; omega) (by unfold lastI; omega)
  exact ⟨hpic.we, hpic.he⟩
 unfold runS meanS
 rw [if_pos hc, hin, show (cmpC P v).w = P.w from rfl, show (cmpC P v).h = P.h from rfl, if_pos hg, if_pos hP, if_pos hg, hmean.1, hmean.2]
 congr 1
 have : mac0 (cmpC P v) ms = ⟨fun _ _ => 0, memN (cmp0 P (mostP P)).inp ms P.inp.toNat⟩ := by
  unfold mac0
  show (⟨_, memN (cmp0 P (mostP P)).inp ms (cmp0 P (mostP P)).inp.length⟩ : MacN) = _
  rw [s4]
 rw [this]
 exact r2
end Go.Proofs.YtekiemlniegddaaGreat
namespace Go.Proofs.YtekiemlniegddaaGreat
open Go Go.RowKit Go.Shelf
def RegB (lanes R : Nat) (M : MacN) : Prop := ∀ r, r < R → ∀ k, k < lanes → -1152921504606846976 ≤ M.regs r k ∧ M.regs r k ≤ 1152921504606846976
def MemB (N : Nat) (M : MacN) : Prop := ∀ i, i < N → -2147483648 ≤ M.mem i ∧ M.mem i ≤ 2147483648
theorem wide_bd (v : Int) : -1152921504606846976 ≤ wide v ∧ wide v ≤ 1152921504606846976 := by unfold wide clamp; omega
theorem adr_in {v : VecN} {x : InsN} (h : adrB v x.ad = true) : (x.ad.length : Int) = v.lanes ∧ ∀ k, k < x.ad.length → -1 ≤ adOf x k ∧ adOf x k < v.mem := by
 unfold adrB at h
 rw [Bool.and_eq_true, decide_eq_true_eq, List.all_eq_true] at h
 refine ⟨h.1, fun k hk => ?_⟩
 have := inR_true.1 (h.2 _ (List.getElem_mem hk))
 unfold adOf
 rw [List.getElem?_eq_getElem hk]
 show -1 ≤ x.ad[k] ∧ x.ad[k] < v.mem
 omega
theorem sto_bd {N : Nat} {ad v : Nat → Int} {m : Nat → Int} (hv : ∀ k, -2147483648 ≤ v k ∧ v k ≤ 2147483648) (hm : ∀ i, i < N → -2147483648 ≤ m i ∧ m i ≤ 2147483648) : ∀ k i, i < N → -2147483648 ≤ stoM ad v m k i ∧ stoM ad v m k i ≤ 2147483648
 | 0, i, hi => hm i hi
 | k + 1, i, hi => by
  unfold stoM
  split
  ·exact hv k
  ·exact sto_bd hv hm k i hi
theorem setR_bd {lanes R d : Nat} {M : MacN} {f : Nat → Int} (h : RegB lanes R M) (hf : ∀ k, k < lanes → -1152921504606846976 ≤ f k ∧ f k ≤ 1152921504606846976) : RegB lanes R (setR M d f) := by
 intro r hr k hk
 unfold setR
 simp only
 split
 ·exact hf k hk
 ·exact h r hr k hk
/-- A valid instruction is one of six, and its registers are there. -/
theorem ins_op {v : VecN} {x : InsN} (h : insB v x = true) : 1 ≤ x.op ∧ x.op ≤ 6 := by
 unfold insB at h
 by_cases h1 : x.op = 1
 ·omega
 by_cases h2 : x.op = 2
 ·omega
 by_cases h3 : x.op = 3
 ·omega
 by_cases h4 : x.op = 4
 ·omega
 by_cases h5 : x.op = 5
 ·omega
 by_cases h6 : x.op = 6
 ·omega
 rw [if_neg h1, if_neg h2, if_neg h3, if_neg h4, if_neg h5, if_neg h6] at h
 cases h
theorem ins_1 {v : VecN} {x : InsN} (h : insB v x = true) (hO : x.op = 1) : (0 ≤ x.d ∧ x.d < v.regs) ∧ (-2147483648 ≤ x.val ∧ x.val ≤ 2147483648) ∧ adrB v x.ad = true := by
 unfold insB at h; rw [if_pos hO] at h
 simp only [Bool.and_eq_true, inR_true] at h
 exact ⟨⟨h.1.1, by omega⟩, h.2.1, h.2.2⟩
theorem ins_2 {v : VecN} {x : InsN} (h : insB v x = true) (hO : x.op = 2) : (0 ≤ x.a ∧ x.a < v.regs) ∧ adrB v x.ad = true := by
 unfold insB at h; rw [if_neg (by omega), if_pos hO] at h
 simp only [Bool.and_eq_true, inR_true] at h
 exact ⟨⟨h.1.1, by omega⟩, h.2⟩
theorem ins_3 {v : VecN} {x : InsN} (h : insB v x = true) (hO : x.op = 3) : (0 ≤ x.d ∧ x.d < v.regs) ∧ (-2147483648 ≤ x.val ∧ x.val ≤ 2147483648) := by
 unfold insB at h; rw [if_neg (by omega), if_neg (by omega), if_pos hO] at h
 simp only [Bool.and_eq_true, inR_true] at h
 exact ⟨⟨h.1.1, by omega⟩, h.2⟩
theorem ins_4 {v : VecN} {x : InsN} (h : insB v x = true) (hO : x.op = 4) : (0 ≤ x.d ∧ x.d < v.regs) ∧ (0 ≤ x.a ∧ x.a < v.regs) ∧ x.pt.ok = true := by
 unfold insB at h; rw [if_neg (by omega), if_neg (by omega), if_neg (by omega), if_pos hO] at h
 simp only [Bool.and_eq_true, inR_true] at h
 exact ⟨⟨h.1.1, by omega⟩, ⟨h.2.1.1, by omega⟩, h.2.2⟩
theorem ins_5 {v : VecN} {x : InsN} (h : insB v x = true) (hO : x.op = 5) : (0 ≤ x.d ∧ x.d < v.regs) ∧ (0 ≤ x.a ∧ x.a < v.regs) ∧ (0 ≤ x.b ∧ x.b < v.regs) ∧ (1 ≤ x.how ∧ x.how ≤ 6) := by
 unfold insB at h; rw [if_neg (by omega), if_neg (by omega), if_neg (by omega), if_neg (by omega), if_pos hO] at h
 simp only [Bool.and_eq_true, inR_true] at h
 exact ⟨⟨h.1.1, by omega⟩, ⟨h.2.1.1, by omega⟩, ⟨h.2.2.1.1, by omega⟩, h.2.2.2⟩
theorem ins_6 {v : VecN} {x : InsN} (h : insB v x = true) (hO : x.op = 6) : (0 ≤ x.d ∧ x.d < v.regs) ∧ (0 ≤ x.a ∧ x.a < v.regs) ∧ (-65536 ≤ x.val ∧ x.val ≤ 65536) := by
 unfold insB at h; rw [if_neg (by omega), if_neg (by omega), if_neg (by omega), if_neg (by omega), if_neg (by omega), if_pos hO] at h
 simp only [Bool.and_eq_true, inR_true] at h
 exact ⟨⟨h.1.1, by omega⟩, ⟨h.2.1.1, by omega⟩, h.2.2⟩
theorem step_bd (v : VecN) (x : InsN) (hx : insB v x = true) (M : MacN) (hr : RegB v.lanes.toNat v.regs.toNat M) (hm : MemB v.mem.toNat M) : RegB v.lanes.toNat v.regs.toNat (stepM v.lanes.toNat x M) ∧ MemB v.mem.toNat (stepM v.lanes.toNat x M) := by
 have hop := ins_op hx
 have small : ∀ {y : Int}, -2147483648 ≤ y ∧ y ≤ 2147483648 → -1152921504606846976 ≤ y ∧ y ≤ 1152921504606846976 := fun h => by omega
 unfold stepM
 by_cases h1 : x.op = 1
 ·rw [if_pos h1]
  obtain ⟨hd, hv, ha⟩ := ins_1 hx h1
  obtain ⟨hl, hin⟩ := adr_in ha
  refine ⟨setR_bd hr fun k hk => ?_, hm⟩
  split
  ·exact small (hm _ (by have := hin k (by omega); omega))
  ·exact small hv
 rw [if_neg h1]
 by_cases h2 : x.op = 2
 ·rw [if_pos h2]
  exact ⟨hr, fun i hi => sto_bd (fun k => pix_bd _) hm _ i hi⟩
 rw [if_neg h2]
 by_cases h3 : x.op = 3
 ·rw [if_pos h3]
  exact ⟨setR_bd hr fun k hk => small (ins_3 hx h3).2, hm⟩
 rw [if_neg h3]
 by_cases h4 : x.op = 4
 ·rw [if_pos h4]
  exact ⟨setR_bd hr fun k hk => small (pix_bd _), hm⟩
 rw [if_neg h4]
 by_cases h5 : x.op = 5
 ·rw [if_pos h5]
  exact ⟨setR_bd hr fun k hk => small (pix_bd _), hm⟩
 rw [if_neg h5]
 by_cases h6 : x.op = 6
 ·rw [if_pos h6]
  exact ⟨setR_bd hr fun k hk => wide_bd _, hm⟩
 omega
end Go.Proofs.YtekiemlniegddaaGreat

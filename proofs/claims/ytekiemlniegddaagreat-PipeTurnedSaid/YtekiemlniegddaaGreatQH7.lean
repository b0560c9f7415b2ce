/- Contracts and laws (PcE, PcF, PFt, PMn). -/
import Derived.Test.YtekiemlniegddaaGreatQH6
import Derived.Test.YtekiemlniegddaaGreatQH4
import Derived.Test.YtekiemlniegddaaGreatQH2
import Derived.Test.YtekiemlniegddaaGreatQH5
set_option linter.unusedVariables false
set_option linter.unusedSimpArgs false
namespace Go.Proofs.YtekiemlniegddaaGreat
open Go Go.RowKit Go.Shelf
theorem px_imgE {pw ph : Nat} {g : Int → Int → Int} {i : Nat} (hi : i < pw * ph) : px (img pw ph g) (i : Int) = pix (g (cX pw i) (cY pw i)) := by
 unfold px img
 rw [Int.toNat_natCast, List.getElem?_map, List.getElem?_range hi]; rfl
theorem img_vld {w h : Int} (hw : 1 ≤ w ∧ w ≤ 16) (hh : 1 ≤ h ∧ h ≤ 16) (g : Int → Int → Int) : vld w h (img w.toNat h.toNat g) = true := by
 unfold vld
 rw [img_length]
 have h1 : ((w.toNat * h.toNat : Nat) : Int) = w * h := by push_cast; rw [Int.toNat_of_nonneg (by omega), Int.toNat_of_nonneg (by omega)]
 have h2 : allIn (-2147483648) 2147483648 (img w.toNat h.toNat g) = true := by
  unfold allIn img
  rw [List.all_eq_true]
  intro x hx
  obtain ⟨i, _, rfl⟩ := List.mem_map.1 hx
  have := clamp_bd (g (cX w.toNat i) (cY w.toNat i))
  simp; omega
 rw [h1, h2]
 simp [inR, hw.1, hw.2, hh.1, hh.2]
/-- A valid image of a size. -/
structure PicOk (w h : Int) (m : PicN) : Prop where
 we : m.w = w
 he : m.h = h
 v : vld w h m.px = true
/-- A valid step on valid images gives a valid image; its values. -/
def stepG (s : StepN) (A B : PicN) (w : Int) (h : Int) : Int → Int → Int :=
 if s.op = 1 then pointG w A.px s.pt else if s.op = 2 then zipG w A.px B.px s.how else if s.op = 3 then convG s.bd w h A.px s.kw.toNat s.kh.toNat s.taps else if s.op = 4 then morG true w h A.px s.sw.toNat s.sh.toNat s.bits else morG false w h A.px s.sw.toNat s.sh.toNat s.bits
theorem appS_ok {s : StepN} {ms : List PicN} {w h : Int} (hn : needB s = true) (hA : PicOk w h (picAt ms s.a.toNat)) (hB : s.op = 2 → PicOk w h (picAt ms s.b.toNat)) :
  appS s ms = { w := w, h := h, px := img w.toNat h.toNat (stepG s (picAt ms s.a.toNat) (picAt ms s.b.toNat) w h), err := 0 } := by
 obtain ⟨a1, a2, a3⟩ := hA
 unfold needB at hn
 unfold appS stepG
 by_cases h1 : s.op = 1
 ·rw [if_pos h1] at hn ⊢
  rw [if_pos h1]
  unfold pointS
  rw [a1, a2, if_pos a3, if_pos hn]
 rw [if_neg h1] at hn ⊢
 rw [if_neg h1]
 by_cases h2 : s.op = 2
 ·obtain ⟨b1, b2, b3⟩ := hB h2
  rw [if_pos h2] at hn ⊢
  rw [if_pos h2]
  unfold zipS
  rw [a1, a2, b1, b2, if_pos a3, if_pos b3, if_pos (by simp), if_pos hn]
 rw [if_neg h2] at hn ⊢
 rw [if_neg h2]
 by_cases h3 : s.op = 3
 ·rw [if_pos h3] at hn ⊢
  rw [if_pos h3]
  rw [Bool.and_eq_true] at hn
  unfold convS
  rw [a1, a2, if_pos a3, if_pos hn.1, if_pos hn.2]
 rw [if_neg h3] at hn ⊢
 rw [if_neg h3]
 by_cases h4 : s.op = 4
 ·rw [if_pos (.inl h4)] at hn
  rw [if_pos h4, if_pos h4]
  unfold morS
  rw [a1, a2, if_pos a3, if_pos hn]
 rw [if_neg h4]
 by_cases h5 : s.op = 5
 ·rw [if_pos (.inr h5)] at hn
  rw [if_pos h5, if_neg h4]
  unfold morS
  rw [a1, a2, if_pos a3, if_pos hn]
 rw [if_neg (by rintro (h | h); exact h4 h; exact h5 h)] at hn
 cases hn
theorem PicOk.img {w h : Int} (hw : 1 ≤ w ∧ w ≤ 16) (hh : 1 ≤ h ∧ h ≤ 16) (g : Int → Int → Int) : PicOk w h ⟨w, h, img w.toNat h.toNat g⟩ := ⟨rfl, rfl, img_vld hw hh g⟩
theorem sideB_nn {n : Int} (h : n = 1 ∨ n = 3 ∨ n = 5) : ((n.toNat : Nat) : Int) = n := Int.toNat_of_nonneg (by omega)
theorem kern_facts {kw kh : Int} {taps : List Int} (h : kernOk kw kh taps = true) : ((kw.toNat : Nat) : Int) = kw ∧ ((kh.toNat : Nat) : Int) = kh ∧ kw.toNat * kh.toNat = taps.length ∧ taps.length ≤ 25 ∧ allIn (-65536) 65536 taps = true := by
 unfold kernOk at h
 rw [Bool.and_eq_true] at h
 obtain ⟨h1, h2, h3⟩ := sidesB_true h.1
 have e1 := sideB_nn h1
 have e2 := sideB_nn h2
 have e3 : ((kw.toNat * kh.toNat : Nat) : Int) = taps.length := by push_cast; rw [e1, e2, h3]
 have e4 : kw.toNat * kh.toNat ≤ 5 * 5 := Nat.mul_le_mul (by omega) (by omega)
 exact ⟨e1, e2, by omega, by omega, h.2⟩
theorem shape_facts {sw sh : Int} {bits : List Bool} (h : shapeOk sw sh bits = true) : ((sw.toNat : Nat) : Int) = sw ∧ ((sh.toNat : Nat) : Int) = sh ∧ sw.toNat * sh.toNat = bits.length ∧ bits.length ≤ 25 ∧ bits.any (fun x => decide (true = x)) = true := by
 unfold shapeOk at h
 rw [Bool.and_eq_true] at h
 obtain ⟨h1, h2, h3⟩ := sidesB_true h.1
 have e1 := sideB_nn h1
 have e2 := sideB_nn h2
 have e3 : ((sw.toNat * sh.toNat : Nat) : Int) = bits.length := by push_cast; rw [e1, e2, h3]
 have e4 : sw.toNat * sh.toNat ≤ 5 * 5 := Nat.mul_le_mul (by omega) (by omega)
 exact ⟨e1, e2, by omega, by omega, h.2⟩
theorem noBit_any (s : StepN) : ∀ k, k ≤ s.bits.length → noBit s k = true → (s.bits.take k).any (fun x => decide (true = x)) = false
 | 0, _, _ => by simp
 | k + 1, hk, h => by
  unfold noBit at h
  rw [Bool.and_eq_true] at h
  rw [List.take_succ_eq_append_getElem (by omega : k < s.bits.length), List.any_append, noBit_any s k (by omega) h.1]
  have : s.bits[k] = false := by
   have h2 := h.2
   unfold bitAt at h2
   rw [List.getElem?_eq_getElem (by omega)] at h2
   simpa using h2
  rw [this]; simp
section
variable {w h : Int} {lanes g j n : Nat}
/-- Behind the head's instructions: the register 0, brought into the range of values, has the image's value. -/
theorem head_run (hw : 1 ≤ w ∧ w ≤ 16) (hh : 1 ≤ h ∧ h ≤ 16) (hn : (n : Int) = w * h) (hj : j < lanes) (hi : g * lanes + j < n) {s : StepN} {A B : PicN} (hs : needB s = true) (hA : PicOk w h A) (hB : s.op = 2 → PicOk w h B) {F : FnL} {M : MacN}
    (mA : AtImg M.mem (numF (F s.a)) A.px n) (mB : s.op = 2 → AtImg M.mem (numF (F s.b)) B.px n) :
    (runM lanes (headC w h lanes g F s) M).mem = M.mem ∧ pix ((runM lanes (headC w h lanes g F s) M).regs 0 j) = px (img w.toNat h.toNat (stepG s A B w h)) ((g * lanes + j : Nat) : Int) := by
  have hwn : ((w.toNat : Nat) : Int) = w := Int.toNat_of_nonneg (by omega)
  have hhn : ((h.toNat : Nat) : Int) = h := Int.toNat_of_nonneg (by omega)
  have hnn : w.toNat * h.toNat = n := by have : ((w.toNat * h.toNat : Nat) : Int) = n := by push_cast; rw [hwn, hhn, hn]
                                         omega
  have hx := (vld_true hA.v).2.2.2
  obtain ⟨i, hie⟩ : ∃ i, g * lanes + j = i := ⟨_, rfl⟩
  have hcx : cX w.toNat i = (i : Int) % w := by unfold cX; rw [← hwn]; push_cast; simp
  have hcy : cY w.toNat i = (i : Int) / w := by unfold cY; rw [← hwn]; push_cast; simp
  have hxy : (i : Int) / w * w + (i : Int) % w = i := by rw [Int.mul_comm]; exact Int.mul_ediv_add_emod _ _
  rw [hie] at hi
  rw [hie, px_imgE (by rw [hnn]; exact hi), hcx, hcy]
  unfold headC stepG
  unfold needB at hs
  by_cases h1 : s.op = 1
  · rw [if_pos h1, if_pos h1]
    rw [runM_cons, runM_cons, runM_nil]
    refine ⟨rfl, ?_⟩
    show pix (pix (pointF s.pt (pix ((stepM lanes (insL w h lanes g 0 (numF (F s.a)) 0 0 0 0) M).regs (0 : Int).toNat j)))) = _
    rw [insL_at hw.1 hh.1 hn hj (by rw [hie]; exact hi) mA rfl, hie, ldV_zero hw.1 hh.1 hn hi, pix_id (px_bd hx _).1 (px_bd hx _).2, pix_pix]
    unfold pointG
    rw [hxy]
  rw [if_neg h1] at hs
  rw [if_neg h1, if_neg h1]
  by_cases h2 : s.op = 2
  · have hy := (vld_true (hB h2).v).2.2.2
    rw [if_pos h2, if_pos h2]
    rw [runM_cons, runM_cons, runM_cons, runM_nil]
    refine ⟨rfl, ?_⟩
    show pix (pix (zipF s.how (pix ((stepM lanes (insL w h lanes g 1 (numF (F s.b)) 0 0 0 0) (stepM lanes (insL w h lanes g 0 (numF (F s.a)) 0 0 0 0) M)).regs (0 : Int).toNat j)) (pix ((stepM lanes (insL w h lanes g 1 (numF (F s.b)) 0 0 0 0) (stepM lanes (insL w h lanes g 0 (numF (F s.a)) 0 0 0 0) M)).regs (1 : Int).toNat j)))) = _
    rw [insL_other (by decide), insL_at hw.1 hh.1 hn hj (by rw [hie]; exact hi) mA rfl, insL_at (M := stepM lanes (insL w h lanes g 0 (numF (F s.a)) 0 0 0 0) M) hw.1 hh.1 hn hj (by rw [hie]; exact hi) (show AtImg (stepM lanes (insL w h lanes g 0 (numF (F s.a)) 0 0 0 0) M).mem _ _ _ from mB h2) rfl, hie, ldV_zero hw.1 hh.1 hn hi, ldV_zero hw.1 hh.1 hn hi, pix_id (px_bd hx _).1 (px_bd hx _).2, pix_id (px_bd hy _).1 (px_bd hy _).2, pix_pix]
    unfold zipG
    rw [hxy]
  rw [if_neg h2] at hs
  rw [if_neg h2, if_neg h2]
  by_cases h3 : s.op = 3
  · rw [if_pos h3] at hs
    rw [if_pos h3, if_pos h3]
    rw [Bool.and_eq_true, decide_eq_true_eq] at hs
    obtain ⟨k1, k2, k3, k4, k5⟩ := kern_facts hs.1
    rw [runM_cons]
    obtain ⟨t1, t2, _, _⟩ := taps_run hw.1 hh.1 hn hj (by rw [hie]; exact hi) (kw := s.kw.toNat) (kh := s.kh.toNat) k1.symm k2.symm hx k5 hs.2 k4 s.taps.length (stepM lanes insC M) (Nat.le_refl _) mA rfl
    refine ⟨t1, ?_⟩
    rw [t2, hie]
    unfold convG
    rw [k3]
  rw [if_neg h3] at hs
  rw [if_neg h3, if_neg h3]
  have hop : (s.op = 4 ∨ s.op = 5) ∧ shapeOk s.sw s.sh s.bits = true := by
    by_cases h45 : s.op = 4 ∨ s.op = 5
    · rw [if_pos h45] at hs; exact ⟨h45, hs⟩
    · rw [if_neg h45] at hs; cases hs
  obtain ⟨k1, k2, k3, k4, k5⟩ := shape_facts hop.2
  have fin : ∀ mx : Bool, (mx = true ∧ s.op = 4 ∨ mx = false ∧ s.op = 5) → (runM lanes (bitsC w h lanes g (numF (F s.a)) s s.bits.length) M).mem = M.mem ∧ pix ((runM lanes (bitsC w h lanes g (numF (F s.a)) s s.bits.length) M).regs 0 j) = pix (morG mx w h A.px s.sw.toNat s.sh.toNat s.bits ((i : Int) % w) ((i : Int) / w)) := fun mx hmx => by
    obtain ⟨t1, t2⟩ := bits_run hw.1 hh.1 hn hj (by rw [hie]; exact hi) (sw := s.sw.toNat) (sh := s.sh.toNat) k1.symm k2.symm hmx hx s.bits.length M mA
    refine ⟨t1, ?_⟩
    rcases t2 with ⟨e, _⟩ | ⟨_, e⟩
    · have := noBit_any s s.bits.length (Nat.le_refl _) e
      rw [List.take_length, k5] at this; cases this
    · rw [e, hie]
      unfold morG
      rw [k3]
  rcases hop.1 with h4 | h5
  · rw [if_pos h4]; exact fin true (.inl ⟨rfl, h4⟩)
  · rw [if_neg (by omega)]; exact fin false (.inr ⟨rfl, h5⟩)
/-- Points that are carried. -/
def ptsN (m : PicN) (l : List PointN) : PicN := l.foldl (fun m p => resN (pointS m.w m.h m.px p)) m
theorem ptsN_snoc (m : PicN) (l : List PointN) (p : PointN) : ptsN m (l ++ [p]) = resN (pointS (ptsN m l).w (ptsN m l).h (ptsN m l).px p) := by unfold ptsN; rw [List.foldl_append]; rfl
theorem point_ok {w h : Int} (hw : 1 ≤ w ∧ w ≤ 16) (hh : 1 ≤ h ∧ h ≤ 16) {m : PicN} (hm : PicOk w h m) {p : PointN} (hp : p.ok = true) : resN (pointS m.w m.h m.px p) = ⟨w, h, img w.toNat h.toNat (pointG w m.px p)⟩ := by
 obtain ⟨a1, a2, a3⟩ := hm
 unfold pointS
 rw [a1, a2, if_pos a3, if_pos hp]; rfl
theorem pts_run (hw : 1 ≤ w ∧ w ≤ 16) (hh : 1 ≤ h ∧ h ≤ 16) (hn : (n : Int) = w * h) {i : Nat} (hi : i < n) : ∀ (l : List PointN) (m : PicN) (M : MacN), (∀ p ∈ l, p.ok = true) → PicOk w h m → pix (M.regs 0 j) = px m.px (i : Int) →
    PicOk w h (ptsN m l) ∧ (runM lanes (l.map insP) M).mem = M.mem ∧ pix ((runM lanes (l.map insP) M).regs 0 j) = px (ptsN m l).px (i : Int)
  | [], m, M, _, hm, he => ⟨hm, rfl, he⟩
  | p :: l, m, M, hp, hm, he => by
    have hwn : ((w.toNat : Nat) : Int) = w := Int.toNat_of_nonneg (by omega)
    have hhn : ((h.toNat : Nat) : Int) = h := Int.toNat_of_nonneg (by omega)
    have hnn : w.toNat * h.toNat = n := by have : ((w.toNat * h.toNat : Nat) : Int) = n := by push_cast; rw [hwn, hhn, hn]
                                           omega
    have e := point_ok hw hh hm (hp p (by simp))
    have hstep : pix ((stepM lanes (insP p) M).regs 0 j) = px (resN (pointS m.w m.h m.px p)).px (i : Int) := by
      show pix (pix (pointF p (pix (M.regs (0 : Int).toNat j)))) = _
      rw [pix_pix]
      show pix (pointF p (pix (M.regs 0 j))) = _
      rw [he, e]
      show _ = px (img w.toNat h.toNat (pointG w m.px p)) (i : Int)
      rw [px_imgE (by rw [hnn]; exact hi)]
      unfold pointG cX cY
      have : ((i / w.toNat : Nat) : Int) * w + ((i % w.toNat : Nat) : Int) = i := by
        rw [← hwn]; push_cast; rw [Int.toNat_natCast]
        have := Nat.div_add_mod i w.toNat
        rw [Nat.mul_comm] at this
        exact_mod_cast this
      rw [this]
    have hm2 : PicOk w h (resN (pointS m.w m.h m.px p)) := by rw [e]; exact PicOk.img hw hh _
    obtain ⟨r1, r2, r3⟩ := pts_run hw hh hn hi l _ (stepM lanes (insP p) M) (fun q hq => hp q (by simp [hq])) hm2 hstep
    exact ⟨r1, r2, r3⟩
theorem cell_same (hw : 1 ≤ w) (hh : 1 ≤ h) (hn : (n : Int) = w * h) {i : Nat} (hi : i < n) : cellN w h ((i : Int) % w + 0) ((i : Int) / w + 0) 0 = i := by
 have h1 := Int.emod_nonneg (i : Int) (show w ≠ 0 by omega)
 have h2 := Int.emod_lt_of_pos (i : Int) (show 0 < w by omega)
 have h3 : 0 ≤ (i : Int) / w := Int.ediv_nonneg (by omega) (by omega)
 have h4 : (i : Int) / w < h := Int.ediv_lt_of_lt_mul (by omega) (by rw [Int.mul_comm]; omega)
 have h5 : (i : Int) / w * w + (i : Int) % w = i := by rw [Int.mul_comm]; exact Int.mul_ediv_add_emod _ _
 rw [Int.add_zero, Int.add_zero]
 unfold cellN cellX
 simp only [show ¬ (0 : Int) = 2 by decide, show ¬ (0 : Int) = 3 by decide, if_false]
 rw [if_pos (by simp only [Bool.and_eq_true, inR_true]; omega)]
 exact h5
theorem adr_same (hw : 1 ≤ w) (hh : 1 ≤ h) (hn : (n : Int) = w * h) (to : Int) (hto : 0 ≤ to) (hj : j < lanes) : adrAt w h lanes g to 0 0 0 j = if g * lanes + j < n then to + ((g * lanes + j : Nat) : Int) else -1 := by
 unfold adrAt
 by_cases hi : g * lanes + j < n
 ·rw [if_pos (by rw [← hn]; exact Int.ofNat_lt.2 hi), cell_same hw hh hn hi, if_pos (by omega), if_pos hi]
 ·rw [if_neg (by rw [← hn]; omega), if_neg hi]
/-- What a store leaves. -/
theorem sto_at {ad v : Nat → Int} {mem : Nat → Int} {to : Int} (hto : 0 ≤ to) (b : Nat) (had : ∀ j, j < lanes → ad j = if b + j < n then to + ((b + j : Nat) : Int) else -1) :
  ∀ k, k ≤ lanes → ∀ x : Nat, stoM ad v mem k x = if to + b ≤ (x : Int) ∧ (x : Int) < to + b + k ∧ (x : Int) < to + n then v ((x : Int) - to - b).toNat else mem x
 | 0, _, x => by rw [stoM, if_neg (by omega)]
 | k + 1, hk, x => by
  have ih := sto_at (v := v) (mem := mem) hto b had k (by omega) x
  simp only [stoM]
  rw [had k (by omega), ih]
  by_cases hb : b + k < n
  ·rw [if_pos hb]
   by_cases e : (x : Int) = to + ((b + k : Nat) : Int)
   ·rw [if_pos ⟨by omega, e⟩, if_pos (by omega)]
    congr 1
    omega
   ·rw [if_neg (fun h => e h.2)]
    by_cases e2 : to + b ≤ (x : Int) ∧ (x : Int) < to + b + k ∧ (x : Int) < to + n
    ·rw [if_pos e2, if_pos (by omega)]
    ·rw [if_neg e2, if_neg (by omega)]
  ·rw [if_neg hb, if_neg (by omega)]
   by_cases e2 : to + b ≤ (x : Int) ∧ (x : Int) < to + b + k ∧ (x : Int) < to + n
   ·rw [if_pos e2, if_pos (by omega)]
   ·rw [if_neg e2, if_neg (by omega)]
theorem step_mem {x : InsN} (hx : x.op ≠ 2) (M : MacN) : (stepM lanes x M).mem = M.mem := by
 unfold stepM
 by_cases h1 : x.op = 1
 ·rw [if_pos h1]; rfl
 rw [if_neg h1, if_neg hx]
 by_cases h3 : x.op = 3
 ·rw [if_pos h3]; rfl
 rw [if_neg h3]
 by_cases h4 : x.op = 4
 ·rw [if_pos h4]; rfl
 rw [if_neg h4]
 by_cases h5 : x.op = 5
 ·rw [if_pos h5]; rfl
 rw [if_neg h5]
 by_cases h6 : x.op = 6
 ·rw [if_pos h6]; rfl
 rw [if_neg h6]
theorem opL (d p dx dy v b : Int) : (insL w h lanes g d p dx dy v b).op ≠ 2 := show (1 : Int) ≠ 2 by decide
theorem opZ (how : Int) : (insZ how).op ≠ 2 := show (5 : Int) ≠ 2 by decide
theorem opP (p : PointN) : (insP p).op ≠ 2 := show (4 : Int) ≠ 2 by decide
theorem opA (v : Int) : (insA v).op ≠ 2 := show (6 : Int) ≠ 2 by decide
theorem opC : insC.op ≠ 2 := show (3 : Int) ≠ 2 by decide
theorem run_mem : ∀ (l : List InsN), (∀ x ∈ l, x.op ≠ 2) → ∀ M : MacN, (runM lanes l M).mem = M.mem
 | [], _, M => rfl
 | x :: l, hl, M => by rw [runM_cons, run_mem l (fun y hy => hl y (by simp [hy])), step_mem (hl x (by simp))]
theorem taps_ops (p : Int) (s : StepN) : ∀ k, ∀ x ∈ tapsC w h lanes g p s k, x.op ≠ 2
 | 0, x, hx => by cases hx
 | k + 1, x, hx => by
  rw [tapsC] at hx
  rcases List.mem_append.1 hx with hx | hx
  ·exact taps_ops p s k x hx
  ·split at hx
   ·cases hx
   ·simp only [List.mem_cons, List.not_mem_nil, or_false] at hx
    rcases hx with rfl | rfl
    ·exact opL _ _ _ _ _ _
    ·exact opA _
theorem bits_ops (p : Int) (s : StepN) : ∀ k, ∀ x ∈ bitsC w h lanes g p s k, x.op ≠ 2
 | 0, x, hx => by cases hx
 | k + 1, x, hx => by
  rw [bitsC] at hx
  rcases List.mem_append.1 hx with hx | hx
  ·exact bits_ops p s k x hx
  ·split at hx
   ·cases hx
   split at hx
   ·simp only [List.mem_cons, List.not_mem_nil, or_false] at hx
    subst hx; exact opL _ _ _ _ _ _
   ·simp only [List.mem_cons, List.not_mem_nil, or_false] at hx
    rcases hx with rfl | rfl
    ·exact opL _ _ _ _ _ _
    ·exact opZ _
theorem head_ops (F : FnL) (s : StepN) : ∀ x ∈ headC w h lanes g F s, x.op ≠ 2 := by
 intro x hx
 unfold headC at hx
 split at hx
 ·simp only [List.mem_cons, List.not_mem_nil, or_false] at hx; rcases hx with rfl | rfl; exact opL _ _ _ _ _ _; exact opP _
 split at hx
 ·simp only [List.mem_cons, List.not_mem_nil, or_false] at hx; rcases hx with rfl | rfl | rfl; exact opL _ _ _ _ _ _; exact opL _ _ _ _ _ _; exact opZ _
 split at hx
 ·rcases List.mem_cons.1 hx with rfl | hx
  ·exact opC
  ·exact taps_ops _ _ _ x hx
 ·exact bits_ops _ _ _ x hx
/-- A round's groups. -/
theorem round_run (hw : 1 ≤ w ∧ w ≤ 16) (hh : 1 ≤ h ∧ h ≤ 16) (hn : (n : Int) = w * h) (hl : 1 ≤ lanes) {r : RndN} {A B : PicN} (hs : needB r.head = true) (hps : ∀ p ∈ r.pts, p.ok = true) (hA : PicOk w h A) (hB : r.head.op = 2 → PicOk w h B) {F : FnL} {to : Int} (hto : 0 ≤ to)
  (dA : numF (F r.head.a) + n ≤ to ∨ to + n ≤ numF (F r.head.a)) (dB : r.head.op = 2 → numF (F r.head.b) + n ≤ to ∨ to + n ≤ numF (F r.head.b)) {M : MacN}
  (mA : AtImg M.mem (numF (F r.head.a)) A.px n) (mB : r.head.op = 2 → AtImg M.mem (numF (F r.head.b)) B.px n) {im : PicN} (him : im = ptsN ⟨w, h, img w.toNat h.toNat (stepG r.head A B w h)⟩ r.pts) :
  ∀ k, (∀ x : Nat, (runM lanes (roundC w h lanes F r to k) M).mem x = if to ≤ (x : Int) ∧ (x : Int) < to + n ∧ (x : Int) < to + (k * lanes : Nat) then px im.px ((x : Int) - to) else M.mem x)
 | 0 => fun x => by rw [roundC, runM_nil, if_neg (by omega)]
 | k + 1 => fun x => by
  have ih := round_run hw hh hn hl hs hps hA hB hto dA dB mA mB him k
  obtain ⟨M1, hM1⟩ : ∃ M1, runM lanes (roundC w h lanes F r to k) M = M1 := ⟨_, rfl⟩
  rw [hM1] at ih
  rw [roundC, runM_app, hM1, groupC, runM_app, runM_app]
  have keep : ∀ {p : Int} {xs : List Int}, (p + n ≤ to ∨ to + n ≤ p) → AtImg M.mem p xs n → AtImg M1.mem p xs n := fun hd ha => ⟨ha.nn, fun i hi => by rw [ih, if_neg (by have := ha.nn; omega)]; exact ha.val i hi⟩
  have mA1 := keep dA mA
  have mB1 := fun h2 => keep (dB h2) (mB h2)
  have hstart : PicOk w h ⟨w, h, img w.toNat h.toNat (stepG r.head A B w h)⟩ := PicOk.img hw hh _
  obtain ⟨M2, hM2⟩ : ∃ M2, runM lanes (headC w h lanes k F r.head) M1 = M2 := ⟨_, rfl⟩
  obtain ⟨M3, hM3⟩ : ∃ M3, runM lanes (r.pts.map insP) M2 = M3 := ⟨_, rfl⟩
  rw [hM2, hM3, runM_cons, runM_nil]
  have lane : ∀ j, j < lanes → k * lanes + j < n → M3.mem = M1.mem ∧ pix (M3.regs 0 j) = px im.px ((k * lanes + j : Nat) : Int) := fun j hj hi => by
   obtain ⟨a1, a2⟩ := head_run hw hh hn hj hi hs hA hB mA1 mB1
   rw [hM2] at a1 a2
   obtain ⟨_, b2, b3⟩ := pts_run (lanes := lanes) hw hh hn hi r.pts _ M2 hps hstart a2
   rw [hM3] at b2 b3
   exact ⟨b2.trans a1, by rw [b3, him]⟩
  have hmem : (stepM lanes (insS w h lanes k to) M3).mem = stoM (adOf (insS w h lanes k to)) (fun j => pix (M3.regs 0 j)) M3.mem lanes := rfl
  rw [hmem, sto_at (n := n) (lanes := lanes) hto (k * lanes) (fun j hj => by
   show (adrN w h lanes k to 0 0 0)[j]?.getD 0 = _
   rw [adrN_at w h k to 0 0 0 hj, adr_same hw.1 hh.1 hn to hto hj]) lanes (Nat.le_refl _) x]
  have hmem3 : M3.mem = M1.mem := by
   rw [← hM3, ← hM2, run_mem _ (fun x hx => by obtain ⟨p, _, rfl⟩ := List.mem_map.1 hx; exact opP p), run_mem _ (head_ops F r.head)]
  have hk1 : (((k + 1) * lanes : Nat) : Int) = (k * lanes : Nat) + lanes := by push_cast; rw [Int.add_mul]; omega
  by_cases e : to + ((k * lanes : Nat) : Int) ≤ (x : Int) ∧ (x : Int) < to + ((k * lanes : Nat) : Int) + lanes ∧ (x : Int) < to + n
  ·rw [if_pos e, if_pos (by omega)]
   obtain ⟨j, hj⟩ : ∃ j : Nat, (x : Int) = to + ((k * lanes : Nat) : Int) + j := ⟨((x : Int) - to - ((k * lanes : Nat) : Int)).toNat, by omega⟩
   rw [show ((x : Int) - to - ((k * lanes : Nat) : Int)).toNat = j by omega]
   have := (lane j (by omega) (by omega)).2
   rw [this]
   congr 1
   omega
  ·rw [if_neg e, hmem3, ih]
   by_cases e2 : to ≤ (x : Int) ∧ (x : Int) < to + n ∧ (x : Int) < to + (k * lanes : Nat)
   ·rw [if_pos e2, if_pos (by omega)]
   ·rw [if_neg e2, if_neg (by omega)]
end
end Go.Proofs.YtekiemlniegddaaGreat
namespace Go.Proofs.YtekiemlniegddaaGreat
open Go Go.RowKit Go.Shelf
/-- Images have places, each one of its own; all other places are free. -/
structure AllocOk (mx n K : Nat) (F : FnL) (fs : List Nat) : Prop where
 at_ : ∀ m x, F m = some x → ∃ t : Nat, t < mx ∧ x = ilit ((t : Int) * n) ∧ t ∉ fs ∧ ∃ k : Nat, k < K ∧ m = (k : Int)
 inj : ∀ m m' x, F m = some x → F m' = some x → m = m'
 nd : fs.Nodup
 lt : ∀ t ∈ fs, t < mx
 cnt : cntF F K + fs.length = mx
def freeL (n : Nat) (fs : List Nat) : List Int := fs.map fun (t : Nat) => (t : Int) * (n : Int)
theorem mul_inj_n {n a b : Nat} (hn : 0 < n) (h : (a : Int) * n = (b : Int) * n) : a = b := by
 have h2 : a * n = b * n := by exact_mod_cast h
 exact Nat.eq_of_mul_eq_mul_right hn h2
section
variable {mx n K : Nat} {F : FnL} {fs : List Nat}
theorem AllocOk.del (h : AllocOk mx n K F fs) (hn : 0 < n) {m : Nat} (hm : m < K) {t : Nat} (hF : F (m : Int) = some (ilit ((t : Int) * n))) : AllocOk mx n K (delF F (m : Int)) (fs ++ [t]) := by
 obtain ⟨t', h1, h2, h3, _⟩ := h.at_ _ _ hF
 obtain rfl : t = t' := mul_inj_n hn (by injection h2)
 refine ⟨fun k x hx => ?_, fun k k' x hx hx' => ?_, ?_, ?_, ?_⟩
 ·by_cases e : k = (m : Int)
  ·subst e; rw [delF_same] at hx; cases hx
  ·rw [delF_ne _ e] at hx
   obtain ⟨t2, g1, g2, g3, g4⟩ := h.at_ _ _ hx
   refine ⟨t2, g1, g2, ?_, g4⟩
   intro hmem
   rcases List.mem_append.1 hmem with hmem | hmem
   ·exact g3 hmem
   ·rw [List.mem_singleton.1 hmem] at g2
    rw [g2] at hx
    exact e (h.inj _ _ _ hx hF)
 ·by_cases e : k = (m : Int)
  ·subst e; rw [delF_same] at hx; cases hx
  ·by_cases e' : k' = (m : Int)
   ·subst e'; rw [delF_same] at hx'; cases hx'
   ·rw [delF_ne _ e] at hx; rw [delF_ne _ e'] at hx'; exact h.inj _ _ _ hx hx'
 ·rw [List.nodup_append]
  refine ⟨h.nd, by simp, fun a ha b hb => ?_⟩
  rw [List.mem_singleton.1 hb]
  exact fun e => h3 (e ▸ ha)
 ·intro a ha
  rcases List.mem_append.1 ha with ha | ha
  ·exact h.lt a ha
  ·rw [List.mem_singleton.1 ha]; exact h1
 ·have := cntF_del F hm
  rw [hF] at this
  rw [List.length_append, List.length_singleton]
  have := h.cnt
  simp at *
  omega
theorem AllocOk.put {t : Nat} (h : AllocOk mx n K F (fs ++ [t])) (hn : 0 < n) {m : Nat} (hm : m < K) (hF : F (m : Int) = none) : AllocOk mx n K (putF F (m : Int) (ilit ((t : Int) * n))) fs := by
 have hnd := h.nd
 rw [List.nodup_append] at hnd
 refine ⟨fun k x hx => ?_, fun k k' x hx hx' => ?_, hnd.1, fun a ha => h.lt a (by simp [ha]), ?_⟩
 ·by_cases e : k = (m : Int)
  ·subst e; rw [putF_same] at hx; cases hx
   exact ⟨t, h.lt t (by simp), rfl, fun ht => hnd.2.2 t ht t (by simp) rfl, m, hm, rfl⟩
  ·rw [putF_ne _ _ e] at hx
   obtain ⟨t2, g1, g2, g3, g4⟩ := h.at_ _ _ hx
   exact ⟨t2, g1, g2, fun ht => g3 (by simp [ht]), g4⟩
 ·have old : ∀ j, j ≠ (m : Int) → F j = some (ilit ((t : Int) * n)) → False := fun j _ hj => by
   obtain ⟨t2, g1, g2, g3, g4⟩ := h.at_ _ _ hj
   obtain rfl : t = t2 := mul_inj_n hn (by injection g2)
   exact g3 (by simp)
  by_cases e : k = (m : Int)
  ·subst e
   rw [putF_same] at hx
   by_cases e' : k' = (m : Int)
   ·exact e'.symm
   ·rw [putF_ne _ _ e'] at hx'
    exact absurd (hx' ▸ hx.symm ▸ rfl : F k' = some (ilit ((t : Int) * n))) (fun hh => old k' e' hh)
  ·by_cases e' : k' = (m : Int)
   ·subst e'
    rw [putF_same] at hx'
    rw [putF_ne _ _ e] at hx
    exact absurd (hx ▸ hx'.symm ▸ rfl : F k = some (ilit ((t : Int) * n))) (fun hh => old k e hh)
   ·rw [putF_ne _ _ e] at hx; rw [putF_ne _ _ e'] at hx'; exact h.inj _ _ _ hx hx'
 ·rw [cntF_put F _ hm, hF]
  have := h.cnt
  rw [List.length_append, List.length_singleton] at this
  simp
  omega
theorem cntF_lt {A B : FnL} : ∀ {K : Nat}, (∀ j : Nat, j < K → (A (j : Int)).isSome = true → (B (j : Int)).isSome = true) → (∃ j : Nat, j < K ∧ A (j : Int) = none ∧ (B (j : Int)).isSome = true) → cntF A K + 1 ≤ cntF B K
 | 0, _, ⟨j, hj, _⟩ => by omega
 | K + 1, h, ⟨j, hj, h1, h2⟩ => by
  have mono : ∀ {K : Nat}, (∀ j : Nat, j < K → (A (j : Int)).isSome = true → (B (j : Int)).isSome = true) → cntF A K ≤ cntF B K := by
   intro K
   induction K with
   | zero => intro _; exact Nat.le_refl _
   | succ K ih =>
    intro h
    have := ih (fun j hj => h j (by omega))
    rw [cntF, cntF]
    by_cases e : (A (K : Int)).isSome = true
    ·rw [if_pos e, if_pos (h K (by omega) e)]; omega
    ·rw [if_neg e]; omega
  rw [cntF, cntF]
  by_cases e : j = K
  ·subst e
   have := mono (K := j) (fun i hi => h i (by omega))
   rw [h1, if_pos h2]
   simp
   omega
  ·have := cntF_lt (K := K) (fun i hi => h i (by omega)) ⟨j, by omega, h1, h2⟩
   by_cases e1 : (A (K : Int)).isSome = true
   ·rw [if_pos e1, if_pos (h K (by omega) e1)]; omega
   ·rw [if_neg e1]; omega
/-- Places that are not in use are free again. -/
theorem sweep_ok (hn : 0 < n) {live : FnL} {C : CmN} {fs : List Nat} (hC : AllocOk mx n K C.at_ fs) (hf : C.free = freeL n fs) : ∀ k, k ≤ K →
  ∃ fs', AllocOk mx n K (sweepN live C k).at_ fs' ∧ (sweepN live C k).free = freeL n fs' ∧ (sweepN live C k).code = C.code ∧ ∀ m : Int, (sweepN live C k).at_ m = if 0 ≤ m ∧ m < k ∧ truF (live m) = false then none else C.at_ m
 | 0, _ => ⟨fs, hC, hf, rfl, fun m => by rw [sweepN, if_neg (by omega)]⟩
 | k + 1, hk => by
  obtain ⟨fs1, a1, a2, a3, a4⟩ := sweep_ok hn hC hf k (by omega) (live := live)
  obtain ⟨S, hS⟩ : ∃ S, sweepN live C k = S := ⟨_, rfl⟩
  rw [sweepN]
  rw [hS] at a1 a2 a3 a4 ⊢
  have hk4 := a4 (k : Int)
  rw [if_neg (by omega)] at hk4
  by_cases hc : (S.at_ (k : Int)).isSome = true ∧ truF (live (k : Int)) = false
  ·rw [if_pos hc]
   obtain ⟨x, hx⟩ := Option.isSome_iff_exists.1 hc.1
   obtain ⟨t, g1, g2, g3, _⟩ := a1.at_ _ _ hx
   subst g2
   refine ⟨fs1 ++ [t], a1.del hn (by omega) hx, ?_, a3, fun m => ?_⟩
   ·simp only [a2, hx]; unfold freeL; rw [List.map_append]; rfl
   ·simp only
    by_cases e : m = (k : Int)
    ·subst e; rw [delF_same, if_pos ⟨by omega, by omega, hc.2⟩]
    ·rw [delF_ne _ e, a4 m]
     by_cases e2 : 0 ≤ m ∧ m < k ∧ truF (live m) = false
     ·rw [if_pos e2, if_pos ⟨e2.1, by omega, e2.2.2⟩]
     ·rw [if_neg e2, if_neg (fun e3 => e2 ⟨e3.1, by omega, e3.2.2⟩)]
  ·rw [if_neg hc]
   refine ⟨fs1, a1, a2, a3, fun m => ?_⟩
   rw [a4 m]
   by_cases e : m = (k : Int)
   ·subst e
    rw [if_neg (by omega)]
    by_cases e2 : truF (live (k : Int)) = false
    ·rw [if_pos ⟨by omega, by omega, e2⟩]
     have : ¬ (S.at_ (k : Int)).isSome = true := fun h => hc ⟨h, e2⟩
     rw [hk4] at this
     cases hh : C.at_ (k : Int) with
     | none => rfl
     | some x => rw [hh] at this; simp at this
    ·rw [if_neg (fun h => e2 h.2.2)]
   ·by_cases e2 : 0 ≤ m ∧ m < k ∧ truF (live m) = false
    ·rw [if_pos e2, if_pos ⟨e2.1, by omega, e2.2.2⟩]
    ·rw [if_neg e2, if_neg (fun e3 => e2 ⟨e3.1, by omega, e3.2.2⟩)]
/-- A free place is given. -/
theorem place_ok (hn : 0 < n) {C : CmN} {fs : List Nat} (hC : AllocOk mx n K C.at_ fs) (hf : C.free = freeL n fs) (h0 : fs ≠ []) {m : Nat} (hm : m < K) (hF : C.at_ (m : Int) = none) :
  ∃ (fs' : List Nat) (t : Nat), t < mx ∧ lastN C = (t : Int) * n ∧ AllocOk mx n K (placeN C (m : Int)).at_ fs' ∧ (placeN C (m : Int)).free = freeL n fs' ∧ (placeN C (m : Int)).at_ = putF C.at_ (m : Int) (ilit ((t : Int) * n)) ∧ ∀ k x, C.at_ k = some x → x ≠ ilit ((t : Int) * n) := by
 obtain ⟨fs', t, rfl⟩ : ∃ fs' t, fs = fs' ++ [t] := ⟨fs.dropLast, fs.getLast h0, (List.dropLast_concat_getLast h0).symm⟩
 have hl : lastN C = (t : Int) * n := by
  unfold lastN
  rw [hf]; unfold freeL
  simp
 refine ⟨fs', t, hC.lt t (by simp), hl, ?_, ?_, ?_, fun k x hx e => ?_⟩
 ·unfold placeN; rw [hl]; exact hC.put hn hm hF
 ·unfold placeN
  simp only [hf]
  unfold freeL
  rw [List.map_append]
  simp
 ·unfold placeN; rw [hl]
 ·subst e
  obtain ⟨t2, g1, g2, g3, _⟩ := hC.at_ _ _ hx
  obtain rfl : t = t2 := mul_inj_n hn (by injection g2)
  exact g3 (by simp)
theorem freeN_is (n : Nat) : ∀ k, freeN (n : Int) k = freeL n (List.range k).reverse
 | 0 => rfl
 | k + 1 => by rw [freeN, freeN_is n k, List.range_succ, List.reverse_append]; rfl
theorem alloc_zero (mx n K : Nat) : AllocOk mx n K (fun _ => none) (List.range mx).reverse := by
 refine ⟨fun m x h => (by cases h), fun m m' x h => (by cases h), ?_, fun t ht => ?_, ?_⟩
 ·unfold List.Nodup; rw [List.pairwise_reverse]; exact List.Pairwise.imp (fun h => h.symm) List.nodup_range
 ·rw [List.mem_reverse] at ht; exact List.mem_range.1 ht
 ·have : ∀ K, cntF (fun _ => none) K = 0 := fun K => by
   induction K with
   | zero => rfl
   | succ K ih => rw [cntF, ih]; rfl
  rw [this]; simp
end
end Go.Proofs.YtekiemlniegddaaGreat
namespace Go.Proofs.YtekiemlniegddaaGreat
open Go Go.RowKit Go.Shelf
/-- The image is valid and of the size. -/
def fitP (w h : Int) (m : PicN) : Bool := vld m.w m.h m.px && (decide (m.w = w) && decide (m.h = h))
theorem any_not_all {ms : List PicN} {p : PicN → Bool} : (ms.any fun m => !p m) = !ms.all p := by
 induction ms with
 | nil => rfl
 | cons a l ih => simp [ih, Bool.not_and]
set_option maxRecDepth 100000 in
set_option maxHeartbeats 4000000 in
theorem fit1_any (m : PicN) (pa : Option Addr) (pc n : Nat) (hn : Hid (m.px.length = n)) (W H : Int) (bw bh : Nat) (w : World) (kw : Blk w bw 3 #[.int .i64 W]) (kh : Blk w bh 3 #[.int .i64 H]) (hm : n ≤ 9223372036854775807) (hr : Rd w.heap.size w pa m.px) :
  Calls Tryz.prog 129 #[imv m.w m.h pa n pc, .pointer (some ⟨bw, 0, none⟩), .pointer (some ⟨bh, 0, none⟩)] w fun e w' => e = .returned (.bool (!fitP W H m)) ∧ Below w.heap.size w w' := by
 have hB : Below w.heap.size w w := Below.refl _ _
 unfold fitP
 obtain ⟨iw, ih, xs⟩ := m
 simp only at hn hr ⊢
 obtain ⟨v0, hv0⟩ : ∃ v, vld iw ih xs = v := ⟨_, rfl⟩
 have hvH := Lib.hid hv0
 rw [hv0]
 clear hv0
 have x0 := kw.cell (i := 0) rfl
 have y0 := kh.cell (i := 0) rfl
 obtain ⟨V1, hEV1, hbV1, k3⟩ := newB w 32 #[.int .i64 iw, .int .i64 ih, .slice pa n pc]
 clear x0 y0
 replace kw := kw.below hbV1 kw.lt
 replace kh := kh.below hbV1 kh.lt
 replace hr := later_i hr hbV1
 replace hB := tmB hB hbV1
 clear hbV1
 have x0 := kw.cell (i := 0) rfl
 have y0 := kh.cell (i := 0) rfl
 obtain ⟨m0, m1, m2⟩ := cz3 k3
 go_enter Tryz.func129, Tryz.ntmps129
 go_wp2_with fail
 clear hEV1
 refine (Check_any iw ih pa pc n xs hn v0 hvH.out V1 hm hr).mono ?_
 rintro e V2 ⟨rfl, hb⟩
 clear x0 y0 m0 m1 m2
 replace kw := kw.below hb kw.lt
 replace kh := kh.below hb kh.lt
 replace k3 := k3.below hb k3.lt
 replace hr := later_i hr hb
 replace hB := tmB hB hb
 clear hb
 have x0 := kw.cell (i := 0) rfl
 have y0 := kh.cell (i := 0) rfl
 obtain ⟨m0, m1, m2⟩ := cz3 k3
 cases v0 with
 | false =>
  go_wp2_with fail
  go_ret
  exact ⟨ret_bool (by simp), hB⟩
 | true =>
  by_cases e1 : iw = W
  case neg =>
   have f1 : (iw != W) = true := by simp [e1]
   go_wp2_with fail
   go_ret
   exact ⟨ret_bool (by simp [e1]), hB⟩
  case pos =>
   have f1 : (iw != W) = false := by simp [e1]
   by_cases e2 : ih = H
   case neg =>
    have f2 : (ih != H) = true := by simp [e2]
    have e1H := Lib.hid e1
    clear e1
    go_wp2_with fail
    go_ret
    exact ⟨ret_bool (by simp [e1H.out, e2]), hB⟩
   case pos =>
    have f2 : (ih != H) = false := by simp [e2]
    have e1H := Lib.hid e1
    have e2H := Lib.hid e2
    clear e1 e2
    go_wp2_with fail
    go_ret
    exact ⟨ret_bool (by simp [e1H.out, e2H.out]), hB⟩
set_option maxRecDepth 100000 in
set_option maxHeartbeats 4000000 in
theorem IndexP_any (p : PicN → Bool) (fo : Nat) (lb : Array Value) (eg : ∀ args w, (callFunc fo args).run Tryz.prog w = .ok (.enter fo args) w) (ms : List PicN) (a : Option Addr) (c n : Nat) (hn : ms.length = n) (hm : n ≤ 9223372036854775807) (w : World) (hr : RdPs w.heap.size w a ms)
  (hof : ∀ i, i < n → ∀ (W : World) (pa : Option Addr) (pc : Nat), Below w.heap.size w W → Rd W.heap.size W pa (picAt ms i).px → Calls Tryz.prog fo (#[imv (picAt ms i).w (picAt ms i).h pa (picAt ms i).px.length pc] ++ lb) W fun e W' => e = .returned (.bool (p (picAt ms i))) ∧ Below W.heap.size W W') :
  Calls Tryz.prog 152 #[.slice a n c, .func (.func fo) #[] lb] w fun e w' => (∃ k : Int, e = .returned (.int .i64 k) ∧ decide (0 ≤ k) = ms.any p) ∧ Below w.heap.size w w' := by
 have hnH := Lib.hid hn
 have hofH := Lib.hid hof
 clear hn hof
 go_enter Tryz.func152, Tryz.ntmps152
 go_wp2
 go_loopw [5, 8] (fun v i wr => ∃ k : Nat, k ≤ n ∧ i = .int .i64 k ∧ Hid ((ms.take k).any p = false) ∧ Below w.heap.size w wr) (fun _ i _ => n - (intOf i).toNat)
 case atStart => exact ⟨0, Nat.zero_le _, rfl, Lib.hid (by simp), Below.refl _ _⟩
 case round =>
  obtain ⟨k, hk, rfl, hall, hB⟩ := hrel
  by_cases hlt : k < n
  ·have hlt' : k < ms.length := by have := hnH.out; omega
   obtain ⟨b, o, rfl, hbl, pa, pc, p0, p1, p2, rA, _⟩ := hr.at hlt'
   have c0 := (hB.cell (p := ⟨b, o + k * 3, none⟩) hbl).trans p0
   have c1 := (hB.cell (p := ⟨b, o + k * 3 + 1, none⟩) hbl).trans p1
   have c2 := (hB.cell (p := ⟨b, o + k * 3 + 2, none⟩) hbl).trans p2
   have hcall := hofH.out k hlt wr pa pc hB (later_i rA hB)
   have hpk : (ms.take (k + 1)).any p = ((ms.take k).any p || p (picAt ms k)) := by
    rw [List.take_succ_eq_append_getElem hlt', List.any_append]; unfold picAt; rw [List.getElem?_eq_getElem hlt']; simp
   have hhit : p (picAt ms k) = true → ms.any p = true := fun h => by
    unfold picAt at h; rw [List.getElem?_eq_getElem hlt'] at h
    exact List.any_eq_true.2 ⟨_, List.getElem_mem hlt', h⟩
   obtain ⟨pk, hpe⟩ : ∃ v, p (picAt ms k) = v := ⟨_, rfl⟩
   rw [hpe] at hcall hpk hhit
   rw [hall.out, Bool.false_or] at hpk
   have hpkH := Lib.hid hpk
   have hhitH := Lib.hid hhit
   have hcallH := Lib.hid hcall
   clear p0 p1 p2 hpe hpk hhit rA hcall
   cases pk with
   | true =>
    go_wp2_with (go_at_fn fo; refine hcallH.out.mono ?_; rintro e w2 ⟨rfl, hb2⟩)
    go_ret
    exact ⟨⟨_, rfl, by rw [hhitH.out trivial]; simp⟩, hB.trans (hb2.mono hB.size)⟩
   | false =>
    go_wp2_with (go_at_fn fo; refine hcallH.out.mono ?_; rintro e w2 ⟨rfl, hb2⟩)
    go_roundw
    case rel => exact ⟨k + 1, by omega, by go_num, Lib.hid hpkH.out, hB.trans (hb2.mono hB.size)⟩
    case measure => simp [intOf]; omega
  ·go_wp2
   go_ret
   have hall2 := hall.out
   rw [List.take_of_length_le (by have := hnH.out; omega)] at hall2
   exact ⟨⟨_, rfl, by rw [hall2]; rfl⟩, hB⟩
set_option maxRecDepth 100000 in
set_option maxHeartbeats 1000000 in
theorem ContainsP_any (p : PicN → Bool) (fo : Nat) (lb : Array Value) (eg : ∀ args w, (callFunc fo args).run Tryz.prog w = .ok (.enter fo args) w) (ms : List PicN) (a : Option Addr) (c n : Nat) (hn : ms.length = n) (hm : n ≤ 9223372036854775807) (w : World) (hr : RdPs w.heap.size w a ms)
  (hof : ∀ i, i < n → ∀ (W : World) (pa : Option Addr) (pc : Nat), Below w.heap.size w W → Rd W.heap.size W pa (picAt ms i).px → Calls Tryz.prog fo (#[imv (picAt ms i).w (picAt ms i).h pa (picAt ms i).px.length pc] ++ lb) W fun e W' => e = .returned (.bool (p (picAt ms i))) ∧ Below W.heap.size W W') :
  Calls Tryz.prog 128 #[.slice a n c, .func (.func fo) #[] lb] w fun e w' => e = .returned (.bool (ms.any p)) ∧ Below w.heap.size w w' := by
 have hc := IndexP_any p fo lb eg ms a c n hn hm w hr hof
 clear hof eg
 go_enter Tryz.func128, Tryz.ntmps128
 go_wp2_with (go_at_call 152; refine hc.mono ?_; rintro e w' ⟨⟨k, rfl, hk⟩, hb⟩)
 all_goals go_ret
 all_goals exact ⟨ret_bool (by rw [← hk]), hb⟩
theorem enters_fit1 : ∀ args w, (callFunc 129 args).run Tryz.prog w = .ok (.enter 129 args) w := enters_of Tryz.func129 (by kernel_rfl) rfl
set_option maxRecDepth 100000 in
set_option maxHeartbeats 4000000 in
theorem fit_any (ms : List PicN) (a : Option Addr) (c n : Nat) (hn : ms.length = n) (hm : n ≤ 9223372036854775807) (hpl : ∀ i, i < n → (picAt ms i).px.length ≤ 9223372036854775807) (N W H : Int) (w : World) (hr : RdPs w.heap.size w a ms) :
  Calls Tryz.prog 77 #[.slice a n c, .int .i64 N, .int .i64 W, .int .i64 H] w fun e w' => e = .returned (.bool (givenB ms N W H)) ∧ Below w.heap.size w w' := by
 have hB : Below w.heap.size w w := Below.refl _ _
 have hnH := Lib.hid hn
 have hplH := Lib.hid hpl
 clear hn hpl
 unfold givenB
 obtain ⟨V1, hEV1, hbV1, kw⟩ := newB w 3 #[.int .i64 W]
 replace hr := hr.later hbV1
 replace hB := tmB hB hbV1
 clear hbV1
 have x0 := kw.cell (i := 0) rfl
 obtain ⟨V2, hEV2, hbV2, kh⟩ := newB V1 3 #[.int .i64 H]
 clear x0
 replace kw := kw.below hbV2 kw.lt
 replace hr := hr.later hbV2
 replace hB := tmB hB hbV2
 clear hbV2
 have x0 := kw.cell (i := 0) rfl
 have y0 := kh.cell (i := 0) rfl
 by_cases hc : (n : Int) = N
 case neg =>
  have f1 : ((n : Int) == N) = false := by simp [hc]
  have hcH := Lib.hid hc
  clear hc
  go_enter Tryz.func77, Tryz.ntmps77
  go_wp2_with fail
  go_ret
  exact ⟨ret_bool (by rw [hnH.out]; simp [hcH.out]), hB⟩
 case pos =>
  have f1 : ((n : Int) == N) = true := by simp [hc]
  have hcH := Lib.hid hc
  clear hc
  have hcall := ContainsP_any (fun m => !fitP W H m) 129 #[.pointer (some ⟨w.heap.size, 0, none⟩), .pointer (some ⟨V1.heap.size, 0, none⟩)] enters_fit1 ms a c n hnH.out hm V2 hr (fun i hi X pa pc hb hrd => fit1_any (picAt ms i) pa pc _ (Lib.hid rfl) W H _ _ X (kw.below hb kw.lt) (kh.below hb kh.lt) (hplH.out i hi) hrd)
  go_enter Tryz.func77, Tryz.ntmps77
  go_wp2_with (go_at_call 128; refine hcall.mono ?_; rintro e w' ⟨rfl, hb⟩)
  go_ret
  exact ⟨ret_bool (by rw [any_not_all, hnH.out]; simp [hcH.out]; rfl), hB.trans (hb.mono hB.size)⟩
end Go.Proofs.YtekiemlniegddaaGreat
namespace Go.Proofs.YtekiemlniegddaaGreat
open Go Go.RowKit Go.Shelf
theorem info_pic : (Tryz.prog.info? 32).map (fun i => (i.zero, i.size, i.bytes)) = some (some (.agg #[.int .i64 0, .int .i64 0, .slice none 0 0]), 3, 40) := by kernel_rfl
theorem wpList_append_anyS {P : Program} {w : World} {ops : Array Oper} {rest : List Oper} {o : Oper} {act : Act} {Q : Exit → Act → World → Prop} (hgd : o.guard = none) (s x : Operand) (t : TypeId)
  (ho : o.op = .call { callee := .builtin .append, args := #[s, x], argTypes := #[t, t] })
  (base : Nat) (e : TypeId) (i : TypeInfo) (z : Value) (size bytes : Nat) (ht : P.underlying t = some (.slice e)) (hi : P.info? e = some i) (hz : i.zero = some z)
  (hsize : i.size = size) (hby : i.bytes = bytes) (hzs : z.cells.size = size) (hsz : 0 < size)
  (v : Value) (n : Nat) (xs : List Value) (hs : act.eval s = v) (hown : w.ownsRow base e size v n xs)
  (a : Option Addr) (m c : Nat) (news : List Value) (hx : act.eval x = .slice a m c) (hl : news.length = m * size) (hnews : NewsAt w a m news) (h1 : ∀ u ∈ news, u.oneCell' = true)
  (h63 : n + m ≤ maxLen) (hbytes : (n + m) * bytes ≤ 140737488355328) (hbase : base ≤ w.heap.size)
  (h : ∀ v' w', w'.ownsRow base e size v' (n + m) (xs ++ news) → w.grownBy w' v.ownBlock → (v'.ownBlock = v.ownBlock ∨ v'.ownBlock = some w.heap.size) → wpList P ops Q rest (act.put o.dst v') w') :
  wpList P ops Q (o :: rest) act w := by
 rcases hnews with ⟨rfl, rfl⟩ | ⟨ad, rfl, hc⟩
 ·obtain rfl : news = [] := List.eq_nil_of_length_eq_zero (by omega)
  refine wpList_plain hgd fun K hK => ?_
  have hrun := run_append_none0 (P := P) (w := w) base t o.type e i size ht hi v n xs hown c
  unfold Oper.wp
  simp [execOp, ho, resolve, invoke, builtin, hs, hx, hrun, Result.andThen]
  exact hK _ _ (h v w (by simpa using hown) (grownBy_self _ _) (.inl rfl))
 ·exact wpList_append_own_at w hgd s x t ho base e i z size bytes ht hi hz hsize hby hzs hsz v n xs hs hown ad m c news hx (by omega) hc h1 h63 hbytes hbase (fun v' w' g1 g2 g3 g4 => h v' w' g1 g2 g4)
/-- The block's cells, as what an append takes. -/
theorem NewsAt.blk {W : World} {b : Nat} {t : TypeId} {cs : Array Value} (k : Blk W b t cs) (m : Nat) : NewsAt W (some ⟨b, 0, none⟩) m cs.toList := .inr ⟨_, rfl, fun j u hu => by
 rw [addr_add, Nat.zero_add]
 exact k.cell (by rw [← Array.getElem?_toList]; exact hu)⟩
theorem pics_news {W : World} {l : List PicA} {b o : Nat} (h : ∀ j u, (flatC l)[j]? = some u → W.cell? ⟨b, o + j, none⟩ = some u) (m : Nat) : NewsAt W (some ⟨b, o, none⟩) m (flatC l) := .inr ⟨_, rfl, fun j u hu => by
 rw [addr_add]; exact h j u hu⟩
theorem img_le {pw ph : Int} (hw : pw ≤ 16) (hh : ph ≤ 16) (g : Int → Int → Int) : (img pw.toNat ph.toNat g).length ≤ 256 := by
 rw [img_length]
 exact Nat.mul_le_mul (show pw.toNat ≤ 16 by omega) (show ph.toNat ≤ 16 by omega)
theorem appS_len (s : StepN) (ms : List PicN) : (appS s ms).px.length ≤ 256 := by
 have nil : ∀ e, (noIm e).px.length ≤ 256 := fun e => by simp [noIm]
 unfold appS
 split
 ·unfold pointS
  split
  ·rename_i hv
   obtain ⟨h1, h2, _⟩ := vld_true hv
   split
   ·exact img_le h1.2 h2.2 _
   ·exact nil _
  ·exact nil _
 split
 ·unfold zipS
  split
  ·rename_i hv
   obtain ⟨h1, h2, _⟩ := vld_true hv
   repeat' split
   ·exact img_le h1.2 h2.2 _
   all_goals exact nil _
  ·exact nil _
 split
 ·unfold convS
  split
  ·rename_i hv
   obtain ⟨h1, h2, _⟩ := vld_true hv
   repeat' split
   ·exact img_le h1.2 h2.2 _
   all_goals exact nil _
  ·exact nil _
 split
 ·unfold morS
  split
  ·rename_i hv
   obtain ⟨h1, h2, _⟩ := vld_true hv
   repeat' split
   ·exact img_le h1.2 h2.2 _
   all_goals exact nil _
  ·exact nil _
 split
 ·unfold morS
  split
  ·rename_i hv
   obtain ⟨h1, h2, _⟩ := vld_true hv
   repeat' split
   ·exact img_le h1.2 h2.2 _
   all_goals exact nil _
  ·exact nil _
 ·exact nil _
theorem picAt_snoc (ms : List PicN) (p : PicN) (i : Nat) : picAt (ms ++ [p]) i = if i < ms.length then picAt ms i else if i = ms.length then p else ⟨0, 0, []⟩ := by
 unfold picAt
 by_cases h : i < ms.length
 ·rw [if_pos h, List.getElem?_append_left h]
 ·rw [if_neg h, List.getElem?_append_right (by omega)]
  by_cases e : i = ms.length
  ·subst e; simp
  ·rw [if_neg e, List.getElem?_eq_none (by simp; omega)]; rfl
theorem afterN_px {ms : List PicN} (h : ∀ i, (picAt ms i).px.length ≤ 9223372036854775807) (ss : List StepN) : ∀ k i, (picAt (afterN ss ms k) i).px.length ≤ 9223372036854775807
 | 0, i => h i
 | k + 1, i => by
  rw [afterN, picAt_snoc]
  have := appS_len (stAt ss k) (afterN ss ms k)
  split
  ·exact afterN_px h ss k i
  split
  ·exact Nat.le_trans this (by decide)
  ·simp
theorem givenB_len {ms : List PicN} {n w h : Int} (hg : givenB ms n w h = true) : (ms.length : Int) = n := by
 unfold givenB at hg
 rw [Bool.and_eq_true, decide_eq_true_eq] at hg
 exact hg.1
theorem pipeB_true {P : PipeN} (h : pipeB P = true) : (1 ≤ P.w ∧ P.w ≤ 16) ∧ (1 ≤ P.h ∧ P.h ≤ 16) ∧ (1 ≤ P.inp ∧ P.inp ≤ 3) ∧ (1 ≤ P.ss.length ∧ P.ss.length ≤ 12) ∧ stepsB P.inp P.ss P.ss.length = true := by
 unfold pipeB sizeB at h
 simp only [Bool.and_eq_true, inR_true, decide_eq_true_eq] at h
 exact ⟨h.1.1.1, h.1.1.2, h.1.2.1, h.1.2.2, h.2⟩
theorem refB_true {I : Int} {i : Nat} {s : StepN} (h : refB I i s = true) : (0 ≤ s.a ∧ s.a ≤ I + i - 1) ∧ (s.op = 2 → 0 ≤ s.b ∧ s.b ≤ I + i - 1) := by
 unfold refB at h
 simp only [Bool.and_eq_true, Bool.or_eq_true, inR_true, Bool.not_eq_true', decide_eq_false_iff_not] at h
 refine ⟨h.1, fun h2 => ?_⟩
 rcases h.2 with h3 | h3
 ·exact absurd h2 h3
 ·exact h3
theorem row_someP {W : World} {base : Nat} {e : TypeId} {size : Nat} {a : Option Addr} {n c : Nat} {xs : List Value} (h : W.ownsRow base e size (.slice a n c) n xs) (hn : 0 < n) : ∃ g, a = some ⟨g, 0, none⟩ := by
 rcases h.2 with ⟨h1, h2⟩ | ⟨g, cap, cur, h1, _⟩
 ·omega
 ·simp only [Value.slice.injEq, true_and] at h1
  exact ⟨g, h1.1⟩
/-- Own images: a list in memory, its last one (if any has come) a row of its own. -/
structure OwnA (B : Nat) (W : World) (v : Value) (l : List PicA) : Prop where
 row : W.ownsRow B 32 3 v l.length (flatC l)
 rd : ∀ x ∈ l, RdX v.ownBlock W x.a x.c x.p.px
theorem OwnA.ps {B : Nat} {W : World} {v : Value} {l : List PicA} (h : OwnA B W v l) : OwnPs B W v (l.map PicA.p) := ⟨l, rfl, h.row, h.rd⟩
theorem OwnA.push {B : Nat} {W W' : World} {v v' : Value} {l : List PicA} {x : PicA} (h3 : ∀ x ∈ l, RdX v.ownBlock W x.a x.c x.p.px)
  (hx : Rd W.heap.size W x.a x.p.px) (hxc : x.a = none → x.c = 0) (hx2 : x.p.px = [] ∨ ∀ ad, x.a = some ad → v.ownBlock ≠ some ad.block)
  (hrow : W'.ownsRow B 32 3 v' (l.length + 1) (flatC l ++ picCells x)) (hg : W.grownBy W' v.ownBlock) (hat : v'.ownBlock = v.ownBlock ∨ v'.ownBlock = some W.heap.size) :
  OwnA B W' v' (l ++ [x]) := by
 have key : ∀ a c xs, RdX v.ownBlock W a c xs → RdX v'.ownBlock W' a c xs := fun a c xs h => by
  refine ⟨Rd.rowed h.1 h.2.2 hg, h.2.1, ?_⟩
  rcases hat with e | e
  ·rw [e]; exact h.2.2
  ·rw [e]
   rcases h.1 with hn | ⟨b, o, h1, h2, _⟩
   ·exact .inl hn
   ·right; intro ad had he; rw [h1] at had; cases had; simp at he; omega
 refine ⟨?_, fun y hy => ?_⟩
 ·rw [List.length_append, List.length_singleton, flatC_append]
  show W'.ownsRow B _ 3 v' (l.length + 1) (flatC l ++ (picCells x ++ []))
  rw [List.append_nil]; exact hrow
 ·rcases List.mem_append.1 hy with hy | hy
  ·exact key _ _ _ (h3 y hy)
  ·rw [List.mem_singleton.1 hy]; exact key _ _ _ ⟨hx, hxc, hx2⟩
set_option maxRecDepth 100000 in
set_option maxHeartbeats 4000000 in
theorem CloneI_any (ms : List PicN) (a : Option Addr) (c n : Nat) (hn : ms.length = n) (hm : n ≤ 3) (w : World) (hr : RdPs w.heap.size w a ms) (hnil : a = none → n = 0) :
  Calls Tryz.prog 78 #[.slice a n c] w fun e w' => ∃ v, e = .returned v ∧ (∃ l, l.map PicA.p = ms ∧ OwnA w.heap.size w' v l) ∧ Below w.heap.size w w' := by
 obtain ⟨i0, hi, hz0, hz1, hz2⟩ := info_parts info_pic
 have qT : ∀ (w : World) (a : Option Addr) (n c n' c' : Nat), (binOp .eql 58 (.slice a n c) (.slice none n' c')).run Tryz.prog w = .ok (.bool a.isNone) w := fun w a n c n' c' => Lib.run_eql_slice_nil w _ _ a n c n' c' Tryz.underlying58
 cases a with
 | none =>
  have h0 : n = 0 := hnil rfl
  subst h0
  have hms : ms = [] := List.eq_nil_of_length_eq_zero hn
  have qT1 := qT w none 0 c 0 0
  clear qT
  simp only [Option.isNone_none] at qT1
  go_enter Tryz.func78, Tryz.ntmps78
  go_wp2_with fail
  go_ret
  subst hms
  exact ⟨.slice none 0 0, rfl, ⟨World.ownsRow_nil _ _ _ _, fun x hx => by cases hx⟩, Below.refl _ _⟩
 | some ad =>
  have qT1 := qT w (some ad) n c 0 0
  clear qT
  simp only [Option.isNone_some] at qT1
  obtain ⟨l, hl1, hl2, hl3⟩ := hr.pics
  have hll : l.length = n := by rw [← hn, ← hl1, List.length_map]
  have own1 := World.ownsRow_made (e := 32) (size := 3) (base := w.heap.size) w #[] 0 (Nat.le_refl _) (by decide) rfl
  have hB1 : Below w.heap.size w (w.alloc (.cells #[] 32)) := jb_al (Below.refl _ w) _
  have hnews : NewsAt (w.alloc (.cells #[] 32)) (some ad) n (flatC l) := by
   rcases hl2 with h | ⟨b, o, h1, h2, h3⟩
   ·right
    refine ⟨ad, rfl, fun j u hu => ?_⟩
    rw [List.eq_nil_of_length_eq_zero (show l.length = 0 by rw [hll, ← hn, h]; rfl)] at hu
    simp [flatC] at hu
   ·rw [h1]
    exact pics_news (fun j u hu => (hB1.cell (p := ⟨b, o + j, none⟩) h2).trans (h3 j u hu)) n
  have hnewsH := Lib.hid hnews
  have own1H := Lib.hid own1
  have hlenH := Lib.hid (show (flatC l).length = n * 3 by rw [flatC_length, hll])
  clear hnews own1 hl2
  go_enter Tryz.func78, Tryz.ntmps78
  go_wp2_with (at_builtin; refine wpList_append_anyS rfl _ _ 58 rfl w.heap.size 32 i0 (.agg #[.int .i64 0, .int .i64 0, .slice none 0 0]) 3 40 Tryz.underlying58 hi hz0 hz1 hz2 rfl (by decide) (.slice (some ⟨w.heap.size, 0, none⟩) 0 0) 0 [] rfl own1H.out (some ad) n c (flatC l) rfl hlenH.out hnewsH.out (flatC_one l) (by unfold maxLen; omega) (by omega) hB1.size ?_; intro v2 W2 own2 hg2 hat2)
  rw [Nat.zero_add, List.nil_append] at own2
  have hB2 := hB1.grown hg2 hB1.size (fun k e => (own1H.out.lt k e).1)
  go_ret
  refine ⟨v2, rfl, ⟨l, hl1, ⟨by rw [hll]; exact own2, fun x hx => ?_⟩⟩, hB2⟩
  obtain ⟨f1, f2⟩ := hl3 x hx
  have hk : ∀ q, q = some w.heap.size ∨ q = some (w.alloc (.cells #[] 32)).heap.size → x.p.px = [] ∨ ∀ ad, x.a = some ad → q ≠ some ad.block := by
   intro q hq
   rcases f1 with hn | ⟨b, o, h1, h2, _⟩
   ·exact .inl hn
   ·right; intro ad had he
    rw [h1] at had; cases had
    rcases hq with hq | hq
    ·rw [hq] at he; simp at he; omega
    ·rw [hq] at he; simp at he; omega
  refine ⟨f1.below (Nat.le_refl _) hB2 |>.mono hB2.size, f2, hk _ ?_⟩
  rcases hat2 with e | e
  ·left; rw [e]; rfl
  ·right; exact e
set_option maxRecDepth 100000 in
set_option maxHeartbeats 8000000 in
theorem Mean_any (P : PipeN) (a : Option Addr) (n c : Nat) (hn : P.ss.length = n) (hP : PipeIn P) (ms : List PicN) (la : Option Addr) (q lc : Nat) (hm : ms.length = q) (hmm : q ≤ 9223372036854775807) (hpl : ∀ i, (picAt ms i).px.length ≤ 9223372036854775807) (w : World) (hr : RdSs w.heap.size w a P.ss) (hrl : RdPs w.heap.size w la ms) :
  Calls Tryz.prog 30 #[pipev P a n c, .slice la q lc] w (RetIm w.heap.size (meanS P ms) w) := by
 obtain ⟨W, H, I, ss⟩ := P
 obtain ⟨hn0, hst⟩ := hP
 have hnH := Lib.hid hn
 have hstH := Lib.hid hst
 have hplH := Lib.hid hpl
 have hmH := Lib.hid hm
 have hB : Below w.heap.size w w := Below.refl _ _
 simp only at hnH hstH hr hn0
 obtain ⟨R, hR⟩ : ∃ R, meanS ⟨W, H, I, ss⟩ ms = R := ⟨_, rfl⟩
 have hRH := Lib.hid hR
 rw [hnH.out] at hn0
 have hr0 := hr
 clear hn hst hpl hm
 rw [hR]
 clear hR
 unfold pipev
 simp only
 obtain ⟨V1, hEV1, hbV1, kp⟩ := newB w 24 #[.int .i64 W, .int .i64 H, .int .i64 I, .slice a n c]
 replace hr := hr.later hbV1
 replace hrl := hrl.later hbV1
 replace hB := tmB hB hbV1
 clear hbV1
 obtain ⟨m0, m1, m2, m3⟩ := cz4 kp
 have hle4 := hB.size
 obtain ⟨V2, hEV2, hbV2, k4⟩ := newB V1 32 #[.int .i64 0, .int .i64 0, .slice none 0 0]
 clear m0 m1 m2 m3
 replace kp := kp.below hbV2 kp.lt
 replace hr := hr.later hbV2
 replace hrl := hrl.later hbV2
 replace hB := tmB hB hbV2
 clear hbV2
 obtain ⟨m0, m1, m2, m3⟩ := cz4 kp
 have z0 := k4.cell (i := 0) rfl
 have fz0 := k4.frozen 0
 have z1 := k4.cell (i := 1) rfl
 have fz1 := k4.frozen 1
 have z2 := k4.cell (i := 2) rfl
 have fz2 := k4.frozen 2
 go_enter Tryz.func30, Tryz.ntmps30
 obtain ⟨v0, hv0⟩ : ∃ v, pipeB ⟨W, H, I, ss⟩ = v := ⟨_, rfl⟩
 have hv0H := Lib.hid hv0
 clear hv0
 go_wp2_with fail
 clear hEV1 hEV2
 refine (PCheck_any ⟨W, H, I, ss⟩ a n c hnH.out ⟨by rw [hnH.out]; exact hn0, hstH.out⟩ v0 hv0H.out V2 hr).mono ?_
 rintro e V3 ⟨rfl, hb⟩
 clear m0 m1 m2 m3 z0 z1 z2 fz0 fz1 fz2
 replace kp := kp.below hb kp.lt
 replace k4 := k4.below hb k4.lt
 replace hr := hr.later hb
 replace hrl := hrl.later hb
 replace hB := tmB hB hb
 clear hb
 obtain ⟨m0, m1, m2, m3⟩ := cz4 kp
 have z0 := k4.cell (i := 0) rfl
 have fz0 := k4.frozen 0
 have z1 := k4.cell (i := 1) rfl
 have fz1 := k4.frozen 1
 have z2 := k4.cell (i := 2) rfl
 have fz2 := k4.frozen 2
 cases v0 with
 | false =>
  have hR2 : R = noIm 30 := by rw [← hRH.out]; unfold meanS; rw [hv0H.out]; rfl
  subst hR2
  have kf := put3_blk k4 (.int .i64 0) (.int .i64 0) (.slice none 0 0)
  have hbf : Below w.heap.size w (put3 V3 (V1.heap.size) (.int .i64 0) (.int .i64 0) (.slice none 0 0)) := hB.trans (put3_below hle4 _ _ _)
  obtain ⟨g0, g1, g2⟩ := cz3 kf
  go_wp2_with fail
  exact bodyPost_ret (v := .tuple #[imv 0 0 none 0 0, .int .i64 30]) (by simp [results, Tryz.results30, go_sem, g0, g1, g2]) rfl ⟨⟨_, rfl, _, rfl, World.ownsRow_nil _ _ _ _⟩, hbf⟩
 | true =>
 obtain ⟨⟨w1, w2⟩, ⟨h1, h2⟩, ⟨i1, i2⟩, ⟨l1, l2⟩, hall⟩ := pipeB_true hv0H.out
 simp only at w1 w2 h1 h2 i1 i2 l1 l2 hall
 rw [hnH.out] at l1 l2 hall
 have hallH := Lib.hid hall
 clear hall
 obtain ⟨v1, hv1⟩ : ∃ v, givenB ms I W H = v := ⟨_, rfl⟩
 have hv1H := Lib.hid hv1
 clear hv1
 go_wp2_with fail
 have hc := fit_any ms la lc q hmH.out hmm (fun i _ => hplH.out i) I W H V3 hrl
 rw [hv1H.out] at hc
 refine hc.mono ?_
 clear hc
 rintro e V4 ⟨rfl, hb⟩
 clear m0 m1 m2 m3 z0 z1 z2 fz0 fz1 fz2
 replace kp := kp.below hb kp.lt
 replace k4 := k4.below hb k4.lt
 replace hr := hr.later hb
 replace hrl := hrl.later hb
 replace hB := tmB hB hb
 clear hb
 obtain ⟨m0, m1, m2, m3⟩ := cz4 kp
 have z0 := k4.cell (i := 0) rfl
 have fz0 := k4.frozen 0
 have z1 := k4.cell (i := 1) rfl
 have fz1 := k4.frozen 1
 have z2 := k4.cell (i := 2) rfl
 have fz2 := k4.frozen 2
 cases v1 with
 | false =>
  have hR2 : R = noIm 2 := by rw [← hRH.out]; unfold meanS; rw [hv0H.out]; simp only [if_true]; rw [hv1H.out]; rfl
  subst hR2
  have kf := put3_blk k4 (.int .i64 0) (.int .i64 0) (.slice none 0 0)
  have hbf : Below w.heap.size w (put3 V4 (V1.heap.size) (.int .i64 0) (.int .i64 0) (.slice none 0 0)) := hB.trans (put3_below hle4 _ _ _)
  obtain ⟨g0, g1, g2⟩ := cz3 kf
  go_wp2_with fail
  exact bodyPost_ret (v := .tuple #[imv 0 0 none 0 0, .int .i64 2]) (by simp [results, Tryz.results30, go_sem, g0, g1, g2]) rfl ⟨⟨_, rfl, _, rfl, World.ownsRow_nil _ _ _ _⟩, hbf⟩
 | true =>
 have hq : (q : Int) = I := by have := givenB_len hv1H.out; rw [hmH.out] at this; exact this
 have hq1 : 1 ≤ q := by omega
 have hq3 : q ≤ 3 := by omega
 have hqH := Lib.hid hq
 clear hq
 have hR2 : R = { w := (meanN ⟨W, H, I, ss⟩ ms).w, h := (meanN ⟨W, H, I, ss⟩ ms).h, px := (meanN ⟨W, H, I, ss⟩ ms).px, err := 0 } := by rw [← hRH.out]; unfold meanS; rw [hv0H.out]; simp only [if_true]; rw [hv1H.out]; rfl
 have hR2H := Lib.hid hR2
 clear hR2
 obtain ⟨i0, gi, gz0, gz1, gz2⟩ := info_parts info_pic
 have hsz0 := hB.size
 have hl4b := k4.lt
 obtain ⟨B0, hB0e⟩ : ∃ B0, V4.heap.size = B0 := ⟨_, rfl⟩
 rw [hB0e] at hsz0 hl4b
 go_wp2_with fail
 refine (CloneI_any ms la lc q hmH.out (by omega) V4 hrl (fun h => by rcases hrl with h1 | ⟨b, o, h1, _⟩; (have := hmH.out; rw [h1] at this; simp at this; omega); (rw [h] at h1; cases h1))).mono ?_
 rintro e V5 ⟨vv, rfl, ⟨l0, hl0, hown⟩, hb⟩
 have hB0l := hb.size
 rw [hB0e] at hB0l
 clear m0 m1 m2 m3 z0 z1 z2 fz0 fz1 fz2
 replace kp := kp.below hb kp.lt
 replace k4 := k4.below hb k4.lt
 replace hr := hr.later hb
 replace hrl := hrl.later hb
 replace hB := tmB hB hb
 clear hb
 obtain ⟨m0, m1, m2, m3⟩ := cz4 kp
 have z0 := k4.cell (i := 0) rfl
 have fz0 := k4.frozen 0
 have z1 := k4.cell (i := 1) rfl
 have fz1 := k4.frozen 1
 have z2 := k4.cell (i := 2) rfl
 have fz2 := k4.frozen 2
 clear hrl
 go_wp2_with fail
 clear m0 m1 m2 m3 z0 z1 z2 fz0 fz1 fz2
 have hAp := fun k => afterN_length ss ms k
 have hApH := Lib.hid (fun k => (afterN_length ss ms k).trans (by rw [hmH.out]))
 clear hAp
 have hownB : ∃ l : List PicA, OwnA B0 V5 vv l ∧ l.map PicA.p = afterN ss ms 0 ∧ (0 = 0 ∨ ∃ l' x, l = l' ++ [x] ∧ V5.ownsRow w.heap.size 3 1 (.slice x.a x.p.px.length x.c) x.p.px.length (x.p.px.map (Value.int .i64))) := ⟨l0, hB0e ▸ hown, hl0, .inl rfl⟩
 have hownBH := Lib.hid hownB
 clear hownB hown hl0
 go_loopw [7, 33] (fun v i wr => ∃ k : Nat, k ≤ n ∧ i = .int .i64 (k : Int) ∧ Hid (∃ l : List PicA, OwnA B0 wr v l ∧ l.map PicA.p = afterN ss ms k ∧ (k = 0 ∨ ∃ l' x, l = l' ++ [x] ∧ wr.ownsRow w.heap.size 3 1 (.slice x.a x.p.px.length x.c) x.p.px.length (x.p.px.map (Value.int .i64)))) ∧ B0 ≤ wr.heap.size ∧ Below w.heap.size w wr ∧ Blk wr w.heap.size 24 #[.int .i64 W, .int .i64 H, .int .i64 I, .slice a n c] ∧ Blk wr (V1.heap.size) 32 #[.int .i64 0, .int .i64 0, .slice none 0 0]) (fun _ i _ => n - (intOf i).toNat)
 case atStart => exact ⟨0, Nat.zero_le _, rfl, hownBH, hB0l, hB, kp, k4⟩
 case round =>
  clear hB kp k4 hownBH hB0l
  obtain ⟨k, hk, rfl, hH, hB0l, hB, kp, k4⟩ := hrel
  obtain ⟨l, hown, hlm, hlast⟩ := hH.out
  have hll : l.length = q + k := by rw [← hApH.out k, ← hlm, List.length_map]
  obtain ⟨va, vc, rfl⟩ := row_slice hown.row
  by_cases hlt : k < n
  case neg =>
   have hkn : k = n := by omega
   subst hkn
   rcases hlast with h0 | ⟨l', x, hlx, hrow⟩
   ·omega
   have hx1 : meanN ⟨W, H, I, ss⟩ ms = x.p := by
    unfold meanN
    simp only
    rw [hnH.out, hmH.out, ← hlm, hlx, List.map_append]
    have hl' : l'.length = q + k - 1 := by have := congrArg List.length hlx; rw [hll, List.length_append, List.length_singleton] at this; omega
    simp only [List.map_cons, List.map_nil]
    rw [picAt_snoc, if_neg (by rw [List.length_map]; omega), if_pos (by rw [List.length_map]; omega)]
   have hR2 := hR2H.out
   rw [hx1] at hR2
   subst hR2
   obtain ⟨xp, xa, xc⟩ := x
   obtain ⟨xw, xh, xx⟩ := xp
   simp only at hrow ⊢
   have hl' : l'.length = q + k - 1 := by
    have := congrArg List.length hlx
    rw [hll, List.length_append, List.length_singleton] at this
    omega
   have hxa := flatC_at l (q + k - 1) ⟨⟨xw, xh, xx⟩, xa, xc⟩ (by rw [hlx, List.getElem?_append_right (by omega), hl']; simp)
   obtain ⟨g, rfl⟩ := row_someP (hll ▸ hown.row : wr.ownsRow B0 32 3 (.slice va (q + k) vc) (q + k) (flatC l)) (by omega)
   have hrow0 : wr.ownsRow B0 32 3 (.slice (some ⟨g, 0, none⟩) (q + k) vc) (q + k) (flatC l) := by have := hown.row; rw [hll] at this; exact this
   have hc := fun j (hj : j < 3) => (hrow0.cellAt ((q + k - 1) * 3 + j) (by omega)).trans (hxa j hj)
   have c0 := hc 0 (by omega)
   have c1 := hc 1 (by omega)
   have c2 := hc 2 (by omega)
   simp only [picCells, Nat.add_zero, List.getElem?_cons_zero, List.getElem?_cons_succ] at c0 c1 c2
   rw [hll]
   have hgt : (q : Int) + (k : Int) - 1 = ((q + k - 1 : Nat) : Int) := by omega
   obtain ⟨t, ht⟩ : ∃ t, q + k - 1 = t := ⟨_, rfl⟩
   rw [ht] at c0 c1 c2 hgt
   have htl : t < q + k := by omega
   have ks0 := k4.frozen 0
   obtain ⟨z0, z1, z2⟩ := cz3 k4
   have ks1 := k4.frozen 1
   have ks2 := k4.frozen 2
   have kf := put3_blk k4 (.int .i64 xw) (.int .i64 xh) (.slice xa xx.length xc)
   have rowf := row_put3b hrow (k4.not_row (by decide) hrow) (.int .i64 xw) (.int .i64 xh) (.slice xa xx.length xc)
   have hbf : Below w.heap.size w (put3 wr (V1.heap.size) (.int .i64 xw) (.int .i64 xh) (.slice xa xx.length xc)) := hB.trans (put3_below hle4 _ _ _)
   obtain ⟨g0, g1, g2⟩ := cz3 kf
   clear hH hown hrow0 hc hlm hlx hl' hxa hrow kp k4 hx1 hR2H hRH
   go_wp2_with fail
   exact bodyPost_ret (v := .tuple #[imv xw xh xa xx.length xc, .int .i64 0]) (by simp [results, Tryz.results30, go_sem, g0, g1, g2]) rfl ⟨⟨_, rfl, _, rfl, rowf⟩, hbf⟩
  case pos =>
   have hkl : k < ss.length := by have := hnH.out; omega
   have hs := hstH.out k hkl
   have hst := stepsB_at hallH.out hlt
   obtain ⟨b, o, ka, kc, sa, sc, rfl, hbl, hst2⟩ : ∃ b o ka kc sa sc, a = some ⟨b, o, none⟩ ∧ b < w.heap.size ∧ StAt w.heap.size w b (o + k * 16) (stAt ss k) ka kc sa sc := by
    rcases hr0 with h | ⟨b, o, h1, h2, h3⟩
    ·exfalso; rw [h] at hkl; simp at hkl
    ·obtain ⟨ka, kc, sa, sc, e⟩ := h3 k hkl
     exact ⟨b, o, ka, kc, sa, sc, h1, h2, e⟩
   have hnx : afterN ss ms (k + 1) = afterN ss ms k ++ [resN (appS (stAt ss k) (afterN ss ms k))] := rfl
   have hlenk := hApH.out k
   have hpx := afterN_px hplH.out ss k
   rw [hll]
   have hrow0 : wr.ownsRow B0 32 3 (.slice va (q + k) vc) (q + k) (flatC l) := by have := hown.row; rw [hll] at this; exact this
   have hpr : RdPs wr.heap.size wr va (afterN ss ms k) := by
    obtain ⟨a', c', e1, e2⟩ := hown.ps.slice
    simp only [Value.slice.injEq] at e1
    obtain ⟨rfl, _, rfl⟩ := e1
    rw [hlm] at e2; exact e2
   obtain ⟨s, hse⟩ : ∃ s, stAt ss k = s := ⟨_, rfl⟩
   obtain ⟨M, hM⟩ : ∃ M, afterN ss ms k = M := ⟨_, rfl⟩
   rw [hse] at hs hst hst2 hnx
   rw [hM] at hnx hlenk hpx hpr hlm
   rw [Bool.and_eq_true] at hst
   obtain ⟨hra, hrb⟩ := refB_true hst.2
   have hseH := Lib.hid hse
   have hMH := Lib.hid hM
   have hnxH := Lib.hid hnx
   have hlmH := Lib.hid hlm
   have hpxH := Lib.hid hpx
   have hrdH := Lib.hid hown.rd
   have hllH := Lib.hid hll
   clear hse hM hnx hlm hpx hst hH hlast hown
   obtain ⟨hcell, hta, hbi⟩ := hst2
   have c0 : wr.cell? ⟨b, o + k * 16, none⟩ = some (.int .u8 s.op) := (hB.cell (p := ⟨b, o + k * 16, none⟩) hbl).trans (hcell 0 _ rfl)
   have c1 : wr.cell? ⟨b, o + k * 16 + 1, none⟩ = some (.int .i64 s.a) := (hB.cell (p := ⟨b, o + k * 16 + 1, none⟩) hbl).trans (hcell 1 _ rfl)
   have c2 : wr.cell? ⟨b, o + k * 16 + 2, none⟩ = some (.int .i64 s.b) := (hB.cell (p := ⟨b, o + k * 16 + 2, none⟩) hbl).trans (hcell 2 _ rfl)
   have c3 : wr.cell? ⟨b, o + k * 16 + 3, none⟩ = some (.int .i64 s.pt.mul) := (hB.cell (p := ⟨b, o + k * 16 + 3, none⟩) hbl).trans (hcell 3 _ rfl)
   have c4 : wr.cell? ⟨b, o + k * 16 + 4, none⟩ = some (.int .i64 s.pt.add) := (hB.cell (p := ⟨b, o + k * 16 + 4, none⟩) hbl).trans (hcell 4 _ rfl)
   have c5 : wr.cell? ⟨b, o + k * 16 + 5, none⟩ = some (.int .i64 s.pt.div) := (hB.cell (p := ⟨b, o + k * 16 + 5, none⟩) hbl).trans (hcell 5 _ rfl)
   have c6 : wr.cell? ⟨b, o + k * 16 + 6, none⟩ = some (.int .i64 s.pt.lo) := (hB.cell (p := ⟨b, o + k * 16 + 6, none⟩) hbl).trans (hcell 6 _ rfl)
   have c7 : wr.cell? ⟨b, o + k * 16 + 7, none⟩ = some (.int .i64 s.pt.hi) := (hB.cell (p := ⟨b, o + k * 16 + 7, none⟩) hbl).trans (hcell 7 _ rfl)
   have c8 : wr.cell? ⟨b, o + k * 16 + 8, none⟩ = some (.int .u8 s.how) := (hB.cell (p := ⟨b, o + k * 16 + 8, none⟩) hbl).trans (hcell 8 _ rfl)
   have c9 : wr.cell? ⟨b, o + k * 16 + 9, none⟩ = some (.int .i64 s.kw) := (hB.cell (p := ⟨b, o + k * 16 + 9, none⟩) hbl).trans (hcell 9 _ rfl)
   have c10 : wr.cell? ⟨b, o + k * 16 + 10, none⟩ = some (.int .i64 s.kh) := (hB.cell (p := ⟨b, o + k * 16 + 10, none⟩) hbl).trans (hcell 10 _ rfl)
   have c11 : wr.cell? ⟨b, o + k * 16 + 11, none⟩ = some (.slice ka s.taps.length kc) := (hB.cell (p := ⟨b, o + k * 16 + 11, none⟩) hbl).trans (hcell 11 _ rfl)
   have c12 : wr.cell? ⟨b, o + k * 16 + 12, none⟩ = some (.int .u8 s.bd) := (hB.cell (p := ⟨b, o + k * 16 + 12, none⟩) hbl).trans (hcell 12 _ rfl)
   have c13 : wr.cell? ⟨b, o + k * 16 + 13, none⟩ = some (.int .i64 s.sw) := (hB.cell (p := ⟨b, o + k * 16 + 13, none⟩) hbl).trans (hcell 13 _ rfl)
   have c14 : wr.cell? ⟨b, o + k * 16 + 14, none⟩ = some (.int .i64 s.sh) := (hB.cell (p := ⟨b, o + k * 16 + 14, none⟩) hbl).trans (hcell 14 _ rfl)
   have c15 : wr.cell? ⟨b, o + k * 16 + 15, none⟩ = some (.slice sa s.bits.length sc) := (hB.cell (p := ⟨b, o + k * 16 + 15, none⟩) hbl).trans (hcell 15 _ rfl)
   have lp := kp.lt
   have l4 := k4.lt
   have lw := hB.size
   clear hcell
   obtain ⟨m0, m1, m2, m3⟩ := cz4 kp
   have hrdJ : ∀ x ∈ l, RdX (Value.ownBlock (.slice va (q + k) vc)) wr x.a x.c x.p.px := by have := hrdH.out; rw [hll] at this; exact this
   have hrdJH := Lib.hid hrdJ
   clear hrdJ hrdH
   have hvl : ∀ b, (Value.slice va (q + k) vc).ownBlock = some b → b < wr.heap.size := fun b e => (hrow0.lt b e).2
   have hBw : Below wr.heap.size wr wr := Below.refl _ _
   obtain ⟨V21, hEV21, hbV21, ks⟩ := newB wr 76 #[.int .u8 s.op, .int .i64 s.a, .int .i64 s.b, .int .i64 s.pt.mul, .int .i64 s.pt.add, .int .i64 s.pt.div, .int .i64 s.pt.lo, .int .i64 s.pt.hi, .int .u8 s.how, .int .i64 s.kw, .int .i64 s.kh, .slice ka s.taps.length kc, .int .u8 s.bd, .int .i64 s.sw, .int .i64 s.sh, .slice sa s.bits.length sc]
   clear m0 m1 m2 m3
   replace kp := kp.below hbV21 kp.lt
   replace k4 := k4.below hbV21 k4.lt
   replace hpr := hpr.later hbV21
   replace hBw := hBw.trans (hbV21.mono hBw.size)
   replace hrow0 := row_below hrow0 hbV21
   replace hB := tmB hB hbV21
   clear hbV21
   obtain ⟨m0, m1, m2, m3⟩ := cz4 kp
   obtain ⟨y0, y1, y2, y3, y4, y5, y6, y7, y8, y9, y10, y11, y12, y13, y14, y15⟩ := cz16 ks
   have hsz1 := hBw.size
   go_wp2_with fail
   clear hEV21
   refine (apply_any s hs ka sa kc sc M va vc (q + k) hlenk (fun i _ => hpxH.out i) hra.1 (by have := hqH.out; omega) (fun h => ⟨(hrb h).1, by have := (hrb h).2; have := hqH.out; omega⟩) V21 hpr (later_i hta hB) ((hbi.below (Nat.le_refl _) hB).mono hB.size)).mono ?_
   rintro e V22 ⟨⟨vv2, rfl, tt, rfl, hrow⟩, hb⟩
   clear m0 m1 m2 m3 y0 y1 y2 y3 y4 y5 y6 y7 y8 y9 y10 y11 y12 y13 y14 y15
   replace kp := kp.below hb kp.lt
   replace k4 := k4.below hb k4.lt
   replace ks := ks.below hb ks.lt
   replace hpr := hpr.later hb
   replace hBw := hBw.trans (hb.mono hBw.size)
   replace hrow0 := row_below hrow0 hb
   replace hB := tmB hB hb
   clear hb
   clear c0 c1 c2 c3 c4 c5 c6 c7 c8 c9 c10 c11 c12 c13 c14 c15
   obtain ⟨X, hX⟩ : ∃ X, appS s M = X := ⟨_, rfl⟩
   rw [hX] at hrow
   rw [hX]
   have hXH := Lib.hid hX
   clear hX
   obtain ⟨xw, xh, xx, er⟩ := X
   obtain ⟨xa, xc, rfl⟩ := row_slice hrow
   simp only at hrow
   have hfar : xx = [] ∨ ∀ ad, xa = some ad → (Value.slice va (q + k) vc).ownBlock ≠ some ad.block := by
    right
    rintro ad rfl e
    have e1 := (hrow.lt ad.block rfl).1
    have e2 := hvl _ e
    omega
   have hfarH := Lib.hid hfar
   clear hfar
   obtain ⟨xl, hxl⟩ : ∃ l, xx.length = l := ⟨_, rfl⟩
   have hxlH := Lib.hid hxl
   simp only
   rw [hxl] at hrow
   rw [hxl]
   clear hxl
   clear ks
   have kr := Blk.new V22 32 #[.int .i64 0, .int .i64 0, .slice none 0 0]
   obtain ⟨bkr, hxkr⟩ : ∃ b, V22.heap.size = b := ⟨_, rfl⟩
   obtain ⟨V22a, hAkr⟩ : ∃ X, V22.alloc (.cells #[.int .i64 0, .int .i64 0, .slice none 0 0] 32) = X := ⟨_, rfl⟩
   have hba : Below V22.heap.size V22 V22a := alloc_below hAkr
   rw [hAkr, hxkr] at kr
   have hlekr : V22.heap.size ≤ bkr := by omega
   have ykr0 := kr.cell (i := 0) rfl
   have fykr0 := kr.frozen 0
   have ykr1 := kr.cell (i := 1) rfl
   have fykr1 := kr.frozen 1
   have ykr2 := kr.cell (i := 2) rfl
   have fykr2 := kr.frozen 2
   have krn := put3_blk kr (.int .i64 xw) (.int .i64 xh) (.slice xa xl xc)
   have hb : Below V22.heap.size V22 (put3 V22a bkr (.int .i64 xw) (.int .i64 xh) (.slice xa xl xc)) := hba.trans (put3_below hlekr (.int .i64 xw) (.int .i64 xh) (.slice xa xl xc))
   obtain ⟨V23, hPkr⟩ : ∃ X, put3 V22a bkr (.int .i64 xw) (.int .i64 xh) (.slice xa xl xc) = X := ⟨_, rfl⟩
   rw [hPkr] at krn hb
   replace kr := krn
   clear krn hba hlekr
   replace kp := kp.below hb kp.lt
   replace k4 := k4.below hb k4.lt
   replace hpr := hpr.later hb
   replace hBw := hBw.trans (hb.mono hBw.size)
   replace hrow0 := row_below hrow0 hb
   replace hrow := row_below hrow hb
   replace hB := tmB hB hb
   clear hb
   obtain ⟨u0, u1, u2⟩ := cz3 kr
   have uu0 := u0
   have uu1 := u1
   have uu2 := u2
   obtain ⟨V24, hEV24, hbV24, kb⟩ := newB V23 32 #[.int .i64 xw, .int .i64 xh, .slice xa xl xc]
   clear u0 u1 u2
   replace kp := kp.below hbV24 kp.lt
   replace k4 := k4.below hbV24 k4.lt
   replace kr := kr.below hbV24 kr.lt
   replace hpr := hpr.later hbV24
   replace hBw := hBw.trans (hbV24.mono hBw.size)
   replace hrow0 := row_below hrow0 hbV24
   replace hrow := row_below hrow hbV24
   replace hB := tmB hB hbV24
   clear hbV24
   go_wp2_with (at_builtin; refine wpList_append_anyS rfl _ _ 58 rfl B0 32 i0 (.agg #[.int .i64 0, .int .i64 0, .slice none 0 0]) 3 40 Tryz.underlying58 gi gz0 gz1 gz2 rfl (by decide) (.slice va (q + k) vc) (q + k) (flatC l) rfl hrow0 (some ⟨_, 0, none⟩) 1 1 (picCells ⟨⟨xw, xh, xx⟩, xa, xc⟩) rfl rfl (by rw [show picCells ⟨⟨xw, xh, xx⟩, xa, xc⟩ = [.int .i64 xw, .int .i64 xh, .slice xa xl xc] by show [_, _, Value.slice xa xx.length xc] = _; rw [hxlH.out]]; exact NewsAt.blk kb 1) (flatC_one [⟨⟨xw, xh, xx⟩, xa, xc⟩]) (by unfold maxLen; omega) (by omega) (by have := hBw.size; omega) ?_; intro v7 W7 own7 hg7 hat7)
   have hBf : Below w.heap.size w W7 := hB.grown hg7 hB.size (fun b e => by have := (hrow0.lt b e).1; omega)
   have kp7 := kp.kept hg7 (fun e => by have := (hrow0.lt _ e.symm).1; omega)
   have k47 := k4.kept hg7 (fun e => by have := (hrow0.lt _ e.symm).1; omega)
   have hB07 : B0 ≤ W7.heap.size := by have := hBw.size; have := hg7.size; omega
   have hnew := OwnA.push (B := B0) (x := ⟨⟨xw, xh, xx⟩, xa, xc⟩) (fun y hy => by have e := hrdJH.out y hy; exact ⟨later_i e.1 hBw, e.2⟩) (row_rd' hxlH.out hrow) (fun e => by subst e; exact (row_nil hrow).2) hfarH.out (by have hll2 := hllH.out; rw [hll2]; exact own7) hg7 hat7
   have hrow7 : W7.ownsRow w.heap.size 3 1 (.slice xa xx.length xc) xx.length (xx.map (Value.int .i64)) := by
    rw [hxlH.out]
    refine jrow_weaken (hrow.kept hg7 ?_) (by omega)
    cases xa with
    | none => exact .inl rfl
    | some ad =>
     right
     intro e
     have e1 := (hrow.lt ad.block rfl).1
     have e2 := hvl _ e.symm
     omega
   have hfin : ∃ l : List PicA, OwnA B0 W7 v7 l ∧ l.map PicA.p = afterN ss ms (k + 1) ∧ (k + 1 = 0 ∨ ∃ l' x, l = l' ++ [x] ∧ W7.ownsRow w.heap.size 3 1 (.slice x.a x.p.px.length x.c) x.p.px.length (x.p.px.map (Value.int .i64))) := by
    refine ⟨_, hnew, ?_, .inr ⟨l, _, rfl, hrow7⟩⟩
    rw [List.map_append, hlmH.out, hnxH.out, hXH.out]
    rfl
   have hfinH := Lib.hid hfin
   clear hfin hnew hrow7 hrow hrow0 own7 hg7 hat7 kb kr hB kp k4 hpr hBw
   go_roundw
   case rel => exact ⟨k + 1, by omega, by go_num, hfinH, hB07, hBf, kp7, k47⟩
   case measure => simp [intOf]; omega
end Go.Proofs.YtekiemlniegddaaGreat

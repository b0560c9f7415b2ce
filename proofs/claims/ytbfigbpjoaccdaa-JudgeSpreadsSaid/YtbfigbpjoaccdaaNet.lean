/- Networks: numbers and bounds of numbers through layers, verdicts, certificates by splits; a certificate holds. Plain: no program in sight. -/
import Derived.Test.YtbfigbpjoaccdaaJury
namespace Go.Proofs.Ytbfigbpjoaccdaa
set_option linter.unusedVariables false
set_option linter.unusedSimpArgs false

/-- A layer: for each of its numbers the weights of those before it, and a bias. -/
structure LayN where
  ws : List (List Int)
  bs : List Int
def wAt (L : LayN) (k j : Nat) : Int := (L.ws[k]?.getD [])[j]?.getD 0
def bAt (L : LayN) (k : Nat) : Int := L.bs[k]?.getD 0
/-- 0 instead of what is below, if asked. -/
def cutI (c : Bool) (s : Int) : Int := if c = true then max s 0 else s
theorem cutI_mono {c : Bool} {a b : Int} (h : a ≤ b) : cutI c a ≤ cutI c b := by unfold cutI; split <;> omega

def layF (L : LayN) (c : Bool) (l : List Int) (k : Nat) : Int := cutI c (bAt L k + sumJ (fun j => wAt L k j * l[j]?.getD 0) l.length)
def layL (L : LayN) (c : Bool) (l : List Int) : List Int := (List.range L.bs.length).map (layF L c l)
def fwdL : List LayN → List Int → List Int
  | [], l => l
  | L :: r, l => fwdL r (layL L (!r.isEmpty) l)
def scoreN (Ls : List LayN) (l : List Int) : Int := (fwdL Ls l)[0]?.getD 0

/-- The terms of a lower, of an upper bound. -/
def loT (w lo hi : Int) : Int := if w < 0 then w * hi else w * lo
def hiT (w lo hi : Int) : Int := if w < 0 then w * lo else w * hi
def loAt (l : List (Int × Int)) (j : Nat) : Int := (l[j]?.getD (0, 0)).1
def hiAt (l : List (Int × Int)) (j : Nat) : Int := (l[j]?.getD (0, 0)).2
def layBF (L : LayN) (c : Bool) (l : List (Int × Int)) (k : Nat) : Int × Int :=
  (cutI c (bAt L k + sumJ (fun j => loT (wAt L k j) (loAt l j) (hiAt l j)) l.length), cutI c (bAt L k + sumJ (fun j => hiT (wAt L k j) (loAt l j) (hiAt l j)) l.length))
def layB (L : LayN) (c : Bool) (l : List (Int × Int)) : List (Int × Int) := (List.range L.bs.length).map (layBF L c l)
def fwdB : List LayN → List (Int × Int) → List (Int × Int)
  | [], l => l
  | L :: r, l => fwdB r (layB L (!r.isEmpty) l)

theorem sumJ_mono {f g : Nat → Int} : ∀ {n : Nat}, (∀ i, i < n → f i ≤ g i) → sumJ f n ≤ sumJ g n
  | 0, _ => Int.le_refl _
  | n + 1, h => by
    have := sumJ_mono (n := n) fun i hi => h i (by omega)
    have := h n (by omega)
    simp only [sumJ]
    omega
theorem loT_le {w lo hi x : Int} (h1 : lo ≤ x) (h2 : x ≤ hi) : loT w lo hi ≤ w * x := by
  unfold loT
  split
  · exact Int.mul_le_mul_of_nonpos_left (by omega) h2
  · exact Int.mul_le_mul_of_nonneg_left h1 (by omega)
theorem le_hiT {w lo hi x : Int} (h1 : lo ≤ x) (h2 : x ≤ hi) : w * x ≤ hiT w lo hi := by
  unfold hiT
  split
  · exact Int.mul_le_mul_of_nonpos_left (by omega) h1
  · exact Int.mul_le_mul_of_nonneg_left h2 (by omega)

/-- Numbers are within bounds; bounds are within bounds. -/
structure InB (l : List (Int × Int)) (x : List Int) : Prop where
  len : l.length = x.length
  bd : ∀ j, j < l.length → loAt l j ≤ x[j]?.getD 0 ∧ x[j]?.getD 0 ≤ hiAt l j
structure SubB (l m : List (Int × Int)) : Prop where
  len : l.length = m.length
  bd : ∀ j, j < l.length → loAt m j ≤ loAt l j ∧ hiAt l j ≤ hiAt m j
  ok : ∀ j, j < l.length → loAt l j ≤ hiAt l j

theorem layB_at {L : LayN} {c : Bool} {l : List (Int × Int)} {k : Nat} (hk : k < L.bs.length) : loAt (layB L c l) k = (layBF L c l k).1 ∧ hiAt (layB L c l) k = (layBF L c l k).2 := by
  unfold loAt hiAt layB
  rw [getD_map_range _ _ hk]
  exact ⟨rfl, rfl⟩
theorem layB_length (L : LayN) (c : Bool) (l : List (Int × Int)) : (layB L c l).length = L.bs.length := by simp [layB]
theorem layL_length (L : LayN) (c : Bool) (l : List Int) : (layL L c l).length = L.bs.length := by simp [layL]
theorem layB_holds {L : LayN} {c : Bool} {l : List (Int × Int)} {x : List Int} (h : InB l x) : InB (layB L c l) (layL L c x) where
  len := by rw [layB_length, layL_length]
  bd k hk := by
    rw [layB_length] at hk
    obtain ⟨e1, e2⟩ := layB_at (c := c) (l := l) hk
    rw [e1, e2]
    unfold layL
    rw [getD_map_range _ _ hk]
    unfold layBF layF
    rw [← h.len]
    have h1 := sumJ_mono (n := l.length) fun j hj => loT_le (w := wAt L k j) (h.bd j hj).1 (h.bd j hj).2
    have h2 := sumJ_mono (n := l.length) fun j hj => le_hiT (w := wAt L k j) (h.bd j hj).1 (h.bd j hj).2
    exact ⟨cutI_mono (by omega), cutI_mono (by omega)⟩
theorem fwdB_holds : ∀ (Ls : List LayN) {l : List (Int × Int)} {x : List Int}, InB l x → InB (fwdB Ls l) (fwdL Ls x)
  | [], _, _, h => h
  | L :: r, _, _, h => fwdB_holds r (layB_holds h)
theorem layB_sub {L : LayN} {c : Bool} {l m : List (Int × Int)} (h : SubB l m) : SubB (layB L c l) (layB L c m) where
  len := by rw [layB_length, layB_length]
  bd k hk := by
    rw [layB_length] at hk
    obtain ⟨e1, e2⟩ := layB_at (c := c) (l := l) hk
    obtain ⟨e3, e4⟩ := layB_at (c := c) (l := m) hk
    rw [e1, e2, e3, e4]
    unfold layBF
    rw [← h.len]
    have h1 := sumJ_mono (n := l.length) (f := fun j => loT (wAt L k j) (loAt m j) (hiAt m j)) (g := fun j => loT (wAt L k j) (loAt l j) (hiAt l j)) fun j hj => by
      have := h.bd j hj
      have := h.ok j hj
      show loT _ _ _ ≤ loT _ (loAt l j) (hiAt l j)
      unfold loT
      split
      · exact Int.mul_le_mul_of_nonpos_left (by omega) (by omega)
      · exact Int.mul_le_mul_of_nonneg_left (by omega) (by omega)
    have h2 := sumJ_mono (n := l.length) (f := fun j => hiT (wAt L k j) (loAt l j) (hiAt l j)) (g := fun j => hiT (wAt L k j) (loAt m j) (hiAt m j)) fun j hj => by
      have := h.bd j hj
      have := h.ok j hj
      show hiT _ (loAt l j) (hiAt l j) ≤ hiT _ _ _
      unfold hiT
      split
      · exact Int.mul_le_mul_of_nonpos_left (by omega) (by omega)
      · exact Int.mul_le_mul_of_nonneg_left (by omega) (by omega)
    exact ⟨cutI_mono (by omega), cutI_mono (by omega)⟩
  ok k hk := by
    rw [layB_length] at hk
    obtain ⟨e1, e2⟩ := layB_at (c := c) (l := l) hk
    rw [e1, e2]
    unfold layBF
    have h1 := sumJ_mono (n := l.length) (f := fun j => loT (wAt L k j) (loAt l j) (hiAt l j)) (g := fun j => hiT (wAt L k j) (loAt l j) (hiAt l j)) fun j hj =>
      Int.le_trans (loT_le (x := loAt l j) (Int.le_refl _) (h.ok j hj)) (le_hiT (Int.le_refl _) (h.ok j hj))
    exact cutI_mono (by omega)
theorem fwdB_sub : ∀ (Ls : List LayN) {l m : List (Int × Int)}, SubB l m → SubB (fwdB Ls l) (fwdB Ls m)
  | [], _, _, h => h
  | L :: r, _, _, h => fwdB_sub r (layB_sub h)

/-- Bounds of single numbers are the numbers. -/
def dupL (x : List Int) : List (Int × Int) := x.map fun v => (v, v)
theorem dupL_at (x : List Int) (j : Nat) : loAt (dupL x) j = x[j]?.getD 0 ∧ hiAt (dupL x) j = x[j]?.getD 0 := by
  unfold loAt hiAt dupL
  rw [List.getElem?_map]
  cases x[j]? <;> exact ⟨rfl, rfl⟩
theorem layB_dup (L : LayN) (c : Bool) (x : List Int) : layB L c (dupL x) = dupL (layL L c x) := by
  unfold layB layL
  rw [show dupL ((List.range L.bs.length).map (layF L c x)) = (List.range L.bs.length).map (fun k => (layF L c x k, layF L c x k)) by unfold dupL; rw [List.map_map]; rfl]
  refine List.map_congr_left fun k _ => ?_
  have hl : (dupL x).length = x.length := by simp [dupL]
  have e1 : ∀ j, loT (wAt L k j) (loAt (dupL x) j) (hiAt (dupL x) j) = wAt L k j * x[j]?.getD 0 := fun j => by
    unfold loT; rw [(dupL_at x j).1, (dupL_at x j).2]; split <;> rfl
  have e2 : ∀ j, hiT (wAt L k j) (loAt (dupL x) j) (hiAt (dupL x) j) = wAt L k j * x[j]?.getD 0 := fun j => by
    unfold hiT; rw [(dupL_at x j).1, (dupL_at x j).2]; split <;> rfl
  unfold layBF layF
  rw [hl, sumJ_congr (n := x.length) fun j _ => e1 j, sumJ_congr (n := x.length) fun j _ => e2 j]
theorem fwdB_dup : ∀ (Ls : List LayN) (x : List Int), fwdB Ls (dupL x) = dupL (fwdL Ls x)
  | [], _ => rfl
  | L :: r, x => by rw [fwdB, fwdL, layB_dup, fwdB_dup r]

/-! ### Verdicts and certificates -/

def verdB (low high a b : Int) : Nat := if high ≤ a then 1 else if b ≤ low then 2 else 3
def judgeB (Ls : List LayN) (low high : Int) (l : List (Int × Int)) : Nat := verdB low high (loAt (fwdB Ls l) 0) (hiAt (fwdB Ls l) 0)
def widthB (l : List (Int × Int)) (i : Nat) : Int := hiAt l i - loAt l i
def wideTo (l : List (Int × Int)) : Nat → Nat
  | 0 => 0
  | i + 1 => if widthB l (wideTo l i) < widthB l i then i else wideTo l i
def wideB (l : List (Int × Int)) : Nat := wideTo l l.length
def midB (l : List (Int × Int)) : Int := (loAt l (wideB l) + hiAt l (wideB l)).tdiv 2
def leftB (l : List (Int × Int)) : List (Int × Int) := l.set (wideB l) (loAt l (wideB l), midB l)
def rightB (l : List (Int × Int)) : List (Int × Int) := l.set (wideB l) (midB l + 1, hiAt l (wideB l))
def certN (Ls : List LayN) (low high : Int) : Nat → List (Int × Int) → Nat
  | 0, l => judgeB Ls low high l
  | s + 1, l => if judgeB Ls low high l ≠ 3 ∨ loAt l (wideB l) = hiAt l (wideB l) then judgeB Ls low high l else
      if certN Ls low high s (leftB l) ≠ 3 ∧ certN Ls low high s (rightB l) ≠ certN Ls low high s (leftB l) then 3 else certN Ls low high s (leftB l)

variable {Ls : List LayN} {low high : Int}
theorem verdB_holds {a b s : Int} (hl : low < high) (h1 : a ≤ s) (h2 : s ≤ b) (hv : verdB low high a b ≠ 3) : verdB low high s s = verdB low high a b := by
  unfold verdB at hv ⊢
  by_cases c1 : high ≤ a
  · rw [if_pos c1, if_pos (by omega)]
  · rw [if_neg c1] at hv ⊢
    by_cases c2 : b ≤ low
    · rw [if_pos c2, if_neg (by omega), if_pos (by omega)]
    · rw [if_neg c2] at hv; exact (hv rfl).elim
theorem fwdL_len : ∀ (Ls : List LayN) (x y : List Int), x.length = y.length → (fwdL Ls x).length = (fwdL Ls y).length
  | [], _, _, h => h
  | L :: r, x, y, h => fwdL_len r _ _ (by rw [layL_length, layL_length])
theorem judgeB_holds {l : List (Int × Int)} {x : List Int} (hl : low < high) (h : InB l x) (h0 : 0 < (fwdB Ls l).length) (hv : judgeB Ls low high l ≠ 3) : verdB low high (scoreN Ls x) (scoreN Ls x) = judgeB Ls low high l := by
  have hb := (fwdB_holds Ls h).bd 0 h0
  exact verdB_holds hl hb.1 hb.2 hv
theorem set_at (l : List (Int × Int)) (i : Nat) (v : Int × Int) {j : Nat} (hj : j < l.length) : loAt (l.set i v) j = (if j = i then v.1 else loAt l j) ∧ hiAt (l.set i v) j = (if j = i then v.2 else hiAt l j) := by
  unfold loAt hiAt
  by_cases e : j = i
  · subst e
    rw [if_pos rfl, if_pos rfl, List.getElem?_set_self hj]
    exact ⟨rfl, rfl⟩
  · rw [if_neg e, if_neg e, List.getElem?_set_ne (fun h => e h.symm)]
    exact ⟨rfl, rfl⟩
theorem InB.split {l : List (Int × Int)} {x : List Int} (h : InB l x) : InB (leftB l) x ∨ InB (rightB l) x := by
  by_cases hc : x[wideB l]?.getD 0 ≤ midB l
  · refine .inl ⟨by unfold leftB; rw [List.length_set]; exact h.len, fun j hj => ?_⟩
    unfold leftB at hj ⊢
    rw [List.length_set] at hj
    obtain ⟨e1, e2⟩ := set_at l (wideB l) (loAt l (wideB l), midB l) hj
    rw [e1, e2]
    have hb := h.bd j hj
    by_cases e : j = wideB l
    · subst e; rw [if_pos rfl, if_pos rfl]; exact ⟨hb.1, hc⟩
    · rw [if_neg e, if_neg e]; exact hb
  · refine .inr ⟨by unfold rightB; rw [List.length_set]; exact h.len, fun j hj => ?_⟩
    unfold rightB at hj ⊢
    rw [List.length_set] at hj
    obtain ⟨e1, e2⟩ := set_at l (wideB l) (midB l + 1, hiAt l (wideB l)) hj
    rw [e1, e2]
    have hb := h.bd j hj
    by_cases e : j = wideB l
    · subst e; rw [if_pos rfl, if_pos rfl]; exact ⟨by show midB l + 1 ≤ _; omega, hb.2⟩
    · rw [if_neg e, if_neg e]; exact hb
theorem fwdB_len : ∀ (Ls : List LayN) (l m : List (Int × Int)), l.length = m.length → (fwdB Ls l).length = (fwdB Ls m).length
  | [], _, _, h => h
  | L :: r, x, y, h => fwdB_len r _ _ (by rw [layB_length, layB_length])
/-- A certificate holds for each choice of numbers within the bounds. -/
theorem certN_holds (hl : low < high) : ∀ (s : Nat) (l : List (Int × Int)) (x : List Int), InB l x → 0 < (fwdB Ls l).length → certN Ls low high s l ≠ 3 → verdB low high (scoreN Ls x) (scoreN Ls x) = certN Ls low high s l
  | 0, l, x, h, h0, hv => judgeB_holds hl h h0 hv
  | s + 1, l, x, h, h0, hv => by
    rw [certN] at hv ⊢
    by_cases c : judgeB Ls low high l ≠ 3 ∨ loAt l (wideB l) = hiAt l (wideB l)
    · rw [if_pos c] at hv ⊢
      exact judgeB_holds hl h h0 hv
    · rw [if_neg c] at hv ⊢
      by_cases c2 : certN Ls low high s (leftB l) ≠ 3 ∧ certN Ls low high s (rightB l) ≠ certN Ls low high s (leftB l)
      · rw [if_pos c2] at hv; exact (hv rfl).elim
      · rw [if_neg c2] at hv ⊢
        have hr : certN Ls low high s (rightB l) = certN Ls low high s (leftB l) := Classical.byContradiction fun e => c2 ⟨hv, e⟩
        have e1 : (leftB l).length = l.length := by unfold leftB; rw [List.length_set]
        have e2 : (rightB l).length = l.length := by unfold rightB; rw [List.length_set]
        rcases h.split with h1 | h1
        · exact certN_holds hl s _ x h1 (by rw [fwdB_len Ls _ l e1]; exact h0) hv
        · rw [← hr] at hv ⊢
          exact certN_holds hl s _ x h1 (by rw [fwdB_len Ls _ l e2]; exact h0) hv
theorem certN_judged {l : List (Int × Int)} (h : judgeB Ls low high l ≠ 3) (s : Nat) : certN Ls low high s l = judgeB Ls low high l := by
  cases s with
  | zero => rfl
  | succ s => rw [certN, if_pos (.inl h)]
/-- With more splits a certificate stays what it is. -/
theorem certN_more : ∀ (s m : Nat) (l : List (Int × Int)), certN Ls low high s l ≠ 3 → certN Ls low high (s + m) l = certN Ls low high s l
  | 0, m, l, h => certN_judged h _
  | s + 1, m, l, h => by
    rw [show s + 1 + m = s + m + 1 by omega]
    rw [certN] at h ⊢
    rw [certN]
    by_cases c : judgeB Ls low high l ≠ 3 ∨ loAt l (wideB l) = hiAt l (wideB l)
    · rw [if_pos c, if_pos c]
    · rw [if_neg c] at h
      rw [if_neg c, if_neg c]
      by_cases c2 : certN Ls low high s (leftB l) ≠ 3 ∧ certN Ls low high s (rightB l) ≠ certN Ls low high s (leftB l)
      · rw [if_pos c2] at h; exact (h rfl).elim
      · rw [if_neg c2] at h
        have hr : certN Ls low high s (rightB l) = certN Ls low high s (leftB l) := Classical.byContradiction fun e => c2 ⟨h, e⟩
        have i1 := certN_more s m (leftB l) h
        have i2 := certN_more s m (rightB l) (by rw [hr]; exact h)
        rw [i1, i2]
/-- The certificate of single numbers is their verdict. -/
theorem certN_one (x : List Int) (s : Nat) : certN Ls low high s (dupL x) = verdB low high (scoreN Ls x) (scoreN Ls x) := by
  have e : judgeB Ls low high (dupL x) = verdB low high (scoreN Ls x) (scoreN Ls x) := by
    unfold judgeB
    rw [fwdB_dup, (dupL_at _ 0).1, (dupL_at _ 0).2]
    rfl
  cases s with
  | zero => exact e
  | succ s => rw [certN, if_pos (.inr (by rw [(dupL_at _ _).1, (dupL_at _ _).2])), e]
/-- Without splits a certificate stays what it is for smaller bounds. -/
theorem judgeB_sub {l m : List (Int × Int)} (hl : low < high) (h : SubB l m) (h0 : 0 < (fwdB Ls l).length) (hv : judgeB Ls low high m ≠ 3) : judgeB Ls low high l = judgeB Ls low high m := by
  have hb := (fwdB_sub Ls h).bd 0 h0
  have ho := (fwdB_sub Ls h).ok 0 h0
  unfold judgeB verdB at hv ⊢
  by_cases c1 : high ≤ loAt (fwdB Ls m) 0
  · rw [if_pos c1, if_pos (by omega)]
  · rw [if_neg c1] at hv ⊢
    by_cases c2 : hiAt (fwdB Ls m) 0 ≤ low
    · rw [if_pos c2, if_neg (by omega), if_pos (by omega)]
    · rw [if_neg c2] at hv; exact (hv rfl).elim

end Go.Proofs.Ytbfigbpjoaccdaa

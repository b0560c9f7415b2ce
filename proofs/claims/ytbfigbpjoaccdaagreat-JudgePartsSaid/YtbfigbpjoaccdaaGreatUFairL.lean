/- Plain laws of juries: what is said of exchanged labels, of inspectors in another order, of parts in another order. -/
import Derived.Test.YtbfigbpjoaccdaaGreatQC15
namespace Go.Proofs.YtbfigbpjoaccdaaGreat
open Go Go.RowKit Go.Shelf
set_option linter.unusedVariables false
set_option linter.unusedSimpArgs false

theorem voteL_congr {lab lab' : Nat → Nat → Nat} {J K : Nat} (h : ∀ i k, i < J → lab i k = lab' i k) (ws : List Int) : voteL lab J K ws = voteL lab' J K ws := by
  unfold voteL
  refine List.map_congr_left fun k _ => ?_
  unfold voteF sumW
  rw [sumJ_congr (fun i hi => by rw [h i k hi]), sumJ_congr (f := fun i => if lab i k = 2 then _ else _) (fun i hi => by rw [h i k hi])]
theorem weighL_congr {lab lab' : Nat → Nat → Nat} {J K : Nat} (h : ∀ i k, i < J → lab i k = lab' i k) (vs : List Nat) : weighL lab J K vs = weighL lab' J K vs := by
  unfold weighL
  refine List.map_congr_left fun i hi => ?_
  unfold weighF netJ
  rw [sumJ_congr (fun k _ => by rw [h i k (List.mem_range.1 hi)])]
theorem reconL_congr {lab lab' : Nat → Nat → Nat} {J K : Nat} (h : ∀ i k, i < J → lab i k = lab' i k) : ∀ (r : Nat) (vs : List Nat) (ws : List Int), reconL lab J K r vs ws = reconL lab' J K r vs ws
  | 0, vs, ws => rfl
  | r + 1, vs, ws => by
    rw [reconL, reconL, weighL_congr h, voteL_congr h]
    split
    · rfl
    · exact reconL_congr h r _ _
theorem reconS_congr {lab lab' : Nat → Nat → Nat} {J K : Nat} (h : ∀ i k, i < J → lab i k = lab' i k) : reconS lab J K = reconS lab' J K := by
  unfold reconS
  rw [reconL_congr h, voteL_congr h]

/-! ### Labels with Pass and Fail exchanged -/

def swapX (xss : List (List Nat)) : List (List Nat) := xss.map (fun xs => xs.map swapL)
theorem swapX_length (xss : List (List Nat)) : (swapX xss).length = xss.length := by simp [swapX]
theorem swapX_at {xss : List (List Nat)} {i : Nat} : (swapX xss)[i]? = (xss[i]?).map (fun xs => xs.map swapL) := by simp [swapX]
theorem labF_swapX (xss : List (List Nat)) : labF (swapX xss) = fun i k => swapL (labF xss i k) := by
  funext i k
  unfold labF
  rw [swapX_at]
  cases xss[i]? with
  | none => rfl
  | some xs =>
    simp only [Option.map_some, Option.getD_some, List.getElem?_map]
    cases xs[k]? <;> rfl
theorem len0_swapX (xss : List (List Nat)) : len0 (swapX xss) = len0 xss := by
  unfold len0
  rw [swapX_at]
  cases xss[0]? <;> simp
theorem swapL_big (x : Nat) : (2 < swapL x) ↔ 2 < x := by unfold swapL; split <;> (try split) <;> omega
theorem bigN_swap (xs : List Nat) : bigN (xs.map swapL) = bigN xs := by
  unfold bigN
  rw [List.any_map]
  congr 1
  funext x
  simp [swapL_big]
theorem vldJ_swapX (xss : List (List Nat)) : vldJ (swapX xss) = vldJ xss := by
  unfold vldJ
  rw [swapX_length, len0_swapX]
  congr 1
  unfold swapX
  rw [List.all_map]
  congr 1
  funext xs
  simp [rowOk, bigN_swap]
theorem recJ_swapX {xss : List (List Nat)} (h : vldJ xss = true) : recJ (swapX xss) = ((recJ xss).1.map swapL, (recJ xss).2.1, 0) := by
  unfold recJ
  rw [vldJ_swapX, if_pos h, if_pos h, labF_swapX, swapX_length, len0_swapX, reconS_swap]

/-! ### Inspectors in the other order -/

theorem len0_all {xss : List (List Nat)} (h : vldJ xss = true) {i : Nat} {xs : List Nat} (hi : xss[i]? = some xs) : xs.length = len0 xss := (vldJ_true h).2.2.2.1 i xs hi
theorem rev_at {xss : List (List Nat)} {i : Nat} (hi : i < xss.length) : xss.reverse[i]? = xss[xss.length - 1 - i]? := List.getElem?_reverse hi
theorem len0_rev {xss : List (List Nat)} (h : vldJ xss = true) : len0 xss.reverse = len0 xss := by
  have h1 := (vldJ_true h).1
  obtain ⟨xs, hxs⟩ : ∃ x, xss[xss.length - 1 - 0]? = some x := ⟨_, List.getElem?_eq_getElem (by omega)⟩
  have := len0_all h hxs
  unfold len0 at this ⊢
  rw [rev_at (by omega), hxs]
  exact this
theorem vldJ_rev {xss : List (List Nat)} (h : vldJ xss = true) : vldJ xss.reverse = true := by
  have h2 := len0_rev h
  unfold vldJ at h ⊢
  rw [h2, List.length_reverse, List.all_reverse]
  exact h
theorem recJ_rev {xss : List (List Nat)} (h : vldJ xss = true) : recJ xss.reverse = ((recJ xss).1, (recJ xss).2.1.reverse, 0) := by
  unfold recJ
  rw [if_pos (vldJ_rev h), if_pos h, List.length_reverse, len0_rev h]
  have e := reconS_congr (lab := labF xss.reverse) (lab' := fun i k => labF xss (xss.length - 1 - i) k) (J := xss.length) (K := len0 xss) (fun i k hi => by unfold labF; rw [rev_at hi])
  rw [e, reconS_turn]

/-! ### Parts in another order -/

def exchX (a b : Nat) (xss : List (List Nat)) : List (List Nat) := xss.map (exchL a b)
theorem exchX_length (a b : Nat) (xss : List (List Nat)) : (exchX a b xss).length = xss.length := by simp [exchX]
theorem exchX_at {a b : Nat} {xss : List (List Nat)} {i : Nat} : (exchX a b xss)[i]? = (xss[i]?).map (exchL a b) := by simp [exchX]
theorem len0_exchX (a b : Nat) (xss : List (List Nat)) : len0 (exchX a b xss) = len0 xss := by
  unfold len0
  rw [exchX_at]
  cases xss[0]? <;> simp [exchL_length]
theorem exchL_at {a b : Nat} {xs : List Nat} (ha : a < xs.length) (hb : b < xs.length) (k : Nat) : ((exchL a b xs)[k]?).getD 0 = (xs[exch a b k]?).getD 0 := by
  by_cases hk : k < xs.length
  · unfold exchL
    rw [getD_map_range _ _ hk]
  · rw [List.getElem?_eq_none (by rw [exchL_length]; omega), show exch a b k = k by unfold exch; rw [if_neg (by omega), if_neg (by omega)], List.getElem?_eq_none (by omega)]
theorem labF_exchX {a b : Nat} {xss : List (List Nat)} (h : vldJ xss = true) (ha : a < len0 xss) (hb : b < len0 xss) : labF (exchX a b xss) = fun i k => labF xss i (exch a b k) := by
  funext i k
  unfold labF
  rw [exchX_at]
  cases hx : xss[i]? with
  | none => rfl
  | some xs =>
    have hl := len0_all h hx
    simp only [Option.map_some, Option.getD_some]
    exact exchL_at (by omega) (by omega) k
theorem bigN_exch {a b : Nat} {xs : List Nat} (ha : a < xs.length) (hb : b < xs.length) (h : bigN xs = false) : bigN (exchL a b xs) = false := by
  unfold bigN at h ⊢
  rw [List.any_eq_false] at h ⊢
  intro x hx
  unfold exchL at hx
  obtain ⟨k, hk, rfl⟩ := List.mem_map.1 hx
  have hk2 := exch_lt ha hb (List.mem_range.1 hk)
  rw [List.getElem?_eq_getElem hk2]
  exact h _ (List.getElem_mem hk2)
theorem vldJ_exchX {a b : Nat} {xss : List (List Nat)} (h : vldJ xss = true) (ha : a < len0 xss) (hb : b < len0 xss) : vldJ (exchX a b xss) = true := by
  have h0 := h
  unfold vldJ at h ⊢
  rw [exchX_length, len0_exchX]
  simp only [Bool.and_eq_true] at h ⊢
  refine ⟨h.1, List.all_eq_true.2 fun ys hy => ?_⟩
  unfold exchX at hy
  obtain ⟨xs, hx, rfl⟩ := List.mem_map.1 hy
  have h1 := List.all_eq_true.1 h.2 xs hx
  unfold rowOk at h1 ⊢
  simp only [Bool.and_eq_true, decide_eq_true_eq, Bool.not_eq_true'] at h1 ⊢
  exact ⟨by rw [exchL_length]; exact h1.1, bigN_exch (by omega) (by omega) h1.2⟩
theorem recJ_exchX {a b : Nat} {xss : List (List Nat)} (h : vldJ xss = true) (ha : a < len0 xss) (hb : b < len0 xss) : recJ (exchX a b xss) = (exchL a b (recJ xss).1, (recJ xss).2.1, 0) := by
  unfold recJ
  rw [if_pos (vldJ_exchX h ha hb), if_pos h, exchX_length, len0_exchX, labF_exchX h ha hb, reconS_exch ha hb]

/-! ### The verdict of one part by the weights -/

theorem recJ_ok {xss : List (List Nat)} (h : vldJ xss = true) : (recJ xss).1.length = len0 xss ∧ (recJ xss).2.1.length = xss.length ∧ (recJ xss).2.2 = 0 ∧ (∀ x ∈ (recJ xss).2.1, 0 ≤ x ∧ x ≤ 100) ∧
    (recJ xss).1 = voteL (labF xss) xss.length (len0 xss) (recJ xss).2.1 := by
  unfold recJ
  rw [if_pos h]
  exact ⟨reconS_len.1, reconS_len.2, rfl, reconS_pos (vldJ_true h).2.2.1, reconS_vote⟩
theorem recJ_bad {xss : List (List Nat)} (h : vldJ xss = false) : recJ xss = ([], [], 2) := by unfold recJ; rw [h]; rfl
theorem recJ_lt (xss : List (List Nat)) : ∀ x ∈ (recJ xss).1, x < 256 := by
  intro x hx
  cases h : vldJ xss with
  | false => rw [recJ_bad h] at hx; cases hx
  | true => rw [(recJ_ok h).2.2.2.2] at hx; exact voteL_lt _ _ _ _ x hx
/-- The sum up to one more inspector. -/
theorem sumW_snoc (lab : Nat → Nat → Nat) (w : Nat → Int) (v k i : Nat) : sumW lab w v k (i + 1) = sumW lab w v k i + (if lab i k = v then w i else 0) := rfl
theorem sumW_wb {lab : Nat → Nat → Nat} {w : Nat → Int} (h : ∀ i, 0 ≤ w i ∧ w i ≤ 100) (v k : Nat) : ∀ n, 0 ≤ sumW lab w v k n ∧ sumW lab w v k n ≤ 100 * n
  | 0 => ⟨Int.le_refl _, by simp [sumW, sumJ]⟩
  | n + 1 => by
    have h1 := sumW_wb (lab := lab) h v k n
    have h2 := h n
    rw [sumW_snoc]
    split <;> omega
theorem getD_bd {ws : List Int} (h : ∀ x ∈ ws, 0 ≤ x ∧ x ≤ 100) (i : Nat) : 0 ≤ ws[i]?.getD 0 ∧ ws[i]?.getD 0 ≤ 100 := by
  cases e : ws[i]? with
  | none => simp
  | some y => simp; exact h y (List.mem_of_getElem? e)
theorem vote_at {lab : Nat → Nat → Nat} {J K : Nat} {ws : List Int} {k : Nat} (hk : k < K) : (voteL lab J K ws)[k]?.getD 0 = verd (sumW lab (fun i => ws[i]?.getD 0) 1 k J) (sumW lab (fun i => ws[i]?.getD 0) 2 k J) := by
  unfold voteL
  rw [getD_map_range _ _ hk]
  rfl
end Go.Proofs.YtbfigbpjoaccdaaGreat

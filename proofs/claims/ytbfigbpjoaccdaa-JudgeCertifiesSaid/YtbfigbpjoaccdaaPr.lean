/- Pairs of ints in memory: a slice of pairs reads as the list of all its numbers. -/
import Derived.Test.YtbfigbpjoaccdaaBo
namespace Go.Proofs.Ytbfigbpjoaccdaa
open Go Go.RowKit Go.Shelf
set_option linter.unusedVariables false
set_option linter.unusedSimpArgs false

def flat : List (Int × Int) → List Int
  | [] => []
  | p :: l => p.1 :: p.2 :: flat l
theorem flat_length : ∀ l : List (Int × Int), (flat l).length = 2 * l.length
  | [] => rfl
  | p :: l => by rw [flat, List.length_cons, List.length_cons, flat_length l, List.length_cons]; omega
theorem flat_lo : ∀ (l : List (Int × Int)) (i : Nat), (flat l)[i * 2]?.getD 0 = loAt l i
  | [], i => by simp [flat, loAt]
  | p :: l, 0 => rfl
  | p :: l, i + 1 => by
    rw [flat, show (i + 1) * 2 = i * 2 + 1 + 1 by omega, List.getElem?_cons_succ, List.getElem?_cons_succ, flat_lo l i]
    unfold loAt; rw [List.getElem?_cons_succ]
theorem flat_hi : ∀ (l : List (Int × Int)) (i : Nat), (flat l)[i * 2 + 1]?.getD 0 = hiAt l i
  | [], i => by simp [flat, hiAt]
  | p :: l, 0 => rfl
  | p :: l, i + 1 => by
    rw [flat, show (i + 1) * 2 + 1 = i * 2 + 1 + 1 + 1 by omega, List.getElem?_cons_succ, List.getElem?_cons_succ, flat_hi l i]
    unfold hiAt; rw [List.getElem?_cons_succ]
theorem flat_set : ∀ (l : List (Int × Int)) (i : Nat) (a b : Int), ((flat l).set (i * 2) a).set (i * 2 + 1) b = flat (l.set i (a, b))
  | [], i, a, b => rfl
  | p :: l, 0, a, b => rfl
  | p :: l, i + 1, a, b => by
    rw [flat, show (i + 1) * 2 = i * 2 + 1 + 1 by omega, List.set_cons_succ, List.set_cons_succ, List.set_cons_succ, List.set_cons_succ, flat_set l i a b, List.set_cons_succ, flat]
theorem flat_rep : ∀ n : Nat, flat (List.replicate n (0, 0)) = List.replicate (2 * n) 0
  | 0 => rfl
  | n + 1 => by rw [List.replicate_succ, flat, flat_rep n, show 2 * (n + 1) = 2 * n + 1 + 1 by omega, List.replicate_succ, List.replicate_succ]
/-- What is filled so far. -/
def layP (F : Nat → Int × Int) (n k : Nat) : List (Int × Int) := (List.range n).map fun i => if i < k then F i else (0, 0)
theorem layP_length (F : Nat → Int × Int) (n k : Nat) : (layP F n k).length = n := by simp [layP]
theorem layP_zero (F : Nat → Int × Int) (n : Nat) : layP F n 0 = List.replicate n (0, 0) := by simp [layP, List.map_const']
theorem layP_all (F : Nat → Int × Int) (n : Nat) : layP F n n = (List.range n).map F := List.map_congr_left fun i hi => if_pos (List.mem_range.1 hi)
theorem layP_set (F : Nat → Int × Int) {n k : Nat} (hk : k < n) : (layP F n k).set k (F k) = layP F n (k + 1) := by
  refine List.ext_getElem (by simp [layP]) fun i h1 h2 => ?_
  simp only [List.length_set, layP_length] at h1
  rw [List.getElem_set]
  simp only [layP, List.getElem_map, List.getElem_range]
  by_cases e : k = i
  · subst e; rw [if_pos rfl, if_pos (by omega)]
  · rw [if_neg e]
    by_cases h : i < k
    · rw [if_pos h, if_pos (by omega)]
    · rw [if_neg h, if_neg (by omega)]
/-- What a row of pairs holds can be read. -/
theorem rowP_rd {W : World} {base : Nat} {e : TypeId} {a : Option Addr} {c n : Nat} {ys : List Int} (hn : ys.length = 2 * n) (h : W.ownsRow base e 2 (.slice a n c) n (ys.map (Value.int .i64))) : Rd W.heap.size W a ys := by
  rcases h.2 with ⟨h1, h2⟩ | ⟨g, cap, cur, h1, _, hg, _⟩
  · exact .inl (List.eq_nil_of_length_eq_zero (by omega))
  · simp only [Value.slice.injEq, true_and] at h1
    obtain ⟨rfl, rfl⟩ := h1
    refine .inr ⟨g, 0, rfl, (Array.getElem?_eq_some_iff.1 hg).1, fun i hi => ?_⟩
    have := h.cellAt i (by omega)
    rw [Nat.zero_add, this]
    simp [hi]
theorem jinfo_bnd : (Try.prog.info? 69).map (fun i => (i.zero, i.size, i.bytes)) = some (some (.agg #[.int .i64 0, .int .i64 0]), 2, 16) := by kernel_rfl
theorem jmade_bnd (n : Nat) : (madeCells (Value.agg #[.int .i64 0, .int .i64 0]).cells (n * 2)).toList = (flat (List.replicate n (0, 0))).map (Value.int .i64) := by
  rw [flat_rep]
  refine List.ext_getElem (by simp [size_madeCells]; omega) fun i h1 h2 => ?_
  have : i % 2 = 0 ∨ i % 2 = 1 := by omega
  simp [madeCells, Value.cells]
  rcases this with h | h <;> simp [h]

/-- A pair is stored into a row of pairs. -/
theorem rowP_store {W : World} {base : Nat} {e : TypeId} {g n j : Nat} {F : Nat → Int × Int} (h : W.ownsRow base e 2 (.slice (some ⟨g, 0, none⟩) n n) n ((flat (layP F n j)).map (Value.int .i64))) (hj : j < n) {a b : Int} (hF : F j = (a, b)) :
    (∃ u, W.cell? ⟨g, j * 2, none⟩ = some (.int .i64 u)) ∧ (∃ u, W.cell? ⟨g, j * 2 + 1, none⟩ = some (.int .i64 u)) ∧ W.frozen? ⟨g, j * 2, none⟩ = false ∧ W.frozen? ⟨g, j * 2 + 1, none⟩ = false ∧
      ((W.setCell ⟨g, j * 2, none⟩ (.int .i64 a)).setCell ⟨g, j * 2 + 1, none⟩ (.int .i64 b)).ownsRow base e 2 (.slice (some ⟨g, 0, none⟩) n n) n ((flat (layP F n (j + 1))).map (Value.int .i64)) := by
  have hlen : (flat (layP F n j)).length = 2 * n := by rw [flat_length, layP_length]
  have c0 := h.cellAt (j * 2) (by omega)
  have c1 := h.cellAt (j * 2 + 1) (by omega)
  rw [List.getElem?_map, List.getElem?_eq_getElem (by omega)] at c0 c1
  refine ⟨⟨_, c0⟩, ⟨_, c1⟩, h.frozenAt _, h.frozenAt _, ?_⟩
  have s1 := (h.stored (j * 2) (.int .i64 a)).1
  have s2 := (s1.stored (j * 2 + 1) (.int .i64 b)).1
  rw [map_set_i, map_set_i, flat_set, ← hF, layP_set F hj] at s2
  exact s2

end Go.Proofs.Ytbfigbpjoaccdaa

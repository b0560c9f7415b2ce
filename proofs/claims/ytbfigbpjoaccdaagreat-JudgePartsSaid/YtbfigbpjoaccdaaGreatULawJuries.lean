/- The walk of the law JudgeJuries: it returns true, and nothing that lay has turned. -/
import Derived.Test.YtbfigbpjoaccdaaGreatQC16
import Derived.Test.YtbfigbpjoaccdaaGreatQC2
import Derived.Test.YtbfigbpjoaccdaaGreatQC19
namespace Go.Proofs.YtbfigbpjoaccdaaGreat
open Go Go.RowKit Go.Shelf
set_option linter.unusedVariables false
set_option linter.unusedSimpArgs false

/-! ### Rows of bytes that the call made -/

/-- The first m rows are copies, in rows of their own. -/
def OwnRows (B : Nat) (W : World) (L : List Value) (xss : List (List Nat)) (m : Nat) : Prop :=
  L.length = m ∧ ∀ i xs, i < m → xss[i]? = some xs → ∃ a c, L[i]? = some (.slice a xs.length c) ∧ W.ownsRow B 5 1 (.slice a xs.length c) xs.length (xs.map vu8)

theorem OwnRows.kept {B : Nat} {W W' : World} {L : List Value} {xss : List (List Nat)} {m : Nat} {row : Option Nat} (h : OwnRows B W L xss m) (hg : W.grownBy W' row) (hne : ∀ g cur, row = some g → W.heap[g]? ≠ some (.cells cur 5 (0, 0))) : OwnRows B W' L xss m := by
  refine ⟨h.1, fun i xs hi hx => ?_⟩
  obtain ⟨a, c, h1, h2⟩ := h.2 i xs hi hx
  refine ⟨a, c, h1, h2.kept hg ?_⟩
  rcases h2.2 with ⟨h3, _⟩ | ⟨g, cap, cur, h3, _, h4, _⟩
  · rw [h3]; exact .inl rfl
  · rw [h3]
    refine .inr fun e => ?_
    exact hne g cur e.symm h4
theorem OwnRows.snoc {B : Nat} {W : World} {L : List Value} {xss : List (List Nat)} {m : Nat} (h : OwnRows B W L xss m) {xs : List Nat} (hx : xss[m]? = some xs) {a : Option Addr} {c : Nat} (hr : W.ownsRow B 5 1 (.slice a xs.length c) xs.length (xs.map vu8)) :
    OwnRows B W (L ++ [.slice a xs.length c]) xss (m + 1) := by
  refine ⟨by simp [h.1], fun i ys hi hy => ?_⟩
  by_cases e : i = m
  · subst e
    rw [hx] at hy
    cases hy
    exact ⟨a, c, by rw [List.getElem?_append_right (by rw [h.1]; exact Nat.le_refl _), h.1]; simp, hr⟩
  · obtain ⟨a', c', h1, h2⟩ := h.2 i ys (by omega) hy
    exact ⟨a', c', by rw [List.getElem?_append_left (by rw [h.1]; omega)]; exact h1, h2⟩
theorem OwnRows.rdL {B : Nat} {W : World} {L : List Value} {xss : List (List Nat)} {m : Nat} (h : OwnRows B W L xss m) (hm : xss.length = m) {a : Option Addr} {c : Nat} (hr : W.ownsRow B 28 1 (.slice a m c) m L) : RdL W.heap.size W a xss := by
  subst hm
  rcases hr.2 with ⟨h1, h2⟩ | ⟨g, cap, cur, h1, _, hg, _⟩
  · exact .inl (List.eq_nil_of_length_eq_zero h2)
  · simp only [Value.slice.injEq, true_and] at h1
    obtain ⟨rfl, rfl⟩ := h1
    refine .inr ⟨g, 0, rfl, (Array.getElem?_eq_some_iff.1 hg).1, fun i xs hi => ?_⟩
    have hlt : i < xss.length := by
      rcases Nat.lt_or_ge i xss.length with h | h
      · exact h
      · rw [List.getElem?_eq_none h] at hi; cases hi
    obtain ⟨a', c', h3, h4⟩ := h.2 i xs hlt hi
    refine ⟨a', c', ?_, rowN_rd rfl h4⟩
    rw [Nat.zero_add, hr.cellAt i (by omega), h3]

theorem row_type {W : World} {base : Nat} {e e' : TypeId} {size : Nat} {v : Value} {n : Nat} {xs : List Value} (h : W.ownsRow base e size v n xs) (hne : e ≠ e') : ∀ g cur, v.ownBlock = some g → W.heap[g]? ≠ some (.cells cur e' (0, 0)) := by
  intro g cur hv hc
  rcases h.2 with ⟨rfl, _⟩ | ⟨g', cap, cur', rfl, _, h2, _⟩
  · simp [Value.ownBlock] at hv
  · simp [Value.ownBlock] at hv
    subst hv
    rw [h2] at hc
    simp only [Option.some.injEq, Obj.cells.injEq] at hc
    exact hne hc.2.1

theorem RdN.heap {B : Nat} {W W' : World} {a : Option Addr} {xs : List Nat} (h : RdN B W a xs) (e : W'.heap = W.heap) : RdN B W' a xs := by
  rcases h with h | ⟨b, o, h1, h2, h3⟩
  · exact .inl h
  · exact .inr ⟨b, o, h1, h2, fun i hi => (World.cell?_of_block (by rw [e])).trans (h3 i hi)⟩
theorem RdL.heap {B : Nat} {W W' : World} {a : Option Addr} {xss : List (List Nat)} (h : RdL B W a xss) (e : W'.heap = W.heap) : RdL B W' a xss := by
  rcases h with h | ⟨b, o, h1, h2, h3⟩
  · exact .inl h
  · refine .inr ⟨b, o, h1, h2, fun i xs hi => ?_⟩
    obtain ⟨a', c', h4, h5⟩ := h3 i xs hi
    exact ⟨a', c', (World.cell?_of_block (by rw [e])).trans h4, h5.heap e⟩
theorem RdL.drew {W : World} {a : Option Addr} {xss : List (List Nat)} (h : RdL W.heap.size W a xss) : RdL W.drew.heap.size W.drew a xss := h.heap rfl

theorem jinfo_u8s : (Tryz.prog.info? 28).map (fun i => (i.zero, i.size, i.bytes)) = some (some (.slice none 0 0), 1, 24) := by kernel_rfl

end Go.Proofs.YtbfigbpjoaccdaaGreat

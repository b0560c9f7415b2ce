/- A network as an argument, opened. -/
import Derived.Deep.SlicePairs
import Derived.Test.YtbfigbpjoaccdaaGreatQD2
namespace Go.Proofs.YtbfigbpjoaccdaaGreat
open Go Go.ChangeShapes Go.WideShapes Go.ChangeAt Go.RowKit Go.Joins Go.Deep
set_option linter.unusedVariables false
set_option linter.unusedSimpArgs false
set_option maxRecDepth 100000

section
variable {H : Type} {enc : TypeId × Value → H}

theorem open_aggN7 {P : Program} {w : World} {base : Nat} {spare : Nat → Bool} {held : Bool} {r : Reach} {b0 : Nat} {t : TypeId} {f0 f1 f2 f3 f4 f5 f6 : Field} {v : Value} {d : DataW H} {p : List MemPlace} (hs : P.underlying t = some (.struct #[f0, f1, f2, f3, f4, f5, f6])) (hone : oneCellFields P #[f0, f1, f2, f3, f4, f5, f6] = true) (hC : P.cellsOf t = 7)
    (hv : Value.okWide P w r b0 t v) (h : DataW.Trod enc P w base spare held t v d p) :
    ∃ (v0 v1 v2 v3 v4 v5 v6 : Value) (y0 y1 y2 y3 y4 y5 y6 : DataW H × List MemPlace) (n : Nat), v = .agg #[v0, v1, v2, v3, v4, v5, v6] ∧
      DataW.trod enc P w base spare held n f0.type [v0] = some y0 ∧ DataW.trod enc P w base spare held n f1.type [v1] = some y1 ∧ DataW.trod enc P w base spare held n f2.type [v2] = some y2 ∧ DataW.trod enc P w base spare held n f3.type [v3] = some y3 ∧ DataW.trod enc P w base spare held n f4.type [v4] = some y4 ∧ DataW.trod enc P w base spare held n f5.type [v5] = some y5 ∧
      DataW.trod enc P w base spare held n f6.type [v6] = some y6 := by
  obtain ⟨cs, rfl, hsz⟩ := okWide_struct hs hv
  obtain ⟨l⟩ := cs
  match l, hsz.trans hC with
  | [c0, c1, c2, c3, c4, c5, c6], _ =>
    obtain ⟨fuel, hf⟩ := h
    obtain ⟨xs, n, _, hx, _, hlen, hg⟩ := DataW.trod_struct hs hf
    obtain ⟨o0, k0⟩ := hone_of hone 0 f0 rfl
    obtain ⟨o1, k1⟩ := hone_of hone 1 f1 rfl
    obtain ⟨o2, k2⟩ := hone_of hone 2 f2 rfl
    obtain ⟨o3, k3⟩ := hone_of hone 3 f3 rfl
    obtain ⟨o4, k4⟩ := hone_of hone 4 f4 rfl
    obtain ⟨o5, k5⟩ := hone_of hone 5 f5 rfl
    obtain ⟨o6, k6⟩ := hone_of hone 6 f6 rfl
    match xs, hlen with
    | [y0, y1, y2, y3, y4, y5, y6], _ =>
      exact ⟨c0, c1, c2, c3, c4, c5, c6, y0, y1, y2, y3, y4, y5, y6, n, rfl, by simpa [Value.cells, o0, k0] using hg 0 f0 rfl, by simpa [Value.cells, o1, k1] using hg 1 f1 rfl, by simpa [Value.cells, o2, k2] using hg 2 f2 rfl, by simpa [Value.cells, o3, k3] using hg 3 f3 rfl, by simpa [Value.cells, o4, k4] using hg 4 f4 rfl, by simpa [Value.cells, o5, k5] using hg 5 f5 rfl, by simpa [Value.cells, o6, k6] using hg 6 f6 rfl⟩

/-- A slice of ints in a field, its weight not asked. -/
theorem open_rowL {W : World} {fuel : Nat} {v : Value} {y : DataW H × List MemPlace} (h : DataW.trod enc Tryz.prog W 0 (fun _ => true) true fuel 25 [v] = some y) :
    ∃ (a : Option Addr) (c : Nat) (xs : List Int), v = .slice a xs.length c ∧ Rd W.heap.size W a xs ∧ xs.length ≤ 9223372036854775807 := by
  rcases open_ints Tryz.underlying25 Tryz.underlying3 (by kernel_rfl) h with ⟨h1, h2⟩ | ⟨a, len, cap, zs, h1, _, hl, hm, hz, hx, hc, hwf⟩
  · obtain rfl : v = .slice none 0 0 := by simpa using h1
    exact ⟨none, 0, [], rfl, .inl rfl, by decide⟩
  · obtain rfl : v = .slice (some a) len cap := by simpa using h1
    simp only [if_true] at hz
    have hlen : (zs.take len).length = len := by simp; omega
    refine ⟨some a, cap, zs.take len, by rw [hlen], ?_, by rw [hlen]; unfold maxLen at hm; omega⟩
    by_cases h0 : 0 < zs.length
    · obtain ⟨b, off, rfl, hcb⟩ := ints_at hc h0
      refine .inr ⟨b, off, rfl, World.block_lt_of_cell? W _ (hcb 0 h0), fun i hi => ?_⟩
      rw [hlen] at hi
      rw [hcb i (by omega)]
      simp only [List.getElem?_take, List.getD]
      rw [if_pos (by omega)]
    · left
      simp; omega
instance : Inhabited LayN := ⟨⟨[], []⟩⟩
theorem addr_plain {a : Addr} {k : Nat} {W : World} {v : Value} (h : W.cell? (a.add k) = some v) (hk : k = 0 := by rfl) : ∃ b o, a = ⟨b, o, none⟩ := by
  subst hk
  obtain ⟨b, o, s⟩ := a
  cases s with
  | none => exact ⟨b, o, rfl⟩
  | some s => simpa [Addr.add] using World.cell?_spot h
theorem add_plain (b o k : Nat) : (⟨b, o, none⟩ : Addr).add k = ⟨b, o + k, none⟩ := by unfold Addr.add; split <;> simp_all
/-- A slice of slices of ints in a field. -/
theorem open_rowsL {W : World} {fuel : Nat} {v : Value} {y : DataW H × List MemPlace} (h : DataW.trod enc Tryz.prog W 0 (fun _ => true) true fuel 85 [v] = some y) :
    ∃ (a : Option Addr) (c : Nat) (xss : List (List Int)), v = .slice a xss.length c ∧ RdW W.heap.size W a xss ∧ xss.length ≤ 9223372036854775807 ∧ ∀ k : Nat, (xss[k]?.getD []).length ≤ 9223372036854775807 := by
  rcases open_slice1 Tryz.underlying85 (by kernel_rfl) h with ⟨h1, _⟩ | ⟨a, len, cap, m, n, V, D, Pl, h1, _, hl, hm, hmm, _, hx⟩
  · obtain rfl : v = .slice none 0 0 := by simpa using h1
    exact ⟨none, 0, [], rfl, .inl rfl, by decide, fun k => by simp⟩
  · obtain rfl : v = .slice (some a) len cap := by simpa using h1
    simp only [if_true] at hmm
    subst hmm
    have each : ∀ i, i < m → ∃ q : Option Addr × Nat × List Int, V i = .slice q.1 q.2.2.length q.2.1 ∧ Rd W.heap.size W q.1 q.2.2 ∧ q.2.2.length ≤ 9223372036854775807 := fun i hi => by
      obtain ⟨a', c', xs, e1, e2, e3⟩ := open_rowL (hx i hi).2
      exact ⟨(a', c', xs), e1, e2, e3⟩
    obtain ⟨q, hq⟩ := choose_lt each
    have hlen : ((List.range len).map fun i => (q i).2.2).length = len := by simp
    have hat : ∀ i, i < len → (((List.range len).map fun i => (q i).2.2)[i]?.getD []) = (q i).2.2 := fun i hi => by
      rw [List.getElem?_map, List.getElem?_range hi]; rfl
    refine ⟨some a, m, (List.range len).map fun i => (q i).2.2, by rw [hlen], ?_, by rw [hlen]; unfold maxLen at hm; omega, fun k => ?_⟩
    · by_cases h0 : 0 < len
      · obtain ⟨b, o, rfl⟩ := addr_plain (hx 0 (by omega)).1
        have e0 := (hx 0 (by omega)).1
        rw [add_plain] at e0
        refine .inr ⟨b, o, rfl, World.block_lt_of_cell? W _ e0, fun i hi => ?_⟩
        rw [hlen] at hi
        rw [hat i hi]
        have e := (hx i (by omega)).1
        rw [add_plain] at e
        exact ⟨(q i).1, (q i).2.1, by rw [e, (hq i (by omega)).1], (hq i (by omega)).2.1⟩
      · left
        have : len = 0 := by omega
        subst this; rfl
    · by_cases hk : k < len
      · rw [hat k hk]; exact (hq k (by omega)).2.2
      · rw [List.getElem?_eq_none (by rw [hlen]; omega)]; simp
/-- A slice of layers in a field. -/
theorem open_layersL {W : World} {fuel : Nat} {v : Value} {y : DataW H × List MemPlace} (h : DataW.trod enc Tryz.prog W 0 (fun _ => true) true fuel 22 [v] = some y) :
    ∃ (a : Option Addr) (c : Nat) (Ls : List LayN), v = .slice a Ls.length c ∧ RdLs W.heap.size W a Ls ∧ Ls.length ≤ 9223372036854775807 ∧ (∀ i : Nat, (layAt Ls i).ws.length ≤ 9223372036854775807 ∧ (layAt Ls i).bs.length ≤ 9223372036854775807) ∧
      ∀ i k : Nat, ((layAt Ls i).ws[k]?.getD []).length ≤ 9223372036854775807 := by
  rcases open_slice_pairs Tryz.underlying22 Tryz.underlying87 (by kernel_rfl) rfl rfl (by kernel_rfl) (by kernel_rfl) h with ⟨h1, _⟩ | ⟨a, len, cap, m, n, V0, V1, D0, D1, P0, P1, h1, _, hl, hm, hmm, _, hx⟩
  · obtain rfl : v = .slice none 0 0 := by simpa using h1
    exact ⟨none, 0, [], rfl, .inl rfl, by decide, fun i => by simp [layAt], fun i k => by simp [layAt]⟩
  · obtain rfl : v = .slice (some a) len cap := by simpa using h1
    simp only [if_true] at hmm
    subst hmm
    have each : ∀ i, i < m → ∃ q : (Option Addr × Nat) × (Option Addr × Nat) × LayN, V0 i = .slice q.1.1 q.2.2.ws.length q.1.2 ∧ V1 i = .slice q.2.1.1 q.2.2.bs.length q.2.1.2 ∧ RdW W.heap.size W q.1.1 q.2.2.ws ∧ Rd W.heap.size W q.2.1.1 q.2.2.bs ∧
        (q.2.2.ws.length ≤ 9223372036854775807 ∧ q.2.2.bs.length ≤ 9223372036854775807) ∧ ∀ k : Nat, (q.2.2.ws[k]?.getD []).length ≤ 9223372036854775807 := fun i hi => by
      obtain ⟨e0, e1, e2, e3⟩ := hx i hi
      obtain ⟨wa, wc, ws, f1, f2, f3, f4⟩ := open_rowsL e2
      obtain ⟨ba, bc, bs, g1, g2, g3⟩ := open_rowL e3
      exact ⟨((wa, wc), (ba, bc), ⟨ws, bs⟩), f1, g1, f2, g2, ⟨f3, g3⟩, f4⟩
    obtain ⟨q, hq⟩ := choose_lt each
    have hlen : ((List.range len).map fun i => (q i).2.2).length = len := by simp
    have hat : ∀ i, i < len → layAt ((List.range len).map fun i => (q i).2.2) i = (q i).2.2 := fun i hi => by
      unfold layAt
      rw [List.getElem?_map, List.getElem?_range hi]; rfl
    have hout : ∀ i, ¬ i < len → layAt ((List.range len).map fun i => (q i).2.2) i = ⟨[], []⟩ := fun i hi => by
      unfold layAt
      rw [List.getElem?_eq_none (by rw [hlen]; omega)]; rfl
    refine ⟨some a, m, (List.range len).map fun i => (q i).2.2, by rw [hlen], ?_, by rw [hlen]; unfold maxLen at hm; omega, fun i => ?_, fun i k => ?_⟩
    · by_cases h0 : 0 < len
      · have e0 := (hx 0 (by omega)).1
        obtain ⟨b, o, rfl⟩ := addr_plain e0
        rw [add_plain] at e0
        refine .inr ⟨b, o, rfl, World.block_lt_of_cell? W _ e0, fun i hi => ?_⟩
        rw [hlen] at hi
        rw [hat i hi]
        obtain ⟨e1, e2, _⟩ := hx i (by omega)
        rw [add_plain] at e1 e2
        obtain ⟨f1, f2, f3, f4, _⟩ := hq i (by omega)
        exact ⟨(q i).1.1, (q i).1.2, (q i).2.1.1, (q i).2.1.2, by rw [e1, f1], by rw [Nat.add_assoc, e2, f2], f3, f4⟩
      · left
        have : len = 0 := by omega
        subst this; rfl
    · by_cases hi : i < len
      · rw [hat i hi]; exact (hq i (by omega)).2.2.2.2.1
      · rw [hout i hi]; simp
    · by_cases hi : i < len
      · rw [hat i hi]; exact (hq i (by omega)).2.2.2.2.2 k
      · rw [hout i hi]; simp
/-- A network. -/
theorem open_network {W : World} {base : Nat} {v : Value} {d : DataW H} {p : List MemPlace} (hv : Value.okWide Tryz.prog W .any base 24 v) (h : DataW.Trod enc Tryz.prog W 0 (fun _ => true) true 24 v d p) :
    ∃ (N : NetN) (a : Option Addr) (n c : Nat), v = netv N a n c ∧ N.Ls.length = n ∧ NetSz N ∧ RdLs W.heap.size W a N.Ls := by
  obtain ⟨v0, v1, v2, v3, v4, v5, v6, y0, y1, y2, y3, y4, y5, y6, n, rfl, h0, h1, h2, h3, h4, h5, h6⟩ := open_aggN7 Tryz.underlying24 (by kernel_rfl) (by kernel_rfl) hv h
  obtain ⟨x0, rfl, _⟩ := field_int h0
  obtain ⟨x1, rfl, _⟩ := field_int h1
  obtain ⟨x2, rfl, _⟩ := field_int h2
  obtain ⟨x3, rfl, _⟩ := field_int h3
  obtain ⟨x5, rfl, _⟩ := field_int h5
  obtain ⟨x6, rfl, _⟩ := field_int h6
  obtain ⟨a, c, Ls, rfl, hr, hn, hl, hk⟩ := open_layersL h4
  exact ⟨⟨x0, x1, x2, x3, Ls, x5, x6⟩, a, Ls.length, c, rfl, rfl, ⟨hn, hl, hk⟩, hr⟩
end
end Go.Proofs.YtbfigbpjoaccdaaGreat

/- A kernel and a shape as arguments, opened; lists of truth values that are read. -/
import Derived.Test.YtjglfeonoiljlaaOpen
import Derived.Test.YtjglfeonoiljlaaImgR
import Derived.Deep.Grids
namespace Go.Proofs.Ytjglfeonoiljlaa
open Go Go.ChangeShapes Go.WideShapes Go.ChangeAt Go.RowKit Go.Joins Go.Deep
set_option linter.unusedVariables false
set_option linter.unusedSimpArgs false
set_option maxRecDepth 100000

section
variable {H : Type} {enc : TypeId × Value → H}

/-- A kernel. -/
theorem open_kernel {W : World} {base : Nat} {v : Value} {d : DataW H} {p : List MemPlace} (hv : Value.okWide Try.prog W .any base 64 v) (h : DataW.Trod enc Try.prog W 0 (fun _ => true) true 64 v d p)
    (hwt : ∀ n ∈ d.weights Try.prog 64, n ≤ reachBytes) :
    ∃ (iw ih : Int) (a : Option Addr) (n c : Nat) (xs : List Int), v = imv iw ih a n c ∧ Hid (xs.length = n) ∧ Rd W.heap.size W a xs ∧ Hid (a = none → n = 0 ∧ c = 0) ∧ n * 8 ≤ 140737488355328 ∧ (∀ x ∈ xs, (Lit.int .i64 x).wf = true) ∧
      (Lit.int .i64 iw).wf = true ∧ (Lit.int .i64 ih).wf = true := by
  obtain ⟨v0, v1, v2, y0, y1, y2, n, rfl, rfl, rfl, h0, h1, h2⟩ := open_agg3 Try.underlying64 (by kernel_rfl) (by kernel_rfl) hv h
  obtain ⟨iw, e0, _, w0⟩ := DataW.trod_int Try.underlying3 h0
  obtain ⟨ih, e1, _, w1⟩ := DataW.trod_int Try.underlying3 h1
  obtain rfl : v0 = .int .i64 iw := by simpa using e0
  obtain rfl : v1 = .int .i64 ih := by simpa using e1
  obtain ⟨a, m, c, xs, rfl, r⟩ := open_row h2 (fun n hn => hwt n (by
    simp only [DataW.weights, Try.underlying64]
    exact DataW.weights_mem_each (j := 2) rfl rfl n hn))
  exact ⟨iw, ih, a, m, c, xs, rfl, r.1, r.2.1, r.2.2.1, r.2.2.2.1, r.2.2.2.2, w0, w1⟩

theorem open_brow {W : World} {fuel : Nat} {v : Value} {y : DataW H × List MemPlace} (h : DataW.trod enc Try.prog W 0 (fun _ => true) true fuel 38 [v] = some y) :
    ∃ (a : Option Addr) (n c : Nat) (bs : List Bool), v = .slice a n c ∧ Hid (bs.length = n) ∧ RdB W.heap.size W a bs ∧ Hid (a = none → n = 0 ∧ c = 0) ∧ n ≤ 9223372036854775807 := by
  rcases open_bools Try.underlying38 Try.underlying4 (by kernel_rfl) h with ⟨h1, h2⟩ | ⟨a, len, cap, B, h1, _, hl, hm, hx, hc⟩
  · obtain rfl : v = .slice none 0 0 := by simpa using h1
    exact ⟨none, 0, 0, [], rfl, Lib.hid rfl, .inl rfl, Lib.hid fun _ => ⟨rfl, rfl⟩, by decide⟩
  · obtain rfl : v = .slice (some a) len cap := by simpa using h1
    refine ⟨some a, len, cap, (List.range len).map B, rfl, Lib.hid (by simp), ?_, Lib.hid (by simp), by unfold maxLen at hm; omega⟩
    by_cases h0 : 0 < len
    · have hc0 := hc 0 (by omega)
      obtain ⟨b, off, fld⟩ := a
      have hb : fld = none := by simpa [Addr.add] using World.cell?_spot hc0
      subst hb
      refine .inr ⟨b, off, rfl, World.block_lt_of_cell? W _ hc0, fun i hi => ?_⟩
      simp only [List.length_map, List.length_range] at hi
      have := hc i (by omega)
      rw [show (⟨b, off, none⟩ : Addr).add i = ⟨b, off + i, none⟩ from by unfold Addr.add; split <;> simp_all] at this
      rw [this]
      simp [hi]
    · left; simp; omega

/-- A shape. -/
theorem open_shape {W : World} {base : Nat} {v : Value} {d : DataW H} {p : List MemPlace} (hv : Value.okWide Try.prog W .any base 40 v) (h : DataW.Trod enc Try.prog W 0 (fun _ => true) true 40 v d p) :
    ∃ (iw ih : Int) (a : Option Addr) (n c : Nat) (bs : List Bool), v = imv iw ih a n c ∧ Hid (bs.length = n) ∧ RdB W.heap.size W a bs ∧ Hid (a = none → n = 0 ∧ c = 0) ∧ n ≤ 9223372036854775807 ∧
      (Lit.int .i64 iw).wf = true ∧ (Lit.int .i64 ih).wf = true := by
  obtain ⟨v0, v1, v2, y0, y1, y2, n, rfl, rfl, rfl, h0, h1, h2⟩ := open_agg3 Try.underlying40 (by kernel_rfl) (by kernel_rfl) hv h
  obtain ⟨iw, e0, _, w0⟩ := DataW.trod_int Try.underlying3 h0
  obtain ⟨ih, e1, _, w1⟩ := DataW.trod_int Try.underlying3 h1
  obtain rfl : v0 = .int .i64 iw := by simpa using e0
  obtain rfl : v1 = .int .i64 ih := by simpa using e1
  obtain ⟨a, m, c, bs, rfl, r⟩ := open_brow h2
  exact ⟨iw, ih, a, m, c, bs, rfl, r.1, r.2.1, r.2.2.1, r.2.2.2, w0, w1⟩
end
end Go.Proofs.Ytjglfeonoiljlaa

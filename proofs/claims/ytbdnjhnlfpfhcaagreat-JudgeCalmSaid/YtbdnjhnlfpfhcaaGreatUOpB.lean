/- A slice of bytes as an argument, opened. -/
import Derived.Test.YtbdnjhnlfpfhcaaGreatQE1
namespace Go.Proofs.YtbdnjhnlfpfhcaaGreat
open Go Go.ChangeShapes Go.WideShapes Go.ChangeAt Go.RowKit Go.Joins Go.Deep
set_option linter.unusedVariables false
set_option linter.unusedSimpArgs false
set_option maxRecDepth 100000

section
variable {H : Type} {enc : TypeId × Value → H}

/-- A slice of bytes as a parameter. -/
theorem open_bytes {W : World} {base : Nat} {v : Value} {d : DataW H} {p : List MemPlace} (hv : Value.okWide Tryz.prog W .any base 35 v) (h : DataW.Trod enc Tryz.prog W 0 (fun _ => true) true 35 v d p) (hwt : ∀ n ∈ d.weights Tryz.prog 35, n ≤ reachBytes) :
    ∃ (a : Option Addr) (n c : Nat) (xs : List Nat), v = .slice a n c ∧ Hid (xs.length = n) ∧ RdN W.heap.size W a xs ∧ n ≤ 140737488355328 ∧ (∀ x ∈ xs, x < 256) := by
  obtain ⟨a, l, c, rfl⟩ := okWide_slice Tryz.underlying35 hv
  obtain ⟨fuel, hf⟩ := trod_of h
  rcases open_ints Tryz.underlying35 Tryz.underlying5 (by kernel_rfl) hf with ⟨h1, h2⟩ | ⟨a', len, cap, zs, h1, _, hl, hm, hz, hx, hc, hwf⟩
  · simp only [List.cons.injEq, and_true] at h1
    cases h1
    exact ⟨none, 0, 0, [], rfl, Lib.hid rfl, .inl rfl, by decide, by simp⟩
  · obtain ⟨rfl, rfl, rfl⟩ : some a' = a ∧ len = l ∧ cap = c := by
      simp only [List.cons.injEq, and_true, Value.slice.injEq] at h1
      exact ⟨h1.1.symm, h1.2.1.symm, h1.2.2.symm⟩
    simp only [if_true] at hz
    refine ⟨some a', len, cap, (zs.take len).map Int.toNat, rfl, Lib.hid (by simp; omega), ?_, ?_, fun x hx => ?_⟩
    · by_cases h0 : 0 < zs.length
      · obtain ⟨b, off, rfl, hcb⟩ := ints_at hc h0
        refine .inr ⟨b, off, rfl, World.block_lt_of_cell? W _ (hcb 0 h0), fun i hi => ?_⟩
        simp only [List.length_map, List.length_take] at hi
        rw [hcb i (by omega)]
        rw [bytes_of (zs.take len) (fun z hz' => hwf z (List.mem_of_mem_take hz')) (by simp; omega)]
        simp only [List.getElem?_take, List.getD]
        rw [if_pos (by omega)]
      · left
        simp; omega
    · simp only [Prod.mk.injEq] at hx
      obtain ⟨rfl, _⟩ := hx
      have := hwt ((lits (H := H) .u8 (zs.take len)).length * 1 + (lits (H := H) .u8 (zs.drop len)).length * 1) (by
        simp only [DataW.weights, Tryz.underlying35]
        rw [show Tryz.prog.bytesOf 5 = 1 from by kernel_rfl, Nat.add_mul]
        exact List.mem_cons_self)
      simp only [lits, List.length_map, List.length_take] at this
      unfold reachBytes at this
      omega
    · obtain ⟨z, hz', rfl⟩ := List.mem_map.1 hx
      have h1 := hwf z (List.mem_of_mem_take hz')
      have h2 : 0 ≤ z ∧ z ≤ 255 := by simpa [Lit.wf, IntKind.min, IntKind.max, IntKind.signed, IntKind.bits] using h1
      omega
end
end Go.Proofs.YtbdnjhnlfpfhcaaGreat

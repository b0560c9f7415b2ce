/- The numbers of the parts of an image: the state after its first pixels, the search by lists, what falls. No program in sight. -/
import Derived.Test.YtekiemlniegddaaGreatUDist
namespace Go.Proofs.YtekiemlniegddaaGreat
set_option linter.unusedVariables false
set_option linter.unusedSimpArgs false

theorem px_nat (L : List Int) (k : Nat) : px L k = L[k]?.getD 0 := by unfold px; rw [Int.toNat_natCast]
theorem px_map_range (f : Nat → Int) {N k : Nat} (hk : k < N) : px ((List.range N).map f) k = f k := by
 rw [px_nat, List.getElem?_map, List.getElem?_range hk]; rfl
theorem px_ext {L L' : List Int} (hl : L.length = L'.length) (h : ∀ k, k < L.length → px L k = px L' k) : L = L' := by
 refine List.ext_getElem hl fun i h1 h2 => ?_
 have := h i h1
 rw [px_nat, px_nat, List.getElem?_eq_getElem h1, List.getElem?_eq_getElem h2] at this
 exact this

open Classical in
variable {N pw : Nat} {e : Bool} {nz : Nat → Bool} {i : Nat} {L : List Int} {n : Nat}

end Go.Proofs.YtekiemlniegddaaGreat

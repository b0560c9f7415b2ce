/- The meaning's form. Plain law. -/
import Derived.Test.YtekiemlniegddaaGreatQF6
namespace Go.Proofs.YtekiemlniegddaaGreat
open Go Go.RowKit Go.Shelf
theorem mean_form {P : PipeN} {ms : List PicN} (hP : pipeB P = true) (hg : givenB ms P.inp P.w P.h = true) : ∃ W H px, meanS P ms = ⟨W, H, px, 0⟩ := by
 unfold meanS
 rw [if_pos hP, if_pos hg]
 exact ⟨_, _, _, rfl⟩
end Go.Proofs.YtekiemlniegddaaGreat

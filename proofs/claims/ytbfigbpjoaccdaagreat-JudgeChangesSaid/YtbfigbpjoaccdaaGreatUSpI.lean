/- What the loops of the specification's Spread keep. -/
import Derived.Test.YtbfigbpjoaccdaaGreatQD19
import Derived.Test.YtbfigbpjoaccdaaGreatUSpV
import Derived.Test.YtbfigbpjoaccdaaGreatQD4
import Derived.Test.YtbfigbpjoaccdaaGreatQD15
namespace Go.Proofs.YtbfigbpjoaccdaaGreat
open Go Go.RowKit Go.Shelf
set_option linter.unusedVariables false
set_option linter.unusedSimpArgs false

/-- What the images hold while pixel i is worked at. -/
def spTo (f : Nat → Int) (pq i : Nat) (v : Int) : List Int := (List.range pq).map fun j => if j < i then f j else if j = i then v else 0
theorem spTo_next (f : Nat → Int) (pq i : Nat) : spTo f pq i (f i) = spTo f pq (i + 1) 0 := by
  refine List.map_congr_left fun j hj => ?_
  by_cases e : j < i
  · rw [if_pos e, if_pos (by omega)]
  · by_cases e2 : j = i
    · subst e2; simp
    · rw [if_neg e, if_neg e2, if_neg (by omega)]; split <;> rfl
theorem shV_at {pw ph s j k : Nat} {xs : List Int} {g a : Int} {i : Nat} (hk : k < 2 * s + 1) : shV pw ph xs s g a i (j * (2 * s + 1) + k) = spV g a (beyF 2 pw ph xs (cX pw i + ((k : Int) - s)) (cY pw i + ((j : Int) - s))) := by
  unfold shV spB
  rw [idx_mod j hk, idx_div j hk]
structure SpI (V wr : World) (go gp co cp bo bp pw ph : Nat) (fl fh : Nat → Int) (i : Nat) (v u : Int) : Prop where
  lo : wr.ownsRow V.heap.size 3 1 (.slice (some ⟨go, 0, none⟩) (pw * ph) co) (pw * ph) ((spTo fl (pw * ph) i v).map (Value.int .i64))
  hi : wr.ownsRow V.heap.size 3 1 (.slice (some ⟨gp, 0, none⟩) (pw * ph) cp) (pw * ph) ((spTo fh (pw * ph) i u).map (Value.int .i64))
  ko : Blk wr bo 27 #[.int .i64 (pw : Int), .int .i64 (ph : Int), .slice (some ⟨go, 0, none⟩) (pw * ph) co]
  kp : Blk wr bp 27 #[.int .i64 (pw : Int), .int .i64 (ph : Int), .slice (some ⟨gp, 0, none⟩) (pw * ph) cp]
  bl : Below V.heap.size V wr
section
variable {V wr : World} {go gp co cp bo bp pw ph : Nat} {fl fh : Nat → Int} {i : Nat} {v u : Int}
theorem SpI.drew (h : SpI V wr go gp co cp bo bp pw ph fl fh i v u) : SpI V wr.drew go gp co cp bo bp pw ph fl fh i v u := ⟨h.lo, h.hi, h.ko, h.kp, h.bl.drew⟩
theorem SpI.below {w' : World} (h : SpI V wr go gp co cp bo bp pw ph fl fh i v u) (hb : Below wr.heap.size wr w') : SpI V w' go gp co cp bo bp pw ph fl fh i v u :=
  ⟨row_below h.lo hb, row_below h.hi hb, h.ko.below hb h.ko.lt, h.kp.below hb h.kp.lt, h.bl.trans (hb.mono h.bl.size)⟩
theorem SpI.next (h : SpI V wr go gp co cp bo bp pw ph fl fh i (fl i) (fh i)) : SpI V wr go gp co cp bo bp pw ph fl fh (i + 1) 0 0 :=
  ⟨by rw [← spTo_next]; exact h.lo, by rw [← spTo_next]; exact h.hi, h.ko, h.kp, h.bl⟩
end

end Go.Proofs.YtbfigbpjoaccdaaGreat

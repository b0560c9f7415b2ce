/- What the loops of the specification's Spread keep. -/
import Derived.Test.YtbfigbpjoaccdaaSpP
import Derived.Test.YtbfigbpjoaccdaaSpV
import Derived.Test.YtbfigbpjoaccdaaImgE
import Derived.Test.YtbfigbpjoaccdaaFork
namespace Go.Proofs.Ytbfigbpjoaccdaa
open Go Go.RowKit Go.Shelf
set_option linter.unusedVariables false
set_option linter.unusedSimpArgs false

theorem row_lt2 {W : World} {base : Nat} {e : TypeId} {size n c k g : Nat} {xs : List Value} (h : W.ownsRow base e size (.slice (some ⟨g, 0, none⟩) n c) k xs) : g < W.heap.size := by
  rcases h.2 with ⟨h1, h2⟩ | ⟨g', cap, cur, h1, _, hg, _⟩
  · cases h1
  · simp only [Value.slice.injEq, Option.some.injEq, Addr.mk.injEq, and_true, true_and] at h1
    rw [h1.1]; exact (Array.getElem?_eq_some_iff.1 hg).1
/-- What the images hold while pixel i is worked at. -/
def spTo (f : Nat → Int) (pq i : Nat) (v : Int) : List Int := (List.range pq).map fun j => if j < i then f j else if j = i then v else 0
theorem spTo_length (f : Nat → Int) (pq i : Nat) (v : Int) : (spTo f pq i v).length = pq := by simp [spTo]
theorem spTo_set (f : Nat → Int) {pq i : Nat} (v u : Int) (h : i < pq) : (spTo f pq i v).set i u = spTo f pq i u := by
  refine List.ext_getElem (by simp [spTo]) fun j h1 h2 => ?_
  simp only [spTo, List.getElem_set, List.getElem_map, List.getElem_range]
  by_cases e : i = j
  · subst e; simp
  · rw [if_neg e]
    by_cases e2 : j < i
    · simp [e2]
    · simp [e2, Ne.symm e]
theorem spTo_at (f : Nat → Int) {pq i : Nat} (v : Int) (h : i < pq) : (spTo f pq i v)[i]? = some v := by
  simp [spTo, h]
theorem spTo_next (f : Nat → Int) (pq i : Nat) : spTo f pq i (f i) = spTo f pq (i + 1) 0 := by
  refine List.map_congr_left fun j hj => ?_
  by_cases e : j < i
  · rw [if_pos e, if_pos (by omega)]
  · by_cases e2 : j = i
    · subst e2; simp
    · rw [if_neg e, if_neg e2, if_neg (by omega)]; split <;> rfl
theorem spTo_zero (f : Nat → Int) (pq : Nat) : spTo f pq 0 0 = List.replicate pq 0 := by
  refine List.ext_getElem (by simp [spTo]) fun j h1 h2 => ?_
  simp [spTo]
theorem spTo_all (f : Nat → Int) (pq : Nat) (v : Int) : spTo f pq pq v = (List.range pq).map f := by
  refine List.map_congr_left fun j hj => ?_
  rw [if_pos (List.mem_range.1 hj)]
theorem shV_at {pw ph s j k : Nat} {xs : List Int} {g a : Int} {i : Nat} (hk : k < 2 * s + 1) : shV pw ph xs s g a i (j * (2 * s + 1) + k) = spV g a (beyF 2 pw ph xs (cX pw i + ((k : Int) - s)) (cY pw i + ((j : Int) - s))) := by
  unfold shV spB
  rw [idx_mod j hk, idx_div j hk]
structure SpI (V wr : World) (go gp co cp bo bp pw ph : Nat) (fl fh : Nat → Int) (i : Nat) (v u : Int) : Prop where
  lo : wr.ownsRow V.heap.size 3 1 (.slice (some ⟨go, 0, none⟩) (pw * ph) co) (pw * ph) ((spTo fl (pw * ph) i v).map (Value.int .i64))
  hi : wr.ownsRow V.heap.size 3 1 (.slice (some ⟨gp, 0, none⟩) (pw * ph) cp) (pw * ph) ((spTo fh (pw * ph) i u).map (Value.int .i64))
  ko : Blk wr bo 27 #[.int .i64 (pw : Int), .int .i64 (ph : Int), .slice (some ⟨go, 0, none⟩) (pw * ph) co]
  kp : Blk wr bp 27 #[.int .i64 (pw : Int), .int .i64 (ph : Int), .slice (some ⟨gp, 0, none⟩) (pw * ph) cp]
  bl : Below V.heap.size V wr
section
variable {V wr : World} {go gp co cp bo bp pw ph : Nat} {fl fh : Nat → Int} {i : Nat} {v u : Int}
theorem SpI.drew (h : SpI V wr go gp co cp bo bp pw ph fl fh i v u) : SpI V wr.drew go gp co cp bo bp pw ph fl fh i v u := ⟨h.lo, h.hi, h.ko, h.kp, h.bl.drew⟩
theorem SpI.below {w' : World} (h : SpI V wr go gp co cp bo bp pw ph fl fh i v u) (hb : Below wr.heap.size wr w') : SpI V w' go gp co cp bo bp pw ph fl fh i v u :=
  ⟨row_below h.lo hb, row_below h.hi hb, h.ko.below hb h.ko.lt, h.kp.below hb h.kp.lt, h.bl.trans (hb.mono h.bl.size)⟩
theorem SpI.next (h : SpI V wr go gp co cp bo bp pw ph fl fh i (fl i) (fh i)) : SpI V wr go gp co cp bo bp pw ph fl fh (i + 1) 0 0 :=
  ⟨by rw [← spTo_next]; exact h.lo, by rw [← spTo_next]; exact h.hi, h.ko, h.kp, h.bl⟩
theorem row_ge2 {W : World} {base : Nat} {e : TypeId} {size n c k g : Nat} {xs : List Value} (h : W.ownsRow base e size (.slice (some ⟨g, 0, none⟩) n c) k xs) : base ≤ g := by
  rcases h.2 with ⟨h1, h2⟩ | ⟨g', cap, cur, h1, h3, hg, _⟩
  · cases h1
  · simp only [Value.slice.injEq, Option.some.injEq, Addr.mk.injEq, and_true, true_and] at h1
    rw [h1.1]; exact h3
theorem SpI.atLo (h : SpI V wr go gp co cp bo bp pw ph fl fh i v u) (hi : i < pw * ph) : wr.cell? ⟨go, i, none⟩ = some (.int .i64 v) ∧ wr.frozen? ⟨go, i, none⟩ = false := by
  refine ⟨?_, h.lo.frozenAt i⟩
  have hc := h.lo.cellAt i (by omega)
  rw [List.getElem?_map, spTo_at fl v hi] at hc
  exact hc
theorem SpI.atHi (h : SpI V wr go gp co cp bo bp pw ph fl fh i v u) (hi : i < pw * ph) : wr.cell? ⟨gp, i, none⟩ = some (.int .i64 u) ∧ wr.frozen? ⟨gp, i, none⟩ = false := by
  refine ⟨?_, h.hi.frozenAt i⟩
  have hc := h.hi.cellAt i (by omega)
  rw [List.getElem?_map, spTo_at fh u hi] at hc
  exact hc
theorem SpI.setLo (h : SpI V wr go gp co cp bo bp pw ph fl fh i v u) (hne : go ≠ gp) (hi : i < pw * ph) (z : Int) : SpI V (wr.setCell ⟨go, i, none⟩ (.int .i64 z)) go gp co cp bo bp pw ph fl fh i z u := by
  have hs := (h.lo.stored i (.int .i64 z)).1
  rw [map_set_i, spTo_set fl v z hi] at hs
  have n1 : bo ≠ go := by have := h.ko.not_row (by decide) h.lo; simpa [Value.ownBlock] using this
  have n2 : bp ≠ go := by have := h.kp.not_row (by decide) h.lo; simpa [Value.ownBlock] using this
  exact ⟨hs, row_setCell h.hi (a := ⟨go, i, none⟩) (by simpa [Value.ownBlock] using hne) _, h.ko.other (a := ⟨go, i, none⟩) n1 _, h.kp.other (a := ⟨go, i, none⟩) n2 _, h.bl.setCell (p := ⟨go, i, none⟩) (row_ge2 h.lo) _⟩
theorem SpI.setHi (h : SpI V wr go gp co cp bo bp pw ph fl fh i v u) (hne : go ≠ gp) (hi : i < pw * ph) (z : Int) : SpI V (wr.setCell ⟨gp, i, none⟩ (.int .i64 z)) go gp co cp bo bp pw ph fl fh i v z := by
  have hs := (h.hi.stored i (.int .i64 z)).1
  rw [map_set_i, spTo_set fh u z hi] at hs
  have n1 : bo ≠ gp := by have := h.ko.not_row (by decide) h.hi; simpa [Value.ownBlock] using this
  have n2 : bp ≠ gp := by have := h.kp.not_row (by decide) h.hi; simpa [Value.ownBlock] using this
  exact ⟨row_setCell h.lo (a := ⟨gp, i, none⟩) (by simpa [Value.ownBlock] using hne.symm) _, hs, h.ko.other (a := ⟨gp, i, none⟩) n1 _, h.kp.other (a := ⟨gp, i, none⟩) n2 _, h.bl.setCell (p := ⟨gp, i, none⟩) (row_ge2 h.hi) _⟩
end

end Go.Proofs.Ytbfigbpjoaccdaa

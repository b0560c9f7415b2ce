/- A region that draws its order, where several operations that change the world may come up. -/
import Derived.Test.YtbfigbpjoaccdaaBase
namespace Go.Proofs.Ytbfigbpjoaccdaa
open Go Go.RowKit Go.Shelf
set_option linter.unusedVariables false
section
variable {P : Program} {md : Region.Mode} {ops : Array Oper} {Q : Exit → Act → World → Prop} {S : World → Prop} {t : Nat}

def StepOk (P : Program) (md : Region.Mode) (ops : Array Oper) (Q : Exit → Act → World → Prop) (S : World → Prop) (t f : Nat) (l : Array Bool) (a : Act) (w : World) (i : Nat) : Prop :=
  wpOp P ops Q i (fun a' w' => (i < t → S w') ∧ AnyS P md ops Q S t f (l.setIfInBounds i true) a' w') a w

theorem step_at (i : Nat) {d : Option Tmp} {op : Op} {ty : TypeId} {ps : String} {af : Array Edge} {gd : Option (Nat × Bool)} {f : Nat} {l : Array Bool} {a : Act} {w : World} (ho : ops[i]? = some { dst := d, op := op, type := ty, pos := ps, after := af, guard := gd })
    (h : ∀ K' : Act → World → Prop, Shut (∀ a w, (i < t → S w) → AnyS P md ops Q S t f (l.setIfInBounds i true) a w → K' a w) → if Region.wanted { dst := d, op := op, type := ty, pos := ps, after := af, guard := gd } (yielded ops a.tmps) = true then Oper.wp P { dst := d, op := op, type := ty, pos := ps, after := af, guard := gd } a w K' Q else K' (a.put d undef) w) :
    StepOk P md ops Q S t f l a w i :=
  wpOp_step ho (fun K' hK => h K' (fun a w hS hW => hK a w ⟨hS, hW⟩))

theorem fork2 {i j : Nat} {f : Nat} {l : Array Bool} {a : Act} {w : World} (hr : Region.ready md ops l = [i, j]) (hi : StepOk P md ops Q S t f l a w i) (hj : StepOk P md ops Q S t f l a w j) : AnyS P md ops Q S t (f + 1) l a w := by
  refine ⟨fun h0 => absurd (hr ▸ h0) (by simp), hr ▸ fun k hk => ?_⟩
  have : k = i ∨ k = j := by simpa using hk
  rcases this with rfl | rfl
  · exact hi
  · exact hj

theorem fork3 {i j m : Nat} {f : Nat} {l : Array Bool} {a : Act} {w : World} (hr : Region.ready md ops l = [i, j, m]) (hi : StepOk P md ops Q S t f l a w i) (hj : StepOk P md ops Q S t f l a w j) (hm : StepOk P md ops Q S t f l a w m) : AnyS P md ops Q S t (f + 1) l a w := by
  refine ⟨fun h0 => absurd (hr ▸ h0) (by simp), hr ▸ fun k hk => ?_⟩
  have : k = i ∨ k = j ∨ k = m := by simpa using hk
  rcases this with rfl | rfl | rfl
  · exact hi
  · exact hj
  · exact hm
end
end Go.Proofs.Ytbfigbpjoaccdaa

/- Contracts and laws (Head, Base, ImgA, ImgB, JB, Opn, ImgC, ImgD). -/
import Derived.Test.YtekiemlniegddaaGreatRows
import Derived.ProofKit
import Derived.JoinedCond
import Derived.RangeFuncNested
import Derived.RangeFuncBound
import Derived.RangeFuncCalls
import Derived.RangeFuncLeaves
import Derived.RangeFuncBox
import Derived.Shelf.Abstract
import Derived.Shelf.RegionOpen
import Derived.WalkKit
import Derived.OwnWalkIn
import Derived.TacticsInMore
import Derived.LoopNIn
import Derived.LoopIn
import Derived.Maps.AppendAt
import Derived.Deep.RegionHeld3
import Derived.Deep.QuietTactic
import Derived.BigQuiet
import Derived.Lib.Hide
import Derived.WalkLawsBesides
import Derived.WalkSpells
import Derived.Laws.EntriesVeiled
import Derived.Test.YtekiemlniegddaaGreatProg
import Derived.Deep.Matrix
import Derived.OpenShut
import Derived.SizedLaws
import Derived.Lib.SmallJoins
import Derived.ChangeSlices
import Derived.Carry
set_option linter.unusedVariables false
set_option linter.unusedSimpArgs false
namespace Go.Proofs.YtekiemlniegddaaGreat
open Go Go.ChangeShapes Go.WideShapes Go.ChangeAt Go.RowKit
set_option maxRecDepth 100000
theorem io_head : (behindMainWord (wordsSigns Tryz.prog.initOrder.toList)).head? = some "cut".toList := by
 rw [show Tryz.prog.initOrder = String.ofList _ from rfl, String.toList_ofList]
 kernel_rfl
theorem words_of (P : Program) (h : (behindMainWord (wordsSigns P.initOrder.toList)).head? = some "cut".toList) : ∃ rest, behindMainWord (wordsSigns P.initOrder.toList) = "cut".toList :: rest := by
 generalize behindMainWord (wordsSigns P.initOrder.toList) = l at h
 cases l with
 | nil => simp at h
 | cons c rest =>
  simp only [List.head?_cons, Option.some.injEq] at h
  exact ⟨rest, by rw [h]⟩
theorem strip_cut (rest : List (List Char)) : stripLifts liftWords ("cut".toList :: rest) = ([], "cut".toList :: rest) := by
 kernel_rfl
theorem may_of (P : Program) (h : (behindMainWord (wordsSigns P.initOrder.toList)).head? = some "cut".toList) (h1 : P.laysLater = false) (h2 : P.bearsReflect = false) (h3 : P.doorFits [] = true) : P.mayEnter = true := by
 obtain ⟨rest, h⟩ := words_of P h
 unfold Program.mayEnter
 rw [h]
 simp only [strip_cut, h1, h2, h3]
 simp
theorem lifts_of (P : Program) (h : (behindMainWord (wordsSigns P.initOrder.toList)).head? = some "cut".toList) : P.headLifts = [] := by
 obtain ⟨rest, h⟩ := words_of P h
 unfold Program.headLifts
 rw [h]
 simp only [strip_cut]
 simp
theorem make_of (P : Program) (h : (behindMainWord (wordsSigns P.initOrder.toList)).head? = some "cut".toList) : P.make = some .cut := by
 obtain ⟨rest, h⟩ := words_of P h
 unfold Program.make
 rw [h]
 simp
theorem final_of (P : Program) (h : (behindMainWord (wordsSigns P.initOrder.toList)).head? = some "cut".toList) : P.liftsFinal = false := by
 have h0 := lifts_of P h
 obtain ⟨rest, h⟩ := words_of P h
 unfold Program.liftsFinal
 rw [h, h0]
 simp
theorem may_try : Tryz.prog.mayEnter = true := may_of _ io_head (by kernel_rfl) (by kernel_rfl) (by kernel_rfl)
theorem make_try : Tryz.prog.make = some .cut := make_of _ io_head
theorem final_try : Tryz.prog.liftsFinal = false := final_of _ io_head
/-- What a row asks of the program, limb by limb. The head's limbs are taken from above. -/
theorem facts_of (f : FuncId) (fn : Func) (s : ChangeSpec) (c : OpenClaim) (hmake : c.make = .cut) (hlift : c.lifted = false)
  (h1 : (c.wf (OpenSpec.ofChange s) && laidOutB Tryz.prog && mapsRowed Tryz.prog &&
 fn.params.all (Tryz.prog.readableRec ·) && namedTie Tryz.prog c.named s.vars &&
 (c.stops == []) && (Tryz.prog.stops == []) && (c.knobs == []) && (Tryz.prog.stopKnobs == [])) = true)
  (h2 : (c.inPlace == Tryz.prog.inPlace f) = true) (h3 : (c.unfollowed == Tryz.prog.unfollowed f) = true) (h4 : (c.recurses == Tryz.prog.recurses f) = true) (h5 : (c.named == Tryz.prog.varsNamed f) = true)
  (h6 : ((c.maps == (fn.params.toList ++ s.plain.varTypes Tryz.prog).any (Tryz.prog.mapsRec ·)) && (c.ifaces == (fn.params.toList ++ s.plain.varTypes Tryz.prog).any (Tryz.prog.ifacesRec ·)) && (c.mapsOut == Tryz.prog.mapsAmong fn.resultTypes.toList) &&
 (c.loops == (fn.params.toList ++ s.plain.varTypes Tryz.prog).any (Tryz.prog.loopsFrom ·)) && (c.wideKeys == (fn.params.toList ++ s.plain.varTypes Tryz.prog ++ fn.resultTypes.toList).any (Tryz.prog.wideKeysFrom ·))) = true)
  (h7 : (s.vars.all (Tryz.prog.varReadable ·) && fn.resultTypes.all (fun t => Tryz.prog.readableRec t && decide (t < Tryz.prog.types.size)) && (c.ifacesOut == fn.resultTypes.toList.any (Tryz.prog.ifacesRec ·)) && (c.loopsOut == fn.resultTypes.toList.any (Tryz.prog.loopsFrom ·)) && (c.plainKeys == Tryz.prog.plainKeys) && c.shortTexts.isNone && Tryz.prog.stopsHeard) = true)
  (hdom : c.domain = []) (h8 : c.kinds = []) (h9 : (c.pinned == c.pinnedBy) = true)
  (h10 : ((c.veiled == (fn.params.toList ++ s.plain.varTypes Tryz.prog ++ fn.resultTypes.toList).any (Tryz.prog.veiledRec ·)) && c.veiledFits Tryz.prog fn.params.toList (fn.params.toList ++ s.plain.varTypes Tryz.prog ++ fn.resultTypes.toList)) = true) :
  joinedFacts Tryz.prog f fn s c = true := by
 unfold joinedFacts
 simp only [Bool.and_eq_true] at h1 h6 h7 h10 ⊢
 rw [may_try, make_try, final_try, hmake, hlift]
 simp only [h1, h2, h3, h4, h5, h6, h7, hdom, h8, h9, h10, List.isEmpty_nil, if_true, and_self, beq_self_eq_true]
end Go.Proofs.YtekiemlniegddaaGreat
namespace Go.Proofs.YtekiemlniegddaaGreat
open Go Go.RowKit Go.Shelf
/-! ### A region within a round, from the plain calculus -/
/-- The wide fence, within a round. -/
abbrev FR (l : Nat) : Fence := Fence.wide.inRound l
theorem FR_depth (l : Nat) : (FR l).depth.isSome = true → 1 ≤ 0 := fun h => by simp [Fence.wide] at h
theorem oper_in_round {P : Program} {o : Oper} {a : Act} {w : World} {K : Act → World → Prop} {Q : Exit → Act → World → Prop} (l n : Nat) (hd : ∀ c, o.op ≠ .defer c) (hQ : ¬ LetsOut Q)
    (h : o.wp P a w K Q ∨ (o.asks P a w ∧ LetsOut Q)) : o.wpIn (FR l) n P a w K Q := by
  rcases h with h | h
  · refine ⟨fun _ _ => trivial, ?_⟩
    rw [Oper.semAt_eq _ _ _ hd]
    unfold Oper.wp at h
    generalize (execOp a.eval o).run P w = r at h ⊢
    cases r with
    | ok x w' =>
      cases x <;> simp only [Oper.upon, Oper.uponIn] at h ⊢ <;> first
        | exact h
        | exact h.elim
        | exact ⟨fun hh => (FR_depth l hh).elim (by omega) , CallsIn.inRound l (callsIn_wide.2 h)⟩
        | (refine ⟨fun hh => by have := FR_depth l hh; omega, ?_⟩
           first
             | exact CallsIn.inRound l (callsIn_wide.2 h)
             | (intro c cs _
                obtain ⟨v, w'', r, s⟩ := h c cs
                exact ⟨v, w'', r, stepsIn_wide.2 s⟩))
    | halt x w' => cases x <;> simp only [Oper.upon, Oper.uponIn] at h ⊢ <;> first | exact h | exact h.elim
  · exact (hQ h.2).elim
theorem wpOp_in_round {P : Program} {ops : Array Oper} {i : Nat} {a : Act} {w : World} {K : Act → World → Prop} {Q : Exit → Act → World → Prop} (l n : Nat) (hd : ∀ (j : Nat) (o : Oper), ops[j]? = some o → ∀ c, o.op ≠ .defer c) (hQ : ¬ LetsOut Q)
  (h : wpOp P ops Q i K a w) : wpOpIn (FR l) n P ops Q i K a w := by
 unfold wpOp at h
 unfold wpOpIn
 cases ho : ops[i]? with
 | none => simpa [ho] using h
 | some o =>
  simp only [ho] at h ⊢
  split
  ·rename_i hw
   simp only [hw, if_true] at h
   exact oper_in_round l n (hd i o ho) hQ h
  ·rename_i hw
   simp only [hw] at h
   exact ⟨fun _ _ => trivial, h⟩
theorem wpAny_in_round {P : Program} {md : Region.Mode} {ops : Array Oper} {Q : Exit → Act → World → Prop} (l n : Nat) (hd : ∀ (j : Nat) (o : Oper), ops[j]? = some o → ∀ c, o.op ≠ .defer c) (hQ : ¬ LetsOut Q) :
  ∀ (fuel : Nat) (listed : Array Bool) (a : Act) (w : World), wpAny P md ops Q fuel listed a w → wpAnyIn (FR l) n P md ops Q fuel listed a w
 | 0, _, _, _, h => h
 | fuel + 1, listed, a, w, h => ⟨h.1, fun i hi => wpOp_in_round l n hd hQ (wpOp_mono (fun a' w' h' => wpAny_in_round l n hd hQ fuel _ a' w' h') (h.2 i hi))⟩
/-- No operation of the region is a defer statement: for 'decide'. -/
def noDefer (ops : Array Oper) : Bool := ops.toList.all fun o => match o.op with | .defer _ => false | _ => true
theorem noDefer_spec {ops : Array Oper} (h : noDefer ops = true) : ∀ (j : Nat) (o : Oper), ops[j]? = some o → ∀ c, o.op ≠ .defer c := by
 intro j o ho c hc
 have := List.all_eq_true.1 h o (by
  have := Array.mem_of_getElem? ho
  simpa using this)
 rw [hc] at this
 cases this
/-! ### A region that draws its order: a condition S on the world, which holds behind every operation before number t
Under S an operation that yields one value in every world that meets S may be taken first, if the operations from t on wait for it. -/
section
variable {P : Program} {md : Region.Mode} {ops : Array Oper} {Q : Exit → Act → World → Prop} {S : World → Prop} {t : Nat}
def AnyS (P : Program) (md : Region.Mode) (ops : Array Oper) (Q : Exit → Act → World → Prop) (S : World → Prop) (t : Nat) : Nat → Array Bool → Act → World → Prop
 | 0, l, a, w => Region.ready md ops l = [] ∧ Q .normal a w
 | f + 1, l, a, w => (Region.ready md ops l = [] → Q .normal a w) ∧
   ∀ i ∈ Region.ready md ops l, wpOp P ops Q i (fun a' w' => (i < t → S w') ∧ AnyS P md ops Q S t f (l.setIfInBounds i true) a' w') a w
theorem AnyS.any : ∀ (f : Nat) (l : Array Bool) (a : Act) (w : World), AnyS P md ops Q S t f l a w → wpAny P md ops Q f l a w
 | 0, _, _, _, h => h
 | f + 1, _, _, _, h => ⟨h.1, fun i hi => wpOp_mono (fun a' w' h' => AnyS.any f _ a' w' h'.2) (h.2 i hi)⟩
/-- The operations from t on that have not come up wait for number i. -/
def lateWait (md : Region.Mode) (ops : Array Oper) (l : Array Bool) (t i : Nat) : Bool :=
 (List.range ops.size).all fun j => decide (j < t) || l.getD j true || j == i || match ops[j]? with | some o => o.after.any (fun e => Region.binds md e && e.on == i) | none => true
theorem lateWait_spec {l : Array Bool} {i : Nat} (h : lateWait md ops l t i = true) {j : Nat} {o : Oper} (hj : ops[j]? = some o) (ht : ¬ j < t) (hun : l.getD j true = false) (hne : j ≠ i) : ∃ e ∈ o.after, Region.binds md e = true ∧ e.on = i := by
 have h1 := List.all_eq_true.1 h j (List.mem_range.2 (Array.getElem?_eq_some_iff.1 hj).1)
 simp only [hj, Bool.or_eq_true, decide_eq_true_eq, ht, hun, Bool.false_eq_true, beq_iff_eq, hne, false_or] at h1
 obtain ⟨e, he, hb⟩ := Array.any_eq_true'.1 h1
 simp only [Bool.and_eq_true, beq_iff_eq] at hb
 exact ⟨e, he, hb.1, hb.2⟩
theorem lateWait_more {l : Array Bool} {i j : Nat} (h : lateWait md ops l t i = true) : lateWait md ops (l.setIfInBounds j true) t i = true := by
 refine List.all_eq_true.2 fun k hk => ?_
 have h1 := List.all_eq_true.1 h k hk
 simp only [Bool.or_eq_true] at h1 ⊢
 rcases h1 with ((h1 | h1) | h1) | h1
 ·exact .inl (.inl (.inl h1))
 ·refine .inl (.inl (.inr ?_))
  by_cases e : j = k
  ·subst e
   by_cases hlt : j < l.size
   ·simp [hlt]
   ·simp [hlt]
  ·rw [getD_set_ne true e]; exact h1
 ·exact .inl (.inr h1)
 ·exact .inr h1
theorem AnyS.first {i : Nat} {o : Oper} {v : Value} (hi : ops[i]? = some o) (hsel : ∀ (j : Nat) (o : Oper) cs b, ops[j]? = some o → o.op ≠ .select cs b) (hQ : ∀ c a w, Q (.panic c) (a.put o.dst v) w → Q (.panic c) a w) :
  ∀ (f : Nat) (l : Array Bool) (a : Act) (w : World),
   (∀ j oj, ops[j]? = some oj → j ≠ i → l.getD j true = false → (∀ e ∈ oj.after, Region.binds md e = true → e.on ≠ i) → o.apart ops oj = true) → lateWait md ops l t i = true →
   i ∈ Region.ready md ops l → YieldsIf P ops S o v a → S w → AnyS P md ops Q S t f (l.setIfInBounds i true) (a.put o.dst v) w → AnyS P md ops Q S t (f + 1) l a w
 | 0, l, a, w, _, _, hr, hy, hS, H => by
  refine ⟨fun h => (by rw [h] at hr; cases hr), fun j hj => ?_⟩
  by_cases e : j = i
  ·subst e; exact hy.wpOp hi hS ⟨fun _ => hS, H⟩
  ·have := ready_mono hj e
   rw [H.1] at this; cases this
 | f + 1, l, a, w, hfree, hlate, hr, hy, hS, H => by
  refine ⟨fun h => (by rw [h] at hr; cases hr), fun j hj => ?_⟩
  by_cases e : j = i
  ·subst e; exact hy.wpOp hi hS ⟨fun _ => hS, H⟩
  ·have hj1 := H.2 j (ready_mono hj e)
   obtain ⟨hjun, oj, hoj, hall⟩ := mem_ready.1 hj
   have hiun := (mem_ready.1 hr).1
   have hwait : ∀ x ∈ oj.after, Region.binds md x = true → x.on ≠ i := fun x hx hb ex => by
    have h1 := hall x hx hb
    rw [ex] at h1
    rcases Nat.lt_or_ge i l.size with h' | h'
    ·simp [h'] at hiun h1; rw [hiun] at h1; cases h1
    ·simp [Array.getElem?_eq_none h'] at h1
   have hjt : j < t := Decidable.byContradiction fun hjt => by
    obtain ⟨x, hx, hb, ex⟩ := lateWait_spec hlate hoj hjt hjun e
    exact hwait x hx hb ex
   have h2 := wpOp_putIf hoj (hfree j oj hoj e hjun hwait) (fun cs b => hsel i o cs b hi) (fun cs b => hsel j oj cs b hoj) hQ hy hj1
   refine wpOp_mono (fun a' w' h3 => ?_) h2
   obtain ⟨hy', hSn, hrest⟩ := h3
   rw [Array.setIfInBounds_comm _ _ (Ne.symm e)] at hrest
   exact ⟨fun _ => hSn hjt, AnyS.first hi hsel hQ f _ a' w' (fun k ok hk hki hun hno => hfree k ok hk hki (by
    by_cases ej : j = k
    ·subst ej; exact hjun
    ·rw [getD_set_ne true ej] at hun; exact hun) hno) (lateWait_more hlate) (ready_mono hr (Ne.symm e)) hy' (hSn hjt) hrest⟩
/-- The beginning, within a round. -/
theorem round_region (S : World → Prop) (t n : Nat) (l m : Nat) {id : Nat} {a : Act} {w : World} (hm : P.follows .mixedOrders = true) (hnd : noDefer ops = true) (hQ : ¬ LetsOut Q) (hn : ops.size = n)
  (h : AnyS P .any ops Q S t n (Array.replicate n false) a w.drew) : (Code.region id ops true).wpIn (FR l) m P Q a w := by
 subst hn
 exact wpIn_region_any hm (wpAny_in_round l m (noDefer_spec hnd) hQ _ _ _ _ (AnyS.any _ _ _ _ h))
/-- The beginning, in plain code. -/
theorem plain_region (S : World → Prop) (t n : Nat) {id : Nat} {a : Act} {w : World} (hm : P.follows .mixedOrders = true) (hn : ops.size = n)
  (h : AnyS P .any ops Q S t n (Array.replicate n false) a w.drew) : (Code.region id ops true).wp P Q a w := by
 subst hn
 exact wp_region_any hm (AnyS.any _ _ _ _ h)
/-- Take first an operation that yields its value in every world that meets S. -/
theorem take_op (i : Nat) {d : Tmp} {op : Op} {ty : TypeId} {ps : String} {af : Array Edge} {gd : Option (Nat × Bool)} {v : Value} {f : Nat} {l : Array Bool} {a : Act} {w : World} (hi : ops[i]? = some { dst := some d, op := op, type := ty, pos := ps, after := af, guard := gd })
  (hs : (Region.noSelect ops && Region.free md ops l i && (Region.ready md ops l).contains i && lateWait md ops l t i) = true)
  (hQ : ∀ c a w, Q (.panic c) { a with tmps := a.tmps.setIfInBounds d v } w → Q (.panic c) a w) (hw : Region.wanted { dst := some d, op := op, type := ty, pos := ps, after := af, guard := gd } (yielded ops a.tmps) = true) (hS : S w) (hy : ∀ w', S w' → (execOp a.eval { dst := some d, op := op, type := ty, pos := ps, after := af, guard := gd }).run P w' = .ok (.value v) w')
  (h : AnyS P md ops Q S t f (l.setIfInBounds i true) { tmps := a.tmps.setIfInBounds d v, defers := a.defers } w) : AnyS P md ops Q S t (f + 1) l a w := by
 simp only [Bool.and_eq_true] at hs
 exact AnyS.first hi (Region.noSelect_spec hs.1.1.1) hQ f l a w (Region.free_spec hi hs.1.1.2) hs.2 (by simpa using hs.1.2) (Or.inl ⟨hw, hy⟩) hS h
/-- Take first an operation whose guard is false. -/
theorem pass_op (i : Nat) {d : Tmp} {op : Op} {ty : TypeId} {ps : String} {af : Array Edge} {gd : Option (Nat × Bool)} {f : Nat} {l : Array Bool} {a : Act} {w : World} (hi : ops[i]? = some { dst := some d, op := op, type := ty, pos := ps, after := af, guard := gd })
  (hs : (Region.noSelect ops && Region.free md ops l i && (Region.ready md ops l).contains i && lateWait md ops l t i) = true)
  (hQ : ∀ c a w, Q (.panic c) { a with tmps := a.tmps.setIfInBounds d undef } w → Q (.panic c) a w) (hw : Region.wanted { dst := some d, op := op, type := ty, pos := ps, after := af, guard := gd } (yielded ops a.tmps) = false) (hS : S w)
  (h : AnyS P md ops Q S t f (l.setIfInBounds i true) { tmps := a.tmps.setIfInBounds d undef, defers := a.defers } w) : AnyS P md ops Q S t (f + 1) l a w := by
 simp only [Bool.and_eq_true] at hs
 exact AnyS.first hi (Region.noSelect_spec hs.1.1.1) hQ f l a w (Region.free_spec hi hs.1.1.2) hs.2 (by simpa using hs.1.2) (Or.inr ⟨hw, rfl⟩) hS h
/-- One operation alone may come up, which changes the world. -/
theorem step_op (i : Nat) {d : Option Tmp} {op : Op} {ty : TypeId} {ps : String} {af : Array Edge} {gd : Option (Nat × Bool)} {f : Nat} {l : Array Bool} {a : Act} {w : World} (hr : Region.ready md ops l = [i]) (ho : ops[i]? = some { dst := d, op := op, type := ty, pos := ps, after := af, guard := gd })
  (h : ∀ K' : Act → World → Prop, Shut (∀ a w, (i < t → S w) → AnyS P md ops Q S t f (l.setIfInBounds i true) a w → K' a w) → if Region.wanted { dst := d, op := op, type := ty, pos := ps, after := af, guard := gd } (yielded ops a.tmps) = true then Oper.wp P { dst := d, op := op, type := ty, pos := ps, after := af, guard := gd } a w K' Q else K' (a.put d undef) w) :
  AnyS P md ops Q S t (f + 1) l a w := by
 refine ⟨fun h0 => absurd (hr ▸ h0) (by simp), hr ▸ fun j hj => ?_⟩
 obtain rfl : j = i := by simpa using hj
 exact wpOp_step ho (fun K' hK => h K' (fun a w hS hW => hK a w ⟨hS, hW⟩))
/-- All have come up. -/
theorem done_ops {f : Nat} {l : Array Bool} {a : Act} {w : World} (hr : Region.ready md ops l = []) (h : Q .normal a w) : AnyS P md ops Q S t f l a w := by
 cases f with
 | zero => exact ⟨hr, h⟩
 | succ f => exact ⟨fun _ => h, by rw [hr]; simp⟩
end
theorem step_append_fits {P : Program} {ops : Array Oper} {o : Oper} {a : Act} {w : World} {K : Act → World → Prop} {Q : Exit → Act → World → Prop} {E : Prop}
  (hg : o.guard = none) (s x : Operand) (t : TypeId) (hop : o.op = Op.call { callee := Callee.builtin Builtin.append, args := #[s, x], argTypes := #[t, t] })
  (base : Nat) (e : TypeId) (i : TypeInfo) (size : Nat) (h1 : P.underlying t = some (.slice e)) (h2 : P.info? e = some i) (h4 : i.size = size)
  (g k cap : Nat) (xs : List Value) (hs : a.eval s = .slice (some ⟨g, 0, none⟩) k cap) (hown : w.ownsRow base e size (.slice (some ⟨g, 0, none⟩) k cap) k xs) (ad : Addr) (m c : Nat) (news : List Value) (hx : a.eval x = .slice (some ad) m c) (hn : news.length = m * size)
  (hc : ∀ j u, news[j]? = some u → w.cell? (ad.add j) = some u) (h1c : ∀ u ∈ news, u.oneCell' = true) (b1 : k + m ≤ cap)
  (hK : ∀ w', w'.ownsRow base e size (.slice (some ⟨g, 0, none⟩) (k + m) cap) (k + m) (xs ++ news) → w.grownBy w' (some g) → K (a.put o.dst (.slice (some ⟨g, 0, none⟩) (k + m) cap)) w') :
  if Region.wanted o (yielded ops a.tmps) = true then Oper.wp P o a w K Q else E := by
 have hw : Region.wanted o (yielded ops a.tmps) = true := by simp [Region.wanted, hg]
 rw [if_pos hw]
 obtain ⟨w', hrun, r1, r2⟩ := run_append_fits (P := P) w base t o.type e i size h1 h2 h4 g k cap xs hown ad m c news hn hc h1c b1
 unfold Oper.wp
 simp [execOp, hop, resolve, invoke, builtin, hs, hx, hrun, Result.andThen]
 exact hK w' r1 r2
/-! ### Slices that read as lists -/
/-- The slice at 'a' reads as the integers 'xs', in blocks below 'B'. -/
def Rd (B : Nat) (W : World) (a : Option Addr) (xs : List Int) : Prop :=
 xs = [] ∨ ∃ b o, a = some ⟨b, o, none⟩ ∧ b < B ∧ ∀ i, i < xs.length → W.cell? ⟨b, o + i, none⟩ = some (.int .i64 (xs[i]?.getD 0))
theorem Rd.below {B B' : Nat} {W W' : World} {a : Option Addr} {xs : List Int} (h : Rd B W a xs) (hB : B ≤ B') (hb : Below B' W W') : Rd B W' a xs := by
 rcases h with h | ⟨b, o, h1, h2, h3⟩
 ·exact .inl h
 ·exact .inr ⟨b, o, h1, h2, fun i hi => (hb.cell (p := ⟨b, o + i, none⟩) (by show b < B'; omega)).trans (h3 i hi)⟩
theorem Rd.mono {B B' : Nat} {W : World} {a : Option Addr} {xs : List Int} (h : Rd B W a xs) (hB : B ≤ B') : Rd B' W a xs := by
 rcases h with h | ⟨b, o, h1, h2, h3⟩
 ·exact .inl h
 ·exact .inr ⟨b, o, h1, by omega, h3⟩
/-- All numbers are from lo to hi. -/
def allIn (lo hi : Int) (xs : List Int) : Bool := xs.all fun x => decide (lo ≤ x) && decide (x ≤ hi)
theorem allIn_succ {lo hi : Int} {xs : List Int} {k : Nat} (hk : k < xs.length) (h : allIn lo hi (xs.take k) = true) (h1 : lo ≤ xs[k]?.getD 0) (h2 : xs[k]?.getD 0 ≤ hi) : allIn lo hi (xs.take (k + 1)) = true := by
 have e : xs[k]? = some xs[k] := List.getElem?_eq_getElem hk
 rw [e] at h1 h2
 have e2 : allIn lo hi (xs.take (k + 1)) = (allIn lo hi (xs.take k) && (decide (lo ≤ xs[k]) && decide (xs[k] ≤ hi))) := by
  rw [List.take_succ_eq_append_getElem hk]; simp only [allIn, List.all_append]; simp
 rw [e2, h]
 simp at h1 h2 ⊢
 exact ⟨h1, h2⟩
theorem allIn_false {lo hi : Int} {xs : List Int} {k : Nat} (hk : k < xs.length) (h : xs[k]?.getD 0 < lo ∨ hi < xs[k]?.getD 0) : allIn lo hi xs = false := by
 have e : xs[k]? = some xs[k] := List.getElem?_eq_getElem hk
 rw [e] at h
 simp at h
 rw [Bool.eq_false_iff]
 intro hh
 simp [allIn] at hh
 have := hh xs[k] (List.getElem_mem hk)
 omega
theorem allIn_mem {lo hi : Int} {xs : List Int} (h : allIn lo hi xs = true) {x : Int} (hx : x ∈ xs) : lo ≤ x ∧ x ≤ hi := by
 simp [allIn] at h
 exact h x hx
/-! ### Cells of new blocks -/
theorem cell_new {w : World} {b i : Nat} {cs : Array Value} {t : TypeId} {v : Value} (hb : b = w.heap.size) (hv : cs[i]? = some v) : (w.alloc (.cells cs t)).cell? ⟨b, i, none⟩ = some v := by
 subst hb
 show (match (w.heap.push (.cells cs t))[w.heap.size]? with | some (.cells cs _ _) => cs[i]? | _ => none) = some v
 simp [hv]
theorem cell_old {w : World} {a : Addr} {o : Obj} {v : Value} (h : w.cell? a = some v) : (w.alloc o).cell? a = some v := by
 rw [World.cell?_alloc_some w a o (by rw [h]; rfl), h]
/-! ### A block of cells, whole -/
/-- Block B holds the cells cs of type t. -/
def Blk (W : World) (B : Nat) (t : TypeId) (cs : Array Value) : Prop := W.heap[B]? = some (.cells cs t (0, 0))
theorem Blk.lt {W : World} {B : Nat} {t : TypeId} {cs : Array Value} (h : Blk W B t cs) : B < W.heap.size := (Array.getElem?_eq_some_iff.1 h).1
theorem Blk.cell {W : World} {B : Nat} {t : TypeId} {cs : Array Value} (h : Blk W B t cs) {i : Nat} {v : Value} (hv : cs[i]? = some v) : W.cell? ⟨B, i, none⟩ = some v := by simp [World.cell?, show W.heap[B]? = _ from h, hv]
theorem Blk.frozen {W : World} {B : Nat} {t : TypeId} {cs : Array Value} (h : Blk W B t cs) (i : Nat) : W.frozen? ⟨B, i, none⟩ = false := by simp [World.frozen?, show W.heap[B]? = _ from h]
theorem Blk.new (W : World) (t : TypeId) (cs : Array Value) : Blk (W.alloc (.cells cs t)) W.heap.size t cs := World.alloc_heap_new W _
theorem Blk.kept {W W' : World} {row : Option Nat} {B : Nat} {t : TypeId} {cs : Array Value} (h : Blk W B t cs) (hg : W.grownBy W' row) (hne : some B ≠ row) : Blk W' B t cs := (hg.block B h.lt hne).trans h
theorem Blk.alloc {W : World} {B : Nat} {t : TypeId} {cs : Array Value} (h : Blk W B t cs) (o : Obj) : Blk (W.alloc o) B t cs := h.kept (World.grownBy_alloc W o none) (by simp)
theorem Blk.below {W W' : World} {n B : Nat} {t : TypeId} {cs : Array Value} (h : Blk W B t cs) (hb : Below n W W') (hn : B < n) : Blk W' B t cs := (hb.block B hn).trans h
theorem Blk.set {W : World} {B : Nat} {t : TypeId} {cs : Array Value} (i : Nat) (v : Value) (h : Blk W B t cs) : Blk (W.setCell ⟨B, i, none⟩ v) B t (cs.setIfInBounds i v) := by
 obtain ⟨hlt, hk⟩ := Array.getElem?_eq_some_iff.1 h
 show (W.heap.modify B _)[B]? = _
 rw [Array.getElem?_eq_getElem (by rw [Array.size_modify]; exact hlt), Array.getElem_modify_self, hk]
 rfl
theorem Blk.other {W : World} {B : Nat} {t : TypeId} {cs : Array Value} (h : Blk W B t cs) {a : Addr} (hne : B ≠ a.block) (v : Value) : Blk (W.setCell a v) B t cs := (Below.heap_setCell W a v B hne).trans h
theorem Blk.putObj {W : World} {B : Nat} {t : TypeId} {cs : Array Value} (h : Blk W B t cs) {l : Nat} (hne : B ≠ l) (o : Obj) : Blk (W.putObj l o) B t cs := (World.putObj_heap_other hne).trans h
theorem Blk.not_row {W : World} {B : Nat} {t e : TypeId} {cs : Array Value} (h : Blk W B t cs) (hte : t ≠ e) {base size k : Nat} {v : Value} {xs : List Value} (hr : W.ownsRow base e size v k xs) : some B ≠ v.ownBlock := by
 rcases hr.2 with ⟨rfl, _⟩ | ⟨g, cap, cur, rfl, _, hgb, _⟩
 ·simp [Value.ownBlock]
 ·intro e'
  obtain rfl : B = g := by simpa [Value.ownBlock] using e'
  have := (show W.heap[B]? = _ from h).symm.trans hgb
  simp at this
  exact hte this.2
/-- A block speaks of cells alone. -/
theorem blk_keeps {W W' : World} {row : Option Nat} {B : Nat} {t : TypeId} {cs : Array Value} (h : Blk W B t cs) (hg : W.grownBy W' row) (hr : ∀ r, row = some r → ∃ o : Obj, W.heap[r]? = some o ∧ o.isCells = false) : Blk W' B t cs :=
 h.kept hg fun e => by
  obtain ⟨o, ho, hc⟩ := hr B e.symm
  rw [show W.heap[B]? = _ from h] at ho; cases ho; cases hc
theorem row_keeps {W W' : World} {row : Option Nat} {base : Nat} {e : TypeId} {size : Nat} {v : Value} {k : Nat} {xs : List Value} (h : W.ownsRow base e size v k xs) (hg : W.grownBy W' row) (hr : ∀ r, row = some r → ∃ o : Obj, W.heap[r]? = some o ∧ o.isCells = false) : W'.ownsRow base e size v k xs := by
 refine h.kept hg ?_
 rcases h.2 with ⟨rfl, _⟩ | ⟨g, cap, cur, rfl, _, hgb, _⟩
 ·exact .inl rfl
 ·refine .inr fun e' => ?_
  obtain ⟨o, ho, hc⟩ := hr g (by simpa [Value.ownBlock] using e'.symm)
  rw [hgb] at ho; cases ho; cases hc
/-- A row lies on where nothing that lay has turned. -/
theorem row_below {W W' : World} {base : Nat} {e : TypeId} {size : Nat} {v : Value} {k : Nat} {xs : List Value} (h : W.ownsRow base e size v k xs) (hb : Below W.heap.size W W') : W'.ownsRow base e size v k xs := by
 refine ⟨h.1, ?_⟩
 rcases h.2 with hn | ⟨g, cap, cur, rfl, h1, h2, rest⟩
 ·exact .inl hn
 ·exact .inr ⟨g, cap, cur, rfl, h1, (hb.block g (Array.getElem?_eq_some_iff.1 h2).1).trans h2, rest⟩
/-- What leaves all that lay as it lay keeps all that is no cells. -/
theorem others_of_below {W W' : World} (hb : Below W.heap.size W W') : KeepsOthers W W' := ⟨hb.size, fun k o hk _ => (hb.block k (Array.getElem?_eq_some_iff.1 hk).1).trans hk⟩
theorem grown_of_below {W W' : World} (hb : Below W.heap.size W W') (row : Option Nat) : W.grownBy W' row := ⟨hb.os, hb.tape, hb.output, hb.size, fun k hk _ => hb.block k hk⟩
theorem grown_trans {A B C : World} {row : Option Nat} (h : A.grownBy B row) (k : B.grownBy C row) : A.grownBy C row :=
 ⟨k.os.trans h.os, k.tape.trans h.tape, k.output.trans h.output, Nat.le_trans h.size k.size, fun i hi hr => (k.block i (Nat.lt_of_lt_of_le hi h.size) hr).trans (h.block i hi hr)⟩
/-- Where a row was written and nothing else that lay. -/
theorem others_of_row {W W' : World} {base : Nat} {e : TypeId} {size : Nat} {v : Value} {k : Nat} {xs : List Value} (h : W.ownsRow base e size v k xs) (hg : W.grownBy W' v.ownBlock) : KeepsOthers W W' :=
 KeepsOthers.of_grownBy hg fun j o ej hj => by
  rcases h.2 with ⟨rfl, _⟩ | ⟨g, cap, cur, rfl, _, hgb, _⟩
  ·simp [Value.ownBlock] at ej
  ·obtain rfl : g = j := by simpa [Value.ownBlock] using ej
   rw [hgb] at hj; cases hj; rfl
theorem below_of_row {W W' : World} {n base : Nat} {e : TypeId} {size : Nat} {v : Value} {k : Nat} {xs : List Value} (h : W.ownsRow base e size v k xs) (hg : W.grownBy W' v.ownBlock) (hn : n ≤ base) (hs : n ≤ W.heap.size) : Below n W W' :=
 (Below.refl n W).grown hg hs fun j ej => by
  rcases h.2 with ⟨rfl, _⟩ | ⟨g, cap, cur, rfl, hb, _, _⟩
  ·simp [Value.ownBlock] at ej
  ·obtain rfl : g = j := by simpa [Value.ownBlock] using ej
   omega
theorem row_setCell {W : World} {base : Nat} {e : TypeId} {size : Nat} {v : Value} {k : Nat} {xs : List Value} (h : W.ownsRow base e size v k xs) {a : Addr} (hne : some a.block ≠ v.ownBlock) (u : Value) : (W.setCell a u).ownsRow base e size v k xs := by
 refine ⟨h.1, ?_⟩
 rcases h.2 with hn | ⟨g, cap, cur, rfl, h1, h2, rest⟩
 ·exact .inl hn
 ·exact .inr ⟨g, cap, cur, rfl, h1, by rw [Below.heap_setCell _ _ _ _ (fun e => hne (by simp [Value.ownBlock, e]))]; exact h2, rest⟩
/-! ### Quotients -/
theorem mul_small {a b m n : Int} (h1 : 0 ≤ a) (h2 : a ≤ m) (h3 : 0 ≤ b) (h4 : b ≤ n) : 0 ≤ a * b ∧ a * b ≤ m * n :=
 ⟨Int.mul_nonneg h1 h3, Int.mul_le_mul h2 h4 h3 (by omega)⟩
theorem tdiv_cases (a b : Int) (hb : 1 ≤ b) : (a.tdiv b = a / b ∧ (0 ≤ a ∨ a % b = 0)) ∨ (a.tdiv b = a / b + 1 ∧ a < 0 ∧ a % b ≠ 0) := by
 rw [Int.tdiv_eq_ediv]
 by_cases h : 0 ≤ a ∨ b ∣ a
 ·rw [if_pos h]
  refine .inl ⟨by omega, ?_⟩
  rcases h with h | h
  ·exact .inl h
  ·exact .inr (Int.emod_eq_zero_of_dvd h)
 ·rw [if_neg h]
  rw [Int.sign_eq_one_of_pos (by omega)]
  have h1 : ¬ 0 ≤ a := fun h' => h (.inl h')
  have h2 : ¬ b ∣ a := fun h' => h (.inr h')
  exact .inr ⟨rfl, by omega, fun h' => h2 (Int.dvd_of_emod_eq_zero h')⟩
theorem ediv_facts (a b : Int) (hb : 1 ≤ b) : b * (a / b) + a % b = a ∧ 0 ≤ a % b ∧ a % b < b := ⟨Int.mul_ediv_add_emod a b, Int.emod_nonneg _ (by omega), Int.emod_lt_of_pos _ (by omega)⟩
theorem ediv_bounds (a b : Int) (hb : 1 ≤ b) (h1 : -4611686018427387904 ≤ a) (h2 : a ≤ 4611686018427387904) : -4611686018427387904 ≤ a / b ∧ a / b ≤ 4611686018427387904 := by
 constructor
 ·exact (Int.le_ediv_iff_mul_le (by omega)).2 (by
   have : (-4611686018427387904 : Int) * b ≤ -4611686018427387904 * 1 := by omega
   omega)
 ·by_cases h : 0 ≤ a
  ·have := Int.ediv_le_self b h; omega
  ·have := Int.ediv_neg_of_neg_of_pos (a := a) (b := b) (by omega) (by omega); omega
theorem floor_lem (a b : Int) (h1 : -4611686018427387904 ≤ a) (h2 : a ≤ 4611686018427387904) (h3 : 1 ≤ b) (h4 : b ≤ 4611686018427387904) :
  (a < wrap64 (a.tdiv b * b) → wrap64 (a.tdiv b - 1) = a / b) ∧ (wrap64 (a.tdiv b * b) ≤ a → a.tdiv b = a / b) := by
 obtain ⟨e1, e2, e3⟩ := ediv_facts a b h3
 obtain ⟨b1, b2⟩ := ediv_bounds a b h3 h1 h2
 have e4 : a.tdiv b * b = b * a.tdiv b := Int.mul_comm _ _
 rcases tdiv_cases a b h3 with ⟨h, hh⟩ | ⟨h, hh, hm⟩
 ·rw [e4, h, IntWalk.wrap64_in (b * (a / b)) ⟨by omega, by omega⟩]
  refine ⟨fun hc => ?_, fun _ => rfl⟩
  omega
 ·have e5 : b * (a / b + 1) = b * (a / b) + b := by rw [Int.mul_add]; omega
  rw [e4, h, e5, IntWalk.wrap64_in (b * (a / b) + b) ⟨by omega, by omega⟩]
  refine ⟨fun _ => ?_, fun hc => ?_⟩
  ·rw [IntWalk.wrap64_in _ ⟨by omega, by omega⟩]; omega
  ·omega
theorem ret_bool {a b : Bool} (h : a = b) : Ending.returned (.bool a) = .returned (.bool b) := by rw [h]
theorem ret_int {k : IntKind} {a b : Int} (h : a = b) : Ending.returned (.int k a) = .returned (.int k b) := by rw [h]
theorem nrz {α : Type} : (∀ (l : List α) (i : Nat) (a : α), l.toArray.setIfInBounds i a = (l.set i a).toArray) ∧ (∀ (a b : α) (l : List α), (a :: l).set 0 b = b :: l) ∧ (∀ (a b : α) (n : Nat) (l : List α), (a :: l).set (n + 1) b = a :: l.set n b) := ⟨fun _ _ _ => List.setIfInBounds_toArray .., fun _ _ _ => rfl, fun _ _ _ _ => rfl⟩
section
variable {P : Program} {md : Region.Mode} {ops : Array Oper} {Q : Exit → Act → World → Prop} {S : World → Prop} {t : Nat}
theorem tkz (i : Nat) {d : Tmp} {op : Op} {ty : TypeId} {ps : String} {af : Array Edge} {gd : Option (Nat × Bool)} {v : Value} {f : Nat} {l : Array Bool} {a : Act} {w : World} (hi : ops[i]? = some { dst := some d, op := op, type := ty, pos := ps, after := af, guard := gd })
    (hS : S w) (hy : ∀ w', S w' → (execOp a.eval { dst := some d, op := op, type := ty, pos := ps, after := af, guard := gd }).run P w' = .ok (.value v) w')
    (h : AnyS P md ops Q S t f (l.setIfInBounds i true) { tmps := a.tmps.setIfInBounds d v, defers := a.defers } w)
    (hs : (Region.noSelect ops && Region.free md ops l i && (Region.ready md ops l).contains i && lateWait md ops l t i) = true := by kernel_rfl)
    (hQ : ∀ c a w, Q (.panic c) { a with tmps := a.tmps.setIfInBounds d v } w → Q (.panic c) a w := by exact fun _ _ _ h => h) (hw : Region.wanted { dst := some d, op := op, type := ty, pos := ps, after := af, guard := gd } (yielded ops a.tmps) = true := by rfl) : AnyS P md ops Q S t (f + 1) l a w :=
  take_op i hi hs hQ hw hS hy h
theorem psz (i : Nat) {d : Tmp} {op : Op} {ty : TypeId} {ps : String} {af : Array Edge} {gd : Option (Nat × Bool)} {f : Nat} {l : Array Bool} {a : Act} {w : World} (hi : ops[i]? = some { dst := some d, op := op, type := ty, pos := ps, after := af, guard := gd })
    (hS : S w) (h : AnyS P md ops Q S t f (l.setIfInBounds i true) { tmps := a.tmps.setIfInBounds d undef, defers := a.defers } w)
    (hs : (Region.noSelect ops && Region.free md ops l i && (Region.ready md ops l).contains i && lateWait md ops l t i) = true := by kernel_rfl)
    (hQ : ∀ c a w, Q (.panic c) { a with tmps := a.tmps.setIfInBounds d undef } w → Q (.panic c) a w := by exact fun _ _ _ h => h) (hw : Region.wanted { dst := some d, op := op, type := ty, pos := ps, after := af, guard := gd } (yielded ops a.tmps) = false := by rfl) : AnyS P md ops Q S t (f + 1) l a w :=
  pass_op i hi hs hQ hw hS h
end
theorem cz3 {W : World} {b : Nat} {t : TypeId} {a0 a1 a2 : Value} {l : List Value} (h : Blk W b t ⟨a0 :: a1 :: a2 :: l⟩) : W.cell? ⟨b, 0, none⟩ = some a0 ∧ W.cell? ⟨b, 1, none⟩ = some a1 ∧ W.cell? ⟨b, 2, none⟩ = some a2 := ⟨h.cell (i := 0) rfl, h.cell (i := 1) rfl, h.cell (i := 2) rfl⟩
theorem cz4 {W : World} {b : Nat} {t : TypeId} {a0 a1 a2 a3 : Value} {l : List Value} (h : Blk W b t ⟨a0 :: a1 :: a2 :: a3 :: l⟩) : W.cell? ⟨b, 0, none⟩ = some a0 ∧ W.cell? ⟨b, 1, none⟩ = some a1 ∧ W.cell? ⟨b, 2, none⟩ = some a2 ∧ W.cell? ⟨b, 3, none⟩ = some a3 := ⟨h.cell (i := 0) rfl, h.cell (i := 1) rfl, h.cell (i := 2) rfl, h.cell (i := 3) rfl⟩
theorem cz5 {W : World} {b : Nat} {t : TypeId} {a0 a1 a2 a3 a4 : Value} {l : List Value} (h : Blk W b t ⟨a0 :: a1 :: a2 :: a3 :: a4 :: l⟩) : W.cell? ⟨b, 0, none⟩ = some a0 ∧ W.cell? ⟨b, 1, none⟩ = some a1 ∧ W.cell? ⟨b, 2, none⟩ = some a2 ∧ W.cell? ⟨b, 3, none⟩ = some a3 ∧ W.cell? ⟨b, 4, none⟩ = some a4 := ⟨h.cell (i := 0) rfl, h.cell (i := 1) rfl, h.cell (i := 2) rfl, h.cell (i := 3) rfl, h.cell (i := 4) rfl⟩
theorem cz6 {W : World} {b : Nat} {t : TypeId} {a0 a1 a2 a3 a4 a5 : Value} {l : List Value} (h : Blk W b t ⟨a0 :: a1 :: a2 :: a3 :: a4 :: a5 :: l⟩) : W.cell? ⟨b, 0, none⟩ = some a0 ∧ W.cell? ⟨b, 1, none⟩ = some a1 ∧ W.cell? ⟨b, 2, none⟩ = some a2 ∧ W.cell? ⟨b, 3, none⟩ = some a3 ∧ W.cell? ⟨b, 4, none⟩ = some a4 ∧ W.cell? ⟨b, 5, none⟩ = some a5 := ⟨h.cell (i := 0) rfl, h.cell (i := 1) rfl, h.cell (i := 2) rfl, h.cell (i := 3) rfl, h.cell (i := 4) rfl, h.cell (i := 5) rfl⟩
theorem cz7 {W : World} {b : Nat} {t : TypeId} {a0 a1 a2 a3 a4 a5 a6 : Value} {l : List Value} (h : Blk W b t ⟨a0 :: a1 :: a2 :: a3 :: a4 :: a5 :: a6 :: l⟩) : W.cell? ⟨b, 0, none⟩ = some a0 ∧ W.cell? ⟨b, 1, none⟩ = some a1 ∧ W.cell? ⟨b, 2, none⟩ = some a2 ∧ W.cell? ⟨b, 3, none⟩ = some a3 ∧ W.cell? ⟨b, 4, none⟩ = some a4 ∧ W.cell? ⟨b, 5, none⟩ = some a5 ∧ W.cell? ⟨b, 6, none⟩ = some a6 := ⟨h.cell (i := 0) rfl, h.cell (i := 1) rfl, h.cell (i := 2) rfl, h.cell (i := 3) rfl, h.cell (i := 4) rfl, h.cell (i := 5) rfl, h.cell (i := 6) rfl⟩
theorem cz10 {W : World} {b : Nat} {t : TypeId} {a0 a1 a2 a3 a4 a5 a6 a7 a8 a9 : Value} {l : List Value} (h : Blk W b t ⟨a0 :: a1 :: a2 :: a3 :: a4 :: a5 :: a6 :: a7 :: a8 :: a9 :: l⟩) : W.cell? ⟨b, 0, none⟩ = some a0 ∧ W.cell? ⟨b, 1, none⟩ = some a1 ∧ W.cell? ⟨b, 2, none⟩ = some a2 ∧ W.cell? ⟨b, 3, none⟩ = some a3 ∧ W.cell? ⟨b, 4, none⟩ = some a4 ∧ W.cell? ⟨b, 5, none⟩ = some a5 ∧ W.cell? ⟨b, 6, none⟩ = some a6 ∧ W.cell? ⟨b, 7, none⟩ = some a7 ∧ W.cell? ⟨b, 8, none⟩ = some a8 ∧ W.cell? ⟨b, 9, none⟩ = some a9 := ⟨h.cell (i := 0) rfl, h.cell (i := 1) rfl, h.cell (i := 2) rfl, h.cell (i := 3) rfl, h.cell (i := 4) rfl, h.cell (i := 5) rfl, h.cell (i := 6) rfl, h.cell (i := 7) rfl, h.cell (i := 8) rfl, h.cell (i := 9) rfl⟩
theorem cz12 {W : World} {b : Nat} {t : TypeId} {a0 a1 a2 a3 a4 a5 a6 a7 a8 a9 a10 a11 : Value} {l : List Value} (h : Blk W b t ⟨a0 :: a1 :: a2 :: a3 :: a4 :: a5 :: a6 :: a7 :: a8 :: a9 :: a10 :: a11 :: l⟩) : W.cell? ⟨b, 0, none⟩ = some a0 ∧ W.cell? ⟨b, 1, none⟩ = some a1 ∧ W.cell? ⟨b, 2, none⟩ = some a2 ∧ W.cell? ⟨b, 3, none⟩ = some a3 ∧ W.cell? ⟨b, 4, none⟩ = some a4 ∧ W.cell? ⟨b, 5, none⟩ = some a5 ∧ W.cell? ⟨b, 6, none⟩ = some a6 ∧ W.cell? ⟨b, 7, none⟩ = some a7 ∧ W.cell? ⟨b, 8, none⟩ = some a8 ∧ W.cell? ⟨b, 9, none⟩ = some a9 ∧ W.cell? ⟨b, 10, none⟩ = some a10 ∧ W.cell? ⟨b, 11, none⟩ = some a11 := ⟨h.cell (i := 0) rfl, h.cell (i := 1) rfl, h.cell (i := 2) rfl, h.cell (i := 3) rfl, h.cell (i := 4) rfl, h.cell (i := 5) rfl, h.cell (i := 6) rfl, h.cell (i := 7) rfl, h.cell (i := 8) rfl, h.cell (i := 9) rfl, h.cell (i := 10) rfl, h.cell (i := 11) rfl⟩
theorem cz16 {W : World} {b : Nat} {t : TypeId} {a0 a1 a2 a3 a4 a5 a6 a7 a8 a9 a10 a11 a12 a13 a14 a15 : Value} {l : List Value} (h : Blk W b t ⟨a0 :: a1 :: a2 :: a3 :: a4 :: a5 :: a6 :: a7 :: a8 :: a9 :: a10 :: a11 :: a12 :: a13 :: a14 :: a15 :: l⟩) : W.cell? ⟨b, 0, none⟩ = some a0 ∧ W.cell? ⟨b, 1, none⟩ = some a1 ∧ W.cell? ⟨b, 2, none⟩ = some a2 ∧ W.cell? ⟨b, 3, none⟩ = some a3 ∧ W.cell? ⟨b, 4, none⟩ = some a4 ∧ W.cell? ⟨b, 5, none⟩ = some a5 ∧ W.cell? ⟨b, 6, none⟩ = some a6 ∧ W.cell? ⟨b, 7, none⟩ = some a7 ∧ W.cell? ⟨b, 8, none⟩ = some a8 ∧ W.cell? ⟨b, 9, none⟩ = some a9 ∧ W.cell? ⟨b, 10, none⟩ = some a10 ∧ W.cell? ⟨b, 11, none⟩ = some a11 ∧ W.cell? ⟨b, 12, none⟩ = some a12 ∧ W.cell? ⟨b, 13, none⟩ = some a13 ∧ W.cell? ⟨b, 14, none⟩ = some a14 ∧ W.cell? ⟨b, 15, none⟩ = some a15 := ⟨h.cell (i := 0) rfl, h.cell (i := 1) rfl, h.cell (i := 2) rfl, h.cell (i := 3) rfl, h.cell (i := 4) rfl, h.cell (i := 5) rfl, h.cell (i := 6) rfl, h.cell (i := 7) rfl, h.cell (i := 8) rfl, h.cell (i := 9) rfl, h.cell (i := 10) rfl, h.cell (i := 11) rfl, h.cell (i := 12) rfl, h.cell (i := 13) rfl, h.cell (i := 14) rfl, h.cell (i := 15) rfl⟩
end Go.Proofs.YtekiemlniegddaaGreat
namespace Go.Proofs.YtekiemlniegddaaGreat
open Go Go.RowKit Go.Shelf
set_option maxHeartbeats 400000 in
theorem within_any (lo hi : Int) (a : Option Addr) (c : Nat) (xs : List Int) (w : World) (hl : xs.length ≤ 9223372036854775807) (hr : Rd w.heap.size w a xs) :
  Calls Tryz.prog 82 #[.int .i64 lo, .int .i64 hi, .slice a xs.length c] w fun e w' => e = .returned (.bool (allIn lo hi xs)) ∧ w = w' := by
 obtain ⟨n, hn⟩ : ∃ n, xs.length = n := ⟨_, rfl⟩
 rw [hn] at hl ⊢
 have hnH := Lib.hid hn
 clear hn
 go_enter Tryz.func82, Tryz.ntmps82
 go_wp2
 go_loop [8, 11] (fun v i => ∃ k : Nat, k ≤ n ∧ i = .int .i64 k ∧ allIn lo hi (xs.take k) = true) (fun _ i => n - (intOf i).toNat)
 case atStart => exact ⟨0, Nat.zero_le _, rfl, by simp [allIn]⟩
 case round =>
  obtain ⟨k, hk, rfl, hall⟩ := hrel
  by_cases hlt : k < n
  ·rcases hr with h0 | ⟨b, o, rfl, hb, hc⟩
   ·exfalso; have := hnH.out; rw [h0] at this; simp at this; omega
   have hlt' : k < xs.length := by have := hnH.out; omega
   have hcell := hc k hlt'
   clear hc
   obtain ⟨x, hx⟩ : ∃ x, xs[k]?.getD 0 = x := ⟨_, rfl⟩
   rw [hx] at hcell
   have hs1 : x < lo ∨ hi < x → allIn lo hi xs = false := fun h => allIn_false hlt' (by rw [hx]; exact h)
   have hs2 : lo ≤ x → x ≤ hi → allIn lo hi (xs.take (k + 1)) = true := fun h1 h2 => allIn_succ hlt' hall (by rw [hx]; exact h1) (by rw [hx]; exact h2)
   have hs1H := Lib.hid hs1
   have hs2H := Lib.hid hs2
   clear hx hlt' hs1 hs2
   by_cases h1 : x < lo
   ·go_wp2
    go_ret
    exact ⟨ret_bool (hs1H.out (.inl h1)).symm, rfl⟩
   ·by_cases h2 : hi < x
    ·go_wp2
     go_ret
     exact ⟨ret_bool (hs1H.out (.inr h2)).symm, rfl⟩
    ·go_wp2
     go_round
     case rel => exact ⟨k + 1, by omega, by go_num, hs2H.out (by omega) (by omega)⟩
     case measure => simp [intOf]; omega
  ·go_wp2
   go_ret
   exact ⟨ret_bool (by rw [List.take_of_length_le (by have := hnH.out; omega)] at hall; exact hall.symm), rfl⟩
/-- A number brought into a range. -/
def clamp (n lo hi : Int) : Int := max lo (min n hi)
theorem into_any (n lo hi : Int) (w : World) :
  Calls Tryz.prog 85 #[.int .i64 n, .int .i64 lo, .int .i64 hi] w fun e w' => e = .returned (.int .i64 (clamp n lo hi)) ∧ w = w' := by
 go_enter Tryz.func85, Tryz.ntmps85
 go_wp2
 all_goals (go_ret; exact ⟨ret_int (by unfold clamp; omega), rfl⟩)
theorem value_any (n : Int) (w : World) :
  Calls Tryz.prog 130 #[.int .i64 n] w fun e w' => e = .returned (.int .i64 (clamp n (-2147483648) 2147483648)) ∧ w = w' := by
 go_enter Tryz.func130, Tryz.ntmps130
 go_wp2_with (go_at_call 85; refine (into_any _ _ _ _).mono ?_; rintro e w' ⟨rfl, rfl⟩)
 go_ret
 exact ⟨rfl, rfl⟩
theorem floor_any (a b : Int) (w : World) (h1 : -4611686018427387904 ≤ a) (h2 : a ≤ 4611686018427387904) (h3 : 1 ≤ b) (h4 : b ≤ 4611686018427387904) :
  Calls Tryz.prog 86 #[.int .i64 a, .int .i64 b] w fun e w' => e = .returned (.int .i64 (a / b)) ∧ w = w' := by
 have hf := Lib.hid (floor_lem a b h1 h2 h3 h4)
 go_enter Tryz.func86, Tryz.ntmps86
 go_wp2
 all_goals go_ret
 ·exact ⟨ret_int (hf.out.1 (by assumption)), rfl⟩
 ·exact ⟨ret_int (hf.out.2 (by assumption)), rfl⟩
/-- A number is in a range. -/
def inR (n lo hi : Int) : Bool := decide (lo ≤ n) && decide (n ≤ hi)
theorem rwithin_any (n lo hi : Int) (w : World) :
  Calls Tryz.prog 97 #[.int .i64 n, .int .i64 lo, .int .i64 hi] w fun e w' => e = .returned (.bool (inR n lo hi)) ∧ w = w' := by
 by_cases h1 : lo ≤ n
 ·by_cases h2 : n ≤ hi
  ·go_enter Tryz.func97, Tryz.ntmps97
   go_wp2
   go_ret
   exact ⟨ret_bool (by simp [inR, h1, h2]), rfl⟩
  ·go_enter Tryz.func97, Tryz.ntmps97
   go_wp2
   go_ret
   exact ⟨ret_bool (by simp [inR, h1, h2]), rfl⟩
 ·go_enter Tryz.func97, Tryz.ntmps97
  go_wp2
  go_ret
  exact ⟨ret_bool (by simp [inR]; omega), rfl⟩
end Go.Proofs.YtekiemlniegddaaGreat
namespace Go.Proofs.YtekiemlniegddaaGreat
open Go Go.RowKit Go.Shelf
/-- The pixel with an index. -/
def px (xs : List Int) (i : Int) : Int := xs[i.toNat]?.getD 0
/-- An image's value. -/
abbrev imv (iw ih : Int) (a : Option Addr) (n c : Nat) : Value := .agg #[.int .i64 iw, .int .i64 ih, .slice a n c]
theorem within1 (lo hi x : Int) (v : Bool) (hv : inR x lo hi = v) (b o : Nat) (c : Nat) (w : World) (h : w.cell? ⟨b, o, none⟩ = some (.int .i64 x)) :
  Calls Tryz.prog 82 #[.int .i64 lo, .int .i64 hi, .slice (some ⟨b, o, none⟩) 1 c] w fun e w' => e = .returned (.bool v) ∧ w = w' := by
 subst hv
 have h' := within_any lo hi (some ⟨b, o, none⟩) c [x] w (by simp) (.inr ⟨b, o, rfl, World.block_lt_of_cell? w _ h, fun i hi => by
  have : i = 0 := by simp at hi; omega
  subst this; exact h⟩)
 refine h'.mono fun e w' ⟨he, hw⟩ => ⟨he.trans (ret_bool (by simp [allIn, inR])), hw⟩
theorem within2 (lo hi x y : Int) (v : Bool) (hv : (inR x lo hi && inR y lo hi) = v) (b o : Nat) (c : Nat) (w : World) (h : w.cell? ⟨b, o, none⟩ = some (.int .i64 x)) (h1 : w.cell? ⟨b, o + 1, none⟩ = some (.int .i64 y)) :
  Calls Tryz.prog 82 #[.int .i64 lo, .int .i64 hi, .slice (some ⟨b, o, none⟩) 2 c] w fun e w' => e = .returned (.bool v) ∧ w = w' := by
 subst hv
 have h' := within_any lo hi (some ⟨b, o, none⟩) c [x, y] w (by simp) (.inr ⟨b, o, rfl, World.block_lt_of_cell? w _ h, fun i hi => by
  have : i = 0 ∨ i = 1 := by simp at hi; omega
  rcases this with rfl | rfl
  ·exact h
  ·exact h1⟩)
 refine h'.mono fun e w' ⟨he, hw⟩ => ⟨he.trans (ret_bool (by simp [allIn, inR])), hw⟩
set_option maxHeartbeats 400000 in
theorem at_any (iw ih x y : Int) (a : Option Addr) (c : Nat) (xs : List Int) (n : Nat) (hn : Hid (xs.length = n)) (w : World) (b1 : -4611686018427387904 ≤ y * iw) (b2 : y * iw ≤ 4611686018427387904) (h0 : 0 ≤ y * iw + x) (h1 : y * iw + x < n) (hm : n ≤ 9223372036854775807) (hr : Rd w.heap.size w a xs) :
  Calls Tryz.prog 87 #[imv iw ih a n c, .int .i64 x, .int .i64 y] w fun e w' => e = .returned (.int .i64 (px xs (y * iw + x))) ∧ Below w.heap.size w w' := by
 rcases hr with h | ⟨b, o, rfl, hb, hc⟩
 ·exfalso; have := hn.out; rw [h] at this; simp at this; omega
 obtain ⟨v, hv⟩ : ∃ v, px xs (y * iw + x) = v := ⟨_, rfl⟩
 have hcell := hc (y * iw + x).toNat (by have := hn.out; omega)
 unfold px at hv
 rw [hv] at hcell
 have hvH := Lib.hid hv
 clear hc hv
 go_enter Tryz.func87, Tryz.ntmps87
 go_wp2
 go_ret
 exact ⟨ret_int (by unfold px; exact hvH.out.symm), (Below.refl _ _).alloc (Nat.le_refl _) _⟩
set_option maxHeartbeats 400000 in
theorem inside_any (iw ih x y : Int) (s : Value) (w : World) (b1 : -4611686018427387904 ≤ iw) (b2 : iw ≤ 4611686018427387904) (b3 : -4611686018427387904 ≤ ih) (b4 : ih ≤ 4611686018427387904) (hs : ∃ a n c, s = .slice a n c) :
  Calls Tryz.prog 144 #[.agg #[.int .i64 iw, .int .i64 ih, s], .int .i64 x, .int .i64 y] w fun e w' => e = .returned (.bool (inR x 0 (iw - 1) && inR y 0 (ih - 1))) ∧ Below w.heap.size w w' := by
 obtain ⟨a, n, c, rfl⟩ := hs
 cases h : inR x 0 (iw - 1) with
 | true =>
  obtain ⟨v2, h2⟩ : ∃ v, inR y 0 (ih - 1) = v := ⟨_, rfl⟩
  rw [h2]
  have hH := Lib.hid h
  have hH2 := Lib.hid h2
  clear h h2
  go_enter Tryz.func144, Tryz.ntmps144
  go_wp2_with fail
  refine (within1 0 (iw - 1) x true hH.out _ _ _ _ ?_).mono ?_
  ·exact cell_new (by simp) rfl
  rintro e w' ⟨rfl, rfl⟩
  go_wp2_with fail
  refine (within1 0 (ih - 1) y v2 hH2.out _ _ _ _ ?_).mono ?_
  ·exact cell_new (by simp) rfl
  rintro e w' ⟨rfl, rfl⟩
  go_wp2_with fail
  go_ret
  exact ⟨ret_bool (by simp), (((Below.refl _ _).alloc (Nat.le_refl _) _).alloc (by simp) _).alloc (by simp <;> omega) _⟩
 | false =>
  have hH := Lib.hid h
  clear h
  go_enter Tryz.func144, Tryz.ntmps144
  go_wp2_with fail
  refine (within1 0 (iw - 1) x false hH.out _ _ _ _ ?_).mono ?_
  ·exact cell_new (by simp) rfl
  rintro e w' ⟨rfl, rfl⟩
  go_wp2_with fail
  go_ret
  exact ⟨ret_bool (by simp), (((Below.refl _ _).alloc (Nat.le_refl _) _).alloc (by simp) _)⟩
/-- An image is valid. -/
def vld (iw ih : Int) (xs : List Int) : Bool := ((inR iw 1 16 && inR ih 1 16) && decide ((xs.length : Int) = iw * ih)) && allIn (-2147483648) 2147483648 xs
theorem inR_true {n lo hi : Int} : inR n lo hi = true ↔ lo ≤ n ∧ n ≤ hi := by simp [inR]
theorem vld_true {iw ih : Int} {xs : List Int} (h : vld iw ih xs = true) : (1 ≤ iw ∧ iw ≤ 16) ∧ (1 ≤ ih ∧ ih ≤ 16) ∧ (xs.length : Int) = iw * ih ∧ allIn (-2147483648) 2147483648 xs = true := by
 simp only [vld, Bool.and_eq_true, inR_true, decide_eq_true_eq] at h
 exact ⟨h.1.1.1, h.1.1.2, h.1.2, h.2⟩
theorem len_dec (n : Nat) (p : Int) : decide ((n : Int) = p) = ((n : Int) == p) := by
 by_cases h : (n : Int) = p <;> simp [h]
set_option maxHeartbeats 1000000 in
theorem valid_any (iw ih : Int) (a : Option Addr) (c : Nat) (xs : List Int) (n : Nat) (hn : Hid (xs.length = n)) (w : World) (hm : n ≤ 9223372036854775807) (hr : Rd w.heap.size w a xs) :
  Calls Tryz.prog 81 #[imv iw ih a n c] w fun e w' => e = .returned (.bool (vld iw ih xs)) ∧ Below w.heap.size w w' := by
 have hvl : vld iw ih xs = (((inR iw 1 16 && inR ih 1 16) && ((n : Int) == iw * ih)) && allIn (-2147483648) 2147483648 xs) := by rw [← hn.out, ← len_dec]; rfl
 cases h1 : (inR iw 1 16 && inR ih 1 16) with
 | false =>
  have hv : vld iw ih xs = false := by rw [hvl, h1]; rfl
  have hvH := Lib.hid hv
  have hH := Lib.hid h1
  clear h1 hv hvl
  go_enter Tryz.func81, Tryz.ntmps81
  go_wp2_with fail
  refine (within2 1 16 iw ih false hH.out _ _ _ _ ?_ ?_).mono ?_
  ·exact cell_new (by simp) rfl
  ·exact cell_new (by simp) rfl
  rintro e w' ⟨rfl, rfl⟩
  go_wp2_with fail
  go_ret
  exact ⟨ret_bool hvH.out.symm, ((Below.refl _ _).alloc (Nat.le_refl _) _).alloc (by simp) _⟩
 | true =>
  have hh := h1
  simp only [Bool.and_eq_true, inR_true] at hh
  obtain ⟨⟨i1, i2⟩, i3, i4⟩ := hh
  obtain ⟨m1, m2⟩ := mul_small (a := iw) (b := ih) (by omega) i2 (by omega) i4
  cases h2 : ((n : Int) == iw * ih) with
  | false =>
   have hv : vld iw ih xs = false := by rw [hvl, h1, h2]; rfl
   have hvH := Lib.hid hv
   have hH := Lib.hid h1
   clear h1 hv hvl
   go_enter Tryz.func81, Tryz.ntmps81
   go_wp2_with fail
   refine (within2 1 16 iw ih true hH.out _ _ _ _ ?_ ?_).mono ?_
   ·exact cell_new (by simp) rfl
   ·exact cell_new (by simp) rfl
   rintro e w' ⟨rfl, rfl⟩
   go_wp2_with fail
   go_ret
   exact ⟨ret_bool hvH.out.symm, ((Below.refl _ _).alloc (Nat.le_refl _) _).alloc (by simp) _⟩
  | true =>
   have hv : vld iw ih xs = allIn (-2147483648) 2147483648 xs := by rw [hvl, h1, h2]; rfl
   have hvH := Lib.hid hv
   have hH := Lib.hid h1
   clear h1 hv hvl
   go_enter Tryz.func81, Tryz.ntmps81
   go_wp2_with fail
   refine (within2 1 16 iw ih true hH.out _ _ _ _ ?_ ?_).mono ?_
   ·exact cell_new (by simp) rfl
   ·exact cell_new (by simp) rfl
   rintro e w' ⟨rfl, rfl⟩
   go_wp2_with fail
   have hw := within_any (-2147483648) 2147483648 a c xs ((w.alloc (.cells #[.int .i64 iw, .int .i64 ih, .slice a n c] 32)).alloc (.cells #[.int .i64 iw, .int .i64 ih] 3)) (by rw [hn.out]; exact hm)
    ((hr.below (Nat.le_refl _) (((Below.refl _ _).alloc (Nat.le_refl _) _).alloc (by simp) _)).mono (by simp <;> omega))
   rw [hn.out] at hw
   refine hw.mono ?_
   rintro e w' ⟨rfl, rfl⟩
   go_wp2_with fail
   go_ret
   exact ⟨ret_bool (by rw [hvH.out]), ((Below.refl _ _).alloc (Nat.le_refl _) _).alloc (by simp) _⟩
theorem rwithin1 (n lo hi : Int) (v : Bool) (hv : inR n lo hi = v) (w : World) :
  Calls Tryz.prog 97 #[.int .i64 n, .int .i64 lo, .int .i64 hi] w fun e w' => e = .returned (.bool v) ∧ w = w' := by
 subst hv
 exact rwithin_any n lo hi w
set_option maxHeartbeats 1000000 in
theorem Valid_any (iw ih : Int) (a : Option Addr) (c : Nat) (xs : List Int) (n : Nat) (hn : Hid (xs.length = n)) (w : World) (hm : n ≤ 9223372036854775807) (hr : Rd w.heap.size w a xs) :
  Calls Tryz.prog 37 #[imv iw ih a n c] w fun e w' => e = .returned (.bool (vld iw ih xs)) ∧ Below w.heap.size w w' := by
 have hvl : vld iw ih xs = (((inR iw 1 16 && inR ih 1 16) && !((n : Int) != iw * ih)) && allIn (-2147483648) 2147483648 xs) := by rw [← hn.out]; simp only [vld, len_dec, bne, Bool.not_not]
 cases h1 : inR iw 1 16 with
 | false =>
  have hv : vld iw ih xs = false := by rw [hvl, h1]; rfl
  have hvH := Lib.hid hv
  have hH := Lib.hid h1
  clear h1 hv hvl
  go_enter Tryz.func37, Tryz.ntmps37
  go_wp2_with fail
  refine (rwithin1 iw 1 16 false hH.out _).mono ?_
  rintro e w' ⟨rfl, rfl⟩
  go_wp2_with fail
  go_ret
  exact ⟨ret_bool hvH.out.symm, ((Below.refl _ _).alloc (Nat.le_refl _) _)⟩
 | true =>
  cases h2 : inR ih 1 16 with
  | false =>
   have hv : vld iw ih xs = false := by rw [hvl, h1, h2]; rfl
   have hvH := Lib.hid hv
   have hH := Lib.hid h1
   have hH2 := Lib.hid h2
   clear h1 h2 hv hvl
   go_enter Tryz.func37, Tryz.ntmps37
   go_wp2_with fail
   refine (rwithin1 iw 1 16 true hH.out _).mono ?_
   rintro e w' ⟨rfl, rfl⟩
   go_wp2_with fail
   refine (rwithin1 ih 1 16 false hH2.out _).mono ?_
   rintro e w' ⟨rfl, rfl⟩
   go_wp2_with fail
   go_ret
   exact ⟨ret_bool hvH.out.symm, ((Below.refl _ _).alloc (Nat.le_refl _) _)⟩
  | true =>
   obtain ⟨i1, i2⟩ := inR_true.1 h1
   obtain ⟨i3, i4⟩ := inR_true.1 h2
   obtain ⟨m1, m2⟩ := mul_small (a := iw) (b := ih) (by omega) i2 (by omega) i4
   cases h3 : ((n : Int) != iw * ih) with
   | true =>
    have hv : vld iw ih xs = false := by rw [hvl, h1, h2, h3]; rfl
    have hvH := Lib.hid hv
    have hH := Lib.hid h1
    have hH2 := Lib.hid h2
    clear h1 h2 hv hvl
    go_enter Tryz.func37, Tryz.ntmps37
    go_wp2_with fail
    refine (rwithin1 iw 1 16 true hH.out _).mono ?_
    rintro e w' ⟨rfl, rfl⟩
    go_wp2_with fail
    refine (rwithin1 ih 1 16 true hH2.out _).mono ?_
    rintro e w' ⟨rfl, rfl⟩
    go_wp2_with fail
    go_ret
    exact ⟨ret_bool hvH.out.symm, ((Below.refl _ _).alloc (Nat.le_refl _) _)⟩
   | false =>
    have hv : vld iw ih xs = allIn (-2147483648) 2147483648 xs := by rw [hvl, h1, h2, h3]; rfl
    have hvH := Lib.hid hv
    have hH := Lib.hid h1
    have hH2 := Lib.hid h2
    clear h1 h2 hv hvl
    go_enter Tryz.func37, Tryz.ntmps37
    go_wp2_with fail
    refine (rwithin1 iw 1 16 true hH.out _).mono ?_
    rintro e w' ⟨rfl, rfl⟩
    go_wp2_with fail
    refine (rwithin1 ih 1 16 true hH2.out _).mono ?_
    rintro e w' ⟨rfl, rfl⟩
    go_wp2_with fail
    have h3H := Lib.hid h3
    clear h3
    go_loop [3] (fun i => ∃ k : Nat, k ≤ n ∧ i = .int .i64 k ∧ allIn (-2147483648) 2147483648 (xs.take k) = true) (fun i => n - (intOf i).toNat)
    case atStart => exact ⟨0, Nat.zero_le _, rfl, by simp [allIn]⟩
    case round =>
     obtain ⟨k, hk, rfl, hall⟩ := hrel
     by_cases hlt : k < n
     ·rcases hr with h0 | ⟨b, o, rfl, hb, hc⟩
      ·exfalso; have := hn.out; rw [h0] at this; simp at this; omega
      have hlt' : k < xs.length := by have := hn.out; omega
      have hcell := hc k hlt'
      clear hc
      obtain ⟨x, hx⟩ : ∃ x, xs[k]?.getD 0 = x := ⟨_, rfl⟩
      rw [hx] at hcell
      have hs1 : x < -2147483648 ∨ 2147483648 < x → allIn (-2147483648) 2147483648 xs = false := fun h => allIn_false hlt' (by rw [hx]; exact h)
      have hs2 : -2147483648 ≤ x → x ≤ 2147483648 → allIn (-2147483648) 2147483648 (xs.take (k + 1)) = true := fun h1 h2 => allIn_succ hlt' hall (by rw [hx]; exact h1) (by rw [hx]; exact h2)
      have hs1H := Lib.hid hs1
      have hs2H := Lib.hid hs2
      clear hx hlt' hs1 hs2
      cases h4 : inR x (-2147483648) 2147483648 with
      | false =>
       have h4H := Lib.hid h4
       clear h4
       go_wp2_with fail
       refine (rwithin1 x _ _ false h4H.out _).mono ?_
       rintro e w' ⟨rfl, rfl⟩
       go_wp2_with fail
       go_ret
       exact ⟨ret_bool (by rw [hvH.out, hs1H.out (by have := h4H.out; simp [inR] at this; omega)]), ((Below.refl _ _).alloc (Nat.le_refl _) _)⟩
      | true =>
       have h4H := Lib.hid h4
       clear h4
       go_wp2_with fail
       refine (rwithin1 x _ _ true h4H.out _).mono ?_
       rintro e w' ⟨rfl, rfl⟩
       go_wp2_with fail
       go_round
       case rel => exact ⟨k + 1, by omega, by go_num, hs2H.out (inR_true.1 h4H.out).1 (inR_true.1 h4H.out).2⟩
       case measure => simp [intOf]; omega
     ·go_wp2
      go_ret
      exact ⟨ret_bool (by rw [hvH.out]; rw [List.take_of_length_le (by have := hn.out; omega)] at hall; exact hall.symm), ((Below.refl _ _).alloc (Nat.le_refl _) _)⟩
end Go.Proofs.YtekiemlniegddaaGreat
namespace Go.Proofs.YtekiemlniegddaaGreat
open Go Go.RowKit Go.Shelf
theorem jb_al {a w : World} (h : Below a.heap.size a w) (o : Obj) : Below a.heap.size a (w.alloc o) := h.alloc h.size o
/-- What a row of integers holds can be read. -/
theorem rowI_rd {W : World} {base : Nat} {a : Option Addr} {c n : Nat} {xs : List Int} (hn : xs.length = n) (h : W.ownsRow base 3 1 (.slice a n c) n (xs.map (Value.int .i64))) : Rd W.heap.size W a xs := by
 subst hn
 rcases h.2 with ⟨h1, h2⟩ | ⟨g, cap, cur, h1, _, hg, _⟩
 ·exact .inl (List.eq_nil_of_length_eq_zero h2)
 ·simp only [Value.slice.injEq, true_and] at h1
  obtain ⟨rfl, rfl⟩ := h1
  refine .inr ⟨g, 0, rfl, (Array.getElem?_eq_some_iff.1 hg).1, fun i hi => ?_⟩
  have := h.cellAt i (by omega)
  rw [Nat.zero_add, this]
  simp [hi]
theorem jrow_slice {W : World} {base : Nat} {e : TypeId} {size : Nat} {v : Value} {k : Nat} {xs : List Value} (h : W.ownsRow base e size v k xs) : ∃ a c, v = .slice a k c := by
 rcases h.2 with ⟨h1, h2⟩ | ⟨g, cap, cur, h1, _⟩
 ·exact ⟨none, 0, by rw [h1, h2]⟩
 ·exact ⟨_, _, h1⟩
theorem tmB {u w x : World} (h : Below u.heap.size u w) (g : Below w.heap.size w x) : Below u.heap.size u x := h.trans (g.mono h.size)
theorem newB (w : World) (t : TypeId) (cs : Array Value) : ∃ X, w.alloc (.cells cs t) = X ∧ Below w.heap.size w X ∧ Blk X w.heap.size t cs := ⟨_, rfl, jb_al (Below.refl _ w) _, Blk.new w t cs⟩
end Go.Proofs.YtekiemlniegddaaGreat
namespace Go.Proofs.YtekiemlniegddaaGreat
open Go Go.ChangeShapes Go.WideShapes Go.ChangeAt Go.RowKit Go.Joins Go.Deep
set_option maxRecDepth 100000
theorem tryOwn : ownKnob Tryz.prog.godebug = none := by kernel_rfl
theorem tryLaid : laidOutB Tryz.prog = true := by kernel_rfl
section
variable {H : Type} {enc : TypeId × Value → H}
theorem args_stay {W W' : World} {sp : Nat → Bool} (hb : Below W.heap.size W W') : ∀ {ts : List TypeId} {vs : List Value} {ds : List (DataW H)} {ps : List MemPlace},
  (ts.all fun t => Tryz.prog.readableRec t && decide (t < Tryz.prog.types.size)) = true → DataW.TrodAll enc Tryz.prog W 0 (fun _ => true) true ts vs ds ps → (∀ p ∈ ps, p.block < W.heap.size) → (∀ p ∈ ps, sp p.block = true) →
   DataW.TrodAll enc Tryz.prog W' 0 sp true ts vs ds ps := by
 intro ts
 induction ts with
 | nil =>
  intro vs ds ps _ h _ _
  obtain ⟨rfl, rfl, rfl⟩ := trodAll_nil h
  exact trodAll_mk0
 | cons t ts ih =>
  intro vs ds ps ht h hlt hsp
  obtain ⟨v, vs', d, ds', p, q, rfl, rfl, rfl, h0, h1⟩ := trodAll_cons h
  rw [List.all_cons, Bool.and_eq_true, Bool.and_eq_true, decide_eq_true_eq] at ht
  refine trodAll_cons_mk (WideElems.Trod_stays tryLaid ht.1.1 ht.1.2 h0 (fun x hx => hb.same (hlt x (List.mem_append_left _ hx))) (fun x hx => hsp x (List.mem_append_left _ hx))) ?_
  exact ih ht.2 h1 (fun x hx => hlt x (List.mem_append_right _ hx)) (fun x hx => hsp x (List.mem_append_right _ hx))
theorem wt_at {P : Program} {ts : List TypeId} {ds : List (DataW H)} (h : (DataW.weightsEach P ts ds).all (· ≤ reachBytes) = true) {j : Nat} {t : TypeId} {d : DataW H} (ht : ts[j]? = some t) (hd : ds[j]? = some d) :
  ∀ n ∈ d.weights P t, n ≤ reachBytes := fun n hn => by
 have := List.all_eq_true.1 h n (DataW.weights_mem_each ht hd n hn)
 simpa using this
/-- A slice of ints in a field. -/
theorem open_row {W : World} {fuel : Nat} {v : Value} {y : DataW H × List MemPlace} (h : DataW.trod enc Tryz.prog W 0 (fun _ => true) true fuel 30 [v] = some y) (hwt : ∀ n ∈ y.1.weights Tryz.prog 30, n ≤ reachBytes) :
  ∃ (a : Option Addr) (n c : Nat) (xs : List Int), v = .slice a n c ∧ Hid (xs.length = n) ∧ Rd W.heap.size W a xs ∧ Hid (a = none → n = 0 ∧ c = 0) ∧ n * 8 ≤ 140737488355328 ∧ (∀ x ∈ xs, (Lit.int .i64 x).wf = true) := by
 rcases open_ints Tryz.underlying30 Tryz.underlying3 (by kernel_rfl) h with ⟨h1, h2⟩ | ⟨a, len, cap, zs, h1, _, hl, hm, hz, hx, hc, hwf⟩
 ·obtain rfl : v = .slice none 0 0 := by simpa using h1
  exact ⟨none, 0, 0, [], rfl, Lib.hid rfl, .inl rfl, Lib.hid fun _ => ⟨rfl, rfl⟩, by decide, by simp⟩
 ·obtain rfl : v = .slice (some a) len cap := by simpa using h1
  simp only [if_true] at hz
  refine ⟨some a, len, cap, zs.take len, rfl, Lib.hid (by simp; omega), ?_, Lib.hid (by simp), ?_, fun x hx => hwf x (List.mem_of_mem_take hx)⟩
  ·by_cases h0 : 0 < zs.length
   ·obtain ⟨b, off, rfl, hcb⟩ := ints_at hc h0
    refine .inr ⟨b, off, rfl, World.block_lt_of_cell? W _ (hcb 0 h0), fun i hi => ?_⟩
    simp only [List.length_take] at hi
    rw [hcb i (by omega)]
    simp only [List.getElem?_take, List.getD]
    rw [if_pos (by omega)]
   ·left
    simp; omega
  ·subst hx
   have := hwt ((lits (H := H) .i64 (zs.take len)).length * 8 + (lits (H := H) .i64 (zs.drop len)).length * 8) (by
    simp only [DataW.weights, Tryz.underlying30]
    rw [show Tryz.prog.bytesOf 3 = 8 from by kernel_rfl, Nat.add_mul]
    exact List.mem_cons_self)
   simp only [lits, List.length_map, List.length_take] at this
   unfold reachBytes at this
   omega
/-- An image. -/
theorem open_im {W : World} {base : Nat} {v : Value} {d : DataW H} {p : List MemPlace} (hv : Value.okWide Tryz.prog W .any base 32 v) (h : DataW.Trod enc Tryz.prog W 0 (fun _ => true) true 32 v d p)
  (hwt : ∀ n ∈ d.weights Tryz.prog 32, n ≤ reachBytes) :
  ∃ (iw ih : Int) (a : Option Addr) (n c : Nat) (xs : List Int), v = imv iw ih a n c ∧ Hid (xs.length = n) ∧ Rd W.heap.size W a xs ∧ Hid (a = none → n = 0 ∧ c = 0) ∧ n * 8 ≤ 140737488355328 ∧ (∀ x ∈ xs, (Lit.int .i64 x).wf = true) ∧
   (Lit.int .i64 iw).wf = true ∧ (Lit.int .i64 ih).wf = true := by
 obtain ⟨v0, v1, v2, y0, y1, y2, n, rfl, rfl, rfl, h0, h1, h2⟩ := open_agg3 Tryz.underlying32 (by kernel_rfl) (by kernel_rfl) hv h
 obtain ⟨iw, e0, _, w0⟩ := DataW.trod_int Tryz.underlying3 h0
 obtain ⟨ih, e1, _, w1⟩ := DataW.trod_int Tryz.underlying3 h1
 obtain rfl : v0 = .int .i64 iw := by simpa using e0
 obtain rfl : v1 = .int .i64 ih := by simpa using e1
 obtain ⟨a, m, c, xs, rfl, r⟩ := open_row h2 (fun n hn => hwt n (by
  simp only [DataW.weights, Tryz.underlying32]
  exact DataW.weights_mem_each (j := 2) rfl rfl n hn))
 exact ⟨iw, ih, a, m, c, xs, rfl, r.1, r.2.1, r.2.2.1, r.2.2.2.1, r.2.2.2.2, w0, w1⟩
theorem field_int {W : World} {fuel : Nat} {v : Value} {y : DataW H × List MemPlace} (h : DataW.trod enc Tryz.prog W 0 (fun _ => true) true fuel 3 [v] = some y) : ∃ n, v = .int .i64 n ∧ (Lit.int .i64 n).wf = true := by
 obtain ⟨n, e, _, w⟩ := DataW.trod_int Tryz.underlying3 h
 exact ⟨n, by simpa using e, w⟩
/-- The row's end, where the law has returned true and nothing that lay has turned. -/
theorem post_true {f : Func} {s : ChangeSpec} {W W' : World} {args : Array Value} {ds gs : List (DataW H)} {before : List MemPlace} (hvars : s.vars = [])
  (hargs : (f.params.toList.all fun t => Tryz.prog.readableRec t && decide (t < Tryz.prog.types.size)) = true) (hres : f.resultTypes = #[4])
  (hW : DataW.Whole enc Tryz.prog f.params.toList s.vars false W args.toList ds gs before) (hfn : (s.fn H ds).results = [.lit (.bool true)] ∧ (s.fn H ds).args = ds ∧ (s.fn H ds).vars = []) (hb : Below W.heap.size W W') :
  s.post enc Tryz.prog f false true false false W args (.bool true) W' := by
 have hlt := hW.lt
 have hW' := hW
 obtain ⟨p, q, hA, hV, rfl, hfz, hnd⟩ := hW'
 rw [hvars] at hV
 obtain ⟨rfl, rfl⟩ := trodVars_none hV
 have hP : ∀ sp : Nat → Bool, (∀ x ∈ p, sp x.block = true) → DataW.TrodAll enc Tryz.prog W' 0 sp true f.params.toList args.toList (s.fn H (ds ++ [])).args p := fun sp hsp => by
  rw [List.append_nil, hfn.2.1]
  exact args_stay hb hargs hA (fun x hx => hlt x (by simp [hx])) hsp
 have hR : ∀ (b : Nat) (sp : Nat → Bool) (hd : Bool), DataW.TrodAll enc Tryz.prog W' b sp hd f.resultTypes.toList ((Value.bool true).resultList f.resultTypes.size) (s.fn H (ds ++ [])).results [] := fun _ _ _ => by
  rw [hres, List.append_nil, hfn.1]
  exact trodAll_cons_mk (shut_bool Tryz.underlying4 _) trodAll_mk0
 have hU : ∀ sp : Nat → Bool, DataW.TrodVars enc Tryz.prog W' sp s.vars (s.fn H (ds ++ [])).vars [] := fun _ => by
  rw [List.append_nil, hvars, hfn.2.2]
  rfl
 refine ⟨ds, [], p ++ [], [], p, [], hW, hR _ _ _, hP _ (fun x hx => by simpa using hlt x (by simp [hx])), hU _, World.keptBut_mono (fun x hx => ⟨hx, .inr (by simpa using hx)⟩) (hb.frame (· ∈ p ++ [])), fun _ => ?_⟩
 refine ⟨ok_one hres rfl (okWide_bool_mk Tryz.underlying4 _), _, _, ([] ++ p) ++ [], ⟨[] ++ p, [], trodAll_append (hP _ (fun _ _ => rfl)) (hR _ _ _), hU _, rfl, ?_, ?_⟩, ?_⟩
 ·intro b off hp
  rw [hb.frozen (p := ⟨b, off, none⟩) (hlt (.cell b off) (by simpa using hp))]
  exact hfz b off (by simpa using hp)
 ·intro ha
  simpa using hnd ha
 ·intro x hx _
  simpa using hx
end
end Go.Proofs.YtekiemlniegddaaGreat
namespace Go.Proofs.YtekiemlniegddaaGreat
open Go Go.RowKit Go.Shelf
attribute [local go_sem] Oper.semAt_some
/-- The coordinates of the place with an index. -/
def cX (pw : Nat) (i : Nat) : Int := ((i % pw : Nat) : Int)
def cY (pw : Nat) (i : Nat) : Int := ((i / pw : Nat) : Int)
/-- What yield is handed for the place with an index. -/
def enc2 (pw ph : Nat) (i : Fin (pw * ph)) : Array Value := #[.int .i64 (cX pw i.val), .int .i64 (cY pw i.val)]
theorem enc2_at (pw ph x y : Nat) (hx : x < pw) (h : y * pw + x < pw * ph) : enc2 pw ph ⟨y * pw + x, h⟩ = #[.int .i64 (x : Int), .int .i64 (y : Int)] := by
 have e1 : (y * pw + x) % pw = x := by rw [Nat.mul_comm, Nat.mul_add_mod, Nat.mod_eq_of_lt hx]
 have e2 : (y * pw + x) / pw = y := by rw [Nat.mul_comm, Nat.mul_add_div (by omega), Nat.div_eq_of_lt hx]; omega
 simp only [enc2, cX, cY, e1, e2]
theorem idx_lt {pw ph x y : Nat} (hx : x < pw) (hy : y < ph) : y * pw + x < pw * ph := by
 have : y * pw + pw ≤ ph * pw := by
  have := Nat.mul_le_mul_right pw (show y + 1 ≤ ph by omega)
  rw [Nat.add_mul] at this; omega
 rw [Nat.mul_comm pw ph]; omega
theorem places_any (pw ph : Int) (w : World) :
  Calls Tryz.prog 93 #[.int .i64 pw, .int .i64 ph] w fun e w' => e = .returned (.func (.func 141) #[] #[.pointer (some ⟨w.heap.size + 1, 0, none⟩), .pointer (some ⟨w.heap.size, 0, none⟩)]) ∧ (w.alloc (.cells #[.int .i64 pw] 3)).alloc (.cells #[.int .i64 ph] 3) = w' := by
 go_enter Tryz.func93, Tryz.ntmps93
 go_wp2
 go_ret
 exact ⟨rfl, rfl⟩
set_option maxRecDepth 100000 in
set_option maxHeartbeats 1000000 in
theorem places1_in (F : Fence) (n : Nat) (hF : F.fn 141) (hro : F.round = none) (hn : 1 ≤ n) (l bh bw : Nat) (pw ph : Nat) (hw : pw ≤ 1000) (hh : ph ≤ 1000) (J Jx : List (Fin (pw * ph)) → World → Prop)
  (hY : ∀ pre x W, J pre W → pre.length < pw * ph → YieldAt F (n - 1) Tryz.prog l (enc2 pw ph x) W fun e W' =>
   (e = .returned (.bool true) ∧ J (pre ++ [x]) W' ∧ W'.heap[bw]? = W.heap[bw]?) ∨ (e = .returned (.bool false) ∧ Jx (pre ++ [x]) W'))
  (W : World) (hch : W.cell? ⟨bh, 0, none⟩ = some (.int .i64 ph)) (hcw : W.cell? ⟨bw, 0, none⟩ = some (.int .i64 pw)) (h0 : J [] W) :
  CallsIn F n Tryz.prog 141 #[.func (.yield l) #[] #[], .pointer (some ⟨bh, 0, none⟩), .pointer (some ⟨bw, 0, none⟩)] W fun e W' => (∃ v, e = .returned v) ∧
   ((∃ ys : List (Fin (pw * ph)), ys.map Fin.val = List.range (pw * ph) ∧ J ys W') ∨ (∃ pre : List (Fin (pw * ph)), pre.map Fin.val = List.range pre.length ∧ Jx pre W')) := by
 refine callsIn_of_wp Tryz.func141 rfl hF ?_ hro
 simp only [Tryz.ntmps141, List.size_toArray, List.length_cons, List.length_nil, Nat.reduceAdd, Nat.reduceSub, Array.replicate_succ, Array.replicate_zero, List.push_toArray, List.append_toArray, List.nil_append, List.cons_append]
 gi_wp2
 gi_loopw [4, 5, 7, 8, 9, 10, 11, 12, 13, 14, 15, 16, 17, 18, 19, 20] (fun _ _ i _ _ _ _ _ _ _ _ _ _ _ _ _ wr => ∃ (y : Nat) (pre : List (Fin (pw * ph))), y ≤ ph ∧ i = .int .i64 y ∧ pre.map Fin.val = List.range (y * pw) ∧ J pre wr ∧ wr.heap[bw]? = W.heap[bw]?)
  (fun _ _ i _ _ _ _ _ _ _ _ _ _ _ _ _ _ => ph - (intOf i).toNat)
 case atStart =>
  exact ⟨0, [], by omega, rfl, by simp, h0, rfl⟩
 case round =>
  obtain ⟨y, pre, hy, rfl, hp, hJ, hB⟩ := hrel
  by_cases hlt : y < ph
  ·have hcw' := (World.cell?_of_block (a := ⟨bw, 0, none⟩) hB).trans hcw
   have hpH := Lib.hid hp
   clear hp
   gi_wp2
   obtain ⟨wo, rfl⟩ : ∃ wo : World, wo = wr := ⟨_, rfl⟩
   gi_loopw [5, 11] (fun _ i wr => ∃ (x : Nat) (pre : List (Fin (pw * ph))), x ≤ pw ∧ i = .int .i64 x ∧ Hid (pre.map Fin.val = List.range (y * pw + x)) ∧ J pre wr ∧ wr.heap[bw]? = W.heap[bw]?)
    (fun _ i _ => pw - (intOf i).toNat)
   case atStart =>
    exact ⟨0, pre, by omega, rfl, hpH, hJ, hB⟩
   case round =>
    obtain ⟨x, pre2, hx, rfl, hp2, hJ2, hB2⟩ := hrel
    by_cases hltx : x < pw
    ·have hi := idx_lt hltx hlt
     have hlen : pre2.length < pw * ph := by
      have := congrArg List.length hp2.out
      simp at this; omega
     obtain ⟨fn, tmps, assign, body, hyy, hR⟩ := hY pre2 ⟨y * pw + x, hi⟩ wr hJ2 hlen
     rw [enc2_at pw ph x y hltx hi] at hyy
     gi_wp2
     refine hR.mono ?_
     rintro e W3 (⟨rfl, hJ3, hk3⟩ | ⟨rfl, hJx3⟩)
     ·gi_wp2
      go_roundw
      case rel => exact ⟨x + 1, pre2 ++ [⟨y * pw + x, hi⟩], by omega, by go_num, Lib.hid (by rw [List.map_append, hp2.out, ← Nat.add_assoc, List.range_succ]; rfl), hJ3, hk3.trans hB2⟩
      case measure => simp [intOf]; omega
     ·gi_wp2
      refine bodyPost_ret (results_none rfl _ _ _) rfl ?_
      refine ⟨⟨_, rfl⟩, .inr ⟨pre2 ++ [⟨y * pw + x, hi⟩], ?_, hJx3⟩⟩
      have hl := congrArg List.length hp2.out
      simp at hl
      rw [List.map_append, hp2.out, List.length_append, hl]
      simp [List.range_succ]
    ·gi_wp2
     go_roundw
     case rel =>
      refine ⟨y + 1, pre2, by omega, by go_num, ?_, hJ2, hB2⟩
      have : x = pw := by omega
      rw [hp2.out, this, Nat.add_mul]; simp
     case measure => simp [intOf]; omega
  ·gi_wp2
   go_end0
   refine ⟨⟨_, rfl⟩, .inl ⟨pre, ?_, hJ⟩⟩
   have : y = ph := by omega
   rw [hp, this, Nat.mul_comm]
/-- The value that 'places' returns is an iterator over all places, in order. -/
theorem places_stopsK (F : Fence) (n : Nat) (hF : F.fn 141) (hro : F.round = none) (hn : 1 ≤ n) (bh bw : Nat) (pw ph : Nat) (hw : pw ≤ 1000) (hh : ph ≤ 1000) (w : World) (hb1 : bh < w.heap.size) (hb2 : bw < w.heap.size)
  (hch : w.cell? ⟨bh, 0, none⟩ = some (.int .i64 ph)) (hcw : w.cell? ⟨bw, 0, none⟩ = some (.int .i64 pw)) :
  SeqStopsK F n Tryz.prog 141 #[.pointer (some ⟨bh, 0, none⟩), .pointer (some ⟨bw, 0, none⟩)] (enc2 pw ph) (fun A B => B.heap[bw]? = A.heap[bw]?) (fun ys => ys.map Fin.val = List.range (pw * ph)) (fun pre => pre.map Fin.val = List.range pre.length) (pw * ph) w := fun l J Jx W hW _ _ hY h0 =>
 places1_in F n hF hro hn l bh bw pw ph hw hh J Jx hY W ((hW.cell (p := ⟨bh, 0, none⟩) hb1).trans hch) ((hW.cell (p := ⟨bw, 0, none⟩) hb2).trans hcw) h0
theorem info_int : (Tryz.prog.info? 3).map (fun i => (i.zero, i.size, i.bytes)) = some (some (.int .i64 0), 1, 8) := by kernel_rfl
/-- The values of an image that a function makes. -/
def img (pw ph : Nat) (g : Int → Int → Int) : List Int := (List.range (pw * ph)).map fun i => clamp (g (cX pw i) (cY pw i)) (-2147483648) 2147483648
theorem img_length (pw ph : Nat) (g : Int → Int → Int) : (img pw ph g).length = pw * ph := by simp [img]
def imgPart (pw ph : Nat) (g : Int → Int → Int) (pre : List (Fin (pw * ph))) : List Int := pre.map fun i => clamp (g (cX pw i.val) (cY pw i.val)) (-2147483648) 2147483648
theorem imgPart_all {pw ph : Nat} {g : Int → Int → Int} {ys : List (Fin (pw * ph))} (h : ys.map Fin.val = List.range (pw * ph)) : imgPart pw ph g ys = img pw ph g := by
 unfold imgPart img
 rw [← h, List.map_map]
 rfl
/-- A value of an image type whose pixels lie in new memory of the call's own, from block B on. -/
def OwnIm (B : Nat) (W : World) (v : Value) (iw ih : Int) (xs : List Int) : Prop :=
 ∃ s, v = .agg #[.int .i64 iw, .int .i64 ih, s] ∧ W.ownsRow B 3 1 s xs.length (xs.map (Value.int .i64))
theorem row_len {W : World} {base : Nat} {e : TypeId} {size : Nat} {v : Value} {k m : Nat} {xs : List Value} (hk : k = m) (h : W.ownsRow base e size v k xs) : W.ownsRow base e size v m xs := hk ▸ h
set_option maxRecDepth 100000 in
set_option maxHeartbeats 2000000 in
theorem made_any (pw ph : Nat) (h1 : 1 ≤ pw) (h2 : pw ≤ 16) (h3 : 1 ≤ ph) (h4 : ph ≤ 16) (fo : Nat) (lb : Array Value) (eg : ∀ args w, (callFunc fo args).run Tryz.prog w = .ok (.enter fo args) w) (g : Int → Int → Int) (w : World)
  (hof : ∀ (x y : Nat) (W : World), x < pw → y < ph → Below w.heap.size w W → Calls Tryz.prog fo (#[.int .i64 x, .int .i64 y] ++ lb) W fun e W' => e = .returned (.int .i64 (g x y)) ∧ Below W.heap.size W W') :
  Calls Tryz.prog 83 #[.int .i64 pw, .int .i64 ph, .func (.func fo) #[] lb] w fun e W' => ∃ v, e = .returned v ∧ OwnIm w.heap.size W' v pw ph (img pw ph g) ∧ Below w.heap.size w W' := by
 obtain ⟨i0, hi, hz0, hz1, hz2⟩ := info_parts info_int
 obtain ⟨m1, m2⟩ := mul_small (a := (pw : Int)) (b := (ph : Int)) (m := 16) (n := 16) (by omega) (by omega) (by omega) (by omega)
 refine (callsIn_wide (n := 10)).1 ?_
 refine callsIn_of_wp_marks Tryz.func83 rfl trivial ?_
 simp only [Tryz.ntmps83, List.size_toArray, List.length_cons, List.length_nil, Nat.reduceAdd, Nat.reduceSub, Array.replicate_succ, Array.replicate_zero, List.push_toArray, List.append_toArray, List.nil_append, List.cons_append]
 gi_wp2_with (gi_at_make; refine wpListIn_make_own _ rfl _ _ 30 rfl w.heap.size 3 i0 (.int .i64 0) 1 Tryz.underlying30 hi hz0 hz1 .i64 .i64 (pw * ph : Int) (pw * ph) rfl rfl (by simp) (by rw [hz2]; omega) (by unfold maxLen; omega) (by simp <;> omega) ?_; intro w1 hown hg)
 refine ⟨trivial, (callsIn_wide.2 (places_any _ _ _)).mono ?_⟩
 rintro e w' ⟨rfl, rfl⟩
 gi_wp2_with fail
 -- the world in which the loop begins
 have hsz1 := hg.size
 have hrl := hown.lt _ rfl
 have k5 := (((Blk.new w 155 #[.func (.func fo) #[] lb]).alloc (.cells #[.int .i64 0, .int .i64 0, .slice none 0 0] 32)).kept hg (by simp))
 have k6 := ((Blk.new (w.alloc (.cells #[.func (.func fo) #[] lb] 155)) 32 #[.int .i64 0, .int .i64 0, .slice none 0 0]).kept hg (by simp))
 have hb1 : Below w.heap.size w w1 := (((Below.refl _ w).alloc (Nat.le_refl _) _).alloc (by simp) _).grown hg (by simp <;> omega) (fun k e => by cases e)
 simp only [World.size_alloc] at hsz1 hrl k6 hown
 obtain ⟨M, hM⟩ : ∃ M, w1.heap.size = M := ⟨_, rfl⟩
 have kM := Blk.new w1 32 #[.int .i64 pw, .int .i64 ph, .slice (some ⟨w.heap.size + 1 + 1, 0, none⟩) 0 (pw * ph)]
 have kw := Blk.new (w1.alloc (.cells #[.int .i64 pw, .int .i64 ph, .slice (some ⟨w.heap.size + 1 + 1, 0, none⟩) 0 (pw * ph)] 32)) 3 #[.int .i64 pw]
 have kh := Blk.new ((w1.alloc (.cells #[.int .i64 pw, .int .i64 ph, .slice (some ⟨w.heap.size + 1 + 1, 0, none⟩) 0 (pw * ph)] 32)).alloc (.cells #[.int .i64 pw] 3)) 3 #[.int .i64 ph]
 have hB3 := ((hb1.alloc (by omega) (.cells #[.int .i64 pw, .int .i64 ph, .slice (some ⟨w.heap.size + 1 + 1, 0, none⟩) 0 (pw * ph)] 32)).alloc (by simp <;> omega) (.cells #[.int .i64 pw] 3)).alloc (by simp <;> omega) (.cells #[.int .i64 ph] 3)
 have k5' := ((k5.alloc (.cells #[.int .i64 pw, .int .i64 ph, .slice (some ⟨w.heap.size + 1 + 1, 0, none⟩) 0 (pw * ph)] 32)).alloc (.cells #[.int .i64 pw] 3)).alloc (.cells #[.int .i64 ph] 3)
 have k6' := ((k6.alloc (.cells #[.int .i64 pw, .int .i64 ph, .slice (some ⟨w.heap.size + 1 + 1, 0, none⟩) 0 (pw * ph)] 32)).alloc (.cells #[.int .i64 pw] 3)).alloc (.cells #[.int .i64 ph] 3)
 have kM' := (kM.alloc (.cells #[.int .i64 pw] 3)).alloc (.cells #[.int .i64 ph] 3)
 have kw' := kw.alloc (.cells #[.int .i64 ph] 3)
 have row' := ((hown.alloc (.cells #[.int .i64 pw, .int .i64 ph, .slice (some ⟨w.heap.size + 1 + 1, 0, none⟩) 0 (pw * ph)] 32)).alloc (.cells #[.int .i64 pw] 3)).alloc (.cells #[.int .i64 ph] 3)
 have hsz : (((w1.alloc (.cells #[.int .i64 pw, .int .i64 ph, .slice (some ⟨w.heap.size + 1 + 1, 0, none⟩) 0 (pw * ph)] 32)).alloc (.cells #[.int .i64 pw] 3)).alloc (.cells #[.int .i64 ph] 3)).heap.size = M + 3 := by simp <;> omega
 simp only [World.size_alloc, hM] at kM' kw' kh hrl
 clear k5 k6 kM kw hown hg hb1 hsz1
 rw [hM]
 obtain ⟨W0, hW0⟩ : ∃ W0, ((w1.alloc (.cells #[.int .i64 pw, .int .i64 ph, .slice (some ⟨w.heap.size + 1 + 1, 0, none⟩) 0 (pw * ph)] 32)).alloc (.cells #[.int .i64 pw] 3)).alloc (.cells #[.int .i64 ph] 3) = W0 := ⟨_, rfl⟩
 rw [hW0] at k5' k6' kM' kw' kh row' hB3 hsz ⊢
 clear hW0
 refine wpIn_rangeFunc_ownG (n := 10) rfl (by omega) (gf := 141) (lb := #[.pointer (some ⟨M + 1 + 1, 0, none⟩), .pointer (some ⟨M + 1, 0, none⟩)]) rfl trivial (enters_of Tryz.func141 (by kernel_rfl) rfl)
  (Kp := fun A B => B.heap[M + 1]? = A.heap[M + 1]?)
  (places_stopsK Fence.wide 9 trivial rfl (by omega) (M + 1 + 1) (M + 1) pw ph (by omega) (by omega) W0 (by omega) (by omega) (kh.cell rfl) (kw'.cell rfl)) (fun h k => k.trans h) (fun W l o o' hl _ _ _ => World.putObj_heap_other (by omega)) (Below.refl _ _) (fun _ => rfl)
  (fun pre W => ((Blk W M 32 #[.int .i64 pw, .int .i64 ph, .slice (some ⟨w.heap.size + 1 + 1, 0, none⟩) pre.length (pw * ph)] ∧ W.ownsRow w.heap.size 3 1 (.slice (some ⟨w.heap.size + 1 + 1, 0, none⟩) pre.length (pw * ph)) pre.length ((imgPart pw ph g pre).map (Value.int .i64))) ∧ Blk W w.heap.size 155 #[.func (.func fo) #[] lb] ∧ Blk W (w.heap.size + 1) 32 #[.int .i64 0, .int .i64 0, .slice none 0 0] ∧ M + 3 ≤ W.heap.size) ∧ Below w.heap.size w W)
  (fun _ _ _ => False)
  (OwnFrom.and (fun s A B row hs hg hr => ⟨⟨blk_keeps hs.1.1 hg (fun r e => (hr r e).2), row_keeps hs.1.2 hg (fun r e => (hr r e).2)⟩, blk_keeps hs.2.1 hg (fun r e => (hr r e).2), blk_keeps hs.2.2.1 hg (fun r e => (hr r e).2), Nat.le_trans hs.2.2.2 hg.size⟩) (ownFrom_below (Nat.le_refl _) (by omega)))
  (fun _ _ _ _ _ hs _ _ => hs)
  ⟨⟨⟨kM', row'⟩, k5', k6', by omega⟩, hB3⟩
  (fun x => { tmps := #[.int .i64 pw, .int .i64 ph, .func (.func fo) #[] lb, undef, undef, .pointer (some ⟨w.heap.size, 0, none⟩), .pointer (some ⟨w.heap.size + 1, 0, none⟩), .pointer (some ⟨M, 0, none⟩), .int .i64 (cX pw x.val), .int .i64 (cY pw x.val), .int .i64 pw, .int .i64 ph, .int .i64 pw, .int .i64 ph, .int .i64 (pw * ph), .slice (some ⟨w.heap.size + 1 + 1, 0, none⟩) 0 (pw * ph), .agg #[.int .i64 pw, .int .i64 ph, .slice (some ⟨w.heap.size + 1 + 1, 0, none⟩) 0 (pw * ph)], .int .i64 pw, .int .i64 ph, .func (.func 141) #[] #[.pointer (some ⟨M + 1 + 1, 0, none⟩), .pointer (some ⟨M + 1, 0, none⟩)], .int .i64 (cX pw x.val), .int .i64 (cY pw x.val), undef, undef, undef, undef, undef, undef, undef, undef, undef, undef, undef], defers := [] }) ?assign ?body ?done ?stop
 case assign =>
  intro l x W K hK
  simp only [enc2]
  gi_wp2
  exact hK
 case body =>
  rintro l pre ⟨i, hi'⟩ W ⟨⟨⟨kM1, row1⟩, k51, k61, hs1⟩, hB1⟩ hlt
  have hx : i % pw < pw := Nat.mod_lt _ (by omega)
  have hy : i / pw < ph := Nat.div_lt_of_lt_mul hi'
  have hof1 := Lib.hid (fun W h => hof (i % pw) (i / pw) W hx hy h)
  have ecX : cX pw i = ((i % pw : Nat) : Int) := rfl
  have ecY : cY pw i = ((i / pw : Nat) : Int) := rfl
  rw [← ecX, ← ecY] at hof1
  have hgrow : imgPart pw ph g (pre ++ [⟨i, hi'⟩]) = imgPart pw ph g pre ++ [clamp (g (cX pw i) (cY pw i)) (-2147483648) 2147483648] := by simp [imgPart]
  have hgrowH := Lib.hid hgrow
  clear hof hgrow
  clear ecX ecY
  dsimp only
  generalize cX pw i = xx at *
  generalize cY pw i = yy at *
  have hroom : pre.length + 1 ≤ pw * ph := hlt
  gi_wp2_with fail
  have hS : W.grownBy W.drew (some (w.heap.size + 1 + 1)) := ⟨rfl, rfl, rfl, Nat.le_refl _, fun _ _ _ => rfl⟩
  refine round_region (fun W' => W.grownBy W' (some (w.heap.size + 1 + 1))) 10 11 l _ (by kernel_rfl) (by kernel_rfl) (fun ⟨_, _, h⟩ => h) rfl ?_
  simp only [Array.replicate_succ, Array.replicate_zero, List.push_toArray, List.nil_append, List.cons_append]
  refine tkz 0 rfl hS (fun w' hS' => by go_simp; rfl) ?_
  simp only [nrz]
  refine tkz 1 (v := ?v1) rfl hS (fun w' hS' => ?hy1) ?rest1
  case hy1 =>
   have c1 := (kM1.kept hS' (by simp <;> omega)).cell (i := 2) rfl
   go_simp
   rfl
  simp only [nrz]
  refine tkz 2 (v := ?v2) rfl hS (fun w' hS' => ?hy2) ?rest2
  case hy2 =>
   have c1 := (k51.kept hS' (by simp <;> omega)).cell (i := 0) rfl
   go_simp
   rfl
  simp only [nrz]
  refine tkz 3 rfl hS (fun w' hS' => by go_simp; rfl) ?_
  simp only [nrz]
  refine tkz 4 rfl hS (fun w' hS' => by go_simp; rfl) ?_
  simp only [nrz]
  refine step_op 5 (by kernel_rfl) rfl (fun K hK => ?_)
  rw [if_pos (by rfl)]
  go_simp
  refine (hof1.out W.drew (hB1.trans ((Below.refl _ W).drew.mono hB1.size))).mono ?_
  rintro e W1 ⟨rfl, hb1⟩
  have hb2 : Below W.heap.size W W1 := (Below.refl _ W).drew.trans hb1
  have hS1 : W.grownBy W1 (some (w.heap.size + 1 + 1)) := grown_of_below hb2 _
  refine hK.out _ _ (fun _ => hS1) ?_
  clear hK K
  simp only [Act.put, nrz]
  refine step_op 6 (by kernel_rfl) rfl (fun K hK => ?_)
  rw [if_pos (by rfl)]
  go_simp
  refine (value_any _ _).mono ?_
  rintro e W2 ⟨rfl, rfl⟩
  refine hK.out _ _ (fun _ => hS1) ?_
  clear hK K
  simp only [Act.put, nrz]
  generalize clamp (g xx yy) (-2147483648) 2147483648 = z at *
  refine step_op 7 (by kernel_rfl) rfl (fun K hK => ?_)
  rw [if_pos (by rfl)]
  go_simp
  have hb3 : Below W.heap.size W (W1.alloc (.cells #[.int .i64 z] 3)) := hb2.alloc hb2.size _
  refine hK.out _ _ (fun _ => grown_of_below hb3 _) ?_
  clear hK K
  simp only [Act.put, nrz]
  refine step_op 8 (by kernel_rfl) rfl (fun K hK => ?_)
  refine step_append_fits rfl (.tmp 23) (.tmp 29) 30 rfl w.heap.size 3 i0 1 Tryz.underlying30 hi hz1 (w.heap.size + 1 + 1) pre.length (pw * ph) ((imgPart pw ph g pre).map (Value.int .i64)) rfl (row_below row1 hb3) ⟨W1.heap.size, 0, none⟩ 1 1 [.int .i64 z] rfl rfl (cell_one_new _ _ _) (by simp [Value.oneCell']) hroom ?_
  intro W3 hown3 hg3
  have hgA : W.grownBy W3 (some (w.heap.size + 1 + 1)) := grown_trans (grown_of_below hb3 _) hg3
  refine hK.out _ _ (fun _ => hgA) ?_
  clear hK K
  simp only [Act.put, nrz]
  refine tkz 9 rfl hgA (fun w' hS' => by go_simp; rfl) ?_
  simp only [nrz]
  have kM3 := kM1.kept hgA (by simp <;> omega)
  have cM3 := kM3.cell (i := 2) rfl
  have fM3 := kM3.frozen 2
  refine step_op 10 (by kernel_rfl) rfl (fun K hK => ?_)
  rw [if_pos (by rfl)]
  go_simp
  refine hK.out _ _ (fun h => absurd h (by omega)) ?_
  clear hK K
  refine done_ops (by kernel_rfl) ?_
  have hgs : W.heap.size ≤ W3.heap.size := hgA.size
  refine ⟨((others_of_row row1 hgA).trans (KeepsOthers.setCell _ _ _)).from _, (Below.heap_setCell _ _ _ _ (by simp)).trans (hgA.block _ (by omega) (by simp <;> omega)), ⟨⟨?_, ?_⟩, ?_, ?_, ?_⟩, ?_⟩
  ·have := kM3.set 2 (.slice (some ⟨w.heap.size + 1 + 1, 0, none⟩) (pre.length + 1) (pw * ph))
   simpa using this
  ·have := row_setCell hown3 (a := ⟨M, 2, none⟩) (by simp [Value.ownBlock] <;> omega) (.slice (some ⟨w.heap.size + 1 + 1, 0, none⟩) (pre.length + 1) (pw * ph))
   rw [hgrowH.out]
   simpa using this
  ·exact (k51.kept hgA (by simp <;> omega)).other (by simp <;> omega) _
  ·exact (k61.kept hgA (by simp <;> omega)).other (by simp <;> omega) _
  ·simp [World.setCell]; omega
  ·exact (hB1.trans (below_of_row (n := w.heap.size) row1 hgA (Nat.le_refl _) hB1.size)).setCell (p := ⟨M, 2, none⟩) (by simp <;> omega) _
 case done =>
  rintro D ys W hD hys ⟨⟨⟨kM1, row1⟩, k51, k61, hs1⟩, hB1⟩ hK
  obtain ⟨c0, c1, c2⟩ := cz3 kM1
  obtain ⟨d0, d1, d2⟩ := cz3 k61
  have f0 := k61.frozen 0
  have f1 := k61.frozen 1
  have f2 := k61.frozen 2
  gi_wp2
  have hD1 : w.heap.size + 1 ≠ D := by omega
  have hKf : (((W.setCell ⟨w.heap.size + 1, 0, none⟩ (.int .i64 pw)).setCell ⟨w.heap.size + 1, 1, none⟩ (.int .i64 ph)).setCell ⟨w.heap.size + 1, 2, none⟩ (.slice (some ⟨w.heap.size + 1 + 1, 0, none⟩) ys.length (pw * ph))).heap[D]? = some (.deferred (some [])) :=
   (Below.heap_setCell _ _ _ _ (fun e => hD1 e.symm)).trans ((Below.heap_setCell _ _ _ _ (fun e => hD1 e.symm)).trans ((Below.heap_setCell _ _ _ _ (fun e => hD1 e.symm)).trans hK))
  have kf := (((k61.set 0 (.int .i64 pw)).set 1 (.int .i64 ph)).set 2 (.slice (some ⟨w.heap.size + 1 + 1, 0, none⟩) ys.length (pw * ph))).putObj hD1 (.deferred none)
  have g0 := kf.cell (i := 0) (v := .int .i64 pw) (by simp)
  have g1 := kf.cell (i := 1) (v := .int .i64 ph) (by simp)
  have g2 := kf.cell (i := 2) (v := .slice (some ⟨w.heap.size + 1 + 1, 0, none⟩) ys.length (pw * ph)) (by simp)
  refine ⟨by simp, .inl ⟨_, _, rfl, run_takeDeferred hKf, ?_⟩⟩
  have hlen : ys.length = pw * ph := by have := congrArg List.length hys; simpa using this
  have rowf := ownsRow_putObj (row_setCell (row_setCell (row_setCell row1 (a := ⟨w.heap.size + 1, 0, none⟩) (by simp [Value.ownBlock]) (.int .i64 pw)) (a := ⟨w.heap.size + 1, 1, none⟩) (by simp [Value.ownBlock]) (.int .i64 ph)) (a := ⟨w.heap.size + 1, 2, none⟩) (by simp [Value.ownBlock]) (.slice (some ⟨w.heap.size + 1 + 1, 0, none⟩) ys.length (pw * ph))) (.deferred none) hKf rfl
  refine ⟨.agg #[.int .i64 pw, .int .i64 ph, .slice (some ⟨w.heap.size + 1 + 1, 0, none⟩) ys.length (pw * ph)], by simp [results, Tryz.results83, go_sem, g0, g1, g2], _, rfl, ⟨_, rfl, ?_⟩, ?_⟩
  ·rw [imgPart_all hys] at rowf
   rw [img_length]
   exact row_len hlen rowf
  ·exact (((hB1.setCell (p := ⟨w.heap.size + 1, 0, none⟩) (by simp) _).setCell (p := ⟨w.heap.size + 1, 1, none⟩) (by simp) _).setCell (p := ⟨w.heap.size + 1, 2, none⟩) (by simp) _).trans (belowK_b (w := w) (Nat.le_refl _) _ D _ _ (by omega) hKf rfl rfl)
 case stop =>
  rintro D c pre W _ _ h _
  exact h.elim
end Go.Proofs.YtekiemlniegddaaGreat
namespace Go.Proofs.YtekiemlniegddaaGreat
open Go Go.RowKit Go.Shelf
/-- What a function returns: an image in new memory of the call's own, from block B on, and a number. -/
structure ImR where
 w : Int
 h : Int
 px : List Int
 err : Int
def RetIm (B : Nat) (r : ImR) (w : World) (e : Ending) (w' : World) : Prop :=
 (∃ v, e = .returned (.tuple #[v, .int .i64 r.err]) ∧ OwnIm B w' v r.w r.h r.px) ∧ Below B w w'
/-- The refusal with a number. -/
def noIm (err : Int) : ImR := { w := 0, h := 0, px := [], err := err }
theorem OwnIm_nil (B : Nat) (W : World) : OwnIm B W (.agg #[.int .i64 0, .int .i64 0, .slice none 0 0]) 0 0 [] := ⟨_, rfl, World.ownsRow_nil _ _ _ _⟩
/-- Three cells written one after the other. -/
abbrev put3 (W : World) (B : Nat) (x y z : Value) : World := ((W.setCell ⟨B, 0, none⟩ x).setCell ⟨B, 1, none⟩ y).setCell ⟨B, 2, none⟩ z
theorem put3_blk {W : World} {B : Nat} {t : TypeId} {a b c : Value} (k : Blk W B t #[a, b, c]) (x y z : Value) : Blk (put3 W B x y z) B t #[x, y, z] := by
 have := ((k.set 0 x).set 1 y).set 2 z
 simpa using this
theorem put3_below {W : World} {n B : Nat} (h : n ≤ B) (x y z : Value) : Below n W (put3 W B x y z) :=
 (((Below.refl n W).setCell (p := ⟨B, 0, none⟩) h x).setCell (p := ⟨B, 1, none⟩) h y).setCell (p := ⟨B, 2, none⟩) h z
theorem put3_row {W : World} {B : Nat} {base : Nat} {e : TypeId} {size : Nat} {v : Value} {k : Nat} {xs : List Value} (h : W.ownsRow base e size v k xs) (hne : some B ≠ v.ownBlock) (x y z : Value) : (put3 W B x y z).ownsRow base e size v k xs :=
 row_setCell (row_setCell (row_setCell h (a := ⟨B, 0, none⟩) hne x) (a := ⟨B, 1, none⟩) hne y) (a := ⟨B, 2, none⟩) hne z
theorem OwnIm.weaken {B B' : Nat} {W : World} {v : Value} {iw ih : Int} {xs : List Int} (h : OwnIm B W v iw ih xs) (hB : B' ≤ B) : OwnIm B' W v iw ih xs := by
 obtain ⟨s, h1, h2, h3⟩ := h
 refine ⟨s, h1, h2, ?_⟩
 rcases h3 with h3 | ⟨g, cap, cur, e1, e2, r⟩
 ·exact .inl h3
 ·exact .inr ⟨g, cap, cur, e1, by omega, r⟩
theorem prod_bd {a x m n : Int} (h1 : -m ≤ a) (h2 : a ≤ m) (h3 : 0 ≤ x) (h4 : x ≤ n) (hm : 0 ≤ m) : -(m * n) ≤ a * x ∧ a * x ≤ m * n := by
 have e1 : a * x ≤ m * x := Int.mul_le_mul_of_nonneg_right h2 h3
 have e2 : m * x ≤ m * n := Int.mul_le_mul_of_nonneg_left h4 hm
 have e3 : -m * x ≤ a * x := Int.mul_le_mul_of_nonneg_right h1 h3
 have e4 : -m * x = -(m * x) := Int.neg_mul _ _
 omega
theorem in_idx {iw ih u v : Int} {n : Nat} (hw : 1 ≤ iw) (hn : (n : Int) = iw * ih) (hu0 : 0 ≤ u) (hu1 : u ≤ iw - 1) (hv0 : 0 ≤ v) (hv1 : v ≤ ih - 1) : 0 ≤ v * iw ∧ 0 ≤ v * iw + u ∧ v * iw + u < n ∧ v * iw < n := by
 have h1 : 0 ≤ v * iw := Int.mul_nonneg hv0 (by omega)
 have h2 : v * iw ≤ (ih - 1) * iw := Int.mul_le_mul_of_nonneg_right hv1 (by omega)
 have h3 : (ih - 1) * iw = iw * ih - iw := by rw [Int.sub_mul, Int.mul_comm ih iw]; omega
 omega
theorem row_slice {W : World} {base : Nat} {e : TypeId} {size : Nat} {v : Value} {k : Nat} {xs : List Value} (h : W.ownsRow base e size v k xs) : ∃ a c, v = .slice a k c := by
 rcases h.2 with ⟨h1, h2⟩ | ⟨g, cap, cur, h1, _⟩
 ·exact ⟨none, 0, by rw [h1, h2]⟩
 ·exact ⟨_, _, h1⟩
theorem alloc_below {W W2 : World} {o : Obj} (h : W.alloc o = W2) : Below W.heap.size W W2 := h ▸ (Below.refl _ _).alloc (Nat.le_refl _) _
theorem below_al {a w : World} (h : Below a.heap.size a w) (o : Obj) : Below a.heap.size a (w.alloc o) := h.alloc h.size o
end Go.Proofs.YtekiemlniegddaaGreat

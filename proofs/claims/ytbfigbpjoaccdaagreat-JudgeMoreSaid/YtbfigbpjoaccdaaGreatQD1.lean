/- Contracts and laws (Head, Base, ImgA, ImgB, JB). -/
import Derived.Test.YtbfigbpjoaccdaaGreatRows
import Derived.ProofKit
import Derived.JoinedCond
import Derived.RangeFuncNested
import Derived.RangeFuncBound
import Derived.RangeFuncCalls
import Derived.RangeFuncLeaves
import Derived.RangeFuncBox
import Derived.Shelf.Abstract
import Derived.Shelf.RegionOpen
import Derived.WalkKit
import Derived.OwnWalkIn
import Derived.TacticsInMore
import Derived.LoopNIn
import Derived.LoopIn
import Derived.Maps.AppendAt
import Derived.Deep.RegionHeld3
import Derived.Deep.QuietTactic
import Derived.BigQuiet
import Derived.Lib.Hide
import Derived.WalkLawsBesides
import Derived.WalkSpells
import Derived.Laws.EntriesVeiled
import Derived.Test.YtbfigbpjoaccdaaGreatProg
namespace Go.Proofs.YtbfigbpjoaccdaaGreat
open Go Go.ChangeShapes Go.WideShapes Go.ChangeAt Go.RowKit
set_option linter.unusedVariables false
set_option maxRecDepth 100000

theorem io_head : (behindMainWord (wordsSigns Tryz.prog.initOrder.toList)).head? = some "cut".toList := by
  rw [show Tryz.prog.initOrder = String.ofList _ from rfl, String.toList_ofList]
  kernel_rfl

theorem words_of (P : Program) (h : (behindMainWord (wordsSigns P.initOrder.toList)).head? = some "cut".toList) : ∃ rest, behindMainWord (wordsSigns P.initOrder.toList) = "cut".toList :: rest := by
  generalize behindMainWord (wordsSigns P.initOrder.toList) = l at h
  cases l with
  | nil => simp at h
  | cons c rest =>
    simp only [List.head?_cons, Option.some.injEq] at h
    exact ⟨rest, by rw [h]⟩

theorem strip_cut (rest : List (List Char)) : stripLifts liftWords ("cut".toList :: rest) = ([], "cut".toList :: rest) := by
  kernel_rfl

theorem may_of (P : Program) (h : (behindMainWord (wordsSigns P.initOrder.toList)).head? = some "cut".toList) (h1 : P.laysLater = false) (h2 : P.bearsReflect = false) (h3 : P.doorFits [] = true) : P.mayEnter = true := by
  obtain ⟨rest, h⟩ := words_of P h
  unfold Program.mayEnter
  rw [h]
  simp only [strip_cut, h1, h2, h3]
  simp

theorem lifts_of (P : Program) (h : (behindMainWord (wordsSigns P.initOrder.toList)).head? = some "cut".toList) : P.headLifts = [] := by
  obtain ⟨rest, h⟩ := words_of P h
  unfold Program.headLifts
  rw [h]
  simp only [strip_cut]
  simp

theorem make_of (P : Program) (h : (behindMainWord (wordsSigns P.initOrder.toList)).head? = some "cut".toList) : P.make = some .cut := by
  obtain ⟨rest, h⟩ := words_of P h
  unfold Program.make
  rw [h]
  simp

theorem final_of (P : Program) (h : (behindMainWord (wordsSigns P.initOrder.toList)).head? = some "cut".toList) : P.liftsFinal = false := by
  have h0 := lifts_of P h
  obtain ⟨rest, h⟩ := words_of P h
  unfold Program.liftsFinal
  rw [h, h0]
  simp

theorem may_try : Tryz.prog.mayEnter = true := may_of _ io_head (by kernel_rfl) (by kernel_rfl) (by kernel_rfl)
theorem make_try : Tryz.prog.make = some .cut := make_of _ io_head
theorem final_try : Tryz.prog.liftsFinal = false := final_of _ io_head

/-- What a row asks of the program, limb by limb. The head's limbs are taken from above. -/
theorem facts_of (f : FuncId) (fn : Func) (s : ChangeSpec) (c : OpenClaim) (hmake : c.make = .cut) (hlift : c.lifted = false)
    (h1 : (c.wf (OpenSpec.ofChange s) && laidOutB Tryz.prog && mapsRowed Tryz.prog &&
  fn.params.all (Tryz.prog.readableRec ·) && namedTie Tryz.prog c.named s.vars &&
  (c.stops == []) && (Tryz.prog.stops == []) && (c.knobs == []) && (Tryz.prog.stopKnobs == [])) = true)
    (h2 : (c.inPlace == Tryz.prog.inPlace f) = true) (h3 : (c.unfollowed == Tryz.prog.unfollowed f) = true) (h4 : (c.recurses == Tryz.prog.recurses f) = true) (h5 : (c.named == Tryz.prog.varsNamed f) = true)
    (h6 : ((c.maps == (fn.params.toList ++ s.plain.varTypes Tryz.prog).any (Tryz.prog.mapsRec ·)) && (c.ifaces == (fn.params.toList ++ s.plain.varTypes Tryz.prog).any (Tryz.prog.ifacesRec ·)) && (c.mapsOut == Tryz.prog.mapsAmong fn.resultTypes.toList) &&
  (c.loops == (fn.params.toList ++ s.plain.varTypes Tryz.prog).any (Tryz.prog.loopsFrom ·)) && (c.wideKeys == (fn.params.toList ++ s.plain.varTypes Tryz.prog ++ fn.resultTypes.toList).any (Tryz.prog.wideKeysFrom ·))) = true)
    (h7 : (s.vars.all (Tryz.prog.varReadable ·) && fn.resultTypes.all (fun t => Tryz.prog.readableRec t && decide (t < Tryz.prog.types.size)) && (c.ifacesOut == fn.resultTypes.toList.any (Tryz.prog.ifacesRec ·)) && (c.loopsOut == fn.resultTypes.toList.any (Tryz.prog.loopsFrom ·)) && (c.plainKeys == Tryz.prog.plainKeys) && c.shortTexts.isNone && Tryz.prog.stopsHeard) = true)
    (hdom : c.domain = []) (h8 : c.kinds = []) (h9 : (c.pinned == c.pinnedBy) = true)
    (h10 : ((c.veiled == (fn.params.toList ++ s.plain.varTypes Tryz.prog ++ fn.resultTypes.toList).any (Tryz.prog.veiledRec ·)) && c.veiledFits Tryz.prog fn.params.toList (fn.params.toList ++ s.plain.varTypes Tryz.prog ++ fn.resultTypes.toList)) = true) :
    joinedFacts Tryz.prog f fn s c = true := by
  unfold joinedFacts
  simp only [Bool.and_eq_true] at h1 h6 h7 h10 ⊢
  rw [may_try, make_try, final_try, hmake, hlift]
  simp only [h1, h2, h3, h4, h5, h6, h7, hdom, h8, h9, h10, List.isEmpty_nil, if_true, and_self, beq_self_eq_true]
end Go.Proofs.YtbfigbpjoaccdaaGreat

namespace Go.Proofs.YtbfigbpjoaccdaaGreat
open Go Go.RowKit Go.Shelf
set_option linter.unusedVariables false
set_option linter.unusedSimpArgs false

/-! ### A region within a round, from the plain calculus -/

/-- The wide fence, within a round. -/
abbrev FR (l : Nat) : Fence := Fence.wide.inRound l

theorem FR_depth (l : Nat) : (FR l).depth.isSome = true → 1 ≤ 0 := fun h => by simp [Fence.wide] at h

theorem oper_in_round {P : Program} {o : Oper} {a : Act} {w : World} {K : Act → World → Prop} {Q : Exit → Act → World → Prop} (l n : Nat) (hd : ∀ c, o.op ≠ .defer c) (hQ : ¬ LetsOut Q)
    (h : o.wp P a w K Q ∨ (o.asks P a w ∧ LetsOut Q)) : o.wpIn (FR l) n P a w K Q := by
  rcases h with h | h
  · refine ⟨fun _ _ => trivial, ?_⟩
    rw [Oper.semAt_eq _ _ _ hd]
    unfold Oper.wp at h
    generalize (execOp a.eval o).run P w = r at h ⊢
    cases r with
    | ok x w' =>
      cases x <;> simp only [Oper.upon, Oper.uponIn] at h ⊢ <;> first
        | exact h
        | exact h.elim
        | exact ⟨fun hh => (FR_depth l hh).elim (by omega) , CallsIn.inRound l (callsIn_wide.2 h)⟩
        | (refine ⟨fun hh => by have := FR_depth l hh; omega, ?_⟩
           first
             | exact CallsIn.inRound l (callsIn_wide.2 h)
             | (intro c cs _
                obtain ⟨v, w'', r, s⟩ := h c cs
                exact ⟨v, w'', r, stepsIn_wide.2 s⟩))
    | halt x w' => cases x <;> simp only [Oper.upon, Oper.uponIn] at h ⊢ <;> first | exact h | exact h.elim
  · exact (hQ h.2).elim

theorem wpOp_in_round {P : Program} {ops : Array Oper} {i : Nat} {a : Act} {w : World} {K : Act → World → Prop} {Q : Exit → Act → World → Prop} (l n : Nat) (hd : ∀ (j : Nat) (o : Oper), ops[j]? = some o → ∀ c, o.op ≠ .defer c) (hQ : ¬ LetsOut Q)
    (h : wpOp P ops Q i K a w) : wpOpIn (FR l) n P ops Q i K a w := by
  unfold wpOp at h
  unfold wpOpIn
  cases ho : ops[i]? with
  | none => simpa [ho] using h
  | some o =>
    simp only [ho] at h ⊢
    split
    · rename_i hw
      simp only [hw, if_true] at h
      exact oper_in_round l n (hd i o ho) hQ h
    · rename_i hw
      simp only [hw] at h
      exact ⟨fun _ _ => trivial, h⟩

theorem wpAny_in_round {P : Program} {md : Region.Mode} {ops : Array Oper} {Q : Exit → Act → World → Prop} (l n : Nat) (hd : ∀ (j : Nat) (o : Oper), ops[j]? = some o → ∀ c, o.op ≠ .defer c) (hQ : ¬ LetsOut Q) :
    ∀ (fuel : Nat) (listed : Array Bool) (a : Act) (w : World), wpAny P md ops Q fuel listed a w → wpAnyIn (FR l) n P md ops Q fuel listed a w
  | 0, _, _, _, h => h
  | fuel + 1, listed, a, w, h => ⟨h.1, fun i hi => wpOp_in_round l n hd hQ (wpOp_mono (fun a' w' h' => wpAny_in_round l n hd hQ fuel _ a' w' h') (h.2 i hi))⟩

/-- No operation of the region is a defer statement: for 'decide'. -/
def noDefer (ops : Array Oper) : Bool := ops.toList.all fun o => match o.op with | .defer _ => false | _ => true

theorem noDefer_spec {ops : Array Oper} (h : noDefer ops = true) : ∀ (j : Nat) (o : Oper), ops[j]? = some o → ∀ c, o.op ≠ .defer c := by
  intro j o ho c hc
  have := List.all_eq_true.1 h o (by
    have := Array.mem_of_getElem? ho
    simpa using this)
  rw [hc] at this
  cases this

/-! ### A region that draws its order: a condition S on the world, which holds behind every operation before number t

Under S an operation that yields one value in every world that meets S may be taken first, if the operations from t on wait for it. -/
section
variable {P : Program} {md : Region.Mode} {ops : Array Oper} {Q : Exit → Act → World → Prop} {S : World → Prop} {t : Nat}

def AnyS (P : Program) (md : Region.Mode) (ops : Array Oper) (Q : Exit → Act → World → Prop) (S : World → Prop) (t : Nat) : Nat → Array Bool → Act → World → Prop
  | 0, l, a, w => Region.ready md ops l = [] ∧ Q .normal a w
  | f + 1, l, a, w => (Region.ready md ops l = [] → Q .normal a w) ∧
      ∀ i ∈ Region.ready md ops l, wpOp P ops Q i (fun a' w' => (i < t → S w') ∧ AnyS P md ops Q S t f (l.setIfInBounds i true) a' w') a w

theorem AnyS.any : ∀ (f : Nat) (l : Array Bool) (a : Act) (w : World), AnyS P md ops Q S t f l a w → wpAny P md ops Q f l a w
  | 0, _, _, _, h => h
  | f + 1, _, _, _, h => ⟨h.1, fun i hi => wpOp_mono (fun a' w' h' => AnyS.any f _ a' w' h'.2) (h.2 i hi)⟩

/-- The operations from t on that have not come up wait for number i. -/
def lateWait (md : Region.Mode) (ops : Array Oper) (l : Array Bool) (t i : Nat) : Bool :=
  (List.range ops.size).all fun j => decide (j < t) || l.getD j true || j == i || match ops[j]? with | some o => o.after.any (fun e => Region.binds md e && e.on == i) | none => true

theorem lateWait_spec {l : Array Bool} {i : Nat} (h : lateWait md ops l t i = true) {j : Nat} {o : Oper} (hj : ops[j]? = some o) (ht : ¬ j < t) (hun : l.getD j true = false) (hne : j ≠ i) : ∃ e ∈ o.after, Region.binds md e = true ∧ e.on = i := by
  have h1 := List.all_eq_true.1 h j (List.mem_range.2 (Array.getElem?_eq_some_iff.1 hj).1)
  simp only [hj, Bool.or_eq_true, decide_eq_true_eq, ht, hun, Bool.false_eq_true, beq_iff_eq, hne, false_or] at h1
  obtain ⟨e, he, hb⟩ := Array.any_eq_true'.1 h1
  simp only [Bool.and_eq_true, beq_iff_eq] at hb
  exact ⟨e, he, hb.1, hb.2⟩

theorem lateWait_more {l : Array Bool} {i j : Nat} (h : lateWait md ops l t i = true) : lateWait md ops (l.setIfInBounds j true) t i = true := by
  refine List.all_eq_true.2 fun k hk => ?_
  have h1 := List.all_eq_true.1 h k hk
  simp only [Bool.or_eq_true] at h1 ⊢
  rcases h1 with ((h1 | h1) | h1) | h1
  · exact .inl (.inl (.inl h1))
  · refine .inl (.inl (.inr ?_))
    by_cases e : j = k
    · subst e
      by_cases hlt : j < l.size
      · simp [hlt]
      · simp [hlt]
    · rw [getD_set_ne true e]; exact h1
  · exact .inl (.inr h1)
  · exact .inr h1

theorem AnyS.first {i : Nat} {o : Oper} {v : Value} (hi : ops[i]? = some o) (hsel : ∀ (j : Nat) (o : Oper) cs b, ops[j]? = some o → o.op ≠ .select cs b) (hQ : ∀ c a w, Q (.panic c) (a.put o.dst v) w → Q (.panic c) a w) :
    ∀ (f : Nat) (l : Array Bool) (a : Act) (w : World),
      (∀ j oj, ops[j]? = some oj → j ≠ i → l.getD j true = false → (∀ e ∈ oj.after, Region.binds md e = true → e.on ≠ i) → o.apart ops oj = true) → lateWait md ops l t i = true →
      i ∈ Region.ready md ops l → YieldsIf P ops S o v a → S w → AnyS P md ops Q S t f (l.setIfInBounds i true) (a.put o.dst v) w → AnyS P md ops Q S t (f + 1) l a w
  | 0, l, a, w, _, _, hr, hy, hS, H => by
    refine ⟨fun h => (by rw [h] at hr; cases hr), fun j hj => ?_⟩
    by_cases e : j = i
    · subst e; exact hy.wpOp hi hS ⟨fun _ => hS, H⟩
    · have := ready_mono hj e
      rw [H.1] at this; cases this
  | f + 1, l, a, w, hfree, hlate, hr, hy, hS, H => by
    refine ⟨fun h => (by rw [h] at hr; cases hr), fun j hj => ?_⟩
    by_cases e : j = i
    · subst e; exact hy.wpOp hi hS ⟨fun _ => hS, H⟩
    · have hj1 := H.2 j (ready_mono hj e)
      obtain ⟨hjun, oj, hoj, hall⟩ := mem_ready.1 hj
      have hiun := (mem_ready.1 hr).1
      have hwait : ∀ x ∈ oj.after, Region.binds md x = true → x.on ≠ i := fun x hx hb ex => by
        have h1 := hall x hx hb
        rw [ex] at h1
        rcases Nat.lt_or_ge i l.size with h' | h'
        · simp [h'] at hiun h1; rw [hiun] at h1; cases h1
        · simp [Array.getElem?_eq_none h'] at h1
      have hjt : j < t := Decidable.byContradiction fun hjt => by
        obtain ⟨x, hx, hb, ex⟩ := lateWait_spec hlate hoj hjt hjun e
        exact hwait x hx hb ex
      have h2 := wpOp_putIf hoj (hfree j oj hoj e hjun hwait) (fun cs b => hsel i o cs b hi) (fun cs b => hsel j oj cs b hoj) hQ hy hj1
      refine wpOp_mono (fun a' w' h3 => ?_) h2
      obtain ⟨hy', hSn, hrest⟩ := h3
      rw [Array.setIfInBounds_comm _ _ (Ne.symm e)] at hrest
      exact ⟨fun _ => hSn hjt, AnyS.first hi hsel hQ f _ a' w' (fun k ok hk hki hun hno => hfree k ok hk hki (by
        by_cases ej : j = k
        · subst ej; exact hjun
        · rw [getD_set_ne true ej] at hun; exact hun) hno) (lateWait_more hlate) (ready_mono hr (Ne.symm e)) hy' (hSn hjt) hrest⟩

/-- The beginning, within a round. -/
theorem round_region (S : World → Prop) (t n : Nat) (l m : Nat) {id : Nat} {a : Act} {w : World} (hm : P.follows .mixedOrders = true) (hnd : noDefer ops = true) (hQ : ¬ LetsOut Q) (hn : ops.size = n)
    (h : AnyS P .any ops Q S t n (Array.replicate n false) a w.drew) : (Code.region id ops true).wpIn (FR l) m P Q a w := by
  subst hn
  exact wpIn_region_any hm (wpAny_in_round l m (noDefer_spec hnd) hQ _ _ _ _ (AnyS.any _ _ _ _ h))

/-- The beginning, in plain code. -/
theorem plain_region (S : World → Prop) (t n : Nat) {id : Nat} {a : Act} {w : World} (hm : P.follows .mixedOrders = true) (hn : ops.size = n)
    (h : AnyS P .any ops Q S t n (Array.replicate n false) a w.drew) : (Code.region id ops true).wp P Q a w := by
  subst hn
  exact wp_region_any hm (AnyS.any _ _ _ _ h)

/-- Take first an operation that yields its value in every world that meets S. -/
theorem take_op (i : Nat) {d : Tmp} {op : Op} {ty : TypeId} {ps : String} {af : Array Edge} {gd : Option (Nat × Bool)} {v : Value} {f : Nat} {l : Array Bool} {a : Act} {w : World} (hi : ops[i]? = some { dst := some d, op := op, type := ty, pos := ps, after := af, guard := gd })
    (hs : (Region.noSelect ops && Region.free md ops l i && (Region.ready md ops l).contains i && lateWait md ops l t i) = true)
    (hQ : ∀ c a w, Q (.panic c) { a with tmps := a.tmps.setIfInBounds d v } w → Q (.panic c) a w) (hw : Region.wanted { dst := some d, op := op, type := ty, pos := ps, after := af, guard := gd } (yielded ops a.tmps) = true) (hS : S w) (hy : ∀ w', S w' → (execOp a.eval { dst := some d, op := op, type := ty, pos := ps, after := af, guard := gd }).run P w' = .ok (.value v) w')
    (h : AnyS P md ops Q S t f (l.setIfInBounds i true) { tmps := a.tmps.setIfInBounds d v, defers := a.defers } w) : AnyS P md ops Q S t (f + 1) l a w := by
  simp only [Bool.and_eq_true] at hs
  exact AnyS.first hi (Region.noSelect_spec hs.1.1.1) hQ f l a w (Region.free_spec hi hs.1.1.2) hs.2 (by simpa using hs.1.2) (Or.inl ⟨hw, hy⟩) hS h

/-- Take first an operation whose guard is false. -/
theorem pass_op (i : Nat) {d : Tmp} {op : Op} {ty : TypeId} {ps : String} {af : Array Edge} {gd : Option (Nat × Bool)} {f : Nat} {l : Array Bool} {a : Act} {w : World} (hi : ops[i]? = some { dst := some d, op := op, type := ty, pos := ps, after := af, guard := gd })
    (hs : (Region.noSelect ops && Region.free md ops l i && (Region.ready md ops l).contains i && lateWait md ops l t i) = true)
    (hQ : ∀ c a w, Q (.panic c) { a with tmps := a.tmps.setIfInBounds d undef } w → Q (.panic c) a w) (hw : Region.wanted { dst := some d, op := op, type := ty, pos := ps, after := af, guard := gd } (yielded ops a.tmps) = false) (hS : S w)
    (h : AnyS P md ops Q S t f (l.setIfInBounds i true) { tmps := a.tmps.setIfInBounds d undef, defers := a.defers } w) : AnyS P md ops Q S t (f + 1) l a w := by
  simp only [Bool.and_eq_true] at hs
  exact AnyS.first hi (Region.noSelect_spec hs.1.1.1) hQ f l a w (Region.free_spec hi hs.1.1.2) hs.2 (by simpa using hs.1.2) (Or.inr ⟨hw, rfl⟩) hS h

/-- One operation alone may come up, which changes the world. -/
theorem step_op (i : Nat) {d : Option Tmp} {op : Op} {ty : TypeId} {ps : String} {af : Array Edge} {gd : Option (Nat × Bool)} {f : Nat} {l : Array Bool} {a : Act} {w : World} (hr : Region.ready md ops l = [i]) (ho : ops[i]? = some { dst := d, op := op, type := ty, pos := ps, after := af, guard := gd })
    (h : ∀ K' : Act → World → Prop, Shut (∀ a w, (i < t → S w) → AnyS P md ops Q S t f (l.setIfInBounds i true) a w → K' a w) → if Region.wanted { dst := d, op := op, type := ty, pos := ps, after := af, guard := gd } (yielded ops a.tmps) = true then Oper.wp P { dst := d, op := op, type := ty, pos := ps, after := af, guard := gd } a w K' Q else K' (a.put d undef) w) :
    AnyS P md ops Q S t (f + 1) l a w := by
  refine ⟨fun h0 => absurd (hr ▸ h0) (by simp), hr ▸ fun j hj => ?_⟩
  obtain rfl : j = i := by simpa using hj
  exact wpOp_step ho (fun K' hK => h K' (fun a w hS hW => hK a w ⟨hS, hW⟩))

/-- All have come up. -/
theorem done_ops {f : Nat} {l : Array Bool} {a : Act} {w : World} (hr : Region.ready md ops l = []) (h : Q .normal a w) : AnyS P md ops Q S t f l a w := by
  cases f with
  | zero => exact ⟨hr, h⟩
  | succ f => exact ⟨fun _ => h, by rw [hr]; simp⟩
end

theorem step_append_fits {P : Program} {ops : Array Oper} {o : Oper} {a : Act} {w : World} {K : Act → World → Prop} {Q : Exit → Act → World → Prop} {E : Prop}
    (hg : o.guard = none) (s x : Operand) (t : TypeId) (hop : o.op = Op.call { callee := Callee.builtin Builtin.append, args := #[s, x], argTypes := #[t, t] })
    (base : Nat) (e : TypeId) (i : TypeInfo) (size : Nat) (h1 : P.underlying t = some (.slice e)) (h2 : P.info? e = some i) (h4 : i.size = size)
    (g k cap : Nat) (xs : List Value) (hs : a.eval s = .slice (some ⟨g, 0, none⟩) k cap) (hown : w.ownsRow base e size (.slice (some ⟨g, 0, none⟩) k cap) k xs) (ad : Addr) (m c : Nat) (news : List Value) (hx : a.eval x = .slice (some ad) m c) (hn : news.length = m * size)
    (hc : ∀ j u, news[j]? = some u → w.cell? (ad.add j) = some u) (h1c : ∀ u ∈ news, u.oneCell' = true) (b1 : k + m ≤ cap)
    (hK : ∀ w', w'.ownsRow base e size (.slice (some ⟨g, 0, none⟩) (k + m) cap) (k + m) (xs ++ news) → w.grownBy w' (some g) → K (a.put o.dst (.slice (some ⟨g, 0, none⟩) (k + m) cap)) w') :
    if Region.wanted o (yielded ops a.tmps) = true then Oper.wp P o a w K Q else E := by
  have hw : Region.wanted o (yielded ops a.tmps) = true := by simp [Region.wanted, hg]
  rw [if_pos hw]
  obtain ⟨w', hrun, r1, r2⟩ := run_append_fits (P := P) w base t o.type e i size h1 h2 h4 g k cap xs hown ad m c news hn hc h1c b1
  unfold Oper.wp
  simp [execOp, hop, resolve, invoke, builtin, hs, hx, hrun, Result.andThen]
  exact hK w' r1 r2

theorem step_append_own {P : Program} {ops : Array Oper} {o : Oper} {a : Act} {w : World} {K : Act → World → Prop} {Q : Exit → Act → World → Prop} {E : Prop}
    (hg : o.guard = none) (s x : Operand) (t : TypeId) (hop : o.op = Op.call { callee := Callee.builtin Builtin.append, args := #[s, x], argTypes := #[t, t] })
    (base : Nat) (e : TypeId) (i : TypeInfo) (z : Value) (size bytes : Nat) (h1 : P.underlying t = some (.slice e)) (h2 : P.info? e = some i) (h3 : i.zero = some z) (h4 : i.size = size) (h5 : i.bytes = bytes) (h6 : z.cells.size = size) (h7 : 0 < size)
    (v : Value) (k : Nat) (xs : List Value) (hs : a.eval s = v) (hown : w.ownsRow base e size v k xs) (ad : Addr) (m c : Nat) (news : List Value) (hx : a.eval x = .slice (some ad) m c) (hn : news.length = m * size)
    (hc : ∀ j u, news[j]? = some u → w.cell? (ad.add j) = some u) (h1c : ∀ u ∈ news, u.oneCell' = true) (b1 : k + m ≤ maxLen) (b2 : (k + m) * bytes ≤ 140737488355328) (b3 : base ≤ w.heap.size)
    (hK : ∀ v' w', w'.ownsRow base e size v' (k + m) (xs ++ news) → w.grownBy w' v.ownBlock → (v' = .slice none 0 0 ↔ v = .slice none 0 0 ∧ m = 0) → K (a.put o.dst v') w') :
    if Region.wanted o (yielded ops a.tmps) = true then Oper.wp P o a w K Q else E := by
  have hw : Region.wanted o (yielded ops a.tmps) = true := by simp [Region.wanted, hg]
  rw [if_pos hw]
  obtain ⟨v', w', hrun, r1, r2, r3⟩ := run_append_own (P := P) w base t o.type e i z size bytes h1 h2 h3 h4 h5 h6 h7 v k xs hown ad m c news hn hc h1c b1 b2 b3
  unfold Oper.wp
  simp [execOp, hop, resolve, invoke, builtin, hs, hx, hrun, Result.andThen]
  exact hK v' w' r1 r2 r3

/-! ### Slices that read as lists -/

/-- The slice at 'a' reads as the integers 'xs', in blocks below 'B'. -/
def Rd (B : Nat) (W : World) (a : Option Addr) (xs : List Int) : Prop :=
  xs = [] ∨ ∃ b o, a = some ⟨b, o, none⟩ ∧ b < B ∧ ∀ i, i < xs.length → W.cell? ⟨b, o + i, none⟩ = some (.int .i64 (xs[i]?.getD 0))

theorem Rd.below {B B' : Nat} {W W' : World} {a : Option Addr} {xs : List Int} (h : Rd B W a xs) (hB : B ≤ B') (hb : Below B' W W') : Rd B W' a xs := by
  rcases h with h | ⟨b, o, h1, h2, h3⟩
  · exact .inl h
  · exact .inr ⟨b, o, h1, h2, fun i hi => (hb.cell (p := ⟨b, o + i, none⟩) (by show b < B'; omega)).trans (h3 i hi)⟩

theorem Rd.mono {B B' : Nat} {W : World} {a : Option Addr} {xs : List Int} (h : Rd B W a xs) (hB : B ≤ B') : Rd B' W a xs := by
  rcases h with h | ⟨b, o, h1, h2, h3⟩
  · exact .inl h
  · exact .inr ⟨b, o, h1, by omega, h3⟩

/-- All numbers are from lo to hi. -/
def allIn (lo hi : Int) (xs : List Int) : Bool := xs.all fun x => decide (lo ≤ x) && decide (x ≤ hi)

theorem allIn_succ {lo hi : Int} {xs : List Int} {k : Nat} (hk : k < xs.length) (h : allIn lo hi (xs.take k) = true) (h1 : lo ≤ xs[k]?.getD 0) (h2 : xs[k]?.getD 0 ≤ hi) : allIn lo hi (xs.take (k + 1)) = true := by
  have e : xs[k]? = some xs[k] := List.getElem?_eq_getElem hk
  rw [e] at h1 h2
  have e2 : allIn lo hi (xs.take (k + 1)) = (allIn lo hi (xs.take k) && (decide (lo ≤ xs[k]) && decide (xs[k] ≤ hi))) := by
    rw [List.take_succ_eq_append_getElem hk]; simp only [allIn, List.all_append]; simp
  rw [e2, h]
  simp at h1 h2 ⊢
  exact ⟨h1, h2⟩

theorem allIn_false {lo hi : Int} {xs : List Int} {k : Nat} (hk : k < xs.length) (h : xs[k]?.getD 0 < lo ∨ hi < xs[k]?.getD 0) : allIn lo hi xs = false := by
  have e : xs[k]? = some xs[k] := List.getElem?_eq_getElem hk
  rw [e] at h
  simp at h
  rw [Bool.eq_false_iff]
  intro hh
  simp [allIn] at hh
  have := hh xs[k] (List.getElem_mem hk)
  omega

theorem allIn_mem {lo hi : Int} {xs : List Int} (h : allIn lo hi xs = true) {x : Int} (hx : x ∈ xs) : lo ≤ x ∧ x ≤ hi := by
  simp [allIn] at h
  exact h x hx

/-! ### Cells of new blocks -/

theorem cell_new {w : World} {b i : Nat} {cs : Array Value} {t : TypeId} {v : Value} (hb : b = w.heap.size) (hv : cs[i]? = some v) : (w.alloc (.cells cs t)).cell? ⟨b, i, none⟩ = some v := by
  subst hb
  show (match (w.heap.push (.cells cs t))[w.heap.size]? with | some (.cells cs _ _) => cs[i]? | _ => none) = some v
  simp [hv]

theorem cell_old {w : World} {a : Addr} {o : Obj} {v : Value} (h : w.cell? a = some v) : (w.alloc o).cell? a = some v := by
  rw [World.cell?_alloc_some w a o (by rw [h]; rfl), h]

/-! ### A block of cells, whole -/

/-- Block B holds the cells cs of type t. -/
def Blk (W : World) (B : Nat) (t : TypeId) (cs : Array Value) : Prop := W.heap[B]? = some (.cells cs t (0, 0))

theorem Blk.lt {W : World} {B : Nat} {t : TypeId} {cs : Array Value} (h : Blk W B t cs) : B < W.heap.size := (Array.getElem?_eq_some_iff.1 h).1
theorem Blk.cell {W : World} {B : Nat} {t : TypeId} {cs : Array Value} (h : Blk W B t cs) {i : Nat} {v : Value} (hv : cs[i]? = some v) : W.cell? ⟨B, i, none⟩ = some v := by simp [World.cell?, show W.heap[B]? = _ from h, hv]
theorem Blk.frozen {W : World} {B : Nat} {t : TypeId} {cs : Array Value} (h : Blk W B t cs) (i : Nat) : W.frozen? ⟨B, i, none⟩ = false := by simp [World.frozen?, show W.heap[B]? = _ from h]
theorem Blk.new (W : World) (t : TypeId) (cs : Array Value) : Blk (W.alloc (.cells cs t)) W.heap.size t cs := World.alloc_heap_new W _
theorem Blk.kept {W W' : World} {row : Option Nat} {B : Nat} {t : TypeId} {cs : Array Value} (h : Blk W B t cs) (hg : W.grownBy W' row) (hne : some B ≠ row) : Blk W' B t cs := (hg.block B h.lt hne).trans h
theorem Blk.alloc {W : World} {B : Nat} {t : TypeId} {cs : Array Value} (h : Blk W B t cs) (o : Obj) : Blk (W.alloc o) B t cs := h.kept (World.grownBy_alloc W o none) (by simp)
theorem Blk.below {W W' : World} {n B : Nat} {t : TypeId} {cs : Array Value} (h : Blk W B t cs) (hb : Below n W W') (hn : B < n) : Blk W' B t cs := (hb.block B hn).trans h
theorem Blk.set {W : World} {B : Nat} {t : TypeId} {cs : Array Value} (i : Nat) (v : Value) (h : Blk W B t cs) : Blk (W.setCell ⟨B, i, none⟩ v) B t (cs.setIfInBounds i v) := by
  obtain ⟨hlt, hk⟩ := Array.getElem?_eq_some_iff.1 h
  show (W.heap.modify B _)[B]? = _
  rw [Array.getElem?_eq_getElem (by rw [Array.size_modify]; exact hlt), Array.getElem_modify_self, hk]
  rfl
theorem Blk.other {W : World} {B : Nat} {t : TypeId} {cs : Array Value} (h : Blk W B t cs) {a : Addr} (hne : B ≠ a.block) (v : Value) : Blk (W.setCell a v) B t cs := (Below.heap_setCell W a v B hne).trans h
theorem Blk.putObj {W : World} {B : Nat} {t : TypeId} {cs : Array Value} (h : Blk W B t cs) {l : Nat} (hne : B ≠ l) (o : Obj) : Blk (W.putObj l o) B t cs := (World.putObj_heap_other hne).trans h
theorem Blk.not_row {W : World} {B : Nat} {t e : TypeId} {cs : Array Value} (h : Blk W B t cs) (hte : t ≠ e) {base size k : Nat} {v : Value} {xs : List Value} (hr : W.ownsRow base e size v k xs) : some B ≠ v.ownBlock := by
  rcases hr.2 with ⟨rfl, _⟩ | ⟨g, cap, cur, rfl, _, hgb, _⟩
  · simp [Value.ownBlock]
  · intro e'
    obtain rfl : B = g := by simpa [Value.ownBlock] using e'
    have := (show W.heap[B]? = _ from h).symm.trans hgb
    simp at this
    exact hte this.2
/-- A block speaks of cells alone. -/
theorem blk_keeps {W W' : World} {row : Option Nat} {B : Nat} {t : TypeId} {cs : Array Value} (h : Blk W B t cs) (hg : W.grownBy W' row) (hr : ∀ r, row = some r → ∃ o : Obj, W.heap[r]? = some o ∧ o.isCells = false) : Blk W' B t cs :=
  h.kept hg fun e => by
    obtain ⟨o, ho, hc⟩ := hr B e.symm
    rw [show W.heap[B]? = _ from h] at ho; cases ho; cases hc
theorem row_keeps {W W' : World} {row : Option Nat} {base : Nat} {e : TypeId} {size : Nat} {v : Value} {k : Nat} {xs : List Value} (h : W.ownsRow base e size v k xs) (hg : W.grownBy W' row) (hr : ∀ r, row = some r → ∃ o : Obj, W.heap[r]? = some o ∧ o.isCells = false) : W'.ownsRow base e size v k xs := by
  refine h.kept hg ?_
  rcases h.2 with ⟨rfl, _⟩ | ⟨g, cap, cur, rfl, _, hgb, _⟩
  · exact .inl rfl
  · refine .inr fun e' => ?_
    obtain ⟨o, ho, hc⟩ := hr g (by simpa [Value.ownBlock] using e'.symm)
    rw [hgb] at ho; cases ho; cases hc
/-- A row lies on where nothing that lay has turned. -/
theorem row_below {W W' : World} {base : Nat} {e : TypeId} {size : Nat} {v : Value} {k : Nat} {xs : List Value} (h : W.ownsRow base e size v k xs) (hb : Below W.heap.size W W') : W'.ownsRow base e size v k xs := by
  refine ⟨h.1, ?_⟩
  rcases h.2 with hn | ⟨g, cap, cur, rfl, h1, h2, rest⟩
  · exact .inl hn
  · exact .inr ⟨g, cap, cur, rfl, h1, (hb.block g (Array.getElem?_eq_some_iff.1 h2).1).trans h2, rest⟩
/-- What leaves all that lay as it lay keeps all that is no cells. -/
theorem others_of_below {W W' : World} (hb : Below W.heap.size W W') : KeepsOthers W W' := ⟨hb.size, fun k o hk _ => (hb.block k (Array.getElem?_eq_some_iff.1 hk).1).trans hk⟩
theorem grown_of_below {W W' : World} (hb : Below W.heap.size W W') (row : Option Nat) : W.grownBy W' row := ⟨hb.os, hb.tape, hb.output, hb.size, fun k hk _ => hb.block k hk⟩
theorem grown_trans {A B C : World} {row : Option Nat} (h : A.grownBy B row) (k : B.grownBy C row) : A.grownBy C row :=
  ⟨k.os.trans h.os, k.tape.trans h.tape, k.output.trans h.output, Nat.le_trans h.size k.size, fun i hi hr => (k.block i (Nat.lt_of_lt_of_le hi h.size) hr).trans (h.block i hi hr)⟩
/-- Where a row was written and nothing else that lay. -/
theorem others_of_row {W W' : World} {base : Nat} {e : TypeId} {size : Nat} {v : Value} {k : Nat} {xs : List Value} (h : W.ownsRow base e size v k xs) (hg : W.grownBy W' v.ownBlock) : KeepsOthers W W' :=
  KeepsOthers.of_grownBy hg fun j o ej hj => by
    rcases h.2 with ⟨rfl, _⟩ | ⟨g, cap, cur, rfl, _, hgb, _⟩
    · simp [Value.ownBlock] at ej
    · obtain rfl : g = j := by simpa [Value.ownBlock] using ej
      rw [hgb] at hj; cases hj; rfl
theorem below_of_row {W W' : World} {n base : Nat} {e : TypeId} {size : Nat} {v : Value} {k : Nat} {xs : List Value} (h : W.ownsRow base e size v k xs) (hg : W.grownBy W' v.ownBlock) (hn : n ≤ base) (hs : n ≤ W.heap.size) : Below n W W' :=
  (Below.refl n W).grown hg hs fun j ej => by
    rcases h.2 with ⟨rfl, _⟩ | ⟨g, cap, cur, rfl, hb, _, _⟩
    · simp [Value.ownBlock] at ej
    · obtain rfl : g = j := by simpa [Value.ownBlock] using ej
      omega
theorem row_setCell {W : World} {base : Nat} {e : TypeId} {size : Nat} {v : Value} {k : Nat} {xs : List Value} (h : W.ownsRow base e size v k xs) {a : Addr} (hne : some a.block ≠ v.ownBlock) (u : Value) : (W.setCell a u).ownsRow base e size v k xs := by
  refine ⟨h.1, ?_⟩
  rcases h.2 with hn | ⟨g, cap, cur, rfl, h1, h2, rest⟩
  · exact .inl hn
  · exact .inr ⟨g, cap, cur, rfl, h1, by rw [Below.heap_setCell _ _ _ _ (fun e => hne (by simp [Value.ownBlock, e]))]; exact h2, rest⟩

/-! ### Quotients -/

theorem mul_small {a b m n : Int} (h1 : 0 ≤ a) (h2 : a ≤ m) (h3 : 0 ≤ b) (h4 : b ≤ n) : 0 ≤ a * b ∧ a * b ≤ m * n :=
  ⟨Int.mul_nonneg h1 h3, Int.mul_le_mul h2 h4 h3 (by omega)⟩

theorem tdiv_cases (a b : Int) (hb : 1 ≤ b) : (a.tdiv b = a / b ∧ (0 ≤ a ∨ a % b = 0)) ∨ (a.tdiv b = a / b + 1 ∧ a < 0 ∧ a % b ≠ 0) := by
  rw [Int.tdiv_eq_ediv]
  by_cases h : 0 ≤ a ∨ b ∣ a
  · rw [if_pos h]
    refine .inl ⟨by omega, ?_⟩
    rcases h with h | h
    · exact .inl h
    · exact .inr (Int.emod_eq_zero_of_dvd h)
  · rw [if_neg h]
    rw [Int.sign_eq_one_of_pos (by omega)]
    have h1 : ¬ 0 ≤ a := fun h' => h (.inl h')
    have h2 : ¬ b ∣ a := fun h' => h (.inr h')
    exact .inr ⟨rfl, by omega, fun h' => h2 (Int.dvd_of_emod_eq_zero h')⟩

theorem ediv_facts (a b : Int) (hb : 1 ≤ b) : b * (a / b) + a % b = a ∧ 0 ≤ a % b ∧ a % b < b := ⟨Int.mul_ediv_add_emod a b, Int.emod_nonneg _ (by omega), Int.emod_lt_of_pos _ (by omega)⟩

theorem ediv_bounds (a b : Int) (hb : 1 ≤ b) (h1 : -4611686018427387904 ≤ a) (h2 : a ≤ 4611686018427387904) : -4611686018427387904 ≤ a / b ∧ a / b ≤ 4611686018427387904 := by
  constructor
  · exact (Int.le_ediv_iff_mul_le (by omega)).2 (by
      have : (-4611686018427387904 : Int) * b ≤ -4611686018427387904 * 1 := by omega
      omega)
  · by_cases h : 0 ≤ a
    · have := Int.ediv_le_self b h; omega
    · have := Int.ediv_neg_of_neg_of_pos (a := a) (b := b) (by omega) (by omega); omega

theorem floor_lem (a b : Int) (h1 : -4611686018427387904 ≤ a) (h2 : a ≤ 4611686018427387904) (h3 : 1 ≤ b) (h4 : b ≤ 4611686018427387904) :
    (a < wrap64 (a.tdiv b * b) → wrap64 (a.tdiv b - 1) = a / b) ∧ (wrap64 (a.tdiv b * b) ≤ a → a.tdiv b = a / b) := by
  obtain ⟨e1, e2, e3⟩ := ediv_facts a b h3
  obtain ⟨b1, b2⟩ := ediv_bounds a b h3 h1 h2
  have e4 : a.tdiv b * b = b * a.tdiv b := Int.mul_comm _ _
  rcases tdiv_cases a b h3 with ⟨h, hh⟩ | ⟨h, hh, hm⟩
  · rw [e4, h, IntWalk.wrap64_in (b * (a / b)) ⟨by omega, by omega⟩]
    refine ⟨fun hc => ?_, fun _ => rfl⟩
    omega
  · have e5 : b * (a / b + 1) = b * (a / b) + b := by rw [Int.mul_add]; omega
    rw [e4, h, e5, IntWalk.wrap64_in (b * (a / b) + b) ⟨by omega, by omega⟩]
    refine ⟨fun _ => ?_, fun hc => ?_⟩
    · rw [IntWalk.wrap64_in _ ⟨by omega, by omega⟩]; omega
    · omega

theorem ret_bool {a b : Bool} (h : a = b) : Ending.returned (.bool a) = .returned (.bool b) := by rw [h]
theorem ret_int {k : IntKind} {a b : Int} (h : a = b) : Ending.returned (.int k a) = .returned (.int k b) := by rw [h]

end Go.Proofs.YtbfigbpjoaccdaaGreat

namespace Go.Proofs.YtbfigbpjoaccdaaGreat
open Go Go.RowKit Go.Shelf
set_option linter.unusedVariables false
set_option linter.unusedSimpArgs false

set_option maxHeartbeats 400000 in
theorem within_any (lo hi : Int) (a : Option Addr) (c : Nat) (xs : List Int) (w : World) (hl : xs.length ≤ 9223372036854775807) (hr : Rd w.heap.size w a xs) :
    Calls Tryz.prog 80 #[.int .i64 lo, .int .i64 hi, .slice a xs.length c] w fun e w' => e = .returned (.bool (allIn lo hi xs)) ∧ w = w' := by
  obtain ⟨n, hn⟩ : ∃ n, xs.length = n := ⟨_, rfl⟩
  rw [hn] at hl ⊢
  have hnH := Lib.hid hn
  clear hn
  go_enter Tryz.func80, Tryz.ntmps80
  go_wp2
  go_loop [8, 11] (fun v i => ∃ k : Nat, k ≤ n ∧ i = .int .i64 k ∧ allIn lo hi (xs.take k) = true) (fun _ i => n - (intOf i).toNat)
  case atStart => exact ⟨0, Nat.zero_le _, rfl, by simp [allIn]⟩
  case round =>
    obtain ⟨k, hk, rfl, hall⟩ := hrel
    by_cases hlt : k < n
    · rcases hr with h0 | ⟨b, o, rfl, hb, hc⟩
      · exfalso; have := hnH.out; rw [h0] at this; simp at this; omega
      have hlt' : k < xs.length := by have := hnH.out; omega
      have hcell := hc k hlt'
      clear hc
      obtain ⟨x, hx⟩ : ∃ x, xs[k]?.getD 0 = x := ⟨_, rfl⟩
      rw [hx] at hcell
      have hs1 : x < lo ∨ hi < x → allIn lo hi xs = false := fun h => allIn_false hlt' (by rw [hx]; exact h)
      have hs2 : lo ≤ x → x ≤ hi → allIn lo hi (xs.take (k + 1)) = true := fun h1 h2 => allIn_succ hlt' hall (by rw [hx]; exact h1) (by rw [hx]; exact h2)
      have hs1H := Lib.hid hs1
      have hs2H := Lib.hid hs2
      clear hx hlt' hs1 hs2
      by_cases h1 : x < lo
      · go_wp2
        go_ret
        exact ⟨ret_bool (hs1H.out (.inl h1)).symm, rfl⟩
      · by_cases h2 : hi < x
        · go_wp2
          go_ret
          exact ⟨ret_bool (hs1H.out (.inr h2)).symm, rfl⟩
        · go_wp2
          go_round
          case rel => exact ⟨k + 1, by omega, by go_num, hs2H.out (by omega) (by omega)⟩
          case measure => simp [intOf]; omega
    · go_wp2
      go_ret
      exact ⟨ret_bool (by rw [List.take_of_length_le (by have := hnH.out; omega)] at hall; exact hall.symm), rfl⟩

/-- A number brought into a range. -/
def clamp (n lo hi : Int) : Int := max lo (min n hi)

theorem into_any (n lo hi : Int) (w : World) :
    Calls Tryz.prog 100 #[.int .i64 n, .int .i64 lo, .int .i64 hi] w fun e w' => e = .returned (.int .i64 (clamp n lo hi)) ∧ w = w' := by
  go_enter Tryz.func100, Tryz.ntmps100
  go_wp2
  all_goals (go_ret; exact ⟨ret_int (by unfold clamp; omega), rfl⟩)

theorem value_any (n : Int) (w : World) :
    Calls Tryz.prog 121 #[.int .i64 n] w fun e w' => e = .returned (.int .i64 (clamp n (-2147483648) 2147483648)) ∧ w = w' := by
  go_enter Tryz.func121, Tryz.ntmps121
  go_wp2_with (go_at_call 100; refine (into_any _ _ _ _).mono ?_; rintro e w' ⟨rfl, rfl⟩)
  go_ret
  exact ⟨rfl, rfl⟩

theorem floor_any (a b : Int) (w : World) (h1 : -4611686018427387904 ≤ a) (h2 : a ≤ 4611686018427387904) (h3 : 1 ≤ b) (h4 : b ≤ 4611686018427387904) :
    Calls Tryz.prog 101 #[.int .i64 a, .int .i64 b] w fun e w' => e = .returned (.int .i64 (a / b)) ∧ w = w' := by
  have hf := Lib.hid (floor_lem a b h1 h2 h3 h4)
  go_enter Tryz.func101, Tryz.ntmps101
  go_wp2
  all_goals go_ret
  · exact ⟨ret_int (hf.out.1 (by assumption)), rfl⟩
  · exact ⟨ret_int (hf.out.2 (by assumption)), rfl⟩

/-- A number is in a range. -/
def inR (n lo hi : Int) : Bool := decide (lo ≤ n) && decide (n ≤ hi)

theorem rwithin_any (n lo hi : Int) (w : World) :
    Calls Tryz.prog 102 #[.int .i64 n, .int .i64 lo, .int .i64 hi] w fun e w' => e = .returned (.bool (inR n lo hi)) ∧ w = w' := by
  by_cases h1 : lo ≤ n
  · by_cases h2 : n ≤ hi
    · go_enter Tryz.func102, Tryz.ntmps102
      go_wp2
      go_ret
      exact ⟨ret_bool (by simp [inR, h1, h2]), rfl⟩
    · go_enter Tryz.func102, Tryz.ntmps102
      go_wp2
      go_ret
      exact ⟨ret_bool (by simp [inR, h1, h2]), rfl⟩
  · go_enter Tryz.func102, Tryz.ntmps102
    go_wp2
    go_ret
    exact ⟨ret_bool (by simp [inR]; omega), rfl⟩

end Go.Proofs.YtbfigbpjoaccdaaGreat

namespace Go.Proofs.YtbfigbpjoaccdaaGreat
open Go Go.RowKit Go.Shelf
set_option linter.unusedVariables false
set_option linter.unusedSimpArgs false

/-- The pixel with an index. -/
def px (xs : List Int) (i : Int) : Int := xs[i.toNat]?.getD 0

/-- An image's value. -/
abbrev imv (iw ih : Int) (a : Option Addr) (n c : Nat) : Value := .agg #[.int .i64 iw, .int .i64 ih, .slice a n c]

theorem within1 (lo hi x : Int) (v : Bool) (hv : inR x lo hi = v) (b o : Nat) (c : Nat) (w : World) (h : w.cell? ⟨b, o, none⟩ = some (.int .i64 x)) :
    Calls Tryz.prog 80 #[.int .i64 lo, .int .i64 hi, .slice (some ⟨b, o, none⟩) 1 c] w fun e w' => e = .returned (.bool v) ∧ w = w' := by
  subst hv
  have h' := within_any lo hi (some ⟨b, o, none⟩) c [x] w (by simp) (.inr ⟨b, o, rfl, World.block_lt_of_cell? w _ h, fun i hi => by
    have : i = 0 := by simp at hi; omega
    subst this; exact h⟩)
  refine h'.mono fun e w' ⟨he, hw⟩ => ⟨he.trans (ret_bool (by simp [allIn, inR])), hw⟩

theorem within2 (lo hi x y : Int) (v : Bool) (hv : (inR x lo hi && inR y lo hi) = v) (b o : Nat) (c : Nat) (w : World) (h : w.cell? ⟨b, o, none⟩ = some (.int .i64 x)) (h1 : w.cell? ⟨b, o + 1, none⟩ = some (.int .i64 y)) :
    Calls Tryz.prog 80 #[.int .i64 lo, .int .i64 hi, .slice (some ⟨b, o, none⟩) 2 c] w fun e w' => e = .returned (.bool v) ∧ w = w' := by
  subst hv
  have h' := within_any lo hi (some ⟨b, o, none⟩) c [x, y] w (by simp) (.inr ⟨b, o, rfl, World.block_lt_of_cell? w _ h, fun i hi => by
    have : i = 0 ∨ i = 1 := by simp at hi; omega
    rcases this with rfl | rfl
    · exact h
    · exact h1⟩)
  refine h'.mono fun e w' ⟨he, hw⟩ => ⟨he.trans (ret_bool (by simp [allIn, inR])), hw⟩

set_option maxHeartbeats 400000 in
theorem at_any (iw ih x y : Int) (a : Option Addr) (c : Nat) (xs : List Int) (n : Nat) (hn : Hid (xs.length = n)) (w : World) (b1 : -4611686018427387904 ≤ y * iw) (b2 : y * iw ≤ 4611686018427387904) (h0 : 0 ≤ y * iw + x) (h1 : y * iw + x < n) (hm : n ≤ 9223372036854775807) (hr : Rd w.heap.size w a xs) :
    Calls Tryz.prog 79 #[imv iw ih a n c, .int .i64 x, .int .i64 y] w fun e w' => e = .returned (.int .i64 (px xs (y * iw + x))) ∧ Below w.heap.size w w' := by
  rcases hr with h | ⟨b, o, rfl, hb, hc⟩
  · exfalso; have := hn.out; rw [h] at this; simp at this; omega
  obtain ⟨v, hv⟩ : ∃ v, px xs (y * iw + x) = v := ⟨_, rfl⟩
  have hcell := hc (y * iw + x).toNat (by have := hn.out; omega)
  unfold px at hv
  rw [hv] at hcell
  have hvH := Lib.hid hv
  clear hc hv
  go_enter Tryz.func79, Tryz.ntmps79
  go_wp2
  go_ret
  exact ⟨ret_int (by unfold px; exact hvH.out.symm), (Below.refl _ _).alloc (Nat.le_refl _) _⟩

set_option maxHeartbeats 400000 in
theorem inside_any (iw ih x y : Int) (s : Value) (w : World) (b1 : -4611686018427387904 ≤ iw) (b2 : iw ≤ 4611686018427387904) (b3 : -4611686018427387904 ≤ ih) (b4 : ih ≤ 4611686018427387904) (hs : ∃ a n c, s = .slice a n c) :
    Calls Tryz.prog 129 #[.agg #[.int .i64 iw, .int .i64 ih, s], .int .i64 x, .int .i64 y] w fun e w' => e = .returned (.bool (inR x 0 (iw - 1) && inR y 0 (ih - 1))) ∧ Below w.heap.size w w' := by
  obtain ⟨a, n, c, rfl⟩ := hs
  cases h : inR x 0 (iw - 1) with
  | true =>
    obtain ⟨v2, h2⟩ : ∃ v, inR y 0 (ih - 1) = v := ⟨_, rfl⟩
    rw [h2]
    have hH := Lib.hid h
    have hH2 := Lib.hid h2
    clear h h2
    go_enter Tryz.func129, Tryz.ntmps129
    go_wp2_with fail
    refine (within1 0 (iw - 1) x true hH.out _ _ _ _ ?_).mono ?_
    · exact cell_new (by simp) rfl
    rintro e w' ⟨rfl, rfl⟩
    go_wp2_with fail
    refine (within1 0 (ih - 1) y v2 hH2.out _ _ _ _ ?_).mono ?_
    · exact cell_new (by simp) rfl
    rintro e w' ⟨rfl, rfl⟩
    go_wp2_with fail
    go_ret
    exact ⟨ret_bool (by simp), (((Below.refl _ _).alloc (Nat.le_refl _) _).alloc (by simp) _).alloc (by simp <;> omega) _⟩
  | false =>
    have hH := Lib.hid h
    clear h
    go_enter Tryz.func129, Tryz.ntmps129
    go_wp2_with fail
    refine (within1 0 (iw - 1) x false hH.out _ _ _ _ ?_).mono ?_
    · exact cell_new (by simp) rfl
    rintro e w' ⟨rfl, rfl⟩
    go_wp2_with fail
    go_ret
    exact ⟨ret_bool (by simp), (((Below.refl _ _).alloc (Nat.le_refl _) _).alloc (by simp) _)⟩

/-- An image is valid. -/
def vld (iw ih : Int) (xs : List Int) : Bool := ((inR iw 1 16 && inR ih 1 16) && decide ((xs.length : Int) = iw * ih)) && allIn (-2147483648) 2147483648 xs

theorem inR_true {n lo hi : Int} : inR n lo hi = true ↔ lo ≤ n ∧ n ≤ hi := by simp [inR]

theorem vld_true {iw ih : Int} {xs : List Int} (h : vld iw ih xs = true) : (1 ≤ iw ∧ iw ≤ 16) ∧ (1 ≤ ih ∧ ih ≤ 16) ∧ (xs.length : Int) = iw * ih ∧ allIn (-2147483648) 2147483648 xs = true := by
  simp only [vld, Bool.and_eq_true, inR_true, decide_eq_true_eq] at h
  exact ⟨h.1.1.1, h.1.1.2, h.1.2, h.2⟩

theorem len_dec (n : Nat) (p : Int) : decide ((n : Int) = p) = ((n : Int) == p) := by
  by_cases h : (n : Int) = p <;> simp [h]

set_option maxHeartbeats 1000000 in
theorem valid_any (iw ih : Int) (a : Option Addr) (c : Nat) (xs : List Int) (n : Nat) (hn : Hid (xs.length = n)) (w : World) (hm : n ≤ 9223372036854775807) (hr : Rd w.heap.size w a xs) :
    Calls Tryz.prog 76 #[imv iw ih a n c] w fun e w' => e = .returned (.bool (vld iw ih xs)) ∧ Below w.heap.size w w' := by
  have hvl : vld iw ih xs = (((inR iw 1 16 && inR ih 1 16) && ((n : Int) == iw * ih)) && allIn (-2147483648) 2147483648 xs) := by rw [← hn.out, ← len_dec]; rfl
  cases h1 : (inR iw 1 16 && inR ih 1 16) with
  | false =>
    have hv : vld iw ih xs = false := by rw [hvl, h1]; rfl
    have hvH := Lib.hid hv
    have hH := Lib.hid h1
    clear h1 hv hvl
    go_enter Tryz.func76, Tryz.ntmps76
    go_wp2_with fail
    refine (within2 1 16 iw ih false hH.out _ _ _ _ ?_ ?_).mono ?_
    · exact cell_new (by simp) rfl
    · exact cell_new (by simp) rfl
    rintro e w' ⟨rfl, rfl⟩
    go_wp2_with fail
    go_ret
    exact ⟨ret_bool hvH.out.symm, ((Below.refl _ _).alloc (Nat.le_refl _) _).alloc (by simp) _⟩
  | true =>
    have hh := h1
    simp only [Bool.and_eq_true, inR_true] at hh
    obtain ⟨⟨i1, i2⟩, i3, i4⟩ := hh
    obtain ⟨m1, m2⟩ := mul_small (a := iw) (b := ih) (by omega) i2 (by omega) i4
    cases h2 : ((n : Int) == iw * ih) with
    | false =>
      have hv : vld iw ih xs = false := by rw [hvl, h1, h2]; rfl
      have hvH := Lib.hid hv
      have hH := Lib.hid h1
      clear h1 hv hvl
      go_enter Tryz.func76, Tryz.ntmps76
      go_wp2_with fail
      refine (within2 1 16 iw ih true hH.out _ _ _ _ ?_ ?_).mono ?_
      · exact cell_new (by simp) rfl
      · exact cell_new (by simp) rfl
      rintro e w' ⟨rfl, rfl⟩
      go_wp2_with fail
      go_ret
      exact ⟨ret_bool hvH.out.symm, ((Below.refl _ _).alloc (Nat.le_refl _) _).alloc (by simp) _⟩
    | true =>
      have hv : vld iw ih xs = allIn (-2147483648) 2147483648 xs := by rw [hvl, h1, h2]; rfl
      have hvH := Lib.hid hv
      have hH := Lib.hid h1
      clear h1 hv hvl
      go_enter Tryz.func76, Tryz.ntmps76
      go_wp2_with fail
      refine (within2 1 16 iw ih true hH.out _ _ _ _ ?_ ?_).mono ?_
      · exact cell_new (by simp) rfl
      · exact cell_new (by simp) rfl
      rintro e w' ⟨rfl, rfl⟩
      go_wp2_with fail
      have hw := within_any (-2147483648) 2147483648 a c xs ((w.alloc (.cells #[.int .i64 iw, .int .i64 ih, .slice a n c] 27)).alloc (.cells #[.int .i64 iw, .int .i64 ih] 3)) (by rw [hn.out]; exact hm)
        ((hr.below (Nat.le_refl _) (((Below.refl _ _).alloc (Nat.le_refl _) _).alloc (by simp) _)).mono (by simp <;> omega))
      rw [hn.out] at hw
      refine hw.mono ?_
      rintro e w' ⟨rfl, rfl⟩
      go_wp2_with fail
      go_ret
      exact ⟨ret_bool (by rw [hvH.out]), ((Below.refl _ _).alloc (Nat.le_refl _) _).alloc (by simp) _⟩


theorem rwithin1 (n lo hi : Int) (v : Bool) (hv : inR n lo hi = v) (w : World) :
    Calls Tryz.prog 102 #[.int .i64 n, .int .i64 lo, .int .i64 hi] w fun e w' => e = .returned (.bool v) ∧ w = w' := by
  subst hv
  exact rwithin_any n lo hi w

set_option maxHeartbeats 1000000 in
theorem Valid_any (iw ih : Int) (a : Option Addr) (c : Nat) (xs : List Int) (n : Nat) (hn : Hid (xs.length = n)) (w : World) (hm : n ≤ 9223372036854775807) (hr : Rd w.heap.size w a xs) :
    Calls Tryz.prog 60 #[imv iw ih a n c] w fun e w' => e = .returned (.bool (vld iw ih xs)) ∧ Below w.heap.size w w' := by
  have hvl : vld iw ih xs = (((inR iw 1 16 && inR ih 1 16) && !((n : Int) != iw * ih)) && allIn (-2147483648) 2147483648 xs) := by rw [← hn.out]; simp only [vld, len_dec, bne, Bool.not_not]
  cases h1 : inR iw 1 16 with
  | false =>
    have hv : vld iw ih xs = false := by rw [hvl, h1]; rfl
    have hvH := Lib.hid hv
    have hH := Lib.hid h1
    clear h1 hv hvl
    go_enter Tryz.func60, Tryz.ntmps60
    go_wp2_with fail
    refine (rwithin1 iw 1 16 false hH.out _).mono ?_
    rintro e w' ⟨rfl, rfl⟩
    go_wp2_with fail
    go_ret
    exact ⟨ret_bool hvH.out.symm, ((Below.refl _ _).alloc (Nat.le_refl _) _)⟩
  | true =>
    cases h2 : inR ih 1 16 with
    | false =>
      have hv : vld iw ih xs = false := by rw [hvl, h1, h2]; rfl
      have hvH := Lib.hid hv
      have hH := Lib.hid h1
      have hH2 := Lib.hid h2
      clear h1 h2 hv hvl
      go_enter Tryz.func60, Tryz.ntmps60
      go_wp2_with fail
      refine (rwithin1 iw 1 16 true hH.out _).mono ?_
      rintro e w' ⟨rfl, rfl⟩
      go_wp2_with fail
      refine (rwithin1 ih 1 16 false hH2.out _).mono ?_
      rintro e w' ⟨rfl, rfl⟩
      go_wp2_with fail
      go_ret
      exact ⟨ret_bool hvH.out.symm, ((Below.refl _ _).alloc (Nat.le_refl _) _)⟩
    | true =>
      obtain ⟨i1, i2⟩ := inR_true.1 h1
      obtain ⟨i3, i4⟩ := inR_true.1 h2
      obtain ⟨m1, m2⟩ := mul_small (a := iw) (b := ih) (by omega) i2 (by omega) i4
      cases h3 : ((n : Int) != iw * ih) with
      | true =>
        have hv : vld iw ih xs = false := by rw [hvl, h1, h2, h3]; rfl
        have hvH := Lib.hid hv
        have hH := Lib.hid h1
        have hH2 := Lib.hid h2
        clear h1 h2 hv hvl
        go_enter Tryz.func60, Tryz.ntmps60
        go_wp2_with fail
        refine (rwithin1 iw 1 16 true hH.out _).mono ?_
        rintro e w' ⟨rfl, rfl⟩
        go_wp2_with fail
        refine (rwithin1 ih 1 16 true hH2.out _).mono ?_
        rintro e w' ⟨rfl, rfl⟩
        go_wp2_with fail
        go_ret
        exact ⟨ret_bool hvH.out.symm, ((Below.refl _ _).alloc (Nat.le_refl _) _)⟩
      | false =>
        have hv : vld iw ih xs = allIn (-2147483648) 2147483648 xs := by rw [hvl, h1, h2, h3]; rfl
        have hvH := Lib.hid hv
        have hH := Lib.hid h1
        have hH2 := Lib.hid h2
        clear h1 h2 hv hvl
        go_enter Tryz.func60, Tryz.ntmps60
        go_wp2_with fail
        refine (rwithin1 iw 1 16 true hH.out _).mono ?_
        rintro e w' ⟨rfl, rfl⟩
        go_wp2_with fail
        refine (rwithin1 ih 1 16 true hH2.out _).mono ?_
        rintro e w' ⟨rfl, rfl⟩
        go_wp2_with fail
        have h3H := Lib.hid h3
        clear h3
        go_loop [3] (fun i => ∃ k : Nat, k ≤ n ∧ i = .int .i64 k ∧ allIn (-2147483648) 2147483648 (xs.take k) = true) (fun i => n - (intOf i).toNat)
        case atStart => exact ⟨0, Nat.zero_le _, rfl, by simp [allIn]⟩
        case round =>
          obtain ⟨k, hk, rfl, hall⟩ := hrel
          by_cases hlt : k < n
          · rcases hr with h0 | ⟨b, o, rfl, hb, hc⟩
            · exfalso; have := hn.out; rw [h0] at this; simp at this; omega
            have hlt' : k < xs.length := by have := hn.out; omega
            have hcell := hc k hlt'
            clear hc
            obtain ⟨x, hx⟩ : ∃ x, xs[k]?.getD 0 = x := ⟨_, rfl⟩
            rw [hx] at hcell
            have hs1 : x < -2147483648 ∨ 2147483648 < x → allIn (-2147483648) 2147483648 xs = false := fun h => allIn_false hlt' (by rw [hx]; exact h)
            have hs2 : -2147483648 ≤ x → x ≤ 2147483648 → allIn (-2147483648) 2147483648 (xs.take (k + 1)) = true := fun h1 h2 => allIn_succ hlt' hall (by rw [hx]; exact h1) (by rw [hx]; exact h2)
            have hs1H := Lib.hid hs1
            have hs2H := Lib.hid hs2
            clear hx hlt' hs1 hs2
            cases h4 : inR x (-2147483648) 2147483648 with
            | false =>
              have h4H := Lib.hid h4
              clear h4
              go_wp2_with fail
              refine (rwithin1 x _ _ false h4H.out _).mono ?_
              rintro e w' ⟨rfl, rfl⟩
              go_wp2_with fail
              go_ret
              exact ⟨ret_bool (by rw [hvH.out, hs1H.out (by have := h4H.out; simp [inR] at this; omega)]), ((Below.refl _ _).alloc (Nat.le_refl _) _)⟩
            | true =>
              have h4H := Lib.hid h4
              clear h4
              go_wp2_with fail
              refine (rwithin1 x _ _ true h4H.out _).mono ?_
              rintro e w' ⟨rfl, rfl⟩
              go_wp2_with fail
              go_round
              case rel => exact ⟨k + 1, by omega, by go_num, hs2H.out (inR_true.1 h4H.out).1 (inR_true.1 h4H.out).2⟩
              case measure => simp [intOf]; omega
          · go_wp2
            go_ret
            exact ⟨ret_bool (by rw [hvH.out]; rw [List.take_of_length_le (by have := hn.out; omega)] at hall; exact hall.symm), ((Below.refl _ _).alloc (Nat.le_refl _) _)⟩

end Go.Proofs.YtbfigbpjoaccdaaGreat

namespace Go.Proofs.YtbfigbpjoaccdaaGreat
open Go Go.RowKit Go.Shelf
set_option linter.unusedVariables false
set_option linter.unusedSimpArgs false

theorem jinfo_int : (Tryz.prog.info? 3).map (fun i => (i.zero, i.size, i.bytes)) = some (some (.int .i64 0), 1, 8) := by kernel_rfl
theorem jinfo_u8 : (Tryz.prog.info? 5).map (fun i => (i.zero, i.size, i.bytes)) = some (some (.int .u8 0), 1, 1) := by kernel_rfl

theorem jb_al {a w : World} (h : Below a.heap.size a w) (o : Obj) : Below a.heap.size a (w.alloc o) := h.alloc h.size o

/-- A byte. -/
def vu8 (x : Nat) : Value := .int .u8 (x : Int)

/-- The slice at 'a' reads as the bytes 'xs', in blocks below 'B'. -/
def RdN (B : Nat) (W : World) (a : Option Addr) (xs : List Nat) : Prop :=
  xs = [] ∨ ∃ b o, a = some ⟨b, o, none⟩ ∧ b < B ∧ ∀ i, i < xs.length → W.cell? ⟨b, o + i, none⟩ = some (.int .u8 ((xs[i]?.getD 0 : Nat) : Int))

theorem RdN.below {B B' : Nat} {W W' : World} {a : Option Addr} {xs : List Nat} (h : RdN B W a xs) (hB : B ≤ B') (hb : Below B' W W') : RdN B W' a xs := by
  rcases h with h | ⟨b, o, h1, h2, h3⟩
  · exact .inl h
  · exact .inr ⟨b, o, h1, h2, fun i hi => (hb.cell (p := ⟨b, o + i, none⟩) (by show b < B'; omega)).trans (h3 i hi)⟩
theorem RdN.mono {B B' : Nat} {W : World} {a : Option Addr} {xs : List Nat} (h : RdN B W a xs) (hB : B ≤ B') : RdN B' W a xs := by
  rcases h with h | ⟨b, o, h1, h2, h3⟩
  · exact .inl h
  · exact .inr ⟨b, o, h1, by omega, h3⟩

/-- The slice at 'a' reads as the slices of bytes 'xss', in blocks below 'B'. -/
def RdL (B : Nat) (W : World) (a : Option Addr) (xss : List (List Nat)) : Prop :=
  xss = [] ∨ ∃ b o, a = some ⟨b, o, none⟩ ∧ b < B ∧ ∀ i xs, xss[i]? = some xs → ∃ a' c', W.cell? ⟨b, o + i, none⟩ = some (.slice a' xs.length c') ∧ RdN B W a' xs

theorem RdL.below {B B' : Nat} {W W' : World} {a : Option Addr} {xss : List (List Nat)} (h : RdL B W a xss) (hB : B ≤ B') (hb : Below B' W W') : RdL B W' a xss := by
  rcases h with h | ⟨b, o, h1, h2, h3⟩
  · exact .inl h
  · refine .inr ⟨b, o, h1, h2, fun i xs hi => ?_⟩
    obtain ⟨a', c', h4, h5⟩ := h3 i xs hi
    exact ⟨a', c', (hb.cell (p := ⟨b, o + i, none⟩) (by show b < B'; omega)).trans h4, h5.below hB hb⟩
theorem RdL.mono {B B' : Nat} {W : World} {a : Option Addr} {xss : List (List Nat)} (h : RdL B W a xss) (hB : B ≤ B') : RdL B' W a xss := by
  rcases h with h | ⟨b, o, h1, h2, h3⟩
  · exact .inl h
  · refine .inr ⟨b, o, h1, by omega, fun i xs hi => ?_⟩
    obtain ⟨a', c', h4, h5⟩ := h3 i xs hi
    exact ⟨a', c', h4, h5.mono hB⟩
theorem RdL.at {B : Nat} {W : World} {a : Option Addr} {xss : List (List Nat)} (h : RdL B W a xss) {i : Nat} {xs : List Nat} (hi : xss[i]? = some xs) :
    ∃ b o, a = some ⟨b, o, none⟩ ∧ b < B ∧ ∃ a' c', W.cell? ⟨b, o + i, none⟩ = some (.slice a' xs.length c') ∧ RdN B W a' xs := by
  rcases h with h | ⟨b, o, h1, h2, h3⟩
  · subst h; simp at hi
  · exact ⟨b, o, h1, h2, h3 i xs hi⟩

/-- What a row of bytes holds can be read. -/
theorem rowN_rd {W : World} {base : Nat} {a : Option Addr} {c n : Nat} {xs : List Nat} (hn : xs.length = n) (h : W.ownsRow base 5 1 (.slice a n c) n (xs.map vu8)) : RdN W.heap.size W a xs := by
  subst hn
  rcases h.2 with ⟨h1, h2⟩ | ⟨g, cap, cur, h1, _, hg, _⟩
  · exact .inl (List.eq_nil_of_length_eq_zero h2)
  · simp only [Value.slice.injEq, true_and] at h1
    obtain ⟨rfl, rfl⟩ := h1
    refine .inr ⟨g, 0, rfl, (Array.getElem?_eq_some_iff.1 hg).1, fun i hi => ?_⟩
    have := h.cellAt i (by omega)
    rw [Nat.zero_add, this]
    simp [hi, vu8]

/-- What a row of integers holds can be read. -/
theorem rowI_rd {W : World} {base : Nat} {a : Option Addr} {c n : Nat} {xs : List Int} (hn : xs.length = n) (h : W.ownsRow base 3 1 (.slice a n c) n (xs.map (Value.int .i64))) : Rd W.heap.size W a xs := by
  subst hn
  rcases h.2 with ⟨h1, h2⟩ | ⟨g, cap, cur, h1, _, hg, _⟩
  · exact .inl (List.eq_nil_of_length_eq_zero h2)
  · simp only [Value.slice.injEq, true_and] at h1
    obtain ⟨rfl, rfl⟩ := h1
    refine .inr ⟨g, 0, rfl, (Array.getElem?_eq_some_iff.1 hg).1, fun i hi => ?_⟩
    have := h.cellAt i (by omega)
    rw [Nat.zero_add, this]
    simp [hi]

theorem jrow_slice {W : World} {base : Nat} {e : TypeId} {size : Nat} {v : Value} {k : Nat} {xs : List Value} (h : W.ownsRow base e size v k xs) : ∃ a c, v = .slice a k c := by
  rcases h.2 with ⟨h1, h2⟩ | ⟨g, cap, cur, h1, _⟩
  · exact ⟨none, 0, by rw [h1, h2]⟩
  · exact ⟨_, _, h1⟩

theorem jmade_int (n : Nat) : (madeCells (Value.int .i64 0).cells (n * 1)).toList = (List.replicate n (0 : Int)).map (Value.int .i64) := by
  rw [Nat.mul_one]
  refine List.ext_getElem (by simp [size_madeCells]) fun i h1 h2 => ?_
  simp [madeCells, Value.cells, Nat.mod_one]
theorem jmade_u8 (n : Nat) : (madeCells (Value.int .u8 0).cells (n * 1)).toList = (List.replicate n (0 : Nat)).map vu8 := by
  rw [Nat.mul_one]
  refine List.ext_getElem (by simp [size_madeCells]) fun i h1 h2 => ?_
  simp [madeCells, Value.cells, Nat.mod_one, vu8]

theorem map_set_u8 (ys : List Nat) (k z : Nat) : (ys.map vu8).set k (.int .u8 (z : Int)) = (ys.set k z).map vu8 := by rw [List.map_set]; rfl
theorem map_set_i (ys : List Int) (k : Nat) (z : Int) : (ys.map (Value.int .i64)).set k (.int .i64 z) = (ys.set k z).map (Value.int .i64) := by rw [List.map_set]

set_option maxHeartbeats 400000 in
theorem jwithin_any (lo hi : Int) (a : Option Addr) (c : Nat) (xs : List Int) (w : World) (hl : xs.length ≤ 9223372036854775807) (hr : Rd w.heap.size w a xs) :
    Calls Tryz.prog 48 #[.int .i64 lo, .int .i64 hi, .slice a xs.length c] w fun e w' => e = .returned (.bool (allIn lo hi xs)) ∧ w = w' := by
  obtain ⟨n, hn⟩ : ∃ n, xs.length = n := ⟨_, rfl⟩
  rw [hn] at hl ⊢
  have hnH := Lib.hid hn
  clear hn
  go_enter Tryz.func48, Tryz.ntmps48
  go_wp2
  go_loop [8, 11] (fun v i => ∃ k : Nat, k ≤ n ∧ i = .int .i64 k ∧ allIn lo hi (xs.take k) = true) (fun _ i => n - (intOf i).toNat)
  case atStart => exact ⟨0, Nat.zero_le _, rfl, by simp [allIn]⟩
  case round =>
    obtain ⟨k, hk, rfl, hall⟩ := hrel
    by_cases hlt : k < n
    · rcases hr with h0 | ⟨b, o, rfl, hb, hc⟩
      · exfalso; have := hnH.out; rw [h0] at this; simp at this; omega
      have hlt' : k < xs.length := by have := hnH.out; omega
      have hcell := hc k hlt'
      clear hc
      obtain ⟨x, hx⟩ : ∃ x, xs[k]?.getD 0 = x := ⟨_, rfl⟩
      rw [hx] at hcell
      have hs1 : x < lo ∨ hi < x → allIn lo hi xs = false := fun h => allIn_false hlt' (by rw [hx]; exact h)
      have hs2 : lo ≤ x → x ≤ hi → allIn lo hi (xs.take (k + 1)) = true := fun h1 h2 => allIn_succ hlt' hall (by rw [hx]; exact h1) (by rw [hx]; exact h2)
      have hs1H := Lib.hid hs1
      have hs2H := Lib.hid hs2
      clear hx hlt' hs1 hs2
      by_cases h1 : x < lo
      · go_wp2
        go_ret
        exact ⟨ret_bool (hs1H.out (.inl h1)).symm, rfl⟩
      · by_cases h2 : hi < x
        · go_wp2
          go_ret
          exact ⟨ret_bool (hs1H.out (.inr h2)).symm, rfl⟩
        · go_wp2
          go_round
          case rel => exact ⟨k + 1, by omega, by go_num, hs2H.out (by omega) (by omega)⟩
          case measure => simp [intOf]; omega
    · go_wp2
      go_ret
      exact ⟨ret_bool (by rw [List.take_of_length_le (by have := hnH.out; omega)] at hall; exact hall.symm), rfl⟩

end Go.Proofs.YtbfigbpjoaccdaaGreat

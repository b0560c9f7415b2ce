/- The program's head: what a row asks of it, the head's words read once. -/
import Derived.Test.YtbfigbpjoaccdaaRows
import Derived.ProofKit
import Derived.JoinedCond
namespace Go.Proofs.Ytbfigbpjoaccdaa
open Go Go.ChangeShapes Go.WideShapes Go.ChangeAt Go.RowKit
set_option linter.unusedVariables false
set_option maxRecDepth 100000

theorem io_head : (behindMainWord (wordsSigns Try.prog.initOrder.toList)).head? = some "cut".toList := by
  rw [show Try.prog.initOrder = String.ofList _ from rfl, String.toList_ofList]
  kernel_rfl

theorem words_of (P : Program) (h : (behindMainWord (wordsSigns P.initOrder.toList)).head? = some "cut".toList) : ∃ rest, behindMainWord (wordsSigns P.initOrder.toList) = "cut".toList :: rest := by
  generalize behindMainWord (wordsSigns P.initOrder.toList) = l at h
  cases l with
  | nil => simp at h
  | cons c rest =>
    simp only [List.head?_cons, Option.some.injEq] at h
    exact ⟨rest, by rw [h]⟩

theorem strip_cut (rest : List (List Char)) : stripLifts liftWords ("cut".toList :: rest) = ([], "cut".toList :: rest) := by
  kernel_rfl

theorem may_of (P : Program) (h : (behindMainWord (wordsSigns P.initOrder.toList)).head? = some "cut".toList) (h1 : P.laysLater = false) (h2 : P.bearsReflect = false) (h3 : P.doorFits [] = true) : P.mayEnter = true := by
  obtain ⟨rest, h⟩ := words_of P h
  unfold Program.mayEnter
  rw [h]
  simp only [strip_cut, h1, h2, h3]
  simp

theorem lifts_of (P : Program) (h : (behindMainWord (wordsSigns P.initOrder.toList)).head? = some "cut".toList) : P.headLifts = [] := by
  obtain ⟨rest, h⟩ := words_of P h
  unfold Program.headLifts
  rw [h]
  simp only [strip_cut]
  simp

theorem make_of (P : Program) (h : (behindMainWord (wordsSigns P.initOrder.toList)).head? = some "cut".toList) : P.make = some .cut := by
  obtain ⟨rest, h⟩ := words_of P h
  unfold Program.make
  rw [h]
  simp

theorem final_of (P : Program) (h : (behindMainWord (wordsSigns P.initOrder.toList)).head? = some "cut".toList) : P.liftsFinal = false := by
  have h0 := lifts_of P h
  obtain ⟨rest, h⟩ := words_of P h
  unfold Program.liftsFinal
  rw [h, h0]
  simp

theorem may_try : Try.prog.mayEnter = true := may_of _ io_head (by kernel_rfl) (by kernel_rfl) (by kernel_rfl)
theorem make_try : Try.prog.make = some .cut := make_of _ io_head
theorem final_try : Try.prog.liftsFinal = false := final_of _ io_head

/-- What a row asks of the program, limb by limb. The head's limbs are taken from above. -/
theorem facts_of (f : FuncId) (fn : Func) (s : ChangeSpec) (c : OpenClaim) (hmake : c.make = .cut) (hlift : c.lifted = false)
    (h1 : (c.wf (OpenSpec.ofChange s) && laidOutB Try.prog && mapsRowed Try.prog &&
  fn.params.all (Try.prog.readableRec ·) && namedTie Try.prog c.named s.vars &&
  (c.stops == []) && (Try.prog.stops == []) && (c.knobs == []) && (Try.prog.stopKnobs == [])) = true)
    (h2 : (c.inPlace == Try.prog.inPlace f) = true) (h3 : (c.unfollowed == Try.prog.unfollowed f) = true) (h4 : (c.recurses == Try.prog.recurses f) = true) (h5 : (c.named == Try.prog.varsNamed f) = true)
    (h6 : ((c.maps == (fn.params.toList ++ s.plain.varTypes Try.prog).any (Try.prog.mapsRec ·)) && (c.ifaces == (fn.params.toList ++ s.plain.varTypes Try.prog).any (Try.prog.ifacesRec ·)) && (c.mapsOut == Try.prog.mapsAmong fn.resultTypes.toList) &&
  (c.loops == (fn.params.toList ++ s.plain.varTypes Try.prog).any (Try.prog.loopsFrom ·)) && (c.wideKeys == (fn.params.toList ++ s.plain.varTypes Try.prog ++ fn.resultTypes.toList).any (Try.prog.wideKeysFrom ·))) = true)
    (h7 : (s.vars.all (Try.prog.varReadable ·) && fn.resultTypes.all (fun t => Try.prog.readableRec t && decide (t < Try.prog.types.size)) && (c.ifacesOut == fn.resultTypes.toList.any (Try.prog.ifacesRec ·)) && (c.loopsOut == fn.resultTypes.toList.any (Try.prog.loopsFrom ·)) && (c.plainKeys == Try.prog.plainKeys) && c.shortTexts.isNone && Try.prog.stopsHeard) = true)
    (hdom : c.domain = []) (h8 : c.kinds = []) (h9 : (c.pinned == c.pinnedBy) = true)
    (h10 : ((c.veiled == (fn.params.toList ++ s.plain.varTypes Try.prog ++ fn.resultTypes.toList).any (Try.prog.veiledRec ·)) && c.veiledFits Try.prog fn.params.toList (fn.params.toList ++ s.plain.varTypes Try.prog ++ fn.resultTypes.toList)) = true) :
    joinedFacts Try.prog f fn s c = true := by
  unfold joinedFacts
  simp only [Bool.and_eq_true] at h1 h6 h7 h10 ⊢
  rw [may_try, make_try, final_try, hmake, hlift]
  simp only [h1, h2, h3, h4, h5, h6, h7, hdom, h8, h9, h10, List.isEmpty_nil, if_true, and_self, beq_self_eq_true]
end Go.Proofs.Ytbfigbpjoaccdaa

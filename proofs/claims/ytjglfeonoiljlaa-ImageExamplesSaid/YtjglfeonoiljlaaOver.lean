/- A loop over an iterator whose own body holds a loop over an iterator: what such an iterator promises ('SeqO': the caller's invariant abides every turn of what is no cells, from the call on), and the law of the statement over it. -/
import Derived.Test.YtjglfeonoiljlaaNest
import Derived.Test.YtjglfeonoiljlaaImgO
namespace Go.Proofs.Ytjglfeonoiljlaa
open Go Go.RowKit Go.Shelf
set_option linter.unusedVariables false

def SeqO {α : Type} (P : Program) (g : Nat) (lb : Array Value) (encs : α → Array Value) (Kp : World → World → Prop) (Ok : α → Prop) (S : List α → Prop) (N : Nat) (w : World) : Prop :=
  ∀ (l : Nat) (J : List α → World → Prop) (W : World), Below w.heap.size w W → w.heap.size + 1 < W.heap.size → OwnFrom W.heap.size J →
    (∀ pre x W1, J pre W1 → Ok x → pre.length < N → YieldAt Fence.wide 8 P l (encs x) W1 fun e W' => e = .returned (.bool true) ∧ J (pre ++ [x]) W' ∧ Kp W1 W') →
    J [] W → Calls P g (#[.func (.yield l) #[] #[]] ++ lb) W fun e W' => (∃ v, e = .returned v) ∧ ∃ xs, S xs ∧ J xs W'

theorem ownFrom_le {β : Type} {B B' : Nat} {I : β → World → Prop} (h : OwnFrom B I) (hB : B ≤ B') : OwnFrom B' I :=
  fun s W W' row hs hg hr => h s W W' row hs hg fun r e => ⟨Nat.le_trans hB (hr r e).1, (hr r e).2⟩

/-- One block that lies below B abides what is turned from B on. -/
theorem ownFrom_obj {β : Type} {B k : Nat} {o : Obj} (hk : k < B) : OwnFrom B (fun (_ : β) W => W.heap[k]? = some o) :=
  fun _ W W' row hs hg hr => (hg.block k (Array.getElem?_eq_some_iff.1 hs).1 (fun e => by have := (hr k e.symm).1; omega)).trans hs

theorem wp_over {P : Program} {α : Type} {g : Operand} {ps : Array Tmp} {assign body : Code} {Q : Exit → Act → World → Prop} {a : Act} {w : World} {gf : Nat} {lb : Array Value}
    (hg : a.eval g = .func (.func gf) #[] lb) (eg : ∀ args w, (callFunc gf args).run P w = .ok (.enter gf args) w) {encs : α → Array Value} {Kp : World → World → Prop} {Ok : α → Prop} {S : List α → Prop} {N : Nat} (hseq : SeqO P gf lb encs Kp Ok S N w)
    (hKt : ∀ {A B C : World}, Kp A B → Kp B C → Kp A C) (hKb : ∀ (W : World) (o o' : Obj), W.heap[w.heap.size + 1]? = some o → o.isCells = false → o'.isCells = false → Kp W (W.putObj (w.heap.size + 1) o')) (hps : ∀ x, (encs x).size = ps.size)
    (I : List α → World → Prop) (hI : OwnFrom w.heap.size I) (h0 : I [] w) (act : α → Act)
    (hassign : ∀ (l : Nat) (x : α) (W : World) (K : Act → World → Prop), K (act x) W →
      assign.wpIn (Fence.wide.inRound l) 8 P (Exit.then K (fun _ _ _ => False)) { tmps := (ps.zip (encs x)).foldl (fun t (p, v) => t.setIfInBounds p v) a.tmps, defers := [] } W)
    (hbody : ∀ (l : Nat) (pre : List α) (x : α) (W : World), I pre W → Ok x → pre.length < N → body.wpIn (Fence.wide.inRound l) 8 P (fun e _ W' => e = .normal ∧ KeepsFrom w.heap.size W W' ∧ Kp W W' ∧ I (pre ++ [x]) W') (act x) W)
    (hdone : ∀ (D : Nat) (xs : List α) (W : World), w.heap.size ≤ D → S xs → I xs W → W.heap[D]? = some (.deferred (some [])) → Q .normal { a with defers := { target := .collected D, args := #[] } :: a.defers } W) :
    (Code.rangeFunc g ps assign body).wpIn Fence.wide 10 P Q a w := by
  refine wpIn_rangeFunc fun fn hfn => ?_
  obtain ⟨rc, hrc⟩ : ∃ rc : LoopState → Loop, rc = fun st => { state := st, pending := none, fn, tmps := a.tmps, params := ps, assign, body, defers := w.heap.size } := ⟨_, rfl⟩
  obtain ⟨w1, hw1⟩ : ∃ w1, (w.alloc (.deferred (some []))).alloc (.loop (rc .ready)) = w1 := ⟨_, rfl⟩
  have hs1 : w1.heap.size = w.heap.size + 1 + 1 := by rw [← hw1]; simp
  have hlo : w1.heap[w.heap.size + 1]? = some (.loop (rc .ready)) := by
    have h := World.alloc_heap_new (w.alloc (.deferred (some []))) (.loop (rc .ready))
    rw [World.size_alloc] at h
    rw [← hw1]; exact h
  have hde : w1.heap[w.heap.size]? = some (.deferred (some [])) := by
    rw [← hw1]; exact (Below.heap_alloc _ _ _ (by simp)).trans (World.alloc_heap_new w _)
  have hbel : Below w.heap.size w w1 := by rw [← hw1]; exact below_al (below_al (Below.refl _ w) _) _
  refine ⟨w.heap.size + 1, [{ target := .collected w.heap.size, args := #[] }], w1, { target := .fn (.func gf) lb, args := #[.func (.yield (w.heap.size + 1)) #[] #[]] }, w1, gf,
    #[.func (.yield (w.heap.size + 1)) #[] #[]] ++ lb, w1, ?enter, ?res, fun f' hf' => trivial, ?inv, fun h => by simp [Fence.wide] at h, ?call⟩
  case enter => rw [← hw1, hrc]; exact run_enterLoop_outer _ _ _ _ _
  case res => simp only [resolve, hg]; simp [go_sem]
  case inv => simp [invoke, go_sem, eg]
  case call =>
    refine (callsIn_wide.2 (hseq (w.heap.size + 1) (fun pre W => I pre W ∧ (W.heap[w.heap.size + 1]? = some (.loop (rc .ready)) ∧ W.heap[w.heap.size]? = some (.deferred (some [])))) w1 hbel (by omega)
      ((ownFrom_le hI (by omega)).and ((ownFrom_obj (by omega)).and (ownFrom_obj (by omega)))) ?round ⟨by rw [← hw1]; exact hI.alloc _ (hI.alloc _ h0), hlo, hde⟩)).mono ?_
    case round =>
      rintro pre x W ⟨hi, hl, hd⟩ hok hlt
      have hlW : w.heap.size + 1 < W.heap.size := (Array.getElem?_eq_some_iff.1 hl).1
      have hy := run_yield (P := P) (args := encs x) hl (by rw [hrc]; exact hps x)
      rw [hrc] at hy
      refine ⟨fn, _, assign, body, hy, roundIn_of_wpIn hfn (hassign _ x W _ ?_)⟩
      clear hy
      obtain ⟨V, hV⟩ : ∃ V, W.putObj (w.heap.size + 1) (.loop { rc .ready with state := .busy }) = V := ⟨_, rfl⟩
      refine ⟨V, by rw [← hV]; exact run_beginRound hl (by rw [hrc]), ?_⟩
      have hlV : V.heap[w.heap.size + 1]? = some (.loop { rc .ready with state := .busy }) := by rw [← hV]; exact World.putObj_heap_same hlW
      have hdV : V.heap[w.heap.size]? = some (.deferred (some [])) := by rw [← hV]; exact (World.putObj_heap_other (by omega)).trans hd
      have hiV : I pre V := by rw [← hV]; exact hI.putObj _ hi (by omega) hl rfl
      have hkV : Kp W V := by rw [← hV]; exact hKb W _ _ hl rfl rfl
      clear hV
      refine wpIn_mono (hbody _ pre x V hiV hok hlt) ?_
      rintro e a3 W3 ⟨rfl, hkf, hkp, hi3⟩
      have hl3 := hkf.same _ _ (by omega) hlV rfl
      have hd3 := hkf.same _ _ (Nat.le_refl _) hdV rfl
      have hend := run_endRound (P := P) none hl3
      refine ⟨_, _, hend, rfl, ⟨hI.putObj _ hi3 (by omega) hl3 rfl, ?_, (World.putObj_heap_other (by omega)).trans hd3⟩, hKt hkV (hKt hkp (hKb _ _ _ hl3 rfl rfl))⟩
      refine (World.putObj_heap_same (Array.getElem?_eq_some_iff.1 hl3).1).trans ?_
      rw [hrc]; rfl
    rintro e W2 ⟨⟨v, rfl⟩, xs, hS, hi, hl, hd⟩
    have hend := run_endLoop (P := P) hl (by rw [hrc]; simp)
    refine ⟨none, _, by rw [hrc] at hend; exact hend, ?_⟩
    exact hdone _ xs _ (Nat.le_refl _) hS (hI.putObj _ hi (by omega) hl rfl) ((World.putObj_heap_other (by omega)).trans hd)

/-- What the round of a loop is under a fence's round is what it is under the fence. -/
theorem roundIn_any {P : Program} {m m' l l' : Nat} {f : FuncId} {tmps : Array Value} {assign body : Code} {w : World} {R : Ending → World → Prop} (h : RoundIn Fence.wide m P l f tmps assign body w R) :
    RoundIn (Fence.wide.inRound l') m' P l f tmps assign body w R := ⟨trivial, fun c cs _ => h.2 c cs (room_wide _)⟩

end Go.Proofs.Ytjglfeonoiljlaa

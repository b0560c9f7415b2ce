/- Loops over iterators within a plain loop: the marks that they leave among the deferred calls; a loop whose measure is told by its invariant; 'make' as an operation that may come up. -/
import Derived.Test.YtjglfeonoiljlaaQueue
import Derived.Test.YtjglfeonoiljlaaDist
import Derived.Test.YtjglfeonoiljlaaFork
namespace Go.Proofs.Ytjglfeonoiljlaa
open Go Go.RowKit Go.Shelf
set_option linter.unusedVariables false

def markD (r : Nat) : Deferred := { target := .collected r, args := #[] }
structure Marks (B : Nat) (rs : List Nat) (W : World) : Prop where
  obj : ∀ r ∈ rs, B ≤ r ∧ W.heap[r]? = some (.deferred (some []))
  nd : rs.Nodup

theorem Marks.nil (B : Nat) (W : World) : Marks B [] W := ⟨fun r h => by simp at h, List.nodup_nil⟩
theorem Marks.lt {B : Nat} {rs : List Nat} {W : World} (h : Marks B rs W) {r : Nat} (hr : r ∈ rs) : r < W.heap.size := (Array.getElem?_eq_some_iff.1 (h.obj r hr).2).1
theorem Marks.others {B : Nat} {rs : List Nat} {W W' : World} (h : Marks B rs W) (k : KeepsOthers W W') : Marks B rs W' := ⟨fun r hr => ⟨(h.obj r hr).1, k.same _ _ (h.obj r hr).2 rfl⟩, h.nd⟩
theorem Marks.own {β : Type} {B B' : Nat} {rs : List Nat} (hB : ∀ r ∈ rs, r < B') : OwnFrom B' (fun (_ : β) W => Marks B rs W) := fun _ W W' row h hg hr =>
  ⟨fun r h1 => ⟨(h.obj r h1).1, (hg.block r (h.lt h1) (fun e => by have := (hr r e.symm).1; have := hB r h1; omega)).trans (h.obj r h1).2⟩, h.nd⟩
theorem Marks.push {B D N : Nat} {rs : List Nat} {W : World} (h : Marks B rs W) (hN : ∀ r ∈ rs, r < N) (hD : N ≤ D) (hB : B ≤ D) (hd : W.heap[D]? = some (.deferred (some []))) : Marks B (D :: rs) W where
  obj r hr := by
    rcases List.mem_cons.1 hr with e | e
    · subst e; exact ⟨hB, hd⟩
    · exact h.obj r e
  nd := List.nodup_cons.2 ⟨fun e => by have := hN D e; omega, h.nd⟩

/-- The marks are come to, one by one: cells lie as they lay. -/
theorem leaves_marks {F : Fence} {n : Nat} {P : Program} {fn : Func} {tmps : Array Value} {R : Ending → World → Prop} {B : Nat} : ∀ (rs : List Nat) (W : World), Marks B rs W →
    (∀ W' : World, (∀ (k : Nat) (cs : Array Value) (t : TypeId) (f : Nat × Nat), W.heap[k]? = some (Obj.cells cs t f) → W'.heap[k]? = some (Obj.cells cs t f)) → (∀ b, b ≤ B → b ≤ W.heap.size → Below b W W') → LeavesInM F n P fn tmps R [] .returning W') → LeavesInM F n P fn tmps R (rs.map markD) .returning W
  | [], W, _, h => h W (fun _ _ _ _ e => e) (fun b _ hb => Below.refl b W)
  | r :: rs, W, hm, h => by
    obtain ⟨hB, hr⟩ := hm.obj r (by simp)
    have hnd := List.nodup_cons.1 hm.nd
    refine ⟨by simp, .inl ⟨r, _, rfl, run_takeDeferred hr, ?_⟩⟩
    refine leaves_marks rs _ ⟨fun r' hr' => ⟨(hm.obj r' (by simp [hr'])).1, (World.putObj_heap_other (fun e => hnd.1 (by rw [← e]; exact hr'))).trans (hm.obj r' (by simp [hr'])).2⟩, hnd.2⟩ fun W' h1 h2 => h W' (fun k cs t f e => h1 k cs t f ?_) (fun b hb hs => ?_)
    · refine (World.putObj_heap_other fun e2 => ?_).trans e
      rw [e2, hr] at e; cases e
    · exact ((Below.refl b W).grown (grownBy_putObj' W r _) hs (fun k e => by cases e; omega)).trans (h2 b hb (by simpa using hs))

/-- A frame's values by their numbers. -/
theorem ex_fn {A : Act} {f : (Nat → Value) → Act} (h : A = f (fun i => A.tmps.getD i undef)) : ∃ u, A = f u := ⟨_, h⟩

theorem min_ex {p : Nat → Prop} (h : ∃ n, p n) : ∃ n, p n ∧ ∀ k, p k → n ≤ k := by
  obtain ⟨n, hn⟩ := h
  induction n using Nat.strongRecOn with
  | _ n ih =>
    by_cases hc : ∃ k, k < n ∧ p k
    · obtain ⟨k, hk, hp⟩ := hc; exact ih k hk hp
    · exact ⟨n, hn, fun k hk => Nat.le_of_not_lt fun h => hc ⟨k, h, hk⟩⟩

open Classical in
noncomputable def leastOf (p : Nat → Prop) : Nat := if h : ∃ n, p n then (min_ex h).choose else 0
theorem leastOf_spec {p : Nat → Prop} (h : ∃ n, p n) : p (leastOf p) := by unfold leastOf; rw [dif_pos h]; exact (min_ex h).choose_spec.1
theorem leastOf_le {p : Nat → Prop} {k : Nat} (h : p k) : leastOf p ≤ k := by unfold leastOf; rw [dif_pos ⟨k, h⟩]; exact (min_ex ⟨k, h⟩).choose_spec.2 k h

/-- A loop whose invariant tells a number that falls. -/
theorem loopM {F : Fence} {n : Nat} {P : Program} {c : Code} {Q : Exit → Act → World → Prop} {a : Act} {w : World} (I : Nat → Act → World → Prop) (m : Nat) (h0 : I m a w)
    (round : ∀ m a w, I m a w → c.wpIn F n P (Exit.then (fun a' w' => ∃ m', m' < m ∧ I m' a' w') Q) a w) : (Code.loop c).wpIn F n P Q a w := by
  refine wpIn_loop (fun a w => ∃ m, I m a w) (fun a w => leastOf fun m => I m a w) ⟨m, h0⟩ fun a w hI => ?_
  refine wpIn_mono (round _ a w (leastOf_spec hI)) fun e a' w' h => ?_
  cases e with
  | normal => obtain ⟨m', h1, h2⟩ := h; exact ⟨⟨m', h2⟩, Nat.lt_of_le_of_lt (leastOf_le h2) h1⟩
  | _ => exact h

theorem step_make_full {P : Program} {ops : Array Oper} {o : Oper} {a : Act} {w : World} {K : Act → World → Prop} {Q : Exit → Act → World → Prop} {E : Prop}
    (hg : o.guard = none) (l c : Operand) (t : TypeId) (hop : o.op = Op.makeSlice t l c) (base : Nat) (e : TypeId) (i : TypeInfo) (z : Value) (size : Nat) (h1 : P.underlying t = some (.slice e)) (h2 : P.info? e = some i) (h3 : i.zero = some z) (h4 : i.size = size)
    (kl kc : IntKind) (m : Nat) (hl : a.eval l = .int kl (m : Int)) (hc : a.eval c = .int kc (m : Int)) (b2 : i.bytes * m ≤ 281474976710656) (b3 : m ≤ maxLen) (b4 : base ≤ w.heap.size)
    (hK : ∀ w', w'.ownsRow base e size (.slice (some ⟨w.heap.size, 0, none⟩) m m) m (madeCells z.cells (m * size)).toList → w.grownBy w' none → K (a.put o.dst (.slice (some ⟨w.heap.size, 0, none⟩) m m)) w') :
    if Region.wanted o (yielded ops a.tmps) = true then Oper.wp P o a w K Q else E := by
  have hw : Region.wanted o (yielded ops a.tmps) = true := by simp [Region.wanted, hg]
  rw [if_pos hw]
  obtain ⟨w', hrun, r1, r2⟩ := run_make_full (P := P) w base t e i z size h1 h2 h3 h4 kl kc m b2 b3 b4
  unfold Oper.wp
  simp [execOp, hop, hl, hc, hrun, Result.andThen]
  exact hK w' r1 r2

end Go.Proofs.Ytjglfeonoiljlaa

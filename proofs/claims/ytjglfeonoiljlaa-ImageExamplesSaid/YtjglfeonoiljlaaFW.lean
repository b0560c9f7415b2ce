/- The memory of a function that makes an image from an image: the argument, the result's variable, the image that is made, its row; a queue in a variable. -/
import Derived.Test.YtjglfeonoiljlaaMarks
namespace Go.Proofs.Ytjglfeonoiljlaa
open Go Go.RowKit Go.Shelf
set_option linter.unusedVariables false
set_option linter.unusedSimpArgs false

theorem below_set {B : Nat} {w W : World} {b o : Nat} (h : Below B w W) (hb : B ≤ b) (v : Value) : Below B w (W.setCell ⟨b, o, none⟩ v) := h.setCell (by simp; omega) v

structure FW (B b4 g : Nat) (iw ih : Int) (a : Option Addr) (c n : Nat) (w W : World) (L : List Int) : Prop where
  k1 : Blk W B 24 #[.int .i64 iw, .int .i64 ih, .slice a n c]
  k2 : Blk W (B + 1) 24 #[.int .i64 0, .int .i64 0, .slice none 0 0]
  k4 : Blk W b4 24 #[.int .i64 iw, .int .i64 ih, .slice (some ⟨g, 0, none⟩) n n]
  row : W.ownsRow B 3 1 (.slice (some ⟨g, 0, none⟩) n n) n (L.map (Value.int .i64))
  bel : Below B w W

variable {B b4 g : Nat} {iw ih : Int} {a : Option Addr} {c n : Nat} {w W : World} {L : List Int}

theorem FW.grown (h : FW B b4 g iw ih a c n w W L) {W' : World} (hg : W.grownBy W' none) (hB : B ≤ w.heap.size) : FW B b4 g iw ih a c n w W' L :=
  ⟨h.k1.kept hg (by simp), h.k2.kept hg (by simp), h.k4.kept hg (by simp), h.row.kept hg (.inr (by simp [Value.ownBlock])), h.bel.grown hg (Nat.le_trans hB h.bel.size) (fun k e => by cases e)⟩
theorem FW.kept (h : FW B b4 g iw ih a c n w W L) {W' : World} {r : Nat} (hg : W.grownBy W' (some r)) (hB : B ≤ w.heap.size) (hr : B ≤ r) (hne : r ≠ g) {cs : Array Value} {t : TypeId} {f : Nat × Nat} (ho : W.heap[r]? = some (.cells cs t f)) (ht : t ≠ 24) : FW B b4 g iw ih a c n w W' L := by
  have key : ∀ {b : Nat} {cs' : Array Value}, Blk W b 24 cs' → some b ≠ some r := fun hk e => by
    cases e
    rw [show W.heap[r]? = _ from hk] at ho
    cases ho; exact ht rfl
  exact ⟨h.k1.kept hg (key h.k1), h.k2.kept hg (key h.k2), h.k4.kept hg (key h.k4), h.row.kept hg (.inr (by simp [Value.ownBlock]; exact fun e => hne e.symm)), h.bel.grown hg (Nat.le_trans hB h.bel.size) (fun k e => by cases e; exact hr)⟩
theorem FW.keeps (h : FW B b4 g iw ih a c n w W L) {W' : World} {row : Option Nat} (hg : W.grownBy W' row) (hB : B ≤ w.heap.size) (hr : ∀ r, row = some r → B ≤ r ∧ ∃ o : Obj, W.heap[r]? = some o ∧ o.isCells = false) : FW B b4 g iw ih a c n w W' L :=
  ⟨blk_keeps h.k1 hg (fun r e => (hr r e).2), blk_keeps h.k2 hg (fun r e => (hr r e).2), blk_keeps h.k4 hg (fun r e => (hr r e).2), row_keeps h.row hg (fun r e => (hr r e).2), h.bel.grown hg (Nat.le_trans hB h.bel.size) (fun k e => (hr k e).1)⟩
theorem FW.gB (h : FW B b4 g iw ih a c n w W L) : B ≤ g ∧ g < W.heap.size := h.row.lt g rfl
theorem FW.gcells (h : FW B b4 g iw ih a c n w W L) : ∃ cur, W.heap[g]? = some (.cells cur 3 (0, 0)) := by
  rcases h.row.2 with ⟨e, _⟩ | ⟨g', cap, cur, e, _, h2, _⟩
  · cases e
  · cases e; exact ⟨cur, h2⟩
theorem FW.store (h : FW B b4 g iw ih a c n w W L) (hB : B ≤ w.heap.size) (k : Nat) (v : Int) : FW B b4 g iw ih a c n w (W.setCell ⟨g, k, none⟩ (.int .i64 v)) (L.set k v) ∧ W.grownBy (W.setCell ⟨g, k, none⟩ (.int .i64 v)) (some g) := by
  have hst := h.row.stored k (.int .i64 v)
  refine ⟨⟨h.k1.kept hst.2 (h.k1.not_row (by decide) h.row), h.k2.kept hst.2 (h.k2.not_row (by decide) h.row), h.k4.kept hst.2 (h.k4.not_row (by decide) h.row), ?_, h.bel.grown hst.2 (Nat.le_trans hB h.bel.size) (fun k e => by cases e; exact h.gB.1)⟩, hst.2⟩
  rw [← map_set_int]; exact hst.1
theorem FW.cell (h : FW B b4 g iw ih a c n w W L) {W' : World} (hb : Below W.heap.size W W') {k : Nat} (hk : k < n) : W'.cell? ⟨g, k, none⟩ = some (.int .i64 (px L k)) := by
  have hl : L.length = n := by have := h.row.1; simpa using this
  rw [(row_below h.row hb).cellAt k (by omega)]
  unfold px
  rw [List.getElem?_map, Int.toNat_natCast, List.getElem?_eq_getElem (by omega)]
  simp
theorem FW.frozen (h : FW B b4 g iw ih a c n w W L) {W' : World} (hb : Below W.heap.size W W') (k : Nat) : W'.frozen? ⟨g, k, none⟩ = false := (row_below h.row hb).frozenAt k
theorem FW.below (h : FW B b4 g iw ih a c n w W L) {W' : World} (hb : Below W.heap.size W W') (hB : B ≤ w.heap.size) : FW B b4 g iw ih a c n w W' L := h.grown (grown_of_below hb none) hB

/-- A block of one cell that is an int's, or one that is a slice's variable, is turned: neither is an image. -/
theorem blk_cells {W : World} {b : Nat} {t : TypeId} {cs : Array Value} (h : Blk W b t cs) : ∃ cs f, W.heap[b]? = some (.cells cs t f) := ⟨cs, (0, 0), h⟩
theorem blk_iscells {W : World} {b : Nat} {t : TypeId} {cs : Array Value} (h : Blk W b t cs) : ∃ o : Obj, W.heap[b]? = some o ∧ o.isCells = true := ⟨_, h, rfl⟩
theorem blk_set_grown (W : World) (b o : Nat) (v : Value) : W.grownBy (W.setCell ⟨b, o, none⟩ v) (some b) := ⟨rfl, rfl, rfl, by simp [World.setCell], fun k _ hk => heap_setCell_other W _ k _ (fun e => hk (by rw [e]))⟩

theorem QRow.not_blk {base : Nat} {W : World} {v : Value} {xs : List Int} (h : QRow base W v xs) {b : Nat} {t : TypeId} {cs : Array Value} (hb : Blk W b t cs) (ht : t ≠ 3) : v.ownBlock ≠ some b := fun e => by
  obtain ⟨_, cur, hc⟩ := h.cells e
  rw [show W.heap[b]? = _ from hb] at hc
  cases hc; exact ht rfl

theorem QRow.slice {base : Nat} {W : World} {v : Value} {xs : List Int} (h : QRow base W v xs) : ∃ p c, v = .slice p xs.length c := by
  rcases h with ⟨rfl, rfl⟩ | ⟨g, off, cap, cur, rfl, _⟩
  · exact ⟨none, 0, rfl⟩
  · exact ⟨_, _, rfl⟩
theorem QRow.form {base : Nat} {W : World} {v : Value} {xs : List Int} (h : QRow base W v xs) : ∃ p m c, v = .slice p m c := by
  obtain ⟨p, c, e⟩ := h.slice
  exact ⟨p, _, c, e⟩
theorem QRow.box {base : Nat} {W : World} {v : Value} {xs : List Int} (h : QRow base W v xs) {b : Nat} {t : TypeId} {cs : Array Value} (hb : Blk W b t cs) (ht : t ≠ 3) (o : Nat) (u : Value) : QRow base (W.setCell ⟨b, o, none⟩ u) v xs :=
  h.kept (blk_set_grown W b o u) fun g hg e => h.not_blk hb ht (by rw [hg, ← e])
theorem FW.box (h : FW B b4 g iw ih a c n w W L) (hB : B ≤ w.heap.size) {b : Nat} {t : TypeId} {cs : Array Value} (hb : Blk W b t cs) (hBb : B ≤ b) (ht : t ≠ 3) (ht2 : t ≠ 24) (o : Nat) (u : Value) : FW B b4 g iw ih a c n w (W.setCell ⟨b, o, none⟩ u) L := by
  obtain ⟨cur, hc⟩ := h.gcells
  refine h.kept (blk_set_grown W b o u) hB hBb (fun e => ?_) hb ht2
  subst e
  rw [show W.heap[b]? = _ from hb] at hc
  cases hc; exact ht rfl
theorem FW.queue (h : FW B b4 g iw ih a c n w W L) (hB : B ≤ w.heap.size) {v : Value} {xs : List Int} (hq : QRow B W v xs) {W' : World} (hg : W.grownBy W' v.ownBlock) (hne : v.ownBlock ≠ some g) : FW B b4 g iw ih a c n w W' L := by
  cases hv : v.ownBlock with
  | none => rw [hv] at hg; exact h.grown hg hB
  | some r =>
    rw [hv] at hg
    obtain ⟨h1, cur, h2⟩ := hq.cells hv
    exact h.kept hg hB h1 (fun e => hne (by rw [hv, e])) h2 (by decide)

theorem row_of_cells {W W' : World} (hc : ∀ (k : Nat) (cs : Array Value) (t : TypeId) (f : Nat × Nat), W.heap[k]? = some (Obj.cells cs t f) → W'.heap[k]? = some (Obj.cells cs t f)) {base : Nat} {e : TypeId} {size : Nat} {v : Value} {k : Nat} {xs : List Value} (h : W.ownsRow base e size v k xs) : W'.ownsRow base e size v k xs := by
  refine ⟨h.1, ?_⟩
  rcases h.2 with h | ⟨g, cap, cur, h1, h2, h3, h4⟩
  · exact .inl h
  · exact .inr ⟨g, cap, cur, h1, h2, hc _ _ _ _ h3, h4⟩
theorem put3_others (W : World) (b : Nat) (x y z : Value) : KeepsOthers W (put3 W b x y z) := ((KeepsOthers.setCell _ _ _).trans (KeepsOthers.setCell _ _ _)).trans (KeepsOthers.setCell _ _ _)

theorem run_tail (w : World) (g off m cap : Nat) : (Instr.sliceAt 22 (.slice (some ⟨g, off, none⟩) (m + 1) cap) (some (.int .i64 1)) none none).run Try.prog w = .ok (.slice (some (if cap = 1 then ⟨g, off, none⟩ else ⟨g, off + 1, none⟩)) m (cap - 1)) w := by
  obtain ⟨i0, hi, hz0, hz1, hz2⟩ := info_parts info_int
  have hc2 : (1 : Int) ≤ (m : Int) + 1 := by omega
  by_cases hc : cap = 1
  · subst hc
    simp [Instr.sliceAt, Instr.slice, Instr.sliceBounds, Instr.sliceBound, run_underlying Try.underlying22, sizeOf, typeInfo, hi, hz1, go_sem, hc2]
  · simp [Instr.sliceAt, Instr.slice, Instr.sliceBounds, Instr.sliceBound, run_underlying Try.underlying22, sizeOf, typeInfo, hi, hz1, go_sem, hc2, hc]

theorem q_tail {F : Fence} {n : Nat} {w : World} {ops : Array Oper} {rest : List Oper} {o : Oper} {a : Act} {Q : Exit → Act → World → Prop} (hgd : o.guard = none) (s : Operand)
    (ho : o.op = .slice 22 s (some (.const (.int .i64 1))) none none) (base : Nat) (v : Value) (x : Int) (xs : List Int) (hs : a.eval s = v) (hown : QRow base w v (x :: xs))
    (h : ∀ v', QRow base w v' xs → v'.ownBlock = v.ownBlock → wpListIn F n Try.prog ops Q rest (a.put o.dst v') w) : wpListIn F n Try.prog ops Q (o :: rest) a w := by
  refine wpListIn_plain hgd fun K hK => ?_
  obtain ⟨g, off, cap, rfl, h1, h2, h3, h4, h5⟩ := hown.head
  have hrun := run_tail w g off xs.length cap
  have he : a.eval (.const (.int .i64 1)) = .int .i64 1 := rfl
  unfold Oper.wpIn
  refine ⟨by simp [Oper.about, ho, resolve, Target.leads, Sem.run_pure], ?_⟩
  rw [Oper.semAt_plain F _ _ (by rw [ho]; intro c hc'; cases hc')]
  simp only [execOp, ho, hs, Option.map_some, Option.map_none, he]
  simp [hrun, Result.andThen]
  refine hK _ _ (h _ h5 ?_)
  split <;> rfl

end Go.Proofs.Ytjglfeonoiljlaa

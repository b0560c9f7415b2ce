/- The memory of a function that makes an image and, ahead of it, a row of numbers in a variable of its own. -/
import Derived.Test.YtjglfeonoiljlaaQI
namespace Go.Proofs.Ytjglfeonoiljlaa
open Go Go.RowKit Go.Shelf
set_option linter.unusedVariables false
set_option linter.unusedSimpArgs false

structure BW (B b4 g bt gt : Nat) (iw ih : Int) (a : Option Addr) (c n : Nat) (w : World) (rs : List Nat) (W : World) (L T : List Int) : Prop where
  fw : FW B b4 g iw ih a c n w W L
  kt : Blk W bt 22 #[.slice (some ⟨gt, 0, none⟩) n n]
  to : W.ownsRow B 3 1 (.slice (some ⟨gt, 0, none⟩) n n) n (T.map (Value.int .i64))
  ne : gt ≠ g
  marks : Marks B rs W

variable {B b4 g bt gt : Nat} {iw ih : Int} {a : Option Addr} {c n : Nat} {w : World} {rs : List Nat} {W : World} {L T : List Int}

theorem BW.tlt (h : BW B b4 g bt gt iw ih a c n w rs W L T) : B ≤ gt ∧ gt < W.heap.size := h.to.lt gt rfl
theorem BW.tcells (h : BW B b4 g bt gt iw ih a c n w rs W L T) : ∃ cur, W.heap[gt]? = some (.cells cur 3 (0, 0)) := by
  rcases h.to.2 with ⟨e, _⟩ | ⟨g', cap, cur, e, _, h2, _⟩
  · cases e
  · cases e; exact ⟨cur, h2⟩
theorem BW.tlen (h : BW B b4 g bt gt iw ih a c n w rs W L T) : T.length = n := by have := h.to.1; simpa using this
theorem BW.tcell (h : BW B b4 g bt gt iw ih a c n w rs W L T) {W' : World} (hb : Below W.heap.size W W') {k : Nat} (hk : k < n) : W'.cell? ⟨gt, k, none⟩ = some (.int .i64 (px T k)) := by
  have hl := h.tlen
  rw [(row_below h.to hb).cellAt k (by omega)]
  unfold px
  rw [List.getElem?_map, Int.toNat_natCast, List.getElem?_eq_getElem (by omega)]
  simp
theorem BW.tfrozen (h : BW B b4 g bt gt iw ih a c n w rs W L T) {W' : World} (hb : Below W.heap.size W W') (k : Nat) : W'.frozen? ⟨gt, k, none⟩ = false := (row_below h.to hb).frozenAt k
theorem BW.grown (h : BW B b4 g bt gt iw ih a c n w rs W L T) (hB : B ≤ w.heap.size) {W' : World} (hg : W.grownBy W' none) : BW B b4 g bt gt iw ih a c n w rs W' L T :=
  ⟨h.fw.grown hg hB, h.kt.kept hg (by simp), h.to.kept hg (.inr (by simp [Value.ownBlock])), h.ne, h.marks.others (.of_grownBy hg fun j o e => by cases e)⟩
theorem BW.bne (h : BW B b4 g bt gt iw ih a c n w rs W L T) : bt ≠ gt := fun e => by
  obtain ⟨cur, hc⟩ := h.tcells
  rw [← e, show W.heap[bt]? = _ from h.kt] at hc
  cases hc
theorem BW.storeT (h : BW B b4 g bt gt iw ih a c n w rs W L T) (hB : B ≤ w.heap.size) (k : Nat) (v : Int) {R : Nat} :
    BW B b4 g bt gt iw ih a c n w rs (W.setCell ⟨gt, k, none⟩ (.int .i64 v)) L (T.set k v) ∧ W.grownBy (W.setCell ⟨gt, k, none⟩ (.int .i64 v)) (some gt) ∧ Kq [gt] bt R W (W.setCell ⟨gt, k, none⟩ (.int .i64 v)) := by
  have hst := h.to.stored k (.int .i64 v)
  obtain ⟨cur, hc⟩ := h.tcells
  refine ⟨⟨h.fw.kept hst.2 hB h.tlt.1 h.ne hc (by decide), h.kt.kept hst.2 (h.kt.not_row (by decide) h.to), ?_, h.ne, h.marks.others (.setCell _ _ _)⟩, hst.2, .step hst.2 (fun r e => by cases e; exact ⟨.inl (by simp), _, hc, rfl⟩) (fun j ht => .inl (tq_same (hst.2.block bt h.kt.lt (fun e => by cases e; exact h.bne rfl)) ht))⟩
  rw [← map_set_int]; exact hst.1
theorem BW.storeL (h : BW B b4 g bt gt iw ih a c n w rs W L T) (hB : B ≤ w.heap.size) (k : Nat) (v : Int) :
    BW B b4 g bt gt iw ih a c n w rs (W.setCell ⟨g, k, none⟩ (.int .i64 v)) (L.set k v) T ∧ W.grownBy (W.setCell ⟨g, k, none⟩ (.int .i64 v)) (some g) := by
  obtain ⟨h1, h2⟩ := h.fw.store hB k v
  refine ⟨⟨h1, h.kt.kept h2 (h.kt.not_row (by decide) h.fw.row), h.to.kept h2 (.inr ?_), h.ne, h.marks.others (.setCell _ _ _)⟩, h2⟩
  simp [Value.ownBlock]; exact fun e => h.ne e
theorem BW.keeps (h : BW B b4 g bt gt iw ih a c n w rs W L T) (hB : B ≤ w.heap.size) {S0 : Nat} (hBS : B ≤ S0) (hml : ∀ r ∈ rs, r < S0) {W' : World} {row : Option Nat} (hg : W.grownBy W' row) (hr : ∀ r, row = some r → S0 ≤ r ∧ ∃ o : Obj, W.heap[r]? = some o ∧ o.isCells = false) : BW B b4 g bt gt iw ih a c n w rs W' L T :=
  ⟨h.fw.keeps hg hB fun r e => ⟨Nat.le_trans hBS (hr r e).1, (hr r e).2⟩, blk_keeps h.kt hg fun r e => (hr r e).2, row_keeps h.to hg fun r e => (hr r e).2, h.ne,
   ⟨fun r h1 => ⟨(h.marks.obj r h1).1, (hg.block r (h.marks.lt h1) (fun e => by have := (hr r e.symm).1; have := hml r h1; omega)).trans (h.marks.obj r h1).2⟩, h.marks.nd⟩⟩
theorem BW.own {β : Type} (F : β → List Int) {S0 bi : Nat} {cs : Array Value} (hB : B ≤ w.heap.size) (hBS : B ≤ S0) (hml : ∀ r ∈ rs, r < S0) :
    OwnFrom S0 (fun (b : β) W => BW B b4 g bt gt iw ih a c n w rs W L (F b) ∧ Blk W bi 3 cs ∧ S0 ≤ W.heap.size) := by
  rintro b W W' row ⟨h, hk, hs⟩ hg hr
  exact ⟨h.keeps hB hBS hml hg hr, blk_keeps hk hg fun r e => (hr r e).2, Nat.le_trans hs hg.size⟩
theorem BW.ntq (h : BW B b4 g bt gt iw ih a c n w rs W L T) {k : Nat} (hk : k ≠ gt) : ¬ TQ [gt] bt W k := by
  have hcq : W.cell? ⟨bt, 0, none⟩ = some (.slice (some ⟨gt, 0, none⟩) n n) := h.kt.cell (i := 0) rfl
  rintro (ht | ⟨off, m, cp, ht⟩)
  · simp at ht; exact hk ht
  · rw [hcq] at ht
    cases ht
    exact hk rfl
theorem BW.tqlt (h : BW B b4 g bt gt iw ih a c n w rs W L T) {k : Nat} (ht : TQ [gt] bt W k) : k < W.heap.size := by
  by_cases e : k = gt
  · rw [e]; exact h.tlt.2
  · exact (h.ntq e ht).elim

end Go.Proofs.Ytjglfeonoiljlaa

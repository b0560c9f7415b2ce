/- The memory of a search over an image: the images, the row of the result, a queue in a variable, the pixel's variable, the marks of the loops before. -/
import Derived.Test.YtjglfeonoiljlaaFW
import Derived.Test.YtjglfeonoiljlaaBas
namespace Go.Proofs.Ytjglfeonoiljlaa
open Go Go.RowKit Go.Shelf
set_option linter.unusedVariables false
set_option linter.unusedSimpArgs false

structure QI (B b4 g bq bi : Nat) (iw ih : Int) (a : Option Addr) (c n : Nat) (w : World) (rs : List Nat) (i S0 : Nat) (W : World) (L : List Int) (q : List Nat) (qv : Value) : Prop where
  fw : FW B b4 g iw ih a c n w W L
  kq : Blk W bq 22 #[qv]
  hq : QRow B W qv (q.map fun j : Nat => (j : Int))
  hqg : qv.ownBlock ≠ some g
  ki : Blk W bi 3 #[.int .i64 i]
  hqi : qv.ownBlock ≠ some bi
  marks : Marks B rs W
  mlt : ∀ r ∈ rs, r < S0
  sz : S0 ≤ W.heap.size

variable {B b4 g bq bi : Nat} {iw ih : Int} {a : Option Addr} {c n : Nat} {w : World} {rs : List Nat} {i S0 : Nat} {W : World} {L : List Int} {q : List Nat} {qv : Value}

theorem QI.keeps (h : QI B b4 g bq bi iw ih a c n w rs i S0 W L q qv) (hB : B ≤ w.heap.size) (hBS : B ≤ S0) {W' : World} {row : Option Nat} (hg : W.grownBy W' row) (hr : ∀ r, row = some r → S0 ≤ r ∧ ∃ o : Obj, W.heap[r]? = some o ∧ o.isCells = false) : QI B b4 g bq bi iw ih a c n w rs i S0 W' L q qv where
  fw := h.fw.keeps hg hB fun r e => ⟨Nat.le_trans hBS (hr r e).1, (hr r e).2⟩
  kq := blk_keeps h.kq hg fun r e => (hr r e).2
  hq := h.hq.keeps hg fun r e => (hr r e).2
  hqg := h.hqg
  ki := blk_keeps h.ki hg fun r e => (hr r e).2
  hqi := h.hqi
  marks := ⟨fun r h1 => ⟨(h.marks.obj r h1).1, (hg.block r (h.marks.lt h1) (fun e => by have := (hr r e.symm).1; have := h.mlt r h1; omega)).trans (h.marks.obj r h1).2⟩, h.marks.nd⟩
  mlt := h.mlt
  sz := Nat.le_trans h.sz hg.size

theorem QI.own {β : Type} (X : β → List Int → List Nat → Prop) (hB : B ≤ w.heap.size) (hBS : B ≤ S0) : OwnFrom S0 (fun (b : β) W => ∃ L q qv, QI B b4 g bq bi iw ih a c n w rs i S0 W L q qv ∧ X b L q) := by
  rintro b W W' row ⟨L, q, qv, h, hx⟩ hg hr
  exact ⟨L, q, qv, h.keeps hB hBS hg hr, hx⟩

theorem QI.grown (h : QI B b4 g bq bi iw ih a c n w rs i S0 W L q qv) (hB : B ≤ w.heap.size) {W' : World} (hg : W.grownBy W' none) : QI B b4 g bq bi iw ih a c n w rs i S0 W' L q qv where
  fw := h.fw.grown hg hB
  kq := h.kq.kept hg (by simp)
  hq := h.hq.kept hg (fun _ _ e => by cases e)
  hqg := h.hqg
  ki := h.ki.kept hg (by simp)
  hqi := h.hqi
  marks := h.marks.others (.of_grownBy hg fun j o e => by cases e)
  mlt := h.mlt
  sz := Nat.le_trans h.sz hg.size

theorem QI.gq (h : QI B b4 g bq bi iw ih a c n w rs i S0 W L q qv) : g ≠ bq := by
  rintro rfl
  obtain ⟨cur, hc⟩ := h.fw.gcells
  have := h.kq
  rw [show W.heap[g]? = _ from this] at hc
  cases hc

/-- A value is stored into the result's row. -/
theorem QI.store (h : QI B b4 g bq bi iw ih a c n w rs i S0 W L q qv) (hB : B ≤ w.heap.size) (hgi : g ≠ bi) (k : Nat) (v : Int) {R : Nat} :
    QI B b4 g bq bi iw ih a c n w rs i S0 (W.setCell ⟨g, k, none⟩ (.int .i64 v)) (L.set k v) q qv ∧ Kq [g, bq] bq R W (W.setCell ⟨g, k, none⟩ (.int .i64 v)) := by
  obtain ⟨h1, h2⟩ := h.fw.store hB k v
  have hbq : (W.setCell ⟨g, k, none⟩ (.int .i64 v)).heap[bq]? = W.heap[bq]? := heap_setCell_other W _ bq _ (fun e => h.gq e.symm)
  refine ⟨⟨h1, h.kq.kept h2 (fun e => by cases e; exact h.gq rfl), h.hq.kept h2 (fun x hx e => h.hqg (by rw [hx]; exact e.symm)), h.hqg, h.ki.kept h2 (fun e => by cases e; exact hgi rfl), h.hqi, h.marks.others (.setCell _ _ _), h.mlt, Nat.le_trans h.sz h2.size⟩, ?_⟩
  obtain ⟨cur, hc⟩ := h.fw.gcells
  exact .step h2 (fun r e => by cases e; exact ⟨.inl (by simp), _, hc, rfl⟩) (fun j ht => .inl (tq_same hbq ht))

/-- The queue after an append, put into its variable. -/
theorem QI.push (h : QI B b4 g bq bi iw ih a c n w rs i S0 W L q qv) (hB : B ≤ w.heap.size) (hbq : B ≤ bq) {qv' : Value} {W' : World} {k : Nat} (hq' : QRow B W' qv' ((q.map fun j : Nat => (j : Int)) ++ [(k : Int)])) (hg : W.grownBy W' qv.ownBlock) (hv : qv'.ownBlock = qv.ownBlock ∨ ∃ x, qv'.ownBlock = some x ∧ W.heap.size ≤ x) {R : Nat} :
    QI B b4 g bq bi iw ih a c n w rs i S0 (W'.setCell ⟨bq, 0, none⟩ qv') L (q ++ [k]) qv' ∧ Kq [g, bq] bq R W (W'.setCell ⟨bq, 0, none⟩ qv') ∧ KeepsOthers W (W'.setCell ⟨bq, 0, none⟩ qv') := by
  have kq' := h.kq.kept hg (h.hq.not_blk h.kq (by decide)).symm
  have fw' := h.fw.queue hB h.hq hg h.hqg
  have ki' := h.ki.kept hg h.hqi.symm
  have hne : ∀ {x : Nat}, x < W.heap.size → qv.ownBlock ≠ some x → qv'.ownBlock ≠ some x := fun hx hn e => by
    rcases hv with h1 | ⟨y, h1, h2⟩
    · exact hn (by rw [← h1]; exact e)
    · rw [h1] at e; cases e; omega
  have hcell : ∀ r, qv.ownBlock = some r → ∃ o : Obj, W.heap[r]? = some o ∧ o.isCells = true := fun r e => by
    obtain ⟨_, cur, hc⟩ := h.hq.cells e
    exact ⟨_, hc, rfl⟩
  have hmk : KeepsOthers W W' := .of_grownBy hg fun j o e ho => by
    obtain ⟨o', h1, h2⟩ := hcell j e
    rw [ho] at h1; cases h1; exact h2
  have hset := blk_set_grown W' bq 0 qv'
  refine ⟨⟨fw'.box hB kq' hbq (by decide) (by decide) 0 qv', kq'.set 0 qv', ?_, hne h.fw.gB.2 h.hqg, ki'.kept hset (fun e => ?_), hne h.ki.lt h.hqi, (h.marks.others hmk).others (.setCell _ _ _), h.mlt, Nat.le_trans h.sz (Nat.le_trans hg.size hset.size)⟩, ?_, hmk.trans (.setCell _ _ _)⟩
  · rw [List.map_append]
    exact hq'.box kq' (by decide) 0 qv'
  · injection e with e
    subst e
    have h1 : W.heap[bi]? = some (Obj.cells #[qv] 22 (0, 0)) := h.kq
    rw [show W.heap[bi]? = _ from h.ki] at h1
    cases h1
  · have hbl := h.kq.lt
    have hcq : W.cell? ⟨bq, 0, none⟩ = some qv := h.kq.cell (i := 0) rfl
    have hq1 : ∀ r, qv.ownBlock = some r → TQ [g, bq] bq W r := fun r e => by
      obtain ⟨p, m, cp, rfl⟩ := h.hq.form
      cases p with
      | none => simp [Value.ownBlock] at e
      | some p =>
        obtain ⟨b, o, f⟩ := p
        rcases h.hq with ⟨e1, _⟩ | ⟨b', o', cp', cur, e1, _⟩
        · cases e1
        · cases e1
          simp [Value.ownBlock] at e
          subst e
          exact .inr ⟨_, _, _, hcq⟩
    have k1 : Kq [g, bq] bq R W W' := .step hg (fun r e => ⟨hq1 r e, hcell r e⟩) (fun j ht => .inl (tq_same (hg.block bq hbl (h.hq.not_blk h.kq (by decide)).symm) ht))
    refine ⟨Nat.le_trans k1.size hset.size, fun j o hj hR ho => ?_, fun j ht => ?_⟩
    · refine (hset.block j (by have := (Array.getElem?_eq_some_iff.1 hj).1; have := hg.size; omega) (fun e => ?_)).trans (k1.same j o hj hR ho)
      injection e with e
      subst e
      rcases ho with ho | ho
      · rw [show W.heap[j]? = _ from h.kq] at hj; cases hj; cases ho
      · exact ho (.inl (by simp))
    · rcases ht with ht | ⟨off, m, cp, ht⟩
      · exact .inl (.inl ht)
      · have hc2 : (W'.setCell ⟨bq, 0, none⟩ qv').cell? ⟨bq, 0, none⟩ = some qv' := (kq'.set 0 qv').cell (i := 0) rfl
        rw [hc2] at ht
        cases ht
        rcases hv with h1 | ⟨x, h1, h2⟩
        · exact .inl (hq1 j (by rw [← h1]; rfl))
        · simp [Value.ownBlock] at h1
          subst h1
          exact .inr h2

theorem QI.ntq (h : QI B b4 g bq bi iw ih a c n w rs i S0 W L q qv) {k : Nat} (h1 : k ≠ g) (h2 : k ≠ bq) (h3 : qv.ownBlock ≠ some k) : ¬ TQ [g, bq] bq W k := by
  have hcq : W.cell? ⟨bq, 0, none⟩ = some qv := h.kq.cell (i := 0) rfl
  rintro (ht | ⟨off, m, cp, ht⟩)
  · simp at ht; omega
  · rw [hcq] at ht
    cases ht
    exact h3 rfl
theorem QI.tlt (h : QI B b4 g bq bi iw ih a c n w rs i S0 W L q qv) {k : Nat} (ht : TQ [g, bq] bq W k) : k < W.heap.size := by
  have hcq : W.cell? ⟨bq, 0, none⟩ = some qv := h.kq.cell (i := 0) rfl
  rcases ht with ht | ⟨off, m, cp, ht⟩
  · have h1 := h.fw.gB.2
    have h2 := h.kq.lt
    simp at ht
    rcases ht with rfl | rfl <;> assumption
  · rw [hcq] at ht
    cases ht
    obtain ⟨_, cur, hc⟩ := h.hq.cells rfl
    exact (Array.getElem?_eq_some_iff.1 hc).1

/-- A pixel is taken from the queue, into a variable of its own. -/
theorem QI.start (hF : FW B b4 g iw ih a c n w W L) {v v' : Value} (kq : Blk W bq 22 #[v]) (ht : QRow B W v' (q.map fun j : Nat => (j : Int))) (hqg : v'.ownBlock ≠ some g) (hM : Marks B rs W) (hbq : B ≤ bq) (hB : B ≤ w.heap.size) {V0 V1 : World}
    (hV0 : (W.setCell ⟨bq, 0, none⟩ v').alloc (.cells #[.int .i64 i] 3) = V0) (hg : V0.grownBy V1 none) (hBV : B ≤ W.heap.size) :
    QI B b4 g bq W.heap.size iw ih a c n w rs i V1.heap.size V1 L q v' ∧ (∀ x, v'.ownBlock = some x → x < W.heap.size) ∧ V0.heap.size = W.heap.size + 1 ∧ V0.heap.size ≤ V1.heap.size := by
  have hlt : ∀ x, v'.ownBlock = some x → x < W.heap.size := fun x e => by
    obtain ⟨_, cur, hc⟩ := ht.cells e
    exact (Array.getElem?_eq_some_iff.1 hc).1
  have hsz : (W.setCell ⟨bq, 0, none⟩ v').heap.size = W.heap.size := by simp [World.setCell]
  have hs0 : V0.heap.size = W.heap.size + 1 := by rw [← hV0, World.size_alloc, hsz]
  have ki := Blk.new (W.setCell ⟨bq, 0, none⟩ v') 3 #[.int .i64 i]
  rw [hsz] at ki
  have hga : (W.setCell ⟨bq, 0, none⟩ v').grownBy V0 none := hV0 ▸ World.grownBy_alloc _ _ none
  refine ⟨⟨((hF.box hB kq hbq (by decide) (by decide) 0 v').grown hga hB).grown hg hB, ((kq.set 0 v').kept hga (by simp)).kept hg (by simp), ((ht.box kq (by decide) 0 v').kept hga (fun _ _ e => by cases e)).kept hg (fun _ _ e => by cases e), hqg, ?_, fun e => ?_, ?_, fun r hr => ?_, Nat.le_refl _⟩, hlt, hs0, hg.size⟩
  · rw [hV0] at ki; exact ki.kept hg (by simp)
  · have := hlt _ e; omega
  · exact ((hM.others (.setCell _ _ _)).others (.of_grownBy hga fun j o e => by cases e)).others (.of_grownBy hg fun j o e => by cases e)
  · have := hM.lt hr; have := hg.size; omega

theorem QI.again (hF : FW B b4 g iw ih a c n w W L) {v v' : Value} (kq : Blk W bq 22 #[v]) (ht : QRow B W v' (q.map fun j : Nat => (j : Int))) (hqg : v'.ownBlock ≠ some g) (hqi : v'.ownBlock ≠ some bi) (ki : Blk W bi 3 #[.int .i64 i]) (hM : Marks B rs W) (hbq : B ≤ bq) (hB : B ≤ w.heap.size) {V1 : World}
    (hg : (W.setCell ⟨bq, 0, none⟩ v').grownBy V1 none) :
    QI B b4 g bq bi iw ih a c n w rs i V1.heap.size V1 L q v' ∧ (∀ x, v'.ownBlock = some x → x < W.heap.size) ∧ W.heap.size ≤ V1.heap.size := by
  have hlt : ∀ x, v'.ownBlock = some x → x < W.heap.size := fun x e => by
    obtain ⟨_, cur, hc⟩ := ht.cells e
    exact (Array.getElem?_eq_some_iff.1 hc).1
  have hset := blk_set_grown W bq 0 v'
  have hsz : (W.setCell ⟨bq, 0, none⟩ v').heap.size = W.heap.size := by simp [World.setCell]
  refine ⟨⟨(hF.box hB kq hbq (by decide) (by decide) 0 v').grown hg hB, (kq.set 0 v').kept hg (by simp), (ht.box kq (by decide) 0 v').kept hg (fun _ _ e => by cases e), hqg, (ki.kept hset (fun e => ?_)).kept hg (by simp), hqi, ?_, fun r hr => ?_, Nat.le_refl _⟩, hlt, by rw [← hsz]; exact hg.size⟩
  · injection e with e
    subst e
    have h1 : W.heap[bi]? = some (Obj.cells #[v] 22 (0, 0)) := kq
    rw [show W.heap[bi]? = _ from ki] at h1
    cases h1
  · exact (hM.others (.setCell _ _ _)).others (.of_grownBy hg fun j o e => by cases e)
  · have := hM.lt hr; have := hg.size; omega

theorem QRow.one {base : Nat} (W : World) (x : Int) (hb : base ≤ W.heap.size) : QRow base (W.alloc (.cells #[.int .i64 x] 3)) (.slice (some ⟨W.heap.size, 0, none⟩) 1 1) [x] :=
  .inr ⟨W.heap.size, 0, 1, #[.int .i64 x], rfl, hb, World.alloc_heap_new W _, by simp, by unfold maxLen; omega, by simp, fun j y hj => by
    match j, hj with
    | 0, hj => simp at hj; subst hj; rfl
    | j + 1, hj => simp at hj⟩

/-- What a function returns that makes an image and counts. -/
def RetNum (B : Nat) (r : NumR) (w : World) (e : Ending) (w' : World) : Prop :=
  (∃ v, e = .returned (.tuple #[v, .int .i64 r.n, .int .i64 r.im.err]) ∧ OwnIm B w' v r.im.w r.im.h r.im.px) ∧ Below B w w'

end Go.Proofs.Ytjglfeonoiljlaa

/- The iterator over the neighbours of a pixel: it yields the list of the neighbours; what a round that goes on must keep: all but some blocks and the row that a variable's slice points to. -/
import Derived.Test.YtjglfeonoiljlaaOver
import Derived.Test.YtjglfeonoiljlaaImgS
import Derived.Test.YtjglfeonoiljlaaLow
namespace Go.Proofs.Ytjglfeonoiljlaa
open Go Go.RowKit Go.Shelf
set_option linter.unusedVariables false
set_option linter.unusedSimpArgs false

attribute [local go_sem] Oper.semAt_some

/-- Block k is one of L, or the one that the slice in the box bq points to. -/
def TQ (L : List Nat) (bq : Nat) (W : World) (k : Nat) : Prop := k ∈ L ∨ ∃ off n c, W.cell? ⟨bq, 0, none⟩ = some (.slice (some ⟨k, off, none⟩) n c)

theorem tq_same {L : List Nat} {bq : Nat} {A B : World} (h : B.heap[bq]? = A.heap[bq]?) {k : Nat} (ht : TQ L bq B k) : TQ L bq A k := by
  rcases ht with ht | ⟨off, n, c, hc⟩
  · exact .inl ht
  · exact .inr ⟨off, n, c, (World.cell?_of_block (a := ⟨bq, 0, none⟩) h.symm).trans hc⟩

/-- What a round keeps: R is the loop's own record. -/
structure Kq (L : List Nat) (bq R : Nat) (A B : World) : Prop where
  size : A.heap.size ≤ B.heap.size
  same : ∀ (k : Nat) (o : Obj), A.heap[k]? = some o → k ≠ R → (o.isCells = false ∨ ¬ TQ L bq A k) → B.heap[k]? = some o
  ptr : ∀ k, TQ L bq B k → TQ L bq A k ∨ A.heap.size ≤ k

theorem Kq.refl (L : List Nat) (bq R : Nat) (A : World) : Kq L bq R A A := ⟨Nat.le_refl _, fun _ _ h _ _ => h, fun _ h => .inl h⟩
theorem Kq.trans {L : List Nat} {bq R : Nat} {A B C : World} (h : Kq L bq R A B) (k : Kq L bq R B C) : Kq L bq R A C where
  size := Nat.le_trans h.size k.size
  same i o hi hR ho := by
    refine k.same i o (h.same i o hi hR ho) hR (ho.imp id fun hn ht => ?_)
    rcases h.ptr i ht with h1 | h1
    · exact hn h1
    · have := (Array.getElem?_eq_some_iff.1 hi).1; omega
  ptr i ht := by
    rcases k.ptr i ht with h1 | h1
    · exact h.ptr i h1
    · exact .inr (Nat.le_trans h.size h1)
theorem Kq.putR {L : List Nat} {bq R : Nat} (hq : bq ≠ R) (W : World) (o' : Obj) : Kq L bq R W (W.putObj R o') where
  size := by simp
  same k o hk hR _ := (World.putObj_heap_other hR).trans hk
  ptr k ht := .inl (tq_same (World.putObj_heap_other hq) ht)
theorem Kq.step {L : List Nat} {bq R : Nat} {A B : World} {row : Option Nat} (hg : A.grownBy B row) (hr : ∀ r, row = some r → TQ L bq A r ∧ ∃ o : Obj, A.heap[r]? = some o ∧ o.isCells = true) (hp : ∀ k, TQ L bq B k → TQ L bq A k ∨ A.heap.size ≤ k) : Kq L bq R A B where
  size := hg.size
  same k o hk hR ho := by
    refine (hg.block k (Array.getElem?_eq_some_iff.1 hk).1 fun e => ?_).trans hk
    obtain ⟨h1, o', h2, h3⟩ := hr k e.symm
    rw [hk] at h2; cases h2
    rcases ho with ho | ho
    · rw [ho] at h3; cases h3
    · exact ho h1
  ptr := hp
theorem Kq.grown {L : List Nat} {bq R : Nat} {A B : World} (hg : A.grownBy B none) (hq : bq < A.heap.size) : Kq L bq R A B :=
  .step hg (fun r e => by cases e) (fun k ht => .inl (tq_same (hg.block bq hq (by simp)) ht))

/-- What the iterator's call holds: the pixel, the image, the kind of neighbours, the round to yield to, the places' width. -/
structure NbO (L : List Nat) (bq bi bg be B0 : Nat) (pw ph i : Nat) (s : Value) (e : Bool) (l : Nat) (V : World) : Prop where
  ki : Blk V bi 3 #[.int .i64 i]
  kg : Blk V bg 100 #[.int .i64 pw, .int .i64 ph, s]
  ke : Blk V be 4 #[.bool e]
  ky : Blk V B0 133 #[.func (.yield l) #[] #[]]
  kw : Blk V (B0 + 1) 3 #[.int .i64 3]
  ti : ¬ TQ L bq V bi
  tg : ¬ TQ L bq V bg
  te : ¬ TQ L bq V be
  ty : ¬ TQ L bq V B0
  tw : ¬ TQ L bq V (B0 + 1)
  sz : B0 + 3 ≤ V.heap.size

theorem NbO.own {β : Type} {L : List Nat} {bq bi bg be B0 pw ph i : Nat} {s : Value} {e : Bool} {l B : Nat} (hq : bq < B) (hB : B ≤ B0 + 3) : OwnFrom B (fun (_ : β) V => NbO L bq bi bg be B0 pw ph i s e l V) := by
  intro _ A C row h hg hr
  have hr' : ∀ r, row = some r → ∃ o : Obj, A.heap[r]? = some o ∧ o.isCells = false := fun r e => (hr r e).2
  have hs := h.sz
  have hb : C.heap[bq]? = A.heap[bq]? := hg.block bq (by omega) (fun e => by have := (hr bq e.symm).1; omega)
  exact ⟨blk_keeps h.ki hg hr', blk_keeps h.kg hg hr', blk_keeps h.ke hg hr', blk_keeps h.ky hg hr', blk_keeps h.kw hg hr', fun t => h.ti (tq_same hb t), fun t => h.tg (tq_same hb t), fun t => h.te (tq_same hb t), fun t => h.ty (tq_same hb t), fun t => h.tw (tq_same hb t), Nat.le_trans hs hg.size⟩

theorem NbO.kq {L : List Nat} {bq bi bg be B0 pw ph i : Nat} {s : Value} {e : Bool} {l R : Nat} {A C : World} (h : NbO L bq bi bg be B0 pw ph i s e l A) (hk : Kq L bq R A C) (hi : bi < R) (hg : bg < R) (he : be < R) (hR : R < B0) : NbO L bq bi bg be B0 pw ph i s e l C := by
  have key : ∀ k, k < A.heap.size → ¬ TQ L bq A k → ¬ TQ L bq C k := fun k hlt hn ht => by
    rcases hk.ptr k ht with h1 | h1
    · exact hn h1
    · omega
  exact ⟨hk.same _ _ h.ki (by omega) (.inr h.ti), hk.same _ _ h.kg (by omega) (.inr h.tg), hk.same _ _ h.ke (by omega) (.inr h.te), hk.same _ _ h.ky (by omega) (.inr h.ty), hk.same _ _ h.kw (by omega) (.inr h.tw), key _ h.ki.lt h.ti, key _ h.kg.lt h.tg, key _ h.ke.lt h.te, key _ h.ky.lt h.ty, key _ h.kw.lt h.tw, Nat.le_trans h.sz hk.size⟩

/-- The neighbours among some places. -/
def nbl (pw ph : Nat) (e : Bool) (i : Nat) (l : List Nat) : List Nat := (l.filter (nbOk pw ph e i)).map (nbAt pw i)
theorem nbl_snoc (pw ph : Nat) (e : Bool) (i : Nat) (l : List Nat) (t : Nat) : nbl pw ph e i (l ++ [t]) = nbl pw ph e i l ++ (if nbOk pw ph e i t = true then [nbAt pw i t] else []) := by
  unfold nbl
  rw [List.filter_append, List.map_append]
  cases h : nbOk pw ph e i t <;> simp [h]
theorem nbl_length (pw ph : Nat) (e : Bool) (i : Nat) (l : List Nat) : (nbl pw ph e i l).length ≤ l.length := by
  unfold nbl
  rw [List.length_map]
  exact List.length_filter_le _ _

theorem neighbours_any (iw ih : Int) (s : Value) (i : Int) (e : Bool) (hs : ∃ a n c, s = .slice a n c) (w : World) :
    Calls Try.prog 112 #[.agg #[.int .i64 iw, .int .i64 ih, s], .int .i64 i, .bool e] w fun r w' => r = .returned (.func (.func 133) #[] #[.pointer (some ⟨w.heap.size + 1, 0, none⟩), .pointer (some ⟨w.heap.size, 0, none⟩), .pointer (some ⟨w.heap.size + 2, 0, none⟩)]) ∧
      ((w.alloc (.cells #[.int .i64 iw, .int .i64 ih, s] 100)).alloc (.cells #[.int .i64 i] 3)).alloc (.cells #[.bool e] 4) = w' := by
  obtain ⟨a, n, c, rfl⟩ := hs
  go_enter Try.func112, Try.ntmps112
  go_wp2
  go_ret
  exact ⟨rfl, rfl⟩

set_option maxRecDepth 100000 in
set_option maxHeartbeats 8000000 in
theorem nb_seq (L : List Nat) (bq : Nat) (pw ph i : Nat) (hw1 : 1 ≤ pw) (hw2 : pw ≤ 16) (hh1 : 1 ≤ ph) (hh2 : ph ≤ 16) (hi : i < pw * ph) (e : Bool) (sa : Option Addr) (sn sc bi bg be : Nat) (w : World)
    (ki : Blk w bi 3 #[.int .i64 i]) (kg : Blk w bg 100 #[.int .i64 pw, .int .i64 ph, .slice sa sn sc]) (ke : Blk w be 4 #[.bool e]) (ti : ¬ TQ L bq w bi) (tg : ¬ TQ L bq w bg) (te : ¬ TQ L bq w be) (hq : bq < w.heap.size) (hlt : ∀ k, TQ L bq w k → k < w.heap.size) :
    SeqO Try.prog 133 #[.pointer (some ⟨bi, 0, none⟩), .pointer (some ⟨bg, 0, none⟩), .pointer (some ⟨be, 0, none⟩)] (fun k : Nat => #[.int .i64 k]) (Kq L bq (w.heap.size + 1)) (fun k => k ∈ nbs pw ph e i) (fun xs => xs = nbs pw ph e i) 9 w := by
  intro l J W0 hW hsz hJ hY h0
  have lbi := ki.lt
  have lbg := kg.lt
  have lbe := ke.lt
  have hbq : W0.heap[bq]? = w.heap[bq]? := hW.block bq hq
  replace ki := ki.below hW lbi
  replace kg := kg.below hW lbg
  replace ke := ke.below hW lbe
  replace ti : ¬ TQ L bq W0 bi := fun t => ti (tq_same hbq t)
  replace tg : ¬ TQ L bq W0 bg := fun t => tg (tq_same hbq t)
  replace te : ¬ TQ L bq W0 be := fun t => te (tq_same hbq t)
  have hlt0 : ∀ k, TQ L bq W0 k → k < w.heap.size := fun k t => hlt k (tq_same hbq t)
  clear hbq hW hlt
  obtain ⟨R, hR⟩ : ∃ R, w.heap.size + 1 = R := ⟨_, rfl⟩
  rw [hR] at hsz hY
  have lq : bq < R := by omega
  replace lbi : bi < R := by omega
  replace lbg : bg < R := by omega
  replace lbe : be < R := by omega
  replace hlt0 : ∀ k, TQ L bq W0 k → k < R := fun k t => by have := hlt0 k t; omega
  clear hR hq
  obtain ⟨B0, hB0⟩ : ∃ B, W0.heap.size = B := ⟨_, rfl⟩
  rw [hB0] at hsz
  have hixy := idx_split pw i
  have hX : i % pw < pw := Nat.mod_lt _ (by omega)
  have hYY : i / pw < ph := Nat.div_lt_of_lt_mul hi
  have eX1 : (i : Int).tmod (pw : Int) = ((i % pw : Nat) : Int) := by rw [Int.tmod_eq_emod_of_nonneg (by omega)]; rfl
  have eY1 : (i : Int).tdiv (pw : Int) = ((i / pw : Nat) : Int) := by rw [Int.tdiv_eq_ediv_of_nonneg (by omega)]; rfl
  have eX2 : (i : Int) % (pw : Int) = ((i % pw : Nat) : Int) := rfl
  have eY2 : (i : Int) / (pw : Int) = ((i / pw : Nat) : Int) := rfl
  obtain ⟨X, hXe⟩ : ∃ X, i % pw = X := ⟨_, rfl⟩
  obtain ⟨Y, hYe⟩ : ∃ Y, i / pw = Y := ⟨_, rfl⟩
  rw [hXe] at hX eX1 eX2 hixy
  rw [hYe] at hYY eY1 eY2 hixy
  have hXeH := Lib.hid hXe
  have hYeH := Lib.hid hYe
  clear hXe hYe
  have hixyH := Lib.hid hixy
  have hiH := Lib.hid hi
  have hi256 : i ≤ 255 := by
    have := Nat.mul_le_mul hw2 hh2
    omega
  clear hi hixy
  have hpw0 : ¬ pw = 0 := by omega
  have hYH := Lib.hid hY
  clear hY
  refine (callsIn_wide (n := 10)).1 ?_
  refine callsIn_of_wp_marks Try.func133 rfl trivial ?_
  simp only [Try.ntmps133, List.size_toArray, List.length_cons, List.length_nil, Nat.reduceAdd, Nat.reduceSub, Array.replicate_succ, Array.replicate_zero, List.push_toArray, List.append_toArray, List.nil_append, List.cons_append]
  gi_wp2_with fail
  refine ⟨trivial, (callsIn_wide.2 (places_any _ _ _)).mono ?_⟩
  rintro e1 w' ⟨rfl, rfl⟩
  gi_wp2_with fail
  have ky := ((Blk.new W0 133 #[.func (.yield l) #[] #[]]).alloc (.cells #[.int .i64 3] 3)).alloc (.cells #[.int .i64 3] 3)
  have kpw := (Blk.new (W0.alloc (.cells #[.func (.yield l) #[] #[]] 133)) 3 #[.int .i64 3]).alloc (.cells #[.int .i64 3] 3)
  have kph := Blk.new ((W0.alloc (.cells #[.func (.yield l) #[] #[]] 133)).alloc (.cells #[.int .i64 3] 3)) 3 #[.int .i64 3]
  have hbw := below_al (below_al (below_al (Below.refl _ W0) (.cells #[.func (.yield l) #[] #[]] 133)) (.cells #[.int .i64 3] 3)) (.cells #[.int .i64 3] 3)
  have hszV : (((W0.alloc (.cells #[.func (.yield l) #[] #[]] 133)).alloc (.cells #[.int .i64 3] 3)).alloc (.cells #[.int .i64 3] 3)).heap.size = W0.heap.size + 1 + 1 + 1 := by simp
  have h0' : J (nbl pw ph e i []) (((W0.alloc (.cells #[.func (.yield l) #[] #[]] 133)).alloc (.cells #[.int .i64 3] 3)).alloc (.cells #[.int .i64 3] 3)) := hJ.alloc _ (hJ.alloc _ (hJ.alloc _ h0))
  simp only [World.size_alloc] at kpw kph ⊢
  obtain ⟨V0, hV0⟩ : ∃ V, ((W0.alloc (.cells #[.func (.yield l) #[] #[]] 133)).alloc (.cells #[.int .i64 3] 3)).alloc (.cells #[.int .i64 3] 3) = V := ⟨_, rfl⟩
  rw [hV0] at ky kpw kph hbw hszV h0' ⊢
  clear hV0 h0
  have hqV : V0.heap[bq]? = W0.heap[bq]? := hbw.block bq (by omega)
  have hnew : ∀ k, R ≤ k → ¬ TQ L bq V0 k := fun k hk t => by have := hlt0 k (tq_same hqV t); omega
  rw [hB0] at ky kpw kph hszV hJ
  have hO : NbO L bq bi bg be B0 pw ph i (.slice sa sn sc) e l V0 := ⟨ki.below hbw ki.lt, kg.below hbw kg.lt, ke.below hbw ke.lt, ky, kpw, fun t => ti (tq_same hqV t), fun t => tg (tq_same hqV t), fun t => te (tq_same hqV t), hnew _ (by omega), hnew _ (by omega), by omega⟩
  clear hnew hqV hbw ki kg ke ti tg te ky hlt0 hB0
  refine wpIn_rangeFunc_ownG (n := 10) rfl (by omega) (gf := 131) (lb := #[.pointer (some ⟨B0 + 1 + 1, 0, none⟩), .pointer (some ⟨B0 + 1, 0, none⟩)]) rfl trivial (enters_of Try.func131 (by kernel_rfl) rfl)
    (Kp := fun A B => B.heap[B0 + 1]? = A.heap[B0 + 1]?)
    (places_stopsK Fence.wide 9 trivial rfl (by omega) (B0 + 1 + 1) (B0 + 1) 3 3 (by omega) (by omega) V0 (by omega) (by omega) (kph.cell rfl) (kpw.cell rfl)) (fun h k => k.trans h) (fun W l o o' hl _ _ _ => World.putObj_heap_other (by omega)) (Below.refl _ _) (fun _ => rfl)
    (fun pre W => NbO L bq bi bg be B0 pw ph i (.slice sa sn sc) e l W ∧ J (nbl pw ph e i (pre.map Fin.val)) W)
    (fun _ _ _ => False)
    ((NbO.own (by omega) (by omega)).and (fun s A B row hs hg hr => ownFrom_le hJ (by omega) _ A B row hs hg hr))
    (fun _ _ _ _ _ hs _ _ => hs)
    ⟨hO, h0'⟩
    ?act
    ?assign ?body ?done ?stop
  case assign =>
    intro l u W K hK
    simp only [enc2]
    gi_wp2
    exact hK
  case body =>
    rintro l' pre ⟨t, ht⟩ W ⟨hO, hJW⟩ hplt
    have hsn := Lib.hid (nbl_snoc pw ph e i (pre.map Fin.val) t)
    have hpre := Lib.hid (show (pre ++ [(⟨t, ht⟩ : Fin (3 * 3))]).map Fin.val = pre.map Fin.val ++ [t] by simp)
    have ecX : cX 3 t = ((t % 3 : Nat) : Int) := rfl
    have ecY : cY 3 t = ((t / 3 : Nat) : Int) := rfl
    dsimp only
    rw [ecX, ecY]
    have hok := Lib.hid (show nbOk pw ph e i t = ((((t % 3 == 1) != (t / 3 == 1)) || (e && (t % 3 != 1 && t / 3 != 1))) && (decide (1 ≤ X + t % 3) && decide (X + t % 3 ≤ pw) && (decide (1 ≤ Y + t / 3) && decide (Y + t / 3 ≤ ph)))) by unfold nbOk; rw [hXeH.out, hYeH.out])
    have hat := Lib.hid (show nbAt pw i t = (Y + t / 3 - 1) * pw + (X + t % 3 - 1) by unfold nbAt; rw [hXeH.out, hYeH.out])
    have hlen : (nbl pw ph e i (pre.map Fin.val)).length < 9 := Nat.lt_of_le_of_lt (nbl_length _ _ _ _ _) (by rw [List.length_map]; exact hplt)
    have hx3 : t % 3 < 3 := by omega
    have hy3 : t / 3 < 3 := by omega
    obtain ⟨tx, htx⟩ : ∃ tx, t % 3 = tx := ⟨_, rfl⟩
    obtain ⟨ty, hty⟩ : ∃ ty, t / 3 = ty := ⟨_, rfl⟩
    rw [htx] at hok hat hx3 ⊢
    rw [hty] at hok hat hy3 ⊢
    clear htx hty ecX ecY
    have hokH := hok
    have hatH := hat
    clear hok hat
    gi_wp2_with fail
    have hS : Below W.heap.size W W.drew := (Below.refl _ _).drew
    refine round_region (fun W' => Below W.heap.size W W') 16 16 l' _ (by kernel_rfl) (by kernel_rfl) (fun ⟨_, _, h⟩ => h) rfl ?_
    simp only [Array.replicate_succ, Array.replicate_zero, List.push_toArray, List.nil_append, List.cons_append]
    refine take_op 0 (v := ?rv0) rfl (by kernel_rfl) (fun _ _ _ h => h) (by rfl) hS (fun w' hS' => ?ry0) ?rz0
    case ry0 =>
      have a0 := (hO.ki.below hS' hO.ki.lt).cell (i := 0) rfl
      have b0 := (hO.kg.below hS' hO.kg.lt).cell (i := 0) rfl
      go_simp
      rfl
    simp only [List.setIfInBounds_toArray, List.set_cons_zero, List.set_cons_succ]
    refine take_op 1 (v := ?rv1) rfl (by kernel_rfl) (fun _ _ _ h => h) (by rfl) hS (fun w' hS' => ?ry1) ?rz1
    case ry1 =>
      go_simp
      rfl
    simp only [List.setIfInBounds_toArray, List.set_cons_zero, List.set_cons_succ]
    refine take_op 2 (v := ?rv2) rfl (by kernel_rfl) (fun _ _ _ h => h) (by rfl) hS (fun w' hS' => ?ry2) ?rz2
    case ry2 =>
      have a0 := (hO.ki.below hS' hO.ki.lt).cell (i := 0) rfl
      have b0 := (hO.kg.below hS' hO.kg.lt).cell (i := 0) rfl
      go_simp
      rfl
    simp only [List.setIfInBounds_toArray, List.set_cons_zero, List.set_cons_succ]
    refine take_op 3 (v := ?rv3) rfl (by kernel_rfl) (fun _ _ _ h => h) (by rfl) hS (fun w' hS' => ?ry3) ?rz3
    case ry3 =>
      go_simp
      try go_ints
      rfl
    simp only [List.setIfInBounds_toArray, List.set_cons_zero, List.set_cons_succ]
    refine take_op 4 (v := ?rv4) rfl (by kernel_rfl) (fun _ _ _ h => h) (by rfl) hS (fun w' hS' => ?ry4) ?rz4
    case ry4 =>
      go_simp
      rfl
    simp only [List.setIfInBounds_toArray, List.set_cons_zero, List.set_cons_succ]
    refine take_op 5 (v := ?rv5) rfl (by kernel_rfl) (fun _ _ _ h => h) (by rfl) hS (fun w' hS' => ?ry5) ?rz5
    case ry5 =>
      go_simp
      try go_ints
      rfl
    simp only [List.setIfInBounds_toArray, List.set_cons_zero, List.set_cons_succ]
    refine take_op 6 (v := ?rv6) rfl (by kernel_rfl) (fun _ _ _ h => h) (by rfl) hS (fun w' hS' => ?ry6) ?rz6
    case ry6 =>
      go_simp
      try go_ints
      rfl
    simp only [List.setIfInBounds_toArray, List.set_cons_zero, List.set_cons_succ]
    refine take_op 7 (v := ?rv7) rfl (by kernel_rfl) (fun _ _ _ h => h) (by rfl) hS (fun w' hS' => ?ry7) ?rz7
    case ry7 =>
      have a0 := (hO.ki.below hS' hO.ki.lt).cell (i := 0) rfl
      have b0 := (hO.kg.below hS' hO.kg.lt).cell (i := 0) rfl
      go_simp
      rfl
    simp only [List.setIfInBounds_toArray, List.set_cons_zero, List.set_cons_succ]
    refine take_op 8 (v := ?rv8) rfl (by kernel_rfl) (fun _ _ _ h => h) (by rfl) hS (fun w' hS' => ?ry8) ?rz8
    case ry8 =>
      go_simp
      rfl
    simp only [List.setIfInBounds_toArray, List.set_cons_zero, List.set_cons_succ]
    refine take_op 9 (v := ?rv9) rfl (by kernel_rfl) (fun _ _ _ h => h) (by rfl) hS (fun w' hS' => ?ry9) ?rz9
    case ry9 =>
      have a0 := (hO.ki.below hS' hO.ki.lt).cell (i := 0) rfl
      have b0 := (hO.kg.below hS' hO.kg.lt).cell (i := 0) rfl
      go_simp
      rfl
    simp only [List.setIfInBounds_toArray, List.set_cons_zero, List.set_cons_succ]
    refine take_op 10 (v := ?rv10) rfl (by kernel_rfl) (fun _ _ _ h => h) (by rfl) hS (fun w' hS' => ?ry10) ?rz10
    case ry10 =>
      go_simp
      try go_ints
      rfl
    simp only [List.setIfInBounds_toArray, List.set_cons_zero, List.set_cons_succ]
    refine take_op 11 (v := ?rv11) rfl (by kernel_rfl) (fun _ _ _ h => h) (by rfl) hS (fun w' hS' => ?ry11) ?rz11
    case ry11 =>
      go_simp
      rfl
    simp only [List.setIfInBounds_toArray, List.set_cons_zero, List.set_cons_succ]
    refine take_op 12 (v := ?rv12) rfl (by kernel_rfl) (fun _ _ _ h => h) (by rfl) hS (fun w' hS' => ?ry12) ?rz12
    case ry12 =>
      go_simp
      try go_ints
      rfl
    simp only [List.setIfInBounds_toArray, List.set_cons_zero, List.set_cons_succ]
    refine take_op 13 (v := ?rv13) rfl (by kernel_rfl) (fun _ _ _ h => h) (by rfl) hS (fun w' hS' => ?ry13) ?rz13
    case ry13 =>
      go_simp
      try go_ints
      rfl
    simp only [List.setIfInBounds_toArray, List.set_cons_zero, List.set_cons_succ]
    refine take_op 14 (v := ?rv14) rfl (by kernel_rfl) (fun _ _ _ h => h) (by rfl) hS (fun w' hS' => ?ry14) ?rz14
    case ry14 =>
      go_simp
      rfl
    simp only [List.setIfInBounds_toArray, List.set_cons_zero, List.set_cons_succ]
    refine take_op 15 (v := ?rv15) rfl (by kernel_rfl) (fun _ _ _ h => h) (by rfl) hS (fun w' hS' => ?ry15) ?rz15
    case ry15 =>
      go_simp
      rfl
    simp only [List.setIfInBounds_toArray, List.set_cons_zero, List.set_cons_succ]
    refine done_ops (by kernel_rfl) ?_
    have hSO : NbO L bq bi bg be B0 pw ph i (.slice sa sn sc) e l W.drew := NbO.own (β := Unit) (B := V0.heap.size) (by omega) (by omega) () _ _ none hO (grown_of_below hS none) (fun r e => by cases e)
    have hSJ : J (nbl pw ph e i (pre.map Fin.val)) W.drew := hJ _ _ _ none hJW (grown_of_below hS none) (fun r e => by cases e)
    have lB1 : B0 + 1 < W.heap.size := by have := hO.sz; omega
    have hkq : Kq L bq R W W.drew := .grown (grown_of_below hS none) (by omega)
    obtain ⟨V, hV⟩ : ∃ V, W.drew = V := ⟨_, rfl⟩
    rw [hV] at hS hSO hSJ hkq ⊢
    clear hV
    obtain ⟨u, hu⟩ : ∃ u, (X : Int) + (tx : Int) - 1 = u := ⟨_, rfl⟩
    obtain ⟨v, hv⟩ : ∃ v, (Y : Int) + (ty : Int) - 1 = v := ⟨_, rfl⟩
    rw [hu, hv]
    have a0 := hSO.ki.cell (i := 0) rfl
    have b0 := hSO.kg.cell (i := 0) rfl
    have b1 := hSO.kg.cell (i := 1) rfl
    have b2 := hSO.kg.cell (i := 2) rfl
    have c0 := hSO.ke.cell (i := 0) rfl
    have d0 := hSO.ky.cell (i := 0) rfl
    have q1 : (tx == 1) = ((tx : Int) == 1) := by rw [Bool.eq_iff_iff]; simp only [beq_iff_eq]; omega
    have q2 : (ty == 1) = ((ty : Int) == 1) := by rw [Bool.eq_iff_iff]; simp only [beq_iff_eq]; omega
    have q3 : (tx != 1) = !(tx == 1) := rfl
    have q4 : (ty != 1) = !(ty == 1) := rfl
    obtain ⟨p1, hp1⟩ : ∃ b, ((tx : Int) == 1) = b := ⟨_, rfl⟩
    obtain ⟨p2, hp2⟩ : ∃ b, ((ty : Int) == 1) = b := ⟨_, rfl⟩
    have hn1 : ((tx : Int) != 1) = !p1 := by rw [← hp1]; rfl
    have hn2 : ((ty : Int) != 1) = !p2 := by rw [← hp2]; rfl
    have hokE := hokH.out
    rw [q3, q4, q1, q2, hp1, hp2] at hokE
    have hin : (decide (1 ≤ X + tx) && decide (X + tx ≤ pw) && (decide (1 ≤ Y + ty) && decide (Y + ty ≤ ph))) = (inR u 0 (pw - 1) && inR v 0 (ph - 1)) := by
      rw [Bool.eq_iff_iff]
      simp only [Bool.and_eq_true, decide_eq_true_eq, inR_true]
      omega
    rw [hin] at hokE
    have hokH2 := Lib.hid hokE
    clear hokE q1 q2 q3 q4 hin
    have hu1 : -1 ≤ u ∧ u ≤ 20 := by omega
    have hv1 : -1 ≤ v ∧ v ≤ 20 := by omega
    have huH := Lib.hid hu
    have hvH := Lib.hid hv
    clear hu hv
    cases p1 <;> cases p2
    · cases e
      · have hno := Lib.hid (show nbOk pw ph false i t = false by rw [hokH2.out]; rfl)
        gi_wp2_with fail
        refine ⟨trivial, ?_⟩
        gi_wp2_with fail
        refine ⟨(fun f h => by cases h), ?_⟩
        gi_wp2_with fail
        exact ⟨(others_of_below hS).from _, hS.block _ (by omega), hSO, by rw [hpre.out, hsn.out, hno.out, if_neg (by decide), List.append_nil]; exact hSJ⟩
      · have hyes := Lib.hid (show nbOk pw ph true i t = (inR u 0 (pw - 1) && inR v 0 (ph - 1)) by rw [hokH2.out]; rfl)
        gi_wp2_with fail
        refine ⟨trivial, (CallsIn.inRound l' (callsIn_wide.2 (inside_any pw ph u v (.slice sa sn sc) V (by omega) (by omega) (by omega) (by omega) ⟨_, _, _, rfl⟩))).mono ?_⟩
        rintro e1 V1 ⟨rfl, hb1⟩
        have hS1 : Below W.heap.size W V1 := hS.trans (hb1.mono hS.size)
        have hSO1 : NbO L bq bi bg be B0 pw ph i (.slice sa sn sc) true l V1 := NbO.own (β := Unit) (B := V0.heap.size) (by omega) (by omega) () _ _ none hSO (grown_of_below hb1 none) (fun r e => by cases e)
        have hSJ1 : J (nbl pw ph true i (pre.map Fin.val)) V1 := hJ _ _ _ none hSJ (grown_of_below hb1 none) (fun r e => by cases e)
        have hkq1 : Kq L bq R W V1 := hkq.trans (.grown (grown_of_below hb1 none) (by have := hS.size; omega))
        obtain ⟨γ, hγ⟩ : ∃ γ, (inR u 0 (pw - 1) && inR v 0 (ph - 1)) = γ := ⟨_, rfl⟩
        have hyesE := hyes.out
        rw [hγ] at hyesE ⊢
        have hyes2 := Lib.hid hyesE
        clear hyesE hyes a0 b0 b1 b2 c0 d0
        cases γ with
        | false =>
          gi_wp2_with fail
          refine ⟨(fun f h => by cases h), ?_⟩
          gi_wp2_with fail
          exact ⟨(others_of_below hS1).from _, hS1.block _ (by omega), hSO1, by rw [hpre.out, hsn.out, hyes2.out, if_neg (by decide), List.append_nil]; exact hSJ1⟩
        | true =>
          simp only [Bool.and_eq_true, inR_true] at hγ
          obtain ⟨⟨g1, g2⟩, g3, g4⟩ := hγ
          obtain ⟨m1, m2⟩ := mul_small (a := v) (b := (pw : Int)) (m := 16) (n := 16) (by omega) (by omega) (by omega) (by omega)
          obtain ⟨fn, tmps, assign, body, hyy, hRd⟩ := hYH.out (nbl pw ph true i (pre.map Fin.val)) (nbAt pw i t) V1 hSJ1 (by simp only [nbs, List.mem_map, List.mem_filter, List.mem_range]; exact ⟨t, ⟨ht, hyes2.out⟩, rfl⟩) hlen
          have hatE : ((nbAt pw i t : Nat) : Int) = v * (pw : Int) + u := by
            rw [hatH.out, Int.natCast_add, Int.natCast_mul, show ((Y + ty - 1 : Nat) : Int) = v by have := hvH.out; omega, show ((X + tx - 1 : Nat) : Int) = u by have := huH.out; omega]
          have hyy2 : (Instr.yield l #[.int .i64 (v * (pw : Int) + u)]).run Try.prog V1 = .ok (.round l fn tmps assign body) V1 := by rw [← hatE]; exact hyy
          clear hyy
          have a0 := hSO1.ki.cell (i := 0) rfl
          have b0 := hSO1.kg.cell (i := 0) rfl
          have d0 := hSO1.ky.cell (i := 0) rfl
          gi_wp2_with fail
          refine (roundIn_any hRd).mono ?_
          rintro e2 W3 ⟨rfl, hJ3, hK3⟩
          clear a0 b0 d0
          gi_wp2_with fail
          have hK13 := hkq1.trans hK3
          have hO3 := hO.kq hK13 lbi lbg lbe hsz
          exact ⟨⟨hK13.size, fun k o hk h1 ho => hK13.same k o h1 (by omega) (.inl ho)⟩, hO3.kw.trans hO.kw.symm, hO3, by rw [hpre.out, hsn.out, hyes2.out, if_pos rfl]; exact hJ3⟩
    · have hyes := Lib.hid (show nbOk pw ph e i t = (inR u 0 (pw - 1) && inR v 0 (ph - 1)) by rw [hokH2.out]; rfl)
      gi_wp2_with fail
      refine ⟨trivial, (CallsIn.inRound l' (callsIn_wide.2 (inside_any pw ph u v (.slice sa sn sc) V (by omega) (by omega) (by omega) (by omega) ⟨_, _, _, rfl⟩))).mono ?_⟩
      rintro e1 V1 ⟨rfl, hb1⟩
      have hS1 : Below W.heap.size W V1 := hS.trans (hb1.mono hS.size)
      have hSO1 : NbO L bq bi bg be B0 pw ph i (.slice sa sn sc) e l V1 := NbO.own (β := Unit) (B := V0.heap.size) (by omega) (by omega) () _ _ none hSO (grown_of_below hb1 none) (fun r e => by cases e)
      have hSJ1 : J (nbl pw ph e i (pre.map Fin.val)) V1 := hJ _ _ _ none hSJ (grown_of_below hb1 none) (fun r e => by cases e)
      have hkq1 : Kq L bq R W V1 := hkq.trans (.grown (grown_of_below hb1 none) (by have := hS.size; omega))
      obtain ⟨γ, hγ⟩ : ∃ γ, (inR u 0 (pw - 1) && inR v 0 (ph - 1)) = γ := ⟨_, rfl⟩
      have hyesE := hyes.out
      rw [hγ] at hyesE ⊢
      have hyes2 := Lib.hid hyesE
      clear hyesE hyes a0 b0 b1 b2 c0 d0
      cases γ with
      | false =>
        gi_wp2_with fail
        refine ⟨(fun f h => by cases h), ?_⟩
        gi_wp2_with fail
        exact ⟨(others_of_below hS1).from _, hS1.block _ (by omega), hSO1, by rw [hpre.out, hsn.out, hyes2.out, if_neg (by decide), List.append_nil]; exact hSJ1⟩
      | true =>
        simp only [Bool.and_eq_true, inR_true] at hγ
        obtain ⟨⟨g1, g2⟩, g3, g4⟩ := hγ
        obtain ⟨m1, m2⟩ := mul_small (a := v) (b := (pw : Int)) (m := 16) (n := 16) (by omega) (by omega) (by omega) (by omega)
        obtain ⟨fn, tmps, assign, body, hyy, hRd⟩ := hYH.out (nbl pw ph e i (pre.map Fin.val)) (nbAt pw i t) V1 hSJ1 (by simp only [nbs, List.mem_map, List.mem_filter, List.mem_range]; exact ⟨t, ⟨ht, hyes2.out⟩, rfl⟩) hlen
        have hatE : ((nbAt pw i t : Nat) : Int) = v * (pw : Int) + u := by
          rw [hatH.out, Int.natCast_add, Int.natCast_mul, show ((Y + ty - 1 : Nat) : Int) = v by have := hvH.out; omega, show ((X + tx - 1 : Nat) : Int) = u by have := huH.out; omega]
        have hyy2 : (Instr.yield l #[.int .i64 (v * (pw : Int) + u)]).run Try.prog V1 = .ok (.round l fn tmps assign body) V1 := by rw [← hatE]; exact hyy
        clear hyy
        have a0 := hSO1.ki.cell (i := 0) rfl
        have b0 := hSO1.kg.cell (i := 0) rfl
        have d0 := hSO1.ky.cell (i := 0) rfl
        gi_wp2_with fail
        refine (roundIn_any hRd).mono ?_
        rintro e2 W3 ⟨rfl, hJ3, hK3⟩
        clear a0 b0 d0
        gi_wp2_with fail
        have hK13 := hkq1.trans hK3
        have hO3 := hO.kq hK13 lbi lbg lbe hsz
        exact ⟨⟨hK13.size, fun k o hk h1 ho => hK13.same k o h1 (by omega) (.inl ho)⟩, hO3.kw.trans hO.kw.symm, hO3, by rw [hpre.out, hsn.out, hyes2.out, if_pos rfl]; exact hJ3⟩
    · have hyes := Lib.hid (show nbOk pw ph e i t = (inR u 0 (pw - 1) && inR v 0 (ph - 1)) by rw [hokH2.out]; rfl)
      gi_wp2_with fail
      refine ⟨trivial, (CallsIn.inRound l' (callsIn_wide.2 (inside_any pw ph u v (.slice sa sn sc) V (by omega) (by omega) (by omega) (by omega) ⟨_, _, _, rfl⟩))).mono ?_⟩
      rintro e1 V1 ⟨rfl, hb1⟩
      have hS1 : Below W.heap.size W V1 := hS.trans (hb1.mono hS.size)
      have hSO1 : NbO L bq bi bg be B0 pw ph i (.slice sa sn sc) e l V1 := NbO.own (β := Unit) (B := V0.heap.size) (by omega) (by omega) () _ _ none hSO (grown_of_below hb1 none) (fun r e => by cases e)
      have hSJ1 : J (nbl pw ph e i (pre.map Fin.val)) V1 := hJ _ _ _ none hSJ (grown_of_below hb1 none) (fun r e => by cases e)
      have hkq1 : Kq L bq R W V1 := hkq.trans (.grown (grown_of_below hb1 none) (by have := hS.size; omega))
      obtain ⟨γ, hγ⟩ : ∃ γ, (inR u 0 (pw - 1) && inR v 0 (ph - 1)) = γ := ⟨_, rfl⟩
      have hyesE := hyes.out
      rw [hγ] at hyesE ⊢
      have hyes2 := Lib.hid hyesE
      clear hyesE hyes a0 b0 b1 b2 c0 d0
      cases γ with
      | false =>
        gi_wp2_with fail
        refine ⟨(fun f h => by cases h), ?_⟩
        gi_wp2_with fail
        exact ⟨(others_of_below hS1).from _, hS1.block _ (by omega), hSO1, by rw [hpre.out, hsn.out, hyes2.out, if_neg (by decide), List.append_nil]; exact hSJ1⟩
      | true =>
        simp only [Bool.and_eq_true, inR_true] at hγ
        obtain ⟨⟨g1, g2⟩, g3, g4⟩ := hγ
        obtain ⟨m1, m2⟩ := mul_small (a := v) (b := (pw : Int)) (m := 16) (n := 16) (by omega) (by omega) (by omega) (by omega)
        obtain ⟨fn, tmps, assign, body, hyy, hRd⟩ := hYH.out (nbl pw ph e i (pre.map Fin.val)) (nbAt pw i t) V1 hSJ1 (by simp only [nbs, List.mem_map, List.mem_filter, List.mem_range]; exact ⟨t, ⟨ht, hyes2.out⟩, rfl⟩) hlen
        have hatE : ((nbAt pw i t : Nat) : Int) = v * (pw : Int) + u := by
          rw [hatH.out, Int.natCast_add, Int.natCast_mul, show ((Y + ty - 1 : Nat) : Int) = v by have := hvH.out; omega, show ((X + tx - 1 : Nat) : Int) = u by have := huH.out; omega]
        have hyy2 : (Instr.yield l #[.int .i64 (v * (pw : Int) + u)]).run Try.prog V1 = .ok (.round l fn tmps assign body) V1 := by rw [← hatE]; exact hyy
        clear hyy
        have a0 := hSO1.ki.cell (i := 0) rfl
        have b0 := hSO1.kg.cell (i := 0) rfl
        have d0 := hSO1.ky.cell (i := 0) rfl
        gi_wp2_with fail
        refine (roundIn_any hRd).mono ?_
        rintro e2 W3 ⟨rfl, hJ3, hK3⟩
        clear a0 b0 d0
        gi_wp2_with fail
        have hK13 := hkq1.trans hK3
        have hO3 := hO.kq hK13 lbi lbg lbe hsz
        exact ⟨⟨hK13.size, fun k o hk h1 ho => hK13.same k o h1 (by omega) (.inl ho)⟩, hO3.kw.trans hO.kw.symm, hO3, by rw [hpre.out, hsn.out, hyes2.out, if_pos rfl]; exact hJ3⟩
    · cases e
      · have hno := Lib.hid (show nbOk pw ph false i t = false by rw [hokH2.out]; rfl)
        gi_wp2_with fail
        refine ⟨trivial, ?_⟩
        gi_wp2_with fail
        refine ⟨(fun f h => by cases h), ?_⟩
        gi_wp2_with fail
        exact ⟨(others_of_below hS).from _, hS.block _ (by omega), hSO, by rw [hpre.out, hsn.out, hno.out, if_neg (by decide), List.append_nil]; exact hSJ⟩
      · have hno := Lib.hid (show nbOk pw ph true i t = false by rw [hokH2.out]; rfl)
        gi_wp2_with fail
        refine ⟨trivial, ?_⟩
        gi_wp2_with fail
        refine ⟨(fun f h => by cases h), ?_⟩
        gi_wp2_with fail
        exact ⟨(others_of_below hS).from _, hS.block _ (by omega), hSO, by rw [hpre.out, hsn.out, hno.out, if_neg (by decide), List.append_nil]; exact hSJ⟩

  case done =>
    rintro D ys W hD hys ⟨hO, hJW⟩ hK
    gi_wp2
    refine ⟨by simp, .inl ⟨_, _, rfl, run_takeDeferred hK, ?_⟩⟩
    refine ⟨_, results_none rfl _ _ _, ⟨_, rfl⟩, nbs pw ph e i, rfl, ?_⟩
    rw [hys] at hJW
    exact hJ.putObj _ hJW (by omega) hK rfl
  case stop =>
    rintro D c pre W _ _ h _
    exact h.elim

end Go.Proofs.Ytjglfeonoiljlaa

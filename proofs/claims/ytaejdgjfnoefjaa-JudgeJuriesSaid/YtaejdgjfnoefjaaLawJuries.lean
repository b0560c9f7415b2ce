/- The walk of the law JudgeJuries: it returns true, and nothing that lay has turned. -/
import Derived.Test.YtaejdgjfnoefjaaJT
import Derived.Test.YtaejdgjfnoefjaaImgE
import Derived.Maps.AppendAt
namespace Go.Proofs.Ytaejdgjfnoefjaa
open Go Go.RowKit Go.Shelf
set_option linter.unusedVariables false
set_option linter.unusedSimpArgs false

/-! ### append of what can be read, nil or not -/

theorem run_append_none0 {P : Program} {w : World} (base : Nat) (t ty e : TypeId) (i : TypeInfo) (size : Nat) (ht : P.underlying t = some (.slice e)) (hi : P.info? e = some i)
    (v : Value) (n : Nat) (xs : List Value) (hown : w.ownsRow base e size v n xs) (c : Nat) : (Builtin.append_ #[t, t] ty #[v, .slice none 0 c]).run P w = .ok v w := by
  rcases hown.2 with ⟨rfl, rfl⟩ | ⟨g, cap, cur, rfl, _, _, hnc, _⟩
  · simp [Builtin.append_, run_underlying ht, sizeOf, typeInfo, hi, Builtin.lenOf, Builtin.firstCells]
  · simp [Builtin.append_, run_underlying ht, sizeOf, typeInfo, hi, Builtin.lenOf, Builtin.firstCells, hnc, storeCells]

theorem grownBy_self (w : World) (row : Option Nat) : w.grownBy w row := ⟨rfl, rfl, rfl, Nat.le_refl _, fun _ _ _ => rfl⟩

/-- What stands at an address that may be none. -/
def NewsAt (W : World) (a : Option Addr) (m : Nat) (news : List Value) : Prop := (a = none ∧ m = 0) ∨ ∃ ad, a = some ad ∧ ∀ j u, news[j]? = some u → W.cell? (ad.add j) = some u

theorem wpList_append_any {P : Program} {w : World} {ops : Array Oper} {rest : List Oper} {o : Oper} {act : Act} {Q : Exit → Act → World → Prop} (hgd : o.guard = none) (s x : Operand) (t : TypeId)
    (ho : o.op = .call { callee := .builtin .append, args := #[s, x], argTypes := #[t, t] })
    (base : Nat) (e : TypeId) (i : TypeInfo) (z : Value) (bytes : Nat) (ht : P.underlying t = some (.slice e)) (hi : P.info? e = some i) (hz : i.zero = some z)
    (hsize : i.size = 1) (hby : i.bytes = bytes) (hzs : z.cells.size = 1)
    (v : Value) (n : Nat) (xs : List Value) (hs : act.eval s = v) (hown : w.ownsRow base e 1 v n xs)
    (a : Option Addr) (m c : Nat) (news : List Value) (hx : act.eval x = .slice a m c) (hl : news.length = m) (hnews : NewsAt w a m news) (h1 : ∀ u ∈ news, u.oneCell' = true)
    (h63 : n + m ≤ maxLen) (hbytes : (n + m) * bytes ≤ 140737488355328) (hbase : base ≤ w.heap.size)
    (h : ∀ v' w', w'.ownsRow base e 1 v' (n + m) (xs ++ news) → w.grownBy w' v.ownBlock → (v'.ownBlock = v.ownBlock ∨ v'.ownBlock = some w.heap.size) → wpList P ops Q rest (act.put o.dst v') w') :
    wpList P ops Q (o :: rest) act w := by
  rcases hnews with ⟨rfl, rfl⟩ | ⟨ad, rfl, hc⟩
  · obtain rfl : news = [] := List.eq_nil_of_length_eq_zero hl
    refine wpList_plain hgd fun K hK => ?_
    have hrun := run_append_none0 (P := P) (w := w) base t o.type e i 1 ht hi v n xs hown c
    unfold Oper.wp
    simp [execOp, ho, resolve, invoke, builtin, hs, hx, hrun, Result.andThen]
    exact hK _ _ (h v w (by simpa using hown) (grownBy_self _ _) (.inl rfl))
  · exact wpList_append_own_at w hgd s x t ho base e i z 1 bytes ht hi hz hsize hby hzs (by decide) v n xs hs hown ad m c news hx (by omega) hc h1 h63 hbytes hbase (fun v' w' g1 g2 g3 g4 => h v' w' g1 g2 g4)

theorem addr_add (b o j : Nat) : (⟨b, o, none⟩ : Addr).add j = ⟨b, o + j, none⟩ := by unfold Addr.add; split <;> simp_all
theorem RdN.news {B : Nat} {W : World} {a : Option Addr} {xs : List Nat} {m : Nat} (h : RdN B W a xs) (hm : xs.length = m) : NewsAt W a m (xs.map vu8) := by
  subst hm
  cases a with
  | none =>
    rcases h with h | ⟨b, o, h1, _⟩
    · subst h; exact .inl ⟨rfl, rfl⟩
    · cases h1
  | some ad =>
    refine .inr ⟨ad, rfl, fun j u hu => ?_⟩
    rcases h with h | ⟨b, o, h1, h2, h3⟩
    · subst h; simp at hu
    · simp only [Option.some.injEq] at h1
      subst h1
      have hj : j < xs.length := by
        rcases Nat.lt_or_ge j xs.length with h | h
        · exact h
        · rw [List.getElem?_eq_none (by simpa using h)] at hu; cases hu
      rw [addr_add, h3 j hj]
      simp [hj, vu8] at hu ⊢
      exact hu
theorem vu8_one (xs : List Nat) : ∀ u ∈ xs.map vu8, u.oneCell' = true := fun u hu => by
  obtain ⟨x, _, rfl⟩ := List.mem_map.1 hu
  rfl
theorem Rd.news {B : Nat} {W : World} {a : Option Addr} {xs : List Int} {m : Nat} (h : Rd B W a xs) (hm : xs.length = m) : NewsAt W a m (xs.map (Value.int .i64)) := by
  subst hm
  cases a with
  | none =>
    rcases h with h | ⟨b, o, h1, _⟩
    · subst h; exact .inl ⟨rfl, rfl⟩
    · cases h1
  | some ad =>
    refine .inr ⟨ad, rfl, fun j u hu => ?_⟩
    rcases h with h | ⟨b, o, h1, h2, h3⟩
    · subst h; simp at hu
    · simp only [Option.some.injEq] at h1
      subst h1
      have hj : j < xs.length := by
        rcases Nat.lt_or_ge j xs.length with h | h
        · exact h
        · rw [List.getElem?_eq_none (by simpa using h)] at hu; cases hu
      rw [addr_add, h3 j hj]
      simp [hj] at hu ⊢
      exact hu
theorem vint_one (xs : List Int) : ∀ u ∈ xs.map (Value.int .i64), u.oneCell' = true := fun u hu => by
  obtain ⟨x, _, rfl⟩ := List.mem_map.1 hu
  rfl
theorem NewsAt.below {W W' : World} {B : Nat} {a : Option Addr} {m : Nat} {news : List Value} (h : NewsAt W a m news) (hb : Below B W W') (ha : ∀ ad, a = some ad → ad.block < B) : NewsAt W' a m news := by
  rcases h with h | ⟨ad, rfl, h2⟩
  · exact .inl h
  · exact .inr ⟨ad, rfl, fun j u hu => by
      rw [hb.cell (by have := ha ad rfl; unfold Addr.add; split <;> exact this)]
      exact h2 j u hu⟩

/-! ### Rows of bytes that the call made -/

/-- The first m rows are copies, in rows of their own. -/
def OwnRows (B : Nat) (W : World) (L : List Value) (xss : List (List Nat)) (m : Nat) : Prop :=
  L.length = m ∧ ∀ i xs, i < m → xss[i]? = some xs → ∃ a c, L[i]? = some (.slice a xs.length c) ∧ W.ownsRow B 5 1 (.slice a xs.length c) xs.length (xs.map vu8)

theorem OwnRows.kept {B : Nat} {W W' : World} {L : List Value} {xss : List (List Nat)} {m : Nat} {row : Option Nat} (h : OwnRows B W L xss m) (hg : W.grownBy W' row) (hne : ∀ g cur, row = some g → W.heap[g]? ≠ some (.cells cur 5 (0, 0))) : OwnRows B W' L xss m := by
  refine ⟨h.1, fun i xs hi hx => ?_⟩
  obtain ⟨a, c, h1, h2⟩ := h.2 i xs hi hx
  refine ⟨a, c, h1, h2.kept hg ?_⟩
  rcases h2.2 with ⟨h3, _⟩ | ⟨g, cap, cur, h3, _, h4, _⟩
  · rw [h3]; exact .inl rfl
  · rw [h3]
    refine .inr fun e => ?_
    exact hne g cur e.symm h4
theorem OwnRows.snoc {B : Nat} {W : World} {L : List Value} {xss : List (List Nat)} {m : Nat} (h : OwnRows B W L xss m) {xs : List Nat} (hx : xss[m]? = some xs) {a : Option Addr} {c : Nat} (hr : W.ownsRow B 5 1 (.slice a xs.length c) xs.length (xs.map vu8)) :
    OwnRows B W (L ++ [.slice a xs.length c]) xss (m + 1) := by
  refine ⟨by simp [h.1], fun i ys hi hy => ?_⟩
  by_cases e : i = m
  · subst e
    rw [hx] at hy
    cases hy
    exact ⟨a, c, by rw [List.getElem?_append_right (by rw [h.1]; exact Nat.le_refl _), h.1]; simp, hr⟩
  · obtain ⟨a', c', h1, h2⟩ := h.2 i ys (by omega) hy
    exact ⟨a', c', by rw [List.getElem?_append_left (by rw [h.1]; omega)]; exact h1, h2⟩
theorem OwnRows.rdL {B : Nat} {W : World} {L : List Value} {xss : List (List Nat)} {m : Nat} (h : OwnRows B W L xss m) (hm : xss.length = m) {a : Option Addr} {c : Nat} (hr : W.ownsRow B 23 1 (.slice a m c) m L) : RdL W.heap.size W a xss := by
  subst hm
  rcases hr.2 with ⟨h1, h2⟩ | ⟨g, cap, cur, h1, _, hg, _⟩
  · exact .inl (List.eq_nil_of_length_eq_zero h2)
  · simp only [Value.slice.injEq, true_and] at h1
    obtain ⟨rfl, rfl⟩ := h1
    refine .inr ⟨g, 0, rfl, (Array.getElem?_eq_some_iff.1 hg).1, fun i xs hi => ?_⟩
    have hlt : i < xss.length := by
      rcases Nat.lt_or_ge i xss.length with h | h
      · exact h
      · rw [List.getElem?_eq_none h] at hi; cases hi
    obtain ⟨a', c', h3, h4⟩ := h.2 i xs hlt hi
    refine ⟨a', c', ?_, rowN_rd rfl h4⟩
    rw [Nat.zero_add, hr.cellAt i (by omega), h3]

theorem grownBy_new {w w' : World} {o : Obj} (h : (w.alloc o).grownBy w' (some w.heap.size)) : w.grownBy w' none :=
  ⟨h.os, h.tape, h.output, Nat.le_trans (by simp) h.size, fun k hk _ => (h.block k (by simp; omega) (by simp; omega)).trans (heap_alloc_old w o k hk)⟩
theorem row_none {W W' : World} {base : Nat} {e : TypeId} {size : Nat} {v : Value} {n : Nat} {xs : List Value} (h : W.ownsRow base e size v n xs) (hg : W.grownBy W' none) : W'.ownsRow base e size v n xs := h.kept hg (by cases hv : v.ownBlock <;> simp)
theorem row_type {W : World} {base : Nat} {e e' : TypeId} {size : Nat} {v : Value} {n : Nat} {xs : List Value} (h : W.ownsRow base e size v n xs) (hne : e ≠ e') : ∀ g cur, v.ownBlock = some g → W.heap[g]? ≠ some (.cells cur e' (0, 0)) := by
  intro g cur hv hc
  rcases h.2 with ⟨rfl, _⟩ | ⟨g', cap, cur', rfl, _, h2, _⟩
  · simp [Value.ownBlock] at hv
  · simp [Value.ownBlock] at hv
    subst hv
    rw [h2] at hc
    simp only [Option.some.injEq, Obj.cells.injEq] at hc
    exact hne hc.2.1

theorem RdN.heap {B : Nat} {W W' : World} {a : Option Addr} {xs : List Nat} (h : RdN B W a xs) (e : W'.heap = W.heap) : RdN B W' a xs := by
  rcases h with h | ⟨b, o, h1, h2, h3⟩
  · exact .inl h
  · exact .inr ⟨b, o, h1, h2, fun i hi => (World.cell?_of_block (by rw [e])).trans (h3 i hi)⟩
theorem RdL.heap {B : Nat} {W W' : World} {a : Option Addr} {xss : List (List Nat)} (h : RdL B W a xss) (e : W'.heap = W.heap) : RdL B W' a xss := by
  rcases h with h | ⟨b, o, h1, h2, h3⟩
  · exact .inl h
  · refine .inr ⟨b, o, h1, h2, fun i xs hi => ?_⟩
    obtain ⟨a', c', h4, h5⟩ := h3 i xs hi
    exact ⟨a', c', (World.cell?_of_block (by rw [e])).trans h4, h5.heap e⟩
theorem RdL.drew {W : World} {a : Option Addr} {xss : List (List Nat)} (h : RdL W.heap.size W a xss) : RdL W.drew.heap.size W.drew a xss := h.heap rfl

theorem jinfo_u8s : (Try.prog.info? 23).map (fun i => (i.zero, i.size, i.bytes)) = some (some (.slice none 0 0), 1, 24) := by kernel_rfl

theorem recJ_len (xss : List (List Nat)) : (recJ xss).2.1.length ≤ 8 := by
  unfold recJ
  by_cases h : vldJ xss = true
  · rw [if_pos h]
    have := vldJ_true h
    show (reconS _ _ _).2.length ≤ 8
    rw [reconS_len.2]; omega
  · rw [if_neg h]; simp


set_option maxRecDepth 100000 in
set_option maxHeartbeats 4000000 in
theorem law_juries (a : Option Addr) (c n : Nat) (xss : List (List Nat)) (hn : xss.length = n) (w : World) (hm : n * 24 ≤ 140737488355328) (hrow : ∀ xs ∈ xss, xs.length ≤ 140737488355328) (hr : RdL w.heap.size w a xss) :
    Calls Try.prog 3 #[.slice a n c] w fun e w' => e = .returned (.bool true) ∧ Below w.heap.size w w' := by
  obtain ⟨i0, hi, hz0, hz1, hz2⟩ := info_parts jinfo_u8
  obtain ⟨i1, gi, gz0, gz1, gz2⟩ := info_parts jinfo_u8s
  have hnH := Lib.hid hn
  have hrowH := Lib.hid hrow
  have hrH := Lib.hid hr
  clear hn hrow hr
  go_enter Try.func3, Try.ntmps3
  go_wp2
  go_loopw [3, 4] (fun v i wr => ∃ (m : Nat) (L : List Value), m ≤ n ∧ i = .int .i64 (m : Int) ∧ wr.ownsRow w.heap.size 23 1 v m L ∧ OwnRows w.heap.size wr L xss m ∧ Below w.heap.size w wr) (fun _ i _ => n - (intOf i).toNat)
  case atStart => exact ⟨0, [], Nat.zero_le _, rfl, World.ownsRow_nil _ _ _ _, ⟨rfl, fun i xs hi => by omega⟩, Below.refl _ _⟩
  case round =>
    obtain ⟨m, L, hm1, rfl, rowm, hO, hB⟩ := hrel
    by_cases hmt : m < n
    · obtain ⟨xs, hxs⟩ : ∃ x, xss[m]? = some x := ⟨_, List.getElem?_eq_getElem (by have := hnH.out; omega)⟩
      obtain ⟨b, o, rfl, hb, a1, c1, hc1, hr1⟩ := hrH.out.at hxs
      have hxb := hrowH.out xs (List.mem_of_getElem? hxs)
      have hc1' := (hB.cell (p := ⟨b, o + m, none⟩) hb).trans hc1
      have hc2 : (wr.alloc (.cells #[] 5)).cell? ⟨b, o + m, none⟩ = some (.slice a1 xs.length c1) := cell_old hc1'
      have own1 := World.ownsRow_made (e := 5) (size := 1) (base := w.heap.size) wr #[] 0 hB.size (by decide) rfl
      have hn1 := ((hr1.below (Nat.le_refl _) hB).below hB.size (jb_al (Below.refl _ wr) (.cells #[] 5))).news rfl
      obtain ⟨l, hl⟩ : ∃ l, xs.length = l := ⟨_, rfl⟩
      have hsnH := Lib.hid (fun (W : World) (a2 : Option Addr) (c2 : Nat) (h : OwnRows w.heap.size W L xss m) (hr : W.ownsRow w.heap.size 5 1 (.slice a2 xs.length c2) xs.length (xs.map vu8)) => h.snoc hxs hr)
      rw [hl] at hc1 hc1' hc2 hn1 hxb hsnH
      have hn1H := Lib.hid hn1
      have hlH := Lib.hid hl
      have honeH := Lib.hid (vu8_one xs)
      have hOH := Lib.hid hO
      have rowmH := Lib.hid rowm
      have own1H := Lib.hid own1
      have hnl : u3.ownBlock ≠ some wr.heap.size := fun e => by have := (rowm.lt _ e).2; omega
      have hnlH := Lib.hid hnl
      clear hn1 hl hxs hO hnl own1 rowm
      go_wp2_with (first
        | (at_builtin; refine wpList_append_any rfl (.tmp 19) (.tmp 23) 23 rfl w.heap.size 5 i0 (.int .u8 0) 1 Try.underlying23 hi hz0 hz1 hz2 rfl (.slice (some ⟨wr.heap.size, 0, none⟩) 0 0) 0 [] rfl own1H.out a1 l c1 (xs.map vu8) rfl (by rw [List.length_map]; exact hlH.out) hn1H.out honeH.out (by unfold maxLen; omega) (by omega) (by have := hB.size; simp; omega) ?_; intro v1 W2 hown2 hg2 _; rw [Nat.zero_add, List.nil_append] at hown2; obtain ⟨a2, c2, rfl⟩ := jrow_slice hown2; have hgn := grownBy_new hg2; have rowm2 := row_none rowmH.out hgn; have hO2 := hOH.out.kept hgn (fun g cur e => by cases e); have hB2 := hB.grown hgn hB.size (fun k e => by cases e); clear hg2 hgn; have rowm3 := rowm2.alloc (.cells #[.slice a2 l c2] 23); have hO3 := hO2.kept (World.grownBy_alloc W2 (.cells #[.slice a2 l c2] 23) none) (fun g cur e => by cases e); have hown3 := hown2.alloc (.cells #[.slice a2 l c2] 23); have hB3 := jb_al hB2 (.cells #[.slice a2 l c2] 23); have hO3' := hsnH.out _ _ _ hO3 hown3; clear rowm2 hO2 hown2 hO3 hown3)
        | (at_builtin; refine wpList_append_own _ rfl (.tmp 18) (.tmp 25) 22 rfl w.heap.size 23 i1 (.slice none 0 0) 1 24 Try.underlying22 gi gz0 gz1 gz2 rfl (by decide) u3 m L rfl rowm3 ⟨W2.heap.size, 0, none⟩ 1 1 [.slice a2 l c2] rfl rfl (cell_one_new _ _ _) (by simp [Value.oneCell']) (by unfold maxLen; omega) (by omega) hB3.size ?_; intro v4 W4 hown4 hg4 _; have hO4 := hO3'.kept hg4 (row_type rowm3 (by decide)); have hB4 := hB3.grown hg4 hB3.size (fun k e => (rowm3.lt k e).1); clear hg4 rowm3 hO3' hB3 hB2))
      go_roundw
      case rel => exact ⟨m + 1, L ++ [.slice a2 l c2], by omega, by go_num, hown4, hO4, hB4⟩
      case measure => simp [intOf]; omega
    · have hmn : m = n := by omega
      subst hmn
      obtain ⟨sa, sc, rfl⟩ := jrow_slice rowm
      have rdo := hO.rdL hnH.out rowm
      have rdi := (hrH.out.below (Nat.le_refl _) hB).mono hB.size
      have hc1 := Reconcile_any xss m hnH.out sa sc wr rdo
      have hc2 := fun (W : World) h => rReconcile_any xss m hnH.out a c W h
      obtain ⟨⟨r1, r2, r3⟩, hrj⟩ : ∃ r, recJ xss = r := ⟨_, rfl⟩
      have hr2 : r2.length ≤ 8 := by have := recJ_len xss; rw [hrj] at this; exact this
      rw [hrj] at hc1 hc2
      have hc2H := Lib.hid hc2
      have rdoH := Lib.hid rdo
      have rdiH := Lib.hid rdi
      clear hO rowm rdo rdi hc2 hrj
      go_wp2_with (first
        | (go_at_call 10; refine hc1.mono ?_; rintro e w1 ⟨p1, q1, p2, q2, rfl, rd1, rd2, hb1⟩; have hB1 := hB.trans (hb1.mono hB.size); have rdo1 := rdoH.out.later hb1; have rdi1 := rdiH.out.later hb1; clear hb1)
        | (go_at_call 11; refine (hc2H.out _ rdi1).mono ?_; rintro e w2 ⟨p3, q3, p4, q4, rfl, rd3, rd4, hb2⟩; have hB2 := hB1.trans (hb2.mono hB1.size); have rdo2 := rdo1.later hb2; have rdi2 := rdi1.later hb2; have rd1' := rd1.later hb2; have rd2' := rd2.later hb2; have e1 := conv_bytes q1 rfl rd1'; have e2 := conv_bytes q3 rfl rd3; clear hb2 rdo1 rdi1 rd1 rd2)
        | (go_at_call 12; refine (SameInts_eq p2 p4 q2 q4 _ r2 (Lib.hid rfl) _ (by omega) rd2' rd4).mono ?_; rintro e w3 ⟨rfl, hb3⟩; have hB3 := hB2.trans (hb3.mono hB2.size); have rdo3 := rdo2.later hb3; have rdi3 := rdi2.later hb3; clear hb3 rdo2 rdi2 rd1' rd2' rd3 rd4 e1 e2))
      clear hB1 hB2 hc1 hc2H
      clear w1 w2
      obtain ⟨wo, rfl⟩ : ∃ wo : World, wo = w3 := ⟨_, rfl⟩
      go_loopw [11] (fun i wr => ∃ k : Nat, k ≤ m ∧ i = .int .i64 (k : Int) ∧ Hid (RdL wr.heap.size wr sa xss) ∧ Hid (RdL wr.heap.size wr a xss) ∧ Below w.heap.size w wr) (fun i _ => m - (intOf i).toNat)
      case atStart => exact ⟨0, Nat.zero_le _, rfl, Lib.hid rdo3, Lib.hid rdi3, hB3⟩
      case round =>
        clear rdo3 rdi3 hB3
        obtain ⟨k, hk, rfl, rdo, rdi, hB⟩ := hrel
        by_cases hlt : k < m
        · obtain ⟨xs, hxs⟩ : ∃ x, xss[k]? = some x := ⟨_, List.getElem?_eq_getElem (by have := hnH.out; omega)⟩
          obtain ⟨b, o, rfl, hb, a1, c1, hc1, hr1⟩ := rdi.out.at hxs
          obtain ⟨b2, o2, rfl, hb2, a2, c2, hc2, hr2⟩ := rdo.out.at hxs
          obtain ⟨l, hl⟩ : ∃ l, xs.length = l := ⟨_, rfl⟩
          rw [hl] at hc1 hc2
          have hS0 : wr.drew.heap = wr.heap := rfl
          have cv1 := Lib.hid (fun (W : World) (h : W.heap = wr.heap) => conv_bytes (W := W) c1 hl (hr1.heap h))
          have cv2 := Lib.hid (fun (W : World) (h : W.heap = wr.heap) => conv_bytes (W := W) c2 hl (hr2.heap h))
          clear hl hxs hr1 hr2
          go_wp2_with fail
          refine plain_region (fun W' => W'.heap = wr.heap) 11 11 (by kernel_rfl) rfl ?_
          simp only [Array.replicate_succ, Array.replicate_zero, List.push_toArray, List.nil_append, List.cons_append]
          refine take_op 0 (v := ?pv0) rfl (by kernel_rfl) (fun _ _ _ h => h) (by rfl) hS0 (fun w' hS' => ?py0) ?pz0
          case py0 =>
            go_simp
            rfl
          simp only [List.setIfInBounds_toArray, List.set_cons_zero, List.set_cons_succ]
          refine take_op 1 (v := ?pv1) rfl (by kernel_rfl) (fun _ _ _ h => h) (by rfl) hS0 (fun w' hS' => ?py1) ?pz1
          case py1 =>
            go_simp
            rfl
          simp only [List.setIfInBounds_toArray, List.set_cons_zero, List.set_cons_succ]
          refine take_op 2 (v := ?pv2) rfl (by kernel_rfl) (fun _ _ _ h => h) (by rfl) hS0 (fun w' hS' => ?py2) ?pz2
          case py2 =>
            go_simp
            try go_ints
            first
            | rfl
            | (rw [if_pos (by omega)]; done)
            | rw [if_pos ⟨by omega, by omega⟩]
          simp only [List.setIfInBounds_toArray, List.set_cons_zero, List.set_cons_succ]
          refine take_op 3 (v := ?pv3) rfl (by kernel_rfl) (fun _ _ _ h => h) (by rfl) hS0 (fun w' hS' => ?py3) ?pz3
          case py3 =>
            have d1 := (World.cell?_of_block (w := wr) (w' := w') (a := ⟨b, o + k, none⟩) (by rw [hS'])).trans hc1
            have d2 := (World.cell?_of_block (w := wr) (w' := w') (a := ⟨b2, o2 + k, none⟩) (by rw [hS'])).trans hc2
            clear hS'
            go_simp
            rfl
          simp only [List.setIfInBounds_toArray, List.set_cons_zero, List.set_cons_succ]
          refine take_op 4 (v := .string (bsN xs)) rfl (by kernel_rfl) (fun _ _ _ h => h) (by rfl) hS0 (fun w' hS' => ?py4) ?pz4
          case py4 =>
            have d := cv2.out w' hS'
            clear hS'
            go_simp
            try rfl
          simp only [List.setIfInBounds_toArray, List.set_cons_zero, List.set_cons_succ]
          refine take_op 5 (v := ?pv5) rfl (by kernel_rfl) (fun _ _ _ h => h) (by rfl) hS0 (fun w' hS' => ?py5) ?pz5
          case py5 =>
            go_simp
            rfl
          simp only [List.setIfInBounds_toArray, List.set_cons_zero, List.set_cons_succ]
          refine take_op 6 (v := ?pv6) rfl (by kernel_rfl) (fun _ _ _ h => h) (by rfl) hS0 (fun w' hS' => ?py6) ?pz6
          case py6 =>
            go_simp
            rfl
          simp only [List.setIfInBounds_toArray, List.set_cons_zero, List.set_cons_succ]
          refine take_op 7 (v := ?pv7) rfl (by kernel_rfl) (fun _ _ _ h => h) (by rfl) hS0 (fun w' hS' => ?py7) ?pz7
          case py7 =>
            go_simp
            try go_ints
            first
            | rfl
            | (rw [if_pos (by omega)]; done)
            | rw [if_pos ⟨by omega, by omega⟩]
          simp only [List.setIfInBounds_toArray, List.set_cons_zero, List.set_cons_succ]
          refine take_op 8 (v := ?pv8) rfl (by kernel_rfl) (fun _ _ _ h => h) (by rfl) hS0 (fun w' hS' => ?py8) ?pz8
          case py8 =>
            have d1 := (World.cell?_of_block (w := wr) (w' := w') (a := ⟨b, o + k, none⟩) (by rw [hS'])).trans hc1
            have d2 := (World.cell?_of_block (w := wr) (w' := w') (a := ⟨b2, o2 + k, none⟩) (by rw [hS'])).trans hc2
            clear hS'
            go_simp
            rfl
          simp only [List.setIfInBounds_toArray, List.set_cons_zero, List.set_cons_succ]
          refine take_op 9 (v := .string (bsN xs)) rfl (by kernel_rfl) (fun _ _ _ h => h) (by rfl) hS0 (fun w' hS' => ?py9) ?pz9
          case py9 =>
            have d := cv1.out w' hS'
            clear hS'
            go_simp
            try rfl
          simp only [List.setIfInBounds_toArray, List.set_cons_zero, List.set_cons_succ]
          refine take_op 10 (v := .bool false) rfl (by kernel_rfl) (fun _ _ _ h => h) (by rfl) hS0 (fun w' hS' => ?py10) ?pz10
          case py10 =>
            clear hS'
            go_simp
            try rfl
          simp only [List.setIfInBounds_toArray, List.set_cons_zero, List.set_cons_succ]
          refine done_ops (by kernel_rfl) ?_
          go_wp2_with fail
          go_roundw
          case rel => exact ⟨k + 1, by omega, by go_num, Lib.hid rdo.out.drew, Lib.hid rdi.out.drew, hB.drew⟩
          case measure => simp [intOf]; omega
        · go_wp2_with fail
          go_ret
          exact ⟨rfl, hB⟩

end Go.Proofs.Ytaejdgjfnoefjaa

/- Contracts and laws (PMn, ImgX). -/
import Derived.Test.YtekiemlniegddaaQA8
import Derived.Test.YtekiemlniegddaaQA7
import Derived.Test.YtekiemlniegddaaQA6
import Derived.Test.YtekiemlniegddaaQA3
namespace Go.Proofs.Ytekiemlniegddaa
open Go Go.RowKit Go.Shelf
set_option linter.unusedVariables false
set_option linter.unusedSimpArgs false

theorem info_pic : (Try.prog.info? 29).map (fun i => (i.zero, i.size, i.bytes)) = some (some (.agg #[.int .i64 0, .int .i64 0, .slice none 0 0]), 3, 40) := by kernel_rfl
theorem wpList_append_anyS {P : Program} {w : World} {ops : Array Oper} {rest : List Oper} {o : Oper} {act : Act} {Q : Exit → Act → World → Prop} (hgd : o.guard = none) (s x : Operand) (t : TypeId)
    (ho : o.op = .call { callee := .builtin .append, args := #[s, x], argTypes := #[t, t] })
    (base : Nat) (e : TypeId) (i : TypeInfo) (z : Value) (size bytes : Nat) (ht : P.underlying t = some (.slice e)) (hi : P.info? e = some i) (hz : i.zero = some z)
    (hsize : i.size = size) (hby : i.bytes = bytes) (hzs : z.cells.size = size) (hsz : 0 < size)
    (v : Value) (n : Nat) (xs : List Value) (hs : act.eval s = v) (hown : w.ownsRow base e size v n xs)
    (a : Option Addr) (m c : Nat) (news : List Value) (hx : act.eval x = .slice a m c) (hl : news.length = m * size) (hnews : NewsAt w a m news) (h1 : ∀ u ∈ news, u.oneCell' = true)
    (h63 : n + m ≤ maxLen) (hbytes : (n + m) * bytes ≤ 140737488355328) (hbase : base ≤ w.heap.size)
    (h : ∀ v' w', w'.ownsRow base e size v' (n + m) (xs ++ news) → w.grownBy w' v.ownBlock → (v'.ownBlock = v.ownBlock ∨ v'.ownBlock = some w.heap.size) → wpList P ops Q rest (act.put o.dst v') w') :
    wpList P ops Q (o :: rest) act w := by
  rcases hnews with ⟨rfl, rfl⟩ | ⟨ad, rfl, hc⟩
  · obtain rfl : news = [] := List.eq_nil_of_length_eq_zero (by omega)
    refine wpList_plain hgd fun K hK => ?_
    have hrun := run_append_none0 (P := P) (w := w) base t o.type e i size ht hi v n xs hown c
    unfold Oper.wp
    simp [execOp, ho, resolve, invoke, builtin, hs, hx, hrun, Result.andThen]
    exact hK _ _ (h v w (by simpa using hown) (grownBy_self _ _) (.inl rfl))
  · exact wpList_append_own_at w hgd s x t ho base e i z size bytes ht hi hz hsize hby hzs hsz v n xs hs hown ad m c news hx (by omega) hc h1 h63 hbytes hbase (fun v' w' g1 g2 g3 g4 => h v' w' g1 g2 g4)
/-- The block's cells, as what an append takes. -/
theorem NewsAt.blk {W : World} {b : Nat} {t : TypeId} {cs : Array Value} (k : Blk W b t cs) (m : Nat) : NewsAt W (some ⟨b, 0, none⟩) m cs.toList := .inr ⟨_, rfl, fun j u hu => by
  rw [addr_add, Nat.zero_add]
  exact k.cell (by rw [← Array.getElem?_toList]; exact hu)⟩
theorem pics_news {W : World} {l : List PicA} {b o : Nat} (h : ∀ j u, (flatC l)[j]? = some u → W.cell? ⟨b, o + j, none⟩ = some u) (m : Nat) : NewsAt W (some ⟨b, o, none⟩) m (flatC l) := .inr ⟨_, rfl, fun j u hu => by
  rw [addr_add]; exact h j u hu⟩
theorem img_le {pw ph : Int} (hw : pw ≤ 16) (hh : ph ≤ 16) (g : Int → Int → Int) : (img pw.toNat ph.toNat g).length ≤ 256 := by
  rw [img_length]
  exact Nat.mul_le_mul (show pw.toNat ≤ 16 by omega) (show ph.toNat ≤ 16 by omega)
theorem appS_len (s : StepN) (ms : List PicN) : (appS s ms).px.length ≤ 256 := by
  have nil : ∀ e, (noIm e).px.length ≤ 256 := fun e => by simp [noIm]
  unfold appS
  split
  · unfold pointS
    split
    · rename_i hv
      obtain ⟨h1, h2, _⟩ := vld_true hv
      split
      · exact img_le h1.2 h2.2 _
      · exact nil _
    · exact nil _
  split
  · unfold zipS
    split
    · rename_i hv
      obtain ⟨h1, h2, _⟩ := vld_true hv
      repeat' split
      · exact img_le h1.2 h2.2 _
      all_goals exact nil _
    · exact nil _
  split
  · unfold convS
    split
    · rename_i hv
      obtain ⟨h1, h2, _⟩ := vld_true hv
      repeat' split
      · exact img_le h1.2 h2.2 _
      all_goals exact nil _
    · exact nil _
  split
  · unfold morS
    split
    · rename_i hv
      obtain ⟨h1, h2, _⟩ := vld_true hv
      repeat' split
      · exact img_le h1.2 h2.2 _
      all_goals exact nil _
    · exact nil _
  split
  · unfold morS
    split
    · rename_i hv
      obtain ⟨h1, h2, _⟩ := vld_true hv
      repeat' split
      · exact img_le h1.2 h2.2 _
      all_goals exact nil _
    · exact nil _
  · exact nil _
theorem picAt_snoc (ms : List PicN) (p : PicN) (i : Nat) : picAt (ms ++ [p]) i = if i < ms.length then picAt ms i else if i = ms.length then p else ⟨0, 0, []⟩ := by
  unfold picAt
  by_cases h : i < ms.length
  · rw [if_pos h, List.getElem?_append_left h]
  · rw [if_neg h, List.getElem?_append_right (by omega)]
    by_cases e : i = ms.length
    · subst e; simp
    · rw [if_neg e, List.getElem?_eq_none (by simp; omega)]; rfl
theorem afterN_px {ms : List PicN} (h : ∀ i, (picAt ms i).px.length ≤ 9223372036854775807) (ss : List StepN) : ∀ k i, (picAt (afterN ss ms k) i).px.length ≤ 9223372036854775807
  | 0, i => h i
  | k + 1, i => by
    rw [afterN, picAt_snoc]
    have := appS_len (stAt ss k) (afterN ss ms k)
    split
    · exact afterN_px h ss k i
    split
    · exact Nat.le_trans this (by decide)
    · simp
theorem givenB_len {ms : List PicN} {n w h : Int} (hg : givenB ms n w h = true) : (ms.length : Int) = n := by
  unfold givenB at hg
  rw [Bool.and_eq_true, decide_eq_true_eq] at hg
  exact hg.1
theorem pipeB_true {P : PipeN} (h : pipeB P = true) : (1 ≤ P.w ∧ P.w ≤ 16) ∧ (1 ≤ P.h ∧ P.h ≤ 16) ∧ (1 ≤ P.inp ∧ P.inp ≤ 3) ∧ (1 ≤ P.ss.length ∧ P.ss.length ≤ 12) ∧ stepsB P.inp P.ss P.ss.length = true := by
  unfold pipeB sizeB at h
  simp only [Bool.and_eq_true, inR_true, decide_eq_true_eq] at h
  exact ⟨h.1.1.1, h.1.1.2, h.1.2.1, h.1.2.2, h.2⟩
theorem refB_true {I : Int} {i : Nat} {s : StepN} (h : refB I i s = true) : (0 ≤ s.a ∧ s.a ≤ I + i - 1) ∧ (s.op = 2 → 0 ≤ s.b ∧ s.b ≤ I + i - 1) := by
  unfold refB at h
  simp only [Bool.and_eq_true, Bool.or_eq_true, inR_true, Bool.not_eq_true', decide_eq_false_iff_not] at h
  refine ⟨h.1, fun h2 => ?_⟩
  rcases h.2 with h3 | h3
  · exact absurd h2 h3
  · exact h3
theorem row_someP {W : World} {base : Nat} {e : TypeId} {size : Nat} {a : Option Addr} {n c : Nat} {xs : List Value} (h : W.ownsRow base e size (.slice a n c) n xs) (hn : 0 < n) : ∃ g, a = some ⟨g, 0, none⟩ := by
  rcases h.2 with ⟨h1, h2⟩ | ⟨g, cap, cur, h1, _⟩
  · omega
  · simp only [Value.slice.injEq, true_and] at h1
    exact ⟨g, h1.1⟩
/-- Own images: a list in memory, its last one (if any has come) a row of its own. -/
structure OwnA (B : Nat) (W : World) (v : Value) (l : List PicA) : Prop where
  row : W.ownsRow B 29 3 v l.length (flatC l)
  rd : ∀ x ∈ l, RdX v.ownBlock W x.a x.c x.p.px
theorem OwnA.ps {B : Nat} {W : World} {v : Value} {l : List PicA} (h : OwnA B W v l) : OwnPs B W v (l.map PicA.p) := ⟨l, rfl, h.row, h.rd⟩
theorem OwnA.later {B : Nat} {W W' : World} {v : Value} {l : List PicA} (h : OwnA B W v l) (hb : Below W.heap.size W W') : OwnA B W' v l := ⟨row_below h.row hb, fun x hx => ⟨later_i (h.rd x hx).1 hb, (h.rd x hx).2⟩⟩
theorem OwnA.push {B : Nat} {W W' : World} {v v' : Value} {l : List PicA} {x : PicA} (h3 : ∀ x ∈ l, RdX v.ownBlock W x.a x.c x.p.px)
    (hx : Rd W.heap.size W x.a x.p.px) (hxc : x.a = none → x.c = 0) (hx2 : x.p.px = [] ∨ ∀ ad, x.a = some ad → v.ownBlock ≠ some ad.block)
    (hrow : W'.ownsRow B 29 3 v' (l.length + 1) (flatC l ++ picCells x)) (hg : W.grownBy W' v.ownBlock) (hat : v'.ownBlock = v.ownBlock ∨ v'.ownBlock = some W.heap.size) :
    OwnA B W' v' (l ++ [x]) := by
  have key : ∀ a c xs, RdX v.ownBlock W a c xs → RdX v'.ownBlock W' a c xs := fun a c xs h => by
    refine ⟨Rd.rowed h.1 h.2.2 hg, h.2.1, ?_⟩
    rcases hat with e | e
    · rw [e]; exact h.2.2
    · rw [e]
      rcases h.1 with hn | ⟨b, o, h1, h2, _⟩
      · exact .inl hn
      · right; intro ad had he; rw [h1] at had; cases had; simp at he; omega
  refine ⟨?_, fun y hy => ?_⟩
  · rw [List.length_append, List.length_singleton, flatC_append]
    show W'.ownsRow B _ 3 v' (l.length + 1) (flatC l ++ (picCells x ++ []))
    rw [List.append_nil]; exact hrow
  · rcases List.mem_append.1 hy with hy | hy
    · exact key _ _ _ (h3 y hy)
    · rw [List.mem_singleton.1 hy]; exact key _ _ _ ⟨hx, hxc, hx2⟩
set_option maxRecDepth 100000 in
set_option maxHeartbeats 4000000 in
theorem CloneI_any (ms : List PicN) (a : Option Addr) (c n : Nat) (hn : ms.length = n) (hm : n ≤ 3) (w : World) (hr : RdPs w.heap.size w a ms) (hnil : a = none → n = 0) :
    Calls Try.prog 32 #[.slice a n c] w fun e w' => ∃ v, e = .returned v ∧ (∃ l, l.map PicA.p = ms ∧ OwnA w.heap.size w' v l) ∧ Below w.heap.size w w' := by
  obtain ⟨i0, hi, hz0, hz1, hz2⟩ := info_parts info_pic
  have qT : ∀ (w : World) (a : Option Addr) (n c n' c' : Nat), (binOp .eql 25 (.slice a n c) (.slice none n' c')).run Try.prog w = .ok (.bool a.isNone) w := fun w a n c n' c' => Lib.run_eql_slice_nil w _ _ a n c n' c' Try.underlying25
  cases a with
  | none =>
    have h0 : n = 0 := hnil rfl
    subst h0
    have hms : ms = [] := List.eq_nil_of_length_eq_zero hn
    have qT1 := qT w none 0 c 0 0
    clear qT
    simp only [Option.isNone_none] at qT1
    go_enter Try.func32, Try.ntmps32
    go_wp2_with fail
    go_ret
    subst hms
    exact ⟨.slice none 0 0, rfl, ⟨World.ownsRow_nil _ _ _ _, fun x hx => by cases hx⟩, Below.refl _ _⟩
  | some ad =>
    have qT1 := qT w (some ad) n c 0 0
    clear qT
    simp only [Option.isNone_some] at qT1
    obtain ⟨l, hl1, hl2, hl3⟩ := hr.pics
    have hll : l.length = n := by rw [← hn, ← hl1, List.length_map]
    have own1 := World.ownsRow_made (e := 29) (size := 3) (base := w.heap.size) w #[] 0 (Nat.le_refl _) (by decide) rfl
    have hB1 : Below w.heap.size w (w.alloc (.cells #[] 29)) := jb_al (Below.refl _ w) _
    have hnews : NewsAt (w.alloc (.cells #[] 29)) (some ad) n (flatC l) := by
      rcases hl2 with h | ⟨b, o, h1, h2, h3⟩
      · right
        refine ⟨ad, rfl, fun j u hu => ?_⟩
        rw [List.eq_nil_of_length_eq_zero (show l.length = 0 by rw [hll, ← hn, h]; rfl)] at hu
        simp [flatC] at hu
      · rw [h1]
        exact pics_news (fun j u hu => (hB1.cell (p := ⟨b, o + j, none⟩) h2).trans (h3 j u hu)) n
    have hnewsH := Lib.hid hnews
    have own1H := Lib.hid own1
    have hlenH := Lib.hid (show (flatC l).length = n * 3 by rw [flatC_length, hll])
    clear hnews own1 hl2
    go_enter Try.func32, Try.ntmps32
    go_wp2_with (at_builtin; refine wpList_append_anyS rfl _ _ 25 rfl w.heap.size 29 i0 (.agg #[.int .i64 0, .int .i64 0, .slice none 0 0]) 3 40 Try.underlying25 hi hz0 hz1 hz2 rfl (by decide) (.slice (some ⟨w.heap.size, 0, none⟩) 0 0) 0 [] rfl own1H.out (some ad) n c (flatC l) rfl hlenH.out hnewsH.out (flatC_one l) (by unfold maxLen; omega) (by omega) hB1.size ?_; intro v2 W2 own2 hg2 hat2)
    rw [Nat.zero_add, List.nil_append] at own2
    have hB2 := hB1.grown hg2 hB1.size (fun k e => (own1H.out.lt k e).1)
    go_ret
    refine ⟨v2, rfl, ⟨l, hl1, ⟨by rw [hll]; exact own2, fun x hx => ?_⟩⟩, hB2⟩
    obtain ⟨f1, f2⟩ := hl3 x hx
    have hk : ∀ q, q = some w.heap.size ∨ q = some (w.alloc (.cells #[] 29)).heap.size → x.p.px = [] ∨ ∀ ad, x.a = some ad → q ≠ some ad.block := by
      intro q hq
      rcases f1 with hn | ⟨b, o, h1, h2, _⟩
      · exact .inl hn
      · right; intro ad had he
        rw [h1] at had; cases had
        rcases hq with hq | hq
        · rw [hq] at he; simp at he; omega
        · rw [hq] at he; simp at he; omega
    refine ⟨f1.below (Nat.le_refl _) hB2 |>.mono hB2.size, f2, hk _ ?_⟩
    rcases hat2 with e | e
    · left; rw [e]; rfl
    · right; exact e
set_option maxRecDepth 100000 in
set_option maxHeartbeats 8000000 in
theorem Mean_any (P : PipeN) (a : Option Addr) (n c : Nat) (hn : P.ss.length = n) (hP : PipeIn P) (ms : List PicN) (la : Option Addr) (q lc : Nat) (hm : ms.length = q) (hmm : q ≤ 9223372036854775807) (hpl : ∀ i, (picAt ms i).px.length ≤ 9223372036854775807) (w : World) (hr : RdSs w.heap.size w a P.ss) (hrl : RdPs w.heap.size w la ms) :
    Calls Try.prog 9 #[pipev P a n c, .slice la q lc] w (RetIm w.heap.size (meanS P ms) w) := by
  obtain ⟨W, H, I, ss⟩ := P
  obtain ⟨hn0, hst⟩ := hP
  have hnH := Lib.hid hn
  have hstH := Lib.hid hst
  have hplH := Lib.hid hpl
  have hmH := Lib.hid hm
  have hB : Below w.heap.size w w := Below.refl _ _
  simp only at hnH hstH hr hn0
  obtain ⟨R, hR⟩ : ∃ R, meanS ⟨W, H, I, ss⟩ ms = R := ⟨_, rfl⟩
  have hRH := Lib.hid hR
  rw [hnH.out] at hn0
  have hr0 := hr
  clear hn hst hpl hm
  rw [hR]
  clear hR
  unfold pipev
  simp only
  have hbV1 : Below w.heap.size w (w.alloc (.cells #[.int .i64 W, .int .i64 H, .int .i64 I, .slice a n c] 24)) := jb_al (Below.refl _ w) _
  have kp := Blk.new w 24 #[.int .i64 W, .int .i64 H, .int .i64 I, .slice a n c]
  obtain ⟨V1, hEV1⟩ : ∃ X, w.alloc (.cells #[.int .i64 W, .int .i64 H, .int .i64 I, .slice a n c] 24) = X := ⟨_, rfl⟩
  rw [hEV1] at hbV1 kp
  replace hr := hr.later hbV1
  replace hrl := hrl.later hbV1
  replace hB := hB.trans (hbV1.mono hB.size)
  clear hbV1
  have m0 := kp.cell (i := 0) rfl
  have m1 := kp.cell (i := 1) rfl
  have m2 := kp.cell (i := 2) rfl
  have m3 := kp.cell (i := 3) rfl
  have hle4 := hB.size
  have hbV2 : Below V1.heap.size V1 (V1.alloc (.cells #[.int .i64 0, .int .i64 0, .slice none 0 0] 29)) := jb_al (Below.refl _ V1) _
  have k4 := Blk.new V1 29 #[.int .i64 0, .int .i64 0, .slice none 0 0]
  obtain ⟨V2, hEV2⟩ : ∃ X, V1.alloc (.cells #[.int .i64 0, .int .i64 0, .slice none 0 0] 29) = X := ⟨_, rfl⟩
  rw [hEV2] at hbV2 k4
  clear m0 m1 m2 m3
  replace kp := kp.below hbV2 kp.lt
  replace hr := hr.later hbV2
  replace hrl := hrl.later hbV2
  replace hB := hB.trans (hbV2.mono hB.size)
  clear hbV2
  have m0 := kp.cell (i := 0) rfl
  have m1 := kp.cell (i := 1) rfl
  have m2 := kp.cell (i := 2) rfl
  have m3 := kp.cell (i := 3) rfl
  have z0 := k4.cell (i := 0) rfl
  have fz0 := k4.frozen 0
  have z1 := k4.cell (i := 1) rfl
  have fz1 := k4.frozen 1
  have z2 := k4.cell (i := 2) rfl
  have fz2 := k4.frozen 2
  go_enter Try.func9, Try.ntmps9
  obtain ⟨v0, hv0⟩ : ∃ v, pipeB ⟨W, H, I, ss⟩ = v := ⟨_, rfl⟩
  have hv0H := Lib.hid hv0
  clear hv0
  go_wp2_with fail
  clear hEV1 hEV2
  have hc := PCheck_any ⟨W, H, I, ss⟩ a n c hnH.out ⟨by rw [hnH.out]; exact hn0, hstH.out⟩ v0 hv0H.out V2 hr
  refine hc.mono ?_
  clear hc
  rintro e V3 ⟨rfl, hb⟩
  clear m0 m1 m2 m3 z0 z1 z2 fz0 fz1 fz2
  replace kp := kp.below hb kp.lt
  replace k4 := k4.below hb k4.lt
  replace hr := hr.later hb
  replace hrl := hrl.later hb
  replace hB := hB.trans (hb.mono hB.size)
  clear hb
  have m0 := kp.cell (i := 0) rfl
  have m1 := kp.cell (i := 1) rfl
  have m2 := kp.cell (i := 2) rfl
  have m3 := kp.cell (i := 3) rfl
  have z0 := k4.cell (i := 0) rfl
  have fz0 := k4.frozen 0
  have z1 := k4.cell (i := 1) rfl
  have fz1 := k4.frozen 1
  have z2 := k4.cell (i := 2) rfl
  have fz2 := k4.frozen 2
  cases v0 with
  | false =>
    have hR2 : R = noIm 30 := by rw [← hRH.out]; unfold meanS; rw [hv0H.out]; rfl
    subst hR2
    have kf := put3_blk k4 (.int .i64 0) (.int .i64 0) (.slice none 0 0)
    have hbf : Below w.heap.size w (put3 V3 (V1.heap.size) (.int .i64 0) (.int .i64 0) (.slice none 0 0)) := hB.trans (put3_below hle4 _ _ _)
    have g0 := kf.cell (i := 0) rfl
    have g1 := kf.cell (i := 1) rfl
    have g2 := kf.cell (i := 2) rfl
    go_wp2_with fail
    exact bodyPost_ret (v := .tuple #[imv 0 0 none 0 0, .int .i64 30]) (by simp [results, Try.results9, go_sem, g0, g1, g2]) rfl ⟨⟨_, rfl, _, rfl, World.ownsRow_nil _ _ _ _⟩, hbf⟩
  | true =>
  obtain ⟨⟨w1, w2⟩, ⟨h1, h2⟩, ⟨i1, i2⟩, ⟨l1, l2⟩, hall⟩ := pipeB_true hv0H.out
  simp only at w1 w2 h1 h2 i1 i2 l1 l2 hall
  rw [hnH.out] at l1 l2 hall
  have hallH := Lib.hid hall
  clear hall
  obtain ⟨v1, hv1⟩ : ∃ v, givenB ms I W H = v := ⟨_, rfl⟩
  have hv1H := Lib.hid hv1
  clear hv1
  go_wp2_with fail
  have hc := fit_any ms la lc q hmH.out hmm (fun i _ => hplH.out i) I W H V3 hrl
  rw [hv1H.out] at hc
  refine hc.mono ?_
  clear hc
  rintro e V4 ⟨rfl, hb⟩
  clear m0 m1 m2 m3 z0 z1 z2 fz0 fz1 fz2
  replace kp := kp.below hb kp.lt
  replace k4 := k4.below hb k4.lt
  replace hr := hr.later hb
  replace hrl := hrl.later hb
  replace hB := hB.trans (hb.mono hB.size)
  clear hb
  have m0 := kp.cell (i := 0) rfl
  have m1 := kp.cell (i := 1) rfl
  have m2 := kp.cell (i := 2) rfl
  have m3 := kp.cell (i := 3) rfl
  have z0 := k4.cell (i := 0) rfl
  have fz0 := k4.frozen 0
  have z1 := k4.cell (i := 1) rfl
  have fz1 := k4.frozen 1
  have z2 := k4.cell (i := 2) rfl
  have fz2 := k4.frozen 2
  cases v1 with
  | false =>
    have hR2 : R = noIm 2 := by rw [← hRH.out]; unfold meanS; rw [hv0H.out]; simp only [if_true]; rw [hv1H.out]; rfl
    subst hR2
    have kf := put3_blk k4 (.int .i64 0) (.int .i64 0) (.slice none 0 0)
    have hbf : Below w.heap.size w (put3 V4 (V1.heap.size) (.int .i64 0) (.int .i64 0) (.slice none 0 0)) := hB.trans (put3_below hle4 _ _ _)
    have g0 := kf.cell (i := 0) rfl
    have g1 := kf.cell (i := 1) rfl
    have g2 := kf.cell (i := 2) rfl
    go_wp2_with fail
    exact bodyPost_ret (v := .tuple #[imv 0 0 none 0 0, .int .i64 2]) (by simp [results, Try.results9, go_sem, g0, g1, g2]) rfl ⟨⟨_, rfl, _, rfl, World.ownsRow_nil _ _ _ _⟩, hbf⟩
  | true =>
  have hq : (q : Int) = I := by have := givenB_len hv1H.out; rw [hmH.out] at this; exact this
  have hq1 : 1 ≤ q := by omega
  have hq3 : q ≤ 3 := by omega
  have hqH := Lib.hid hq
  clear hq
  have hR2 : R = { w := (meanN ⟨W, H, I, ss⟩ ms).w, h := (meanN ⟨W, H, I, ss⟩ ms).h, px := (meanN ⟨W, H, I, ss⟩ ms).px, err := 0 } := by rw [← hRH.out]; unfold meanS; rw [hv0H.out]; simp only [if_true]; rw [hv1H.out]; rfl
  have hR2H := Lib.hid hR2
  clear hR2
  obtain ⟨i0, gi, gz0, gz1, gz2⟩ := info_parts info_pic
  have hsz0 := hB.size
  have hl4b := k4.lt
  obtain ⟨B0, hB0e⟩ : ∃ B0, V4.heap.size = B0 := ⟨_, rfl⟩
  rw [hB0e] at hsz0 hl4b
  go_wp2_with fail
  have hc := CloneI_any ms la lc q hmH.out (by omega) V4 hrl (fun h => by rcases hrl with h1 | ⟨b, o, h1, _⟩; (have := hmH.out; rw [h1] at this; simp at this; omega); (rw [h] at h1; cases h1))
  refine hc.mono ?_
  clear hc
  rintro e V5 ⟨vv, rfl, ⟨l0, hl0, hown⟩, hb⟩
  have hB0l := hb.size
  rw [hB0e] at hB0l
  clear m0 m1 m2 m3 z0 z1 z2 fz0 fz1 fz2
  replace kp := kp.below hb kp.lt
  replace k4 := k4.below hb k4.lt
  replace hr := hr.later hb
  replace hrl := hrl.later hb
  replace hB := hB.trans (hb.mono hB.size)
  clear hb
  have m0 := kp.cell (i := 0) rfl
  have m1 := kp.cell (i := 1) rfl
  have m2 := kp.cell (i := 2) rfl
  have m3 := kp.cell (i := 3) rfl
  have z0 := k4.cell (i := 0) rfl
  have fz0 := k4.frozen 0
  have z1 := k4.cell (i := 1) rfl
  have fz1 := k4.frozen 1
  have z2 := k4.cell (i := 2) rfl
  have fz2 := k4.frozen 2

  clear hrl
  go_wp2_with fail
  clear m0 m1 m2 m3 z0 z1 z2 fz0 fz1 fz2
  have hAp := fun k => afterN_length ss ms k
  have hApH := Lib.hid (fun k => (afterN_length ss ms k).trans (by rw [hmH.out]))
  clear hAp
  have hownB : ∃ l : List PicA, OwnA B0 V5 vv l ∧ l.map PicA.p = afterN ss ms 0 ∧ (0 = 0 ∨ ∃ l' x, l = l' ++ [x] ∧ V5.ownsRow w.heap.size 3 1 (.slice x.a x.p.px.length x.c) x.p.px.length (x.p.px.map (Value.int .i64))) := ⟨l0, hB0e ▸ hown, hl0, .inl rfl⟩
  have hownBH := Lib.hid hownB
  clear hownB hown hl0
  go_loopw [7, 33] (fun v i wr => ∃ k : Nat, k ≤ n ∧ i = .int .i64 (k : Int) ∧ Hid (∃ l : List PicA, OwnA B0 wr v l ∧ l.map PicA.p = afterN ss ms k ∧ (k = 0 ∨ ∃ l' x, l = l' ++ [x] ∧ wr.ownsRow w.heap.size 3 1 (.slice x.a x.p.px.length x.c) x.p.px.length (x.p.px.map (Value.int .i64)))) ∧ B0 ≤ wr.heap.size ∧ Below w.heap.size w wr ∧ Blk wr w.heap.size 24 #[.int .i64 W, .int .i64 H, .int .i64 I, .slice a n c] ∧ Blk wr (V1.heap.size) 29 #[.int .i64 0, .int .i64 0, .slice none 0 0]) (fun _ i _ => n - (intOf i).toNat)
  case atStart => exact ⟨0, Nat.zero_le _, rfl, hownBH, hB0l, hB, kp, k4⟩
  case round =>
    clear hB kp k4 hownBH hB0l
    obtain ⟨k, hk, rfl, hH, hB0l, hB, kp, k4⟩ := hrel
    obtain ⟨l, hown, hlm, hlast⟩ := hH.out
    have hll : l.length = q + k := by rw [← hApH.out k, ← hlm, List.length_map]
    obtain ⟨va, vc, rfl⟩ := row_slice hown.row
    by_cases hlt : k < n
    case neg =>
      have hkn : k = n := by omega
      subst hkn
      rcases hlast with h0 | ⟨l', x, hlx, hrow⟩
      · omega
      have hx1 : meanN ⟨W, H, I, ss⟩ ms = x.p := by
        unfold meanN
        simp only
        rw [hnH.out, hmH.out, ← hlm, hlx, List.map_append]
        have hl' : l'.length = q + k - 1 := by have := congrArg List.length hlx; rw [hll, List.length_append, List.length_singleton] at this; omega
        simp only [List.map_cons, List.map_nil]
        rw [picAt_snoc, if_neg (by rw [List.length_map]; omega), if_pos (by rw [List.length_map]; omega)]
      have hR2 := hR2H.out
      rw [hx1] at hR2
      subst hR2
      obtain ⟨xp, xa, xc⟩ := x
      obtain ⟨xw, xh, xx⟩ := xp
      simp only at hrow ⊢
      have hl' : l'.length = q + k - 1 := by
        have := congrArg List.length hlx
        rw [hll, List.length_append, List.length_singleton] at this
        omega
      have hxa := flatC_at l (q + k - 1) ⟨⟨xw, xh, xx⟩, xa, xc⟩ (by rw [hlx, List.getElem?_append_right (by omega), hl']; simp)
      obtain ⟨g, rfl⟩ := row_someP (hll ▸ hown.row : wr.ownsRow B0 29 3 (.slice va (q + k) vc) (q + k) (flatC l)) (by omega)
      have hrow0 : wr.ownsRow B0 29 3 (.slice (some ⟨g, 0, none⟩) (q + k) vc) (q + k) (flatC l) := by have := hown.row; rw [hll] at this; exact this
      have hc := fun j (hj : j < 3) => (hrow0.cellAt ((q + k - 1) * 3 + j) (by omega)).trans (hxa j hj)
      have c0 := hc 0 (by omega)
      have c1 := hc 1 (by omega)
      have c2 := hc 2 (by omega)
      simp only [picCells, Nat.add_zero, List.getElem?_cons_zero, List.getElem?_cons_succ] at c0 c1 c2
      rw [hll]
      have hgt : (q : Int) + (k : Int) - 1 = ((q + k - 1 : Nat) : Int) := by omega
      obtain ⟨t, ht⟩ : ∃ t, q + k - 1 = t := ⟨_, rfl⟩
      rw [ht] at c0 c1 c2 hgt
      have htl : t < q + k := by omega
      have ks0 := k4.frozen 0
      have z0 := k4.cell (i := 0) rfl
      have z1 := k4.cell (i := 1) rfl
      have z2 := k4.cell (i := 2) rfl
      have ks1 := k4.frozen 1
      have ks2 := k4.frozen 2
      have kf := put3_blk k4 (.int .i64 xw) (.int .i64 xh) (.slice xa xx.length xc)
      have rowf := row_put3b hrow (k4.not_row (by decide) hrow) (.int .i64 xw) (.int .i64 xh) (.slice xa xx.length xc)
      have hbf : Below w.heap.size w (put3 wr (V1.heap.size) (.int .i64 xw) (.int .i64 xh) (.slice xa xx.length xc)) := hB.trans (put3_below hle4 _ _ _)
      have g0 := kf.cell (i := 0) rfl
      have g1 := kf.cell (i := 1) rfl
      have g2 := kf.cell (i := 2) rfl
      clear hH hown hrow0 hc hlm hlx hl' hxa hrow kp k4 hx1 hR2H hRH
      go_wp2_with fail
      exact bodyPost_ret (v := .tuple #[imv xw xh xa xx.length xc, .int .i64 0]) (by simp [results, Try.results9, go_sem, g0, g1, g2]) rfl ⟨⟨_, rfl, _, rfl, rowf⟩, hbf⟩
    case pos =>
      have hkl : k < ss.length := by have := hnH.out; omega
      have hs := hstH.out k hkl
      have hst := stepsB_at hallH.out hlt
      obtain ⟨b, o, ka, kc, sa, sc, rfl, hbl, hst2⟩ : ∃ b o ka kc sa sc, a = some ⟨b, o, none⟩ ∧ b < w.heap.size ∧ StAt w.heap.size w b (o + k * 16) (stAt ss k) ka kc sa sc := by
        rcases hr0 with h | ⟨b, o, h1, h2, h3⟩
        · exfalso; rw [h] at hkl; simp at hkl
        · obtain ⟨ka, kc, sa, sc, e⟩ := h3 k hkl
          exact ⟨b, o, ka, kc, sa, sc, h1, h2, e⟩
      have hnx : afterN ss ms (k + 1) = afterN ss ms k ++ [resN (appS (stAt ss k) (afterN ss ms k))] := rfl
      have hlenk := hApH.out k
      have hpx := afterN_px hplH.out ss k
      rw [hll]
      have hrow0 : wr.ownsRow B0 29 3 (.slice va (q + k) vc) (q + k) (flatC l) := by have := hown.row; rw [hll] at this; exact this
      have hpr : RdPs wr.heap.size wr va (afterN ss ms k) := by
        obtain ⟨a', c', e1, e2⟩ := hown.ps.slice
        simp only [Value.slice.injEq] at e1
        obtain ⟨rfl, _, rfl⟩ := e1
        rw [hlm] at e2; exact e2
      obtain ⟨s, hse⟩ : ∃ s, stAt ss k = s := ⟨_, rfl⟩
      obtain ⟨M, hM⟩ : ∃ M, afterN ss ms k = M := ⟨_, rfl⟩
      rw [hse] at hs hst hst2 hnx
      rw [hM] at hnx hlenk hpx hpr hlm
      rw [Bool.and_eq_true] at hst
      obtain ⟨hra, hrb⟩ := refB_true hst.2
      have hseH := Lib.hid hse
      have hMH := Lib.hid hM
      have hnxH := Lib.hid hnx
      have hlmH := Lib.hid hlm
      have hpxH := Lib.hid hpx
      have hrdH := Lib.hid hown.rd
      have hllH := Lib.hid hll
      clear hse hM hnx hlm hpx hst hH hlast hown
      obtain ⟨hcell, hta, hbi⟩ := hst2
      have c0 : wr.cell? ⟨b, o + k * 16, none⟩ = some (.int .u8 s.op) := (hB.cell (p := ⟨b, o + k * 16, none⟩) hbl).trans (hcell 0 _ rfl)
      have c1 : wr.cell? ⟨b, o + k * 16 + 1, none⟩ = some (.int .i64 s.a) := (hB.cell (p := ⟨b, o + k * 16 + 1, none⟩) hbl).trans (hcell 1 _ rfl)
      have c2 : wr.cell? ⟨b, o + k * 16 + 2, none⟩ = some (.int .i64 s.b) := (hB.cell (p := ⟨b, o + k * 16 + 2, none⟩) hbl).trans (hcell 2 _ rfl)
      have c3 : wr.cell? ⟨b, o + k * 16 + 3, none⟩ = some (.int .i64 s.pt.mul) := (hB.cell (p := ⟨b, o + k * 16 + 3, none⟩) hbl).trans (hcell 3 _ rfl)
      have c4 : wr.cell? ⟨b, o + k * 16 + 4, none⟩ = some (.int .i64 s.pt.add) := (hB.cell (p := ⟨b, o + k * 16 + 4, none⟩) hbl).trans (hcell 4 _ rfl)
      have c5 : wr.cell? ⟨b, o + k * 16 + 5, none⟩ = some (.int .i64 s.pt.div) := (hB.cell (p := ⟨b, o + k * 16 + 5, none⟩) hbl).trans (hcell 5 _ rfl)
      have c6 : wr.cell? ⟨b, o + k * 16 + 6, none⟩ = some (.int .i64 s.pt.lo) := (hB.cell (p := ⟨b, o + k * 16 + 6, none⟩) hbl).trans (hcell 6 _ rfl)
      have c7 : wr.cell? ⟨b, o + k * 16 + 7, none⟩ = some (.int .i64 s.pt.hi) := (hB.cell (p := ⟨b, o + k * 16 + 7, none⟩) hbl).trans (hcell 7 _ rfl)
      have c8 : wr.cell? ⟨b, o + k * 16 + 8, none⟩ = some (.int .u8 s.how) := (hB.cell (p := ⟨b, o + k * 16 + 8, none⟩) hbl).trans (hcell 8 _ rfl)
      have c9 : wr.cell? ⟨b, o + k * 16 + 9, none⟩ = some (.int .i64 s.kw) := (hB.cell (p := ⟨b, o + k * 16 + 9, none⟩) hbl).trans (hcell 9 _ rfl)
      have c10 : wr.cell? ⟨b, o + k * 16 + 10, none⟩ = some (.int .i64 s.kh) := (hB.cell (p := ⟨b, o + k * 16 + 10, none⟩) hbl).trans (hcell 10 _ rfl)
      have c11 : wr.cell? ⟨b, o + k * 16 + 11, none⟩ = some (.slice ka s.taps.length kc) := (hB.cell (p := ⟨b, o + k * 16 + 11, none⟩) hbl).trans (hcell 11 _ rfl)
      have c12 : wr.cell? ⟨b, o + k * 16 + 12, none⟩ = some (.int .u8 s.bd) := (hB.cell (p := ⟨b, o + k * 16 + 12, none⟩) hbl).trans (hcell 12 _ rfl)
      have c13 : wr.cell? ⟨b, o + k * 16 + 13, none⟩ = some (.int .i64 s.sw) := (hB.cell (p := ⟨b, o + k * 16 + 13, none⟩) hbl).trans (hcell 13 _ rfl)
      have c14 : wr.cell? ⟨b, o + k * 16 + 14, none⟩ = some (.int .i64 s.sh) := (hB.cell (p := ⟨b, o + k * 16 + 14, none⟩) hbl).trans (hcell 14 _ rfl)
      have c15 : wr.cell? ⟨b, o + k * 16 + 15, none⟩ = some (.slice sa s.bits.length sc) := (hB.cell (p := ⟨b, o + k * 16 + 15, none⟩) hbl).trans (hcell 15 _ rfl)
      have lp := kp.lt
      have l4 := k4.lt
      have lw := hB.size
      clear hcell
      have m0 := kp.cell (i := 0) rfl
      have m1 := kp.cell (i := 1) rfl
      have m2 := kp.cell (i := 2) rfl
      have m3 := kp.cell (i := 3) rfl
      have hrdJ : ∀ x ∈ l, RdX (Value.ownBlock (.slice va (q + k) vc)) wr x.a x.c x.p.px := by have := hrdH.out; rw [hll] at this; exact this
      have hrdJH := Lib.hid hrdJ
      clear hrdJ hrdH
      have hvl : ∀ b, (Value.slice va (q + k) vc).ownBlock = some b → b < wr.heap.size := fun b e => (hrow0.lt b e).2
      have hBw : Below wr.heap.size wr wr := Below.refl _ _
      have hbV21 : Below wr.heap.size wr (wr.alloc (.cells #[.int .u8 s.op, .int .i64 s.a, .int .i64 s.b, .int .i64 s.pt.mul, .int .i64 s.pt.add, .int .i64 s.pt.div, .int .i64 s.pt.lo, .int .i64 s.pt.hi, .int .u8 s.how, .int .i64 s.kw, .int .i64 s.kh, .slice ka s.taps.length kc, .int .u8 s.bd, .int .i64 s.sw, .int .i64 s.sh, .slice sa s.bits.length sc] 76)) := jb_al (Below.refl _ wr) _
      have ks := Blk.new wr 76 #[.int .u8 s.op, .int .i64 s.a, .int .i64 s.b, .int .i64 s.pt.mul, .int .i64 s.pt.add, .int .i64 s.pt.div, .int .i64 s.pt.lo, .int .i64 s.pt.hi, .int .u8 s.how, .int .i64 s.kw, .int .i64 s.kh, .slice ka s.taps.length kc, .int .u8 s.bd, .int .i64 s.sw, .int .i64 s.sh, .slice sa s.bits.length sc]
      obtain ⟨V21, hEV21⟩ : ∃ X, wr.alloc (.cells #[.int .u8 s.op, .int .i64 s.a, .int .i64 s.b, .int .i64 s.pt.mul, .int .i64 s.pt.add, .int .i64 s.pt.div, .int .i64 s.pt.lo, .int .i64 s.pt.hi, .int .u8 s.how, .int .i64 s.kw, .int .i64 s.kh, .slice ka s.taps.length kc, .int .u8 s.bd, .int .i64 s.sw, .int .i64 s.sh, .slice sa s.bits.length sc] 76) = X := ⟨_, rfl⟩
      rw [hEV21] at hbV21 ks
      clear m0 m1 m2 m3
      replace kp := kp.below hbV21 kp.lt
      replace k4 := k4.below hbV21 k4.lt
      replace hpr := hpr.later hbV21
      replace hBw := hBw.trans (hbV21.mono hBw.size)
      replace hrow0 := row_below hrow0 hbV21
      replace hB := hB.trans (hbV21.mono hB.size)
      clear hbV21
      have m0 := kp.cell (i := 0) rfl
      have m1 := kp.cell (i := 1) rfl
      have m2 := kp.cell (i := 2) rfl
      have m3 := kp.cell (i := 3) rfl
      have y0 := ks.cell (i := 0) rfl
      have y1 := ks.cell (i := 1) rfl
      have y2 := ks.cell (i := 2) rfl
      have y3 := ks.cell (i := 3) rfl
      have y4 := ks.cell (i := 4) rfl
      have y5 := ks.cell (i := 5) rfl
      have y6 := ks.cell (i := 6) rfl
      have y7 := ks.cell (i := 7) rfl
      have y8 := ks.cell (i := 8) rfl
      have y9 := ks.cell (i := 9) rfl
      have y10 := ks.cell (i := 10) rfl
      have y11 := ks.cell (i := 11) rfl
      have y12 := ks.cell (i := 12) rfl
      have y13 := ks.cell (i := 13) rfl
      have y14 := ks.cell (i := 14) rfl
      have y15 := ks.cell (i := 15) rfl
      have hsz1 := hBw.size
      go_wp2_with fail
      clear hEV21
      have hc := apply_any s hs ka sa kc sc M va vc (q + k) hlenk (fun i _ => hpxH.out i) hra.1 (by have := hqH.out; omega) (fun h => ⟨(hrb h).1, by have := (hrb h).2; have := hqH.out; omega⟩) V21 hpr (later_i hta hB) ((hbi.below (Nat.le_refl _) hB).mono hB.size)
      refine hc.mono ?_
      clear hc
      rintro e V22 ⟨⟨vv2, rfl, tt, rfl, hrow⟩, hb⟩
      clear m0 m1 m2 m3 y0 y1 y2 y3 y4 y5 y6 y7 y8 y9 y10 y11 y12 y13 y14 y15
      replace kp := kp.below hb kp.lt
      replace k4 := k4.below hb k4.lt
      replace ks := ks.below hb ks.lt
      replace hpr := hpr.later hb
      replace hBw := hBw.trans (hb.mono hBw.size)
      replace hrow0 := row_below hrow0 hb
      replace hB := hB.trans (hb.mono hB.size)
      clear hb
      clear c0 c1 c2 c3 c4 c5 c6 c7 c8 c9 c10 c11 c12 c13 c14 c15
      obtain ⟨X, hX⟩ : ∃ X, appS s M = X := ⟨_, rfl⟩
      rw [hX] at hrow
      rw [hX]
      have hXH := Lib.hid hX
      clear hX
      obtain ⟨xw, xh, xx, er⟩ := X
      obtain ⟨xa, xc, rfl⟩ := row_slice hrow
      simp only at hrow
      have hfar : xx = [] ∨ ∀ ad, xa = some ad → (Value.slice va (q + k) vc).ownBlock ≠ some ad.block := by
        right
        rintro ad rfl e
        have e1 := (hrow.lt ad.block rfl).1
        have e2 := hvl _ e
        omega
      have hfarH := Lib.hid hfar
      clear hfar
      obtain ⟨xl, hxl⟩ : ∃ l, xx.length = l := ⟨_, rfl⟩
      have hxlH := Lib.hid hxl
      simp only
      rw [hxl] at hrow
      rw [hxl]
      clear hxl
      clear ks
      have kr := Blk.new V22 29 #[.int .i64 0, .int .i64 0, .slice none 0 0]
      obtain ⟨bkr, hxkr⟩ : ∃ b, V22.heap.size = b := ⟨_, rfl⟩
      obtain ⟨V22a, hAkr⟩ : ∃ X, V22.alloc (.cells #[.int .i64 0, .int .i64 0, .slice none 0 0] 29) = X := ⟨_, rfl⟩
      have hba : Below V22.heap.size V22 V22a := alloc_below hAkr
      rw [hAkr, hxkr] at kr
      have hlekr : V22.heap.size ≤ bkr := by omega
      have ykr0 := kr.cell (i := 0) rfl
      have fykr0 := kr.frozen 0
      have ykr1 := kr.cell (i := 1) rfl
      have fykr1 := kr.frozen 1
      have ykr2 := kr.cell (i := 2) rfl
      have fykr2 := kr.frozen 2
      have krn := put3_blk kr (.int .i64 xw) (.int .i64 xh) (.slice xa xl xc)
      have hb : Below V22.heap.size V22 (put3 V22a bkr (.int .i64 xw) (.int .i64 xh) (.slice xa xl xc)) := hba.trans (put3_below hlekr (.int .i64 xw) (.int .i64 xh) (.slice xa xl xc))
      obtain ⟨V23, hPkr⟩ : ∃ X, put3 V22a bkr (.int .i64 xw) (.int .i64 xh) (.slice xa xl xc) = X := ⟨_, rfl⟩
      rw [hPkr] at krn hb
      replace kr := krn
      clear krn hba hlekr
      replace kp := kp.below hb kp.lt
      replace k4 := k4.below hb k4.lt
      replace hpr := hpr.later hb
      replace hBw := hBw.trans (hb.mono hBw.size)
      replace hrow0 := row_below hrow0 hb
      replace hrow := row_below hrow hb
      replace hB := hB.trans (hb.mono hB.size)
      clear hb
      have u0 := kr.cell (i := 0) rfl
      have u1 := kr.cell (i := 1) rfl
      have u2 := kr.cell (i := 2) rfl
      have uu0 := u0
      have uu1 := u1
      have uu2 := u2
      have hbV24 : Below V23.heap.size V23 (V23.alloc (.cells #[.int .i64 xw, .int .i64 xh, .slice xa xl xc] 29)) := jb_al (Below.refl _ V23) _
      have kb := Blk.new V23 29 #[.int .i64 xw, .int .i64 xh, .slice xa xl xc]
      obtain ⟨V24, hEV24⟩ : ∃ X, V23.alloc (.cells #[.int .i64 xw, .int .i64 xh, .slice xa xl xc] 29) = X := ⟨_, rfl⟩
      rw [hEV24] at hbV24 kb
      clear u0 u1 u2
      replace kp := kp.below hbV24 kp.lt
      replace k4 := k4.below hbV24 k4.lt
      replace kr := kr.below hbV24 kr.lt
      replace hpr := hpr.later hbV24
      replace hBw := hBw.trans (hbV24.mono hBw.size)
      replace hrow0 := row_below hrow0 hbV24
      replace hrow := row_below hrow hbV24
      replace hB := hB.trans (hbV24.mono hB.size)
      clear hbV24
      go_wp2_with (at_builtin; refine wpList_append_anyS rfl _ _ 25 rfl B0 29 i0 (.agg #[.int .i64 0, .int .i64 0, .slice none 0 0]) 3 40 Try.underlying25 gi gz0 gz1 gz2 rfl (by decide) (.slice va (q + k) vc) (q + k) (flatC l) rfl hrow0 (some ⟨_, 0, none⟩) 1 1 (picCells ⟨⟨xw, xh, xx⟩, xa, xc⟩) rfl rfl (by rw [show picCells ⟨⟨xw, xh, xx⟩, xa, xc⟩ = [.int .i64 xw, .int .i64 xh, .slice xa xl xc] by show [_, _, Value.slice xa xx.length xc] = _; rw [hxlH.out]]; exact NewsAt.blk kb 1) (flatC_one [⟨⟨xw, xh, xx⟩, xa, xc⟩]) (by unfold maxLen; omega) (by omega) (by have := hBw.size; omega) ?_; intro v7 W7 own7 hg7 hat7)
      have hBf : Below w.heap.size w W7 := hB.grown hg7 hB.size (fun b e => by have := (hrow0.lt b e).1; omega)
      have kp7 := kp.kept hg7 (fun e => by have := (hrow0.lt _ e.symm).1; omega)
      have k47 := k4.kept hg7 (fun e => by have := (hrow0.lt _ e.symm).1; omega)
      have hB07 : B0 ≤ W7.heap.size := by have := hBw.size; have := hg7.size; omega
      have hnew := OwnA.push (B := B0) (x := ⟨⟨xw, xh, xx⟩, xa, xc⟩) (fun y hy => by have e := hrdJH.out y hy; exact ⟨later_i e.1 hBw, e.2⟩) (row_rd' hxlH.out hrow) (fun e => by subst e; exact (row_nil hrow).2) hfarH.out (by have hll2 := hllH.out; rw [hll2]; exact own7) hg7 hat7
      have hrow7 : W7.ownsRow w.heap.size 3 1 (.slice xa xx.length xc) xx.length (xx.map (Value.int .i64)) := by
        rw [hxlH.out]
        refine jrow_weaken (hrow.kept hg7 ?_) (by omega)
        cases xa with
        | none => exact .inl rfl
        | some ad =>
          right
          intro e
          have e1 := (hrow.lt ad.block rfl).1
          have e2 := hvl _ e.symm
          omega
      have hfin : ∃ l : List PicA, OwnA B0 W7 v7 l ∧ l.map PicA.p = afterN ss ms (k + 1) ∧ (k + 1 = 0 ∨ ∃ l' x, l = l' ++ [x] ∧ W7.ownsRow w.heap.size 3 1 (.slice x.a x.p.px.length x.c) x.p.px.length (x.p.px.map (Value.int .i64))) := by
        refine ⟨_, hnew, ?_, .inr ⟨l, _, rfl, hrow7⟩⟩
        rw [List.map_append, hlmH.out, hnxH.out, hXH.out]
        rfl
      have hfinH := Lib.hid hfin
      clear hfin hnew hrow7 hrow hrow0 own7 hg7 hat7 kb kr hB kp k4 hpr hBw
      go_roundw
      case rel => exact ⟨k + 1, by omega, by go_num, hfinH, hB07, hBf, kp7, k47⟩
      case measure => simp [intOf]; omega

end Go.Proofs.Ytekiemlniegddaa

namespace Go.Proofs.Ytekiemlniegddaa
open Go Go.RowKit Go.Shelf
set_option linter.unusedVariables false
set_option linter.unusedSimpArgs false

def convC (bd iw ih : Int) (xs : List Int) (kw kh : Nat) (taps : List Int) (x y : Int) : Int := clamp (convG bd iw ih xs kw kh taps x y) (-2147483648) 2147483648
theorem convC_img (pw ph : Nat) (bd iw ih : Int) (xs : List Int) (kw kh : Nat) (taps : List Int) : img pw ph (convC bd iw ih xs kw kh taps) = img pw ph (convG bd iw ih xs kw kh taps) := img_congr fun _ _ => clamp_clamp _

set_option maxRecDepth 100000 in
set_option maxHeartbeats 1000000 in
theorem ValidKernel_any (kw kh : Int) (ak : Option Addr) (ck nk : Nat) (taps : List Int) (hkn : Hid (taps.length = nk)) (r : Bool) (hres : Hid (kernOk kw kh taps = r)) (w : World) (hm : nk ≤ 9223372036854775807) (hrk : Rd w.heap.size w ak taps) :
    Calls Try.prog 121 #[imv kw kh ak nk ck] w fun e w' => e = .returned (.bool r) ∧ Below w.heap.size w w' := by
  obtain ⟨v1, hv1⟩ : ∃ v, sideB kw = v := ⟨_, rfl⟩
  obtain ⟨v2, hv2⟩ : ∃ v, sideB kh = v := ⟨_, rfl⟩
  have hres' : (((v1 && v2) && decide ((nk : Int) = kw * kh)) && allIn (-65536) 65536 taps) = r := by
    rw [← hv1, ← hv2, ← hres.out]; unfold kernOk sidesB; rw [hkn.out]
  have h1 := Lib.hid hv1
  have h2 := Lib.hid hv2
  have hr := Lib.hid hres'
  clear hv1 hv2 hres'
  have hB : Below w.heap.size w (w.alloc (.cells #[.int .i64 kw, .int .i64 kh, .slice ak nk ck] 71)) := below_al (Below.refl _ _) _
  have k := Blk.new w 71 #[.int .i64 kw, .int .i64 kh, .slice ak nk ck]
  have m0 := k.cell (i := 0) rfl
  have m1 := k.cell (i := 1) rfl
  have m2 := k.cell (i := 2) rfl
  cases v1 with
  | false =>
    go_enter Try.func121, Try.ntmps121
    go_wp2_with fail
    refine (side1 kw false h1 _).mono ?_
    rintro e w' ⟨rfl, rfl⟩
    go_wp2_with fail
    go_ret
    exact ⟨ret_bool hr.out, hB⟩
  | true =>
    cases v2 with
    | false =>
      go_enter Try.func121, Try.ntmps121
      go_wp2_with fail
      refine (side1 kw true h1 _).mono ?_
      rintro e w' ⟨rfl, rfl⟩
      go_wp2_with fail
      refine (side1 kh false h2 _).mono ?_
      rintro e w' ⟨rfl, rfl⟩
      go_wp2_with fail
      go_ret
      exact ⟨ret_bool hr.out, hB⟩
    | true =>
      have s1 := sideB_true h1.out
      have s2 := sideB_true h2.out
      obtain ⟨p1, p2⟩ := mul_small (a := kw) (b := kh) (m := 5) (n := 5) (by omega) (by omega) (by omega) (by omega)
      clear s1 s2
      by_cases hl : (nk : Int) = kw * kh
      · have hlb : ((nk : Int) != kw * kh) = false := by simp [hl]
        have hr2 := Lib.hid (show allIn (-65536) 65536 taps = r by rw [← hr.out]; simp [hl])
        clear hl
        go_enter Try.func121, Try.ntmps121
        go_wp2_with fail
        refine (side1 kw true h1 _).mono ?_
        rintro e w' ⟨rfl, rfl⟩
        go_wp2_with fail
        refine (side1 kh true h2 _).mono ?_
        rintro e w' ⟨rfl, rfl⟩
        go_wp2_with fail
        obtain ⟨W, hW⟩ : ∃ W, w.alloc (.cells #[.int .i64 kw, .int .i64 kh, .slice ak nk ck] 71) = W := ⟨_, rfl⟩
        rw [hW] at hB k m0 m1 m2 ⊢
        clear hW
        go_loop [3] (fun i => ∃ k : Nat, k ≤ nk ∧ i = .int .i64 (k : Int) ∧ Hid (allIn (-65536) 65536 (taps.take k) = true)) (fun i => nk - (intOf i).toNat)
        case atStart => exact ⟨0, Nat.zero_le _, rfl, Lib.hid rfl⟩
        case round =>
          obtain ⟨j, hj, rfl, hall⟩ := hrel
          by_cases hlt : j < nk
          · obtain ⟨b, o, rfl, hb, hc⟩ := rd_at hrk hkn.out (by omega)
            have hcell := (hB.cell (p := ⟨b, o + j, none⟩) hb).trans (hc j hlt)
            have hpx : px taps (j : Int) = taps[j]?.getD 0 := by unfold px; simp
            have hlt' : j < taps.length := by rw [hkn.out]; exact hlt
            have hs1 : inR (px taps (j : Int)) (-65536) 65536 = true → allIn (-65536) 65536 (taps.take (j + 1)) = true := fun h => by
              obtain ⟨g1, g2⟩ := inR_true.1 h
              rw [hpx] at g1 g2
              exact allIn_succ hlt' hall.out g1 g2
            have hs2 : inR (px taps (j : Int)) (-65536) 65536 = false → allIn (-65536) 65536 taps = false := fun h => by
              refine allIn_false hlt' ?_
              rw [← hpx]
              simp [inR] at h
              omega
            generalize px taps (j : Int) = x at *
            obtain ⟨v, hv⟩ : ∃ v, inR x (-65536) 65536 = v := ⟨_, rfl⟩
            rw [hv] at hs1 hs2
            have hvH := Lib.hid hv
            have hs1H := Lib.hid hs1
            have hs2H := Lib.hid hs2
            clear hc hs1 hs2 hv hpx hlt'
            cases v with
            | true =>
              go_wp2_with fail
              refine (rwithin1 x (-65536) 65536 true hvH.out _).mono ?_
              rintro e w' ⟨rfl, rfl⟩
              go_wp2_with fail
              go_round
              case rel => exact ⟨j + 1, by omega, by go_num, Lib.hid (hs1H.out (by first | rfl | trivial))⟩
              case measure => simp [intOf]; omega
            | false =>
              go_wp2_with fail
              refine (rwithin1 x (-65536) 65536 false hvH.out _).mono ?_
              rintro e w' ⟨rfl, rfl⟩
              go_wp2_with fail
              go_ret
              exact ⟨ret_bool (by rw [← hr2.out, hs2H.out (by first | rfl | trivial)]), hB⟩
          · have hall2 := Lib.hid (show allIn (-65536) 65536 taps = true by
              have h := hall.out
              rwa [List.take_of_length_le (by have := hkn.out; omega)] at h)
            go_wp2_with fail
            go_ret
            exact ⟨ret_bool (by rw [← hr2.out, hall2.out]), hB⟩
      · have hlb : ((nk : Int) != kw * kh) = true := by simp [hl]
        have hr2 := Lib.hid (show false = r by rw [← hr.out]; simp [hl])
        clear hl
        go_enter Try.func121, Try.ntmps121
        go_wp2_with fail
        refine (side1 kw true h1 _).mono ?_
        rintro e w' ⟨rfl, rfl⟩
        go_wp2_with fail
        refine (side1 kh true h2 _).mono ?_
        rintro e w' ⟨rfl, rfl⟩
        go_wp2_with fail
        go_ret
        exact ⟨ret_bool hr2.out, hB⟩

set_option maxRecDepth 100000 in
set_option maxHeartbeats 8000000 in
theorem Convolved_any (bd : Int) (hbd1 : 1 ≤ bd) (hbd2 : bd ≤ 3) (iw ih : Int) (a : Option Addr) (c n : Nat) (xs : List Int) (hn : Hid (xs.length = n)) (hall : Hid (allIn (-2147483648) 2147483648 xs = true)) (kw kh : Nat) (ak : Option Addr) (ck nk : Nat) (taps : List Int) (hkn : Hid (taps.length = nk)) (htall : Hid (allIn (-65536) 65536 taps = true)) (hkw : kw = 1 ∨ kw = 3 ∨ kw = 5) (hkh : kh = 1 ∨ kh = 3 ∨ kh = 5) (hns : Hid (kw * kh = nk))
    (x y : Int) (w : World) (hi1 : 1 ≤ iw) (hi2 : iw ≤ 16) (hi3 : 1 ≤ ih) (hi4 : ih ≤ 16) (hnn : Hid ((n : Int) = iw * ih)) (hx1 : 0 ≤ x) (hx2 : x ≤ iw - 1) (hy1 : 0 ≤ y) (hy2 : y ≤ ih - 1) (r : Int) (hres : Hid (convG bd iw ih xs kw kh taps x y = r)) (hr : Rd w.heap.size w a xs) (hrk : Rd w.heap.size w ak taps) :
    Calls Try.prog 152 #[imv iw ih a n c, imv kw kh ak nk ck, .int .u8 bd, .int .i64 x, .int .i64 y] w fun e w' => e = .returned (.int .i64 r) ∧ Below w.heap.size w w' := by
  have hnsP : 1 ≤ nk ∧ nk ≤ 25 := by
    have := hns.out
    rcases hkw with rfl | rfl | rfl <;> rcases hkh with rfl | rfl | rfl <;> omega
  obtain ⟨bt, ot, rfl, hbt, hbc⟩ := rd_at hrk hkn.out (by omega)
  have hbcH := Lib.hid hbc
  clear hbc hrk
  obtain ⟨hw, ehw⟩ : ∃ v, (kw : Int).tdiv 2 = v := ⟨_, rfl⟩
  obtain ⟨hh, ehh⟩ : ∃ v, (kh : Int).tdiv 2 = v := ⟨_, rfl⟩
  have hw1 : ((kw / 2 : Nat) : Int) = hw ∧ (kw : Int) / 2 = hw ∧ 0 ≤ hw ∧ hw ≤ 2 := by rw [← ehw]; rcases hkw with rfl | rfl | rfl <;> decide
  have hh1 : ((kh / 2 : Nat) : Int) = hh ∧ (kh : Int) / 2 = hh ∧ 0 ≤ hh ∧ hh ≤ 2 := by rw [← ehh]; rcases hkh with rfl | rfl | rfl <;> decide
  obtain ⟨hwe, ehw', hw2, hw3⟩ := hw1
  obtain ⟨hhe, ehh', hh2, hh3⟩ := hh1
  have hweH := Lib.hid hwe
  have hheH := Lib.hid hhe
  clear hwe hhe
  obtain ⟨TT, hTT⟩ : ∃ f, convT bd iw ih xs kw kh taps x y = f := ⟨_, rfl⟩
  have hG := Lib.hid (show sumTo TT (kw * kh) = r by rw [← hres.out]; unfold convG; rw [hTT])
  have hTB := Lib.hid (fun t => (show -140737488355328 ≤ TT t ∧ TT t ≤ 140737488355328 by rw [← hTT]; exact convT_bd hall.out htall.out bd iw ih kw kh x y t))
  have hTTH := Lib.hid hTT
  clear hTT
  have hB0 : Below w.heap.size w ((w.alloc (.cells #[.int .i64 iw, .int .i64 ih, .slice a n c] 29)).alloc (.cells #[.int .i64 kw, .int .i64 kh, .slice (some ⟨bt, ot, none⟩) nk ck] 71)) := below_al (below_al (Below.refl _ _) _) _
  have ki := (Blk.new w 29 #[.int .i64 iw, .int .i64 ih, .slice a n c]).alloc (.cells #[.int .i64 kw, .int .i64 kh, .slice (some ⟨bt, ot, none⟩) nk ck] 71)
  have ks := Blk.new (w.alloc (.cells #[.int .i64 iw, .int .i64 ih, .slice a n c] 29)) 71 #[.int .i64 kw, .int .i64 kh, .slice (some ⟨bt, ot, none⟩) nk ck]
  simp only [World.size_alloc] at ks
  obtain ⟨W, hW⟩ : ∃ W, (w.alloc (.cells #[.int .i64 iw, .int .i64 ih, .slice a n c] 29)).alloc (.cells #[.int .i64 kw, .int .i64 kh, .slice (some ⟨bt, ot, none⟩) nk ck] 71) = W := ⟨_, rfl⟩
  rw [hW] at hB0 ki ks
  have h0s := Lib.hid hns.out
  go_enter Try.func152, Try.ntmps152
  go_wp2_with fail
  clear hW
  go_loopw [11, 12] (fun o i wr => ∃ j : Nat, j ≤ kh ∧ i = .int .i64 (j : Int) ∧ o = .int .i64 (sumTo TT (j * kw)) ∧ Below W.heap.size W wr) (fun o i _ => kh - (intOf i).toNat)
  case atStart => exact ⟨0, Nat.zero_le _, rfl, by simp [sumTo], Below.refl _ _⟩
  case round =>
    obtain ⟨j, hj, rfl, rfl, hBw⟩ := hrel
    have hBr : Below w.heap.size w wr := hB0.trans (hBw.mono hB0.size)
    have m0 := (ks.below hBw ks.lt).cell (i := 0) rfl
    have m1 := (ks.below hBw ks.lt).cell (i := 1) rfl
    have m2 := (ks.below hBw ks.lt).cell (i := 2) rfl
    by_cases hlt : j < kh
    · have hdec : decide ((j : Int) < (kh : Int)) = true := by simp; omega
      have hjk : j * kw + kw ≤ nk := by
        rw [← hns.out]
        have := Nat.mul_le_mul_right kw (show j + 1 ≤ kh by omega)
        rw [Nat.add_mul, Nat.one_mul, Nat.mul_comm kh kw] at this
        exact this
      go_wp2_with fail
      try simp only [hdec]
      clear hdec m0 m1 m2
      go_loopw [11, 13] (fun o i wr => ∃ i0 : Nat, i0 ≤ kw ∧ i = .int .i64 (i0 : Int) ∧ o = .int .i64 (sumTo TT (j * kw + i0)) ∧ Below W.heap.size W wr) (fun o i _ => kw - (intOf i).toNat)
      case atStart => exact ⟨0, Nat.zero_le _, rfl, rfl, hBw⟩
      case round =>
        clear hBr hBw
        obtain ⟨q, hq, rfl, rfl, hBw⟩ := hrel
        have hBr : Below w.heap.size w wr := hB0.trans (hBw.mono hB0.size)
        have ki0 := ki.lt
        replace ki := ki.below hBw ki.lt
        replace ks := ks.below hBw ks.lt
        have m0 := ks.cell (i := 0) rfl
        have m1 := ks.cell (i := 1) rfl
        have m2 := ks.cell (i := 2) rfl
        by_cases hltq : q < kw
        · obtain ⟨i0, hi0⟩ : ∃ i0, j * kw + q = i0 := ⟨_, rfl⟩
          have em : i0 % kw = q := by rw [← hi0]; exact idx_mod j hltq
          have ed : i0 / kw = j := by rw [← hi0]; exact idx_div j hltq
          have hin : i0 < nk := by omega
          have hTE : TT i0 = px taps i0 * beyF bd iw ih xs (x - ((q : Int) - hw)) (y - ((j : Int) - hh)) := by
            rw [← hTTH.out]; unfold convT; rw [hweH.out, hheH.out, em, ed, show x + hw - (q : Int) = x - ((q : Int) - hw) by omega, show y + hh - (j : Int) = y - ((j : Int) - hh) by omega]
          have htap := (hBr.cell (p := ⟨bt, ot + i0, none⟩) hbt).trans (hbcH.out i0 hin)
          have htb := px_bdB (B := 65536) (by decide) htall.out (i0 : Int)
          obtain ⟨tp, htp⟩ : ∃ v, px taps (i0 : Int) = v := ⟨_, rfl⟩
          rw [htp] at htap htb hTE
          obtain ⟨bv, hbv⟩ : ∃ v, beyF bd iw ih xs (x - ((q : Int) - hw)) (y - ((j : Int) - hh)) = v := ⟨_, rfl⟩
          have hbb := beyF_bd hall.out bd iw ih (x - ((q : Int) - hw)) (y - ((j : Int) - hh))
          rw [hbv] at hbb hTE
          have hbvH := Lib.hid hbv
          have hmb := mul_bd htb.1 htb.2 hbb.1 hbb.2 (by decide) (by decide)
          have hsb := sumTo_bd (f := TT) (B := 140737488355328) (k := i0) (fun t _ => hTB.out t)
          have hsn : sumTo TT (j * kw + (q + 1)) = sumTo TT i0 + tp * bv := by rw [← Nat.add_assoc, hi0, ← hTE]; rfl
          rw [hi0]
          obtain ⟨sv, hsv⟩ : ∃ v, sumTo TT i0 = v := ⟨_, rfl⟩
          rw [hsv] at hsb hsn ⊢
          have hsnH := Lib.hid hsn
          clear hsn hsv hbv htp hTE em ed
          have p3 : ((j : Int) * (kw : Int) + (q : Int)) < (nk : Int) := by
            have e : ((j * kw + q : Nat) : Int) = (j : Int) * (kw : Int) + (q : Int) := by simp
            omega
          have p4 : 0 ≤ (j : Int) * (kw : Int) := Int.mul_nonneg (by omega) (by omega)
          have hS : Below wr.heap.size wr wr.drew := (Below.refl _ _).drew
          go_wp2_with fail
          refine plain_region (fun W' => Below wr.heap.size wr W') 31 31 (by kernel_rfl) rfl ?_
          simp only [Array.replicate_succ, Array.replicate_zero, List.push_toArray, List.nil_append, List.cons_append]
          refine take_op 0 (v := ?rv0) rfl (by kernel_rfl) (fun _ _ _ h => h) (by rfl) hS (fun w' hS' => ?ry0) ?rz0
          case ry0 =>
            go_simp
            rfl
          simp only [List.setIfInBounds_toArray, List.set_cons_zero, List.set_cons_succ]
          refine take_op 1 (v := ?rv1) rfl (by kernel_rfl) (fun _ _ _ h => h) (by rfl) hS (fun w' hS' => ?ry1) ?rz1
          case ry1 =>
            go_simp
            rfl
          simp only [List.setIfInBounds_toArray, List.set_cons_zero, List.set_cons_succ]
          refine take_op 2 (v := ?rv2) rfl (by kernel_rfl) (fun _ _ _ h => h) (by rfl) hS (fun w' hS' => ?ry2) ?rz2
          case ry2 =>
            have a0 := (ks.below hS' ks.lt).cell (i := 0) rfl
            have a1 := (ks.below hS' ks.lt).cell (i := 1) rfl
            have a2 := (ks.below hS' ks.lt).cell (i := 2) rfl
            have m0 := (ki.below hS' ki.lt).cell (i := 0) rfl
            have m1 := (ki.below hS' ki.lt).cell (i := 1) rfl
            have m2 := (ki.below hS' ki.lt).cell (i := 2) rfl
            have t0 := (hS'.cell (p := ⟨bt, ot + i0, none⟩) (by show bt < wr.heap.size; have := hBr.size; omega)).trans htap
            go_simp
            rfl
          simp only [List.setIfInBounds_toArray, List.set_cons_zero, List.set_cons_succ]
          refine take_op 3 (v := ?rv3) rfl (by kernel_rfl) (fun _ _ _ h => h) (by rfl) hS (fun w' hS' => ?ry3) ?rz3
          case ry3 =>
            go_simp
            rfl
          simp only [List.setIfInBounds_toArray, List.set_cons_zero, List.set_cons_succ]
          refine take_op 4 (v := ?rv4) rfl (by kernel_rfl) (fun _ _ _ h => h) (by rfl) hS (fun w' hS' => ?ry4) ?rz4
          case ry4 =>
            go_simp
            rfl
          simp only [List.setIfInBounds_toArray, List.set_cons_zero, List.set_cons_succ]
          refine take_op 5 (v := ?rv5) rfl (by kernel_rfl) (fun _ _ _ h => h) (by rfl) hS (fun w' hS' => ?ry5) ?rz5
          case ry5 =>
            have a0 := (ks.below hS' ks.lt).cell (i := 0) rfl
            have a1 := (ks.below hS' ks.lt).cell (i := 1) rfl
            have a2 := (ks.below hS' ks.lt).cell (i := 2) rfl
            have m0 := (ki.below hS' ki.lt).cell (i := 0) rfl
            have m1 := (ki.below hS' ki.lt).cell (i := 1) rfl
            have m2 := (ki.below hS' ki.lt).cell (i := 2) rfl
            have t0 := (hS'.cell (p := ⟨bt, ot + i0, none⟩) (by show bt < wr.heap.size; have := hBr.size; omega)).trans htap
            go_simp
            rfl
          simp only [List.setIfInBounds_toArray, List.set_cons_zero, List.set_cons_succ]
          refine take_op 6 (v := ?rv6) rfl (by kernel_rfl) (fun _ _ _ h => h) (by rfl) hS (fun w' hS' => ?ry6) ?rz6
          case ry6 =>
            go_simp
            try go_ints
            rfl
          simp only [List.setIfInBounds_toArray, List.set_cons_zero, List.set_cons_succ]
          refine take_op 7 (v := ?rv7) rfl (by kernel_rfl) (fun _ _ _ h => h) (by rfl) hS (fun w' hS' => ?ry7) ?rz7
          case ry7 =>
            go_simp
            rfl
          simp only [List.setIfInBounds_toArray, List.set_cons_zero, List.set_cons_succ]
          refine take_op 8 (v := ?rv8) rfl (by kernel_rfl) (fun _ _ _ h => h) (by rfl) hS (fun w' hS' => ?ry8) ?rz8
          case ry8 =>
            go_simp
            try go_ints
            rfl
          simp only [List.setIfInBounds_toArray, List.set_cons_zero, List.set_cons_succ]
          refine take_op 9 (v := ?rv9) rfl (by kernel_rfl) (fun _ _ _ h => h) (by rfl) hS (fun w' hS' => ?ry9) ?rz9
          case ry9 =>
            go_simp
            try go_ints
            first
            | rfl
            | rw [if_pos ⟨by omega, by omega⟩]
          simp only [List.setIfInBounds_toArray, List.set_cons_zero, List.set_cons_succ]
          refine take_op 10 (v := ?rv10) rfl (by kernel_rfl) (fun _ _ _ h => h) (by rfl) hS (fun w' hS' => ?ry10) ?rz10
          case ry10 =>
            have a0 := (ks.below hS' ks.lt).cell (i := 0) rfl
            have a1 := (ks.below hS' ks.lt).cell (i := 1) rfl
            have a2 := (ks.below hS' ks.lt).cell (i := 2) rfl
            have m0 := (ki.below hS' ki.lt).cell (i := 0) rfl
            have m1 := (ki.below hS' ki.lt).cell (i := 1) rfl
            have m2 := (ki.below hS' ki.lt).cell (i := 2) rfl
            have t0 := (hS'.cell (p := ⟨bt, ot + i0, none⟩) (by show bt < wr.heap.size; have := hBr.size; omega)).trans htap
            go_simp
            rfl
          simp only [List.setIfInBounds_toArray, List.set_cons_zero, List.set_cons_succ]
          refine take_op 11 (v := ?rv11) rfl (by kernel_rfl) (fun _ _ _ h => h) (by rfl) hS (fun w' hS' => ?ry11) ?rz11
          case ry11 =>
            have a0 := (ks.below hS' ks.lt).cell (i := 0) rfl
            have a1 := (ks.below hS' ks.lt).cell (i := 1) rfl
            have a2 := (ks.below hS' ks.lt).cell (i := 2) rfl
            have m0 := (ki.below hS' ki.lt).cell (i := 0) rfl
            have m1 := (ki.below hS' ki.lt).cell (i := 1) rfl
            have m2 := (ki.below hS' ki.lt).cell (i := 2) rfl
            have t0 := (hS'.cell (p := ⟨bt, ot + i0, none⟩) (by show bt < wr.heap.size; have := hBr.size; omega)).trans htap
            go_simp
            rfl
          simp only [List.setIfInBounds_toArray, List.set_cons_zero, List.set_cons_succ]
          refine take_op 12 (v := ?rv12) rfl (by kernel_rfl) (fun _ _ _ h => h) (by rfl) hS (fun w' hS' => ?ry12) ?rz12
          case ry12 =>
            go_simp
            rfl
          simp only [List.setIfInBounds_toArray, List.set_cons_zero, List.set_cons_succ]
          refine take_op 13 (v := ?rv13) rfl (by kernel_rfl) (fun _ _ _ h => h) (by rfl) hS (fun w' hS' => ?ry13) ?rz13
          case ry13 =>
            go_simp
            rfl
          simp only [List.setIfInBounds_toArray, List.set_cons_zero, List.set_cons_succ]
          refine take_op 14 (v := ?rv14) rfl (by kernel_rfl) (fun _ _ _ h => h) (by rfl) hS (fun w' hS' => ?ry14) ?rz14
          case ry14 =>
            go_simp
            rfl
          simp only [List.setIfInBounds_toArray, List.set_cons_zero, List.set_cons_succ]
          refine take_op 15 (v := ?rv15) rfl (by kernel_rfl) (fun _ _ _ h => h) (by rfl) hS (fun w' hS' => ?ry15) ?rz15
          case ry15 =>
            go_simp
            rfl
          simp only [List.setIfInBounds_toArray, List.set_cons_zero, List.set_cons_succ]
          refine take_op 16 (v := ?rv16) rfl (by kernel_rfl) (fun _ _ _ h => h) (by rfl) hS (fun w' hS' => ?ry16) ?rz16
          case ry16 =>
            have a0 := (ks.below hS' ks.lt).cell (i := 0) rfl
            have a1 := (ks.below hS' ks.lt).cell (i := 1) rfl
            have a2 := (ks.below hS' ks.lt).cell (i := 2) rfl
            have m0 := (ki.below hS' ki.lt).cell (i := 0) rfl
            have m1 := (ki.below hS' ki.lt).cell (i := 1) rfl
            have m2 := (ki.below hS' ki.lt).cell (i := 2) rfl
            have t0 := (hS'.cell (p := ⟨bt, ot + i0, none⟩) (by show bt < wr.heap.size; have := hBr.size; omega)).trans htap
            go_simp
            rfl
          simp only [List.setIfInBounds_toArray, List.set_cons_zero, List.set_cons_succ]
          refine take_op 17 (v := ?rv17) rfl (by kernel_rfl) (fun _ _ _ h => h) (by rfl) hS (fun w' hS' => ?ry17) ?rz17
          case ry17 =>
            go_simp
            try go_ints
            rfl
          simp only [List.setIfInBounds_toArray, List.set_cons_zero, List.set_cons_succ]
          refine take_op 18 (v := ?rv18) rfl (by kernel_rfl) (fun _ _ _ h => h) (by rfl) hS (fun w' hS' => ?ry18) ?rz18
          case ry18 =>
            go_simp
            try go_ints
            rfl
          simp only [List.setIfInBounds_toArray, List.set_cons_zero, List.set_cons_succ]
          refine take_op 19 (v := ?rv19) rfl (by kernel_rfl) (fun _ _ _ h => h) (by rfl) hS (fun w' hS' => ?ry19) ?rz19
          case ry19 =>
            go_simp
            try go_ints
            rfl
          simp only [List.setIfInBounds_toArray, List.set_cons_zero, List.set_cons_succ]
          refine take_op 20 (v := ?rv20) rfl (by kernel_rfl) (fun _ _ _ h => h) (by rfl) hS (fun w' hS' => ?ry20) ?rz20
          case ry20 =>
            go_simp
            rfl
          simp only [List.setIfInBounds_toArray, List.set_cons_zero, List.set_cons_succ]
          refine take_op 21 (v := ?rv21) rfl (by kernel_rfl) (fun _ _ _ h => h) (by rfl) hS (fun w' hS' => ?ry21) ?rz21
          case ry21 =>
            go_simp
            rfl
          simp only [List.setIfInBounds_toArray, List.set_cons_zero, List.set_cons_succ]
          refine take_op 22 (v := ?rv22) rfl (by kernel_rfl) (fun _ _ _ h => h) (by rfl) hS (fun w' hS' => ?ry22) ?rz22
          case ry22 =>
            go_simp
            rfl
          simp only [List.setIfInBounds_toArray, List.set_cons_zero, List.set_cons_succ]
          refine take_op 23 (v := ?rv23) rfl (by kernel_rfl) (fun _ _ _ h => h) (by rfl) hS (fun w' hS' => ?ry23) ?rz23
          case ry23 =>
            have a0 := (ks.below hS' ks.lt).cell (i := 0) rfl
            have a1 := (ks.below hS' ks.lt).cell (i := 1) rfl
            have a2 := (ks.below hS' ks.lt).cell (i := 2) rfl
            have m0 := (ki.below hS' ki.lt).cell (i := 0) rfl
            have m1 := (ki.below hS' ki.lt).cell (i := 1) rfl
            have m2 := (ki.below hS' ki.lt).cell (i := 2) rfl
            have t0 := (hS'.cell (p := ⟨bt, ot + i0, none⟩) (by show bt < wr.heap.size; have := hBr.size; omega)).trans htap
            go_simp
            rfl
          simp only [List.setIfInBounds_toArray, List.set_cons_zero, List.set_cons_succ]
          refine take_op 24 (v := ?rv24) rfl (by kernel_rfl) (fun _ _ _ h => h) (by rfl) hS (fun w' hS' => ?ry24) ?rz24
          case ry24 =>
            go_simp
            try go_ints
            rfl
          simp only [List.setIfInBounds_toArray, List.set_cons_zero, List.set_cons_succ]
          refine take_op 25 (v := ?rv25) rfl (by kernel_rfl) (fun _ _ _ h => h) (by rfl) hS (fun w' hS' => ?ry25) ?rz25
          case ry25 =>
            go_simp
            try go_ints
            rfl
          simp only [List.setIfInBounds_toArray, List.set_cons_zero, List.set_cons_succ]
          refine take_op 26 (v := ?rv26) rfl (by kernel_rfl) (fun _ _ _ h => h) (by rfl) hS (fun w' hS' => ?ry26) ?rz26
          case ry26 =>
            go_simp
            try go_ints
            rfl
          simp only [List.setIfInBounds_toArray, List.set_cons_zero, List.set_cons_succ]
          refine step_op 27 (by kernel_rfl) rfl (fun K hK => ?_)
          rw [if_pos (by rfl)]
          go_simp
          refine (Beyond_any bd hbd1 hbd2 iw ih a c n xs hn _ _ _ hi1 hi2 hi3 hi4 hnn (by omega) (by omega) (by omega) (by omega) bv hbvH ((hr.below (Nat.le_refl _) (hBr.trans (hS.mono hBr.size))).mono (hBr.trans (hS.mono hBr.size)).size)).mono ?_
          rintro e W1 ⟨rfl, hb1⟩
          have hS1 : Below wr.heap.size wr W1 := hS.trans (hb1.mono hS.size)
          refine hK.out _ _ (fun h => hS1) ?_
          clear hK K
          try simp only [Act.put, List.setIfInBounds_toArray, List.set_cons_zero, List.set_cons_succ]
          refine take_op 28 (v := ?rv28) rfl (by kernel_rfl) (fun _ _ _ h => h) (by rfl) hS1 (fun w' hS' => ?ry28) ?rz28
          case ry28 =>
            go_simp
            try go_ints
            rfl
          simp only [List.setIfInBounds_toArray, List.set_cons_zero, List.set_cons_succ]
          refine take_op 29 (v := ?rv29) rfl (by kernel_rfl) (fun _ _ _ h => h) (by rfl) hS1 (fun w' hS' => ?ry29) ?rz29
          case ry29 =>
            go_simp
            try go_ints
            rfl
          simp only [List.setIfInBounds_toArray, List.set_cons_zero, List.set_cons_succ]
          refine take_op 30 (v := ?rv30) rfl (by kernel_rfl) (fun _ _ _ h => h) (by rfl) hS1 (fun w' hS' => ?ry30) ?rz30
          case ry30 =>
            go_simp
            rfl
          simp only [List.setIfInBounds_toArray, List.set_cons_zero, List.set_cons_succ]
          refine done_ops (by kernel_rfl) ?_
          go_wp2_with fail
          go_roundw
          case rel => exact ⟨q + 1, by omega, by go_num, by rw [hsnH.out], hBw.trans (hS1.mono hBw.size)⟩
          case measure => simp [intOf]; omega
        · have hqk : q = kw := by omega
          have hst := Lib.hid (show sumTo TT (j * kw + q) = sumTo TT ((j + 1) * kw) by rw [hqk, Nat.add_mul, Nat.one_mul])
          clear hqk
          go_wp2_with fail
          go_roundw
          case rel => exact ⟨j + 1, by omega, by go_num, by rw [hst.out], hBw⟩
          case measure => simp [intOf]; omega
    · have hjk : j = kh := by omega
      have hfin := Lib.hid (show sumTo TT (j * kw) = r by rw [hjk, Nat.mul_comm, hG.out])
      clear hjk
      go_wp2_with fail
      go_ret
      exact ⟨ret_int hfin.out, hBr⟩

set_option maxRecDepth 100000 in
set_option maxHeartbeats 4000000 in
theorem rConvolve_any (iw ih : Int) (a : Option Addr) (c n : Nat) (xs : List Int) (hn : Hid (xs.length = n)) (kw kh : Int) (ak : Option Addr) (ck nk : Nat) (taps : List Int) (hkn : Hid (taps.length = nk)) (bd : Int) (hd1 : 0 ≤ bd) (hd2 : bd ≤ 255) (w : World) (hm : n ≤ 9223372036854775807) (hr : Rd w.heap.size w a xs) (hmk : nk ≤ 9223372036854775807) (hrk : Rd w.heap.size w ak taps) :
    Calls Try.prog 126 #[imv iw ih a n c, imv kw kh ak nk ck, .int .u8 bd] w (RetIm w.heap.size (convS iw ih xs kw kh taps bd) w) := by
  have hB0 : Below w.heap.size w (((w.alloc (.cells #[.int .i64 iw, .int .i64 ih, .slice a n c] 29)).alloc (.cells #[.int .i64 kw, .int .i64 kh, .slice ak nk ck] 71)).alloc (.cells #[.int .i64 0, .int .i64 0, .slice none 0 0] 29)) := below_al (below_al (below_al (Below.refl _ _) _) _) _
  obtain ⟨v0, hv⟩ : ∃ v, vld iw ih xs = v := ⟨_, rfl⟩
  have v0H := Lib.hid hv
  obtain ⟨v1, hv1⟩ : ∃ v, kernOk kw kh taps = v := ⟨_, rfl⟩
  have v1H := Lib.hid hv1
  obtain ⟨v2, hv2⟩ : ∃ v, decide (1 ≤ bd ∧ bd ≤ 3) = v := ⟨_, rfl⟩
  have v2H := Lib.hid hv2
  have hsp0 : convS iw ih xs kw kh taps bd = if v0 = true then (if v1 = true then if v2 = true then { w := iw, h := ih, px := img iw.toNat ih.toNat (convC bd iw ih xs kw.toNat kh.toNat taps), err := 0 } else noIm 2 else noIm 22) else noIm 20 := by
    simp only [convS, convC_img, hv, hv1, hv2]
  have hsp := Lib.hid hsp0
  clear hv hsp0 hv1 hv2
  go_enter Try.func126, Try.ntmps126
  go_wp2_with fail
  refine (Valid_any iw ih a c xs n hn _ hm ((hr.below (Nat.le_refl _) hB0).mono hB0.size)).mono ?_
  rintro e W1 ⟨rfl, hb1⟩
  rw [v0H.out]
  have hB1 : Below w.heap.size w W1 := hB0.trans (hb1.mono hB0.size)
  have k5 := (((Blk.new w 29 #[.int .i64 iw, .int .i64 ih, .slice a n c]).alloc (.cells #[.int .i64 kw, .int .i64 kh, .slice ak nk ck] 71)).alloc (.cells #[.int .i64 0, .int .i64 0, .slice none 0 0] 29)).below hb1 (by simp <;> omega)
  have k6 := ((Blk.new (w.alloc (.cells #[.int .i64 iw, .int .i64 ih, .slice a n c] 29)) 71 #[.int .i64 kw, .int .i64 kh, .slice ak nk ck]).alloc (.cells #[.int .i64 0, .int .i64 0, .slice none 0 0] 29)).below hb1 (by simp <;> omega)
  have k := (Blk.new ((w.alloc (.cells #[.int .i64 iw, .int .i64 ih, .slice a n c] 29)).alloc (.cells #[.int .i64 kw, .int .i64 kh, .slice ak nk ck] 71)) 29 #[.int .i64 0, .int .i64 0, .slice none 0 0]).below hb1 (by simp <;> omega)
  simp only [World.size_alloc] at k6 k
  clear hb1 hB0
  have hlt := k.lt
  have m0 := k5.cell (i := 0) rfl
  have m1 := k5.cell (i := 1) rfl
  have m2 := k5.cell (i := 2) rfl
  have s0 := k6.cell (i := 0) rfl
  have s1 := k6.cell (i := 1) rfl
  have s2 := k6.cell (i := 2) rfl
  have c0 := k.cell (i := 0) rfl
  have c1 := k.cell (i := 1) rfl
  have c2 := k.cell (i := 2) rfl
  have fc0 := k.frozen 0
  have fc1 := k.frozen 1
  have fc2 := k.frozen 2
  cases v0 with
  | false =>
    go_wp2_with fail
    have kf := put3_blk k (.int .i64 0) (.int .i64 0) (.slice none 0 0)
    have g0 := kf.cell (i := 0) rfl
    have g1 := kf.cell (i := 1) rfl
    have g2 := kf.cell (i := 2) rfl
    exact bodyPost_ret (v := .tuple #[.agg #[.int .i64 0, .int .i64 0, .slice none 0 0], .int .i64 20]) (by simp [results, Try.results126, go_sem, g0, g1, g2]) rfl ⟨⟨_, by rw [hsp.out]; rfl, by rw [hsp.out]; exact OwnIm_nil _ _⟩, hB1.trans (put3_below (by omega) _ _ _)⟩
  | true =>
    go_wp2_with fail
    refine (ValidKernel_any kw kh ak ck nk taps hkn _ (Lib.hid rfl) W1 hmk ((hrk.below (Nat.le_refl _) hB1).mono hB1.size)).mono ?_
    rintro e W2 ⟨rfl, hb⟩
    rw [v1H.out]
    have hB2 : Below w.heap.size w W2 := hB1.trans (hb.mono hB1.size)
    clear m0 m1 m2
    replace k5 := k5.below hb k5.lt
    have m0 := k5.cell (i := 0) rfl
    have m1 := k5.cell (i := 1) rfl
    have m2 := k5.cell (i := 2) rfl
    clear s0 s1 s2
    replace k6 := k6.below hb k6.lt
    have s0 := k6.cell (i := 0) rfl
    have s1 := k6.cell (i := 1) rfl
    have s2 := k6.cell (i := 2) rfl
    clear c0 c1 c2 fc0 fc1 fc2
    replace k := k.below hb k.lt
    have c0 := k.cell (i := 0) rfl
    have c1 := k.cell (i := 1) rfl
    have c2 := k.cell (i := 2) rfl
    have fc0 := k.frozen 0
    have fc1 := k.frozen 1
    have fc2 := k.frozen 2
    clear hb
    replace hlt := k.lt
    cases v1 with
    | false =>
      go_wp2_with fail
      have kf := put3_blk k (.int .i64 0) (.int .i64 0) (.slice none 0 0)
      have g0 := kf.cell (i := 0) rfl
      have g1 := kf.cell (i := 1) rfl
      have g2 := kf.cell (i := 2) rfl
      exact bodyPost_ret (v := .tuple #[.agg #[.int .i64 0, .int .i64 0, .slice none 0 0], .int .i64 22]) (by simp [results, Try.results126, go_sem, g0, g1, g2]) rfl ⟨⟨_, by rw [hsp.out]; rfl, by rw [hsp.out]; exact OwnIm_nil _ _⟩, hB2.trans (put3_below (by omega) _ _ _)⟩
    | true =>
      cases v2 with
      | false =>
        have hq := v2H.out
        simp only [decide_eq_false_iff_not] at hq
        by_cases e1 : bd < 1
        · clear hq
          go_wp2_with fail
          have kf := put3_blk k (.int .i64 0) (.int .i64 0) (.slice none 0 0)
          have g0 := kf.cell (i := 0) rfl
          have g1 := kf.cell (i := 1) rfl
          have g2 := kf.cell (i := 2) rfl
          exact bodyPost_ret (v := .tuple #[.agg #[.int .i64 0, .int .i64 0, .slice none 0 0], .int .i64 2]) (by simp [results, Try.results126, go_sem, g0, g1, g2]) rfl ⟨⟨_, by rw [hsp.out]; rfl, by rw [hsp.out]; exact OwnIm_nil _ _⟩, hB2.trans (put3_below (by omega) _ _ _)⟩
        · have e2 : 3 < bd := by omega
          clear hq
          go_wp2_with fail
          have kf := put3_blk k (.int .i64 0) (.int .i64 0) (.slice none 0 0)
          have g0 := kf.cell (i := 0) rfl
          have g1 := kf.cell (i := 1) rfl
          have g2 := kf.cell (i := 2) rfl
          exact bodyPost_ret (v := .tuple #[.agg #[.int .i64 0, .int .i64 0, .slice none 0 0], .int .i64 2]) (by simp [results, Try.results126, go_sem, g0, g1, g2]) rfl ⟨⟨_, by rw [hsp.out]; rfl, by rw [hsp.out]; exact OwnIm_nil _ _⟩, hB2.trans (put3_below (by omega) _ _ _)⟩
      | true =>
        have hq := v2H.out
        simp only [decide_eq_true_eq] at hq
        obtain ⟨hh1, hh2⟩ := hq
        have hk0 := v1H.out
        unfold kernOk at hk0
        rw [Bool.and_eq_true, hkn.out] at hk0
        obtain ⟨s1, s2, s3⟩ := sidesB_true hk0.1
        have htall := Lib.hid hk0.2
        clear hk0
        obtain ⟨tw, rfl⟩ : ∃ tw : Nat, kw = (tw : Int) := ⟨kw.toNat, by omega⟩
        obtain ⟨th, rfl⟩ : ∃ th : Nat, kh = (th : Int) := ⟨kh.toNat, by omega⟩
        have htn := Lib.hid (show tw * th = nk by
          have e : ((tw * th : Nat) : Int) = (tw : Int) * (th : Int) := by simp
          omega)
        have t1 : tw = 1 ∨ tw = 3 ∨ tw = 5 := by omega
        have t2 : th = 1 ∨ th = 3 ∨ th = 5 := by omega
        clear s1 s2 s3
        obtain ⟨⟨i1, i2⟩, ⟨i3, i4⟩, hlen, hall⟩ := vld_true v0H.out
        rw [hn.out] at hlen
        have hlenH := Lib.hid hlen
        have hallH := Lib.hid hall
        clear hlen hall
        obtain ⟨pw, rfl⟩ : ∃ pw : Nat, iw = (pw : Int) := ⟨iw.toNat, by omega⟩
        obtain ⟨ph, rfl⟩ : ∃ ph : Nat, ih = (ph : Int) := ⟨ih.toNat, by omega⟩
        have hN : pw * ph = n ∧ n ≤ 256 := by
          have h1 := hlenH.out
          obtain ⟨m1, m2⟩ := mul_small (a := (pw : Int)) (b := (ph : Int)) (m := 16) (n := 16) (by omega) (by omega) (by omega) (by omega)
          have h2 : ((pw * ph : Nat) : Int) = (pw : Int) * ph := by simp
          omega
        obtain ⟨hN1, hN2⟩ := hN
        have hN1H := Lib.hid hN1
        clear hN1
        go_wp2_with fail
        refine (Blank_any pw ph (by omega) (by omega) W2).mono ?_
        rintro e WB ⟨g, cap, rfl, hrow, hg, hb2⟩
        rw [hN1H.out] at hrow ⊢
        replace hrow := row_base hrow hB2.size
        replace hg := Nat.le_trans hB2.size hg
        clear m0 m1 m2
        replace k5 := k5.below hb2 k5.lt
        have m0 := k5.cell (i := 0) rfl
        have m1 := k5.cell (i := 1) rfl
        have m2 := k5.cell (i := 2) rfl
        clear s0 s1 s2
        replace k6 := k6.below hb2 k6.lt
        have s0 := k6.cell (i := 0) rfl
        have s1 := k6.cell (i := 1) rfl
        have s2 := k6.cell (i := 2) rfl
        clear c0 c1 c2 fc0 fc1 fc2
        replace k := k.below hb2 k.lt
        have c0 := k.cell (i := 0) rfl
        have c1 := k.cell (i := 1) rfl
        have c2 := k.cell (i := 2) rfl
        have fc0 := k.frozen 0
        have fc1 := k.frozen 1
        have fc2 := k.frozen 2
        go_wp2_with fail
        have hBB := hB2.trans (hb2.mono hB2.size)
        have ko := Blk.new WB 29 #[.int .i64 pw, .int .i64 ph, .slice (some ⟨g, 0, none⟩) n cap]
        have row3 := hrow.alloc (.cells #[.int .i64 pw, .int .i64 ph, .slice (some ⟨g, 0, none⟩) n cap] 29)
        obtain ⟨W3, hW3⟩ : ∃ W3, WB.alloc (.cells #[.int .i64 pw, .int .i64 ph, .slice (some ⟨g, 0, none⟩) n cap] 29) = W3 := ⟨_, rfl⟩
        have hb3 : Below WB.heap.size WB W3 := alloc_below hW3
        rw [hW3] at ko row3 ⊢
        clear hW3
        have hB3 := hBB.trans (hb3.mono hBB.size)
        clear m0 m1 m2
        replace k5 := k5.below hb3 k5.lt
        have m0 := k5.cell (i := 0) rfl
        have m1 := k5.cell (i := 1) rfl
        have m2 := k5.cell (i := 2) rfl
        clear s0 s1 s2
        replace k6 := k6.below hb3 k6.lt
        have s0 := k6.cell (i := 0) rfl
        have s1 := k6.cell (i := 1) rfl
        have s2 := k6.cell (i := 2) rfl
        clear c0 c1 c2 fc0 fc1 fc2
        replace k := k.below hb3 k.lt
        have c0 := k.cell (i := 0) rfl
        have c1 := k.cell (i := 1) rfl
        have c2 := k.cell (i := 2) rfl
        have fc0 := k.frozen 0
        have fc1 := k.frozen 1
        have fc2 := k.frozen 2
        obtain ⟨M, hM⟩ : ∃ M, WB.heap.size = M := ⟨_, rfl⟩
        rw [hM] at ko ⊢
        clear hb2 hb3 hrow hM hBB hB1 hB2
        clear m0 m1 m2 s0 s1 s2 c0 c1 c2 fc0 fc1 fc2
        clear WB
        clear hlt
        have row3' := row3
        rw [← upto_zero (fun i => (convC bd pw ph xs tw th taps) (cX pw i) (cY pw i)) n] at row3'
        clear row3
        have hgl := row3'.lt g rfl
        have ngoH := Lib.hid (ko.not_row (by decide) row3')
        have ngk5H := Lib.hid (k5.not_row (by decide) row3')
        have ngk6H := Lib.hid (k6.not_row (by decide) row3')
        have ngkH := Lib.hid (k.not_row (by decide) row3')
        go_loopw [9] (fun i wr => ∃ k : Nat, k ≤ n ∧ i = .int .i64 k ∧ W3.grownBy wr (some g) ∧ wr.ownsRow w.heap.size 3 1 (.slice (some ⟨g, 0, none⟩) n cap) n ((upto (fun i => (convC bd pw ph xs tw th taps) (cX pw i) (cY pw i)) n k).map (Value.int .i64))) (fun i _ => n - (intOf i).toNat)
        case atStart => exact ⟨0, Nat.zero_le _, rfl, ⟨rfl, rfl, rfl, Nat.le_refl _, fun _ _ _ => rfl⟩, row3'⟩
        case round =>
          obtain ⟨k', hk, rfl, hG, rowk⟩ := hrel
          have k5r := k5.kept hG ngk5H.out
          have k6r := k6.kept hG ngk6H.out
          have kor := ko.kept hG ngoH.out
          have hS : Below wr.heap.size wr wr.drew := (Below.refl _ _).drew
          have hBr : Below w.heap.size w wr := hB3.grown hG hB3.size (fun j e => by cases e; exact hg)
          have m2 := k5r.cell (i := 2) rfl
          have hpw0 : pw ≠ 0 := by omega
          by_cases hlt : k' < n
          · obtain ⟨x1, x2⟩ := cX_bd (pw := pw) (i := k') (by omega)
            obtain ⟨y1, y2⟩ := cY_bd (pw := pw) (ph := ph) (i := k') (by rw [hN1H.out]; exact hlt)
            rw [cX_eq] at x1 x2
            rw [cY_eq] at y1 y2
            go_wp2_with fail
            refine plain_region (fun W' => Below wr.heap.size wr W') 17 18 (by kernel_rfl) rfl ?_
            simp only [Array.replicate_succ, Array.replicate_zero, List.push_toArray, List.nil_append, List.cons_append]
            refine take_op 0 (v := ?rv0) rfl (by kernel_rfl) (fun _ _ _ h => h) (by rfl) hS (fun w' hS' => ?ry0) ?rz0
            case ry0 =>
              go_simp
              rfl
            simp only [List.setIfInBounds_toArray, List.set_cons_zero, List.set_cons_succ]
            refine take_op 1 (v := ?rv1) rfl (by kernel_rfl) (fun _ _ _ h => h) (by rfl) hS (fun w' hS' => ?ry1) ?rz1
            case ry1 =>
              have a2 := (kor.below hS' kor.lt).cell (i := 2) rfl
              have b0 := (k5r.below hS' k5r.lt).cell (i := 0) rfl
              have b1 := (k5r.below hS' k5r.lt).cell (i := 1) rfl
              have b2 := (k5r.below hS' k5r.lt).cell (i := 2) rfl
              have d0 := (k6r.below hS' k6r.lt).cell (i := 0) rfl
              have d1 := (k6r.below hS' k6r.lt).cell (i := 1) rfl
              have d2 := (k6r.below hS' k6r.lt).cell (i := 2) rfl
              go_simp
              rfl
            simp only [List.setIfInBounds_toArray, List.set_cons_zero, List.set_cons_succ]
            refine take_op 2 (v := ?rv2) rfl (by kernel_rfl) (fun _ _ _ h => h) (by rfl) hS (fun w' hS' => ?ry2) ?rz2
            case ry2 =>
              go_simp
              rfl
            simp only [List.setIfInBounds_toArray, List.set_cons_zero, List.set_cons_succ]
            refine take_op 3 (v := ?rv3) rfl (by kernel_rfl) (fun _ _ _ h => h) (by rfl) hS (fun w' hS' => ?ry3) ?rz3
            case ry3 =>
              have a2 := (kor.below hS' kor.lt).cell (i := 2) rfl
              have b0 := (k5r.below hS' k5r.lt).cell (i := 0) rfl
              have b1 := (k5r.below hS' k5r.lt).cell (i := 1) rfl
              have b2 := (k5r.below hS' k5r.lt).cell (i := 2) rfl
              have d0 := (k6r.below hS' k6r.lt).cell (i := 0) rfl
              have d1 := (k6r.below hS' k6r.lt).cell (i := 1) rfl
              have d2 := (k6r.below hS' k6r.lt).cell (i := 2) rfl
              go_simp
              rfl
            simp only [List.setIfInBounds_toArray, List.set_cons_zero, List.set_cons_succ]
            refine take_op 4 (v := ?rv4) rfl (by kernel_rfl) (fun _ _ _ h => h) (by rfl) hS (fun w' hS' => ?ry4) ?rz4
            case ry4 =>
              have a2 := (kor.below hS' kor.lt).cell (i := 2) rfl
              have b0 := (k5r.below hS' k5r.lt).cell (i := 0) rfl
              have b1 := (k5r.below hS' k5r.lt).cell (i := 1) rfl
              have b2 := (k5r.below hS' k5r.lt).cell (i := 2) rfl
              have d0 := (k6r.below hS' k6r.lt).cell (i := 0) rfl
              have d1 := (k6r.below hS' k6r.lt).cell (i := 1) rfl
              have d2 := (k6r.below hS' k6r.lt).cell (i := 2) rfl
              go_simp
              rfl
            simp only [List.setIfInBounds_toArray, List.set_cons_zero, List.set_cons_succ]
            refine take_op 5 (v := ?rv5) rfl (by kernel_rfl) (fun _ _ _ h => h) (by rfl) hS (fun w' hS' => ?ry5) ?rz5
            case ry5 =>
              go_simp
              rfl
            simp only [List.setIfInBounds_toArray, List.set_cons_zero, List.set_cons_succ]
            refine take_op 6 (v := ?rv6) rfl (by kernel_rfl) (fun _ _ _ h => h) (by rfl) hS (fun w' hS' => ?ry6) ?rz6
            case ry6 =>
              go_simp
              rfl
            simp only [List.setIfInBounds_toArray, List.set_cons_zero, List.set_cons_succ]
            refine take_op 7 (v := ?rv7) rfl (by kernel_rfl) (fun _ _ _ h => h) (by rfl) hS (fun w' hS' => ?ry7) ?rz7
            case ry7 =>
              go_simp
              rfl
            simp only [List.setIfInBounds_toArray, List.set_cons_zero, List.set_cons_succ]
            refine take_op 8 (v := ?rv8) rfl (by kernel_rfl) (fun _ _ _ h => h) (by rfl) hS (fun w' hS' => ?ry8) ?rz8
            case ry8 =>
              have a2 := (kor.below hS' kor.lt).cell (i := 2) rfl
              have b0 := (k5r.below hS' k5r.lt).cell (i := 0) rfl
              have b1 := (k5r.below hS' k5r.lt).cell (i := 1) rfl
              have b2 := (k5r.below hS' k5r.lt).cell (i := 2) rfl
              have d0 := (k6r.below hS' k6r.lt).cell (i := 0) rfl
              have d1 := (k6r.below hS' k6r.lt).cell (i := 1) rfl
              have d2 := (k6r.below hS' k6r.lt).cell (i := 2) rfl
              go_simp
              rfl
            simp only [List.setIfInBounds_toArray, List.set_cons_zero, List.set_cons_succ]
            refine take_op 9 (v := ?rv9) rfl (by kernel_rfl) (fun _ _ _ h => h) (by rfl) hS (fun w' hS' => ?ry9) ?rz9
            case ry9 =>
              go_simp
              try go_ints
              rfl
            simp only [List.setIfInBounds_toArray, List.set_cons_zero, List.set_cons_succ]
            refine take_op 10 (v := ?rv10) rfl (by kernel_rfl) (fun _ _ _ h => h) (by rfl) hS (fun w' hS' => ?ry10) ?rz10
            case ry10 =>
              go_simp
              rfl
            simp only [List.setIfInBounds_toArray, List.set_cons_zero, List.set_cons_succ]
            refine take_op 11 (v := ?rv11) rfl (by kernel_rfl) (fun _ _ _ h => h) (by rfl) hS (fun w' hS' => ?ry11) ?rz11
            case ry11 =>
              go_simp
              rfl
            simp only [List.setIfInBounds_toArray, List.set_cons_zero, List.set_cons_succ]
            refine take_op 12 (v := ?rv12) rfl (by kernel_rfl) (fun _ _ _ h => h) (by rfl) hS (fun w' hS' => ?ry12) ?rz12
            case ry12 =>
              have a2 := (kor.below hS' kor.lt).cell (i := 2) rfl
              have b0 := (k5r.below hS' k5r.lt).cell (i := 0) rfl
              have b1 := (k5r.below hS' k5r.lt).cell (i := 1) rfl
              have b2 := (k5r.below hS' k5r.lt).cell (i := 2) rfl
              have d0 := (k6r.below hS' k6r.lt).cell (i := 0) rfl
              have d1 := (k6r.below hS' k6r.lt).cell (i := 1) rfl
              have d2 := (k6r.below hS' k6r.lt).cell (i := 2) rfl
              go_simp
              rfl
            simp only [List.setIfInBounds_toArray, List.set_cons_zero, List.set_cons_succ]
            refine take_op 13 (v := ?rv13) rfl (by kernel_rfl) (fun _ _ _ h => h) (by rfl) hS (fun w' hS' => ?ry13) ?rz13
            case ry13 =>
              go_simp
              try go_ints
              rfl
            simp only [List.setIfInBounds_toArray, List.set_cons_zero, List.set_cons_succ]
            refine step_op 14 (by kernel_rfl) rfl (fun K hK => ?_)
            rw [if_pos (by rfl)]
            go_simp
            refine (Convolved_any bd hh1 hh2 pw ph a c n xs hn hallH tw th ak ck nk taps hkn htall t1 t2 htn _ _ _ (by omega) (by omega) (by omega) (by omega) hlenH x1 x2 y1 y2 (convG bd pw ph xs tw th taps (cX pw k') (cY pw k')) (Lib.hid rfl) ((hr.below (Nat.le_refl _) (hBr.trans (hS.mono hBr.size))).mono (hBr.trans (hS.mono hBr.size)).size) ((hrk.below (Nat.le_refl _) (hBr.trans (hS.mono hBr.size))).mono (hBr.trans (hS.mono hBr.size)).size)).mono ?_
            rintro e W4 ⟨rfl, hb4⟩
            have hS4 : Below wr.heap.size wr W4 := hS.trans (hb4.mono hS.size)
            refine hK.out _ _ (fun h => hS4) ?_
            clear hK K
            try simp only [Act.put, List.setIfInBounds_toArray, List.set_cons_zero, List.set_cons_succ]
            refine step_op 15 (by kernel_rfl) rfl (fun K hK => ?_)
            rw [if_pos (by rfl)]
            go_simp
            refine (Pix_any _ _).mono ?_
            rintro e W5 ⟨rfl, rfl⟩
            rw [show clamp (convG bd pw ph xs tw th taps (cX pw k') (cY pw k')) (-2147483648) 2147483648 = convC bd pw ph xs tw th taps (cX pw k') (cY pw k') from rfl]
            refine hK.out _ _ (fun h => hS4) ?_
            clear hK K
            try simp only [Act.put, List.setIfInBounds_toArray, List.set_cons_zero, List.set_cons_succ]
            have row4 := row_below rowk hS4
            have hcell := row4.cellAt k' (by omega)
            have hfr := row4.frozenAt k'
            have hcell2 : ((upto (fun i => (convC bd pw ph xs tw th taps) (cX pw i) (cY pw i)) n k').map (Value.int .i64))[k']? = some (.int .i64 0) := by simp [upto, hlt]
            rw [hcell2] at hcell
            clear hcell2
            refine take_op 16 (v := ?rv16) rfl (by kernel_rfl) (fun _ _ _ h => h) (by rfl) hS4 (fun w' hS' => ?ry16) ?rz16
            case ry16 =>
              go_simp
              try go_ints
              first
              | rfl
              | rw [if_pos ⟨by omega, by omega⟩]
            simp only [List.setIfInBounds_toArray, List.set_cons_zero, List.set_cons_succ]
            refine step_op 17 (by kernel_rfl) rfl (fun K hK => ?_)
            rw [if_pos (by rfl)]
            go_simp
            refine hK.out _ _ (fun h => absurd h (by omega)) ?_
            clear hK K
            try simp only [Act.put, List.setIfInBounds_toArray, List.set_cons_zero, List.set_cons_succ]
            refine done_ops (by kernel_rfl) ?_
            go_wp2_with fail
            go_roundw
            case rel =>
              have hst := (row4.stored k' (.int .i64 ((convC bd pw ph xs tw th taps) (cX pw k') (cY pw k')))).1
              rw [map_set_int, upto_set (fun i => (convC bd pw ph xs tw th taps) (cX pw i) (cY pw i)) n k' hlt] at hst
              exact ⟨k' + 1, by omega, by go_num, grown_trans hG (grown_trans (grown_of_below hS4 _) (row4.stored k' (.int .i64 ((convC bd pw ph xs tw th taps) (cX pw k') (cY pw k')))).2), hst⟩
            case measure => simp [intOf]; omega
          · have hkn : n = k' := by omega
            subst hkn
            have kr := k.kept hG ngkH.out
            have o0 := kor.cell (i := 0) rfl
            have o1 := kor.cell (i := 1) rfl
            have o2 := kor.cell (i := 2) rfl
            have c0 := kr.cell (i := 0) rfl
            have c1 := kr.cell (i := 1) rfl
            have c2 := kr.cell (i := 2) rfl
            have fc0 := kr.frozen 0
            have fc1 := kr.frozen 1
            have fc2 := kr.frozen 2
            go_wp2_with fail
            have kf := put3_blk kr (.int .i64 pw) (.int .i64 ph) (.slice (some ⟨g, 0, none⟩) n cap)
            have g0 := kf.cell (i := 0) rfl
            have g1 := kf.cell (i := 1) rfl
            have g2 := kf.cell (i := 2) rfl
            have hpx : (List.range n).map (fun i => (convC bd pw ph xs tw th taps) (cX pw i) (cY pw i)) = img pw ph (convC bd pw ph xs tw th taps) := by
              rw [← hN1H.out]
              exact img_plain fun i hi => clamp_bd _
            rw [upto_all, hpx] at rowk
            have hlen2 : (img pw ph (convC bd pw ph xs tw th taps)).length = n := by rw [img_length]; exact hN1H.out
            exact bodyPost_ret (v := .tuple #[.agg #[.int .i64 pw, .int .i64 ph, .slice (some ⟨g, 0, none⟩) n cap], .int .i64 0]) (by simp [results, Try.results126, go_sem, g0, g1, g2]) rfl ⟨⟨_, by rw [hsp.out]; rfl, by rw [hsp.out]; exact ⟨_, rfl, row_len hlen2.symm (put3_row rowk (kr.not_row (by decide) rowk) _ _ _)⟩⟩, hBr.trans (put3_below (by omega) _ _ _)⟩

end Go.Proofs.Ytekiemlniegddaa

/- Contracts and laws (PMn, PcM). -/
import Derived.Test.YtekiemlniegddaaGreatQM4
import Derived.Test.YtekiemlniegddaaGreatQM5
set_option linter.unusedVariables false
set_option linter.unusedSimpArgs false
namespace Go.Proofs.YtekiemlniegddaaGreat
open Go Go.RowKit Go.Shelf
theorem info_pic : (Tryz.prog.info? 32).map (fun i => (i.zero, i.size, i.bytes)) = some (some (.agg #[.int .i64 0, .int .i64 0, .slice none 0 0]), 3, 40) := by kernel_rfl
theorem wpList_append_anyS {P : Program} {w : World} {ops : Array Oper} {rest : List Oper} {o : Oper} {act : Act} {Q : Exit → Act → World → Prop} (hgd : o.guard = none) (s x : Operand) (t : TypeId)
  (ho : o.op = .call { callee := .builtin .append, args := #[s, x], argTypes := #[t, t] })
  (base : Nat) (e : TypeId) (i : TypeInfo) (z : Value) (size bytes : Nat) (ht : P.underlying t = some (.slice e)) (hi : P.info? e = some i) (hz : i.zero = some z)
  (hsize : i.size = size) (hby : i.bytes = bytes) (hzs : z.cells.size = size) (hsz : 0 < size)
  (v : Value) (n : Nat) (xs : List Value) (hs : act.eval s = v) (hown : w.ownsRow base e size v n xs)
  (a : Option Addr) (m c : Nat) (news : List Value) (hx : act.eval x = .slice a m c) (hl : news.length = m * size) (hnews : NewsAt w a m news) (h1 : ∀ u ∈ news, u.oneCell' = true)
  (h63 : n + m ≤ maxLen) (hbytes : (n + m) * bytes ≤ 140737488355328) (hbase : base ≤ w.heap.size)
  (h : ∀ v' w', w'.ownsRow base e size v' (n + m) (xs ++ news) → w.grownBy w' v.ownBlock → (v'.ownBlock = v.ownBlock ∨ v'.ownBlock = some w.heap.size) → wpList P ops Q rest (act.put o.dst v') w') :
  wpList P ops Q (o :: rest) act w := by
 rcases hnews with ⟨rfl, rfl⟩ | ⟨ad, rfl, hc⟩
 ·obtain rfl : news = [] := List.eq_nil_of_length_eq_zero (by omega)
  refine wpList_plain hgd fun K hK => ?_
  have hrun := run_append_none0 (P := P) (w := w) base t o.type e i size ht hi v n xs hown c
  unfold Oper.wp
  simp [execOp, ho, resolve, invoke, builtin, hs, hx, hrun, Result.andThen]
  exact hK _ _ (h v w (by simpa using hown) (grownBy_self _ _) (.inl rfl))
 ·exact wpList_append_own_at w hgd s x t ho base e i z size bytes ht hi hz hsize hby hzs hsz v n xs hs hown ad m c news hx (by omega) hc h1 h63 hbytes hbase (fun v' w' g1 g2 g3 g4 => h v' w' g1 g2 g4)
/-- The block's cells, as what an append takes. -/
theorem NewsAt.blk {W : World} {b : Nat} {t : TypeId} {cs : Array Value} (k : Blk W b t cs) (m : Nat) : NewsAt W (some ⟨b, 0, none⟩) m cs.toList := .inr ⟨_, rfl, fun j u hu => by
 rw [addr_add, Nat.zero_add]
 exact k.cell (by rw [← Array.getElem?_toList]; exact hu)⟩
theorem pics_news {W : World} {l : List PicA} {b o : Nat} (h : ∀ j u, (flatC l)[j]? = some u → W.cell? ⟨b, o + j, none⟩ = some u) (m : Nat) : NewsAt W (some ⟨b, o, none⟩) m (flatC l) := .inr ⟨_, rfl, fun j u hu => by
 rw [addr_add]; exact h j u hu⟩
theorem img_le {pw ph : Int} (hw : pw ≤ 16) (hh : ph ≤ 16) (g : Int → Int → Int) : (img pw.toNat ph.toNat g).length ≤ 256 := by
 rw [img_length]
 exact Nat.mul_le_mul (show pw.toNat ≤ 16 by omega) (show ph.toNat ≤ 16 by omega)
theorem appS_len (s : StepN) (ms : List PicN) : (appS s ms).px.length ≤ 256 := by
 have nil : ∀ e, (noIm e).px.length ≤ 256 := fun e => by simp [noIm]
 unfold appS
 split
 ·unfold pointS
  split
  ·rename_i hv
   obtain ⟨h1, h2, _⟩ := vld_true hv
   split
   ·exact img_le h1.2 h2.2 _
   ·exact nil _
  ·exact nil _
 split
 ·unfold zipS
  split
  ·rename_i hv
   obtain ⟨h1, h2, _⟩ := vld_true hv
   repeat' split
   ·exact img_le h1.2 h2.2 _
   all_goals exact nil _
  ·exact nil _
 split
 ·unfold convS
  split
  ·rename_i hv
   obtain ⟨h1, h2, _⟩ := vld_true hv
   repeat' split
   ·exact img_le h1.2 h2.2 _
   all_goals exact nil _
  ·exact nil _
 split
 ·unfold morS
  split
  ·rename_i hv
   obtain ⟨h1, h2, _⟩ := vld_true hv
   repeat' split
   ·exact img_le h1.2 h2.2 _
   all_goals exact nil _
  ·exact nil _
 split
 ·unfold morS
  split
  ·rename_i hv
   obtain ⟨h1, h2, _⟩ := vld_true hv
   repeat' split
   ·exact img_le h1.2 h2.2 _
   all_goals exact nil _
  ·exact nil _
 ·exact nil _
theorem picAt_snoc (ms : List PicN) (p : PicN) (i : Nat) : picAt (ms ++ [p]) i = if i < ms.length then picAt ms i else if i = ms.length then p else ⟨0, 0, []⟩ := by
 unfold picAt
 by_cases h : i < ms.length
 ·rw [if_pos h, List.getElem?_append_left h]
 ·rw [if_neg h, List.getElem?_append_right (by omega)]
  by_cases e : i = ms.length
  ·subst e; simp
  ·rw [if_neg e, List.getElem?_eq_none (by simp; omega)]; rfl
theorem afterN_px {ms : List PicN} (h : ∀ i, (picAt ms i).px.length ≤ 9223372036854775807) (ss : List StepN) : ∀ k i, (picAt (afterN ss ms k) i).px.length ≤ 9223372036854775807
 | 0, i => h i
 | k + 1, i => by
  rw [afterN, picAt_snoc]
  have := appS_len (stAt ss k) (afterN ss ms k)
  split
  ·exact afterN_px h ss k i
  split
  ·exact Nat.le_trans this (by decide)
  ·simp
theorem givenB_len {ms : List PicN} {n w h : Int} (hg : givenB ms n w h = true) : (ms.length : Int) = n := by
 unfold givenB at hg
 rw [Bool.and_eq_true, decide_eq_true_eq] at hg
 exact hg.1
theorem pipeB_true {P : PipeN} (h : pipeB P = true) : (1 ≤ P.w ∧ P.w ≤ 16) ∧ (1 ≤ P.h ∧ P.h ≤ 16) ∧ (1 ≤ P.inp ∧ P.inp ≤ 3) ∧ (1 ≤ P.ss.length ∧ P.ss.length ≤ 12) ∧ stepsB P.inp P.ss P.ss.length = true := by
 unfold pipeB sizeB at h
 simp only [Bool.and_eq_true, inR_true, decide_eq_true_eq] at h
 exact ⟨h.1.1.1, h.1.1.2, h.1.2.1, h.1.2.2, h.2⟩
theorem refB_true {I : Int} {i : Nat} {s : StepN} (h : refB I i s = true) : (0 ≤ s.a ∧ s.a ≤ I + i - 1) ∧ (s.op = 2 → 0 ≤ s.b ∧ s.b ≤ I + i - 1) := by
 unfold refB at h
 simp only [Bool.and_eq_true, Bool.or_eq_true, inR_true, Bool.not_eq_true', decide_eq_false_iff_not] at h
 refine ⟨h.1, fun h2 => ?_⟩
 rcases h.2 with h3 | h3
 ·exact absurd h2 h3
 ·exact h3
theorem row_someP {W : World} {base : Nat} {e : TypeId} {size : Nat} {a : Option Addr} {n c : Nat} {xs : List Value} (h : W.ownsRow base e size (.slice a n c) n xs) (hn : 0 < n) : ∃ g, a = some ⟨g, 0, none⟩ := by
 rcases h.2 with ⟨h1, h2⟩ | ⟨g, cap, cur, h1, _⟩
 ·omega
 ·simp only [Value.slice.injEq, true_and] at h1
  exact ⟨g, h1.1⟩
/-- Own images: a list in memory, its last one (if any has come) a row of its own. -/
structure OwnA (B : Nat) (W : World) (v : Value) (l : List PicA) : Prop where
 row : W.ownsRow B 32 3 v l.length (flatC l)
 rd : ∀ x ∈ l, RdX v.ownBlock W x.a x.c x.p.px
theorem OwnA.ps {B : Nat} {W : World} {v : Value} {l : List PicA} (h : OwnA B W v l) : OwnPs B W v (l.map PicA.p) := ⟨l, rfl, h.row, h.rd⟩
theorem OwnA.push {B : Nat} {W W' : World} {v v' : Value} {l : List PicA} {x : PicA} (h3 : ∀ x ∈ l, RdX v.ownBlock W x.a x.c x.p.px)
  (hx : Rd W.heap.size W x.a x.p.px) (hxc : x.a = none → x.c = 0) (hx2 : x.p.px = [] ∨ ∀ ad, x.a = some ad → v.ownBlock ≠ some ad.block)
  (hrow : W'.ownsRow B 32 3 v' (l.length + 1) (flatC l ++ picCells x)) (hg : W.grownBy W' v.ownBlock) (hat : v'.ownBlock = v.ownBlock ∨ v'.ownBlock = some W.heap.size) :
  OwnA B W' v' (l ++ [x]) := by
 have key : ∀ a c xs, RdX v.ownBlock W a c xs → RdX v'.ownBlock W' a c xs := fun a c xs h => by
  refine ⟨Rd.rowed h.1 h.2.2 hg, h.2.1, ?_⟩
  rcases hat with e | e
  ·rw [e]; exact h.2.2
  ·rw [e]
   rcases h.1 with hn | ⟨b, o, h1, h2, _⟩
   ·exact .inl hn
   ·right; intro ad had he; rw [h1] at had; cases had; simp at he; omega
 refine ⟨?_, fun y hy => ?_⟩
 ·rw [List.length_append, List.length_singleton, flatC_append]
  show W'.ownsRow B _ 3 v' (l.length + 1) (flatC l ++ (picCells x ++ []))
  rw [List.append_nil]; exact hrow
 ·rcases List.mem_append.1 hy with hy | hy
  ·exact key _ _ _ (h3 y hy)
  ·rw [List.mem_singleton.1 hy]; exact key _ _ _ ⟨hx, hxc, hx2⟩
set_option maxRecDepth 100000 in
set_option maxHeartbeats 4000000 in
theorem CloneI_any (ms : List PicN) (a : Option Addr) (c n : Nat) (hn : ms.length = n) (hm : n ≤ 3) (w : World) (hr : RdPs w.heap.size w a ms) (hnil : a = none → n = 0) :
  Calls Tryz.prog 78 #[.slice a n c] w fun e w' => ∃ v, e = .returned v ∧ (∃ l, l.map PicA.p = ms ∧ OwnA w.heap.size w' v l) ∧ Below w.heap.size w w' := by
 obtain ⟨i0, hi, hz0, hz1, hz2⟩ := info_parts info_pic
 have qT : ∀ (w : World) (a : Option Addr) (n c n' c' : Nat), (binOp .eql 58 (.slice a n c) (.slice none n' c')).run Tryz.prog w = .ok (.bool a.isNone) w := fun w a n c n' c' => Lib.run_eql_slice_nil w _ _ a n c n' c' Tryz.underlying58
 cases a with
 | none =>
  have h0 : n = 0 := hnil rfl
  subst h0
  have hms : ms = [] := List.eq_nil_of_length_eq_zero hn
  have qT1 := qT w none 0 c 0 0
  clear qT
  simp only [Option.isNone_none] at qT1
  go_enter Tryz.func78, Tryz.ntmps78
  go_wp2_with fail
  go_ret
  subst hms
  exact ⟨.slice none 0 0, rfl, ⟨World.ownsRow_nil _ _ _ _, fun x hx => by cases hx⟩, Below.refl _ _⟩
 | some ad =>
  have qT1 := qT w (some ad) n c 0 0
  clear qT
  simp only [Option.isNone_some] at qT1
  obtain ⟨l, hl1, hl2, hl3⟩ := hr.pics
  have hll : l.length = n := by rw [← hn, ← hl1, List.length_map]
  have own1 := World.ownsRow_made (e := 32) (size := 3) (base := w.heap.size) w #[] 0 (Nat.le_refl _) (by decide) rfl
  have hB1 : Below w.heap.size w (w.alloc (.cells #[] 32)) := jb_al (Below.refl _ w) _
  have hnews : NewsAt (w.alloc (.cells #[] 32)) (some ad) n (flatC l) := by
   rcases hl2 with h | ⟨b, o, h1, h2, h3⟩
   ·right
    refine ⟨ad, rfl, fun j u hu => ?_⟩
    rw [List.eq_nil_of_length_eq_zero (show l.length = 0 by rw [hll, ← hn, h]; rfl)] at hu
    simp [flatC] at hu
   ·rw [h1]
    exact pics_news (fun j u hu => (hB1.cell (p := ⟨b, o + j, none⟩) h2).trans (h3 j u hu)) n
  have hnewsH := Lib.hid hnews
  have own1H := Lib.hid own1
  have hlenH := Lib.hid (show (flatC l).length = n * 3 by rw [flatC_length, hll])
  clear hnews own1 hl2
  go_enter Tryz.func78, Tryz.ntmps78
  go_wp2_with (at_builtin; refine wpList_append_anyS rfl _ _ 58 rfl w.heap.size 32 i0 (.agg #[.int .i64 0, .int .i64 0, .slice none 0 0]) 3 40 Tryz.underlying58 hi hz0 hz1 hz2 rfl (by decide) (.slice (some ⟨w.heap.size, 0, none⟩) 0 0) 0 [] rfl own1H.out (some ad) n c (flatC l) rfl hlenH.out hnewsH.out (flatC_one l) (by unfold maxLen; omega) (by omega) hB1.size ?_; intro v2 W2 own2 hg2 hat2)
  rw [Nat.zero_add, List.nil_append] at own2
  have hB2 := hB1.grown hg2 hB1.size (fun k e => (own1H.out.lt k e).1)
  go_ret
  refine ⟨v2, rfl, ⟨l, hl1, ⟨by rw [hll]; exact own2, fun x hx => ?_⟩⟩, hB2⟩
  obtain ⟨f1, f2⟩ := hl3 x hx
  have hk : ∀ q, q = some w.heap.size ∨ q = some (w.alloc (.cells #[] 32)).heap.size → x.p.px = [] ∨ ∀ ad, x.a = some ad → q ≠ some ad.block := by
   intro q hq
   rcases f1 with hn | ⟨b, o, h1, h2, _⟩
   ·exact .inl hn
   ·right; intro ad had he
    rw [h1] at had; cases had
    rcases hq with hq | hq
    ·rw [hq] at he; simp at he; omega
    ·rw [hq] at he; simp at he; omega
  refine ⟨f1.below (Nat.le_refl _) hB2 |>.mono hB2.size, f2, hk _ ?_⟩
  rcases hat2 with e | e
  ·left; rw [e]; rfl
  ·right; exact e
set_option maxRecDepth 100000 in
set_option maxHeartbeats 8000000 in
theorem Mean_any (P : PipeN) (a : Option Addr) (n c : Nat) (hn : P.ss.length = n) (hP : PipeIn P) (ms : List PicN) (la : Option Addr) (q lc : Nat) (hm : ms.length = q) (hmm : q ≤ 9223372036854775807) (hpl : ∀ i, (picAt ms i).px.length ≤ 9223372036854775807) (w : World) (hr : RdSs w.heap.size w a P.ss) (hrl : RdPs w.heap.size w la ms) :
  Calls Tryz.prog 30 #[pipev P a n c, .slice la q lc] w (RetIm w.heap.size (meanS P ms) w) := by
 obtain ⟨W, H, I, ss⟩ := P
 obtain ⟨hn0, hst⟩ := hP
 have hnH := Lib.hid hn
 have hstH := Lib.hid hst
 have hplH := Lib.hid hpl
 have hmH := Lib.hid hm
 have hB : Below w.heap.size w w := Below.refl _ _
 simp only at hnH hstH hr hn0
 obtain ⟨R, hR⟩ : ∃ R, meanS ⟨W, H, I, ss⟩ ms = R := ⟨_, rfl⟩
 have hRH := Lib.hid hR
 rw [hnH.out] at hn0
 have hr0 := hr
 clear hn hst hpl hm
 rw [hR]
 clear hR
 unfold pipev
 simp only
 obtain ⟨V1, hEV1, hbV1, kp⟩ := newB w 24 #[.int .i64 W, .int .i64 H, .int .i64 I, .slice a n c]
 replace hr := hr.later hbV1
 replace hrl := hrl.later hbV1
 replace hB := tmB hB hbV1
 clear hbV1
 obtain ⟨m0, m1, m2, m3⟩ := cz4 kp
 have hle4 := hB.size
 obtain ⟨V2, hEV2, hbV2, k4⟩ := newB V1 32 #[.int .i64 0, .int .i64 0, .slice none 0 0]
 clear m0 m1 m2 m3
 replace kp := kp.below hbV2 kp.lt
 replace hr := hr.later hbV2
 replace hrl := hrl.later hbV2
 replace hB := tmB hB hbV2
 clear hbV2
 obtain ⟨m0, m1, m2, m3⟩ := cz4 kp
 have z0 := k4.cell (i := 0) rfl
 have fz0 := k4.frozen 0
 have z1 := k4.cell (i := 1) rfl
 have fz1 := k4.frozen 1
 have z2 := k4.cell (i := 2) rfl
 have fz2 := k4.frozen 2
 go_enter Tryz.func30, Tryz.ntmps30
 obtain ⟨v0, hv0⟩ : ∃ v, pipeB ⟨W, H, I, ss⟩ = v := ⟨_, rfl⟩
 have hv0H := Lib.hid hv0
 clear hv0
 go_wp2_with fail
 clear hEV1 hEV2
 refine (PCheck_any ⟨W, H, I, ss⟩ a n c hnH.out ⟨by rw [hnH.out]; exact hn0, hstH.out⟩ v0 hv0H.out V2 hr).mono ?_
 rintro e V3 ⟨rfl, hb⟩
 clear m0 m1 m2 m3 z0 z1 z2 fz0 fz1 fz2
 replace kp := kp.below hb kp.lt
 replace k4 := k4.below hb k4.lt
 replace hr := hr.later hb
 replace hrl := hrl.later hb
 replace hB := tmB hB hb
 clear hb
 obtain ⟨m0, m1, m2, m3⟩ := cz4 kp
 have z0 := k4.cell (i := 0) rfl
 have fz0 := k4.frozen 0
 have z1 := k4.cell (i := 1) rfl
 have fz1 := k4.frozen 1
 have z2 := k4.cell (i := 2) rfl
 have fz2 := k4.frozen 2
 cases v0 with
 | false =>
  have hR2 : R = noIm 30 := by rw [← hRH.out]; unfold meanS; rw [hv0H.out]; rfl
  subst hR2
  have kf := put3_blk k4 (.int .i64 0) (.int .i64 0) (.slice none 0 0)
  have hbf : Below w.heap.size w (put3 V3 (V1.heap.size) (.int .i64 0) (.int .i64 0) (.slice none 0 0)) := hB.trans (put3_below hle4 _ _ _)
  obtain ⟨g0, g1, g2⟩ := cz3 kf
  go_wp2_with fail
  exact bodyPost_ret (v := .tuple #[imv 0 0 none 0 0, .int .i64 30]) (by simp [results, Tryz.results30, go_sem, g0, g1, g2]) rfl ⟨⟨_, rfl, _, rfl, World.ownsRow_nil _ _ _ _⟩, hbf⟩
 | true =>
 obtain ⟨⟨w1, w2⟩, ⟨h1, h2⟩, ⟨i1, i2⟩, ⟨l1, l2⟩, hall⟩ := pipeB_true hv0H.out
 simp only at w1 w2 h1 h2 i1 i2 l1 l2 hall
 rw [hnH.out] at l1 l2 hall
 have hallH := Lib.hid hall
 clear hall
 obtain ⟨v1, hv1⟩ : ∃ v, givenB ms I W H = v := ⟨_, rfl⟩
 have hv1H := Lib.hid hv1
 clear hv1
 go_wp2_with fail
 have hc := fit_any ms la lc q hmH.out hmm (fun i _ => hplH.out i) I W H V3 hrl
 rw [hv1H.out] at hc
 refine hc.mono ?_
 clear hc
 rintro e V4 ⟨rfl, hb⟩
 clear m0 m1 m2 m3 z0 z1 z2 fz0 fz1 fz2
 replace kp := kp.below hb kp.lt
 replace k4 := k4.below hb k4.lt
 replace hr := hr.later hb
 replace hrl := hrl.later hb
 replace hB := tmB hB hb
 clear hb
 obtain ⟨m0, m1, m2, m3⟩ := cz4 kp
 have z0 := k4.cell (i := 0) rfl
 have fz0 := k4.frozen 0
 have z1 := k4.cell (i := 1) rfl
 have fz1 := k4.frozen 1
 have z2 := k4.cell (i := 2) rfl
 have fz2 := k4.frozen 2
 cases v1 with
 | false =>
  have hR2 : R = noIm 2 := by rw [← hRH.out]; unfold meanS; rw [hv0H.out]; simp only [if_true]; rw [hv1H.out]; rfl
  subst hR2
  have kf := put3_blk k4 (.int .i64 0) (.int .i64 0) (.slice none 0 0)
  have hbf : Below w.heap.size w (put3 V4 (V1.heap.size) (.int .i64 0) (.int .i64 0) (.slice none 0 0)) := hB.trans (put3_below hle4 _ _ _)
  obtain ⟨g0, g1, g2⟩ := cz3 kf
  go_wp2_with fail
  exact bodyPost_ret (v := .tuple #[imv 0 0 none 0 0, .int .i64 2]) (by simp [results, Tryz.results30, go_sem, g0, g1, g2]) rfl ⟨⟨_, rfl, _, rfl, World.ownsRow_nil _ _ _ _⟩, hbf⟩
 | true =>
 have hq : (q : Int) = I := by have := givenB_len hv1H.out; rw [hmH.out] at this; exact this
 have hq1 : 1 ≤ q := by omega
 have hq3 : q ≤ 3 := by omega
 have hqH := Lib.hid hq
 clear hq
 have hR2 : R = { w := (meanN ⟨W, H, I, ss⟩ ms).w, h := (meanN ⟨W, H, I, ss⟩ ms).h, px := (meanN ⟨W, H, I, ss⟩ ms).px, err := 0 } := by rw [← hRH.out]; unfold meanS; rw [hv0H.out]; simp only [if_true]; rw [hv1H.out]; rfl
 have hR2H := Lib.hid hR2
 clear hR2
 obtain ⟨i0, gi, gz0, gz1, gz2⟩ := info_parts info_pic
 have hsz0 := hB.size
 have hl4b := k4.lt
 obtain ⟨B0, hB0e⟩ : ∃ B0, V4.heap.size = B0 := ⟨_, rfl⟩
 rw [hB0e] at hsz0 hl4b
 go_wp2_with fail
 refine (CloneI_any ms la lc q hmH.out (by omega) V4 hrl (fun h => by rcases hrl with h1 | ⟨b, o, h1, _⟩; (have := hmH.out; rw [h1] at this; simp at this; omega); (rw [h] at h1; cases h1))).mono ?_
 rintro e V5 ⟨vv, rfl, ⟨l0, hl0, hown⟩, hb⟩
 have hB0l := hb.size
 rw [hB0e] at hB0l
 clear m0 m1 m2 m3 z0 z1 z2 fz0 fz1 fz2
 replace kp := kp.below hb kp.lt
 replace k4 := k4.below hb k4.lt
 replace hr := hr.later hb
 replace hrl := hrl.later hb
 replace hB := tmB hB hb
 clear hb
 obtain ⟨m0, m1, m2, m3⟩ := cz4 kp
 have z0 := k4.cell (i := 0) rfl
 have fz0 := k4.frozen 0
 have z1 := k4.cell (i := 1) rfl
 have fz1 := k4.frozen 1
 have z2 := k4.cell (i := 2) rfl
 have fz2 := k4.frozen 2
 clear hrl
 go_wp2_with fail
 clear m0 m1 m2 m3 z0 z1 z2 fz0 fz1 fz2
 have hAp := fun k => afterN_length ss ms k
 have hApH := Lib.hid (fun k => (afterN_length ss ms k).trans (by rw [hmH.out]))
 clear hAp
 have hownB : ∃ l : List PicA, OwnA B0 V5 vv l ∧ l.map PicA.p = afterN ss ms 0 ∧ (0 = 0 ∨ ∃ l' x, l = l' ++ [x] ∧ V5.ownsRow w.heap.size 3 1 (.slice x.a x.p.px.length x.c) x.p.px.length (x.p.px.map (Value.int .i64))) := ⟨l0, hB0e ▸ hown, hl0, .inl rfl⟩
 have hownBH := Lib.hid hownB
 clear hownB hown hl0
 go_loopw [7, 33] (fun v i wr => ∃ k : Nat, k ≤ n ∧ i = .int .i64 (k : Int) ∧ Hid (∃ l : List PicA, OwnA B0 wr v l ∧ l.map PicA.p = afterN ss ms k ∧ (k = 0 ∨ ∃ l' x, l = l' ++ [x] ∧ wr.ownsRow w.heap.size 3 1 (.slice x.a x.p.px.length x.c) x.p.px.length (x.p.px.map (Value.int .i64)))) ∧ B0 ≤ wr.heap.size ∧ Below w.heap.size w wr ∧ Blk wr w.heap.size 24 #[.int .i64 W, .int .i64 H, .int .i64 I, .slice a n c] ∧ Blk wr (V1.heap.size) 32 #[.int .i64 0, .int .i64 0, .slice none 0 0]) (fun _ i _ => n - (intOf i).toNat)
 case atStart => exact ⟨0, Nat.zero_le _, rfl, hownBH, hB0l, hB, kp, k4⟩
 case round =>
  clear hB kp k4 hownBH hB0l
  obtain ⟨k, hk, rfl, hH, hB0l, hB, kp, k4⟩ := hrel
  obtain ⟨l, hown, hlm, hlast⟩ := hH.out
  have hll : l.length = q + k := by rw [← hApH.out k, ← hlm, List.length_map]
  obtain ⟨va, vc, rfl⟩ := row_slice hown.row
  by_cases hlt : k < n
  case neg =>
   have hkn : k = n := by omega
   subst hkn
   rcases hlast with h0 | ⟨l', x, hlx, hrow⟩
   ·omega
   have hx1 : meanN ⟨W, H, I, ss⟩ ms = x.p := by
    unfold meanN
    simp only
    rw [hnH.out, hmH.out, ← hlm, hlx, List.map_append]
    have hl' : l'.length = q + k - 1 := by have := congrArg List.length hlx; rw [hll, List.length_append, List.length_singleton] at this; omega
    simp only [List.map_cons, List.map_nil]
    rw [picAt_snoc, if_neg (by rw [List.length_map]; omega), if_pos (by rw [List.length_map]; omega)]
   have hR2 := hR2H.out
   rw [hx1] at hR2
   subst hR2
   obtain ⟨xp, xa, xc⟩ := x
   obtain ⟨xw, xh, xx⟩ := xp
   simp only at hrow ⊢
   have hl' : l'.length = q + k - 1 := by
    have := congrArg List.length hlx
    rw [hll, List.length_append, List.length_singleton] at this
    omega
   have hxa := flatC_at l (q + k - 1) ⟨⟨xw, xh, xx⟩, xa, xc⟩ (by rw [hlx, List.getElem?_append_right (by omega), hl']; simp)
   obtain ⟨g, rfl⟩ := row_someP (hll ▸ hown.row : wr.ownsRow B0 32 3 (.slice va (q + k) vc) (q + k) (flatC l)) (by omega)
   have hrow0 : wr.ownsRow B0 32 3 (.slice (some ⟨g, 0, none⟩) (q + k) vc) (q + k) (flatC l) := by have := hown.row; rw [hll] at this; exact this
   have hc := fun j (hj : j < 3) => (hrow0.cellAt ((q + k - 1) * 3 + j) (by omega)).trans (hxa j hj)
   have c0 := hc 0 (by omega)
   have c1 := hc 1 (by omega)
   have c2 := hc 2 (by omega)
   simp only [picCells, Nat.add_zero, List.getElem?_cons_zero, List.getElem?_cons_succ] at c0 c1 c2
   rw [hll]
   have hgt : (q : Int) + (k : Int) - 1 = ((q + k - 1 : Nat) : Int) := by omega
   obtain ⟨t, ht⟩ : ∃ t, q + k - 1 = t := ⟨_, rfl⟩
   rw [ht] at c0 c1 c2 hgt
   have htl : t < q + k := by omega
   have ks0 := k4.frozen 0
   obtain ⟨z0, z1, z2⟩ := cz3 k4
   have ks1 := k4.frozen 1
   have ks2 := k4.frozen 2
   have kf := put3_blk k4 (.int .i64 xw) (.int .i64 xh) (.slice xa xx.length xc)
   have rowf := row_put3b hrow (k4.not_row (by decide) hrow) (.int .i64 xw) (.int .i64 xh) (.slice xa xx.length xc)
   have hbf : Below w.heap.size w (put3 wr (V1.heap.size) (.int .i64 xw) (.int .i64 xh) (.slice xa xx.length xc)) := hB.trans (put3_below hle4 _ _ _)
   obtain ⟨g0, g1, g2⟩ := cz3 kf
   clear hH hown hrow0 hc hlm hlx hl' hxa hrow kp k4 hx1 hR2H hRH
   go_wp2_with fail
   exact bodyPost_ret (v := .tuple #[imv xw xh xa xx.length xc, .int .i64 0]) (by simp [results, Tryz.results30, go_sem, g0, g1, g2]) rfl ⟨⟨_, rfl, _, rfl, rowf⟩, hbf⟩
  case pos =>
   have hkl : k < ss.length := by have := hnH.out; omega
   have hs := hstH.out k hkl
   have hst := stepsB_at hallH.out hlt
   obtain ⟨b, o, ka, kc, sa, sc, rfl, hbl, hst2⟩ : ∃ b o ka kc sa sc, a = some ⟨b, o, none⟩ ∧ b < w.heap.size ∧ StAt w.heap.size w b (o + k * 16) (stAt ss k) ka kc sa sc := by
    rcases hr0 with h | ⟨b, o, h1, h2, h3⟩
    ·exfalso; rw [h] at hkl; simp at hkl
    ·obtain ⟨ka, kc, sa, sc, e⟩ := h3 k hkl
     exact ⟨b, o, ka, kc, sa, sc, h1, h2, e⟩
   have hnx : afterN ss ms (k + 1) = afterN ss ms k ++ [resN (appS (stAt ss k) (afterN ss ms k))] := rfl
   have hlenk := hApH.out k
   have hpx := afterN_px hplH.out ss k
   rw [hll]
   have hrow0 : wr.ownsRow B0 32 3 (.slice va (q + k) vc) (q + k) (flatC l) := by have := hown.row; rw [hll] at this; exact this
   have hpr : RdPs wr.heap.size wr va (afterN ss ms k) := by
    obtain ⟨a', c', e1, e2⟩ := hown.ps.slice
    simp only [Value.slice.injEq] at e1
    obtain ⟨rfl, _, rfl⟩ := e1
    rw [hlm] at e2; exact e2
   obtain ⟨s, hse⟩ : ∃ s, stAt ss k = s := ⟨_, rfl⟩
   obtain ⟨M, hM⟩ : ∃ M, afterN ss ms k = M := ⟨_, rfl⟩
   rw [hse] at hs hst hst2 hnx
   rw [hM] at hnx hlenk hpx hpr hlm
   rw [Bool.and_eq_true] at hst
   obtain ⟨hra, hrb⟩ := refB_true hst.2
   have hseH := Lib.hid hse
   have hMH := Lib.hid hM
   have hnxH := Lib.hid hnx
   have hlmH := Lib.hid hlm
   have hpxH := Lib.hid hpx
   have hrdH := Lib.hid hown.rd
   have hllH := Lib.hid hll
   clear hse hM hnx hlm hpx hst hH hlast hown
   obtain ⟨hcell, hta, hbi⟩ := hst2
   have c0 : wr.cell? ⟨b, o + k * 16, none⟩ = some (.int .u8 s.op) := (hB.cell (p := ⟨b, o + k * 16, none⟩) hbl).trans (hcell 0 _ rfl)
   have c1 : wr.cell? ⟨b, o + k * 16 + 1, none⟩ = some (.int .i64 s.a) := (hB.cell (p := ⟨b, o + k * 16 + 1, none⟩) hbl).trans (hcell 1 _ rfl)
   have c2 : wr.cell? ⟨b, o + k * 16 + 2, none⟩ = some (.int .i64 s.b) := (hB.cell (p := ⟨b, o + k * 16 + 2, none⟩) hbl).trans (hcell 2 _ rfl)
   have c3 : wr.cell? ⟨b, o + k * 16 + 3, none⟩ = some (.int .i64 s.pt.mul) := (hB.cell (p := ⟨b, o + k * 16 + 3, none⟩) hbl).trans (hcell 3 _ rfl)
   have c4 : wr.cell? ⟨b, o + k * 16 + 4, none⟩ = some (.int .i64 s.pt.add) := (hB.cell (p := ⟨b, o + k * 16 + 4, none⟩) hbl).trans (hcell 4 _ rfl)
   have c5 : wr.cell? ⟨b, o + k * 16 + 5, none⟩ = some (.int .i64 s.pt.div) := (hB.cell (p := ⟨b, o + k * 16 + 5, none⟩) hbl).trans (hcell 5 _ rfl)
   have c6 : wr.cell? ⟨b, o + k * 16 + 6, none⟩ = some (.int .i64 s.pt.lo) := (hB.cell (p := ⟨b, o + k * 16 + 6, none⟩) hbl).trans (hcell 6 _ rfl)
   have c7 : wr.cell? ⟨b, o + k * 16 + 7, none⟩ = some (.int .i64 s.pt.hi) := (hB.cell (p := ⟨b, o + k * 16 + 7, none⟩) hbl).trans (hcell 7 _ rfl)
   have c8 : wr.cell? ⟨b, o + k * 16 + 8, none⟩ = some (.int .u8 s.how) := (hB.cell (p := ⟨b, o + k * 16 + 8, none⟩) hbl).trans (hcell 8 _ rfl)
   have c9 : wr.cell? ⟨b, o + k * 16 + 9, none⟩ = some (.int .i64 s.kw) := (hB.cell (p := ⟨b, o + k * 16 + 9, none⟩) hbl).trans (hcell 9 _ rfl)
   have c10 : wr.cell? ⟨b, o + k * 16 + 10, none⟩ = some (.int .i64 s.kh) := (hB.cell (p := ⟨b, o + k * 16 + 10, none⟩) hbl).trans (hcell 10 _ rfl)
   have c11 : wr.cell? ⟨b, o + k * 16 + 11, none⟩ = some (.slice ka s.taps.length kc) := (hB.cell (p := ⟨b, o + k * 16 + 11, none⟩) hbl).trans (hcell 11 _ rfl)
   have c12 : wr.cell? ⟨b, o + k * 16 + 12, none⟩ = some (.int .u8 s.bd) := (hB.cell (p := ⟨b, o + k * 16 + 12, none⟩) hbl).trans (hcell 12 _ rfl)
   have c13 : wr.cell? ⟨b, o + k * 16 + 13, none⟩ = some (.int .i64 s.sw) := (hB.cell (p := ⟨b, o + k * 16 + 13, none⟩) hbl).trans (hcell 13 _ rfl)
   have c14 : wr.cell? ⟨b, o + k * 16 + 14, none⟩ = some (.int .i64 s.sh) := (hB.cell (p := ⟨b, o + k * 16 + 14, none⟩) hbl).trans (hcell 14 _ rfl)
   have c15 : wr.cell? ⟨b, o + k * 16 + 15, none⟩ = some (.slice sa s.bits.length sc) := (hB.cell (p := ⟨b, o + k * 16 + 15, none⟩) hbl).trans (hcell 15 _ rfl)
   have lp := kp.lt
   have l4 := k4.lt
   have lw := hB.size
   clear hcell
   obtain ⟨m0, m1, m2, m3⟩ := cz4 kp
   have hrdJ : ∀ x ∈ l, RdX (Value.ownBlock (.slice va (q + k) vc)) wr x.a x.c x.p.px := by have := hrdH.out; rw [hll] at this; exact this
   have hrdJH := Lib.hid hrdJ
   clear hrdJ hrdH
   have hvl : ∀ b, (Value.slice va (q + k) vc).ownBlock = some b → b < wr.heap.size := fun b e => (hrow0.lt b e).2
   have hBw : Below wr.heap.size wr wr := Below.refl _ _
   obtain ⟨V21, hEV21, hbV21, ks⟩ := newB wr 76 #[.int .u8 s.op, .int .i64 s.a, .int .i64 s.b, .int .i64 s.pt.mul, .int .i64 s.pt.add, .int .i64 s.pt.div, .int .i64 s.pt.lo, .int .i64 s.pt.hi, .int .u8 s.how, .int .i64 s.kw, .int .i64 s.kh, .slice ka s.taps.length kc, .int .u8 s.bd, .int .i64 s.sw, .int .i64 s.sh, .slice sa s.bits.length sc]
   clear m0 m1 m2 m3
   replace kp := kp.below hbV21 kp.lt
   replace k4 := k4.below hbV21 k4.lt
   replace hpr := hpr.later hbV21
   replace hBw := hBw.trans (hbV21.mono hBw.size)
   replace hrow0 := row_below hrow0 hbV21
   replace hB := tmB hB hbV21
   clear hbV21
   obtain ⟨m0, m1, m2, m3⟩ := cz4 kp
   obtain ⟨y0, y1, y2, y3, y4, y5, y6, y7, y8, y9, y10, y11, y12, y13, y14, y15⟩ := cz16 ks
   have hsz1 := hBw.size
   go_wp2_with fail
   clear hEV21
   refine (apply_any s hs ka sa kc sc M va vc (q + k) hlenk (fun i _ => hpxH.out i) hra.1 (by have := hqH.out; omega) (fun h => ⟨(hrb h).1, by have := (hrb h).2; have := hqH.out; omega⟩) V21 hpr (later_i hta hB) ((hbi.below (Nat.le_refl _) hB).mono hB.size)).mono ?_
   rintro e V22 ⟨⟨vv2, rfl, tt, rfl, hrow⟩, hb⟩
   clear m0 m1 m2 m3 y0 y1 y2 y3 y4 y5 y6 y7 y8 y9 y10 y11 y12 y13 y14 y15
   replace kp := kp.below hb kp.lt
   replace k4 := k4.below hb k4.lt
   replace ks := ks.below hb ks.lt
   replace hpr := hpr.later hb
   replace hBw := hBw.trans (hb.mono hBw.size)
   replace hrow0 := row_below hrow0 hb
   replace hB := tmB hB hb
   clear hb
   clear c0 c1 c2 c3 c4 c5 c6 c7 c8 c9 c10 c11 c12 c13 c14 c15
   obtain ⟨X, hX⟩ : ∃ X, appS s M = X := ⟨_, rfl⟩
   rw [hX] at hrow
   rw [hX]
   have hXH := Lib.hid hX
   clear hX
   obtain ⟨xw, xh, xx, er⟩ := X
   obtain ⟨xa, xc, rfl⟩ := row_slice hrow
   simp only at hrow
   have hfar : xx = [] ∨ ∀ ad, xa = some ad → (Value.slice va (q + k) vc).ownBlock ≠ some ad.block := by
    right
    rintro ad rfl e
    have e1 := (hrow.lt ad.block rfl).1
    have e2 := hvl _ e
    omega
   have hfarH := Lib.hid hfar
   clear hfar
   obtain ⟨xl, hxl⟩ : ∃ l, xx.length = l := ⟨_, rfl⟩
   have hxlH := Lib.hid hxl
   simp only
   rw [hxl] at hrow
   rw [hxl]
   clear hxl
   clear ks
   have kr := Blk.new V22 32 #[.int .i64 0, .int .i64 0, .slice none 0 0]
   obtain ⟨bkr, hxkr⟩ : ∃ b, V22.heap.size = b := ⟨_, rfl⟩
   obtain ⟨V22a, hAkr⟩ : ∃ X, V22.alloc (.cells #[.int .i64 0, .int .i64 0, .slice none 0 0] 32) = X := ⟨_, rfl⟩
   have hba : Below V22.heap.size V22 V22a := alloc_below hAkr
   rw [hAkr, hxkr] at kr
   have hlekr : V22.heap.size ≤ bkr := by omega
   have ykr0 := kr.cell (i := 0) rfl
   have fykr0 := kr.frozen 0
   have ykr1 := kr.cell (i := 1) rfl
   have fykr1 := kr.frozen 1
   have ykr2 := kr.cell (i := 2) rfl
   have fykr2 := kr.frozen 2
   have krn := put3_blk kr (.int .i64 xw) (.int .i64 xh) (.slice xa xl xc)
   have hb : Below V22.heap.size V22 (put3 V22a bkr (.int .i64 xw) (.int .i64 xh) (.slice xa xl xc)) := hba.trans (put3_below hlekr (.int .i64 xw) (.int .i64 xh) (.slice xa xl xc))
   obtain ⟨V23, hPkr⟩ : ∃ X, put3 V22a bkr (.int .i64 xw) (.int .i64 xh) (.slice xa xl xc) = X := ⟨_, rfl⟩
   rw [hPkr] at krn hb
   replace kr := krn
   clear krn hba hlekr
   replace kp := kp.below hb kp.lt
   replace k4 := k4.below hb k4.lt
   replace hpr := hpr.later hb
   replace hBw := hBw.trans (hb.mono hBw.size)
   replace hrow0 := row_below hrow0 hb
   replace hrow := row_below hrow hb
   replace hB := tmB hB hb
   clear hb
   obtain ⟨u0, u1, u2⟩ := cz3 kr
   have uu0 := u0
   have uu1 := u1
   have uu2 := u2
   obtain ⟨V24, hEV24, hbV24, kb⟩ := newB V23 32 #[.int .i64 xw, .int .i64 xh, .slice xa xl xc]
   clear u0 u1 u2
   replace kp := kp.below hbV24 kp.lt
   replace k4 := k4.below hbV24 k4.lt
   replace kr := kr.below hbV24 kr.lt
   replace hpr := hpr.later hbV24
   replace hBw := hBw.trans (hbV24.mono hBw.size)
   replace hrow0 := row_below hrow0 hbV24
   replace hrow := row_below hrow hbV24
   replace hB := tmB hB hbV24
   clear hbV24
   go_wp2_with (at_builtin; refine wpList_append_anyS rfl _ _ 58 rfl B0 32 i0 (.agg #[.int .i64 0, .int .i64 0, .slice none 0 0]) 3 40 Tryz.underlying58 gi gz0 gz1 gz2 rfl (by decide) (.slice va (q + k) vc) (q + k) (flatC l) rfl hrow0 (some ⟨_, 0, none⟩) 1 1 (picCells ⟨⟨xw, xh, xx⟩, xa, xc⟩) rfl rfl (by rw [show picCells ⟨⟨xw, xh, xx⟩, xa, xc⟩ = [.int .i64 xw, .int .i64 xh, .slice xa xl xc] by show [_, _, Value.slice xa xx.length xc] = _; rw [hxlH.out]]; exact NewsAt.blk kb 1) (flatC_one [⟨⟨xw, xh, xx⟩, xa, xc⟩]) (by unfold maxLen; omega) (by omega) (by have := hBw.size; omega) ?_; intro v7 W7 own7 hg7 hat7)
   have hBf : Below w.heap.size w W7 := hB.grown hg7 hB.size (fun b e => by have := (hrow0.lt b e).1; omega)
   have kp7 := kp.kept hg7 (fun e => by have := (hrow0.lt _ e.symm).1; omega)
   have k47 := k4.kept hg7 (fun e => by have := (hrow0.lt _ e.symm).1; omega)
   have hB07 : B0 ≤ W7.heap.size := by have := hBw.size; have := hg7.size; omega
   have hnew := OwnA.push (B := B0) (x := ⟨⟨xw, xh, xx⟩, xa, xc⟩) (fun y hy => by have e := hrdJH.out y hy; exact ⟨later_i e.1 hBw, e.2⟩) (row_rd' hxlH.out hrow) (fun e => by subst e; exact (row_nil hrow).2) hfarH.out (by have hll2 := hllH.out; rw [hll2]; exact own7) hg7 hat7
   have hrow7 : W7.ownsRow w.heap.size 3 1 (.slice xa xx.length xc) xx.length (xx.map (Value.int .i64)) := by
    rw [hxlH.out]
    refine jrow_weaken (hrow.kept hg7 ?_) (by omega)
    cases xa with
    | none => exact .inl rfl
    | some ad =>
     right
     intro e
     have e1 := (hrow.lt ad.block rfl).1
     have e2 := hvl _ e.symm
     omega
   have hfin : ∃ l : List PicA, OwnA B0 W7 v7 l ∧ l.map PicA.p = afterN ss ms (k + 1) ∧ (k + 1 = 0 ∨ ∃ l' x, l = l' ++ [x] ∧ W7.ownsRow w.heap.size 3 1 (.slice x.a x.p.px.length x.c) x.p.px.length (x.p.px.map (Value.int .i64))) := by
    refine ⟨_, hnew, ?_, .inr ⟨l, _, rfl, hrow7⟩⟩
    rw [List.map_append, hlmH.out, hnxH.out, hXH.out]
    rfl
   have hfinH := Lib.hid hfin
   clear hfin hnew hrow7 hrow hrow0 own7 hg7 hat7 kb kr hB kp k4 hpr hBw
   go_roundw
   case rel => exact ⟨k + 1, by omega, by go_num, hfinH, hB07, hBf, kp7, k47⟩
   case measure => simp [intOf]; omega
end Go.Proofs.YtekiemlniegddaaGreat
namespace Go.Proofs.YtekiemlniegddaaGreat
open Go Go.RowKit Go.Shelf
/-- The cells of an instruction. -/
def insCells (x : InsN) (a : Option Addr) (c : Nat) : List Value :=
 [.int .u8 x.op, .int .i64 x.d, .int .i64 x.a, .int .i64 x.b, .int .i64 x.val, .int .i64 x.pt.mul, .int .i64 x.pt.add, .int .i64 x.pt.div, .int .i64 x.pt.lo, .int .i64 x.pt.hi, .int .u8 x.how, .slice a x.ad.length c]
abbrev insv (x : InsN) (a : Option Addr) (c : Nat) : Value := .agg #[.int .u8 x.op, .int .i64 x.d, .int .i64 x.a, .int .i64 x.b, .int .i64 x.val, .int .i64 x.pt.mul, .int .i64 x.pt.add, .int .i64 x.pt.div, .int .i64 x.pt.lo, .int .i64 x.pt.hi, .int .u8 x.how, .slice a x.ad.length c]
/-- What an instruction's numbers are, as they came in. -/
structure InsIn (x : InsN) : Prop where
 op : 0 ≤ x.op ∧ x.op ≤ 255
 how : 0 ≤ x.how ∧ x.how ≤ 255
 al : x.ad.length ≤ 9223372036854775807
def noIns : InsN := ⟨0, 0, 0, 0, 0, noPt, 0, []⟩
def insAt (l : List InsN) (i : Nat) : InsN := l[i]?.getD noIns
structure InAt (B : Nat) (W : World) (b o : Nat) (x : InsN) (a : Option Addr) (c : Nat) : Prop where
 cell : ∀ j v, (insCells x a c)[j]? = some v → W.cell? ⟨b, o + j, none⟩ = some v
 ad : Rd B W a x.ad
theorem InAt.below {B B' : Nat} {W W' : World} {b o : Nat} {x : InsN} {a : Option Addr} {c : Nat} (h : InAt B W b o x a c) (hbB : b < B') (hB : B ≤ B') (hb : Below B' W W') : InAt B W' b o x a c :=
 ⟨fun j v hv => (hb.cell (p := ⟨b, o + j, none⟩) hbB).trans (h.cell j v hv), h.ad.below hB hb⟩
/-- The slice at 'a' reads as the instructions 'xs'. -/
def RdCs (B : Nat) (W : World) (a : Option Addr) (xs : List InsN) : Prop :=
 xs = [] ∨ ∃ b o, a = some ⟨b, o, none⟩ ∧ b < B ∧ ∀ i, i < xs.length → ∃ ia ic, InAt B W b (o + i * 12) (insAt xs i) ia ic
theorem RdCs.below {B B' : Nat} {W W' : World} {a : Option Addr} {xs : List InsN} (h : RdCs B W a xs) (hB : B ≤ B') (hb : Below B' W W') : RdCs B W' a xs := by
 rcases h with h | ⟨b, o, h1, h2, h3⟩
 ·exact .inl h
 ·refine .inr ⟨b, o, h1, h2, fun i hi => ?_⟩
  obtain ⟨ia, ic, e⟩ := h3 i hi
  exact ⟨ia, ic, e.below (by omega) hB hb⟩
theorem RdCs.mono {B B' : Nat} {W : World} {a : Option Addr} {xs : List InsN} (h : RdCs B W a xs) (hB : B ≤ B') : RdCs B' W a xs := by
 rcases h with h | ⟨b, o, h1, h2, h3⟩
 ·exact .inl h
 ·refine .inr ⟨b, o, h1, by omega, fun i hi => ?_⟩
  obtain ⟨ia, ic, e⟩ := h3 i hi
  exact ⟨ia, ic, e.cell, e.ad.mono hB⟩
theorem RdCs.later {W W' : World} {a : Option Addr} {xs : List InsN} (h : RdCs W.heap.size W a xs) (hb : Below W.heap.size W W') : RdCs W'.heap.size W' a xs := (h.below (Nat.le_refl _) hb).mono hb.size
def intL (n : Nat) (f : Nat → Int) : List Value := (List.range n).map fun j => .int .i64 (f j)
theorem intL_len (n : Nat) (f : Nat → Int) : (intL n f).length = n := by simp [intL]
theorem intL_at {n j : Nat} {f : Nat → Int} (h : j < n) : (intL n f)[j]? = some (.int .i64 (f j)) := by unfold intL; rw [List.getElem?_map, List.getElem?_range h]; rfl
theorem intL_set {n j : Nat} {f : Nat → Int} (v : Int) : (intL n f).set j (.int .i64 v) = intL n (fun i => if i = j then v else f i) := by
 refine List.ext_getElem? fun i => ?_
 rw [List.getElem?_set]
 by_cases h : i < n
 ·rw [intL_at h]
  by_cases e : j = i
  ·subst e; rw [if_pos rfl, if_pos (by rw [intL_len]; exact h), intL_at h]; simp
  ·rw [if_neg e, intL_at h, if_neg (fun e2 => e e2.symm)]
 ·rw [List.getElem?_eq_none (show (intL n (fun i => if i = j then v else f i)).length ≤ i by rw [intL_len]; omega)]
  by_cases e : j = i
  ·rw [if_pos e, if_neg (by rw [intL_len]; omega)]
  ·rw [if_neg e, List.getElem?_eq_none (by rw [intL_len]; omega)]
theorem intL_congr {n : Nat} {f g : Nat → Int} (h : ∀ j, j < n → f j = g j) : intL n f = intL n g := by
 unfold intL; exact List.map_congr_left fun j hj => by rw [h j (List.mem_range.1 hj)]
theorem intL_map (n : Nat) (f : Nat → Int) : ((List.range n).map f).map (Value.int .i64) = intL n f := by unfold intL; rw [List.map_map]; rfl
abbrev srow (g n c : Nat) : Value := .slice (some ⟨g, 0, none⟩) n c
def rowsL (R lanes : Nat) (G C : Nat → Nat) : List Value := (List.range R).map fun r => srow (G r) lanes (C r)
theorem rowsL_at {R lanes r : Nat} {G C : Nat → Nat} (h : r < R) : (rowsL R lanes G C)[r]? = some (srow (G r) lanes (C r)) := by unfold rowsL; rw [List.getElem?_map, List.getElem?_range h]; rfl
theorem rowsL_len (R lanes : Nat) (G C : Nat → Nat) : (rowsL R lanes G C).length = R := by simp [rowsL]
theorem rowsL_set {R lanes d : Nat} {G C : Nat → Nat} (g c : Nat) : (rowsL R lanes G C).set d (srow g lanes c) = rowsL R lanes (fun r => if r = d then g else G r) (fun r => if r = d then c else C r) := by
 refine List.ext_getElem? fun i => ?_
 rw [List.getElem?_set]
 by_cases h : i < R
 ·rw [rowsL_at h]
  by_cases e : d = i
  ·subst e; rw [if_pos rfl, if_pos (by rw [rowsL_len]; exact h), rowsL_at h]; simp
  ·rw [if_neg e, rowsL_at h, if_neg (fun e2 => e e2.symm), if_neg (fun e2 => e e2.symm)]
 ·rw [List.getElem?_eq_none (show (rowsL R lanes (fun r => if r = d then g else G r) (fun r => if r = d then c else C r)).length ≤ i by rw [rowsL_len]; omega)]
  by_cases e : d = i
  ·rw [if_pos e, if_neg (by rw [rowsL_len]; omega)]
  ·rw [if_neg e, List.getElem?_eq_none (by rw [rowsL_len]; omega)]
/-- The table of the operations: it lies behind the machine, at the block that C tells of behind the registers (if it is there). -/
abbrev tabC : Array Value := #[.bool false, .bool false, .bool false, .bool false, .int .i64 0, .nilFunc, .bool true, .bool false, .bool false, .bool true, .int .i64 2147483648, .func (.func 118) #[] #[], .bool false, .bool true, .bool false, .bool true, .int .i64 0, .func (.func 119) #[] #[], .bool true, .bool false, .bool false, .bool false, .int .i64 2147483648, .func (.func 120) #[] #[], .bool true, .bool true, .bool false, .bool false, .int .i64 0, .func (.func 121) #[] #[], .bool true, .bool true, .bool true, .bool false, .int .i64 0, .func (.func 122) #[] #[], .bool true, .bool true, .bool false, .bool false, .int .i64 65536, .func (.func 123) #[] #[]]
/-- A machine at work, in memory: its block, the row of its registers, each register's row, its memory's row. -/
structure MacAt (B : Nat) (W : World) (bm lanes R N : Nat) (M : MacN) (gr gm cr cm : Nat) (G C : Nat → Nat) : Prop where
 m : Blk W bm 151 #[.int .i64 (lanes : Int), srow gr R cr, srow gm N cm]
 rr : W.ownsRow B 30 1 (srow gr R cr) R (rowsL R lanes G C)
 rg : ∀ r, r < R → W.ownsRow B 3 1 (srow (G r) lanes (C r)) lanes (intL lanes (M.regs r))
 mm : W.ownsRow B 3 1 (srow gm N cm) N (intL N M.mem)
 inj : ∀ r s, r < R → s < R → G r = G s → r = s
 ne : ∀ r, r < R → G r ≠ gm
 hb : B ≤ bm
 gs : C R ≠ 0 → Blk W (C R) 139 tabC
theorem MacAt.later {B : Nat} {W W' : World} {bm lanes R N : Nat} {M : MacN} {gr gm cr cm : Nat} {G C : Nat → Nat} (h : MacAt B W bm lanes R N M gr gm cr cm G C) (hb : Below W.heap.size W W') : MacAt B W' bm lanes R N M gr gm cr cm G C :=
 ⟨h.m.below hb h.m.lt, row_below h.rr hb, fun r hr => row_below (h.rg r hr) hb, row_below h.mm hb, h.inj, h.ne, h.hb, fun h0 => (h.gs h0).below hb (h.gs h0).lt⟩
theorem srow_block {W : World} {B : Nat} {e : TypeId} {size g n c k : Nat} {xs : List Value} (h : W.ownsRow B e size (srow g n c) k xs) : ∃ cur, W.heap[g]? = some (.cells cur e (0, 0)) := by
 rcases h.2 with ⟨h1, _⟩ | ⟨g', cap, cur, h1, _, h2, _⟩
 ·cases h1
 ·simp only [Value.slice.injEq, Option.some.injEq, Addr.mk.injEq, and_true] at h1
  exact ⟨cur, by rw [h1.1]; exact h2⟩
theorem rows_ne {W : World} {B1 B2 : Nat} {e1 e2 : TypeId} {s1 s2 g1 g2 n1 n2 c1 c2 k1 k2 : Nat} {xs ys : List Value} (h1 : W.ownsRow B1 e1 s1 (srow g1 n1 c1) k1 xs) (h2 : W.ownsRow B2 e2 s2 (srow g2 n2 c2) k2 ys) (he : e1 ≠ e2) : g1 ≠ g2 := by
 rintro rfl
 obtain ⟨cu, hc⟩ := srow_block h1
 obtain ⟨cv, hd⟩ := srow_block h2
 rw [hc] at hd
 injection hd with hd
 injection hd with _ hd _
 exact he hd
theorem some_ne {a b : Nat} (h : a ≠ b) : some a ≠ some b := fun e => h (by injection e)
theorem MacAt.setReg {B : Nat} {W : World} {bm lanes R N : Nat} {M : MacN} {gr gm cr cm : Nat} {G C : Nat → Nat} (h : MacAt B W bm lanes R N M gr gm cr cm G C) {d j : Nat} (hd : d < R) (v : Int) (hB : B ≤ W.heap.size) :
  MacAt B (W.setCell ⟨G d, j, none⟩ (.int .i64 v)) bm lanes R N ⟨fun r => if r = d then (fun i => if i = j then v else M.regs d i) else M.regs r, M.mem⟩ gr gm cr cm G C ∧ Below B W (W.setCell ⟨G d, j, none⟩ (.int .i64 v)) := by
 have hst := (h.rg d hd).stored j (.int .i64 v)
 have hg := hst.2
 have hlow := (h.rg d hd).lt (G d) rfl
 have hne := h.m.not_row (by decide) (h.rg d hd)
 refine ⟨⟨h.m.kept hg hne, row_setCell h.rr (a := ⟨G d, j, none⟩) (some_ne (rows_ne (h.rg d hd) h.rr (by decide))) _, fun r hr => ?_, row_setCell h.mm (a := ⟨G d, j, none⟩) (some_ne (h.ne d hd)) _, h.inj, h.ne, h.hb, fun h0 => (h.gs h0).kept hg ((h.gs h0).not_row (by decide) (h.rg d hd))⟩, ?_⟩
 ·by_cases e : r = d
  ·subst e
   have := hst.1
   rw [intL_set] at this
   simpa using this
  ·simp only [if_neg e]
   exact row_setCell (h.rg r hr) (a := ⟨G d, j, none⟩) (some_ne (fun e2 => e (h.inj d r hd hr e2).symm)) _
 ·exact below_of_row (n := B) (h.rg d hd) hg (Nat.le_refl _) hB
theorem MacAt.setMem {B : Nat} {W : World} {bm lanes R N : Nat} {M : MacN} {gr gm cr cm : Nat} {G C : Nat → Nat} (h : MacAt B W bm lanes R N M gr gm cr cm G C) (i : Nat) (v : Int) (hB : B ≤ W.heap.size) :
  MacAt B (W.setCell ⟨gm, i, none⟩ (.int .i64 v)) bm lanes R N ⟨M.regs, fun k => if k = i then v else M.mem k⟩ gr gm cr cm G C ∧ Below B W (W.setCell ⟨gm, i, none⟩ (.int .i64 v)) := by
 have hst := h.mm.stored i (.int .i64 v)
 have hg := hst.2
 have hne := h.m.not_row (by decide) h.mm
 refine ⟨⟨h.m.kept hg hne, row_setCell h.rr (a := ⟨gm, i, none⟩) (some_ne (rows_ne h.mm h.rr (by decide))) _, fun r hr => row_setCell (h.rg r hr) (a := ⟨gm, i, none⟩) (some_ne (fun e => h.ne r hr e.symm)) _, ?_, h.inj, h.ne, h.hb, fun h0 => (h.gs h0).kept hg ((h.gs h0).not_row (by decide) h.mm)⟩, ?_⟩
 ·have := hst.1
  rw [intL_set] at this
  exact this
 ·exact below_of_row (n := B) h.mm hg (Nat.le_refl _) hB
/-- A register's row is another one. -/
theorem MacAt.repl {B : Nat} {W : World} {bm lanes R N : Nat} {M : MacN} {gr gm cr cm : Nat} {G C : Nat → Nat} (h : MacAt B W bm lanes R N M gr gm cr cm G C) {d : Nat} (hd : d < R) {g c : Nat} {f : Nat → Int} (hrow : W.ownsRow B 3 1 (srow g lanes c) lanes (intL lanes f))
  (h1 : ∀ r, r < R → G r ≠ g) (h2 : g ≠ gm) (hB : B ≤ W.heap.size) :
  MacAt B (W.setCell ⟨gr, d, none⟩ (srow g lanes c)) bm lanes R N ⟨fun r => if r = d then f else M.regs r, M.mem⟩ gr gm cr cm (fun r => if r = d then g else G r) (fun r => if r = d then c else C r) ∧ Below B W (W.setCell ⟨gr, d, none⟩ (srow g lanes c)) := by
 have hst := h.rr.stored d (srow g lanes c)
 have hg := hst.2
 have hne := h.m.not_row (by decide) h.rr
 refine ⟨⟨h.m.kept hg hne, ?_, fun r hr => ?_, row_setCell h.mm (a := ⟨gr, d, none⟩) (some_ne (rows_ne h.rr h.mm (by decide))) _, fun r s hr hs e => ?_, fun r hr => ?_, h.hb, ?gs⟩, ?_⟩
 case gs =>
  show (if R = d then c else C R) ≠ 0 → Blk _ (if R = d then c else C R) _ _
  rw [if_neg (by omega)]
  exact fun h0 => (h.gs h0).kept hg ((h.gs h0).not_row (by decide) h.rr)
 ·have := hst.1
  rw [rowsL_set] at this
  exact this
 ·by_cases e : r = d
  ·subst e
   simp only [if_pos rfl]
   exact row_setCell hrow (a := ⟨gr, r, none⟩) (some_ne (rows_ne h.rr hrow (by decide))) _
  ·simp only [if_neg e]
   exact row_setCell (h.rg r hr) (a := ⟨gr, d, none⟩) (some_ne (rows_ne h.rr (h.rg r hr) (by decide))) _
 ·by_cases e1 : r = d
  ·by_cases e2 : s = d
   ·omega
   ·rw [if_pos e1, if_neg e2] at e; exact absurd e.symm (h1 s hs)
  ·by_cases e2 : s = d
   ·rw [if_neg e1, if_pos e2] at e; exact absurd e (h1 r hr)
   ·rw [if_neg e1, if_neg e2] at e; exact h.inj r s hr hs e
 ·by_cases e : r = d
  ·rw [if_pos e]; exact h2
  ·rw [if_neg e]; exact h.ne r hr
 ·exact below_of_row (n := B) h.rr hg (Nat.le_refl _) hB
/-- What the machine's lines read. -/
theorem MacAt.cells {B : Nat} {W : World} {bm lanes R N : Nat} {M : MacN} {gr gm cr cm : Nat} {G C : Nat → Nat} (h : MacAt B W bm lanes R N M gr gm cr cm G C) :
  W.cell? ⟨bm, 0, none⟩ = some (.int .i64 (lanes : Int)) ∧ W.cell? ⟨bm, 1, none⟩ = some (srow gr R cr) ∧ W.cell? ⟨bm, 2, none⟩ = some (srow gm N cm) ∧ (∀ r, r < R → W.cell? ⟨gr, r, none⟩ = some (srow (G r) lanes (C r))) ∧
  (∀ r j, r < R → j < lanes → W.cell? ⟨G r, j, none⟩ = some (.int .i64 (M.regs r j))) ∧ (∀ i, i < N → W.cell? ⟨gm, i, none⟩ = some (.int .i64 (M.mem i))) :=
 ⟨h.m.cell (i := 0) rfl, h.m.cell (i := 1) rfl, h.m.cell (i := 2) rfl, fun r hr => (h.rr.cellAt r (by omega)).trans (rowsL_at hr), fun r j hr hj => ((h.rg r hr).cellAt j (by omega)).trans (intL_at hj), fun i hi => (h.mm.cellAt i (by omega)).trans (intL_at hi)⟩
theorem MacAt.frozen {B : Nat} {W : World} {bm lanes R N : Nat} {M : MacN} {gr gm cr cm : Nat} {G C : Nat → Nat} (h : MacAt B W bm lanes R N M gr gm cr cm G C) :
  (∀ r j, r < R → W.frozen? ⟨G r, j, none⟩ = false) ∧ (∀ i, W.frozen? ⟨gm, i, none⟩ = false) ∧ (∀ r, W.frozen? ⟨gr, r, none⟩ = false) :=
 ⟨fun r j hr => (h.rg r hr).frozenAt j, fun i => h.mm.frozenAt i, fun r => h.rr.frozenAt r⟩
theorem MacAt.caps {B : Nat} {W : World} {bm lanes R N : Nat} {M : MacN} {gr gm cr cm : Nat} {G C : Nat → Nat} (h : MacAt B W bm lanes R N M gr gm cr cm G C) : R ≤ cr ∧ N ≤ cm ∧ ∀ r, r < R → lanes ≤ C r := by
 have cap : ∀ {e : TypeId} {g n c : Nat} {xs : List Value}, W.ownsRow B e 1 (srow g n c) n xs → n ≤ c := fun h => by
  rcases h.2 with ⟨h1, _⟩ | ⟨g', cap, cur, h1, _, _, h3, _⟩
  ·cases h1
  ·simp only [Value.slice.injEq, Option.some.injEq, Addr.mk.injEq, and_true] at h1
   omega
 exact ⟨cap h.rr, cap h.mm, fun r hr => cap (h.rg r hr)⟩
/-- The machine's world is another one, with the same numbers. -/
theorem MacAt.congr {B : Nat} {W : World} {bm lanes R N : Nat} {M M' : MacN} {gr gm cr cm : Nat} {G C : Nat → Nat} (h : MacAt B W bm lanes R N M gr gm cr cm G C) (h1 : ∀ r j, r < R → j < lanes → M.regs r j = M'.regs r j) (h2 : ∀ i, i < N → M.mem i = M'.mem i) : MacAt B W bm lanes R N M' gr gm cr cm G C :=
 ⟨h.m, h.rr, fun r hr => by rw [← intL_congr (fun j hj => h1 r j hr hj)]; exact h.rg r hr, by rw [← intL_congr (fun i hi => h2 i hi)]; exact h.mm, h.inj, h.ne, h.hb, h.gs⟩
end Go.Proofs.YtekiemlniegddaaGreat

/- PipeCompiled returns true for every pipe, machine and images. -/
import Derived.Test.YtekiemlniegddaaGreatQF17
import Derived.Test.YtekiemlniegddaaGreatQF18
namespace Go.Proofs.YtekiemlniegddaaGreat
open Go Go.Maps Go.RowKit Go.Shelf
set_option linter.unusedVariables false
set_option linter.unusedSimpArgs false

theorem mean_form {P : PipeN} {ms : List PicN} (hP : pipeB P = true) (hg : givenB ms P.inp P.w P.h = true) : ∃ W H px, meanS P ms = ⟨W, H, px, 0⟩ := by
 unfold meanS
 rw [if_pos hP, if_pos hg]
 exact ⟨_, _, _, rfl⟩
theorem cmp_shape {P : PipeN} (hP : pipeB P = true) (v : VecN) : (cmpC P v).w = P.w ∧ (cmpC P v).h = P.h ∧ (((cmpC P v).inp.length : Nat) : Int) = P.inp := by
 obtain ⟨_, _, hi, _⟩ := pipeB_true hP
 refine ⟨rfl, rfl, ?_⟩
 have h : (cmpC P v).inp.length = P.inp.toNat := inp_len _ _ _
 rw [h]; omega
set_option maxRecDepth 100000 in
set_option maxHeartbeats 8000000 in
theorem law_compiled (Q : PipeN) (a : Option Addr) (n c : Nat) (hn : Q.ss.length = n) (hQ : PipeIn Q) (v : VecN) (ms : List PicN) (la : Option Addr) (q lc : Nat) (hm : ms.length = q) (hmm : q ≤ 9223372036854775807) (hpl : ∀ i, (picAt ms i).px.length ≤ 9223372036854775807) (w : World) (hr : RdSs w.heap.size w a Q.ss) (hrl : RdPs w.heap.size w la ms) :
  Calls Tryz.prog 4 #[pipev Q a n c, vecv v, .slice la q lc] w fun e w' => e = .returned (.bool true) ∧ Below w.heap.size w w' := by
 obtain ⟨pb, hpb⟩ : ∃ q, pipeB Q = q := ⟨_, rfl⟩
 obtain ⟨vb, hvb⟩ : ∃ q, vecB v = q := ⟨_, rfl⟩
 obtain ⟨gb, hgb⟩ : ∃ q, givenB ms Q.inp Q.w Q.h = q := ⟨_, rfl⟩
 obtain ⟨R, hR⟩ : ∃ R, roomP Q = R := ⟨_, rfl⟩
 obtain ⟨E, hE⟩ : ∃ E, cmpE Q v = E := ⟨_, rfl⟩
 obtain ⟨C, hC⟩ : ∃ R, cmpR Q v = R := ⟨_, rfl⟩
 have hCin := cmpR_in Q v
 have hcp := fun W h => Compile_any Q hQ v a n c hn W h
 have hvl := fun W h => PValid_any Q a n c hn hQ pb hpb W h
 have hvc := fun W => rvector_any v vb hvb W
 have hrm := fun W h => Room_any Q a n c hn hQ W h
 have hgv := fun W h => given3_any Q a n c ms la lc q hm hmm (fun i _ => hpl i) gb hgb W h
 have hmn := fun W h1 h2 => Mean_any Q a n c hn hQ ms la q lc hm hmm hpl W h1 h2
 have hrn := fun W ia ic xa xc h1 h2 h3 => Run_any v C ia xa ic xc (hC ▸ hCin) ms la q lc hm hmm hpl W h1 h2 h3
 have hck := fun W ia ic xa xc h1 h2 => CheckCode_any v C ia xa ic xc (hC ▸ hCin) W h1 h2
 rw [hE, hC] at hcp
 rw [hpb, hR] at hrm
 have hpbH := Lib.hid hpb
 have hvbH := Lib.hid hvb
 have hgbH := Lib.hid hgb
 have hRH := Lib.hid hR
 have hEH := Lib.hid hE
 have hCH := Lib.hid hC
 unfold pipev vecv
 unfold pipev at hcp hvl hrm hgv hmn
 unfold vecv at hcp hrn hck
 unfold RetCo codev at hcp
 unfold codev at hrn hck
 have hcpH := Lib.hid hcp
 have hvlH := Lib.hid hvl
 have hvcH := Lib.hid hvc
 have hrmH := Lib.hid hrm
 have hgvH := Lib.hid hgv
 have hmnH := Lib.hid hmn
 have hrnH := Lib.hid hrn
 have hckH := Lib.hid hck
 clear hpb hvb hgb hR hE hC hCin hcp hvl hvc hrm hgv hmn hrn hck hQ hn hm hpl
 have hB : Below w.heap.size w w := Below.refl _ _
 have hbV1 : Below w.heap.size w (w.alloc (.cells #[.int .i64 Q.w, .int .i64 Q.h, .int .i64 Q.inp, .slice a n c] 24)) := jb_al (Below.refl _ w) _
 have kp := Blk.new w 24 #[.int .i64 Q.w, .int .i64 Q.h, .int .i64 Q.inp, .slice a n c]
 obtain ⟨V1, hEV1⟩ : ∃ X, w.alloc (.cells #[.int .i64 Q.w, .int .i64 Q.h, .int .i64 Q.inp, .slice a n c] 24) = X := ⟨_, rfl⟩
 rw [hEV1] at hbV1 kp
 replace hr := hr.later hbV1
 replace hrl := (hrl.below (Nat.le_refl _) hbV1).mono hbV1.size
 replace hB := hB.trans (hbV1.mono hB.size)
 clear hbV1
 obtain ⟨p0, p1, p2, p3⟩ := cz4 kp
 have hbV2 : Below V1.heap.size V1 (V1.alloc (.cells #[.int .i64 v.lanes, .int .i64 v.regs, .int .i64 v.mem] 26)) := jb_al (Below.refl _ V1) _
 have kv := Blk.new V1 26 #[.int .i64 v.lanes, .int .i64 v.regs, .int .i64 v.mem]
 obtain ⟨V2, hEV2⟩ : ∃ X, V1.alloc (.cells #[.int .i64 v.lanes, .int .i64 v.regs, .int .i64 v.mem] 26) = X := ⟨_, rfl⟩
 rw [hEV2] at hbV2 kv
 clear p0 p1 p2 p3
 replace kp := kp.below hbV2 kp.lt
 replace hr := hr.later hbV2
 replace hrl := (hrl.below (Nat.le_refl _) hbV2).mono hbV2.size
 replace hB := hB.trans (hbV2.mono hB.size)
 clear hbV2
 obtain ⟨p0, p1, p2, p3⟩ := cz4 kp
 obtain ⟨v0, v1, v2⟩ := cz3 kv
 go_enter Tryz.func4, Tryz.ntmps4
 go_wp2_with fail
 clear hEV1 hEV2
 have hc := alive3_any V2
 refine hc.mono ?_
 clear hc
 rintro e V3 ⟨rfl, hb⟩
 clear p0 p1 p2 p3 v0 v1 v2
 replace kp := kp.below hb kp.lt
 replace kv := kv.below hb kv.lt
 replace hr := hr.later hb
 replace hrl := (hrl.below (Nat.le_refl _) hb).mono hb.size
 replace hB := hB.trans (hb.mono hB.size)
 clear hb
 obtain ⟨p0, p1, p2, p3⟩ := cz4 kp
 obtain ⟨v0, v1, v2⟩ := cz3 kv
 go_wp2_with fail
 have hc := hcpH.out V3 hr
 refine hc.mono ?_
 clear hc
 rintro e V4 ⟨ia, ic, xa, xc, rfl, ri, rx, hb⟩
 clear p0 p1 p2 p3 v0 v1 v2
 replace kp := kp.below hb kp.lt
 replace kv := kv.below hb kv.lt
 replace hr := hr.later hb
 replace hrl := (hrl.below (Nat.le_refl _) hb).mono hb.size
 replace hB := hB.trans (hb.mono hB.size)
 clear hb
 obtain ⟨p0, p1, p2, p3⟩ := cz4 kp
 obtain ⟨v0, v1, v2⟩ := cz3 kv
 have hbV5 : Below V4.heap.size V4 (V4.alloc (.cells #[.int .i64 C.w, .int .i64 C.h, .slice ia C.inp.length ic, .int .i64 C.out, .slice xa C.ins.length xc] 43)) := jb_al (Below.refl _ V4) _
 have kc := Blk.new V4 43 #[.int .i64 C.w, .int .i64 C.h, .slice ia C.inp.length ic, .int .i64 C.out, .slice xa C.ins.length xc]
 obtain ⟨V5, hEV5⟩ : ∃ X, V4.alloc (.cells #[.int .i64 C.w, .int .i64 C.h, .slice ia C.inp.length ic, .int .i64 C.out, .slice xa C.ins.length xc] 43) = X := ⟨_, rfl⟩
 rw [hEV5] at hbV5 kc
 clear p0 p1 p2 p3 v0 v1 v2
 replace kp := kp.below hbV5 kp.lt
 replace kv := kv.below hbV5 kv.lt
 replace hr := hr.later hbV5
 replace hrl := (hrl.below (Nat.le_refl _) hbV5).mono hbV5.size
 replace ri := later_i ri hbV5
 replace rx := (rx.below (Nat.le_refl _) hbV5).mono hbV5.size
 replace hB := hB.trans (hbV5.mono hB.size)
 clear hbV5
 obtain ⟨p0, p1, p2, p3⟩ := cz4 kp
 obtain ⟨v0, v1, v2⟩ := cz3 kv
 obtain ⟨c0, c1, c2, c3, c4⟩ := cz5 kc
 go_wp2_with fail
 clear hEV5
 have hc := hvlH.out V5 hr
 refine hc.mono ?_
 clear hc
 rintro e V6 ⟨rfl, hb⟩
 clear p0 p1 p2 p3 v0 v1 v2 c0 c1 c2 c3 c4
 replace kp := kp.below hb kp.lt
 replace kv := kv.below hb kv.lt
 replace kc := kc.below hb kc.lt
 replace hr := hr.later hb
 replace hrl := (hrl.below (Nat.le_refl _) hb).mono hb.size
 replace ri := later_i ri hb
 replace rx := (rx.below (Nat.le_refl _) hb).mono hb.size
 replace hB := hB.trans (hb.mono hB.size)
 clear hb
 obtain ⟨p0, p1, p2, p3⟩ := cz4 kp
 obtain ⟨v0, v1, v2⟩ := cz3 kv
 obtain ⟨c0, c1, c2, c3, c4⟩ := cz5 kc
 cases pb with
 | false =>
  have hE0 : E = 30 := by rw [← hEH.out]; unfold cmpE; rw [hpbH.out, if_neg (by simp)]
  subst hE0
  go_wp2_with fail
  go_ret
  exact ⟨rfl, hB⟩
 | true =>
 go_wp2_with fail
 have hc := hvcH.out V6
 refine hc.mono ?_
 clear hc
 rintro e V7 ⟨rfl, hb⟩
 clear p0 p1 p2 p3 v0 v1 v2 c0 c1 c2 c3 c4
 replace kp := kp.below hb kp.lt
 replace kv := kv.below hb kv.lt
 replace kc := kc.below hb kc.lt
 replace hr := hr.later hb
 replace hrl := (hrl.below (Nat.le_refl _) hb).mono hb.size
 replace ri := later_i ri hb
 replace rx := (rx.below (Nat.le_refl _) hb).mono hb.size
 replace hB := hB.trans (hb.mono hB.size)
 clear hb
 obtain ⟨p0, p1, p2, p3⟩ := cz4 kp
 obtain ⟨v0, v1, v2⟩ := cz3 kv
 obtain ⟨c0, c1, c2, c3, c4⟩ := cz5 kc
 cases vb with
 | false =>
  have hE0 : E = 31 := by rw [← hEH.out]; unfold cmpE; rw [hpbH.out, if_pos rfl, hvbH.out, if_neg (by simp)]
  subst hE0
  go_wp2_with fail
  go_ret
  exact ⟨rfl, hB⟩
 | true =>
 go_wp2_with fail
 have hc := hrmH.out V7 hr
 simp only [if_true] at hc
 refine hc.mono ?_
 clear hc
 rintro e V8 ⟨rfl, hb⟩
 clear p0 p1 p2 p3 v0 v1 v2 c0 c1 c2 c3 c4
 replace kp := kp.below hb kp.lt
 replace kv := kv.below hb kv.lt
 replace kc := kc.below hb kc.lt
 replace hr := hr.later hb
 replace hrl := (hrl.below (Nat.le_refl _) hb).mono hb.size
 replace ri := later_i ri hb
 replace rx := (rx.below (Nat.le_refl _) hb).mono hb.size
 replace hB := hB.trans (hb.mono hB.size)
 clear hb
 obtain ⟨p0, p1, p2, p3⟩ := cz4 kp
 obtain ⟨v0, v1, v2⟩ := cz3 kv
 obtain ⟨c0, c1, c2, c3, c4⟩ := cz5 kc
 by_cases hlt : v.mem < R
 case pos =>
  have hltd : decide (v.mem < R) = true := decide_eq_true hlt
  have hE0 : E = 9 := by rw [← hEH.out]; unfold cmpE; rw [hpbH.out, if_pos rfl, hvbH.out, if_pos rfl, hRH.out, if_pos hlt]
  subst hE0
  clear hlt
  go_wp2_with fail
  go_ret
  exact ⟨rfl, hB⟩
 case neg =>
 have hltd : decide (v.mem < R) = false := decide_eq_false hlt
 have hE0 : E = 0 := by rw [← hEH.out]; unfold cmpE; rw [hpbH.out, if_pos rfl, hvbH.out, if_pos rfl, hRH.out, if_neg hlt]
 subst hE0
 have hroom : roomP Q ≤ v.mem := by rw [hRH.out]; omega
 have hC0 : C = cmpC Q v := by rw [← hCH.out]; unfold cmpR; rw [hEH.out, if_pos rfl]
 obtain ⟨hCw, hCh, hCi⟩ := cmp_shape hpbH.out v
 rw [← hC0] at hCw hCh hCi
 have hchk : chkS v C = 0 := by rw [hC0]; exact (cmp_valid hpbH.out hvbH.out hroom).1
 have hrun : givenB ms Q.inp Q.w Q.h = true → runS v C ms = meanS Q ms := fun hg => by rw [hC0]; exact cmp_mean hpbH.out hvbH.out hroom hg
 have hrunH := Lib.hid hrun
 have hck1 := hckH.out
 rw [hchk] at hck1
 have hck1H := Lib.hid hck1
 have hi1 : (((C.inp.length : Nat) : Int) != Q.inp) = false := by rw [hCi]; simp
 rw [hCw, hCh] at kc
 have c0w := c0
 have c1w := c1
 rw [hCw] at c0w
 rw [hCh] at c1w
 have hC0H := Lib.hid hC0
 clear hck1 hrun hchk hroom hC0 hCi hlt c0 c1
 have c0 := c0w
 have c1 := c1w
 clear c0w c1w

 go_wp2_with fail
 have hc := hck1H.out V8 ia ic xa xc ri rx
 rw [hCw, hCh] at hc
 refine hc.mono ?_
 clear hc
 rintro e V9 ⟨rfl, hb⟩
 clear p0 p1 p2 p3 v0 v1 v2 c2 c3 c4 c0 c1
 replace kp := kp.below hb kp.lt
 replace kv := kv.below hb kv.lt
 replace kc := kc.below hb kc.lt
 replace hr := hr.later hb
 replace hrl := (hrl.below (Nat.le_refl _) hb).mono hb.size
 replace ri := later_i ri hb
 replace rx := (rx.below (Nat.le_refl _) hb).mono hb.size
 replace hB := hB.trans (hb.mono hB.size)
 clear hb
 obtain ⟨p0, p1, p2, p3⟩ := cz4 kp
 obtain ⟨v0, v1, v2⟩ := cz3 kv
 obtain ⟨c0, c1, c2, c3, c4⟩ := cz5 kc
 clear hck1H hckH
 go_wp2_with fail
 have hc := hgvH.out V9 hrl
 refine hc.mono ?_
 clear hc
 rintro e V10 ⟨rfl, hb⟩
 clear p0 p1 p2 p3 v0 v1 v2 c0 c1 c2 c3 c4
 replace kp := kp.below hb kp.lt
 replace kv := kv.below hb kv.lt
 replace kc := kc.below hb kc.lt
 replace hr := hr.later hb
 replace hrl := (hrl.below (Nat.le_refl _) hb).mono hb.size
 replace ri := later_i ri hb
 replace rx := (rx.below (Nat.le_refl _) hb).mono hb.size
 replace hB := hB.trans (hb.mono hB.size)
 clear hb
 obtain ⟨p0, p1, p2, p3⟩ := cz4 kp
 obtain ⟨v0, v1, v2⟩ := cz3 kv
 obtain ⟨c0, c1, c2, c3, c4⟩ := cz5 kc
 clear hi1
 cases gb with
 | false =>
  go_wp2_with fail
  go_ret
  exact ⟨rfl, hB⟩
 | true =>
 obtain ⟨MW, MH, MP, hM⟩ := mean_form hpbH.out hgbH.out
 have hmn1 := hmnH.out
 have hrn1 := hrnH.out
 rw [hrunH.out hgbH.out] at hrn1
 rw [hM] at hmn1 hrn1
 have hmn1H := Lib.hid hmn1
 have hrn1H := Lib.hid hrn1
 clear hmn1 hrn1 hM hmnH hrnH
 go_wp2_with fail
 have hc := hmn1H.out V10 hr hrl
 refine hc.mono ?_
 clear hc
 rintro e V11 ⟨⟨v1, rfl, ⟨u1, rfl, h1⟩⟩, hb⟩
 clear p0 p1 p2 p3 v0 v1 v2 c0 c1 c2 c3 c4
 replace kp := kp.below hb kp.lt
 replace kv := kv.below hb kv.lt
 replace kc := kc.below hb kc.lt
 replace hr := hr.later hb
 replace hrl := (hrl.below (Nat.le_refl _) hb).mono hb.size
 replace ri := later_i ri hb
 replace rx := (rx.below (Nat.le_refl _) hb).mono hb.size
 replace hB := hB.trans (hb.mono hB.size)
 clear hb
 dsimp only at h1 ⊢
 obtain ⟨pa, pc, rfl⟩ := row_slice h1
 have rp := rowI_rd rfl h1
 clear h1
 obtain ⟨p0, p1, p2, p3⟩ := cz4 kp
 obtain ⟨v0, v1, v2⟩ := cz3 kv
 obtain ⟨c0, c1, c2, c3, c4⟩ := cz5 kc
 have hbV12 : Below V11.heap.size V11 (V11.alloc (.cells #[.int .i64 MW, .int .i64 MH, .slice pa MP.length pc] 32)) := jb_al (Below.refl _ V11) _
 have kA := Blk.new V11 32 #[.int .i64 MW, .int .i64 MH, .slice pa MP.length pc]
 obtain ⟨V12, hEV12⟩ : ∃ X, V11.alloc (.cells #[.int .i64 MW, .int .i64 MH, .slice pa MP.length pc] 32) = X := ⟨_, rfl⟩
 rw [hEV12] at hbV12 kA
 clear p0 p1 p2 p3 v0 v1 v2 c0 c1 c2 c3 c4
 replace kp := kp.below hbV12 kp.lt
 replace kv := kv.below hbV12 kv.lt
 replace kc := kc.below hbV12 kc.lt
 replace hr := hr.later hbV12
 replace hrl := (hrl.below (Nat.le_refl _) hbV12).mono hbV12.size
 replace ri := later_i ri hbV12
 replace rx := (rx.below (Nat.le_refl _) hbV12).mono hbV12.size
 replace rp := later_i rp hbV12
 replace hB := hB.trans (hbV12.mono hB.size)
 clear hbV12
 obtain ⟨p0, p1, p2, p3⟩ := cz4 kp
 obtain ⟨v0, v1, v2⟩ := cz3 kv
 obtain ⟨c0, c1, c2, c3, c4⟩ := cz5 kc
 obtain ⟨x0, x1, x2⟩ := cz3 kA
 go_wp2_with fail
 clear hEV12
 have hc := hrn1H.out V12 ia ic xa xc ri rx hrl
 rw [hCw, hCh] at hc
 refine hc.mono ?_
 clear hc
 rintro e V13 ⟨⟨v2, rfl, ⟨u2, rfl, h2⟩⟩, hb⟩
 clear p0 p1 p2 p3 v0 v1 v2 c0 c1 c2 c3 c4 x0 x1 x2
 replace kp := kp.below hb kp.lt
 replace kv := kv.below hb kv.lt
 replace kc := kc.below hb kc.lt
 replace kA := kA.below hb kA.lt
 replace hr := hr.later hb
 replace hrl := (hrl.below (Nat.le_refl _) hb).mono hb.size
 replace ri := later_i ri hb
 replace rx := (rx.below (Nat.le_refl _) hb).mono hb.size
 replace rp := later_i rp hb
 replace hB := hB.trans (hb.mono hB.size)
 clear hb
 dsimp only at h2 ⊢
 obtain ⟨qa, qc, rfl⟩ := row_slice h2
 have rq := rowI_rd rfl h2
 have hml := row_maxP h2
 clear h2
 obtain ⟨p0, p1, p2, p3⟩ := cz4 kp
 obtain ⟨v0, v1, v2⟩ := cz3 kv
 obtain ⟨c0, c1, c2, c3, c4⟩ := cz5 kc
 obtain ⟨x0, x1, x2⟩ := cz3 kA
 have hbV14 : Below V13.heap.size V13 (V13.alloc (.cells #[.int .i64 MW, .int .i64 MH, .slice qa MP.length qc] 32)) := jb_al (Below.refl _ V13) _
 have kB := Blk.new V13 32 #[.int .i64 MW, .int .i64 MH, .slice qa MP.length qc]
 obtain ⟨V14, hEV14⟩ : ∃ X, V13.alloc (.cells #[.int .i64 MW, .int .i64 MH, .slice qa MP.length qc] 32) = X := ⟨_, rfl⟩
 rw [hEV14] at hbV14 kB
 clear p0 p1 p2 p3 v0 v1 v2 c0 c1 c2 c3 c4 x0 x1 x2
 replace kp := kp.below hbV14 kp.lt
 replace kv := kv.below hbV14 kv.lt
 replace kc := kc.below hbV14 kc.lt
 replace kA := kA.below hbV14 kA.lt
 replace hr := hr.later hbV14
 replace hrl := (hrl.below (Nat.le_refl _) hbV14).mono hbV14.size
 replace ri := later_i ri hbV14
 replace rx := (rx.below (Nat.le_refl _) hbV14).mono hbV14.size
 replace rp := later_i rp hbV14
 replace rq := later_i rq hbV14
 replace hB := hB.trans (hbV14.mono hB.size)
 clear hbV14
 obtain ⟨p0, p1, p2, p3⟩ := cz4 kp
 obtain ⟨v0, v1, v2⟩ := cz3 kv
 obtain ⟨c0, c1, c2, c3, c4⟩ := cz5 kc
 obtain ⟨x0, x1, x2⟩ := cz3 kA
 obtain ⟨y0, y1, y2⟩ := cz3 kB
 go_wp2_with fail
 clear hEV14
 have hc := Same_eq MW MH pa qa pc qc MP.length MP (Lib.hid rfl) V14 hml rp rq
 refine hc.mono ?_
 clear hc
 rintro e V15 ⟨rfl, hb⟩
 clear p0 p1 p2 p3 v0 v1 v2 c0 c1 c2 c3 c4 x0 x1 x2 y0 y1 y2
 replace kp := kp.below hb kp.lt
 replace kv := kv.below hb kv.lt
 replace kc := kc.below hb kc.lt
 replace kA := kA.below hb kA.lt
 replace kB := kB.below hb kB.lt
 replace hr := hr.later hb
 replace hrl := (hrl.below (Nat.le_refl _) hb).mono hb.size
 replace ri := later_i ri hb
 replace rx := (rx.below (Nat.le_refl _) hb).mono hb.size
 replace rp := later_i rp hb
 replace rq := later_i rq hb
 replace hB := hB.trans (hb.mono hB.size)
 clear hb
 obtain ⟨p0, p1, p2, p3⟩ := cz4 kp
 obtain ⟨v0, v1, v2⟩ := cz3 kv
 obtain ⟨c0, c1, c2, c3, c4⟩ := cz5 kc
 obtain ⟨x0, x1, x2⟩ := cz3 kA
 obtain ⟨y0, y1, y2⟩ := cz3 kB
 go_wp2_with fail
 go_ret
 exact ⟨rfl, hB⟩

end Go.Proofs.YtekiemlniegddaaGreat

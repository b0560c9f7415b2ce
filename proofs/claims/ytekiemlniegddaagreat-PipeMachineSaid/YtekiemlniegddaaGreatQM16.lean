/- Contracts and laws (PCp, PLn, PCi). -/
import Derived.Test.YtekiemlniegddaaGreatQM15
set_option linter.unusedVariables false
set_option linter.unusedSimpArgs false
namespace Go.Proofs.YtekiemlniegddaaGreat
open Go Go.Maps Go.RowKit Go.Shelf
theorem enters_c1 : ∀ args w, (callFunc 54 args).run Tryz.prog w = .ok (.enter 54 args) w := enters_of Tryz.func54 (by kernel_rfl) rfl
set_option maxRecDepth 100000 in
set_option maxHeartbeats 8000000 in
theorem Compile_any (Q : PipeN) (hQ : PipeIn Q) (v : VecN) (a : Option Addr) (n c : Nat) (hn : Q.ss.length = n) (w : World) (hr : RdSs w.heap.size w a Q.ss) :
  Calls Tryz.prog 18 #[pipev Q a n c, vecv v] w (RetCo w.heap.size (cmpR Q v) (cmpE Q v) w) := by
 obtain ⟨pb, hpb⟩ : ∃ q, pipeB Q = q := ⟨_, rfl⟩
 obtain ⟨vb, hvb⟩ : ∃ q, vecB v = q := ⟨_, rfl⟩
 obtain ⟨R, hR⟩ : ∃ R, roomP Q = R := ⟨_, rfl⟩
 obtain ⟨E, hE⟩ : ∃ E, cmpE Q v = E := ⟨_, rfl⟩
 obtain ⟨RR, hRR⟩ : ∃ R, cmpR Q v = R := ⟨_, rfl⟩
 rw [hE, hRR]
 have hEH := Lib.hid (And.intro hE hRR)
 have hck := fun W h => PCheck_any Q a n c hn hQ pb hpb W h
 have hvc := fun W => vector_any v vb hvb W
 have hrm := fun (hp : pb = true) W h => room_any Q a n c hn (hpb.trans hp) (fun i hi => hQ.st i (by omega)) W h
 rw [hR] at hrm
 have hpbH := Lib.hid hpb
 have hvbH := Lib.hid hvb
 have hRH := Lib.hid hR
 have hckH := Lib.hid hck
 have hvcH := Lib.hid hvc
 have hrmH := Lib.hid hrm
 have hQH := Lib.hid hQ
 have hnH := Lib.hid hn
 clear hpb hvb hR hE hRR hck hvc hrm hQ hn
 unfold pipev vecv
 unfold pipev at hckH hrmH
 have hr0 := hr
 have hB : Below w.heap.size w w := Below.refl _ _
 obtain ⟨V1, hEV1, hbV1, kp⟩ := newB w 24 #[.int .i64 Q.w, .int .i64 Q.h, .int .i64 Q.inp, .slice a n c]
 replace hr := hr.later hbV1
 replace hB := tmB hB hbV1
 clear hbV1
 obtain ⟨p0, p1, p2, p3⟩ := cz4 kp
 obtain ⟨V2, hEV2, hbV2, kv⟩ := newB V1 26 #[.int .i64 v.lanes, .int .i64 v.regs, .int .i64 v.mem]
 clear p0 p1 p2 p3
 replace kp := kp.below hbV2 kp.lt
 replace hr := hr.later hbV2
 replace hB := tmB hB hbV2
 clear hbV2
 obtain ⟨p0, p1, p2, p3⟩ := cz4 kp
 obtain ⟨v0, v1, v2⟩ := cz3 kv
 have hle4 := hB.size
 obtain ⟨V3, hEV3, hbV3, kr⟩ := newB V2 43 #[.int .i64 0, .int .i64 0, .slice none 0 0, .int .i64 0, .slice none 0 0]
 clear p0 p1 p2 p3 v0 v1 v2
 replace kp := kp.below hbV3 kp.lt
 replace kv := kv.below hbV3 kv.lt
 replace hr := hr.later hbV3
 replace hB := tmB hB hbV3
 clear hbV3
 obtain ⟨p0, p1, p2, p3⟩ := cz4 kp
 obtain ⟨v0, v1, v2⟩ := cz3 kv
 have z0 := kr.cell (i := 0) rfl
 have fz0 := kr.frozen 0
 have z1 := kr.cell (i := 1) rfl
 have fz1 := kr.frozen 1
 have z2 := kr.cell (i := 2) rfl
 have fz2 := kr.frozen 2
 have z3 := kr.cell (i := 3) rfl
 have fz3 := kr.frozen 3
 have z4 := kr.cell (i := 4) rfl
 have fz4 := kr.frozen 4
 go_enter Tryz.func18, Tryz.ntmps18
 go_wp2_with fail
 clear hEV1 hEV2 hEV3
 refine (hckH.out V3 hr).mono ?_
 rintro e V4 ⟨rfl, hb⟩
 clear p0 p1 p2 p3 v0 v1 v2 z0 z1 z2 z3 z4 fz0 fz1 fz2 fz3 fz4
 replace kp := kp.below hb kp.lt
 replace kv := kv.below hb kv.lt
 replace kr := kr.below hb kr.lt
 replace hr := hr.later hb
 replace hB := tmB hB hb
 clear hb
 obtain ⟨p0, p1, p2, p3⟩ := cz4 kp
 obtain ⟨v0, v1, v2⟩ := cz3 kv
 have z0 := kr.cell (i := 0) rfl
 have fz0 := kr.frozen 0
 have z1 := kr.cell (i := 1) rfl
 have fz1 := kr.frozen 1
 have z2 := kr.cell (i := 2) rfl
 have fz2 := kr.frozen 2
 have z3 := kr.cell (i := 3) rfl
 have fz3 := kr.frozen 3
 have z4 := kr.cell (i := 4) rfl
 have fz4 := kr.frozen 4
 cases pb with
 | false =>
  have hE2 : E = 30 := by rw [← hEH.out.1]; unfold cmpE; rw [hpbH.out, if_neg (by simp)]
  have hR2 : RR = ⟨0, 0, [], 0, []⟩ := by rw [← hEH.out.2]; unfold cmpR; rw [hEH.out.1, hE2]; rw [if_neg (by decide)]
  subst hE2 hR2
  have kf := put5_blk kr (.int .i64 0) (.int .i64 0) (.slice none 0 0) (.int .i64 0) (.slice none 0 0)
  have hbf : Below w.heap.size w (put5 V4 (V2.heap.size) (.int .i64 0) (.int .i64 0) (.slice none 0 0) (.int .i64 0) (.slice none 0 0)) := hB.trans ((put5_trn V4 (V2.heap.size) _ _ _ _ _).below hB.size (fun b hb e => by subst e; omega))
  obtain ⟨g0, g1, g2, g3, g4⟩ := cz5 kf
  go_wp2_with fail
  exact bodyPost_ret (v := .tuple #[.agg #[.int .i64 0, .int .i64 0, .slice none 0 0, .int .i64 0, .slice none 0 0], .int .i64 30]) (by simp [results, Tryz.results18, go_sem, g0, g1, g2, g3, g4]) rfl ⟨none, 0, none, 0, rfl, .inl rfl, .inl rfl, hbf⟩
 | true =>
 go_wp2_with fail
 refine (hvcH.out V4).mono ?_
 rintro e V5 ⟨rfl, hb⟩
 clear p0 p1 p2 p3 v0 v1 v2 z0 z1 z2 z3 z4 fz0 fz1 fz2 fz3 fz4
 replace kp := kp.below hb kp.lt
 replace kv := kv.below hb kv.lt
 replace kr := kr.below hb kr.lt
 replace hr := hr.later hb
 replace hB := tmB hB hb
 clear hb
 obtain ⟨p0, p1, p2, p3⟩ := cz4 kp
 obtain ⟨v0, v1, v2⟩ := cz3 kv
 have z0 := kr.cell (i := 0) rfl
 have fz0 := kr.frozen 0
 have z1 := kr.cell (i := 1) rfl
 have fz1 := kr.frozen 1
 have z2 := kr.cell (i := 2) rfl
 have fz2 := kr.frozen 2
 have z3 := kr.cell (i := 3) rfl
 have fz3 := kr.frozen 3
 have z4 := kr.cell (i := 4) rfl
 have fz4 := kr.frozen 4
 cases vb with
 | false =>
  have hE2 : E = 31 := by rw [← hEH.out.1]; unfold cmpE; rw [hpbH.out, if_pos rfl, hvbH.out, if_neg (by simp)]
  have hR2 : RR = ⟨0, 0, [], 0, []⟩ := by rw [← hEH.out.2]; unfold cmpR; rw [hEH.out.1, hE2]; rw [if_neg (by decide)]
  subst hE2 hR2
  have kf := put5_blk kr (.int .i64 0) (.int .i64 0) (.slice none 0 0) (.int .i64 0) (.slice none 0 0)
  have hbf : Below w.heap.size w (put5 V5 (V2.heap.size) (.int .i64 0) (.int .i64 0) (.slice none 0 0) (.int .i64 0) (.slice none 0 0)) := hB.trans ((put5_trn V5 (V2.heap.size) _ _ _ _ _).below hB.size (fun b hb e => by subst e; omega))
  obtain ⟨g0, g1, g2, g3, g4⟩ := cz5 kf
  go_wp2_with fail
  exact bodyPost_ret (v := .tuple #[.agg #[.int .i64 0, .int .i64 0, .slice none 0 0, .int .i64 0, .slice none 0 0], .int .i64 31]) (by simp [results, Tryz.results18, go_sem, g0, g1, g2, g3, g4]) rfl ⟨none, 0, none, 0, rfl, .inl rfl, .inl rfl, hbf⟩
 | true =>
 have hpf := pipeB_true hpbH.out
 obtain ⟨hw, hh, hI, hn12, _⟩ := hpf
 rw [hnH.out] at hn12
 have hm1 := prod_bd (a := Q.w) (x := Q.h) (m := 16) (n := 16) (by omega) (by omega) (by omega) (by omega) (by omega)
 have hm0 := Int.mul_le_mul hw.1 hh.1 (by omega) (by omega)
 obtain ⟨p, hp⟩ : ∃ p, Q.w * Q.h = p := ⟨_, rfl⟩
 have hpH := Lib.hid hp
 rw [hp] at hm1 hm0
 simp only [Int.reduceMul] at hm1 hm0
 go_wp2_with fail
 refine (hrmH.out (by first | trivial | rfl) V5 hr).mono ?_
 rintro e V6 ⟨rfl, hb⟩
 clear p0 p1 p2 p3 v0 v1 v2 z0 z1 z2 z3 z4 fz0 fz1 fz2 fz3 fz4
 replace kp := kp.below hb kp.lt
 replace kv := kv.below hb kv.lt
 replace kr := kr.below hb kr.lt
 replace hr := hr.later hb
 replace hB := tmB hB hb
 clear hb
 obtain ⟨p0, p1, p2, p3⟩ := cz4 kp
 obtain ⟨v0, v1, v2⟩ := cz3 kv
 have z0 := kr.cell (i := 0) rfl
 have fz0 := kr.frozen 0
 have z1 := kr.cell (i := 1) rfl
 have fz1 := kr.frozen 1
 have z2 := kr.cell (i := 2) rfl
 have fz2 := kr.frozen 2
 have z3 := kr.cell (i := 3) rfl
 have fz3 := kr.frozen 3
 have z4 := kr.cell (i := 4) rfl
 have fz4 := kr.frozen 4
 by_cases hlt : v.mem < R
 case pos =>
  have hltd : decide (v.mem < R) = true := decide_eq_true hlt
  have hltH := Lib.hid hlt
  clear hlt
  have hE2 : E = 9 := by rw [← hEH.out.1]; unfold cmpE; rw [hpbH.out, if_pos rfl, hvbH.out, if_pos rfl, hRH.out, if_pos hltH.out]
  have hR2 : RR = ⟨0, 0, [], 0, []⟩ := by rw [← hEH.out.2]; unfold cmpR; rw [hEH.out.1, hE2]; rw [if_neg (by decide)]
  subst hE2 hR2
  have kf := put5_blk kr (.int .i64 0) (.int .i64 0) (.slice none 0 0) (.int .i64 0) (.slice none 0 0)
  have hbf : Below w.heap.size w (put5 V6 (V2.heap.size) (.int .i64 0) (.int .i64 0) (.slice none 0 0) (.int .i64 0) (.slice none 0 0)) := hB.trans ((put5_trn V6 (V2.heap.size) _ _ _ _ _).below hB.size (fun b hb e => by subst e; omega))
  obtain ⟨g0, g1, g2, g3, g4⟩ := cz5 kf
  go_wp2_with fail
  exact bodyPost_ret (v := .tuple #[.agg #[.int .i64 0, .int .i64 0, .slice none 0 0, .int .i64 0, .slice none 0 0], .int .i64 9]) (by simp [results, Tryz.results18, go_sem, g0, g1, g2, g3, g4]) rfl ⟨none, 0, none, 0, rfl, .inl rfl, .inl rfl, hbf⟩
 case neg =>
 have hltd : decide (v.mem < R) = false := decide_eq_false hlt
 have hvf := vecB_facts hvbH.out
 have hE2 : E = 0 := by rw [← hEH.out.1]; unfold cmpE; rw [hpbH.out, if_pos rfl, hvbH.out, if_pos rfl, hRH.out, if_neg hlt]
 have hR2 : RR = cmpC Q v := by rw [← hEH.out.2]; unfold cmpR; rw [hEH.out.1, hE2, if_pos rfl]
 subst hE2 hR2
 have hroomH : Hid (roomP Q ≤ v.mem) := Lib.hid (by rw [hRH.out]; omega)
 have hR8 : R ≤ 8192 := by omega
 clear hlt hr
 obtain ⟨mo, hmo⟩ : ∃ m, mostP Q = m := ⟨_, rfl⟩
 have hRm : R = (mo : Int) * p := by rw [← hRH.out, ← hmo, ← hpH.out]; unfold roomP; rw [Int.mul_assoc]
 have hmoH := Lib.hid hmo
 have hmo20 : mo ≤ 15 := by rw [← hmo]; have := mostN_le Q.inp.toNat (lastI Q) (rdsN Q.inp Q.ss) (Q.inp.toNat + Q.ss.length) (rdsN Q.inp Q.ss).length; have h2 := hnH.out; unfold mostP; omega
 clear hmo
 have hR0 : 0 ≤ R := by rw [hRm]; exact Int.mul_nonneg (by omega) (by omega)
 have hRmH := Lib.hid hRm
 clear hRm
 obtain ⟨M, hMM⟩ : ∃ M : Nat, Q.inp.toNat + n = M := ⟨_, rfl⟩
 have hMH := Lib.hid hMM
 have hM20 : M < 20 := by omega
 clear hMM
 have hmm := @run_makeMap Tryz.prog
 have hl0 := OwnF.made Tryz.prog 3 3 V6 M
 have hbm : Below V6.heap.size V6 (V6.alloc (.map #[] 0)) := jb_al (Below.refl _ V6) _
 obtain ⟨bm, hbm0⟩ : ∃ b, V6.heap.size = b := ⟨_, rfl⟩
 obtain ⟨V8, hEV8⟩ : ∃ X, V6.alloc (.map #[] 0) = X := ⟨_, rfl⟩
 rw [hEV8] at hbm hl0
 rw [hbm0] at hl0
 have hbmw : w.heap.size ≤ bm := by rw [← hbm0]; exact hB.size
 have q_p0 := p0
 have q_p1 := p1
 have q_p2 := p2
 have q_p3 := p3
 have q_v0 := v0
 have q_v1 := v1
 have q_v2 := v2
 clear p0 p1 p2 p3 v0 v1 v2 z0 z1 z2 z3 z4 fz0 fz1 fz2 fz3 fz4
 replace kp := kp.below hbm kp.lt
 replace kv := kv.below hbm kv.lt
 replace kr := kr.below hbm kr.lt
 replace hB := tmB hB hbm
 clear hbm
 obtain ⟨p0, p1, p2, p3⟩ := cz4 kp
 obtain ⟨v0, v1, v2⟩ := cz3 kv
 have z0 := kr.cell (i := 0) rfl
 have fz0 := kr.frozen 0
 have z1 := kr.cell (i := 1) rfl
 have fz1 := kr.frozen 1
 have z2 := kr.cell (i := 2) rfl
 have fz2 := kr.frozen 2
 have z3 := kr.cell (i := 3) rfl
 have fz3 := kr.frozen 3
 have z4 := kr.cell (i := 4) rfl
 have fz4 := kr.frozen 4
 have hbcw0 := hB.size
 obtain ⟨V9, hEV9, hbV9, kc⟩ := newB V8 103 #[.int .i64 Q.w, .int .i64 Q.h, .int .i64 Q.inp, .slice a n c, .int .i64 v.lanes, .int .i64 v.regs, .int .i64 v.mem, .map (some bm), .slice none 0 0, .slice none 0 0]
 clear p0 p1 p2 p3 v0 v1 v2 z0 z1 z2 z3 z4 fz0 fz1 fz2 fz3 fz4
 replace kp := kp.below hbV9 kp.lt
 replace kv := kv.below hbV9 kv.lt
 replace kr := kr.below hbV9 kr.lt
 replace hl0 := hl0.below hbV9
 replace hB := tmB hB hbV9
 clear hbV9
 obtain ⟨bc, hbc⟩ : ∃ b, V8.heap.size = b := ⟨_, rfl⟩
 rw [hbc] at kc
 have hbxw := hB.size
 obtain ⟨V10, hEV10, hbV10, kx⟩ := newB V9 100 #[.pointer (some ⟨bc, 0, none⟩)]
 replace kp := kp.below hbV10 kp.lt
 replace kv := kv.below hbV10 kv.lt
 replace kr := kr.below hbV10 kr.lt
 replace kc := kc.below hbV10 kc.lt
 replace hl0 := hl0.below hbV10
 replace hB := tmB hB hbV10
 clear hbV10
 obtain ⟨bx, hbx⟩ : ∃ b, V9.heap.size = b := ⟨_, rfl⟩
 rw [hbx] at kx hbxw
 obtain ⟨p0, p1, p2, p3⟩ := cz4 kp
 obtain ⟨v0, v1, v2⟩ := cz3 kv
 have z0 := kr.cell (i := 0) rfl
 have fz0 := kr.frozen 0
 have z1 := kr.cell (i := 1) rfl
 have fz1 := kr.frozen 1
 have z2 := kr.cell (i := 2) rfl
 have fz2 := kr.frozen 2
 have z3 := kr.cell (i := 3) rfl
 have fz3 := kr.frozen 3
 have z4 := kr.cell (i := 4) rfl
 have fz4 := kr.frozen 4
 obtain ⟨c0, c1, c2, c3, c4, c5, c6, c7, c8, c9⟩ := cz10 kc
 have x0 := kx.cell (i := 0) rfl
 obtain ⟨L0, hL0⟩ : ∃ L0 : Nat → InsA, L0 = fun _ => ⟨insC, none, 0⟩ := ⟨_, rfl⟩
 have co0 : CoAt w.heap.size w V10 (cmPof Q v a n c) bc bm 0 M ⟨fun _ => none, (freeN p mo).take 0, []⟩ w.heap.size V1.heap.size V2.heap.size bx (.slice none 0 0) (.slice none 0 0) L0 := by
  refine ⟨⟨kc, hl0, World.ownsRow_nil _ _ _ _, ?_, fun q hq => absurd hq (Nat.not_lt_zero _), ⟨?_, hbmw⟩⟩, kp, kv, kr, kx, hB, Nat.le_refl _⟩
  ·show V10.ownsRow w.heap.size 143 12 (.slice none 0 0) 0 (flat 12 _ 0)
   rw [flat_zero]; exact World.ownsRow_nil _ _ _ _
  ·rw [← hbc]; exact hbcw0
 have hRz := hRmH.out
 have hAs : ((mo : Int) - 1 - ((0 : Nat) : Int)) * p = R - p := by rw [hRz, Int.sub_mul, Int.sub_mul]; simp
 have hAsH := Lib.hid hAs
 clear hRz hAs hL0
 obtain ⟨i0, hi, hz0, hz1, hz2⟩ := info_parts info_num
 have hp := hpH.out
 go_wp2_with fail
 clear hEV8 hbm0 hEV9 hbc hEV10 hbx
 clear p0 p1 p2 p3 v0 v1 v2 z0 z1 z2 z3 z4 fz0 fz1 fz2 fz3 fz4 c0 c1 c2 c3 c4 c5 c6 c7 c8 c9 x0
 clear q_p0 q_p1 q_p2 q_p3 q_v0 q_v1 q_v2
 clear hp kp kv kr kx kc hl0 hB hmm
 go_loopw [10] (fun i wr => ∃ (j : Nat) (fv : Value), j ≤ mo ∧ i = .int .i64 (((mo : Int) - 1 - (j : Int)) * p) ∧ CoAt w.heap.size w wr (cmPof Q v a n c) bc bm 0 M ⟨fun _ => none, (freeN p mo).take j, []⟩ w.heap.size V1.heap.size V2.heap.size bx fv (.slice none 0 0) L0) (fun i _ => (intOf i + p).toNat)
 case atStart => exact ⟨0, .slice none 0 0, Nat.zero_le _, by rw [hAsH.out], co0⟩
 case round =>
  clear co0
  obtain ⟨j, fv, hj, hiE, co⟩ := hrel
  obtain ⟨A, hA⟩ : ∃ A, ((mo : Int) - 1 - (j : Int)) * p = A := ⟨_, rfl⟩
  rw [hA] at hiE
  subst hiE
  have hAn : ((mo : Int) - 1 - ((j + 1 : Nat) : Int)) * p = A - p := by rw [← hA]; push_cast; rw [show (mo : Int) - 1 - ((j : Int) + 1) = ((mo : Int) - 1 - (j : Int)) - 1 by omega, Int.sub_mul _ 1 p, Int.one_mul]
  have hAnH := Lib.hid hAn
  by_cases hlt : j < mo
  case pos =>
   have hA0 : 0 ≤ A := by rw [← hA]; exact Int.mul_nonneg (by omega) (by omega)
   have hA1 : A ≤ R := by rw [← hA, hRmH.out]; exact Int.mul_le_mul_of_nonneg_right (by omega) (by omega)
   have hge : A ≥ 0 := hA0
   have hged : decide (A ≥ 0) = true := decide_eq_true hge
   have hAH := Lib.hid hA
   clear hA hAn
   have x0 := co.kx.cell (i := 0) rfl
   go_wp2_with fail
   have htk := freeN_take p hlt
   rw [hAH.out] at htk
   have hftl : ((freeN p mo).take j).length = j := by rw [List.length_take, freeN_len]; omega
   obtain ⟨FT, hFT⟩ : ∃ l, (freeN p mo).take j = l := ⟨_, rfl⟩
   rw [hFT] at co htk hftl
   have htkH := Lib.hid htk
   have hftlH := Lib.hid hftl
   clear hFT htk hftl
   have h2 := co.below (Below.refl _ wr).drew
   have hS : Blk wr.drew bx 100 #[.pointer (some ⟨bc, 0, none⟩)] ∧ Blk wr.drew bc 103 (cmC (cmPof Q v a n c) bm fv (.slice none 0 0)) := ⟨h2.kx, h2.cm.c⟩
   clear co x0
   refine plain_region (fun W' => Blk W' bx 100 #[.pointer (some ⟨bc, 0, none⟩)] ∧ Blk W' bc 103 (cmC (cmPof Q v a n c) bm fv (.slice none 0 0))) 10 11 (by kernel_rfl) rfl ?_
   simp only [Array.replicate_succ, Array.replicate_zero, List.push_toArray, List.nil_append, List.cons_append]
   obtain ⟨X0, hXX0⟩ : ∃ X : World, wr.drew = X := ⟨_, rfl⟩
   rw [hXX0] at hS h2 ⊢
   clear hXX0
   have FA0 := Lib.hid (fun w' (hS' : (fun W' => Blk W' bx 100 #[.pointer (some ⟨bc, 0, none⟩)] ∧ Blk W' bc 103 (cmC (cmPof Q v a n c) bm fv (.slice none 0 0))) w') => And.intro (hS'.1.cell (i := 0) rfl) (hS'.2.cell (i := 8) rfl))
   refine tkz 0 rfl hS (fun w' hS' => by obtain ⟨x0, y8⟩ := FA0.out w' hS'; clear hS'; go_simp; rfl) ?_
   simp only [nrz]
   refine tkz 1 rfl hS (fun w' hS' => by obtain ⟨x0, y8⟩ := FA0.out w' hS'; clear hS'; go_simp; rfl) ?_
   simp only [nrz]
   refine tkz 2 rfl hS (fun w' hS' => by go_simp; rfl) ?_
   simp only [nrz]
   refine tkz 3 rfl hS (fun w' hS' => by go_simp; rfl) ?_
   simp only [nrz]
   refine tkz 4 rfl hS (fun w' hS' => by obtain ⟨x0, y8⟩ := FA0.out w' hS'; clear hS'; go_simp; rfl) ?_
   simp only [nrz]
   refine tkz 5 rfl hS (fun w' hS' => by go_simp; rfl) ?_
   simp only [nrz]
   refine step_op 6 (by kernel_rfl) rfl (fun K hK => ?_)
   rw [if_pos (by rfl)]
   go_simp
   have hbA := jb_al (Below.refl _ X0) (.cells #[.int .i64 A] 3)
   have ky := Blk.new X0 3 #[.int .i64 A]
   have h6 := h2.below hbA
   have hS6 : Blk (X0.alloc (.cells #[.int .i64 A] 3)) bx 100 #[.pointer (some ⟨bc, 0, none⟩)] ∧ Blk (X0.alloc (.cells #[.int .i64 A] 3)) bc 103 (cmC (cmPof Q v a n c) bm fv (.slice none 0 0)) := ⟨hS.1.below hbA hS.1.lt, hS.2.below hbA hS.2.lt⟩
   obtain ⟨by_, hby⟩ : ∃ b, X0.heap.size = b := ⟨_, rfl⟩
   obtain ⟨X6, hX6⟩ : ∃ X, (X0.alloc (.cells #[.int .i64 A] 3)) = X := ⟨_, rfl⟩
   rw [hX6] at ky h6 hS6 ⊢
   rw [hby] at ky ⊢
   clear hX6 hby hbA h2 hS
   refine hK.out _ _ (fun h => hS6) ?_
   clear hK K
   try simp only [Act.put, nrz]
   refine step_op 7 (by kernel_rfl) rfl (fun K hK => ?_)
   have hftl := hftlH.out
   refine step_append_atQ rfl (.tmp 53) (.tmp 55) 30 rfl w.heap.size 3 i0 (.int .i64 0) 1 8 Tryz.underlying30 hi hz0 hz1 hz2 rfl (by decide) fv FT.length _ rfl h6.cm.free ⟨by_, 0, none⟩ 1 1 [.int .i64 A] rfl rfl (blk_news ky) (by simp [Value.oneCell']) (by have := hftlH.out; unfold maxLen; omega) (by omega) (by have := h6.le; have := h6.hb.size; omega) ?_
   intro fv' X7 hown7 hg7 hat7
   obtain ⟨ca, cc, rfl⟩ := row_slice hown7
   have k1 := grown_trn hg7 (fun b => fv.ownBlock = some b) (fun b e => e)
   have hS7 : Blk X7 bx 100 #[.pointer (some ⟨bc, 0, none⟩)] ∧ Blk X7 bc 103 (cmC (cmPof Q v a n c) bm fv (.slice none 0 0)) := ⟨k1.blk hS6.1 (fun e => hS6.1.not_row ptr_ne_int h6.cm.free e.symm), k1.blk hS6.2 (fun e => hS6.2.not_row int_ne_cmp h6.cm.free e.symm)⟩
   have h7 := h6.freeing hown7 hg7 (hat7.elim .inl (fun h => .inr ⟨_, h, Nat.le_refl _⟩))
   have e8 := hS7.2.cell (i := 8) rfl
   have f8 := hS7.2.frozen 8
   clear hown7 hg7 hat7 h6 ky hS6 k1 hftl
   refine hK.out _ _ (fun h => hS7) ?_
   clear hK K
   try simp only [Act.put, nrz]
   refine step_op 8 (by kernel_rfl) rfl (fun K hK => ?_)
   rw [if_pos (by rfl)]
   go_simp
   refine hK.out _ _ (fun h => hS7) ?_
   clear hK K
   try simp only [Act.put, nrz]
   refine tkz 9 rfl hS7 (fun w' hS' => by go_simp; rfl) ?_
   simp only [nrz]
   refine step_op 10 (by kernel_rfl) rfl (fun K hK => ?_)
   rw [if_pos (by rfl)]
   go_simp
   clear e8 f8
   refine hK.out _ _ (fun h => absurd h (by omega)) ?_
   clear hK K
   try simp only [Act.put, nrz]
   refine done_ops (by kernel_rfl) ?_
   clear hS7
   have h8 : ∃ fx, CoAt w.heap.size w (X7.setCell ⟨bc, 8, none⟩ (.slice ca (FT.length + 1) cc)) (cmPof Q v a n c) bc bm 0 M ⟨fun _ => none, (freeN p mo).take (j + 1), []⟩ w.heap.size V1.heap.size V2.heap.size bx fx (.slice none 0 0) L0 := ⟨_, by rw [htkH.out]; exact h7⟩
   clear h7
   go_wp2_with fail
   go_roundw
   case rel =>
    obtain ⟨fx, h8⟩ := h8
    exact ⟨j + 1, fx, by omega, by rw [hAnH.out], h8⟩
   case measure => simp only [intOf]; omega
  case neg =>
   have hjm : mo = j := by omega
   have hA0 : A = -p := by rw [← hA, ← hjm, show (mo : Int) - 1 - (mo : Int) = -1 by omega]; omega
   have hge : ¬ A ≥ 0 := by omega
   have hged : decide (A ≥ 0) = false := decide_eq_false hge
   have htk : (freeN p mo).take j = freeN p mo := List.take_of_length_le (by rw [freeN_len]; omega)
   rw [htk] at co
   clear hA hAn hAnH hj hlt htk hjm hA0
   have o0 : wr.cell? ⟨w.heap.size, 0, none⟩ = some (.int .i64 Q.w) := co.kp.cell (i := 0) rfl
   have o1 : wr.cell? ⟨w.heap.size, 1, none⟩ = some (.int .i64 Q.h) := co.kp.cell (i := 1) rfl
   have ko0 := Blk.new wr 43 #[.int .i64 0, .int .i64 0, .slice none 0 0, .int .i64 0, .slice none 0 0]
   obtain ⟨bo, hbo⟩ : ∃ b, wr.heap.size = b := ⟨_, rfl⟩
   obtain ⟨Y1, hEY1⟩ : ∃ X, wr.alloc (.cells #[.int .i64 0, .int .i64 0, .slice none 0 0, .int .i64 0, .slice none 0 0] 43) = X := ⟨_, rfl⟩
   have hbY : Below wr.heap.size wr Y1 := alloc_below hEY1
   rw [hEY1, hbo] at ko0
   have ko := put5_blk ko0 (.int .i64 Q.w) (.int .i64 Q.h) (.slice none 0 0) (.int .i64 0) (.slice none 0 0)
   have hbY2 : Below wr.heap.size wr (put5 Y1 bo (.int .i64 Q.w) (.int .i64 Q.h) (.slice none 0 0) (.int .i64 0) (.slice none 0 0)) := hbY.trans ((put5_trn Y1 bo _ _ _ _ _).below hbY.size (fun b hb e => by subst e; omega))
   obtain ⟨y0, y1, y2, y3, y4⟩ := cz5 ko0
   have fy0 := ko0.frozen 0
   have fy1 := ko0.frozen 1
   have fy2 := ko0.frozen 2
   have fy3 := ko0.frozen 3
   have fy4 := ko0.frozen 4
   have hbobr : V2.heap.size < bo := by rw [← hbo]; exact co.kr.lt
   obtain ⟨Y2, hEY2⟩ : ∃ X, put5 Y1 bo (.int .i64 Q.w) (.int .i64 Q.h) (.slice none 0 0) (.int .i64 0) (.slice none 0 0) = X := ⟨_, rfl⟩
   rw [hEY2] at ko hbY2
   replace co := co.below hbY2
   clear hbY ko0 hbY2
   go_wp2_with fail
   clear o0 o1 y0 y1 y2 y3 y4 fy0 fy1 fy2 fy3 fy4 hEY1 hEY2 hbo hge hged
   have hP1 := hpbH.out
   have hrf := refOk_of hP1
   have hst := fun i (h : i < n) => hQH.out.st i (by have := hnH.out; omega)
   have hNle : (rdsN Q.inp Q.ss).length ≤ n := by have h : (rdsN Q.inp Q.ss).length ≤ Q.ss.length := (rdsN_ok hrf).len; have h2 := hnH.out; omega
   have hkeys : ∀ q, q < (rdsN Q.inp Q.ss).length → ∀ m ∈ opsN (rnAt (rdsN Q.inp Q.ss) q).head, 0 ≤ m ∧ m < Q.inp + n := fun q hq m hm => by
    have h1 := (rdsN_ok hrf).head q hq
    have h2 : (rnAt (rdsN Q.inp Q.ss) q).head = stAt Q.ss (rnAt (rdsN Q.inp Q.ss) q).at_ := h1.2
    rw [h2] at hm
    have h4 : (rnAt (rdsN Q.inp Q.ss) q).at_ < Q.ss.length := h1.1
    have h3 : 0 ≤ m ∧ m < Q.inp + ((rnAt (rdsN Q.inp Q.ss) q).at_ : Int) := hrf _ h4 m hm
    have h5 := hnH.out
    omega
   have hrd := fun W (h1 : w.heap.size ≤ W.heap.size) h2 => rounds_any Q a n c hnH.out (by omega) (by omega) hst hrf w.heap.size W h1 h2
   have hus := fun x v hx B W h1 h2 => uses_any Q a n c hnH.out hn12 (by omega) (rdsN Q.inp Q.ss) _ rfl (by omega) x v hx hkeys w.heap.size B W h1 h2
   unfold pipev at hrd hus
   have hrdH := Lib.hid hrd
   have husH := Lib.hid hus
   clear hrd hus hkeys hNle hst hrf hP1
   replace co := co.below (Below.refl _ Y2).drew
   replace ko := ko.below (Below.refl _ Y2).drew ko.lt
   have hS : Blk Y2.drew w.heap.size 24 #[.int .i64 Q.w, .int .i64 Q.h, .int .i64 Q.inp, .slice a n c] := co.kp
   refine plain_region (fun W' => Blk W' w.heap.size 24 #[.int .i64 Q.w, .int .i64 Q.h, .int .i64 Q.inp, .slice a n c]) 5 5 (by kernel_rfl) rfl ?_
   simp only [Array.replicate_succ, Array.replicate_zero, List.push_toArray, List.nil_append, List.cons_append]
   obtain ⟨X0, hXX0⟩ : ∃ X : World, Y2.drew = X := ⟨_, rfl⟩
   rw [hXX0] at hS co ko ⊢
   clear hXX0
   refine tkz 0 rfl hS (fun w' hS' => by obtain ⟨o0, o1, o2, o3⟩ := cz4 hS'; clear hS'; go_simp; rfl) ?_
   simp only [nrz]
   refine tkz 1 rfl hS (fun w' hS' => by obtain ⟨o0, o1, o2, o3⟩ := cz4 hS'; clear hS'; go_simp; rfl) ?_
   simp only [nrz]
   refine step_op 2 (by kernel_rfl) rfl (fun K hK => ?_)
   have hcc := hrdH.out X0 co.hb.size (hr0.below (Nat.le_refl _) co.hb)
   rw [if_pos (by rfl)]
   go_simp
   refine hcc.mono ?_
   clear hcc
   rintro e X5 ⟨rv, rx, rfl, hrs, hrx, hb5⟩
   have hS5 := hS.below hb5 hS.lt
   replace co := co.below hb5
   replace ko := ko.below hb5 ko.lt
   clear hS hb5
   refine hK.out _ _ (fun h => hS5) ?_
   clear hK K
   try simp only [Act.put, nrz]
   refine step_op 3 (by kernel_rfl) rfl (fun K hK => ?_)
   have hcc := husH.out rx rv hrx X0.heap.size X5 co.hb.size hrs
   rw [if_pos (by rfl)]
   go_simp
   refine hcc.mono ?_
   clear hcc
   rintro e X6 ⟨bL, rfl, hbL, lm, hb6⟩
   have hS6 := hS5.below hb6 hS5.lt
   have hbLm : bL ≠ bm := by have := co.cm.at_.lt; omega
   have hbow : w.heap.size ≤ bo := by have := co.hb.size; omega
   replace co := co.below hb6
   replace ko := ko.below hb6 ko.lt
   clear hS5 hb6 hrs hrx
   refine hK.out _ _ (fun h => hS6) ?_
   clear hK K
   try simp only [Act.put, nrz]
   refine tkz 4 rfl hS6 (fun w' hS' => by go_simp; rfl) ?_
   simp only [nrz]
   refine done_ops (by kernel_rfl) ?_
   clear hS6
   have h0F : lefF (Q.inp + n - 1) (rdsN Q.inp Q.ss) (rdsN Q.inp Q.ss).length = lefF (lastI Q) (rdsN Q.inp Q.ss) (rdsN Q.inp Q.ss).length := by unfold lastI; rw [hnH.out]
   rw [h0F, hMH.out] at lm
   obtain ⟨F0, hF0⟩ : ∃ F, lefF (lastI Q) (rdsN Q.inp Q.ss) (rdsN Q.inp Q.ss).length = F := ⟨_, rfl⟩
   rw [hF0] at lm
   obtain ⟨C0, hC0⟩ : ∃ C : CmN, (⟨fun _ => none, freeN p mo, []⟩ : CmN) = C := ⟨_, rfl⟩
   rw [hC0] at co
   have hFC := Lib.hid (And.intro hF0 hC0)
   have hcond := fun k h1 h2 => inp_conds (k := k) hpbH.out (zero_given hpbH.out) (vecOk_of hpbH.out hvbH.out hroomH.out).ne h1 h2
   have hplc := fun t (h : t < mostP Q) => place_in (vecOk_of hpbH.out hvbH.out hroomH.out) h
   rw [hmoH.out, hpH.out, hF0, hC0] at hcond
   rw [hmoH.out] at hplc
   have hcondH := Lib.hid hcond
   have hplcH := Lib.hid hplc
   have hcd := fun k => inpN_code F0 C0 k
   have hcd0 : C0.code = [] := by rw [← hC0]
   rw [hcd0] at hcd
   have hcdH := Lib.hid hcd
   have hil := fun k => inp_len F0 C0 k
   have hilH := Lib.hid hil
   clear hcond hplc hcd hcd0 hil
   clear h0F hF0 hC0 hrdH husH
   have ci0 : CiAt w.heap.size w X6 (cmPof Q v a n c) bc bm 0 M (inpN F0 C0 0).c w.heap.size V1.heap.size V2.heap.size bx bo bL F0 fv (.slice none 0 0) L0 0 (inpN F0 C0 0).inp := ⟨co, ko, World.ownsRow_nil _ _ _ _, fun b hb => (by cases hb), lm, ⟨hbobr, hbLm, hbow⟩⟩
   clear co ko lm
   have q2 : X6.cell? ⟨w.heap.size, 2, none⟩ = some (.int .i64 Q.inp) := ci0.co.kp.cell (i := 2) rfl
   go_wp2_with fail
   clear q2
   go_loopw [70] (fun i wr => ∃ (k : Nat) (fx iv : Value), k ≤ Q.inp.toNat ∧ i = .int .i64 (k : Int) ∧ CiAt w.heap.size w wr (cmPof Q v a n c) bc bm k M (inpN F0 C0 k).c w.heap.size V1.heap.size V2.heap.size bx bo bL F0 fx iv L0 k (inpN F0 C0 k).inp) (fun i _ => Q.inp.toNat - (intOf i).toNat)
   case atStart => exact ⟨0, fv, .slice none 0 0, Nat.zero_le _, rfl, ci0⟩
   case round =>
    clear ci0
    obtain ⟨k, fx, iv, hk, rfl, ci⟩ := hrel
    by_cases hlt : k < Q.inp.toNat
    case pos =>
     have hlt1 : (k : Int) < Q.inp := by omega
     have hltd : decide ((k : Int) < Q.inp) = true := decide_eq_true hlt1
     have hlk := ci.lm.run_look (t := 101) Tryz.underlying3 Tryz.underlying101 Tryz.underlying3 (zero_num _) (k : Int) (wf_num ⟨by omega, by omega⟩)
     have hstep : inpN F0 C0 (k + 1) = if numF (F0 (k : Int)) = 0 then ⟨(inpN F0 C0 k).c, (inpN F0 C0 k).inp ++ [-1]⟩ else ⟨placeN (inpN F0 C0 k).c (k : Int), (inpN F0 C0 k).inp ++ [lastN (inpN F0 C0 k).c]⟩ := rfl
     have hcn := hcondH.out k hlt
     have hc0 := hcdH.out k
     have hil := hilH.out k
     obtain ⟨q, hq⟩ : ∃ q, numF (F0 (k : Int)) = q := ⟨_, rfl⟩
     rw [hq] at hlk hstep hcn
     obtain ⟨⟨D, inp⟩, hD⟩ : ∃ D, inpN F0 C0 k = D := ⟨_, rfl⟩
     rw [hD] at ci hstep hcn hc0 hil
     simp only at ci hstep hcn hc0 hil
     have hstepH := Lib.hid hstep
     have hcnH := Lib.hid hcn
     have hilnH := Lib.hid hil
     clear hq hD hstep hcn hil
     by_cases hq0 : q = 0
     case pos =>
      have hqb : (q == 0) = true := by simp [hq0]
      have hnx : inpN F0 C0 (k + 1) = ⟨D, inp ++ [-1]⟩ := by rw [hstepH.out, if_pos hq0]
      have hnxH := Lib.hid hnx
      clear hq0 hnx
      have o2 := ci.ko.cell (i := 2) rfl
      have fo2 := ci.ko.frozen 2
      obtain ⟨Y3, hEY3, hbY3, kq3⟩ := newB wr 3 #[.int .i64 (-1)]
      replace ci := ci.below hbY3
      clear hbY3 fo2
      go_wp2_with (at_builtin; refine wpList_append_own_at _ rfl _ _ 30 rfl w.heap.size 3 i0 (.int .i64 0) 1 8 Tryz.underlying30 hi hz0 hz1 hz2 rfl (by decide) iv k (inp.map (Value.int .i64)) rfl ci.ir ⟨wr.heap.size, 0, none⟩ 1 1 [.int .i64 (-1)] rfl rfl (blk_news kq3) (by simp [Value.oneCell']) (by unfold maxLen; omega) (by omega) (by have := ci.co.hb.size; omega) ?_; intro iv' w4 hown4 hgr4 hnil4 hat4; obtain ⟨ia, ic, rfl⟩ := row_slice hown4; obtain ⟨ci4, ko4⟩ := ci.push (x := -1) hown4 hgr4 (hat4.elim .inl (fun h => .inr ⟨_, h, Nat.le_refl _⟩)); have o4 := ko4.cell (i := 2) rfl; have fo4 := ko4.frozen 2; clear hown4 hgr4 hnil4 hat4)
      have h8 : ∃ fz iz, CiAt w.heap.size w (w4.setCell ⟨bo, 2, none⟩ (.slice ia (k + 1) ic)) (cmPof Q v a n c) bc bm (k + 1) M (inpN F0 C0 (k + 1)).c w.heap.size V1.heap.size V2.heap.size bx bo bL F0 fz iz L0 (k + 1) (inpN F0 C0 (k + 1)).inp := ⟨_, _, by rw [hnxH.out]; exact ci4.more (by omega)⟩
      clear ci4 ko4 o4 fo4 ci kq3
      go_roundw
      case rel =>
       obtain ⟨fz, iz, h8⟩ := h8
       exact ⟨k + 1, fz, iz, by omega, by go_num, h8⟩
      case measure => simp [intOf]; omega
     case neg =>
      have hqb : (q == 0) = false := by simp [hq0]
      have hnx : inpN F0 C0 (k + 1) = ⟨placeN D (k : Int), inp ++ [lastN D]⟩ := by rw [hstepH.out, if_neg hq0]
      have hnxH := Lib.hid hnx
      obtain ⟨fs, hf1, hf2, hf3, t, ht1, ht2⟩ := hcnH.out hq0
      have hfl : D.free.length = fs.length := by
       have h3 : D.free = freeL (Q.w.toNat * Q.h.toNat) fs := hf3
       rw [h3]; unfold freeL; rw [List.length_map]
      have hfl0 : fs.length ≠ 0 := fun e => hf1 (List.length_eq_zero_iff.1 e)
      have hlb := hplcH.out t ht1
      have ht3 : lastN D = (t : Int) * (Q.w.toNat * Q.h.toNat : Nat) := ht2
      obtain ⟨x, hx⟩ : ∃ x, lastN D = x := ⟨_, rfl⟩
      have hxb : 0 ≤ x ∧ x ≤ 100000 := by omega
      have hpl := fun W (h : CmAt w.heap.size W (cmPof Q v a n c) bc bm k M D fx (.slice none 0 0) L0) => place_any w.heap.size W (cmPof Q v a n c) bc bm k M D fx (.slice none 0 0) L0 h (fs.length - 1) (by omega) (by omega) k (by have := hMH.out; omega) (by omega) (by omega) (by rw [hx]; exact hxb)
      rw [hx] at hpl hnxH
      have hplH := Lib.hid hpl
      clear hq0 hnx hf1 hf2 hf3 ht1 ht2 ht3 hfl hfl0 hlb hpl hx hcnH hstepH
      go_wp2_with fail
      replace ci := ci.below (Below.refl _ wr).drew
      have hS : Blk wr.drew bo 43 #[.int .i64 Q.w, .int .i64 Q.h, iv, .int .i64 0, .slice none 0 0] ∧ Blk wr.drew bx 100 #[.pointer (some ⟨bc, 0, none⟩)] := ⟨ci.ko, ci.co.kx⟩
      clear hlk hqb hltd
      refine plain_region (fun W' => Blk W' bo 43 #[.int .i64 Q.w, .int .i64 Q.h, iv, .int .i64 0, .slice none 0 0] ∧ Blk W' bx 100 #[.pointer (some ⟨bc, 0, none⟩)]) 8 9 (by kernel_rfl) rfl ?_
      simp only [Array.replicate_succ, Array.replicate_zero, List.push_toArray, List.nil_append, List.cons_append]
      obtain ⟨X0, hXX0⟩ : ∃ X : World, wr.drew = X := ⟨_, rfl⟩
      rw [hXX0] at hS ci ⊢
      clear hXX0
      have FA1 := Lib.hid (fun w' (hS' : (fun W' => Blk W' bo 43 #[.int .i64 Q.w, .int .i64 Q.h, iv, .int .i64 0, .slice none 0 0] ∧ Blk W' bx 100 #[.pointer (some ⟨bc, 0, none⟩)]) w') => And.intro (hS'.1.cell (i := 2) rfl) (hS'.2.cell (i := 0) rfl))
      refine tkz 0 rfl hS (fun w' hS' => by go_simp; rfl) ?_
      simp only [nrz]
      refine tkz 1 rfl hS (fun w' hS' => by obtain ⟨o2, x0⟩ := FA1.out w' hS'; clear hS'; go_simp; rfl) ?_
      simp only [nrz]
      refine tkz 2 rfl hS (fun w' hS' => by obtain ⟨o2, x0⟩ := FA1.out w' hS'; clear hS'; go_simp; rfl) ?_
      simp only [nrz]
      refine tkz 3 rfl hS (fun w' hS' => by go_simp; rfl) ?_
      simp only [nrz]
      refine step_op 4 (by kernel_rfl) rfl (fun K hK => ?_)
      rw [if_pos (by rfl)]
      go_simp
      refine (hplH.out X0 ci.co.cm).mono ?_
      rintro e X4 ⟨rfl, fy, hcm4, hT4, hfv4⟩
      have ci4 := ci.place hcm4 hT4 hfv4
      have hS4 : Blk X4 bo 43 #[.int .i64 Q.w, .int .i64 Q.h, iv, .int .i64 0, .slice none 0 0] ∧ Blk X4 bx 100 #[.pointer (some ⟨bc, 0, none⟩)] := ⟨ci4.ko, ci4.co.kx⟩
      clear hcm4 hT4 hfv4 ci hS
      refine hK.out _ _ (fun h => hS4) ?_
      clear hK K
      try simp only [Act.put, nrz]
      refine step_op 5 (by kernel_rfl) rfl (fun K hK => ?_)
      rw [if_pos (by rfl)]
      go_simp
      have hbA := jb_al (Below.refl _ X4) (.cells #[.int .i64 x] 3)
      have ky := Blk.new X4 3 #[.int .i64 x]
      have ci6 := ci4.below hbA
      have hS6 : Blk (X4.alloc (.cells #[.int .i64 x] 3)) bo 43 #[.int .i64 Q.w, .int .i64 Q.h, iv, .int .i64 0, .slice none 0 0] ∧ Blk (X4.alloc (.cells #[.int .i64 x] 3)) bx 100 #[.pointer (some ⟨bc, 0, none⟩)] := ⟨ci6.ko, ci6.co.kx⟩
      obtain ⟨by_, hby⟩ : ∃ b, X4.heap.size = b := ⟨_, rfl⟩
      obtain ⟨X6, hX6⟩ : ∃ X, (X4.alloc (.cells #[.int .i64 x] 3)) = X := ⟨_, rfl⟩
      rw [hX6] at ky ci6 hS6 ⊢
      rw [hby] at ky ⊢
      clear hX6 hby hbA ci4 hS4
      refine hK.out _ _ (fun h => hS6) ?_
      clear hK K
      try simp only [Act.put, nrz]
      refine step_op 6 (by kernel_rfl) rfl (fun K hK => ?_)
      refine step_append_atQ rfl (.tmp 83) (.tmp 87) 30 rfl w.heap.size 3 i0 (.int .i64 0) 1 8 Tryz.underlying30 hi hz0 hz1 hz2 rfl (by decide) iv k (inp.map (Value.int .i64)) rfl ci6.ir ⟨by_, 0, none⟩ 1 1 [.int .i64 x] rfl rfl (blk_news ky) (by simp [Value.oneCell']) (by unfold maxLen; omega) (by omega) (by have := ci6.co.hb.size; omega) ?_
      intro iv' X7 hown7 hg7 hat7
      obtain ⟨ia, ic, rfl⟩ := row_slice hown7
      obtain ⟨ci7, ko7⟩ := ci6.push (x := x) hown7 hg7 (hat7.elim .inl (fun h => .inr ⟨_, h, Nat.le_refl _⟩))
      have k1 := grown_trn hg7 (fun b => iv.ownBlock = some b) (fun b e => e)
      have hS7 : Blk X7 bo 43 #[.int .i64 Q.w, .int .i64 Q.h, iv, .int .i64 0, .slice none 0 0] ∧ Blk X7 bx 100 #[.pointer (some ⟨bc, 0, none⟩)] := ⟨ko7, k1.blk hS6.2 (fun e => hS6.2.not_row ptr_ne_int ci6.ir e.symm)⟩
      have e2o := ko7.cell (i := 2) rfl
      have f2o := ko7.frozen 2
      clear hown7 hg7 hat7 ci6 ky hS6 k1 ko7
      refine hK.out _ _ (fun h => hS7) ?_
      clear hK K
      try simp only [Act.put, nrz]
      refine tkz 7 rfl hS7 (fun w' hS' => by go_simp; rfl) ?_
      simp only [nrz]
      refine step_op 8 (by kernel_rfl) rfl (fun K hK => ?_)
      rw [if_pos (by rfl)]
      go_simp
      clear e2o f2o
      refine hK.out _ _ (fun h => absurd h (by omega)) ?_
      clear hK K
      try simp only [Act.put, nrz]
      refine done_ops (by kernel_rfl) ?_
      clear hS7
      have h8 : ∃ fz iz, CiAt w.heap.size w (X7.setCell ⟨bo, 2, none⟩ (.slice ia (k + 1) ic)) (cmPof Q v a n c) bc bm (k + 1) M (inpN F0 C0 (k + 1)).c w.heap.size V1.heap.size V2.heap.size bx bo bL F0 fz iz L0 (k + 1) (inpN F0 C0 (k + 1)).inp := ⟨_, _, by rw [hnxH.out]; exact ci7⟩
      clear ci7
      go_wp2_with fail
      go_roundw
      case rel =>
       obtain ⟨fz, iz, h8⟩ := h8
       exact ⟨k + 1, fz, iz, by omega, by go_num, h8⟩
      case measure => simp [intOf]; omega
    case neg =>
     have hkI : k = Q.inp.toNat := by omega
     have hlt1 : ¬ (k : Int) < Q.inp := by omega
     have hltd : decide ((k : Int) < Q.inp) = false := decide_eq_false hlt1
     have hC1 : (inpN F0 C0 k).c = cmpS Q v.lanes 0 := by rw [hkI, cmpS]; unfold cmp0; rw [hFC.out.1, hmoH.out, hpH.out, hFC.out.2]
     have hI1 : (inpN F0 C0 k).inp = (cmp0 Q (mostP Q)).inp := by rw [hkI]; unfold cmp0; rw [hFC.out.1, hmoH.out, hpH.out, hFC.out.2]
     rw [hC1, hI1] at ci
     have hilk := hilH.out k
     rw [hI1] at hilk
     have hilkH := Lib.hid hilk
     clear hC1 hI1 hcdH hilH hcondH hplcH hlt hilk hkI
     have hP1 := hpbH.out
     have hrf := refOk_of hP1
     have hst := fun i (h : i < n) => hQH.out.st i (by have := hnH.out; omega)
     obtain ⟨hcm, kp, kv, kr, kx, hbB, hle⟩ := ci.co
     have ko := ci.ko
     have hnb : ¬ (CmS bc bm (cmpS Q v.lanes 0).code.length fx (.slice none 0 0) L0 bo ∨ bo = w.heap.size ∨ bo = bx) := fun hh => by
      rcases hh with h | h | h
      ·exact hcm.not_blk ko cod_ne_cmp cod_ne_ins cod_ne_int h
      ·exact blk_ne ko kp (by decide) h
      ·exact blk_ne ko kx (by decide) h
     have hnr : ¬ (CmS bc bm (cmpS Q v.lanes 0).code.length fx (.slice none 0 0) L0 V2.heap.size ∨ V2.heap.size = w.heap.size ∨ V2.heap.size = bx) := fun hh => by
      rcases hh with h | h | h
      ·exact hcm.not_blk kr cod_ne_cmp cod_ne_ins cod_ne_int h
      ·exact blk_ne kr kp (by decide) h
      ·exact blk_ne kr kx (by decide) h
     have hni : ∀ b, iv.ownBlock = some b → ¬ (CmS bc bm (cmpS Q v.lanes 0).code.length fx (.slice none 0 0) L0 b ∨ b = w.heap.size ∨ b = bx) := fun b hb hh => by
      rcases hh with h | h | h
      ·exact ci.dis b hb h
      ·subst h; exact kp.not_row pip_ne_int ci.ir hb.symm
      ·subst h; exact kx.not_row ptr_ne_int ci.ir hb.symm
     have hsz := hbB.size
     have hcm0 : CmAt w.heap.size wr (cmPof Q v a n c) bc bm (Q.inp.toNat + 0) (Q.inp.toNat + n) (cmpS Q v.lanes 0) fx (.slice none 0 0) L0 := by rw [hMH.out]; exact hcm.km (by omega)
     have hJ : CJ w.heap.size Q v a n c bc bm w.heap.size bx 0 (fun b => CmS bc bm (cmpS Q v.lanes 0).code.length fx (.slice none 0 0) L0 b ∨ b = w.heap.size ∨ b = bx) wr := ⟨fx, _, L0, ⟨hcm0, kp, kx, fun b => Iff.rfl, ⟨Nat.le_refl _, hbxw⟩⟩⟩
     have hlo0 : ∀ b, (CmS bc bm (cmpS Q v.lanes 0).code.length fx (.slice none 0 0) L0 b ∨ b = w.heap.size ∨ b = bx) → w.heap.size ≤ b := fun b hh => by
      rcases hh with h | h | h
      ·exact (hcm.own b h).1
      ·omega
      ·omega
     have hpl := plan_any Q a n c hnH.out hn12 (by omega) hst hrf w.heap.size wr hsz (hr0.below (Nat.le_refl _) hbB) 54 #[.pointer (some ⟨w.heap.size, 0, none⟩), .pointer (some ⟨bx, 0, none⟩)] enters_c1 _ (Q.inp + n - 1) rfl (cj_do hP1 hvbH.out hroomH.out a n c hnH.out hst w.heap.size bc bm w.heap.size bx) _ hJ
     have ir := ci.ir
     unfold pipev at hpl
     have hplH := Lib.hid hpl
     clear hpl hP1 hrf hst hcm0 hJ hcm ci
     obtain ⟨S1, hS1⟩ : ∃ S : Nat → Prop, (fun b => CmS bc bm (cmpS Q v.lanes 0).code.length fx (.slice none 0 0) L0 b ∨ b = w.heap.size ∨ b = bx) = S := ⟨_, rfl⟩
     rw [hS1] at hplH
     have hnb' : ¬ S1 bo := by rw [← hS1]; exact hnb
     have hnr' : ¬ S1 V2.heap.size := by rw [← hS1]; exact hnr
     have hni' : ∀ b, iv.ownBlock = some b → ¬ S1 b := by rw [← hS1]; exact hni
     have hlo' : ∀ b, S1 b → w.heap.size ≤ b := by rw [← hS1]; exact hlo0
     have hniH := Lib.hid hni'
     have hloH := Lib.hid hlo'
     clear hnb hnr hni hlo0 hS1 hni' hlo' kx
     have o0 : wr.cell? ⟨w.heap.size, 0, none⟩ = some (.int .i64 Q.w) := kp.cell (i := 0) rfl
     have o1 : wr.cell? ⟨w.heap.size, 1, none⟩ = some (.int .i64 Q.h) := kp.cell (i := 1) rfl
     have o2 : wr.cell? ⟨w.heap.size, 2, none⟩ = some (.int .i64 Q.inp) := kp.cell (i := 2) rfl
     have o3 : wr.cell? ⟨w.heap.size, 3, none⟩ = some (.slice a n c) := kp.cell (i := 3) rfl
     go_wp2_with (go_at_call 53; refine hplH.out.mono ?_; rintro e w2 ⟨⟨vv, rfl⟩, S2, ⟨fv2, cv2, l2, hcj⟩, hT, hsub⟩)
     clear o0 o1 o2 o3 hplH
     replace ko := hT.blk ko hnb'
     replace kr := hT.blk kr hnr'
     replace ir := hT.row ir hniH.out
     have hB2 : Below w.heap.size w w2 := hbB.trans (hT.below hsz (fun b hb hs => by have := hloH.out b hs; omega))
     clear kp kv hbB hle hT hsub hnb' hnr' hniH hloH hsz
     replace hB2 := hB2.drew
     replace ko := ko.below (Below.refl _ w2).drew ko.lt
     replace kr := kr.below (Below.refl _ w2).drew kr.lt
     replace ir := row_below ir (Below.refl _ w2).drew
     have cm := hcj.cm.below (Below.refl _ w2).drew
     have kx := hcj.kx.below (Below.refl _ w2).drew hcj.kx.lt
     have hS : Blk w2.drew bx 100 #[.pointer (some ⟨bc, 0, none⟩)] ∧ Blk w2.drew w.heap.size 24 #[.int .i64 Q.w, .int .i64 Q.h, .int .i64 Q.inp, .slice a n c] ∧ Blk w2.drew bc 103 (cmC (cmPof Q v a n c) bm fv2 cv2) := ⟨kx, hcj.kp.below (Below.refl _ w2).drew hcj.kp.lt, cm.c⟩
     clear hcj
     obtain ⟨O, hO⟩ : ∃ O, numF ((cmpS Q v.lanes (rdsN Q.inp Q.ss).length).at_ (Q.inp + (n : Int) - 1)) = O := ⟨_, rfl⟩
     have hlk := cm.at_.run_look (t := 101) Tryz.underlying3 Tryz.underlying101 Tryz.underlying3 (zero_num _) (Q.inp + (n : Int) - 1) (wf_num ⟨by omega, by omega⟩)
     rw [hO] at hlk
     have hOH := Lib.hid hO
     have hlkH := Lib.hid hlk
     clear hO hlk
     refine plain_region (fun W' => Blk W' bx 100 #[.pointer (some ⟨bc, 0, none⟩)] ∧ Blk W' w.heap.size 24 #[.int .i64 Q.w, .int .i64 Q.h, .int .i64 Q.inp, .slice a n c] ∧ Blk W' bc 103 (cmC (cmPof Q v a n c) bm fv2 cv2)) 13 14 (by kernel_rfl) rfl ?_
     simp only [Array.replicate_succ, Array.replicate_zero, List.push_toArray, List.nil_append, List.cons_append]
     obtain ⟨X0, hXX0⟩ : ∃ X : World, w2.drew = X := ⟨_, rfl⟩
     rw [hXX0] at hS ko kr ir cm kx hB2 hlkH ⊢
     clear hXX0
     refine tkz 0 (v := ?dv0) rfl hS (fun w' hS' => ?dy0) ?dz0
     case dy0 =>
      have x0 := hS'.1.cell (i := 0) rfl
      have o2 : w'.cell? ⟨w.heap.size, 2, none⟩ = some (.int .i64 Q.inp) := hS'.2.1.cell (i := 2) rfl
      have o3 : w'.cell? ⟨w.heap.size, 3, none⟩ = some (.slice a n c) := hS'.2.1.cell (i := 3) rfl
      have y7 : w'.cell? ⟨bc, 7, none⟩ = some (.map (some bm)) := hS'.2.2.cell (i := 7) rfl
      clear hS'
      go_simp
      rfl
     simp only [nrz]
     refine tkz 1 rfl hS (fun w' hS' => by go_simp; rfl) ?_
     simp only [nrz]
     refine tkz 2 rfl hS (fun w' hS' => by go_simp; rfl) ?_
     simp only [nrz]
     refine tkz 3 (v := ?dv3) rfl hS (fun w' hS' => ?dy3) ?dz3
     case dy3 =>
      have x0 := hS'.1.cell (i := 0) rfl
      have o2 : w'.cell? ⟨w.heap.size, 2, none⟩ = some (.int .i64 Q.inp) := hS'.2.1.cell (i := 2) rfl
      have o3 : w'.cell? ⟨w.heap.size, 3, none⟩ = some (.slice a n c) := hS'.2.1.cell (i := 3) rfl
      have y7 : w'.cell? ⟨bc, 7, none⟩ = some (.map (some bm)) := hS'.2.2.cell (i := 7) rfl
      clear hS'
      go_simp
      rfl
     simp only [nrz]
     refine tkz 4 rfl hS (fun w' hS' => by go_simp; rfl) ?_
     simp only [nrz]
     refine tkz 5 (v := ?dv5) rfl hS (fun w' hS' => ?dy5) ?dz5
     case dy5 =>
      have x0 := hS'.1.cell (i := 0) rfl
      have o2 : w'.cell? ⟨w.heap.size, 2, none⟩ = some (.int .i64 Q.inp) := hS'.2.1.cell (i := 2) rfl
      have o3 : w'.cell? ⟨w.heap.size, 3, none⟩ = some (.slice a n c) := hS'.2.1.cell (i := 3) rfl
      have y7 : w'.cell? ⟨bc, 7, none⟩ = some (.map (some bm)) := hS'.2.2.cell (i := 7) rfl
      clear hS'
      go_simp
      rfl
     simp only [nrz]
     refine tkz 6 rfl hS (fun w' hS' => by go_simp; rfl) ?_
     simp only [nrz]
     refine tkz 7 (v := ?dv7) rfl hS (fun w' hS' => ?dy7) ?dz7
     case dy7 =>
      have x0 := hS'.1.cell (i := 0) rfl
      have o2 : w'.cell? ⟨w.heap.size, 2, none⟩ = some (.int .i64 Q.inp) := hS'.2.1.cell (i := 2) rfl
      have o3 : w'.cell? ⟨w.heap.size, 3, none⟩ = some (.slice a n c) := hS'.2.1.cell (i := 3) rfl
      have y7 : w'.cell? ⟨bc, 7, none⟩ = some (.map (some bm)) := hS'.2.2.cell (i := 7) rfl
      clear hS'
      go_simp
      rfl
     simp only [nrz]
     refine tkz 8 rfl hS (fun w' hS' => by go_simp; rfl) ?_
     simp only [nrz]
     refine tkz 9 rfl hS (fun w' hS' => by go_simp; (try go_ints); rfl) ?_
     simp only [nrz]
     refine tkz 10 rfl hS (fun w' hS' => by go_simp; (try go_ints); rfl) ?_
     simp only [nrz]
     refine step_op 11 (by kernel_rfl) rfl (fun K hK => ?_)
     have hlk := hlkH.out
     rw [if_pos (by rfl)]
     go_simp
     clear hlk
     refine hK.out _ _ (fun h => hS) ?_
     clear hK K
     try simp only [Act.put, nrz]
     refine tkz 12 rfl hS (fun w' hS' => by go_simp; rfl) ?_
     simp only [nrz]
     refine step_op 13 (by kernel_rfl) rfl (fun K hK => ?_)
     have e3 := ko.cell (i := 3) rfl
     have f3 := ko.frozen 3
     rw [if_pos (by rfl)]
     go_simp
     clear e3 f3
     refine hK.out _ _ (fun h => absurd h (by omega)) ?_
     clear hK K
     try simp only [Act.put, nrz]
     refine done_ops (by kernel_rfl) ?_
     clear hS hlkH
     obtain ⟨ia, ic, rfl⟩ := row_slice ir
     obtain ⟨xa, xc, rfl, _⟩ := cm.rdcs
     have hilk := hilkH.out
     have ko1 := ko.set 3 (.int .i64 O)
     have hN := code_le hpbH.out (vecOk_of hpbH.out hvbH.out hroomH.out) (Nat.le_refl (rdsN Q.inp Q.ss).length)
     obtain ⟨NC, hNC⟩ : ∃ N, (cmpS Q v.lanes (rdsN Q.inp Q.ss).length).code.length = N := ⟨_, rfl⟩
     have hcut : Trn (fun b => b = bo) X0 (X0.setCell ⟨bo, 3, none⟩ (.int .i64 O)) := setCell_trn _ _ _ _ rfl
     have hbox : ∀ b, b = bo ∨ b = V2.heap.size → ¬ CmS bc bm (cmpS Q v.lanes (rdsN Q.inp Q.ss).length).code.length fv2 (.slice xa (cmpS Q v.lanes (rdsN Q.inp Q.ss).length).code.length xc) l2 b := fun b hb => by
      rcases hb with rfl | rfl
      ·exact cm.not_blk ko cod_ne_cmp cod_ne_ins cod_ne_int
      ·exact cm.not_blk kr cod_ne_cmp cod_ne_ins cod_ne_int
     have hbori : ∀ b, (Value.slice ia k ic).ownBlock = some b → ¬ (b = bo ∨ b = V2.heap.size) := fun b hb hh => by
      rcases hh with rfl | rfl
      ·exact ko.not_row cod_ne_int ir hb.symm
      ·exact kr.not_row cod_ne_int ir hb.symm
     have hx0 := kx.cell (i := 0) rfl
     have y9 : X0.cell? ⟨bc, 9, none⟩ = some (.slice xa NC xc) := by rw [← hNC]; exact cm.c.cell (i := 9) rfl
     have hbcb : bc ≠ bo := blk_ne cm.c ko (by decide)
     have hbxb : bx ≠ bo := blk_ne kx ko (by decide)
     have hbrb : bo ≠ V2.heap.size := by omega
     have hbow2 : w.heap.size ≤ bo := by omega
     obtain ⟨Y5, hY5⟩ : ∃ X, X0.setCell ⟨bo, 3, none⟩ (.int .i64 O) = X := ⟨_, rfl⟩
     rw [hY5] at hcut ko1 ⊢
     have kr1 := hcut.blk kr (fun e => hbrb e.symm)
     have kx1 := hcut.blk kx hbxb
     have kc1 := hcut.blk cm.c hbcb
     have x0 := kx1.cell (i := 0) rfl
     have y9' : Y5.cell? ⟨bc, 9, none⟩ = some (.slice xa NC xc) := by rw [← hNC]; exact kc1.cell (i := 9) rfl
     have e4 := ko1.cell (i := 4) rfl
     have f4 := ko1.frozen 4
     clear hx0 y9 kc1 kx1 hY5
     have ko2 := ko1.set 4 (.slice xa NC xc)
     have hcut2 : Trn (fun b => b = bo) Y5 (Y5.setCell ⟨bo, 4, none⟩ (.slice xa NC xc)) := setCell_trn _ _ _ _ rfl
     obtain ⟨Y6, hY6⟩ : ∃ X, Y5.setCell ⟨bo, 4, none⟩ (.slice xa NC xc) = X := ⟨_, rfl⟩
     rw [hY6] at hcut2 ko2
     have kr2 := hcut2.blk kr1 (fun e => hbrb e.symm)
     have a0 : Y6.cell? ⟨bo, 0, none⟩ = some (.int .i64 Q.w) := ko2.cell (i := 0) rfl
     have a1 : Y6.cell? ⟨bo, 1, none⟩ = some (.int .i64 Q.h) := ko2.cell (i := 1) rfl
     have a2 : Y6.cell? ⟨bo, 2, none⟩ = some (.slice ia k ic) := ko2.cell (i := 2) rfl
     have a3 : Y6.cell? ⟨bo, 3, none⟩ = some (.int .i64 O) := ko2.cell (i := 3) rfl
     have a4 : Y6.cell? ⟨bo, 4, none⟩ = some (.slice xa NC xc) := ko2.cell (i := 4) rfl
     obtain ⟨r0, r1, r2, r3, r4⟩ := cz5 kr2
     have t0 := kr2.frozen 0
     have t1 := kr2.frozen 1
     have t2 := kr2.frozen 2
     have t3 := kr2.frozen 3
     have t4 := kr2.frozen 4
     have kf := put5_blk kr2 (.int .i64 Q.w) (.int .i64 Q.h) (.slice ia k ic) (.int .i64 O) (.slice xa NC xc)
     have hcut3 := put5_trn Y6 V2.heap.size (.int .i64 Q.w) (.int .i64 Q.h) (.slice ia k ic) (.int .i64 O) (.slice xa NC xc)
     obtain ⟨Y7, hY7⟩ : ∃ X, put5 Y6 V2.heap.size (.int .i64 Q.w) (.int .i64 Q.h) (.slice ia k ic) (.int .i64 O) (.slice xa NC xc) = X := ⟨_, rfl⟩
     rw [hY7] at hcut3 kf
     have hT7 : Trn (fun b => b = bo ∨ b = V2.heap.size) X0 Y7 := ((hcut.mono (fun b _ e => .inl e)).trans (hcut2.mono (fun b _ e => .inl e))).trans (hcut3.mono (fun b _ e => .inr e))
     have cm7 := cm.frame (hT7.mono (fun b _ hs => hbox b hs))
     have ir7 := hT7.row ir hbori
     have hB7 : Below w.heap.size w Y7 := hB2.trans (hT7.below hB2.size (fun b hb hs => by rcases hs with rfl | rfl <;> omega))
     obtain ⟨xa', xc', hxe, hrd⟩ := cm7.rdcs
     have hri : Rd Y7.heap.size Y7 ia (cmpC Q v).inp := rowI_rd hilk ir7
     have hrx : RdCs Y7.heap.size Y7 xa (cmpC Q v).ins := by
      injection hxe with hxe _ _
      subst hxe
      exact hrd
     have hval : codev (cmpC Q v) ia ic xa xc = .agg #[.int .i64 Q.w, .int .i64 Q.h, .slice ia k ic, .int .i64 O, .slice xa NC xc] := by
      unfold codev cmpC
      simp only
      rw [hilk, hNC]
      have : numF ((cmpS Q v.lanes (rdsN Q.inp Q.ss).length).at_ (lastI Q)) = O := by unfold lastI; rw [hnH.out]; exact hOH.out
      rw [this]
     have hvalH := Lib.hid hval
     clear hcut hcut2 hcut3 hT7 cm7 ir7 hxe hrd hbox hbori ko ko1 ko2 kr kr1 kr2 cm ir kx hval hilk hNC
     obtain ⟨g0, g1, g2, g3, g4⟩ := cz5 kf
     go_wp2_with fail
     exact bodyPost_ret (v := .tuple #[.agg #[.int .i64 Q.w, .int .i64 Q.h, .slice ia k ic, .int .i64 O, .slice xa NC xc], .int .i64 0]) (by simp [results, Tryz.results18, go_sem, g0, g1, g2, g3, g4]) rfl ⟨ia, ic, xa, xc, by rw [hvalH.out], hri, hrx, hB7⟩
end Go.Proofs.YtekiemlniegddaaGreat
namespace Go.Proofs.YtekiemlniegddaaGreat
open Go Go.Maps Go.RowKit Go.Shelf
def lenE (P : PipeN) (lanes : Int) : Int := if pipeB P = true then (if inR lanes 1 16 = true then 0 else 2) else 30
def lenV (P : PipeN) (lanes : Int) : Int := if lenE P lanes = 0 then lenP P lanes else 0
theorem rng_pre {W : World} {b o : Nat} {xs ys : List Value} (h : W.rangeAt b o (xs ++ ys)) : W.rangeAt b o xs := fun j u hu => h j u (by
 have hj : j < xs.length := by
  rcases Nat.lt_or_ge j xs.length with h | h
  ·exact h
  ·rw [List.getElem?_eq_none h] at hu; cases hu
 rw [List.getElem?_append_left hj]; exact hu)
set_option maxRecDepth 100000 in
set_option maxHeartbeats 8000000 in
theorem Length_any (Q : PipeN) (hQ : PipeIn Q) (a : Option Addr) (n c : Nat) (hn : Q.ss.length = n) (lanes : Int) (w : World) (hr : RdSs w.heap.size w a Q.ss) :
  Calls Tryz.prog 43 #[pipev Q a n c, .int .i64 lanes] w fun e w' => e = .returned (.tuple #[.int .i64 (lenV Q lanes), .int .i64 (lenE Q lanes)]) ∧ Below w.heap.size w w' := by
 obtain ⟨pb, hpb⟩ : ∃ q, pipeB Q = q := ⟨_, rfl⟩
 obtain ⟨lb, hlb⟩ : ∃ q, inR lanes 1 16 = q := ⟨_, rfl⟩
 obtain ⟨E, hE⟩ : ∃ E, lenE Q lanes = E := ⟨_, rfl⟩
 obtain ⟨LV, hLV⟩ : ∃ E, lenV Q lanes = E := ⟨_, rfl⟩
 rw [hE, hLV]
 have hEL := Lib.hid (And.intro hE hLV)
 have hck := fun W h => PCheck_any Q a n c hn hQ pb hpb W h
 have hpbH := Lib.hid hpb
 have hlbH := Lib.hid hlb
 have hckH := Lib.hid hck
 have hQH := Lib.hid hQ
 have hnH := Lib.hid hn
 clear hpb hlb hE hLV hck hQ hn
 have hr0 := hr
 unfold pipev
 unfold pipev at hckH
 have hB : Below w.heap.size w w := Below.refl _ _
 obtain ⟨V1, hEV1, hbV1, kp⟩ := newB w 24 #[.int .i64 Q.w, .int .i64 Q.h, .int .i64 Q.inp, .slice a n c]
 replace hr := hr.later hbV1
 replace hB := tmB hB hbV1
 clear hbV1
 obtain ⟨p0, p1, p2, p3⟩ := cz4 kp
 go_enter Tryz.func43, Tryz.ntmps43
 go_wp2_with fail
 clear hEV1
 refine (hckH.out V1 hr).mono ?_
 rintro e V2 ⟨rfl, hb⟩
 clear p0 p1 p2 p3
 replace kp := kp.below hb kp.lt
 replace hr := hr.later hb
 replace hB := tmB hB hb
 clear hb
 obtain ⟨p0, p1, p2, p3⟩ := cz4 kp
 cases pb with
 | false =>
  have hE2 : E = 30 := by rw [← hEL.out.1]; unfold lenE; rw [hpbH.out, if_neg (by simp)]
  have hL2 : LV = 0 := by rw [← hEL.out.2]; unfold lenV; rw [hEL.out.1, hE2, if_neg (by decide)]
  subst hE2 hL2
  go_wp2_with fail
  exact bodyPost_ret (v := .tuple #[.int .i64 0, .int .i64 30]) (by simp [results, Tryz.results43, go_sem]) rfl ⟨rfl, hB⟩
 | true =>
 go_wp2_with fail
 refine (pwithin lanes 1 16 lb hlbH.out V2).mono ?_
 rintro e V3 ⟨rfl, hbe⟩
 have hb : Below V2.heap.size V2 V3 := hbe ▸ Below.refl _ _
 clear hbe
 clear p0 p1 p2 p3
 replace kp := kp.below hb kp.lt
 replace hr := hr.later hb
 replace hB := tmB hB hb
 clear hb
 obtain ⟨p0, p1, p2, p3⟩ := cz4 kp
 cases lb with
 | false =>
  have hE2 : E = 2 := by rw [← hEL.out.1]; unfold lenE; rw [hpbH.out, if_pos rfl, hlbH.out, if_neg (by simp)]
  have hL2 : LV = 0 := by rw [← hEL.out.2]; unfold lenV; rw [hEL.out.1, hE2, if_neg (by decide)]
  subst hE2 hL2
  go_wp2_with fail
  exact bodyPost_ret (v := .tuple #[.int .i64 0, .int .i64 2]) (by simp [results, Tryz.results43, go_sem]) rfl ⟨rfl, hB⟩
 | true =>
 have hlr : 1 ≤ lanes ∧ lanes ≤ 16 := inR_true.1 hlbH.out
 have hE2 : E = 0 := by rw [← hEL.out.1]; unfold lenE; rw [hpbH.out, if_pos rfl, hlbH.out, if_pos rfl]
 have hL2 : LV = lenP Q lanes := by rw [← hEL.out.2]; unfold lenV; rw [hEL.out.1, hE2, if_pos rfl]
 subst hE2 hL2
 have hP1 := hpbH.out
 obtain ⟨hw, hh, hI, hn12, hall⟩ := pipeB_true hP1
 rw [hnH.out] at hn12
 have hrf := refOk_of hP1
 have hst := fun i (h : i < n) => hQH.out.st i (by have := hnH.out; omega)
 have hNle : (rdsN Q.inp Q.ss).length ≤ n := by have h : (rdsN Q.inp Q.ss).length ≤ Q.ss.length := (rdsN_ok hrf).len; have h2 := hnH.out; omega
 have hrd := fun W (h1 : w.heap.size ≤ W.heap.size) h2 => rounds_any Q a n c hnH.out (by omega) (by omega) hst hrf w.heap.size W h1 h2
 unfold pipev at hrd
 have hrdH := Lib.hid hrd
 have hone : ∀ q, q < (rdsN Q.inp Q.ss).length → needB (rnAt (rdsN Q.inp Q.ss) q).head = true ∧ (rnAt (rdsN Q.inp Q.ss) q).pts.length ≤ 12 := fun q hq => by
  have hhead := (rdsN_ok hrf).head q hq
  change (rnAt (rdsN Q.inp Q.ss) q).at_ < Q.ss.length ∧ (rnAt (rdsN Q.inp Q.ss) q).head = stAt Q.ss (rnAt (rdsN Q.inp Q.ss) q).at_ at hhead
  have hsum := sumR_one (rdsN Q.inp Q.ss) q hq
  have hcnt := pts_count hrf Q.ss.length (Nat.le_refl _)
  change sumR (rdsN Q.inp Q.ss) = _ at hcnt
  have := hnH.out
  exact ⟨by rw [hhead.2]; exact (stepsB_all hall hhead.1).1, by omega⟩
 have hlm := fun k (h : k ≤ (rdsN Q.inp Q.ss).length) => Nat.le_trans (lenR_mono (rdsN Q.inp Q.ss) h) (lenR_le hP1)
 have hgr := grps_le hw hh hlr
 have hgc := fun W => groups_any Q a n c hw hh lanes hlr W
 unfold pipev at hgc
 obtain ⟨gz, hgz⟩ : ∃ g, grpsN Q.w Q.h lanes = g := ⟨_, rfl⟩
 rw [hgz] at hgr hgc
 have hlp : lenP Q lanes = (lenR (rdsN Q.inp Q.ss) (rdsN Q.inp Q.ss).length : Int) * gz := by unfold lenP; rw [hgz]
 rw [hnH.out] at hlm
 obtain ⟨rs, hrs0⟩ : ∃ rs, rdsN Q.inp Q.ss = rs := ⟨_, rfl⟩
 rw [hrs0] at hlm hone hrdH hNle hlp
 obtain ⟨N, hN⟩ : ∃ N, rs.length = N := ⟨_, rfl⟩
 rw [hN] at hlm hone hrdH hNle hlp
 have hlpH := Lib.hid hlp
 have hgcH := Lib.hid hgc
 have hlmH := Lib.hid hlm
 have honeH := Lib.hid hone
 clear hgc hlm hone hrd hrs0 hN hgz hP1 hrf hst hall hlp
 go_wp2_with fail
 refine (hrdH.out V3 hB.size (hr0.below (Nat.le_refl _) hB)).mono ?_
 rintro e V4 ⟨rv, x, rfl, hrs, hx, hb⟩
 clear p0 p1 p2 p3
 replace kp := kp.below hb kp.lt
 replace hr := hr.later hb
 replace hB := tmB hB hb
 clear hb
 have hxH := Lib.hid hx
 clear hx hr hrdH
 obtain ⟨va, vc, rfl⟩ := hrs.slice
 have hbr0 := hB.size
 obtain ⟨BR, hBR⟩ : ∃ b, V3.heap.size = b := ⟨_, rfl⟩
 rw [hBR] at hrs
 clear hBR hbr0
 obtain ⟨p0, p1, p2, p3⟩ := cz4 kp
 go_wp2_with fail
 clear p0 p1 p2 p3
 go_loopw [7, 26] (fun v i wr => ∃ k : Nat, k ≤ N ∧ i = .int .i64 (k : Int) ∧ v = .int .i64 ((lenR rs k : Nat) : Int) ∧ OwnRs w.heap.size BR wr (.slice va N vc) N x ∧ Below w.heap.size w wr ∧ Blk wr w.heap.size 24 #[.int .i64 Q.w, .int .i64 Q.h, .int .i64 Q.inp, .slice a n c]) (fun _ i _ => N - (intOf i).toNat)
 case atStart => exact ⟨0, Nat.zero_le _, rfl, rfl, hrs, hB, kp⟩
 case round =>
  clear hrs hB kp
  obtain ⟨k, hk, rfl, rfl, hrs, hB, kp⟩ := hrel
  have hlb1 := hlmH.out k hk
  by_cases hlt : k < N
  case neg =>
   have hltd : decide ((k : Int) < (N : Int)) = false := by simp; omega
   have hkn : N = k := by omega
   subst hkn
   obtain ⟨LR, hLR⟩ : ∃ q, lenR rs N = q := ⟨_, rfl⟩
   rw [hLR] at hlb1 ⊢
   have hLRH := Lib.hid hLR
   clear hLR
   have hpr := prod_bd (a := (LR : Int)) (x := gz) (m := 1000) (n := 256) (by omega) (by omega) (by omega) (by omega) (by omega)
   simp only [Int.reduceMul] at hpr
   obtain ⟨p0, p1, p2, p3⟩ := cz4 kp
   go_wp2_with (go_at_call 102; refine (hgcH.out _).mono ?_; rintro e w2 ⟨rfl, hb2⟩; have hB2 := hB.trans (hb2.mono hB.size))
   exact bodyPost_ret (v := .tuple #[.int .i64 ((LR : Int) * gz), .int .i64 0]) (by simp [results, Tryz.results43, go_sem]) rfl ⟨by rw [hlpH.out, hLRH.out], hB2⟩
  case pos =>
   have hltd : decide ((k : Int) < (N : Int)) = true := by simp; omega
   have hB0 : w.heap.size ≤ wr.heap.size := hB.size
   obtain ⟨g, gc, s, ka, kc, sa, sc, pa, np, pc, ub, uc, L, m, rz, hvs, hgB, hgl, hs, hL, hm, hrz, hnp, kq, hpr, hxe, hgc⟩ := hrs.opn hlt
   obtain ⟨rfl, _, rfl⟩ : va = some ⟨g, 0, none⟩ ∧ N = N ∧ vc = gc := by injection hvs with e1 e2 e3; exact ⟨e1, rfl, e3⟩
   obtain ⟨hta, hbi⟩ := hrs.taps k hlt
   obtain ⟨hubB, hpv, hube, hkae, hsae⟩ := hxe
   have hxk := hxH.out k hlt
   obtain ⟨hnd, hnp12⟩ := honeH.out k hlt
   rw [hkae, hs] at hta
   rw [hsae, hs] at hbi
   replace hta : Rd w.heap.size w ka s.taps := by
    rcases hta with h | ⟨b, o, h1, h2, h3⟩
    ·exact .inl h
    ·exact .inr ⟨b, o, h1, h2, fun i hi => (hB.cell (p := ⟨b, o + i, none⟩) h2).symm.trans (h3 i hi)⟩
   replace hbi : RdB w.heap.size w sa s.bits := by
    rcases hbi with h | ⟨b, o, h1, h2, h3⟩
    ·exact .inl h
    ·exact .inr ⟨b, o, h1, h2, fun i hi => (hB.cell (p := ⟨b, o + i, none⟩) h2).symm.trans (h3 i hi)⟩
   have hln : lenR rs (k + 1) = lenR rs k + (np + headL s) := by rw [lenR, ← hxk, hnp, hs]
   have hnd2 : needB s = true := by rw [← hs, hxk]; exact hnd
   rw [← hxk, hnp] at hnp12
   have hhl := headL_le hnd2
   obtain ⟨hd, hhd⟩ : ∃ q, headL s = q := ⟨_, rfl⟩
   rw [hhd] at hln hhl
   obtain ⟨LR, hLR⟩ : ∃ q, lenR rs k = q := ⟨_, rfl⟩
   rw [hLR] at hlb1 hln
   rw [hLR]
   have hlnH := Lib.hid hln
   have hhdH := Lib.hid hhd.symm
   clear hvs hubB hpv hube hkae hsae hs hL hm hrz hnp hxk hnd hln hhd hLR hpr kq
   obtain ⟨V11, hEV11, hbV11, ks⟩ := newB wr 111 #[.int .u8 s.op, .int .i64 s.a, .int .i64 s.b, .int .i64 s.pt.mul, .int .i64 s.pt.add, .int .i64 s.pt.div, .int .i64 s.pt.lo, .int .i64 s.pt.hi, .int .u8 s.how, .int .i64 s.kw, .int .i64 s.kh, .slice ka s.taps.length kc, .int .u8 s.bd, .int .i64 s.sw, .int .i64 s.sh, .slice sa s.bits.length sc, .slice pa np pc, .slice (some ⟨ub, 0, none⟩) m uc, .int .i64 rz]
   replace hrs := hrs.below hbV11 hB0
   replace kp := kp.below hbV11 kp.lt
   replace hB := tmB hB hbV11
   clear hbV11
   go_upto_region 9 with fail
   refine wp_region_lit ?_
   refine Go.Great.wpList_runTo rfl _ rfl (.pointer (some ⟨g, k * 19, none⟩)) wr (by
    go_simp
    all_goals try go_ints
    all_goals first
     | rfl
     | (rw [if_pos (by omega)]; done)
     | rw [if_pos ⟨by omega, by omega⟩]) ?_
   refine wpList_load_mid rfl 111 _ rfl g (k * 19) rfl [.int .u8 s.op, .int .i64 s.a, .int .i64 s.b, .int .i64 s.pt.mul, .int .i64 s.pt.add, .int .i64 s.pt.div, .int .i64 s.pt.lo, .int .i64 s.pt.hi, .int .u8 s.how, .int .i64 s.kw, .int .i64 s.kh, .slice ka s.taps.length kc, .int .u8 s.bd, .int .i64 s.sw, .int .i64 s.sh, .slice sa s.bits.length sc, .slice pa np pc, .slice (some ⟨ub, 0, none⟩) m uc, .int .i64 rz] _ hgc Tryz.underlying111 rfl (by kernel_rfl) ?_
   refine Go.Great.wpList_allocTo rfl _ rfl (.pointer (some ⟨wr.heap.size, 0, none⟩)) (.cells #[.int .u8 0, .int .i64 0, .int .i64 0, .int .i64 0, .int .i64 0, .int .i64 0, .int .i64 0, .int .i64 0, .int .u8 0, .int .i64 0, .int .i64 0, .slice none 0 0, .int .u8 0, .int .i64 0, .int .i64 0, .slice none 0 0, .slice none 0 0, .slice none 0 0, .int .i64 0] 111) (by kernel_rfl) ?_
   refine wpList_store_row rfl 111 _ _ rfl wr.heap.size #[.int .u8 s.op, .int .i64 s.a, .int .i64 s.b, .int .i64 s.pt.mul, .int .i64 s.pt.add, .int .i64 s.pt.div, .int .i64 s.pt.lo, .int .i64 s.pt.hi, .int .u8 s.how, .int .i64 s.kw, .int .i64 s.kh, .slice ka s.taps.length kc, .int .u8 s.bd, .int .i64 s.sw, .int .i64 s.sh, .slice sa s.bits.length sc, .slice pa np pc, .slice (some ⟨ub, 0, none⟩) m uc, .int .i64 rz] rfl rfl 111 #[.int .u8 0, .int .i64 0, .int .i64 0, .int .i64 0, .int .i64 0, .int .i64 0, .int .i64 0, .int .i64 0, .int .u8 0, .int .i64 0, .int .i64 0, .slice none 0 0, .int .u8 0, .int .i64 0, .int .i64 0, .slice none 0 0, .slice none 0 0, .slice none 0 0, .int .i64 0] (heap_alloc_last wr _) (by kernel_rfl) rfl (by simp [Value.oneCell']) ?_
   rw [World.setRow_alloc_new]
   refine wpList_nil ?_
   rw [hEV11]
   clear hEV11
   rename_i Q' K hK
   refine hK _ _ ?_
   clear hK K
   have y16 := ks.cell (i := 16) rfl
   obtain ⟨bs, hbs⟩ : ∃ b, wr.heap.size = b := ⟨_, rfl⟩
   rw [hbs] at ks y16
   have hbsH := Lib.hid hbs
   have ks0 := ks
   have hB1 : wr.heap.size ≤ V11.heap.size := by have := ks.lt; omega
   obtain ⟨V12, hEV12, hbV12, kh⟩ := newB V11 76 #[.int .u8 s.op, .int .i64 s.a, .int .i64 s.b, .int .i64 s.pt.mul, .int .i64 s.pt.add, .int .i64 s.pt.div, .int .i64 s.pt.lo, .int .i64 s.pt.hi, .int .u8 s.how, .int .i64 s.kw, .int .i64 s.kh, .slice ka s.taps.length kc, .int .u8 s.bd, .int .i64 s.sw, .int .i64 s.sh, .slice sa s.bits.length sc]
   replace hrs := hrs.below hbV12 (Nat.le_trans hB0 (by omega))
   replace kp := kp.below hbV12 kp.lt
   replace ks := ks.below hbV12 ks.lt
   replace hB := tmB hB hbV12
   clear hbV12
   go_upto_region 11 with fail
   clear y16 hbs
   refine wp_region_lit ?_
   refine Go.Great.wpList_runTo rfl _ rfl (.pointer (some ⟨bs, 0, none⟩)) V11 (by
    go_simp
    all_goals try go_ints
    all_goals first
     | rfl
     | (rw [if_pos (by omega)]; done)
     | rw [if_pos ⟨by omega, by omega⟩]) ?_
   refine wpList_load_mid rfl 76 _ rfl bs (0) rfl [.int .u8 s.op, .int .i64 s.a, .int .i64 s.b, .int .i64 s.pt.mul, .int .i64 s.pt.add, .int .i64 s.pt.div, .int .i64 s.pt.lo, .int .i64 s.pt.hi, .int .u8 s.how, .int .i64 s.kw, .int .i64 s.kh, .slice ka s.taps.length kc, .int .u8 s.bd, .int .i64 s.sw, .int .i64 s.sh, .slice sa s.bits.length sc] _ (rng_pre (ys := [.slice pa np pc, .slice (some ⟨ub, 0, none⟩) m uc, .int .i64 rz]) (blk_rng ks0)) Tryz.underlying76 rfl (by kernel_rfl) ?_
   refine Go.Great.wpList_allocTo rfl _ rfl (.pointer (some ⟨V11.heap.size, 0, none⟩)) (.cells #[.int .u8 0, .int .i64 0, .int .i64 0, .int .i64 0, .int .i64 0, .int .i64 0, .int .i64 0, .int .i64 0, .int .u8 0, .int .i64 0, .int .i64 0, .slice none 0 0, .int .u8 0, .int .i64 0, .int .i64 0, .slice none 0 0] 76) (by kernel_rfl) ?_
   refine wpList_store_row rfl 76 _ _ rfl V11.heap.size #[.int .u8 s.op, .int .i64 s.a, .int .i64 s.b, .int .i64 s.pt.mul, .int .i64 s.pt.add, .int .i64 s.pt.div, .int .i64 s.pt.lo, .int .i64 s.pt.hi, .int .u8 s.how, .int .i64 s.kw, .int .i64 s.kh, .slice ka s.taps.length kc, .int .u8 s.bd, .int .i64 s.sw, .int .i64 s.sh, .slice sa s.bits.length sc] rfl rfl 76 #[.int .u8 0, .int .i64 0, .int .i64 0, .int .i64 0, .int .i64 0, .int .i64 0, .int .i64 0, .int .i64 0, .int .u8 0, .int .i64 0, .int .i64 0, .slice none 0 0, .int .u8 0, .int .i64 0, .int .i64 0, .slice none 0 0] (heap_alloc_last V11 _) (by kernel_rfl) rfl (by simp [Value.oneCell']) ?_
   rw [World.setRow_alloc_new]
   refine wpList_nil ?_
   rw [hEV12]
   clear hEV12
   rename_i Q' K hK
   refine hK _ _ ?_
   clear hK K
   clear ks ks0
   have y0 := kh.cell (i := 0) rfl
   have y11 := kh.cell (i := 11) rfl
   have y15 := kh.cell (i := 15) rfl
   clear kh
   have hsum : LR + np ≤ 700 := by omega
   by_cases e1 : s.op = 1
   case pos =>
    have e1b : (s.op == 1) = true := by simp [e1]
    have hd3 : hd = 3 := by rw [hhdH.out]; unfold headL; rw [if_pos e1]
    subst hd3
    clear e1
    go_wp2_with fail
    go_roundw
    case rel => exact ⟨k + 1, by omega, by go_num, by rw [hlnH.out]; all_goals (congr 1 <;> omega), hrs, hB, kp⟩
    case measure => simp [intOf]; omega
   case neg =>
   have e1b : (s.op == 1) = false := by simp [e1]
   have e1H := Lib.hid e1
   clear e1
   by_cases e2 : s.op = 2
   case pos =>
    have e2b : (s.op == 2) = true := by simp [e2]
    have hd3 : hd = 4 := by rw [hhdH.out]; unfold headL; rw [if_neg e1H.out, if_pos e2]
    subst hd3
    clear e2
    go_wp2_with fail
    go_roundw
    case rel => exact ⟨k + 1, by omega, by go_num, by rw [hlnH.out]; all_goals (congr 1 <;> omega), hrs, hB, kp⟩
    case measure => simp [intOf]; omega
   case neg =>
   have e2b : (s.op == 2) = false := by simp [e2]
   have e2H := Lib.hid e2
   clear e2
   by_cases e3 : s.op = 3
   case pos =>
    have e3b : (s.op == 3) = true := by simp [e3]
    have hd3 : hd = 2 + 2 * nzN s.taps s.taps.length := by rw [hhdH.out]; unfold headL; rw [if_neg e1H.out, if_neg e2H.out, if_pos e3]
    have hk4 : s.taps.length ≤ 25 := by
     have h := hnd2
     unfold needB at h
     rw [if_neg e1H.out, if_neg e2H.out, if_pos e3, Bool.and_eq_true] at h
     exact (kern_facts h.1).2.2.2.1
    obtain ⟨nt, hnt⟩ : ∃ n, s.taps.length = n := ⟨_, rfl⟩
    rw [hnt] at hd3 hk4 y11
    have hd3H := Lib.hid hd3
    have hntH := Lib.hid hnt
    clear e3 hd3 hnt hnd2
    obtain ⟨s0, hs0⟩ : ∃ q, LR + np + 2 = q := ⟨_, rfl⟩
    have hs0i : (LR : Int) + (np : Int) + 2 = (s0 : Int) := by omega
    go_wp2_with fail
    clear hs0i y0 y11 y15
    go_loopw [7, 67] (fun v i wy => ∃ j : Nat, j ≤ nt ∧ i = .int .i64 (j : Int) ∧ v = .int .i64 ((s0 + 2 * nzN s.taps j : Nat) : Int) ∧ OwnRs w.heap.size BR wy (.slice (some ⟨g, 0, none⟩) N vc) N x ∧ Below w.heap.size w wy ∧ Blk wy w.heap.size 24 #[.int .i64 Q.w, .int .i64 Q.h, .int .i64 Q.inp, .slice a n c]) (fun _ i _ => nt - (intOf i).toNat)
    case atStart => exact ⟨0, Nat.zero_le _, rfl, by simp [nzN], hrs, hB, kp⟩
    case round =>
     clear hrs hB kp
     obtain ⟨j, hj, rfl, rfl, hrs, hB, kp⟩ := hrel
     have hcl := nz_le s.taps j
     have hnxt : nzN s.taps (j + 1) = nzN s.taps j + if s.taps[j]?.getD 0 = 0 then 0 else 1 := rfl
     by_cases hlj : j < nt
     case neg =>
      have hljd : decide ((j : Int) < (nt : Int)) = false := by simp; omega
      have hjn : j = nt := by omega
      subst hjn
      clear hnxt
      go_wp2_with fail
      have hsum : ((s0 + 2 * nzN s.taps j : Nat) : Int) = ((lenR rs (k + 1) : Nat) : Int) := by rw [hlnH.out]; have := hd3H.out; omega
      go_roundw
      case rel => exact ⟨k + 1, by omega, by go_num, by rw [← hsum], hrs, hB, kp⟩
      case measure => simp [intOf]; omega
     case pos =>
      have hljd : decide ((j : Int) < (nt : Int)) = true := by simp; omega
      have hjl : j < s.taps.length := by have := hntH.out; omega
      obtain ⟨tb, t0, rfl, htb, htc⟩ : ∃ b o, ka = some ⟨b, o, none⟩ ∧ b < w.heap.size ∧ ∀ i, i < s.taps.length → w.cell? ⟨b, o + i, none⟩ = some (.int .i64 (s.taps[i]?.getD 0)) := by
       rcases hta with h0 | ⟨b, o, h1, h2, h3⟩
       ·exfalso; rw [h0] at hjl; simp at hjl
       ·exact ⟨b, o, h1, h2, h3⟩
      have ct := (hB.cell (p := ⟨tb, t0 + j, none⟩) htb).trans (htc j hjl)
      obtain ⟨x0, hx0⟩ : ∃ x, s.taps[j]?.getD 0 = x := ⟨_, rfl⟩
      rw [hx0] at ct hnxt
      obtain ⟨C0, hC0⟩ : ∃ C, nzN s.taps j = C := ⟨_, rfl⟩
      rw [hC0] at hnxt hcl
      have hnxtH := Lib.hid hnxt
      have hC0H := Lib.hid hC0
      clear hx0 htc hnxt
      by_cases hz : x0 = 0
      case pos =>
       have hzb : (x0 != 0) = false := by simp [hz]
       have hnx : nzN s.taps (j + 1) = C0 + 0 := by rw [hnxtH.out, if_pos hz]
       have hnxH := Lib.hid hnx
       clear hz hnx hnxtH
       rw [hC0]
       clear hC0
       go_wp2_with fail
       go_roundw
       case rel => exact ⟨j + 1, by omega, by go_num, by rw [hnxH.out]; all_goals (congr 1 <;> omega), hrs, hB, kp⟩
       case measure => simp [intOf]; omega
      case neg =>
       have hzb : (x0 != 0) = true := by simp [hz]
       have hnx : nzN s.taps (j + 1) = C0 + 1 := by rw [hnxtH.out, if_neg hz]
       have hnxH := Lib.hid hnx
       clear hz hnx hnxtH
       rw [hC0]
       clear hC0
       go_wp2_with fail
       go_roundw
       case rel => exact ⟨j + 1, by omega, by go_num, by rw [hnxH.out]; all_goals (congr 1 <;> omega), hrs, hB, kp⟩
       case measure => simp [intOf]; omega
   case neg =>
   have e3b : (s.op == 3) = false := by simp [e3]
   have hd3 : hd = 2 * trN s.bits s.bits.length := by rw [hhdH.out]; unfold headL; rw [if_neg e1H.out, if_neg e2H.out, if_neg e3]
   have hk4 : s.bits.length ≤ 25 := by
    have h := hnd2
    unfold needB at h
    rw [if_neg e1H.out, if_neg e2H.out, if_neg e3] at h
    by_cases h45 : s.op = 4 ∨ s.op = 5
    ·rw [if_pos h45] at h; exact (shape_facts h).2.2.2.1
    ·rw [if_neg h45] at h; cases h
   obtain ⟨nb, hnb⟩ : ∃ n, s.bits.length = n := ⟨_, rfl⟩
   rw [hnb] at hd3 hk4 y15
   have hd3H := Lib.hid hd3
   have hnbH := Lib.hid hnb
   clear e3 hd3 hnb hnd2
   obtain ⟨s0, hs0⟩ : ∃ q, LR + np = q := ⟨_, rfl⟩
   have hs0i : (LR : Int) + (np : Int) = (s0 : Int) := by omega
   go_wp2_with fail
   clear hs0i y0 y11 y15
   go_loopw [7, 43] (fun v i wy => ∃ j : Nat, j ≤ nb ∧ i = .int .i64 (j : Int) ∧ v = .int .i64 ((s0 + 2 * trN s.bits j : Nat) : Int) ∧ OwnRs w.heap.size BR wy (.slice (some ⟨g, 0, none⟩) N vc) N x ∧ Below w.heap.size w wy ∧ Blk wy w.heap.size 24 #[.int .i64 Q.w, .int .i64 Q.h, .int .i64 Q.inp, .slice a n c]) (fun _ i _ => nb - (intOf i).toNat)
   case atStart => exact ⟨0, Nat.zero_le _, rfl, by simp [trN], hrs, hB, kp⟩
   case round =>
    clear hrs hB kp
    obtain ⟨j, hj, rfl, rfl, hrs, hB, kp⟩ := hrel
    have hcl := tr_le s.bits j
    have hnxt : trN s.bits (j + 1) = trN s.bits j + if s.bits[j]?.getD false = true then 1 else 0 := rfl
    by_cases hlj : j < nb
    case neg =>
     have hljd : decide ((j : Int) < (nb : Int)) = false := by simp; omega
     have hjn : j = nb := by omega
     subst hjn
     clear hnxt
     go_wp2_with fail
     have hsum : ((s0 + 2 * trN s.bits j : Nat) : Int) = ((lenR rs (k + 1) : Nat) : Int) := by rw [hlnH.out]; have := hd3H.out; omega
     go_roundw
     case rel => exact ⟨k + 1, by omega, by go_num, by rw [← hsum], hrs, hB, kp⟩
     case measure => simp [intOf]; omega
    case pos =>
     have hljd : decide ((j : Int) < (nb : Int)) = true := by simp; omega
     have hjl : j < s.bits.length := by have := hnbH.out; omega
     obtain ⟨tb, t0, rfl, htb, htc⟩ : ∃ b o, sa = some ⟨b, o, none⟩ ∧ b < w.heap.size ∧ ∀ i, i < s.bits.length → w.cell? ⟨b, o + i, none⟩ = some (.bool (s.bits[i]?.getD false)) := by
      rcases hbi with h0 | ⟨b, o, h1, h2, h3⟩
      ·exfalso; rw [h0] at hjl; simp at hjl
      ·exact ⟨b, o, h1, h2, h3⟩
     have ct := (hB.cell (p := ⟨tb, t0 + j, none⟩) htb).trans (htc j hjl)
     obtain ⟨x0, hx0⟩ : ∃ x, s.bits[j]?.getD false = x := ⟨_, rfl⟩
     rw [hx0] at ct hnxt
     obtain ⟨C0, hC0⟩ : ∃ C, trN s.bits j = C := ⟨_, rfl⟩
     rw [hC0] at hnxt hcl
     have hnxtH := Lib.hid hnxt
     have hC0H := Lib.hid hC0
     clear hx0 htc hnxt
     cases x0
     case false =>
      have hnx : trN s.bits (j + 1) = C0 + 0 := by rw [hnxtH.out]; rfl
      have hnxH := Lib.hid hnx
      clear hnx hnxtH
      rw [hC0]
      clear hC0
      go_wp2_with fail
      go_roundw
      case rel => exact ⟨j + 1, by omega, by go_num, by rw [hnxH.out]; all_goals (congr 1 <;> omega), hrs, hB, kp⟩
      case measure => simp [intOf]; omega
     case true =>
      have hnx : trN s.bits (j + 1) = C0 + 1 := by rw [hnxtH.out]; rfl
      have hnxH := Lib.hid hnx
      clear hnx hnxtH
      rw [hC0]
      clear hC0
      go_wp2_with fail
      go_roundw
      case rel => exact ⟨j + 1, by omega, by go_num, by rw [hnxH.out]; all_goals (congr 1 <;> omega), hrs, hB, kp⟩
      case measure => simp [intOf]; omega
end Go.Proofs.YtekiemlniegddaaGreat
namespace Go.Proofs.YtekiemlniegddaaGreat
open Go Go.RowKit Go.Shelf
def InsOk (n : Nat) (x : InsN) : Prop := (0 ≤ x.op ∧ x.op ≤ 255) ∧ (0 ≤ x.how ∧ x.how ≤ 255) ∧ x.ad.length ≤ n
section
variable (w h : Int) (lanes g : Nat)
theorem insL_io (d p dx dy val bd : Int) : InsOk lanes (insL w h lanes g d p dx dy val bd) := ⟨by show (0 : Int) ≤ 1 ∧ (1 : Int) ≤ 255; omega, by show (0 : Int) ≤ 0 ∧ (0 : Int) ≤ 255; omega, by show (adrN w h lanes g p dx dy bd).length ≤ _; rw [adrN_len]; exact Nat.le_refl _⟩
theorem insZ_io {how : Int} (hh : 0 ≤ how ∧ how ≤ 255) : InsOk lanes (insZ how) := ⟨by show (0 : Int) ≤ 5 ∧ (5 : Int) ≤ 255; omega, hh, Nat.zero_le _⟩
theorem insP_io (p : PointN) : InsOk lanes (insP p) := ⟨by show (0 : Int) ≤ 4 ∧ (4 : Int) ≤ 255; omega, by show (0 : Int) ≤ 0 ∧ (0 : Int) ≤ 255; omega, Nat.zero_le _⟩
theorem insA_io (x : Int) : InsOk lanes (insA x) := ⟨by show (0 : Int) ≤ 6 ∧ (6 : Int) ≤ 255; omega, by show (0 : Int) ≤ 0 ∧ (0 : Int) ≤ 255; omega, Nat.zero_le _⟩
theorem insC_io : InsOk lanes insC := ⟨by show (0 : Int) ≤ 3 ∧ (3 : Int) ≤ 255; omega, by show (0 : Int) ≤ 0 ∧ (0 : Int) ≤ 255; omega, Nat.zero_le _⟩
theorem insS_io (p : Int) : InsOk lanes (insS w h lanes g p) := ⟨by show (0 : Int) ≤ 2 ∧ (2 : Int) ≤ 255; omega, by show (0 : Int) ≤ 0 ∧ (0 : Int) ≤ 255; omega, by show (adrN w h lanes g p 0 0 0).length ≤ _; rw [adrN_len]; exact Nat.le_refl _⟩
theorem taps_io (p : Int) (s : StepN) : ∀ k, ∀ x ∈ tapsC w h lanes g p s k, InsOk lanes x
 | 0, x, hx => by cases hx
 | k + 1, x, hx => by
  rw [tapsC] at hx
  rcases List.mem_append.1 hx with hx | hx
  ·exact taps_io p s k x hx
  ·split at hx
   ·cases hx
   ·simp only [List.mem_cons, List.not_mem_nil, or_false] at hx
    rcases hx with rfl | rfl
    ·exact insL_io _ _ _ _ _ _ _ _ _ _
    ·exact insA_io _ _
theorem howC_io (s : StepN) : 0 ≤ howC s ∧ howC s ≤ 255 := by unfold howC; split <;> omega
theorem bits_io (p : Int) (s : StepN) : ∀ k, ∀ x ∈ bitsC w h lanes g p s k, InsOk lanes x
 | 0, x, hx => by cases hx
 | k + 1, x, hx => by
  rw [bitsC] at hx
  rcases List.mem_append.1 hx with hx | hx
  ·exact bits_io p s k x hx
  ·split at hx
   ·cases hx
   ·split at hx
    ·simp only [List.mem_cons, List.not_mem_nil, or_false] at hx
     subst hx
     exact insL_io _ _ _ _ _ _ _ _ _ _
    ·simp only [List.mem_cons, List.not_mem_nil, or_false] at hx
     rcases hx with rfl | rfl
     ·exact insL_io _ _ _ _ _ _ _ _ _ _
     ·exact insZ_io _ (howC_io s)
theorem head_io (F : FnL) {s : StepN} (hs : needB s = true) : ∀ x ∈ headC w h lanes g F s, InsOk lanes x := by
 intro x hx
 unfold headC at hx
 unfold needB at hs
 by_cases h1 : s.op = 1
 ·rw [if_pos h1] at hx
  simp only [List.mem_cons, List.not_mem_nil, or_false] at hx
  rcases hx with rfl | rfl
  ·exact insL_io _ _ _ _ _ _ _ _ _ _
  ·exact insP_io _ _
 rw [if_neg h1] at hx hs
 by_cases h2 : s.op = 2
 ·rw [if_pos h2] at hx hs
  rw [decide_eq_true_eq] at hs
  simp only [List.mem_cons, List.not_mem_nil, or_false] at hx
  rcases hx with rfl | rfl | rfl
  ·exact insL_io _ _ _ _ _ _ _ _ _ _
  ·exact insL_io _ _ _ _ _ _ _ _ _ _
  ·exact insZ_io _ (by omega)
 rw [if_neg h2] at hx
 by_cases h3 : s.op = 3
 ·rw [if_pos h3] at hx
  rcases List.mem_cons.1 hx with rfl | hx
  ·exact insC_io _
  ·exact taps_io _ _ _ _ _ _ _ x hx
 ·rw [if_neg h3] at hx
  exact bits_io _ _ _ _ _ _ _ x hx
theorem round_io (F : FnL) {r : RndN} (hs : needB r.head = true) (to_ : Int) : ∀ k, ∀ x ∈ roundC w h lanes F r to_ k, InsOk lanes x
 | 0, x, hx => by cases hx
 | k + 1, x, hx => by
  rw [roundC] at hx
  rcases List.mem_append.1 hx with hx | hx
  ·exact round_io F hs to_ k x hx
  ·unfold groupC at hx
   rcases List.mem_append.1 hx with hx | hx
   ·rcases List.mem_append.1 hx with hx | hx
    ·exact head_io _ _ _ _ _ hs x hx
    ·obtain ⟨p, _, rfl⟩ := List.mem_map.1 hx
     exact insP_io _ _
   ·rw [List.mem_singleton.1 hx]; exact insS_io _ _ _ _ _
end
theorem cmp_io {P : PipeN} (hP : pipeB P = true) {v : VecN} (hv : VecOk v P.w P.h (P.w.toNat * P.h.toNat) (mostP P)) : ∀ k, k ≤ (rdsN P.inp P.ss).length → ∀ x ∈ (cmpS P v.lanes k).code, InsOk v.lanes.toNat x
 | 0, _ => by
  obtain ⟨_, h2, _⟩ := cmp_start hP (zero_given hP) hv.ne
  rw [cmpS, h2]
  exact fun x hx => (by cases hx)
 | k + 1, hk => by
  have i1 := cmp_io hP hv k (by omega)
  have hC := cmp_all hP (zero_given hP) hv.ne hv.l.1 k (by omega)
  obtain ⟨code', h1, _, F, t0, rfl, _⟩ := cmp_round hP (zero_given hP) hv.ne hv.l.1 (show k < (rdsN P.inp P.ss).length by omega) hC
  obtain ⟨_, _, _, _, hall⟩ := pipeB_true hP
  have hhead := (rdsN_ok (refOk_of hP)).head k (by unfold rdsN at hk; omega)
  change (rnAt (rdsN P.inp P.ss) k).at_ < P.ss.length ∧ (rnAt (rdsN P.inp P.ss) k).head = stAt P.ss (rnAt (rdsN P.inp P.ss) k).at_ at hhead
  have hneed := (stepsB_all hall hhead.1).1
  rw [← hhead.2] at hneed
  rw [cmpS, h1]
  intro x hx
  rcases List.mem_append.1 hx with hx | hx
  ·exact i1 x hx
  ·exact round_io _ _ _ _ hneed _ _ x hx
theorem codeIn_of {C : CodeN} (h1 : C.inp.length ≤ 9223372036854775807) (h2 : C.ins.length ≤ 9223372036854775807) (h3 : ∀ x ∈ C.ins, InsOk 9223372036854775807 x) : CodeIn C := ⟨h1, h2, fun i hi => by
 have e : insAt C.ins i = C.ins[i] := by unfold insAt; rw [List.getElem?_eq_getElem hi]; rfl
 rw [e]
 obtain ⟨a, b, c⟩ := h3 _ (List.getElem_mem hi)
 exact ⟨a, b, c⟩⟩
theorem cmpR_in (P : PipeN) (v : VecN) : CodeIn (cmpR P v) := by
 unfold cmpR
 by_cases h : cmpE P v = 0
 ·rw [if_pos h]
  unfold cmpE at h
  by_cases hP : pipeB P = true
  ·rw [if_pos hP] at h
   by_cases hv : vecB v = true
   ·rw [if_pos hv] at h
    by_cases hr : v.mem < roomP P
    ·rw [if_pos hr] at h; omega
    ·have hvo := vecOk_of hP hv (by omega)
     obtain ⟨_, _, s3, s4⟩ := cmp_start hP (zero_given hP) hvo.ne
     obtain ⟨_, _, hi, _⟩ := pipeB_true hP
     refine codeIn_of ?_ ?_ fun x hx => ?_
     ·show (cmp0 P (mostP P)).inp.length ≤ _; rw [s4]; omega
     ·have := code_le hP hvo (Nat.le_refl _); show (cmpS P v.lanes (rdsN P.inp P.ss).length).code.length ≤ _; omega
     ·obtain ⟨a, b, c⟩ := cmp_io hP hvo _ (Nat.le_refl _) x hx
      have := hvo.l
      exact ⟨a, b, by omega⟩
   ·rw [if_neg hv] at h; omega
  ·rw [if_neg hP] at h; omega
 ·rw [if_neg h]
  exact codeIn_of (by simp) (by simp) (fun x hx => by cases hx)
end Go.Proofs.YtekiemlniegddaaGreat

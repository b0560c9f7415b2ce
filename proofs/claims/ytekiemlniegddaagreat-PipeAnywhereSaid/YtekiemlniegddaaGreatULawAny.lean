/- PipeAnywhere returns true for every pipe, two machines and images. -/
import Derived.Lib.MinMax
import Derived.Test.YtekiemlniegddaaGreatUMnF
import Derived.Test.YtekiemlniegddaaGreatUPcL
import Derived.Test.YtekiemlniegddaaGreatQF18
namespace Go.Proofs.YtekiemlniegddaaGreat
open Go Go.Maps Go.RowKit Go.Shelf
set_option linter.unusedVariables false
set_option linter.unusedSimpArgs false
theorem RdPs.bm {W W' : World} {a : Option Addr} {l : List PicN} (h : RdPs W.heap.size W a l) (g : Below W.heap.size W W') : RdPs W'.heap.size W' a l := (h.below (Nat.le_refl _) g).mono g.size
theorem tmB {u w x : World} (h : Below u.heap.size u w) (g : Below w.heap.size w x) : Below u.heap.size u x := h.trans (g.mono h.size)
theorem newB (w : World) (t : TypeId) (cs : Array Value) : ∃ X, w.alloc (.cells cs t) = X ∧ Below w.heap.size w X ∧ Blk X w.heap.size t cs := ⟨_, rfl, jb_al (Below.refl _ w) _, Blk.new w t cs⟩

set_option maxRecDepth 100000 in
set_option maxHeartbeats 8000000 in
theorem law_any (Q : PipeN) (a : Option Addr) (n c : Nat) (hn : Q.ss.length = n) (hQ : PipeIn Q) (v u : VecN) (ms : List PicN) (la : Option Addr) (q lc : Nat) (hm : ms.length = q) (hmm : q ≤ 9223372036854775807) (hpl : ∀ i, (picAt ms i).px.length ≤ 9223372036854775807) (w : World) (hr : RdSs w.heap.size w a Q.ss) (hrl : RdPs w.heap.size w la ms) :
  Calls Tryz.prog 6 #[pipev Q a n c, vecv v, vecv u, .slice la q lc] w fun e w' => e = .returned (.bool true) ∧ Below w.heap.size w w' := by
 have hB : Below w.heap.size w w := Below.refl _ _
 obtain ⟨pb, hpb⟩ : ∃ q, pipeB Q = q := ⟨_, rfl⟩
 have hvl := fun W h => PValid_any Q a n c hn hQ pb hpb W h
 unfold pipev at hvl
 have hvlH := Lib.hid hvl
 have hpbH := Lib.hid hpb
 clear hvl hpb
 obtain ⟨gb, hgb⟩ : ∃ q, givenB ms Q.inp Q.w Q.h = q := ⟨_, rfl⟩
 have hgv := fun W h => given3_any Q a n c ms la lc q hm hmm (fun i _ => hpl i) gb hgb W h
 unfold pipev at hgv
 have hgvH := Lib.hid hgv
 have hgbH := Lib.hid hgb
 clear hgv hgb
 have hcp := fun W h => Compile_any Q hQ v a n c hn W h
 have hci := cmpR_in Q v
 have hc0 : cmpE Q v = 0 → chkS v (cmpR Q v) = 0 := fun h => (ran_chk h).1
 obtain ⟨E1, hE⟩ : ∃ E, cmpE Q v = E := ⟨_, rfl⟩
 obtain ⟨C1, hC⟩ : ∃ R, cmpR Q v = R := ⟨_, rfl⟩
 rw [hE, hC] at hcp hc0
 rw [hC] at hci
 unfold RetCo codev at hcp
 unfold pipev vecv at hcp
 have hcp1H := Lib.hid hcp
 have hci1H := Lib.hid hci
 have hE1H := Lib.hid hE
 have hC1H := Lib.hid hC
 clear hcp hci hE hC hc0
 have hcp := fun W h => Compile_any Q hQ u a n c hn W h
 have hci := cmpR_in Q u
 have hc0 : cmpE Q u = 0 → chkS u (cmpR Q u) = 0 := fun h => (ran_chk h).1
 obtain ⟨E2, hE⟩ : ∃ E, cmpE Q u = E := ⟨_, rfl⟩
 obtain ⟨C2, hC⟩ : ∃ R, cmpR Q u = R := ⟨_, rfl⟩
 rw [hE, hC] at hcp hc0
 rw [hC] at hci
 unfold RetCo codev at hcp
 unfold pipev vecv at hcp
 have hcp2H := Lib.hid hcp
 have hci2H := Lib.hid hci
 have hE2H := Lib.hid hE
 have hC2H := Lib.hid hC
 clear hcp hci hE hC hc0
 have hrn := fun W ia ic xa xc h1 h2 h3 => Run_any v C1 ia xa ic xc hci1H.out ms la q lc hm hmm hpl W h1 h2 h3
 unfold vecv codev at hrn
 have hrn1H := Lib.hid hrn
 clear hrn
 have hrn := fun W ia ic xa xc h1 h2 h3 => Run_any u C2 ia xa ic xc hci2H.out ms la q lc hm hmm hpl W h1 h2 h3
 unfold vecv codev at hrn
 have hrn2H := Lib.hid hrn
 clear hrn
 obtain ⟨mr, hmr⟩ : ∃ r, max v.regs u.regs = r := ⟨_, rfl⟩
 obtain ⟨mm, hmmx⟩ : ∃ r, max v.mem u.mem = r := ⟨_, rfl⟩
 have hrn := fun W ia ic xa xc h1 h2 h3 => Run_any ⟨v.lanes, mr, mm⟩ C1 ia xa ic xc hci1H.out ms la q lc hm hmm hpl W h1 h2 h3
 unfold vecv codev at hrn
 simp only at hrn
 have hrn3H := Lib.hid hrn
 have hmrH := Lib.hid (And.intro hmr hmmx)
 clear hrn hQ hn hm hpl hmr hmmx
 unfold pipev vecv
 obtain ⟨V1, hEV1, hbV1, kp⟩ := newB w 24 #[.int .i64 Q.w, .int .i64 Q.h, .int .i64 Q.inp, .slice a n c]
 replace hr := hr.later hbV1
 replace hrl := hrl.bm hbV1
 replace hB := tmB hB hbV1
 clear hbV1
 obtain ⟨p0, p1, p2, p3⟩ := cz4 kp
 obtain ⟨V2, hEV2, hbV2, kv⟩ := newB V1 26 #[.int .i64 v.lanes, .int .i64 v.regs, .int .i64 v.mem]
 clear p0 p1 p2 p3
 replace kp := kp.below hbV2 kp.lt
 replace hr := hr.later hbV2
 replace hrl := hrl.bm hbV2
 replace hB := tmB hB hbV2
 clear hbV2
 obtain ⟨p0, p1, p2, p3⟩ := cz4 kp
 obtain ⟨v0, v1, v2⟩ := cz3 kv
 obtain ⟨V3, hEV3, hbV3, ku⟩ := newB V2 26 #[.int .i64 u.lanes, .int .i64 u.regs, .int .i64 u.mem]
 clear p0 p1 p2 p3 v0 v1 v2
 replace kp := kp.below hbV3 kp.lt
 replace kv := kv.below hbV3 kv.lt
 replace hr := hr.later hbV3
 replace hrl := hrl.bm hbV3
 replace hB := tmB hB hbV3
 clear hbV3
 obtain ⟨p0, p1, p2, p3⟩ := cz4 kp
 obtain ⟨v0, v1, v2⟩ := cz3 kv
 obtain ⟨u0, u1, u2⟩ := cz3 ku
 go_enter Tryz.func6, Tryz.ntmps6
 go_wp2_with fail
 clear hEV1 hEV2 hEV3
 refine (alive3_any V3).mono ?_
 rintro e V4 ⟨rfl, hb⟩
 clear p0 p1 p2 p3 v0 v1 v2 u0 u1 u2
 replace kp := kp.below hb kp.lt
 replace kv := kv.below hb kv.lt
 replace ku := ku.below hb ku.lt
 replace hr := hr.later hb
 replace hrl := hrl.bm hb
 replace hB := tmB hB hb
 clear hb
 obtain ⟨p0, p1, p2, p3⟩ := cz4 kp
 obtain ⟨v0, v1, v2⟩ := cz3 kv
 obtain ⟨u0, u1, u2⟩ := cz3 ku
 go_wp2_with fail
 refine (hvlH.out V4 hr).mono ?_
 rintro e V5 ⟨rfl, hb⟩
 clear p0 p1 p2 p3 v0 v1 v2 u0 u1 u2
 replace kp := kp.below hb kp.lt
 replace kv := kv.below hb kv.lt
 replace ku := ku.below hb ku.lt
 replace hr := hr.later hb
 replace hrl := hrl.bm hb
 replace hB := tmB hB hb
 clear hb
 obtain ⟨p0, p1, p2, p3⟩ := cz4 kp
 obtain ⟨v0, v1, v2⟩ := cz3 kv
 obtain ⟨u0, u1, u2⟩ := cz3 ku
 cases pb with
 | false =>
  go_wp2_with fail
  go_ret
  exact ⟨rfl, hB⟩
 | true =>
 go_wp2_with fail
 refine (hgvH.out V5 hrl).mono ?_
 rintro e V6 ⟨rfl, hb⟩
 clear p0 p1 p2 p3 v0 v1 v2 u0 u1 u2
 replace kp := kp.below hb kp.lt
 replace kv := kv.below hb kv.lt
 replace ku := ku.below hb ku.lt
 replace hr := hr.later hb
 replace hrl := hrl.bm hb
 replace hB := tmB hB hb
 clear hb
 obtain ⟨p0, p1, p2, p3⟩ := cz4 kp
 obtain ⟨v0, v1, v2⟩ := cz3 kv
 obtain ⟨u0, u1, u2⟩ := cz3 ku
 cases gb with
 | false =>
  go_wp2_with fail
  go_ret
  exact ⟨rfl, hB⟩
 | true =>
 go_wp2_with fail
 refine (hcp1H.out V6 hr).mono ?_
 rintro e V7 ⟨i1, j1, x1a, x1c, rfl, ri1, rx1, hb⟩
 clear p0 p1 p2 p3 v0 v1 v2 u0 u1 u2
 replace kp := kp.below hb kp.lt
 replace kv := kv.below hb kv.lt
 replace ku := ku.below hb ku.lt
 replace hr := hr.later hb
 replace hrl := hrl.bm hb
 replace hB := tmB hB hb
 clear hb
 obtain ⟨p0, p1, p2, p3⟩ := cz4 kp
 obtain ⟨v0, v1, v2⟩ := cz3 kv
 obtain ⟨u0, u1, u2⟩ := cz3 ku
 obtain ⟨V8, hEV8, hbV8, kc1⟩ := newB V7 43 #[.int .i64 C1.w, .int .i64 C1.h, .slice i1 C1.inp.length j1, .int .i64 C1.out, .slice x1a C1.ins.length x1c]
 clear p0 p1 p2 p3 v0 v1 v2 u0 u1 u2
 replace kp := kp.below hbV8 kp.lt
 replace kv := kv.below hbV8 kv.lt
 replace ku := ku.below hbV8 ku.lt
 replace hr := hr.later hbV8
 replace hrl := hrl.bm hbV8
 replace ri1 := later_i ri1 hbV8
 replace rx1 := (rx1.below (Nat.le_refl _) hbV8).mono hbV8.size
 replace hB := tmB hB hbV8
 clear hbV8
 obtain ⟨p0, p1, p2, p3⟩ := cz4 kp
 obtain ⟨v0, v1, v2⟩ := cz3 kv
 obtain ⟨u0, u1, u2⟩ := cz3 ku
 obtain ⟨c1z0, c1z1, c1z2, c1z3, c1z4⟩ := cz5 kc1
 go_wp2_with fail
 clear hEV8
 refine (hcp2H.out V8 hr).mono ?_
 rintro e V9 ⟨i2, j2, x2a, x2c, rfl, ri2, rx2, hb⟩
 clear p0 p1 p2 p3 v0 v1 v2 u0 u1 u2 c1z0 c1z1 c1z2 c1z3 c1z4
 replace kp := kp.below hb kp.lt
 replace kv := kv.below hb kv.lt
 replace ku := ku.below hb ku.lt
 replace kc1 := kc1.below hb kc1.lt
 replace hr := hr.later hb
 replace hrl := hrl.bm hb
 replace ri1 := later_i ri1 hb
 replace rx1 := (rx1.below (Nat.le_refl _) hb).mono hb.size
 replace hB := tmB hB hb
 clear hb
 obtain ⟨p0, p1, p2, p3⟩ := cz4 kp
 obtain ⟨v0, v1, v2⟩ := cz3 kv
 obtain ⟨u0, u1, u2⟩ := cz3 ku
 obtain ⟨c1z0, c1z1, c1z2, c1z3, c1z4⟩ := cz5 kc1
 obtain ⟨V10, hEV10, hbV10, kc2⟩ := newB V9 43 #[.int .i64 C2.w, .int .i64 C2.h, .slice i2 C2.inp.length j2, .int .i64 C2.out, .slice x2a C2.ins.length x2c]
 clear p0 p1 p2 p3 v0 v1 v2 u0 u1 u2 c1z0 c1z1 c1z2 c1z3 c1z4
 replace kp := kp.below hbV10 kp.lt
 replace kv := kv.below hbV10 kv.lt
 replace ku := ku.below hbV10 ku.lt
 replace kc1 := kc1.below hbV10 kc1.lt
 replace hr := hr.later hbV10
 replace hrl := hrl.bm hbV10
 replace ri1 := later_i ri1 hbV10
 replace rx1 := (rx1.below (Nat.le_refl _) hbV10).mono hbV10.size
 replace ri2 := later_i ri2 hbV10
 replace rx2 := (rx2.below (Nat.le_refl _) hbV10).mono hbV10.size
 replace hB := tmB hB hbV10
 clear hbV10
 obtain ⟨p0, p1, p2, p3⟩ := cz4 kp
 obtain ⟨v0, v1, v2⟩ := cz3 kv
 obtain ⟨u0, u1, u2⟩ := cz3 ku
 obtain ⟨c1z0, c1z1, c1z2, c1z3, c1z4⟩ := cz5 kc1
 obtain ⟨c2z0, c2z1, c2z2, c2z3, c2z4⟩ := cz5 kc2
 by_cases hz1 : E1 = 0
 case neg =>
  have hz1b : (E1 != 0) = true := by simp [hz1]
  clear hz1
  go_wp2_with fail
  go_ret
  exact ⟨rfl, hB⟩
 case pos =>
 subst hz1
 by_cases hz2 : E2 = 0
 case neg =>
  have hz2b : (E2 != 0) = true := by simp [hz2]
  clear hz2
  go_wp2_with fail
  go_ret
  exact ⟨rfl, hB⟩
 case pos =>
 subst hz2
 obtain ⟨MW, MH, MP, hM⟩ := mean_form hpbH.out hgbH.out
 have hr1 := ran_mean hE1H.out hgbH.out
 have hr2 := ran_mean hE2H.out hgbH.out
 have hr3 := ran_more hE1H.out hE2H.out hgbH.out
 rw [hC1H.out, hM] at hr1
 rw [hC2H.out, hM] at hr2
 rw [hC1H.out, hM, hmrH.out.1, hmrH.out.2] at hr3
 have g1 := hrn1H.out
 have g2 := hrn2H.out
 have g3 := hrn3H.out
 rw [hr1] at g1
 rw [hr2] at g2
 rw [hr3] at g3
 have g1H := Lib.hid g1
 have g2H := Lib.hid g2
 have g3H := Lib.hid g3
 clear g1 g2 g3 hr1 hr2 hr3 hM hrn1H hrn2H hrn3H
 go_wp2_with fail
 clear hEV10
 refine (g1H.out V10 i1 j1 x1a x1c ri1 rx1 hrl).mono ?_
 rintro e V11 ⟨⟨vv1, rfl, ⟨uu1, rfl, h1⟩⟩, hb⟩
 clear p0 p1 p2 p3 v0 v1 v2 u0 u1 u2 c1z0 c1z1 c1z2 c1z3 c1z4 c2z0 c2z1 c2z2 c2z3 c2z4
 replace kp := kp.below hb kp.lt
 replace kv := kv.below hb kv.lt
 replace ku := ku.below hb ku.lt
 replace kc1 := kc1.below hb kc1.lt
 replace kc2 := kc2.below hb kc2.lt
 replace hr := hr.later hb
 replace hrl := hrl.bm hb
 replace ri1 := later_i ri1 hb
 replace rx1 := (rx1.below (Nat.le_refl _) hb).mono hb.size
 replace ri2 := later_i ri2 hb
 replace rx2 := (rx2.below (Nat.le_refl _) hb).mono hb.size
 replace hB := tmB hB hb
 clear hb
 dsimp only at h1 ⊢
 obtain ⟨p1a, p1c, rfl⟩ := row_slice h1
 have rp1 := rowI_rd rfl h1
 have hml1 := row_maxP h1
 clear h1
 obtain ⟨p0, p1, p2, p3⟩ := cz4 kp
 obtain ⟨v0, v1, v2⟩ := cz3 kv
 obtain ⟨u0, u1, u2⟩ := cz3 ku
 obtain ⟨c1z0, c1z1, c1z2, c1z3, c1z4⟩ := cz5 kc1
 obtain ⟨c2z0, c2z1, c2z2, c2z3, c2z4⟩ := cz5 kc2
 obtain ⟨V12, hEV12, hbV12, kI1⟩ := newB V11 32 #[.int .i64 MW, .int .i64 MH, .slice p1a MP.length p1c]
 clear p0 p1 p2 p3 v0 v1 v2 u0 u1 u2 c1z0 c1z1 c1z2 c1z3 c1z4 c2z0 c2z1 c2z2 c2z3 c2z4
 replace kp := kp.below hbV12 kp.lt
 replace kv := kv.below hbV12 kv.lt
 replace ku := ku.below hbV12 ku.lt
 replace kc1 := kc1.below hbV12 kc1.lt
 replace kc2 := kc2.below hbV12 kc2.lt
 replace hr := hr.later hbV12
 replace hrl := hrl.bm hbV12
 replace ri1 := later_i ri1 hbV12
 replace rx1 := (rx1.below (Nat.le_refl _) hbV12).mono hbV12.size
 replace ri2 := later_i ri2 hbV12
 replace rx2 := (rx2.below (Nat.le_refl _) hbV12).mono hbV12.size
 replace rp1 := later_i rp1 hbV12
 replace hB := tmB hB hbV12
 clear hbV12
 obtain ⟨p0, p1, p2, p3⟩ := cz4 kp
 obtain ⟨v0, v1, v2⟩ := cz3 kv
 obtain ⟨u0, u1, u2⟩ := cz3 ku
 obtain ⟨c1z0, c1z1, c1z2, c1z3, c1z4⟩ := cz5 kc1
 obtain ⟨c2z0, c2z1, c2z2, c2z3, c2z4⟩ := cz5 kc2
 obtain ⟨i1z0, i1z1, i1z2⟩ := cz3 kI1
 go_wp2_with fail
 clear hEV12
 refine (g2H.out V12 i2 j2 x2a x2c ri2 rx2 hrl).mono ?_
 rintro e V13 ⟨⟨vv2, rfl, ⟨uu2, rfl, h1⟩⟩, hb⟩
 clear p0 p1 p2 p3 v0 v1 v2 u0 u1 u2 c1z0 c1z1 c1z2 c1z3 c1z4 c2z0 c2z1 c2z2 c2z3 c2z4 i1z0 i1z1 i1z2
 replace kp := kp.below hb kp.lt
 replace kv := kv.below hb kv.lt
 replace ku := ku.below hb ku.lt
 replace kc1 := kc1.below hb kc1.lt
 replace kc2 := kc2.below hb kc2.lt
 replace kI1 := kI1.below hb kI1.lt
 replace hr := hr.later hb
 replace hrl := hrl.bm hb
 replace ri1 := later_i ri1 hb
 replace rx1 := (rx1.below (Nat.le_refl _) hb).mono hb.size
 replace ri2 := later_i ri2 hb
 replace rx2 := (rx2.below (Nat.le_refl _) hb).mono hb.size
 replace rp1 := later_i rp1 hb
 replace hB := tmB hB hb
 clear hb
 dsimp only at h1 ⊢
 obtain ⟨p2a, p2c, rfl⟩ := row_slice h1
 have rp2 := rowI_rd rfl h1
 have hml2 := row_maxP h1
 clear h1
 obtain ⟨p0, p1, p2, p3⟩ := cz4 kp
 obtain ⟨v0, v1, v2⟩ := cz3 kv
 obtain ⟨u0, u1, u2⟩ := cz3 ku
 obtain ⟨c1z0, c1z1, c1z2, c1z3, c1z4⟩ := cz5 kc1
 obtain ⟨c2z0, c2z1, c2z2, c2z3, c2z4⟩ := cz5 kc2
 obtain ⟨i1z0, i1z1, i1z2⟩ := cz3 kI1
 obtain ⟨V14, hEV14, hbV14, kI2⟩ := newB V13 32 #[.int .i64 MW, .int .i64 MH, .slice p2a MP.length p2c]
 clear p0 p1 p2 p3 v0 v1 v2 u0 u1 u2 c1z0 c1z1 c1z2 c1z3 c1z4 c2z0 c2z1 c2z2 c2z3 c2z4 i1z0 i1z1 i1z2
 replace kp := kp.below hbV14 kp.lt
 replace kv := kv.below hbV14 kv.lt
 replace ku := ku.below hbV14 ku.lt
 replace kc1 := kc1.below hbV14 kc1.lt
 replace kc2 := kc2.below hbV14 kc2.lt
 replace kI1 := kI1.below hbV14 kI1.lt
 replace hr := hr.later hbV14
 replace hrl := hrl.bm hbV14
 replace ri1 := later_i ri1 hbV14
 replace rx1 := (rx1.below (Nat.le_refl _) hbV14).mono hbV14.size
 replace ri2 := later_i ri2 hbV14
 replace rx2 := (rx2.below (Nat.le_refl _) hbV14).mono hbV14.size
 replace rp1 := later_i rp1 hbV14
 replace rp2 := later_i rp2 hbV14
 replace hB := tmB hB hbV14
 clear hbV14
 obtain ⟨p0, p1, p2, p3⟩ := cz4 kp
 obtain ⟨v0, v1, v2⟩ := cz3 kv
 obtain ⟨u0, u1, u2⟩ := cz3 ku
 obtain ⟨c1z0, c1z1, c1z2, c1z3, c1z4⟩ := cz5 kc1
 obtain ⟨c2z0, c2z1, c2z2, c2z3, c2z4⟩ := cz5 kc2
 obtain ⟨i1z0, i1z1, i1z2⟩ := cz3 kI1
 obtain ⟨i2z0, i2z1, i2z2⟩ := cz3 kI2
 have hmr := hmrH.out.1
 have hmx := hmrH.out.2
 have q_v0 := v0
 have q_v1 := v1
 have q_v2 := v2
 have q_u0 := u0
 have q_u1 := u1
 have q_u2 := u2
 obtain ⟨V15, hEV15, hbV15, km⟩ := newB V14 26 #[.int .i64 v.lanes, .int .i64 mr, .int .i64 mm]
 clear p0 p1 p2 p3 v0 v1 v2 u0 u1 u2 c1z0 c1z1 c1z2 c1z3 c1z4 c2z0 c2z1 c2z2 c2z3 c2z4 i1z0 i1z1 i1z2 i2z0 i2z1 i2z2
 replace kp := kp.below hbV15 kp.lt
 replace kv := kv.below hbV15 kv.lt
 replace ku := ku.below hbV15 ku.lt
 replace kc1 := kc1.below hbV15 kc1.lt
 replace kc2 := kc2.below hbV15 kc2.lt
 replace kI1 := kI1.below hbV15 kI1.lt
 replace kI2 := kI2.below hbV15 kI2.lt
 replace hr := hr.later hbV15
 replace hrl := hrl.bm hbV15
 replace ri1 := later_i ri1 hbV15
 replace rx1 := (rx1.below (Nat.le_refl _) hbV15).mono hbV15.size
 replace ri2 := later_i ri2 hbV15
 replace rx2 := (rx2.below (Nat.le_refl _) hbV15).mono hbV15.size
 replace rp1 := later_i rp1 hbV15
 replace rp2 := later_i rp2 hbV15
 replace hB := tmB hB hbV15
 clear hbV15
 obtain ⟨p0, p1, p2, p3⟩ := cz4 kp
 obtain ⟨v0, v1, v2⟩ := cz3 kv
 obtain ⟨u0, u1, u2⟩ := cz3 ku
 obtain ⟨c1z0, c1z1, c1z2, c1z3, c1z4⟩ := cz5 kc1
 obtain ⟨c2z0, c2z1, c2z2, c2z3, c2z4⟩ := cz5 kc2
 obtain ⟨i1z0, i1z1, i1z2⟩ := cz3 kI1
 obtain ⟨i2z0, i2z1, i2z2⟩ := cz3 kI2
 obtain ⟨m0, m1, m2⟩ := cz3 km
 go_wp2_with fail
 clear hEV14 hmr hmx q_v0 q_v1 q_v2 q_u0 q_u1 q_u2 hEV15
 refine (g3H.out V15 i1 j1 x1a x1c ri1 rx1 hrl).mono ?_
 rintro e V16 ⟨⟨vv3, rfl, ⟨uu3, rfl, h1⟩⟩, hb⟩
 clear p0 p1 p2 p3 v0 v1 v2 u0 u1 u2 c1z0 c1z1 c1z2 c1z3 c1z4 c2z0 c2z1 c2z2 c2z3 c2z4 i1z0 i1z1 i1z2 i2z0 i2z1 i2z2 m0 m1 m2
 replace kp := kp.below hb kp.lt
 replace kv := kv.below hb kv.lt
 replace ku := ku.below hb ku.lt
 replace kc1 := kc1.below hb kc1.lt
 replace kc2 := kc2.below hb kc2.lt
 replace kI1 := kI1.below hb kI1.lt
 replace kI2 := kI2.below hb kI2.lt
 replace km := km.below hb km.lt
 replace hr := hr.later hb
 replace hrl := hrl.bm hb
 replace ri1 := later_i ri1 hb
 replace rx1 := (rx1.below (Nat.le_refl _) hb).mono hb.size
 replace ri2 := later_i ri2 hb
 replace rx2 := (rx2.below (Nat.le_refl _) hb).mono hb.size
 replace rp1 := later_i rp1 hb
 replace rp2 := later_i rp2 hb
 replace hB := tmB hB hb
 clear hb
 dsimp only at h1 ⊢
 obtain ⟨p3a, p3c, rfl⟩ := row_slice h1
 have rp3 := rowI_rd rfl h1
 have hml3 := row_maxP h1
 clear h1
 obtain ⟨p0, p1, p2, p3⟩ := cz4 kp
 obtain ⟨v0, v1, v2⟩ := cz3 kv
 obtain ⟨u0, u1, u2⟩ := cz3 ku
 obtain ⟨c1z0, c1z1, c1z2, c1z3, c1z4⟩ := cz5 kc1
 obtain ⟨c2z0, c2z1, c2z2, c2z3, c2z4⟩ := cz5 kc2
 obtain ⟨i1z0, i1z1, i1z2⟩ := cz3 kI1
 obtain ⟨i2z0, i2z1, i2z2⟩ := cz3 kI2
 obtain ⟨m0, m1, m2⟩ := cz3 km
 obtain ⟨V17, hEV17, hbV17, kI3⟩ := newB V16 32 #[.int .i64 MW, .int .i64 MH, .slice p3a MP.length p3c]
 clear p0 p1 p2 p3 v0 v1 v2 u0 u1 u2 c1z0 c1z1 c1z2 c1z3 c1z4 c2z0 c2z1 c2z2 c2z3 c2z4 i1z0 i1z1 i1z2 i2z0 i2z1 i2z2 m0 m1 m2
 replace kp := kp.below hbV17 kp.lt
 replace kv := kv.below hbV17 kv.lt
 replace ku := ku.below hbV17 ku.lt
 replace kc1 := kc1.below hbV17 kc1.lt
 replace kc2 := kc2.below hbV17 kc2.lt
 replace kI1 := kI1.below hbV17 kI1.lt
 replace kI2 := kI2.below hbV17 kI2.lt
 replace km := km.below hbV17 km.lt
 replace hr := hr.later hbV17
 replace hrl := hrl.bm hbV17
 replace ri1 := later_i ri1 hbV17
 replace rx1 := (rx1.below (Nat.le_refl _) hbV17).mono hbV17.size
 replace ri2 := later_i ri2 hbV17
 replace rx2 := (rx2.below (Nat.le_refl _) hbV17).mono hbV17.size
 replace rp1 := later_i rp1 hbV17
 replace rp2 := later_i rp2 hbV17
 replace rp3 := later_i rp3 hbV17
 replace hB := tmB hB hbV17
 clear hbV17
 obtain ⟨p0, p1, p2, p3⟩ := cz4 kp
 obtain ⟨v0, v1, v2⟩ := cz3 kv
 obtain ⟨u0, u1, u2⟩ := cz3 ku
 obtain ⟨c1z0, c1z1, c1z2, c1z3, c1z4⟩ := cz5 kc1
 obtain ⟨c2z0, c2z1, c2z2, c2z3, c2z4⟩ := cz5 kc2
 obtain ⟨i1z0, i1z1, i1z2⟩ := cz3 kI1
 obtain ⟨i2z0, i2z1, i2z2⟩ := cz3 kI2
 obtain ⟨m0, m1, m2⟩ := cz3 km
 obtain ⟨i3z0, i3z1, i3z2⟩ := cz3 kI3
 go_wp2_with fail
 clear hEV17
 refine (Same_eq MW MH p1a p2a p1c p2c MP.length MP (Lib.hid rfl) V17 hml1 rp1 rp2).mono ?_
 rintro e V18 ⟨rfl, hb⟩
 clear p0 p1 p2 p3 v0 v1 v2 u0 u1 u2 c1z0 c1z1 c1z2 c1z3 c1z4 c2z0 c2z1 c2z2 c2z3 c2z4 i1z0 i1z1 i1z2 i2z0 i2z1 i2z2 m0 m1 m2 i3z0 i3z1 i3z2
 replace kp := kp.below hb kp.lt
 replace kv := kv.below hb kv.lt
 replace ku := ku.below hb ku.lt
 replace kc1 := kc1.below hb kc1.lt
 replace kc2 := kc2.below hb kc2.lt
 replace kI1 := kI1.below hb kI1.lt
 replace kI2 := kI2.below hb kI2.lt
 replace km := km.below hb km.lt
 replace kI3 := kI3.below hb kI3.lt
 replace hr := hr.later hb
 replace hrl := hrl.bm hb
 replace ri1 := later_i ri1 hb
 replace rx1 := (rx1.below (Nat.le_refl _) hb).mono hb.size
 replace ri2 := later_i ri2 hb
 replace rx2 := (rx2.below (Nat.le_refl _) hb).mono hb.size
 replace rp1 := later_i rp1 hb
 replace rp2 := later_i rp2 hb
 replace rp3 := later_i rp3 hb
 replace hB := tmB hB hb
 clear hb
 obtain ⟨p0, p1, p2, p3⟩ := cz4 kp
 obtain ⟨v0, v1, v2⟩ := cz3 kv
 obtain ⟨u0, u1, u2⟩ := cz3 ku
 obtain ⟨c1z0, c1z1, c1z2, c1z3, c1z4⟩ := cz5 kc1
 obtain ⟨c2z0, c2z1, c2z2, c2z3, c2z4⟩ := cz5 kc2
 obtain ⟨i1z0, i1z1, i1z2⟩ := cz3 kI1
 obtain ⟨i2z0, i2z1, i2z2⟩ := cz3 kI2
 obtain ⟨m0, m1, m2⟩ := cz3 km
 obtain ⟨i3z0, i3z1, i3z2⟩ := cz3 kI3
 go_wp2_with fail
 refine (Same_eq MW MH p1a p3a p1c p3c MP.length MP (Lib.hid rfl) V18 hml1 rp1 rp3).mono ?_
 rintro e V19 ⟨rfl, hb⟩
 clear p0 p1 p2 p3 v0 v1 v2 u0 u1 u2 c1z0 c1z1 c1z2 c1z3 c1z4 c2z0 c2z1 c2z2 c2z3 c2z4 i1z0 i1z1 i1z2 i2z0 i2z1 i2z2 m0 m1 m2 i3z0 i3z1 i3z2
 replace kp := kp.below hb kp.lt
 replace kv := kv.below hb kv.lt
 replace ku := ku.below hb ku.lt
 replace kc1 := kc1.below hb kc1.lt
 replace kc2 := kc2.below hb kc2.lt
 replace kI1 := kI1.below hb kI1.lt
 replace kI2 := kI2.below hb kI2.lt
 replace km := km.below hb km.lt
 replace kI3 := kI3.below hb kI3.lt
 replace hr := hr.later hb
 replace hrl := hrl.bm hb
 replace ri1 := later_i ri1 hb
 replace rx1 := (rx1.below (Nat.le_refl _) hb).mono hb.size
 replace ri2 := later_i ri2 hb
 replace rx2 := (rx2.below (Nat.le_refl _) hb).mono hb.size
 replace rp1 := later_i rp1 hb
 replace rp2 := later_i rp2 hb
 replace rp3 := later_i rp3 hb
 replace hB := tmB hB hb
 clear hb
 obtain ⟨p0, p1, p2, p3⟩ := cz4 kp
 obtain ⟨v0, v1, v2⟩ := cz3 kv
 obtain ⟨u0, u1, u2⟩ := cz3 ku
 obtain ⟨c1z0, c1z1, c1z2, c1z3, c1z4⟩ := cz5 kc1
 obtain ⟨c2z0, c2z1, c2z2, c2z3, c2z4⟩ := cz5 kc2
 obtain ⟨i1z0, i1z1, i1z2⟩ := cz3 kI1
 obtain ⟨i2z0, i2z1, i2z2⟩ := cz3 kI2
 obtain ⟨m0, m1, m2⟩ := cz3 km
 obtain ⟨i3z0, i3z1, i3z2⟩ := cz3 kI3
 go_wp2_with fail
 go_ret
 exact ⟨rfl, hB⟩

end Go.Proofs.YtekiemlniegddaaGreat

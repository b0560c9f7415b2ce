/- PipeShort returns true for every pipe and machine. -/
import Derived.Test.YtekiemlniegddaaQG17
namespace Go.Proofs.Ytekiemlniegddaa
open Go Go.Maps Go.RowKit Go.Shelf
set_option linter.unusedVariables false
set_option linter.unusedSimpArgs false

theorem cmpR_bad {P : PipeN} {v : VecN} (h : cmpE P v ≠ 0) : cmpR P v = ⟨0, 0, [], 0, []⟩ := by unfold cmpR; rw [if_neg h]
theorem len_ok {P : PipeN} {v : VecN} (h : cmpE P v = 0) : lenE P v.lanes = 0 ∧ lenV P v.lanes = lenP P v.lanes := by
 obtain ⟨h1, h2, _, _⟩ := cmpE_zero h
 have h3 := vecB_facts h2
 have h4 : lenE P v.lanes = 0 := by unfold lenE; rw [if_pos h1, if_pos (by rw [inR_true]; exact h3.1)]
 exact ⟨h4, by unfold lenV; rw [if_pos h4]⟩
set_option maxRecDepth 100000 in
set_option maxHeartbeats 8000000 in
theorem law_short (Q : PipeN) (a : Option Addr) (n c : Nat) (hn : Q.ss.length = n) (hQ : PipeIn Q) (v : VecN) (w : World) (hr : RdSs w.heap.size w a Q.ss) :
  Calls Try.prog 6 #[pipev Q a n c, vecv v] w fun e w' => e = .returned (.bool true) ∧ Below w.heap.size w w' := by
 have hB : Below w.heap.size w w := Below.refl _ _
 have hcp := fun W h => Compile_any Q hQ v a n c hn W h
 have hci := cmpR_in Q v
 have hc0 : cmpE Q v = 0 → chkS v (cmpR Q v) = 0 := fun h => (ran_chk h).1
 obtain ⟨E1, hE⟩ : ∃ E, cmpE Q v = E := ⟨_, rfl⟩
 obtain ⟨C1, hC⟩ : ∃ R, cmpR Q v = R := ⟨_, rfl⟩
 rw [hE, hC] at hcp hc0
 rw [hC] at hci
 unfold RetCo codev at hcp
 unfold pipev vecv at hcp
 have hcp1H := Lib.hid hcp
 have hci1H := Lib.hid hci
 have hE1H := Lib.hid hE
 have hC1H := Lib.hid hC
 clear hcp hci hE hC hc0
 have hln := fun W h => Length_any Q hQ a n c hn v.lanes W h
 unfold pipev at hln
 have hlnH := Lib.hid hln
 clear hln hQ hn
 unfold pipev vecv
 have hbV1 : Below w.heap.size w (w.alloc (.cells #[.int .i64 Q.w, .int .i64 Q.h, .int .i64 Q.inp, .slice a n c] 24)) := jb_al (Below.refl _ w) _
 have kp := Blk.new w 24 #[.int .i64 Q.w, .int .i64 Q.h, .int .i64 Q.inp, .slice a n c]
 obtain ⟨V1, hEV1⟩ : ∃ X, w.alloc (.cells #[.int .i64 Q.w, .int .i64 Q.h, .int .i64 Q.inp, .slice a n c] 24) = X := ⟨_, rfl⟩
 rw [hEV1] at hbV1 kp
 replace hr := hr.later hbV1
 replace hB := hB.trans (hbV1.mono hB.size)
 clear hbV1
 obtain ⟨p0, p1, p2, p3⟩ := cz4 kp
 have hbV2 : Below V1.heap.size V1 (V1.alloc (.cells #[.int .i64 v.lanes, .int .i64 v.regs, .int .i64 v.mem] 42)) := jb_al (Below.refl _ V1) _
 have kv := Blk.new V1 42 #[.int .i64 v.lanes, .int .i64 v.regs, .int .i64 v.mem]
 obtain ⟨V2, hEV2⟩ : ∃ X, V1.alloc (.cells #[.int .i64 v.lanes, .int .i64 v.regs, .int .i64 v.mem] 42) = X := ⟨_, rfl⟩
 rw [hEV2] at hbV2 kv
 clear p0 p1 p2 p3
 replace kp := kp.below hbV2 kp.lt
 replace hr := hr.later hbV2
 replace hB := hB.trans (hbV2.mono hB.size)
 clear hbV2
 obtain ⟨p0, p1, p2, p3⟩ := cz4 kp
 obtain ⟨v0, v1, v2⟩ := cz3 kv
 go_enter Try.func6, Try.ntmps6
 go_wp2_with fail
 clear hEV1 hEV2
 have hc := alive3_any V2
 refine hc.mono ?_
 clear hc
 rintro e V3 ⟨rfl, hb⟩
 clear p0 p1 p2 p3 v0 v1 v2
 replace kp := kp.below hb kp.lt
 replace kv := kv.below hb kv.lt
 replace hr := hr.later hb
 replace hB := hB.trans (hb.mono hB.size)
 clear hb
 obtain ⟨p0, p1, p2, p3⟩ := cz4 kp
 obtain ⟨v0, v1, v2⟩ := cz3 kv
 go_wp2_with fail
 have hc := hcp1H.out V3 hr
 refine hc.mono ?_
 clear hc
 rintro e V4 ⟨i1, j1, x1a, x1c, rfl, ri1, rx1, hb⟩
 clear p0 p1 p2 p3 v0 v1 v2
 replace kp := kp.below hb kp.lt
 replace kv := kv.below hb kv.lt
 replace hr := hr.later hb
 replace hB := hB.trans (hb.mono hB.size)
 clear hb
 obtain ⟨p0, p1, p2, p3⟩ := cz4 kp
 obtain ⟨v0, v1, v2⟩ := cz3 kv
 have hbV5 : Below V4.heap.size V4 (V4.alloc (.cells #[.int .i64 C1.w, .int .i64 C1.h, .slice i1 C1.inp.length j1, .int .i64 C1.out, .slice x1a C1.ins.length x1c] 45)) := jb_al (Below.refl _ V4) _
 have kc1 := Blk.new V4 45 #[.int .i64 C1.w, .int .i64 C1.h, .slice i1 C1.inp.length j1, .int .i64 C1.out, .slice x1a C1.ins.length x1c]
 obtain ⟨V5, hEV5⟩ : ∃ X, V4.alloc (.cells #[.int .i64 C1.w, .int .i64 C1.h, .slice i1 C1.inp.length j1, .int .i64 C1.out, .slice x1a C1.ins.length x1c] 45) = X := ⟨_, rfl⟩
 rw [hEV5] at hbV5 kc1
 clear p0 p1 p2 p3 v0 v1 v2
 replace kp := kp.below hbV5 kp.lt
 replace kv := kv.below hbV5 kv.lt
 replace hr := hr.later hbV5
 replace ri1 := later_i ri1 hbV5
 replace rx1 := (rx1.below (Nat.le_refl _) hbV5).mono hbV5.size
 replace hB := hB.trans (hbV5.mono hB.size)
 clear hbV5
 obtain ⟨p0, p1, p2, p3⟩ := cz4 kp
 obtain ⟨v0, v1, v2⟩ := cz3 kv
 obtain ⟨c1z0, c1z1, c1z2, c1z3, c1z4⟩ := cz5 kc1
 by_cases hz1 : E1 = 0
 case neg =>
  have hz1b : (E1 != 0) = true := by simp [hz1]
  have hC0 : C1 = ⟨0, 0, [], 0, []⟩ := by rw [← hC1H.out]; exact cmpR_bad (by rw [hE1H.out]; exact hz1)
  have hl0 : C1.ins.length = 0 := by rw [hC0]; rfl
  have hl0i : ((C1.ins.length : Nat) : Int) = 0 := by omega
  have hl0d : decide (((C1.ins.length : Nat) : Int) = 0) = true := decide_eq_true hl0i
  have hl0b : (((C1.ins.length : Nat) : Int) == 0) = true := by simp [hl0]
  clear hz1 hC0 hl0
  go_wp2_with fail
  go_ret
  exact ⟨rfl, hB⟩
 case pos =>
 subst hz1
 obtain ⟨hl1, hl2⟩ := len_ok hE1H.out
 have hcl := (ran_chk hE1H.out).2
 rw [hC1H.out] at hcl
 have hln1 := hlnH.out
 rw [hl1, hl2] at hln1
 obtain ⟨LP, hLP⟩ : ∃ L, lenP Q v.lanes = L := ⟨_, rfl⟩
 rw [hLP] at hln1 hcl
 have hln1H := Lib.hid hln1
 have hle : ((C1.ins.length : Nat) : Int) ≤ LP := by omega
 have hled : decide (((C1.ins.length : Nat) : Int) ≤ LP) = true := decide_eq_true hle
 clear hln1 hl1 hl2 hLP hcl hlnH
 go_wp2_with fail
 clear hEV5
 have hc := hln1H.out V5 hr
 refine hc.mono ?_
 clear hc
 rintro e V6 ⟨rfl, hb⟩
 clear p0 p1 p2 p3 v0 v1 v2 c1z0 c1z1 c1z2 c1z3 c1z4
 replace kp := kp.below hb kp.lt
 replace kv := kv.below hb kv.lt
 replace kc1 := kc1.below hb kc1.lt
 replace hr := hr.later hb
 replace ri1 := later_i ri1 hb
 replace rx1 := (rx1.below (Nat.le_refl _) hb).mono hb.size
 replace hB := hB.trans (hb.mono hB.size)
 clear hb
 obtain ⟨p0, p1, p2, p3⟩ := cz4 kp
 obtain ⟨v0, v1, v2⟩ := cz3 kv
 obtain ⟨c1z0, c1z1, c1z2, c1z3, c1z4⟩ := cz5 kc1
 go_wp2_with fail
 go_ret
 exact ⟨rfl, hB⟩

end Go.Proofs.Ytekiemlniegddaa

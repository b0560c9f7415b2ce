/- The walk of the law JudgeHolds: it returns true, and nothing that lay has turned. -/
import Derived.Test.YtbfigbpjoaccdaaGreatUSetA
import Derived.Test.YtbfigbpjoaccdaaGreatQC23
import Derived.Test.YtbfigbpjoaccdaaGreatQC21
import Derived.Test.YtbfigbpjoaccdaaGreatQC10
namespace Go.Proofs.YtbfigbpjoaccdaaGreat
open Go Go.RowKit Go.Shelf
set_option linter.unusedVariables false
set_option linter.unusedSimpArgs false

set_option maxRecDepth 100000 in
set_option maxHeartbeats 8000000 in
theorem law_holds (N : NetN) (na : Option Addr) (nn nc : Nat) (hnn : N.Ls.length = nn) (hz : NetSz N) (iw ih : Int) (a : Option Addr) (c n : Nat) (xs : List Int) (hn : Hid (xs.length = n)) (jw jh : Int) (a' : Option Addr) (c' n' : Nat) (ys : List Int) (hn' : Hid (ys.length = n')) (s : Int)
    (za : Option Addr) (zc zn : Nat) (zs : List Nat) (hzn : zs.length = zn) (hzb : ∀ x ∈ zs, x < 256) (hzm0 : zn ≤ 140737488355328) (w : World) (hm : n * 8 ≤ 140737488355328) (hm' : n' * 8 ≤ 140737488355328)
    (rn : RdLs w.heap.size w na N.Ls) (r1 : Rd w.heap.size w a xs) (r2 : Rd w.heap.size w a' ys) (rz : RdN w.heap.size w za zs) :
    Calls Tryz.prog 3 #[netv N na nn nc, imv iw ih a n c, imv jw jh a' n' c', .int .i64 s, .slice za zn zc] w fun e w' => e = .returned (.bool true) ∧ Below w.heap.size w w' := by
  have hB : Below w.heap.size w w := Below.refl _ _
  have hnnH := Lib.hid hnn
  have hzH := Lib.hid hz
  have hznH := Lib.hid hzn
  have hzbH := Lib.hid hzb
  clear hnn hz hzn hzb
  obtain ⟨V0, hV0⟩ : ∃ v, certV N ⟨iw, ih, xs⟩ ⟨jw, jh, ys⟩ s = v := ⟨_, rfl⟩
  obtain ⟨E0, hE0⟩ : ∃ v, certE N ⟨iw, ih, xs⟩ ⟨jw, jh, ys⟩ s = v := ⟨_, rfl⟩
  have hVH := Lib.hid hV0
  have hEH := Lib.hid hE0
  clear hV0 hE0
  have hbV1 : Below w.heap.size w (w.alloc (.cells #[.int .i64 N.w, .int .i64 N.h, .int .i64 N.gx, .int .i64 N.gy, .slice na nn nc, .int .i64 N.low, .int .i64 N.high] 24)) := jb_al (Below.refl _ w) _
  have k1 := Blk.new w 24 #[.int .i64 N.w, .int .i64 N.h, .int .i64 N.gx, .int .i64 N.gy, .slice na nn nc, .int .i64 N.low, .int .i64 N.high]
  obtain ⟨V1, hEV1⟩ : ∃ X, w.alloc (.cells #[.int .i64 N.w, .int .i64 N.h, .int .i64 N.gx, .int .i64 N.gy, .slice na nn nc, .int .i64 N.low, .int .i64 N.high] 24) = X := ⟨_, rfl⟩
  rw [hEV1] at hbV1 k1
  replace rn := later_l rn hbV1
  replace r1 := later_i r1 hbV1
  replace r2 := later_i r2 hbV1
  replace rz := rz.later hbV1
  replace hB := hB.trans (hbV1.mono hB.size)
  clear hbV1
  have d0 := k1.cell (i := 0) rfl
  have d1 := k1.cell (i := 1) rfl
  have d2 := k1.cell (i := 2) rfl
  have d3 := k1.cell (i := 3) rfl
  have d4 := k1.cell (i := 4) rfl
  have d5 := k1.cell (i := 5) rfl
  have d6 := k1.cell (i := 6) rfl
  have hbV2 : Below V1.heap.size V1 (V1.alloc (.cells #[.int .i64 iw, .int .i64 ih, .slice a n c] 27)) := jb_al (Below.refl _ V1) _
  have k2 := Blk.new V1 27 #[.int .i64 iw, .int .i64 ih, .slice a n c]
  obtain ⟨V2, hEV2⟩ : ∃ X, V1.alloc (.cells #[.int .i64 iw, .int .i64 ih, .slice a n c] 27) = X := ⟨_, rfl⟩
  rw [hEV2] at hbV2 k2
  clear d0 d1 d2 d3 d4 d5 d6
  replace k1 := k1.below hbV2 k1.lt
  replace rn := later_l rn hbV2
  replace r1 := later_i r1 hbV2
  replace r2 := later_i r2 hbV2
  replace rz := rz.later hbV2
  replace hB := hB.trans (hbV2.mono hB.size)
  clear hbV2
  have d0 := k1.cell (i := 0) rfl
  have d1 := k1.cell (i := 1) rfl
  have d2 := k1.cell (i := 2) rfl
  have d3 := k1.cell (i := 3) rfl
  have d4 := k1.cell (i := 4) rfl
  have d5 := k1.cell (i := 5) rfl
  have d6 := k1.cell (i := 6) rfl
  have m0 := k2.cell (i := 0) rfl
  have m1 := k2.cell (i := 1) rfl
  have m2 := k2.cell (i := 2) rfl
  have hbV3 : Below V2.heap.size V2 (V2.alloc (.cells #[.int .i64 jw, .int .i64 jh, .slice a' n' c'] 27)) := jb_al (Below.refl _ V2) _
  have k3 := Blk.new V2 27 #[.int .i64 jw, .int .i64 jh, .slice a' n' c']
  obtain ⟨V3, hEV3⟩ : ∃ X, V2.alloc (.cells #[.int .i64 jw, .int .i64 jh, .slice a' n' c'] 27) = X := ⟨_, rfl⟩
  rw [hEV3] at hbV3 k3
  clear d0 d1 d2 d3 d4 d5 d6 m0 m1 m2
  replace k1 := k1.below hbV3 k1.lt
  replace k2 := k2.below hbV3 k2.lt
  replace rn := later_l rn hbV3
  replace r1 := later_i r1 hbV3
  replace r2 := later_i r2 hbV3
  replace rz := rz.later hbV3
  replace hB := hB.trans (hbV3.mono hB.size)
  clear hbV3
  have d0 := k1.cell (i := 0) rfl
  have d1 := k1.cell (i := 1) rfl
  have d2 := k1.cell (i := 2) rfl
  have d3 := k1.cell (i := 3) rfl
  have d4 := k1.cell (i := 4) rfl
  have d5 := k1.cell (i := 5) rfl
  have d6 := k1.cell (i := 6) rfl
  have m0 := k2.cell (i := 0) rfl
  have m1 := k2.cell (i := 1) rfl
  have m2 := k2.cell (i := 2) rfl
  have u0 := k3.cell (i := 0) rfl
  have u1 := k3.cell (i := 1) rfl
  have u2 := k3.cell (i := 2) rfl
  go_enter Tryz.func3, Tryz.ntmps3
  go_wp2_with fail
  clear hEV1 hEV2 hEV3
  have hc := alive8_any V3
  refine hc.mono ?_
  clear hc
  rintro e V4 ⟨rfl, hb⟩
  clear d0 d1 d2 d3 d4 d5 d6 m0 m1 m2 u0 u1 u2
  replace k1 := k1.below hb k1.lt
  replace k2 := k2.below hb k2.lt
  replace k3 := k3.below hb k3.lt
  replace rn := later_l rn hb
  replace r1 := later_i r1 hb
  replace r2 := later_i r2 hb
  replace rz := rz.later hb
  replace hB := hB.trans (hb.mono hB.size)
  clear hb
  have d0 := k1.cell (i := 0) rfl
  have d1 := k1.cell (i := 1) rfl
  have d2 := k1.cell (i := 2) rfl
  have d3 := k1.cell (i := 3) rfl
  have d4 := k1.cell (i := 4) rfl
  have d5 := k1.cell (i := 5) rfl
  have d6 := k1.cell (i := 6) rfl
  have m0 := k2.cell (i := 0) rfl
  have m1 := k2.cell (i := 1) rfl
  have m2 := k2.cell (i := 2) rfl
  have u0 := k3.cell (i := 0) rfl
  have u1 := k3.cell (i := 1) rfl
  have u2 := k3.cell (i := 2) rfl
  go_wp2_with fail
  have hc := Certify_any N na nn nc hnnH.out hzH.out ⟨iw, ih, xs⟩ ⟨jw, jh, ys⟩ a a' n c n' c' hn.out hn'.out (by omega) (by omega) s V4 rn r1 r2
  unfold RetCert at hc
  rw [hVH.out, hEH.out] at hc
  refine hc.mono ?_
  clear hc
  rintro e V5 ⟨rfl, hb⟩
  clear d0 d1 d2 d3 d4 d5 d6 m0 m1 m2 u0 u1 u2
  replace k1 := k1.below hb k1.lt
  replace k2 := k2.below hb k2.lt
  replace k3 := k3.below hb k3.lt
  replace rn := later_l rn hb
  replace r1 := later_i r1 hb
  replace r2 := later_i r2 hb
  replace rz := rz.later hb
  replace hB := hB.trans (hb.mono hB.size)
  clear hb
  have d0 := k1.cell (i := 0) rfl
  have d1 := k1.cell (i := 1) rfl
  have d2 := k1.cell (i := 2) rfl
  have d3 := k1.cell (i := 3) rfl
  have d4 := k1.cell (i := 4) rfl
  have d5 := k1.cell (i := 5) rfl
  have d6 := k1.cell (i := 6) rfl
  have m0 := k2.cell (i := 0) rfl
  have m1 := k2.cell (i := 1) rfl
  have m2 := k2.cell (i := 2) rfl
  have u0 := k3.cell (i := 0) rfl
  have u1 := k3.cell (i := 1) rfl
  have u2 := k3.cell (i := 2) rfl
  obtain ⟨vr, hv0⟩ : ∃ v, setB N ⟨iw, ih, xs⟩ ⟨jw, jh, ys⟩ = v := ⟨_, rfl⟩
  have hvH := Lib.hid hv0
  clear hv0
  go_wp2_with fail
  have hc := set_any N na nn nc hnnH.out hzH.out iw ih a c n xs hn jw jh a' c' n' ys hn' (by omega) (by omega) V5 rn r1 r2
  rw [hvH.out] at hc
  refine hc.mono ?_
  clear hc
  rintro e V6 ⟨rfl, hb⟩
  clear d0 d1 d2 d3 d4 d5 d6 m0 m1 m2 u0 u1 u2
  replace k1 := k1.below hb k1.lt
  replace k2 := k2.below hb k2.lt
  replace k3 := k3.below hb k3.lt
  replace rn := later_l rn hb
  replace r1 := later_i r1 hb
  replace r2 := later_i r2 hb
  replace rz := rz.later hb
  replace hB := hB.trans (hb.mono hB.size)
  clear hb
  have d0 := k1.cell (i := 0) rfl
  have d1 := k1.cell (i := 1) rfl
  have d2 := k1.cell (i := 2) rfl
  have d3 := k1.cell (i := 3) rfl
  have d4 := k1.cell (i := 4) rfl
  have d5 := k1.cell (i := 5) rfl
  have d6 := k1.cell (i := 6) rfl
  have m0 := k2.cell (i := 0) rfl
  have m1 := k2.cell (i := 1) rfl
  have m2 := k2.cell (i := 2) rfl
  have u0 := k3.cell (i := 0) rfl
  have u1 := k3.cell (i := 1) rfl
  have u2 := k3.cell (i := 2) rfl
  cases vr with
  | false =>
    have hbad : ¬ (setB N ⟨iw, ih, xs⟩ ⟨jw, jh, ys⟩ = true ∧ 0 ≤ s ∧ s ≤ 8) := fun h => by rw [hvH.out] at h; exact Bool.noConfusion h.1
    have hne := cert_not hbad
    rw [hEH.out] at hne
    have hne1 : (E0 != 0) = true := by simp [hne]
    have hne2 : (E0 == 0) = false := by simp [hne]
    clear hbad hVH hEH
    go_wp2_with fail
    go_ret
    exact ⟨rfl, hB⟩
  | true =>
    by_cases s0 : s < 0
    case pos =>
      have hbad : ¬ (setB N ⟨iw, ih, xs⟩ ⟨jw, jh, ys⟩ = true ∧ 0 ≤ s ∧ s ≤ 8) := fun h => by omega
      have s0d : decide (s < 0) = true := decide_eq_true s0
      have hne := cert_not hbad
      rw [hEH.out] at hne
      have hne1 : (E0 != 0) = true := by simp [hne]
      have hne2 : (E0 == 0) = false := by simp [hne]
      clear hbad hVH hEH
      go_wp2_with fail
      go_ret
      exact ⟨rfl, hB⟩
    case neg =>
      have s0d : decide (s < 0) = false := decide_eq_false s0
      by_cases s8 : 8 < s
      case pos =>
        have hbad : ¬ (setB N ⟨iw, ih, xs⟩ ⟨jw, jh, ys⟩ = true ∧ 0 ≤ s ∧ s ≤ 8) := fun h => by omega
        have s8d : decide (8 < s) = true := decide_eq_true s8
        have hne := cert_not hbad
        rw [hEH.out] at hne
        have hne1 : (E0 != 0) = true := by simp [hne]
        have hne2 : (E0 == 0) = false := by simp [hne]
        clear hbad hVH hEH
        go_wp2_with fail
        go_ret
        exact ⟨rfl, hB⟩
      case neg =>
        have s8d : decide (8 < s) = false := decide_eq_false s8
        have hSet := setB_ok hvH.out
        have hcs := cert_set hvH.out (s := s) ⟨by omega, by omega⟩
        rw [hVH.out, hEH.out] at hcs
        obtain ⟨hcv, rfl⟩ := hcs
        obtain ⟨z, hz0⟩ : ∃ z, certN N.Ls N.low N.high s.toNat (bndL N xs ys) = z := ⟨_, rfl⟩
        have hzm := certN_mem (Ls := N.Ls) (low := N.low) (high := N.high) s.toNat (bndL N xs ys)
        rw [hz0] at hzm
        obtain rfl : V0 = (z : Int) := hcv.trans (by rw [hz0])
        have hl := hSet.len
        have hsm := hSet.small
        simp only at hl hsm
        rw [hn.out] at hsm
        rw [hn.out, hn'.out] at hl
        have hx1 := (camB_iff.1 hSet.c).2
        have hx2 := (camB_iff.1 hSet.c').2
        have hle := hSet.le
        simp only at hx1 hx2 hle
        have hmid := mid_bet hn.out (fun i hi => hle i (by rw [hn.out]; exact hi)) zs
        have hmidH := Lib.hid hmid
        have hchk := chk_mid (zs := betL xs ys zs) hvH.out (by simp only; rw [hn.out]; exact hmid)
        simp only at hchk
        have hlaw := fun h3 => hold_law (s := s.toNat) hvH.out (by simp only; rw [hn.out]; exact hmid) h3
        simp only at hlaw
        rw [hz0] at hlaw
        have hlawH := Lib.hid hlaw
        have hchkH := Lib.hid hchk
        have hl3 : ∀ i, i < n → 0 ≤ xs[i]?.getD 0 ∧ xs[i]?.getD 0 ≤ ys[i]?.getD 0 ∧ ys[i]?.getD 0 ≤ 255 := fun i hi =>
          ⟨(allIn_getD hx1 (by rw [hn.out]; exact hi)).1, hle i (by rw [hn.out]; exact hi), (allIn_getD hx2 (by rw [hn'.out, hl]; exact hi)).2⟩
        have hl3H := Lib.hid hl3
        subst hl
        clear hcv hz0 hx1 hx2 hle hmid hchk hlaw hl3 hSet hVH hEH
        have hS : Below V6.heap.size V6 V6.drew := (Below.refl _ _).drew
        go_wp2_with fail
        clear d0 d1 d2 d3 d4 d5 d6 m0 m1 m2 u0 u1 u2
        refine plain_region (fun W' => Below V6.heap.size V6 W') 13 13 (by kernel_rfl) rfl ?_
        simp only [Array.replicate_succ, Array.replicate_zero, List.push_toArray, List.nil_append, List.cons_append]
        obtain ⟨X0, hXX0⟩ : ∃ X : World, V6.drew = X := ⟨_, rfl⟩
        rw [hXX0] at hS ⊢
        clear hXX0
        refine take_op 0 (v := ?rv0) rfl (by kernel_rfl) (fun _ _ _ h => h) (by rfl) hS (fun w' hS' => ?ry0) ?rz0
        case ry0 =>
          have fd0 := (k1.below hS' k1.lt).cell (i := 0) rfl
          have fd1 := (k1.below hS' k1.lt).cell (i := 1) rfl
          have fd2 := (k1.below hS' k1.lt).cell (i := 2) rfl
          have fd3 := (k1.below hS' k1.lt).cell (i := 3) rfl
          have fd4 := (k1.below hS' k1.lt).cell (i := 4) rfl
          have fd5 := (k1.below hS' k1.lt).cell (i := 5) rfl
          have fd6 := (k1.below hS' k1.lt).cell (i := 6) rfl
          have fm0 := (k2.below hS' k2.lt).cell (i := 0) rfl
          have fu0 := (k3.below hS' k3.lt).cell (i := 0) rfl
          have fm1 := (k2.below hS' k2.lt).cell (i := 1) rfl
          have fu1 := (k3.below hS' k3.lt).cell (i := 1) rfl
          have fm2 := (k2.below hS' k2.lt).cell (i := 2) rfl
          have fu2 := (k3.below hS' k3.lt).cell (i := 2) rfl
          clear hS'
          go_simp
          rfl
        simp only [List.setIfInBounds_toArray, List.set_cons_zero, List.set_cons_succ]
        refine take_op 1 (v := ?rv1) rfl (by kernel_rfl) (fun _ _ _ h => h) (by rfl) hS (fun w' hS' => ?ry1) ?rz1
        case ry1 =>
          have fd0 := (k1.below hS' k1.lt).cell (i := 0) rfl
          have fd1 := (k1.below hS' k1.lt).cell (i := 1) rfl
          have fd2 := (k1.below hS' k1.lt).cell (i := 2) rfl
          have fd3 := (k1.below hS' k1.lt).cell (i := 3) rfl
          have fd4 := (k1.below hS' k1.lt).cell (i := 4) rfl
          have fd5 := (k1.below hS' k1.lt).cell (i := 5) rfl
          have fd6 := (k1.below hS' k1.lt).cell (i := 6) rfl
          have fm0 := (k2.below hS' k2.lt).cell (i := 0) rfl
          have fu0 := (k3.below hS' k3.lt).cell (i := 0) rfl
          have fm1 := (k2.below hS' k2.lt).cell (i := 1) rfl
          have fu1 := (k3.below hS' k3.lt).cell (i := 1) rfl
          have fm2 := (k2.below hS' k2.lt).cell (i := 2) rfl
          have fu2 := (k3.below hS' k3.lt).cell (i := 2) rfl
          clear hS'
          go_simp
          rfl
        simp only [List.setIfInBounds_toArray, List.set_cons_zero, List.set_cons_succ]
        refine take_op 2 (v := ?rv2) rfl (by kernel_rfl) (fun _ _ _ h => h) (by rfl) hS (fun w' hS' => ?ry2) ?rz2
        case ry2 =>
          have fd0 := (k1.below hS' k1.lt).cell (i := 0) rfl
          have fd1 := (k1.below hS' k1.lt).cell (i := 1) rfl
          have fd2 := (k1.below hS' k1.lt).cell (i := 2) rfl
          have fd3 := (k1.below hS' k1.lt).cell (i := 3) rfl
          have fd4 := (k1.below hS' k1.lt).cell (i := 4) rfl
          have fd5 := (k1.below hS' k1.lt).cell (i := 5) rfl
          have fd6 := (k1.below hS' k1.lt).cell (i := 6) rfl
          have fm0 := (k2.below hS' k2.lt).cell (i := 0) rfl
          have fu0 := (k3.below hS' k3.lt).cell (i := 0) rfl
          have fm1 := (k2.below hS' k2.lt).cell (i := 1) rfl
          have fu1 := (k3.below hS' k3.lt).cell (i := 1) rfl
          have fm2 := (k2.below hS' k2.lt).cell (i := 2) rfl
          have fu2 := (k3.below hS' k3.lt).cell (i := 2) rfl
          clear hS'
          go_simp
          rfl
        simp only [List.setIfInBounds_toArray, List.set_cons_zero, List.set_cons_succ]
        refine take_op 3 (v := ?rv3) rfl (by kernel_rfl) (fun _ _ _ h => h) (by rfl) hS (fun w' hS' => ?ry3) ?rz3
        case ry3 =>
          go_simp
          rfl
        simp only [List.setIfInBounds_toArray, List.set_cons_zero, List.set_cons_succ]
        refine step_op 4 (by kernel_rfl) rfl (fun K hK => ?_)
        rw [if_pos (by rfl)]
        go_simp
        refine (between_any iw ih a c n' xs hn jw jh a' c' ys hn' za zc zn zs hznH.out hzbH.out hsm hzm0 hl3H.out X0 (later_i r1 hS) (later_i r2 hS) (rz.later hS)).mono ?_
        rintro e X1 ⟨⟨a5, c5, rfl, r5⟩, hb⟩
        have hS1 : Below V6.heap.size V6 X1 := hS.trans (hb.mono hS.size)
        clear hb
        refine hK.out _ _ (fun h => hS1) ?_
        clear hK K
        try simp only [Act.put, List.setIfInBounds_toArray, List.set_cons_zero, List.set_cons_succ]
        refine step_op 5 (by kernel_rfl) rfl (fun K hK => ?_)
        rw [if_pos (by rfl)]
        go_simp
        have hc := Classify_any N na nn nc hnnH.out hzH.out ⟨iw, ih, betL xs ys zs⟩ a5 n' c5 hmidH.out.len (by omega) X1 (later_l rn hS1) r5
        unfold RetCla at hc
        rw [hchkH.out] at hc
        refine hc.mono ?_
        clear hc
        rintro e X2 ⟨sc, vd, rfl, hsc, hvd, hb⟩
        rw [if_pos rfl] at hvd
        have hS2 : Below V6.heap.size V6 X2 := hS1.trans (hb.mono hS1.size)
        clear hb r5
        refine hK.out _ _ (fun h => hS2) ?_
        clear hK K
        try simp only [Act.put, List.setIfInBounds_toArray, List.set_cons_zero, List.set_cons_succ]
        refine take_op 6 (v := ?rv6) rfl (by kernel_rfl) (fun _ _ _ h => h) (by rfl) hS2 (fun w' hS' => ?ry6) ?rz6
        case ry6 =>
          go_simp
          rfl
        simp only [List.setIfInBounds_toArray, List.set_cons_zero, List.set_cons_succ]
        refine take_op 7 (v := ?rv7) rfl (by kernel_rfl) (fun _ _ _ h => h) (by rfl) hS2 (fun w' hS' => ?ry7) ?rz7
        case ry7 =>
          go_simp
          rfl
        simp only [List.setIfInBounds_toArray, List.set_cons_zero, List.set_cons_succ]
        refine take_op 8 (v := ?rv8) rfl (by kernel_rfl) (fun _ _ _ h => h) (by rfl) hS2 (fun w' hS' => ?ry8) ?rz8
        case ry8 =>
          go_simp
          rfl
        simp only [List.setIfInBounds_toArray, List.set_cons_zero, List.set_cons_succ]
        refine take_op 9 (v := ?rv9) rfl (by kernel_rfl) (fun _ _ _ h => h) (by rfl) hS2 (fun w' hS' => ?ry9) ?rz9
        case ry9 =>
          go_simp
          rfl
        simp only [List.setIfInBounds_toArray, List.set_cons_zero, List.set_cons_succ]
        refine take_op 10 (v := ?rv10) rfl (by kernel_rfl) (fun _ _ _ h => h) (by rfl) hS2 (fun w' hS' => ?ry10) ?rz10
        case ry10 =>
          go_simp
          rfl
        simp only [List.setIfInBounds_toArray, List.set_cons_zero, List.set_cons_succ]
        refine take_op 11 (v := ?rv11) rfl (by kernel_rfl) (fun _ _ _ h => h) (by rfl) hS2 (fun w' hS' => ?ry11) ?rz11
        case ry11 =>
          go_simp
          rfl
        simp only [List.setIfInBounds_toArray, List.set_cons_zero, List.set_cons_succ]
        refine take_op 12 (v := ?rv12) rfl (by kernel_rfl) (fun _ _ _ h => h) (by rfl) hS2 (fun w' hS' => ?ry12) ?rz12
        case ry12 =>
          go_simp
          rfl
        simp only [List.setIfInBounds_toArray, List.set_cons_zero, List.set_cons_succ]
        refine done_ops (by kernel_rfl) ?_
        replace hB := hB.trans (hS2.mono hB.size)
        clear hsc hS hS1 hS2
        by_cases z3 : z = 3
        case pos =>
          subst z3
          go_wp2_with fail
          go_ret
          exact ⟨rfl, hB⟩
        case neg =>
          have hvz := hlawH.out z3
          try simp only at hvz
          rw [hvz] at hvd
          subst hvd
          have z3e : ((z : Int) == 3) = false := by simp; omega
          have z3n : ¬ (z : Int) = 3 := by omega
          have z1 : decide ((1 : Int) ≤ (z : Int)) = true := decide_eq_true (by omega)
          have z2 : decide ((z : Int) ≤ (3 : Int)) = true := decide_eq_true (by omega)
          have z1p : (1 : Int) ≤ (z : Int) := by omega
          have z2p : (z : Int) ≤ (3 : Int) := by omega
          go_wp2_with fail
          go_ret
          exact ⟨rfl, hB⟩

end Go.Proofs.YtbfigbpjoaccdaaGreat

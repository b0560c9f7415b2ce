/- The walk of the law JudgeAlarms: it returns true, and nothing that lay has turned. -/
import Derived.Test.YtbfigbpjoaccdaaGreatQA21
import Derived.Test.YtbfigbpjoaccdaaGreatQA11
import Derived.Test.YtbfigbpjoaccdaaGreatQA20
namespace Go.Proofs.YtbfigbpjoaccdaaGreat
open Go Go.RowKit Go.Shelf
set_option linter.unusedVariables false
set_option linter.unusedSimpArgs false

theorem takeS_in {p q num den h r : Int} {al hit : Bool} (ht : testB p q num den = true) (h0 : 0 ≤ h) (h1 : h ≤ r) (h2 : r < 500) :
    takeS p q num den h r al hit = ((if hit = true then h + 1 else h, r + 1, al || raiseB p.toNat q.toNat num.toNat den.toNat (if hit = true then h + 1 else h).toNat ((r + 1).toNat - (if hit = true then h + 1 else h).toNat)), 0) := by
  unfold takeS
  rw [if_neg (by rw [ht]; decide), if_neg (by omega), if_neg (by omega)]
theorem testB_bd {p q num den : Int} (h : testB p q num den = true) : 1 ≤ p ∧ p < q ∧ q ≤ 255 := by
  simp only [testB, Bool.and_eq_true, decide_eq_true_eq] at h
  exact h.1
set_option maxRecDepth 100000 in
set_option maxHeartbeats 16000000 in
theorem law_alarms (p q num den h r : Int) (hn : (Lit.int .i64 num).wf = true) (hd : (Lit.int .i64 den).wf = true) (w : World) :
    Calls Tryz.prog 10 #[tsv p q num den, .int .i64 h, .int .i64 r] w fun e w' => e = .returned (.bool true) ∧ Below w.heap.size w w' := by
  have hB : Below w.heap.size w w := Below.refl _ _
  obtain ⟨vt, hvt⟩ : ∃ v, testB p q num den = v := ⟨_, rfl⟩
  have hvtH := Lib.hid hvt
  clear hvt
  have hbV1 : Below w.heap.size w (w.alloc (.cells #[.int .i64 p, .int .i64 q, .int .i64 num, .int .i64 den] 67)) := jb_al (Below.refl _ w) _
  have k1 := Blk.new w 67 #[.int .i64 p, .int .i64 q, .int .i64 num, .int .i64 den]
  obtain ⟨V1, hEV1⟩ : ∃ X, w.alloc (.cells #[.int .i64 p, .int .i64 q, .int .i64 num, .int .i64 den] 67) = X := ⟨_, rfl⟩
  rw [hEV1] at hbV1 k1
  replace hB := hB.trans (hbV1.mono hB.size)
  clear hbV1
  have c0 := k1.cell (i := 0) rfl
  have c1 := k1.cell (i := 1) rfl
  have c2 := k1.cell (i := 2) rfl
  have c3 := k1.cell (i := 3) rfl
  go_enter Tryz.func10, Tryz.ntmps10
  go_wp2_with fail
  clear hEV1
  have hc := alive8_any V1
  refine hc.mono ?_
  clear hc
  rintro e V2 ⟨rfl, hb⟩
  clear c0 c1 c2 c3
  replace k1 := k1.below hb k1.lt
  replace hB := hB.trans (hb.mono hB.size)
  clear hb
  have c0 := k1.cell (i := 0) rfl
  have c1 := k1.cell (i := 1) rfl
  have c2 := k1.cell (i := 2) rfl
  have c3 := k1.cell (i := 3) rfl
  cases vt with
  | false =>
    go_wp2_with fail
    have hc := rValidTest_any p q num den hn hd false hvtH.out V2
    refine hc.mono ?_
    clear hc
    rintro e V3 ⟨rfl, hb⟩
    clear c0 c1 c2 c3
    replace k1 := k1.below hb k1.lt
    replace hB := hB.trans (hb.mono hB.size)
    clear hb
    have c0 := k1.cell (i := 0) rfl
    have c1 := k1.cell (i := 1) rfl
    have c2 := k1.cell (i := 2) rfl
    have c3 := k1.cell (i := 3) rfl
    go_wp2_with fail
    go_ret
    exact ⟨rfl, hB⟩
  | true =>
    by_cases m0 : h < 0
    case pos =>
      have m0d : decide (h < 0) = true := decide_eq_true m0
      go_wp2_with fail
      have hc := rValidTest_any p q num den hn hd true hvtH.out V2
      refine hc.mono ?_
      clear hc
      rintro e V3 ⟨rfl, hb⟩
      clear c0 c1 c2 c3
      replace k1 := k1.below hb k1.lt
      replace hB := hB.trans (hb.mono hB.size)
      clear hb
      have c0 := k1.cell (i := 0) rfl
      have c1 := k1.cell (i := 1) rfl
      have c2 := k1.cell (i := 2) rfl
      have c3 := k1.cell (i := 3) rfl
      go_wp2_with fail
      go_ret
      exact ⟨rfl, hB⟩
    case neg =>
      have m0d : decide (h < 0) = false := decide_eq_false m0
      by_cases m1 : r < 0
      case pos =>
        have m1d : decide (r < 0) = true := decide_eq_true m1
        go_wp2_with fail
        have hc := rValidTest_any p q num den hn hd true hvtH.out V2
        refine hc.mono ?_
        clear hc
        rintro e V3 ⟨rfl, hb⟩
        clear c0 c1 c2 c3
        replace k1 := k1.below hb k1.lt
        replace hB := hB.trans (hb.mono hB.size)
        clear hb
        have c0 := k1.cell (i := 0) rfl
        have c1 := k1.cell (i := 1) rfl
        have c2 := k1.cell (i := 2) rfl
        have c3 := k1.cell (i := 3) rfl
        go_wp2_with fail
        go_ret
        exact ⟨rfl, hB⟩
      case neg =>
        have m1d : decide (r < 0) = false := decide_eq_false m1
        by_cases m2 : r < h
        case pos =>
          have m2d : decide (r < h) = true := decide_eq_true m2
          go_wp2_with fail
          have hc := rValidTest_any p q num den hn hd true hvtH.out V2
          refine hc.mono ?_
          clear hc
          rintro e V3 ⟨rfl, hb⟩
          clear c0 c1 c2 c3
          replace k1 := k1.below hb k1.lt
          replace hB := hB.trans (hb.mono hB.size)
          clear hb
          have c0 := k1.cell (i := 0) rfl
          have c1 := k1.cell (i := 1) rfl
          have c2 := k1.cell (i := 2) rfl
          have c3 := k1.cell (i := 3) rfl
          go_wp2_with fail
          go_ret
          exact ⟨rfl, hB⟩
        case neg =>
          have m2d : decide (r < h) = false := decide_eq_false m2
          by_cases m3 : 498 < r
          case pos =>
            have m3d : decide (498 < r) = true := decide_eq_true m3
            go_wp2_with fail
            have hc := rValidTest_any p q num den hn hd true hvtH.out V2
            refine hc.mono ?_
            clear hc
            rintro e V3 ⟨rfl, hb⟩
            clear c0 c1 c2 c3
            replace k1 := k1.below hb k1.lt
            replace hB := hB.trans (hb.mono hB.size)
            clear hb
            have c0 := k1.cell (i := 0) rfl
            have c1 := k1.cell (i := 1) rfl
            have c2 := k1.cell (i := 2) rfl
            have c3 := k1.cell (i := 3) rfl
            go_wp2_with fail
            go_ret
            exact ⟨rfl, hB⟩
          case neg =>
            have m3d : decide (498 < r) = false := decide_eq_false m3
            obtain ⟨t1, t2, t3⟩ := testB_bd hvtH.out
            have hT1 := takeS_in (al := false) (hit := false) hvtH.out (show 0 ≤ h by omega) (show h ≤ r by omega) (by omega)
            have hT2 := takeS_in (al := false) (hit := true) hvtH.out (show 0 ≤ h by omega) (show h ≤ r by omega) (by omega)
            have hT3 := takeS_in (al := false) (hit := true) hvtH.out (show 0 ≤ h + 1 by omega) (show h + 1 ≤ r + 1 by omega) (by omega)
            simp only [if_true, Bool.false_or, reduceIte, Bool.false_eq_true] at hT1 hT2 hT3
            rw [show (r + 1).toNat - h.toNat = (r - h).toNat + 1 by omega] at hT1
            rw [show (r + 1).toNat - (h + 1).toNat = (r - h).toNat by omega, show (h + 1).toNat = h.toNat + 1 by omega] at hT2
            rw [show (r + 1 + 1).toNat - (h + 1 + 1).toNat = (r - h).toNat by omega, show (h + 1 + 1).toNat = h.toNat + 1 + 1 by omega] at hT3
            have p1 : raiseB p.toNat q.toNat num.toNat den.toNat h.toNat ((r - h).toNat + 1) = true → raiseB p.toNat q.toNat num.toNat den.toNat (h.toNat + 1) (r - h).toNat = true := fun e => raiseB_instead (by omega) (by omega) e
            have p2 : raiseB p.toNat q.toNat num.toNat den.toNat (h.toNat + 1) (r - h).toNat = true → raiseB p.toNat q.toNat num.toNat den.toNat (h.toNat + 1 + 1) (r - h).toNat = true := fun e => raiseB_more (by omega) e
            generalize raiseB p.toNat q.toNat num.toNat den.toNat h.toNat ((r - h).toNat + 1) = x1 at hT1 p1
            generalize raiseB p.toNat q.toNat num.toNat den.toNat (h.toNat + 1) (r - h).toNat = x2 at hT2 p1 p2
            generalize raiseB p.toNat q.toNat num.toNat den.toNat (h.toNat + 1 + 1) (r - h).toNat = x3 at hT3 p2
            have h1H := Lib.hid hT1
            have h2H := Lib.hid hT2
            have h3H := Lib.hid hT3
            clear hT1 hT2 hT3 t1 t2 t3
            have q1 : (h != h) = false := by simp
            have q2 : (h + 1 != h + 1) = false := by simp
            have q3 : (r + 1 != r + 1) = false := by simp
            go_wp2_with fail
            have hc := rValidTest_any p q num den hn hd true hvtH.out V2
            refine hc.mono ?_
            clear hc
            rintro e V3 ⟨rfl, hb⟩
            clear c0 c1 c2 c3
            replace k1 := k1.below hb k1.lt
            replace hB := hB.trans (hb.mono hB.size)
            clear hb
            have c0 := k1.cell (i := 0) rfl
            have c1 := k1.cell (i := 1) rfl
            have c2 := k1.cell (i := 2) rfl
            have c3 := k1.cell (i := 3) rfl
            cases x1 with
            | true =>
              obtain rfl : x2 = true := p1 rfl
              obtain rfl : x3 = true := p2 rfl
              clear p1 p2
              go_wp2_with fail
              have hc := Take_any p q num den h r false false hn hd V3
              rw [h1H.out] at hc
              refine hc.mono ?_
              clear hc
              rintro e V4 ⟨rfl, hb⟩
              clear c0 c1 c2 c3
              replace k1 := k1.below hb k1.lt
              replace hB := hB.trans (hb.mono hB.size)
              clear hb
              have c0 := k1.cell (i := 0) rfl
              have c1 := k1.cell (i := 1) rfl
              have c2 := k1.cell (i := 2) rfl
              have c3 := k1.cell (i := 3) rfl
              have k2 := Blk.new V4 70 #[.int .i64 0, .int .i64 0, .bool false]
              obtain ⟨bk2, hxk2⟩ : ∃ b, V4.heap.size = b := ⟨_, rfl⟩
              obtain ⟨V4a, hAk2⟩ : ∃ X, V4.alloc (.cells #[.int .i64 0, .int .i64 0, .bool false] 70) = X := ⟨_, rfl⟩
              have hba : Below V4.heap.size V4 V4a := alloc_below hAk2
              rw [hAk2, hxk2] at k2
              have hlek2 : V4.heap.size ≤ bk2 := by omega
              have yk20 := k2.cell (i := 0) rfl
              have fyk20 := k2.frozen 0
              have yk21 := k2.cell (i := 1) rfl
              have fyk21 := k2.frozen 1
              have yk22 := k2.cell (i := 2) rfl
              have fyk22 := k2.frozen 2
              have k2n := put3_blk k2 (.int .i64 h) (.int .i64 (r + 1)) (.bool true)
              have hb : Below V4.heap.size V4 (put3 V4a bk2 (.int .i64 h) (.int .i64 (r + 1)) (.bool true)) := hba.trans (put3_below hlek2 (.int .i64 h) (.int .i64 (r + 1)) (.bool true))
              obtain ⟨V5, hPk2⟩ : ∃ X, put3 V4a bk2 (.int .i64 h) (.int .i64 (r + 1)) (.bool true) = X := ⟨_, rfl⟩
              rw [hPk2] at k2n hb
              replace k2 := k2n
              clear k2n hba hlek2
              clear c0 c1 c2 c3
              replace k1 := k1.below hb k1.lt
              replace hB := hB.trans (hb.mono hB.size)
              clear hb
              have c0 := k1.cell (i := 0) rfl
              have c1 := k1.cell (i := 1) rfl
              have c2 := k1.cell (i := 2) rfl
              have c3 := k1.cell (i := 3) rfl
              have d0 := k2.cell (i := 0) rfl
              have d1 := k2.cell (i := 1) rfl
              have d2 := k2.cell (i := 2) rfl
              go_wp2_with fail
              clear hAk2 hxk2 hPk2 yk20 yk21 yk22 fyk20 fyk21 fyk22
              have hc := Take_any p q num den h r false true hn hd V5
              rw [h2H.out] at hc
              refine hc.mono ?_
              clear hc
              rintro e V6 ⟨rfl, hb⟩
              clear c0 c1 c2 c3 d0 d1 d2
              replace k1 := k1.below hb k1.lt
              replace k2 := k2.below hb k2.lt
              replace hB := hB.trans (hb.mono hB.size)
              clear hb
              have c0 := k1.cell (i := 0) rfl
              have c1 := k1.cell (i := 1) rfl
              have c2 := k1.cell (i := 2) rfl
              have c3 := k1.cell (i := 3) rfl
              have d0 := k2.cell (i := 0) rfl
              have d1 := k2.cell (i := 1) rfl
              have d2 := k2.cell (i := 2) rfl
              have k3 := Blk.new V6 70 #[.int .i64 0, .int .i64 0, .bool false]
              obtain ⟨bk3, hxk3⟩ : ∃ b, V6.heap.size = b := ⟨_, rfl⟩
              obtain ⟨V6a, hAk3⟩ : ∃ X, V6.alloc (.cells #[.int .i64 0, .int .i64 0, .bool false] 70) = X := ⟨_, rfl⟩
              have hba : Below V6.heap.size V6 V6a := alloc_below hAk3
              rw [hAk3, hxk3] at k3
              have hlek3 : V6.heap.size ≤ bk3 := by omega
              have yk30 := k3.cell (i := 0) rfl
              have fyk30 := k3.frozen 0
              have yk31 := k3.cell (i := 1) rfl
              have fyk31 := k3.frozen 1
              have yk32 := k3.cell (i := 2) rfl
              have fyk32 := k3.frozen 2
              have k3n := put3_blk k3 (.int .i64 (h + 1)) (.int .i64 (r + 1)) (.bool true)
              have hb : Below V6.heap.size V6 (put3 V6a bk3 (.int .i64 (h + 1)) (.int .i64 (r + 1)) (.bool true)) := hba.trans (put3_below hlek3 (.int .i64 (h + 1)) (.int .i64 (r + 1)) (.bool true))
              obtain ⟨V7, hPk3⟩ : ∃ X, put3 V6a bk3 (.int .i64 (h + 1)) (.int .i64 (r + 1)) (.bool true) = X := ⟨_, rfl⟩
              rw [hPk3] at k3n hb
              replace k3 := k3n
              clear k3n hba hlek3
              clear c0 c1 c2 c3 d0 d1 d2
              replace k1 := k1.below hb k1.lt
              replace k2 := k2.below hb k2.lt
              replace hB := hB.trans (hb.mono hB.size)
              clear hb
              have c0 := k1.cell (i := 0) rfl
              have c1 := k1.cell (i := 1) rfl
              have c2 := k1.cell (i := 2) rfl
              have c3 := k1.cell (i := 3) rfl
              have d0 := k2.cell (i := 0) rfl
              have d1 := k2.cell (i := 1) rfl
              have d2 := k2.cell (i := 2) rfl
              have g0 := k3.cell (i := 0) rfl
              have g1 := k3.cell (i := 1) rfl
              have g2 := k3.cell (i := 2) rfl
              go_wp2_with fail
              clear hAk3 hxk3 hPk3 yk30 yk31 yk32 fyk30 fyk31 fyk32
              have hc := Take_any p q num den (h + 1) (r + 1) false true hn hd V7
              rw [h3H.out] at hc
              refine hc.mono ?_
              clear hc
              rintro e V8 ⟨rfl, hb⟩
              clear c0 c1 c2 c3 d0 d1 d2 g0 g1 g2
              replace k1 := k1.below hb k1.lt
              replace k2 := k2.below hb k2.lt
              replace k3 := k3.below hb k3.lt
              replace hB := hB.trans (hb.mono hB.size)
              clear hb
              have c0 := k1.cell (i := 0) rfl
              have c1 := k1.cell (i := 1) rfl
              have c2 := k1.cell (i := 2) rfl
              have c3 := k1.cell (i := 3) rfl
              have d0 := k2.cell (i := 0) rfl
              have d1 := k2.cell (i := 1) rfl
              have d2 := k2.cell (i := 2) rfl
              have g0 := k3.cell (i := 0) rfl
              have g1 := k3.cell (i := 1) rfl
              have g2 := k3.cell (i := 2) rfl
              have k4 := Blk.new V8 70 #[.int .i64 0, .int .i64 0, .bool false]
              obtain ⟨bk4, hxk4⟩ : ∃ b, V8.heap.size = b := ⟨_, rfl⟩
              obtain ⟨V8a, hAk4⟩ : ∃ X, V8.alloc (.cells #[.int .i64 0, .int .i64 0, .bool false] 70) = X := ⟨_, rfl⟩
              have hba : Below V8.heap.size V8 V8a := alloc_below hAk4
              rw [hAk4, hxk4] at k4
              have hlek4 : V8.heap.size ≤ bk4 := by omega
              have yk40 := k4.cell (i := 0) rfl
              have fyk40 := k4.frozen 0
              have yk41 := k4.cell (i := 1) rfl
              have fyk41 := k4.frozen 1
              have yk42 := k4.cell (i := 2) rfl
              have fyk42 := k4.frozen 2
              have k4n := put3_blk k4 (.int .i64 (h + 1 + 1)) (.int .i64 (r + 1 + 1)) (.bool true)
              have hb : Below V8.heap.size V8 (put3 V8a bk4 (.int .i64 (h + 1 + 1)) (.int .i64 (r + 1 + 1)) (.bool true)) := hba.trans (put3_below hlek4 (.int .i64 (h + 1 + 1)) (.int .i64 (r + 1 + 1)) (.bool true))
              obtain ⟨V9, hPk4⟩ : ∃ X, put3 V8a bk4 (.int .i64 (h + 1 + 1)) (.int .i64 (r + 1 + 1)) (.bool true) = X := ⟨_, rfl⟩
              rw [hPk4] at k4n hb
              replace k4 := k4n
              clear k4n hba hlek4
              clear c0 c1 c2 c3 d0 d1 d2 g0 g1 g2
              replace k1 := k1.below hb k1.lt
              replace k2 := k2.below hb k2.lt
              replace k3 := k3.below hb k3.lt
              replace hB := hB.trans (hb.mono hB.size)
              clear hb
              have c0 := k1.cell (i := 0) rfl
              have c1 := k1.cell (i := 1) rfl
              have c2 := k1.cell (i := 2) rfl
              have c3 := k1.cell (i := 3) rfl
              have d0 := k2.cell (i := 0) rfl
              have d1 := k2.cell (i := 1) rfl
              have d2 := k2.cell (i := 2) rfl
              have g0 := k3.cell (i := 0) rfl
              have g1 := k3.cell (i := 1) rfl
              have g2 := k3.cell (i := 2) rfl
              have j0 := k4.cell (i := 0) rfl
              have j1 := k4.cell (i := 1) rfl
              have j2 := k4.cell (i := 2) rfl
              go_wp2_with fail
              go_ret
              exact ⟨rfl, hB⟩
            | false =>
              clear p1
              cases x2 with
              | true =>
                obtain rfl : x3 = true := p2 rfl
                clear p2
                go_wp2_with fail
                have hc := Take_any p q num den h r false false hn hd V3
                rw [h1H.out] at hc
                refine hc.mono ?_
                clear hc
                rintro e V4 ⟨rfl, hb⟩
                clear c0 c1 c2 c3
                replace k1 := k1.below hb k1.lt
                replace hB := hB.trans (hb.mono hB.size)
                clear hb
                have c0 := k1.cell (i := 0) rfl
                have c1 := k1.cell (i := 1) rfl
                have c2 := k1.cell (i := 2) rfl
                have c3 := k1.cell (i := 3) rfl
                have k2 := Blk.new V4 70 #[.int .i64 0, .int .i64 0, .bool false]
                obtain ⟨bk2, hxk2⟩ : ∃ b, V4.heap.size = b := ⟨_, rfl⟩
                obtain ⟨V4a, hAk2⟩ : ∃ X, V4.alloc (.cells #[.int .i64 0, .int .i64 0, .bool false] 70) = X := ⟨_, rfl⟩
                have hba : Below V4.heap.size V4 V4a := alloc_below hAk2
                rw [hAk2, hxk2] at k2
                have hlek2 : V4.heap.size ≤ bk2 := by omega
                have yk20 := k2.cell (i := 0) rfl
                have fyk20 := k2.frozen 0
                have yk21 := k2.cell (i := 1) rfl
                have fyk21 := k2.frozen 1
                have yk22 := k2.cell (i := 2) rfl
                have fyk22 := k2.frozen 2
                have k2n := put3_blk k2 (.int .i64 h) (.int .i64 (r + 1)) (.bool false)
                have hb : Below V4.heap.size V4 (put3 V4a bk2 (.int .i64 h) (.int .i64 (r + 1)) (.bool false)) := hba.trans (put3_below hlek2 (.int .i64 h) (.int .i64 (r + 1)) (.bool false))
                obtain ⟨V5, hPk2⟩ : ∃ X, put3 V4a bk2 (.int .i64 h) (.int .i64 (r + 1)) (.bool false) = X := ⟨_, rfl⟩
                rw [hPk2] at k2n hb
                replace k2 := k2n
                clear k2n hba hlek2
                clear c0 c1 c2 c3
                replace k1 := k1.below hb k1.lt
                replace hB := hB.trans (hb.mono hB.size)
                clear hb
                have c0 := k1.cell (i := 0) rfl
                have c1 := k1.cell (i := 1) rfl
                have c2 := k1.cell (i := 2) rfl
                have c3 := k1.cell (i := 3) rfl
                have d0 := k2.cell (i := 0) rfl
                have d1 := k2.cell (i := 1) rfl
                have d2 := k2.cell (i := 2) rfl
                go_wp2_with fail
                clear hAk2 hxk2 hPk2 yk20 yk21 yk22 fyk20 fyk21 fyk22
                have hc := Take_any p q num den h r false true hn hd V5
                rw [h2H.out] at hc
                refine hc.mono ?_
                clear hc
                rintro e V6 ⟨rfl, hb⟩
                clear c0 c1 c2 c3 d0 d1 d2
                replace k1 := k1.below hb k1.lt
                replace k2 := k2.below hb k2.lt
                replace hB := hB.trans (hb.mono hB.size)
                clear hb
                have c0 := k1.cell (i := 0) rfl
                have c1 := k1.cell (i := 1) rfl
                have c2 := k1.cell (i := 2) rfl
                have c3 := k1.cell (i := 3) rfl
                have d0 := k2.cell (i := 0) rfl
                have d1 := k2.cell (i := 1) rfl
                have d2 := k2.cell (i := 2) rfl
                have k3 := Blk.new V6 70 #[.int .i64 0, .int .i64 0, .bool false]
                obtain ⟨bk3, hxk3⟩ : ∃ b, V6.heap.size = b := ⟨_, rfl⟩
                obtain ⟨V6a, hAk3⟩ : ∃ X, V6.alloc (.cells #[.int .i64 0, .int .i64 0, .bool false] 70) = X := ⟨_, rfl⟩
                have hba : Below V6.heap.size V6 V6a := alloc_below hAk3
                rw [hAk3, hxk3] at k3
                have hlek3 : V6.heap.size ≤ bk3 := by omega
                have yk30 := k3.cell (i := 0) rfl
                have fyk30 := k3.frozen 0
                have yk31 := k3.cell (i := 1) rfl
                have fyk31 := k3.frozen 1
                have yk32 := k3.cell (i := 2) rfl
                have fyk32 := k3.frozen 2
                have k3n := put3_blk k3 (.int .i64 (h + 1)) (.int .i64 (r + 1)) (.bool true)
                have hb : Below V6.heap.size V6 (put3 V6a bk3 (.int .i64 (h + 1)) (.int .i64 (r + 1)) (.bool true)) := hba.trans (put3_below hlek3 (.int .i64 (h + 1)) (.int .i64 (r + 1)) (.bool true))
                obtain ⟨V7, hPk3⟩ : ∃ X, put3 V6a bk3 (.int .i64 (h + 1)) (.int .i64 (r + 1)) (.bool true) = X := ⟨_, rfl⟩
                rw [hPk3] at k3n hb
                replace k3 := k3n
                clear k3n hba hlek3
                clear c0 c1 c2 c3 d0 d1 d2
                replace k1 := k1.below hb k1.lt
                replace k2 := k2.below hb k2.lt
                replace hB := hB.trans (hb.mono hB.size)
                clear hb
                have c0 := k1.cell (i := 0) rfl
                have c1 := k1.cell (i := 1) rfl
                have c2 := k1.cell (i := 2) rfl
                have c3 := k1.cell (i := 3) rfl
                have d0 := k2.cell (i := 0) rfl
                have d1 := k2.cell (i := 1) rfl
                have d2 := k2.cell (i := 2) rfl
                have g0 := k3.cell (i := 0) rfl
                have g1 := k3.cell (i := 1) rfl
                have g2 := k3.cell (i := 2) rfl
                go_wp2_with fail
                clear hAk3 hxk3 hPk3 yk30 yk31 yk32 fyk30 fyk31 fyk32
                have hc := Take_any p q num den (h + 1) (r + 1) false true hn hd V7
                rw [h3H.out] at hc
                refine hc.mono ?_
                clear hc
                rintro e V8 ⟨rfl, hb⟩
                clear c0 c1 c2 c3 d0 d1 d2 g0 g1 g2
                replace k1 := k1.below hb k1.lt
                replace k2 := k2.below hb k2.lt
                replace k3 := k3.below hb k3.lt
                replace hB := hB.trans (hb.mono hB.size)
                clear hb
                have c0 := k1.cell (i := 0) rfl
                have c1 := k1.cell (i := 1) rfl
                have c2 := k1.cell (i := 2) rfl
                have c3 := k1.cell (i := 3) rfl
                have d0 := k2.cell (i := 0) rfl
                have d1 := k2.cell (i := 1) rfl
                have d2 := k2.cell (i := 2) rfl
                have g0 := k3.cell (i := 0) rfl
                have g1 := k3.cell (i := 1) rfl
                have g2 := k3.cell (i := 2) rfl
                have k4 := Blk.new V8 70 #[.int .i64 0, .int .i64 0, .bool false]
                obtain ⟨bk4, hxk4⟩ : ∃ b, V8.heap.size = b := ⟨_, rfl⟩
                obtain ⟨V8a, hAk4⟩ : ∃ X, V8.alloc (.cells #[.int .i64 0, .int .i64 0, .bool false] 70) = X := ⟨_, rfl⟩
                have hba : Below V8.heap.size V8 V8a := alloc_below hAk4
                rw [hAk4, hxk4] at k4
                have hlek4 : V8.heap.size ≤ bk4 := by omega
                have yk40 := k4.cell (i := 0) rfl
                have fyk40 := k4.frozen 0
                have yk41 := k4.cell (i := 1) rfl
                have fyk41 := k4.frozen 1
                have yk42 := k4.cell (i := 2) rfl
                have fyk42 := k4.frozen 2
                have k4n := put3_blk k4 (.int .i64 (h + 1 + 1)) (.int .i64 (r + 1 + 1)) (.bool true)
                have hb : Below V8.heap.size V8 (put3 V8a bk4 (.int .i64 (h + 1 + 1)) (.int .i64 (r + 1 + 1)) (.bool true)) := hba.trans (put3_below hlek4 (.int .i64 (h + 1 + 1)) (.int .i64 (r + 1 + 1)) (.bool true))
                obtain ⟨V9, hPk4⟩ : ∃ X, put3 V8a bk4 (.int .i64 (h + 1 + 1)) (.int .i64 (r + 1 + 1)) (.bool true) = X := ⟨_, rfl⟩
                rw [hPk4] at k4n hb
                replace k4 := k4n
                clear k4n hba hlek4
                clear c0 c1 c2 c3 d0 d1 d2 g0 g1 g2
                replace k1 := k1.below hb k1.lt
                replace k2 := k2.below hb k2.lt
                replace k3 := k3.below hb k3.lt
                replace hB := hB.trans (hb.mono hB.size)
                clear hb
                have c0 := k1.cell (i := 0) rfl
                have c1 := k1.cell (i := 1) rfl
                have c2 := k1.cell (i := 2) rfl
                have c3 := k1.cell (i := 3) rfl
                have d0 := k2.cell (i := 0) rfl
                have d1 := k2.cell (i := 1) rfl
                have d2 := k2.cell (i := 2) rfl
                have g0 := k3.cell (i := 0) rfl
                have g1 := k3.cell (i := 1) rfl
                have g2 := k3.cell (i := 2) rfl
                have j0 := k4.cell (i := 0) rfl
                have j1 := k4.cell (i := 1) rfl
                have j2 := k4.cell (i := 2) rfl
                go_wp2_with fail
                go_ret
                exact ⟨rfl, hB⟩
              | false =>
                clear p2
                go_wp2_with fail
                have hc := Take_any p q num den h r false false hn hd V3
                rw [h1H.out] at hc
                refine hc.mono ?_
                clear hc
                rintro e V4 ⟨rfl, hb⟩
                clear c0 c1 c2 c3
                replace k1 := k1.below hb k1.lt
                replace hB := hB.trans (hb.mono hB.size)
                clear hb
                have c0 := k1.cell (i := 0) rfl
                have c1 := k1.cell (i := 1) rfl
                have c2 := k1.cell (i := 2) rfl
                have c3 := k1.cell (i := 3) rfl
                have k2 := Blk.new V4 70 #[.int .i64 0, .int .i64 0, .bool false]
                obtain ⟨bk2, hxk2⟩ : ∃ b, V4.heap.size = b := ⟨_, rfl⟩
                obtain ⟨V4a, hAk2⟩ : ∃ X, V4.alloc (.cells #[.int .i64 0, .int .i64 0, .bool false] 70) = X := ⟨_, rfl⟩
                have hba : Below V4.heap.size V4 V4a := alloc_below hAk2
                rw [hAk2, hxk2] at k2
                have hlek2 : V4.heap.size ≤ bk2 := by omega
                have yk20 := k2.cell (i := 0) rfl
                have fyk20 := k2.frozen 0
                have yk21 := k2.cell (i := 1) rfl
                have fyk21 := k2.frozen 1
                have yk22 := k2.cell (i := 2) rfl
                have fyk22 := k2.frozen 2
                have k2n := put3_blk k2 (.int .i64 h) (.int .i64 (r + 1)) (.bool false)
                have hb : Below V4.heap.size V4 (put3 V4a bk2 (.int .i64 h) (.int .i64 (r + 1)) (.bool false)) := hba.trans (put3_below hlek2 (.int .i64 h) (.int .i64 (r + 1)) (.bool false))
                obtain ⟨V5, hPk2⟩ : ∃ X, put3 V4a bk2 (.int .i64 h) (.int .i64 (r + 1)) (.bool false) = X := ⟨_, rfl⟩
                rw [hPk2] at k2n hb
                replace k2 := k2n
                clear k2n hba hlek2
                clear c0 c1 c2 c3
                replace k1 := k1.below hb k1.lt
                replace hB := hB.trans (hb.mono hB.size)
                clear hb
                have c0 := k1.cell (i := 0) rfl
                have c1 := k1.cell (i := 1) rfl
                have c2 := k1.cell (i := 2) rfl
                have c3 := k1.cell (i := 3) rfl
                have d0 := k2.cell (i := 0) rfl
                have d1 := k2.cell (i := 1) rfl
                have d2 := k2.cell (i := 2) rfl
                go_wp2_with fail
                clear hAk2 hxk2 hPk2 yk20 yk21 yk22 fyk20 fyk21 fyk22
                have hc := Take_any p q num den h r false true hn hd V5
                rw [h2H.out] at hc
                refine hc.mono ?_
                clear hc
                rintro e V6 ⟨rfl, hb⟩
                clear c0 c1 c2 c3 d0 d1 d2
                replace k1 := k1.below hb k1.lt
                replace k2 := k2.below hb k2.lt
                replace hB := hB.trans (hb.mono hB.size)
                clear hb
                have c0 := k1.cell (i := 0) rfl
                have c1 := k1.cell (i := 1) rfl
                have c2 := k1.cell (i := 2) rfl
                have c3 := k1.cell (i := 3) rfl
                have d0 := k2.cell (i := 0) rfl
                have d1 := k2.cell (i := 1) rfl
                have d2 := k2.cell (i := 2) rfl
                have k3 := Blk.new V6 70 #[.int .i64 0, .int .i64 0, .bool false]
                obtain ⟨bk3, hxk3⟩ : ∃ b, V6.heap.size = b := ⟨_, rfl⟩
                obtain ⟨V6a, hAk3⟩ : ∃ X, V6.alloc (.cells #[.int .i64 0, .int .i64 0, .bool false] 70) = X := ⟨_, rfl⟩
                have hba : Below V6.heap.size V6 V6a := alloc_below hAk3
                rw [hAk3, hxk3] at k3
                have hlek3 : V6.heap.size ≤ bk3 := by omega
                have yk30 := k3.cell (i := 0) rfl
                have fyk30 := k3.frozen 0
                have yk31 := k3.cell (i := 1) rfl
                have fyk31 := k3.frozen 1
                have yk32 := k3.cell (i := 2) rfl
                have fyk32 := k3.frozen 2
                have k3n := put3_blk k3 (.int .i64 (h + 1)) (.int .i64 (r + 1)) (.bool false)
                have hb : Below V6.heap.size V6 (put3 V6a bk3 (.int .i64 (h + 1)) (.int .i64 (r + 1)) (.bool false)) := hba.trans (put3_below hlek3 (.int .i64 (h + 1)) (.int .i64 (r + 1)) (.bool false))
                obtain ⟨V7, hPk3⟩ : ∃ X, put3 V6a bk3 (.int .i64 (h + 1)) (.int .i64 (r + 1)) (.bool false) = X := ⟨_, rfl⟩
                rw [hPk3] at k3n hb
                replace k3 := k3n
                clear k3n hba hlek3
                clear c0 c1 c2 c3 d0 d1 d2
                replace k1 := k1.below hb k1.lt
                replace k2 := k2.below hb k2.lt
                replace hB := hB.trans (hb.mono hB.size)
                clear hb
                have c0 := k1.cell (i := 0) rfl
                have c1 := k1.cell (i := 1) rfl
                have c2 := k1.cell (i := 2) rfl
                have c3 := k1.cell (i := 3) rfl
                have d0 := k2.cell (i := 0) rfl
                have d1 := k2.cell (i := 1) rfl
                have d2 := k2.cell (i := 2) rfl
                have g0 := k3.cell (i := 0) rfl
                have g1 := k3.cell (i := 1) rfl
                have g2 := k3.cell (i := 2) rfl
                go_wp2_with fail
                clear hAk3 hxk3 hPk3 yk30 yk31 yk32 fyk30 fyk31 fyk32
                have hc := Take_any p q num den (h + 1) (r + 1) false true hn hd V7
                rw [h3H.out] at hc
                refine hc.mono ?_
                clear hc
                rintro e V8 ⟨rfl, hb⟩
                clear c0 c1 c2 c3 d0 d1 d2 g0 g1 g2
                replace k1 := k1.below hb k1.lt
                replace k2 := k2.below hb k2.lt
                replace k3 := k3.below hb k3.lt
                replace hB := hB.trans (hb.mono hB.size)
                clear hb
                have c0 := k1.cell (i := 0) rfl
                have c1 := k1.cell (i := 1) rfl
                have c2 := k1.cell (i := 2) rfl
                have c3 := k1.cell (i := 3) rfl
                have d0 := k2.cell (i := 0) rfl
                have d1 := k2.cell (i := 1) rfl
                have d2 := k2.cell (i := 2) rfl
                have g0 := k3.cell (i := 0) rfl
                have g1 := k3.cell (i := 1) rfl
                have g2 := k3.cell (i := 2) rfl
                have k4 := Blk.new V8 70 #[.int .i64 0, .int .i64 0, .bool false]
                obtain ⟨bk4, hxk4⟩ : ∃ b, V8.heap.size = b := ⟨_, rfl⟩
                obtain ⟨V8a, hAk4⟩ : ∃ X, V8.alloc (.cells #[.int .i64 0, .int .i64 0, .bool false] 70) = X := ⟨_, rfl⟩
                have hba : Below V8.heap.size V8 V8a := alloc_below hAk4
                rw [hAk4, hxk4] at k4
                have hlek4 : V8.heap.size ≤ bk4 := by omega
                have yk40 := k4.cell (i := 0) rfl
                have fyk40 := k4.frozen 0
                have yk41 := k4.cell (i := 1) rfl
                have fyk41 := k4.frozen 1
                have yk42 := k4.cell (i := 2) rfl
                have fyk42 := k4.frozen 2
                have k4n := put3_blk k4 (.int .i64 (h + 1 + 1)) (.int .i64 (r + 1 + 1)) (.bool x3)
                have hb : Below V8.heap.size V8 (put3 V8a bk4 (.int .i64 (h + 1 + 1)) (.int .i64 (r + 1 + 1)) (.bool x3)) := hba.trans (put3_below hlek4 (.int .i64 (h + 1 + 1)) (.int .i64 (r + 1 + 1)) (.bool x3))
                obtain ⟨V9, hPk4⟩ : ∃ X, put3 V8a bk4 (.int .i64 (h + 1 + 1)) (.int .i64 (r + 1 + 1)) (.bool x3) = X := ⟨_, rfl⟩
                rw [hPk4] at k4n hb
                replace k4 := k4n
                clear k4n hba hlek4
                clear c0 c1 c2 c3 d0 d1 d2 g0 g1 g2
                replace k1 := k1.below hb k1.lt
                replace k2 := k2.below hb k2.lt
                replace k3 := k3.below hb k3.lt
                replace hB := hB.trans (hb.mono hB.size)
                clear hb
                have c0 := k1.cell (i := 0) rfl
                have c1 := k1.cell (i := 1) rfl
                have c2 := k1.cell (i := 2) rfl
                have c3 := k1.cell (i := 3) rfl
                have d0 := k2.cell (i := 0) rfl
                have d1 := k2.cell (i := 1) rfl
                have d2 := k2.cell (i := 2) rfl
                have g0 := k3.cell (i := 0) rfl
                have g1 := k3.cell (i := 1) rfl
                have g2 := k3.cell (i := 2) rfl
                have j0 := k4.cell (i := 0) rfl
                have j1 := k4.cell (i := 1) rfl
                have j2 := k4.cell (i := 2) rfl
                go_wp2_with fail
                go_ret
                exact ⟨rfl, hB⟩

end Go.Proofs.YtbfigbpjoaccdaaGreat

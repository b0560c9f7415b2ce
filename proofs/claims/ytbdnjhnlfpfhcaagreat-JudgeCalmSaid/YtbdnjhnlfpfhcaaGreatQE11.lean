/- Contracts and laws (Ord). -/
import Derived.Deep.DeepCutAuto
import Derived.Test.YtbdnjhnlfpfhcaaGreatQE10
namespace Go.Proofs.YtbdnjhnlfpfhcaaGreat
open Go Go.RowKit Go.Shelf
set_option linter.unusedVariables false
set_option linter.unusedSimpArgs false

set_option maxRecDepth 100000 in
set_option maxHeartbeats 16000000 in
theorem order_any (a b c d : Nat) (ha : a ≤ 4611686018427387903) (hb : b ≤ 4611686018427387903) (hc : c ≤ 4611686018427387903) (hd : d ≤ 4611686018427387903) (hc0 : 0 < c) (x y : Nat) (hx : a * d = x) (hy : c * b = y) (w : World) :
    Calls Tryz.prog 30 #[frv a b, frv c d] w fun e w' => e = .returned (.int .i64 (orderF a b c d)) ∧ Below w.heap.size w w' := by
  have hB : Below w.heap.size w w := Below.refl _ _
  have hw := words_lt x y
  obtain ⟨xh, hxh⟩ : ∃ z, x / 18446744073709551616 = z := ⟨_, rfl⟩
  obtain ⟨xl, hxl⟩ : ∃ z, x % 18446744073709551616 = z := ⟨_, rfl⟩
  obtain ⟨yh, hyh⟩ : ∃ z, y / 18446744073709551616 = z := ⟨_, rfl⟩
  obtain ⟨yl, hyl⟩ : ∃ z, y % 18446744073709551616 = z := ⟨_, rfl⟩
  rw [hxh, hxl, hyh, hyl] at hw
  obtain ⟨r, hr⟩ : ∃ r, orderF a b c d = r := ⟨_, rfl⟩
  rw [hr]
  unfold orderF at hr
  rw [hx, hy] at hr
  have hwH := Lib.hid hw
  have hxH := Lib.hid (fun (W : World) => (show Calls Tryz.prog 58 #[.int .u64 (a : Int), .int .u64 (d : Int)] W fun e w' => e = .returned (.agg #[.int .u64 (xh : Int), .int .u64 (xl : Int)]) ∧ Below W.heap.size W w' by
    have hp := product_any a d (by omega) (by omega) W
    rw [hx, hxh, hxl] at hp
    exact hp))
  have hyH := Lib.hid (fun (W : World) => (show Calls Tryz.prog 58 #[.int .u64 (c : Int), .int .u64 (b : Int)] W fun e w' => e = .returned (.agg #[.int .u64 (yh : Int), .int .u64 (yl : Int)]) ∧ Below W.heap.size W w' by
    have hp := product_any c b (by omega) (by omega) W
    rw [hy, hyh, hyl] at hp
    exact hp))
  clear hx hy hxh hxl hyh hyl hw
  have hbV1 : Below w.heap.size w (w.alloc (.cells #[.int .i64 (a : Int), .int .i64 (b : Int)] 23)) := jb_al (Below.refl _ w) _
  have k2 := Blk.new w 23 #[.int .i64 (a : Int), .int .i64 (b : Int)]
  obtain ⟨V1, hEV1⟩ : ∃ X, w.alloc (.cells #[.int .i64 (a : Int), .int .i64 (b : Int)] 23) = X := ⟨_, rfl⟩
  rw [hEV1] at hbV1 k2
  replace hB := hB.trans (hbV1.mono hB.size)
  clear hbV1
  have m0 := k2.cell (i := 0) rfl
  have m1 := k2.cell (i := 1) rfl
  have hbV2 : Below V1.heap.size V1 (V1.alloc (.cells #[.int .i64 (c : Int), .int .i64 (d : Int)] 23)) := jb_al (Below.refl _ V1) _
  have k3 := Blk.new V1 23 #[.int .i64 (c : Int), .int .i64 (d : Int)]
  obtain ⟨V2, hEV2⟩ : ∃ X, V1.alloc (.cells #[.int .i64 (c : Int), .int .i64 (d : Int)] 23) = X := ⟨_, rfl⟩
  rw [hEV2] at hbV2 k3
  clear m0 m1
  replace k2 := k2.below hbV2 k2.lt
  replace hB := hB.trans (hbV2.mono hB.size)
  clear hbV2
  have m0 := k2.cell (i := 0) rfl
  have m1 := k2.cell (i := 1) rfl
  have u0 := k3.cell (i := 0) rfl
  have u1 := k3.cell (i := 1) rfl
  go_enter Tryz.func30, Tryz.ntmps30
  have hqw : ∀ z : Nat, z ≤ 4611686018427387903 → (Lit.int .i64 (z : Int)).wf = true := fun z hz => by simp [Lit.wf, IntKind.min, IntKind.max, IntKind.signed, IntKind.bits]; omega
  have ab := fun (z : Nat) (hz : z ≤ 4611686018427387903) (W : World) => eabs_any (z : Int) (hqw z hz) W
  simp only [Int.natAbs_natCast] at ab
  have abH := Lib.hid ab
  clear ab hqw
  have hle : w.heap.size ≤ V2.heap.size := hB.size
  go_upto_region 1 with fail
  clear hEV1 hEV2
  have l2 := k2.lt
  have l3 := k3.lt
  go_cut [5, 6] (fun s5 s6 wx => ∃ b5 b6 : Nat, s5 = .pointer (some ⟨b5, 0, none⟩) ∧ s6 = .pointer (some ⟨b6, 0, none⟩) ∧ Blk wx b5 75 #[.int .u64 (xh : Int), .int .u64 (xl : Int)] ∧ Blk wx b6 75 #[.int .u64 (yh : Int), .int .u64 (yl : Int)] ∧ Below V2.heap.size V2 wx)
  case first =>
    have g2 := k2
    have g3 := k3
    have hS : Below V2.heap.size V2 V2.drew := (Below.refl _ _).drew
    refine plain_region (fun W' => Below V2.heap.size V2 W') 18 18 (by kernel_rfl) rfl ?_
    simp only [Array.replicate_succ, Array.replicate_zero, List.push_toArray, List.nil_append, List.cons_append]
    obtain ⟨d5⟩ : Nonempty Nat := ⟨0⟩
    obtain ⟨d6⟩ : Nonempty Nat := ⟨0⟩
    obtain ⟨W, hW⟩ : ∃ X : World, V2.drew = X := ⟨_, rfl⟩
    rw [hW] at hS ⊢
    clear hW
    revert hS
    revert d5 d6 W
    apply cutO (fun d5 d6 W => Below V2.heap.size V2 W ∧ Blk W d5 75 #[.int .u64 (xh : Int), .int .u64 (xl : Int)] ∧ V2.heap.size ≤ d5 ∧ Blk W d6 75 #[.int .u64 (yh : Int), .int .u64 (yl : Int)] ∧ V2.heap.size ≤ d6 ∧ d5 ≠ d6)
    · intro key2_5_6_9_12_13_14_15_16_17
      apply cutO (fun d5 d6 W => Below V2.heap.size V2 W ∧ Blk W d5 75 #[.int .u64 (xh : Int), .int .u64 (xl : Int)] ∧ V2.heap.size ≤ d5 ∧ Blk W d6 75 #[.int .u64 0, .int .u64 0] ∧ V2.heap.size ≤ d6 ∧ d5 ≠ d6)
      · intro key2_5_6_9_12_13_14_15_16
        apply cutO (fun d5 d6 W => Below V2.heap.size V2 W ∧ Blk W d5 75 #[.int .u64 0, .int .u64 0] ∧ V2.heap.size ≤ d5 ∧ Blk W d6 75 #[.int .u64 0, .int .u64 0] ∧ V2.heap.size ≤ d6 ∧ d5 ≠ d6)
        · intro key2_5_6_9_12_13_14_15
          apply cutO (fun d5 d6 W => Below V2.heap.size V2 W ∧ Blk W d5 75 #[.int .u64 0, .int .u64 0] ∧ V2.heap.size ≤ d5 ∧ Blk W d6 75 #[.int .u64 0, .int .u64 0] ∧ V2.heap.size ≤ d6 ∧ d5 ≠ d6)
          · intro key2_5_6_9_12_14_15
            apply cutO (fun d5 d6 W => Below V2.heap.size V2 W ∧ Blk W d6 75 #[.int .u64 0, .int .u64 0] ∧ V2.heap.size ≤ d6)
            · intro key2_5_6_9_12_13_15
              apply cutO (fun d5 d6 W => Below V2.heap.size V2 W ∧ Blk W d5 75 #[.int .u64 0, .int .u64 0] ∧ V2.heap.size ≤ d5)
              · intro key2_5_6_9_12_13_14
                apply cutO (fun d5 d6 W => Below V2.heap.size V2 W ∧ Blk W d5 75 #[.int .u64 0, .int .u64 0] ∧ V2.heap.size ≤ d5 ∧ Blk W d6 75 #[.int .u64 0, .int .u64 0] ∧ V2.heap.size ≤ d6 ∧ d5 ≠ d6)
                · intro key2_5_6_9_14_15
                  apply cutO (fun d5 d6 W => Below V2.heap.size V2 W ∧ Blk W d6 75 #[.int .u64 0, .int .u64 0] ∧ V2.heap.size ≤ d6)
                  · intro key2_5_6_9_12_15
                    apply cutO (fun d5 d6 W => Below V2.heap.size V2 W ∧ Blk W d5 75 #[.int .u64 0, .int .u64 0] ∧ V2.heap.size ≤ d5)
                    · intro key2_5_6_9_12_14
                      apply cutO (fun d5 d6 W => Below V2.heap.size V2 W)
                      · intro key2_5_6_9_12_13
                        apply cutO (fun d5 d6 W => Below V2.heap.size V2 W ∧ Blk W d5 75 #[.int .u64 0, .int .u64 0] ∧ V2.heap.size ≤ d5 ∧ Blk W d6 75 #[.int .u64 0, .int .u64 0] ∧ V2.heap.size ≤ d6 ∧ d5 ≠ d6)
                        · intro key2_5_6_14_15
                          apply cutO (fun d5 d6 W => Below V2.heap.size V2 W ∧ Blk W d6 75 #[.int .u64 0, .int .u64 0] ∧ V2.heap.size ≤ d6)
                          · intro key2_5_6_9_15
                            apply cutO (fun d5 d6 W => Below V2.heap.size V2 W ∧ Blk W d5 75 #[.int .u64 0, .int .u64 0] ∧ V2.heap.size ≤ d5)
                            · intro key2_5_6_9_14
                              apply cutO (fun d5 d6 W => Below V2.heap.size V2 W)
                              · intro key2_5_6_9_12
                                apply cutO (fun d5 d6 W => Below V2.heap.size V2 W ∧ Blk W d5 75 #[.int .u64 0, .int .u64 0] ∧ V2.heap.size ≤ d5 ∧ Blk W d6 75 #[.int .u64 0, .int .u64 0] ∧ V2.heap.size ≤ d6 ∧ d5 ≠ d6)
                                · intro key2_5_14_15
                                  apply cutO (fun d5 d6 W => Below V2.heap.size V2 W ∧ Blk W d6 75 #[.int .u64 0, .int .u64 0] ∧ V2.heap.size ≤ d6)
                                  · intro key2_5_6_15
                                    apply cutO (fun d5 d6 W => Below V2.heap.size V2 W ∧ Blk W d5 75 #[.int .u64 0, .int .u64 0] ∧ V2.heap.size ≤ d5)
                                    · intro key2_5_6_14
                                      apply cutO (fun d5 d6 W => Below V2.heap.size V2 W)
                                      · intro key2_5_6_9
                                        apply cutO (fun d5 d6 W => Below V2.heap.size V2 W ∧ Blk W d5 75 #[.int .u64 0, .int .u64 0] ∧ V2.heap.size ≤ d5 ∧ Blk W d6 75 #[.int .u64 0, .int .u64 0] ∧ V2.heap.size ≤ d6 ∧ d5 ≠ d6)
                                        · intro key2_14_15
                                          apply cutO (fun d5 d6 W => Below V2.heap.size V2 W ∧ Blk W d6 75 #[.int .u64 0, .int .u64 0] ∧ V2.heap.size ≤ d6)
                                          · intro key2_5_15
                                            apply cutO (fun d5 d6 W => Below V2.heap.size V2 W ∧ Blk W d5 75 #[.int .u64 0, .int .u64 0] ∧ V2.heap.size ≤ d5)
                                            · intro key2_5_14
                                              apply cutO (fun d5 d6 W => Below V2.heap.size V2 W)
                                              · intro key2_5_6
                                                apply cutO (fun d5 d6 W => Below V2.heap.size V2 W ∧ Blk W d5 75 #[.int .u64 0, .int .u64 0] ∧ V2.heap.size ≤ d5 ∧ Blk W d6 75 #[.int .u64 0, .int .u64 0] ∧ V2.heap.size ≤ d6 ∧ d5 ≠ d6)
                                                · intro key14_15
                                                  apply cutO (fun d5 d6 W => Below V2.heap.size V2 W ∧ Blk W d6 75 #[.int .u64 0, .int .u64 0] ∧ V2.heap.size ≤ d6)
                                                  · intro key2_15
                                                    apply cutO (fun d5 d6 W => Below V2.heap.size V2 W ∧ Blk W d5 75 #[.int .u64 0, .int .u64 0] ∧ V2.heap.size ≤ d5)
                                                    · intro key2_14
                                                      apply cutO (fun d5 d6 W => Below V2.heap.size V2 W)
                                                      · intro key2_5
                                                        apply cutO (fun d5 d6 W => Below V2.heap.size V2 W ∧ Blk W d6 75 #[.int .u64 0, .int .u64 0] ∧ V2.heap.size ≤ d6)
                                                        · intro key15
                                                          apply cutO (fun d5 d6 W => Below V2.heap.size V2 W ∧ Blk W d5 75 #[.int .u64 0, .int .u64 0] ∧ V2.heap.size ≤ d5)
                                                          · intro key14
                                                            apply cutO (fun d5 d6 W => Below V2.heap.size V2 W)
                                                            · intro key2
                                                              intro d5 d6 W hS
                                                              refine take_op 0 (v := ?o1v) rfl (by kernel_rfl) (fun _ _ _ h => h) (by rfl) hS (fun w' hS' => ?o1y) ?o1z
                                                              case o1y =>
                                                                go_simp
                                                                rfl
                                                              simp only [List.setIfInBounds_toArray, List.set_cons_zero, List.set_cons_succ]
                                                              refine take_op 1 (v := ?o2v) rfl (by kernel_rfl) (fun _ _ _ h => h) (by rfl) hS (fun w' hS' => ?o2y) ?o2z
                                                              case o2y =>
                                                                have fm0 := (g2.below hS' l2).cell (i := 0) rfl
                                                                have fm1 := (g2.below hS' l2).cell (i := 1) rfl
                                                                have fu0 := (g3.below hS' l3).cell (i := 0) rfl
                                                                have fu1 := (g3.below hS' l3).cell (i := 1) rfl
                                                                clear hS'
                                                                go_simp
                                                                rfl
                                                              simp only [List.setIfInBounds_toArray, List.set_cons_zero, List.set_cons_succ]
                                                              refine take_op 3 (v := ?o3v) rfl (by kernel_rfl) (fun _ _ _ h => h) (by rfl) hS (fun w' hS' => ?o3y) ?o3z
                                                              case o3y =>
                                                                go_simp
                                                                rfl
                                                              simp only [List.setIfInBounds_toArray, List.set_cons_zero, List.set_cons_succ]
                                                              refine take_op 4 (v := ?o4v) rfl (by kernel_rfl) (fun _ _ _ h => h) (by rfl) hS (fun w' hS' => ?o4y) ?o4z
                                                              case o4y =>
                                                                have fm0 := (g2.below hS' l2).cell (i := 0) rfl
                                                                have fm1 := (g2.below hS' l2).cell (i := 1) rfl
                                                                have fu0 := (g3.below hS' l3).cell (i := 0) rfl
                                                                have fu1 := (g3.below hS' l3).cell (i := 1) rfl
                                                                clear hS'
                                                                go_simp
                                                                rfl
                                                              simp only [List.setIfInBounds_toArray, List.set_cons_zero, List.set_cons_succ]
                                                              refine take_op 7 (v := ?o5v) rfl (by kernel_rfl) (fun _ _ _ h => h) (by rfl) hS (fun w' hS' => ?o5y) ?o5z
                                                              case o5y =>
                                                                go_simp
                                                                rfl
                                                              simp only [List.setIfInBounds_toArray, List.set_cons_zero, List.set_cons_succ]
                                                              refine take_op 8 (v := ?o6v) rfl (by kernel_rfl) (fun _ _ _ h => h) (by rfl) hS (fun w' hS' => ?o6y) ?o6z
                                                              case o6y =>
                                                                have fm0 := (g2.below hS' l2).cell (i := 0) rfl
                                                                have fm1 := (g2.below hS' l2).cell (i := 1) rfl
                                                                have fu0 := (g3.below hS' l3).cell (i := 0) rfl
                                                                have fu1 := (g3.below hS' l3).cell (i := 1) rfl
                                                                clear hS'
                                                                go_simp
                                                                rfl
                                                              simp only [List.setIfInBounds_toArray, List.set_cons_zero, List.set_cons_succ]
                                                              refine take_op 10 (v := ?o7v) rfl (by kernel_rfl) (fun _ _ _ h => h) (by rfl) hS (fun w' hS' => ?o7y) ?o7z
                                                              case o7y =>
                                                                go_simp
                                                                rfl
                                                              simp only [List.setIfInBounds_toArray, List.set_cons_zero, List.set_cons_succ]
                                                              refine take_op 11 (v := ?o8v) rfl (by kernel_rfl) (fun _ _ _ h => h) (by rfl) hS (fun w' hS' => ?o8y) ?o8z
                                                              case o8y =>
                                                                have fm0 := (g2.below hS' l2).cell (i := 0) rfl
                                                                have fm1 := (g2.below hS' l2).cell (i := 1) rfl
                                                                have fu0 := (g3.below hS' l3).cell (i := 0) rfl
                                                                have fu1 := (g3.below hS' l3).cell (i := 1) rfl
                                                                clear hS'
                                                                go_simp
                                                                rfl
                                                              simp only [List.setIfInBounds_toArray, List.set_cons_zero, List.set_cons_succ]
                                                              refine fork3 (i := 2) (j := 14) (m := 15) (by kernel_rfl) ?_ ?_ ?_
                                                              · refine step_at 2 rfl (fun K hK => ?_)
                                                                rw [if_pos (by rfl)]
                                                                go_simp
                                                                refine (abH.out a ha W).mono ?_
                                                                rintro e W' ⟨rfl, rfl⟩
                                                                refine hK.out _ _ (fun h => hS) ?_
                                                                clear hK K
                                                                try simp only [Act.put, List.setIfInBounds_toArray, List.set_cons_zero, List.set_cons_succ]
                                                                exact key2 d5 d6 W hS
                                                              · refine step_at 14 rfl (fun K hK => ?_)
                                                                rw [if_pos (by rfl)]
                                                                go_simp
                                                                have q5 := Blk.new W 75 #[.int .u64 0, .int .u64 0]
                                                                have e5 : V2.heap.size ≤ W.heap.size := hS.size
                                                                have hbU : Below W.heap.size W (W.alloc (.cells #[.int .u64 0, .int .u64 0] 75)) := jb_al (Below.refl _ W) _
                                                                clear d5
                                                                obtain ⟨d5, hd5⟩ : ∃ d, W.heap.size = d := ⟨_, rfl⟩
                                                                obtain ⟨U, hU⟩ : ∃ U, W.alloc (.cells #[.int .u64 0, .int .u64 0] 75) = U := ⟨_, rfl⟩
                                                                replace hS := hS.trans (hbU.mono hS.size)
                                                                rw [hU] at q5 hS ⊢
                                                                rw [hd5] at q5 e5 ⊢
                                                                clear hU hbU hd5
                                                                refine hK.out _ _ (fun h => hS) ?_
                                                                clear hK K
                                                                try simp only [Act.put, List.setIfInBounds_toArray, List.set_cons_zero, List.set_cons_succ]
                                                                exact key14 d5 d6 U ⟨hS, q5, e5⟩
                                                              · refine step_at 15 rfl (fun K hK => ?_)
                                                                rw [if_pos (by rfl)]
                                                                go_simp
                                                                have q6 := Blk.new W 75 #[.int .u64 0, .int .u64 0]
                                                                have e6 : V2.heap.size ≤ W.heap.size := hS.size
                                                                have hbU : Below W.heap.size W (W.alloc (.cells #[.int .u64 0, .int .u64 0] 75)) := jb_al (Below.refl _ W) _
                                                                clear d6
                                                                obtain ⟨d6, hd6⟩ : ∃ d, W.heap.size = d := ⟨_, rfl⟩
                                                                obtain ⟨U, hU⟩ : ∃ U, W.alloc (.cells #[.int .u64 0, .int .u64 0] 75) = U := ⟨_, rfl⟩
                                                                replace hS := hS.trans (hbU.mono hS.size)
                                                                rw [hU] at q6 hS ⊢
                                                                rw [hd6] at q6 e6 ⊢
                                                                clear hU hbU hd6
                                                                refine hK.out _ _ (fun h => hS) ?_
                                                                clear hK K
                                                                try simp only [Act.put, List.setIfInBounds_toArray, List.set_cons_zero, List.set_cons_succ]
                                                                exact key15 d5 d6 U ⟨hS, q6, e6⟩
                                                            · rintro d5 d6 W hS
                                                              refine fork3 (i := 5) (j := 14) (m := 15) (by kernel_rfl) ?_ ?_ ?_
                                                              · refine step_at 5 rfl (fun K hK => ?_)
                                                                rw [if_pos (by rfl)]
                                                                go_simp
                                                                refine (abH.out d hd W).mono ?_
                                                                rintro e W' ⟨rfl, rfl⟩
                                                                refine hK.out _ _ (fun h => hS) ?_
                                                                clear hK K
                                                                try simp only [Act.put, List.setIfInBounds_toArray, List.set_cons_zero, List.set_cons_succ]
                                                                exact key2_5 d5 d6 W hS
                                                              · refine step_at 14 rfl (fun K hK => ?_)
                                                                rw [if_pos (by rfl)]
                                                                go_simp
                                                                have q5 := Blk.new W 75 #[.int .u64 0, .int .u64 0]
                                                                have e5 : V2.heap.size ≤ W.heap.size := hS.size
                                                                have hbU : Below W.heap.size W (W.alloc (.cells #[.int .u64 0, .int .u64 0] 75)) := jb_al (Below.refl _ W) _
                                                                clear d5
                                                                obtain ⟨d5, hd5⟩ : ∃ d, W.heap.size = d := ⟨_, rfl⟩
                                                                obtain ⟨U, hU⟩ : ∃ U, W.alloc (.cells #[.int .u64 0, .int .u64 0] 75) = U := ⟨_, rfl⟩
                                                                replace hS := hS.trans (hbU.mono hS.size)
                                                                rw [hU] at q5 hS ⊢
                                                                rw [hd5] at q5 e5 ⊢
                                                                clear hU hbU hd5
                                                                refine hK.out _ _ (fun h => hS) ?_
                                                                clear hK K
                                                                try simp only [Act.put, List.setIfInBounds_toArray, List.set_cons_zero, List.set_cons_succ]
                                                                exact key2_14 d5 d6 U ⟨hS, q5, e5⟩
                                                              · refine step_at 15 rfl (fun K hK => ?_)
                                                                rw [if_pos (by rfl)]
                                                                go_simp
                                                                have q6 := Blk.new W 75 #[.int .u64 0, .int .u64 0]
                                                                have e6 : V2.heap.size ≤ W.heap.size := hS.size
                                                                have hbU : Below W.heap.size W (W.alloc (.cells #[.int .u64 0, .int .u64 0] 75)) := jb_al (Below.refl _ W) _
                                                                clear d6
                                                                obtain ⟨d6, hd6⟩ : ∃ d, W.heap.size = d := ⟨_, rfl⟩
                                                                obtain ⟨U, hU⟩ : ∃ U, W.alloc (.cells #[.int .u64 0, .int .u64 0] 75) = U := ⟨_, rfl⟩
                                                                replace hS := hS.trans (hbU.mono hS.size)
                                                                rw [hU] at q6 hS ⊢
                                                                rw [hd6] at q6 e6 ⊢
                                                                clear hU hbU hd6
                                                                refine hK.out _ _ (fun h => hS) ?_
                                                                clear hK K
                                                                try simp only [Act.put, List.setIfInBounds_toArray, List.set_cons_zero, List.set_cons_succ]
                                                                exact key2_15 d5 d6 U ⟨hS, q6, e6⟩
                                                          · rintro d5 d6 W ⟨hS, q5, e5⟩
                                                            refine fork2 (i := 2) (j := 15) (by kernel_rfl) ?_ ?_
                                                            · refine step_at 2 rfl (fun K hK => ?_)
                                                              rw [if_pos (by rfl)]
                                                              go_simp
                                                              refine (abH.out a ha W).mono ?_
                                                              rintro e W' ⟨rfl, rfl⟩
                                                              refine hK.out _ _ (fun h => hS) ?_
                                                              clear hK K
                                                              try simp only [Act.put, List.setIfInBounds_toArray, List.set_cons_zero, List.set_cons_succ]
                                                              exact key2_14 d5 d6 W ⟨hS, q5, e5⟩
                                                            · refine step_at 15 rfl (fun K hK => ?_)
                                                              rw [if_pos (by rfl)]
                                                              go_simp
                                                              have q6 := Blk.new W 75 #[.int .u64 0, .int .u64 0]
                                                              have e6 : V2.heap.size ≤ W.heap.size := hS.size
                                                              have hbU : Below W.heap.size W (W.alloc (.cells #[.int .u64 0, .int .u64 0] 75)) := jb_al (Below.refl _ W) _
                                                              have hlq := q5.lt
                                                              replace q5 := q5.below hbU q5.lt
                                                              clear d6
                                                              obtain ⟨d6, hd6⟩ : ∃ d, W.heap.size = d := ⟨_, rfl⟩
                                                              obtain ⟨U, hU⟩ : ∃ U, W.alloc (.cells #[.int .u64 0, .int .u64 0] 75) = U := ⟨_, rfl⟩
                                                              replace hS := hS.trans (hbU.mono hS.size)
                                                              rw [hU] at q6 hS q5 ⊢
                                                              rw [hd6] at q6 e6 hlq ⊢
                                                              have hne : d5 ≠ d6 := by omega
                                                              clear hU hbU hd6 hlq
                                                              refine hK.out _ _ (fun h => hS) ?_
                                                              clear hK K
                                                              try simp only [Act.put, List.setIfInBounds_toArray, List.set_cons_zero, List.set_cons_succ]
                                                              exact key14_15 d5 d6 U ⟨hS, q5, e5, q6, e6, hne⟩
                                                        · rintro d5 d6 W ⟨hS, q6, e6⟩
                                                          refine fork2 (i := 2) (j := 14) (by kernel_rfl) ?_ ?_
                                                          · refine step_at 2 rfl (fun K hK => ?_)
                                                            rw [if_pos (by rfl)]
                                                            go_simp
                                                            refine (abH.out a ha W).mono ?_
                                                            rintro e W' ⟨rfl, rfl⟩
                                                            refine hK.out _ _ (fun h => hS) ?_
                                                            clear hK K
                                                            try simp only [Act.put, List.setIfInBounds_toArray, List.set_cons_zero, List.set_cons_succ]
                                                            exact key2_15 d5 d6 W ⟨hS, q6, e6⟩
                                                          · refine step_at 14 rfl (fun K hK => ?_)
                                                            rw [if_pos (by rfl)]
                                                            go_simp
                                                            have q5 := Blk.new W 75 #[.int .u64 0, .int .u64 0]
                                                            have e5 : V2.heap.size ≤ W.heap.size := hS.size
                                                            have hbU : Below W.heap.size W (W.alloc (.cells #[.int .u64 0, .int .u64 0] 75)) := jb_al (Below.refl _ W) _
                                                            have hlq := q6.lt
                                                            replace q6 := q6.below hbU q6.lt
                                                            clear d5
                                                            obtain ⟨d5, hd5⟩ : ∃ d, W.heap.size = d := ⟨_, rfl⟩
                                                            obtain ⟨U, hU⟩ : ∃ U, W.alloc (.cells #[.int .u64 0, .int .u64 0] 75) = U := ⟨_, rfl⟩
                                                            replace hS := hS.trans (hbU.mono hS.size)
                                                            rw [hU] at q5 hS q6 ⊢
                                                            rw [hd5] at q5 e5 hlq ⊢
                                                            have hne : d5 ≠ d6 := by omega
                                                            clear hU hbU hd5 hlq
                                                            refine hK.out _ _ (fun h => hS) ?_
                                                            clear hK K
                                                            try simp only [Act.put, List.setIfInBounds_toArray, List.set_cons_zero, List.set_cons_succ]
                                                            exact key14_15 d5 d6 U ⟨hS, q5, e5, q6, e6, hne⟩
                                                      · rintro d5 d6 W hS
                                                        refine fork3 (i := 6) (j := 14) (m := 15) (by kernel_rfl) ?_ ?_ ?_
                                                        · refine step_at 6 rfl (fun K hK => ?_)
                                                          rw [if_pos (by rfl)]
                                                          go_simp
                                                          refine (hxH.out W).mono ?_
                                                          rintro e U ⟨rfl, hbU⟩
                                                          replace hS := hS.trans (hbU.mono hS.size)
                                                          clear hbU
                                                          refine hK.out _ _ (fun h => hS) ?_
                                                          clear hK K
                                                          try simp only [Act.put, List.setIfInBounds_toArray, List.set_cons_zero, List.set_cons_succ]
                                                          exact key2_5_6 d5 d6 U hS
                                                        · refine step_at 14 rfl (fun K hK => ?_)
                                                          rw [if_pos (by rfl)]
                                                          go_simp
                                                          have q5 := Blk.new W 75 #[.int .u64 0, .int .u64 0]
                                                          have e5 : V2.heap.size ≤ W.heap.size := hS.size
                                                          have hbU : Below W.heap.size W (W.alloc (.cells #[.int .u64 0, .int .u64 0] 75)) := jb_al (Below.refl _ W) _
                                                          clear d5
                                                          obtain ⟨d5, hd5⟩ : ∃ d, W.heap.size = d := ⟨_, rfl⟩
                                                          obtain ⟨U, hU⟩ : ∃ U, W.alloc (.cells #[.int .u64 0, .int .u64 0] 75) = U := ⟨_, rfl⟩
                                                          replace hS := hS.trans (hbU.mono hS.size)
                                                          rw [hU] at q5 hS ⊢
                                                          rw [hd5] at q5 e5 ⊢
                                                          clear hU hbU hd5
                                                          refine hK.out _ _ (fun h => hS) ?_
                                                          clear hK K
                                                          try simp only [Act.put, List.setIfInBounds_toArray, List.set_cons_zero, List.set_cons_succ]
                                                          exact key2_5_14 d5 d6 U ⟨hS, q5, e5⟩
                                                        · refine step_at 15 rfl (fun K hK => ?_)
                                                          rw [if_pos (by rfl)]
                                                          go_simp
                                                          have q6 := Blk.new W 75 #[.int .u64 0, .int .u64 0]
                                                          have e6 : V2.heap.size ≤ W.heap.size := hS.size
                                                          have hbU : Below W.heap.size W (W.alloc (.cells #[.int .u64 0, .int .u64 0] 75)) := jb_al (Below.refl _ W) _
                                                          clear d6
                                                          obtain ⟨d6, hd6⟩ : ∃ d, W.heap.size = d := ⟨_, rfl⟩
                                                          obtain ⟨U, hU⟩ : ∃ U, W.alloc (.cells #[.int .u64 0, .int .u64 0] 75) = U := ⟨_, rfl⟩
                                                          replace hS := hS.trans (hbU.mono hS.size)
                                                          rw [hU] at q6 hS ⊢
                                                          rw [hd6] at q6 e6 ⊢
                                                          clear hU hbU hd6
                                                          refine hK.out _ _ (fun h => hS) ?_
                                                          clear hK K
                                                          try simp only [Act.put, List.setIfInBounds_toArray, List.set_cons_zero, List.set_cons_succ]
                                                          exact key2_5_15 d5 d6 U ⟨hS, q6, e6⟩
                                                    · rintro d5 d6 W ⟨hS, q5, e5⟩
                                                      refine fork2 (i := 5) (j := 15) (by kernel_rfl) ?_ ?_
                                                      · refine step_at 5 rfl (fun K hK => ?_)
                                                        rw [if_pos (by rfl)]
                                                        go_simp
                                                        refine (abH.out d hd W).mono ?_
                                                        rintro e W' ⟨rfl, rfl⟩
                                                        refine hK.out _ _ (fun h => hS) ?_
                                                        clear hK K
                                                        try simp only [Act.put, List.setIfInBounds_toArray, List.set_cons_zero, List.set_cons_succ]
                                                        exact key2_5_14 d5 d6 W ⟨hS, q5, e5⟩
                                                      · refine step_at 15 rfl (fun K hK => ?_)
                                                        rw [if_pos (by rfl)]
                                                        go_simp
                                                        have q6 := Blk.new W 75 #[.int .u64 0, .int .u64 0]
                                                        have e6 : V2.heap.size ≤ W.heap.size := hS.size
                                                        have hbU : Below W.heap.size W (W.alloc (.cells #[.int .u64 0, .int .u64 0] 75)) := jb_al (Below.refl _ W) _
                                                        have hlq := q5.lt
                                                        replace q5 := q5.below hbU q5.lt
                                                        clear d6
                                                        obtain ⟨d6, hd6⟩ : ∃ d, W.heap.size = d := ⟨_, rfl⟩
                                                        obtain ⟨U, hU⟩ : ∃ U, W.alloc (.cells #[.int .u64 0, .int .u64 0] 75) = U := ⟨_, rfl⟩
                                                        replace hS := hS.trans (hbU.mono hS.size)
                                                        rw [hU] at q6 hS q5 ⊢
                                                        rw [hd6] at q6 e6 hlq ⊢
                                                        have hne : d5 ≠ d6 := by omega
                                                        clear hU hbU hd6 hlq
                                                        refine hK.out _ _ (fun h => hS) ?_
                                                        clear hK K
                                                        try simp only [Act.put, List.setIfInBounds_toArray, List.set_cons_zero, List.set_cons_succ]
                                                        exact key2_14_15 d5 d6 U ⟨hS, q5, e5, q6, e6, hne⟩
                                                  · rintro d5 d6 W ⟨hS, q6, e6⟩
                                                    refine fork2 (i := 5) (j := 14) (by kernel_rfl) ?_ ?_
                                                    · refine step_at 5 rfl (fun K hK => ?_)
                                                      rw [if_pos (by rfl)]
                                                      go_simp
                                                      refine (abH.out d hd W).mono ?_
                                                      rintro e W' ⟨rfl, rfl⟩
                                                      refine hK.out _ _ (fun h => hS) ?_
                                                      clear hK K
                                                      try simp only [Act.put, List.setIfInBounds_toArray, List.set_cons_zero, List.set_cons_succ]
                                                      exact key2_5_15 d5 d6 W ⟨hS, q6, e6⟩
                                                    · refine step_at 14 rfl (fun K hK => ?_)
                                                      rw [if_pos (by rfl)]
                                                      go_simp
                                                      have q5 := Blk.new W 75 #[.int .u64 0, .int .u64 0]
                                                      have e5 : V2.heap.size ≤ W.heap.size := hS.size
                                                      have hbU : Below W.heap.size W (W.alloc (.cells #[.int .u64 0, .int .u64 0] 75)) := jb_al (Below.refl _ W) _
                                                      have hlq := q6.lt
                                                      replace q6 := q6.below hbU q6.lt
                                                      clear d5
                                                      obtain ⟨d5, hd5⟩ : ∃ d, W.heap.size = d := ⟨_, rfl⟩
                                                      obtain ⟨U, hU⟩ : ∃ U, W.alloc (.cells #[.int .u64 0, .int .u64 0] 75) = U := ⟨_, rfl⟩
                                                      replace hS := hS.trans (hbU.mono hS.size)
                                                      rw [hU] at q5 hS q6 ⊢
                                                      rw [hd5] at q5 e5 hlq ⊢
                                                      have hne : d5 ≠ d6 := by omega
                                                      clear hU hbU hd5 hlq
                                                      refine hK.out _ _ (fun h => hS) ?_
                                                      clear hK K
                                                      try simp only [Act.put, List.setIfInBounds_toArray, List.set_cons_zero, List.set_cons_succ]
                                                      exact key2_14_15 d5 d6 U ⟨hS, q5, e5, q6, e6, hne⟩
                                                · rintro d5 d6 W ⟨hS, q5, e5, q6, e6, hne⟩
                                                  refine step_op 2 (by kernel_rfl) rfl (fun K hK => ?_)
                                                  rw [if_pos (by rfl)]
                                                  go_simp
                                                  refine (abH.out a ha W).mono ?_
                                                  rintro e W' ⟨rfl, rfl⟩
                                                  refine hK.out _ _ (fun h => hS) ?_
                                                  clear hK K
                                                  try simp only [Act.put, List.setIfInBounds_toArray, List.set_cons_zero, List.set_cons_succ]
                                                  exact key2_14_15 d5 d6 W ⟨hS, q5, e5, q6, e6, hne⟩
                                              · rintro d5 d6 W hS
                                                refine fork3 (i := 9) (j := 14) (m := 15) (by kernel_rfl) ?_ ?_ ?_
                                                · refine step_at 9 rfl (fun K hK => ?_)
                                                  rw [if_pos (by rfl)]
                                                  go_simp
                                                  refine (abH.out c hc W).mono ?_
                                                  rintro e W' ⟨rfl, rfl⟩
                                                  refine hK.out _ _ (fun h => hS) ?_
                                                  clear hK K
                                                  try simp only [Act.put, List.setIfInBounds_toArray, List.set_cons_zero, List.set_cons_succ]
                                                  exact key2_5_6_9 d5 d6 W hS
                                                · refine step_at 14 rfl (fun K hK => ?_)
                                                  rw [if_pos (by rfl)]
                                                  go_simp
                                                  have q5 := Blk.new W 75 #[.int .u64 0, .int .u64 0]
                                                  have e5 : V2.heap.size ≤ W.heap.size := hS.size
                                                  have hbU : Below W.heap.size W (W.alloc (.cells #[.int .u64 0, .int .u64 0] 75)) := jb_al (Below.refl _ W) _
                                                  clear d5
                                                  obtain ⟨d5, hd5⟩ : ∃ d, W.heap.size = d := ⟨_, rfl⟩
                                                  obtain ⟨U, hU⟩ : ∃ U, W.alloc (.cells #[.int .u64 0, .int .u64 0] 75) = U := ⟨_, rfl⟩
                                                  replace hS := hS.trans (hbU.mono hS.size)
                                                  rw [hU] at q5 hS ⊢
                                                  rw [hd5] at q5 e5 ⊢
                                                  clear hU hbU hd5
                                                  refine hK.out _ _ (fun h => hS) ?_
                                                  clear hK K
                                                  try simp only [Act.put, List.setIfInBounds_toArray, List.set_cons_zero, List.set_cons_succ]
                                                  exact key2_5_6_14 d5 d6 U ⟨hS, q5, e5⟩
                                                · refine step_at 15 rfl (fun K hK => ?_)
                                                  rw [if_pos (by rfl)]
                                                  go_simp
                                                  have q6 := Blk.new W 75 #[.int .u64 0, .int .u64 0]
                                                  have e6 : V2.heap.size ≤ W.heap.size := hS.size
                                                  have hbU : Below W.heap.size W (W.alloc (.cells #[.int .u64 0, .int .u64 0] 75)) := jb_al (Below.refl _ W) _
                                                  clear d6
                                                  obtain ⟨d6, hd6⟩ : ∃ d, W.heap.size = d := ⟨_, rfl⟩
                                                  obtain ⟨U, hU⟩ : ∃ U, W.alloc (.cells #[.int .u64 0, .int .u64 0] 75) = U := ⟨_, rfl⟩
                                                  replace hS := hS.trans (hbU.mono hS.size)
                                                  rw [hU] at q6 hS ⊢
                                                  rw [hd6] at q6 e6 ⊢
                                                  clear hU hbU hd6
                                                  refine hK.out _ _ (fun h => hS) ?_
                                                  clear hK K
                                                  try simp only [Act.put, List.setIfInBounds_toArray, List.set_cons_zero, List.set_cons_succ]
                                                  exact key2_5_6_15 d5 d6 U ⟨hS, q6, e6⟩
                                            · rintro d5 d6 W ⟨hS, q5, e5⟩
                                              refine fork2 (i := 6) (j := 15) (by kernel_rfl) ?_ ?_
                                              · refine step_at 6 rfl (fun K hK => ?_)
                                                rw [if_pos (by rfl)]
                                                go_simp
                                                refine (hxH.out W).mono ?_
                                                rintro e U ⟨rfl, hbU⟩
                                                replace q5 := q5.below hbU q5.lt
                                                replace hS := hS.trans (hbU.mono hS.size)
                                                clear hbU
                                                refine hK.out _ _ (fun h => hS) ?_
                                                clear hK K
                                                try simp only [Act.put, List.setIfInBounds_toArray, List.set_cons_zero, List.set_cons_succ]
                                                exact key2_5_6_14 d5 d6 U ⟨hS, q5, e5⟩
                                              · refine step_at 15 rfl (fun K hK => ?_)
                                                rw [if_pos (by rfl)]
                                                go_simp
                                                have q6 := Blk.new W 75 #[.int .u64 0, .int .u64 0]
                                                have e6 : V2.heap.size ≤ W.heap.size := hS.size
                                                have hbU : Below W.heap.size W (W.alloc (.cells #[.int .u64 0, .int .u64 0] 75)) := jb_al (Below.refl _ W) _
                                                have hlq := q5.lt
                                                replace q5 := q5.below hbU q5.lt
                                                clear d6
                                                obtain ⟨d6, hd6⟩ : ∃ d, W.heap.size = d := ⟨_, rfl⟩
                                                obtain ⟨U, hU⟩ : ∃ U, W.alloc (.cells #[.int .u64 0, .int .u64 0] 75) = U := ⟨_, rfl⟩
                                                replace hS := hS.trans (hbU.mono hS.size)
                                                rw [hU] at q6 hS q5 ⊢
                                                rw [hd6] at q6 e6 hlq ⊢
                                                have hne : d5 ≠ d6 := by omega
                                                clear hU hbU hd6 hlq
                                                refine hK.out _ _ (fun h => hS) ?_
                                                clear hK K
                                                try simp only [Act.put, List.setIfInBounds_toArray, List.set_cons_zero, List.set_cons_succ]
                                                exact key2_5_14_15 d5 d6 U ⟨hS, q5, e5, q6, e6, hne⟩
                                          · rintro d5 d6 W ⟨hS, q6, e6⟩
                                            refine fork2 (i := 6) (j := 14) (by kernel_rfl) ?_ ?_
                                            · refine step_at 6 rfl (fun K hK => ?_)
                                              rw [if_pos (by rfl)]
                                              go_simp
                                              refine (hxH.out W).mono ?_
                                              rintro e U ⟨rfl, hbU⟩
                                              replace q6 := q6.below hbU q6.lt
                                              replace hS := hS.trans (hbU.mono hS.size)
                                              clear hbU
                                              refine hK.out _ _ (fun h => hS) ?_
                                              clear hK K
                                              try simp only [Act.put, List.setIfInBounds_toArray, List.set_cons_zero, List.set_cons_succ]
                                              exact key2_5_6_15 d5 d6 U ⟨hS, q6, e6⟩
                                            · refine step_at 14 rfl (fun K hK => ?_)
                                              rw [if_pos (by rfl)]
                                              go_simp
                                              have q5 := Blk.new W 75 #[.int .u64 0, .int .u64 0]
                                              have e5 : V2.heap.size ≤ W.heap.size := hS.size
                                              have hbU : Below W.heap.size W (W.alloc (.cells #[.int .u64 0, .int .u64 0] 75)) := jb_al (Below.refl _ W) _
                                              have hlq := q6.lt
                                              replace q6 := q6.below hbU q6.lt
                                              clear d5
                                              obtain ⟨d5, hd5⟩ : ∃ d, W.heap.size = d := ⟨_, rfl⟩
                                              obtain ⟨U, hU⟩ : ∃ U, W.alloc (.cells #[.int .u64 0, .int .u64 0] 75) = U := ⟨_, rfl⟩
                                              replace hS := hS.trans (hbU.mono hS.size)
                                              rw [hU] at q5 hS q6 ⊢
                                              rw [hd5] at q5 e5 hlq ⊢
                                              have hne : d5 ≠ d6 := by omega
                                              clear hU hbU hd5 hlq
                                              refine hK.out _ _ (fun h => hS) ?_
                                              clear hK K
                                              try simp only [Act.put, List.setIfInBounds_toArray, List.set_cons_zero, List.set_cons_succ]
                                              exact key2_5_14_15 d5 d6 U ⟨hS, q5, e5, q6, e6, hne⟩
                                        · rintro d5 d6 W ⟨hS, q5, e5, q6, e6, hne⟩
                                          refine step_op 5 (by kernel_rfl) rfl (fun K hK => ?_)
                                          rw [if_pos (by rfl)]
                                          go_simp
                                          refine (abH.out d hd W).mono ?_
                                          rintro e W' ⟨rfl, rfl⟩
                                          refine hK.out _ _ (fun h => hS) ?_
                                          clear hK K
                                          try simp only [Act.put, List.setIfInBounds_toArray, List.set_cons_zero, List.set_cons_succ]
                                          exact key2_5_14_15 d5 d6 W ⟨hS, q5, e5, q6, e6, hne⟩
                                      · rintro d5 d6 W hS
                                        refine fork3 (i := 12) (j := 14) (m := 15) (by kernel_rfl) ?_ ?_ ?_
                                        · refine step_at 12 rfl (fun K hK => ?_)
                                          rw [if_pos (by rfl)]
                                          go_simp
                                          refine (abH.out b hb W).mono ?_
                                          rintro e W' ⟨rfl, rfl⟩
                                          refine hK.out _ _ (fun h => hS) ?_
                                          clear hK K
                                          try simp only [Act.put, List.setIfInBounds_toArray, List.set_cons_zero, List.set_cons_succ]
                                          exact key2_5_6_9_12 d5 d6 W hS
                                        · refine step_at 14 rfl (fun K hK => ?_)
                                          rw [if_pos (by rfl)]
                                          go_simp
                                          have q5 := Blk.new W 75 #[.int .u64 0, .int .u64 0]
                                          have e5 : V2.heap.size ≤ W.heap.size := hS.size
                                          have hbU : Below W.heap.size W (W.alloc (.cells #[.int .u64 0, .int .u64 0] 75)) := jb_al (Below.refl _ W) _
                                          clear d5
                                          obtain ⟨d5, hd5⟩ : ∃ d, W.heap.size = d := ⟨_, rfl⟩
                                          obtain ⟨U, hU⟩ : ∃ U, W.alloc (.cells #[.int .u64 0, .int .u64 0] 75) = U := ⟨_, rfl⟩
                                          replace hS := hS.trans (hbU.mono hS.size)
                                          rw [hU] at q5 hS ⊢
                                          rw [hd5] at q5 e5 ⊢
                                          clear hU hbU hd5
                                          refine hK.out _ _ (fun h => hS) ?_
                                          clear hK K
                                          try simp only [Act.put, List.setIfInBounds_toArray, List.set_cons_zero, List.set_cons_succ]
                                          exact key2_5_6_9_14 d5 d6 U ⟨hS, q5, e5⟩
                                        · refine step_at 15 rfl (fun K hK => ?_)
                                          rw [if_pos (by rfl)]
                                          go_simp
                                          have q6 := Blk.new W 75 #[.int .u64 0, .int .u64 0]
                                          have e6 : V2.heap.size ≤ W.heap.size := hS.size
                                          have hbU : Below W.heap.size W (W.alloc (.cells #[.int .u64 0, .int .u64 0] 75)) := jb_al (Below.refl _ W) _
                                          clear d6
                                          obtain ⟨d6, hd6⟩ : ∃ d, W.heap.size = d := ⟨_, rfl⟩
                                          obtain ⟨U, hU⟩ : ∃ U, W.alloc (.cells #[.int .u64 0, .int .u64 0] 75) = U := ⟨_, rfl⟩
                                          replace hS := hS.trans (hbU.mono hS.size)
                                          rw [hU] at q6 hS ⊢
                                          rw [hd6] at q6 e6 ⊢
                                          clear hU hbU hd6
                                          refine hK.out _ _ (fun h => hS) ?_
                                          clear hK K
                                          try simp only [Act.put, List.setIfInBounds_toArray, List.set_cons_zero, List.set_cons_succ]
                                          exact key2_5_6_9_15 d5 d6 U ⟨hS, q6, e6⟩
                                    · rintro d5 d6 W ⟨hS, q5, e5⟩
                                      refine fork2 (i := 9) (j := 15) (by kernel_rfl) ?_ ?_
                                      · refine step_at 9 rfl (fun K hK => ?_)
                                        rw [if_pos (by rfl)]
                                        go_simp
                                        refine (abH.out c hc W).mono ?_
                                        rintro e W' ⟨rfl, rfl⟩
                                        refine hK.out _ _ (fun h => hS) ?_
                                        clear hK K
                                        try simp only [Act.put, List.setIfInBounds_toArray, List.set_cons_zero, List.set_cons_succ]
                                        exact key2_5_6_9_14 d5 d6 W ⟨hS, q5, e5⟩
                                      · refine step_at 15 rfl (fun K hK => ?_)
                                        rw [if_pos (by rfl)]
                                        go_simp
                                        have q6 := Blk.new W 75 #[.int .u64 0, .int .u64 0]
                                        have e6 : V2.heap.size ≤ W.heap.size := hS.size
                                        have hbU : Below W.heap.size W (W.alloc (.cells #[.int .u64 0, .int .u64 0] 75)) := jb_al (Below.refl _ W) _
                                        have hlq := q5.lt
                                        replace q5 := q5.below hbU q5.lt
                                        clear d6
                                        obtain ⟨d6, hd6⟩ : ∃ d, W.heap.size = d := ⟨_, rfl⟩
                                        obtain ⟨U, hU⟩ : ∃ U, W.alloc (.cells #[.int .u64 0, .int .u64 0] 75) = U := ⟨_, rfl⟩
                                        replace hS := hS.trans (hbU.mono hS.size)
                                        rw [hU] at q6 hS q5 ⊢
                                        rw [hd6] at q6 e6 hlq ⊢
                                        have hne : d5 ≠ d6 := by omega
                                        clear hU hbU hd6 hlq
                                        refine hK.out _ _ (fun h => hS) ?_
                                        clear hK K
                                        try simp only [Act.put, List.setIfInBounds_toArray, List.set_cons_zero, List.set_cons_succ]
                                        exact key2_5_6_14_15 d5 d6 U ⟨hS, q5, e5, q6, e6, hne⟩
                                  · rintro d5 d6 W ⟨hS, q6, e6⟩
                                    refine fork2 (i := 9) (j := 14) (by kernel_rfl) ?_ ?_
                                    · refine step_at 9 rfl (fun K hK => ?_)
                                      rw [if_pos (by rfl)]
                                      go_simp
                                      refine (abH.out c hc W).mono ?_
                                      rintro e W' ⟨rfl, rfl⟩
                                      refine hK.out _ _ (fun h => hS) ?_
                                      clear hK K
                                      try simp only [Act.put, List.setIfInBounds_toArray, List.set_cons_zero, List.set_cons_succ]
                                      exact key2_5_6_9_15 d5 d6 W ⟨hS, q6, e6⟩
                                    · refine step_at 14 rfl (fun K hK => ?_)
                                      rw [if_pos (by rfl)]
                                      go_simp
                                      have q5 := Blk.new W 75 #[.int .u64 0, .int .u64 0]
                                      have e5 : V2.heap.size ≤ W.heap.size := hS.size
                                      have hbU : Below W.heap.size W (W.alloc (.cells #[.int .u64 0, .int .u64 0] 75)) := jb_al (Below.refl _ W) _
                                      have hlq := q6.lt
                                      replace q6 := q6.below hbU q6.lt
                                      clear d5
                                      obtain ⟨d5, hd5⟩ : ∃ d, W.heap.size = d := ⟨_, rfl⟩
                                      obtain ⟨U, hU⟩ : ∃ U, W.alloc (.cells #[.int .u64 0, .int .u64 0] 75) = U := ⟨_, rfl⟩
                                      replace hS := hS.trans (hbU.mono hS.size)
                                      rw [hU] at q5 hS q6 ⊢
                                      rw [hd5] at q5 e5 hlq ⊢
                                      have hne : d5 ≠ d6 := by omega
                                      clear hU hbU hd5 hlq
                                      refine hK.out _ _ (fun h => hS) ?_
                                      clear hK K
                                      try simp only [Act.put, List.setIfInBounds_toArray, List.set_cons_zero, List.set_cons_succ]
                                      exact key2_5_6_14_15 d5 d6 U ⟨hS, q5, e5, q6, e6, hne⟩
                                · rintro d5 d6 W ⟨hS, q5, e5, q6, e6, hne⟩
                                  refine step_op 6 (by kernel_rfl) rfl (fun K hK => ?_)
                                  rw [if_pos (by rfl)]
                                  go_simp
                                  refine (hxH.out W).mono ?_
                                  rintro e U ⟨rfl, hbU⟩
                                  replace q5 := q5.below hbU q5.lt
                                  replace q6 := q6.below hbU q6.lt
                                  replace hS := hS.trans (hbU.mono hS.size)
                                  clear hbU
                                  refine hK.out _ _ (fun h => hS) ?_
                                  clear hK K
                                  try simp only [Act.put, List.setIfInBounds_toArray, List.set_cons_zero, List.set_cons_succ]
                                  exact key2_5_6_14_15 d5 d6 U ⟨hS, q5, e5, q6, e6, hne⟩
                              · rintro d5 d6 W hS
                                refine fork3 (i := 13) (j := 14) (m := 15) (by kernel_rfl) ?_ ?_ ?_
                                · refine step_at 13 rfl (fun K hK => ?_)
                                  rw [if_pos (by rfl)]
                                  go_simp
                                  refine (hyH.out W).mono ?_
                                  rintro e U ⟨rfl, hbU⟩
                                  replace hS := hS.trans (hbU.mono hS.size)
                                  clear hbU
                                  refine hK.out _ _ (fun h => hS) ?_
                                  clear hK K
                                  try simp only [Act.put, List.setIfInBounds_toArray, List.set_cons_zero, List.set_cons_succ]
                                  exact key2_5_6_9_12_13 d5 d6 U hS
                                · refine step_at 14 rfl (fun K hK => ?_)
                                  rw [if_pos (by rfl)]
                                  go_simp
                                  have q5 := Blk.new W 75 #[.int .u64 0, .int .u64 0]
                                  have e5 : V2.heap.size ≤ W.heap.size := hS.size
                                  have hbU : Below W.heap.size W (W.alloc (.cells #[.int .u64 0, .int .u64 0] 75)) := jb_al (Below.refl _ W) _
                                  clear d5
                                  obtain ⟨d5, hd5⟩ : ∃ d, W.heap.size = d := ⟨_, rfl⟩
                                  obtain ⟨U, hU⟩ : ∃ U, W.alloc (.cells #[.int .u64 0, .int .u64 0] 75) = U := ⟨_, rfl⟩
                                  replace hS := hS.trans (hbU.mono hS.size)
                                  rw [hU] at q5 hS ⊢
                                  rw [hd5] at q5 e5 ⊢
                                  clear hU hbU hd5
                                  refine hK.out _ _ (fun h => hS) ?_
                                  clear hK K
                                  try simp only [Act.put, List.setIfInBounds_toArray, List.set_cons_zero, List.set_cons_succ]
                                  exact key2_5_6_9_12_14 d5 d6 U ⟨hS, q5, e5⟩
                                · refine step_at 15 rfl (fun K hK => ?_)
                                  rw [if_pos (by rfl)]
                                  go_simp
                                  have q6 := Blk.new W 75 #[.int .u64 0, .int .u64 0]
                                  have e6 : V2.heap.size ≤ W.heap.size := hS.size
                                  have hbU : Below W.heap.size W (W.alloc (.cells #[.int .u64 0, .int .u64 0] 75)) := jb_al (Below.refl _ W) _
                                  clear d6
                                  obtain ⟨d6, hd6⟩ : ∃ d, W.heap.size = d := ⟨_, rfl⟩
                                  obtain ⟨U, hU⟩ : ∃ U, W.alloc (.cells #[.int .u64 0, .int .u64 0] 75) = U := ⟨_, rfl⟩
                                  replace hS := hS.trans (hbU.mono hS.size)
                                  rw [hU] at q6 hS ⊢
                                  rw [hd6] at q6 e6 ⊢
                                  clear hU hbU hd6
                                  refine hK.out _ _ (fun h => hS) ?_
                                  clear hK K
                                  try simp only [Act.put, List.setIfInBounds_toArray, List.set_cons_zero, List.set_cons_succ]
                                  exact key2_5_6_9_12_15 d5 d6 U ⟨hS, q6, e6⟩
                            · rintro d5 d6 W ⟨hS, q5, e5⟩
                              refine fork2 (i := 12) (j := 15) (by kernel_rfl) ?_ ?_
                              · refine step_at 12 rfl (fun K hK => ?_)
                                rw [if_pos (by rfl)]
                                go_simp
                                refine (abH.out b hb W).mono ?_
                                rintro e W' ⟨rfl, rfl⟩
                                refine hK.out _ _ (fun h => hS) ?_
                                clear hK K
                                try simp only [Act.put, List.setIfInBounds_toArray, List.set_cons_zero, List.set_cons_succ]
                                exact key2_5_6_9_12_14 d5 d6 W ⟨hS, q5, e5⟩
                              · refine step_at 15 rfl (fun K hK => ?_)
                                rw [if_pos (by rfl)]
                                go_simp
                                have q6 := Blk.new W 75 #[.int .u64 0, .int .u64 0]
                                have e6 : V2.heap.size ≤ W.heap.size := hS.size
                                have hbU : Below W.heap.size W (W.alloc (.cells #[.int .u64 0, .int .u64 0] 75)) := jb_al (Below.refl _ W) _
                                have hlq := q5.lt
                                replace q5 := q5.below hbU q5.lt
                                clear d6
                                obtain ⟨d6, hd6⟩ : ∃ d, W.heap.size = d := ⟨_, rfl⟩
                                obtain ⟨U, hU⟩ : ∃ U, W.alloc (.cells #[.int .u64 0, .int .u64 0] 75) = U := ⟨_, rfl⟩
                                replace hS := hS.trans (hbU.mono hS.size)
                                rw [hU] at q6 hS q5 ⊢
                                rw [hd6] at q6 e6 hlq ⊢
                                have hne : d5 ≠ d6 := by omega
                                clear hU hbU hd6 hlq
                                refine hK.out _ _ (fun h => hS) ?_
                                clear hK K
                                try simp only [Act.put, List.setIfInBounds_toArray, List.set_cons_zero, List.set_cons_succ]
                                exact key2_5_6_9_14_15 d5 d6 U ⟨hS, q5, e5, q6, e6, hne⟩
                          · rintro d5 d6 W ⟨hS, q6, e6⟩
                            refine fork2 (i := 12) (j := 14) (by kernel_rfl) ?_ ?_
                            · refine step_at 12 rfl (fun K hK => ?_)
                              rw [if_pos (by rfl)]
                              go_simp
                              refine (abH.out b hb W).mono ?_
                              rintro e W' ⟨rfl, rfl⟩
                              refine hK.out _ _ (fun h => hS) ?_
                              clear hK K
                              try simp only [Act.put, List.setIfInBounds_toArray, List.set_cons_zero, List.set_cons_succ]
                              exact key2_5_6_9_12_15 d5 d6 W ⟨hS, q6, e6⟩
                            · refine step_at 14 rfl (fun K hK => ?_)
                              rw [if_pos (by rfl)]
                              go_simp
                              have q5 := Blk.new W 75 #[.int .u64 0, .int .u64 0]
                              have e5 : V2.heap.size ≤ W.heap.size := hS.size
                              have hbU : Below W.heap.size W (W.alloc (.cells #[.int .u64 0, .int .u64 0] 75)) := jb_al (Below.refl _ W) _
                              have hlq := q6.lt
                              replace q6 := q6.below hbU q6.lt
                              clear d5
                              obtain ⟨d5, hd5⟩ : ∃ d, W.heap.size = d := ⟨_, rfl⟩
                              obtain ⟨U, hU⟩ : ∃ U, W.alloc (.cells #[.int .u64 0, .int .u64 0] 75) = U := ⟨_, rfl⟩
                              replace hS := hS.trans (hbU.mono hS.size)
                              rw [hU] at q5 hS q6 ⊢
                              rw [hd5] at q5 e5 hlq ⊢
                              have hne : d5 ≠ d6 := by omega
                              clear hU hbU hd5 hlq
                              refine hK.out _ _ (fun h => hS) ?_
                              clear hK K
                              try simp only [Act.put, List.setIfInBounds_toArray, List.set_cons_zero, List.set_cons_succ]
                              exact key2_5_6_9_14_15 d5 d6 U ⟨hS, q5, e5, q6, e6, hne⟩
                        · rintro d5 d6 W ⟨hS, q5, e5, q6, e6, hne⟩
                          refine step_op 9 (by kernel_rfl) rfl (fun K hK => ?_)
                          rw [if_pos (by rfl)]
                          go_simp
                          refine (abH.out c hc W).mono ?_
                          rintro e W' ⟨rfl, rfl⟩
                          refine hK.out _ _ (fun h => hS) ?_
                          clear hK K
                          try simp only [Act.put, List.setIfInBounds_toArray, List.set_cons_zero, List.set_cons_succ]
                          exact key2_5_6_9_14_15 d5 d6 W ⟨hS, q5, e5, q6, e6, hne⟩
                      · rintro d5 d6 W hS
                        refine fork2 (i := 14) (j := 15) (by kernel_rfl) ?_ ?_
                        · refine step_at 14 rfl (fun K hK => ?_)
                          rw [if_pos (by rfl)]
                          go_simp
                          have q5 := Blk.new W 75 #[.int .u64 0, .int .u64 0]
                          have e5 : V2.heap.size ≤ W.heap.size := hS.size
                          have hbU : Below W.heap.size W (W.alloc (.cells #[.int .u64 0, .int .u64 0] 75)) := jb_al (Below.refl _ W) _
                          clear d5
                          obtain ⟨d5, hd5⟩ : ∃ d, W.heap.size = d := ⟨_, rfl⟩
                          obtain ⟨U, hU⟩ : ∃ U, W.alloc (.cells #[.int .u64 0, .int .u64 0] 75) = U := ⟨_, rfl⟩
                          replace hS := hS.trans (hbU.mono hS.size)
                          rw [hU] at q5 hS ⊢
                          rw [hd5] at q5 e5 ⊢
                          clear hU hbU hd5
                          refine hK.out _ _ (fun h => hS) ?_
                          clear hK K
                          try simp only [Act.put, List.setIfInBounds_toArray, List.set_cons_zero, List.set_cons_succ]
                          exact key2_5_6_9_12_13_14 d5 d6 U ⟨hS, q5, e5⟩
                        · refine step_at 15 rfl (fun K hK => ?_)
                          rw [if_pos (by rfl)]
                          go_simp
                          have q6 := Blk.new W 75 #[.int .u64 0, .int .u64 0]
                          have e6 : V2.heap.size ≤ W.heap.size := hS.size
                          have hbU : Below W.heap.size W (W.alloc (.cells #[.int .u64 0, .int .u64 0] 75)) := jb_al (Below.refl _ W) _
                          clear d6
                          obtain ⟨d6, hd6⟩ : ∃ d, W.heap.size = d := ⟨_, rfl⟩
                          obtain ⟨U, hU⟩ : ∃ U, W.alloc (.cells #[.int .u64 0, .int .u64 0] 75) = U := ⟨_, rfl⟩
                          replace hS := hS.trans (hbU.mono hS.size)
                          rw [hU] at q6 hS ⊢
                          rw [hd6] at q6 e6 ⊢
                          clear hU hbU hd6
                          refine hK.out _ _ (fun h => hS) ?_
                          clear hK K
                          try simp only [Act.put, List.setIfInBounds_toArray, List.set_cons_zero, List.set_cons_succ]
                          exact key2_5_6_9_12_13_15 d5 d6 U ⟨hS, q6, e6⟩
                    · rintro d5 d6 W ⟨hS, q5, e5⟩
                      refine fork2 (i := 13) (j := 15) (by kernel_rfl) ?_ ?_
                      · refine step_at 13 rfl (fun K hK => ?_)
                        rw [if_pos (by rfl)]
                        go_simp
                        refine (hyH.out W).mono ?_
                        rintro e U ⟨rfl, hbU⟩
                        replace q5 := q5.below hbU q5.lt
                        replace hS := hS.trans (hbU.mono hS.size)
                        clear hbU
                        refine hK.out _ _ (fun h => hS) ?_
                        clear hK K
                        try simp only [Act.put, List.setIfInBounds_toArray, List.set_cons_zero, List.set_cons_succ]
                        exact key2_5_6_9_12_13_14 d5 d6 U ⟨hS, q5, e5⟩
                      · refine step_at 15 rfl (fun K hK => ?_)
                        rw [if_pos (by rfl)]
                        go_simp
                        have q6 := Blk.new W 75 #[.int .u64 0, .int .u64 0]
                        have e6 : V2.heap.size ≤ W.heap.size := hS.size
                        have hbU : Below W.heap.size W (W.alloc (.cells #[.int .u64 0, .int .u64 0] 75)) := jb_al (Below.refl _ W) _
                        have hlq := q5.lt
                        replace q5 := q5.below hbU q5.lt
                        clear d6
                        obtain ⟨d6, hd6⟩ : ∃ d, W.heap.size = d := ⟨_, rfl⟩
                        obtain ⟨U, hU⟩ : ∃ U, W.alloc (.cells #[.int .u64 0, .int .u64 0] 75) = U := ⟨_, rfl⟩
                        replace hS := hS.trans (hbU.mono hS.size)
                        rw [hU] at q6 hS q5 ⊢
                        rw [hd6] at q6 e6 hlq ⊢
                        have hne : d5 ≠ d6 := by omega
                        clear hU hbU hd6 hlq
                        refine hK.out _ _ (fun h => hS) ?_
                        clear hK K
                        try simp only [Act.put, List.setIfInBounds_toArray, List.set_cons_zero, List.set_cons_succ]
                        exact key2_5_6_9_12_14_15 d5 d6 U ⟨hS, q5, e5, q6, e6, hne⟩
                  · rintro d5 d6 W ⟨hS, q6, e6⟩
                    refine fork2 (i := 13) (j := 14) (by kernel_rfl) ?_ ?_
                    · refine step_at 13 rfl (fun K hK => ?_)
                      rw [if_pos (by rfl)]
                      go_simp
                      refine (hyH.out W).mono ?_
                      rintro e U ⟨rfl, hbU⟩
                      replace q6 := q6.below hbU q6.lt
                      replace hS := hS.trans (hbU.mono hS.size)
                      clear hbU
                      refine hK.out _ _ (fun h => hS) ?_
                      clear hK K
                      try simp only [Act.put, List.setIfInBounds_toArray, List.set_cons_zero, List.set_cons_succ]
                      exact key2_5_6_9_12_13_15 d5 d6 U ⟨hS, q6, e6⟩
                    · refine step_at 14 rfl (fun K hK => ?_)
                      rw [if_pos (by rfl)]
                      go_simp
                      have q5 := Blk.new W 75 #[.int .u64 0, .int .u64 0]
                      have e5 : V2.heap.size ≤ W.heap.size := hS.size
                      have hbU : Below W.heap.size W (W.alloc (.cells #[.int .u64 0, .int .u64 0] 75)) := jb_al (Below.refl _ W) _
                      have hlq := q6.lt
                      replace q6 := q6.below hbU q6.lt
                      clear d5
                      obtain ⟨d5, hd5⟩ : ∃ d, W.heap.size = d := ⟨_, rfl⟩
                      obtain ⟨U, hU⟩ : ∃ U, W.alloc (.cells #[.int .u64 0, .int .u64 0] 75) = U := ⟨_, rfl⟩
                      replace hS := hS.trans (hbU.mono hS.size)
                      rw [hU] at q5 hS q6 ⊢
                      rw [hd5] at q5 e5 hlq ⊢
                      have hne : d5 ≠ d6 := by omega
                      clear hU hbU hd5 hlq
                      refine hK.out _ _ (fun h => hS) ?_
                      clear hK K
                      try simp only [Act.put, List.setIfInBounds_toArray, List.set_cons_zero, List.set_cons_succ]
                      exact key2_5_6_9_12_14_15 d5 d6 U ⟨hS, q5, e5, q6, e6, hne⟩
                · rintro d5 d6 W ⟨hS, q5, e5, q6, e6, hne⟩
                  refine step_op 12 (by kernel_rfl) rfl (fun K hK => ?_)
                  rw [if_pos (by rfl)]
                  go_simp
                  refine (abH.out b hb W).mono ?_
                  rintro e W' ⟨rfl, rfl⟩
                  refine hK.out _ _ (fun h => hS) ?_
                  clear hK K
                  try simp only [Act.put, List.setIfInBounds_toArray, List.set_cons_zero, List.set_cons_succ]
                  exact key2_5_6_9_12_14_15 d5 d6 W ⟨hS, q5, e5, q6, e6, hne⟩
              · rintro d5 d6 W ⟨hS, q5, e5⟩
                refine step_op 15 (by kernel_rfl) rfl (fun K hK => ?_)
                rw [if_pos (by rfl)]
                go_simp
                have q6 := Blk.new W 75 #[.int .u64 0, .int .u64 0]
                have e6 : V2.heap.size ≤ W.heap.size := hS.size
                have hbU : Below W.heap.size W (W.alloc (.cells #[.int .u64 0, .int .u64 0] 75)) := jb_al (Below.refl _ W) _
                have hlq := q5.lt
                replace q5 := q5.below hbU q5.lt
                clear d6
                obtain ⟨d6, hd6⟩ : ∃ d, W.heap.size = d := ⟨_, rfl⟩
                obtain ⟨U, hU⟩ : ∃ U, W.alloc (.cells #[.int .u64 0, .int .u64 0] 75) = U := ⟨_, rfl⟩
                replace hS := hS.trans (hbU.mono hS.size)
                rw [hU] at q6 hS q5 ⊢
                rw [hd6] at q6 e6 hlq ⊢
                have hne : d5 ≠ d6 := by omega
                clear hU hbU hd6 hlq
                refine hK.out _ _ (fun h => hS) ?_
                clear hK K
                try simp only [Act.put, List.setIfInBounds_toArray, List.set_cons_zero, List.set_cons_succ]
                exact key2_5_6_9_12_13_14_15 d5 d6 U ⟨hS, q5, e5, q6, e6, hne⟩
            · rintro d5 d6 W ⟨hS, q6, e6⟩
              refine step_op 14 (by kernel_rfl) rfl (fun K hK => ?_)
              rw [if_pos (by rfl)]
              go_simp
              have q5 := Blk.new W 75 #[.int .u64 0, .int .u64 0]
              have e5 : V2.heap.size ≤ W.heap.size := hS.size
              have hbU : Below W.heap.size W (W.alloc (.cells #[.int .u64 0, .int .u64 0] 75)) := jb_al (Below.refl _ W) _
              have hlq := q6.lt
              replace q6 := q6.below hbU q6.lt
              clear d5
              obtain ⟨d5, hd5⟩ : ∃ d, W.heap.size = d := ⟨_, rfl⟩
              obtain ⟨U, hU⟩ : ∃ U, W.alloc (.cells #[.int .u64 0, .int .u64 0] 75) = U := ⟨_, rfl⟩
              replace hS := hS.trans (hbU.mono hS.size)
              rw [hU] at q5 hS q6 ⊢
              rw [hd5] at q5 e5 hlq ⊢
              have hne : d5 ≠ d6 := by omega
              clear hU hbU hd5 hlq
              refine hK.out _ _ (fun h => hS) ?_
              clear hK K
              try simp only [Act.put, List.setIfInBounds_toArray, List.set_cons_zero, List.set_cons_succ]
              exact key2_5_6_9_12_13_14_15 d5 d6 U ⟨hS, q5, e5, q6, e6, hne⟩
          · rintro d5 d6 W ⟨hS, q5, e5, q6, e6, hne⟩
            refine step_op 13 (by kernel_rfl) rfl (fun K hK => ?_)
            rw [if_pos (by rfl)]
            go_simp
            refine (hyH.out W).mono ?_
            rintro e U ⟨rfl, hbU⟩
            replace q5 := q5.below hbU q5.lt
            replace q6 := q6.below hbU q6.lt
            replace hS := hS.trans (hbU.mono hS.size)
            clear hbU
            refine hK.out _ _ (fun h => hS) ?_
            clear hK K
            try simp only [Act.put, List.setIfInBounds_toArray, List.set_cons_zero, List.set_cons_succ]
            exact key2_5_6_9_12_13_14_15 d5 d6 U ⟨hS, q5, e5, q6, e6, hne⟩
        · rintro d5 d6 W ⟨hS, q5, e5, q6, e6, hne⟩
          refine step_op 16 (by kernel_rfl) rfl (fun K hK => ?_)
          have z0 := q5.cell (i := 0) rfl
          have z1 := q5.cell (i := 1) rfl
          have y0 := q5.frozen 0
          have y1 := q5.frozen 1
          rw [if_pos (by rfl)]
          go_simp
          clear z0 z1 y0 y1
          have hg := put2_grow W d5 (.int .u64 (xh : Int)) (.int .u64 (xl : Int))
          have qn := put2_blk q5 (.int .u64 (xh : Int)) (.int .u64 (xl : Int))
          replace hS := hS.trans (put2_below (n := V2.heap.size) e5 (.int .u64 (xh : Int)) (.int .u64 (xl : Int)))
          replace q6 := q6.kept hg (by simp <;> omega)
          obtain ⟨U, hU⟩ : ∃ U, put2 W d5 (.int .u64 (xh : Int)) (.int .u64 (xl : Int)) = U := ⟨_, rfl⟩
          have hU' : (W.setCell ⟨d5, 0, none⟩ (.int .u64 (xh : Int))).setCell ⟨d5, 1, none⟩ (.int .u64 (xl : Int)) = U := hU
          rw [hU] at hg qn hS q6
          rw [hU']
          replace q5 := qn
          clear hU hU' hg qn
          refine hK.out _ _ (fun h => hS) ?_
          clear hK K
          try simp only [Act.put, List.setIfInBounds_toArray, List.set_cons_zero, List.set_cons_succ]
          exact key2_5_6_9_12_13_14_15_16 d5 d6 U ⟨hS, q5, e5, q6, e6, hne⟩
      · rintro d5 d6 W ⟨hS, q5, e5, q6, e6, hne⟩
        refine step_op 17 (by kernel_rfl) rfl (fun K hK => ?_)
        have z0 := q6.cell (i := 0) rfl
        have z1 := q6.cell (i := 1) rfl
        have y0 := q6.frozen 0
        have y1 := q6.frozen 1
        rw [if_pos (by rfl)]
        go_simp
        clear z0 z1 y0 y1
        have hg := put2_grow W d6 (.int .u64 (yh : Int)) (.int .u64 (yl : Int))
        have qn := put2_blk q6 (.int .u64 (yh : Int)) (.int .u64 (yl : Int))
        replace hS := hS.trans (put2_below (n := V2.heap.size) e6 (.int .u64 (yh : Int)) (.int .u64 (yl : Int)))
        replace q5 := q5.kept hg (by simp <;> omega)
        obtain ⟨U, hU⟩ : ∃ U, put2 W d6 (.int .u64 (yh : Int)) (.int .u64 (yl : Int)) = U := ⟨_, rfl⟩
        have hU' : (W.setCell ⟨d6, 0, none⟩ (.int .u64 (yh : Int))).setCell ⟨d6, 1, none⟩ (.int .u64 (yl : Int)) = U := hU
        rw [hU] at hg qn hS q5
        rw [hU']
        replace q6 := qn
        clear hU hU' hg qn
        refine hK.out _ _ (fun h => hS) ?_
        clear hK K
        try simp only [Act.put, List.setIfInBounds_toArray, List.set_cons_zero, List.set_cons_succ]
        exact key2_5_6_9_12_13_14_15_16_17 d5 d6 U ⟨hS, q5, e5, q6, e6, hne⟩
    · rintro d5 d6 W ⟨hS, q5, e5, q6, e6, hne⟩
      refine done_ops (by kernel_rfl) ?_
      go_wp2_with fail
      go_meet
      exact ⟨d5, d6, rfl, rfl, q5, q6, hS⟩
  case rest =>
  obtain ⟨b5, b6, rfl, rfl, k5, k6, hb⟩ := hcut
  clear m0 m1 u0 u1
  replace k2 := k2.below hb k2.lt
  replace k3 := k3.below hb k3.lt
  replace hB := hB.trans (hb.mono hB.size)
  clear hb
  have m0 := k2.cell (i := 0) rfl
  have m1 := k2.cell (i := 1) rfl
  have u0 := k3.cell (i := 0) rfl
  have u1 := k3.cell (i := 1) rfl
  have v0 := k5.cell (i := 0) rfl
  have v1 := k5.cell (i := 1) rfl
  have z0 := k6.cell (i := 0) rfl
  have z1 := k6.cell (i := 1) rfl
  by_cases he : a = c ∧ b = d
  case pos =>
    rw [if_pos he] at hr
    subst hr
    obtain ⟨rfl, rfl⟩ := he
    go_wp2_with fail
    go_ret
    exact ⟨rfl, hB⟩
  case neg =>
    rw [if_neg he] at hr
    by_cases e1 : a = c
    case pos =>
      subst e1
      have e2 : ¬ (b : Int) = (d : Int) := fun h => he ⟨rfl, by omega⟩
      have e3 : ((b : Int) == (d : Int)) = false := beq_eq_false_iff_ne.2 e2
      have a0 : decide ((a : Int) < 0) = false := decide_eq_false (by omega)
      have a0n : ¬ (a : Int) < 0 := by omega
      have c0 : decide ((0 : Int) < (a : Int)) = true := decide_eq_true (by omega)
      have c0n : (0 : Int) < (a : Int) := by omega
      by_cases ha0 : a = 0
      case pos =>
        omega
      case neg =>
      rw [if_neg ha0] at hr
      have a1 : decide ((a : Int) ≤ 0) = false := decide_eq_false (by omega)
      have a1n : ¬ (a : Int) ≤ 0 := by omega
      have a2 : decide ((0 : Int) < (a : Int)) = true := decide_eq_true (by omega)
      have a2n : (0 : Int) < (a : Int) := by omega
      by_cases hxy : x < y
      case pos =>
        rw [if_pos hxy] at hr
        subst hr
        go_wp2_with fail
        have hc := less_any xh xl yh yl wc
        rw [show decide (xh < yh ∨ xh = yh ∧ xl < yl) = true by rw [decide_eq_true_iff, hwH.out]; exact hxy] at hc
        refine hc.mono ?_
        clear hc
        rintro e V3 ⟨rfl, hb⟩
        clear m0 m1 u0 u1 v0 v1 z0 z1
        replace k2 := k2.below hb k2.lt
        replace k3 := k3.below hb k3.lt
        replace k5 := k5.below hb k5.lt
        replace k6 := k6.below hb k6.lt
        replace hB := hB.trans (hb.mono hB.size)
        clear hb
        have m0 := k2.cell (i := 0) rfl
        have m1 := k2.cell (i := 1) rfl
        have u0 := k3.cell (i := 0) rfl
        have u1 := k3.cell (i := 1) rfl
        have v0 := k5.cell (i := 0) rfl
        have v1 := k5.cell (i := 1) rfl
        have z0 := k6.cell (i := 0) rfl
        have z1 := k6.cell (i := 1) rfl
        go_wp2_with fail
        go_ret
        exact ⟨rfl, hB⟩
      case neg =>
        rw [if_neg hxy] at hr
        subst hr
        go_wp2_with fail
        have hc := less_any xh xl yh yl wc
        rw [show decide (xh < yh ∨ xh = yh ∧ xl < yl) = false by rw [decide_eq_false_iff_not, hwH.out]; exact hxy] at hc
        refine hc.mono ?_
        clear hc
        rintro e V3 ⟨rfl, hb⟩
        clear m0 m1 u0 u1 v0 v1 z0 z1
        replace k2 := k2.below hb k2.lt
        replace k3 := k3.below hb k3.lt
        replace k5 := k5.below hb k5.lt
        replace k6 := k6.below hb k6.lt
        replace hB := hB.trans (hb.mono hB.size)
        clear hb
        have m0 := k2.cell (i := 0) rfl
        have m1 := k2.cell (i := 1) rfl
        have u0 := k3.cell (i := 0) rfl
        have u1 := k3.cell (i := 1) rfl
        have v0 := k5.cell (i := 0) rfl
        have v1 := k5.cell (i := 1) rfl
        have z0 := k6.cell (i := 0) rfl
        have z1 := k6.cell (i := 1) rfl
        go_wp2_with fail
        go_ret
        exact ⟨rfl, hB⟩
    case neg =>
      have e2 : ¬ (a : Int) = (c : Int) := by omega
      have e3 : ((a : Int) == (c : Int)) = false := beq_eq_false_iff_ne.2 e2
      have a0 : decide ((a : Int) < 0) = false := decide_eq_false (by omega)
      have a0n : ¬ (a : Int) < 0 := by omega
      have c0 : decide ((0 : Int) < (c : Int)) = true := decide_eq_true (by omega)
      have c0n : (0 : Int) < (c : Int) := by omega
      by_cases ha0 : a = 0
      case pos =>
        rw [if_pos ha0] at hr
        subst hr
        subst ha0
        go_wp2_with fail
        go_ret
        exact ⟨rfl, hB⟩
      case neg =>
      rw [if_neg ha0] at hr
      have a1 : decide ((a : Int) ≤ 0) = false := decide_eq_false (by omega)
      have a1n : ¬ (a : Int) ≤ 0 := by omega
      have a2 : decide ((0 : Int) < (a : Int)) = true := decide_eq_true (by omega)
      have a2n : (0 : Int) < (a : Int) := by omega
      by_cases hxy : x < y
      case pos =>
        rw [if_pos hxy] at hr
        subst hr
        go_wp2_with fail
        have hc := less_any xh xl yh yl wc
        rw [show decide (xh < yh ∨ xh = yh ∧ xl < yl) = true by rw [decide_eq_true_iff, hwH.out]; exact hxy] at hc
        refine hc.mono ?_
        clear hc
        rintro e V3 ⟨rfl, hb⟩
        clear m0 m1 u0 u1 v0 v1 z0 z1
        replace k2 := k2.below hb k2.lt
        replace k3 := k3.below hb k3.lt
        replace k5 := k5.below hb k5.lt
        replace k6 := k6.below hb k6.lt
        replace hB := hB.trans (hb.mono hB.size)
        clear hb
        have m0 := k2.cell (i := 0) rfl
        have m1 := k2.cell (i := 1) rfl
        have u0 := k3.cell (i := 0) rfl
        have u1 := k3.cell (i := 1) rfl
        have v0 := k5.cell (i := 0) rfl
        have v1 := k5.cell (i := 1) rfl
        have z0 := k6.cell (i := 0) rfl
        have z1 := k6.cell (i := 1) rfl
        go_wp2_with fail
        go_ret
        exact ⟨rfl, hB⟩
      case neg =>
        rw [if_neg hxy] at hr
        subst hr
        go_wp2_with fail
        have hc := less_any xh xl yh yl wc
        rw [show decide (xh < yh ∨ xh = yh ∧ xl < yl) = false by rw [decide_eq_false_iff_not, hwH.out]; exact hxy] at hc
        refine hc.mono ?_
        clear hc
        rintro e V3 ⟨rfl, hb⟩
        clear m0 m1 u0 u1 v0 v1 z0 z1
        replace k2 := k2.below hb k2.lt
        replace k3 := k3.below hb k3.lt
        replace k5 := k5.below hb k5.lt
        replace k6 := k6.below hb k6.lt
        replace hB := hB.trans (hb.mono hB.size)
        clear hb
        have m0 := k2.cell (i := 0) rfl
        have m1 := k2.cell (i := 1) rfl
        have u0 := k3.cell (i := 0) rfl
        have u1 := k3.cell (i := 1) rfl
        have v0 := k5.cell (i := 0) rfl
        have v1 := k5.cell (i := 1) rfl
        have z0 := k6.cell (i := 0) rfl
        have z1 := k6.cell (i := 1) rfl
        go_wp2_with fail
        go_ret
        exact ⟨rfl, hB⟩
set_option maxRecDepth 100000 in
set_option maxHeartbeats 8000000 in
theorem evalid2_any (a b c d : Nat) (ha : a ≤ 4611686018427387903) (hb : b ≤ 4611686018427387903) (hc : c ≤ 4611686018427387903) (hd : d ≤ 4611686018427387903) (hb1 : 1 ≤ b) (hd1 : 1 ≤ d) (h1 : Nat.gcd a b = 1) (h2 : Nat.gcd c d = 1) (B cc : Nat) (w : World)
    (kf : Blk w B 23 #[.int .i64 (a : Int), .int .i64 (b : Int), .int .i64 (c : Int), .int .i64 (d : Int)]) :
    Calls Tryz.prog 29 #[.slice (some ⟨B, 0, none⟩) 2 cc] w fun e w' => e = .returned (.bool true) ∧ Below w.heap.size w w' := by
  have hwf : ∀ z : Nat, z ≤ 4611686018427387903 → (Lit.int .i64 (z : Int)).wf = true := fun z hz => by simp [Lit.wf, IntKind.min, IntKind.max, IntKind.signed, IntKind.bits]; omega
  have hlt := kf.lt
  go_enter Tryz.func29, Tryz.ntmps29
  go_wp2_with fail
  go_loopw [7] (fun i wr => ∃ k : Nat, k ≤ 2 ∧ i = .int .i64 (k : Int) ∧ Below w.heap.size w wr) (fun i _ => 2 - (intOf i).toNat)
  case atStart => exact ⟨0, by omega, rfl, Below.refl _ _⟩
  case round =>
    obtain ⟨k, hk, rfl, hB⟩ := hrel
    rcases (show k = 0 ∨ k = 1 ∨ k = 2 by omega) with rfl | rfl | rfl
    · have kr := kf.below hB hlt
      have c0 := kr.cell (i := 0) rfl
      have c1 := kr.cell (i := 1) rfl
      have hB2 := jwd_al hB (.cells #[.int .i64 (a : Int), .int .i64 (b : Int)] 23)
      have k4 := Blk.new wr 23 #[.int .i64 (a : Int), .int .i64 (b : Int)]
      obtain ⟨V, hV⟩ : ∃ V, wr.alloc (.cells #[.int .i64 (a : Int), .int .i64 (b : Int)] 23) = V := ⟨_, rfl⟩
      have hlV : wr.heap.size < V.heap.size := by have := k4.lt; rw [hV] at this; exact this
      rw [hV] at hB2 k4
      have hVH := Lib.hid hV
      have hS := (Below.refl V.heap.size V).drew
      clear kr hB hV
      have c1' := fun (W : World) => eabs_any (a : Int) (hwf a ha) W
      have c2' := fun (W : World) => eabs_any (b : Int) (hwf b hb) W
      have c3' := fun (W : World) => gcd_any a b (by rw [lt_two63]; omega) (by rw [lt_two63]; omega) W
      simp only [Int.natAbs_natCast] at c1' c2'
      rw [h1] at c3'
      have c1H := Lib.hid c1'
      have c2H := Lib.hid c2'
      have c3H := Lib.hid c3'
      have hB2H := Lib.hid hB2
      have d1 : decide ((b : Int) < 1) = false := decide_eq_false (by omega)
      have d2 : decide ((4611686018427387903 : Int) < (b : Int)) = false := decide_eq_false (by omega)
      have d3 : decide ((a : Int) < -4611686018427387903) = false := decide_eq_false (by omega)
      have d4 : decide ((4611686018427387903 : Int) < (a : Int)) = false := decide_eq_false (by omega)
      clear c1' c2' c3' hB2
      go_wp2_with fail
      rw [hVH.out]
      refine plain_region (fun W' => Below V.heap.size V W') 28 28 (by kernel_rfl) rfl ?_
      simp only [Array.replicate_succ, Array.replicate_zero, List.push_toArray, List.nil_append, List.cons_append]
      refine take_op 0 (v := ?q0v0) rfl (by kernel_rfl) (fun _ _ _ h => h) (by rfl) hS (fun w' hS' => ?q0y0) ?q0z0
      case q0y0 =>
        go_simp
        rfl
      simp only [List.setIfInBounds_toArray, List.set_cons_zero, List.set_cons_succ]
      refine take_op 1 (v := ?q0v1) rfl (by kernel_rfl) (fun _ _ _ h => h) (by rfl) hS (fun w' hS' => ?q0y1) ?q0z1
      case q0y1 =>
        have z0 := (k4.below hS' hlV).cell (i := 0) rfl
        have z1 := (k4.below hS' hlV).cell (i := 1) rfl
        clear hS'
        go_simp
        rfl
      simp only [List.setIfInBounds_toArray, List.set_cons_zero, List.set_cons_succ]
      refine take_op 2 (v := .bool false) rfl (by kernel_rfl) (fun _ _ _ h => h) (by rfl) hS (fun w' hS' => ?q0y2) ?q0z2
      case q0y2 =>
        clear hS'
        go_simp
        first | done | (simp; done) | (simp; omega)
      simp only [List.setIfInBounds_toArray, List.set_cons_zero, List.set_cons_succ]
      refine take_op 3 (v := ?q0v3) rfl (by kernel_rfl) (fun _ _ _ h => h) (by rfl) hS (fun w' hS' => ?q0y3) ?q0z3
      case q0y3 =>
        go_simp
        rfl
      simp only [List.setIfInBounds_toArray, List.set_cons_zero, List.set_cons_succ]
      refine take_op 4 (v := ?q0v4) rfl (by kernel_rfl) (fun _ _ _ h => h) (by rfl) hS (fun w' hS' => ?q0y4) ?q0z4
      case q0y4 =>
        go_simp
        rfl
      simp only [List.setIfInBounds_toArray, List.set_cons_zero, List.set_cons_succ]
      refine take_op 5 (v := ?q0v5) rfl (by kernel_rfl) (fun _ _ _ h => h) (by rfl) hS (fun w' hS' => ?q0y5) ?q0z5
      case q0y5 =>
        have z0 := (k4.below hS' hlV).cell (i := 0) rfl
        have z1 := (k4.below hS' hlV).cell (i := 1) rfl
        clear hS'
        go_simp
        rfl
      simp only [List.setIfInBounds_toArray, List.set_cons_zero, List.set_cons_succ]
      refine take_op 6 (v := .bool false) rfl (by kernel_rfl) (fun _ _ _ h => h) (by rfl) hS (fun w' hS' => ?q0y6) ?q0z6
      case q0y6 =>
        clear hS'
        go_simp
        first | done | (simp; done) | (simp; omega)
      simp only [List.setIfInBounds_toArray, List.set_cons_zero, List.set_cons_succ]
      refine take_op 7 (v := ?q0v7) rfl (by kernel_rfl) (fun _ _ _ h => h) (by rfl) hS (fun w' hS' => ?q0y7) ?q0z7
      case q0y7 =>
        go_simp
        rfl
      simp only [List.setIfInBounds_toArray, List.set_cons_zero, List.set_cons_succ]
      refine take_op 8 (v := ?q0v8) rfl (by kernel_rfl) (fun _ _ _ h => h) (by rfl) hS (fun w' hS' => ?q0y8) ?q0z8
      case q0y8 =>
        go_simp
        rfl
      simp only [List.setIfInBounds_toArray, List.set_cons_zero, List.set_cons_succ]
      refine take_op 9 (v := ?q0v9) rfl (by kernel_rfl) (fun _ _ _ h => h) (by rfl) hS (fun w' hS' => ?q0y9) ?q0z9
      case q0y9 =>
        go_simp
        rfl
      simp only [List.setIfInBounds_toArray, List.set_cons_zero, List.set_cons_succ]
      refine take_op 10 (v := ?q0v10) rfl (by kernel_rfl) (fun _ _ _ h => h) (by rfl) hS (fun w' hS' => ?q0y10) ?q0z10
      case q0y10 =>
        have z0 := (k4.below hS' hlV).cell (i := 0) rfl
        have z1 := (k4.below hS' hlV).cell (i := 1) rfl
        clear hS'
        go_simp
        rfl
      simp only [List.setIfInBounds_toArray, List.set_cons_zero, List.set_cons_succ]
      refine take_op 11 (v := .bool false) rfl (by kernel_rfl) (fun _ _ _ h => h) (by rfl) hS (fun w' hS' => ?q0y11) ?q0z11
      case q0y11 =>
        clear hS'
        go_simp
        first | done | (simp; done) | (simp; omega)
      simp only [List.setIfInBounds_toArray, List.set_cons_zero, List.set_cons_succ]
      refine take_op 12 (v := ?q0v12) rfl (by kernel_rfl) (fun _ _ _ h => h) (by rfl) hS (fun w' hS' => ?q0y12) ?q0z12
      case q0y12 =>
        go_simp
        rfl
      simp only [List.setIfInBounds_toArray, List.set_cons_zero, List.set_cons_succ]
      refine take_op 13 (v := ?q0v13) rfl (by kernel_rfl) (fun _ _ _ h => h) (by rfl) hS (fun w' hS' => ?q0y13) ?q0z13
      case q0y13 =>
        go_simp
        rfl
      simp only [List.setIfInBounds_toArray, List.set_cons_zero, List.set_cons_succ]
      refine take_op 14 (v := ?q0v14) rfl (by kernel_rfl) (fun _ _ _ h => h) (by rfl) hS (fun w' hS' => ?q0y14) ?q0z14
      case q0y14 =>
        go_simp
        rfl
      simp only [List.setIfInBounds_toArray, List.set_cons_zero, List.set_cons_succ]
      refine take_op 15 (v := ?q0v15) rfl (by kernel_rfl) (fun _ _ _ h => h) (by rfl) hS (fun w' hS' => ?q0y15) ?q0z15
      case q0y15 =>
        have z0 := (k4.below hS' hlV).cell (i := 0) rfl
        have z1 := (k4.below hS' hlV).cell (i := 1) rfl
        clear hS'
        go_simp
        rfl
      simp only [List.setIfInBounds_toArray, List.set_cons_zero, List.set_cons_succ]
      refine take_op 16 (v := .bool false) rfl (by kernel_rfl) (fun _ _ _ h => h) (by rfl) hS (fun w' hS' => ?q0y16) ?q0z16
      case q0y16 =>
        clear hS'
        go_simp
        first | done | (simp; done) | (simp; omega)
      simp only [List.setIfInBounds_toArray, List.set_cons_zero, List.set_cons_succ]
      refine take_op 17 (v := ?q0v17) rfl (by kernel_rfl) (fun _ _ _ h => h) (by rfl) hS (fun w' hS' => ?q0y17) ?q0z17
      case q0y17 =>
        go_simp
        rfl
      simp only [List.setIfInBounds_toArray, List.set_cons_zero, List.set_cons_succ]
      refine take_op 18 (v := ?q0v18) rfl (by kernel_rfl) (fun _ _ _ h => h) (by rfl) hS (fun w' hS' => ?q0y18) ?q0z18
      case q0y18 =>
        go_simp
        rfl
      simp only [List.setIfInBounds_toArray, List.set_cons_zero, List.set_cons_succ]
      refine take_op 19 (v := ?q0v19) rfl (by kernel_rfl) (fun _ _ _ h => h) (by rfl) hS (fun w' hS' => ?q0y19) ?q0z19
      case q0y19 =>
        go_simp
        rfl
      simp only [List.setIfInBounds_toArray, List.set_cons_zero, List.set_cons_succ]
      refine take_op 20 (v := ?q0v20) rfl (by kernel_rfl) (fun _ _ _ h => h) (by rfl) hS (fun w' hS' => ?q0y20) ?q0z20
      case q0y20 =>
        have z0 := (k4.below hS' hlV).cell (i := 0) rfl
        have z1 := (k4.below hS' hlV).cell (i := 1) rfl
        clear hS'
        go_simp
        rfl
      simp only [List.setIfInBounds_toArray, List.set_cons_zero, List.set_cons_succ]
      refine take_op 22 (v := ?q0v22) rfl (by kernel_rfl) (fun _ _ _ h => h) (by rfl) hS (fun w' hS' => ?q0y22) ?q0z22
      case q0y22 =>
        go_simp
        rfl
      simp only [List.setIfInBounds_toArray, List.set_cons_zero, List.set_cons_succ]
      refine take_op 23 (v := ?q0v23) rfl (by kernel_rfl) (fun _ _ _ h => h) (by rfl) hS (fun w' hS' => ?q0y23) ?q0z23
      case q0y23 =>
        have z0 := (k4.below hS' hlV).cell (i := 0) rfl
        have z1 := (k4.below hS' hlV).cell (i := 1) rfl
        clear hS'
        go_simp
        rfl
      simp only [List.setIfInBounds_toArray, List.set_cons_zero, List.set_cons_succ]
      refine step_op 21 (by kernel_rfl) rfl (fun K hK => ?_)
      rw [if_pos (by rfl)]
      go_simp
      refine (c1H.out _).mono ?_
      rintro e W2 ⟨rfl, rfl⟩
      refine hK.out _ _ (fun h => hS) ?_
      clear hK K
      try simp only [Act.put, List.setIfInBounds_toArray, List.set_cons_zero, List.set_cons_succ]
      refine step_op 24 (by kernel_rfl) rfl (fun K hK => ?_)
      rw [if_pos (by rfl)]
      go_simp
      refine (c2H.out _).mono ?_
      rintro e W3 ⟨rfl, rfl⟩
      refine hK.out _ _ (fun h => hS) ?_
      clear hK K
      try simp only [Act.put, List.setIfInBounds_toArray, List.set_cons_zero, List.set_cons_succ]
      refine step_op 25 (by kernel_rfl) rfl (fun K hK => ?_)
      rw [if_pos (by rfl)]
      go_simp
      refine (c3H.out _).mono ?_
      rintro e W4 ⟨rfl, hb4⟩
      have hS4 := hS.trans (hb4.mono hS.size)
      refine hK.out _ _ (fun h => hS4) ?_
      clear hK K
      try simp only [Act.put, List.setIfInBounds_toArray, List.set_cons_zero, List.set_cons_succ]
      refine take_op 26 (v := .bool false) rfl (by kernel_rfl) (fun _ _ _ h => h) (by rfl) hS4 (fun w' hS' => ?q0y26) ?q0z26
      case q0y26 =>
        clear hS'
        go_simp
        first | done | rfl | (simp; done)
      simp only [List.setIfInBounds_toArray, List.set_cons_zero, List.set_cons_succ]
      refine take_op 27 (v := ?q0v27) rfl (by kernel_rfl) (fun _ _ _ h => h) (by rfl) hS4 (fun w' hS' => ?q0y27) ?q0z27
      case q0y27 =>
        go_simp
        rfl
      simp only [List.setIfInBounds_toArray, List.set_cons_zero, List.set_cons_succ]
      refine done_ops (by kernel_rfl) ?_
      go_wp2_with fail
      go_roundw
      case rel => exact ⟨1, by omega, rfl, hB2H.out.trans (hS4.mono hB2H.out.size)⟩
      case measure => simp [intOf]
    · have kr := kf.below hB hlt
      have c0 := kr.cell (i := 2) rfl
      have c1 := kr.cell (i := 3) rfl
      have hB2 := jwd_al hB (.cells #[.int .i64 (c : Int), .int .i64 (d : Int)] 23)
      have k4 := Blk.new wr 23 #[.int .i64 (c : Int), .int .i64 (d : Int)]
      obtain ⟨V, hV⟩ : ∃ V, wr.alloc (.cells #[.int .i64 (c : Int), .int .i64 (d : Int)] 23) = V := ⟨_, rfl⟩
      have hlV : wr.heap.size < V.heap.size := by have := k4.lt; rw [hV] at this; exact this
      rw [hV] at hB2 k4
      have hVH := Lib.hid hV
      have hS := (Below.refl V.heap.size V).drew
      clear kr hB hV
      have c1' := fun (W : World) => eabs_any (c : Int) (hwf c hc) W
      have c2' := fun (W : World) => eabs_any (d : Int) (hwf d hd) W
      have c3' := fun (W : World) => gcd_any c d (by rw [lt_two63]; omega) (by rw [lt_two63]; omega) W
      simp only [Int.natAbs_natCast] at c1' c2'
      rw [h2] at c3'
      have c1H := Lib.hid c1'
      have c2H := Lib.hid c2'
      have c3H := Lib.hid c3'
      have hB2H := Lib.hid hB2
      have d1 : decide ((d : Int) < 1) = false := decide_eq_false (by omega)
      have d2 : decide ((4611686018427387903 : Int) < (d : Int)) = false := decide_eq_false (by omega)
      have d3 : decide ((c : Int) < -4611686018427387903) = false := decide_eq_false (by omega)
      have d4 : decide ((4611686018427387903 : Int) < (c : Int)) = false := decide_eq_false (by omega)
      clear c1' c2' c3' hB2
      go_wp2_with fail
      rw [hVH.out]
      refine plain_region (fun W' => Below V.heap.size V W') 28 28 (by kernel_rfl) rfl ?_
      simp only [Array.replicate_succ, Array.replicate_zero, List.push_toArray, List.nil_append, List.cons_append]
      refine take_op 0 (v := ?q1v0) rfl (by kernel_rfl) (fun _ _ _ h => h) (by rfl) hS (fun w' hS' => ?q1y0) ?q1z0
      case q1y0 =>
        go_simp
        rfl
      simp only [List.setIfInBounds_toArray, List.set_cons_zero, List.set_cons_succ]
      refine take_op 1 (v := ?q1v1) rfl (by kernel_rfl) (fun _ _ _ h => h) (by rfl) hS (fun w' hS' => ?q1y1) ?q1z1
      case q1y1 =>
        have z0 := (k4.below hS' hlV).cell (i := 0) rfl
        have z1 := (k4.below hS' hlV).cell (i := 1) rfl
        clear hS'
        go_simp
        rfl
      simp only [List.setIfInBounds_toArray, List.set_cons_zero, List.set_cons_succ]
      refine take_op 2 (v := .bool false) rfl (by kernel_rfl) (fun _ _ _ h => h) (by rfl) hS (fun w' hS' => ?q1y2) ?q1z2
      case q1y2 =>
        clear hS'
        go_simp
        first | done | (simp; done) | (simp; omega)
      simp only [List.setIfInBounds_toArray, List.set_cons_zero, List.set_cons_succ]
      refine take_op 3 (v := ?q1v3) rfl (by kernel_rfl) (fun _ _ _ h => h) (by rfl) hS (fun w' hS' => ?q1y3) ?q1z3
      case q1y3 =>
        go_simp
        rfl
      simp only [List.setIfInBounds_toArray, List.set_cons_zero, List.set_cons_succ]
      refine take_op 4 (v := ?q1v4) rfl (by kernel_rfl) (fun _ _ _ h => h) (by rfl) hS (fun w' hS' => ?q1y4) ?q1z4
      case q1y4 =>
        go_simp
        rfl
      simp only [List.setIfInBounds_toArray, List.set_cons_zero, List.set_cons_succ]
      refine take_op 5 (v := ?q1v5) rfl (by kernel_rfl) (fun _ _ _ h => h) (by rfl) hS (fun w' hS' => ?q1y5) ?q1z5
      case q1y5 =>
        have z0 := (k4.below hS' hlV).cell (i := 0) rfl
        have z1 := (k4.below hS' hlV).cell (i := 1) rfl
        clear hS'
        go_simp
        rfl
      simp only [List.setIfInBounds_toArray, List.set_cons_zero, List.set_cons_succ]
      refine take_op 6 (v := .bool false) rfl (by kernel_rfl) (fun _ _ _ h => h) (by rfl) hS (fun w' hS' => ?q1y6) ?q1z6
      case q1y6 =>
        clear hS'
        go_simp
        first | done | (simp; done) | (simp; omega)
      simp only [List.setIfInBounds_toArray, List.set_cons_zero, List.set_cons_succ]
      refine take_op 7 (v := ?q1v7) rfl (by kernel_rfl) (fun _ _ _ h => h) (by rfl) hS (fun w' hS' => ?q1y7) ?q1z7
      case q1y7 =>
        go_simp
        rfl
      simp only [List.setIfInBounds_toArray, List.set_cons_zero, List.set_cons_succ]
      refine take_op 8 (v := ?q1v8) rfl (by kernel_rfl) (fun _ _ _ h => h) (by rfl) hS (fun w' hS' => ?q1y8) ?q1z8
      case q1y8 =>
        go_simp
        rfl
      simp only [List.setIfInBounds_toArray, List.set_cons_zero, List.set_cons_succ]
      refine take_op 9 (v := ?q1v9) rfl (by kernel_rfl) (fun _ _ _ h => h) (by rfl) hS (fun w' hS' => ?q1y9) ?q1z9
      case q1y9 =>
        go_simp
        rfl
      simp only [List.setIfInBounds_toArray, List.set_cons_zero, List.set_cons_succ]
      refine take_op 10 (v := ?q1v10) rfl (by kernel_rfl) (fun _ _ _ h => h) (by rfl) hS (fun w' hS' => ?q1y10) ?q1z10
      case q1y10 =>
        have z0 := (k4.below hS' hlV).cell (i := 0) rfl
        have z1 := (k4.below hS' hlV).cell (i := 1) rfl
        clear hS'
        go_simp
        rfl
      simp only [List.setIfInBounds_toArray, List.set_cons_zero, List.set_cons_succ]
      refine take_op 11 (v := .bool false) rfl (by kernel_rfl) (fun _ _ _ h => h) (by rfl) hS (fun w' hS' => ?q1y11) ?q1z11
      case q1y11 =>
        clear hS'
        go_simp
        first | done | (simp; done) | (simp; omega)
      simp only [List.setIfInBounds_toArray, List.set_cons_zero, List.set_cons_succ]
      refine take_op 12 (v := ?q1v12) rfl (by kernel_rfl) (fun _ _ _ h => h) (by rfl) hS (fun w' hS' => ?q1y12) ?q1z12
      case q1y12 =>
        go_simp
        rfl
      simp only [List.setIfInBounds_toArray, List.set_cons_zero, List.set_cons_succ]
      refine take_op 13 (v := ?q1v13) rfl (by kernel_rfl) (fun _ _ _ h => h) (by rfl) hS (fun w' hS' => ?q1y13) ?q1z13
      case q1y13 =>
        go_simp
        rfl
      simp only [List.setIfInBounds_toArray, List.set_cons_zero, List.set_cons_succ]
      refine take_op 14 (v := ?q1v14) rfl (by kernel_rfl) (fun _ _ _ h => h) (by rfl) hS (fun w' hS' => ?q1y14) ?q1z14
      case q1y14 =>
        go_simp
        rfl
      simp only [List.setIfInBounds_toArray, List.set_cons_zero, List.set_cons_succ]
      refine take_op 15 (v := ?q1v15) rfl (by kernel_rfl) (fun _ _ _ h => h) (by rfl) hS (fun w' hS' => ?q1y15) ?q1z15
      case q1y15 =>
        have z0 := (k4.below hS' hlV).cell (i := 0) rfl
        have z1 := (k4.below hS' hlV).cell (i := 1) rfl
        clear hS'
        go_simp
        rfl
      simp only [List.setIfInBounds_toArray, List.set_cons_zero, List.set_cons_succ]
      refine take_op 16 (v := .bool false) rfl (by kernel_rfl) (fun _ _ _ h => h) (by rfl) hS (fun w' hS' => ?q1y16) ?q1z16
      case q1y16 =>
        clear hS'
        go_simp
        first | done | (simp; done) | (simp; omega)
      simp only [List.setIfInBounds_toArray, List.set_cons_zero, List.set_cons_succ]
      refine take_op 17 (v := ?q1v17) rfl (by kernel_rfl) (fun _ _ _ h => h) (by rfl) hS (fun w' hS' => ?q1y17) ?q1z17
      case q1y17 =>
        go_simp
        rfl
      simp only [List.setIfInBounds_toArray, List.set_cons_zero, List.set_cons_succ]
      refine take_op 18 (v := ?q1v18) rfl (by kernel_rfl) (fun _ _ _ h => h) (by rfl) hS (fun w' hS' => ?q1y18) ?q1z18
      case q1y18 =>
        go_simp
        rfl
      simp only [List.setIfInBounds_toArray, List.set_cons_zero, List.set_cons_succ]
      refine take_op 19 (v := ?q1v19) rfl (by kernel_rfl) (fun _ _ _ h => h) (by rfl) hS (fun w' hS' => ?q1y19) ?q1z19
      case q1y19 =>
        go_simp
        rfl
      simp only [List.setIfInBounds_toArray, List.set_cons_zero, List.set_cons_succ]
      refine take_op 20 (v := ?q1v20) rfl (by kernel_rfl) (fun _ _ _ h => h) (by rfl) hS (fun w' hS' => ?q1y20) ?q1z20
      case q1y20 =>
        have z0 := (k4.below hS' hlV).cell (i := 0) rfl
        have z1 := (k4.below hS' hlV).cell (i := 1) rfl
        clear hS'
        go_simp
        rfl
      simp only [List.setIfInBounds_toArray, List.set_cons_zero, List.set_cons_succ]
      refine take_op 22 (v := ?q1v22) rfl (by kernel_rfl) (fun _ _ _ h => h) (by rfl) hS (fun w' hS' => ?q1y22) ?q1z22
      case q1y22 =>
        go_simp
        rfl
      simp only [List.setIfInBounds_toArray, List.set_cons_zero, List.set_cons_succ]
      refine take_op 23 (v := ?q1v23) rfl (by kernel_rfl) (fun _ _ _ h => h) (by rfl) hS (fun w' hS' => ?q1y23) ?q1z23
      case q1y23 =>
        have z0 := (k4.below hS' hlV).cell (i := 0) rfl
        have z1 := (k4.below hS' hlV).cell (i := 1) rfl
        clear hS'
        go_simp
        rfl
      simp only [List.setIfInBounds_toArray, List.set_cons_zero, List.set_cons_succ]
      refine step_op 21 (by kernel_rfl) rfl (fun K hK => ?_)
      rw [if_pos (by rfl)]
      go_simp
      refine (c1H.out _).mono ?_
      rintro e W2 ⟨rfl, rfl⟩
      refine hK.out _ _ (fun h => hS) ?_
      clear hK K
      try simp only [Act.put, List.setIfInBounds_toArray, List.set_cons_zero, List.set_cons_succ]
      refine step_op 24 (by kernel_rfl) rfl (fun K hK => ?_)
      rw [if_pos (by rfl)]
      go_simp
      refine (c2H.out _).mono ?_
      rintro e W3 ⟨rfl, rfl⟩
      refine hK.out _ _ (fun h => hS) ?_
      clear hK K
      try simp only [Act.put, List.setIfInBounds_toArray, List.set_cons_zero, List.set_cons_succ]
      refine step_op 25 (by kernel_rfl) rfl (fun K hK => ?_)
      rw [if_pos (by rfl)]
      go_simp
      refine (c3H.out _).mono ?_
      rintro e W4 ⟨rfl, hb4⟩
      have hS4 := hS.trans (hb4.mono hS.size)
      refine hK.out _ _ (fun h => hS4) ?_
      clear hK K
      try simp only [Act.put, List.setIfInBounds_toArray, List.set_cons_zero, List.set_cons_succ]
      refine take_op 26 (v := .bool false) rfl (by kernel_rfl) (fun _ _ _ h => h) (by rfl) hS4 (fun w' hS' => ?q1y26) ?q1z26
      case q1y26 =>
        clear hS'
        go_simp
        first | done | rfl | (simp; done)
      simp only [List.setIfInBounds_toArray, List.set_cons_zero, List.set_cons_succ]
      refine take_op 27 (v := ?q1v27) rfl (by kernel_rfl) (fun _ _ _ h => h) (by rfl) hS4 (fun w' hS' => ?q1y27) ?q1z27
      case q1y27 =>
        go_simp
        rfl
      simp only [List.setIfInBounds_toArray, List.set_cons_zero, List.set_cons_succ]
      refine done_ops (by kernel_rfl) ?_
      go_wp2_with fail
      go_roundw
      case rel => exact ⟨2, by omega, rfl, hB2H.out.trans (hS4.mono hB2H.out.size)⟩
      case measure => simp [intOf]
    · go_wp2_with fail
      go_ret
      exact ⟨rfl, hB⟩
set_option maxRecDepth 100000 in
set_option maxHeartbeats 4000000 in
theorem Compare_any (a b c d : Nat) (ha : a ≤ 4611686018427387903) (hb : b ≤ 4611686018427387903) (hc : c ≤ 4611686018427387903) (hd : d ≤ 4611686018427387903) (hb1 : 1 ≤ b) (hd1 : 1 ≤ d) (hc0 : 0 < c) (h1 : Nat.gcd a b = 1) (h2 : Nat.gcd c d = 1) (w : World) :
    Calls Tryz.prog 8 #[frv a b, frv c d] w fun e w' => e = .returned (.tuple #[.int .i64 (orderF a b c d), .int .i64 0]) ∧ Below w.heap.size w w' := by
  have hB : Below w.heap.size w w := Below.refl _ _
  have hbb := hb
  clear hb
  have hbV1 : Below w.heap.size w (w.alloc (.cells #[.int .i64 (a : Int), .int .i64 (b : Int)] 23)) := jb_al (Below.refl _ w) _
  have k2 := Blk.new w 23 #[.int .i64 (a : Int), .int .i64 (b : Int)]
  obtain ⟨V1, hEV1⟩ : ∃ X, w.alloc (.cells #[.int .i64 (a : Int), .int .i64 (b : Int)] 23) = X := ⟨_, rfl⟩
  rw [hEV1] at hbV1 k2
  replace hB := hB.trans (hbV1.mono hB.size)
  clear hbV1
  have m0 := k2.cell (i := 0) rfl
  have m1 := k2.cell (i := 1) rfl
  have hbV2 : Below V1.heap.size V1 (V1.alloc (.cells #[.int .i64 (c : Int), .int .i64 (d : Int)] 23)) := jb_al (Below.refl _ V1) _
  have k3 := Blk.new V1 23 #[.int .i64 (c : Int), .int .i64 (d : Int)]
  obtain ⟨V2, hEV2⟩ : ∃ X, V1.alloc (.cells #[.int .i64 (c : Int), .int .i64 (d : Int)] 23) = X := ⟨_, rfl⟩
  rw [hEV2] at hbV2 k3
  clear m0 m1
  replace k2 := k2.below hbV2 k2.lt
  replace hB := hB.trans (hbV2.mono hB.size)
  clear hbV2
  have m0 := k2.cell (i := 0) rfl
  have m1 := k2.cell (i := 1) rfl
  have u0 := k3.cell (i := 0) rfl
  have u1 := k3.cell (i := 1) rfl
  have x0 := k2.cell (i := 0) rfl
  have x1 := k2.cell (i := 1) rfl
  have x2 := k3.cell (i := 0) rfl
  have x3 := k3.cell (i := 1) rfl
  have hbV3 : Below V2.heap.size V2 (V2.alloc (.cells #[.int .i64 (a : Int), .int .i64 (b : Int), .int .i64 (c : Int), .int .i64 (d : Int)] 23)) := jb_al (Below.refl _ V2) _
  have kf := Blk.new V2 23 #[.int .i64 (a : Int), .int .i64 (b : Int), .int .i64 (c : Int), .int .i64 (d : Int)]
  obtain ⟨V3, hEV3⟩ : ∃ X, V2.alloc (.cells #[.int .i64 (a : Int), .int .i64 (b : Int), .int .i64 (c : Int), .int .i64 (d : Int)] 23) = X := ⟨_, rfl⟩
  rw [hEV3] at hbV3 kf
  clear m0 m1 u0 u1
  replace k2 := k2.below hbV3 k2.lt
  replace k3 := k3.below hbV3 k3.lt
  replace hB := hB.trans (hbV3.mono hB.size)
  clear hbV3
  have m0 := k2.cell (i := 0) rfl
  have m1 := k2.cell (i := 1) rfl
  have u0 := k3.cell (i := 0) rfl
  have u1 := k3.cell (i := 1) rfl
  have v0 := kf.cell (i := 0) rfl
  have v1 := kf.cell (i := 1) rfl
  have v2 := kf.cell (i := 2) rfl
  have v3 := kf.cell (i := 3) rfl
  go_enter Tryz.func8, Tryz.ntmps8
  go_wp2_with fail
  clear hEV1 hEV2 x0 x1 x2 x3 hEV3
  have hc := evalid2_any a b c d ha hbb hc hd hb1 hd1 h1 h2 (V2.heap.size) 2 V3 kf
  refine hc.mono ?_
  clear hc
  rintro e V4 ⟨rfl, hb⟩
  clear m0 m1 u0 u1 v0 v1 v2 v3
  replace k2 := k2.below hb k2.lt
  replace k3 := k3.below hb k3.lt
  replace kf := kf.below hb kf.lt
  replace hB := hB.trans (hb.mono hB.size)
  clear hb
  have m0 := k2.cell (i := 0) rfl
  have m1 := k2.cell (i := 1) rfl
  have u0 := k3.cell (i := 0) rfl
  have u1 := k3.cell (i := 1) rfl
  have v0 := kf.cell (i := 0) rfl
  have v1 := kf.cell (i := 1) rfl
  have v2 := kf.cell (i := 2) rfl
  have v3 := kf.cell (i := 3) rfl
  go_wp2_with fail
  have hc := order_any a b c d ha hbb hc hd hc0 _ _ rfl rfl V4
  refine hc.mono ?_
  clear hc
  rintro e V5 ⟨rfl, hb⟩
  clear m0 m1 u0 u1 v0 v1 v2 v3
  replace k2 := k2.below hb k2.lt
  replace k3 := k3.below hb k3.lt
  replace kf := kf.below hb kf.lt
  replace hB := hB.trans (hb.mono hB.size)
  clear hb
  have m0 := k2.cell (i := 0) rfl
  have m1 := k2.cell (i := 1) rfl
  have u0 := k3.cell (i := 0) rfl
  have u1 := k3.cell (i := 1) rfl
  have v0 := kf.cell (i := 0) rfl
  have v1 := kf.cell (i := 1) rfl
  have v2 := kf.cell (i := 2) rfl
  have v3 := kf.cell (i := 3) rfl
  go_wp2_with fail
  exact bodyPost_ret (v := .tuple #[.int .i64 (orderF a b c d), .int .i64 0]) (by simp [results, Tryz.results8, go_sem]) rfl ⟨rfl, hB⟩

end Go.Proofs.YtbdnjhnlfpfhcaaGreat

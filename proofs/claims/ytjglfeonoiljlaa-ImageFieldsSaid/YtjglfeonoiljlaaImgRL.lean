/- The contract of the specification's Label. -/
import Derived.Test.YtjglfeonoiljlaaImgLabel
import Derived.Test.YtjglfeonoiljlaaImgRN
import Derived.Test.YtjglfeonoiljlaaLabR
namespace Go.Proofs.Ytjglfeonoiljlaa
open Go Go.RowKit Go.Shelf
set_option linter.unusedVariables false
set_option linter.unusedSimpArgs false

attribute [local go_sem] Oper.semAt_some

set_option maxRecDepth 100000 in
set_option maxHeartbeats 16000000 in
theorem rLabel_any (iw ih : Int) (a : Option Addr) (c n : Nat) (xs : List Int) (hn : Hid (xs.length = n)) (e : Bool) (w : World) (hm : n ≤ 9223372036854775807) (hr : Rd w.heap.size w a xs) :
    Calls Try.prog 58 #[imv iw ih a n c, .bool e] w (RetNum w.heap.size (labS iw ih xs e) w) := by
  have hB0 : Below w.heap.size w ((w.alloc (.cells #[.int .i64 iw, .int .i64 ih, .slice a n c] 24)).alloc (.cells #[.int .i64 0, .int .i64 0, .slice none 0 0] 24)) := below_al (below_al (Below.refl _ _) _) _
  obtain ⟨v0, hv⟩ : ∃ v, vld iw ih xs = v := ⟨_, rfl⟩
  have v0H := Lib.hid hv
  have hsp := Lib.hid (show labS iw ih xs e = if v0 = true then { im := { w := iw, h := ih, px := (labTo (iw.toNat * ih.toNat) iw.toNat e (isNz xs) (iw.toNat * ih.toNat)).1, err := 0 }, n := ((labTo (iw.toNat * ih.toNat) iw.toNat e (isNz xs) (iw.toNat * ih.toNat)).2 : Nat) } else { im := noIm 20, n := 0 } by unfold labS; rw [hv])
  clear hv
  obtain ⟨i0, hi, hz0, hz1, hz2⟩ := info_parts info_int
  refine (callsIn_wide (n := 10)).1 ?_
  refine callsIn_of_wp_marks Try.func58 rfl trivial ?_
  simp only [Try.ntmps58, List.size_toArray, List.length_cons, List.length_nil, Nat.reduceAdd, Nat.reduceSub, Array.replicate_succ, Array.replicate_zero, List.push_toArray, List.append_toArray, List.nil_append, List.cons_append]
  gi_wp2_with fail
  refine ⟨trivial, (callsIn_wide.2 (Valid_any iw ih a c xs n hn _ hm ((hr.below (Nat.le_refl _) hB0).mono hB0.size))).mono ?_⟩
  rintro e0 W1 ⟨rfl, hb1⟩
  rw [v0H.out]
  have hB1 : Below w.heap.size w W1 := hB0.trans (hb1.mono hB0.size)
  have k1 := ((Blk.new w 24 #[.int .i64 iw, .int .i64 ih, .slice a n c]).alloc (.cells #[.int .i64 0, .int .i64 0, .slice none 0 0] 24)).below hb1 (by simp <;> omega)
  have k2 := (Blk.new (w.alloc (.cells #[.int .i64 iw, .int .i64 ih, .slice a n c] 24)) 24 #[.int .i64 0, .int .i64 0, .slice none 0 0]).below hb1 (by simp <;> omega)
  have hs1 : w.heap.size + 2 ≤ W1.heap.size := by have := hb1.size; simpa using this
  simp only [World.size_alloc] at k2
  clear hb1 hB0
  have m0 := k1.cell (i := 0) rfl
  have m1 := k1.cell (i := 1) rfl
  have m2 := k1.cell (i := 2) rfl
  have c0 := k2.cell (i := 0) rfl
  have c1 := k2.cell (i := 1) rfl
  have c2 := k2.cell (i := 2) rfl
  have fc0 := k2.frozen 0
  have fc1 := k2.frozen 1
  have fc2 := k2.frozen 2
  cases v0 with
  | false =>
    gi_wp2_with fail
    have kf := put3_blk k2 (.int .i64 0) (.int .i64 0) (.slice none 0 0)
    have g0 := kf.cell (i := 0) rfl
    have g1 := kf.cell (i := 1) rfl
    have g2 := kf.cell (i := 2) rfl
    exact ⟨.tuple #[.agg #[.int .i64 0, .int .i64 0, .slice none 0 0], .int .i64 0, .int .i64 20], by simp [results, Try.results58, go_sem, g0, g1, g2], ⟨_, by rw [hsp.out]; rfl, by rw [hsp.out]; exact OwnIm_nil _ _⟩, hB1.trans (put3_below (by omega) _ _ _)⟩
  | true =>
    obtain ⟨⟨i1, i2⟩, ⟨i3, i4⟩, hlen, hall⟩ := vld_true v0H.out
    rw [hn.out] at hlen
    have hlenH := Lib.hid hlen
    have hallH := Lib.hid hall
    clear hlen hall
    obtain ⟨pw, rfl⟩ : ∃ pw : Nat, iw = (pw : Int) := ⟨iw.toNat, by omega⟩
    obtain ⟨ph, rfl⟩ : ∃ ph : Nat, ih = (ph : Int) := ⟨ih.toNat, by omega⟩
    have hN : pw * ph = n ∧ n ≤ 256 := by
      have h1 := hlenH.out
      obtain ⟨m1, m2⟩ := mul_small (a := (pw : Int)) (b := (ph : Int)) (m := 16) (n := 16) (by omega) (by omega) (by omega) (by omega)
      have h2 : ((pw * ph : Nat) : Int) = (pw : Int) * ph := by simp
      omega
    obtain ⟨hN1, hN2⟩ := hN
    have hN1H := Lib.hid hN1
    have hn0 : 0 < n := by rw [← hN1]; exact Nat.mul_pos (by omega) (by omega)
    obtain ⟨ba, oa, rfl, hba, hca⟩ := rd_at hr hn.out hn0
    have hcaH := Lib.hid hca
    clear hca hr
    clear hN1 m0 m1 m2 c0 c1 c2 fc0 fc1 fc2
    gi_wp2_with fail
    refine wpIn_mono (Q := fun e' a' w' => e' = .normal ∧ ∃ b4 g, FW w.heap.size b4 g pw ph (some ⟨ba, oa, none⟩) c n w w' (List.replicate n 0) ∧ w.heap.size + 2 ≤ g ∧ ∃ u : Nat → Value, a' = ⟨#[u 0, .bool e, .pointer (some ⟨w.heap.size, 0, none⟩), u 3, .pointer (some ⟨w.heap.size + 1, 0, none⟩), u 5, u 6, .pointer (some ⟨b4, 0, none⟩), u 8, u 9, u 10, u 11, u 12, u 13, u 14, u 15, u 16, u 17, u 18, u 19, u 20, u 21, u 22, u 23, u 24, u 25, u 26, u 27, u 28, u 29, u 30, u 31, u 32, u 33, u 34, u 35, u 36, u 37, u 38, u 39, u 40, u 41, u 42, u 43, u 44, u 45, u 46, u 47, u 48, u 49, u 50, u 51, u 52, u 53, u 54, u 55, u 56, u 57, u 58, u 59, u 60, u 61, u 62, u 63, u 64, u 65, u 66, u 67, u 68, u 69, u 70, u 71, u 72, u 73, u 74, u 75, u 76, u 77, u 78, u 79, u 80, u 81, u 82, u 83, u 84, u 85, u 86, u 87, u 88, u 89, u 90, u 91, u 92, u 93, u 94, u 95, u 96, u 97, u 98, u 99, u 100, u 101, u 102, u 103, u 104, u 105], []⟩) ?draw ?cont
    case draw =>
      refine wpIn_wide.2 ?_
      have hS : Below W1.heap.size W1 W1.drew := (Below.refl _ _).drew
      refine plain_region (fun W' => Below W1.heap.size W1 W') 10 11 (by kernel_rfl) rfl ?_
      simp only [Array.replicate_succ, Array.replicate_zero, List.push_toArray, List.nil_append, List.cons_append]
      obtain ⟨X0, hX0⟩ : ∃ X, W1.drew = X := ⟨_, rfl⟩
      rw [hX0] at hS ⊢
      clear hX0
      refine take_op 0 (v := ?r1v) rfl (by kernel_rfl) (fun _ _ _ h => nomatch h.1) (by rfl) hS (fun w' hS' => ?r1y) ?r1z
      case r1y =>
        go_simp
        rfl
      simp only [List.setIfInBounds_toArray, List.set_cons_zero, List.set_cons_succ]
      refine take_op 1 (v := ?r2v) rfl (by kernel_rfl) (fun _ _ _ h => nomatch h.1) (by rfl) hS (fun w' hS' => ?r2y) ?r2z
      case r2y =>
        have m0 := (k1.below hS' k1.lt).cell (i := 0) rfl
        have m1 := (k1.below hS' k1.lt).cell (i := 1) rfl
        have m2 := (k1.below hS' k1.lt).cell (i := 2) rfl
        go_simp
        rfl
      simp only [List.setIfInBounds_toArray, List.set_cons_zero, List.set_cons_succ]
      refine take_op 2 (v := ?r3v) rfl (by kernel_rfl) (fun _ _ _ h => nomatch h.1) (by rfl) hS (fun w' hS' => ?r3y) ?r3z
      case r3y =>
        go_simp
        rfl
      simp only [List.setIfInBounds_toArray, List.set_cons_zero, List.set_cons_succ]
      refine take_op 3 (v := ?r4v) rfl (by kernel_rfl) (fun _ _ _ h => nomatch h.1) (by rfl) hS (fun w' hS' => ?r4y) ?r4z
      case r4y =>
        have m0 := (k1.below hS' k1.lt).cell (i := 0) rfl
        have m1 := (k1.below hS' k1.lt).cell (i := 1) rfl
        have m2 := (k1.below hS' k1.lt).cell (i := 2) rfl
        go_simp
        rfl
      simp only [List.setIfInBounds_toArray, List.set_cons_zero, List.set_cons_succ]
      refine take_op 4 (v := ?r5v) rfl (by kernel_rfl) (fun _ _ _ h => nomatch h.1) (by rfl) hS (fun w' hS' => ?r5y) ?r5z
      case r5y =>
        go_simp
        rfl
      simp only [List.setIfInBounds_toArray, List.set_cons_zero, List.set_cons_succ]
      refine take_op 5 (v := ?r6v) rfl (by kernel_rfl) (fun _ _ _ h => nomatch h.1) (by rfl) hS (fun w' hS' => ?r6y) ?r6z
      case r6y =>
        have m0 := (k1.below hS' k1.lt).cell (i := 0) rfl
        have m1 := (k1.below hS' k1.lt).cell (i := 1) rfl
        have m2 := (k1.below hS' k1.lt).cell (i := 2) rfl
        go_simp
        rfl
      simp only [List.setIfInBounds_toArray, List.set_cons_zero, List.set_cons_succ]
      refine take_op 6 (v := ?r7v) rfl (by kernel_rfl) (fun _ _ _ h => nomatch h.1) (by rfl) hS (fun w' hS' => ?r7y) ?r7z
      case r7y =>
        go_simp
        rfl
      simp only [List.setIfInBounds_toArray, List.set_cons_zero, List.set_cons_succ]
      refine fork2 (i := 7) (j := 9) (by kernel_rfl) ?_ ?_
      · refine step_at 7 rfl (fun K hK => ?_)
        have hszA := hS.size
        refine step_make_full rfl _ _ 22 rfl w.heap.size 3 i0 (.int .i64 0) 1 Try.underlying22 hi hz0 hz1 .i64 .i64 n rfl rfl (by rw [hz2]; omega) (by unfold maxLen; omega) (by omega) ?_
        intro X7 hown hgX
        have hS7 : Below W1.heap.size W1 X7 := hS.grown hgX hS.size (fun k e => by cases e)
        refine hK.out _ _ (fun h => hS7) ?_
        clear hK K
        try simp only [Act.put, List.setIfInBounds_toArray, List.set_cons_zero, List.set_cons_succ]
        refine take_op 8 (v := ?r8v) rfl (by kernel_rfl) (fun _ _ _ h => nomatch h.1) (by rfl) hS7 (fun w' hS' => ?r8y) ?r8z
        case r8y =>
          go_simp
          rfl
        simp only [List.setIfInBounds_toArray, List.set_cons_zero, List.set_cons_succ]
        refine step_op 9 (by kernel_rfl) rfl (fun K hK => ?_)
        have hszB := hS7.size
        rw [if_pos (by rfl)]
        go_simp
        have hS9' := below_al hS7 (.cells #[.int .i64 0, .int .i64 0, .slice none 0 0] 24)
        obtain ⟨X9, hX9⟩ : ∃ X, X7.alloc (.cells #[.int .i64 0, .int .i64 0, .slice none 0 0] 24) = X := ⟨_, rfl⟩
        have k4 := Blk.new X7 24 #[.int .i64 0, .int .i64 0, .slice none 0 0]
        have hgZ : X7.grownBy X9 none := hX9 ▸ World.grownBy_alloc _ _ none
        rw [hX9] at hS9' k4 ⊢
        have hS9 := hS9'
        clear hS9'
        refine hK.out _ _ (fun h => hS9) ?_
        clear hK K
        try simp only [Act.put, List.setIfInBounds_toArray, List.set_cons_zero, List.set_cons_succ]
        refine step_op 10 (by kernel_rfl) rfl (fun K hK => ?_)
        have hownZ := hown.kept hgZ (.inr (by simp [Value.ownBlock]))
        obtain ⟨b4, hb4⟩ : ∃ b, X7.heap.size = b := ⟨_, rfl⟩
        obtain ⟨g, hg4⟩ : ∃ b, X0.heap.size = b := ⟨_, rfl⟩
        rw [hg4] at hownZ ⊢
        rw [hb4] at k4 ⊢
        have d0 := k4.cell (i := 0) rfl
        have d1 := k4.cell (i := 1) rfl
        have d2 := k4.cell (i := 2) rfl
        have f0 := k4.frozen 0
        have f1 := k4.frozen 1
        have f2 := k4.frozen 2
        rw [if_pos (by rfl)]
        go_simp
        refine hK.out _ _ (fun h => absurd h (by omega)) ?_
        clear hK K
        try simp only [Act.put, List.setIfInBounds_toArray, List.set_cons_zero, List.set_cons_succ]
        refine done_ops (by kernel_rfl) ?_
        have hzz : (madeCells (Value.int .i64 0).cells (n * 1)).toList = (List.replicate n (0 : Int)).map (Value.int .i64) := by simp only [madeCells, Value.cells]; simp [Nat.mod_one, List.map_const']
        rw [hzz] at hownZ
        have hbb := hB1.trans (hS9.mono hB1.size)
        have hgw : w.heap.size + 2 ≤ g := by omega
        exact ⟨rfl, b4, g, ⟨(put3_below (n := b4) (B := b4) (Nat.le_refl _) _ _ _).block _ (by omega) |>.trans ((k1.below hS9 k1.lt)), ((put3_below (n := b4) (B := b4) (Nat.le_refl _) _ _ _).block _ (by omega)).trans (k2.below hS9 k2.lt), put3_blk k4 _ _ _, put3_row hownZ (k4.not_row (by decide) hownZ) _ _ _, hbb.trans (put3_below (by omega) _ _ _)⟩, hgw, ex_fn rfl⟩
      · refine step_at 9 rfl (fun K hK => ?_)
        have hszB := hS.size
        rw [if_pos (by rfl)]
        go_simp
        have hS9' := below_al hS (.cells #[.int .i64 0, .int .i64 0, .slice none 0 0] 24)
        obtain ⟨X9, hX9⟩ : ∃ X, X0.alloc (.cells #[.int .i64 0, .int .i64 0, .slice none 0 0] 24) = X := ⟨_, rfl⟩
        have k4 := Blk.new X0 24 #[.int .i64 0, .int .i64 0, .slice none 0 0]
        have hgZ : X0.grownBy X9 none := hX9 ▸ World.grownBy_alloc _ _ none
        rw [hX9] at hS9' k4 ⊢
        have hS9 := hS9'
        clear hS9'
        refine hK.out _ _ (fun h => hS9) ?_
        clear hK K
        try simp only [Act.put, List.setIfInBounds_toArray, List.set_cons_zero, List.set_cons_succ]
        refine step_op 7 (by kernel_rfl) rfl (fun K hK => ?_)
        have hszA := hS9.size
        refine step_make_full rfl _ _ 22 rfl w.heap.size 3 i0 (.int .i64 0) 1 Try.underlying22 hi hz0 hz1 .i64 .i64 n rfl rfl (by rw [hz2]; omega) (by unfold maxLen; omega) (by omega) ?_
        intro X7 hown hgX
        have hS7 : Below W1.heap.size W1 X7 := hS9.grown hgX hS9.size (fun k e => by cases e)
        refine hK.out _ _ (fun h => hS7) ?_
        clear hK K
        try simp only [Act.put, List.setIfInBounds_toArray, List.set_cons_zero, List.set_cons_succ]
        refine take_op 8 (v := ?r9v) rfl (by kernel_rfl) (fun _ _ _ h => nomatch h.1) (by rfl) hS7 (fun w' hS' => ?r9y) ?r9z
        case r9y =>
          go_simp
          rfl
        simp only [List.setIfInBounds_toArray, List.set_cons_zero, List.set_cons_succ]
        refine step_op 10 (by kernel_rfl) rfl (fun K hK => ?_)
        replace k4 := k4.kept hgX (by simp)
        have hownZ := hown
        obtain ⟨b4, hb4⟩ : ∃ b, X0.heap.size = b := ⟨_, rfl⟩
        obtain ⟨g, hg4⟩ : ∃ b, X9.heap.size = b := ⟨_, rfl⟩
        rw [hg4] at hownZ ⊢
        rw [hb4] at k4 ⊢
        have d0 := k4.cell (i := 0) rfl
        have d1 := k4.cell (i := 1) rfl
        have d2 := k4.cell (i := 2) rfl
        have f0 := k4.frozen 0
        have f1 := k4.frozen 1
        have f2 := k4.frozen 2
        rw [if_pos (by rfl)]
        go_simp
        refine hK.out _ _ (fun h => absurd h (by omega)) ?_
        clear hK K
        try simp only [Act.put, List.setIfInBounds_toArray, List.set_cons_zero, List.set_cons_succ]
        refine done_ops (by kernel_rfl) ?_
        have hzz : (madeCells (Value.int .i64 0).cells (n * 1)).toList = (List.replicate n (0 : Int)).map (Value.int .i64) := by simp only [madeCells, Value.cells]; simp [Nat.mod_one, List.map_const']
        rw [hzz] at hownZ
        have hbb := hB1.trans (hS7.mono hB1.size)
        have hgw : w.heap.size + 2 ≤ g := by omega
        exact ⟨rfl, b4, g, ⟨(put3_below (n := b4) (B := b4) (Nat.le_refl _) _ _ _).block _ (by omega) |>.trans ((k1.below hS7 k1.lt)), ((put3_below (n := b4) (B := b4) (Nat.le_refl _) _ _ _).block _ (by omega)).trans (k2.below hS7 k2.lt), put3_blk k4 _ _ _, put3_row hownZ (k4.not_row (by decide) hownZ) _ _ _, hbb.trans (put3_below (by omega) _ _ _)⟩, hgw, ex_fn rfl⟩
    case cont =>
      rintro e' a' W2 ⟨rfl, b4, g, hF0, hgl, u, rfl⟩
      have hlb0 : labTo (pw * ph) pw e (isNz xs) 0 = (List.replicate n 0, 0) := by rw [labTo, hN1H.out]
      gi_wp2_with fail
      refine loopM (fun m a' w' => ∃ (i cnt : Nat) (L : List Int), i ≤ n ∧ FW w.heap.size b4 g pw ph (some ⟨ba, oa, none⟩) c n w w' L ∧ labTo (pw * ph) pw e (isNz xs) i = (L, cnt) ∧ m = n - i ∧ ∃ u : Nat → Value, a' = ⟨#[u 0, .bool e, .pointer (some ⟨w.heap.size, 0, none⟩), u 3, .pointer (some ⟨w.heap.size + 1, 0, none⟩), u 5, u 6, .pointer (some ⟨b4, 0, none⟩), .int .i64 cnt, .int .i64 i, u 10, u 11, u 12, u 13, u 14, u 15, u 16, u 17, u 18, u 19, u 20, u 21, u 22, u 23, u 24, u 25, u 26, u 27, u 28, u 29, u 30, u 31, u 32, u 33, u 34, u 35, u 36, u 37, u 38, u 39, u 40, u 41, u 42, u 43, u 44, u 45, u 46, u 47, u 48, u 49, u 50, u 51, u 52, u 53, u 54, u 55, u 56, u 57, u 58, u 59, u 60, u 61, u 62, u 63, u 64, u 65, u 66, u 67, u 68, u 69, u 70, u 71, u 72, u 73, u 74, u 75, u 76, u 77, u 78, u 79, u 80, u 81, u 82, u 83, u 84, u 85, u 86, u 87, u 88, u 89, u 90, u 91, u 92, u 93, u 94, u 95, u 96, u 97, u 98, u 99, u 100, u 101, u 102, u 103, u 104, u 105], []⟩) n ?start ?round
      case start => exact ⟨0, 0, _, Nat.zero_le _, hF0, hlb0, rfl, ex_fn rfl⟩
      case round =>
        clear hF0 hlb0
        rintro m a' W ⟨i, cnt, L, hin, hF, hlab, rfl, u, rfl⟩
        have hwW := hF.bel.size
        have hcb := lab_n hlab
        have m2 := hF.k1.cell (i := 2) rfl
        by_cases hlt : i < n
        · have hlN : i < pw * ph := by rw [hN1H.out]; exact hlt
          have o2 := hF.k4.cell (i := 2) rfl
          have ri := hF.cell (Below.refl _ W) hlt
          have rf := hF.frozen (Below.refl _ W) i
          have hcell := (hF.bel.cell (p := ⟨ba, oa + i, none⟩) hba).trans (hcaH.out i hlt)
          by_cases hz0 : px xs i = 0
          · have e1 : (px xs (i : Int) == 0) = true := by rw [hz0]; rfl
            have hnz : isNz xs i = false := by simp [isNz, hz0]
            have hnx := Lib.hid (labTo_skip hlab (fun h => by rw [hnz] at h; exact absurd h.1 (by decide)))
            gi_wp2_with fail
            exact ⟨n - (i + 1), by omega, i + 1, cnt, L, hlt, hF, hnx.out, rfl, ex_fn rfl⟩
          · have e1 : (px xs (i : Int) == 0) = false := beq_eq_false_iff_ne.2 hz0
            have hnz : isNz xs i = true := by simp [isNz, hz0]
            by_cases hL0 : px L i = 0
            · have e2 : (px L (i : Int) != 0) = false := by rw [hL0]; rfl
              gi_wp2_with fail
              obtain ⟨v1, hv1⟩ : ∃ v1 : Int, ((cnt + 1 : Nat) : Int) = v1 := ⟨_, rfl⟩
              have hv2 : (cnt : Int) + 1 = v1 := by omega
              rw [hv2]
              obtain ⟨hFs, _⟩ := hF.store (Nat.le_refl _) i v1
              have hfill := fill_start hlab hlN hL0
              have hlen : (L.set i v1).length = pw * ph := by rw [List.length_set]; exact lab_len hlab
              have hflH := Lib.hid (show Fill (pw * ph) pw e (isNz xs) (fun j => px L j) ((cnt + 1 : Nat) : Int) i (fun j => px (L.set i v1) j) (fun _ => True) by rw [← hv1]; exact hfill)
              clear hfill e1 e2 ri rf o2 m2 hcell hF
              refine loopM (fun m a' w' => ∃ (L2 : List Int) (ch : Bool), FW w.heap.size b4 g pw ph (some ⟨ba, oa, none⟩) c n w w' L2 ∧ L2.length = pw * ph ∧ Hid (Fill (pw * ph) pw e (isNz xs) (fun j => px L j) ((cnt + 1 : Nat) : Int) i (fun j => px L2 j) (fun _ => True)) ∧ (ch = false → Hid (Fill (pw * ph) pw e (isNz xs) (fun j => px L j) ((cnt + 1 : Nat) : Int) i (fun j => px L2 j) (fun _ => False))) ∧ m = zer L2 + (if ch = true then 1 else 0) ∧ ∃ u : Nat → Value, a' = ⟨#[u 0, .bool e, .pointer (some ⟨w.heap.size, 0, none⟩), u 3, .pointer (some ⟨w.heap.size + 1, 0, none⟩), u 5, u 6, .pointer (some ⟨b4, 0, none⟩), .int .i64 v1, .int .i64 i, .bool ch, u 11, u 12, u 13, u 14, u 15, u 16, u 17, u 18, u 19, u 20, u 21, u 22, u 23, u 24, u 25, u 26, u 27, u 28, u 29, u 30, u 31, u 32, u 33, u 34, u 35, u 36, u 37, u 38, u 39, u 40, u 41, u 42, u 43, u 44, u 45, u 46, u 47, u 48, u 49, u 50, u 51, u 52, u 53, u 54, u 55, u 56, u 57, u 58, u 59, u 60, u 61, u 62, u 63, u 64, u 65, u 66, u 67, u 68, u 69, u 70, u 71, u 72, u 73, u 74, u 75, u 76, u 77, u 78, u 79, u 80, u 81, u 82, u 83, u 84, u 85, u 86, u 87, u 88, u 89, u 90, u 91, u 92, u 93, u 94, u 95, u 96, u 97, u 98, u 99, u 100, u 101, u 102, u 103, u 104, u 105], []⟩) (zer (L.set i v1) + (if true = true then 1 else 0)) ?s2 ?r2
              case s2 => exact ⟨_, true, hFs, hlen, hflH, fun h => Bool.noConfusion h, rfl, ex_fn rfl⟩
              case r2 =>
                clear hFs hlen hflH
                rintro m2 a2 W2 ⟨L2, ch, hF2, hlen2, hfl, hfin, rfl, u2, rfl⟩
                cases ch with
                | false =>
                  have hnx := Lib.hid (labTo_fill hlab hlN hnz hL0 hlen2 (hfin rfl).out)
                  clear hfin hfl
                  gi_wp2_with fail
                  rw [← hv1]
                  exact ⟨n - (i + 1), by omega, i + 1, cnt + 1, L2, hlt, hF2, hnx.out, rfl, ex_fn rfl⟩
                | true =>
                  gi_wp2_with fail
                  refine loopM (fun m a' w' => ∃ (k : Nat) (L' : List Int) (ch : Bool), k ≤ n ∧ FW w.heap.size b4 g pw ph (some ⟨ba, oa, none⟩) c n w w' L' ∧ RS (pw * ph) pw e (isNz xs) i L cnt L2 k 0 ch L' ∧ m = n - k ∧ ∃ u : Nat → Value, a' = ⟨#[u 0, .bool e, .pointer (some ⟨w.heap.size, 0, none⟩), u 3, .pointer (some ⟨w.heap.size + 1, 0, none⟩), u 5, u 6, .pointer (some ⟨b4, 0, none⟩), .int .i64 v1, .int .i64 i, .bool ch, .int .i64 k, u 12, u 13, u 14, u 15, u 16, u 17, u 18, u 19, u 20, u 21, u 22, u 23, u 24, u 25, u 26, u 27, u 28, u 29, u 30, u 31, u 32, u 33, u 34, u 35, u 36, u 37, u 38, u 39, u 40, u 41, u 42, u 43, u 44, u 45, u 46, u 47, u 48, u 49, u 50, u 51, u 52, u 53, u 54, u 55, u 56, u 57, u 58, u 59, u 60, u 61, u 62, u 63, u 64, u 65, u 66, u 67, u 68, u 69, u 70, u 71, u 72, u 73, u 74, u 75, u 76, u 77, u 78, u 79, u 80, u 81, u 82, u 83, u 84, u 85, u 86, u 87, u 88, u 89, u 90, u 91, u 92, u 93, u 94, u 95, u 96, u 97, u 98, u 99, u 100, u 101, u 102, u 103, u 104, u 105], []⟩) n ?s3 ?r3
                  case s3 => exact ⟨0, L2, false, Nat.zero_le _, hF2, RS.begin hlen2 hfl.out, rfl, ex_fn rfl⟩
                  case r3 =>
                    clear hF2 hfin
                    rintro m3 a3 W3 ⟨k, L3, ch, hkn, hF3, hRS, rfl, u3, rfl⟩
                    have m2 := hF3.k1.cell (i := 2) rfl
                    by_cases hk : k < n
                    · have hkN : k < pw * ph := by rw [hN1H.out]; exact hk
                      gi_wp2_with fail
                      refine loopM (fun m a' w' => ∃ (l : Nat) (L' : List Int) (ch : Bool), l ≤ n ∧ FW w.heap.size b4 g pw ph (some ⟨ba, oa, none⟩) c n w w' L' ∧ RS (pw * ph) pw e (isNz xs) i L cnt L2 k l ch L' ∧ m = n - l ∧ ∃ u : Nat → Value, a' = ⟨#[u 0, .bool e, .pointer (some ⟨w.heap.size, 0, none⟩), u 3, .pointer (some ⟨w.heap.size + 1, 0, none⟩), u 5, u 6, .pointer (some ⟨b4, 0, none⟩), .int .i64 v1, .int .i64 i, .bool ch, .int .i64 k, .int .i64 l, u 13, u 14, u 15, u 16, u 17, u 18, u 19, u 20, u 21, u 22, u 23, u 24, u 25, u 26, u 27, u 28, u 29, u 30, u 31, u 32, u 33, u 34, u 35, u 36, u 37, u 38, u 39, u 40, u 41, u 42, u 43, u 44, u 45, u 46, u 47, u 48, u 49, u 50, u 51, u 52, u 53, u 54, u 55, u 56, u 57, u 58, u 59, u 60, u 61, u 62, u 63, u 64, u 65, u 66, u 67, u 68, u 69, u 70, u 71, u 72, u 73, u 74, u 75, u 76, u 77, u 78, u 79, u 80, u 81, u 82, u 83, u 84, u 85, u 86, u 87, u 88, u 89, u 90, u 91, u 92, u 93, u 94, u 95, u 96, u 97, u 98, u 99, u 100, u 101, u 102, u 103, u 104, u 105], []⟩) n ?s4 ?r4
                      case s4 => exact ⟨0, L3, ch, Nat.zero_le _, hF3, hRS, rfl, ex_fn rfl⟩
                      case r4 =>
                        clear hF3 hRS m2
                        rintro m4 a4 W4 ⟨l, L4, ch, hln, hF4, hRS, rfl, u4, rfl⟩
                        have m0 := hF4.k1.cell (i := 0) rfl
                        have m1 := hF4.k1.cell (i := 1) rfl
                        have m2 := hF4.k1.cell (i := 2) rfl
                        have o2 := hF4.k4.cell (i := 2) rfl
                        have rk := hF4.cell (Below.refl _ W4) hk
                        have rf := hF4.frozen (Below.refl _ W4) k
                        have hcell := (hF4.bel.cell (p := ⟨ba, oa + k, none⟩) hba).trans (hcaH.out k hk)
                        have hsW4 := hF4.bel.size
                        by_cases hl : l < n
                        · have hlN' : l < pw * ph := by rw [hN1H.out]; exact hl
                          have rl := hF4.cell (Below.refl _ W4) hl
                          by_cases hkz : px xs k = 0
                          · have e1 : (px xs (k : Int) != 0) = false := by rw [hkz]; rfl
                            have hnx := hRS.next (.inr (.inl (by simp [isNz, hkz])))
                            gi_wp2_with fail
                            exact ⟨n - (k + 1), by omega, k + 1, L4, ch, hk, hF4, hnx, rfl, ex_fn rfl⟩
                          · have e1 : (px xs (k : Int) != 0) = true := bne_iff_ne.2 hkz
                            have hkz2 : isNz xs k = true := by simp [isNz, hkz]
                            by_cases hk0 : px L4 k = 0
                            · have e2 : (px L4 (k : Int) == 0) = true := by rw [hk0]; rfl
                              by_cases hlv : px L4 l = v1
                              · have e3 : (px L4 (l : Int) == v1) = true := beq_iff_eq.2 hlv
                                obtain ⟨nv, hnv⟩ : ∃ v, nearB pw e k l = v := ⟨_, rfl⟩
                                gi_wp2_with fail
                                refine ⟨trivial, (callsIn_wide.2 (near_any pw ph (some ⟨ba, oa, none⟩) c n (by omega) (by omega) k l (by omega) (by omega) e nv (Lib.hid hnv) _)).mono ?_⟩
                                rintro e5 W5 ⟨rfl, hb5⟩
                                have hF5 := hF4.grown (grown_of_below hb5 none) (Nat.le_refl _)
                                cases nv with
                                | true =>
                                  have hst := hF5.store (Nat.le_refl _) k v1
                                  have hset := hRS.set hlab hkN hlN' hkz2 hk0 (by rw [hv1]; exact hlv) hnv
                                  rw [hv1] at hset
                                  have o2 := hF5.k4.cell (i := 2) rfl
                                  have rk := hF5.cell (Below.refl _ W5) hk
                                  have rf := hF5.frozen (Below.refl _ W5) k
                                  gi_wp2_with fail
                                  exact ⟨n - (l + 1), by omega, l + 1, _, true, hl, hst.1, hset, rfl, ex_fn rfl⟩
                                | false =>
                                  have hps := hRS.pass (fun _ _ _ _ => hnv)
                                  gi_wp2_with fail
                                  exact ⟨n - (l + 1), by omega, l + 1, L4, ch, hl, hF5, hps, rfl, ex_fn rfl⟩
                              · have e3 : (px L4 (l : Int) == v1) = false := beq_eq_false_iff_ne.2 hlv
                                have hps := hRS.pass (fun hc _ _ hv => by rw [hv1, ← hRS.same hc] at hv; exact (hlv hv).elim)
                                gi_wp2_with fail
                                refine ⟨trivial, ?_⟩
                                gi_wp2_with fail
                                exact ⟨n - (l + 1), by omega, l + 1, L4, ch, hl, hF4, hps, rfl, ex_fn rfl⟩
                            · have e2 : (px L4 (k : Int) == 0) = false := beq_eq_false_iff_ne.2 hk0
                              have hnx := hRS.next (.inr (.inr hk0))
                              gi_wp2_with fail
                              exact ⟨n - (k + 1), by omega, k + 1, L4, ch, hk, hF4, hnx, rfl, ex_fn rfl⟩
                        · have hle : n = l := by omega
                          subst hle
                          have hnx := hRS.next (.inl hN1H.out.symm)
                          gi_wp2_with fail
                          exact ⟨n - (k + 1), by omega, k + 1, L4, ch, hk, hF4, hnx, rfl, ex_fn rfl⟩
                    · have hke : n = k := by omega
                      subst hke
                      have hz3 := hRS.zle
                      have hl3 := hRS.len
                      have hf3 := Lib.hid hRS.fill
                      have hd3 : ch = false → Hid (Fill (pw * ph) pw e (isNz xs) (fun j => px L j) ((cnt + 1 : Nat) : Int) i (fun j => px L3 j) (fun _ => False)) := fun h => by
                        subst h; rw [← hN1H.out] at hRS; exact Lib.hid hRS.finish
                      gi_wp2_with fail
                      exact ⟨zer L3 + (if ch = true then 1 else 0), Nat.lt_succ_of_le hz3, L3, ch, hF3, hl3, hf3, hd3, rfl, ex_fn rfl⟩
            · have e2 : (px L (i : Int) != 0) = true := bne_iff_ne.2 hL0
              have hnx := Lib.hid (labTo_skip hlab (fun h => hL0 h.2))
              gi_wp2_with fail
              exact ⟨n - (i + 1), by omega, i + 1, cnt, L, hlt, hF, hnx.out, rfl, ex_fn rfl⟩
        · have hni : n = i := by omega
          subst hni
          have o0 := hF.k4.cell (i := 0) rfl
          have o1 := hF.k4.cell (i := 1) rfl
          have o2 := hF.k4.cell (i := 2) rfl
          have r0 := hF.k2.cell (i := 0) rfl
          have r1 := hF.k2.cell (i := 1) rfl
          have r2 := hF.k2.cell (i := 2) rfl
          have fr0 := hF.k2.frozen 0
          have fr1 := hF.k2.frozen 1
          have fr2 := hF.k2.frozen 2
          gi_wp2_with fail
          clear o0 o1 o2 r0 r1 r2 fr0 fr1 fr2
          have kf := put3_blk hF.k2 (.int .i64 pw) (.int .i64 ph) (.slice (some ⟨g, 0, none⟩) n n)
          have rowf := put3_row hF.row (hF.k2.not_row (by decide) hF.row) (.int .i64 pw) (.int .i64 ph) (.slice (some ⟨g, 0, none⟩) n n)
          have g0 := kf.cell (i := 0) rfl
          have g1 := kf.cell (i := 1) rfl
          have g2 := kf.cell (i := 2) rfl
          have hl2 := hlab
          rw [← hN1H.out] at hl2
          have hfin := Lib.hid (show labS pw ph xs e = { im := { w := pw, h := ph, px := L, err := 0 }, n := cnt } by
            rw [hsp.out, if_pos trivial]
            simp only [Int.toNat_natCast, hl2])
          have hll : L.length = n := (lab_len hlab).trans hN1H.out
          have hbe : Below w.heap.size w (put3 W (w.heap.size + 1) (.int .i64 pw) (.int .i64 ph) (.slice (some ⟨g, 0, none⟩) n n)) := hF.bel.trans (put3_below (by omega) _ _ _)
          have rowf' : OwnIm w.heap.size (put3 W (w.heap.size + 1) (.int .i64 pw) (.int .i64 ph) (.slice (some ⟨g, 0, none⟩) n n)) (.agg #[.int .i64 pw, .int .i64 ph, .slice (some ⟨g, 0, none⟩) n n]) pw ph L := ⟨_, rfl, row_len hll.symm rowf⟩
          exact ⟨.tuple #[.agg #[.int .i64 pw, .int .i64 ph, .slice (some ⟨g, 0, none⟩) n n], .int .i64 cnt, .int .i64 0], by simp [results, Try.results58, go_sem, g0, g1, g2], ⟨_, by rw [hfin.out], by rw [hfin.out]; exact rowf'⟩, hbe⟩

end Go.Proofs.Ytjglfeonoiljlaa

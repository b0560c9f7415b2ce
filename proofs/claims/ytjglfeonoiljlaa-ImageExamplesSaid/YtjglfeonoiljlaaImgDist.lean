/- The contract of the program's Distance. -/
import Derived.Test.YtjglfeonoiljlaaQI
namespace Go.Proofs.Ytjglfeonoiljlaa
open Go Go.RowKit Go.Shelf
set_option linter.unusedVariables false
set_option linter.unusedSimpArgs false

attribute [local go_sem] Oper.semAt_some

set_option maxRecDepth 100000 in
set_option maxHeartbeats 8000000 in
theorem Distance_any (iw ih : Int) (a : Option Addr) (c n : Nat) (xs : List Int) (hn : Hid (xs.length = n)) (w : World) (hm : n ≤ 9223372036854775807) (hr : Rd w.heap.size w a xs) :
    Calls Try.prog 55 #[imv iw ih a n c] w (RetIm w.heap.size (distS iw ih xs) w) := by
  have hB0 : Below w.heap.size w ((w.alloc (.cells #[.int .i64 iw, .int .i64 ih, .slice a n c] 24)).alloc (.cells #[.int .i64 0, .int .i64 0, .slice none 0 0] 24)) := below_al (below_al (Below.refl _ _) _) _
  obtain ⟨v0, hv⟩ : ∃ v, vld iw ih xs = v := ⟨_, rfl⟩
  have v0H := Lib.hid hv
  have hsp := Lib.hid (show distS iw ih xs = if v0 = true then { w := iw, h := ih, px := img iw.toNat ih.toNat (distG iw.toNat ih.toNat xs), err := 0 } else noIm 20 by unfold distS; rw [hv])
  clear hv
  obtain ⟨i0, hi, hz0, hz1, hz2⟩ := info_parts info_int
  refine (callsIn_wide (n := 10)).1 ?_
  refine callsIn_of_wp_marks Try.func55 rfl trivial ?_
  simp only [Try.ntmps55, List.size_toArray, List.length_cons, List.length_nil, Nat.reduceAdd, Nat.reduceSub, Array.replicate_succ, Array.replicate_zero, List.push_toArray, List.append_toArray, List.nil_append, List.cons_append]
  gi_wp2_with fail
  refine ⟨trivial, (callsIn_wide.2 (valid_any iw ih a c xs n hn _ hm ((hr.below (Nat.le_refl _) hB0).mono hB0.size))).mono ?_⟩
  rintro e W1 ⟨rfl, hb1⟩
  rw [v0H.out]
  have hB1 : Below w.heap.size w W1 := hB0.trans (hb1.mono hB0.size)
  have k1 := ((Blk.new w 24 #[.int .i64 iw, .int .i64 ih, .slice a n c]).alloc (.cells #[.int .i64 0, .int .i64 0, .slice none 0 0] 24)).below hb1 (by simp <;> omega)
  have k2 := (Blk.new (w.alloc (.cells #[.int .i64 iw, .int .i64 ih, .slice a n c] 24)) 24 #[.int .i64 0, .int .i64 0, .slice none 0 0]).below hb1 (by simp <;> omega)
  have hs1 : w.heap.size + 2 ≤ W1.heap.size := by have := hb1.size; simpa using this
  simp only [World.size_alloc] at k2
  clear hb1 hB0
  have m0 := k1.cell (i := 0) rfl
  have m1 := k1.cell (i := 1) rfl
  have m2 := k1.cell (i := 2) rfl
  have c0 := k2.cell (i := 0) rfl
  have c1 := k2.cell (i := 1) rfl
  have c2 := k2.cell (i := 2) rfl
  have fc0 := k2.frozen 0
  have fc1 := k2.frozen 1
  have fc2 := k2.frozen 2
  cases v0 with
  | false =>
    gi_wp2_with fail
    have kf := put3_blk k2 (.int .i64 0) (.int .i64 0) (.slice none 0 0)
    have g0 := kf.cell (i := 0) rfl
    have g1 := kf.cell (i := 1) rfl
    have g2 := kf.cell (i := 2) rfl
    exact ⟨.tuple #[.agg #[.int .i64 0, .int .i64 0, .slice none 0 0], .int .i64 20], by simp [results, Try.results55, go_sem, g0, g1, g2], ⟨_, by rw [hsp.out]; rfl, by rw [hsp.out]; exact OwnIm_nil _ _⟩, hB1.trans (put3_below (by omega) _ _ _)⟩
  | true =>
    obtain ⟨⟨i1, i2⟩, ⟨i3, i4⟩, hlen, hall⟩ := vld_true v0H.out
    rw [hn.out] at hlen
    have hlenH := Lib.hid hlen
    have hallH := Lib.hid hall
    clear hlen hall
    obtain ⟨pw, rfl⟩ : ∃ pw : Nat, iw = (pw : Int) := ⟨iw.toNat, by omega⟩
    obtain ⟨ph, rfl⟩ : ∃ ph : Nat, ih = (ph : Int) := ⟨ih.toNat, by omega⟩
    have hN : pw * ph = n ∧ n ≤ 256 := by
      have h1 := hlenH.out
      obtain ⟨m1, m2⟩ := mul_small (a := (pw : Int)) (b := (ph : Int)) (m := 16) (n := 16) (by omega) (by omega) (by omega) (by omega)
      have h2 : ((pw * ph : Nat) : Int) = (pw : Int) * ph := by simp
      omega
    obtain ⟨hN1, hN2⟩ := hN
    have hN1H := Lib.hid hN1
    have hn0 : 0 < n := by rw [← hN1]; exact Nat.mul_pos (by omega) (by omega)
    obtain ⟨ba, oa, rfl, hba, hca⟩ := rd_at hr hn.out hn0
    have hcaH := Lib.hid hca
    clear hca hr
    clear hN1 m0 m1 m2 c0 c1 c2 fc0 fc1 fc2
    gi_wp2_with fail
    refine wpIn_mono (Q := fun e a' w' => e = .normal ∧ ∃ b4 g, FW w.heap.size b4 g pw ph (some ⟨ba, oa, none⟩) c n w w' (List.replicate n 0) ∧ w.heap.size + 2 ≤ g ∧ ∃ u : Nat → Value, a' = ⟨#[u 0, .pointer (some ⟨w.heap.size, 0, none⟩), .pointer (some ⟨w.heap.size + 1, 0, none⟩), u 3, .pointer (some ⟨b4, 0, none⟩), u 5, u 6, u 7, u 8, u 9, u 10, u 11, u 12, u 13, u 14, u 15, u 16, u 17, u 18, u 19, u 20, u 21, u 22, u 23, u 24, u 25, u 26, u 27, u 28, u 29, u 30, u 31, u 32, u 33, u 34, u 35, u 36, u 37, u 38, u 39, u 40, u 41, u 42, u 43, u 44, u 45, u 46, u 47, u 48, u 49, u 50, u 51, u 52, u 53, u 54, u 55, u 56, u 57, u 58, u 59, u 60, u 61, u 62, u 63, u 64, u 65, u 66, u 67, u 68, u 69, u 70, u 71, u 72, u 73, u 74, u 75, u 76, u 77, u 78, u 79, u 80, u 81, u 82, u 83, u 84, u 85], []⟩) ?draw ?cont
    case draw =>
      refine wpIn_wide.2 ?_
      have hS : Below W1.heap.size W1 W1.drew := (Below.refl _ _).drew
      refine plain_region (fun W' => Below W1.heap.size W1 W') 10 11 (by kernel_rfl) rfl ?_
      simp only [Array.replicate_succ, Array.replicate_zero, List.push_toArray, List.nil_append, List.cons_append]
      obtain ⟨X0, hX0⟩ : ∃ X, W1.drew = X := ⟨_, rfl⟩
      rw [hX0] at hS ⊢
      clear hX0
      refine take_op 0 (v := ?r1v) rfl (by kernel_rfl) (fun _ _ _ h => nomatch h.1) (by rfl) hS (fun w' hS' => ?r1y) ?r1z
      case r1y =>
        go_simp
        rfl
      simp only [List.setIfInBounds_toArray, List.set_cons_zero, List.set_cons_succ]
      refine take_op 1 (v := ?r2v) rfl (by kernel_rfl) (fun _ _ _ h => nomatch h.1) (by rfl) hS (fun w' hS' => ?r2y) ?r2z
      case r2y =>
        have m0 := (k1.below hS' k1.lt).cell (i := 0) rfl
        have m1 := (k1.below hS' k1.lt).cell (i := 1) rfl
        have m2 := (k1.below hS' k1.lt).cell (i := 2) rfl
        go_simp
        rfl
      simp only [List.setIfInBounds_toArray, List.set_cons_zero, List.set_cons_succ]
      refine take_op 2 (v := ?r3v) rfl (by kernel_rfl) (fun _ _ _ h => nomatch h.1) (by rfl) hS (fun w' hS' => ?r3y) ?r3z
      case r3y =>
        go_simp
        rfl
      simp only [List.setIfInBounds_toArray, List.set_cons_zero, List.set_cons_succ]
      refine take_op 3 (v := ?r4v) rfl (by kernel_rfl) (fun _ _ _ h => nomatch h.1) (by rfl) hS (fun w' hS' => ?r4y) ?r4z
      case r4y =>
        have m0 := (k1.below hS' k1.lt).cell (i := 0) rfl
        have m1 := (k1.below hS' k1.lt).cell (i := 1) rfl
        have m2 := (k1.below hS' k1.lt).cell (i := 2) rfl
        go_simp
        rfl
      simp only [List.setIfInBounds_toArray, List.set_cons_zero, List.set_cons_succ]
      refine take_op 4 (v := ?r5v) rfl (by kernel_rfl) (fun _ _ _ h => nomatch h.1) (by rfl) hS (fun w' hS' => ?r5y) ?r5z
      case r5y =>
        go_simp
        rfl
      simp only [List.setIfInBounds_toArray, List.set_cons_zero, List.set_cons_succ]
      refine take_op 5 (v := ?r6v) rfl (by kernel_rfl) (fun _ _ _ h => nomatch h.1) (by rfl) hS (fun w' hS' => ?r6y) ?r6z
      case r6y =>
        have m0 := (k1.below hS' k1.lt).cell (i := 0) rfl
        have m1 := (k1.below hS' k1.lt).cell (i := 1) rfl
        have m2 := (k1.below hS' k1.lt).cell (i := 2) rfl
        go_simp
        rfl
      simp only [List.setIfInBounds_toArray, List.set_cons_zero, List.set_cons_succ]
      refine take_op 6 (v := ?r7v) rfl (by kernel_rfl) (fun _ _ _ h => nomatch h.1) (by rfl) hS (fun w' hS' => ?r7y) ?r7z
      case r7y =>
        go_simp
        rfl
      simp only [List.setIfInBounds_toArray, List.set_cons_zero, List.set_cons_succ]
      refine fork2 (i := 7) (j := 9) (by kernel_rfl) ?_ ?_
      · refine step_at 7 rfl (fun K hK => ?_)
        have hszA := hS.size
        refine step_make_full rfl _ _ 22 rfl w.heap.size 3 i0 (.int .i64 0) 1 Try.underlying22 hi hz0 hz1 .i64 .i64 n rfl rfl (by rw [hz2]; omega) (by unfold maxLen; omega) (by omega) ?_
        intro X7 hown hgX
        have hS7 : Below W1.heap.size W1 X7 := hS.grown hgX hS.size (fun k e => by cases e)
        refine hK.out _ _ (fun h => hS7) ?_
        clear hK K
        try simp only [Act.put, List.setIfInBounds_toArray, List.set_cons_zero, List.set_cons_succ]
        refine take_op 8 (v := ?r8v) rfl (by kernel_rfl) (fun _ _ _ h => nomatch h.1) (by rfl) hS7 (fun w' hS' => ?r8y) ?r8z
        case r8y =>
          go_simp
          rfl
        simp only [List.setIfInBounds_toArray, List.set_cons_zero, List.set_cons_succ]
        refine step_op 9 (by kernel_rfl) rfl (fun K hK => ?_)
        have hszB := hS7.size
        rw [if_pos (by rfl)]
        go_simp
        have hS9' := below_al hS7 (.cells #[.int .i64 0, .int .i64 0, .slice none 0 0] 24)
        obtain ⟨X9, hX9⟩ : ∃ X, X7.alloc (.cells #[.int .i64 0, .int .i64 0, .slice none 0 0] 24) = X := ⟨_, rfl⟩
        have k4 := Blk.new X7 24 #[.int .i64 0, .int .i64 0, .slice none 0 0]
        have hgZ : X7.grownBy X9 none := hX9 ▸ World.grownBy_alloc _ _ none
        rw [hX9] at hS9' k4 ⊢
        have hS9 := hS9'
        clear hS9'
        refine hK.out _ _ (fun h => hS9) ?_
        clear hK K
        try simp only [Act.put, List.setIfInBounds_toArray, List.set_cons_zero, List.set_cons_succ]
        refine step_op 10 (by kernel_rfl) rfl (fun K hK => ?_)
        have hownZ := hown.kept hgZ (.inr (by simp [Value.ownBlock]))
        obtain ⟨b4, hb4⟩ : ∃ b, X7.heap.size = b := ⟨_, rfl⟩
        obtain ⟨g, hg4⟩ : ∃ b, X0.heap.size = b := ⟨_, rfl⟩
        rw [hg4] at hownZ ⊢
        rw [hb4] at k4 ⊢
        have d0 := k4.cell (i := 0) rfl
        have d1 := k4.cell (i := 1) rfl
        have d2 := k4.cell (i := 2) rfl
        have f0 := k4.frozen 0
        have f1 := k4.frozen 1
        have f2 := k4.frozen 2
        rw [if_pos (by rfl)]
        go_simp
        refine hK.out _ _ (fun h => absurd h (by omega)) ?_
        clear hK K
        try simp only [Act.put, List.setIfInBounds_toArray, List.set_cons_zero, List.set_cons_succ]
        refine done_ops (by kernel_rfl) ?_
        have hzz : (madeCells (Value.int .i64 0).cells (n * 1)).toList = (List.replicate n (0 : Int)).map (Value.int .i64) := by simp only [madeCells, Value.cells]; simp [Nat.mod_one, List.map_const']
        rw [hzz] at hownZ
        have hbb := hB1.trans (hS9.mono hB1.size)
        have hgw : w.heap.size + 2 ≤ g := by omega
        exact ⟨rfl, b4, g, ⟨(put3_below (n := b4) (B := b4) (Nat.le_refl _) _ _ _).block _ (by omega) |>.trans ((k1.below hS9 k1.lt)), ((put3_below (n := b4) (B := b4) (Nat.le_refl _) _ _ _).block _ (by omega)).trans (k2.below hS9 k2.lt), put3_blk k4 _ _ _, put3_row hownZ (k4.not_row (by decide) hownZ) _ _ _, hbb.trans (put3_below (by omega) _ _ _)⟩, hgw, ex_fn rfl⟩
      · refine step_at 9 rfl (fun K hK => ?_)
        have hszB := hS.size
        rw [if_pos (by rfl)]
        go_simp
        have hS9' := below_al hS (.cells #[.int .i64 0, .int .i64 0, .slice none 0 0] 24)
        obtain ⟨X9, hX9⟩ : ∃ X, X0.alloc (.cells #[.int .i64 0, .int .i64 0, .slice none 0 0] 24) = X := ⟨_, rfl⟩
        have k4 := Blk.new X0 24 #[.int .i64 0, .int .i64 0, .slice none 0 0]
        have hgZ : X0.grownBy X9 none := hX9 ▸ World.grownBy_alloc _ _ none
        rw [hX9] at hS9' k4 ⊢
        have hS9 := hS9'
        clear hS9'
        refine hK.out _ _ (fun h => hS9) ?_
        clear hK K
        try simp only [Act.put, List.setIfInBounds_toArray, List.set_cons_zero, List.set_cons_succ]
        refine step_op 7 (by kernel_rfl) rfl (fun K hK => ?_)
        have hszA := hS9.size
        refine step_make_full rfl _ _ 22 rfl w.heap.size 3 i0 (.int .i64 0) 1 Try.underlying22 hi hz0 hz1 .i64 .i64 n rfl rfl (by rw [hz2]; omega) (by unfold maxLen; omega) (by omega) ?_
        intro X7 hown hgX
        have hS7 : Below W1.heap.size W1 X7 := hS9.grown hgX hS9.size (fun k e => by cases e)
        refine hK.out _ _ (fun h => hS7) ?_
        clear hK K
        try simp only [Act.put, List.setIfInBounds_toArray, List.set_cons_zero, List.set_cons_succ]
        refine take_op 8 (v := ?r9v) rfl (by kernel_rfl) (fun _ _ _ h => nomatch h.1) (by rfl) hS7 (fun w' hS' => ?r9y) ?r9z
        case r9y =>
          go_simp
          rfl
        simp only [List.setIfInBounds_toArray, List.set_cons_zero, List.set_cons_succ]
        refine step_op 10 (by kernel_rfl) rfl (fun K hK => ?_)
        replace k4 := k4.kept hgX (by simp)
        have hownZ := hown
        obtain ⟨b4, hb4⟩ : ∃ b, X0.heap.size = b := ⟨_, rfl⟩
        obtain ⟨g, hg4⟩ : ∃ b, X9.heap.size = b := ⟨_, rfl⟩
        rw [hg4] at hownZ ⊢
        rw [hb4] at k4 ⊢
        have d0 := k4.cell (i := 0) rfl
        have d1 := k4.cell (i := 1) rfl
        have d2 := k4.cell (i := 2) rfl
        have f0 := k4.frozen 0
        have f1 := k4.frozen 1
        have f2 := k4.frozen 2
        rw [if_pos (by rfl)]
        go_simp
        refine hK.out _ _ (fun h => absurd h (by omega)) ?_
        clear hK K
        try simp only [Act.put, List.setIfInBounds_toArray, List.set_cons_zero, List.set_cons_succ]
        refine done_ops (by kernel_rfl) ?_
        have hzz : (madeCells (Value.int .i64 0).cells (n * 1)).toList = (List.replicate n (0 : Int)).map (Value.int .i64) := by simp only [madeCells, Value.cells]; simp [Nat.mod_one, List.map_const']
        rw [hzz] at hownZ
        have hbb := hB1.trans (hS7.mono hB1.size)
        have hgw : w.heap.size + 2 ≤ g := by omega
        exact ⟨rfl, b4, g, ⟨(put3_below (n := b4) (B := b4) (Nat.le_refl _) _ _ _).block _ (by omega) |>.trans ((k1.below hS7 k1.lt)), ((put3_below (n := b4) (B := b4) (Nat.le_refl _) _ _ _).block _ (by omega)).trans (k2.below hS7 k2.lt), put3_blk k4 _ _ _, put3_row hownZ (k4.not_row (by decide) hownZ) _ _ _, hbb.trans (put3_below (by omega) _ _ _)⟩, hgw, ex_fn rfl⟩
    case cont =>
      rintro e a' W2 ⟨rfl, b4, g, hF, hgl, u, rfl⟩
      have m0 := (hF.k1.alloc (.cells #[.slice none 0 0] 22)).cell (i := 0) rfl
      have m1 := (hF.k1.alloc (.cells #[.slice none 0 0] 22)).cell (i := 1) rfl
      have m2 := (hF.k1.alloc (.cells #[.slice none 0 0] 22)).cell (i := 2) rfl
      gi_wp2_with fail
      clear m0 m1 m2
      have hF1 := hF.grown (World.grownBy_alloc W2 (.cells #[.slice none 0 0] 22) none) (Nat.le_refl _)
      have kq := Blk.new W2 22 #[.slice none 0 0]
      obtain ⟨bq, hbq⟩ : ∃ b, W2.heap.size = b := ⟨_, rfl⟩
      rw [hbq] at kq ⊢
      have lgq : g < bq := by have := hF.gB; omega
      clear hF
      obtain ⟨W3, hW3⟩ : ∃ X, W2.alloc (.cells #[.slice none 0 0] 22) = X := ⟨_, rfl⟩
      rw [hW3] at hF1 kq ⊢
      clear hW3 hbq
      clear W2
      have hF := hF1
      clear hF1
      obtain ⟨z, hz⟩ : ∃ z, isZ xs = z := ⟨_, rfl⟩
      have hzH := Lib.hid hz
      have hzE := Lib.hid (fun k : Nat => show z k = (px xs k == 0) by rw [← hz]; rfl)
      clear hz
      obtain ⟨f, hf⟩ : ∃ f : Nat → Int, (fun i => if z i = true then 0 else (pw : Int) + ph) = f := ⟨_, rfl⟩
      have hfz := Lib.hid (fun k (h : z k = true) => show f k = 0 by rw [← hf]; exact if_pos h)
      have hfn := Lib.hid (fun k (h : z k = false) => show f k = (pw : Int) + ph by rw [← hf]; exact if_neg (by rw [h]; decide))
      have hfH := Lib.hid hf
      clear hf
      have hbq : w.heap.size ≤ bq := by omega
      have hL0 := Lib.hid (show List.replicate n (0 : Int) = upto f n 0 by rw [upto_zero])
      rw [hL0.out] at hF
      clear hL0
      gi_loopw [26] (fun i wr => ∃ (k : Nat) (qv : Value), k ≤ n ∧ i = .int .i64 k ∧ FW w.heap.size b4 g pw ph (some ⟨ba, oa, none⟩) c n w wr (upto f n k) ∧ Blk wr bq 22 #[qv] ∧ QRow w.heap.size wr qv (((List.range k).filter z).map fun j : Nat => (j : Int)) ∧ qv.ownBlock ≠ some g) (fun i _ => n - (intOf i).toNat)
      case atStart => exact ⟨0, _, Nat.zero_le _, rfl, hF, kq, QRow.nil _ _, by simp [Value.ownBlock]⟩
      case round =>
        clear hF kq
        clear W3
        obtain ⟨k, qv, hk, rfl, hF, kq, hq, hqg⟩ := hrel
        have lqb := kq.lt
        have lgb := hF.gB
        by_cases hlt : k < n
        · have hcell := (hF.bel.cell (p := ⟨ba, oa + k, none⟩) hba).trans (hcaH.out k hlt)
          have hzk := hzE.out k
          have hFs := Lib.hid (filter_range_succ z k)
          have hlenq := Lib.hid (show (((List.range k).filter z).map fun j : Nat => (j : Int)).length ≤ k by rw [List.length_map]; exact Nat.le_trans (List.length_filter_le _ _) (by simp))
          obtain ⟨zk, hzk2⟩ : ∃ v, z k = v := ⟨_, rfl⟩
          have hzk3 := Lib.hid hzk2
          rw [hzk2] at hzk
          replace hzk := hzk.symm
          clear hzk2
          have c0 := kq.cell (i := 0) rfl
          have m0 := hF.k1.cell (i := 0) rfl
          have m1 := hF.k1.cell (i := 1) rfl
          have o2 := hF.k4.cell (i := 2) rfl
          have rw0 := hF.cell (Below.refl _ wr) hlt
          have rf0 := hF.frozen (Below.refl _ wr) k
          cases zk with
          | true =>
            gi_wp2_with (gi_at_builtin; refine q_append rfl _ _ rfl w.heap.size qv _ rfl (hq.alloc _) ⟨wr.heap.size, 0, none⟩ 1 k rfl ((Blk.new wr 3 #[.int .i64 k]).cell rfl) (Nat.lt_of_le_of_lt hlenq.out (by omega)) (by simp; omega) ?_; intro v' w4 hq4 hg4 hv4; obtain ⟨va, vm, vc, rfl⟩ := hq4.form; have kq4 := (kq.alloc (.cells #[.int .i64 k] 3)).kept hg4 (hq.not_blk kq (by decide)).symm; have c4 := kq4.cell (i := 0) rfl; have f4 := kq4.frozen 0)
            go_roundw
            case rel =>
              have hFa := hF.grown (World.grownBy_alloc wr (.cells #[.int .i64 k] 3) none) (Nat.le_refl _)
              have hFb := hFa.queue (Nat.le_refl _) (hq.alloc _) hg4 hqg
              refine ⟨k + 1, _, by omega, by go_num, ?_, kq4.set 0 _, ?_, ?_⟩
              · rw [upto_skip f n k (hfz.out k hzk3.out)]
                exact hFb.box (Nat.le_refl _) kq4 hbq (by decide) (by decide) _ _
              · rw [hFs.out, if_pos hzk3.out, List.map_append]
                exact hq4.box kq4 (by decide) _ _
              · intro e
                rcases hv4 with h | ⟨g', h, h2⟩
                · exact hqg (by rw [← h]; exact e)
                · rw [h] at e; cases e; simp at h2; omega
            case measure => simp [intOf]; omega
          | false =>
            gi_wp2_with fail
            go_roundw
            case rel =>
              have hst := hF.store (Nat.le_refl _) k ((pw : Int) + ph)
              refine ⟨k + 1, qv, by omega, by go_num, ?_, kq.kept hst.2 (by simp; omega), ?_, hqg⟩
              · have := hst.1
                rw [← hfn.out k hzk3.out, upto_set f n k hlt] at this
                rw [hfn.out k hzk3.out] at this
                exact this
              · rw [hFs.out, if_neg (by rw [hzk3.out]; decide), List.append_nil]
                exact hq.kept hst.2 (fun x hx e => hqg (by rw [hx, ← e]))
            case measure => simp [intOf]; omega
        · have hkn : n = k := by omega
          subst hkn
          rw [upto_all] at hF
          have hsl := Lib.hid (@DS.start pw ph z)
          rw [hN1H.out] at hsl
          have hfe := Lib.hid (show (List.range n).map f = (List.range n).map fun i => if z i = true then 0 else (pw : Int) + ph by rw [← hfH.out])
          rw [hfe.out] at hF
          have hcap := Lib.hid (show sumN ((List.range n).map fun i => if z i = true then (0 : Int) else (pw : Int) + ph) + ((List.range n).filter z).length ≤ 8448 by
            have h1 := sumN_le (M := 32) ((List.range n).map fun i => if z i = true then (0 : Int) else (pw : Int) + ph) (fun x hx => by
              obtain ⟨j, _, rfl⟩ := List.mem_map.1 hx
              split <;> omega)
            have h2 := List.length_filter_le z (List.range n)
            rw [List.length_map, List.length_range] at h1
            rw [List.length_range] at h2
            omega)
          obtain ⟨L0, hL0⟩ : ∃ L, ((List.range n).map fun i => if z i = true then (0 : Int) else (pw : Int) + ph) = L := ⟨_, rfl⟩
          obtain ⟨q0, hq0⟩ : ∃ q, (List.range n).filter z = q := ⟨_, rfl⟩
          rw [hL0] at hF hsl hcap
          rw [hq0] at hq hsl hcap
          have hDS := hsl.out
          clear hL0 hq0 hfe hsl
          gi_wp2_with fail
          clear hlt hzE hfz hfn hfH
          refine loopM (fun m a' w' => ∃ (rs : List Nat) (qv : Value) (q : List Nat) (L : List Int), FW w.heap.size b4 g pw ph (some ⟨ba, oa, none⟩) c n w w' L ∧ Blk w' bq 22 #[qv] ∧ QRow w.heap.size w' qv (q.map fun j : Nat => (j : Int)) ∧ qv.ownBlock ≠ some g ∧ Marks w.heap.size rs w' ∧ DS pw ph z L q (fun _ => False) ∧ sumN L + q.length ≤ 8448 ∧ m = 2 * sumN L + q.length ∧ ∃ u : Nat → Value, a' = ⟨#[u 0, .pointer (some ⟨w.heap.size, 0, none⟩), .pointer (some ⟨w.heap.size + 1, 0, none⟩), u 3, .pointer (some ⟨b4, 0, none⟩), .pointer (some ⟨bq, 0, none⟩), u 6, u 7, u 8, u 9, u 10, u 11, u 12, u 13, u 14, u 15, u 16, u 17, u 18, u 19, u 20, u 21, u 22, u 23, u 24, u 25, u 26, u 27, u 28, u 29, u 30, u 31, u 32, u 33, u 34, u 35, u 36, u 37, u 38, u 39, u 40, u 41, u 42, u 43, u 44, u 45, u 46, u 47, u 48, u 49, u 50, u 51, u 52, u 53, u 54, u 55, u 56, u 57, u 58, u 59, u 60, u 61, u 62, u 63, u 64, u 65, u 66, u 67, u 68, u 69, u 70, u 71, u 72, u 73, u 74, u 75, u 76, u 77, u 78, u 79, u 80, u 81, u 82, u 83, u 84, u 85], rs.map markD⟩) (2 * sumN L0 + q0.length) ?start ?round
          case start => exact ⟨[], qv, q0, L0, hF, kq, hq, hqg, Marks.nil _ _, hDS, hcap.out, rfl, ex_fn rfl⟩
          case round =>
            clear hF kq hq hqg hDS hcap lqb lgb
            rintro m a' W ⟨rs, qv, q, L, hF, kq, hq, hqg, hM, hDS, hcap, rfl, u, rfl⟩
            have lqb := kq.lt
            have lgb := hF.gB
            have c0 := kq.cell (i := 0) rfl
            have f0 := kq.frozen 0
            cases q with
            | nil =>
              obtain ⟨va, vc, rfl⟩ := hq.slice
              have o0 := hF.k4.cell (i := 0) rfl
              have o1 := hF.k4.cell (i := 1) rfl
              have o2 := hF.k4.cell (i := 2) rfl
              have r0 := hF.k2.cell (i := 0) rfl
              have r1 := hF.k2.cell (i := 1) rfl
              have r2 := hF.k2.cell (i := 2) rfl
              have fr0 := hF.k2.frozen 0
              have fr1 := hF.k2.frozen 1
              have fr2 := hF.k2.frozen 2
              gi_wp2_with fail
              clear o0 o1 o2 r0 r1 r2 fr0 fr1 fr2
              have kf := put3_blk hF.k2 (.int .i64 pw) (.int .i64 ph) (.slice (some ⟨g, 0, none⟩) n n)
              have rowf := put3_row hF.row (hF.k2.not_row (by decide) hF.row) (.int .i64 pw) (.int .i64 ph) (.slice (some ⟨g, 0, none⟩) n n)
              refine leaves_marks (B := w.heap.size) rs _ (hM.others (put3_others _ _ _ _ _)) fun W' hc hb => ?_
              have kf' : Blk W' (w.heap.size + 1) 24 _ := hc _ _ _ _ kf
              have g0 := kf'.cell (i := 0) rfl
              have g1 := kf'.cell (i := 1) rfl
              have g2 := kf'.cell (i := 2) rfl
              have hLd := hDS.done
              rw [← hzH.out, distG_img xs (by omega) (by omega) (by omega)] at hLd
              have hll : L.length = n := by rw [hDS.len]; exact hN1H.out
              have hLdH := Lib.hid hLd
              have hbe : Below w.heap.size w W' := (hF.bel.trans (put3_below (by omega) _ _ _)).trans (hb _ (Nat.le_refl _) (Nat.le_trans hF.bel.size (by simp)))
              have rowf' : OwnIm w.heap.size W' (.agg #[.int .i64 pw, .int .i64 ph, .slice (some ⟨g, 0, none⟩) n n]) pw ph L := ⟨_, rfl, row_len hll.symm (row_of_cells hc rowf)⟩
              rw [hLdH.out] at rowf'
              exact ⟨.tuple #[.agg #[.int .i64 pw, .int .i64 ph, .slice (some ⟨g, 0, none⟩) n n], .int .i64 0], by simp [results, Try.results55, go_sem, g0, g1, g2], ⟨_, by rw [hsp.out]; rfl, by rw [hsp.out]; exact rowf'⟩, hbe⟩
            | cons i q =>
              rw [List.map_cons] at hq
              obtain ⟨g', off, cap, hqv, hcap1, hcap2, hh, hbg, htl⟩ := hq.head
              subst hqv
              have hin := hDS.lt i (by simp)
              have hrt := fun W' => run_tail W' g' off (q.map fun j : Nat => (j : Int)).length cap
              obtain ⟨va, hva⟩ : ∃ va : Addr, (if cap = 1 then (⟨g', off, none⟩ : Addr) else ⟨g', off + 1, none⟩) = va := ⟨_, rfl⟩
              have hvab : va.block = g' := by rw [← hva]; split <;> rfl
              rw [hva] at htl
              simp only [hva] at hrt
              clear hva
              obtain ⟨vm, hvm⟩ : ∃ m, (q.map fun j : Nat => (j : Int)).length = m := ⟨_, rfl⟩
              rw [hvm] at htl hcap1
              simp only [hvm] at hrt
              rw [hvm] at kq hq c0
              have hFs := hF.box (Nat.le_refl _) kq hbq (by decide) (by decide) 0 (.slice (some va) vm (cap - 1))
              have kqs := kq.set 0 (.slice (some va) vm (cap - 1))
              have m0 := (hFs.k1.alloc (.cells #[.int .i64 i] 3)).cell (i := 0) rfl
              have m1 := (hFs.k1.alloc (.cells #[.int .i64 i] 3)).cell (i := 1) rfl
              have m2 := (hFs.k1.alloc (.cells #[.int .i64 i] 3)).cell (i := 2) rfl
              gi_wp2_with fail
              refine ⟨trivial, (callsIn_wide.2 (neighbours_any pw ph (.slice (some ⟨ba, oa, none⟩) n c) i false ⟨_, _, _, rfl⟩ _)).mono ?_⟩
              rintro e1 V1 ⟨rfl, hV1⟩
              clear m0 m1 m2
              obtain ⟨V0, hV0⟩ : ∃ V, (W.setCell ⟨bq, 0, none⟩ (.slice (some va) vm (cap - 1))).alloc (.cells #[.int .i64 i] 3) = V := ⟨_, rfl⟩
              rw [hV0] at hV1 ⊢
              have hgV : V0.grownBy V1 none := hV1 ▸ grown_trans (grown_trans (World.grownBy_alloc _ _ _) (World.grownBy_alloc _ _ _)) (World.grownBy_alloc _ _ _)
              have kg1 := ((Blk.new V0 100 #[.int .i64 pw, .int .i64 ph, .slice (some ⟨ba, oa, none⟩) n c]).alloc (.cells #[.int .i64 i] 3)).alloc (.cells #[.bool false] 4)
              have ki1 := (Blk.new (V0.alloc (.cells #[.int .i64 pw, .int .i64 ph, .slice (some ⟨ba, oa, none⟩) n c] 100)) 3 #[.int .i64 i]).alloc (.cells #[.bool false] 4)
              have ke1 := Blk.new ((V0.alloc (.cells #[.int .i64 pw, .int .i64 ph, .slice (some ⟨ba, oa, none⟩) n c] 100)).alloc (.cells #[.int .i64 i] 3)) 4 #[.bool false]
              simp only [World.size_alloc] at ki1 ke1
              rw [hV1] at kg1 ki1 ke1
              have hvg : (Value.slice (some va) vm (cap - 1)).ownBlock ≠ some g := by
                simp only [Value.ownBlock] at hqg ⊢
                rw [hvab]; exact hqg
              obtain ⟨hQ, hQl, hs0, hs1'⟩ := QI.start hF kq htl hvg hM hbq (Nat.le_refl _) hV0 hgV (by omega)
              rw [hs0] at kg1 ki1 ke1
              clear hV0 hV1 hgV hF kq hq htl hM hFs kqs c0 f0 hh
              gi_wp2_with fail
              have hlt0 := fun (x : Nat) (h : W.heap.size + 1 ≤ x) => hQ.ntq (k := x) (by omega) (by omega) (fun e => by have := hQl x e; omega)
              refine wp_over (gf := 133) (lb := #[.pointer (some ⟨W.heap.size + 1 + 1, 0, none⟩), .pointer (some ⟨W.heap.size + 1, 0, none⟩), .pointer (some ⟨W.heap.size + 1 + 2, 0, none⟩)]) rfl (enters_of Try.func133 (by kernel_rfl) rfl) (nb_seq [g, bq] bq pw ph i (by omega) (by omega) (by omega) (by omega) hin false (some ⟨ba, oa, none⟩) n c (W.heap.size + 1 + 1) (W.heap.size + 1) (W.heap.size + 1 + 2) V1 ki1 kg1 ke1 (hlt0 _ (by omega)) (hlt0 _ (by omega)) (hlt0 _ (by omega)) (by omega) (fun k => hQ.tlt)) Kq.trans (fun W o o' _ _ _ => Kq.putR (by omega) W o') (fun _ => rfl)
                (fun pre W' => ∃ L' q' qv', QI w.heap.size b4 g bq W.heap.size pw ph (some ⟨ba, oa, none⟩) c n w rs i V1.heap.size W' L' q' qv' ∧ DI pw ph z i (px L i) (2 * sumN L + q.length) pre L' q') (QI.own _ (Nat.le_refl _) (by omega)) ⟨L, q, _, hQ, DI.begin hDS hcap⟩
                ?act ?assign ?body ?done
              case assign =>
                intro l x W' K hK
                gi_wp2
                exact hK
              case body =>
                rintro l pre k V ⟨L', q', qv', hQ', hDI⟩ hk hlen
                obtain ⟨hkn, hik⟩ := nbs_near hin hk
                rw [nearB_four] at hik
                have hbd := hDI.ds.bd hkn
                have hbd2 := hDI.ds.bd hin
                rw [hN1H.out] at hkn
                have hin' := hN1H.out ▸ hin
                have hown := hDI.own
                obtain ⟨d, hd⟩ : ∃ d, px L i = d := ⟨_, rfl⟩
                rw [hd] at hown hDI
                rw [hown] at hbd2
                have hlq := Lib.hid hDI.cap
                have hS : Below V.heap.size V V.drew := (Below.refl _ _).drew
                gi_wp2_with fail
                refine round_region (fun W' => Below V.heap.size V W') 12 12 l _ (by kernel_rfl) (by kernel_rfl) (fun ⟨_, _, h⟩ => nomatch h.1) rfl ?_
                simp only [Array.replicate_succ, Array.replicate_zero, List.push_toArray, List.nil_append, List.cons_append]
                refine take_op 0 (v := ?sv0) rfl (by kernel_rfl) (fun _ _ _ h => h) (by rfl) hS (fun w' hS' => ?sy0) ?sz0
                case sy0 =>
                  go_simp
                  rfl
                simp only [List.setIfInBounds_toArray, List.set_cons_zero, List.set_cons_succ]
                refine take_op 1 (v := ?sv1) rfl (by kernel_rfl) (fun _ _ _ h => h) (by rfl) hS (fun w' hS' => ?sy1) ?sz1
                case sy1 =>
                  have o2 := (hQ'.fw.k4.below hS' hQ'.fw.k4.lt).cell (i := 2) rfl
                  have j0 := (hQ'.ki.below hS' hQ'.ki.lt).cell (i := 0) rfl
                  have rk := hQ'.fw.cell hS' hkn
                  have ri := hQ'.fw.cell hS' hin'
                  rw [hown] at ri
                  go_simp
                  rfl
                simp only [List.setIfInBounds_toArray, List.set_cons_zero, List.set_cons_succ]
                refine take_op 2 (v := ?sv2) rfl (by kernel_rfl) (fun _ _ _ h => h) (by rfl) hS (fun w' hS' => ?sy2) ?sz2
                case sy2 =>
                  go_simp
                  rfl
                simp only [List.setIfInBounds_toArray, List.set_cons_zero, List.set_cons_succ]
                refine take_op 3 (v := ?sv3) rfl (by kernel_rfl) (fun _ _ _ h => h) (by rfl) hS (fun w' hS' => ?sy3) ?sz3
                case sy3 =>
                  go_simp
                  try go_ints
                  first
                  | rfl
                  | rw [if_pos ⟨by omega, by omega⟩]
                simp only [List.setIfInBounds_toArray, List.set_cons_zero, List.set_cons_succ]
                refine take_op 4 (v := ?sv4) rfl (by kernel_rfl) (fun _ _ _ h => h) (by rfl) hS (fun w' hS' => ?sy4) ?sz4
                case sy4 =>
                  have o2 := (hQ'.fw.k4.below hS' hQ'.fw.k4.lt).cell (i := 2) rfl
                  have j0 := (hQ'.ki.below hS' hQ'.ki.lt).cell (i := 0) rfl
                  have rk := hQ'.fw.cell hS' hkn
                  have ri := hQ'.fw.cell hS' hin'
                  rw [hown] at ri
                  go_simp
                  rfl
                simp only [List.setIfInBounds_toArray, List.set_cons_zero, List.set_cons_succ]
                refine take_op 5 (v := ?sv5) rfl (by kernel_rfl) (fun _ _ _ h => h) (by rfl) hS (fun w' hS' => ?sy5) ?sz5
                case sy5 =>
                  go_simp
                  rfl
                simp only [List.setIfInBounds_toArray, List.set_cons_zero, List.set_cons_succ]
                refine take_op 6 (v := ?sv6) rfl (by kernel_rfl) (fun _ _ _ h => h) (by rfl) hS (fun w' hS' => ?sy6) ?sz6
                case sy6 =>
                  have o2 := (hQ'.fw.k4.below hS' hQ'.fw.k4.lt).cell (i := 2) rfl
                  have j0 := (hQ'.ki.below hS' hQ'.ki.lt).cell (i := 0) rfl
                  have rk := hQ'.fw.cell hS' hkn
                  have ri := hQ'.fw.cell hS' hin'
                  rw [hown] at ri
                  go_simp
                  rfl
                simp only [List.setIfInBounds_toArray, List.set_cons_zero, List.set_cons_succ]
                refine take_op 7 (v := ?sv7) rfl (by kernel_rfl) (fun _ _ _ h => h) (by rfl) hS (fun w' hS' => ?sy7) ?sz7
                case sy7 =>
                  have o2 := (hQ'.fw.k4.below hS' hQ'.fw.k4.lt).cell (i := 2) rfl
                  have j0 := (hQ'.ki.below hS' hQ'.ki.lt).cell (i := 0) rfl
                  have rk := hQ'.fw.cell hS' hkn
                  have ri := hQ'.fw.cell hS' hin'
                  rw [hown] at ri
                  go_simp
                  rfl
                simp only [List.setIfInBounds_toArray, List.set_cons_zero, List.set_cons_succ]
                refine take_op 8 (v := ?sv8) rfl (by kernel_rfl) (fun _ _ _ h => h) (by rfl) hS (fun w' hS' => ?sy8) ?sz8
                case sy8 =>
                  go_simp
                  try go_ints
                  first
                  | rfl
                  | rw [if_pos ⟨by omega, by omega⟩]
                simp only [List.setIfInBounds_toArray, List.set_cons_zero, List.set_cons_succ]
                refine take_op 9 (v := ?sv9) rfl (by kernel_rfl) (fun _ _ _ h => h) (by rfl) hS (fun w' hS' => ?sy9) ?sz9
                case sy9 =>
                  have o2 := (hQ'.fw.k4.below hS' hQ'.fw.k4.lt).cell (i := 2) rfl
                  have j0 := (hQ'.ki.below hS' hQ'.ki.lt).cell (i := 0) rfl
                  have rk := hQ'.fw.cell hS' hkn
                  have ri := hQ'.fw.cell hS' hin'
                  rw [hown] at ri
                  go_simp
                  rfl
                simp only [List.setIfInBounds_toArray, List.set_cons_zero, List.set_cons_succ]
                refine take_op 10 (v := ?sv10) rfl (by kernel_rfl) (fun _ _ _ h => h) (by rfl) hS (fun w' hS' => ?sy10) ?sz10
                case sy10 =>
                  go_simp
                  try go_ints
                  rfl
                simp only [List.setIfInBounds_toArray, List.set_cons_zero, List.set_cons_succ]
                refine take_op 11 (v := ?sv11) rfl (by kernel_rfl) (fun _ _ _ h => h) (by rfl) hS (fun w' hS' => ?sy11) ?sz11
                case sy11 =>
                  go_simp
                  try go_ints
                  rfl
                simp only [List.setIfInBounds_toArray, List.set_cons_zero, List.set_cons_succ]
                refine done_ops (by kernel_rfl) ?_
                have hQd := hQ'.grown (Nat.le_refl _) (grown_of_below hS none)
                have hgd := grown_of_below hS none
                have hod := others_of_below hS
                obtain ⟨V2, hV2⟩ : ∃ X, V.drew = X := ⟨_, rfl⟩
                rw [hV2] at hQd hgd hod ⊢
                clear hS hV2
                have hkd : Kq [g, bq] bq (V1.heap.size + 1) V V2 := .grown hgd (by have := hQ'.kq.lt; omega)
                by_cases hlt : d + 1 < px L' k
                · have hP := hDI.push hin (by rw [hN1H.out]; exact hkn) hik hlt
                  have hS : Below V2.heap.size V2 V2.drew := (Below.refl _ _).drew
                  gi_wp2_with fail
                  refine round_region (fun W' => Below V2.heap.size V2 W') 10 11 l _ (by kernel_rfl) (by kernel_rfl) (fun ⟨_, _, h⟩ => nomatch h.1) rfl ?_
                  simp only [Array.replicate_succ, Array.replicate_zero, List.push_toArray, List.nil_append, List.cons_append]
                  obtain ⟨V3, hV3⟩ : ∃ X, V2.drew = X := ⟨_, rfl⟩
                  rw [hV3] at hS ⊢
                  clear hV3
                  refine take_op 0 (v := ?rv0) rfl (by kernel_rfl) (fun _ _ _ h => h) (by rfl) hS (fun w' hS' => ?ry0) ?rz0
                  case ry0 =>
                    go_simp
                    rfl
                  simp only [List.setIfInBounds_toArray, List.set_cons_zero, List.set_cons_succ]
                  refine take_op 1 (v := ?rv1) rfl (by kernel_rfl) (fun _ _ _ h => h) (by rfl) hS (fun w' hS' => ?ry1) ?rz1
                  case ry1 =>
                    have o2 := (hQd.fw.k4.below hS' hQd.fw.k4.lt).cell (i := 2) rfl
                    have j0 := (hQd.ki.below hS' hQd.ki.lt).cell (i := 0) rfl
                    have rk := hQd.fw.cell hS' hkn
                    have ri := hQd.fw.cell hS' hin'
                    rw [hown] at ri
                    go_simp
                    rfl
                  simp only [List.setIfInBounds_toArray, List.set_cons_zero, List.set_cons_succ]
                  refine take_op 2 (v := ?rv2) rfl (by kernel_rfl) (fun _ _ _ h => h) (by rfl) hS (fun w' hS' => ?ry2) ?rz2
                  case ry2 =>
                    go_simp
                    rfl
                  simp only [List.setIfInBounds_toArray, List.set_cons_zero, List.set_cons_succ]
                  refine take_op 3 (v := ?rv3) rfl (by kernel_rfl) (fun _ _ _ h => h) (by rfl) hS (fun w' hS' => ?ry3) ?rz3
                  case ry3 =>
                    go_simp
                    rfl
                  simp only [List.setIfInBounds_toArray, List.set_cons_zero, List.set_cons_succ]
                  refine take_op 4 (v := ?rv4) rfl (by kernel_rfl) (fun _ _ _ h => h) (by rfl) hS (fun w' hS' => ?ry4) ?rz4
                  case ry4 =>
                    have o2 := (hQd.fw.k4.below hS' hQd.fw.k4.lt).cell (i := 2) rfl
                    have j0 := (hQd.ki.below hS' hQd.ki.lt).cell (i := 0) rfl
                    have rk := hQd.fw.cell hS' hkn
                    have ri := hQd.fw.cell hS' hin'
                    rw [hown] at ri
                    go_simp
                    rfl
                  simp only [List.setIfInBounds_toArray, List.set_cons_zero, List.set_cons_succ]
                  refine take_op 5 (v := ?rv5) rfl (by kernel_rfl) (fun _ _ _ h => h) (by rfl) hS (fun w' hS' => ?ry5) ?rz5
                  case ry5 =>
                    have o2 := (hQd.fw.k4.below hS' hQd.fw.k4.lt).cell (i := 2) rfl
                    have j0 := (hQd.ki.below hS' hQd.ki.lt).cell (i := 0) rfl
                    have rk := hQd.fw.cell hS' hkn
                    have ri := hQd.fw.cell hS' hin'
                    rw [hown] at ri
                    go_simp
                    rfl
                  simp only [List.setIfInBounds_toArray, List.set_cons_zero, List.set_cons_succ]
                  refine take_op 6 (v := ?rv6) rfl (by kernel_rfl) (fun _ _ _ h => h) (by rfl) hS (fun w' hS' => ?ry6) ?rz6
                  case ry6 =>
                    go_simp
                    try go_ints
                    first
                    | rfl
                    | rw [if_pos ⟨by omega, by omega⟩]
                  simp only [List.setIfInBounds_toArray, List.set_cons_zero, List.set_cons_succ]
                  refine take_op 7 (v := ?rv7) rfl (by kernel_rfl) (fun _ _ _ h => h) (by rfl) hS (fun w' hS' => ?ry7) ?rz7
                  case ry7 =>
                    have o2 := (hQd.fw.k4.below hS' hQd.fw.k4.lt).cell (i := 2) rfl
                    have j0 := (hQd.ki.below hS' hQd.ki.lt).cell (i := 0) rfl
                    have rk := hQd.fw.cell hS' hkn
                    have ri := hQd.fw.cell hS' hin'
                    rw [hown] at ri
                    go_simp
                    rfl
                  simp only [List.setIfInBounds_toArray, List.set_cons_zero, List.set_cons_succ]
                  refine take_op 8 (v := ?rv8) rfl (by kernel_rfl) (fun _ _ _ h => h) (by rfl) hS (fun w' hS' => ?ry8) ?rz8
                  case ry8 =>
                    go_simp
                    try go_ints
                    rfl
                  simp only [List.setIfInBounds_toArray, List.set_cons_zero, List.set_cons_succ]
                  refine take_op 9 (v := ?rv9) rfl (by kernel_rfl) (fun _ _ _ h => h) (by rfl) hS (fun w' hS' => ?ry9) ?rz9
                  case ry9 =>
                    go_simp
                    try go_ints
                    first
                    | rfl
                    | rw [if_pos ⟨by omega, by omega⟩]
                  simp only [List.setIfInBounds_toArray, List.set_cons_zero, List.set_cons_succ]
                  refine step_op 10 (by kernel_rfl) rfl (fun K hK => ?_)
                  have rk := hQd.fw.cell hS hkn
                  have fk := hQd.fw.frozen hS k
                  rw [if_pos (by rfl)]
                  go_simp
                  refine hK.out _ _ (fun h => absurd h (by omega)) ?_
                  clear hK K
                  try simp only [Act.put, List.setIfInBounds_toArray, List.set_cons_zero, List.set_cons_succ]
                  refine done_ops (by kernel_rfl) ?_
                  have hQe := hQd.grown (Nat.le_refl _) (grown_of_below hS none)
                  have hge := grown_of_below hS none
                  have hoe := others_of_below hS
                  clear hS
                  have hke : Kq [g, bq] bq (V1.heap.size + 1) V2 V3 := .grown hge (by have := hQd.kq.lt; omega)
                  have hst := hQe.store (R := V1.heap.size + 1) (Nat.le_refl _) (by omega) k (d + 1)
                  obtain ⟨V4, hV4⟩ : ∃ X, V3.setCell ⟨g, k, none⟩ (.int .i64 (d + 1)) = X := ⟨_, rfl⟩
                  have hos := KeepsOthers.setCell V3 ⟨g, k, none⟩ (.int .i64 (d + 1))
                  rw [hV4] at hst hos ⊢
                  obtain ⟨hQs, hks⟩ := hst
                  clear hV4
                  have hQa := hQs.grown (Nat.le_refl _) (World.grownBy_alloc V4 (.cells #[.int .i64 k] 3) none)
                  have c0 := hQs.kq.cell (i := 0) rfl
                  have hszw : w.heap.size ≤ V4.heap.size := by have := hQs.sz; omega
                  gi_wp2_with (gi_at_builtin; refine q_append rfl _ _ rfl w.heap.size qv' _ rfl hQa.hq ⟨V4.heap.size, 0, none⟩ 1 k rfl ((Blk.new V4 3 #[.int .i64 k]).cell rfl) (by rw [List.length_map]; have := hlq.out; omega) (by simp; omega) ?_; intro v2 w5 hq5 hg5 hv5; have hPs := hQa.push (R := V1.heap.size + 1) (Nat.le_refl _) hbq hq5 hg5 hv5; have kq5 := hQa.kq.kept hg5 (hQa.hq.not_blk hQa.kq (by decide)).symm; obtain ⟨va2, vm2, vc2, rfl⟩ := hq5.form; have c5 := kq5.cell (i := 0) rfl; have f5 := kq5.frozen 0)
                  have hka : Kq [g, bq] bq (V1.heap.size + 1) V4 (V4.alloc (.cells #[.int .i64 k] 3)) := .grown (World.grownBy_alloc _ _ _) hQs.kq.lt
                  exact ⟨(hod.trans (hoe.trans (hos.trans ((KeepsOthers.alloc _ _).trans hPs.2.2)))).from _, hkd.trans (hke.trans (hks.trans (hka.trans hPs.2.1))), _, _, ⟨_, hPs.1⟩, hP⟩
                · have hP := hDI.keep (k := k) (by omega)
                  gi_wp2_with fail
                  exact ⟨hod.from _, L', q', ⟨qv', hQd⟩, hP⟩
              case done =>
                rintro D ys W' hD rfl ⟨L', q', qv', hQ', hDI⟩ hK
                have hfin := hDI.finish hin
                have hmu := hDI.mu
                gi_wp2_with fail
                exact ⟨2 * sumN L' + q'.length, by simp; omega, D :: rs, qv', q', L', hQ'.fw, hQ'.kq, hQ'.hq, hQ'.hqg, hQ'.marks.push hQ'.mlt hD (by omega) hK, hfin, hDI.cap, rfl, ex_fn rfl⟩

end Go.Proofs.Ytjglfeonoiljlaa

/- The contract of the program's Label. -/
import Derived.Test.YtjglfeonoiljlaaQI
namespace Go.Proofs.Ytjglfeonoiljlaa
open Go Go.RowKit Go.Shelf
set_option linter.unusedVariables false
set_option linter.unusedSimpArgs false

attribute [local go_sem] Oper.semAt_some

theorem snoc_cases {α : Type} (l : List α) : l = [] ∨ ∃ (q : List α) (k : α), l = q ++ [k] := by
  by_cases h : l = []
  · exact .inl h
  · exact .inr ⟨l.dropLast, l.getLast h, (List.dropLast_concat_getLast h).symm⟩
theorem put3_other (W : World) (x y z : Value) {b B : Nat} (h : b ≠ B) : (put3 W B x y z).heap[b]? = W.heap[b]? :=
  ((heap_setCell_other _ _ b _ (fun e => h e)).trans (heap_setCell_other _ _ b _ (fun e => h e))).trans (heap_setCell_other _ _ b _ (fun e => h e))

set_option maxRecDepth 100000 in
set_option maxHeartbeats 16000000 in
theorem Label_any (iw ih : Int) (a : Option Addr) (c n : Nat) (xs : List Int) (hn : Hid (xs.length = n)) (e : Bool) (w : World) (hm : n ≤ 9223372036854775807) (hr : Rd w.heap.size w a xs) :
    Calls Try.prog 57 #[imv iw ih a n c, .bool e] w (RetNum w.heap.size (labS iw ih xs e) w) := by
  have hB0 : Below w.heap.size w ((w.alloc (.cells #[.int .i64 iw, .int .i64 ih, .slice a n c] 24)).alloc (.cells #[.int .i64 0, .int .i64 0, .slice none 0 0] 24)) := below_al (below_al (Below.refl _ _) _) _
  obtain ⟨v0, hv⟩ : ∃ v, vld iw ih xs = v := ⟨_, rfl⟩
  have v0H := Lib.hid hv
  have hsp := Lib.hid (show labS iw ih xs e = if v0 = true then { im := { w := iw, h := ih, px := (labTo (iw.toNat * ih.toNat) iw.toNat e (isNz xs) (iw.toNat * ih.toNat)).1, err := 0 }, n := ((labTo (iw.toNat * ih.toNat) iw.toNat e (isNz xs) (iw.toNat * ih.toNat)).2 : Nat) } else { im := noIm 20, n := 0 } by unfold labS; rw [hv])
  clear hv
  obtain ⟨i0, hi, hz0, hz1, hz2⟩ := info_parts info_int
  refine (callsIn_wide (n := 10)).1 ?_
  refine callsIn_of_wp_marks Try.func57 rfl trivial ?_
  simp only [Try.ntmps57, List.size_toArray, List.length_cons, List.length_nil, Nat.reduceAdd, Nat.reduceSub, Array.replicate_succ, Array.replicate_zero, List.push_toArray, List.append_toArray, List.nil_append, List.cons_append]
  gi_wp2_with fail
  refine ⟨trivial, (callsIn_wide.2 (valid_any iw ih a c xs n hn _ hm ((hr.below (Nat.le_refl _) hB0).mono hB0.size))).mono ?_⟩
  rintro e0 W1 ⟨rfl, hb1⟩
  rw [v0H.out]
  have hB1 : Below w.heap.size w W1 := hB0.trans (hb1.mono hB0.size)
  have k1 := ((Blk.new w 24 #[.int .i64 iw, .int .i64 ih, .slice a n c]).alloc (.cells #[.int .i64 0, .int .i64 0, .slice none 0 0] 24)).below hb1 (by simp <;> omega)
  have k2 := (Blk.new (w.alloc (.cells #[.int .i64 iw, .int .i64 ih, .slice a n c] 24)) 24 #[.int .i64 0, .int .i64 0, .slice none 0 0]).below hb1 (by simp <;> omega)
  have hs1 : w.heap.size + 2 ≤ W1.heap.size := by have := hb1.size; simpa using this
  simp only [World.size_alloc] at k2
  clear hb1 hB0
  have m0 := k1.cell (i := 0) rfl
  have m1 := k1.cell (i := 1) rfl
  have m2 := k1.cell (i := 2) rfl
  have c0 := k2.cell (i := 0) rfl
  have c1 := k2.cell (i := 1) rfl
  have c2 := k2.cell (i := 2) rfl
  have fc0 := k2.frozen 0
  have fc1 := k2.frozen 1
  have fc2 := k2.frozen 2
  cases v0 with
  | false =>
    gi_wp2_with fail
    have kf := put3_blk k2 (.int .i64 0) (.int .i64 0) (.slice none 0 0)
    have g0 := kf.cell (i := 0) rfl
    have g1 := kf.cell (i := 1) rfl
    have g2 := kf.cell (i := 2) rfl
    exact ⟨.tuple #[.agg #[.int .i64 0, .int .i64 0, .slice none 0 0], .int .i64 0, .int .i64 20], by simp [results, Try.results57, go_sem, g0, g1, g2], ⟨_, by rw [hsp.out]; rfl, by rw [hsp.out]; exact OwnIm_nil _ _⟩, hB1.trans (put3_below (by omega) _ _ _)⟩
  | true =>
    obtain ⟨⟨i1, i2⟩, ⟨i3, i4⟩, hlen, hall⟩ := vld_true v0H.out
    rw [hn.out] at hlen
    have hlenH := Lib.hid hlen
    have hallH := Lib.hid hall
    clear hlen hall
    obtain ⟨pw, rfl⟩ : ∃ pw : Nat, iw = (pw : Int) := ⟨iw.toNat, by omega⟩
    obtain ⟨ph, rfl⟩ : ∃ ph : Nat, ih = (ph : Int) := ⟨ih.toNat, by omega⟩
    have hN : pw * ph = n ∧ n ≤ 256 := by
      have h1 := hlenH.out
      obtain ⟨m1, m2⟩ := mul_small (a := (pw : Int)) (b := (ph : Int)) (m := 16) (n := 16) (by omega) (by omega) (by omega) (by omega)
      have h2 : ((pw * ph : Nat) : Int) = (pw : Int) * ph := by simp
      omega
    obtain ⟨hN1, hN2⟩ := hN
    have hN1H := Lib.hid hN1
    have hn0 : 0 < n := by rw [← hN1]; exact Nat.mul_pos (by omega) (by omega)
    obtain ⟨ba, oa, rfl, hba, hca⟩ := rd_at hr hn.out hn0
    have hcaH := Lib.hid hca
    clear hca hr
    clear hN1 m0 m1 m2 c0 c1 c2 fc0 fc1 fc2
    gi_wp2_with fail
    refine wpIn_mono (Q := fun e' a' w' => e' = .normal ∧ ∃ b4 g, FW w.heap.size b4 g pw ph (some ⟨ba, oa, none⟩) c n w w' (List.replicate n 0) ∧ w.heap.size + 2 ≤ g ∧ ∃ u : Nat → Value, a' = ⟨#[u 0, .bool e, .pointer (some ⟨w.heap.size, 0, none⟩), u 3, .pointer (some ⟨w.heap.size + 1, 0, none⟩), u 5, u 6, .pointer (some ⟨b4, 0, none⟩), u 8, u 9, u 10, u 11, u 12, u 13, u 14, u 15, u 16, u 17, u 18, u 19, u 20, u 21, u 22, u 23, u 24, u 25, u 26, u 27, u 28, u 29, u 30, u 31, u 32, u 33, u 34, u 35, u 36, u 37, u 38, u 39, u 40, u 41, u 42, u 43, u 44, u 45, u 46, u 47, u 48, u 49, u 50, u 51, u 52, u 53, u 54, u 55, u 56, u 57, u 58, u 59, u 60, u 61, u 62, u 63, u 64, u 65, u 66, u 67, u 68, u 69, u 70, u 71, u 72, u 73, u 74, u 75, u 76, u 77, u 78, u 79, u 80, u 81, u 82, u 83, u 84, u 85, u 86, u 87, u 88, u 89, u 90, u 91, u 92, u 93, u 94, u 95, u 96, u 97, u 98, u 99, u 100], []⟩) ?draw ?cont
    case draw =>
      refine wpIn_wide.2 ?_
      have hS : Below W1.heap.size W1 W1.drew := (Below.refl _ _).drew
      refine plain_region (fun W' => Below W1.heap.size W1 W') 10 11 (by kernel_rfl) rfl ?_
      simp only [Array.replicate_succ, Array.replicate_zero, List.push_toArray, List.nil_append, List.cons_append]
      obtain ⟨X0, hX0⟩ : ∃ X, W1.drew = X := ⟨_, rfl⟩
      rw [hX0] at hS ⊢
      clear hX0
      refine take_op 0 (v := ?r1v) rfl (by kernel_rfl) (fun _ _ _ h => nomatch h.1) (by rfl) hS (fun w' hS' => ?r1y) ?r1z
      case r1y =>
        go_simp
        rfl
      simp only [List.setIfInBounds_toArray, List.set_cons_zero, List.set_cons_succ]
      refine take_op 1 (v := ?r2v) rfl (by kernel_rfl) (fun _ _ _ h => nomatch h.1) (by rfl) hS (fun w' hS' => ?r2y) ?r2z
      case r2y =>
        have m0 := (k1.below hS' k1.lt).cell (i := 0) rfl
        have m1 := (k1.below hS' k1.lt).cell (i := 1) rfl
        have m2 := (k1.below hS' k1.lt).cell (i := 2) rfl
        go_simp
        rfl
      simp only [List.setIfInBounds_toArray, List.set_cons_zero, List.set_cons_succ]
      refine take_op 2 (v := ?r3v) rfl (by kernel_rfl) (fun _ _ _ h => nomatch h.1) (by rfl) hS (fun w' hS' => ?r3y) ?r3z
      case r3y =>
        go_simp
        rfl
      simp only [List.setIfInBounds_toArray, List.set_cons_zero, List.set_cons_succ]
      refine take_op 3 (v := ?r4v) rfl (by kernel_rfl) (fun _ _ _ h => nomatch h.1) (by rfl) hS (fun w' hS' => ?r4y) ?r4z
      case r4y =>
        have m0 := (k1.below hS' k1.lt).cell (i := 0) rfl
        have m1 := (k1.below hS' k1.lt).cell (i := 1) rfl
        have m2 := (k1.below hS' k1.lt).cell (i := 2) rfl
        go_simp
        rfl
      simp only [List.setIfInBounds_toArray, List.set_cons_zero, List.set_cons_succ]
      refine take_op 4 (v := ?r5v) rfl (by kernel_rfl) (fun _ _ _ h => nomatch h.1) (by rfl) hS (fun w' hS' => ?r5y) ?r5z
      case r5y =>
        go_simp
        rfl
      simp only [List.setIfInBounds_toArray, List.set_cons_zero, List.set_cons_succ]
      refine take_op 5 (v := ?r6v) rfl (by kernel_rfl) (fun _ _ _ h => nomatch h.1) (by rfl) hS (fun w' hS' => ?r6y) ?r6z
      case r6y =>
        have m0 := (k1.below hS' k1.lt).cell (i := 0) rfl
        have m1 := (k1.below hS' k1.lt).cell (i := 1) rfl
        have m2 := (k1.below hS' k1.lt).cell (i := 2) rfl
        go_simp
        rfl
      simp only [List.setIfInBounds_toArray, List.set_cons_zero, List.set_cons_succ]
      refine take_op 6 (v := ?r7v) rfl (by kernel_rfl) (fun _ _ _ h => nomatch h.1) (by rfl) hS (fun w' hS' => ?r7y) ?r7z
      case r7y =>
        go_simp
        rfl
      simp only [List.setIfInBounds_toArray, List.set_cons_zero, List.set_cons_succ]
      refine fork2 (i := 7) (j := 9) (by kernel_rfl) ?_ ?_
      · refine step_at 7 rfl (fun K hK => ?_)
        have hszA := hS.size
        refine step_make_full rfl _ _ 22 rfl w.heap.size 3 i0 (.int .i64 0) 1 Try.underlying22 hi hz0 hz1 .i64 .i64 n rfl rfl (by rw [hz2]; omega) (by unfold maxLen; omega) (by omega) ?_
        intro X7 hown hgX
        have hS7 : Below W1.heap.size W1 X7 := hS.grown hgX hS.size (fun k e => by cases e)
        refine hK.out _ _ (fun h => hS7) ?_
        clear hK K
        try simp only [Act.put, List.setIfInBounds_toArray, List.set_cons_zero, List.set_cons_succ]
        refine take_op 8 (v := ?r8v) rfl (by kernel_rfl) (fun _ _ _ h => nomatch h.1) (by rfl) hS7 (fun w' hS' => ?r8y) ?r8z
        case r8y =>
          go_simp
          rfl
        simp only [List.setIfInBounds_toArray, List.set_cons_zero, List.set_cons_succ]
        refine step_op 9 (by kernel_rfl) rfl (fun K hK => ?_)
        have hszB := hS7.size
        rw [if_pos (by rfl)]
        go_simp
        have hS9' := below_al hS7 (.cells #[.int .i64 0, .int .i64 0, .slice none 0 0] 24)
        obtain ⟨X9, hX9⟩ : ∃ X, X7.alloc (.cells #[.int .i64 0, .int .i64 0, .slice none 0 0] 24) = X := ⟨_, rfl⟩
        have k4 := Blk.new X7 24 #[.int .i64 0, .int .i64 0, .slice none 0 0]
        have hgZ : X7.grownBy X9 none := hX9 ▸ World.grownBy_alloc _ _ none
        rw [hX9] at hS9' k4 ⊢
        have hS9 := hS9'
        clear hS9'
        refine hK.out _ _ (fun h => hS9) ?_
        clear hK K
        try simp only [Act.put, List.setIfInBounds_toArray, List.set_cons_zero, List.set_cons_succ]
        refine step_op 10 (by kernel_rfl) rfl (fun K hK => ?_)
        have hownZ := hown.kept hgZ (.inr (by simp [Value.ownBlock]))
        obtain ⟨b4, hb4⟩ : ∃ b, X7.heap.size = b := ⟨_, rfl⟩
        obtain ⟨g, hg4⟩ : ∃ b, X0.heap.size = b := ⟨_, rfl⟩
        rw [hg4] at hownZ ⊢
        rw [hb4] at k4 ⊢
        have d0 := k4.cell (i := 0) rfl
        have d1 := k4.cell (i := 1) rfl
        have d2 := k4.cell (i := 2) rfl
        have f0 := k4.frozen 0
        have f1 := k4.frozen 1
        have f2 := k4.frozen 2
        rw [if_pos (by rfl)]
        go_simp
        refine hK.out _ _ (fun h => absurd h (by omega)) ?_
        clear hK K
        try simp only [Act.put, List.setIfInBounds_toArray, List.set_cons_zero, List.set_cons_succ]
        refine done_ops (by kernel_rfl) ?_
        have hzz : (madeCells (Value.int .i64 0).cells (n * 1)).toList = (List.replicate n (0 : Int)).map (Value.int .i64) := by simp only [madeCells, Value.cells]; simp [Nat.mod_one, List.map_const']
        rw [hzz] at hownZ
        have hbb := hB1.trans (hS9.mono hB1.size)
        have hgw : w.heap.size + 2 ≤ g := by omega
        exact ⟨rfl, b4, g, ⟨(put3_below (n := b4) (B := b4) (Nat.le_refl _) _ _ _).block _ (by omega) |>.trans ((k1.below hS9 k1.lt)), ((put3_below (n := b4) (B := b4) (Nat.le_refl _) _ _ _).block _ (by omega)).trans (k2.below hS9 k2.lt), put3_blk k4 _ _ _, put3_row hownZ (k4.not_row (by decide) hownZ) _ _ _, hbb.trans (put3_below (by omega) _ _ _)⟩, hgw, ex_fn rfl⟩
      · refine step_at 9 rfl (fun K hK => ?_)
        have hszB := hS.size
        rw [if_pos (by rfl)]
        go_simp
        have hS9' := below_al hS (.cells #[.int .i64 0, .int .i64 0, .slice none 0 0] 24)
        obtain ⟨X9, hX9⟩ : ∃ X, X0.alloc (.cells #[.int .i64 0, .int .i64 0, .slice none 0 0] 24) = X := ⟨_, rfl⟩
        have k4 := Blk.new X0 24 #[.int .i64 0, .int .i64 0, .slice none 0 0]
        have hgZ : X0.grownBy X9 none := hX9 ▸ World.grownBy_alloc _ _ none
        rw [hX9] at hS9' k4 ⊢
        have hS9 := hS9'
        clear hS9'
        refine hK.out _ _ (fun h => hS9) ?_
        clear hK K
        try simp only [Act.put, List.setIfInBounds_toArray, List.set_cons_zero, List.set_cons_succ]
        refine step_op 7 (by kernel_rfl) rfl (fun K hK => ?_)
        have hszA := hS9.size
        refine step_make_full rfl _ _ 22 rfl w.heap.size 3 i0 (.int .i64 0) 1 Try.underlying22 hi hz0 hz1 .i64 .i64 n rfl rfl (by rw [hz2]; omega) (by unfold maxLen; omega) (by omega) ?_
        intro X7 hown hgX
        have hS7 : Below W1.heap.size W1 X7 := hS9.grown hgX hS9.size (fun k e => by cases e)
        refine hK.out _ _ (fun h => hS7) ?_
        clear hK K
        try simp only [Act.put, List.setIfInBounds_toArray, List.set_cons_zero, List.set_cons_succ]
        refine take_op 8 (v := ?r9v) rfl (by kernel_rfl) (fun _ _ _ h => nomatch h.1) (by rfl) hS7 (fun w' hS' => ?r9y) ?r9z
        case r9y =>
          go_simp
          rfl
        simp only [List.setIfInBounds_toArray, List.set_cons_zero, List.set_cons_succ]
        refine step_op 10 (by kernel_rfl) rfl (fun K hK => ?_)
        replace k4 := k4.kept hgX (by simp)
        have hownZ := hown
        obtain ⟨b4, hb4⟩ : ∃ b, X0.heap.size = b := ⟨_, rfl⟩
        obtain ⟨g, hg4⟩ : ∃ b, X9.heap.size = b := ⟨_, rfl⟩
        rw [hg4] at hownZ ⊢
        rw [hb4] at k4 ⊢
        have d0 := k4.cell (i := 0) rfl
        have d1 := k4.cell (i := 1) rfl
        have d2 := k4.cell (i := 2) rfl
        have f0 := k4.frozen 0
        have f1 := k4.frozen 1
        have f2 := k4.frozen 2
        rw [if_pos (by rfl)]
        go_simp
        refine hK.out _ _ (fun h => absurd h (by omega)) ?_
        clear hK K
        try simp only [Act.put, List.setIfInBounds_toArray, List.set_cons_zero, List.set_cons_succ]
        refine done_ops (by kernel_rfl) ?_
        have hzz : (madeCells (Value.int .i64 0).cells (n * 1)).toList = (List.replicate n (0 : Int)).map (Value.int .i64) := by simp only [madeCells, Value.cells]; simp [Nat.mod_one, List.map_const']
        rw [hzz] at hownZ
        have hbb := hB1.trans (hS7.mono hB1.size)
        have hgw : w.heap.size + 2 ≤ g := by omega
        exact ⟨rfl, b4, g, ⟨(put3_below (n := b4) (B := b4) (Nat.le_refl _) _ _ _).block _ (by omega) |>.trans ((k1.below hS7 k1.lt)), ((put3_below (n := b4) (B := b4) (Nat.le_refl _) _ _ _).block _ (by omega)).trans (k2.below hS7 k2.lt), put3_blk k4 _ _ _, put3_row hownZ (k4.not_row (by decide) hownZ) _ _ _, hbb.trans (put3_below (by omega) _ _ _)⟩, hgw, ex_fn rfl⟩
    case cont =>
      rintro e' a' W2 ⟨rfl, b4, g, hF, hgl, u, rfl⟩
      have kn := Blk.new W2 3 #[.int .i64 0]
      obtain ⟨bn, hbn⟩ : ∃ b, W2.heap.size = b := ⟨_, rfl⟩
      have hFa := hF.grown (World.grownBy_alloc W2 (.cells #[.int .i64 0] 3) none) (Nat.le_refl _)
      have m2 := hFa.k1.cell (i := 2) rfl
      have hgb := hF.gB
      have hszw := hF.bel.size
      gi_wp2_with fail
      clear m2 hF
      rw [hbn] at kn
      obtain ⟨W3, hW3⟩ : ∃ X, W2.alloc (.cells #[.int .i64 0] 3) = X := ⟨_, rfl⟩
      rw [hW3] at hFa kn ⊢
      clear hW3
      have hgn : g ≠ bn := by omega
      have hwn : w.heap.size ≤ bn := by omega
      clear hbn hgb hszw
      clear W2
      have hlb0 : labTo (pw * ph) pw e (isNz xs) 0 = (List.replicate n 0, 0) := by rw [labTo, hN1H.out]
      refine loopM (fun m a' w' => ∃ (i cnt : Nat) (rs : List Nat) (L : List Int), i ≤ n ∧ FW w.heap.size b4 g pw ph (some ⟨ba, oa, none⟩) c n w w' L ∧ Blk w' bn 3 #[.int .i64 cnt] ∧ Marks w.heap.size rs w' ∧ labTo (pw * ph) pw e (isNz xs) i = (L, cnt) ∧ m = n - i ∧ ∃ u : Nat → Value, a' = ⟨#[u 0, .bool e, .pointer (some ⟨w.heap.size, 0, none⟩), u 3, .pointer (some ⟨w.heap.size + 1, 0, none⟩), u 5, u 6, .pointer (some ⟨b4, 0, none⟩), .pointer (some ⟨bn, 0, none⟩), u 9, u 10, u 11, u 12, u 13, u 14, u 15, u 16, u 17, u 18, u 19, u 20, u 21, u 22, u 23, u 24, u 25, u 26, u 27, .int .i64 n, .int .i64 i, u 30, u 31, u 32, u 33, u 34, u 35, u 36, u 37, u 38, u 39, u 40, u 41, u 42, u 43, u 44, u 45, u 46, u 47, u 48, u 49, u 50, u 51, u 52, u 53, u 54, u 55, u 56, u 57, u 58, u 59, u 60, u 61, u 62, u 63, u 64, u 65, u 66, u 67, u 68, u 69, u 70, u 71, u 72, u 73, u 74, u 75, u 76, u 77, u 78, u 79, u 80, u 81, u 82, u 83, u 84, u 85, u 86, u 87, u 88, u 89, u 90, u 91, u 92, u 93, u 94, u 95, u 96, u 97, u 98, u 99, u 100], rs.map markD⟩) n ?start ?round
      case start => exact ⟨0, 0, [], _, Nat.zero_le _, hFa, kn, Marks.nil _ _, hlb0, rfl, ex_fn rfl⟩
      case round =>
        clear hFa kn hlb0
        rintro m a' W ⟨i, cnt, rs, L, hin, hF, kn, hM, hlab, rfl, u, rfl⟩
        have lgb := hF.gB
        have hwW := hF.bel.size
        have lnb := kn.lt
        have hcb := lab_n hlab
        by_cases hlt : i < n
        · have hlN : i < pw * ph := by rw [hN1H.out]; exact hlt
          have m2 := hF.k1.cell (i := 2) rfl
          have o2 := hF.k4.cell (i := 2) rfl
          have n0 := kn.cell (i := 0) rfl
          have nf := kn.frozen 0
          have ri := hF.cell (Below.refl _ W) hlt
          have rf := hF.frozen (Below.refl _ W) i
          have hcell := (hF.bel.cell (p := ⟨ba, oa + i, none⟩) hba).trans (hcaH.out i hlt)
          by_cases hz0 : px xs i = 0
          · have e1 : (px xs (i : Int) == 0) = true := by rw [hz0]; rfl
            have hnz : isNz xs i = false := by simp [isNz, hz0]
            have hnx := Lib.hid (labTo_skip hlab (fun h => by rw [hnz] at h; exact absurd h.1 (by decide)))
            gi_wp2_with fail
            exact ⟨n - (i + 1), by omega, i + 1, cnt, rs, L, hlt, hF, kn, hM, hnx.out, rfl, ex_fn rfl⟩
          · have e1 : (px xs (i : Int) == 0) = false := beq_eq_false_iff_ne.2 hz0
            have hnz : isNz xs i = true := by simp [isNz, hz0]
            by_cases hL0 : px L i = 0
            · have e2 : (px L (i : Int) != 0) = false := by rw [hL0]; rfl
              gi_wp2_with fail
              obtain ⟨v1, hv1⟩ : ∃ v1 : Int, ((cnt + 1 : Nat) : Int) = v1 := ⟨_, rfl⟩
              have hv2 : (cnt : Int) + 1 = v1 := by omega
              rw [hv2]
              have hFn := hF.kept (blk_set_grown W bn 0 (.int .i64 v1)) (Nat.le_refl _) hwn (fun h => hgn h.symm) kn (by decide)
              obtain ⟨hFs, hgs⟩ := hFn.store (Nat.le_refl _) i v1
              have kns := (kn.set 0 (.int .i64 v1)).kept hgs (fun h => by cases h; exact hgn rfl)
              have hMs := (hM.others (.setCell W ⟨bn, 0, none⟩ (.int .i64 v1))).others (.setCell _ ⟨g, i, none⟩ (.int .i64 v1))
              obtain ⟨W4, hW4⟩ : ∃ X, (W.setCell ⟨bn, 0, none⟩ (.int .i64 v1)).setCell ⟨g, i, none⟩ (.int .i64 v1) = X := ⟨_, rfl⟩
              rw [hW4] at hFs kns hMs ⊢
              have hz4 : W4.heap.size = W.heap.size := by rw [← hW4]; simp [World.setCell]
              have hqn := (QRow.one (base := w.heap.size) W4 i (by omega)).alloc (.cells #[.slice (some ⟨W.heap.size, 0, none⟩) 1 1] 22)
              rw [hz4] at hqn
              have kqn := Blk.new (W4.alloc (.cells #[.int .i64 i] 3)) 22 #[.slice (some ⟨W.heap.size, 0, none⟩) 1 1]
              rw [World.size_alloc, hz4] at kqn
              have hFq := (hFs.grown (World.grownBy_alloc W4 (.cells #[.int .i64 i] 3) none) (Nat.le_refl _)).grown (World.grownBy_alloc _ (.cells #[.slice (some ⟨W.heap.size, 0, none⟩) 1 1] 22) none) (Nat.le_refl _)
              have knq := (kns.alloc (.cells #[.int .i64 i] 3)).alloc (.cells #[.slice (some ⟨W.heap.size, 0, none⟩) 1 1] 22)
              have hMq := (hMs.others (.alloc W4 (.cells #[.int .i64 i] 3))).others (.alloc _ (.cells #[.slice (some ⟨W.heap.size, 0, none⟩) 1 1] 22))
              have hLD := LD.begin hlab hlN hL0
              rw [hv1] at hLD
              clear hW4 hgs hFn hFs kns hMs hF kn hM ri rf n0 nf o2 m2 hcell e1 e2
              refine loopM (fun m a' w' => ∃ (bq : Nat) (rs : List Nat) (qv : Value) (q : List Nat) (L' : List Int), FW w.heap.size b4 g pw ph (some ⟨ba, oa, none⟩) c n w w' L' ∧ Blk w' bn 3 #[.int .i64 v1] ∧ Blk w' bq 22 #[qv] ∧ QRow w.heap.size w' qv (q.map fun j : Nat => (j : Int)) ∧ qv.ownBlock ≠ some g ∧ qv.ownBlock ≠ some bn ∧ w.heap.size ≤ bq ∧ Marks w.heap.size rs w' ∧ LD (pw * ph) pw e (isNz xs) i L cnt L' q (fun _ => False) ∧ m = 2 * zer L' + q.length ∧ ∃ u : Nat → Value, a' = ⟨#[u 0, .bool e, .pointer (some ⟨w.heap.size, 0, none⟩), u 3, .pointer (some ⟨w.heap.size + 1, 0, none⟩), u 5, u 6, .pointer (some ⟨b4, 0, none⟩), .pointer (some ⟨bn, 0, none⟩), .int .i64 i, .pointer (some ⟨bq, 0, none⟩), u 11, u 12, u 13, u 14, u 15, u 16, u 17, u 18, u 19, u 20, u 21, u 22, u 23, u 24, u 25, u 26, u 27, .int .i64 n, .int .i64 i, u 30, u 31, u 32, u 33, u 34, u 35, u 36, u 37, u 38, u 39, u 40, u 41, u 42, u 43, u 44, u 45, u 46, u 47, u 48, u 49, u 50, u 51, u 52, u 53, u 54, u 55, u 56, u 57, u 58, u 59, u 60, u 61, u 62, u 63, u 64, u 65, u 66, u 67, u 68, u 69, u 70, u 71, u 72, u 73, u 74, u 75, u 76, u 77, u 78, u 79, u 80, u 81, u 82, u 83, u 84, u 85, u 86, u 87, u 88, u 89, u 90, u 91, u 92, u 93, u 94, u 95, u 96, u 97, u 98, u 99, u 100], rs.map markD⟩) (2 * zer (L.set i v1) + [i].length) ?s2 ?r2
              case s2 => exact ⟨W.heap.size + 1, rs, _, [i], _, hFq, knq, kqn, hqn, by simp [Value.ownBlock]; omega, by simp [Value.ownBlock]; omega, by omega, hMq, hLD, rfl, ex_fn rfl⟩
              case r2 =>
                clear hFq knq kqn hqn hMq hLD hz4
                rintro m2 a2 W5 ⟨bq, rs2, qv, q, L2, hF2, kn2, kq2, hq2, hqg2, hqn2, hbq2, hM2, hLD2, rfl, u2, rfl⟩
                have c0 := kq2.cell (i := 0) rfl
                have f0 := kq2.frozen 0
                rcases snoc_cases q with rfl | ⟨q, k, rfl⟩
                · obtain ⟨va, vc, rfl⟩ := hq2.slice
                  gi_wp2_with fail
                  rw [← hv1] at kn2
                  exact ⟨n - (i + 1), by omega, i + 1, cnt + 1, rs2, L2, hlt, hF2, kn2, hM2, hLD2.done hlab hlN hnz hL0, rfl, ex_fn rfl⟩
                · simp only [List.map_append, List.map_cons, List.map_nil] at hq2
                  obtain ⟨g', off, cap, hqv, hcap1, hcap2, hh, hbg, htl⟩ := hq2.last
                  subst hqv
                  have hkl := hLD2.lt k (by simp)
                  have hcap := hLD2.cap
                  have hvg : (Value.slice (some ⟨g', off, none⟩) (q.map fun j : Nat => (j : Int)).length cap).ownBlock ≠ some g := hqg2
                  have hvn : (Value.slice (some ⟨g', off, none⟩) (q.map fun j : Nat => (j : Int)).length cap).ownBlock ≠ some bn := hqn2
                  obtain ⟨vm, hvm⟩ : ∃ m, (q.map fun j : Nat => (j : Int)).length = m := ⟨_, rfl⟩
                  rw [hvm] at htl hcap1 kq2 hq2 c0 hh hvg hvn
                  have hvm2 : vm ≤ 256 := by have := hN1H.out; rw [← hvm, List.length_map]; simp at hcap; omega
                  have hFb := hF2.box (Nat.le_refl _) kq2 hbq2 (by decide) (by decide) 0 (.slice (some ⟨g', off, none⟩) vm cap)
                  have m0 := hFb.k1.cell (i := 0) rfl
                  have m1 := hFb.k1.cell (i := 1) rfl
                  have m2 := hFb.k1.cell (i := 2) rfl
                  gi_wp2_with fail
                  refine ⟨trivial, (callsIn_wide.2 (neighbours_any pw ph (.slice (some ⟨ba, oa, none⟩) n c) k e ⟨_, _, _, rfl⟩ _)).mono ?_⟩
                  rintro e1 V1 ⟨rfl, hV1⟩
                  clear m0 m1 m2
                  obtain ⟨V0, hV0⟩ : ∃ V, W5.setCell ⟨bq, 0, none⟩ (.slice (some ⟨g', off, none⟩) vm cap) = V := ⟨_, rfl⟩
                  have hz0 : V0.heap.size = W5.heap.size := by rw [← hV0]; simp [World.setCell]
                  rw [hV0] at hV1 ⊢
                  have hgV : V0.grownBy V1 none := hV1 ▸ grown_trans (grown_trans (World.grownBy_alloc _ _ _) (World.grownBy_alloc _ _ _)) (World.grownBy_alloc _ _ _)
                  have kg1 := ((Blk.new V0 100 #[.int .i64 pw, .int .i64 ph, .slice (some ⟨ba, oa, none⟩) n c]).alloc (.cells #[.int .i64 k] 3)).alloc (.cells #[.bool e] 4)
                  have ki1 := (Blk.new (V0.alloc (.cells #[.int .i64 pw, .int .i64 ph, .slice (some ⟨ba, oa, none⟩) n c] 100)) 3 #[.int .i64 k]).alloc (.cells #[.bool e] 4)
                  have ke1 := Blk.new ((V0.alloc (.cells #[.int .i64 pw, .int .i64 ph, .slice (some ⟨ba, oa, none⟩) n c] 100)).alloc (.cells #[.int .i64 k] 3)) 4 #[.bool e]
                  simp only [World.size_alloc] at ki1 ke1
                  rw [hV1] at kg1 ki1 ke1
                  rw [hz0] at kg1 ki1 ke1
                  rw [← hV0] at hgV
                  have hs5 := hF2.bel.size
                  have lgb5 := hF2.gB
                  have lqb5 := kq2.lt
                  rw [← hv1] at kn2
                  obtain ⟨hQ, hQl, hs1'⟩ := QI.again hF2 kq2 htl hvg hvn kn2 hM2 hbq2 (Nat.le_refl _) hgV
                  clear hV0 hV1 hgV hF2 kn2 kq2 hq2 htl hM2 hFb c0 f0 hh
                  gi_wp2_with fail
                  have hlt0 := fun (x : Nat) (h : W5.heap.size ≤ x) => hQ.ntq (k := x) (by have := hQ.fw.gB; omega) (by omega) (fun h2 => by have := hQl x h2; omega)
                  refine wp_over (gf := 133) (lb := #[.pointer (some ⟨W5.heap.size + 1, 0, none⟩), .pointer (some ⟨W5.heap.size, 0, none⟩), .pointer (some ⟨W5.heap.size + 2, 0, none⟩)]) rfl (enters_of Try.func133 (by kernel_rfl) rfl) (nb_seq [g, bq] bq pw ph k (by omega) (by omega) (by omega) (by omega) hkl.1 e (some ⟨ba, oa, none⟩) n c (W5.heap.size + 1) W5.heap.size (W5.heap.size + 2) V1 ki1 kg1 ke1 (hlt0 _ (by omega)) (hlt0 _ (by omega)) (hlt0 _ (by omega)) (by omega) (fun k => hQ.tlt)) Kq.trans (fun W o o' _ _ _ => Kq.putR (by omega) W o') (fun _ => rfl)
                    (fun pre W' => ∃ L' q' qv', QI w.heap.size b4 g bq bn pw ph (some ⟨ba, oa, none⟩) c n w rs2 (cnt + 1) V1.heap.size W' L' q' qv' ∧ LI (pw * ph) pw e (isNz xs) i L cnt k (2 * zer L2 + q.length) pre L' q') (QI.own _ (Nat.le_refl _) (by omega)) ⟨L2, q, _, hQ, LI.begin hLD2⟩
                    ?act ?assign ?body ?done
                  case assign =>
                    intro l x W' K hK
                    gi_wp2
                    exact hK
                  case body =>
                    rintro l pre j V ⟨L', q', qv', hQ', hLI⟩ hj hlen
                    obtain ⟨hjn, hkj⟩ := nbs_near hkl.1 hj
                    have hjn2 := hN1H.out ▸ hjn
                    have hl' := hLI.ld.len
                    have m2 := hQ'.fw.k1.cell (i := 2) rfl
                    have o2 := hQ'.fw.k4.cell (i := 2) rfl
                    have n0 := hQ'.ki.cell (i := 0) rfl
                    rw [hv1] at n0
                    have rj := hQ'.fw.cell (Below.refl _ V) hjn2
                    have rf := hQ'.fw.frozen (Below.refl _ V) j
                    have hcell := (hQ'.fw.bel.cell (p := ⟨ba, oa + j, none⟩) hba).trans (hcaH.out j hjn2)
                    have hlq := Lib.hid hLI.ld.cap
                    by_cases hz0 : px xs j = 0
                    · have e1 : (px xs (j : Int) != 0) = false := by rw [hz0]; rfl
                      have hnz' : isNz xs j = false := by simp [isNz, hz0]
                      have hP := hLI.keep (j := j) (fun h => by rw [hnz'] at h; cases h)
                      gi_wp2_with fail
                      exact ⟨KeepsFrom.refl _ _, Kq.refl _ _ _ _, L', q', ⟨qv', hQ'⟩, hP⟩
                    · have e1 : (px xs (j : Int) != 0) = true := bne_iff_ne.2 hz0
                      have hnz' : isNz xs j = true := by simp [isNz, hz0]
                      by_cases hL0' : px L' j = 0
                      · have e2 : (px L' (j : Int) == 0) = true := by rw [hL0']; rfl
                        have hP := hLI.push hlab hkl.1 hjn hkj hnz' hL0'
                        rw [hv1] at hP
                        have hst := hQ'.store (R := V1.heap.size + 1) (Nat.le_refl _) hgn j v1
                        obtain ⟨V4, hV4⟩ : ∃ X, V.setCell ⟨g, j, none⟩ (.int .i64 v1) = X := ⟨_, rfl⟩
                        have hos := KeepsOthers.setCell V ⟨g, j, none⟩ (.int .i64 v1)
                        have hsz4 : V4.heap.size = V.heap.size := by rw [← hV4]; simp [World.setCell]
                        rw [hV4] at hst hos
                        obtain ⟨hQs, hks⟩ := hst
                        have hQa := hQs.grown (Nat.le_refl _) (World.grownBy_alloc V4 (.cells #[.int .i64 j] 3) none)
                        have c0 := hQs.kq.cell (i := 0) rfl
                        have hszw : w.heap.size ≤ V4.heap.size := by have := hQs.sz; omega
                        gi_wp2_with (gi_at_builtin; refine q_append rfl _ _ rfl w.heap.size qv' _ rfl hQa.hq ⟨V4.heap.size, 0, none⟩ 1 j (by rw [hsz4]; rfl) ((Blk.new V4 3 #[.int .i64 j]).cell rfl) (by rw [List.length_map]; have := hlq.out; have := hN1H.out; omega) (by simp; omega) ?_; intro v2 w5 hq5 hg5 hv5; have hPs := hQa.push (R := V1.heap.size + 1) (Nat.le_refl _) hbq2 hq5 hg5 hv5; have kq5 := hQa.kq.kept hg5 (hQa.hq.not_blk hQa.kq (by decide)).symm; obtain ⟨va2, vm2, vc2, rfl⟩ := hq5.form; have c5 := kq5.cell (i := 0) rfl; have f5 := kq5.frozen 0)
                        have hka : Kq [g, bq] bq (V1.heap.size + 1) V4 (V4.alloc (.cells #[.int .i64 j] 3)) := .grown (World.grownBy_alloc _ _ _) hQs.kq.lt
                        exact ⟨(hos.trans ((KeepsOthers.alloc _ _).trans hPs.2.2)).from _, hks.trans (hka.trans hPs.2.1), _, _, ⟨_, hPs.1⟩, hP⟩
                      · have e2 : (px L' (j : Int) == 0) = false := beq_eq_false_iff_ne.2 hL0'
                        have hP := hLI.keep (j := j) (fun _ => hL0')
                        gi_wp2_with fail
                        exact ⟨KeepsFrom.refl _ _, Kq.refl _ _ _ _, L', q', ⟨qv', hQ'⟩, hP⟩
                  case done =>
                    rintro D ys W' hD rfl ⟨L', q', qv', hQ', hLI⟩ hK
                    have hfin := hLI.finish hkl.1
                    have hmu := hLI.mu
                    have c0 := hQ'.kq.cell (i := 0) rfl
                    have hszD := hQ'.sz
                    have hM' := hQ'.marks.push hQ'.mlt hD (by omega) hK
                    obtain ⟨va2, vm2, vc2, rfl⟩ := hQ'.hq.form
                    gi_wp2_with fail
                    have kn3 := hQ'.ki
                    rw [hv1] at kn3
                    exact ⟨2 * zer L' + q'.length, by simp; omega, W'.heap.size, D :: rs2, _, q', L', hQ'.fw.grown (World.grownBy_alloc _ _ _) (Nat.le_refl _), kn3.alloc _, Blk.new _ _ _, hQ'.hq.alloc _, hQ'.hqg, hQ'.hqi, by omega, hM'.others (.alloc _ _), hfin, rfl, ex_fn rfl⟩
            · have e2 : (px L (i : Int) != 0) = true := bne_iff_ne.2 hL0
              have hnx := Lib.hid (labTo_skip hlab (fun h => hL0 h.2))
              gi_wp2_with fail
              exact ⟨n - (i + 1), by omega, i + 1, cnt, rs, L, hlt, hF, kn, hM, hnx.out, rfl, ex_fn rfl⟩
        · have hni : n = i := by omega
          subst hni
          gi_wp2_with fail
          clear hlt
          refine wpIn_mono (Q := fun e' a' w' => e' = .normal ∧ ∃ V, Below W.heap.size W V ∧ w' = put3 V (w.heap.size + 1) (.int .i64 pw) (.int .i64 ph) (.slice (some ⟨g, 0, none⟩) n n) ∧ ∃ u : Nat → Value, a' = ⟨#[u 0, .bool e, .pointer (some ⟨w.heap.size, 0, none⟩), u 3, .pointer (some ⟨w.heap.size + 1, 0, none⟩), .int .i64 cnt, .int .i64 0, .pointer (some ⟨b4, 0, none⟩), .pointer (some ⟨bn, 0, none⟩), u 9, u 10, u 11, u 12, u 13, u 14, u 15, u 16, u 17, u 18, u 19, u 20, u 21, u 22, u 23, u 24, u 25, u 26, u 27, u 28, u 29, u 30, u 31, u 32, u 33, u 34, u 35, u 36, u 37, u 38, u 39, u 40, u 41, u 42, u 43, u 44, u 45, u 46, u 47, u 48, u 49, u 50, u 51, u 52, u 53, u 54, u 55, u 56, u 57, u 58, u 59, u 60, u 61, u 62, u 63, u 64, u 65, u 66, u 67, u 68, u 69, u 70, u 71, u 72, u 73, u 74, u 75, u 76, u 77, u 78, u 79, u 80, u 81, u 82, u 83, u 84, u 85, u 86, u 87, u 88, u 89, u 90, u 91, u 92, u 93, u 94, u 95, u 96, u 97, u 98, u 99, u 100], rs.map markD⟩) ?draw2 ?cont2
          case draw2 =>
            refine wpIn_wide.2 ?_
            have hSb : Below W.heap.size W W.drew := (Below.refl _ _).drew
            have k2V := hF.k2.below hSb hF.k2.lt
            have hS : W.drew.heap[bn]? = W.heap[bn]? ∧ W.drew.heap[b4]? = W.heap[b4]? := ⟨rfl, rfl⟩
            have hne1 : bn ≠ w.heap.size + 1 := fun h => by
              have h1 : W.heap[w.heap.size + 1]? = some _ := hF.k2
              rw [← h, show W.heap[bn]? = _ from kn] at h1
              cases h1
            have hne2 : b4 ≠ w.heap.size + 1 := fun h => by
              have h1 : W.heap[w.heap.size + 1]? = some _ := hF.k2
              rw [← h, show W.heap[b4]? = _ from hF.k4] at h1
              injection h1 with h1
              injection h1 with h1
              simp at h1
              try omega
            refine plain_region (fun W' => W'.heap[bn]? = W.heap[bn]? ∧ W'.heap[b4]? = W.heap[b4]?) 5 5 (by kernel_rfl) rfl ?_
            simp only [Array.replicate_succ, Array.replicate_zero, List.push_toArray, List.nil_append, List.cons_append]
            obtain ⟨V, hV⟩ : ∃ X, W.drew = X := ⟨_, rfl⟩
            rw [hV] at hSb hS k2V ⊢
            clear hV
            refine take_op 0 (v := ?sv0) rfl (by kernel_rfl) (fun _ _ _ h => nomatch h.1) (by rfl) hS (fun w' hS' => ?sy0) ?sz0
            case sy0 =>
              have k4' : Blk w' b4 _ _ := hS'.2.trans hF.k4
              have kn' : Blk w' bn _ _ := hS'.1.trans kn
              have o0 := k4'.cell (i := 0) rfl
              have o1 := k4'.cell (i := 1) rfl
              have o2 := k4'.cell (i := 2) rfl
              have n0 := kn'.cell (i := 0) rfl
              go_simp
              rfl
            simp only [List.setIfInBounds_toArray, List.set_cons_zero, List.set_cons_succ]
            refine take_op 1 (v := ?sv1) rfl (by kernel_rfl) (fun _ _ _ h => nomatch h.1) (by rfl) hS (fun w' hS' => ?sy1) ?sz1
            case sy1 =>
              have k4' : Blk w' b4 _ _ := hS'.2.trans hF.k4
              have kn' : Blk w' bn _ _ := hS'.1.trans kn
              have o0 := k4'.cell (i := 0) rfl
              have o1 := k4'.cell (i := 1) rfl
              have o2 := k4'.cell (i := 2) rfl
              have n0 := kn'.cell (i := 0) rfl
              go_simp
              rfl
            simp only [List.setIfInBounds_toArray, List.set_cons_zero, List.set_cons_succ]
            refine step_op 2 (by kernel_rfl) rfl (fun K hK => ?_)
            have r0 := k2V.cell (i := 0) rfl
            have r1 := k2V.cell (i := 1) rfl
            have r2 := k2V.cell (i := 2) rfl
            have fr0 := k2V.frozen 0
            have fr1 := k2V.frozen 1
            have fr2 := k2V.frozen 2
            rw [if_pos (by rfl)]
            go_simp
            have hS2 : (put3 V (w.heap.size + 1) (.int .i64 pw) (.int .i64 ph) (.slice (some ⟨g, 0, none⟩) n n)).heap[bn]? = W.heap[bn]? ∧ (put3 V (w.heap.size + 1) (.int .i64 pw) (.int .i64 ph) (.slice (some ⟨g, 0, none⟩) n n)).heap[b4]? = W.heap[b4]? :=
              ⟨(put3_other V _ _ _ hne1).trans hS.1, (put3_other V _ _ _ hne2).trans hS.2⟩
            refine hK.out _ _ (fun h => hS2) ?_
            clear hK K
            try simp only [Act.put, List.setIfInBounds_toArray, List.set_cons_zero, List.set_cons_succ]
            refine take_op 3 (v := ?sv3) rfl (by kernel_rfl) (fun _ _ _ h => nomatch h.1) (by rfl) hS2 (fun w' hS' => ?sy3) ?sz3
            case sy3 =>
              go_simp
              rfl
            simp only [List.setIfInBounds_toArray, List.set_cons_zero, List.set_cons_succ]
            refine take_op 4 (v := ?sv4) rfl (by kernel_rfl) (fun _ _ _ h => nomatch h.1) (by rfl) hS2 (fun w' hS' => ?sy4) ?sz4
            case sy4 =>
              go_simp
              rfl
            simp only [List.setIfInBounds_toArray, List.set_cons_zero, List.set_cons_succ]
            refine done_ops (by kernel_rfl) ?_
            exact ⟨rfl, V, hSb, rfl, ex_fn rfl⟩
          case cont2 =>
            rintro e' a' w' ⟨rfl, V, hbV, rfl, u, rfl⟩
            gi_wp2_with fail
            have k2V := hF.k2.below hbV hF.k2.lt
            have rowV := row_below hF.row hbV
            have kf := put3_blk k2V (.int .i64 pw) (.int .i64 ph) (.slice (some ⟨g, 0, none⟩) n n)
            have rowf := put3_row rowV (k2V.not_row (by decide) rowV) (.int .i64 pw) (.int .i64 ph) (.slice (some ⟨g, 0, none⟩) n n)
            -- have hsz := (put3_below (n := 0) (B := 0) (Nat.zero_le _) (b := w.heap.size + 1) (W := V) (.int .i64 pw) (.int .i64 ph) (.slice (some ⟨g, 0, none⟩) n n)).size
            refine leaves_marks (B := w.heap.size) rs _ ((hM.others (others_of_below hbV)).others (put3_others _ _ _ _ _)) fun W' hc hb => ?_
            have kf' : Blk W' (w.heap.size + 1) 24 _ := hc _ _ _ _ kf
            have g0 := kf'.cell (i := 0) rfl
            have g1 := kf'.cell (i := 1) rfl
            have g2 := kf'.cell (i := 2) rfl
            have hl2 := hlab
            rw [← hN1H.out] at hl2
            have hfin := Lib.hid (show labS pw ph xs e = { im := { w := pw, h := ph, px := L, err := 0 }, n := cnt } by
              rw [hsp.out, if_pos trivial]
              simp only [Int.toNat_natCast, hl2])
            have hll : L.length = n := (lab_len hlab).trans hN1H.out
            have hbe : Below w.heap.size w W' := ((hF.bel.trans (hbV.mono hwW)).trans (put3_below (by omega) _ _ _)).trans (hb _ (Nat.le_refl _) (by have := hbV.size; simp [World.setCell]; omega))
            have rowf' : OwnIm w.heap.size W' (.agg #[.int .i64 pw, .int .i64 ph, .slice (some ⟨g, 0, none⟩) n n]) pw ph L := ⟨_, rfl, row_len hll.symm (row_of_cells hc rowf)⟩
            exact ⟨.tuple #[.agg #[.int .i64 pw, .int .i64 ph, .slice (some ⟨g, 0, none⟩) n n], .int .i64 cnt, .int .i64 0], by simp [results, Try.results57, go_sem, g0, g1, g2], ⟨_, by rw [hfin.out], by rw [hfin.out]; exact rowf'⟩, hbe⟩

end Go.Proofs.Ytjglfeonoiljlaa

/- The law package's examples: 'alive' returns true. -/
import Derived.Test.YtjglfeonoiljlaaRowsIs
import Derived.Test.YtjglfeonoiljlaaImgDist
import Derived.Test.YtjglfeonoiljlaaImgLabel
import Derived.Test.YtjglfeonoiljlaaImgBasins
import Derived.Test.YtjglfeonoiljlaaImgT
import Derived.Test.YtjglfeonoiljlaaImgW
import Derived.Test.YtjglfeonoiljlaaImgH
import Derived.Test.YtjglfeonoiljlaaImgQ
namespace Go.Proofs.Ytjglfeonoiljlaa
open Go Go.RowKit Go.Shelf
set_option linter.unusedVariables false
set_option linter.unusedSimpArgs false

attribute [local go_sem] Oper.semAt_some

theorem chain0 {V V' : World} (hb : Below V.heap.size V V') : Below V.heap.size V V' := hb
theorem chain1 {V V' : World} {a : Obj} (hb : Below (V.alloc a).heap.size (V.alloc a) V') : Below V.heap.size V V' := (below_al (Below.refl _ V) a).trans (hb.mono (by simp))
theorem chain2 {V V' : World} {a b : Obj} (hb : Below ((V.alloc a).alloc b).heap.size ((V.alloc a).alloc b) V') : Below V.heap.size V V' := chain1 (chain1 hb)
theorem chain3 {V V' : World} {a b c : Obj} (hb : Below (((V.alloc a).alloc b).alloc c).heap.size (((V.alloc a).alloc b).alloc c) V') : Below V.heap.size V V' := chain2 (chain1 hb)
theorem chain4 {V V' : World} {a b c d : Obj} (hb : Below ((((V.alloc a).alloc b).alloc c).alloc d).heap.size ((((V.alloc a).alloc b).alloc c).alloc d) V') : Below V.heap.size V V' := chain3 (chain1 hb)
theorem chain5 {V V' : World} {a b c d e : Obj} (hb : Below (((((V.alloc a).alloc b).alloc c).alloc d).alloc e).heap.size (((((V.alloc a).alloc b).alloc c).alloc d).alloc e) V') : Below V.heap.size V V' := chain4 (chain1 hb)

theorem rd_litG {W : World} {b : Nat} {A : Array Value} {xs : List Int} (k : Blk W b 3 A) (h : A.toList = xs.map (Value.int .i64)) (i : Nat) (hi : i < xs.length) : W.cell? ⟨b, 0 + i, none⟩ = some (.int .i64 (xs[i]?.getD 0)) := by
  have := rd_lit k h (List.getElem?_eq_getElem hi)
  rw [this, List.getElem?_eq_getElem hi]; rfl
theorem rdb_lit {W : World} {b : Nat} {A : Array Value} {bs : List Bool} (k : Blk W b 4 A) (h : A.toList = bs.map Value.bool) (i : Nat) (hi : i < bs.length) : W.cell? ⟨b, 0 + i, none⟩ = some (.bool (bs[i]?.getD false)) := by
  rw [Nat.zero_add]
  refine k.cell ?_
  have : A.toList[i]? = some (.bool (bs[i]?.getD false)) := by rw [h, List.getElem?_map, List.getElem?_eq_getElem hi]; rfl
  simpa using this

/-- Label's example of the chapter. -/
theorem labS_ex : labS 2 2 [1, 0, 0, 9] false = { im := { w := 2, h := 2, px := [1, 0, 0, 2], err := 0 }, n := 2 } := by
  have h0 : labTo 4 2 false (isNz [1, 0, 0, 9]) 0 = ([0, 0, 0, 0], 0) := rfl
  have d1 : ∀ k, k < 4 → ∀ l, l < 4 → px [1, 0, 0, 0] (k : Nat) = ((0 + 1 : Nat) : Int) → nearB 2 false k l = true → isNz [1, 0, 0, 9] l = true → px [1, 0, 0, 0] (l : Nat) ≠ 0 := by decide
  have d2 : ∀ k, k < 4 → ∀ l, l < 4 → px [1, 0, 0, 2] (k : Nat) = ((1 + 1 : Nat) : Int) → nearB 2 false k l = true → isNz [1, 0, 0, 9] l = true → px [1, 0, 0, 2] (l : Nat) ≠ 0 := by decide
  have h1 : labTo 4 2 false (isNz [1, 0, 0, 9]) 1 = ([1, 0, 0, 0], 1) := by
    refine labTo_fill h0 (by decide) (by decide) (by decide) rfl ⟨by decide, fun k hk => ?_, fun k hk => ?_⟩
    · match k, hk with
      | 0, _ => exact .inr ⟨by decide, by decide, .base⟩
      | 1, _ => exact .inl (by decide)
      | 2, _ => exact .inl (by decide)
      | 3, _ => exact .inl (by decide)
    · exact fun hv _ l hl a b => d1 k hk l hl hv a b
  have h2 := labTo_skip h1 (by decide)
  have h3 := labTo_skip h2 (by decide)
  have h4 : labTo 4 2 false (isNz [1, 0, 0, 9]) 4 = ([1, 0, 0, 2], 2) := by
    refine labTo_fill h3 (by decide) (by decide) (by decide) rfl ⟨by decide, fun k hk => ?_, fun k hk => ?_⟩
    · match k, hk with
      | 0, _ => exact .inl (by decide)
      | 1, _ => exact .inl (by decide)
      | 2, _ => exact .inl (by decide)
      | 3, _ => exact .inr ⟨by decide, by decide, .base⟩
    · exact fun hv _ l hl a b => d2 k hk l hl hv a b
  have hv : vld 2 2 [1, 0, 0, 9] = true := by decide
  unfold labS
  rw [if_pos hv]
  have e1 : (2 : Int).toNat * (2 : Int).toNat = 4 := rfl
  have e2 : (2 : Int).toNat = 2 := rfl
  rw [e1, e2, h4]; rfl

set_option maxRecDepth 100000 in
set_option maxHeartbeats 16000000 in
theorem alive_any (w : World) : Calls Try.prog 61 #[] w fun e w' => e = .returned (.bool true) ∧ Below w.heap.size w w' := by
  have hB : Below w.heap.size w w := Below.refl _ _
  refine (callsIn_wide (n := 10)).1 ?_
  refine callsIn_of_wp_marks Try.func61 rfl trivial ?_
  simp only [Try.ntmps61, List.size_toArray, List.length_cons, List.length_nil, Nat.reduceAdd, Nat.reduceSub, Array.replicate_succ, Array.replicate_zero, List.push_toArray, List.append_toArray, List.nil_append, List.cons_append]
  gi_wp2_with fail
  refine ⟨trivial, (callsIn_wide.2 (rows_lit [[1, 2, 3]] [1, 2, 3] rfl (by decide) (by decide) 3 1 [1, 2, 3] 1 rfl rfl rfl rfl _ 1 _ (rdss1 w (w.heap.size) (by simp) [1, 2, 3] #[.int .i64 1, .int .i64 2, .int .i64 3] rfl 3 rfl))).mono ?_⟩
  rintro e V1 ⟨⟨v, rfl, hv⟩, hb⟩
  obtain ⟨sl, rfl, hrow⟩ := hv
  obtain ⟨sma, smc, rfl⟩ := row_slice hrow
  have rm : V1.ownsRow w.heap.size 3 1 (.slice sma 3 smc) 3 ([1, 2, 3].map (Value.int .i64)) := row_base hrow (Nat.le_trans hB.size (by simp <;> omega))
  clear hrow
  have hbf := chain2 hb
  clear hb
  replace hB := hB.trans (hbf.mono hB.size)
  clear hbf
  try simp only [List.length_cons, List.length_nil, Nat.reduceAdd]
  gi_wp2_with fail
  have km := Blk.new V1 24 #[.int .i64 3, .int .i64 1, .slice sma 3 smc]
  replace rm := rm.alloc (.cells #[.int .i64 3, .int .i64 1, .slice sma 3 smc] 24)
  replace hB := below_al hB (.cells #[.int .i64 3, .int .i64 1, .slice sma 3 smc] 24)
  obtain ⟨bm, hbm⟩ : ∃ b, V1.heap.size = b := ⟨_, rfl⟩
  rw [hbm] at km
  obtain ⟨W1, hW1⟩ : ∃ X, V1.alloc (.cells #[.int .i64 3, .int .i64 1, .slice sma 3 smc] 24) = X := ⟨_, rfl⟩
  try rw [hbm]
  rw [hW1] at km rm hB ⊢
  clear hW1 hbm
  clear V1
  refine wpIn_mono (Q := fun e' a' w' => e' = .normal ∧ ∃ (ba : Nat) (saa : Option Addr) (sac : Nat), Blk w' ba 24 #[.int .i64 3, .int .i64 1, .slice saa 3 sac] ∧ w'.ownsRow w.heap.size 3 1 (.slice saa 3 sac) 3 ([-1, 2, -1].map (Value.int .i64)) ∧ Below W1.heap.size W1 w' ∧ ∃ u : Nat → Value, a' = ⟨#[u 0, .pointer (some ⟨bm, 0, none⟩), .pointer (some ⟨ba, 0, none⟩), .int .i64 0, u 4, u 5, u 6, u 7, u 8, u 9, u 10, u 11, u 12, u 13, u 14, u 15, u 16, u 17, u 18, u 19, u 20, u 21, u 22, u 23, u 24, u 25, u 26, u 27, u 28, u 29, u 30, u 31, u 32, u 33, u 34, u 35, u 36, u 37, u 38, u 39, u 40, u 41, u 42, u 43, u 44, u 45, u 46, u 47, u 48, u 49, u 50, u 51, u 52, u 53, u 54, u 55, u 56, u 57, u 58, u 59, u 60, u 61, u 62, u 63, u 64, u 65, u 66, u 67, u 68, u 69, u 70, u 71, u 72, u 73, u 74, u 75, u 76, u 77, u 78, u 79, u 80, u 81, u 82, u 83, u 84, u 85, u 86, u 87, u 88, u 89, u 90, u 91, u 92, u 93, u 94, u 95, u 96, u 97, u 98, u 99, u 100, u 101, u 102, u 103, u 104, u 105, u 106, u 107, u 108, u 109, u 110, u 111, u 112, u 113, u 114, u 115, u 116, u 117, u 118, u 119, u 120, u 121, u 122, u 123, u 124, u 125, u 126, u 127, u 128, u 129, u 130, u 131, u 132, u 133, u 134, u 135, u 136, u 137, u 138, u 139, u 140, u 141, u 142, u 143, u 144, u 145, u 146, u 147, u 148, u 149], []⟩) ?d2 ?c2
  case d2 =>
    refine wpIn_wide.2 ?_
    have hS : Below W1.heap.size W1 W1.drew := (Below.refl _ _).drew
    refine plain_region (fun W' => Below W1.heap.size W1 W') 10 10 (by kernel_rfl) rfl ?_
    simp only [Array.replicate_succ, Array.replicate_zero, List.push_toArray, List.nil_append, List.cons_append]
    obtain ⟨X0, hX0⟩ : ∃ X, W1.drew = X := ⟨_, rfl⟩
    rw [hX0] at hS ⊢
    clear hX0
    refine take_op 0 (v := ?r1v) rfl (by kernel_rfl) (fun _ _ _ h => nomatch h.1) (by rfl) hS (fun w' hS' => ?r1y) ?r1z
    case r1y =>
      have c0 := (km.below hS' km.lt).cell (i := 0) rfl
      have c1 := (km.below hS' km.lt).cell (i := 1) rfl
      have c2 := (km.below hS' km.lt).cell (i := 2) rfl
      go_simp
      rfl
    simp only [List.setIfInBounds_toArray, List.set_cons_zero, List.set_cons_succ]
    refine fork2 (i := 1) (j := 7) (by kernel_rfl) ?_ ?_
    · refine step_at 1 rfl (fun K hK => ?_)
      rw [if_pos (by rfl)]
      go_simp
      have kt := Blk.new X0 3 #[.int .i64 1, .int .i64 0, .int .i64 (-1)]
      obtain ⟨bt, hbt⟩ : ∃ b, X0.heap.size = b := ⟨_, rfl⟩
      rw [hbt] at kt
      try rw [hbt]
      have hS1' := below_al hS (.cells #[.int .i64 1, .int .i64 0, .int .i64 (-1)] 3)
      obtain ⟨X1, hX1⟩ : ∃ X, X0.alloc (.cells #[.int .i64 1, .int .i64 0, .int .i64 (-1)] 3) = X := ⟨_, rfl⟩
      rw [hX1] at kt hS1' ⊢
      have hS1 := hS1'
      clear hS1' hX1 hbt
      refine hK.out _ _ (fun h => hS1) ?_
      clear hK K
      try simp only [Act.put, List.setIfInBounds_toArray, List.set_cons_zero, List.set_cons_succ]
      refine fork2 (i := 2) (j := 7) (by kernel_rfl) ?_ ?_
      · refine step_at 2 rfl (fun K hK => ?_)
        rw [if_pos (by rfl)]
        go_simp
        refine (line_any (some ⟨bt, 0, none⟩) 3 3 _).mono ?_
        rintro e X2 ⟨rfl, hb⟩
        replace kt := kt.below hb kt.lt
        have hS2 := hS1.trans (hb.mono hS1.size)
        clear hb
        refine hK.out _ _ (fun h => hS2) ?_
        clear hK K
        try simp only [Act.put, List.setIfInBounds_toArray, List.set_cons_zero, List.set_cons_succ]
        refine fork2 (i := 3) (j := 7) (by kernel_rfl) ?_ ?_
        · refine step_at 3 rfl (fun K hK => ?_)
          rw [if_pos (by rfl)]
          go_simp
          have hcall := Convolve_any 3 1 sma smc 3 [1, 2, 3] (Lib.hid rfl) 3 1 (some ⟨bt, 0, none⟩) 3 3 [1, 0, -1] (Lib.hid rfl) 3 (by decide) (by decide) X2 (by decide) (row_rd' rfl (row_below rm hS2)) (by decide) (.inr ⟨bt, 0, rfl, kt.lt, fun i hi => rd_litG kt rfl i hi⟩)
          rw [show convS 3 1 [1, 2, 3] 3 1 [1, 0, -1] 3 = { w := 3, h := 1, px := [-1, 2, -1], err := 0 } from by kernel_rfl] at hcall
          refine hcall.mono ?_
          clear hcall
          rintro e X3 ⟨⟨v, rfl, hv⟩, hb⟩
          obtain ⟨sl, rfl, hrow⟩ := hv
          obtain ⟨saa, sac, rfl⟩ := row_slice hrow
          have ra : X3.ownsRow w.heap.size 3 1 (.slice saa 3 sac) 3 ([-1, 2, -1].map (Value.int .i64)) := row_base hrow (Nat.le_trans hB.size hS2.size)
          have hS3 := hS2.trans (hb.mono hS2.size)
          clear hb hrow
          refine hK.out _ _ (fun h => hS3) ?_
          clear hK K
          try simp only [Act.put, List.setIfInBounds_toArray, List.set_cons_zero, List.set_cons_succ]
          refine take_op 4 (v := ?r2v) rfl (by kernel_rfl) (fun _ _ _ h => nomatch h.1) (by rfl) hS3 (fun w' hS' => ?r2y) ?r2z
          case r2y =>
            go_simp
            rfl
          simp only [List.setIfInBounds_toArray, List.set_cons_zero, List.set_cons_succ]
          refine take_op 5 (v := ?r3v) rfl (by kernel_rfl) (fun _ _ _ h => nomatch h.1) (by rfl) hS3 (fun w' hS' => ?r3y) ?r3z
          case r3y =>
            go_simp
            rfl
          simp only [List.setIfInBounds_toArray, List.set_cons_zero, List.set_cons_succ]
          refine take_op 6 (v := ?r4v) rfl (by kernel_rfl) (fun _ _ _ h => nomatch h.1) (by rfl) hS3 (fun w' hS' => ?r4y) ?r4z
          case r4y =>
            go_simp
            rfl
          simp only [List.setIfInBounds_toArray, List.set_cons_zero, List.set_cons_succ]
          refine step_op 7 (by kernel_rfl) rfl (fun K hK => ?_)
          rw [if_pos (by rfl)]
          go_simp
          have ka := Blk.new X3 24 #[.int .i64 0, .int .i64 0, .slice none 0 0]
          obtain ⟨ba, hba⟩ : ∃ b, X3.heap.size = b := ⟨_, rfl⟩
          have hbaW : W1.heap.size ≤ ba := by have := hS3.size; omega
          rw [hba] at ka
          try rw [hba]
          have hS7' := below_al hS3 (.cells #[.int .i64 0, .int .i64 0, .slice none 0 0] 24)
          replace ra := ra.alloc (.cells #[.int .i64 0, .int .i64 0, .slice none 0 0] 24)
          obtain ⟨X7, hX7⟩ : ∃ X, X3.alloc (.cells #[.int .i64 0, .int .i64 0, .slice none 0 0] 24) = X := ⟨_, rfl⟩
          rw [hX7] at ka hS7' ra ⊢
          have hS7 := hS7'
          clear hS7' hX7 hba
          refine hK.out _ _ (fun h => hS7) ?_
          clear hK K
          try simp only [Act.put, List.setIfInBounds_toArray, List.set_cons_zero, List.set_cons_succ]
          refine step_op 8 (by kernel_rfl) rfl (fun K hK => ?_)
          have o0 := ka.cell (i := 0) rfl
          have o1 := ka.cell (i := 1) rfl
          have o2 := ka.cell (i := 2) rfl
          have fo0 := ka.frozen 0
          have fo1 := ka.frozen 1
          have fo2 := ka.frozen 2
          have hlba := ka.lt
          rw [if_pos (by rfl)]
          go_simp
          have hS8 := hS7.trans (put3_below hbaW (.int .i64 3) (.int .i64 1) (.slice saa 3 sac))
          refine hK.out _ _ (fun h => hS8) ?_
          clear hK K
          try simp only [Act.put, List.setIfInBounds_toArray, List.set_cons_zero, List.set_cons_succ]
          refine take_op 9 (v := ?r5v) rfl (by kernel_rfl) (fun _ _ _ h => nomatch h.1) (by rfl) hS8 (fun w' hS' => ?r5y) ?r5z
          case r5y =>
            go_simp
            rfl
          simp only [List.setIfInBounds_toArray, List.set_cons_zero, List.set_cons_succ]
          refine done_ops (by kernel_rfl) ?_
          exact ⟨rfl, ba, saa, sac, put3_blk ka _ _ _, put3_row ra (ka.not_row (by decide) ra) _ _ _, hS8, ex_fn rfl⟩
        · refine step_at 7 rfl (fun K hK => ?_)
          rw [if_pos (by rfl)]
          go_simp
          have ka := Blk.new X2 24 #[.int .i64 0, .int .i64 0, .slice none 0 0]
          obtain ⟨ba, hba⟩ : ∃ b, X2.heap.size = b := ⟨_, rfl⟩
          have hbaW : W1.heap.size ≤ ba := by have := hS2.size; omega
          rw [hba] at ka
          try rw [hba]
          have hS7' := below_al hS2 (.cells #[.int .i64 0, .int .i64 0, .slice none 0 0] 24)
          replace kt := kt.alloc (.cells #[.int .i64 0, .int .i64 0, .slice none 0 0] 24)
          obtain ⟨X7, hX7⟩ : ∃ X, X2.alloc (.cells #[.int .i64 0, .int .i64 0, .slice none 0 0] 24) = X := ⟨_, rfl⟩
          rw [hX7] at ka hS7' kt ⊢
          have hS7 := hS7'
          clear hS7' hX7 hba
          refine hK.out _ _ (fun h => hS7) ?_
          clear hK K
          try simp only [Act.put, List.setIfInBounds_toArray, List.set_cons_zero, List.set_cons_succ]
          refine step_op 3 (by kernel_rfl) rfl (fun K hK => ?_)
          rw [if_pos (by rfl)]
          go_simp
          have hcall := Convolve_any 3 1 sma smc 3 [1, 2, 3] (Lib.hid rfl) 3 1 (some ⟨bt, 0, none⟩) 3 3 [1, 0, -1] (Lib.hid rfl) 3 (by decide) (by decide) X7 (by decide) (row_rd' rfl (row_below rm hS7)) (by decide) (.inr ⟨bt, 0, rfl, kt.lt, fun i hi => rd_litG kt rfl i hi⟩)
          rw [show convS 3 1 [1, 2, 3] 3 1 [1, 0, -1] 3 = { w := 3, h := 1, px := [-1, 2, -1], err := 0 } from by kernel_rfl] at hcall
          refine hcall.mono ?_
          clear hcall
          rintro e X3 ⟨⟨v, rfl, hv⟩, hb⟩
          obtain ⟨sl, rfl, hrow⟩ := hv
          obtain ⟨saa, sac, rfl⟩ := row_slice hrow
          have ra : X3.ownsRow w.heap.size 3 1 (.slice saa 3 sac) 3 ([-1, 2, -1].map (Value.int .i64)) := row_base hrow (Nat.le_trans hB.size hS7.size)
          replace ka := ka.below hb ka.lt
          have hS3 := hS7.trans (hb.mono hS7.size)
          clear hb hrow
          refine hK.out _ _ (fun h => hS3) ?_
          clear hK K
          try simp only [Act.put, List.setIfInBounds_toArray, List.set_cons_zero, List.set_cons_succ]
          refine take_op 4 (v := ?r6v) rfl (by kernel_rfl) (fun _ _ _ h => nomatch h.1) (by rfl) hS3 (fun w' hS' => ?r6y) ?r6z
          case r6y =>
            go_simp
            rfl
          simp only [List.setIfInBounds_toArray, List.set_cons_zero, List.set_cons_succ]
          refine take_op 5 (v := ?r7v) rfl (by kernel_rfl) (fun _ _ _ h => nomatch h.1) (by rfl) hS3 (fun w' hS' => ?r7y) ?r7z
          case r7y =>
            go_simp
            rfl
          simp only [List.setIfInBounds_toArray, List.set_cons_zero, List.set_cons_succ]
          refine take_op 6 (v := ?r8v) rfl (by kernel_rfl) (fun _ _ _ h => nomatch h.1) (by rfl) hS3 (fun w' hS' => ?r8y) ?r8z
          case r8y =>
            go_simp
            rfl
          simp only [List.setIfInBounds_toArray, List.set_cons_zero, List.set_cons_succ]
          refine step_op 8 (by kernel_rfl) rfl (fun K hK => ?_)
          have o0 := ka.cell (i := 0) rfl
          have o1 := ka.cell (i := 1) rfl
          have o2 := ka.cell (i := 2) rfl
          have fo0 := ka.frozen 0
          have fo1 := ka.frozen 1
          have fo2 := ka.frozen 2
          have hlba := ka.lt
          rw [if_pos (by rfl)]
          go_simp
          have hS8 := hS3.trans (put3_below hbaW (.int .i64 3) (.int .i64 1) (.slice saa 3 sac))
          refine hK.out _ _ (fun h => hS8) ?_
          clear hK K
          try simp only [Act.put, List.setIfInBounds_toArray, List.set_cons_zero, List.set_cons_succ]
          refine take_op 9 (v := ?r9v) rfl (by kernel_rfl) (fun _ _ _ h => nomatch h.1) (by rfl) hS8 (fun w' hS' => ?r9y) ?r9z
          case r9y =>
            go_simp
            rfl
          simp only [List.setIfInBounds_toArray, List.set_cons_zero, List.set_cons_succ]
          refine done_ops (by kernel_rfl) ?_
          exact ⟨rfl, ba, saa, sac, put3_blk ka _ _ _, put3_row ra (ka.not_row (by decide) ra) _ _ _, hS8, ex_fn rfl⟩
      · refine step_at 7 rfl (fun K hK => ?_)
        rw [if_pos (by rfl)]
        go_simp
        have ka := Blk.new X1 24 #[.int .i64 0, .int .i64 0, .slice none 0 0]
        obtain ⟨ba, hba⟩ : ∃ b, X1.heap.size = b := ⟨_, rfl⟩
        have hbaW : W1.heap.size ≤ ba := by have := hS1.size; omega
        rw [hba] at ka
        try rw [hba]
        have hS7' := below_al hS1 (.cells #[.int .i64 0, .int .i64 0, .slice none 0 0] 24)
        replace kt := kt.alloc (.cells #[.int .i64 0, .int .i64 0, .slice none 0 0] 24)
        obtain ⟨X7, hX7⟩ : ∃ X, X1.alloc (.cells #[.int .i64 0, .int .i64 0, .slice none 0 0] 24) = X := ⟨_, rfl⟩
        rw [hX7] at ka hS7' kt ⊢
        have hS7 := hS7'
        clear hS7' hX7 hba
        refine hK.out _ _ (fun h => hS7) ?_
        clear hK K
        try simp only [Act.put, List.setIfInBounds_toArray, List.set_cons_zero, List.set_cons_succ]
        refine step_op 2 (by kernel_rfl) rfl (fun K hK => ?_)
        rw [if_pos (by rfl)]
        go_simp
        refine (line_any (some ⟨bt, 0, none⟩) 3 3 _).mono ?_
        rintro e X2 ⟨rfl, hb⟩
        replace kt := kt.below hb kt.lt
        replace ka := ka.below hb ka.lt
        have hS2 := hS7.trans (hb.mono hS7.size)
        clear hb
        refine hK.out _ _ (fun h => hS2) ?_
        clear hK K
        try simp only [Act.put, List.setIfInBounds_toArray, List.set_cons_zero, List.set_cons_succ]
        refine step_op 3 (by kernel_rfl) rfl (fun K hK => ?_)
        rw [if_pos (by rfl)]
        go_simp
        have hcall := Convolve_any 3 1 sma smc 3 [1, 2, 3] (Lib.hid rfl) 3 1 (some ⟨bt, 0, none⟩) 3 3 [1, 0, -1] (Lib.hid rfl) 3 (by decide) (by decide) X2 (by decide) (row_rd' rfl (row_below rm hS2)) (by decide) (.inr ⟨bt, 0, rfl, kt.lt, fun i hi => rd_litG kt rfl i hi⟩)
        rw [show convS 3 1 [1, 2, 3] 3 1 [1, 0, -1] 3 = { w := 3, h := 1, px := [-1, 2, -1], err := 0 } from by kernel_rfl] at hcall
        refine hcall.mono ?_
        clear hcall
        rintro e X3 ⟨⟨v, rfl, hv⟩, hb⟩
        obtain ⟨sl, rfl, hrow⟩ := hv
        obtain ⟨saa, sac, rfl⟩ := row_slice hrow
        have ra : X3.ownsRow w.heap.size 3 1 (.slice saa 3 sac) 3 ([-1, 2, -1].map (Value.int .i64)) := row_base hrow (Nat.le_trans hB.size hS2.size)
        replace ka := ka.below hb ka.lt
        have hS3 := hS2.trans (hb.mono hS2.size)
        clear hb hrow
        refine hK.out _ _ (fun h => hS3) ?_
        clear hK K
        try simp only [Act.put, List.setIfInBounds_toArray, List.set_cons_zero, List.set_cons_succ]
        refine take_op 4 (v := ?r10v) rfl (by kernel_rfl) (fun _ _ _ h => nomatch h.1) (by rfl) hS3 (fun w' hS' => ?r10y) ?r10z
        case r10y =>
          go_simp
          rfl
        simp only [List.setIfInBounds_toArray, List.set_cons_zero, List.set_cons_succ]
        refine take_op 5 (v := ?r11v) rfl (by kernel_rfl) (fun _ _ _ h => nomatch h.1) (by rfl) hS3 (fun w' hS' => ?r11y) ?r11z
        case r11y =>
          go_simp
          rfl
        simp only [List.setIfInBounds_toArray, List.set_cons_zero, List.set_cons_succ]
        refine take_op 6 (v := ?r12v) rfl (by kernel_rfl) (fun _ _ _ h => nomatch h.1) (by rfl) hS3 (fun w' hS' => ?r12y) ?r12z
        case r12y =>
          go_simp
          rfl
        simp only [List.setIfInBounds_toArray, List.set_cons_zero, List.set_cons_succ]
        refine step_op 8 (by kernel_rfl) rfl (fun K hK => ?_)
        have o0 := ka.cell (i := 0) rfl
        have o1 := ka.cell (i := 1) rfl
        have o2 := ka.cell (i := 2) rfl
        have fo0 := ka.frozen 0
        have fo1 := ka.frozen 1
        have fo2 := ka.frozen 2
        have hlba := ka.lt
        rw [if_pos (by rfl)]
        go_simp
        have hS8 := hS3.trans (put3_below hbaW (.int .i64 3) (.int .i64 1) (.slice saa 3 sac))
        refine hK.out _ _ (fun h => hS8) ?_
        clear hK K
        try simp only [Act.put, List.setIfInBounds_toArray, List.set_cons_zero, List.set_cons_succ]
        refine take_op 9 (v := ?r13v) rfl (by kernel_rfl) (fun _ _ _ h => nomatch h.1) (by rfl) hS8 (fun w' hS' => ?r13y) ?r13z
        case r13y =>
          go_simp
          rfl
        simp only [List.setIfInBounds_toArray, List.set_cons_zero, List.set_cons_succ]
        refine done_ops (by kernel_rfl) ?_
        exact ⟨rfl, ba, saa, sac, put3_blk ka _ _ _, put3_row ra (ka.not_row (by decide) ra) _ _ _, hS8, ex_fn rfl⟩
    · refine step_at 7 rfl (fun K hK => ?_)
      rw [if_pos (by rfl)]
      go_simp
      have ka := Blk.new X0 24 #[.int .i64 0, .int .i64 0, .slice none 0 0]
      obtain ⟨ba, hba⟩ : ∃ b, X0.heap.size = b := ⟨_, rfl⟩
      have hbaW : W1.heap.size ≤ ba := by have := hS.size; omega
      rw [hba] at ka
      try rw [hba]
      have hS7' := below_al hS (.cells #[.int .i64 0, .int .i64 0, .slice none 0 0] 24)
      obtain ⟨X7, hX7⟩ : ∃ X, X0.alloc (.cells #[.int .i64 0, .int .i64 0, .slice none 0 0] 24) = X := ⟨_, rfl⟩
      rw [hX7] at ka hS7' ⊢
      have hS7 := hS7'
      clear hS7' hX7 hba
      refine hK.out _ _ (fun h => hS7) ?_
      clear hK K
      try simp only [Act.put, List.setIfInBounds_toArray, List.set_cons_zero, List.set_cons_succ]
      refine step_op 1 (by kernel_rfl) rfl (fun K hK => ?_)
      rw [if_pos (by rfl)]
      go_simp
      have kt := Blk.new X7 3 #[.int .i64 1, .int .i64 0, .int .i64 (-1)]
      obtain ⟨bt, hbt⟩ : ∃ b, X7.heap.size = b := ⟨_, rfl⟩
      rw [hbt] at kt
      try rw [hbt]
      have hS1' := below_al hS7 (.cells #[.int .i64 1, .int .i64 0, .int .i64 (-1)] 3)
      replace ka := ka.alloc (.cells #[.int .i64 1, .int .i64 0, .int .i64 (-1)] 3)
      obtain ⟨X1, hX1⟩ : ∃ X, X7.alloc (.cells #[.int .i64 1, .int .i64 0, .int .i64 (-1)] 3) = X := ⟨_, rfl⟩
      rw [hX1] at kt hS1' ka ⊢
      have hS1 := hS1'
      clear hS1' hX1 hbt
      refine hK.out _ _ (fun h => hS1) ?_
      clear hK K
      try simp only [Act.put, List.setIfInBounds_toArray, List.set_cons_zero, List.set_cons_succ]
      refine step_op 2 (by kernel_rfl) rfl (fun K hK => ?_)
      rw [if_pos (by rfl)]
      go_simp
      refine (line_any (some ⟨bt, 0, none⟩) 3 3 _).mono ?_
      rintro e X2 ⟨rfl, hb⟩
      replace kt := kt.below hb kt.lt
      replace ka := ka.below hb ka.lt
      have hS2 := hS1.trans (hb.mono hS1.size)
      clear hb
      refine hK.out _ _ (fun h => hS2) ?_
      clear hK K
      try simp only [Act.put, List.setIfInBounds_toArray, List.set_cons_zero, List.set_cons_succ]
      refine step_op 3 (by kernel_rfl) rfl (fun K hK => ?_)
      rw [if_pos (by rfl)]
      go_simp
      have hcall := Convolve_any 3 1 sma smc 3 [1, 2, 3] (Lib.hid rfl) 3 1 (some ⟨bt, 0, none⟩) 3 3 [1, 0, -1] (Lib.hid rfl) 3 (by decide) (by decide) X2 (by decide) (row_rd' rfl (row_below rm hS2)) (by decide) (.inr ⟨bt, 0, rfl, kt.lt, fun i hi => rd_litG kt rfl i hi⟩)
      rw [show convS 3 1 [1, 2, 3] 3 1 [1, 0, -1] 3 = { w := 3, h := 1, px := [-1, 2, -1], err := 0 } from by kernel_rfl] at hcall
      refine hcall.mono ?_
      clear hcall
      rintro e X3 ⟨⟨v, rfl, hv⟩, hb⟩
      obtain ⟨sl, rfl, hrow⟩ := hv
      obtain ⟨saa, sac, rfl⟩ := row_slice hrow
      have ra : X3.ownsRow w.heap.size 3 1 (.slice saa 3 sac) 3 ([-1, 2, -1].map (Value.int .i64)) := row_base hrow (Nat.le_trans hB.size hS2.size)
      replace ka := ka.below hb ka.lt
      have hS3 := hS2.trans (hb.mono hS2.size)
      clear hb hrow
      refine hK.out _ _ (fun h => hS3) ?_
      clear hK K
      try simp only [Act.put, List.setIfInBounds_toArray, List.set_cons_zero, List.set_cons_succ]
      refine take_op 4 (v := ?r14v) rfl (by kernel_rfl) (fun _ _ _ h => nomatch h.1) (by rfl) hS3 (fun w' hS' => ?r14y) ?r14z
      case r14y =>
        go_simp
        rfl
      simp only [List.setIfInBounds_toArray, List.set_cons_zero, List.set_cons_succ]
      refine take_op 5 (v := ?r15v) rfl (by kernel_rfl) (fun _ _ _ h => nomatch h.1) (by rfl) hS3 (fun w' hS' => ?r15y) ?r15z
      case r15y =>
        go_simp
        rfl
      simp only [List.setIfInBounds_toArray, List.set_cons_zero, List.set_cons_succ]
      refine take_op 6 (v := ?r16v) rfl (by kernel_rfl) (fun _ _ _ h => nomatch h.1) (by rfl) hS3 (fun w' hS' => ?r16y) ?r16z
      case r16y =>
        go_simp
        rfl
      simp only [List.setIfInBounds_toArray, List.set_cons_zero, List.set_cons_succ]
      refine step_op 8 (by kernel_rfl) rfl (fun K hK => ?_)
      have o0 := ka.cell (i := 0) rfl
      have o1 := ka.cell (i := 1) rfl
      have o2 := ka.cell (i := 2) rfl
      have fo0 := ka.frozen 0
      have fo1 := ka.frozen 1
      have fo2 := ka.frozen 2
      have hlba := ka.lt
      rw [if_pos (by rfl)]
      go_simp
      have hS8 := hS3.trans (put3_below hbaW (.int .i64 3) (.int .i64 1) (.slice saa 3 sac))
      refine hK.out _ _ (fun h => hS8) ?_
      clear hK K
      try simp only [Act.put, List.setIfInBounds_toArray, List.set_cons_zero, List.set_cons_succ]
      refine take_op 9 (v := ?r17v) rfl (by kernel_rfl) (fun _ _ _ h => nomatch h.1) (by rfl) hS8 (fun w' hS' => ?r17y) ?r17z
      case r17y =>
        go_simp
        rfl
      simp only [List.setIfInBounds_toArray, List.set_cons_zero, List.set_cons_succ]
      refine done_ops (by kernel_rfl) ?_
      exact ⟨rfl, ba, saa, sac, put3_blk ka _ _ _, put3_row ra (ka.not_row (by decide) ra) _ _ _, hS8, ex_fn rfl⟩
  case c2 =>
  rintro e' a' W2 ⟨rfl, ba, saa, sac, ka, ra, hb2, u, rfl⟩
  replace hB := hB.trans (hb2.mono hB.size)
  clear hb2 km rm
  gi_wp2_with fail
  refine ⟨trivial, (callsIn_wide.2 (rows_lit [[5, 1, 4]] [5, 1, 4] rfl (by decide) (by decide) 3 1 [5, 1, 4] 1 rfl rfl rfl rfl _ 1 _ (rdss1 W2 (W2.heap.size) (by simp) [5, 1, 4] #[.int .i64 5, .int .i64 1, .int .i64 4] rfl 3 rfl))).mono ?_⟩
  rintro e V2 ⟨⟨v, rfl, hv⟩, hb⟩
  obtain ⟨sl, rfl, hrow⟩ := hv
  obtain ⟨sxa, sxc, rfl⟩ := row_slice hrow
  have rx : V2.ownsRow w.heap.size 3 1 (.slice sxa 3 sxc) 3 ([5, 1, 4].map (Value.int .i64)) := row_base hrow (Nat.le_trans hB.size (by simp <;> omega))
  clear hrow
  have hbf := chain2 hb
  clear hb
  replace ka := ka.below hbf ka.lt
  replace ra := row_below ra hbf
  replace hB := hB.trans (hbf.mono hB.size)
  clear hbf
  try simp only [List.length_cons, List.length_nil, Nat.reduceAdd]
  gi_wp2_with fail
  have hcall := Dilate_any 3 1 sxa sxc 3 [5, 1, 4] (Lib.hid rfl) 3 1 (some ⟨V2.heap.size, 0, none⟩) 3 3 [true, true, true] (Lib.hid rfl) (V2.alloc (.cells #[.bool true, .bool true, .bool true] 4)) (by decide) (row_rd' rfl (rx.alloc (.cells #[.bool true, .bool true, .bool true] 4))) (by decide) (.inr ⟨_, 0, rfl, by simp, fun i hi => rdb_lit (Blk.new V2 4 #[.bool true, .bool true, .bool true]) rfl i hi⟩)
  rw [show morS true 3 1 [5, 1, 4] 3 1 [true, true, true] = { w := 3, h := 1, px := [5, 5, 4], err := 0 } from by kernel_rfl] at hcall
  refine ⟨trivial, (callsIn_wide.2 hcall).mono ?_⟩
  clear hcall
  rintro e V3 ⟨⟨v, rfl, hv⟩, hb⟩
  obtain ⟨sl, rfl, hrow⟩ := hv
  obtain ⟨sba, sbc, rfl⟩ := row_slice hrow
  have rb : V3.ownsRow w.heap.size 3 1 (.slice sba 3 sbc) 3 ([5, 5, 4].map (Value.int .i64)) := row_base hrow (Nat.le_trans hB.size (by simp <;> omega))
  clear hrow
  have hbf := chain1 hb
  clear hb
  replace ka := ka.below hbf ka.lt
  replace ra := row_below ra hbf
  replace rx := row_below rx hbf
  replace hB := hB.trans (hbf.mono hB.size)
  clear hbf
  clear rx
  gi_wp2_with fail
  refine ⟨trivial, (callsIn_wide.2 (rows_lit [[3, 0, 7, 7]] [3, 0, 7, 7] rfl (by decide) (by decide) 4 1 [3, 0, 7, 7] 1 rfl rfl rfl rfl _ 1 _ (rdss1 (V3.alloc (.cells #[.int .i64 3, .int .i64 1, .slice sba 3 sbc] 24)) (V3.heap.size + 1) (by simp) [3, 0, 7, 7] #[.int .i64 3, .int .i64 0, .int .i64 7, .int .i64 7] rfl 4 rfl))).mono ?_⟩
  rintro e V4 ⟨⟨v, rfl, hv⟩, hb⟩
  obtain ⟨sl, rfl, hrow⟩ := hv
  obtain ⟨sxa, sxc, rfl⟩ := row_slice hrow
  have rx : V4.ownsRow w.heap.size 3 1 (.slice sxa 4 sxc) 4 ([3, 0, 7, 7].map (Value.int .i64)) := row_base hrow (Nat.le_trans hB.size (by simp <;> omega))
  clear hrow
  have kb := (((Blk.new V3 24 #[.int .i64 3, .int .i64 1, .slice sba 3 sbc]).alloc (.cells #[.int .i64 3, .int .i64 0, .int .i64 7, .int .i64 7] 3)).alloc (.cells #[.slice (some ⟨V3.heap.size + 1, 0, none⟩) 4 4] 22)).below hb (by simp <;> omega)
  have hbf := chain3 hb
  clear hb
  replace ka := ka.below hbf ka.lt
  replace ra := row_below ra hbf
  replace rb := row_below rb hbf
  replace hB := hB.trans (hbf.mono hB.size)
  clear hbf
  try simp only [List.length_cons, List.length_nil, Nat.reduceAdd]
  gi_wp2_with fail
  have hcall := Distance_any 4 1 sxa sxc 4 [3, 0, 7, 7] (Lib.hid rfl) V4 (by decide) (row_rd' rfl rx)
  rw [show distS 4 1 [3, 0, 7, 7] = { w := 4, h := 1, px := [1, 0, 1, 2], err := 0 } from by kernel_rfl] at hcall
  refine ⟨trivial, (callsIn_wide.2 hcall).mono ?_⟩
  clear hcall
  rintro e V5 ⟨⟨v, rfl, hv⟩, hb⟩
  obtain ⟨sl, rfl, hrow⟩ := hv
  obtain ⟨sca, scc, rfl⟩ := row_slice hrow
  have rc : V5.ownsRow w.heap.size 3 1 (.slice sca 4 scc) 4 ([1, 0, 1, 2].map (Value.int .i64)) := row_base hrow (Nat.le_trans hB.size (by simp <;> omega))
  clear hrow
  have hbf := chain0 hb
  clear hb
  replace ka := ka.below hbf ka.lt
  replace kb := kb.below hbf kb.lt
  replace ra := row_below ra hbf
  replace rb := row_below rb hbf
  replace rx := row_below rx hbf
  replace hB := hB.trans (hbf.mono hB.size)
  clear hbf
  clear rx
  gi_wp2_with fail
  refine ⟨trivial, (callsIn_wide.2 (rows_lit [[1, 0], [0, 9]] [1, 0] rfl (by decide) (by decide) 2 2 [1, 0, 0, 9] 2 rfl rfl rfl rfl _ 2 _ (rdss2 (V5.alloc (.cells #[.int .i64 4, .int .i64 1, .slice sca 4 scc] 24)) (V5.heap.size + 1) (by simp) [1, 0] #[.int .i64 1, .int .i64 0] rfl 2 rfl [0, 9] #[.int .i64 0, .int .i64 9] rfl 2 rfl))).mono ?_⟩
  rintro e V6 ⟨⟨v, rfl, hv⟩, hb⟩
  obtain ⟨sl, rfl, hrow⟩ := hv
  obtain ⟨sxa, sxc, rfl⟩ := row_slice hrow
  have rx : V6.ownsRow w.heap.size 3 1 (.slice sxa 4 sxc) 4 ([1, 0, 0, 9].map (Value.int .i64)) := row_base hrow (Nat.le_trans hB.size (by simp <;> omega))
  clear hrow
  have kc := ((((Blk.new V5 24 #[.int .i64 4, .int .i64 1, .slice sca 4 scc]).alloc (.cells #[.int .i64 1, .int .i64 0] 3)).alloc (.cells #[.int .i64 0, .int .i64 9] 3)).alloc (.cells #[.slice (some ⟨V5.heap.size + 1, 0, none⟩) 2 2, .slice (some ⟨V5.heap.size + 1 + 1, 0, none⟩) 2 2] 22)).below hb (by simp <;> omega)
  have hbf := chain4 hb
  clear hb
  replace ka := ka.below hbf ka.lt
  replace kb := kb.below hbf kb.lt
  replace ra := row_below ra hbf
  replace rb := row_below rb hbf
  replace rc := row_below rc hbf
  replace hB := hB.trans (hbf.mono hB.size)
  clear hbf
  try simp only [List.length_cons, List.length_nil, Nat.reduceAdd]
  gi_wp2_with fail
  have hcall := Label_any 2 2 sxa sxc 4 [1, 0, 0, 9] (Lib.hid rfl) false V6 (by decide) (row_rd' rfl rx)
  rw [show labS 2 2 [1, 0, 0, 9] false = { im := { w := 2, h := 2, px := [1, 0, 0, 2], err := 0 }, n := 2 } from labS_ex] at hcall
  refine ⟨trivial, (callsIn_wide.2 hcall).mono ?_⟩
  clear hcall
  rintro e V7 ⟨⟨v, rfl, hv⟩, hb⟩
  obtain ⟨sl, rfl, hrow⟩ := hv
  obtain ⟨sda, sdc, rfl⟩ := row_slice hrow
  have rd : V7.ownsRow w.heap.size 3 1 (.slice sda 4 sdc) 4 ([1, 0, 0, 2].map (Value.int .i64)) := row_base hrow (Nat.le_trans hB.size (by simp <;> omega))
  clear hrow
  have hbf := chain0 hb
  clear hb
  replace ka := ka.below hbf ka.lt
  replace kb := kb.below hbf kb.lt
  replace kc := kc.below hbf kc.lt
  replace ra := row_below ra hbf
  replace rb := row_below rb hbf
  replace rc := row_below rc hbf
  replace rx := row_below rx hbf
  replace hB := hB.trans (hbf.mono hB.size)
  clear hbf
  clear rx
  have z0 := (ka.alloc (.cells #[.int .i64 2, .int .i64 2, .slice sda 4 sdc] 24)).cell (i := 0) rfl
  have z1 := (ka.alloc (.cells #[.int .i64 2, .int .i64 2, .slice sda 4 sdc] 24)).cell (i := 1) rfl
  have z2 := (ka.alloc (.cells #[.int .i64 2, .int .i64 2, .slice sda 4 sdc] 24)).cell (i := 2) rfl
  gi_wp2_with fail
  clear z0 z1 z2
  refine ⟨trivial, (callsIn_wide.2 (is_true [[-1, 2, -1]] [-1, 2, -1] rfl (by decide) (by decide) 3 1 [-1, 2, -1] 1 rfl rfl rfl rfl saa sac 3 (Lib.hid rfl) (by decide) _ 1 _ (row_rd' rfl (((ra.alloc (.cells #[.int .i64 2, .int .i64 2, .slice sda 4 sdc] 24)).alloc (.cells #[.int .i64 (-1), .int .i64 2, .int .i64 (-1)] 3)).alloc (.cells #[.slice (some ⟨V7.heap.size + 1, 0, none⟩) 3 3] 22))) (rdss1 (V7.alloc (.cells #[.int .i64 2, .int .i64 2, .slice sda 4 sdc] 24)) (V7.heap.size + 1) (by simp) [-1, 2, -1] #[.int .i64 (-1), .int .i64 2, .int .i64 (-1)] rfl 3 rfl))).mono ?_⟩
  rintro e V8 ⟨rfl, hb⟩
  have kd := (((Blk.new V7 24 #[.int .i64 2, .int .i64 2, .slice sda 4 sdc]).alloc (.cells #[.int .i64 (-1), .int .i64 2, .int .i64 (-1)] 3)).alloc (.cells #[.slice (some ⟨V7.heap.size + 1, 0, none⟩) 3 3] 22)).below hb (by simp <;> omega)
  have hbf := chain3 hb
  clear hb
  replace ka := ka.below hbf ka.lt
  replace kb := kb.below hbf kb.lt
  replace kc := kc.below hbf kc.lt
  replace ra := row_below ra hbf
  replace rb := row_below rb hbf
  replace rc := row_below rc hbf
  replace rd := row_below rd hbf
  replace hB := hB.trans (hbf.mono hB.size)
  clear hbf
  have z0 := kb.cell (i := 0) rfl
  have z1 := kb.cell (i := 1) rfl
  have z2 := kb.cell (i := 2) rfl
  gi_wp2_with fail
  clear z0 z1 z2
  refine ⟨trivial, (callsIn_wide.2 (is_true [[5, 5, 4]] [5, 5, 4] rfl (by decide) (by decide) 3 1 [5, 5, 4] 1 rfl rfl rfl rfl sba sbc 3 (Lib.hid rfl) (by decide) _ 1 _ (row_rd' rfl ((rb.alloc (.cells #[.int .i64 5, .int .i64 5, .int .i64 4] 3)).alloc (.cells #[.slice (some ⟨V8.heap.size, 0, none⟩) 3 3] 22))) (rdss1 V8 (V8.heap.size) (by simp) [5, 5, 4] #[.int .i64 5, .int .i64 5, .int .i64 4] rfl 3 rfl))).mono ?_⟩
  rintro e V9 ⟨rfl, hb⟩
  have hbf := chain2 hb
  clear hb
  replace ka := ka.below hbf ka.lt
  replace kb := kb.below hbf kb.lt
  replace kc := kc.below hbf kc.lt
  replace kd := kd.below hbf kd.lt
  replace ra := row_below ra hbf
  replace rb := row_below rb hbf
  replace rc := row_below rc hbf
  replace rd := row_below rd hbf
  replace hB := hB.trans (hbf.mono hB.size)
  clear hbf
  have z0 := kc.cell (i := 0) rfl
  have z1 := kc.cell (i := 1) rfl
  have z2 := kc.cell (i := 2) rfl
  gi_wp2_with fail
  clear z0 z1 z2
  refine ⟨trivial, (callsIn_wide.2 (is_true [[1, 0, 1, 2]] [1, 0, 1, 2] rfl (by decide) (by decide) 4 1 [1, 0, 1, 2] 1 rfl rfl rfl rfl sca scc 4 (Lib.hid rfl) (by decide) _ 1 _ (row_rd' rfl ((rc.alloc (.cells #[.int .i64 1, .int .i64 0, .int .i64 1, .int .i64 2] 3)).alloc (.cells #[.slice (some ⟨V9.heap.size, 0, none⟩) 4 4] 22))) (rdss1 V9 (V9.heap.size) (by simp) [1, 0, 1, 2] #[.int .i64 1, .int .i64 0, .int .i64 1, .int .i64 2] rfl 4 rfl))).mono ?_⟩
  rintro e V10 ⟨rfl, hb⟩
  have hbf := chain2 hb
  clear hb
  replace ka := ka.below hbf ka.lt
  replace kb := kb.below hbf kb.lt
  replace kc := kc.below hbf kc.lt
  replace kd := kd.below hbf kd.lt
  replace ra := row_below ra hbf
  replace rb := row_below rb hbf
  replace rc := row_below rc hbf
  replace rd := row_below rd hbf
  replace hB := hB.trans (hbf.mono hB.size)
  clear hbf
  have z0 := kd.cell (i := 0) rfl
  have z1 := kd.cell (i := 1) rfl
  have z2 := kd.cell (i := 2) rfl
  gi_wp2_with fail
  clear z0 z1 z2
  refine ⟨trivial, (callsIn_wide.2 (is_true [[1, 0], [0, 2]] [1, 0] rfl (by decide) (by decide) 2 2 [1, 0, 0, 2] 2 rfl rfl rfl rfl sda sdc 4 (Lib.hid rfl) (by decide) _ 2 _ (row_rd' rfl (((rd.alloc (.cells #[.int .i64 1, .int .i64 0] 3)).alloc (.cells #[.int .i64 0, .int .i64 2] 3)).alloc (.cells #[.slice (some ⟨V10.heap.size, 0, none⟩) 2 2, .slice (some ⟨V10.heap.size + 1, 0, none⟩) 2 2] 22))) (rdss2 V10 (V10.heap.size) (by simp) [1, 0] #[.int .i64 1, .int .i64 0] rfl 2 rfl [0, 2] #[.int .i64 0, .int .i64 2] rfl 2 rfl))).mono ?_⟩
  rintro e V11 ⟨rfl, hb⟩
  have hbf := chain3 hb
  clear hb
  replace ka := ka.below hbf ka.lt
  replace kb := kb.below hbf kb.lt
  replace kc := kc.below hbf kc.lt
  replace kd := kd.below hbf kd.lt
  replace ra := row_below ra hbf
  replace rb := row_below rb hbf
  replace rc := row_below rc hbf
  replace rd := row_below rd hbf
  replace hB := hB.trans (hbf.mono hB.size)
  clear hbf
  clear ka kb kc kd ra rb rc rd
  gi_wp2_with fail
  refine ⟨trivial, (callsIn_wide.2 (rows_lit [[3, 1, 2, 2, 0, 5]] [3, 1, 2, 2, 0, 5] rfl (by decide) (by decide) 6 1 [3, 1, 2, 2, 0, 5] 1 rfl rfl rfl rfl _ 1 _ (rdss1 V11 (V11.heap.size) (by simp) [3, 1, 2, 2, 0, 5] #[.int .i64 3, .int .i64 1, .int .i64 2, .int .i64 2, .int .i64 0, .int .i64 5] rfl 6 rfl))).mono ?_⟩
  rintro e V12 ⟨⟨v, rfl, hv⟩, hb⟩
  obtain ⟨sl, rfl, hrow⟩ := hv
  obtain ⟨sxa, sxc, rfl⟩ := row_slice hrow
  have rx : V12.ownsRow w.heap.size 3 1 (.slice sxa 6 sxc) 6 ([3, 1, 2, 2, 0, 5].map (Value.int .i64)) := row_base hrow (Nat.le_trans hB.size (by simp <;> omega))
  clear hrow
  have hbf := chain2 hb
  clear hb
  replace hB := hB.trans (hbf.mono hB.size)
  clear hbf
  try simp only [List.length_cons, List.length_nil, Nat.reduceAdd]
  gi_wp2_with fail
  have hcall := Basins_any 6 1 sxa sxc 6 [3, 1, 2, 2, 0, 5] (Lib.hid rfl) V12 (by decide) (row_rd' rfl rx)
  rw [show basS 6 1 [3, 1, 2, 2, 0, 5] = { im := { w := 6, h := 1, px := [1, 1, 1, 2, 2, 2], err := 0 }, n := 2 } from by kernel_rfl] at hcall
  refine ⟨trivial, (callsIn_wide.2 hcall).mono ?_⟩
  clear hcall
  rintro e V13 ⟨⟨v, rfl, hv⟩, hb⟩
  obtain ⟨sl, rfl, hrow⟩ := hv
  obtain ⟨spa, spc, rfl⟩ := row_slice hrow
  have rp : V13.ownsRow w.heap.size 3 1 (.slice spa 6 spc) 6 ([1, 1, 1, 2, 2, 2].map (Value.int .i64)) := row_base hrow (Nat.le_trans hB.size (by simp <;> omega))
  clear hrow
  have hbf := chain0 hb
  clear hb
  replace rx := row_below rx hbf
  replace hB := hB.trans (hbf.mono hB.size)
  clear hbf
  clear rx
  gi_wp2_with fail
  refine ⟨trivial, (callsIn_wide.2 (rows_lit [[1, 2, 3], [4, 5, 6]] [1, 2, 3] rfl (by decide) (by decide) 3 2 [1, 2, 3, 4, 5, 6] 2 rfl rfl rfl rfl _ 2 _ (rdss2 (V13.alloc (.cells #[.int .i64 6, .int .i64 1, .slice spa 6 spc] 24)) (V13.heap.size + 1) (by simp) [1, 2, 3] #[.int .i64 1, .int .i64 2, .int .i64 3] rfl 3 rfl [4, 5, 6] #[.int .i64 4, .int .i64 5, .int .i64 6] rfl 3 rfl))).mono ?_⟩
  rintro e V14 ⟨⟨v, rfl, hv⟩, hb⟩
  obtain ⟨sl, rfl, hrow⟩ := hv
  obtain ⟨sxa, sxc, rfl⟩ := row_slice hrow
  have rx : V14.ownsRow w.heap.size 3 1 (.slice sxa 6 sxc) 6 ([1, 2, 3, 4, 5, 6].map (Value.int .i64)) := row_base hrow (Nat.le_trans hB.size (by simp <;> omega))
  clear hrow
  have kp := ((((Blk.new V13 24 #[.int .i64 6, .int .i64 1, .slice spa 6 spc]).alloc (.cells #[.int .i64 1, .int .i64 2, .int .i64 3] 3)).alloc (.cells #[.int .i64 4, .int .i64 5, .int .i64 6] 3)).alloc (.cells #[.slice (some ⟨V13.heap.size + 1, 0, none⟩) 3 3, .slice (some ⟨V13.heap.size + 1 + 1, 0, none⟩) 3 3] 22)).below hb (by simp <;> omega)
  have hbf := chain4 hb
  clear hb
  replace rp := row_below rp hbf
  replace hB := hB.trans (hbf.mono hB.size)
  clear hbf
  try simp only [List.length_cons, List.length_nil, Nat.reduceAdd]
  gi_wp2_with fail
  have hcall := Turn_any 3 2 sxa sxc 6 [1, 2, 3, 4, 5, 6] (Lib.hid rfl) V14 (by decide) (row_rd' rfl rx)
  rw [show turnS 3 2 [1, 2, 3, 4, 5, 6] = { w := 2, h := 3, px := [4, 1, 5, 2, 6, 3], err := 0 } from by kernel_rfl] at hcall
  refine ⟨trivial, (callsIn_wide.2 hcall).mono ?_⟩
  clear hcall
  rintro e V15 ⟨⟨v, rfl, hv⟩, hb⟩
  obtain ⟨sl, rfl, hrow⟩ := hv
  obtain ⟨sqa, sqc, rfl⟩ := row_slice hrow
  have rq : V15.ownsRow w.heap.size 3 1 (.slice sqa 6 sqc) 6 ([4, 1, 5, 2, 6, 3].map (Value.int .i64)) := row_base hrow (Nat.le_trans hB.size (by simp <;> omega))
  clear hrow
  have hbf := chain0 hb
  clear hb
  replace kp := kp.below hbf kp.lt
  replace rp := row_below rp hbf
  replace rx := row_below rx hbf
  replace hB := hB.trans (hbf.mono hB.size)
  clear hbf
  clear rx
  gi_wp2_with fail
  refine ⟨trivial, (callsIn_wide.2 (rows_lit [[7]] [7] rfl (by decide) (by decide) 1 1 [7] 1 rfl rfl rfl rfl _ 1 _ (rdss1 (V15.alloc (.cells #[.int .i64 2, .int .i64 3, .slice sqa 6 sqc] 24)) (V15.heap.size + 1) (by simp) [7] #[.int .i64 7] rfl 1 rfl))).mono ?_⟩
  rintro e V16 ⟨⟨v, rfl, hv⟩, hb⟩
  obtain ⟨sl, rfl, hrow⟩ := hv
  obtain ⟨sxa, sxc, rfl⟩ := row_slice hrow
  have rx : V16.ownsRow w.heap.size 3 1 (.slice sxa 1 sxc) 1 ([7].map (Value.int .i64)) := row_base hrow (Nat.le_trans hB.size (by simp <;> omega))
  clear hrow
  have kq := (((Blk.new V15 24 #[.int .i64 2, .int .i64 3, .slice sqa 6 sqc]).alloc (.cells #[.int .i64 7] 3)).alloc (.cells #[.slice (some ⟨V15.heap.size + 1, 0, none⟩) 1 1] 22)).below hb (by simp <;> omega)
  have hbf := chain3 hb
  clear hb
  replace kp := kp.below hbf kp.lt
  replace rp := row_below rp hbf
  replace rq := row_below rq hbf
  replace hB := hB.trans (hbf.mono hB.size)
  clear hbf
  try simp only [List.length_cons, List.length_nil, Nat.reduceAdd]
  gi_wp2_with fail
  have hcall := Point_any 1 1 sxa sxc 1 [7] (Lib.hid rfl) ⟨-1, 0, 2, -100, 100⟩ V16 (by decide) (row_rd' rfl rx)
  rw [show pointS 1 1 [7] ⟨-1, 0, 2, -100, 100⟩ = { w := 1, h := 1, px := [-4], err := 0 } from by kernel_rfl] at hcall
  refine ⟨trivial, (callsIn_wide.2 hcall).mono ?_⟩
  clear hcall
  rintro e V17 ⟨⟨v, rfl, hv⟩, hb⟩
  obtain ⟨sl, rfl, hrow⟩ := hv
  obtain ⟨sra, src, rfl⟩ := row_slice hrow
  have rr : V17.ownsRow w.heap.size 3 1 (.slice sra 1 src) 1 ([-4].map (Value.int .i64)) := row_base hrow (Nat.le_trans hB.size (by simp <;> omega))
  clear hrow
  have hbf := chain0 hb
  clear hb
  replace kp := kp.below hbf kp.lt
  replace kq := kq.below hbf kq.lt
  replace rp := row_below rp hbf
  replace rq := row_below rq hbf
  replace rx := row_below rx hbf
  replace hB := hB.trans (hbf.mono hB.size)
  clear hbf
  clear rx
  gi_wp2_with fail
  refine ⟨trivial, (callsIn_wide.2 (rows_lit [[1, 2], [3, 4]] [1, 2] rfl (by decide) (by decide) 2 2 [1, 2, 3, 4] 2 rfl rfl rfl rfl _ 2 _ (rdss2 (V17.alloc (.cells #[.int .i64 1, .int .i64 1, .slice sra 1 src] 24)) (V17.heap.size + 1) (by simp) [1, 2] #[.int .i64 1, .int .i64 2] rfl 2 rfl [3, 4] #[.int .i64 3, .int .i64 4] rfl 2 rfl))).mono ?_⟩
  rintro e V18 ⟨⟨v, rfl, hv⟩, hb⟩
  obtain ⟨sl, rfl, hrow⟩ := hv
  obtain ⟨sxa, sxc, rfl⟩ := row_slice hrow
  have rx : V18.ownsRow w.heap.size 3 1 (.slice sxa 4 sxc) 4 ([1, 2, 3, 4].map (Value.int .i64)) := row_base hrow (Nat.le_trans hB.size (by simp <;> omega))
  clear hrow
  have kr := ((((Blk.new V17 24 #[.int .i64 1, .int .i64 1, .slice sra 1 src]).alloc (.cells #[.int .i64 1, .int .i64 2] 3)).alloc (.cells #[.int .i64 3, .int .i64 4] 3)).alloc (.cells #[.slice (some ⟨V17.heap.size + 1, 0, none⟩) 2 2, .slice (some ⟨V17.heap.size + 1 + 1, 0, none⟩) 2 2] 22)).below hb (by simp <;> omega)
  have hbf := chain4 hb
  clear hb
  replace kp := kp.below hbf kp.lt
  replace kq := kq.below hbf kq.lt
  replace rp := row_below rp hbf
  replace rq := row_below rq hbf
  replace rr := row_below rr hbf
  replace hB := hB.trans (hbf.mono hB.size)
  clear hbf
  try simp only [List.length_cons, List.length_nil, Nat.reduceAdd]
  gi_wp2_with fail
  have hcall := Box_any 2 2 sxa sxc 4 [1, 2, 3, 4] (Lib.hid rfl) 0 0 2 1 V18 (by decide) (row_rd' rfl rx)
  rw [show boxS 2 2 [1, 2, 3, 4] 0 0 2 1 = (3, 0) from by kernel_rfl] at hcall
  refine ⟨trivial, (callsIn_wide.2 hcall).mono ?_⟩
  clear hcall
  rintro e V19 ⟨rfl, hb⟩
  have hbf := chain0 hb
  clear hb
  replace kp := kp.below hbf kp.lt
  replace kq := kq.below hbf kq.lt
  replace kr := kr.below hbf kr.lt
  replace rp := row_below rp hbf
  replace rq := row_below rq hbf
  replace rr := row_below rr hbf
  replace rx := row_below rx hbf
  replace hB := hB.trans (hbf.mono hB.size)
  clear hbf
  clear rx
  have z0 := kp.cell (i := 0) rfl
  have z1 := kp.cell (i := 1) rfl
  have z2 := kp.cell (i := 2) rfl
  gi_wp2_with fail
  clear z0 z1 z2
  refine ⟨trivial, (callsIn_wide.2 (is_true [[1, 1, 1, 2, 2, 2]] [1, 1, 1, 2, 2, 2] rfl (by decide) (by decide) 6 1 [1, 1, 1, 2, 2, 2] 1 rfl rfl rfl rfl spa spc 6 (Lib.hid rfl) (by decide) _ 1 _ (row_rd' rfl ((rp.alloc (.cells #[.int .i64 1, .int .i64 1, .int .i64 1, .int .i64 2, .int .i64 2, .int .i64 2] 3)).alloc (.cells #[.slice (some ⟨V19.heap.size, 0, none⟩) 6 6] 22))) (rdss1 V19 (V19.heap.size) (by simp) [1, 1, 1, 2, 2, 2] #[.int .i64 1, .int .i64 1, .int .i64 1, .int .i64 2, .int .i64 2, .int .i64 2] rfl 6 rfl))).mono ?_⟩
  rintro e V20 ⟨rfl, hb⟩
  have hbf := chain2 hb
  clear hb
  replace kp := kp.below hbf kp.lt
  replace kq := kq.below hbf kq.lt
  replace kr := kr.below hbf kr.lt
  replace rp := row_below rp hbf
  replace rq := row_below rq hbf
  replace rr := row_below rr hbf
  replace hB := hB.trans (hbf.mono hB.size)
  clear hbf
  have z0 := kq.cell (i := 0) rfl
  have z1 := kq.cell (i := 1) rfl
  have z2 := kq.cell (i := 2) rfl
  gi_wp2_with fail
  clear z0 z1 z2
  refine ⟨trivial, (callsIn_wide.2 (is_true [[4, 1], [5, 2], [6, 3]] [4, 1] rfl (by decide) (by decide) 2 3 [4, 1, 5, 2, 6, 3] 3 rfl rfl rfl rfl sqa sqc 6 (Lib.hid rfl) (by decide) _ 3 _ (row_rd' rfl ((((rq.alloc (.cells #[.int .i64 4, .int .i64 1] 3)).alloc (.cells #[.int .i64 5, .int .i64 2] 3)).alloc (.cells #[.int .i64 6, .int .i64 3] 3)).alloc (.cells #[.slice (some ⟨V20.heap.size, 0, none⟩) 2 2, .slice (some ⟨V20.heap.size + 1, 0, none⟩) 2 2, .slice (some ⟨V20.heap.size + 1 + 1, 0, none⟩) 2 2] 22))) (rdss3 V20 (V20.heap.size) (by simp) [4, 1] #[.int .i64 4, .int .i64 1] rfl 2 rfl [5, 2] #[.int .i64 5, .int .i64 2] rfl 2 rfl [6, 3] #[.int .i64 6, .int .i64 3] rfl 2 rfl))).mono ?_⟩
  rintro e V21 ⟨rfl, hb⟩
  have hbf := chain4 hb
  clear hb
  replace kp := kp.below hbf kp.lt
  replace kq := kq.below hbf kq.lt
  replace kr := kr.below hbf kr.lt
  replace rp := row_below rp hbf
  replace rq := row_below rq hbf
  replace rr := row_below rr hbf
  replace hB := hB.trans (hbf.mono hB.size)
  clear hbf
  have z0 := kr.cell (i := 0) rfl
  have z1 := kr.cell (i := 1) rfl
  have z2 := kr.cell (i := 2) rfl
  gi_wp2_with fail
  clear z0 z1 z2
  refine ⟨trivial, (callsIn_wide.2 (is_true [[-4]] [-4] rfl (by decide) (by decide) 1 1 [-4] 1 rfl rfl rfl rfl sra src 1 (Lib.hid rfl) (by decide) _ 1 _ (row_rd' rfl ((rr.alloc (.cells #[.int .i64 (-4)] 3)).alloc (.cells #[.slice (some ⟨V21.heap.size, 0, none⟩) 1 1] 22))) (rdss1 V21 (V21.heap.size) (by simp) [-4] #[.int .i64 (-4)] rfl 1 rfl))).mono ?_⟩
  rintro e V22 ⟨rfl, hb⟩
  have hbf := chain2 hb
  clear hb
  replace kp := kp.below hbf kp.lt
  replace kq := kq.below hbf kq.lt
  replace kr := kr.below hbf kr.lt
  replace rp := row_below rp hbf
  replace rq := row_below rq hbf
  replace rr := row_below rr hbf
  replace hB := hB.trans (hbf.mono hB.size)
  clear hbf
  gi_wp2_with fail
  exact ⟨_, results_tmp rfl _ _ _, rfl, hB⟩

end Go.Proofs.Ytjglfeonoiljlaa

/- The walk of the law ImageSums: it returns true, and nothing that lay has turned. -/
import Derived.Test.YtjglfeonoiljlaaImgQ
import Derived.Test.YtjglfeonoiljlaaLawWarps
namespace Go.Proofs.Ytjglfeonoiljlaa
open Go Go.RowKit Go.Shelf
set_option linter.unusedVariables false
set_option linter.unusedSimpArgs false

set_option maxRecDepth 100000 in
set_option maxHeartbeats 8000000 in
theorem law_sums (iw ih : Int) (a : Option Addr) (c n : Nat) (xs : List Int) (hn : Hid (xs.length = n)) (x0 y0 x1 y1 : Int) (w : World) (hm : n ≤ 9223372036854775807) (hr : Rd w.heap.size w a xs) :
    Calls Try.prog 5 #[imv iw ih a n c, .int .i64 x0, .int .i64 y0, .int .i64 x1, .int .i64 y1] w fun e w' => e = .returned (.bool true) ∧ Below w.heap.size w w' := by
  obtain ⟨⟨q1px, q1e⟩, hR⟩ : ∃ r, rowsS iw ih xs = r := ⟨_, rfl⟩
  have hR1 := Lib.hid hR
  clear hR
  obtain ⟨⟨q2px, q2e⟩, hR⟩ : ∃ r, colsS iw ih xs = r := ⟨_, rfl⟩
  have hR2 := Lib.hid hR
  clear hR
  obtain ⟨⟨q3px, q3e⟩, hR⟩ : ∃ r, integralS iw ih xs = r := ⟨_, rfl⟩
  have hR3 := Lib.hid hR
  clear hR
  obtain ⟨⟨q4v, q4e⟩, hR⟩ : ∃ r, boxS iw ih xs x0 y0 x1 y1 = r := ⟨_, rfl⟩
  have hR4 := Lib.hid hR
  clear hR
  have hB : Below w.heap.size w (w.alloc (.cells #[.int .i64 iw, .int .i64 ih, .slice a n c] 24)) := below_al (Below.refl _ _) _
  have k5 := Blk.new w 24 #[.int .i64 iw, .int .i64 ih, .slice a n c]
  obtain ⟨V0, hW⟩ : ∃ V0, w.alloc (.cells #[.int .i64 iw, .int .i64 ih, .slice a n c] 24) = V0 := ⟨_, rfl⟩
  rw [hW] at hB k5
  go_enter Try.func5, Try.ntmps5
  have m0 := k5.cell (i := 0) rfl
  have m1 := k5.cell (i := 1) rfl
  have m2 := k5.cell (i := 2) rfl
  go_wp2_with fail
  clear hW
  have hcall := Rows_any iw ih a c n xs hn _ hm ((hr.below (Nat.le_refl _) hB).mono hB.size)
  rw [hR1.out] at hcall
  refine hcall.mono ?_
  clear hcall
  rintro e V1 ⟨⟨r1a, r1c, rfl, r1⟩, hb⟩
  clear m0 m1 m2
  replace k5 := k5.below hb k5.lt
  replace hB := hB.trans (hb.mono hB.size)
  have m0 := k5.cell (i := 0) rfl
  have m1 := k5.cell (i := 1) rfl
  have m2 := k5.cell (i := 2) rfl
  clear hb
  go_wp2_with fail
  have hcall := rRows_any iw ih a c n xs hn _ hm ((hr.below (Nat.le_refl _) hB).mono hB.size)
  rw [hR1.out] at hcall
  refine hcall.mono ?_
  clear hcall
  rintro e V2 ⟨⟨s1a, s1c, rfl, s1⟩, hb⟩
  clear m0 m1 m2
  replace k5 := k5.below hb k5.lt
  replace hB := hB.trans (hb.mono hB.size)
  have m0 := k5.cell (i := 0) rfl
  have m1 := k5.cell (i := 1) rfl
  have m2 := k5.cell (i := 2) rfl
  have r1' := row_below r1 hb
  have hlx := Lib.hid (row_max r1)
  clear hb
  go_wp2_with fail
  refine (SameInts_eq r1a s1a r1c s1c q1px.length q1px (Lib.hid rfl) _ hlx.out (row_rd r1') (row_rd s1)).mono ?_
  rintro e V3 ⟨rfl, hb⟩
  clear hlx r1 r1' s1
  clear m0 m1 m2
  replace k5 := k5.below hb k5.lt
  replace hB := hB.trans (hb.mono hB.size)
  have m0 := k5.cell (i := 0) rfl
  have m1 := k5.cell (i := 1) rfl
  have m2 := k5.cell (i := 2) rfl
  clear hb
  go_wp2_with fail
  have hcall := Cols_any iw ih a c n xs hn _ hm ((hr.below (Nat.le_refl _) hB).mono hB.size)
  rw [hR2.out] at hcall
  refine hcall.mono ?_
  clear hcall
  rintro e V4 ⟨⟨r2a, r2c, rfl, r2⟩, hb⟩
  clear m0 m1 m2
  replace k5 := k5.below hb k5.lt
  replace hB := hB.trans (hb.mono hB.size)
  have m0 := k5.cell (i := 0) rfl
  have m1 := k5.cell (i := 1) rfl
  have m2 := k5.cell (i := 2) rfl
  clear hb
  go_wp2_with fail
  have hcall := rCols_any iw ih a c n xs hn _ hm ((hr.below (Nat.le_refl _) hB).mono hB.size)
  rw [hR2.out] at hcall
  refine hcall.mono ?_
  clear hcall
  rintro e V5 ⟨⟨s2a, s2c, rfl, s2⟩, hb⟩
  clear m0 m1 m2
  replace k5 := k5.below hb k5.lt
  replace hB := hB.trans (hb.mono hB.size)
  have m0 := k5.cell (i := 0) rfl
  have m1 := k5.cell (i := 1) rfl
  have m2 := k5.cell (i := 2) rfl
  have r2' := row_below r2 hb
  have hlx := Lib.hid (row_max r2)
  clear hb
  go_wp2_with fail
  refine (SameInts_eq r2a s2a r2c s2c q2px.length q2px (Lib.hid rfl) _ hlx.out (row_rd r2') (row_rd s2)).mono ?_
  rintro e V6 ⟨rfl, hb⟩
  clear hlx r2 r2' s2
  clear m0 m1 m2
  replace k5 := k5.below hb k5.lt
  replace hB := hB.trans (hb.mono hB.size)
  have m0 := k5.cell (i := 0) rfl
  have m1 := k5.cell (i := 1) rfl
  have m2 := k5.cell (i := 2) rfl
  clear hb
  go_wp2_with fail
  have hcall := Integral_any iw ih a c n xs hn _ hm ((hr.below (Nat.le_refl _) hB).mono hB.size)
  rw [hR3.out] at hcall
  refine hcall.mono ?_
  clear hcall
  rintro e V7 ⟨⟨r3a, r3c, rfl, r3⟩, hb⟩
  clear m0 m1 m2
  replace k5 := k5.below hb k5.lt
  replace hB := hB.trans (hb.mono hB.size)
  have m0 := k5.cell (i := 0) rfl
  have m1 := k5.cell (i := 1) rfl
  have m2 := k5.cell (i := 2) rfl
  clear hb
  go_wp2_with fail
  have hcall := rIntegral_any iw ih a c n xs hn _ hm ((hr.below (Nat.le_refl _) hB).mono hB.size)
  rw [hR3.out] at hcall
  refine hcall.mono ?_
  clear hcall
  rintro e V8 ⟨⟨s3a, s3c, rfl, s3⟩, hb⟩
  clear m0 m1 m2
  replace k5 := k5.below hb k5.lt
  replace hB := hB.trans (hb.mono hB.size)
  have m0 := k5.cell (i := 0) rfl
  have m1 := k5.cell (i := 1) rfl
  have m2 := k5.cell (i := 2) rfl
  have r3' := row_below r3 hb
  have hlx := Lib.hid (row_max r3)
  clear hb
  go_wp2_with fail
  refine (SameInts_eq r3a s3a r3c s3c q3px.length q3px (Lib.hid rfl) _ hlx.out (row_rd r3') (row_rd s3)).mono ?_
  rintro e V9 ⟨rfl, hb⟩
  clear hlx r3 r3' s3
  clear m0 m1 m2
  replace k5 := k5.below hb k5.lt
  replace hB := hB.trans (hb.mono hB.size)
  have m0 := k5.cell (i := 0) rfl
  have m1 := k5.cell (i := 1) rfl
  have m2 := k5.cell (i := 2) rfl
  clear hb
  go_wp2_with fail
  have hcall := Box_any iw ih a c n xs hn x0 y0 x1 y1 _ hm ((hr.below (Nat.le_refl _) hB).mono hB.size)
  rw [hR4.out] at hcall
  refine hcall.mono ?_
  clear hcall
  rintro e V10 ⟨rfl, hb⟩
  clear m0 m1 m2
  replace k5 := k5.below hb k5.lt
  replace hB := hB.trans (hb.mono hB.size)
  have m0 := k5.cell (i := 0) rfl
  have m1 := k5.cell (i := 1) rfl
  have m2 := k5.cell (i := 2) rfl
  clear hb
  go_wp2_with fail
  have hcall := rBox_any iw ih a c n xs hn x0 y0 x1 y1 _ hm ((hr.below (Nat.le_refl _) hB).mono hB.size)
  rw [hR4.out] at hcall
  refine hcall.mono ?_
  clear hcall
  rintro e V11 ⟨rfl, hb⟩
  clear m0 m1 m2
  replace k5 := k5.below hb k5.lt
  replace hB := hB.trans (hb.mono hB.size)
  have m0 := k5.cell (i := 0) rfl
  have m1 := k5.cell (i := 1) rfl
  have m2 := k5.cell (i := 2) rfl
  clear hb
  go_wp2_with fail
  go_ret
  exact ⟨rfl, hB⟩

end Go.Proofs.Ytjglfeonoiljlaa

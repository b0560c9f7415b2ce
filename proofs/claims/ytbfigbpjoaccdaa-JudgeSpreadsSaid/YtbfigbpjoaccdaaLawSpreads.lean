/- The walk of the law JudgeSpreads: it returns true, and nothing that lay has turned. -/
import Derived.Test.YtbfigbpjoaccdaaSpS
namespace Go.Proofs.Ytbfigbpjoaccdaa
open Go Go.RowKit Go.Shelf
set_option linter.unusedVariables false
set_option linter.unusedSimpArgs false

theorem spr_len (m : ImN) (C : ChgN) : (sprS m C).lo.length ≤ 256 ∧ (sprS m C).hi.length ≤ 256 := by
  unfold sprS
  split
  · split
    · rename_i h _
      simp only [camB, Bool.and_eq_true] at h
      obtain ⟨⟨i1, i2⟩, ⟨i3, i4⟩, hlen, hall⟩ := vld_true h.1
      have := Nat.mul_le_mul (show m.w.toNat ≤ 16 by omega) (show m.h.toNat ≤ 16 by omega)
      simp only [loL, hiL, List.length_map, List.length_range]
      omega
    · simp [noSp]
  · simp [noSp]
set_option maxRecDepth 100000 in
set_option maxHeartbeats 16000000 in
theorem law_spreads (iw ih : Int) (a : Option Addr) (c n : Nat) (xs : List Int) (hn : Hid (xs.length = n)) (C : ChgN) (w : World) (hm : n * 8 ≤ 140737488355328) (hr : Rd w.heap.size w a xs) (hnil : Hid (a = none → n = 0 ∧ c = 0)) :
    Calls Try.prog 4 #[imv iw ih a n c, C.val] w fun e w' => e = .returned (.bool true) ∧ Below w.heap.size w w' := by
  obtain ⟨s, gl, gh, off, noi⟩ := C
  obtain ⟨R, hR⟩ : ∃ R, sprS ⟨iw, ih, xs⟩ ⟨s, gl, gh, off, noi⟩ = R := ⟨_, rfl⟩
  have hRl := spr_len ⟨iw, ih, xs⟩ ⟨s, gl, gh, off, noi⟩
  rw [hR] at hRl
  obtain ⟨hl1, hl2⟩ := hRl
  have hRH := Lib.hid hR
  clear hR
  have hm2 : n ≤ 9223372036854775807 := by omega
  have hbW1 : Below w.heap.size w (w.alloc (.cells #[.int .i64 iw, .int .i64 ih, .slice a n c] 27)) := jb_al (Below.refl _ w) _
  have k1 := Blk.new w 27 #[.int .i64 iw, .int .i64 ih, .slice a n c]
  obtain ⟨W1, hEW1⟩ : ∃ X, w.alloc (.cells #[.int .i64 iw, .int .i64 ih, .slice a n c] 27) = X := ⟨_, rfl⟩
  rw [hEW1] at hbW1 k1
  have hbW0 : Below W1.heap.size W1 (W1.alloc (.cells #[.int .i64 s, .int .i64 gl, .int .i64 gh, .int .i64 off, .int .i64 noi] 44)) := jb_al (Below.refl _ W1) _
  have k2 := Blk.new W1 44 #[.int .i64 s, .int .i64 gl, .int .i64 gh, .int .i64 off, .int .i64 noi]
  obtain ⟨W0, hEW0⟩ : ∃ X, W1.alloc (.cells #[.int .i64 s, .int .i64 gl, .int .i64 gh, .int .i64 off, .int .i64 noi] 44) = X := ⟨_, rfl⟩
  rw [hEW0] at hbW0 k2
  replace k1 := k1.below hbW0 k1.lt
  have hB : Below w.heap.size w W0 := hbW1.trans (hbW0.mono hbW1.size)
  have ri := later_i hr hB
  have m0 := k1.cell (i := 0) rfl
  have m1 := k1.cell (i := 1) rfl
  have m2 := k1.cell (i := 2) rfl
  have h0 := k2.cell (i := 0) rfl
  have h1 := k2.cell (i := 1) rfl
  have h2 := k2.cell (i := 2) rfl
  have h3 := k2.cell (i := 3) rfl
  have h4 := k2.cell (i := 4) rfl
  go_enter Try.func4, Try.ntmps4
  go_wp2_with fail
  have hc := Twin_any iw ih a c n xs hn W0 hm ri hnil
  refine hc.mono ?_
  clear hc
  rintro e V1 ⟨v, rfl, ⟨sl, rfl, hrow⟩, hb⟩
  clear m0 m1 m2 h0 h1 h2 h3 h4
  replace k1 := k1.below hb k1.lt
  replace k2 := k2.below hb k2.lt
  replace ri := later_i ri hb
  replace hB := hB.trans (hb.mono hB.size)
  clear hb
  rw [hn.out] at hrow
  obtain ⟨so, co, rfl⟩ := row_slice hrow
  have ro := row_rd' hn.out hrow
  clear hrow hEW1 hEW0
  have hbV2 : Below V1.heap.size V1 (V1.alloc (.cells #[.int .i64 iw, .int .i64 ih, .slice so n co] 27)) := jb_al (Below.refl _ V1) _
  have k3 := Blk.new V1 27 #[.int .i64 iw, .int .i64 ih, .slice so n co]
  obtain ⟨V2, hEV2⟩ : ∃ X, V1.alloc (.cells #[.int .i64 iw, .int .i64 ih, .slice so n co] 27) = X := ⟨_, rfl⟩
  rw [hEV2] at hbV2 k3
  replace k1 := k1.below hbV2 k1.lt
  replace k2 := k2.below hbV2 k2.lt
  replace ri := later_i ri hbV2
  replace ro := later_i ro hbV2
  replace hB := hB.trans (hbV2.mono hB.size)
  clear hbV2
  have m0 := k1.cell (i := 0) rfl
  have m1 := k1.cell (i := 1) rfl
  have m2 := k1.cell (i := 2) rfl
  have h0 := k2.cell (i := 0) rfl
  have h1 := k2.cell (i := 1) rfl
  have h2 := k2.cell (i := 2) rfl
  have h3 := k2.cell (i := 3) rfl
  have h4 := k2.cell (i := 4) rfl
  have r0 := k3.cell (i := 0) rfl
  have r1 := k3.cell (i := 1) rfl
  have r2 := k3.cell (i := 2) rfl
  go_wp2_with fail
  have hc := Spread_any iw ih so co n xs hn ⟨s, gl, gh, off, noi⟩ V2 hm2 ro
  rw [hRH.out] at hc
  refine hc.mono ?_
  clear hc
  rintro e V3 ⟨⟨v1, v2, rfl, ⟨sl1, rfl, hrA⟩, ⟨sl2, rfl, hrB⟩⟩, hb⟩
  clear m0 m1 m2 h0 h1 h2 h3 h4 r0 r1 r2
  replace k1 := k1.below hb k1.lt
  replace k2 := k2.below hb k2.lt
  replace k3 := k3.below hb k3.lt
  replace ri := later_i ri hb
  replace ro := later_i ro hb
  replace hB := hB.trans (hb.mono hB.size)
  clear hb
  obtain ⟨pa, pc, rfl⟩ := row_slice hrA
  obtain ⟨qa, qc, rfl⟩ := row_slice hrB
  have rp := row_rd' rfl hrA
  have rq := row_rd' rfl hrB
  clear hrA hrB
  clear hEV2
  have k4 := Blk.new V3 27 #[.int .i64 0, .int .i64 0, .slice none 0 0]
  obtain ⟨bk4, hx1⟩ : ∃ b, V3.heap.size = b := ⟨_, rfl⟩
  obtain ⟨V3a, hA⟩ : ∃ X, V3.alloc (.cells #[.int .i64 0, .int .i64 0, .slice none 0 0] 27) = X := ⟨_, rfl⟩
  have hba : Below V3.heap.size V3 V3a := alloc_below hA
  rw [hA, hx1] at k4
  have k5 := Blk.new V3a 27 #[.int .i64 0, .int .i64 0, .slice none 0 0]
  obtain ⟨bk5, hx2⟩ : ∃ b, V3a.heap.size = b := ⟨_, rfl⟩
  obtain ⟨V3b, hA2⟩ : ∃ X, V3a.alloc (.cells #[.int .i64 0, .int .i64 0, .slice none 0 0] 27) = X := ⟨_, rfl⟩
  have hbb : Below V3a.heap.size V3a V3b := alloc_below hA2
  rw [hA2, hx2] at k5
  have hlt12 : bk4 < bk5 := hx2 ▸ k4.lt
  replace k4 := k4.below hbb k4.lt
  have d0 := k4.cell (i := 0) rfl
  have fd0 := k4.frozen 0
  have d1 := k4.cell (i := 1) rfl
  have fd1 := k4.frozen 1
  have d2 := k4.cell (i := 2) rfl
  have fd2 := k4.frozen 2
  have hg1 := put3_grow2 V3b bk4 (.int .i64 R.w) (.int .i64 R.h) (.slice pa R.lo.length pc)
  have k4n := put3_blk k4 (.int .i64 R.w) (.int .i64 R.h) (.slice pa R.lo.length pc)
  replace k5 := k5.kept hg1 (by simp; omega)
  obtain ⟨V3c, hA3⟩ : ∃ X, put3 V3b bk4 (.int .i64 R.w) (.int .i64 R.h) (.slice pa R.lo.length pc) = X := ⟨_, rfl⟩
  rw [hA3] at hg1 k4n k5
  have e0 := k5.cell (i := 0) rfl
  have fe0 := k5.frozen 0
  have e1 := k5.cell (i := 1) rfl
  have fe1 := k5.frozen 1
  have e2 := k5.cell (i := 2) rfl
  have fe2 := k5.frozen 2
  have hg2 := put3_grow2 V3c bk5 (.int .i64 R.w) (.int .i64 R.h) (.slice qa R.hi.length qc)
  have k5n := put3_blk k5 (.int .i64 R.w) (.int .i64 R.h) (.slice qa R.hi.length qc)
  replace k4 := k4n.kept hg2 (by simp; omega)
  obtain ⟨V4, hA4⟩ : ∃ X, put3 V3c bk5 (.int .i64 R.w) (.int .i64 R.h) (.slice qa R.hi.length qc) = X := ⟨_, rfl⟩
  rw [hA4] at hg2 k4 k5n
  replace k5 := k5n
  clear k4n k5n
  have hb : Below V3.heap.size V3 V4 := hba.trans ((hbb.mono hba.size).trans ((grown_below2 hg1 (by have := hba.size; have := hbb.size; omega) (by intro k e; cases e; omega)).trans (grown_below2 hg2 (by have := hba.size; have := hbb.size; have := hg1.size; omega) (by intro k e; cases e; omega))))
  replace k1 := k1.below hb k1.lt
  replace k2 := k2.below hb k2.lt
  replace k3 := k3.below hb k3.lt
  replace ri := later_i ri hb
  replace ro := later_i ro hb
  replace rp := later_i rp hb
  replace rq := later_i rq hb
  replace hB := hB.trans (hb.mono hB.size)
  clear hb hba hbb hg1 hg2 hlt12
  have m0 := k1.cell (i := 0) rfl
  have m1 := k1.cell (i := 1) rfl
  have m2 := k1.cell (i := 2) rfl
  have h0 := k2.cell (i := 0) rfl
  have h1 := k2.cell (i := 1) rfl
  have h2 := k2.cell (i := 2) rfl
  have h3 := k2.cell (i := 3) rfl
  have h4 := k2.cell (i := 4) rfl
  have r0 := k3.cell (i := 0) rfl
  have r1 := k3.cell (i := 1) rfl
  have r2 := k3.cell (i := 2) rfl
  have t0 := k4.cell (i := 0) rfl
  have t1 := k4.cell (i := 1) rfl
  have t2 := k4.cell (i := 2) rfl
  have u0 := k5.cell (i := 0) rfl
  have u1 := k5.cell (i := 1) rfl
  have u2 := k5.cell (i := 2) rfl
  go_wp2_with fail
  have hc := rSpread_any iw ih a c n xs hn ⟨s, gl, gh, off, noi⟩ V4 hm2 ri
  rw [hRH.out] at hc
  refine hc.mono ?_
  clear hc
  rintro e V5 ⟨⟨v1, v2, rfl, ⟨sl1, rfl, hrA⟩, ⟨sl2, rfl, hrB⟩⟩, hb⟩
  clear m0 m1 m2 h0 h1 h2 h3 h4 r0 r1 r2 t0 t1 t2 u0 u1 u2
  replace k1 := k1.below hb k1.lt
  replace k2 := k2.below hb k2.lt
  replace k3 := k3.below hb k3.lt
  replace k4 := k4.below hb k4.lt
  replace k5 := k5.below hb k5.lt
  replace ri := later_i ri hb
  replace ro := later_i ro hb
  replace rp := later_i rp hb
  replace rq := later_i rq hb
  replace hB := hB.trans (hb.mono hB.size)
  clear hb
  clear hA hA2 hA3 hA4 hx1 hx2 d0 d1 d2 fd0 fd1 fd2 e0 e1 e2 fe0 fe1 fe2
  obtain ⟨xa, xc, rfl⟩ := row_slice hrA
  obtain ⟨ya, yc, rfl⟩ := row_slice hrB
  have rx := row_rd' rfl hrA
  have ry := row_rd' rfl hrB
  clear hrA hrB
  have k6 := Blk.new V5 27 #[.int .i64 0, .int .i64 0, .slice none 0 0]
  obtain ⟨bk6, hx1⟩ : ∃ b, V5.heap.size = b := ⟨_, rfl⟩
  obtain ⟨V5a, hA⟩ : ∃ X, V5.alloc (.cells #[.int .i64 0, .int .i64 0, .slice none 0 0] 27) = X := ⟨_, rfl⟩
  have hba : Below V5.heap.size V5 V5a := alloc_below hA
  rw [hA, hx1] at k6
  have k7 := Blk.new V5a 27 #[.int .i64 0, .int .i64 0, .slice none 0 0]
  obtain ⟨bk7, hx2⟩ : ∃ b, V5a.heap.size = b := ⟨_, rfl⟩
  obtain ⟨V5b, hA2⟩ : ∃ X, V5a.alloc (.cells #[.int .i64 0, .int .i64 0, .slice none 0 0] 27) = X := ⟨_, rfl⟩
  have hbb : Below V5a.heap.size V5a V5b := alloc_below hA2
  rw [hA2, hx2] at k7
  have hlt12 : bk6 < bk7 := hx2 ▸ k6.lt
  replace k6 := k6.below hbb k6.lt
  have d0 := k6.cell (i := 0) rfl
  have fd0 := k6.frozen 0
  have d1 := k6.cell (i := 1) rfl
  have fd1 := k6.frozen 1
  have d2 := k6.cell (i := 2) rfl
  have fd2 := k6.frozen 2
  have hg1 := put3_grow2 V5b bk6 (.int .i64 R.w) (.int .i64 R.h) (.slice xa R.lo.length xc)
  have k6n := put3_blk k6 (.int .i64 R.w) (.int .i64 R.h) (.slice xa R.lo.length xc)
  replace k7 := k7.kept hg1 (by simp; omega)
  obtain ⟨V5c, hA3⟩ : ∃ X, put3 V5b bk6 (.int .i64 R.w) (.int .i64 R.h) (.slice xa R.lo.length xc) = X := ⟨_, rfl⟩
  rw [hA3] at hg1 k6n k7
  have e0 := k7.cell (i := 0) rfl
  have fe0 := k7.frozen 0
  have e1 := k7.cell (i := 1) rfl
  have fe1 := k7.frozen 1
  have e2 := k7.cell (i := 2) rfl
  have fe2 := k7.frozen 2
  have hg2 := put3_grow2 V5c bk7 (.int .i64 R.w) (.int .i64 R.h) (.slice ya R.hi.length yc)
  have k7n := put3_blk k7 (.int .i64 R.w) (.int .i64 R.h) (.slice ya R.hi.length yc)
  replace k6 := k6n.kept hg2 (by simp; omega)
  obtain ⟨V6, hA4⟩ : ∃ X, put3 V5c bk7 (.int .i64 R.w) (.int .i64 R.h) (.slice ya R.hi.length yc) = X := ⟨_, rfl⟩
  rw [hA4] at hg2 k6 k7n
  replace k7 := k7n
  clear k6n k7n
  have hb : Below V5.heap.size V5 V6 := hba.trans ((hbb.mono hba.size).trans ((grown_below2 hg1 (by have := hba.size; have := hbb.size; omega) (by intro k e; cases e; omega)).trans (grown_below2 hg2 (by have := hba.size; have := hbb.size; have := hg1.size; omega) (by intro k e; cases e; omega))))
  replace k1 := k1.below hb k1.lt
  replace k2 := k2.below hb k2.lt
  replace k3 := k3.below hb k3.lt
  replace k4 := k4.below hb k4.lt
  replace k5 := k5.below hb k5.lt
  replace ri := later_i ri hb
  replace ro := later_i ro hb
  replace rp := later_i rp hb
  replace rq := later_i rq hb
  replace rx := later_i rx hb
  replace ry := later_i ry hb
  replace hB := hB.trans (hb.mono hB.size)
  clear hb hba hbb hg1 hg2 hlt12
  have m0 := k1.cell (i := 0) rfl
  have m1 := k1.cell (i := 1) rfl
  have m2 := k1.cell (i := 2) rfl
  have h0 := k2.cell (i := 0) rfl
  have h1 := k2.cell (i := 1) rfl
  have h2 := k2.cell (i := 2) rfl
  have h3 := k2.cell (i := 3) rfl
  have h4 := k2.cell (i := 4) rfl
  have r0 := k3.cell (i := 0) rfl
  have r1 := k3.cell (i := 1) rfl
  have r2 := k3.cell (i := 2) rfl
  have t0 := k4.cell (i := 0) rfl
  have t1 := k4.cell (i := 1) rfl
  have t2 := k4.cell (i := 2) rfl
  have u0 := k5.cell (i := 0) rfl
  have u1 := k5.cell (i := 1) rfl
  have u2 := k5.cell (i := 2) rfl
  have y0 := k6.cell (i := 0) rfl
  have y1 := k6.cell (i := 1) rfl
  have y2 := k6.cell (i := 2) rfl
  have z0 := k7.cell (i := 0) rfl
  have z1 := k7.cell (i := 1) rfl
  have z2 := k7.cell (i := 2) rfl
  go_wp2_with fail
  have hc := Same_eq R.w R.h pa xa pc xc R.lo.length R.lo (Lib.hid rfl) V6 (by omega) rp rx
  refine hc.mono ?_
  clear hc
  rintro e V7 ⟨rfl, hb⟩
  clear m0 m1 m2 h0 h1 h2 h3 h4 r0 r1 r2 t0 t1 t2 u0 u1 u2 y0 y1 y2 z0 z1 z2
  replace k1 := k1.below hb k1.lt
  replace k2 := k2.below hb k2.lt
  replace k3 := k3.below hb k3.lt
  replace k4 := k4.below hb k4.lt
  replace k5 := k5.below hb k5.lt
  replace k6 := k6.below hb k6.lt
  replace k7 := k7.below hb k7.lt
  replace ri := later_i ri hb
  replace ro := later_i ro hb
  replace rp := later_i rp hb
  replace rq := later_i rq hb
  replace rx := later_i rx hb
  replace ry := later_i ry hb
  replace hB := hB.trans (hb.mono hB.size)
  clear hb
  clear hA hA2 hA3 hA4 hx1 hx2 d0 d1 d2 fd0 fd1 fd2 e0 e1 e2 fe0 fe1 fe2
  have m0 := k1.cell (i := 0) rfl
  have m1 := k1.cell (i := 1) rfl
  have m2 := k1.cell (i := 2) rfl
  have h0 := k2.cell (i := 0) rfl
  have h1 := k2.cell (i := 1) rfl
  have h2 := k2.cell (i := 2) rfl
  have h3 := k2.cell (i := 3) rfl
  have h4 := k2.cell (i := 4) rfl
  have r0 := k3.cell (i := 0) rfl
  have r1 := k3.cell (i := 1) rfl
  have r2 := k3.cell (i := 2) rfl
  have t0 := k4.cell (i := 0) rfl
  have t1 := k4.cell (i := 1) rfl
  have t2 := k4.cell (i := 2) rfl
  have u0 := k5.cell (i := 0) rfl
  have u1 := k5.cell (i := 1) rfl
  have u2 := k5.cell (i := 2) rfl
  have y0 := k6.cell (i := 0) rfl
  have y1 := k6.cell (i := 1) rfl
  have y2 := k6.cell (i := 2) rfl
  have z0 := k7.cell (i := 0) rfl
  have z1 := k7.cell (i := 1) rfl
  have z2 := k7.cell (i := 2) rfl
  go_wp2_with fail
  have hc := Same_eq R.w R.h qa ya qc yc R.hi.length R.hi (Lib.hid rfl) V7 (by omega) rq ry
  refine hc.mono ?_
  clear hc
  rintro e V8 ⟨rfl, hb⟩
  clear m0 m1 m2 h0 h1 h2 h3 h4 r0 r1 r2 t0 t1 t2 u0 u1 u2 y0 y1 y2 z0 z1 z2
  replace k1 := k1.below hb k1.lt
  replace k2 := k2.below hb k2.lt
  replace k3 := k3.below hb k3.lt
  replace k4 := k4.below hb k4.lt
  replace k5 := k5.below hb k5.lt
  replace k6 := k6.below hb k6.lt
  replace k7 := k7.below hb k7.lt
  replace ri := later_i ri hb
  replace ro := later_i ro hb
  replace rp := later_i rp hb
  replace rq := later_i rq hb
  replace rx := later_i rx hb
  replace ry := later_i ry hb
  replace hB := hB.trans (hb.mono hB.size)
  clear hb
  have m0 := k1.cell (i := 0) rfl
  have m1 := k1.cell (i := 1) rfl
  have m2 := k1.cell (i := 2) rfl
  have h0 := k2.cell (i := 0) rfl
  have h1 := k2.cell (i := 1) rfl
  have h2 := k2.cell (i := 2) rfl
  have h3 := k2.cell (i := 3) rfl
  have h4 := k2.cell (i := 4) rfl
  have r0 := k3.cell (i := 0) rfl
  have r1 := k3.cell (i := 1) rfl
  have r2 := k3.cell (i := 2) rfl
  have t0 := k4.cell (i := 0) rfl
  have t1 := k4.cell (i := 1) rfl
  have t2 := k4.cell (i := 2) rfl
  have u0 := k5.cell (i := 0) rfl
  have u1 := k5.cell (i := 1) rfl
  have u2 := k5.cell (i := 2) rfl
  have y0 := k6.cell (i := 0) rfl
  have y1 := k6.cell (i := 1) rfl
  have y2 := k6.cell (i := 2) rfl
  have z0 := k7.cell (i := 0) rfl
  have z1 := k7.cell (i := 1) rfl
  have z2 := k7.cell (i := 2) rfl
  have te : (R.err == R.err) = true := by simp
  go_wp2_with fail
  have hc := Same_eq iw ih so a co c n xs hn V8 hm2 ro ri
  refine hc.mono ?_
  clear hc
  rintro e V9 ⟨rfl, hb⟩
  clear m0 m1 m2 h0 h1 h2 h3 h4 r0 r1 r2 t0 t1 t2 u0 u1 u2 y0 y1 y2 z0 z1 z2
  replace k1 := k1.below hb k1.lt
  replace k2 := k2.below hb k2.lt
  replace k3 := k3.below hb k3.lt
  replace k4 := k4.below hb k4.lt
  replace k5 := k5.below hb k5.lt
  replace k6 := k6.below hb k6.lt
  replace k7 := k7.below hb k7.lt
  replace ri := later_i ri hb
  replace ro := later_i ro hb
  replace rp := later_i rp hb
  replace rq := later_i rq hb
  replace rx := later_i rx hb
  replace ry := later_i ry hb
  replace hB := hB.trans (hb.mono hB.size)
  clear hb
  go_wp2_with fail
  go_ret
  exact ⟨rfl, hB⟩

end Go.Proofs.Ytbfigbpjoaccdaa

/- The walk of the law ImageTotals: it returns true, and nothing that lay has turned. -/
import Derived.Test.YtjglfeonoiljlaaTotals
import Derived.Test.YtjglfeonoiljlaaMorLaws
import Derived.Test.YtjglfeonoiljlaaAlive
namespace Go.Proofs.Ytjglfeonoiljlaa
open Go Go.RowKit Go.Shelf
set_option linter.unusedVariables false
set_option linter.unusedSimpArgs false

set_option maxRecDepth 100000 in
set_option maxHeartbeats 16000000 in
theorem law_totals (iw ih : Int) (a : Option Addr) (c n : Nat) (xs : List Int) (hn : Hid (xs.length = n)) (x0 y0 x1 y1 : Int) (w : World) (hm : n ≤ 9223372036854775807) (hr : Rd w.heap.size w a xs) :
    Calls Try.prog 21 #[imv iw ih a n c, .int .i64 x0, .int .i64 y0, .int .i64 x1, .int .i64 y1] w fun e w' => e = .returned (.bool true) ∧ Below w.heap.size w w' := by
  obtain ⟨zv, hzv0⟩ : ∃ v, vld iw ih xs = v := ⟨_, rfl⟩
  have hzv := Lib.hid hzv0
  clear hzv0
  cases zv with
  | false =>
    have hbs := Lib.hid (show boxS iw ih xs x0 y0 x1 y1 = (0, 20) by unfold boxS; rw [if_neg (by rw [hzv.out]; decide)])
    have hB : Below w.heap.size w (w.alloc (.cells #[.int .i64 iw, .int .i64 ih, .slice a n c] 24)) := below_al (Below.refl _ _) _
    have ka := (Blk.new w 24 #[.int .i64 iw, .int .i64 ih, .slice a n c])
    obtain ⟨W0, hW⟩ : ∃ W, (w.alloc (.cells #[.int .i64 iw, .int .i64 ih, .slice a n c] 24)) = W := ⟨_, rfl⟩
    rw [hW] at hB ka
    have m0 := ka.cell (i := 0) rfl
    have m1 := ka.cell (i := 1) rfl
    have m2 := ka.cell (i := 2) rfl
    go_enter Try.func21, Try.ntmps21
    go_wp2_with fail
    clear hW
    refine (alive_any _).mono ?_
    rintro e V1 ⟨rfl, hb⟩
    clear m0 m1 m2
    replace ka := ka.below hb ka.lt
    replace hB := hB.trans (hb.mono hB.size)
    have m0 := ka.cell (i := 0) rfl
    have m1 := ka.cell (i := 1) rfl
    have m2 := ka.cell (i := 2) rfl
    clear hb
    go_wp2_with fail
    have hcall := Box_any iw ih a c n xs hn x0 y0 x1 y1 _ (by omega) ((hr.below (Nat.le_refl _) hB).mono hB.size)
    rw [hbs.out] at hcall
    refine hcall.mono ?_
    clear hcall
    rintro e V2 ⟨rfl, hb⟩
    clear m0 m1 m2
    replace ka := ka.below hb ka.lt
    replace hB := hB.trans (hb.mono hB.size)
    have m0 := ka.cell (i := 0) rfl
    have m1 := ka.cell (i := 1) rfl
    have m2 := ka.cell (i := 2) rfl
    clear hb
    go_wp2_with fail
    refine (Valid_any iw ih a c xs n hn _ (by omega) ((hr.below (Nat.le_refl _) hB).mono hB.size)).mono ?_
    rintro e V8 ⟨rfl, hb⟩
    rw [hzv.out]
    clear m0 m1 m2
    replace ka := ka.below hb ka.lt
    replace hB := hB.trans (hb.mono hB.size)
    have m0 := ka.cell (i := 0) rfl
    have m1 := ka.cell (i := 1) rfl
    have m2 := ka.cell (i := 2) rfl
    clear hb
    go_wp2_with fail
    go_ret
    exact ⟨rfl, hB⟩
  | true =>
    obtain ⟨⟨i1, i2⟩, ⟨i3, i4⟩, hl, ha⟩ := vld_true hzv.out
    obtain ⟨pw, rfl⟩ : ∃ pw : Nat, iw = (pw : Int) := ⟨iw.toNat, by omega⟩
    obtain ⟨ph, rfl⟩ : ∃ ph : Nat, ih = (ph : Int) := ⟨ih.toNat, by omega⟩
    obtain ⟨g, hg⟩ : ∃ g, gpx pw xs = g := ⟨_, rfl⟩
    have hgb := gpx_bd ha pw
    rw [hg] at hgb
    obtain ⟨K, hK⟩ : ∃ K, (pw + 1) * (ph + 1) = K + 1 := ⟨(pw + 1) * (ph + 1) - 1, by have := Nat.mul_pos (show 0 < pw + 1 by omega) (show 0 < ph + 1 by omega); omega⟩
    have hKi : ((pw : Int) + 1) * ((ph : Int) + 1) = (K : Int) + 1 := by
      have : (((pw + 1) * (ph + 1) : Nat) : Int) = ((K + 1 : Nat) : Int) := by rw [hK]
      simpa using this
    have hK2 : K ≤ 288 := by
      have := Nat.mul_le_mul (show pw + 1 ≤ 17 by omega) (show ph + 1 ≤ 17 by omega)
      omega
    have hSR := Lib.hid (show rowsS pw ph xs = { px := sumsR pw ph g, err := 0 } by unfold rowsS; rw [if_pos hzv.out, ← hg]; rfl)
    have hSC := Lib.hid (show colsS pw ph xs = { px := sumsC pw ph g, err := 0 } by unfold colsS; rw [if_pos hzv.out, ← hg]; rfl)
    have hSI := Lib.hid (show integralS pw ph xs = { px := integAll pw ph g, err := 0 } by unfold integralS; rw [if_pos hzv.out, ← hg]; rfl)
    have hlR := Lib.hid (show (sumsR pw ph g).length = ph by simp [sumsR])
    have hlC := Lib.hid (show (sumsC pw ph g).length = pw by simp [sumsC])
    have hlI := Lib.hid (show (integAll pw ph g).length = K + 1 by rw [integAll_length, hK])
    have hsR := Lib.hid (fun k (hk : k ≤ ph) => sums_rows (pw := pw) (ph := ph) g k hk)
    have hsC := Lib.hid (fun k (hk : k ≤ pw) => sums_cols (pw := pw) (ph := ph) g k hk)
    have hlast := Lib.hid (show px (integAll pw ph g) ((K : Nat) : Int) = gridTo g pw ph by have := integ_last (pw := pw) (ph := ph) g; rw [hK] at this; exact this)
    have hbR := Lib.hid (fun k (hk : k ≤ ph) => show -549755813888 ≤ sumL1 (sumsR pw ph g) k ∧ sumL1 (sumsR pw ph g) k ≤ 549755813888 by rw [sums_rows g k hk]; exact gridTo_bd hgb (by omega) (by omega))
    have hbC := Lib.hid (fun k (hk : k ≤ pw) => show -549755813888 ≤ sumL1 (sumsC pw ph g) k ∧ sumL1 (sumsC pw ph g) k ≤ 549755813888 by rw [sums_cols g k hk]; exact gridTo_bd hgb (by omega) (by omega))
    have hgI := Lib.hid (fun (x y : Nat) (hx : x ≤ pw) (hy : y ≤ ph) => show px (integAll pw ph g) ((y * (pw + 1) + x : Nat) : Int) = gridTo g x y from integ_px g hx hy)
    have hgT := Lib.hid (fun (x y : Nat) (hx : x ≤ pw) (hy : y ≤ ph) => show -549755813888 ≤ gridTo g x y ∧ gridTo g x y ≤ 549755813888 from gridTo_bd hgb (by omega) (by omega))
    have hKH := Lib.hid hK
    have hgH := Lib.hid hg
    obtain ⟨⟨bv, be⟩, hb0⟩ : ∃ r, boxS pw ph xs x0 y0 x1 y1 = r := ⟨_, rfl⟩
    have hbs := Lib.hid hb0
    clear hb0 hl ha hK hg hgb
    generalize sumsR pw ph g = R at *
    generalize sumsC pw ph g = C at *
    generalize integAll pw ph g = I at *
    have hB : Below w.heap.size w (w.alloc (.cells #[.int .i64 pw, .int .i64 ph, .slice a n c] 24)) := below_al (Below.refl _ _) _
    have ka := (Blk.new w 24 #[.int .i64 pw, .int .i64 ph, .slice a n c])
    obtain ⟨W0, hW⟩ : ∃ W, (w.alloc (.cells #[.int .i64 pw, .int .i64 ph, .slice a n c] 24)) = W := ⟨_, rfl⟩
    rw [hW] at hB ka
    have m0 := ka.cell (i := 0) rfl
    have m1 := ka.cell (i := 1) rfl
    have m2 := ka.cell (i := 2) rfl
    go_enter Try.func21, Try.ntmps21
    go_wp2_with fail
    clear hW
    refine (alive_any _).mono ?_
    rintro e V1 ⟨rfl, hb⟩
    clear m0 m1 m2
    replace ka := ka.below hb ka.lt
    replace hB := hB.trans (hb.mono hB.size)
    have m0 := ka.cell (i := 0) rfl
    have m1 := ka.cell (i := 1) rfl
    have m2 := ka.cell (i := 2) rfl
    clear hb
    go_wp2_with fail
    have hcall := Box_any pw ph a c n xs hn x0 y0 x1 y1 _ (by omega) ((hr.below (Nat.le_refl _) hB).mono hB.size)
    rw [hbs.out] at hcall
    refine hcall.mono ?_
    clear hcall
    rintro e V2 ⟨rfl, hb⟩
    clear m0 m1 m2
    replace ka := ka.below hb ka.lt
    replace hB := hB.trans (hb.mono hB.size)
    have m0 := ka.cell (i := 0) rfl
    have m1 := ka.cell (i := 1) rfl
    have m2 := ka.cell (i := 2) rfl
    clear hb
    go_wp2_with fail
    refine (Valid_any pw ph a c xs n hn _ (by omega) ((hr.below (Nat.le_refl _) hB).mono hB.size)).mono ?_
    rintro e V8 ⟨rfl, hb⟩
    rw [hzv.out]
    clear m0 m1 m2
    replace ka := ka.below hb ka.lt
    replace hB := hB.trans (hb.mono hB.size)
    have m0 := ka.cell (i := 0) rfl
    have m1 := ka.cell (i := 1) rfl
    have m2 := ka.cell (i := 2) rfl
    clear hb
    go_wp2_with fail
    have hcall := Rows_any pw ph a c n xs hn _ (by omega) ((hr.below (Nat.le_refl _) hB).mono hB.size)
    rw [hSR.out] at hcall
    refine hcall.mono ?_
    clear hcall
    rintro e V3 ⟨⟨srRa, srRc, hev, hrow⟩, hb⟩
    have rR : V3.ownsRow w.heap.size 3 1 (.slice srRa (ph) srRc) (ph) ((R).map (Value.int .i64)) := row_base (by have h := row_len (k := (R).length) hlR.out hrow; rw [show (R).length = ph from hlR.out] at h; exact h) hB.size
    have he : e = .returned (.tuple #[.slice srRa (ph) srRc, .int .i64 0]) := by rw [hev]; show Ending.returned (.tuple #[.slice srRa (R).length srRc, .int .i64 0]) = _; rw [hlR.out]
    subst he
    clear hrow hev
    clear m0 m1 m2
    replace ka := ka.below hb ka.lt
    replace hB := hB.trans (hb.mono hB.size)
    have m0 := ka.cell (i := 0) rfl
    have m1 := ka.cell (i := 1) rfl
    have m2 := ka.cell (i := 2) rfl
    clear hb
    go_wp2_with fail
    have hcall := Cols_any pw ph a c n xs hn _ (by omega) ((hr.below (Nat.le_refl _) hB).mono hB.size)
    rw [hSC.out] at hcall
    refine hcall.mono ?_
    clear hcall
    rintro e V4 ⟨⟨srCa, srCc, hev, hrow⟩, hb⟩
    have rC : V4.ownsRow w.heap.size 3 1 (.slice srCa (pw) srCc) (pw) ((C).map (Value.int .i64)) := row_base (by have h := row_len (k := (C).length) hlC.out hrow; rw [show (C).length = pw from hlC.out] at h; exact h) hB.size
    have he : e = .returned (.tuple #[.slice srCa (pw) srCc, .int .i64 0]) := by rw [hev]; show Ending.returned (.tuple #[.slice srCa (C).length srCc, .int .i64 0]) = _; rw [hlC.out]
    subst he
    clear hrow hev
    clear m0 m1 m2
    replace ka := ka.below hb ka.lt
    replace rR := row_below rR hb
    replace hB := hB.trans (hb.mono hB.size)
    have m0 := ka.cell (i := 0) rfl
    have m1 := ka.cell (i := 1) rfl
    have m2 := ka.cell (i := 2) rfl
    clear hb
    go_wp2_with fail
    have hcall := Integral_any pw ph a c n xs hn _ (by omega) ((hr.below (Nat.le_refl _) hB).mono hB.size)
    rw [hSI.out] at hcall
    refine hcall.mono ?_
    clear hcall
    rintro e V5 ⟨⟨srIa, srIc, hev, hrow⟩, hb⟩
    have rI : V5.ownsRow w.heap.size 3 1 (.slice srIa (K + 1) srIc) (K + 1) ((I).map (Value.int .i64)) := row_base (by have h := row_len (k := (I).length) hlI.out hrow; rw [show (I).length = K + 1 from hlI.out] at h; exact h) hB.size
    have he : e = .returned (.tuple #[.slice srIa (K + 1) srIc, .int .i64 0]) := by rw [hev]; show Ending.returned (.tuple #[.slice srIa (I).length srIc, .int .i64 0]) = _; rw [hlI.out]
    subst he
    clear hrow hev
    clear m0 m1 m2
    replace ka := ka.below hb ka.lt
    replace rR := row_below rR hb
    replace rC := row_below rC hb
    replace hB := hB.trans (hb.mono hB.size)
    have m0 := ka.cell (i := 0) rfl
    have m1 := ka.cell (i := 1) rfl
    have m2 := ka.cell (i := 2) rfl
    clear hb
    go_wp2_with fail
    clear m0 m1 m2
    obtain ⟨bR, oR, hRa, hbdR, hcR⟩ := rd_at (row_rd' hlR.out rR) hlR.out (by omega)
    obtain ⟨bC, oC, hCa, hbdC, hcC⟩ := rd_at (row_rd' hlC.out rC) hlC.out (by omega)
    obtain ⟨bI, oI, hIa, hbdI, hcI⟩ := rd_at (row_rd' hlI.out rI) hlI.out (by omega)
    subst hRa hCa hIa
    have hcRH := Lib.hid hcR
    have hcCH := Lib.hid hcC
    have hcIH := Lib.hid hcI
    clear hcR hcC hcI
    go_loopw [20, 22] (fun p i wr => ∃ k : Nat, k ≤ ph ∧ i = .int .i64 (k : Int) ∧ p = .int .i64 (sumL1 R k) ∧ Below V5.heap.size V5 wr) (fun p i _ => ph - (intOf i).toNat)
    case atStart => exact ⟨0, Nat.zero_le _, rfl, rfl, Below.refl _ _⟩
    case round =>
      obtain ⟨k, hkn, rfl, rfl, hBw⟩ := hrel
      by_cases hk : k < ph
      · have hcell := (hBw.cell (p := ⟨bR, oR + k, none⟩) hbdR).trans (hcRH.out k hk)
        have hb1 := hbR.out k (by omega)
        have hb2 := hbR.out (k + 1) (by omega)
        have hsn := sumL1_succ R k
        obtain ⟨sv, hsv⟩ : ∃ v, sumL1 R k = v := ⟨_, rfl⟩
        obtain ⟨pv, hpv⟩ : ∃ v, px R (k : Int) = v := ⟨_, rfl⟩
        rw [hsv] at hsn hb1 ⊢
        rw [hpv] at hsn hcell
        rw [hsn] at hb2
        have hsnH := Lib.hid hsn
        clear hsn hsv hpv
        go_wp2_with fail
        go_roundw
        case rel => exact ⟨k + 1, by omega, by go_num, by rw [hsnH.out], hBw⟩
        case measure => simp [intOf]; omega
      · have hkk : ph = k := by omega
        subst hkk
        have hp := Lib.hid (hsR.out _ (Nat.le_refl _))
        rw [hp.out]
        obtain ⟨T0, hT0⟩ : ∃ t, gridTo g pw ph = t := ⟨_, rfl⟩
        rw [hT0] at hp hlast ⊢
        have hBw1 := hBw
        clear hBw
        go_wp2_with fail
        obtain ⟨V30, hV30⟩ : ∃ X, X = wr := ⟨_, rfl⟩
        subst hV30
        go_loopw [21, 23] (fun p i wr => ∃ k : Nat, k ≤ pw ∧ i = .int .i64 (k : Int) ∧ p = .int .i64 (sumL1 C k) ∧ Below V30.heap.size V30 wr) (fun p i _ => pw - (intOf i).toNat)
        case atStart => exact ⟨0, Nat.zero_le _, rfl, rfl, Below.refl _ _⟩
        case round =>
          obtain ⟨k, hkn, rfl, rfl, hBw⟩ := hrel
          by_cases hk : k < pw
          · have hcell := ((hBw1.trans (hBw.mono hBw1.size)).cell (p := ⟨bC, oC + k, none⟩) hbdC).trans (hcCH.out k hk)
            have hb1 := hbC.out k (by omega)
            have hb2 := hbC.out (k + 1) (by omega)
            have hsn := sumL1_succ C k
            obtain ⟨sv, hsv⟩ : ∃ v, sumL1 C k = v := ⟨_, rfl⟩
            obtain ⟨pv, hpv⟩ : ∃ v, px C (k : Int) = v := ⟨_, rfl⟩
            rw [hsv] at hsn hb1 ⊢
            rw [hpv] at hsn hcell
            rw [hsn] at hb2
            have hsnH := Lib.hid hsn
            clear hsn hsv hpv
            go_wp2_with fail
            go_roundw
            case rel => exact ⟨k + 1, by omega, by go_num, by rw [hsnH.out], hBw⟩
            case measure => simp [intOf]; omega
          · have hkk : pw = k := by omega
            subst hkk
            have hq := Lib.hid (hsC.out _ (Nat.le_refl _))
            rw [hq.out, hT0]
            have hBx := hBw1.trans (hBw.mono hBw1.size)
            have hBr : Below w.heap.size w wr := hB.trans (hBx.mono hB.size)
            have cK := (hBx.cell (p := ⟨bI, oI + K, none⟩) hbdI).trans (hcIH.out K (by omega))
            rw [hlast.out] at cK
            have m0 := (ka.below hBx ka.lt).cell (i := 0) rfl
            have m1 := (ka.below hBx ka.lt).cell (i := 1) rfl
            by_cases h0 : x0 < 0
            · have e0 : decide (x0 < 0) = true := decide_eq_true h0
              have hbe : be = 2 := by
                have h := hbs.out
                unfold boxS at h
                rw [if_pos hzv.out, if_neg (by rw [boxOk_iff]; omega)] at h
                simp only [Prod.mk.injEq] at h
                exact h.2.symm
              subst hbe
              go_wp2_with fail
              go_ret
              exact ⟨rfl, hBr⟩
            · have e0 : decide (x0 < 0) = false := decide_eq_false h0
              by_cases h1 : x1 < x0
              · have e1 : decide (x1 < x0) = true := decide_eq_true h1
                have hbe : be = 2 := by
                  have h := hbs.out
                  unfold boxS at h
                  rw [if_pos hzv.out, if_neg (by rw [boxOk_iff]; omega)] at h
                  simp only [Prod.mk.injEq] at h
                  exact h.2.symm
                subst hbe
                go_wp2_with fail
                go_ret
                exact ⟨rfl, hBr⟩
              · have e1 : decide (x1 < x0) = false := decide_eq_false h1
                by_cases h2 : (pw : Int) < x1
                · have e2 : decide ((pw : Int) < x1) = true := decide_eq_true h2
                  have hbe : be = 2 := by
                    have h := hbs.out
                    unfold boxS at h
                    rw [if_pos hzv.out, if_neg (by rw [boxOk_iff]; omega)] at h
                    simp only [Prod.mk.injEq] at h
                    exact h.2.symm
                  subst hbe
                  go_wp2_with fail
                  go_ret
                  exact ⟨rfl, hBr⟩
                · have e2 : decide ((pw : Int) < x1) = false := decide_eq_false h2
                  by_cases h3 : y0 < 0
                  · have e3 : decide (y0 < 0) = true := decide_eq_true h3
                    have hbe : be = 2 := by
                      have h := hbs.out
                      unfold boxS at h
                      rw [if_pos hzv.out, if_neg (by rw [boxOk_iff]; omega)] at h
                      simp only [Prod.mk.injEq] at h
                      exact h.2.symm
                    subst hbe
                    go_wp2_with fail
                    go_ret
                    exact ⟨rfl, hBr⟩
                  · have e3 : decide (y0 < 0) = false := decide_eq_false h3
                    by_cases h4 : y1 < y0
                    · have e4 : decide (y1 < y0) = true := decide_eq_true h4
                      have hbe : be = 2 := by
                        have h := hbs.out
                        unfold boxS at h
                        rw [if_pos hzv.out, if_neg (by rw [boxOk_iff]; omega)] at h
                        simp only [Prod.mk.injEq] at h
                        exact h.2.symm
                      subst hbe
                      go_wp2_with fail
                      go_ret
                      exact ⟨rfl, hBr⟩
                    · have e4 : decide (y1 < y0) = false := decide_eq_false h4
                      by_cases h5 : (ph : Int) < y1
                      · have e5 : decide ((ph : Int) < y1) = true := decide_eq_true h5
                        have hbe : be = 2 := by
                          have h := hbs.out
                          unfold boxS at h
                          rw [if_pos hzv.out, if_neg (by rw [boxOk_iff]; omega)] at h
                          simp only [Prod.mk.injEq] at h
                          exact h.2.symm
                        subst hbe
                        go_wp2_with fail
                        go_ret
                        exact ⟨rfl, hBr⟩
                      · have e5 : decide ((ph : Int) < y1) = false := decide_eq_false h5
                        obtain ⟨X0, hX0⟩ : ∃ X : Nat, x0 = (X : Int) := ⟨x0.toNat, by omega⟩
                        obtain ⟨X1, hX1⟩ : ∃ X : Nat, x1 = (X : Int) := ⟨x1.toNat, by omega⟩
                        obtain ⟨Y0, hY0⟩ : ∃ X : Nat, y0 = (X : Int) := ⟨y0.toNat, by omega⟩
                        obtain ⟨Y1, hY1⟩ : ∃ X : Nat, y1 = (X : Int) := ⟨y1.toNat, by omega⟩
                        have hbb : bv = gridTo g X1 Y1 + gridTo g X0 Y0 - gridTo g X1 Y0 - gridTo g X0 Y1 ∧ be = 0 := by
                          have h := hbs.out
                          unfold boxS at h
                          rw [if_pos hzv.out, if_pos (by rw [boxOk_iff]; omega)] at h
                          simp only [Prod.mk.injEq] at h
                          refine ⟨?_, h.2.symm⟩
                          rw [← h.1, hX0, hX1, hY0, hY1]
                          simp only [Int.toNat_natCast, hgH.out]
                          unfold rect
                          omega
                        obtain ⟨hbv, hbe⟩ := hbb
                        subst hbe
                        have t11 := hgT.out X1 Y1 (by omega) (by omega)
                        have t00 := hgT.out X0 Y0 (by omega) (by omega)
                        have t01 := hgT.out X1 Y0 (by omega) (by omega)
                        have t10 := hgT.out X0 Y1 (by omega) (by omega)
                        have hcl : ∀ (Y X : Nat) (y x : Int), y = (Y : Int) → x = (X : Int) → X ≤ pw → Y ≤ ph → ∀ u, Hid (gridTo g X Y = u) → wr.cell? ⟨bI, oI + (y * ((pw : Int) + 1) + x).toNat, none⟩ = some (.int .i64 u) ∧ 0 ≤ y * ((pw : Int) + 1) + x ∧ y * ((pw : Int) + 1) + x < (K : Int) + 1 := fun Y X y x hy hx h1 h2 u hu => by
                          have e : ((Y * (pw + 1) + X : Nat) : Int) = y * ((pw : Int) + 1) + x := by rw [hy, hx]; simp
                          have hlt : Y * (pw + 1) + X < K + 1 := by
                            rw [← hKH.out, Nat.mul_comm (pw + 1) (ph + 1)]
                            have := Nat.mul_le_mul_right (pw + 1) h2
                            rw [Nat.add_mul]
                            omega
                          refine ⟨?_, by omega, by omega⟩
                          rw [← e, Int.toNat_natCast]
                          have := (hBx.cell (p := ⟨bI, oI + (Y * (pw + 1) + X), none⟩) hbdI).trans (hcIH.out (Y * (pw + 1) + X) hlt)
                          rw [hgI.out X Y h1 h2, hu.out] at this
                          exact this
                        obtain ⟨u11, hu11⟩ : ∃ u, gridTo g X1 Y1 = u := ⟨_, rfl⟩
                        obtain ⟨u00, hu00⟩ : ∃ u, gridTo g X0 Y0 = u := ⟨_, rfl⟩
                        obtain ⟨u01, hu01⟩ : ∃ u, gridTo g X1 Y0 = u := ⟨_, rfl⟩
                        obtain ⟨u10, hu10⟩ : ∃ u, gridTo g X0 Y1 = u := ⟨_, rfl⟩
                        have d11 : wr.cell? ⟨bI, oI + (y1 * ((pw : Int) + 1) + x1).toNat, none⟩ = some (.int .i64 u11) ∧ 0 ≤ (y1 * ((pw : Int) + 1) + x1) ∧ (y1 * ((pw : Int) + 1) + x1) < (K : Int) + 1 := hcl Y1 X1 y1 x1 hY1 hX1 (by omega) (by omega) u11 (Lib.hid hu11)
                        have d00 : wr.cell? ⟨bI, oI + (y0 * ((pw : Int) + 1) + x0).toNat, none⟩ = some (.int .i64 u00) ∧ 0 ≤ (y0 * ((pw : Int) + 1) + x0) ∧ (y0 * ((pw : Int) + 1) + x0) < (K : Int) + 1 := hcl Y0 X0 y0 x0 hY0 hX0 (by omega) (by omega) u00 (Lib.hid hu00)
                        have d01 : wr.cell? ⟨bI, oI + (y0 * ((pw : Int) + 1) + x1).toNat, none⟩ = some (.int .i64 u01) ∧ 0 ≤ (y0 * ((pw : Int) + 1) + x1) ∧ (y0 * ((pw : Int) + 1) + x1) < (K : Int) + 1 := hcl Y0 X1 y0 x1 hY0 hX1 (by omega) (by omega) u01 (Lib.hid hu01)
                        have d10 : wr.cell? ⟨bI, oI + (y1 * ((pw : Int) + 1) + x0).toNat, none⟩ = some (.int .i64 u10) ∧ 0 ≤ (y1 * ((pw : Int) + 1) + x0) ∧ (y1 * ((pw : Int) + 1) + x0) < (K : Int) + 1 := hcl Y1 X0 y1 x0 hY1 hX0 (by omega) (by omega) u10 (Lib.hid hu10)
                        rw [hu11, hu00, hu01, hu10] at hbv
                        rw [hu11] at t11
                        rw [hu00] at t00
                        rw [hu01] at t01
                        rw [hu10] at t10
                        have hbvH := Lib.hid hbv
                        have r11a := d11.2.1
                        have r11b := d11.2.2
                        have r00a := d00.2.1
                        have r00b := d00.2.2
                        have r01a := d01.2.1
                        have r01b := d01.2.2
                        have r10a := d10.2.1
                        have r10b := d10.2.2
                        replace d11 := Lib.hid d11
                        replace d00 := Lib.hid d00
                        replace d01 := Lib.hid d01
                        replace d10 := Lib.hid d10
                        clear hu11 hu00 hu01 hu10 hcl hbv hX0 hX1 hY0 hY1
                        have hS0 : wr.drew.heap = wr.heap := rfl
                        go_wp2_with fail
                        refine plain_region (fun W' => W'.heap = wr.heap) 45 45 (by kernel_rfl) rfl ?_
                        simp only [Array.replicate_succ, Array.replicate_zero, List.push_toArray, List.nil_append, List.cons_append]
                        refine take_op 0 (v := ?uv0) rfl (by kernel_rfl) (fun _ _ _ h => h) (by rfl) hS0 (fun w' hS' => ?uy0) ?uz0
                        case uy0 =>
                          go_simp
                          rfl
                        simp only [List.setIfInBounds_toArray, List.set_cons_zero, List.set_cons_succ]
                        refine take_op 1 (v := ?uv1) rfl (by kernel_rfl) (fun _ _ _ h => h) (by rfl) hS0 (fun w' hS' => ?uy1) ?uz1
                        case uy1 =>
                          go_simp
                          rfl
                        simp only [List.setIfInBounds_toArray, List.set_cons_zero, List.set_cons_succ]
                        refine take_op 2 (v := ?uv2) rfl (by kernel_rfl) (fun _ _ _ h => h) (by rfl) hS0 (fun w' hS' => ?uy2) ?uz2
                        case uy2 =>
                          go_simp
                          rfl
                        simp only [List.setIfInBounds_toArray, List.set_cons_zero, List.set_cons_succ]
                        refine take_op 3 (v := .bool true) rfl (by kernel_rfl) (fun _ _ _ h => h) (by rfl) hS0 (fun w' hS' => ?uy3) ?uz3
                        case uy3 =>
                          go_simp
                          try rfl
                        simp only [List.setIfInBounds_toArray, List.set_cons_zero, List.set_cons_succ]
                        refine take_op 4 (v := ?uv4) rfl (by kernel_rfl) (fun _ _ _ h => h) (by rfl) hS0 (fun w' hS' => ?uy4) ?uz4
                        case uy4 =>
                          go_simp
                          rfl
                        simp only [List.setIfInBounds_toArray, List.set_cons_zero, List.set_cons_succ]
                        refine take_op 5 (v := ?uv5) rfl (by kernel_rfl) (fun _ _ _ h => h) (by rfl) hS0 (fun w' hS' => ?uy5) ?uz5
                        case uy5 =>
                          go_simp
                          rfl
                        simp only [List.setIfInBounds_toArray, List.set_cons_zero, List.set_cons_succ]
                        refine take_op 6 (v := ?uv6) rfl (by kernel_rfl) (fun _ _ _ h => h) (by rfl) hS0 (fun w' hS' => ?uy6) ?uz6
                        case uy6 =>
                          go_simp
                          rfl
                        simp only [List.setIfInBounds_toArray, List.set_cons_zero, List.set_cons_succ]
                        refine take_op 7 (v := ?uv7) rfl (by kernel_rfl) (fun _ _ _ h => h) (by rfl) hS0 (fun w' hS' => ?uy7) ?uz7
                        case uy7 =>
                          go_simp
                          rfl
                        simp only [List.setIfInBounds_toArray, List.set_cons_zero, List.set_cons_succ]
                        refine take_op 8 (v := ?uv8) rfl (by kernel_rfl) (fun _ _ _ h => h) (by rfl) hS0 (fun w' hS' => ?uy8) ?uz8
                        case uy8 =>
                          go_simp
                          rfl
                        simp only [List.setIfInBounds_toArray, List.set_cons_zero, List.set_cons_succ]
                        refine take_op 9 (v := ?uv9) rfl (by kernel_rfl) (fun _ _ _ h => h) (by rfl) hS0 (fun w' hS' => ?uy9) ?uz9
                        case uy9 =>
                          go_simp
                          rfl
                        simp only [List.setIfInBounds_toArray, List.set_cons_zero, List.set_cons_succ]
                        refine take_op 10 (v := ?uv10) rfl (by kernel_rfl) (fun _ _ _ h => h) (by rfl) hS0 (fun w' hS' => ?uy10) ?uz10
                        case uy10 =>
                          go_simp
                          try go_ints
                          rfl
                        simp only [List.setIfInBounds_toArray, List.set_cons_zero, List.set_cons_succ]
                        refine take_op 11 (v := ?uv11) rfl (by kernel_rfl) (fun _ _ _ h => h) (by rfl) hS0 (fun w' hS' => ?uy11) ?uz11
                        case uy11 =>
                          go_simp
                          rfl
                        simp only [List.setIfInBounds_toArray, List.set_cons_zero, List.set_cons_succ]
                        refine take_op 12 (v := ?uv12) rfl (by kernel_rfl) (fun _ _ _ h => h) (by rfl) hS0 (fun w' hS' => ?uy12) ?uz12
                        case uy12 =>
                          go_simp
                          try go_ints
                          rfl
                        simp only [List.setIfInBounds_toArray, List.set_cons_zero, List.set_cons_succ]
                        refine take_op 13 (v := ?uv13) rfl (by kernel_rfl) (fun _ _ _ h => h) (by rfl) hS0 (fun w' hS' => ?uy13) ?uz13
                        case uy13 =>
                          go_simp
                          try go_ints
                          first
                          | rfl
                          | rw [if_pos ⟨by omega, by omega⟩]
                        simp only [List.setIfInBounds_toArray, List.set_cons_zero, List.set_cons_succ]
                        refine take_op 14 (v := ?uv14) rfl (by kernel_rfl) (fun _ _ _ h => h) (by rfl) hS0 (fun w' hS' => ?uy14) ?uz14
                        case uy14 =>
                          have dd := (World.cell?_of_block (w := wr) (w' := w') (a := ⟨bI, oI + (y1 * ((pw : Int) + 1) + x1).toNat, none⟩) (by rw [hS'])).trans d11.out.1
                          clear hS'
                          go_simp
                          rfl
                        simp only [List.setIfInBounds_toArray, List.set_cons_zero, List.set_cons_succ]
                        refine take_op 15 (v := ?uv15) rfl (by kernel_rfl) (fun _ _ _ h => h) (by rfl) hS0 (fun w' hS' => ?uy15) ?uz15
                        case uy15 =>
                          go_simp
                          rfl
                        simp only [List.setIfInBounds_toArray, List.set_cons_zero, List.set_cons_succ]
                        refine take_op 16 (v := ?uv16) rfl (by kernel_rfl) (fun _ _ _ h => h) (by rfl) hS0 (fun w' hS' => ?uy16) ?uz16
                        case uy16 =>
                          go_simp
                          rfl
                        simp only [List.setIfInBounds_toArray, List.set_cons_zero, List.set_cons_succ]
                        refine take_op 17 (v := ?uv17) rfl (by kernel_rfl) (fun _ _ _ h => h) (by rfl) hS0 (fun w' hS' => ?uy17) ?uz17
                        case uy17 =>
                          go_simp
                          rfl
                        simp only [List.setIfInBounds_toArray, List.set_cons_zero, List.set_cons_succ]
                        refine take_op 18 (v := ?uv18) rfl (by kernel_rfl) (fun _ _ _ h => h) (by rfl) hS0 (fun w' hS' => ?uy18) ?uz18
                        case uy18 =>
                          go_simp
                          try go_ints
                          rfl
                        simp only [List.setIfInBounds_toArray, List.set_cons_zero, List.set_cons_succ]
                        refine take_op 19 (v := ?uv19) rfl (by kernel_rfl) (fun _ _ _ h => h) (by rfl) hS0 (fun w' hS' => ?uy19) ?uz19
                        case uy19 =>
                          go_simp
                          rfl
                        simp only [List.setIfInBounds_toArray, List.set_cons_zero, List.set_cons_succ]
                        refine take_op 20 (v := ?uv20) rfl (by kernel_rfl) (fun _ _ _ h => h) (by rfl) hS0 (fun w' hS' => ?uy20) ?uz20
                        case uy20 =>
                          go_simp
                          try go_ints
                          rfl
                        simp only [List.setIfInBounds_toArray, List.set_cons_zero, List.set_cons_succ]
                        refine take_op 21 (v := ?uv21) rfl (by kernel_rfl) (fun _ _ _ h => h) (by rfl) hS0 (fun w' hS' => ?uy21) ?uz21
                        case uy21 =>
                          go_simp
                          try go_ints
                          first
                          | rfl
                          | rw [if_pos ⟨by omega, by omega⟩]
                        simp only [List.setIfInBounds_toArray, List.set_cons_zero, List.set_cons_succ]
                        refine take_op 22 (v := ?uv22) rfl (by kernel_rfl) (fun _ _ _ h => h) (by rfl) hS0 (fun w' hS' => ?uy22) ?uz22
                        case uy22 =>
                          have dd := (World.cell?_of_block (w := wr) (w' := w') (a := ⟨bI, oI + (y0 * ((pw : Int) + 1) + x0).toNat, none⟩) (by rw [hS'])).trans d00.out.1
                          clear hS'
                          go_simp
                          rfl
                        simp only [List.setIfInBounds_toArray, List.set_cons_zero, List.set_cons_succ]
                        refine take_op 23 (v := ?uv23) rfl (by kernel_rfl) (fun _ _ _ h => h) (by rfl) hS0 (fun w' hS' => ?uy23) ?uz23
                        case uy23 =>
                          go_simp
                          try go_ints
                          rfl
                        simp only [List.setIfInBounds_toArray, List.set_cons_zero, List.set_cons_succ]
                        refine take_op 24 (v := ?uv24) rfl (by kernel_rfl) (fun _ _ _ h => h) (by rfl) hS0 (fun w' hS' => ?uy24) ?uz24
                        case uy24 =>
                          go_simp
                          rfl
                        simp only [List.setIfInBounds_toArray, List.set_cons_zero, List.set_cons_succ]
                        refine take_op 25 (v := ?uv25) rfl (by kernel_rfl) (fun _ _ _ h => h) (by rfl) hS0 (fun w' hS' => ?uy25) ?uz25
                        case uy25 =>
                          go_simp
                          rfl
                        simp only [List.setIfInBounds_toArray, List.set_cons_zero, List.set_cons_succ]
                        refine take_op 26 (v := ?uv26) rfl (by kernel_rfl) (fun _ _ _ h => h) (by rfl) hS0 (fun w' hS' => ?uy26) ?uz26
                        case uy26 =>
                          go_simp
                          rfl
                        simp only [List.setIfInBounds_toArray, List.set_cons_zero, List.set_cons_succ]
                        refine take_op 27 (v := ?uv27) rfl (by kernel_rfl) (fun _ _ _ h => h) (by rfl) hS0 (fun w' hS' => ?uy27) ?uz27
                        case uy27 =>
                          go_simp
                          try go_ints
                          rfl
                        simp only [List.setIfInBounds_toArray, List.set_cons_zero, List.set_cons_succ]
                        refine take_op 28 (v := ?uv28) rfl (by kernel_rfl) (fun _ _ _ h => h) (by rfl) hS0 (fun w' hS' => ?uy28) ?uz28
                        case uy28 =>
                          go_simp
                          rfl
                        simp only [List.setIfInBounds_toArray, List.set_cons_zero, List.set_cons_succ]
                        refine take_op 29 (v := ?uv29) rfl (by kernel_rfl) (fun _ _ _ h => h) (by rfl) hS0 (fun w' hS' => ?uy29) ?uz29
                        case uy29 =>
                          go_simp
                          try go_ints
                          rfl
                        simp only [List.setIfInBounds_toArray, List.set_cons_zero, List.set_cons_succ]
                        refine take_op 30 (v := ?uv30) rfl (by kernel_rfl) (fun _ _ _ h => h) (by rfl) hS0 (fun w' hS' => ?uy30) ?uz30
                        case uy30 =>
                          go_simp
                          try go_ints
                          first
                          | rfl
                          | rw [if_pos ⟨by omega, by omega⟩]
                        simp only [List.setIfInBounds_toArray, List.set_cons_zero, List.set_cons_succ]
                        refine take_op 31 (v := ?uv31) rfl (by kernel_rfl) (fun _ _ _ h => h) (by rfl) hS0 (fun w' hS' => ?uy31) ?uz31
                        case uy31 =>
                          have dd := (World.cell?_of_block (w := wr) (w' := w') (a := ⟨bI, oI + (y0 * ((pw : Int) + 1) + x1).toNat, none⟩) (by rw [hS'])).trans d01.out.1
                          clear hS'
                          go_simp
                          rfl
                        simp only [List.setIfInBounds_toArray, List.set_cons_zero, List.set_cons_succ]
                        refine take_op 32 (v := ?uv32) rfl (by kernel_rfl) (fun _ _ _ h => h) (by rfl) hS0 (fun w' hS' => ?uy32) ?uz32
                        case uy32 =>
                          go_simp
                          try go_ints
                          rfl
                        simp only [List.setIfInBounds_toArray, List.set_cons_zero, List.set_cons_succ]
                        refine take_op 33 (v := ?uv33) rfl (by kernel_rfl) (fun _ _ _ h => h) (by rfl) hS0 (fun w' hS' => ?uy33) ?uz33
                        case uy33 =>
                          go_simp
                          rfl
                        simp only [List.setIfInBounds_toArray, List.set_cons_zero, List.set_cons_succ]
                        refine take_op 34 (v := ?uv34) rfl (by kernel_rfl) (fun _ _ _ h => h) (by rfl) hS0 (fun w' hS' => ?uy34) ?uz34
                        case uy34 =>
                          go_simp
                          rfl
                        simp only [List.setIfInBounds_toArray, List.set_cons_zero, List.set_cons_succ]
                        refine take_op 35 (v := ?uv35) rfl (by kernel_rfl) (fun _ _ _ h => h) (by rfl) hS0 (fun w' hS' => ?uy35) ?uz35
                        case uy35 =>
                          go_simp
                          rfl
                        simp only [List.setIfInBounds_toArray, List.set_cons_zero, List.set_cons_succ]
                        refine take_op 36 (v := ?uv36) rfl (by kernel_rfl) (fun _ _ _ h => h) (by rfl) hS0 (fun w' hS' => ?uy36) ?uz36
                        case uy36 =>
                          go_simp
                          try go_ints
                          rfl
                        simp only [List.setIfInBounds_toArray, List.set_cons_zero, List.set_cons_succ]
                        refine take_op 37 (v := ?uv37) rfl (by kernel_rfl) (fun _ _ _ h => h) (by rfl) hS0 (fun w' hS' => ?uy37) ?uz37
                        case uy37 =>
                          go_simp
                          rfl
                        simp only [List.setIfInBounds_toArray, List.set_cons_zero, List.set_cons_succ]
                        refine take_op 38 (v := ?uv38) rfl (by kernel_rfl) (fun _ _ _ h => h) (by rfl) hS0 (fun w' hS' => ?uy38) ?uz38
                        case uy38 =>
                          go_simp
                          try go_ints
                          rfl
                        simp only [List.setIfInBounds_toArray, List.set_cons_zero, List.set_cons_succ]
                        refine take_op 39 (v := ?uv39) rfl (by kernel_rfl) (fun _ _ _ h => h) (by rfl) hS0 (fun w' hS' => ?uy39) ?uz39
                        case uy39 =>
                          go_simp
                          try go_ints
                          first
                          | rfl
                          | rw [if_pos ⟨by omega, by omega⟩]
                        simp only [List.setIfInBounds_toArray, List.set_cons_zero, List.set_cons_succ]
                        refine take_op 40 (v := ?uv40) rfl (by kernel_rfl) (fun _ _ _ h => h) (by rfl) hS0 (fun w' hS' => ?uy40) ?uz40
                        case uy40 =>
                          have dd := (World.cell?_of_block (w := wr) (w' := w') (a := ⟨bI, oI + (y1 * ((pw : Int) + 1) + x0).toNat, none⟩) (by rw [hS'])).trans d10.out.1
                          clear hS'
                          go_simp
                          rfl
                        simp only [List.setIfInBounds_toArray, List.set_cons_zero, List.set_cons_succ]
                        refine take_op 41 (v := ?uv41) rfl (by kernel_rfl) (fun _ _ _ h => h) (by rfl) hS0 (fun w' hS' => ?uy41) ?uz41
                        case uy41 =>
                          go_simp
                          try go_ints
                          rfl
                        simp only [List.setIfInBounds_toArray, List.set_cons_zero, List.set_cons_succ]
                        refine take_op 42 (v := .bool true) rfl (by kernel_rfl) (fun _ _ _ h => h) (by rfl) hS0 (fun w' hS' => ?uy42) ?uz42
                        case uy42 =>
                          go_simp
                          try simp only [hbvH.out]
                          try simp
                        simp only [List.setIfInBounds_toArray, List.set_cons_zero, List.set_cons_succ]
                        refine take_op 43 (v := ?uv43) rfl (by kernel_rfl) (fun _ _ _ h => h) (by rfl) hS0 (fun w' hS' => ?uy43) ?uz43
                        case uy43 =>
                          go_simp
                          rfl
                        simp only [List.setIfInBounds_toArray, List.set_cons_zero, List.set_cons_succ]
                        refine take_op 44 (v := ?uv44) rfl (by kernel_rfl) (fun _ _ _ h => h) (by rfl) hS0 (fun w' hS' => ?uy44) ?uz44
                        case uy44 =>
                          go_simp
                          rfl
                        simp only [List.setIfInBounds_toArray, List.set_cons_zero, List.set_cons_succ]
                        refine done_ops (by kernel_rfl) ?_
                        go_wp2_with fail
                        go_ret
                        exact ⟨rfl, hBr.trans ((Below.refl _ wr).drew.mono hBr.size)⟩

end Go.Proofs.Ytjglfeonoiljlaa

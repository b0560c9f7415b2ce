/- The contract of the specification's Warp. -/
import Derived.Test.YtjglfeonoiljlaaImgF
namespace Go.Proofs.Ytjglfeonoiljlaa
open Go Go.RowKit Go.Shelf
set_option linter.unusedVariables false
set_option linter.unusedSimpArgs false

theorem warpG_bd {iw ih : Int} {xs : List Int} {t : WarpN} {fill : Int} (h : allIn (-2147483648) 2147483648 xs = true) (hf : inR fill (-2147483648) 2147483648 = true) (x y : Int) : -2147483648 ≤ warpG iw ih xs t fill x y ∧ warpG iw ih xs t fill x y ≤ 2147483648 := by
  unfold warpG
  split
  · exact px_bd h _
  · exact inR_true.1 hf


set_option maxRecDepth 100000 in
set_option maxHeartbeats 4000000 in
theorem rWarp_any (iw ih : Int) (a : Option Addr) (c n : Nat) (xs : List Int) (hn : Hid (xs.length = n)) (t : WarpN) (rw rh fill : Int) (w : World) (hm : n ≤ 9223372036854775807) (hr : Rd w.heap.size w a xs) :
    Calls Try.prog 25 #[imv iw ih a n c, t.val, .int .i64 rw, .int .i64 rh, .int .i64 fill] w (RetIm w.heap.size (warpS iw ih xs t rw rh fill) w) := by
  have hB0 : Below w.heap.size w (((w.alloc (.cells #[.int .i64 iw, .int .i64 ih, .slice a n c] 24)).alloc (.cells t.cells 26)).alloc (.cells #[.int .i64 0, .int .i64 0, .slice none 0 0] 24)) := below_al (below_al (below_al (Below.refl _ _) _) _) _
  obtain ⟨v0, hv⟩ : ∃ v, vld iw ih xs = v := ⟨_, rfl⟩
  have hvH := Lib.hid hv
  obtain ⟨v1, h1⟩ : ∃ v, t.ok = v := ⟨_, rfl⟩
  have h1H := Lib.hid h1
  obtain ⟨v3, h3⟩ : ∃ v, inR rw 1 16 = v := ⟨_, rfl⟩
  have h3H := Lib.hid h3
  obtain ⟨v5, h5⟩ : ∃ v, inR rh 1 16 = v := ⟨_, rfl⟩
  have h5H := Lib.hid h5
  obtain ⟨v4, h4⟩ : ∃ v, inR fill (-2147483648) 2147483648 = v := ⟨_, rfl⟩
  have h4H := Lib.hid h4
  have hsp0 : warpS iw ih xs t rw rh fill = if v0 = true then (if (v1 && (v3 && v5) && v4) = true then { w := rw, h := rh, px := img rw.toNat rh.toNat (warpG iw ih xs t fill), err := 0 } else noIm 2) else noIm 20 := by
    simp only [warpS, hv, h1, h3, h4, h5]
  have hsp := Lib.hid hsp0
  clear hv h1 h3 h4 h5 hsp0
  go_enter Try.func25, Try.ntmps25
  go_wp2_with fail
  refine (Valid_any iw ih a c xs n hn _ hm ((hr.below (Nat.le_refl _) hB0).mono hB0.size)).mono ?_
  rintro e W1 ⟨rfl, hb1⟩
  rw [hvH.out]
  have hB1 : Below w.heap.size w W1 := hB0.trans (hb1.mono hB0.size)
  have k5 := (((Blk.new w 24 #[.int .i64 iw, .int .i64 ih, .slice a n c]).alloc (.cells t.cells 26)).alloc (.cells #[.int .i64 0, .int .i64 0, .slice none 0 0] 24)).below hb1 (by simp <;> omega)
  have k6 := ((Blk.new (w.alloc (.cells #[.int .i64 iw, .int .i64 ih, .slice a n c] 24)) 26 t.cells).alloc (.cells #[.int .i64 0, .int .i64 0, .slice none 0 0] 24)).below hb1 (by simp <;> omega)
  have k := (Blk.new ((w.alloc (.cells #[.int .i64 iw, .int .i64 ih, .slice a n c] 24)).alloc (.cells t.cells 26)) 24 #[.int .i64 0, .int .i64 0, .slice none 0 0]).below hb1 (by simp <;> omega)
  simp only [World.size_alloc] at k k6
  clear hb1 hB0
  have hlt := k.lt
  have c0 := k.cell (i := 0) rfl
  have c1 := k.cell (i := 1) rfl
  have c2 := k.cell (i := 2) rfl
  have fc0 := k.frozen 0
  have fc1 := k.frozen 1
  have fc2 := k.frozen 2
  have m0 := k5.cell (i := 0) rfl
  have m1 := k5.cell (i := 1) rfl
  have m2 := k5.cell (i := 2) rfl
  have a0 := k6.cell (i := 0) rfl
  have a1 := k6.cell (i := 1) rfl
  have a2 := k6.cell (i := 2) rfl
  have a3 := k6.cell (i := 3) rfl
  have a4 := k6.cell (i := 4) rfl
  have a5 := k6.cell (i := 5) rfl
  have a6 := k6.cell (i := 6) rfl
  cases v0 with
  | false =>
    go_wp2_with fail
    have kf := put3_blk k (.int .i64 0) (.int .i64 0) (.slice none 0 0)
    have g0 := kf.cell (i := 0) rfl
    have g1 := kf.cell (i := 1) rfl
    have g2 := kf.cell (i := 2) rfl
    exact bodyPost_ret (v := .tuple #[.agg #[.int .i64 0, .int .i64 0, .slice none 0 0], .int .i64 20]) (by simp [results, Try.results25, go_sem, g0, g1, g2]) rfl ⟨⟨_, by rw [hsp.out]; rfl, by rw [hsp.out]; exact OwnIm_nil _ _⟩, hB1.trans (put3_below (by omega) _ _ _)⟩
  | true =>
    go_wp2_with fail
    refine (ValidWarp_any t _).mono ?_
    rintro e W2 ⟨rfl, hb⟩
    rw [h1H.out]
    have hB2 := hB1.trans (hb.mono hB1.size)
    clear c0 c1 c2 fc0 fc1 fc2
    replace k := k.below hb k.lt
    have c0 := k.cell (i := 0) rfl
    have c1 := k.cell (i := 1) rfl
    have c2 := k.cell (i := 2) rfl
    have fc0 := k.frozen 0
    have fc1 := k.frozen 1
    have fc2 := k.frozen 2
    clear m0 m1 m2
    replace k5 := k5.below hb k5.lt
    have m0 := k5.cell (i := 0) rfl
    have m1 := k5.cell (i := 1) rfl
    have m2 := k5.cell (i := 2) rfl
    clear a0 a1 a2 a3 a4 a5 a6
    replace k6 := k6.below hb k6.lt
    have a0 := k6.cell (i := 0) rfl
    have a1 := k6.cell (i := 1) rfl
    have a2 := k6.cell (i := 2) rfl
    have a3 := k6.cell (i := 3) rfl
    have a4 := k6.cell (i := 4) rfl
    have a5 := k6.cell (i := 5) rfl
    have a6 := k6.cell (i := 6) rfl
    clear hb
    replace hlt := k.lt
    cases v1 with
    | false =>
      go_wp2_with fail
      have kf := put3_blk k (.int .i64 0) (.int .i64 0) (.slice none 0 0)
      have g0 := kf.cell (i := 0) rfl
      have g1 := kf.cell (i := 1) rfl
      have g2 := kf.cell (i := 2) rfl
      exact bodyPost_ret (v := .tuple #[.agg #[.int .i64 0, .int .i64 0, .slice none 0 0], .int .i64 2]) (by simp [results, Try.results25, go_sem, g0, g1, g2]) rfl ⟨⟨_, by rw [hsp.out]; rfl, by rw [hsp.out]; exact OwnIm_nil _ _⟩, hB2.trans (put3_below (by omega) _ _ _)⟩
    | true =>
      go_wp2_with fail
      refine (rwithin1 rw 1 16 v3 h3H.out _).mono ?_
      rintro e W3 ⟨rfl, rfl⟩
      cases v3 with
      | false =>
        go_wp2_with fail
        have kf := put3_blk k (.int .i64 0) (.int .i64 0) (.slice none 0 0)
        have g0 := kf.cell (i := 0) rfl
        have g1 := kf.cell (i := 1) rfl
        have g2 := kf.cell (i := 2) rfl
        exact bodyPost_ret (v := .tuple #[.agg #[.int .i64 0, .int .i64 0, .slice none 0 0], .int .i64 2]) (by simp [results, Try.results25, go_sem, g0, g1, g2]) rfl ⟨⟨_, by rw [hsp.out]; rfl, by rw [hsp.out]; exact OwnIm_nil _ _⟩, hB2.trans (put3_below (by omega) _ _ _)⟩
      | true =>
        go_wp2_with fail
        refine (rwithin1 rh 1 16 v5 h5H.out _).mono ?_
        rintro e W3 ⟨rfl, rfl⟩
        cases v5 with
        | false =>
          go_wp2_with fail
          have kf := put3_blk k (.int .i64 0) (.int .i64 0) (.slice none 0 0)
          have g0 := kf.cell (i := 0) rfl
          have g1 := kf.cell (i := 1) rfl
          have g2 := kf.cell (i := 2) rfl
          exact bodyPost_ret (v := .tuple #[.agg #[.int .i64 0, .int .i64 0, .slice none 0 0], .int .i64 2]) (by simp [results, Try.results25, go_sem, g0, g1, g2]) rfl ⟨⟨_, by rw [hsp.out]; rfl, by rw [hsp.out]; exact OwnIm_nil _ _⟩, hB2.trans (put3_below (by omega) _ _ _)⟩
        | true =>
          go_wp2_with fail
          refine (rwithin1 fill (-2147483648) 2147483648 v4 h4H.out _).mono ?_
          rintro e W3 ⟨rfl, rfl⟩
          cases v4 with
          | false =>
            go_wp2_with fail
            have kf := put3_blk k (.int .i64 0) (.int .i64 0) (.slice none 0 0)
            have g0 := kf.cell (i := 0) rfl
            have g1 := kf.cell (i := 1) rfl
            have g2 := kf.cell (i := 2) rfl
            exact bodyPost_ret (v := .tuple #[.agg #[.int .i64 0, .int .i64 0, .slice none 0 0], .int .i64 2]) (by simp [results, Try.results25, go_sem, g0, g1, g2]) rfl ⟨⟨_, by rw [hsp.out]; rfl, by rw [hsp.out]; exact OwnIm_nil _ _⟩, hB2.trans (put3_below (by omega) _ _ _)⟩
          | true =>
            obtain ⟨⟨i1, i2⟩, ⟨i3, i4⟩, hlen, hall⟩ := vld_true hvH.out
            rw [hn.out] at hlen
            have hlenH := Lib.hid hlen
            have hallH := Lib.hid hall
            clear hlen hall
            obtain ⟨r1, r2⟩ := inR_true.1 h3H.out
            obtain ⟨r3, r4⟩ := inR_true.1 h5H.out
            have htokH := Lib.hid h1H.out
            obtain ⟨pw, rfl⟩ : ∃ pw : Nat, rw = (pw : Int) := ⟨rw.toNat, by omega⟩
            obtain ⟨ph, rfl⟩ : ∃ ph : Nat, rh = (ph : Int) := ⟨rh.toNat, by omega⟩
            obtain ⟨N, hN⟩ : ∃ N, pw * ph = N := ⟨_, rfl⟩
            obtain ⟨hN1, hN2, hN3, hn9⟩ : (pw : Int) * ph ≤ N ∧ (N : Int) ≤ (pw : Int) * ph ∧ N ≤ 256 ∧ n ≤ 256 := by
              have h2 : ((pw * ph : Nat) : Int) = (pw : Int) * ph := by simp
              obtain ⟨m1, m2⟩ := mul_small (a := (pw : Int)) (b := (ph : Int)) (m := 16) (n := 16) (by omega) (by omega) (by omega) (by omega)
              obtain ⟨m3, m4⟩ := mul_small (a := iw) (b := ih) (m := 16) (n := 16) (by omega) (by omega) (by omega) (by omega)
              have h3 := hlenH.out
              omega
            have hNH := Lib.hid hN
            clear hN
            go_wp2_with fail
            refine (Blank_any pw ph (by omega) (by omega) W2).mono ?_
            rintro e W3 ⟨g, cap, rfl, hrow, hg, hb⟩
            rw [hNH.out] at hrow ⊢
            replace hrow := row_base hrow hB2.size
            replace hg := Nat.le_trans hB2.size hg
            have hB3 := hB2.trans (hb.mono hB2.size)
            clear c0 c1 c2 fc0 fc1 fc2
            replace k := k.below hb k.lt
            have c0 := k.cell (i := 0) rfl
            have c1 := k.cell (i := 1) rfl
            have c2 := k.cell (i := 2) rfl
            have fc0 := k.frozen 0
            have fc1 := k.frozen 1
            have fc2 := k.frozen 2
            clear m0 m1 m2
            replace k5 := k5.below hb k5.lt
            have m0 := k5.cell (i := 0) rfl
            have m1 := k5.cell (i := 1) rfl
            have m2 := k5.cell (i := 2) rfl
            clear a0 a1 a2 a3 a4 a5 a6
            replace k6 := k6.below hb k6.lt
            have a0 := k6.cell (i := 0) rfl
            have a1 := k6.cell (i := 1) rfl
            have a2 := k6.cell (i := 2) rfl
            have a3 := k6.cell (i := 3) rfl
            have a4 := k6.cell (i := 4) rfl
            have a5 := k6.cell (i := 5) rfl
            have a6 := k6.cell (i := 6) rfl
            clear hb hB2 hB1
            go_wp2_with fail
            have ko := Blk.new W3 24 #[.int .i64 pw, .int .i64 ph, .slice (some ⟨g, 0, none⟩) N cap]
            have row3 := hrow.alloc (.cells #[.int .i64 pw, .int .i64 ph, .slice (some ⟨g, 0, none⟩) N cap] 24)
            obtain ⟨WL, hWL⟩ : ∃ WL, W3.alloc (.cells #[.int .i64 pw, .int .i64 ph, .slice (some ⟨g, 0, none⟩) N cap] 24) = WL := ⟨_, rfl⟩
            have hb : Below W3.heap.size W3 WL := alloc_below hWL
            rw [hWL] at ko row3 ⊢
            clear hWL
            have hBL := hB3.trans (hb.mono hB3.size)
            clear c0 c1 c2 fc0 fc1 fc2
            replace k := k.below hb k.lt
            have c0 := k.cell (i := 0) rfl
            have c1 := k.cell (i := 1) rfl
            have c2 := k.cell (i := 2) rfl
            have fc0 := k.frozen 0
            have fc1 := k.frozen 1
            have fc2 := k.frozen 2
            clear m0 m1 m2
            replace k5 := k5.below hb k5.lt
            have m0 := k5.cell (i := 0) rfl
            have m1 := k5.cell (i := 1) rfl
            have m2 := k5.cell (i := 2) rfl
            clear a0 a1 a2 a3 a4 a5 a6
            replace k6 := k6.below hb k6.lt
            have a0 := k6.cell (i := 0) rfl
            have a1 := k6.cell (i := 1) rfl
            have a2 := k6.cell (i := 2) rfl
            have a3 := k6.cell (i := 3) rfl
            have a4 := k6.cell (i := 4) rfl
            have a5 := k6.cell (i := 5) rfl
            have a6 := k6.cell (i := 6) rfl
            clear hb hrow hB3
            obtain ⟨M, hM⟩ : ∃ M, W3.heap.size = M := ⟨_, rfl⟩
            rw [hM] at ko ⊢
            clear hM
            clear c0 c1 c2 fc0 fc1 fc2 m0 m1 m2 a0 a1 a2 a3 a4 a5 a6 hlt
            clear W3
            have row4 := row3
            rw [← upto_zero (fun i => warpG iw ih xs t fill (cX pw i) (cY pw i)) N] at row4
            clear row3
            have hgl := row4.lt g rfl
            have ngoH := Lib.hid (ko.not_row (by decide) row4)
            have ng5H := Lib.hid (k5.not_row (by decide) row4)
            have ng6H := Lib.hid (k6.not_row (by decide) row4)
            have ngkH := Lib.hid (k.not_row (by decide) row4)
            have hpw0 : pw ≠ 0 := by omega
            go_loopw [13, 14, 15, 54] (fun i _ _ _ wr => ∃ k : Nat, k ≤ N ∧ i = .int .i64 k ∧ WL.grownBy wr (some g) ∧ wr.ownsRow w.heap.size 3 1 (.slice (some ⟨g, 0, none⟩) N cap) N ((upto (fun i => warpG iw ih xs t fill (cX pw i) (cY pw i)) N k).map (Value.int .i64))) (fun i _ _ _ _ => N - (intOf i).toNat)
            case atStart => exact ⟨0, Nat.zero_le _, rfl, ⟨rfl, rfl, rfl, Nat.le_refl _, fun _ _ _ => rfl⟩, row4⟩
            case round =>
              obtain ⟨k', hk, rfl, hG, rowk⟩ := hrel
              have hBr : Below w.heap.size w wr := hBL.grown hG hBL.size (fun j e => by cases e; exact hg)
              have kor := ko.kept hG ngoH.out
              have o2 := kor.cell (i := 2) rfl
              by_cases hlt : k' < N
              · obtain ⟨x1, x2⟩ := cX_bd (pw := pw) (i := k') (by omega)
                obtain ⟨y1, y2⟩ := cY_bd (pw := pw) (ph := ph) (i := k') (by rw [hNH.out]; exact hlt)
                rw [cX_eq] at x1 x2
                rw [cY_eq] at y1 y2
                have hcell := rowk.cellAt k' (by omega)
                have hfr := rowk.frozenAt k'
                have hcell2 : ((upto (fun i => warpG iw ih xs t fill (cX pw i) (cY pw i)) N k').map (Value.int .i64))[k']? = some (.int .i64 0) := by simp [upto, hlt]
                rw [hcell2] at hcell
                clear hcell2
                have hsto := rowk.stored k' (.int .i64 fill)
                obtain ⟨Wa, hWa⟩ : ∃ Wa, wr.setCell ⟨g, k', none⟩ (.int .i64 fill) = Wa := ⟨_, rfl⟩
                go_wp2_with fail
                rw [hWa] at hsto
                clear hWa hcell hfr o2 kor
                obtain ⟨rowa, hga⟩ := hsto
                have hGa := grown_trans hG hga
                clear hga hG rowk
                have k6r := k6.kept hGa ng6H.out
                have hSa : Below Wa.heap.size Wa Wa.drew := (Below.refl _ _).drew
                refine plain_region (fun W' => Below Wa.heap.size Wa W') 13 13 (by kernel_rfl) rfl ?_
                simp only [Array.replicate_succ, Array.replicate_zero, List.push_toArray, List.nil_append, List.cons_append]
                refine take_op 0 (v := ?pv0) rfl (by kernel_rfl) (fun _ _ _ h => h) (by rfl) hSa (fun w' hS' => ?py0) ?pz0
                case py0 =>
                  have a0 := (k6r.below hS' k6r.lt).cell (i := 0) rfl
                  have a1 := (k6r.below hS' k6r.lt).cell (i := 1) rfl
                  have a2 := (k6r.below hS' k6r.lt).cell (i := 2) rfl
                  have a3 := (k6r.below hS' k6r.lt).cell (i := 3) rfl
                  have a4 := (k6r.below hS' k6r.lt).cell (i := 4) rfl
                  have a5 := (k6r.below hS' k6r.lt).cell (i := 5) rfl
                  have a6 := (k6r.below hS' k6r.lt).cell (i := 6) rfl
                  go_simp
                  rfl
                simp only [List.setIfInBounds_toArray, List.set_cons_zero, List.set_cons_succ]
                refine take_op 1 (v := ?pv1) rfl (by kernel_rfl) (fun _ _ _ h => h) (by rfl) hSa (fun w' hS' => ?py1) ?pz1
                case py1 =>
                  go_simp
                  rfl
                simp only [List.setIfInBounds_toArray, List.set_cons_zero, List.set_cons_succ]
                refine take_op 2 (v := ?pv2) rfl (by kernel_rfl) (fun _ _ _ h => h) (by rfl) hSa (fun w' hS' => ?py2) ?pz2
                case py2 =>
                  go_simp
                  rfl
                simp only [List.setIfInBounds_toArray, List.set_cons_zero, List.set_cons_succ]
                refine take_op 3 (v := ?pv3) rfl (by kernel_rfl) (fun _ _ _ h => h) (by rfl) hSa (fun w' hS' => ?py3) ?pz3
                case py3 =>
                  go_simp
                  try go_ints
                  rfl
                simp only [List.setIfInBounds_toArray, List.set_cons_zero, List.set_cons_succ]
                refine take_op 4 (v := ?pv4) rfl (by kernel_rfl) (fun _ _ _ h => h) (by rfl) hSa (fun w' hS' => ?py4) ?pz4
                case py4 =>
                  go_simp
                  rfl
                simp only [List.setIfInBounds_toArray, List.set_cons_zero, List.set_cons_succ]
                refine take_op 5 (v := ?pv5) rfl (by kernel_rfl) (fun _ _ _ h => h) (by rfl) hSa (fun w' hS' => ?py5) ?pz5
                case py5 =>
                  go_simp
                  rfl
                simp only [List.setIfInBounds_toArray, List.set_cons_zero, List.set_cons_succ]
                refine take_op 6 (v := ?pv6) rfl (by kernel_rfl) (fun _ _ _ h => h) (by rfl) hSa (fun w' hS' => ?py6) ?pz6
                case py6 =>
                  go_simp
                  try go_ints
                  rfl
                simp only [List.setIfInBounds_toArray, List.set_cons_zero, List.set_cons_succ]
                refine step_op 7 (by kernel_rfl) rfl (fun K hK => ?_)
                rw [if_pos (by rfl)]
                go_simp
                refine (Source_any t _ _ _ htokH.out x1 (by omega) y1 (by omega)).mono ?_
                rintro e W4 ⟨rfl, hb4⟩
                have hS4 : Below Wa.heap.size Wa W4 := hSa.trans (hb4.mono hSa.size)
                refine hK.out _ _ (fun h => hS4) ?_
                clear hK K
                try simp only [Act.put, List.setIfInBounds_toArray, List.set_cons_zero, List.set_cons_succ]
                refine take_op 8 (v := ?pv8) rfl (by kernel_rfl) (fun _ _ _ h => h) (by rfl) hS4 (fun w' hS' => ?py8) ?pz8
                case py8 =>
                  go_simp
                  rfl
                simp only [List.setIfInBounds_toArray, List.set_cons_zero, List.set_cons_succ]
                refine take_op 9 (v := ?pv9) rfl (by kernel_rfl) (fun _ _ _ h => h) (by rfl) hS4 (fun w' hS' => ?py9) ?pz9
                case py9 =>
                  go_simp
                  rfl
                simp only [List.setIfInBounds_toArray, List.set_cons_zero, List.set_cons_succ]
                refine take_op 10 (v := ?pv10) rfl (by kernel_rfl) (fun _ _ _ h => h) (by rfl) hS4 (fun w' hS' => ?py10) ?pz10
                case py10 =>
                  go_simp
                  rfl
                simp only [List.setIfInBounds_toArray, List.set_cons_zero, List.set_cons_succ]
                refine take_op 11 (v := ?pv11) rfl (by kernel_rfl) (fun _ _ _ h => h) (by rfl) hS4 (fun w' hS' => ?py11) ?pz11
                case py11 =>
                  go_simp
                  rfl
                simp only [List.setIfInBounds_toArray, List.set_cons_zero, List.set_cons_succ]
                refine take_op 12 (v := ?pv12) rfl (by kernel_rfl) (fun _ _ _ h => h) (by rfl) hS4 (fun w' hS' => ?py12) ?pz12
                case py12 =>
                  go_simp
                  rfl
                simp only [List.setIfInBounds_toArray, List.set_cons_zero, List.set_cons_succ]
                refine done_ops (by kernel_rfl) ?_
                rw [← cX_eq, ← cY_eq]
                generalize hu : src t.a t.b t.c t.den (cX pw k') (cY pw k') = u
                generalize hv : src t.d t.e t.f t.den (cX pw k') (cY pw k') = v
                have huH := Lib.hid hu
                have hvvH := Lib.hid hv
                clear hu hv
                have hGb := grown_trans hGa (grown_of_below hS4 (some g))
                have rowb := row_below rowa hS4
                have k5b := k5.kept hGb ng5H.out
                have kob := ko.kept hGb ngoH.out
                have hBb : Below w.heap.size w W4 := hBL.grown hGb hBL.size (fun j e => by cases e; exact hg)
                have b0 := k5b.cell (i := 0) rfl
                have b1 := k5b.cell (i := 1) rfl
                have b2 := k5b.cell (i := 2) rfl
                obtain ⟨o, ho⟩ : ∃ o, (inR u 0 (iw - 1) && inR v 0 (ih - 1)) = o := ⟨_, rfl⟩
                have hoH := Lib.hid ho
                clear ho
                go_wp2_with fail
                refine (Inside_any iw ih u v _ W4 (by omega) (by omega) (by omega) (by omega) ⟨a, n, c, rfl⟩).mono ?_
                rintro e W5 ⟨rfl, hb5⟩
                rw [hoH.out]
                have hGc := grown_trans hGb (grown_of_below hb5 (some g))
                have rowc := row_below rowb hb5
                have k5c := k5b.below hb5 k5b.lt
                have koc := kob.below hb5 kob.lt
                have hBc := hBb.trans (hb5.mono hBb.size)
                have hsetH := Lib.hid (show ((upto (fun i => warpG iw ih xs t fill (cX pw i) (cY pw i)) N k').map (Value.int .i64)).set k' (.int .i64 fill) = ((upto (fun i => warpG iw ih xs t fill (cX pw i) (cY pw i)) N k').set k' fill).map (Value.int .i64) from map_set_int _ _ _)
                rw [hsetH.out] at rowc
                clear b0 b1 b2 hb5 rowb rowa hGb hGa k6r kob k5b hb4 hS4 hSa hBb hBr hsetH
                have hcc : ∀ z, (((upto (fun i => warpG iw ih xs t fill (cX pw i) (cY pw i)) N k').set k' fill).map (Value.int .i64)).set k' (.int .i64 z) = ((upto (fun i => warpG iw ih xs t fill (cX pw i) (cY pw i)) N k').set k' z).map (Value.int .i64) := fun z => by rw [map_set_int, List.set_set]
                have hccH := Lib.hid hcc
                have hset : (((upto (fun i => warpG iw ih xs t fill (cX pw i) (cY pw i)) N k').set k' fill).map (Value.int .i64))[k']? = some (.int .i64 fill) := by simp [upto, hlt]
                have hsetH := Lib.hid hset
                clear hset hcc
                have fin : ∀ z, warpG iw ih xs t fill (cX pw k') (cY pw k') = z → (upto (fun i => warpG iw ih xs t fill (cX pw i) (cY pw i)) N k').set k' z = upto (fun i => warpG iw ih xs t fill (cX pw i) (cY pw i)) N (k' + 1) := fun z hz => by rw [← upto_set (fun i => warpG iw ih xs t fill (cX pw i) (cY pw i)) N k' hlt]; exact congrArg (fun z => (upto (fun i => warpG iw ih xs t fill (cX pw i) (cY pw i)) N k').set k' z) hz.symm
                have finH := Lib.hid fin
                clear fin
                have hSc : Below W5.heap.size W5 W5.drew := (Below.refl _ _).drew
                cases o with
                | false =>
                  go_wp2_with fail
                  go_roundw
                  case rel =>
                    rw [finH.out fill (by unfold warpG; rw [huH.out, hvvH.out, hoH.out]; rfl)] at rowc
                    exact ⟨k' + 1, by omega, by go_num, hGc, rowc⟩
                  case measure => simp [intOf]; omega
                | true =>
                  have ho := hoH.out
                  simp only [Bool.and_eq_true, inR_true] at ho
                  obtain ⟨q1, q2, q3, q4⟩ := in_idx i1 hlenH.out ho.1.1 ho.1.2 ho.2.1 ho.2.2
                  clear ho
                  go_wp2_with fail
                  refine plain_region (fun W' => Below W5.heap.size W5 W') 8 9 (by kernel_rfl) rfl ?_
                  simp only [Array.replicate_succ, Array.replicate_zero, List.push_toArray, List.nil_append, List.cons_append]
                  refine take_op 0 (v := ?qv0) rfl (by kernel_rfl) (fun _ _ _ h => h) (by rfl) hSc (fun w' hS' => ?qy0) ?qz0
                  case qy0 =>
                    go_simp
                    rfl
                  simp only [List.setIfInBounds_toArray, List.set_cons_zero, List.set_cons_succ]
                  refine take_op 1 (v := ?qv1) rfl (by kernel_rfl) (fun _ _ _ h => h) (by rfl) hSc (fun w' hS' => ?qy1) ?qz1
                  case qy1 =>
                    have b1 := (koc.below hS' koc.lt).cell (i := 2) rfl
                    have m0 := (k5c.below hS' k5c.lt).cell (i := 0) rfl
                    have m1 := (k5c.below hS' k5c.lt).cell (i := 1) rfl
                    have m2 := (k5c.below hS' k5c.lt).cell (i := 2) rfl
                    go_simp
                    rfl
                  simp only [List.setIfInBounds_toArray, List.set_cons_zero, List.set_cons_succ]
                  refine take_op 2 (v := ?qv2) rfl (by kernel_rfl) (fun _ _ _ h => h) (by rfl) hSc (fun w' hS' => ?qy2) ?qz2
                  case qy2 =>
                    go_simp
                    rfl
                  simp only [List.setIfInBounds_toArray, List.set_cons_zero, List.set_cons_succ]
                  refine take_op 3 (v := ?qv3) rfl (by kernel_rfl) (fun _ _ _ h => h) (by rfl) hSc (fun w' hS' => ?qy3) ?qz3
                  case qy3 =>
                    have b1 := (koc.below hS' koc.lt).cell (i := 2) rfl
                    have m0 := (k5c.below hS' k5c.lt).cell (i := 0) rfl
                    have m1 := (k5c.below hS' k5c.lt).cell (i := 1) rfl
                    have m2 := (k5c.below hS' k5c.lt).cell (i := 2) rfl
                    go_simp
                    rfl
                  simp only [List.setIfInBounds_toArray, List.set_cons_zero, List.set_cons_succ]
                  refine take_op 4 (v := ?qv4) rfl (by kernel_rfl) (fun _ _ _ h => h) (by rfl) hSc (fun w' hS' => ?qy4) ?qz4
                  case qy4 =>
                    go_simp
                    rfl
                  simp only [List.setIfInBounds_toArray, List.set_cons_zero, List.set_cons_succ]
                  refine take_op 5 (v := ?qv5) rfl (by kernel_rfl) (fun _ _ _ h => h) (by rfl) hSc (fun w' hS' => ?qy5) ?qz5
                  case qy5 =>
                    go_simp
                    rfl
                  simp only [List.setIfInBounds_toArray, List.set_cons_zero, List.set_cons_succ]
                  refine step_op 6 (by kernel_rfl) rfl (fun K hK => ?_)
                  rw [if_pos (by rfl)]
                  go_simp
                  refine (At_any iw ih u v a c xs n hn _ (Int.le_trans (by decide) q1) (Int.le_trans (Int.le_of_lt q4) (by omega)) q2 q3 (by omega) ((hr.below (Nat.le_refl _) (hBc.trans (hSc.mono hBc.size))).mono (Nat.le_trans hBc.size hSc.size))).mono ?_
                  rintro e W6 ⟨rfl, hb6⟩
                  have hS6 : Below W5.heap.size W5 W6 := hSc.trans (hb6.mono hSc.size)
                  refine hK.out _ _ (fun h => hS6) ?_
                  clear hK K
                  try simp only [Act.put, List.setIfInBounds_toArray, List.set_cons_zero, List.set_cons_succ]
                  have row6 := row_below rowc hS6
                  have hcell := row6.cellAt k' (by omega)
                  have hfr := row6.frozenAt k'
                  rw [hsetH.out] at hcell
                  refine take_op 7 (v := ?qv7) rfl (by kernel_rfl) (fun _ _ _ h => h) (by rfl) hS6 (fun w' hS' => ?qy7) ?qz7
                  case qy7 =>
                    go_simp
                    try go_ints
                    rfl
                  simp only [List.setIfInBounds_toArray, List.set_cons_zero, List.set_cons_succ]
                  refine step_op 8 (by kernel_rfl) rfl (fun K hK => ?_)
                  rw [if_pos (by rfl)]
                  go_simp
                  refine hK.out _ _ (fun h => absurd h (by omega)) ?_
                  clear hK K
                  try simp only [Act.put, List.setIfInBounds_toArray, List.set_cons_zero, List.set_cons_succ]
                  refine done_ops (by kernel_rfl) ?_
                  go_wp2_with fail
                  go_roundw
                  case rel =>
                    have hst := row6.stored k' (.int .i64 (px xs (v * iw + u)))
                    have hrr := hst.1
                    rw [hccH.out, finH.out (px xs (v * iw + u)) (by unfold warpG; rw [huH.out, hvvH.out, hoH.out]; rfl)] at hrr
                    exact ⟨k' + 1, by omega, by go_num, grown_trans hGc (grown_trans (grown_of_below hS6 _) hst.2), hrr⟩
                  case measure => simp [intOf]; omega
              · have hkn : N = k' := by omega
                subst hkn
                have kr := k.kept hG ngkH.out
                have o0 := kor.cell (i := 0) rfl
                have o1 := kor.cell (i := 1) rfl
                have c0 := kr.cell (i := 0) rfl
                have c1 := kr.cell (i := 1) rfl
                have c2 := kr.cell (i := 2) rfl
                have fc0 := kr.frozen 0
                have fc1 := kr.frozen 1
                have fc2 := kr.frozen 2
                go_wp2_with fail
                have kf := put3_blk kr (.int .i64 pw) (.int .i64 ph) (.slice (some ⟨g, 0, none⟩) N cap)
                have g0 := kf.cell (i := 0) rfl
                have g1 := kf.cell (i := 1) rfl
                have g2 := kf.cell (i := 2) rfl
                have hpx : (List.range N).map (fun i => warpG iw ih xs t fill (cX pw i) (cY pw i)) = img pw ph (warpG iw ih xs t fill) := by
                  rw [← hNH.out]
                  exact img_plain fun i hi => warpG_bd hallH.out h4H.out _ _
                rw [upto_all, hpx] at rowk
                have hlen2 : (img pw ph (warpG iw ih xs t fill)).length = N := by rw [img_length]; exact hNH.out
                exact bodyPost_ret (v := .tuple #[.agg #[.int .i64 pw, .int .i64 ph, .slice (some ⟨g, 0, none⟩) N cap], .int .i64 0]) (by simp [results, Try.results25, go_sem, g0, g1, g2]) rfl ⟨⟨_, by rw [hsp.out]; rfl, by rw [hsp.out]; exact ⟨_, rfl, row_len hlen2.symm (put3_row rowk (kr.not_row (by decide) rowk) _ _ _)⟩⟩, hBr.trans (put3_below (by omega) _ _ _)⟩

end Go.Proofs.Ytjglfeonoiljlaa

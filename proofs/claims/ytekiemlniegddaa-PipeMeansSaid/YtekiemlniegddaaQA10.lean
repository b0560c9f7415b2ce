/- Contracts and laws (ImgL, PsA). -/
import Derived.Test.YtekiemlniegddaaQA3
import Derived.Test.YtekiemlniegddaaQA9
import Derived.Test.YtekiemlniegddaaQA2
namespace Go.Proofs.Ytekiemlniegddaa
open Go Go.RowKit Go.Shelf
set_option linter.unusedVariables false
set_option linter.unusedSimpArgs false

theorem zipC_img (pw ph : Nat) (iw : Int) (xs ys : List Int) (how : Int) : img pw ph (zipC iw xs ys how) = img pw ph (zipG iw xs ys how) := img_congr fun _ _ => clamp_clamp _

set_option maxHeartbeats 1000000 in
theorem Zipped_any (how a b r : Int) (hh1 : 1 ≤ how) (hh2 : how ≤ 6) (h1 : -2147483648 ≤ a) (h2 : a ≤ 2147483648) (h3 : -2147483648 ≤ b) (h4 : b ≤ 2147483648) (hr : clamp (zipF how a b) (-2147483648) 2147483648 = r) (w : World) :
    Calls Try.prog 86 #[.int .u8 how, .int .i64 a, .int .i64 b] w fun e w' => e = .returned (.int .i64 r) ∧ w = w' := by
  have hrH := Lib.hid hr
  clear hr
  have hh : how = 1 ∨ how = 2 ∨ how = 3 ∨ how = 4 ∨ how = 5 ∨ how = 6 := by omega
  obtain ⟨r1, r2⟩ := mul_bd h1 h2 h3 h4 (by omega) (by omega)
  clear hh1 hh2
  rcases hh with rfl | rfl | rfl | rfl | rfl | rfl
  · go_enter Try.func86, Try.ntmps86
    go_wp2_with fail
    all_goals refine (Into_any _ _ _ _).mono ?_
    all_goals rintro e w' ⟨rfl, rfl⟩
    all_goals go_wp2_with fail
    all_goals go_ret
    all_goals exact ⟨ret_int (by rw [← hrH.out]; simp [zipF, clamp] <;> omega), rfl⟩
  · go_enter Try.func86, Try.ntmps86
    go_wp2_with fail
    all_goals refine (Into_any _ _ _ _).mono ?_
    all_goals rintro e w' ⟨rfl, rfl⟩
    all_goals go_wp2_with fail
    all_goals go_ret
    all_goals exact ⟨ret_int (by rw [← hrH.out]; simp [zipF, clamp] <;> omega), rfl⟩
  · go_enter Try.func86, Try.ntmps86
    go_wp2_with fail
    all_goals go_ret
    all_goals exact ⟨ret_int (by rw [← hrH.out]; simp [zipF, clamp] <;> omega), rfl⟩
  · go_enter Try.func86, Try.ntmps86
    go_wp2_with fail
    all_goals go_ret
    all_goals exact ⟨ret_int (by rw [← hrH.out]; simp [zipF, clamp] <;> omega), rfl⟩
  · go_enter Try.func86, Try.ntmps86
    go_wp2_with fail
    all_goals refine (Into_any _ _ _ _).mono ?_
    all_goals rintro e w' ⟨rfl, rfl⟩
    all_goals go_wp2_with fail
    all_goals go_ret
    all_goals exact ⟨ret_int (by rw [← hrH.out]; simp [zipF, clamp] <;> omega), rfl⟩
  · go_enter Try.func86, Try.ntmps86
    go_wp2_with fail
    all_goals refine (Into_any _ _ _ _).mono ?_
    all_goals rintro e w' ⟨rfl, rfl⟩
    all_goals go_wp2_with fail
    all_goals go_ret
    all_goals exact ⟨ret_int (by rw [← hrH.out]; simp [zipF, clamp] <;> omega), rfl⟩

set_option maxRecDepth 100000 in
set_option maxHeartbeats 4000000 in
theorem rZip_any (iw ih : Int) (a : Option Addr) (c n : Nat) (xs : List Int) (hn : Hid (xs.length = n)) (jw jh : Int) (a' : Option Addr) (c' n' : Nat) (ys : List Int) (hn' : Hid (ys.length = n')) (how : Int) (hw1 : 0 ≤ how) (hw2 : how ≤ 255) (w : World) (hm : n ≤ 9223372036854775807) (hr : Rd w.heap.size w a xs) (hm' : n' ≤ 9223372036854775807) (hr' : Rd w.heap.size w a' ys) :
    Calls Try.prog 125 #[imv iw ih a n c, imv jw jh a' n' c', .int .u8 how] w (RetIm w.heap.size (zipS iw ih xs jw jh ys how) w) := by
  have hB0 : Below w.heap.size w (((w.alloc (.cells #[.int .i64 iw, .int .i64 ih, .slice a n c] 29)).alloc (.cells #[.int .i64 jw, .int .i64 jh, .slice a' n' c'] 29)).alloc (.cells #[.int .i64 0, .int .i64 0, .slice none 0 0] 29)) := below_al (below_al (below_al (Below.refl _ _) _) _) _
  obtain ⟨v0, hv⟩ : ∃ v, vld iw ih xs = v := ⟨_, rfl⟩
  have v0H := Lib.hid hv
  obtain ⟨v1, hv1⟩ : ∃ v, vld jw jh ys = v := ⟨_, rfl⟩
  have v1H := Lib.hid hv1
  obtain ⟨v2, hv2⟩ : ∃ v, decide (iw = jw ∧ ih = jh) = v := ⟨_, rfl⟩
  have v2H := Lib.hid hv2
  obtain ⟨v3, hv3⟩ : ∃ v, decide (1 ≤ how ∧ how ≤ 6) = v := ⟨_, rfl⟩
  have v3H := Lib.hid hv3
  have hsp0 : zipS iw ih xs jw jh ys how = if v0 = true then (if v1 = true then if v2 = true then if v3 = true then { w := iw, h := ih, px := img iw.toNat ih.toNat (zipC iw xs ys how), err := 0 } else noIm 2 else noIm 21 else noIm 20) else noIm 20 := by
    simp only [zipS, zipC_img, hv, hv1, hv2, hv3]
  have hsp := Lib.hid hsp0
  clear hv hsp0 hv1 hv2 hv3
  go_enter Try.func125, Try.ntmps125
  go_wp2_with fail
  refine (Valid_any iw ih a c xs n hn _ hm ((hr.below (Nat.le_refl _) hB0).mono hB0.size)).mono ?_
  rintro e W1 ⟨rfl, hb1⟩
  rw [v0H.out]
  have hB1 : Below w.heap.size w W1 := hB0.trans (hb1.mono hB0.size)
  have k5 := (((Blk.new w 29 #[.int .i64 iw, .int .i64 ih, .slice a n c]).alloc (.cells #[.int .i64 jw, .int .i64 jh, .slice a' n' c'] 29)).alloc (.cells #[.int .i64 0, .int .i64 0, .slice none 0 0] 29)).below hb1 (by simp <;> omega)
  have k6 := ((Blk.new (w.alloc (.cells #[.int .i64 iw, .int .i64 ih, .slice a n c] 29)) 29 #[.int .i64 jw, .int .i64 jh, .slice a' n' c']).alloc (.cells #[.int .i64 0, .int .i64 0, .slice none 0 0] 29)).below hb1 (by simp <;> omega)
  have k := (Blk.new ((w.alloc (.cells #[.int .i64 iw, .int .i64 ih, .slice a n c] 29)).alloc (.cells #[.int .i64 jw, .int .i64 jh, .slice a' n' c'] 29)) 29 #[.int .i64 0, .int .i64 0, .slice none 0 0]).below hb1 (by simp <;> omega)
  simp only [World.size_alloc] at k6 k
  clear hb1 hB0
  have hlt := k.lt
  have m0 := k5.cell (i := 0) rfl
  have m1 := k5.cell (i := 1) rfl
  have m2 := k5.cell (i := 2) rfl
  have j0 := k6.cell (i := 0) rfl
  have j1 := k6.cell (i := 1) rfl
  have j2 := k6.cell (i := 2) rfl
  have c0 := k.cell (i := 0) rfl
  have c1 := k.cell (i := 1) rfl
  have c2 := k.cell (i := 2) rfl
  have fc0 := k.frozen 0
  have fc1 := k.frozen 1
  have fc2 := k.frozen 2
  cases v0 with
  | false =>
    go_wp2_with fail
    have kf := put3_blk k (.int .i64 0) (.int .i64 0) (.slice none 0 0)
    have g0 := kf.cell (i := 0) rfl
    have g1 := kf.cell (i := 1) rfl
    have g2 := kf.cell (i := 2) rfl
    exact bodyPost_ret (v := .tuple #[.agg #[.int .i64 0, .int .i64 0, .slice none 0 0], .int .i64 20]) (by simp [results, Try.results125, go_sem, g0, g1, g2]) rfl ⟨⟨_, by rw [hsp.out]; rfl, by rw [hsp.out]; exact OwnIm_nil _ _⟩, hB1.trans (put3_below (by omega) _ _ _)⟩
  | true =>
    go_wp2_with fail
    refine (Valid_any jw jh a' c' ys n' hn' W1 hm' ((hr'.below (Nat.le_refl _) hB1).mono hB1.size)).mono ?_
    rintro e W2 ⟨rfl, hb⟩
    rw [v1H.out]
    have hB2 : Below w.heap.size w W2 := hB1.trans (hb.mono hB1.size)
    clear m0 m1 m2
    replace k5 := k5.below hb k5.lt
    have m0 := k5.cell (i := 0) rfl
    have m1 := k5.cell (i := 1) rfl
    have m2 := k5.cell (i := 2) rfl
    clear j0 j1 j2
    replace k6 := k6.below hb k6.lt
    have j0 := k6.cell (i := 0) rfl
    have j1 := k6.cell (i := 1) rfl
    have j2 := k6.cell (i := 2) rfl
    clear c0 c1 c2 fc0 fc1 fc2
    replace k := k.below hb k.lt
    have c0 := k.cell (i := 0) rfl
    have c1 := k.cell (i := 1) rfl
    have c2 := k.cell (i := 2) rfl
    have fc0 := k.frozen 0
    have fc1 := k.frozen 1
    have fc2 := k.frozen 2
    clear hb
    replace hlt := k.lt
    cases v1 with
    | false =>
      go_wp2_with fail
      have kf := put3_blk k (.int .i64 0) (.int .i64 0) (.slice none 0 0)
      have g0 := kf.cell (i := 0) rfl
      have g1 := kf.cell (i := 1) rfl
      have g2 := kf.cell (i := 2) rfl
      exact bodyPost_ret (v := .tuple #[.agg #[.int .i64 0, .int .i64 0, .slice none 0 0], .int .i64 20]) (by simp [results, Try.results125, go_sem, g0, g1, g2]) rfl ⟨⟨_, by rw [hsp.out]; rfl, by rw [hsp.out]; exact OwnIm_nil _ _⟩, hB2.trans (put3_below (by omega) _ _ _)⟩
    | true =>
      cases v2 with
      | false =>
        have hq := v2H.out
        simp only [decide_eq_false_iff_not] at hq
        by_cases e1 : iw = jw
        · have e2 : ¬ ih = jh := fun e2 => hq ⟨e1, e2⟩
          clear hq
          subst e1
          go_wp2_with fail
          have kf := put3_blk k (.int .i64 0) (.int .i64 0) (.slice none 0 0)
          have g0 := kf.cell (i := 0) rfl
          have g1 := kf.cell (i := 1) rfl
          have g2 := kf.cell (i := 2) rfl
          exact bodyPost_ret (v := .tuple #[.agg #[.int .i64 0, .int .i64 0, .slice none 0 0], .int .i64 21]) (by simp [results, Try.results125, go_sem, g0, g1, g2]) rfl ⟨⟨_, by rw [hsp.out]; rfl, by rw [hsp.out]; exact OwnIm_nil _ _⟩, hB2.trans (put3_below (by omega) _ _ _)⟩
        · clear hq
          go_wp2_with fail
          have kf := put3_blk k (.int .i64 0) (.int .i64 0) (.slice none 0 0)
          have g0 := kf.cell (i := 0) rfl
          have g1 := kf.cell (i := 1) rfl
          have g2 := kf.cell (i := 2) rfl
          exact bodyPost_ret (v := .tuple #[.agg #[.int .i64 0, .int .i64 0, .slice none 0 0], .int .i64 21]) (by simp [results, Try.results125, go_sem, g0, g1, g2]) rfl ⟨⟨_, by rw [hsp.out]; rfl, by rw [hsp.out]; exact OwnIm_nil _ _⟩, hB2.trans (put3_below (by omega) _ _ _)⟩
      | true =>
        have hq := v2H.out
        simp only [decide_eq_true_eq] at hq
        obtain ⟨e1, e2⟩ := hq
        subst e1 e2
        cases v3 with
        | false =>
          have hq := v3H.out
          simp only [decide_eq_false_iff_not] at hq
          by_cases e1 : how < 1
          · clear hq
            go_wp2_with fail
            have kf := put3_blk k (.int .i64 0) (.int .i64 0) (.slice none 0 0)
            have g0 := kf.cell (i := 0) rfl
            have g1 := kf.cell (i := 1) rfl
            have g2 := kf.cell (i := 2) rfl
            exact bodyPost_ret (v := .tuple #[.agg #[.int .i64 0, .int .i64 0, .slice none 0 0], .int .i64 2]) (by simp [results, Try.results125, go_sem, g0, g1, g2]) rfl ⟨⟨_, by rw [hsp.out]; rfl, by rw [hsp.out]; exact OwnIm_nil _ _⟩, hB2.trans (put3_below (by omega) _ _ _)⟩
          · have e2 : 6 < how := by omega
            clear hq
            go_wp2_with fail
            have kf := put3_blk k (.int .i64 0) (.int .i64 0) (.slice none 0 0)
            have g0 := kf.cell (i := 0) rfl
            have g1 := kf.cell (i := 1) rfl
            have g2 := kf.cell (i := 2) rfl
            exact bodyPost_ret (v := .tuple #[.agg #[.int .i64 0, .int .i64 0, .slice none 0 0], .int .i64 2]) (by simp [results, Try.results125, go_sem, g0, g1, g2]) rfl ⟨⟨_, by rw [hsp.out]; rfl, by rw [hsp.out]; exact OwnIm_nil _ _⟩, hB2.trans (put3_below (by omega) _ _ _)⟩
        | true =>
          have hq := v3H.out
          simp only [decide_eq_true_eq] at hq
          obtain ⟨hh1, hh2⟩ := hq
          obtain ⟨⟨i1, i2⟩, ⟨i3, i4⟩, hlen, hall⟩ := vld_true v0H.out
          rw [hn.out] at hlen
          have hlenH := Lib.hid hlen
          have hallH := Lib.hid hall
          clear hlen hall
          obtain ⟨pw, rfl⟩ : ∃ pw : Nat, iw = (pw : Int) := ⟨iw.toNat, by omega⟩
          obtain ⟨ph, rfl⟩ : ∃ ph : Nat, ih = (ph : Int) := ⟨ih.toNat, by omega⟩
          have hN : pw * ph = n ∧ n ≤ 256 := by
            have h1 := hlenH.out
            obtain ⟨m1, m2⟩ := mul_small (a := (pw : Int)) (b := (ph : Int)) (m := 16) (n := 16) (by omega) (by omega) (by omega) (by omega)
            have h2 : ((pw * ph : Nat) : Int) = (pw : Int) * ph := by simp
            omega
          obtain ⟨hN1, hN2⟩ := hN
          have hN1H := Lib.hid hN1
          clear hN1
          obtain ⟨_, _, hlen', hall'⟩ := vld_true v1H.out
          rw [hn'.out] at hlen'
          have hlenq := hlenH.out
          obtain rfl : n = n' := by omega
          have hallH' := Lib.hid hall'
          clear hall' hlen' hlenq
          have hpos : 0 < n := by have := Nat.mul_le_mul (show 1 ≤ pw by omega) (show 1 ≤ ph by omega); have := hN1H.out; omega
          obtain ⟨ba, oa, rfl, hab, hce0⟩ := rd_at hr hn.out hpos
          obtain ⟨bb, ob, rfl, hbb, hcf0⟩ := rd_at hr' hn'.out hpos
          have hce := Lib.hid hce0
          have hcf := Lib.hid hcf0
          clear hce0 hcf0 hpos
          go_wp2_with fail
          refine (Blank_any pw ph (by omega) (by omega) W2).mono ?_
          rintro e WB ⟨g, cap, rfl, hrow, hg, hb2⟩
          rw [hN1H.out] at hrow ⊢
          replace hrow := row_base hrow hB2.size
          replace hg := Nat.le_trans hB2.size hg
          clear m0 m1 m2
          replace k5 := k5.below hb2 k5.lt
          have m0 := k5.cell (i := 0) rfl
          have m1 := k5.cell (i := 1) rfl
          have m2 := k5.cell (i := 2) rfl
          clear j0 j1 j2
          replace k6 := k6.below hb2 k6.lt
          have j0 := k6.cell (i := 0) rfl
          have j1 := k6.cell (i := 1) rfl
          have j2 := k6.cell (i := 2) rfl
          clear c0 c1 c2 fc0 fc1 fc2
          replace k := k.below hb2 k.lt
          have c0 := k.cell (i := 0) rfl
          have c1 := k.cell (i := 1) rfl
          have c2 := k.cell (i := 2) rfl
          have fc0 := k.frozen 0
          have fc1 := k.frozen 1
          have fc2 := k.frozen 2
          go_wp2_with fail
          have hBB := hB2.trans (hb2.mono hB2.size)
          have ko := Blk.new WB 29 #[.int .i64 pw, .int .i64 ph, .slice (some ⟨g, 0, none⟩) n cap]
          have row3 := hrow.alloc (.cells #[.int .i64 pw, .int .i64 ph, .slice (some ⟨g, 0, none⟩) n cap] 29)
          obtain ⟨W3, hW3⟩ : ∃ W3, WB.alloc (.cells #[.int .i64 pw, .int .i64 ph, .slice (some ⟨g, 0, none⟩) n cap] 29) = W3 := ⟨_, rfl⟩
          have hb3 : Below WB.heap.size WB W3 := alloc_below hW3
          rw [hW3] at ko row3 ⊢
          clear hW3
          have hB3 := hBB.trans (hb3.mono hBB.size)
          clear m0 m1 m2
          replace k5 := k5.below hb3 k5.lt
          have m0 := k5.cell (i := 0) rfl
          have m1 := k5.cell (i := 1) rfl
          have m2 := k5.cell (i := 2) rfl
          clear j0 j1 j2
          replace k6 := k6.below hb3 k6.lt
          have j0 := k6.cell (i := 0) rfl
          have j1 := k6.cell (i := 1) rfl
          have j2 := k6.cell (i := 2) rfl
          clear c0 c1 c2 fc0 fc1 fc2
          replace k := k.below hb3 k.lt
          have c0 := k.cell (i := 0) rfl
          have c1 := k.cell (i := 1) rfl
          have c2 := k.cell (i := 2) rfl
          have fc0 := k.frozen 0
          have fc1 := k.frozen 1
          have fc2 := k.frozen 2
          obtain ⟨M, hM⟩ : ∃ M, WB.heap.size = M := ⟨_, rfl⟩
          rw [hM] at ko ⊢
          clear hb2 hb3 hrow hM hBB hB1 hB2
          clear m0 m1 m2 j0 j1 j2 c0 c1 c2 fc0 fc1 fc2
          clear WB
          clear hlt
          have row3' := row3
          rw [← upto_zero (fun i => (zipC pw xs ys how) (cX pw i) (cY pw i)) n] at row3'
          clear row3
          have hgl := row3'.lt g rfl
          have ngoH := Lib.hid (ko.not_row (by decide) row3')
          have ngk5H := Lib.hid (k5.not_row (by decide) row3')
          have ngk6H := Lib.hid (k6.not_row (by decide) row3')
          have ngkH := Lib.hid (k.not_row (by decide) row3')
          go_loopw [9] (fun i wr => ∃ k : Nat, k ≤ n ∧ i = .int .i64 k ∧ W3.grownBy wr (some g) ∧ wr.ownsRow w.heap.size 3 1 (.slice (some ⟨g, 0, none⟩) n cap) n ((upto (fun i => (zipC pw xs ys how) (cX pw i) (cY pw i)) n k).map (Value.int .i64))) (fun i _ => n - (intOf i).toNat)
          case atStart => exact ⟨0, Nat.zero_le _, rfl, ⟨rfl, rfl, rfl, Nat.le_refl _, fun _ _ _ => rfl⟩, row3'⟩
          case round =>
            obtain ⟨k', hk, rfl, hG, rowk⟩ := hrel
            have k5r := k5.kept hG ngk5H.out
            have k6r := k6.kept hG ngk6H.out
            have kor := ko.kept hG ngoH.out
            have hS : Below wr.heap.size wr wr.drew := (Below.refl _ _).drew
            have hBr : Below w.heap.size w wr := hB3.grown hG hB3.size (fun j e => by cases e; exact hg)
            have m2 := k5r.cell (i := 2) rfl
            have hpw0 : pw ≠ 0 := by omega
            by_cases hlt : k' < n
            · obtain ⟨x1, x2⟩ := cX_bd (pw := pw) (i := k') (by omega)
              obtain ⟨y1, y2⟩ := cY_bd (pw := pw) (ph := ph) (i := k') (by rw [hN1H.out]; exact hlt)
              rw [cX_eq] at x1 x2
              rw [cY_eq] at y1 y2
              obtain ⟨vb1, vb2⟩ := px_bd hallH.out (k' : Int)
              obtain ⟨ub1, ub2⟩ := px_bd hallH'.out (k' : Int)
              go_wp2_with fail
              refine plain_region (fun W' => Below wr.heap.size wr W') 16 17 (by kernel_rfl) rfl ?_
              simp only [Array.replicate_succ, Array.replicate_zero, List.push_toArray, List.nil_append, List.cons_append]
              refine take_op 0 (v := ?rv0) rfl (by kernel_rfl) (fun _ _ _ h => h) (by rfl) hS (fun w' hS' => ?ry0) ?rz0
              case ry0 =>
                go_simp
                rfl
              simp only [List.setIfInBounds_toArray, List.set_cons_zero, List.set_cons_succ]
              refine take_op 1 (v := ?rv1) rfl (by kernel_rfl) (fun _ _ _ h => h) (by rfl) hS (fun w' hS' => ?ry1) ?rz1
              case ry1 =>
                have a2 := (kor.below hS' kor.lt).cell (i := 2) rfl
                have b0 := (k5r.below hS' k5r.lt).cell (i := 2) rfl
                have d0 := (k6r.below hS' k6r.lt).cell (i := 2) rfl
                have x0 := ((hBr.trans (hS'.mono hBr.size)).cell (p := ⟨ba, oa + k', none⟩) hab).trans (hce.out k' hlt)
                have z0 := ((hBr.trans (hS'.mono hBr.size)).cell (p := ⟨bb, ob + k', none⟩) hbb).trans (hcf.out k' hlt)
                go_simp
                rfl
              simp only [List.setIfInBounds_toArray, List.set_cons_zero, List.set_cons_succ]
              refine take_op 2 (v := ?rv2) rfl (by kernel_rfl) (fun _ _ _ h => h) (by rfl) hS (fun w' hS' => ?ry2) ?rz2
              case ry2 =>
                go_simp
                rfl
              simp only [List.setIfInBounds_toArray, List.set_cons_zero, List.set_cons_succ]
              refine take_op 3 (v := ?rv3) rfl (by kernel_rfl) (fun _ _ _ h => h) (by rfl) hS (fun w' hS' => ?ry3) ?rz3
              case ry3 =>
                go_simp
                rfl
              simp only [List.setIfInBounds_toArray, List.set_cons_zero, List.set_cons_succ]
              refine take_op 4 (v := ?rv4) rfl (by kernel_rfl) (fun _ _ _ h => h) (by rfl) hS (fun w' hS' => ?ry4) ?rz4
              case ry4 =>
                go_simp
                rfl
              simp only [List.setIfInBounds_toArray, List.set_cons_zero, List.set_cons_succ]
              refine take_op 5 (v := ?rv5) rfl (by kernel_rfl) (fun _ _ _ h => h) (by rfl) hS (fun w' hS' => ?ry5) ?rz5
              case ry5 =>
                have a2 := (kor.below hS' kor.lt).cell (i := 2) rfl
                have b0 := (k5r.below hS' k5r.lt).cell (i := 2) rfl
                have d0 := (k6r.below hS' k6r.lt).cell (i := 2) rfl
                have x0 := ((hBr.trans (hS'.mono hBr.size)).cell (p := ⟨ba, oa + k', none⟩) hab).trans (hce.out k' hlt)
                have z0 := ((hBr.trans (hS'.mono hBr.size)).cell (p := ⟨bb, ob + k', none⟩) hbb).trans (hcf.out k' hlt)
                go_simp
                rfl
              simp only [List.setIfInBounds_toArray, List.set_cons_zero, List.set_cons_succ]
              refine take_op 6 (v := ?rv6) rfl (by kernel_rfl) (fun _ _ _ h => h) (by rfl) hS (fun w' hS' => ?ry6) ?rz6
              case ry6 =>
                go_simp
                rfl
              simp only [List.setIfInBounds_toArray, List.set_cons_zero, List.set_cons_succ]
              refine take_op 7 (v := ?rv7) rfl (by kernel_rfl) (fun _ _ _ h => h) (by rfl) hS (fun w' hS' => ?ry7) ?rz7
              case ry7 =>
                go_simp
                try go_ints
                rfl
              simp only [List.setIfInBounds_toArray, List.set_cons_zero, List.set_cons_succ]
              refine take_op 8 (v := ?rv8) rfl (by kernel_rfl) (fun _ _ _ h => h) (by rfl) hS (fun w' hS' => ?ry8) ?rz8
              case ry8 =>
                have a2 := (kor.below hS' kor.lt).cell (i := 2) rfl
                have b0 := (k5r.below hS' k5r.lt).cell (i := 2) rfl
                have d0 := (k6r.below hS' k6r.lt).cell (i := 2) rfl
                have x0 := ((hBr.trans (hS'.mono hBr.size)).cell (p := ⟨ba, oa + k', none⟩) hab).trans (hce.out k' hlt)
                have z0 := ((hBr.trans (hS'.mono hBr.size)).cell (p := ⟨bb, ob + k', none⟩) hbb).trans (hcf.out k' hlt)
                go_simp
                rfl
              simp only [List.setIfInBounds_toArray, List.set_cons_zero, List.set_cons_succ]
              refine take_op 9 (v := ?rv9) rfl (by kernel_rfl) (fun _ _ _ h => h) (by rfl) hS (fun w' hS' => ?ry9) ?rz9
              case ry9 =>
                go_simp
                rfl
              simp only [List.setIfInBounds_toArray, List.set_cons_zero, List.set_cons_succ]
              refine take_op 10 (v := ?rv10) rfl (by kernel_rfl) (fun _ _ _ h => h) (by rfl) hS (fun w' hS' => ?ry10) ?rz10
              case ry10 =>
                have a2 := (kor.below hS' kor.lt).cell (i := 2) rfl
                have b0 := (k5r.below hS' k5r.lt).cell (i := 2) rfl
                have d0 := (k6r.below hS' k6r.lt).cell (i := 2) rfl
                have x0 := ((hBr.trans (hS'.mono hBr.size)).cell (p := ⟨ba, oa + k', none⟩) hab).trans (hce.out k' hlt)
                have z0 := ((hBr.trans (hS'.mono hBr.size)).cell (p := ⟨bb, ob + k', none⟩) hbb).trans (hcf.out k' hlt)
                go_simp
                rfl
              simp only [List.setIfInBounds_toArray, List.set_cons_zero, List.set_cons_succ]
              refine take_op 11 (v := ?rv11) rfl (by kernel_rfl) (fun _ _ _ h => h) (by rfl) hS (fun w' hS' => ?ry11) ?rz11
              case ry11 =>
                go_simp
                rfl
              simp only [List.setIfInBounds_toArray, List.set_cons_zero, List.set_cons_succ]
              refine take_op 12 (v := ?rv12) rfl (by kernel_rfl) (fun _ _ _ h => h) (by rfl) hS (fun w' hS' => ?ry12) ?rz12
              case ry12 =>
                go_simp
                try go_ints
                rfl
              simp only [List.setIfInBounds_toArray, List.set_cons_zero, List.set_cons_succ]
              refine take_op 13 (v := ?rv13) rfl (by kernel_rfl) (fun _ _ _ h => h) (by rfl) hS (fun w' hS' => ?ry13) ?rz13
              case ry13 =>
                have a2 := (kor.below hS' kor.lt).cell (i := 2) rfl
                have b0 := (k5r.below hS' k5r.lt).cell (i := 2) rfl
                have d0 := (k6r.below hS' k6r.lt).cell (i := 2) rfl
                have x0 := ((hBr.trans (hS'.mono hBr.size)).cell (p := ⟨ba, oa + k', none⟩) hab).trans (hce.out k' hlt)
                have z0 := ((hBr.trans (hS'.mono hBr.size)).cell (p := ⟨bb, ob + k', none⟩) hbb).trans (hcf.out k' hlt)
                go_simp
                rfl
              simp only [List.setIfInBounds_toArray, List.set_cons_zero, List.set_cons_succ]
              refine step_op 14 (by kernel_rfl) rfl (fun K hK => ?_)
              rw [if_pos (by rfl)]
              go_simp
              refine (Zipped_any how _ _ (zipC pw xs ys how (cX pw k') (cY pw k')) hh1 hh2 vb1 vb2 ub1 ub2 (by unfold zipC zipG; rw [cXY]) _).mono ?_
              rintro e W4 ⟨rfl, rfl⟩
              have hS4 := hS
              refine hK.out _ _ (fun h => hS4) ?_
              clear hK K
              try simp only [Act.put, List.setIfInBounds_toArray, List.set_cons_zero, List.set_cons_succ]
              have row4 := row_below rowk hS4
              have hcell := row4.cellAt k' (by omega)
              have hfr := row4.frozenAt k'
              have hcell2 : ((upto (fun i => (zipC pw xs ys how) (cX pw i) (cY pw i)) n k').map (Value.int .i64))[k']? = some (.int .i64 0) := by simp [upto, hlt]
              rw [hcell2] at hcell
              clear hcell2
              refine take_op 15 (v := ?rv15) rfl (by kernel_rfl) (fun _ _ _ h => h) (by rfl) hS4 (fun w' hS' => ?ry15) ?rz15
              case ry15 =>
                go_simp
                try go_ints
                rfl
              simp only [List.setIfInBounds_toArray, List.set_cons_zero, List.set_cons_succ]
              refine step_op 16 (by kernel_rfl) rfl (fun K hK => ?_)
              rw [if_pos (by rfl)]
              go_simp
              refine hK.out _ _ (fun h => absurd h (by omega)) ?_
              clear hK K
              try simp only [Act.put, List.setIfInBounds_toArray, List.set_cons_zero, List.set_cons_succ]
              refine done_ops (by kernel_rfl) ?_
              go_wp2_with fail
              go_roundw
              case rel =>
                have hst := (row4.stored k' (.int .i64 ((zipC pw xs ys how) (cX pw k') (cY pw k')))).1
                rw [map_set_int, upto_set (fun i => (zipC pw xs ys how) (cX pw i) (cY pw i)) n k' hlt] at hst
                exact ⟨k' + 1, by omega, by go_num, grown_trans hG (grown_trans (grown_of_below hS4 _) (row4.stored k' (.int .i64 ((zipC pw xs ys how) (cX pw k') (cY pw k')))).2), hst⟩
              case measure => simp [intOf]; omega
            · have hkn : n = k' := by omega
              subst hkn
              have kr := k.kept hG ngkH.out
              have o0 := kor.cell (i := 0) rfl
              have o1 := kor.cell (i := 1) rfl
              have o2 := kor.cell (i := 2) rfl
              have c0 := kr.cell (i := 0) rfl
              have c1 := kr.cell (i := 1) rfl
              have c2 := kr.cell (i := 2) rfl
              have fc0 := kr.frozen 0
              have fc1 := kr.frozen 1
              have fc2 := kr.frozen 2
              go_wp2_with fail
              have kf := put3_blk kr (.int .i64 pw) (.int .i64 ph) (.slice (some ⟨g, 0, none⟩) n cap)
              have g0 := kf.cell (i := 0) rfl
              have g1 := kf.cell (i := 1) rfl
              have g2 := kf.cell (i := 2) rfl
              have hpx : (List.range n).map (fun i => (zipC pw xs ys how) (cX pw i) (cY pw i)) = img pw ph (zipC pw xs ys how) := by
                rw [← hN1H.out]
                exact img_plain fun i hi => clamp_bd _
              rw [upto_all, hpx] at rowk
              have hlen2 : (img pw ph (zipC pw xs ys how)).length = n := by rw [img_length]; exact hN1H.out
              exact bodyPost_ret (v := .tuple #[.agg #[.int .i64 pw, .int .i64 ph, .slice (some ⟨g, 0, none⟩) n cap], .int .i64 0]) (by simp [results, Try.results125, go_sem, g0, g1, g2]) rfl ⟨⟨_, by rw [hsp.out]; rfl, by rw [hsp.out]; exact ⟨_, rfl, row_len hlen2.symm (put3_row rowk (kr.not_row (by decide) rowk) _ _ _)⟩⟩, hBr.trans (put3_below (by omega) _ _ _)⟩
end Go.Proofs.Ytekiemlniegddaa

namespace Go.Proofs.Ytekiemlniegddaa
open Go Go.RowKit Go.Shelf
set_option linter.unusedVariables false
set_option linter.unusedSimpArgs false

theorem swithin (n lo hi : Int) (v : Bool) (hv : inR n lo hi = v) (w : World) :
    Calls Try.prog 58 #[.int .i64 n, .int .i64 lo, .int .i64 hi] w fun e w' => e = .returned (.bool v) ∧ w = w' := by
  subst hv
  unfold inR
  cases h1 : decide (lo ≤ n) <;> cases h2 : decide (n ≤ hi)
  all_goals
    simp only [decide_eq_true_eq, decide_eq_false_iff_not] at h1 h2
    go_enter Try.func58, Try.ntmps58
    go_wp2
    go_ret
    exact ⟨ret_bool (by simp; try omega), rfl⟩
set_option maxRecDepth 100000 in
set_option maxHeartbeats 4000000 in
theorem needs_any (s : StepN) (hs : StepIn s) (ka sa : Option Addr) (kc sc : Nat) (w : World) (ht : Rd w.heap.size w ka s.taps) (hbt : RdB w.heap.size w sa s.bits) :
    Calls Try.prog 75 #[stepv s ka kc sa sc] w fun e w' => e = .returned (.bool (needB s)) ∧ Below w.heap.size w w' := by
  have hB : Below w.heap.size w w := Below.refl _ _
  have hop := hs.op
  have hhow := hs.how
  have hbdr := hs.bd
  have htl := hs.tl
  have hbl := hs.bl
  obtain ⟨v, hv⟩ : ∃ v, needB s = v := ⟨_, rfl⟩
  rw [hv]
  unfold needB at hv
  obtain ⟨tl, htl0⟩ : ∃ l, s.taps.length = l := ⟨_, rfl⟩
  obtain ⟨bl, hbl1⟩ : ∃ l, s.bits.length = l := ⟨_, rfl⟩
  unfold stepv
  have htlH := Lib.hid htl0
  have hblH := Lib.hid hbl1
  rw [htl0] at htl ⊢
  rw [hbl1] at hbl ⊢
  clear htl0 hbl1
  have hbV1 : Below w.heap.size w (w.alloc (.cells #[.int .u8 s.op, .int .i64 s.a, .int .i64 s.b, .int .i64 s.pt.mul, .int .i64 s.pt.add, .int .i64 s.pt.div, .int .i64 s.pt.lo, .int .i64 s.pt.hi, .int .u8 s.how, .int .i64 s.kw, .int .i64 s.kh, .slice ka tl kc, .int .u8 s.bd, .int .i64 s.sw, .int .i64 s.sh, .slice sa bl sc] 76)) := jb_al (Below.refl _ w) _
  have k1 := Blk.new w 76 #[.int .u8 s.op, .int .i64 s.a, .int .i64 s.b, .int .i64 s.pt.mul, .int .i64 s.pt.add, .int .i64 s.pt.div, .int .i64 s.pt.lo, .int .i64 s.pt.hi, .int .u8 s.how, .int .i64 s.kw, .int .i64 s.kh, .slice ka tl kc, .int .u8 s.bd, .int .i64 s.sw, .int .i64 s.sh, .slice sa bl sc]
  obtain ⟨V1, hEV1⟩ : ∃ X, w.alloc (.cells #[.int .u8 s.op, .int .i64 s.a, .int .i64 s.b, .int .i64 s.pt.mul, .int .i64 s.pt.add, .int .i64 s.pt.div, .int .i64 s.pt.lo, .int .i64 s.pt.hi, .int .u8 s.how, .int .i64 s.kw, .int .i64 s.kh, .slice ka tl kc, .int .u8 s.bd, .int .i64 s.sw, .int .i64 s.sh, .slice sa bl sc] 76) = X := ⟨_, rfl⟩
  rw [hEV1] at hbV1 k1
  replace ht := later_i ht hbV1
  replace hbt := ((hbt.below (Nat.le_refl _) hbV1).mono hbV1.size)
  replace hB := hB.trans (hbV1.mono hB.size)
  clear hbV1
  have m0 := k1.cell (i := 0) rfl
  have m1 := k1.cell (i := 1) rfl
  have m2 := k1.cell (i := 2) rfl
  have m3 := k1.cell (i := 3) rfl
  have m4 := k1.cell (i := 4) rfl
  have m5 := k1.cell (i := 5) rfl
  have m6 := k1.cell (i := 6) rfl
  have m7 := k1.cell (i := 7) rfl
  have m8 := k1.cell (i := 8) rfl
  have m9 := k1.cell (i := 9) rfl
  have m10 := k1.cell (i := 10) rfl
  have m11 := k1.cell (i := 11) rfl
  have m12 := k1.cell (i := 12) rfl
  have m13 := k1.cell (i := 13) rfl
  have m14 := k1.cell (i := 14) rfl
  have m15 := k1.cell (i := 15) rfl
  by_cases h1 : s.op = 1
  case pos =>
    have f1 : (s.op == 1) = true := by simp [h1]
    rw [if_pos h1] at hv
    have hvH := Lib.hid hv
    clear h1 hv
    go_enter Try.func75, Try.ntmps75
    go_wp2_with fail
    clear hEV1
    have hc := ValidPoint_any s.pt V1
    rw [hvH.out] at hc
    refine hc.mono ?_
    clear hc
    rintro e V2 ⟨rfl, hb⟩
    clear m0 m1 m2 m3 m4 m5 m6 m7 m8 m9 m10 m11 m12 m13 m14 m15
    replace k1 := k1.below hb k1.lt
    replace ht := later_i ht hb
    replace hbt := ((hbt.below (Nat.le_refl _) hb).mono hb.size)
    replace hB := hB.trans (hb.mono hB.size)
    clear hb
    have m0 := k1.cell (i := 0) rfl
    have m1 := k1.cell (i := 1) rfl
    have m2 := k1.cell (i := 2) rfl
    have m3 := k1.cell (i := 3) rfl
    have m4 := k1.cell (i := 4) rfl
    have m5 := k1.cell (i := 5) rfl
    have m6 := k1.cell (i := 6) rfl
    have m7 := k1.cell (i := 7) rfl
    have m8 := k1.cell (i := 8) rfl
    have m9 := k1.cell (i := 9) rfl
    have m10 := k1.cell (i := 10) rfl
    have m11 := k1.cell (i := 11) rfl
    have m12 := k1.cell (i := 12) rfl
    have m13 := k1.cell (i := 13) rfl
    have m14 := k1.cell (i := 14) rfl
    have m15 := k1.cell (i := 15) rfl
    go_wp2_with fail
    go_ret
    exact ⟨rfl, hB⟩
  case neg =>
    have f1 : (s.op == 1) = false := by simp [h1]
    rw [if_neg h1] at hv
    clear h1
    by_cases h2 : s.op = 2
    case pos =>
      have f2 : (s.op == 2) = true := by simp [h2]
      rw [if_pos h2] at hv
      have hvH := Lib.hid hv
      clear h2 hv
      by_cases q1 : 1 ≤ s.how
      case neg =>
        have q1d : decide (1 ≤ s.how) = false := by simp [q1]
        have hv2 : v = false := by rw [← hvH.out]; simp; omega
        subst hv2
        go_enter Try.func75, Try.ntmps75
        go_wp2_with fail
        go_ret
        exact ⟨ret_bool (by simp; try omega), hB⟩
      case pos =>
        have q1d : decide (1 ≤ s.how) = true := by simp [q1]
        by_cases q2 : s.how ≤ 6
        case neg =>
          have q2d : decide (s.how ≤ 6) = false := by simp [q2]
          have hv2 : v = false := by rw [← hvH.out]; simp; omega
          subst hv2
          go_enter Try.func75, Try.ntmps75
          go_wp2_with fail
          go_ret
          exact ⟨ret_bool (by simp; try omega), hB⟩
        case pos =>
          have q2d : decide (s.how ≤ 6) = true := by simp [q2]
          have hv2 : v = true := by rw [← hvH.out]; simp; omega
          subst hv2
          go_enter Try.func75, Try.ntmps75
          go_wp2_with fail
          go_ret
          exact ⟨ret_bool (by simp; try omega), hB⟩
    case neg =>
      have f2 : (s.op == 2) = false := by simp [h2]
      rw [if_neg h2] at hv
      clear h2
      by_cases h3 : s.op = 3
      case pos =>
        have f3 : (s.op == 3) = true := by simp [h3]
        rw [if_pos h3] at hv
        have hvH := Lib.hid hv
        clear h3 hv
        obtain ⟨v1, hv1⟩ : ∃ v, kernOk s.kw s.kh s.taps = v := ⟨_, rfl⟩
        have hv2 := hvH.out
        rw [hv1] at hv2
        have hv2H := Lib.hid hv2
        have hv1H := Lib.hid hv1
        clear hv1 hv2 hvH
        go_enter Try.func75, Try.ntmps75
        go_wp2_with fail
        clear hEV1
        have hc := ValidKernel_any s.kw s.kh ka kc tl s.taps htlH v1 hv1H V1 htl ht
        refine hc.mono ?_
        clear hc
        rintro e V2 ⟨rfl, hb⟩
        clear m0 m1 m2 m3 m4 m5 m6 m7 m8 m9 m10 m11 m12 m13 m14 m15
        replace k1 := k1.below hb k1.lt
        replace ht := later_i ht hb
        replace hbt := ((hbt.below (Nat.le_refl _) hb).mono hb.size)
        replace hB := hB.trans (hb.mono hB.size)
        clear hb
        have m0 := k1.cell (i := 0) rfl
        have m1 := k1.cell (i := 1) rfl
        have m2 := k1.cell (i := 2) rfl
        have m3 := k1.cell (i := 3) rfl
        have m4 := k1.cell (i := 4) rfl
        have m5 := k1.cell (i := 5) rfl
        have m6 := k1.cell (i := 6) rfl
        have m7 := k1.cell (i := 7) rfl
        have m8 := k1.cell (i := 8) rfl
        have m9 := k1.cell (i := 9) rfl
        have m10 := k1.cell (i := 10) rfl
        have m11 := k1.cell (i := 11) rfl
        have m12 := k1.cell (i := 12) rfl
        have m13 := k1.cell (i := 13) rfl
        have m14 := k1.cell (i := 14) rfl
        have m15 := k1.cell (i := 15) rfl
        cases v1 with
        | false =>
          have hv3 : v = false := by rw [← hv2H.out]; rfl
          subst hv3
          go_wp2_with fail
          go_ret
          exact ⟨rfl, hB⟩
        | true =>
          by_cases q1 : 1 ≤ s.bd
          case neg =>
            have q1d : decide (1 ≤ s.bd) = false := by simp [q1]
            have hv3 : v = false := by rw [← hv2H.out]; simp; omega
            subst hv3
            go_wp2_with fail
            go_ret
            exact ⟨ret_bool (by simp; try omega), hB⟩
          case pos =>
            have q1d : decide (1 ≤ s.bd) = true := by simp [q1]
            by_cases q2 : s.bd ≤ 3
            case neg =>
              have q2d : decide (s.bd ≤ 3) = false := by simp [q2]
              have hv3 : v = false := by rw [← hv2H.out]; simp; omega
              subst hv3
              go_wp2_with fail
              go_ret
              exact ⟨ret_bool (by simp; try omega), hB⟩
            case pos =>
              have q2d : decide (s.bd ≤ 3) = true := by simp [q2]
              have hv3 : v = true := by rw [← hv2H.out]; simp; omega
              subst hv3
              go_wp2_with fail
              go_ret
              exact ⟨ret_bool (by simp; try omega), hB⟩
      case neg =>
        have f3 : (s.op == 3) = false := by simp [h3]
        rw [if_neg h3] at hv
        clear h3
        by_cases h4 : s.op = 4
        case pos =>
          have f4 : (s.op == 4) = true := by simp [h4]
          rw [if_pos (.inl h4)] at hv
          have hvH := Lib.hid hv
          clear h4 hv
          go_enter Try.func75, Try.ntmps75
          go_wp2_with fail
          clear hEV1
          have hc := ValidShape_any s.sw s.sh sa sc bl s.bits hblH v hvH V1 hbl hbt
          refine hc.mono ?_
          clear hc
          rintro e V2 ⟨rfl, hb⟩
          clear m0 m1 m2 m3 m4 m5 m6 m7 m8 m9 m10 m11 m12 m13 m14 m15
          replace k1 := k1.below hb k1.lt
          replace ht := later_i ht hb
          replace hbt := ((hbt.below (Nat.le_refl _) hb).mono hb.size)
          replace hB := hB.trans (hb.mono hB.size)
          clear hb
          have m0 := k1.cell (i := 0) rfl
          have m1 := k1.cell (i := 1) rfl
          have m2 := k1.cell (i := 2) rfl
          have m3 := k1.cell (i := 3) rfl
          have m4 := k1.cell (i := 4) rfl
          have m5 := k1.cell (i := 5) rfl
          have m6 := k1.cell (i := 6) rfl
          have m7 := k1.cell (i := 7) rfl
          have m8 := k1.cell (i := 8) rfl
          have m9 := k1.cell (i := 9) rfl
          have m10 := k1.cell (i := 10) rfl
          have m11 := k1.cell (i := 11) rfl
          have m12 := k1.cell (i := 12) rfl
          have m13 := k1.cell (i := 13) rfl
          have m14 := k1.cell (i := 14) rfl
          have m15 := k1.cell (i := 15) rfl
          go_wp2_with fail
          go_ret
          exact ⟨rfl, hB⟩
        case neg =>
          have f4 : (s.op == 4) = false := by simp [h4]
          by_cases h5 : s.op = 5
          case pos =>
            have f5 : (s.op == 5) = true := by simp [h5]
            rw [if_pos (.inr h5)] at hv
            have hvH := Lib.hid hv
            clear h5 hv
            go_enter Try.func75, Try.ntmps75
            go_wp2_with fail
            clear hEV1
            have hc := ValidShape_any s.sw s.sh sa sc bl s.bits hblH v hvH V1 hbl hbt
            refine hc.mono ?_
            clear hc
            rintro e V2 ⟨rfl, hb⟩
            clear m0 m1 m2 m3 m4 m5 m6 m7 m8 m9 m10 m11 m12 m13 m14 m15
            replace k1 := k1.below hb k1.lt
            replace ht := later_i ht hb
            replace hbt := ((hbt.below (Nat.le_refl _) hb).mono hb.size)
            replace hB := hB.trans (hb.mono hB.size)
            clear hb
            have m0 := k1.cell (i := 0) rfl
            have m1 := k1.cell (i := 1) rfl
            have m2 := k1.cell (i := 2) rfl
            have m3 := k1.cell (i := 3) rfl
            have m4 := k1.cell (i := 4) rfl
            have m5 := k1.cell (i := 5) rfl
            have m6 := k1.cell (i := 6) rfl
            have m7 := k1.cell (i := 7) rfl
            have m8 := k1.cell (i := 8) rfl
            have m9 := k1.cell (i := 9) rfl
            have m10 := k1.cell (i := 10) rfl
            have m11 := k1.cell (i := 11) rfl
            have m12 := k1.cell (i := 12) rfl
            have m13 := k1.cell (i := 13) rfl
            have m14 := k1.cell (i := 14) rfl
            have m15 := k1.cell (i := 15) rfl
            go_wp2_with fail
            go_ret
            exact ⟨rfl, hB⟩
          case neg =>
            have f5 : (s.op == 5) = false := by simp [h5]
            rw [if_neg (by rintro (h | h); exact h4 h; exact h5 h)] at hv
            clear h4 h5
            subst hv
            go_enter Try.func75, Try.ntmps75
            go_wp2_with fail
            go_ret
            exact ⟨rfl, hB⟩
theorem refB_is (I : Int) (i : Nat) (s : StepN) : refB I i s = (inR s.a 0 (I + i - 1) && (!decide (s.op = 2) || inR s.b 0 (I + i - 1))) := rfl
set_option maxRecDepth 100000 in
set_option maxHeartbeats 8000000 in
theorem PValid_any (P : PipeN) (a : Option Addr) (n c : Nat) (hn : P.ss.length = n) (hP : PipeIn P) (v : Bool) (hv : pipeB P = v) (w : World) (hr : RdSs w.heap.size w a P.ss) :
    Calls Try.prog 34 #[pipev P a n c] w fun e w' => e = .returned (.bool v) ∧ Below w.heap.size w w' := by
  obtain ⟨W, H, I, ss⟩ := P
  have hsz := sizeB_is W H I ss n hn
  obtain ⟨hn0, hst⟩ := hP
  have hnH := Lib.hid hn
  have hvH := Lib.hid hv
  have hstH := Lib.hid hst
  simp only at hnH hvH hstH hr hn0
  rw [hnH.out] at hn0
  have hB : Below w.heap.size w w := Below.refl _ _
  clear hn hv hst
  have tok1 : True := trivial
  have tok2 : True := trivial
  have tok3 : True := trivial
  have tok4 : True := trivial
  have tok5 : True := trivial
  have tok6 : True := trivial
  unfold pipev
  simp only
  have hbV1 : Below w.heap.size w (w.alloc (.cells #[.int .i64 W, .int .i64 H, .int .i64 I, .slice a n c] 24)) := jb_al (Below.refl _ w) _
  have kp := Blk.new w 24 #[.int .i64 W, .int .i64 H, .int .i64 I, .slice a n c]
  obtain ⟨V1, hEV1⟩ : ∃ X, w.alloc (.cells #[.int .i64 W, .int .i64 H, .int .i64 I, .slice a n c] 24) = X := ⟨_, rfl⟩
  rw [hEV1] at hbV1 kp
  replace hB := hB.trans (hbV1.mono hB.size)
  clear hbV1
  have m0 := kp.cell (i := 0) rfl
  have m1 := kp.cell (i := 1) rfl
  have m2 := kp.cell (i := 2) rfl
  have m3 := kp.cell (i := 3) rfl
  cases h1 : inR W 1 16 with
  | false =>
    have hvf : v = false := by rw [← hvH.out]; exact pipeB_size (by rw [hsz, h1]; simp)
    subst hvf
    have h1H := Lib.hid h1
    clear h1 hsz hvH hr hstH hnH
    go_enter Try.func34, Try.ntmps34
    go_wp2_with (go_at_call 58; have _t := tok1; refine (swithin W 1 16 false h1H.out _).mono ?_; clear _t tok1; rintro e w' ⟨rfl, rfl⟩)
    go_ret
    exact ⟨rfl, hB⟩
  | true =>
  have h1H := Lib.hid h1
  have g0 := h1
  clear h1
  cases h2 : inR H 1 16 with
  | false =>
    have hvf : v = false := by rw [← hvH.out]; exact pipeB_size (by rw [hsz, h1H.out, h2]; simp)
    subst hvf
    have h2H := Lib.hid h2
    clear h2 hsz hvH hr hstH hnH
    go_enter Try.func34, Try.ntmps34
    go_wp2_with (first
      | (go_at_call 58; have _t := tok1; refine (swithin W 1 16 true h1H.out _).mono ?_; clear _t tok1; rintro e w' ⟨rfl, rfl⟩)
      | (go_at_call 58; have _t := tok2; refine (swithin H 1 16 false h2H.out _).mono ?_; clear _t tok2; rintro e w' ⟨rfl, rfl⟩))
    go_ret
    exact ⟨rfl, hB⟩
  | true =>
  have h2H := Lib.hid h2
  have g1 := h2
  clear h2
  cases h3 : inR I 1 3 with
  | false =>
    have hvf : v = false := by rw [← hvH.out]; exact pipeB_size (by rw [hsz, h1H.out, h2H.out, h3]; simp)
    subst hvf
    have h3H := Lib.hid h3
    clear h3 hsz hvH hr hstH hnH
    go_enter Try.func34, Try.ntmps34
    go_wp2_with (first
      | (go_at_call 58; have _t := tok1; refine (swithin W 1 16 true h1H.out _).mono ?_; clear _t tok1; rintro e w' ⟨rfl, rfl⟩)
      | (go_at_call 58; have _t := tok2; refine (swithin H 1 16 true h2H.out _).mono ?_; clear _t tok2; rintro e w' ⟨rfl, rfl⟩)
      | (go_at_call 58; have _t := tok3; refine (swithin I 1 3 false h3H.out _).mono ?_; clear _t tok3; rintro e w' ⟨rfl, rfl⟩))
    go_ret
    exact ⟨rfl, hB⟩
  | true =>
  have h3H := Lib.hid h3
  have g2 := h3
  clear h3
  by_cases q1 : 1 ≤ n
  case neg =>
    have hvf : v = false := by rw [← hvH.out]; exact pipeB_size (by rw [hsz, h1H.out, h2H.out, h3H.out]; simp [inR]; omega)
    subst hvf
    have q1d : decide ((n : Int) < 1) = true := by simp; omega
    clear hsz hvH hr hstH hnH
    go_enter Try.func34, Try.ntmps34
    go_wp2_with (first
      | (go_at_call 58; have _t := tok1; refine (swithin W 1 16 true h1H.out _).mono ?_; clear _t tok1; rintro e w' ⟨rfl, rfl⟩)
      | (go_at_call 58; have _t := tok2; refine (swithin H 1 16 true h2H.out _).mono ?_; clear _t tok2; rintro e w' ⟨rfl, rfl⟩)
      | (go_at_call 58; have _t := tok3; refine (swithin I 1 3 true h3H.out _).mono ?_; clear _t tok3; rintro e w' ⟨rfl, rfl⟩))
    all_goals (go_ret; exact ⟨rfl, hB⟩)
  case pos =>
  have q1d : decide ((n : Int) < 1) = false := by simp; omega
  by_cases q2 : n ≤ 12
  case neg =>
    have hvf : v = false := by rw [← hvH.out]; exact pipeB_size (by rw [hsz, h1H.out, h2H.out, h3H.out]; simp [inR]; omega)
    subst hvf
    have q2d : decide (12 < (n : Int)) = true := by simp; omega
    clear hsz hvH hr hstH hnH
    go_enter Try.func34, Try.ntmps34
    go_wp2_with (first
      | (go_at_call 58; have _t := tok1; refine (swithin W 1 16 true h1H.out _).mono ?_; clear _t tok1; rintro e w' ⟨rfl, rfl⟩)
      | (go_at_call 58; have _t := tok2; refine (swithin H 1 16 true h2H.out _).mono ?_; clear _t tok2; rintro e w' ⟨rfl, rfl⟩)
      | (go_at_call 58; have _t := tok3; refine (swithin I 1 3 true h3H.out _).mono ?_; clear _t tok3; rintro e w' ⟨rfl, rfl⟩))
    all_goals (go_ret; exact ⟨rfl, hB⟩)
  case pos =>
  have q2d : decide (12 < (n : Int)) = false := by simp; omega
  have hszt : sizeB ⟨W, H, I, ss⟩ = true := by rw [hsz, h1H.out, h2H.out, h3H.out]; simp [inR]; omega
  have hsztH := Lib.hid hszt
  clear hszt hsz
  simp only [inR, Bool.and_eq_true, decide_eq_true_eq] at g0 g1 g2
  go_enter Try.func34, Try.ntmps34
  go_wp2_with (first
    | (go_at_call 58; have _t := tok1; refine (swithin W 1 16 true h1H.out _).mono ?_; clear _t tok1; rintro e w' ⟨rfl, rfl⟩)
    | (go_at_call 58; have _t := tok2; refine (swithin H 1 16 true h2H.out _).mono ?_; clear _t tok2; rintro e w' ⟨rfl, rfl⟩)
    | (go_at_call 58; have _t := tok3; refine (swithin I 1 3 true h3H.out _).mono ?_; clear _t tok3; rintro e w' ⟨rfl, rfl⟩))
  clear hEV1
  clear m0 m1 m2 m3
  clear h1H h2H h3H
  go_loopw [3] (fun i wr => ∃ k : Nat, k ≤ n ∧ i = .int .i64 (k : Int) ∧ Hid (stepsB I ss k = true) ∧ Below w.heap.size w wr ∧ Blk wr w.heap.size 24 #[.int .i64 W, .int .i64 H, .int .i64 I, .slice a n c]) (fun i _ => n - (intOf i).toNat)
  case atStart => exact ⟨0, Nat.zero_le _, rfl, Lib.hid rfl, hB, kp⟩
  case round =>
    clear hB kp
    obtain ⟨k, hk, rfl, hall, hB, kp⟩ := hrel
    by_cases hlt : k < n
    case neg =>
      have hkn : k = n := by omega
      subst hkn
      have hvt : v = true := by rw [← hvH.out]; unfold pipeB; rw [hsztH.out]; simp only; rw [hnH.out, hall.out]; rfl
      subst hvt
      have m3 := kp.cell (i := 3) rfl
      go_wp2_with fail
      go_ret
      exact ⟨rfl, hB⟩
    case pos =>
      have hkl : k < ss.length := by have := hnH.out; omega
      have hs := hstH.out k hkl
      have hno : (needB (stAt ss k) && refB I k (stAt ss k)) = false → v = false := fun h => by rw [← hvH.out]; exact pipeB_no (P := ⟨W, H, I, ss⟩) hkl h
      have hyes : (needB (stAt ss k) && refB I k (stAt ss k)) = true → stepsB I ss (k + 1) = true := fun h => by rw [stepsB, hall.out, h]; rfl
      obtain ⟨b, o, ka, kc, sa, sc, rfl, hbl, hst⟩ : ∃ b o ka kc sa sc, a = some ⟨b, o, none⟩ ∧ b < w.heap.size ∧ StAt w.heap.size w b (o + k * 16) (stAt ss k) ka kc sa sc := by
        rcases hr with h | ⟨b, o, h1, h2, h3⟩
        · exfalso; rw [h] at hkl; simp at hkl
        · obtain ⟨ka, kc, sa, sc, e⟩ := h3 k hkl
          exact ⟨b, o, ka, kc, sa, sc, h1, h2, e⟩
      obtain ⟨s, hse⟩ : ∃ s, stAt ss k = s := ⟨_, rfl⟩
      rw [hse] at hs hno hyes hst
      have hopb := hs.op
      have hnoH := Lib.hid hno
      have hyesH := Lib.hid hyes
      clear hse hno hyes
      obtain ⟨hcell, hta, hbi⟩ := hst
      have c0 : wr.cell? ⟨b, o + k * 16, none⟩ = some (.int .u8 s.op) := (hB.cell (p := ⟨b, o + k * 16, none⟩) hbl).trans (hcell 0 _ rfl)
      have c1 : wr.cell? ⟨b, o + k * 16 + 1, none⟩ = some (.int .i64 s.a) := (hB.cell (p := ⟨b, o + k * 16 + 1, none⟩) hbl).trans (hcell 1 _ rfl)
      have c2 : wr.cell? ⟨b, o + k * 16 + 2, none⟩ = some (.int .i64 s.b) := (hB.cell (p := ⟨b, o + k * 16 + 2, none⟩) hbl).trans (hcell 2 _ rfl)
      have c3 : wr.cell? ⟨b, o + k * 16 + 3, none⟩ = some (.int .i64 s.pt.mul) := (hB.cell (p := ⟨b, o + k * 16 + 3, none⟩) hbl).trans (hcell 3 _ rfl)
      have c4 : wr.cell? ⟨b, o + k * 16 + 4, none⟩ = some (.int .i64 s.pt.add) := (hB.cell (p := ⟨b, o + k * 16 + 4, none⟩) hbl).trans (hcell 4 _ rfl)
      have c5 : wr.cell? ⟨b, o + k * 16 + 5, none⟩ = some (.int .i64 s.pt.div) := (hB.cell (p := ⟨b, o + k * 16 + 5, none⟩) hbl).trans (hcell 5 _ rfl)
      have c6 : wr.cell? ⟨b, o + k * 16 + 6, none⟩ = some (.int .i64 s.pt.lo) := (hB.cell (p := ⟨b, o + k * 16 + 6, none⟩) hbl).trans (hcell 6 _ rfl)
      have c7 : wr.cell? ⟨b, o + k * 16 + 7, none⟩ = some (.int .i64 s.pt.hi) := (hB.cell (p := ⟨b, o + k * 16 + 7, none⟩) hbl).trans (hcell 7 _ rfl)
      have c8 : wr.cell? ⟨b, o + k * 16 + 8, none⟩ = some (.int .u8 s.how) := (hB.cell (p := ⟨b, o + k * 16 + 8, none⟩) hbl).trans (hcell 8 _ rfl)
      have c9 : wr.cell? ⟨b, o + k * 16 + 9, none⟩ = some (.int .i64 s.kw) := (hB.cell (p := ⟨b, o + k * 16 + 9, none⟩) hbl).trans (hcell 9 _ rfl)
      have c10 : wr.cell? ⟨b, o + k * 16 + 10, none⟩ = some (.int .i64 s.kh) := (hB.cell (p := ⟨b, o + k * 16 + 10, none⟩) hbl).trans (hcell 10 _ rfl)
      have c11 : wr.cell? ⟨b, o + k * 16 + 11, none⟩ = some (.slice ka s.taps.length kc) := (hB.cell (p := ⟨b, o + k * 16 + 11, none⟩) hbl).trans (hcell 11 _ rfl)
      have c12 : wr.cell? ⟨b, o + k * 16 + 12, none⟩ = some (.int .u8 s.bd) := (hB.cell (p := ⟨b, o + k * 16 + 12, none⟩) hbl).trans (hcell 12 _ rfl)
      have c13 : wr.cell? ⟨b, o + k * 16 + 13, none⟩ = some (.int .i64 s.sw) := (hB.cell (p := ⟨b, o + k * 16 + 13, none⟩) hbl).trans (hcell 13 _ rfl)
      have c14 : wr.cell? ⟨b, o + k * 16 + 14, none⟩ = some (.int .i64 s.sh) := (hB.cell (p := ⟨b, o + k * 16 + 14, none⟩) hbl).trans (hcell 14 _ rfl)
      have c15 : wr.cell? ⟨b, o + k * 16 + 15, none⟩ = some (.slice sa s.bits.length sc) := (hB.cell (p := ⟨b, o + k * 16 + 15, none⟩) hbl).trans (hcell 15 _ rfl)
      have lp := kp.lt
      have lw := hB.size
      clear hcell
      have m0 := kp.cell (i := 0) rfl
      have m1 := kp.cell (i := 1) rfl
      have m2 := kp.cell (i := 2) rfl
      have m3 := kp.cell (i := 3) rfl
      have mm0 := m0
      have mm1 := m1
      have mm2 := m2
      have mm3 := m3
      have hbV11 : Below wr.heap.size wr (wr.alloc (.cells #[.int .u8 s.op, .int .i64 s.a, .int .i64 s.b, .int .i64 s.pt.mul, .int .i64 s.pt.add, .int .i64 s.pt.div, .int .i64 s.pt.lo, .int .i64 s.pt.hi, .int .u8 s.how, .int .i64 s.kw, .int .i64 s.kh, .slice ka s.taps.length kc, .int .u8 s.bd, .int .i64 s.sw, .int .i64 s.sh, .slice sa s.bits.length sc] 76)) := jb_al (Below.refl _ wr) _
      have ks := Blk.new wr 76 #[.int .u8 s.op, .int .i64 s.a, .int .i64 s.b, .int .i64 s.pt.mul, .int .i64 s.pt.add, .int .i64 s.pt.div, .int .i64 s.pt.lo, .int .i64 s.pt.hi, .int .u8 s.how, .int .i64 s.kw, .int .i64 s.kh, .slice ka s.taps.length kc, .int .u8 s.bd, .int .i64 s.sw, .int .i64 s.sh, .slice sa s.bits.length sc]
      obtain ⟨V11, hEV11⟩ : ∃ X, wr.alloc (.cells #[.int .u8 s.op, .int .i64 s.a, .int .i64 s.b, .int .i64 s.pt.mul, .int .i64 s.pt.add, .int .i64 s.pt.div, .int .i64 s.pt.lo, .int .i64 s.pt.hi, .int .u8 s.how, .int .i64 s.kw, .int .i64 s.kh, .slice ka s.taps.length kc, .int .u8 s.bd, .int .i64 s.sw, .int .i64 s.sh, .slice sa s.bits.length sc] 76) = X := ⟨_, rfl⟩
      rw [hEV11] at hbV11 ks
      clear m0 m1 m2 m3
      replace kp := kp.below hbV11 kp.lt
      replace hB := hB.trans (hbV11.mono hB.size)
      clear hbV11
      have m0 := kp.cell (i := 0) rfl
      have m1 := kp.cell (i := 1) rfl
      have m2 := kp.cell (i := 2) rfl
      have m3 := kp.cell (i := 3) rfl
      have y0 := ks.cell (i := 0) rfl
      have y1 := ks.cell (i := 1) rfl
      have y2 := ks.cell (i := 2) rfl
      have y3 := ks.cell (i := 3) rfl
      have y4 := ks.cell (i := 4) rfl
      have y5 := ks.cell (i := 5) rfl
      have y6 := ks.cell (i := 6) rfl
      have y7 := ks.cell (i := 7) rfl
      have y8 := ks.cell (i := 8) rfl
      have y9 := ks.cell (i := 9) rfl
      have y10 := ks.cell (i := 10) rfl
      have y11 := ks.cell (i := 11) rfl
      have y12 := ks.cell (i := 12) rfl
      have y13 := ks.cell (i := 13) rfl
      have y14 := ks.cell (i := 14) rfl
      have y15 := ks.cell (i := 15) rfl
      obtain ⟨nb, hnb⟩ : ∃ v, needB s = v := ⟨_, rfl⟩
      have hnbH := Lib.hid hnb
      clear hnb
      have tok1 : True := trivial
      have tok2 : True := trivial
      have tok3 : True := trivial
      have tok4 : True := trivial
      have tok5 : True := trivial
      have tok6 : True := trivial
      have hneed := needs_any s hs ka sa kc sc V11 (later_i hta hB) ((hbi.below (Nat.le_refl _) hB).mono hB.size)
      rw [hnbH.out] at hneed
      have hneedH := Lib.hid hneed
      clear hneed
      cases nb with
      | false =>
        have hvf : v = false := hnoH.out (by rw [hnbH.out]; rfl)
        subst hvf
        go_wp2_with (go_at_call 75; have _t := tok1; refine hneedH.out.mono ?_; clear _t tok1; rintro e w2 ⟨rfl, hb2⟩; have d0 := (ks.below hb2 ks.lt).cell (i := 0) rfl; have d1 := (ks.below hb2 ks.lt).cell (i := 1) rfl; have d2 := (ks.below hb2 ks.lt).cell (i := 2) rfl; have e2 := (kp.below hb2 kp.lt).cell (i := 2) rfl)
        all_goals (go_ret; exact ⟨rfl, hB.trans (hb2.mono hB.size)⟩)
      | true =>
        have hrefE := refB_is I k s
        obtain ⟨ra, hra⟩ : ∃ v, inR s.a 0 (I + (k : Int) - 1) = v := ⟨_, rfl⟩
        obtain ⟨rb, hrb⟩ : ∃ v, inR s.b 0 (I + (k : Int) - 1) = v := ⟨_, rfl⟩
        rw [hra, hrb] at hrefE
        have hraH := Lib.hid hra
        have hrbH := Lib.hid hrb
        have hrefH := Lib.hid hrefE
        clear hra hrb hrefE
        cases ra with
        | false =>
          have hvf : v = false := hnoH.out (by rw [hnbH.out, hrefH.out]; rfl)
          subst hvf
          go_wp2_with (first
            | (go_at_call 75; have _t := tok1; refine hneedH.out.mono ?_; clear _t tok1; rintro e w2 ⟨rfl, hb2⟩; have d0 := (ks.below hb2 ks.lt).cell (i := 0) rfl; have d1 := (ks.below hb2 ks.lt).cell (i := 1) rfl; have d2 := (ks.below hb2 ks.lt).cell (i := 2) rfl; have e2 := (kp.below hb2 kp.lt).cell (i := 2) rfl)
            | (go_at_call 58; have _t := tok2; refine (swithin s.a 0 (I + (k : Int) - 1) false hraH.out _).mono ?_; clear _t tok2; rintro e w3 ⟨rfl, rfl⟩))
          all_goals (go_ret; exact ⟨rfl, hB.trans (hb2.mono hB.size)⟩)
        | true =>
          by_cases h2 : s.op = 2
          case neg =>
            have f2 : (s.op == 2) = false := by simp [h2]
            have hyk := hyesH.out (by rw [hnbH.out, hrefH.out]; simp [h2])
            have hykH := Lib.hid hyk
            clear h2 hyk
            go_wp2_with (first
              | (go_at_call 75; have _t := tok1; refine hneedH.out.mono ?_; clear _t tok1; rintro e w2 ⟨rfl, hb2⟩; have d0 := (ks.below hb2 ks.lt).cell (i := 0) rfl; have d1 := (ks.below hb2 ks.lt).cell (i := 1) rfl; have d2 := (ks.below hb2 ks.lt).cell (i := 2) rfl; have e2 := (kp.below hb2 kp.lt).cell (i := 2) rfl)
              | (go_at_call 58; have _t := tok2; refine (swithin s.a 0 (I + (k : Int) - 1) true hraH.out _).mono ?_; clear _t tok2; rintro e w3 ⟨rfl, rfl⟩))
            go_roundw
            case rel => exact ⟨k + 1, by omega, by go_num, hykH, hB.trans (hb2.mono hB.size), (kp.below hb2 kp.lt)⟩
            case measure => simp [intOf]; omega
          case pos =>
            have f2 : (s.op == 2) = true := by simp [h2]
            cases rb with
            | false =>
              have hvf : v = false := hnoH.out (by rw [hnbH.out, hrefH.out]; simp [h2])
              subst hvf
              clear h2
              go_wp2_with (first
                | (go_at_call 75; have _t := tok1; refine hneedH.out.mono ?_; clear _t tok1; rintro e w2 ⟨rfl, hb2⟩; have d0 := (ks.below hb2 ks.lt).cell (i := 0) rfl; have d1 := (ks.below hb2 ks.lt).cell (i := 1) rfl; have d2 := (ks.below hb2 ks.lt).cell (i := 2) rfl; have e2 := (kp.below hb2 kp.lt).cell (i := 2) rfl)
                | (go_at_call 58; have _t := tok2; refine (swithin s.a 0 (I + (k : Int) - 1) true hraH.out _).mono ?_; clear _t tok2; rintro e w3 ⟨rfl, rfl⟩)
                | (go_at_call 58; have _t := tok3; refine (swithin s.b 0 (I + (k : Int) - 1) false hrbH.out _).mono ?_; clear _t tok3; rintro e w3 ⟨rfl, rfl⟩))
              all_goals (go_ret; exact ⟨rfl, hB.trans (hb2.mono hB.size)⟩)
            | true =>
              have hyk := hyesH.out (by rw [hnbH.out, hrefH.out]; simp)
              have hykH := Lib.hid hyk
              clear h2 hyk
              go_wp2_with (first
                | (go_at_call 75; have _t := tok1; refine hneedH.out.mono ?_; clear _t tok1; rintro e w2 ⟨rfl, hb2⟩; have d0 := (ks.below hb2 ks.lt).cell (i := 0) rfl; have d1 := (ks.below hb2 ks.lt).cell (i := 1) rfl; have d2 := (ks.below hb2 ks.lt).cell (i := 2) rfl; have e2 := (kp.below hb2 kp.lt).cell (i := 2) rfl)
                | (go_at_call 58; have _t := tok2; refine (swithin s.a 0 (I + (k : Int) - 1) true hraH.out _).mono ?_; clear _t tok2; rintro e w3 ⟨rfl, rfl⟩)
                | (go_at_call 58; have _t := tok3; refine (swithin s.b 0 (I + (k : Int) - 1) true hrbH.out _).mono ?_; clear _t tok3; rintro e w3 ⟨rfl, rfl⟩))
              go_roundw
              case rel => exact ⟨k + 1, by omega, by go_num, hykH, hB.trans (hb2.mono hB.size), (kp.below hb2 kp.lt)⟩
              case measure => simp [intOf]; omega
set_option maxRecDepth 100000 in
set_option maxHeartbeats 2000000 in
theorem rPCheck_any (P : PipeN) (a : Option Addr) (n c : Nat) (hn : P.ss.length = n) (hP : PipeIn P) (v : Bool) (hv : pipeB P = v) (w : World) (hr : RdSs w.heap.size w a P.ss) :
    Calls Try.prog 13 #[pipev P a n c] w fun e w' => e = .returned (.int .i64 (if v = true then 0 else 30)) ∧ Below w.heap.size w w' := by
  have hB : Below w.heap.size w w := Below.refl _ _
  unfold pipev
  have hbV1 : Below w.heap.size w (w.alloc (.cells #[.int .i64 P.w, .int .i64 P.h, .int .i64 P.inp, .slice a n c] 24)) := jb_al (Below.refl _ w) _
  have kp := Blk.new w 24 #[.int .i64 P.w, .int .i64 P.h, .int .i64 P.inp, .slice a n c]
  obtain ⟨V1, hEV1⟩ : ∃ X, w.alloc (.cells #[.int .i64 P.w, .int .i64 P.h, .int .i64 P.inp, .slice a n c] 24) = X := ⟨_, rfl⟩
  rw [hEV1] at hbV1 kp
  replace hr := hr.later hbV1
  replace hB := hB.trans (hbV1.mono hB.size)
  clear hbV1
  have m0 := kp.cell (i := 0) rfl
  have m1 := kp.cell (i := 1) rfl
  have m2 := kp.cell (i := 2) rfl
  have m3 := kp.cell (i := 3) rfl
  go_enter Try.func13, Try.ntmps13
  go_wp2_with fail
  clear hEV1
  have hc := PValid_any P a n c hn hP v hv V1 hr
  refine hc.mono ?_
  clear hc
  rintro e V2 ⟨rfl, hb⟩
  clear m0 m1 m2 m3
  replace kp := kp.below hb kp.lt
  replace hr := hr.later hb
  replace hB := hB.trans (hb.mono hB.size)
  clear hb
  have m0 := kp.cell (i := 0) rfl
  have m1 := kp.cell (i := 1) rfl
  have m2 := kp.cell (i := 2) rfl
  have m3 := kp.cell (i := 3) rfl
  have hvH := Lib.hid hv
  have hnH := Lib.hid hn
  clear hv hn
  cases v with
  | false =>
    go_wp2_with fail
    go_ret
    exact ⟨rfl, hB⟩
  | true =>
    go_wp2_with fail
    go_ret
    exact ⟨rfl, hB⟩

end Go.Proofs.Ytekiemlniegddaa

/- The contracts of the specification's Distance, and of what tells neighbours. -/
import Derived.Test.YtjglfeonoiljlaaImgI
import Derived.Test.YtjglfeonoiljlaaDist
import Derived.Test.YtjglfeonoiljlaaFork
namespace Go.Proofs.Ytjglfeonoiljlaa
open Go Go.RowKit Go.Shelf
set_option linter.unusedVariables false
set_option linter.unusedSimpArgs false

set_option maxRecDepth 100000 in
set_option maxHeartbeats 8000000 in
theorem nearest_any (pw ph : Nat) (a : Option Addr) (c n : Nat) (xs : List Int) (hn : Hid (xs.length = n)) (hN : Hid (pw * ph = n)) (h1 : 1 ≤ pw) (h2 : pw ≤ 16) (h3 : 1 ≤ ph) (h4 : ph ≤ 16) (x y : Int) (hx1 : 0 ≤ x) (hx2 : x < pw) (hy1 : 0 ≤ y) (hy2 : y < ph) (r : Int) (hres : Hid (distG pw ph xs x y = r)) (w : World) (hm : n ≤ 9223372036854775807) (hr : Rd w.heap.size w a xs) :
    Calls Try.prog 113 #[imv pw ph a n c, .int .i64 x, .int .i64 y] w fun e w' => e = .returned (.int .i64 r) ∧ Below w.heap.size w w' := by
  obtain ⟨X, rfl⟩ : ∃ X : Nat, x = (X : Int) := ⟨x.toNat, by omega⟩
  obtain ⟨Y, rfl⟩ : ∃ Y : Nat, y = (Y : Int) := ⟨y.toNat, by omega⟩
  obtain ⟨NT, hNT⟩ : ∃ f, nearTo pw ph (isZ xs) (Y * pw + X) = f := ⟨_, rfl⟩
  have hG := Lib.hid (show NT n = r by rw [← hres.out, ← hNT, ← hN.out]; rfl)
  have hbd := Lib.hid (fun k => (show 0 ≤ NT k ∧ NT k ≤ (pw : Int) + ph by rw [← hNT]; exact ⟨nearTo_pos _ _ _ _ _, nearTo_hi _ _ _ _ _⟩))
  have hsu := Lib.hid (fun k => (show NT (k + 1) = if isZ xs k = true then min (NT k) (l1 pw k (Y * pw + X) : Nat) else NT k by rw [← hNT]; rfl))
  have hz := Lib.hid (show NT 0 = (pw : Int) + ph by rw [← hNT]; rfl)
  clear hNT
  have hB0 : Below w.heap.size w (w.alloc (.cells #[.int .i64 pw, .int .i64 ph, .slice a n c] 24)) := below_al (Below.refl _ _) _
  have k5 := Blk.new w 24 #[.int .i64 pw, .int .i64 ph, .slice a n c]
  obtain ⟨W, hW⟩ : ∃ W, w.alloc (.cells #[.int .i64 pw, .int .i64 ph, .slice a n c] 24) = W := ⟨_, rfl⟩
  rw [hW] at hB0 k5
  have m0 := k5.cell (i := 0) rfl
  have m1 := k5.cell (i := 1) rfl
  have m2 := k5.cell (i := 2) rfl
  go_enter Try.func113, Try.ntmps113
  go_wp2_with fail
  clear hW m0 m1 m2
  go_loopw [7, 8] (fun o i wr => ∃ j : Nat, j ≤ ph ∧ i = .int .i64 (j : Int) ∧ o = .int .i64 (NT (j * pw)) ∧ Below W.heap.size W wr) (fun o i _ => ph - (intOf i).toNat)
  case atStart => exact ⟨0, Nat.zero_le _, rfl, by rw [Nat.zero_mul, hz.out], Below.refl _ _⟩
  case round =>
    obtain ⟨j, hj, rfl, rfl, hBw⟩ := hrel
    have hBr : Below w.heap.size w wr := hB0.trans (hBw.mono hB0.size)
    have m0 := (k5.below hBw k5.lt).cell (i := 0) rfl
    have m1 := (k5.below hBw k5.lt).cell (i := 1) rfl
    by_cases hlt : j < ph
    · have hdec : decide ((j : Int) < (ph : Int)) = true := by simp; omega
      have hjk : j * pw + pw ≤ n := by
        rw [← hN.out]
        have := Nat.mul_le_mul_right pw (show j + 1 ≤ ph by omega)
        rw [Nat.add_mul, Nat.one_mul, Nat.mul_comm ph pw] at this
        exact this
      go_wp2_with fail
      try simp only [hdec]
      clear hdec m0 m1
      go_loopw [7, 9] (fun o i wr => ∃ i0 : Nat, i0 ≤ pw ∧ i = .int .i64 (i0 : Int) ∧ o = .int .i64 (NT (j * pw + i0)) ∧ Below W.heap.size W wr) (fun o i _ => pw - (intOf i).toNat)
      case atStart => exact ⟨0, Nat.zero_le _, rfl, rfl, hBw⟩
      case round =>
        clear hBr hBw
        obtain ⟨q, hq, rfl, rfl, hBw⟩ := hrel
        have hBr : Below w.heap.size w wr := hB0.trans (hBw.mono hB0.size)
        have ki := k5.below hBw k5.lt
        have m0 := ki.cell (i := 0) rfl
        have m1 := ki.cell (i := 1) rfl
        have m2 := ki.cell (i := 2) rfl
        by_cases hltq : q < pw
        · obtain ⟨i0, hi0⟩ : ∃ i0, j * pw + q = i0 := ⟨_, rfl⟩
          have em : i0 % pw = q := by rw [← hi0]; exact idx_mod j hltq
          have ed : i0 / pw = j := by rw [← hi0]; exact idx_div j hltq
          have hin : i0 < n := by omega
          have hsn := hsu.out i0
          have hb0 := hbd.out i0
          have hl1 : (l1 pw i0 (Y * pw + X) : Int) = (((q : Int) - (X : Int)).natAbs : Nat) + (((j : Int) - (Y : Int)).natAbs : Nat) := by
            unfold l1 dX dY
            rw [em, ed, idx_mod Y (by omega), idx_div Y (by omega)]
            omega
          rw [show isZ xs i0 = (px xs (i0 : Int) == 0) from rfl] at hsn
          have p3 : (j : Int) * (pw : Int) + (q : Int) = ((i0 : Nat) : Int) := by rw [← hi0]; simp
          obtain ⟨p5, p6⟩ := mul_small (a := (j : Int)) (b := (pw : Int)) (m := 16) (n := 16) (by omega) (by omega) (by omega) (by omega)
          rw [hi0]
          obtain ⟨sv, hsv⟩ : ∃ v, NT i0 = v := ⟨_, rfl⟩
          rw [hsv] at hb0 hsn ⊢
          have hsnH := Lib.hid hsn
          have hl1H := Lib.hid hl1
          clear hsn hsv hl1 em ed
          go_wp2_with fail
          refine (At_any pw ph q j a c xs n hn _ (by omega) (by omega) (by omega) (by omega) hm ((hr.below (Nat.le_refl _) hBr).mono hBr.size)).mono ?_
          rintro e W2 ⟨rfl, hb2⟩
          have hB2 := hBw.trans (hb2.mono hBw.size)
          rw [p3]
          obtain ⟨pv, hpv⟩ : ∃ v, px xs (i0 : Int) = v := ⟨_, rfl⟩
          have hsn2 := hsnH.out
          rw [hpv] at hsn2 ⊢
          by_cases hz0 : pv = 0
          · subst hz0
            rw [if_pos (by rfl), hl1H.out] at hsn2
            have hsn2H := Lib.hid hsn2
            clear hsn2
            go_wp2_with fail
            refine (abs_any ((q : Int) - (X : Int)) _ (by omega) (by omega)).mono ?_
            rintro e W3 ⟨rfl, rfl⟩
            go_wp2_with fail
            refine (abs_any ((j : Int) - (Y : Int)) _ (by omega) (by omega)).mono ?_
            rintro e W3 ⟨rfl, rfl⟩
            go_wp2_with fail
            go_roundw
            case rel => exact ⟨q + 1, by omega, by go_num, by rw [show j * pw + (q + 1) = i0 + 1 by omega, hsn2H.out]; exact congrArg (Value.int .i64) (by split <;> omega), hB2⟩
            case measure => simp [intOf]; omega
          · have e1 : (pv == 0) = false := beq_eq_false_iff_ne.2 hz0
            rw [e1, if_neg (by decide)] at hsn2
            have hsn2H := Lib.hid hsn2
            clear hsn2
            go_wp2_with fail
            go_roundw
            case rel => exact ⟨q + 1, by omega, by go_num, by rw [show j * pw + (q + 1) = i0 + 1 by omega, hsn2H.out], hB2⟩
            case measure => simp [intOf]; omega
        · have hqk : q = pw := by omega
          have hst := Lib.hid (show NT (j * pw + q) = NT ((j + 1) * pw) by rw [hqk, Nat.add_mul, Nat.one_mul])
          clear hqk
          go_wp2_with fail
          go_roundw
          case rel => exact ⟨j + 1, by omega, by go_num, by rw [hst.out], hBw⟩
          case measure => simp [intOf]; omega
    · have hjk : j = ph := by omega
      subst hjk
      have hst := Lib.hid (show NT (j * pw) = r by rw [Nat.mul_comm, hN.out]; exact hG.out)
      go_wp2_with fail
      go_ret
      first | exact ⟨rfl, hBr⟩ | exact ⟨by rw [hst.out]; rfl, hBr⟩


set_option maxRecDepth 100000 in
set_option maxHeartbeats 4000000 in
theorem rDistance_any (iw ih : Int) (a : Option Addr) (c n : Nat) (xs : List Int) (hn : Hid (xs.length = n))  (w : World) (hm : n ≤ 9223372036854775807) (hr : Rd w.heap.size w a xs) :
    Calls Try.prog 56 #[imv iw ih a n c] w (RetIm w.heap.size (distS iw ih xs ) w) := by
  have hB0 : Below w.heap.size w ((w.alloc (.cells #[.int .i64 iw, .int .i64 ih, .slice a n c] 24)).alloc (.cells #[.int .i64 0, .int .i64 0, .slice none 0 0] 24)) := below_al (below_al (Below.refl _ _) _) _
  obtain ⟨v0, hv⟩ : ∃ v, vld iw ih xs = v := ⟨_, rfl⟩
  have v0H := Lib.hid hv
  have hsp0 : distS iw ih xs  = if v0 = true then ({ w := iw, h := ih, px := img iw.toNat ih.toNat (distG iw.toNat ih.toNat xs), err := 0 }) else noIm 20 := by
    simp only [distS, hv]
  have hsp := Lib.hid hsp0
  clear hv hsp0
  go_enter Try.func56, Try.ntmps56
  go_wp2_with fail
  refine (Valid_any iw ih a c xs n hn _ hm ((hr.below (Nat.le_refl _) hB0).mono hB0.size)).mono ?_
  rintro e W1 ⟨rfl, hb1⟩
  rw [v0H.out]
  have hB1 : Below w.heap.size w W1 := hB0.trans (hb1.mono hB0.size)
  have k5 := ((Blk.new w 24 #[.int .i64 iw, .int .i64 ih, .slice a n c]).alloc (.cells #[.int .i64 0, .int .i64 0, .slice none 0 0] 24)).below hb1 (by simp <;> omega)
  have k := (Blk.new (w.alloc (.cells #[.int .i64 iw, .int .i64 ih, .slice a n c] 24)) 24 #[.int .i64 0, .int .i64 0, .slice none 0 0]).below hb1 (by simp <;> omega)
  simp only [World.size_alloc] at k
  clear hb1 hB0
  have hlt := k.lt
  have m0 := k5.cell (i := 0) rfl
  have m1 := k5.cell (i := 1) rfl
  have m2 := k5.cell (i := 2) rfl
  have c0 := k.cell (i := 0) rfl
  have c1 := k.cell (i := 1) rfl
  have c2 := k.cell (i := 2) rfl
  have fc0 := k.frozen 0
  have fc1 := k.frozen 1
  have fc2 := k.frozen 2
  cases v0 with
  | false =>
    go_wp2_with fail
    have kf := put3_blk k (.int .i64 0) (.int .i64 0) (.slice none 0 0)
    have g0 := kf.cell (i := 0) rfl
    have g1 := kf.cell (i := 1) rfl
    have g2 := kf.cell (i := 2) rfl
    exact bodyPost_ret (v := .tuple #[.agg #[.int .i64 0, .int .i64 0, .slice none 0 0], .int .i64 20]) (by simp [results, Try.results56, go_sem, g0, g1, g2]) rfl ⟨⟨_, by rw [hsp.out]; rfl, by rw [hsp.out]; exact OwnIm_nil _ _⟩, hB1.trans (put3_below (by omega) _ _ _)⟩
  | true =>
    obtain ⟨⟨i1, i2⟩, ⟨i3, i4⟩, hlen, hall⟩ := vld_true v0H.out
    rw [hn.out] at hlen
    have hlenH := Lib.hid hlen
    have hallH := Lib.hid hall
    clear hlen hall
    obtain ⟨pw, rfl⟩ : ∃ pw : Nat, iw = (pw : Int) := ⟨iw.toNat, by omega⟩
    obtain ⟨ph, rfl⟩ : ∃ ph : Nat, ih = (ph : Int) := ⟨ih.toNat, by omega⟩
    have hN : pw * ph = n ∧ n ≤ 256 := by
      have h1 := hlenH.out
      obtain ⟨m1, m2⟩ := mul_small (a := (pw : Int)) (b := (ph : Int)) (m := 16) (n := 16) (by omega) (by omega) (by omega) (by omega)
      have h2 : ((pw * ph : Nat) : Int) = (pw : Int) * ph := by simp
      omega
    obtain ⟨hN1, hN2⟩ := hN
    have hN1H := Lib.hid hN1
    clear hN1
    go_wp2_with fail
    refine (Blank_any pw ph (by omega) (by omega) W1).mono ?_
    rintro e WB ⟨g, cap, rfl, hrow, hg, hb2⟩
    rw [hN1H.out] at hrow ⊢
    replace hrow := row_base hrow hB1.size
    replace hg := Nat.le_trans hB1.size hg
    clear m0 m1 m2
    replace k5 := k5.below hb2 k5.lt
    have m0 := k5.cell (i := 0) rfl
    have m1 := k5.cell (i := 1) rfl
    have m2 := k5.cell (i := 2) rfl
    clear c0 c1 c2 fc0 fc1 fc2
    replace k := k.below hb2 k.lt
    have c0 := k.cell (i := 0) rfl
    have c1 := k.cell (i := 1) rfl
    have c2 := k.cell (i := 2) rfl
    have fc0 := k.frozen 0
    have fc1 := k.frozen 1
    have fc2 := k.frozen 2
    go_wp2_with fail
    have hBB := hB1.trans (hb2.mono hB1.size)
    have ko := Blk.new WB 24 #[.int .i64 pw, .int .i64 ph, .slice (some ⟨g, 0, none⟩) n cap]
    have row3 := hrow.alloc (.cells #[.int .i64 pw, .int .i64 ph, .slice (some ⟨g, 0, none⟩) n cap] 24)
    obtain ⟨W3, hW3⟩ : ∃ W3, WB.alloc (.cells #[.int .i64 pw, .int .i64 ph, .slice (some ⟨g, 0, none⟩) n cap] 24) = W3 := ⟨_, rfl⟩
    have hb3 : Below WB.heap.size WB W3 := alloc_below hW3
    rw [hW3] at ko row3 ⊢
    clear hW3
    have hB3 := hBB.trans (hb3.mono hBB.size)
    clear m0 m1 m2
    replace k5 := k5.below hb3 k5.lt
    have m0 := k5.cell (i := 0) rfl
    have m1 := k5.cell (i := 1) rfl
    have m2 := k5.cell (i := 2) rfl
    clear c0 c1 c2 fc0 fc1 fc2
    replace k := k.below hb3 k.lt
    have c0 := k.cell (i := 0) rfl
    have c1 := k.cell (i := 1) rfl
    have c2 := k.cell (i := 2) rfl
    have fc0 := k.frozen 0
    have fc1 := k.frozen 1
    have fc2 := k.frozen 2
    obtain ⟨M, hM⟩ : ∃ M, WB.heap.size = M := ⟨_, rfl⟩
    rw [hM] at ko ⊢
    clear hb2 hb3 hrow hM hBB hB1
    clear m0 m1 m2 c0 c1 c2 fc0 fc1 fc2
    clear WB
    clear hlt
    have row3' := row3
    rw [← upto_zero (fun i => (distG pw ph xs) (cX pw i) (cY pw i)) n] at row3'
    clear row3
    have hgl := row3'.lt g rfl
    have ngoH := Lib.hid (ko.not_row (by decide) row3')
    have ngk5H := Lib.hid (k5.not_row (by decide) row3')
    have ngkH := Lib.hid (k.not_row (by decide) row3')
    go_loopw [5] (fun i wr => ∃ k : Nat, k ≤ n ∧ i = .int .i64 k ∧ W3.grownBy wr (some g) ∧ wr.ownsRow w.heap.size 3 1 (.slice (some ⟨g, 0, none⟩) n cap) n ((upto (fun i => (distG pw ph xs) (cX pw i) (cY pw i)) n k).map (Value.int .i64))) (fun i _ => n - (intOf i).toNat)
    case atStart => exact ⟨0, Nat.zero_le _, rfl, ⟨rfl, rfl, rfl, Nat.le_refl _, fun _ _ _ => rfl⟩, row3'⟩
    case round =>
      obtain ⟨k', hk, rfl, hG, rowk⟩ := hrel
      have k5r := k5.kept hG ngk5H.out
      have kor := ko.kept hG ngoH.out
      have hS : Below wr.heap.size wr wr.drew := (Below.refl _ _).drew
      have hBr : Below w.heap.size w wr := hB3.grown hG hB3.size (fun j e => by cases e; exact hg)
      have m2 := k5r.cell (i := 2) rfl
      have hpw0 : pw ≠ 0 := by omega
      by_cases hlt : k' < n
      · obtain ⟨x1, x2⟩ := cX_bd (pw := pw) (i := k') (by omega)
        obtain ⟨y1, y2⟩ := cY_bd (pw := pw) (ph := ph) (i := k') (by rw [hN1H.out]; exact hlt)
        rw [cX_eq] at x1 x2
        rw [cY_eq] at y1 y2
        go_wp2_with fail
        refine plain_region (fun W' => Below wr.heap.size wr W') 14 15 (by kernel_rfl) rfl ?_
        simp only [Array.replicate_succ, Array.replicate_zero, List.push_toArray, List.nil_append, List.cons_append]
        refine take_op 0 (v := ?rv0) rfl (by kernel_rfl) (fun _ _ _ h => h) (by rfl) hS (fun w' hS' => ?ry0) ?rz0
        case ry0 =>
          go_simp
          rfl
        simp only [List.setIfInBounds_toArray, List.set_cons_zero, List.set_cons_succ]
        refine take_op 1 (v := ?rv1) rfl (by kernel_rfl) (fun _ _ _ h => h) (by rfl) hS (fun w' hS' => ?ry1) ?rz1
        case ry1 =>
          have a0 := (k5r.below hS' k5r.lt).cell (i := 0) rfl
          have a1 := (k5r.below hS' k5r.lt).cell (i := 1) rfl
          have a2 := (k5r.below hS' k5r.lt).cell (i := 2) rfl
          have o2 := (kor.below hS' kor.lt).cell (i := 2) rfl
          go_simp
          rfl
        simp only [List.setIfInBounds_toArray, List.set_cons_zero, List.set_cons_succ]
        refine take_op 2 (v := ?rv2) rfl (by kernel_rfl) (fun _ _ _ h => h) (by rfl) hS (fun w' hS' => ?ry2) ?rz2
        case ry2 =>
          go_simp
          rfl
        simp only [List.setIfInBounds_toArray, List.set_cons_zero, List.set_cons_succ]
        refine take_op 3 (v := ?rv3) rfl (by kernel_rfl) (fun _ _ _ h => h) (by rfl) hS (fun w' hS' => ?ry3) ?rz3
        case ry3 =>
          have a0 := (k5r.below hS' k5r.lt).cell (i := 0) rfl
          have a1 := (k5r.below hS' k5r.lt).cell (i := 1) rfl
          have a2 := (k5r.below hS' k5r.lt).cell (i := 2) rfl
          have o2 := (kor.below hS' kor.lt).cell (i := 2) rfl
          go_simp
          rfl
        simp only [List.setIfInBounds_toArray, List.set_cons_zero, List.set_cons_succ]
        refine take_op 4 (v := ?rv4) rfl (by kernel_rfl) (fun _ _ _ h => h) (by rfl) hS (fun w' hS' => ?ry4) ?rz4
        case ry4 =>
          go_simp
          rfl
        simp only [List.setIfInBounds_toArray, List.set_cons_zero, List.set_cons_succ]
        refine take_op 5 (v := ?rv5) rfl (by kernel_rfl) (fun _ _ _ h => h) (by rfl) hS (fun w' hS' => ?ry5) ?rz5
        case ry5 =>
          go_simp
          rfl
        simp only [List.setIfInBounds_toArray, List.set_cons_zero, List.set_cons_succ]
        refine take_op 6 (v := ?rv6) rfl (by kernel_rfl) (fun _ _ _ h => h) (by rfl) hS (fun w' hS' => ?ry6) ?rz6
        case ry6 =>
          have a0 := (k5r.below hS' k5r.lt).cell (i := 0) rfl
          have a1 := (k5r.below hS' k5r.lt).cell (i := 1) rfl
          have a2 := (k5r.below hS' k5r.lt).cell (i := 2) rfl
          have o2 := (kor.below hS' kor.lt).cell (i := 2) rfl
          go_simp
          rfl
        simp only [List.setIfInBounds_toArray, List.set_cons_zero, List.set_cons_succ]
        refine take_op 7 (v := ?rv7) rfl (by kernel_rfl) (fun _ _ _ h => h) (by rfl) hS (fun w' hS' => ?ry7) ?rz7
        case ry7 =>
          go_simp
          try go_ints
          rfl
        simp only [List.setIfInBounds_toArray, List.set_cons_zero, List.set_cons_succ]
        refine take_op 8 (v := ?rv8) rfl (by kernel_rfl) (fun _ _ _ h => h) (by rfl) hS (fun w' hS' => ?ry8) ?rz8
        case ry8 =>
          go_simp
          rfl
        simp only [List.setIfInBounds_toArray, List.set_cons_zero, List.set_cons_succ]
        refine take_op 9 (v := ?rv9) rfl (by kernel_rfl) (fun _ _ _ h => h) (by rfl) hS (fun w' hS' => ?ry9) ?rz9
        case ry9 =>
          go_simp
          rfl
        simp only [List.setIfInBounds_toArray, List.set_cons_zero, List.set_cons_succ]
        refine take_op 10 (v := ?rv10) rfl (by kernel_rfl) (fun _ _ _ h => h) (by rfl) hS (fun w' hS' => ?ry10) ?rz10
        case ry10 =>
          have a0 := (k5r.below hS' k5r.lt).cell (i := 0) rfl
          have a1 := (k5r.below hS' k5r.lt).cell (i := 1) rfl
          have a2 := (k5r.below hS' k5r.lt).cell (i := 2) rfl
          have o2 := (kor.below hS' kor.lt).cell (i := 2) rfl
          go_simp
          rfl
        simp only [List.setIfInBounds_toArray, List.set_cons_zero, List.set_cons_succ]
        refine take_op 11 (v := ?rv11) rfl (by kernel_rfl) (fun _ _ _ h => h) (by rfl) hS (fun w' hS' => ?ry11) ?rz11
        case ry11 =>
          go_simp
          try go_ints
          rfl
        simp only [List.setIfInBounds_toArray, List.set_cons_zero, List.set_cons_succ]
        refine step_op 12 (by kernel_rfl) rfl (fun K hK => ?_)
        rw [if_pos (by rfl)]
        go_simp
        refine (nearest_any pw ph a c n xs hn hN1H (by omega) (by omega) (by omega) (by omega) _ _ x1 (by omega) y1 (by omega) (distG pw ph xs (cX pw k') (cY pw k')) (Lib.hid rfl) _ hm ((hr.below (Nat.le_refl _) (hBr.trans (hS.mono hBr.size))).mono (hBr.trans (hS.mono hBr.size)).size)).mono ?_
        rintro e W4 ⟨rfl, hb4⟩
        have hS4 : Below wr.heap.size wr W4 := hS.trans (hb4.mono hS.size)
        refine hK.out _ _ (fun h => hS4) ?_
        clear hK K
        try simp only [Act.put, List.setIfInBounds_toArray, List.set_cons_zero, List.set_cons_succ]
        have row4 := row_below rowk hS4
        have hcell := row4.cellAt k' (by omega)
        have hfr := row4.frozenAt k'
        have hcell2 : ((upto (fun i => (distG pw ph xs) (cX pw i) (cY pw i)) n k').map (Value.int .i64))[k']? = some (.int .i64 0) := by simp [upto, hlt]
        rw [hcell2] at hcell
        clear hcell2
        refine take_op 13 (v := ?rv13) rfl (by kernel_rfl) (fun _ _ _ h => h) (by rfl) hS4 (fun w' hS' => ?ry13) ?rz13
        case ry13 =>
          go_simp
          try go_ints
          first
          | rfl
          | rw [if_pos ⟨by omega, by omega⟩]
        simp only [List.setIfInBounds_toArray, List.set_cons_zero, List.set_cons_succ]
        refine step_op 14 (by kernel_rfl) rfl (fun K hK => ?_)
        rw [if_pos (by rfl)]
        go_simp
        refine hK.out _ _ (fun h => absurd h (by omega)) ?_
        clear hK K
        try simp only [Act.put, List.setIfInBounds_toArray, List.set_cons_zero, List.set_cons_succ]
        refine done_ops (by kernel_rfl) ?_
        go_wp2_with fail
        go_roundw
        case rel =>
          have hst := (row4.stored k' (.int .i64 ((distG pw ph xs) (cX pw k') (cY pw k')))).1
          rw [map_set_int, upto_set (fun i => (distG pw ph xs) (cX pw i) (cY pw i)) n k' hlt] at hst
          exact ⟨k' + 1, by omega, by go_num, grown_trans hG (grown_trans (grown_of_below hS4 _) (row4.stored k' (.int .i64 ((distG pw ph xs) (cX pw k') (cY pw k')))).2), hst⟩
        case measure => simp [intOf]; omega
      · have hkn : n = k' := by omega
        subst hkn
        have kr := k.kept hG ngkH.out
        have o0 := kor.cell (i := 0) rfl
        have o1 := kor.cell (i := 1) rfl
        have o2 := kor.cell (i := 2) rfl
        have c0 := kr.cell (i := 0) rfl
        have c1 := kr.cell (i := 1) rfl
        have c2 := kr.cell (i := 2) rfl
        have fc0 := kr.frozen 0
        have fc1 := kr.frozen 1
        have fc2 := kr.frozen 2
        go_wp2_with fail
        have kf := put3_blk kr (.int .i64 pw) (.int .i64 ph) (.slice (some ⟨g, 0, none⟩) n cap)
        have g0 := kf.cell (i := 0) rfl
        have g1 := kf.cell (i := 1) rfl
        have g2 := kf.cell (i := 2) rfl
        have hpx : (List.range n).map (fun i => (distG pw ph xs) (cX pw i) (cY pw i)) = img pw ph (distG pw ph xs) := by
          rw [← hN1H.out]
          exact img_plain fun i hi => (by rw [distG_at xs (by omega)]; have a1 := nearTo_pos pw ph (isZ xs) i (pw * ph); have a2 := nearTo_hi pw ph (isZ xs) i (pw * ph); unfold nearest; omega)
        rw [upto_all, hpx] at rowk
        have hlen2 : (img pw ph (distG pw ph xs)).length = n := by rw [img_length]; exact hN1H.out
        exact bodyPost_ret (v := .tuple #[.agg #[.int .i64 pw, .int .i64 ph, .slice (some ⟨g, 0, none⟩) n cap], .int .i64 0]) (by simp [results, Try.results56, go_sem, g0, g1, g2]) rfl ⟨⟨_, by rw [hsp.out]; rfl, by rw [hsp.out]; exact ⟨_, rfl, row_len hlen2.symm (put3_row rowk (kr.not_row (by decide) rowk) _ _ _)⟩⟩, hBr.trans (put3_below (by omega) _ _ _)⟩

end Go.Proofs.Ytjglfeonoiljlaa

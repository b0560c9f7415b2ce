/- The contracts of the specification's Point. -/
import Derived.Test.YtjglfeonoiljlaaImgH
namespace Go.Proofs.Ytjglfeonoiljlaa
open Go Go.RowKit Go.Shelf
set_option linter.unusedVariables false
set_option linter.unusedSimpArgs false

theorem cXY (pw k : Nat) : cY pw k * pw + cX pw k = k := by
  have h := Nat.div_add_mod k pw
  rw [Nat.mul_comm] at h
  unfold cX cY
  rw [← Int.natCast_mul, ← Int.natCast_add, h]

theorem rd_at {B : Nat} {W : World} {a : Option Addr} {xs : List Int} {n : Nat} (h : Rd B W a xs) (hn : xs.length = n) (h0 : 0 < n) : ∃ b o, a = some ⟨b, o, none⟩ ∧ b < B ∧ ∀ i, i < n → W.cell? ⟨b, o + i, none⟩ = some (.int .i64 (px xs i)) := by
  rcases h with h | ⟨b, o, h1, h2, h3⟩
  · subst h; simp at hn; omega
  · exact ⟨b, o, h1, h2, fun i hi => by rw [h3 i (by omega)]; rfl⟩

theorem rwithin2 (n m lo hi : Int) (w : World) : True := trivial

set_option maxHeartbeats 1000000 in
theorem ValidPoint_any (p : PointN) (w : World) :
    Calls Try.prog 67 #[p.val] w fun e w' => e = .returned (.bool p.ok) ∧ Below w.heap.size w w' := by
  obtain ⟨v1, h1⟩ : ∃ v, inR p.mul (-65536) 65536 = v := ⟨_, rfl⟩
  obtain ⟨v2, h2⟩ : ∃ v, inR p.add (-2147483648) 2147483648 = v := ⟨_, rfl⟩
  obtain ⟨v3, h3⟩ : ∃ v, inR p.div 1 65536 = v := ⟨_, rfl⟩
  have hok : p.ok = (((v1 && v2) && v3) && (decide (-2147483648 ≤ p.lo) && decide (p.lo ≤ p.hi) && decide (p.hi ≤ 2147483648))) := by
    rw [← h1, ← h2, ← h3]
    simp only [PointN.ok, inR]
    rw [Bool.eq_iff_iff]
    simp only [Bool.and_eq_true, decide_eq_true_eq]
    omega
  have hokH := Lib.hid hok
  have h1H := Lib.hid h1
  have h2H := Lib.hid h2
  have h3H := Lib.hid h3
  clear hok h1 h2 h3
  have hB : Below w.heap.size w (w.alloc (.cells p.cells 55)) := below_al (Below.refl _ _) _
  go_enter Try.func67, Try.ntmps67
  go_wp2_with fail
  refine (rwithin1 _ _ _ v1 h1H.out _).mono ?_
  rintro e w' ⟨rfl, rfl⟩
  cases v1 with
  | false =>
    go_wp2_with fail
    go_ret
    exact ⟨ret_bool (by rw [hokH.out]; simp), hB⟩
  | true =>
    go_wp2_with fail
    refine (rwithin1 _ _ _ v2 h2H.out _).mono ?_
    rintro e w' ⟨rfl, rfl⟩
    cases v2 with
    | false =>
      go_wp2_with fail
      go_ret
      exact ⟨ret_bool (by rw [hokH.out]; simp), hB⟩
    | true =>
      go_wp2_with fail
      refine (rwithin1 _ _ _ v3 h3H.out _).mono ?_
      rintro e w' ⟨rfl, rfl⟩
      cases v3 with
      | false =>
        go_wp2_with fail
        go_ret
        exact ⟨ret_bool (by rw [hokH.out]; simp), hB⟩
      | true =>
        by_cases c1 : -2147483648 ≤ p.lo
        · by_cases c2 : p.lo ≤ p.hi
          · by_cases c3 : p.hi ≤ 2147483648
            · go_wp2_with fail
              go_ret
              exact ⟨ret_bool (by rw [hokH.out]; simp <;> omega), hB⟩
            · go_wp2_with fail
              go_ret
              exact ⟨ret_bool (by rw [hokH.out]; simp <;> omega), hB⟩
          · go_wp2_with fail
            go_ret
            exact ⟨ret_bool (by rw [hokH.out]; simp <;> omega), hB⟩
        · go_wp2_with fail
          go_ret
          exact ⟨ret_bool (by rw [hokH.out]; simp <;> omega), hB⟩

set_option maxRecDepth 100000 in
set_option maxHeartbeats 1000000 in
theorem Pointed_any (p : PointN) (v r : Int) (hp : p.ok = true) (hv1 : -2147483648 ≤ v) (hv2 : v ≤ 2147483648) (hr : pointF p v = r) (w : World) :
    Calls Try.prog 101 #[p.val, .int .i64 v] w fun e w' => e = .returned (.int .i64 r) ∧ Below w.heap.size w w' := by
  obtain ⟨⟨p1, p2⟩, ⟨p3, p4⟩, ⟨p5, p6⟩, ⟨p7, p8⟩, ⟨p9, p10⟩, p11⟩ := PointN.ok_true hp
  obtain ⟨r1, r2⟩ := mul_bd p1 p2 hv1 hv2 (by omega) (by omega)
  have hrH := Lib.hid hr
  clear hr hp
  have k6 := Blk.new w 55 p.cells
  have hB : Below w.heap.size w (w.alloc (.cells p.cells 55)) := below_al (Below.refl _ _) _
  obtain ⟨W, hW⟩ : ∃ W, w.alloc (.cells p.cells 55) = W := ⟨_, rfl⟩
  go_enter Try.func101, Try.ntmps101
  go_wp2_with fail
  rw [hW] at k6 hB
  clear hW
  have hS : Below W.heap.size W W.drew := (Below.refl _ _).drew
  refine plain_region (fun W' => Below W.heap.size W W') 16 16 (by kernel_rfl) rfl ?_
  simp only [Array.replicate_succ, Array.replicate_zero, List.push_toArray, List.nil_append, List.cons_append]
  refine take_op 0 (v := ?rv0) rfl (by kernel_rfl) (fun _ _ _ h => h) (by rfl) hS (fun w' hS' => ?ry0) ?rz0
  case ry0 =>
    go_simp
    rfl
  simp only [List.setIfInBounds_toArray, List.set_cons_zero, List.set_cons_succ]
  refine take_op 1 (v := ?rv1) rfl (by kernel_rfl) (fun _ _ _ h => h) (by rfl) hS (fun w' hS' => ?ry1) ?rz1
  case ry1 =>
    have a0 := (k6.below hS' k6.lt).cell (i := 0) rfl
    have a1 := (k6.below hS' k6.lt).cell (i := 1) rfl
    have a2 := (k6.below hS' k6.lt).cell (i := 2) rfl
    have a3 := (k6.below hS' k6.lt).cell (i := 3) rfl
    have a4 := (k6.below hS' k6.lt).cell (i := 4) rfl
    go_simp
    rfl
  simp only [List.setIfInBounds_toArray, List.set_cons_zero, List.set_cons_succ]
  refine take_op 2 (v := ?rv2) rfl (by kernel_rfl) (fun _ _ _ h => h) (by rfl) hS (fun w' hS' => ?ry2) ?rz2
  case ry2 =>
    go_simp
    rfl
  simp only [List.setIfInBounds_toArray, List.set_cons_zero, List.set_cons_succ]
  refine take_op 3 (v := ?rv3) rfl (by kernel_rfl) (fun _ _ _ h => h) (by rfl) hS (fun w' hS' => ?ry3) ?rz3
  case ry3 =>
    go_simp
    try go_ints
    rfl
  simp only [List.setIfInBounds_toArray, List.set_cons_zero, List.set_cons_succ]
  refine take_op 4 (v := ?rv4) rfl (by kernel_rfl) (fun _ _ _ h => h) (by rfl) hS (fun w' hS' => ?ry4) ?rz4
  case ry4 =>
    go_simp
    rfl
  simp only [List.setIfInBounds_toArray, List.set_cons_zero, List.set_cons_succ]
  refine take_op 5 (v := ?rv5) rfl (by kernel_rfl) (fun _ _ _ h => h) (by rfl) hS (fun w' hS' => ?ry5) ?rz5
  case ry5 =>
    have a0 := (k6.below hS' k6.lt).cell (i := 0) rfl
    have a1 := (k6.below hS' k6.lt).cell (i := 1) rfl
    have a2 := (k6.below hS' k6.lt).cell (i := 2) rfl
    have a3 := (k6.below hS' k6.lt).cell (i := 3) rfl
    have a4 := (k6.below hS' k6.lt).cell (i := 4) rfl
    go_simp
    rfl
  simp only [List.setIfInBounds_toArray, List.set_cons_zero, List.set_cons_succ]
  refine take_op 6 (v := ?rv6) rfl (by kernel_rfl) (fun _ _ _ h => h) (by rfl) hS (fun w' hS' => ?ry6) ?rz6
  case ry6 =>
    go_simp
    try go_ints
    rfl
  simp only [List.setIfInBounds_toArray, List.set_cons_zero, List.set_cons_succ]
  refine take_op 7 (v := ?rv7) rfl (by kernel_rfl) (fun _ _ _ h => h) (by rfl) hS (fun w' hS' => ?ry7) ?rz7
  case ry7 =>
    go_simp
    rfl
  simp only [List.setIfInBounds_toArray, List.set_cons_zero, List.set_cons_succ]
  refine take_op 8 (v := ?rv8) rfl (by kernel_rfl) (fun _ _ _ h => h) (by rfl) hS (fun w' hS' => ?ry8) ?rz8
  case ry8 =>
    have a0 := (k6.below hS' k6.lt).cell (i := 0) rfl
    have a1 := (k6.below hS' k6.lt).cell (i := 1) rfl
    have a2 := (k6.below hS' k6.lt).cell (i := 2) rfl
    have a3 := (k6.below hS' k6.lt).cell (i := 3) rfl
    have a4 := (k6.below hS' k6.lt).cell (i := 4) rfl
    go_simp
    rfl
  simp only [List.setIfInBounds_toArray, List.set_cons_zero, List.set_cons_succ]
  refine take_op 10 (v := ?rv10) rfl (by kernel_rfl) (fun _ _ _ h => h) (by rfl) hS (fun w' hS' => ?ry10) ?rz10
  case ry10 =>
    go_simp
    rfl
  simp only [List.setIfInBounds_toArray, List.set_cons_zero, List.set_cons_succ]
  refine take_op 11 (v := ?rv11) rfl (by kernel_rfl) (fun _ _ _ h => h) (by rfl) hS (fun w' hS' => ?ry11) ?rz11
  case ry11 =>
    have a0 := (k6.below hS' k6.lt).cell (i := 0) rfl
    have a1 := (k6.below hS' k6.lt).cell (i := 1) rfl
    have a2 := (k6.below hS' k6.lt).cell (i := 2) rfl
    have a3 := (k6.below hS' k6.lt).cell (i := 3) rfl
    have a4 := (k6.below hS' k6.lt).cell (i := 4) rfl
    go_simp
    rfl
  simp only [List.setIfInBounds_toArray, List.set_cons_zero, List.set_cons_succ]
  refine take_op 12 (v := ?rv12) rfl (by kernel_rfl) (fun _ _ _ h => h) (by rfl) hS (fun w' hS' => ?ry12) ?rz12
  case ry12 =>
    go_simp
    rfl
  simp only [List.setIfInBounds_toArray, List.set_cons_zero, List.set_cons_succ]
  refine take_op 13 (v := ?rv13) rfl (by kernel_rfl) (fun _ _ _ h => h) (by rfl) hS (fun w' hS' => ?ry13) ?rz13
  case ry13 =>
    have a0 := (k6.below hS' k6.lt).cell (i := 0) rfl
    have a1 := (k6.below hS' k6.lt).cell (i := 1) rfl
    have a2 := (k6.below hS' k6.lt).cell (i := 2) rfl
    have a3 := (k6.below hS' k6.lt).cell (i := 3) rfl
    have a4 := (k6.below hS' k6.lt).cell (i := 4) rfl
    go_simp
    rfl
  simp only [List.setIfInBounds_toArray, List.set_cons_zero, List.set_cons_succ]
  refine step_op 9 (by kernel_rfl) rfl (fun K hK => ?_)
  rw [if_pos (by rfl)]
  go_simp
  refine (down_any _ _ _ (by omega) (by omega) (by omega) (by omega)).mono ?_
  rintro e W2 ⟨rfl, rfl⟩
  refine hK.out _ _ (fun h => hS) ?_
  clear hK K
  try simp only [Act.put, List.setIfInBounds_toArray, List.set_cons_zero, List.set_cons_succ]
  refine step_op 14 (by kernel_rfl) rfl (fun K hK => ?_)
  rw [if_pos (by rfl)]
  go_simp
  refine (Into_any _ _ _ _).mono ?_
  rintro e W2 ⟨rfl, rfl⟩
  refine hK.out _ _ (fun h => hS) ?_
  clear hK K
  try simp only [Act.put, List.setIfInBounds_toArray, List.set_cons_zero, List.set_cons_succ]
  refine take_op 15 (v := ?rv15) rfl (by kernel_rfl) (fun _ _ _ h => h) (by rfl) hS (fun w' hS' => ?ry15) ?rz15
  case ry15 =>
    go_simp
    rfl
  simp only [List.setIfInBounds_toArray, List.set_cons_zero, List.set_cons_succ]
  refine done_ops (by kernel_rfl) ?_
  go_wp2_with fail
  go_ret
  exact ⟨ret_int (by rw [← hrH.out]; rfl), hB.trans (hS.mono hB.size)⟩

set_option maxRecDepth 100000 in
set_option maxHeartbeats 4000000 in
theorem rPoint_any (iw ih : Int) (a : Option Addr) (c n : Nat) (xs : List Int) (hn : Hid (xs.length = n)) (p : PointN) (w : World) (hm : n ≤ 9223372036854775807) (hr : Rd w.heap.size w a xs) :
    Calls Try.prog 46 #[imv iw ih a n c, p.val] w (RetIm w.heap.size (pointS iw ih xs p) w) := by
  have hB0 : Below w.heap.size w (((w.alloc (.cells #[.int .i64 iw, .int .i64 ih, .slice a n c] 24)).alloc (.cells p.cells 55)).alloc (.cells #[.int .i64 0, .int .i64 0, .slice none 0 0] 24)) := below_al (below_al (below_al (Below.refl _ _) _) _) _
  obtain ⟨v0, hv⟩ : ∃ v, vld iw ih xs = v := ⟨_, rfl⟩
  have v0H := Lib.hid hv
  obtain ⟨v1, hv1⟩ : ∃ v, p.ok = v := ⟨_, rfl⟩
  have v1H := Lib.hid hv1
  have hsp0 : pointS iw ih xs p = if v0 = true then (if v1 = true then { w := iw, h := ih, px := img iw.toNat ih.toNat (pointG iw xs p), err := 0 } else noIm 2) else noIm 20 := by
    simp only [pointS, hv, hv1]
  have hsp := Lib.hid hsp0
  clear hv hsp0 hv1
  go_enter Try.func46, Try.ntmps46
  go_wp2_with fail
  refine (Valid_any iw ih a c xs n hn _ hm ((hr.below (Nat.le_refl _) hB0).mono hB0.size)).mono ?_
  rintro e W1 ⟨rfl, hb1⟩
  rw [v0H.out]
  have hB1 : Below w.heap.size w W1 := hB0.trans (hb1.mono hB0.size)
  have k5 := (((Blk.new w 24 #[.int .i64 iw, .int .i64 ih, .slice a n c]).alloc (.cells p.cells 55)).alloc (.cells #[.int .i64 0, .int .i64 0, .slice none 0 0] 24)).below hb1 (by simp <;> omega)
  have k6 := ((Blk.new (w.alloc (.cells #[.int .i64 iw, .int .i64 ih, .slice a n c] 24)) 55 p.cells).alloc (.cells #[.int .i64 0, .int .i64 0, .slice none 0 0] 24)).below hb1 (by simp <;> omega)
  have k := (Blk.new ((w.alloc (.cells #[.int .i64 iw, .int .i64 ih, .slice a n c] 24)).alloc (.cells p.cells 55)) 24 #[.int .i64 0, .int .i64 0, .slice none 0 0]).below hb1 (by simp <;> omega)
  simp only [World.size_alloc] at k6 k
  clear hb1 hB0
  have hlt := k.lt
  have m0 := k5.cell (i := 0) rfl
  have m1 := k5.cell (i := 1) rfl
  have m2 := k5.cell (i := 2) rfl
  have a0 := k6.cell (i := 0) rfl
  have a1 := k6.cell (i := 1) rfl
  have a2 := k6.cell (i := 2) rfl
  have a3 := k6.cell (i := 3) rfl
  have a4 := k6.cell (i := 4) rfl
  have c0 := k.cell (i := 0) rfl
  have c1 := k.cell (i := 1) rfl
  have c2 := k.cell (i := 2) rfl
  have fc0 := k.frozen 0
  have fc1 := k.frozen 1
  have fc2 := k.frozen 2
  cases v0 with
  | false =>
    go_wp2_with fail
    have kf := put3_blk k (.int .i64 0) (.int .i64 0) (.slice none 0 0)
    have g0 := kf.cell (i := 0) rfl
    have g1 := kf.cell (i := 1) rfl
    have g2 := kf.cell (i := 2) rfl
    exact bodyPost_ret (v := .tuple #[.agg #[.int .i64 0, .int .i64 0, .slice none 0 0], .int .i64 20]) (by simp [results, Try.results46, go_sem, g0, g1, g2]) rfl ⟨⟨_, by rw [hsp.out]; rfl, by rw [hsp.out]; exact OwnIm_nil _ _⟩, hB1.trans (put3_below (by omega) _ _ _)⟩
  | true =>
    go_wp2_with fail
    refine (ValidPoint_any p W1).mono ?_
    rintro e W2 ⟨rfl, hb⟩
    rw [v1H.out]
    have hB2 : Below w.heap.size w W2 := hB1.trans (hb.mono hB1.size)
    clear m0 m1 m2
    replace k5 := k5.below hb k5.lt
    have m0 := k5.cell (i := 0) rfl
    have m1 := k5.cell (i := 1) rfl
    have m2 := k5.cell (i := 2) rfl
    clear a0 a1 a2 a3 a4
    replace k6 := k6.below hb k6.lt
    have a0 := k6.cell (i := 0) rfl
    have a1 := k6.cell (i := 1) rfl
    have a2 := k6.cell (i := 2) rfl
    have a3 := k6.cell (i := 3) rfl
    have a4 := k6.cell (i := 4) rfl
    clear c0 c1 c2 fc0 fc1 fc2
    replace k := k.below hb k.lt
    have c0 := k.cell (i := 0) rfl
    have c1 := k.cell (i := 1) rfl
    have c2 := k.cell (i := 2) rfl
    have fc0 := k.frozen 0
    have fc1 := k.frozen 1
    have fc2 := k.frozen 2
    clear hb
    replace hlt := k.lt
    cases v1 with
    | false =>
      go_wp2_with fail
      have kf := put3_blk k (.int .i64 0) (.int .i64 0) (.slice none 0 0)
      have g0 := kf.cell (i := 0) rfl
      have g1 := kf.cell (i := 1) rfl
      have g2 := kf.cell (i := 2) rfl
      exact bodyPost_ret (v := .tuple #[.agg #[.int .i64 0, .int .i64 0, .slice none 0 0], .int .i64 2]) (by simp [results, Try.results46, go_sem, g0, g1, g2]) rfl ⟨⟨_, by rw [hsp.out]; rfl, by rw [hsp.out]; exact OwnIm_nil _ _⟩, hB2.trans (put3_below (by omega) _ _ _)⟩
    | true =>
      obtain ⟨⟨i1, i2⟩, ⟨i3, i4⟩, hlen, hall⟩ := vld_true v0H.out
      rw [hn.out] at hlen
      have hlenH := Lib.hid hlen
      have hallH := Lib.hid hall
      clear hlen hall
      obtain ⟨pw, rfl⟩ : ∃ pw : Nat, iw = (pw : Int) := ⟨iw.toNat, by omega⟩
      obtain ⟨ph, rfl⟩ : ∃ ph : Nat, ih = (ph : Int) := ⟨ih.toNat, by omega⟩
      have hN : pw * ph = n ∧ n ≤ 256 := by
        have h1 := hlenH.out
        obtain ⟨m1, m2⟩ := mul_small (a := (pw : Int)) (b := (ph : Int)) (m := 16) (n := 16) (by omega) (by omega) (by omega) (by omega)
        have h2 : ((pw * ph : Nat) : Int) = (pw : Int) * ph := by simp
        omega
      obtain ⟨hN1, hN2⟩ := hN
      have hN1H := Lib.hid hN1
      clear hN1
      obtain ⟨ba, oa, rfl, hab, hce0⟩ := rd_at hr hn.out (by have := Nat.mul_le_mul (show 1 ≤ pw by omega) (show 1 ≤ ph by omega); have := hN1H.out; omega)
      have hce := Lib.hid hce0
      clear hce0
      go_wp2_with fail
      refine (Blank_any pw ph (by omega) (by omega) W2).mono ?_
      rintro e WB ⟨g, cap, rfl, hrow, hg, hb2⟩
      rw [hN1H.out] at hrow ⊢
      replace hrow := row_base hrow hB2.size
      replace hg := Nat.le_trans hB2.size hg
      clear m0 m1 m2
      replace k5 := k5.below hb2 k5.lt
      have m0 := k5.cell (i := 0) rfl
      have m1 := k5.cell (i := 1) rfl
      have m2 := k5.cell (i := 2) rfl
      clear a0 a1 a2 a3 a4
      replace k6 := k6.below hb2 k6.lt
      have a0 := k6.cell (i := 0) rfl
      have a1 := k6.cell (i := 1) rfl
      have a2 := k6.cell (i := 2) rfl
      have a3 := k6.cell (i := 3) rfl
      have a4 := k6.cell (i := 4) rfl
      clear c0 c1 c2 fc0 fc1 fc2
      replace k := k.below hb2 k.lt
      have c0 := k.cell (i := 0) rfl
      have c1 := k.cell (i := 1) rfl
      have c2 := k.cell (i := 2) rfl
      have fc0 := k.frozen 0
      have fc1 := k.frozen 1
      have fc2 := k.frozen 2
      go_wp2_with fail
      have hBB := hB2.trans (hb2.mono hB2.size)
      have ko := Blk.new WB 24 #[.int .i64 pw, .int .i64 ph, .slice (some ⟨g, 0, none⟩) n cap]
      have row3 := hrow.alloc (.cells #[.int .i64 pw, .int .i64 ph, .slice (some ⟨g, 0, none⟩) n cap] 24)
      obtain ⟨W3, hW3⟩ : ∃ W3, WB.alloc (.cells #[.int .i64 pw, .int .i64 ph, .slice (some ⟨g, 0, none⟩) n cap] 24) = W3 := ⟨_, rfl⟩
      have hb3 : Below WB.heap.size WB W3 := alloc_below hW3
      rw [hW3] at ko row3 ⊢
      clear hW3
      have hB3 := hBB.trans (hb3.mono hBB.size)
      clear m0 m1 m2
      replace k5 := k5.below hb3 k5.lt
      have m0 := k5.cell (i := 0) rfl
      have m1 := k5.cell (i := 1) rfl
      have m2 := k5.cell (i := 2) rfl
      clear a0 a1 a2 a3 a4
      replace k6 := k6.below hb3 k6.lt
      have a0 := k6.cell (i := 0) rfl
      have a1 := k6.cell (i := 1) rfl
      have a2 := k6.cell (i := 2) rfl
      have a3 := k6.cell (i := 3) rfl
      have a4 := k6.cell (i := 4) rfl
      clear c0 c1 c2 fc0 fc1 fc2
      replace k := k.below hb3 k.lt
      have c0 := k.cell (i := 0) rfl
      have c1 := k.cell (i := 1) rfl
      have c2 := k.cell (i := 2) rfl
      have fc0 := k.frozen 0
      have fc1 := k.frozen 1
      have fc2 := k.frozen 2
      obtain ⟨M, hM⟩ : ∃ M, WB.heap.size = M := ⟨_, rfl⟩
      rw [hM] at ko ⊢
      clear hb2 hb3 hrow hM hBB hB1 hB2
      clear m0 m1 m2 a0 a1 a2 a3 a4 c0 c1 c2 fc0 fc1 fc2
      clear WB
      clear hlt
      have row3' := row3
      rw [← upto_zero (fun i => (pointG pw xs p) (cX pw i) (cY pw i)) n] at row3'
      clear row3
      have hgl := row3'.lt g rfl
      have ngoH := Lib.hid (ko.not_row (by decide) row3')
      have ngk5H := Lib.hid (k5.not_row (by decide) row3')
      have ngk6H := Lib.hid (k6.not_row (by decide) row3')
      have ngkH := Lib.hid (k.not_row (by decide) row3')
      go_loopw [7] (fun i wr => ∃ k : Nat, k ≤ n ∧ i = .int .i64 k ∧ W3.grownBy wr (some g) ∧ wr.ownsRow w.heap.size 3 1 (.slice (some ⟨g, 0, none⟩) n cap) n ((upto (fun i => (pointG pw xs p) (cX pw i) (cY pw i)) n k).map (Value.int .i64))) (fun i _ => n - (intOf i).toNat)
      case atStart => exact ⟨0, Nat.zero_le _, rfl, ⟨rfl, rfl, rfl, Nat.le_refl _, fun _ _ _ => rfl⟩, row3'⟩
      case round =>
        obtain ⟨k', hk, rfl, hG, rowk⟩ := hrel
        have k5r := k5.kept hG ngk5H.out
        have k6r := k6.kept hG ngk6H.out
        have kor := ko.kept hG ngoH.out
        have hS : Below wr.heap.size wr wr.drew := (Below.refl _ _).drew
        have hBr : Below w.heap.size w wr := hB3.grown hG hB3.size (fun j e => by cases e; exact hg)
        have m2 := k5r.cell (i := 2) rfl
        have hpw0 : pw ≠ 0 := by omega
        by_cases hlt : k' < n
        · obtain ⟨x1, x2⟩ := cX_bd (pw := pw) (i := k') (by omega)
          obtain ⟨y1, y2⟩ := cY_bd (pw := pw) (ph := ph) (i := k') (by rw [hN1H.out]; exact hlt)
          rw [cX_eq] at x1 x2
          rw [cY_eq] at y1 y2
          obtain ⟨vb1, vb2⟩ := px_bd hallH.out (k' : Int)
          go_wp2_with fail
          refine plain_region (fun W' => Below wr.heap.size wr W') 11 12 (by kernel_rfl) rfl ?_
          simp only [Array.replicate_succ, Array.replicate_zero, List.push_toArray, List.nil_append, List.cons_append]
          refine take_op 0 (v := ?rv0) rfl (by kernel_rfl) (fun _ _ _ h => h) (by rfl) hS (fun w' hS' => ?ry0) ?rz0
          case ry0 =>
            go_simp
            rfl
          simp only [List.setIfInBounds_toArray, List.set_cons_zero, List.set_cons_succ]
          refine take_op 1 (v := ?rv1) rfl (by kernel_rfl) (fun _ _ _ h => h) (by rfl) hS (fun w' hS' => ?ry1) ?rz1
          case ry1 =>
            have a2 := (kor.below hS' kor.lt).cell (i := 2) rfl
            have b0 := (k5r.below hS' k5r.lt).cell (i := 2) rfl
            have d0 := (k6r.below hS' k6r.lt).cell (i := 0) rfl
            have d1 := (k6r.below hS' k6r.lt).cell (i := 1) rfl
            have d2 := (k6r.below hS' k6r.lt).cell (i := 2) rfl
            have d3 := (k6r.below hS' k6r.lt).cell (i := 3) rfl
            have d4 := (k6r.below hS' k6r.lt).cell (i := 4) rfl
            have x0 := ((hBr.trans (hS'.mono hBr.size)).cell (p := ⟨ba, oa + k', none⟩) hab).trans (hce.out k' hlt)
            go_simp
            rfl
          simp only [List.setIfInBounds_toArray, List.set_cons_zero, List.set_cons_succ]
          refine take_op 2 (v := ?rv2) rfl (by kernel_rfl) (fun _ _ _ h => h) (by rfl) hS (fun w' hS' => ?ry2) ?rz2
          case ry2 =>
            go_simp
            rfl
          simp only [List.setIfInBounds_toArray, List.set_cons_zero, List.set_cons_succ]
          refine take_op 3 (v := ?rv3) rfl (by kernel_rfl) (fun _ _ _ h => h) (by rfl) hS (fun w' hS' => ?ry3) ?rz3
          case ry3 =>
            have a2 := (kor.below hS' kor.lt).cell (i := 2) rfl
            have b0 := (k5r.below hS' k5r.lt).cell (i := 2) rfl
            have d0 := (k6r.below hS' k6r.lt).cell (i := 0) rfl
            have d1 := (k6r.below hS' k6r.lt).cell (i := 1) rfl
            have d2 := (k6r.below hS' k6r.lt).cell (i := 2) rfl
            have d3 := (k6r.below hS' k6r.lt).cell (i := 3) rfl
            have d4 := (k6r.below hS' k6r.lt).cell (i := 4) rfl
            have x0 := ((hBr.trans (hS'.mono hBr.size)).cell (p := ⟨ba, oa + k', none⟩) hab).trans (hce.out k' hlt)
            go_simp
            rfl
          simp only [List.setIfInBounds_toArray, List.set_cons_zero, List.set_cons_succ]
          refine take_op 4 (v := ?rv4) rfl (by kernel_rfl) (fun _ _ _ h => h) (by rfl) hS (fun w' hS' => ?ry4) ?rz4
          case ry4 =>
            go_simp
            rfl
          simp only [List.setIfInBounds_toArray, List.set_cons_zero, List.set_cons_succ]
          refine take_op 5 (v := ?rv5) rfl (by kernel_rfl) (fun _ _ _ h => h) (by rfl) hS (fun w' hS' => ?ry5) ?rz5
          case ry5 =>
            have a2 := (kor.below hS' kor.lt).cell (i := 2) rfl
            have b0 := (k5r.below hS' k5r.lt).cell (i := 2) rfl
            have d0 := (k6r.below hS' k6r.lt).cell (i := 0) rfl
            have d1 := (k6r.below hS' k6r.lt).cell (i := 1) rfl
            have d2 := (k6r.below hS' k6r.lt).cell (i := 2) rfl
            have d3 := (k6r.below hS' k6r.lt).cell (i := 3) rfl
            have d4 := (k6r.below hS' k6r.lt).cell (i := 4) rfl
            have x0 := ((hBr.trans (hS'.mono hBr.size)).cell (p := ⟨ba, oa + k', none⟩) hab).trans (hce.out k' hlt)
            go_simp
            rfl
          simp only [List.setIfInBounds_toArray, List.set_cons_zero, List.set_cons_succ]
          refine take_op 6 (v := ?rv6) rfl (by kernel_rfl) (fun _ _ _ h => h) (by rfl) hS (fun w' hS' => ?ry6) ?rz6
          case ry6 =>
            go_simp
            rfl
          simp only [List.setIfInBounds_toArray, List.set_cons_zero, List.set_cons_succ]
          refine take_op 7 (v := ?rv7) rfl (by kernel_rfl) (fun _ _ _ h => h) (by rfl) hS (fun w' hS' => ?ry7) ?rz7
          case ry7 =>
            go_simp
            try go_ints
            rfl
          simp only [List.setIfInBounds_toArray, List.set_cons_zero, List.set_cons_succ]
          refine take_op 8 (v := ?rv8) rfl (by kernel_rfl) (fun _ _ _ h => h) (by rfl) hS (fun w' hS' => ?ry8) ?rz8
          case ry8 =>
            have a2 := (kor.below hS' kor.lt).cell (i := 2) rfl
            have b0 := (k5r.below hS' k5r.lt).cell (i := 2) rfl
            have d0 := (k6r.below hS' k6r.lt).cell (i := 0) rfl
            have d1 := (k6r.below hS' k6r.lt).cell (i := 1) rfl
            have d2 := (k6r.below hS' k6r.lt).cell (i := 2) rfl
            have d3 := (k6r.below hS' k6r.lt).cell (i := 3) rfl
            have d4 := (k6r.below hS' k6r.lt).cell (i := 4) rfl
            have x0 := ((hBr.trans (hS'.mono hBr.size)).cell (p := ⟨ba, oa + k', none⟩) hab).trans (hce.out k' hlt)
            go_simp
            rfl
          simp only [List.setIfInBounds_toArray, List.set_cons_zero, List.set_cons_succ]
          refine step_op 9 (by kernel_rfl) rfl (fun K hK => ?_)
          rw [if_pos (by rfl)]
          go_simp
          refine (Pointed_any p _ (pointG pw xs p (cX pw k') (cY pw k')) v1H.out vb1 vb2 (by unfold pointG; rw [cXY]) _).mono ?_
          rintro e W4 ⟨rfl, hb4⟩
          have hS4 : Below wr.heap.size wr W4 := hS.trans (hb4.mono hS.size)
          refine hK.out _ _ (fun h => hS4) ?_
          clear hK K
          try simp only [Act.put, List.setIfInBounds_toArray, List.set_cons_zero, List.set_cons_succ]
          have row4 := row_below rowk hS4
          have hcell := row4.cellAt k' (by omega)
          have hfr := row4.frozenAt k'
          have hcell2 : ((upto (fun i => (pointG pw xs p) (cX pw i) (cY pw i)) n k').map (Value.int .i64))[k']? = some (.int .i64 0) := by simp [upto, hlt]
          rw [hcell2] at hcell
          clear hcell2
          refine take_op 10 (v := ?rv10) rfl (by kernel_rfl) (fun _ _ _ h => h) (by rfl) hS4 (fun w' hS' => ?ry10) ?rz10
          case ry10 =>
            go_simp
            try go_ints
            rfl
          simp only [List.setIfInBounds_toArray, List.set_cons_zero, List.set_cons_succ]
          refine step_op 11 (by kernel_rfl) rfl (fun K hK => ?_)
          rw [if_pos (by rfl)]
          go_simp
          refine hK.out _ _ (fun h => absurd h (by omega)) ?_
          clear hK K
          try simp only [Act.put, List.setIfInBounds_toArray, List.set_cons_zero, List.set_cons_succ]
          refine done_ops (by kernel_rfl) ?_
          go_wp2_with fail
          go_roundw
          case rel =>
            have hst := (row4.stored k' (.int .i64 ((pointG pw xs p) (cX pw k') (cY pw k')))).1
            rw [map_set_int, upto_set (fun i => (pointG pw xs p) (cX pw i) (cY pw i)) n k' hlt] at hst
            exact ⟨k' + 1, by omega, by go_num, grown_trans hG (grown_trans (grown_of_below hS4 _) (row4.stored k' (.int .i64 ((pointG pw xs p) (cX pw k') (cY pw k')))).2), hst⟩
          case measure => simp [intOf]; omega
        · have hkn : n = k' := by omega
          subst hkn
          have kr := k.kept hG ngkH.out
          have o0 := kor.cell (i := 0) rfl
          have o1 := kor.cell (i := 1) rfl
          have o2 := kor.cell (i := 2) rfl
          have c0 := kr.cell (i := 0) rfl
          have c1 := kr.cell (i := 1) rfl
          have c2 := kr.cell (i := 2) rfl
          have fc0 := kr.frozen 0
          have fc1 := kr.frozen 1
          have fc2 := kr.frozen 2
          go_wp2_with fail
          have kf := put3_blk kr (.int .i64 pw) (.int .i64 ph) (.slice (some ⟨g, 0, none⟩) n cap)
          have g0 := kf.cell (i := 0) rfl
          have g1 := kf.cell (i := 1) rfl
          have g2 := kf.cell (i := 2) rfl
          have hpx : (List.range n).map (fun i => (pointG pw xs p) (cX pw i) (cY pw i)) = img pw ph (pointG pw xs p) := by
            rw [← hN1H.out]
            exact img_plain fun i hi => pointF_bd v1H.out _
          rw [upto_all, hpx] at rowk
          have hlen2 : (img pw ph (pointG pw xs p)).length = n := by rw [img_length]; exact hN1H.out
          exact bodyPost_ret (v := .tuple #[.agg #[.int .i64 pw, .int .i64 ph, .slice (some ⟨g, 0, none⟩) n cap], .int .i64 0]) (by simp [results, Try.results46, go_sem, g0, g1, g2]) rfl ⟨⟨_, by rw [hsp.out]; rfl, by rw [hsp.out]; exact ⟨_, rfl, row_len hlen2.symm (put3_row rowk (kr.not_row (by decide) rowk) _ _ _)⟩⟩, hBr.trans (put3_below (by omega) _ _ _)⟩
end Go.Proofs.Ytjglfeonoiljlaa

/- The contracts of Box: the program's and the specification's. -/
import Derived.Test.YtbfigbpjoaccdaaGreatUImgP
namespace Go.Proofs.YtbfigbpjoaccdaaGreat
open Go Go.RowKit Go.Shelf
set_option linter.unusedVariables false
set_option linter.unusedSimpArgs false

def boxOk (iw ih x0 y0 x1 y1 : Int) : Bool := ((inR x0 0 iw && inR x1 0 iw) && (inR y0 0 ih && inR y1 0 ih)) && (decide (x0 ≤ x1) && decide (y0 ≤ y1))
theorem boxOk_iff {iw ih x0 y0 x1 y1 : Int} : boxOk iw ih x0 y0 x1 y1 = true ↔ (0 ≤ x0 ∧ x0 ≤ x1 ∧ x1 ≤ iw) ∧ (0 ≤ y0 ∧ y0 ≤ y1 ∧ y1 ≤ ih) := by
  simp only [boxOk, inR, Bool.and_eq_true, decide_eq_true_eq]
  omega
/-- What Box returns: a sum, a number. -/
def boxS (iw ih : Int) (xs : List Int) (x0 y0 x1 y1 : Int) : Int × Int :=
  if vld iw ih xs = true then (if boxOk iw ih x0 y0 x1 y1 = true then (rect (gpx iw.toNat xs) x0.toNat y0.toNat x1.toNat y1.toNat, 0) else (0, 2)) else (0, 20)
def RetTwo (B : Nat) (r : Int × Int) (w : World) (e : Ending) (w' : World) : Prop := e = .returned (.tuple #[.int .i64 r.1, .int .i64 r.2]) ∧ Below B w w'

set_option maxRecDepth 100000 in
set_option maxHeartbeats 4000000 in
theorem Box_any (iw ih : Int) (a : Option Addr) (c n : Nat) (xs : List Int) (hn : Hid (xs.length = n)) (x0 y0 x1 y1 : Int) (w : World) (hm : n ≤ 9223372036854775807) (hr : Rd w.heap.size w a xs) :
    Calls Tryz.prog 44 #[imv iw ih a n c, .int .i64 x0, .int .i64 y0, .int .i64 x1, .int .i64 y1] w (RetTwo w.heap.size (boxS iw ih xs x0 y0 x1 y1) w) := by
  have hB0 : Below w.heap.size w (w.alloc (.cells #[.int .i64 iw, .int .i64 ih, .slice a n c] 27)) := below_al (Below.refl _ _) _
  obtain ⟨v0, hv⟩ : ∃ v, vld iw ih xs = v := ⟨_, rfl⟩
  have v0H := Lib.hid hv
  clear hv
  go_enter Tryz.func44, Tryz.ntmps44
  go_wp2_with fail
  refine (valid_any iw ih a c xs n hn _ hm ((hr.below (Nat.le_refl _) hB0).mono hB0.size)).mono ?_
  rintro e W1 ⟨rfl, hb1⟩
  rw [v0H.out]
  have hB1 : Below w.heap.size w W1 := hB0.trans (hb1.mono hB0.size)
  have k5 := (Blk.new w 27 #[.int .i64 iw, .int .i64 ih, .slice a n c]).below hb1 (by simp)
  clear hb1 hB0
  have a0 := k5.cell (i := 0) rfl
  have a1 := k5.cell (i := 1) rfl
  have a2 := k5.cell (i := 2) rfl
  cases v0 with
  | false =>
    go_wp2_with fail
    rw [show boxS iw ih xs x0 y0 x1 y1 = (0, 20) by unfold boxS; rw [v0H.out]; rfl]
    exact bodyPost_ret (v := .tuple #[.int .i64 0, .int .i64 20]) (by simp [results, Tryz.results44, go_sem]) rfl ⟨rfl, hB1⟩
  | true =>
    have hs0 := Lib.hid (show boxS iw ih xs x0 y0 x1 y1 = if boxOk iw ih x0 y0 x1 y1 = true then (rect (gpx iw.toNat xs) x0.toNat y0.toNat x1.toNat y1.toNat, 0) else (0, 2) by unfold boxS; rw [v0H.out]; rfl)
    by_cases hok : boxOk iw ih x0 y0 x1 y1 = true
    · obtain ⟨⟨i1, i2⟩, ⟨i3, i4⟩, hlen, hall⟩ := vld_true v0H.out
      rw [hn.out] at hlen
      have hlenH := Lib.hid hlen
      have hallH := Lib.hid hall
      clear hlen hall
      obtain ⟨⟨o1, o2, o3⟩, o4, o5, o6⟩ := boxOk_iff.1 hok
      have hbk := Lib.hid hok
      clear hok
      obtain ⟨pw, rfl⟩ : ∃ pw : Nat, iw = (pw : Int) := ⟨iw.toNat, by omega⟩
      obtain ⟨ph, rfl⟩ : ∃ ph : Nat, ih = (ph : Int) := ⟨ih.toNat, by omega⟩
      obtain ⟨r, hr0⟩ : ∃ r, rect (gpx pw xs) x0.toNat y0.toNat x1.toNat y1.toNat = r := ⟨_, rfl⟩
      have hrH := Lib.hid hr0
      clear hr0
      have n1 : ¬ x1 < x0 := by omega
      have n2 : ¬ y1 < y0 := by omega
      have t1 := Lib.hid (show (inR x0 0 (pw : Int) && inR x1 0 (pw : Int)) = true by simp [inR]; omega)
      have t2 := Lib.hid (show (inR y0 0 (ph : Int) && inR y1 0 (ph : Int)) = true by simp [inR]; omega)
      go_wp2_with fail
      refine (within2 0 pw x0 x1 true t1.out _ _ _ _ ?_ ?_).mono ?_
      · exact cell_new (by simp) rfl
      · exact cell_new (by simp) rfl
      rintro e w1 ⟨rfl, rfl⟩
      replace k5 := k5.alloc (.cells #[.int .i64 x0, .int .i64 x1] 3)
      replace hB1 := below_al hB1 (.cells #[.int .i64 x0, .int .i64 x1] 3)
      obtain ⟨V1, hV1⟩ : ∃ V1, W1.alloc (.cells #[.int .i64 x0, .int .i64 x1] 3) = V1 := ⟨_, rfl⟩
      rw [hV1] at k5 hB1 ⊢
      clear hV1 a0 a1 a2
      have a0 := k5.cell (i := 0) rfl
      have a1 := k5.cell (i := 1) rfl
      have a2 := k5.cell (i := 2) rfl
      go_wp2_with fail
      refine (within2 0 ph y0 y1 true t2.out _ _ _ _ ?_ ?_).mono ?_
      · exact cell_new (by simp) rfl
      · exact cell_new (by simp) rfl
      rintro e w2 ⟨rfl, rfl⟩
      replace k5 := k5.alloc (.cells #[.int .i64 y0, .int .i64 y1] 3)
      replace hB1 := below_al hB1 (.cells #[.int .i64 y0, .int .i64 y1] 3)
      obtain ⟨V2, hV2⟩ : ∃ V2, V1.alloc (.cells #[.int .i64 y0, .int .i64 y1] 3) = V2 := ⟨_, rfl⟩
      rw [hV2] at k5 hB1 ⊢
      clear hV2 a0 a1 a2
      have a0 := k5.cell (i := 0) rfl
      have a1 := k5.cell (i := 1) rfl
      have a2 := k5.cell (i := 2) rfl
      have hbx := boxF_rect pw ph (gpx pw xs) o1 o2 o3 o4 o5 o6
      rw [hrH.out] at hbx
      have hbxH := Lib.hid hbx
      clear hbx
      obtain ⟨N, hN⟩ : ∃ N, (pw + 1) * (ph + 1) = N := ⟨_, rfl⟩
      have hNH := Lib.hid hN
      clear hN
      have hS : Below V2.heap.size V2 V2.drew := (Below.refl _ _).drew
      have hBd : Below w.heap.size w V2.drew := hB1.trans (hS.mono hB1.size)
      go_wp2_with fail
      refine plain_region (fun W' => Below V2.heap.size V2 W') 10 10 (by kernel_rfl) rfl ?_
      simp only [Array.replicate_succ, Array.replicate_zero, List.push_toArray, List.nil_append, List.cons_append]
      refine take_op 0 (v := ?rv0) rfl (by kernel_rfl) (fun _ _ _ h => h) (by rfl) hS (fun w' hS' => ?ry0) ?rz0
      case ry0 =>
        have a0 := (k5.below hS' k5.lt).cell (i := 0) rfl
        have a1 := (k5.below hS' k5.lt).cell (i := 1) rfl
        have a2 := (k5.below hS' k5.lt).cell (i := 2) rfl
        go_simp
        rfl
      simp only [List.setIfInBounds_toArray, List.set_cons_zero, List.set_cons_succ]
      refine take_op 1 (v := ?rv1) rfl (by kernel_rfl) (fun _ _ _ h => h) (by rfl) hS (fun w' hS' => ?ry1) ?rz1
      case ry1 =>
        have a0 := (k5.below hS' k5.lt).cell (i := 0) rfl
        have a1 := (k5.below hS' k5.lt).cell (i := 1) rfl
        have a2 := (k5.below hS' k5.lt).cell (i := 2) rfl
        go_simp
        rfl
      simp only [List.setIfInBounds_toArray, List.set_cons_zero, List.set_cons_succ]
      refine take_op 3 (v := ?rv3) rfl (by kernel_rfl) (fun _ _ _ h => h) (by rfl) hS (fun w' hS' => ?ry3) ?rz3
      case ry3 =>
        go_simp
        rfl
      simp only [List.setIfInBounds_toArray, List.set_cons_zero, List.set_cons_succ]
      refine take_op 4 (v := ?rv4) rfl (by kernel_rfl) (fun _ _ _ h => h) (by rfl) hS (fun w' hS' => ?ry4) ?rz4
      case ry4 =>
        go_simp
        rfl
      simp only [List.setIfInBounds_toArray, List.set_cons_zero, List.set_cons_succ]
      refine take_op 5 (v := ?rv5) rfl (by kernel_rfl) (fun _ _ _ h => h) (by rfl) hS (fun w' hS' => ?ry5) ?rz5
      case ry5 =>
        go_simp
        rfl
      simp only [List.setIfInBounds_toArray, List.set_cons_zero, List.set_cons_succ]
      refine take_op 6 (v := ?rv6) rfl (by kernel_rfl) (fun _ _ _ h => h) (by rfl) hS (fun w' hS' => ?ry6) ?rz6
      case ry6 =>
        go_simp
        rfl
      simp only [List.setIfInBounds_toArray, List.set_cons_zero, List.set_cons_succ]
      refine step_op 2 (by kernel_rfl) rfl (fun K hK => ?_)
      rw [if_pos (by rfl)]
      go_simp
      refine (integral_any pw ph a c n xs hn (by omega) (by omega) (by omega) (by omega) hlenH hallH N hNH _ ((hr.below (Nat.le_refl _) hBd).mono hBd.size)).mono ?_
      rintro e W3 ⟨g, rfl, hrow, hb3⟩
      have hS3 : Below V2.heap.size V2 W3 := hS.trans (hb3.mono hS.size)
      refine hK.out _ _ (fun h => hS3) ?_
      clear hK K
      try simp only [Act.put, List.setIfInBounds_toArray, List.set_cons_zero, List.set_cons_succ]
      refine step_op 7 (by kernel_rfl) rfl (fun K hK => ?_)
      rw [if_pos (by rfl)]
      go_simp
      refine (box_any pw ph a c n _ N N (integAll pw ph (gpx pw xs)) (Lib.hid (by rw [integAll_length]; exact hNH.out)) (Lib.hid (by rw [← hNH.out]; simp)) (Lib.hid (integAll_bd (gpx_bd hallH.out pw) (by omega) (by omega))) _ _ _ _ (by omega) (by omega) (by omega) (by omega) (by omega) (by omega) (by omega) (by omega) (by omega) (by omega) W3 (row_rd' (by rw [integAll_length]; exact hNH.out) hrow)).mono ?_
      rintro e W4 ⟨rfl, hb4⟩
      rw [hbxH.out]
      have hS4 : Below V2.heap.size V2 W4 := hS3.trans (hb4.mono hS3.size)
      refine hK.out _ _ (fun h => hS4) ?_
      clear hK K
      try simp only [Act.put, List.setIfInBounds_toArray, List.set_cons_zero, List.set_cons_succ]
      refine take_op 8 (v := ?rv8) rfl (by kernel_rfl) (fun _ _ _ h => h) (by rfl) hS4 (fun w' hS' => ?ry8) ?rz8
      case ry8 =>
        go_simp
        rfl
      simp only [List.setIfInBounds_toArray, List.set_cons_zero, List.set_cons_succ]
      refine take_op 9 (v := ?rv9) rfl (by kernel_rfl) (fun _ _ _ h => h) (by rfl) hS4 (fun w' hS' => ?ry9) ?rz9
      case ry9 =>
        go_simp
        rfl
      simp only [List.setIfInBounds_toArray, List.set_cons_zero, List.set_cons_succ]
      refine done_ops (by kernel_rfl) ?_
      go_wp2_with fail
      rw [hs0.out, hbk.out]
      exact bodyPost_ret (v := .tuple #[.int .i64 r, .int .i64 0]) (by simp [results, Tryz.results44, go_sem]) rfl ⟨by simp only [if_true, Int.toNat_natCast]; rw [hrH.out], hB1.trans (hS4.mono hB1.size)⟩
    · have hbk := Lib.hid (show boxOk iw ih x0 y0 x1 y1 = false by simpa using hok)
      have hok2 := fun h => hok (boxOk_iff.2 h)
      clear hok
      have hS0 : True := trivial
      by_cases t1' : (inR x0 0 iw && inR x1 0 iw) = true
      · have t1 := Lib.hid t1'
        clear t1'
        go_wp2_with fail
        refine (within2 0 iw x0 x1 true t1.out _ _ _ _ ?_ ?_).mono ?_
        · exact cell_new (by simp) rfl
        · exact cell_new (by simp) rfl
        rintro e w1 ⟨rfl, rfl⟩
        replace k5 := k5.alloc (.cells #[.int .i64 x0, .int .i64 x1] 3)
        replace hB1 := below_al hB1 (.cells #[.int .i64 x0, .int .i64 x1] 3)
        obtain ⟨V1, hV1⟩ : ∃ V1, W1.alloc (.cells #[.int .i64 x0, .int .i64 x1] 3) = V1 := ⟨_, rfl⟩
        rw [hV1] at k5 hB1 ⊢
        clear hV1 a0 a1 a2
        have a0 := k5.cell (i := 0) rfl
        have a1 := k5.cell (i := 1) rfl
        have a2 := k5.cell (i := 2) rfl
        by_cases t2' : (inR y0 0 ih && inR y1 0 ih) = true
        · have t2 := Lib.hid t2'
          clear t2'
          go_wp2_with fail
          refine (within2 0 ih y0 y1 true t2.out _ _ _ _ ?_ ?_).mono ?_
          · exact cell_new (by simp) rfl
          · exact cell_new (by simp) rfl
          rintro e w2 ⟨rfl, rfl⟩
          replace hB1 := below_al hB1 (.cells #[.int .i64 y0, .int .i64 y1] 3)
          have u1 := t1.out
          have u2 := t2.out
          simp only [inR, Bool.and_eq_true, decide_eq_true_eq] at u1 u2
          by_cases n1 : x1 < x0
          · go_wp2_with fail
            rw [hs0.out, hbk.out]
            exact bodyPost_ret (v := .tuple #[.int .i64 0, .int .i64 2]) (by simp [results, Tryz.results44, go_sem]) rfl ⟨rfl, hB1⟩
          · by_cases n2 : y1 < y0
            · go_wp2_with fail
              rw [hs0.out, hbk.out]
              exact bodyPost_ret (v := .tuple #[.int .i64 0, .int .i64 2]) (by simp [results, Tryz.results44, go_sem]) rfl ⟨rfl, hB1⟩
            · exact (hok2 (by omega)).elim
        · have t2 := Lib.hid (show (inR y0 0 ih && inR y1 0 ih) = false by simpa using t2')
          clear t2' hok2
          go_wp2_with fail
          refine (within2 0 ih y0 y1 false t2.out _ _ _ _ ?_ ?_).mono ?_
          · exact cell_new (by simp) rfl
          · exact cell_new (by simp) rfl
          rintro e w2 ⟨rfl, rfl⟩
          replace hB1 := below_al hB1 (.cells #[.int .i64 y0, .int .i64 y1] 3)
          go_wp2_with fail
          rw [hs0.out, hbk.out]
          exact bodyPost_ret (v := .tuple #[.int .i64 0, .int .i64 2]) (by simp [results, Tryz.results44, go_sem]) rfl ⟨rfl, hB1⟩
      · have t1 := Lib.hid (show (inR x0 0 iw && inR x1 0 iw) = false by simpa using t1')
        clear t1' hok2
        go_wp2_with fail
        refine (within2 0 iw x0 x1 false t1.out _ _ _ _ ?_ ?_).mono ?_
        · exact cell_new (by simp) rfl
        · exact cell_new (by simp) rfl
        rintro e w1 ⟨rfl, rfl⟩
        replace hB1 := below_al hB1 (.cells #[.int .i64 x0, .int .i64 x1] 3)
        go_wp2_with fail
        rw [hs0.out, hbk.out]
        exact bodyPost_ret (v := .tuple #[.int .i64 0, .int .i64 2]) (by simp [results, Tryz.results44, go_sem]) rfl ⟨rfl, hB1⟩

end Go.Proofs.YtbfigbpjoaccdaaGreat

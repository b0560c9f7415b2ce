/- The contracts of Rows, Cols, Integral and Box: the program's and the specification's. -/
import Derived.Test.YtjglfeonoiljlaaImgO
namespace Go.Proofs.Ytjglfeonoiljlaa
open Go Go.RowKit Go.Shelf
set_option linter.unusedVariables false
set_option linter.unusedSimpArgs false

/-- What a function returns: numbers in new memory of the call's own, from block B on, and a number. -/
structure RowR where
  px : List Int
  err : Int

def RetRow (B : Nat) (r : RowR) (w : World) (e : Ending) (w' : World) : Prop :=
  (∃ a c, e = .returned (.tuple #[.slice a r.px.length c, .int .i64 r.err]) ∧ w'.ownsRow B 3 1 (.slice a r.px.length c) r.px.length (r.px.map (Value.int .i64))) ∧ Below B w w'

def noRow (err : Int) : RowR := { px := [], err := err }
theorem ret_none {B : Nat} {w w' : World} {err : Int} (hb : Below B w w') : RetRow B (noRow err) w (.returned (.tuple #[.slice none 0 0, .int .i64 err])) w' := ⟨⟨none, 0, rfl, World.ownsRow_nil _ _ _ _⟩, hb⟩
theorem ret_row {B : Nat} {w w' : World} {a : Option Addr} {c m : Nat} {l : List Int} (hl : l.length = m) (h : w'.ownsRow B 3 1 (.slice a m c) m (l.map (Value.int .i64))) (hb : Below B w w') : RetRow B { px := l, err := 0 } w (.returned (.tuple #[.slice a m c, .int .i64 0])) w' := by
  subst hl; exact ⟨⟨a, c, rfl, h⟩, hb⟩

/-- The specification's Sum, by any numbers in the image. -/
theorem Sum_int (pw ph : Nat) (a : Option Addr) (c n : Nat) (xs : List Int) (hn : Hid (xs.length = n)) (x0 y0 x1 y1 r : Int) (hx0 : 0 ≤ x0) (hx1 : x0 ≤ x1) (hx2 : x1 ≤ pw) (hy0 : 0 ≤ y0) (hy1 : y0 ≤ y1) (hy2 : y1 ≤ ph) (h1 : 1 ≤ pw) (h2 : pw ≤ 16) (h3 : 1 ≤ ph) (h4 : ph ≤ 16) (hnn : Hid ((n : Int) = (pw : Int) * ph)) (hall : Hid (allIn (-2147483648) 2147483648 xs = true)) (hres : Hid (rect (gpx pw xs) x0.toNat y0.toNat x1.toNat y1.toNat = r)) (w : World) (hr : Rd w.heap.size w a xs) :
    Calls Try.prog 98 #[imv pw ph a n c, .int .i64 x0, .int .i64 y0, .int .i64 x1, .int .i64 y1] w fun e w' => e = .returned (.int .i64 r) ∧ Below w.heap.size w w' := by
  obtain ⟨X0, rfl⟩ : ∃ k : Nat, x0 = (k : Int) := ⟨x0.toNat, by omega⟩
  obtain ⟨X1, rfl⟩ : ∃ k : Nat, x1 = (k : Int) := ⟨x1.toNat, by omega⟩
  obtain ⟨Y0, rfl⟩ : ∃ k : Nat, y0 = (k : Int) := ⟨y0.toNat, by omega⟩
  obtain ⟨Y1, rfl⟩ : ∃ k : Nat, y1 = (k : Int) := ⟨y1.toNat, by omega⟩
  have h := hres.out
  simp only [Int.toNat_natCast] at h
  rw [← h]
  exact Sum_any pw ph a c n xs hn X0 Y0 X1 Y1 (by omega) (by omega) (by omega) (by omega) h1 h2 h3 h4 hnn hall w hr

theorem boxF_rect (pw ph : Nat) (g : Nat → Nat → Int) {x0 y0 x1 y1 : Int} (hx0 : 0 ≤ x0) (hx1 : x0 ≤ x1) (hx2 : x1 ≤ pw) (hy0 : 0 ≤ y0) (hy1 : y0 ≤ y1) (hy2 : y1 ≤ ph) : boxF pw (integAll pw ph g) x0 y0 x1 y1 = rect g x0.toNat y0.toNat x1.toNat y1.toNat := by
  obtain ⟨X0, rfl⟩ : ∃ k : Nat, x0 = (k : Int) := ⟨x0.toNat, by omega⟩
  obtain ⟨X1, rfl⟩ : ∃ k : Nat, x1 = (k : Int) := ⟨x1.toNat, by omega⟩
  obtain ⟨Y0, rfl⟩ : ∃ k : Nat, y0 = (k : Int) := ⟨y0.toNat, by omega⟩
  obtain ⟨Y1, rfl⟩ : ∃ k : Nat, y1 = (k : Int) := ⟨y1.toNat, by omega⟩
  have e : ∀ x y : Nat, x ≤ pw → y ≤ ph → px (integAll pw ph g) ((y : Int) * ((pw : Int) + 1) + (x : Int)) = gridTo g x y := fun x y hx hy =>
    px_some (integAll_at pw ph g hx hy) (by
      have : (y : Int) * ((pw : Int) + 1) + (x : Int) = ((y * (pw + 1) + x : Nat) : Int) := by simp
      rw [this, Int.toNat_natCast])
  unfold boxF rect
  rw [e X1 Y1 (by omega) (by omega), e X1 Y0 (by omega) (by omega), e X0 Y1 (by omega) (by omega), e X0 Y0 (by omega) (by omega)]
  simp only [Int.toNat_natCast]
  try omega

theorem integAll_bd {pw ph : Nat} {g : Nat → Nat → Int} (h : ∀ u v, -2147483648 ≤ g u v ∧ g u v ≤ 2147483648) (hw : pw ≤ 15 + 1) (hh : ph ≤ 15 + 1) : allIn (-549755813888) 549755813888 (integAll pw ph g) = true := by
  unfold allIn integAll
  rw [List.all_eq_true]
  intro x hx
  obtain ⟨j, hj, rfl⟩ := List.mem_map.1 hx
  have h1 : j % (pw + 1) < pw + 1 := Nat.mod_lt _ (by omega)
  have h2 : j / (pw + 1) < ph + 1 := Nat.div_lt_of_lt_mul (List.mem_range.1 hj)
  have := gridTo_bd h (x := j % (pw + 1)) (y := j / (pw + 1)) (by omega) (by omega)
  simpa using this

/-- What Rows, Cols, Integral and Box return. -/
def rowsS (iw ih : Int) (xs : List Int) : RowR := if vld iw ih xs = true then { px := sumsR iw.toNat ih.toNat (gpx iw.toNat xs), err := 0 } else noRow 20
def colsS (iw ih : Int) (xs : List Int) : RowR := if vld iw ih xs = true then { px := sumsC iw.toNat ih.toNat (gpx iw.toNat xs), err := 0 } else noRow 20
def integralS (iw ih : Int) (xs : List Int) : RowR := if vld iw ih xs = true then { px := integAll iw.toNat ih.toNat (gpx iw.toNat xs), err := 0 } else noRow 20

set_option maxRecDepth 100000 in
set_option maxHeartbeats 4000000 in
theorem Integral_any (iw ih : Int) (a : Option Addr) (c n : Nat) (xs : List Int) (hn : Hid (xs.length = n)) (w : World) (hm : n ≤ 9223372036854775807) (hr : Rd w.heap.size w a xs) :
    Calls Try.prog 41 #[imv iw ih a n c] w (RetRow w.heap.size (integralS iw ih xs) w) := by
  obtain ⟨i0, hi, hz0, hz1, hz2⟩ := info_parts info_int
  have hB0 : Below w.heap.size w (w.alloc (.cells #[.int .i64 iw, .int .i64 ih, .slice a n c] 24)) := below_al (Below.refl _ _) _
  obtain ⟨v0, hv⟩ : ∃ v, vld iw ih xs = v := ⟨_, rfl⟩
  have v0H := Lib.hid hv
  have hsp := Lib.hid (show integralS iw ih xs = if v0 = true then (integralS iw ih xs) else noRow 20 by
    unfold integralS
    rw [hv]
    cases v0 <;> rfl)
  clear hv
  go_enter Try.func41, Try.ntmps41
  go_wp2_with fail
  refine (valid_any iw ih a c xs n hn _ hm ((hr.below (Nat.le_refl _) hB0).mono hB0.size)).mono ?_
  rintro e W1 ⟨rfl, hb1⟩
  rw [v0H.out]
  have hB1 : Below w.heap.size w W1 := hB0.trans (hb1.mono hB0.size)
  have k5 := (Blk.new w 24 #[.int .i64 iw, .int .i64 ih, .slice a n c]).below hb1 (by simp)
  clear hb1 hB0
  cases v0 with
  | false =>
    go_wp2_with fail
    rw [hsp.out]
    exact bodyPost_ret (v := .tuple #[.slice none 0 0, .int .i64 20]) (by simp [results, Try.results41, go_sem]) rfl (ret_none hB1)
  | true =>
    have hsp2 : integralS iw ih xs = { px := integAll iw.toNat ih.toNat (gpx iw.toNat xs), err := 0 } := by unfold integralS; rw [v0H.out]; rfl
    obtain ⟨⟨i1, i2⟩, ⟨i3, i4⟩, hlen, hall⟩ := vld_true v0H.out
    rw [hn.out] at hlen
    have hlenH := Lib.hid hlen
    have hallH := Lib.hid hall
    clear hlen hall hsp
    obtain ⟨pw, rfl⟩ : ∃ pw : Nat, iw = (pw : Int) := ⟨iw.toNat, by omega⟩
    obtain ⟨ph, rfl⟩ : ∃ ph : Nat, ih = (ph : Int) := ⟨ih.toNat, by omega⟩
    simp only [Int.toNat_natCast] at hsp2
    have hspH := Lib.hid hsp2
    clear hsp2
    have a0 := k5.cell (i := 0) rfl
    have a1 := k5.cell (i := 1) rfl
    have a2 := k5.cell (i := 2) rfl
    go_wp2_with fail
    refine (integral_any pw ph a c n xs hn (by omega) (by omega) (by omega) (by omega) hlenH hallH ((pw + 1) * (ph + 1)) (Lib.hid rfl) W1 ((hr.below (Nat.le_refl _) hB1).mono hB1.size)).mono ?_
    rintro e W2 ⟨g, rfl, hrow, hb⟩
    go_wp2_with fail
    rw [hspH.out]
    exact bodyPost_ret (v := .tuple #[.slice (some ⟨g, 0, none⟩) ((pw + 1) * (ph + 1)) ((pw + 1) * (ph + 1)), .int .i64 0]) (by simp [results, Try.results41, go_sem]) rfl (ret_row (integAll_length _ _ _) (row_base hrow hB1.size) (hB1.trans (hb.mono hB1.size)))

set_option maxRecDepth 100000 in
set_option maxHeartbeats 4000000 in
theorem Rows_any (iw ih : Int) (a : Option Addr) (c n : Nat) (xs : List Int) (hn : Hid (xs.length = n)) (w : World) (hm : n ≤ 9223372036854775807) (hr : Rd w.heap.size w a xs) :
    Calls Try.prog 36 #[imv iw ih a n c] w (RetRow w.heap.size (rowsS iw ih xs) w) := by
  obtain ⟨i0, hi, hz0, hz1, hz2⟩ := info_parts info_int
  have hB0 : Below w.heap.size w (w.alloc (.cells #[.int .i64 iw, .int .i64 ih, .slice a n c] 24)) := below_al (Below.refl _ _) _
  obtain ⟨v0, hv⟩ : ∃ v, vld iw ih xs = v := ⟨_, rfl⟩
  have v0H := Lib.hid hv
  have hsp := Lib.hid (show rowsS iw ih xs = if v0 = true then (rowsS iw ih xs) else noRow 20 by
    unfold rowsS
    rw [hv]
    cases v0 <;> rfl)
  clear hv
  go_enter Try.func36, Try.ntmps36
  go_wp2_with fail
  refine (valid_any iw ih a c xs n hn _ hm ((hr.below (Nat.le_refl _) hB0).mono hB0.size)).mono ?_
  rintro e W1 ⟨rfl, hb1⟩
  rw [v0H.out]
  have hB1 : Below w.heap.size w W1 := hB0.trans (hb1.mono hB0.size)
  have k5 := (Blk.new w 24 #[.int .i64 iw, .int .i64 ih, .slice a n c]).below hb1 (by simp)
  clear hb1 hB0
  cases v0 with
  | false =>
    go_wp2_with fail
    rw [hsp.out]
    exact bodyPost_ret (v := .tuple #[.slice none 0 0, .int .i64 20]) (by simp [results, Try.results36, go_sem]) rfl (ret_none hB1)
  | true =>
    have hsp2 : rowsS iw ih xs = { px := sumsR iw.toNat ih.toNat (gpx iw.toNat xs), err := 0 } := by unfold rowsS; rw [v0H.out]; rfl
    obtain ⟨⟨i1, i2⟩, ⟨i3, i4⟩, hlen, hall⟩ := vld_true v0H.out
    rw [hn.out] at hlen
    have hlenH := Lib.hid hlen
    have hallH := Lib.hid hall
    clear hlen hall hsp
    obtain ⟨pw, rfl⟩ : ∃ pw : Nat, iw = (pw : Int) := ⟨iw.toNat, by omega⟩
    obtain ⟨ph, rfl⟩ : ∃ ph : Nat, ih = (ph : Int) := ⟨ih.toNat, by omega⟩
    simp only [Int.toNat_natCast] at hsp2
    have hspH := Lib.hid hsp2
    clear hsp2
    have a0 := k5.cell (i := 0) rfl
    have a1 := k5.cell (i := 1) rfl
    have a2 := k5.cell (i := 2) rfl
    go_wp2_with fail
    obtain ⟨N, hN⟩ : ∃ N, (pw + 1) * (ph + 1) = N := ⟨_, rfl⟩
    have hNH := Lib.hid hN
    clear hN
    refine (integral_any pw ph a c n xs hn (by omega) (by omega) (by omega) (by omega) hlenH hallH N hNH W1 ((hr.below (Nat.le_refl _) hB1).mono hB1.size)).mono ?_
    rintro e W2 ⟨g, rfl, hrow, hb⟩
    replace hrow := row_base hrow hB1.size
    clear a0 a1 a2
    have hB2 := hB1.trans (hb.mono hB1.size)
    replace k5 := k5.below hb k5.lt
    clear hb hB1
    have a0 := k5.cell (i := 0) rfl
    have a1 := k5.cell (i := 1) rfl
    have a2 := k5.cell (i := 2) rfl
    have hzH := Lib.hid (made_zero ph)
    go_wp2_with (at_make; refine wpList_make_full _ rfl _ _ 22 rfl w.heap.size 3 i0 (.int .i64 0) 1 Try.underlying22 hi hz0 hz1 .i64 .i64 (ph : Int) (ph : Int) ph rfl rfl rfl rfl (by rw [hz2]; omega) (by unfold maxLen; omega) hB2.size ?_; intro w1 hown hg)
    have hne := k5.not_row (by decide) hrow
    have hgne : g ≠ W2.heap.size := by have := hrow.lt g rfl; omega
    have hB3 : Below w.heap.size w w1 := hB2.grown hg hB2.size (fun k e => by cases e)
    have row1 := hrow.kept hg (.inr (by simp [Value.ownBlock]))
    replace k5 := k5.kept hg (by simp)
    clear a0 a1 a2
    have hs1 := hg.size
    have hs2 := hB2.size
    obtain ⟨G, hG⟩ : ∃ G, W2.heap.size = G := ⟨_, rfl⟩
    rw [hG] at hown hgne hs1 hs2 ⊢
    clear hB2 hg hrow hG
    clear W2
    rw [hzH.out, ← layTo_zero (fun y => rect (gpx pw xs) 0 y pw (y + 1))] at hown
    have neH := Lib.hid (k5.not_row (by decide) hown)
    have hs3 := hown.lt G rfl
    go_loopw [6, 17] (fun u i wr => ∃ k : Nat, k ≤ ph ∧ i = .int .i64 (k : Int) ∧ w1.grownBy wr (some G) ∧ wr.ownsRow w.heap.size 3 1 (.slice (some ⟨G, 0, none⟩) ph ph) ph ((layTo (fun y => rect (gpx pw xs) 0 y pw (y + 1)) ph k).map (Value.int .i64))) (fun u i _ => ph - (intOf i).toNat)
    case atStart => exact ⟨0, Nat.zero_le _, rfl, ⟨rfl, rfl, rfl, Nat.le_refl _, fun _ _ _ => rfl⟩, hown⟩
    case round =>
      obtain ⟨k, hk, rfl, hg, rowk⟩ := hrel
      have hBr : Below w.heap.size w wr := hB3.grown hg hB3.size (fun j e => by cases e; exact hs2)
      by_cases hlt : k < ph
      · have k5r := k5.kept hg neH.out
        have rowi := row1.kept hg (.inr (by simp [Value.ownBlock]; exact fun e => hgne e))
        have m0 := k5r.cell (i := 0) rfl
        have m1 := k5r.cell (i := 1) rfl
        have m2 := k5r.cell (i := 2) rfl
        have hbx := boxF_rect pw ph (gpx pw xs) (x0 := 0) (y0 := (k : Int)) (x1 := (pw : Int)) (y1 := (k : Int) + 1) (by omega) (by omega) (by omega) (by omega) (by omega) (by omega)
        have hlay := Lib.hid (layTo_set (fun y => rect (gpx pw xs) 0 y pw (y + 1)) hlt)
        simp only [Int.toNat_natCast, Int.toNat_zero, Int.toNat_natCast_add_one] at hbx
        have hbxH := Lib.hid hbx
        clear hbx
        go_wp2_with fail
        refine (box_any pw ph a c n _ N N (integAll pw ph (gpx pw xs)) (Lib.hid (by rw [integAll_length]; exact hNH.out)) (Lib.hid (by rw [← hNH.out]; simp)) (Lib.hid (integAll_bd (gpx_bd hallH.out pw) (by omega) (by omega))) _ _ _ _ (by omega) (by omega) (by omega) (by omega) (by omega) (by omega) (by omega) (by omega) (by omega) (by omega) wr (row_rd' (by rw [integAll_length]; exact hNH.out) rowi)).mono ?_
        rintro e W3 ⟨rfl, hb3⟩
        rw [hbxH.out]
        have row4 := row_below rowk hb3
        have hcell := row4.cellAt k (by omega)
        have hfr := row4.frozenAt k
        have hst := row4.stored k (.int .i64 ((fun y => rect (gpx pw xs) 0 y pw (y + 1)) k))
        have hc2 : ((layTo (fun y => rect (gpx pw xs) 0 y pw (y + 1)) ph k).map (Value.int .i64))[k]? = some (.int .i64 0) := by simp [layTo, hlt]
        rw [hc2] at hcell
        clear hc2
        have hst1 := hst.1
        rw [map_set_int, hlay.out] at hst1
        go_wp2_with fail
        go_roundw
        case rel => exact ⟨k + 1, by omega, by go_num, grown_trans hg (grown_trans (grown_of_below hb3 _) hst.2), hst1⟩
        case measure => simp [intOf]; omega
      · have hkc : k = ph := by omega
        rw [hkc, layTo_all] at rowk
        go_wp2_with fail
        rw [hspH.out]
        exact bodyPost_ret (v := .tuple #[.slice (some ⟨G, 0, none⟩) ph ph, .int .i64 0]) (by simp [results, Try.results36, go_sem]) rfl (ret_row (by simp [sumsR]) rowk hBr)

set_option maxRecDepth 100000 in
set_option maxHeartbeats 4000000 in
theorem Cols_any (iw ih : Int) (a : Option Addr) (c n : Nat) (xs : List Int) (hn : Hid (xs.length = n)) (w : World) (hm : n ≤ 9223372036854775807) (hr : Rd w.heap.size w a xs) :
    Calls Try.prog 39 #[imv iw ih a n c] w (RetRow w.heap.size (colsS iw ih xs) w) := by
  obtain ⟨i0, hi, hz0, hz1, hz2⟩ := info_parts info_int
  have hB0 : Below w.heap.size w (w.alloc (.cells #[.int .i64 iw, .int .i64 ih, .slice a n c] 24)) := below_al (Below.refl _ _) _
  obtain ⟨v0, hv⟩ : ∃ v, vld iw ih xs = v := ⟨_, rfl⟩
  have v0H := Lib.hid hv
  have hsp := Lib.hid (show colsS iw ih xs = if v0 = true then (colsS iw ih xs) else noRow 20 by
    unfold colsS
    rw [hv]
    cases v0 <;> rfl)
  clear hv
  go_enter Try.func39, Try.ntmps39
  go_wp2_with fail
  refine (valid_any iw ih a c xs n hn _ hm ((hr.below (Nat.le_refl _) hB0).mono hB0.size)).mono ?_
  rintro e W1 ⟨rfl, hb1⟩
  rw [v0H.out]
  have hB1 : Below w.heap.size w W1 := hB0.trans (hb1.mono hB0.size)
  have k5 := (Blk.new w 24 #[.int .i64 iw, .int .i64 ih, .slice a n c]).below hb1 (by simp)
  clear hb1 hB0
  cases v0 with
  | false =>
    go_wp2_with fail
    rw [hsp.out]
    exact bodyPost_ret (v := .tuple #[.slice none 0 0, .int .i64 20]) (by simp [results, Try.results39, go_sem]) rfl (ret_none hB1)
  | true =>
    have hsp2 : colsS iw ih xs = { px := sumsC iw.toNat ih.toNat (gpx iw.toNat xs), err := 0 } := by unfold colsS; rw [v0H.out]; rfl
    obtain ⟨⟨i1, i2⟩, ⟨i3, i4⟩, hlen, hall⟩ := vld_true v0H.out
    rw [hn.out] at hlen
    have hlenH := Lib.hid hlen
    have hallH := Lib.hid hall
    clear hlen hall hsp
    obtain ⟨pw, rfl⟩ : ∃ pw : Nat, iw = (pw : Int) := ⟨iw.toNat, by omega⟩
    obtain ⟨ph, rfl⟩ : ∃ ph : Nat, ih = (ph : Int) := ⟨ih.toNat, by omega⟩
    simp only [Int.toNat_natCast] at hsp2
    have hspH := Lib.hid hsp2
    clear hsp2
    have a0 := k5.cell (i := 0) rfl
    have a1 := k5.cell (i := 1) rfl
    have a2 := k5.cell (i := 2) rfl
    go_wp2_with fail
    obtain ⟨N, hN⟩ : ∃ N, (pw + 1) * (ph + 1) = N := ⟨_, rfl⟩
    have hNH := Lib.hid hN
    clear hN
    refine (integral_any pw ph a c n xs hn (by omega) (by omega) (by omega) (by omega) hlenH hallH N hNH W1 ((hr.below (Nat.le_refl _) hB1).mono hB1.size)).mono ?_
    rintro e W2 ⟨g, rfl, hrow, hb⟩
    replace hrow := row_base hrow hB1.size
    clear a0 a1 a2
    have hB2 := hB1.trans (hb.mono hB1.size)
    replace k5 := k5.below hb k5.lt
    clear hb hB1
    have a0 := k5.cell (i := 0) rfl
    have a1 := k5.cell (i := 1) rfl
    have a2 := k5.cell (i := 2) rfl
    have hzH := Lib.hid (made_zero pw)
    go_wp2_with (at_make; refine wpList_make_full _ rfl _ _ 22 rfl w.heap.size 3 i0 (.int .i64 0) 1 Try.underlying22 hi hz0 hz1 .i64 .i64 (pw : Int) (pw : Int) pw rfl rfl rfl rfl (by rw [hz2]; omega) (by unfold maxLen; omega) hB2.size ?_; intro w1 hown hg)
    have hne := k5.not_row (by decide) hrow
    have hgne : g ≠ W2.heap.size := by have := hrow.lt g rfl; omega
    have hB3 : Below w.heap.size w w1 := hB2.grown hg hB2.size (fun k e => by cases e)
    have row1 := hrow.kept hg (.inr (by simp [Value.ownBlock]))
    replace k5 := k5.kept hg (by simp)
    clear a0 a1 a2
    have hs1 := hg.size
    have hs2 := hB2.size
    obtain ⟨G, hG⟩ : ∃ G, W2.heap.size = G := ⟨_, rfl⟩
    rw [hG] at hown hgne hs1 hs2 ⊢
    clear hB2 hg hrow hG
    clear W2
    rw [hzH.out, ← layTo_zero (fun x => rect (gpx pw xs) x 0 (x + 1) ph)] at hown
    have neH := Lib.hid (k5.not_row (by decide) hown)
    have hs3 := hown.lt G rfl
    go_loopw [6, 17] (fun u i wr => ∃ k : Nat, k ≤ pw ∧ i = .int .i64 (k : Int) ∧ w1.grownBy wr (some G) ∧ wr.ownsRow w.heap.size 3 1 (.slice (some ⟨G, 0, none⟩) pw pw) pw ((layTo (fun x => rect (gpx pw xs) x 0 (x + 1) ph) pw k).map (Value.int .i64))) (fun u i _ => pw - (intOf i).toNat)
    case atStart => exact ⟨0, Nat.zero_le _, rfl, ⟨rfl, rfl, rfl, Nat.le_refl _, fun _ _ _ => rfl⟩, hown⟩
    case round =>
      obtain ⟨k, hk, rfl, hg, rowk⟩ := hrel
      have hBr : Below w.heap.size w wr := hB3.grown hg hB3.size (fun j e => by cases e; exact hs2)
      by_cases hlt : k < pw
      · have k5r := k5.kept hg neH.out
        have rowi := row1.kept hg (.inr (by simp [Value.ownBlock]; exact fun e => hgne e))
        have m0 := k5r.cell (i := 0) rfl
        have m1 := k5r.cell (i := 1) rfl
        have m2 := k5r.cell (i := 2) rfl
        have hbx := boxF_rect pw ph (gpx pw xs) (x0 := (k : Int)) (y0 := 0) (x1 := (k : Int) + 1) (y1 := (ph : Int)) (by omega) (by omega) (by omega) (by omega) (by omega) (by omega)
        have hlay := Lib.hid (layTo_set (fun x => rect (gpx pw xs) x 0 (x + 1) ph) hlt)
        simp only [Int.toNat_natCast, Int.toNat_zero, Int.toNat_natCast_add_one] at hbx
        have hbxH := Lib.hid hbx
        clear hbx
        go_wp2_with fail
        refine (box_any pw ph a c n _ N N (integAll pw ph (gpx pw xs)) (Lib.hid (by rw [integAll_length]; exact hNH.out)) (Lib.hid (by rw [← hNH.out]; simp)) (Lib.hid (integAll_bd (gpx_bd hallH.out pw) (by omega) (by omega))) _ _ _ _ (by omega) (by omega) (by omega) (by omega) (by omega) (by omega) (by omega) (by omega) (by omega) (by omega) wr (row_rd' (by rw [integAll_length]; exact hNH.out) rowi)).mono ?_
        rintro e W3 ⟨rfl, hb3⟩
        rw [hbxH.out]
        have row4 := row_below rowk hb3
        have hcell := row4.cellAt k (by omega)
        have hfr := row4.frozenAt k
        have hst := row4.stored k (.int .i64 ((fun x => rect (gpx pw xs) x 0 (x + 1) ph) k))
        have hc2 : ((layTo (fun x => rect (gpx pw xs) x 0 (x + 1) ph) pw k).map (Value.int .i64))[k]? = some (.int .i64 0) := by simp [layTo, hlt]
        rw [hc2] at hcell
        clear hc2
        have hst1 := hst.1
        rw [map_set_int, hlay.out] at hst1
        go_wp2_with fail
        go_roundw
        case rel => exact ⟨k + 1, by omega, by go_num, grown_trans hg (grown_trans (grown_of_below hb3 _) hst.2), hst1⟩
        case measure => simp [intOf]; omega
      · have hkc : k = pw := by omega
        rw [hkc, layTo_all] at rowk
        go_wp2_with fail
        rw [hspH.out]
        exact bodyPost_ret (v := .tuple #[.slice (some ⟨G, 0, none⟩) pw pw, .int .i64 0]) (by simp [results, Try.results39, go_sem]) rfl (ret_row (by simp [sumsC]) rowk hBr)

set_option maxRecDepth 100000 in
set_option maxHeartbeats 4000000 in
theorem rRows_any (iw ih : Int) (a : Option Addr) (c n : Nat) (xs : List Int) (hn : Hid (xs.length = n)) (w : World) (hm : n ≤ 9223372036854775807) (hr : Rd w.heap.size w a xs) :
    Calls Try.prog 37 #[imv iw ih a n c] w (RetRow w.heap.size (rowsS iw ih xs) w) := by
  obtain ⟨i0, hi, hz0, hz1, hz2⟩ := info_parts info_int
  have hB0 : Below w.heap.size w (w.alloc (.cells #[.int .i64 iw, .int .i64 ih, .slice a n c] 24)) := below_al (Below.refl _ _) _
  obtain ⟨v0, hv⟩ : ∃ v, vld iw ih xs = v := ⟨_, rfl⟩
  have v0H := Lib.hid hv
  have hsp := Lib.hid (show rowsS iw ih xs = if v0 = true then (rowsS iw ih xs) else noRow 20 by
    unfold rowsS
    rw [hv]
    cases v0 <;> rfl)
  clear hv
  go_enter Try.func37, Try.ntmps37
  go_wp2_with fail
  refine (Valid_any iw ih a c xs n hn _ hm ((hr.below (Nat.le_refl _) hB0).mono hB0.size)).mono ?_
  rintro e W1 ⟨rfl, hb1⟩
  rw [v0H.out]
  have hB1 : Below w.heap.size w W1 := hB0.trans (hb1.mono hB0.size)
  have k5 := (Blk.new w 24 #[.int .i64 iw, .int .i64 ih, .slice a n c]).below hb1 (by simp)
  clear hb1 hB0
  cases v0 with
  | false =>
    go_wp2_with fail
    rw [hsp.out]
    exact bodyPost_ret (v := .tuple #[.slice none 0 0, .int .i64 20]) (by simp [results, Try.results37, go_sem]) rfl (ret_none hB1)
  | true =>
    have hsp2 : rowsS iw ih xs = { px := sumsR iw.toNat ih.toNat (gpx iw.toNat xs), err := 0 } := by unfold rowsS; rw [v0H.out]; rfl
    obtain ⟨⟨i1, i2⟩, ⟨i3, i4⟩, hlen, hall⟩ := vld_true v0H.out
    rw [hn.out] at hlen
    have hlenH := Lib.hid hlen
    have hallH := Lib.hid hall
    clear hlen hall hsp
    obtain ⟨pw, rfl⟩ : ∃ pw : Nat, iw = (pw : Int) := ⟨iw.toNat, by omega⟩
    obtain ⟨ph, rfl⟩ : ∃ ph : Nat, ih = (ph : Int) := ⟨ih.toNat, by omega⟩
    simp only [Int.toNat_natCast] at hsp2
    have hspH := Lib.hid hsp2
    clear hsp2
    have a0 := k5.cell (i := 0) rfl
    have a1 := k5.cell (i := 1) rfl
    have a2 := k5.cell (i := 2) rfl
    go_wp2_with fail
    clear a0 a1 a2
    have hs1 := hB1.size
    go_loopw [4, 5] (fun v i wr => ∃ k : Nat, k ≤ ph ∧ i = .int .i64 (k : Int) ∧ wr.ownsRow w.heap.size 3 1 v k (((List.range k).map (fun y => rect (gpx pw xs) 0 y pw (y + 1))).map (Value.int .i64)) ∧ Blk wr w.heap.size 24 #[.int .i64 pw, .int .i64 ph, .slice a n c] ∧ Below w.heap.size w wr) (fun _ i _ => ph - (intOf i).toNat)
    case atStart => exact ⟨0, Nat.zero_le _, rfl, World.ownsRow_nil _ _ _ _, k5, hB1⟩
    case round =>
      obtain ⟨k, hk, rfl, hown, k5, hB⟩ := hrel
      have m0 := k5.cell (i := 0) rfl
      have m1 := k5.cell (i := 1) rfl
      have m2 := k5.cell (i := 2) rfl
      by_cases hlt : k < ph
      · have hnew := Lib.hid (show ((List.range k).map (fun y => rect (gpx pw xs) 0 y pw (y + 1))).map (Value.int .i64) ++ [.int .i64 ((fun y => rect (gpx pw xs) 0 y pw (y + 1)) k)] = ((List.range (k + 1)).map (fun y => rect (gpx pw xs) 0 y pw (y + 1))).map (Value.int .i64) by rw [List.range_succ, List.map_append, List.map_append]; rfl)
        obtain ⟨r, hr0⟩ : ∃ r, (fun y => rect (gpx pw xs) 0 y pw (y + 1)) k = r := ⟨_, rfl⟩
        rw [hr0] at hnew
        have hrH := Lib.hid hr0
        clear hr0
        go_wp2_with fail
        refine (Sum_int pw ph a c n xs hn _ _ _ _ r (by omega) (by omega) (by omega) (by omega) (by omega) (by omega) (by omega) (by omega) (by omega) (by omega) hlenH hallH (Lib.hid (by rw [← hrH.out]; simp only [Int.toNat_natCast, Int.toNat_zero, Int.toNat_natCast_add_one])) wr ((hr.below (Nat.le_refl _) hB).mono hB.size)).mono ?_
        rintro e W3 ⟨rfl, hb3⟩
        have hownA := (row_below hown hb3).alloc (.cells #[.int .i64 r] 3)
        have k5A := (k5.below hb3 k5.lt).alloc (.cells #[.int .i64 r] 3)
        have hBA := below_al (hB.trans (hb3.mono hB.size)) (.cells #[.int .i64 r] 3)
        clear m0 m1 m2
        go_wp2_with (at_builtin; refine wpList_append_own _ rfl _ _ 22 rfl w.heap.size 3 i0 (.int .i64 0) 1 8 Try.underlying22 hi hz0 hz1 hz2 rfl (by decide) u4 k (((List.range k).map (fun y => rect (gpx pw xs) 0 y pw (y + 1))).map (Value.int .i64)) rfl hownA ⟨W3.heap.size, 0, none⟩ 1 1 [.int .i64 r] rfl rfl (cell_one_new _ _ _) (by simp [Value.oneCell']) (by unfold maxLen; omega) (by omega) hBA.size ?_; intro v' w4 hown' hgrow hnil)
        rw [hnew.out] at hown'
        have k5B := k5A.kept hgrow (k5A.not_row (by decide) hownA)
        have hBB := hBA.trans (below_of_row (n := w.heap.size) hownA hgrow (Nat.le_refl _) hBA.size)
        go_roundw
        case rel => exact ⟨k + 1, by omega, by go_num, hown', k5B, hBB⟩
        case measure => simp [intOf]; omega
      · have hkc : k = ph := by omega
        rw [hkc] at hown
        obtain ⟨sa, sc, rfl⟩ := row_slice hown
        go_wp2_with fail
        rw [hspH.out]
        exact bodyPost_ret (v := .tuple #[.slice sa ph sc, .int .i64 0]) (by simp [results, Try.results37, go_sem]) rfl (ret_row (by simp [sumsR]) hown hB)

set_option maxRecDepth 100000 in
set_option maxHeartbeats 4000000 in
theorem rCols_any (iw ih : Int) (a : Option Addr) (c n : Nat) (xs : List Int) (hn : Hid (xs.length = n)) (w : World) (hm : n ≤ 9223372036854775807) (hr : Rd w.heap.size w a xs) :
    Calls Try.prog 40 #[imv iw ih a n c] w (RetRow w.heap.size (colsS iw ih xs) w) := by
  obtain ⟨i0, hi, hz0, hz1, hz2⟩ := info_parts info_int
  have hB0 : Below w.heap.size w (w.alloc (.cells #[.int .i64 iw, .int .i64 ih, .slice a n c] 24)) := below_al (Below.refl _ _) _
  obtain ⟨v0, hv⟩ : ∃ v, vld iw ih xs = v := ⟨_, rfl⟩
  have v0H := Lib.hid hv
  have hsp := Lib.hid (show colsS iw ih xs = if v0 = true then (colsS iw ih xs) else noRow 20 by
    unfold colsS
    rw [hv]
    cases v0 <;> rfl)
  clear hv
  go_enter Try.func40, Try.ntmps40
  go_wp2_with fail
  refine (Valid_any iw ih a c xs n hn _ hm ((hr.below (Nat.le_refl _) hB0).mono hB0.size)).mono ?_
  rintro e W1 ⟨rfl, hb1⟩
  rw [v0H.out]
  have hB1 : Below w.heap.size w W1 := hB0.trans (hb1.mono hB0.size)
  have k5 := (Blk.new w 24 #[.int .i64 iw, .int .i64 ih, .slice a n c]).below hb1 (by simp)
  clear hb1 hB0
  cases v0 with
  | false =>
    go_wp2_with fail
    rw [hsp.out]
    exact bodyPost_ret (v := .tuple #[.slice none 0 0, .int .i64 20]) (by simp [results, Try.results40, go_sem]) rfl (ret_none hB1)
  | true =>
    have hsp2 : colsS iw ih xs = { px := sumsC iw.toNat ih.toNat (gpx iw.toNat xs), err := 0 } := by unfold colsS; rw [v0H.out]; rfl
    obtain ⟨⟨i1, i2⟩, ⟨i3, i4⟩, hlen, hall⟩ := vld_true v0H.out
    rw [hn.out] at hlen
    have hlenH := Lib.hid hlen
    have hallH := Lib.hid hall
    clear hlen hall hsp
    obtain ⟨pw, rfl⟩ : ∃ pw : Nat, iw = (pw : Int) := ⟨iw.toNat, by omega⟩
    obtain ⟨ph, rfl⟩ : ∃ ph : Nat, ih = (ph : Int) := ⟨ih.toNat, by omega⟩
    simp only [Int.toNat_natCast] at hsp2
    have hspH := Lib.hid hsp2
    clear hsp2
    have a0 := k5.cell (i := 0) rfl
    have a1 := k5.cell (i := 1) rfl
    have a2 := k5.cell (i := 2) rfl
    go_wp2_with fail
    clear a0 a1 a2
    have hs1 := hB1.size
    go_loopw [4, 5] (fun v i wr => ∃ k : Nat, k ≤ pw ∧ i = .int .i64 (k : Int) ∧ wr.ownsRow w.heap.size 3 1 v k (((List.range k).map (fun x => rect (gpx pw xs) x 0 (x + 1) ph)).map (Value.int .i64)) ∧ Blk wr w.heap.size 24 #[.int .i64 pw, .int .i64 ph, .slice a n c] ∧ Below w.heap.size w wr) (fun _ i _ => pw - (intOf i).toNat)
    case atStart => exact ⟨0, Nat.zero_le _, rfl, World.ownsRow_nil _ _ _ _, k5, hB1⟩
    case round =>
      obtain ⟨k, hk, rfl, hown, k5, hB⟩ := hrel
      have m0 := k5.cell (i := 0) rfl
      have m1 := k5.cell (i := 1) rfl
      have m2 := k5.cell (i := 2) rfl
      by_cases hlt : k < pw
      · have hnew := Lib.hid (show ((List.range k).map (fun x => rect (gpx pw xs) x 0 (x + 1) ph)).map (Value.int .i64) ++ [.int .i64 ((fun x => rect (gpx pw xs) x 0 (x + 1) ph) k)] = ((List.range (k + 1)).map (fun x => rect (gpx pw xs) x 0 (x + 1) ph)).map (Value.int .i64) by rw [List.range_succ, List.map_append, List.map_append]; rfl)
        obtain ⟨r, hr0⟩ : ∃ r, (fun x => rect (gpx pw xs) x 0 (x + 1) ph) k = r := ⟨_, rfl⟩
        rw [hr0] at hnew
        have hrH := Lib.hid hr0
        clear hr0
        go_wp2_with fail
        refine (Sum_int pw ph a c n xs hn _ _ _ _ r (by omega) (by omega) (by omega) (by omega) (by omega) (by omega) (by omega) (by omega) (by omega) (by omega) hlenH hallH (Lib.hid (by rw [← hrH.out]; simp only [Int.toNat_natCast, Int.toNat_zero, Int.toNat_natCast_add_one])) wr ((hr.below (Nat.le_refl _) hB).mono hB.size)).mono ?_
        rintro e W3 ⟨rfl, hb3⟩
        have hownA := (row_below hown hb3).alloc (.cells #[.int .i64 r] 3)
        have k5A := (k5.below hb3 k5.lt).alloc (.cells #[.int .i64 r] 3)
        have hBA := below_al (hB.trans (hb3.mono hB.size)) (.cells #[.int .i64 r] 3)
        clear m0 m1 m2
        go_wp2_with (at_builtin; refine wpList_append_own _ rfl _ _ 22 rfl w.heap.size 3 i0 (.int .i64 0) 1 8 Try.underlying22 hi hz0 hz1 hz2 rfl (by decide) u4 k (((List.range k).map (fun x => rect (gpx pw xs) x 0 (x + 1) ph)).map (Value.int .i64)) rfl hownA ⟨W3.heap.size, 0, none⟩ 1 1 [.int .i64 r] rfl rfl (cell_one_new _ _ _) (by simp [Value.oneCell']) (by unfold maxLen; omega) (by omega) hBA.size ?_; intro v' w4 hown' hgrow hnil)
        rw [hnew.out] at hown'
        have k5B := k5A.kept hgrow (k5A.not_row (by decide) hownA)
        have hBB := hBA.trans (below_of_row (n := w.heap.size) hownA hgrow (Nat.le_refl _) hBA.size)
        go_roundw
        case rel => exact ⟨k + 1, by omega, by go_num, hown', k5B, hBB⟩
        case measure => simp [intOf]; omega
      · have hkc : k = pw := by omega
        rw [hkc] at hown
        obtain ⟨sa, sc, rfl⟩ := row_slice hown
        go_wp2_with fail
        rw [hspH.out]
        exact bodyPost_ret (v := .tuple #[.slice sa pw sc, .int .i64 0]) (by simp [results, Try.results40, go_sem]) rfl (ret_row (by simp [sumsC]) hown hB)

set_option maxRecDepth 100000 in
set_option maxHeartbeats 4000000 in
theorem rIntegral_any (iw ih : Int) (a : Option Addr) (c n : Nat) (xs : List Int) (hn : Hid (xs.length = n)) (w : World) (hm : n ≤ 9223372036854775807) (hr : Rd w.heap.size w a xs) :
    Calls Try.prog 42 #[imv iw ih a n c] w (RetRow w.heap.size (integralS iw ih xs) w) := by
  obtain ⟨i0, hi, hz0, hz1, hz2⟩ := info_parts info_int
  have hB0 : Below w.heap.size w (w.alloc (.cells #[.int .i64 iw, .int .i64 ih, .slice a n c] 24)) := below_al (Below.refl _ _) _
  obtain ⟨v0, hv⟩ : ∃ v, vld iw ih xs = v := ⟨_, rfl⟩
  have v0H := Lib.hid hv
  have hsp := Lib.hid (show integralS iw ih xs = if v0 = true then (integralS iw ih xs) else noRow 20 by
    unfold integralS
    rw [hv]
    cases v0 <;> rfl)
  clear hv
  go_enter Try.func42, Try.ntmps42
  go_wp2_with fail
  refine (Valid_any iw ih a c xs n hn _ hm ((hr.below (Nat.le_refl _) hB0).mono hB0.size)).mono ?_
  rintro e W1 ⟨rfl, hb1⟩
  rw [v0H.out]
  have hB1 : Below w.heap.size w W1 := hB0.trans (hb1.mono hB0.size)
  have k5 := (Blk.new w 24 #[.int .i64 iw, .int .i64 ih, .slice a n c]).below hb1 (by simp)
  clear hb1 hB0
  cases v0 with
  | false =>
    go_wp2_with fail
    rw [hsp.out]
    exact bodyPost_ret (v := .tuple #[.slice none 0 0, .int .i64 20]) (by simp [results, Try.results42, go_sem]) rfl (ret_none hB1)
  | true =>
    have hsp2 : integralS iw ih xs = { px := integAll iw.toNat ih.toNat (gpx iw.toNat xs), err := 0 } := by unfold integralS; rw [v0H.out]; rfl
    obtain ⟨⟨i1, i2⟩, ⟨i3, i4⟩, hlen, hall⟩ := vld_true v0H.out
    rw [hn.out] at hlen
    have hlenH := Lib.hid hlen
    have hallH := Lib.hid hall
    clear hlen hall hsp
    obtain ⟨pw, rfl⟩ : ∃ pw : Nat, iw = (pw : Int) := ⟨iw.toNat, by omega⟩
    obtain ⟨ph, rfl⟩ : ∃ ph : Nat, ih = (ph : Int) := ⟨ih.toNat, by omega⟩
    simp only [Int.toNat_natCast] at hsp2
    have hspH := Lib.hid hsp2
    clear hsp2
    have a0 := k5.cell (i := 0) rfl
    have a1 := k5.cell (i := 1) rfl
    have a2 := k5.cell (i := 2) rfl
    go_wp2_with fail
    clear a0 a1 a2
    have hs1 := hB1.size
    go_loopw [4, 5] (fun v i wr => ∃ k : Nat, k ≤ ph + 1 ∧ i = .int .i64 (k : Int) ∧ wr.ownsRow w.heap.size 3 1 v (k * (pw + 1)) (((integAll pw ph (gpx pw xs)).take (k * (pw + 1))).map (Value.int .i64)) ∧ Blk wr w.heap.size 24 #[.int .i64 pw, .int .i64 ph, .slice a n c] ∧ Below w.heap.size w wr) (fun _ i _ => ph + 1 - (intOf i).toNat)
    case atStart => exact ⟨0, Nat.zero_le _, rfl, by simpa using World.ownsRow_nil _ _ _ _, k5, hB1⟩
    case round =>
      obtain ⟨k, hk, rfl, hown, k5, hB⟩ := hrel
      have m0 := k5.cell (i := 0) rfl
      have m1 := k5.cell (i := 1) rfl
      have m2 := k5.cell (i := 2) rfl
      by_cases hlt : k ≤ ph
      · have hdec : decide ((k : Int) ≤ (ph : Int)) = true := by simp; omega
        have hkk : k * (pw + 1) ≤ 272 := by
          have := Nat.mul_le_mul (show k ≤ 16 by omega) (show pw + 1 ≤ 17 by omega)
          omega
        go_wp2_with fail
        try simp only [hdec]
        clear hdec m0 m1 m2
        go_loopw [4, 6] (fun v i wr => ∃ j : Nat, j ≤ pw + 1 ∧ i = .int .i64 (j : Int) ∧ wr.ownsRow w.heap.size 3 1 v (k * (pw + 1) + j) (((integAll pw ph (gpx pw xs)).take (k * (pw + 1) + j)).map (Value.int .i64)) ∧ Blk wr w.heap.size 24 #[.int .i64 pw, .int .i64 ph, .slice a n c] ∧ Below w.heap.size w wr) (fun _ i _ => pw + 1 - (intOf i).toNat)
        case atStart => exact ⟨0, Nat.zero_le _, rfl, hown, k5, hB⟩
        case round =>
          obtain ⟨j, hj, rfl, hown, k5, hB⟩ := hrel
          have m0 := k5.cell (i := 0) rfl
          have m1 := k5.cell (i := 1) rfl
          have m2 := k5.cell (i := 2) rfl
          by_cases hltj : j ≤ pw
          · have hnew := Lib.hid (show ((integAll pw ph (gpx pw xs)).take (k * (pw + 1) + j)).map (Value.int .i64) ++ [.int .i64 (gridTo (gpx pw xs) j k)] = ((integAll pw ph (gpx pw xs)).take (k * (pw + 1) + (j + 1))).map (Value.int .i64) by rw [← Nat.add_assoc, ← integAll_take pw ph (gpx pw xs) hltj hlt, List.map_append]; rfl)
            obtain ⟨r, hr0⟩ : ∃ r, gridTo (gpx pw xs) j k = r := ⟨_, rfl⟩
            rw [hr0] at hnew
            have hrH := Lib.hid hr0
            clear hr0
            go_wp2_with fail
            refine (Sum_int pw ph a c n xs hn _ _ _ _ r (by omega) (by omega) (by omega) (by omega) (by omega) (by omega) (by omega) (by omega) (by omega) (by omega) hlenH hallH (Lib.hid (by rw [← hrH.out]; simp only [Int.toNat_natCast, Int.toNat_zero, Int.toNat_natCast_add_one]; exact rect_grid _ _ _)) wr ((hr.below (Nat.le_refl _) hB).mono hB.size)).mono ?_
            rintro e W3 ⟨rfl, hb3⟩
            have hownA := (row_below hown hb3).alloc (.cells #[.int .i64 r] 3)
            have k5A := (k5.below hb3 k5.lt).alloc (.cells #[.int .i64 r] 3)
            have hBA := below_al (hB.trans (hb3.mono hB.size)) (.cells #[.int .i64 r] 3)
            clear m0 m1 m2
            go_wp2_with (at_builtin; refine wpList_append_own _ rfl _ _ 22 rfl w.heap.size 3 i0 (.int .i64 0) 1 8 Try.underlying22 hi hz0 hz1 hz2 rfl (by decide) u4 (k * (pw + 1) + j) (((integAll pw ph (gpx pw xs)).take (k * (pw + 1) + j)).map (Value.int .i64)) rfl hownA ⟨W3.heap.size, 0, none⟩ 1 1 [.int .i64 r] rfl rfl (cell_one_new _ _ _) (by simp [Value.oneCell']) (by unfold maxLen; omega) (by omega) hBA.size ?_; intro v' w4 hown' hgrow hnil)
            rw [hnew.out] at hown'
            have k5B := k5A.kept hgrow (k5A.not_row (by decide) hownA)
            have hBB := hBA.trans (below_of_row (n := w.heap.size) hownA hgrow (Nat.le_refl _) hBA.size)
            go_roundw
            case rel => exact ⟨j + 1, by omega, by go_num, hown', k5B, hBB⟩
            case measure => simp [intOf]; omega
          · have hj1 : j = pw + 1 := by omega
            rw [hj1, show k * (pw + 1) + (pw + 1) = (k + 1) * (pw + 1) by rw [Nat.add_mul, Nat.one_mul]] at hown
            clear hj1
            go_wp2_with fail
            go_roundw
            case rel => exact ⟨k + 1, by omega, by go_num, hown, k5, hB⟩
            case measure => simp [intOf]; omega
      · have hkc : k = ph + 1 := by omega
        rw [hkc, Nat.mul_comm, List.take_of_length_le (by rw [integAll_length]; exact Nat.le_refl _)] at hown
        obtain ⟨sa, sc, rfl⟩ := row_slice hown
        go_wp2_with fail
        rw [hspH.out]
        exact bodyPost_ret (v := .tuple #[.slice sa ((pw + 1) * (ph + 1)) sc, .int .i64 0]) (by simp [results, Try.results42, go_sem]) rfl (ret_row (integAll_length _ _ _) hown hB)

end Go.Proofs.Ytjglfeonoiljlaa

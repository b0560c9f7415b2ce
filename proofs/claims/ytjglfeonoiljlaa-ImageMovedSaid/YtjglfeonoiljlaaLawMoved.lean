/- The walk of the law ImageMoved: it returns true, and nothing that lay has turned. -/
import Derived.Test.YtjglfeonoiljlaaMorLaws
import Derived.Test.YtjglfeonoiljlaaAlive
namespace Go.Proofs.Ytjglfeonoiljlaa
open Go Go.RowKit Go.Shelf
set_option linter.unusedVariables false
set_option linter.unusedSimpArgs false

variable {pw ph : Nat} {xs : List Int} {dx dy fill : Int}
theorem src_one (d x y : Int) : src 1 0 d 1 x y = x + d := by unfold src; omega
theorem src_one' (d x y : Int) : src 0 1 d 1 x y = y + d := by unfold src; omega
theorem src_seven (x y : Int) : src 7 0 0 7 x y = x := by unfold src; omega
theorem src_seven' (x y : Int) : src 0 7 0 7 x y = y := by unfold src; omega

theorem warpG_rng (hx : rng xs) (hf : -2147483648 ≤ fill ∧ fill ≤ 2147483648) (t : WarpN) (x y : Int) : -2147483648 ≤ warpG pw ph xs t fill x y ∧ warpG pw ph xs t fill x y ≤ 2147483648 := by
  unfold warpG
  split
  · exact px_bd hx _
  · exact hf
theorem moved_S (hv : vld pw ph xs = true) (h1 : 1 ≤ pw ∧ pw ≤ 16) (h2 : 1 ≤ ph ∧ ph ≤ 16) (d1 : -65536 ≤ dx) (d2 : dx ≤ 65536) (d3 : -65536 ≤ dy) (d4 : dy ≤ 65536) (f1 : -2147483648 ≤ fill) (f2 : fill ≤ 2147483648) :
    warpS pw ph xs ⟨1, 0, dx, 0, 1, dy, 1⟩ pw ph fill = { w := pw, h := ph, px := img pw ph (warpG pw ph xs ⟨1, 0, dx, 0, 1, dy, 1⟩ fill), err := 0 } := by
  unfold warpS
  rw [if_pos hv, if_pos (by simp only [WarpN.ok, Bool.and_eq_true, inR_true]; omega)]
  rfl
theorem still_S (hv : vld pw ph xs = true) (h1 : 1 ≤ pw ∧ pw ≤ 16) (h2 : 1 ≤ ph ∧ ph ≤ 16) (hf : -2147483648 ≤ fill ∧ fill ≤ 2147483648) (hl : xs.length = pw * ph) (hx : rng xs) :
    warpS pw ph xs ⟨7, 0, 0, 0, 7, 0, 7⟩ pw ph fill = { w := pw, h := ph, px := xs, err := 0 } := by
  have e : img pw ph (warpG pw ph xs ⟨7, 0, 0, 0, 7, 0, 7⟩ fill) = xs := by
    refine px_ext (by rw [img_length, hl]) fun i hi => ?_
    rw [img_length] at hi
    rw [px_img (fun i hi => warpG_rng hx hf _ _ _) hi]
    have hpw : 0 < pw := by omega
    obtain ⟨x1, x2⟩ := cX_bd (pw := pw) (i := i) (by omega)
    obtain ⟨y1, y2⟩ := cY_bd (pw := pw) (ph := ph) (i := i) hi
    unfold warpG
    simp only [src_seven, src_seven']
    rw [if_pos (by simp only [Bool.and_eq_true, inR_true]; exact ⟨⟨x1, x2⟩, y1, y2⟩), cXY]
  unfold warpS
  rw [if_pos hv, if_pos (by simp only [WarpN.ok, Bool.and_eq_true, inR_true]; omega)]
  show ImR.mk _ _ (img pw ph (warpG pw ph xs ⟨7, 0, 0, 0, 7, 0, 7⟩ fill)) _ = _
  rw [e]
theorem moved_out (hx : rng xs) (hf : -2147483648 ≤ fill ∧ fill ≤ 2147483648) {k : Nat} (hk : k < pw * ph) (h : ¬ ((0 ≤ (k : Int) % (pw : Int) + dx ∧ (k : Int) % (pw : Int) + dx < pw) ∧ 0 ≤ (k : Int) / (pw : Int) + dy ∧ (k : Int) / (pw : Int) + dy < ph)) : px (img pw ph (warpG pw ph xs ⟨1, 0, dx, 0, 1, dy, 1⟩ fill)) k = fill := by
  rw [px_img (fun i hi => warpG_rng hx hf _ _ _) hk]
  unfold warpG
  simp only [src_one, src_one', cX_eq, cY_eq]
  rw [if_neg]
  simp only [Bool.and_eq_true, inR_true]
  intro hh
  exact h ⟨⟨hh.1.1, by omega⟩, hh.2.1, by omega⟩
theorem moved_in (hx : rng xs) (hf : -2147483648 ≤ fill ∧ fill ≤ 2147483648) {k : Nat} (hk : k < pw * ph) {U Y : Nat} (hu : (k : Int) % (pw : Int) + dx = U) (hv : (k : Int) / (pw : Int) + dy = Y) (h1 : U < pw) (h2 : Y < ph) : px (img pw ph (warpG pw ph xs ⟨1, 0, dx, 0, 1, dy, 1⟩ fill)) k = px xs ((Y * pw + U : Nat) : Int) := by
  rw [px_img (fun i hi => warpG_rng hx hf _ _ _) hk]
  unfold warpG
  simp only [src_one, src_one', cX_eq, cY_eq]
  rw [hu, hv, if_pos (by simp only [Bool.and_eq_true, inR_true]; omega), Int.natCast_add, Int.natCast_mul]

set_option maxRecDepth 100000 in
set_option maxHeartbeats 16000000 in
theorem law_moved (iw ih : Int) (a : Option Addr) (c n : Nat) (xs : List Int) (hn : Hid (xs.length = n)) (dx dy fill : Int) (w : World) (hm : n ≤ 9223372036854775807) (hr : Rd w.heap.size w a xs) :
    Calls Try.prog 16 #[imv iw ih a n c, .int .i64 dx, .int .i64 dy, .int .i64 fill] w fun e w' => e = .returned (.bool true) ∧ Below w.heap.size w w' := by
  obtain ⟨zv, hzv0⟩ : ∃ v, vld iw ih xs = v := ⟨_, rfl⟩
  have hzv := Lib.hid hzv0
  clear hzv0
  cases zv with
  | false =>
    have hB : Below w.heap.size w (w.alloc (.cells #[.int .i64 iw, .int .i64 ih, .slice a n c] 24)) := below_al (Below.refl _ _) _
    have ka := (Blk.new w 24 #[.int .i64 iw, .int .i64 ih, .slice a n c])
    obtain ⟨W0, hW⟩ : ∃ W, (w.alloc (.cells #[.int .i64 iw, .int .i64 ih, .slice a n c] 24)) = W := ⟨_, rfl⟩
    rw [hW] at hB ka
    have m0 := ka.cell (i := 0) rfl
    have m1 := ka.cell (i := 1) rfl
    have m2 := ka.cell (i := 2) rfl
    go_enter Try.func16, Try.ntmps16
    go_wp2_with fail
    clear hW
    refine (alive_any _).mono ?_
    rintro e V1 ⟨rfl, hb⟩
    clear m0 m1 m2
    replace ka := ka.below hb ka.lt
    replace hB := hB.trans (hb.mono hB.size)
    have m0 := ka.cell (i := 0) rfl
    have m1 := ka.cell (i := 1) rfl
    have m2 := ka.cell (i := 2) rfl
    clear hb
    go_wp2_with fail
    refine (Valid_any iw ih a c xs n hn _ (by omega) ((hr.below (Nat.le_refl _) hB).mono hB.size)).mono ?_
    rintro e V8 ⟨rfl, hb⟩
    rw [hzv.out]
    clear m0 m1 m2
    replace ka := ka.below hb ka.lt
    replace hB := hB.trans (hb.mono hB.size)
    have m0 := ka.cell (i := 0) rfl
    have m1 := ka.cell (i := 1) rfl
    have m2 := ka.cell (i := 2) rfl
    clear hb
    go_wp2_with fail
    go_ret
    exact ⟨rfl, hB⟩
  | true =>
    by_cases h0 : dx < -65536
    · have e0 : decide (dx < -65536) = true := decide_eq_true h0
      have hB : Below w.heap.size w (w.alloc (.cells #[.int .i64 iw, .int .i64 ih, .slice a n c] 24)) := below_al (Below.refl _ _) _
      have ka := (Blk.new w 24 #[.int .i64 iw, .int .i64 ih, .slice a n c])
      obtain ⟨W0, hW⟩ : ∃ W, (w.alloc (.cells #[.int .i64 iw, .int .i64 ih, .slice a n c] 24)) = W := ⟨_, rfl⟩
      rw [hW] at hB ka
      have m0 := ka.cell (i := 0) rfl
      have m1 := ka.cell (i := 1) rfl
      have m2 := ka.cell (i := 2) rfl
      go_enter Try.func16, Try.ntmps16
      go_wp2_with fail
      clear hW
      refine (alive_any _).mono ?_
      rintro e V1 ⟨rfl, hb⟩
      clear m0 m1 m2
      replace ka := ka.below hb ka.lt
      replace hB := hB.trans (hb.mono hB.size)
      have m0 := ka.cell (i := 0) rfl
      have m1 := ka.cell (i := 1) rfl
      have m2 := ka.cell (i := 2) rfl
      clear hb
      go_wp2_with fail
      refine (Valid_any iw ih a c xs n hn _ (by omega) ((hr.below (Nat.le_refl _) hB).mono hB.size)).mono ?_
      rintro e V8 ⟨rfl, hb⟩
      rw [hzv.out]
      clear m0 m1 m2
      replace ka := ka.below hb ka.lt
      replace hB := hB.trans (hb.mono hB.size)
      have m0 := ka.cell (i := 0) rfl
      have m1 := ka.cell (i := 1) rfl
      have m2 := ka.cell (i := 2) rfl
      clear hb
      go_wp2_with fail
      go_ret
      exact ⟨rfl, hB⟩
    · have e0 : decide (dx < -65536) = false := decide_eq_false h0
      by_cases h1 : 65536 < dx
      · have e1 : decide (65536 < dx) = true := decide_eq_true h1
        have hB : Below w.heap.size w (w.alloc (.cells #[.int .i64 iw, .int .i64 ih, .slice a n c] 24)) := below_al (Below.refl _ _) _
        have ka := (Blk.new w 24 #[.int .i64 iw, .int .i64 ih, .slice a n c])
        obtain ⟨W0, hW⟩ : ∃ W, (w.alloc (.cells #[.int .i64 iw, .int .i64 ih, .slice a n c] 24)) = W := ⟨_, rfl⟩
        rw [hW] at hB ka
        have m0 := ka.cell (i := 0) rfl
        have m1 := ka.cell (i := 1) rfl
        have m2 := ka.cell (i := 2) rfl
        go_enter Try.func16, Try.ntmps16
        go_wp2_with fail
        clear hW
        refine (alive_any _).mono ?_
        rintro e V1 ⟨rfl, hb⟩
        clear m0 m1 m2
        replace ka := ka.below hb ka.lt
        replace hB := hB.trans (hb.mono hB.size)
        have m0 := ka.cell (i := 0) rfl
        have m1 := ka.cell (i := 1) rfl
        have m2 := ka.cell (i := 2) rfl
        clear hb
        go_wp2_with fail
        refine (Valid_any iw ih a c xs n hn _ (by omega) ((hr.below (Nat.le_refl _) hB).mono hB.size)).mono ?_
        rintro e V8 ⟨rfl, hb⟩
        rw [hzv.out]
        clear m0 m1 m2
        replace ka := ka.below hb ka.lt
        replace hB := hB.trans (hb.mono hB.size)
        have m0 := ka.cell (i := 0) rfl
        have m1 := ka.cell (i := 1) rfl
        have m2 := ka.cell (i := 2) rfl
        clear hb
        go_wp2_with fail
        go_ret
        exact ⟨rfl, hB⟩
      · have e1 : decide (65536 < dx) = false := decide_eq_false h1
        by_cases h2 : dy < -65536
        · have e2 : decide (dy < -65536) = true := decide_eq_true h2
          have hB : Below w.heap.size w (w.alloc (.cells #[.int .i64 iw, .int .i64 ih, .slice a n c] 24)) := below_al (Below.refl _ _) _
          have ka := (Blk.new w 24 #[.int .i64 iw, .int .i64 ih, .slice a n c])
          obtain ⟨W0, hW⟩ : ∃ W, (w.alloc (.cells #[.int .i64 iw, .int .i64 ih, .slice a n c] 24)) = W := ⟨_, rfl⟩
          rw [hW] at hB ka
          have m0 := ka.cell (i := 0) rfl
          have m1 := ka.cell (i := 1) rfl
          have m2 := ka.cell (i := 2) rfl
          go_enter Try.func16, Try.ntmps16
          go_wp2_with fail
          clear hW
          refine (alive_any _).mono ?_
          rintro e V1 ⟨rfl, hb⟩
          clear m0 m1 m2
          replace ka := ka.below hb ka.lt
          replace hB := hB.trans (hb.mono hB.size)
          have m0 := ka.cell (i := 0) rfl
          have m1 := ka.cell (i := 1) rfl
          have m2 := ka.cell (i := 2) rfl
          clear hb
          go_wp2_with fail
          refine (Valid_any iw ih a c xs n hn _ (by omega) ((hr.below (Nat.le_refl _) hB).mono hB.size)).mono ?_
          rintro e V8 ⟨rfl, hb⟩
          rw [hzv.out]
          clear m0 m1 m2
          replace ka := ka.below hb ka.lt
          replace hB := hB.trans (hb.mono hB.size)
          have m0 := ka.cell (i := 0) rfl
          have m1 := ka.cell (i := 1) rfl
          have m2 := ka.cell (i := 2) rfl
          clear hb
          go_wp2_with fail
          go_ret
          exact ⟨rfl, hB⟩
        · have e2 : decide (dy < -65536) = false := decide_eq_false h2
          by_cases h3 : 65536 < dy
          · have e3 : decide (65536 < dy) = true := decide_eq_true h3
            have hB : Below w.heap.size w (w.alloc (.cells #[.int .i64 iw, .int .i64 ih, .slice a n c] 24)) := below_al (Below.refl _ _) _
            have ka := (Blk.new w 24 #[.int .i64 iw, .int .i64 ih, .slice a n c])
            obtain ⟨W0, hW⟩ : ∃ W, (w.alloc (.cells #[.int .i64 iw, .int .i64 ih, .slice a n c] 24)) = W := ⟨_, rfl⟩
            rw [hW] at hB ka
            have m0 := ka.cell (i := 0) rfl
            have m1 := ka.cell (i := 1) rfl
            have m2 := ka.cell (i := 2) rfl
            go_enter Try.func16, Try.ntmps16
            go_wp2_with fail
            clear hW
            refine (alive_any _).mono ?_
            rintro e V1 ⟨rfl, hb⟩
            clear m0 m1 m2
            replace ka := ka.below hb ka.lt
            replace hB := hB.trans (hb.mono hB.size)
            have m0 := ka.cell (i := 0) rfl
            have m1 := ka.cell (i := 1) rfl
            have m2 := ka.cell (i := 2) rfl
            clear hb
            go_wp2_with fail
            refine (Valid_any iw ih a c xs n hn _ (by omega) ((hr.below (Nat.le_refl _) hB).mono hB.size)).mono ?_
            rintro e V8 ⟨rfl, hb⟩
            rw [hzv.out]
            clear m0 m1 m2
            replace ka := ka.below hb ka.lt
            replace hB := hB.trans (hb.mono hB.size)
            have m0 := ka.cell (i := 0) rfl
            have m1 := ka.cell (i := 1) rfl
            have m2 := ka.cell (i := 2) rfl
            clear hb
            go_wp2_with fail
            go_ret
            exact ⟨rfl, hB⟩
          · have e3 : decide (65536 < dy) = false := decide_eq_false h3
            by_cases h4 : fill < -2147483648
            · have e4 : decide (fill < -2147483648) = true := decide_eq_true h4
              have hB : Below w.heap.size w (w.alloc (.cells #[.int .i64 iw, .int .i64 ih, .slice a n c] 24)) := below_al (Below.refl _ _) _
              have ka := (Blk.new w 24 #[.int .i64 iw, .int .i64 ih, .slice a n c])
              obtain ⟨W0, hW⟩ : ∃ W, (w.alloc (.cells #[.int .i64 iw, .int .i64 ih, .slice a n c] 24)) = W := ⟨_, rfl⟩
              rw [hW] at hB ka
              have m0 := ka.cell (i := 0) rfl
              have m1 := ka.cell (i := 1) rfl
              have m2 := ka.cell (i := 2) rfl
              go_enter Try.func16, Try.ntmps16
              go_wp2_with fail
              clear hW
              refine (alive_any _).mono ?_
              rintro e V1 ⟨rfl, hb⟩
              clear m0 m1 m2
              replace ka := ka.below hb ka.lt
              replace hB := hB.trans (hb.mono hB.size)
              have m0 := ka.cell (i := 0) rfl
              have m1 := ka.cell (i := 1) rfl
              have m2 := ka.cell (i := 2) rfl
              clear hb
              go_wp2_with fail
              refine (Valid_any iw ih a c xs n hn _ (by omega) ((hr.below (Nat.le_refl _) hB).mono hB.size)).mono ?_
              rintro e V8 ⟨rfl, hb⟩
              rw [hzv.out]
              clear m0 m1 m2
              replace ka := ka.below hb ka.lt
              replace hB := hB.trans (hb.mono hB.size)
              have m0 := ka.cell (i := 0) rfl
              have m1 := ka.cell (i := 1) rfl
              have m2 := ka.cell (i := 2) rfl
              clear hb
              go_wp2_with fail
              go_ret
              exact ⟨rfl, hB⟩
            · have e4 : decide (fill < -2147483648) = false := decide_eq_false h4
              by_cases h5 : 2147483648 < fill
              · have e5 : decide (2147483648 < fill) = true := decide_eq_true h5
                have hB : Below w.heap.size w (w.alloc (.cells #[.int .i64 iw, .int .i64 ih, .slice a n c] 24)) := below_al (Below.refl _ _) _
                have ka := (Blk.new w 24 #[.int .i64 iw, .int .i64 ih, .slice a n c])
                obtain ⟨W0, hW⟩ : ∃ W, (w.alloc (.cells #[.int .i64 iw, .int .i64 ih, .slice a n c] 24)) = W := ⟨_, rfl⟩
                rw [hW] at hB ka
                have m0 := ka.cell (i := 0) rfl
                have m1 := ka.cell (i := 1) rfl
                have m2 := ka.cell (i := 2) rfl
                go_enter Try.func16, Try.ntmps16
                go_wp2_with fail
                clear hW
                refine (alive_any _).mono ?_
                rintro e V1 ⟨rfl, hb⟩
                clear m0 m1 m2
                replace ka := ka.below hb ka.lt
                replace hB := hB.trans (hb.mono hB.size)
                have m0 := ka.cell (i := 0) rfl
                have m1 := ka.cell (i := 1) rfl
                have m2 := ka.cell (i := 2) rfl
                clear hb
                go_wp2_with fail
                refine (Valid_any iw ih a c xs n hn _ (by omega) ((hr.below (Nat.le_refl _) hB).mono hB.size)).mono ?_
                rintro e V8 ⟨rfl, hb⟩
                rw [hzv.out]
                clear m0 m1 m2
                replace ka := ka.below hb ka.lt
                replace hB := hB.trans (hb.mono hB.size)
                have m0 := ka.cell (i := 0) rfl
                have m1 := ka.cell (i := 1) rfl
                have m2 := ka.cell (i := 2) rfl
                clear hb
                go_wp2_with fail
                go_ret
                exact ⟨rfl, hB⟩
              · have e5 : decide (2147483648 < fill) = false := decide_eq_false h5
                obtain ⟨⟨i1, i2⟩, ⟨i3, i4⟩, hl, ha⟩ := vld_true hzv.out
                obtain ⟨pw, rfl⟩ : ∃ pw : Nat, iw = (pw : Int) := ⟨iw.toNat, by omega⟩
                obtain ⟨ph, rfl⟩ : ∃ ph : Nat, ih = (ph : Int) := ⟨ih.toNat, by omega⟩
                have hN : pw * ph = n := by
                  have h2 : ((pw * ph : Nat) : Int) = (pw : Int) * ph := by simp
                  have := hn.out
                  omega
                have hn0 : 0 < n := by rw [← hN]; exact Nat.mul_pos (by omega) (by omega)
                have hx : rng xs := ha
                have hfill : -2147483648 ≤ fill ∧ fill ≤ 2147483648 := by omega
                have hSA := Lib.hid (moved_S hzv.out (by omega) (by omega) (by omega) (by omega) (by omega) (by omega) (by omega) (by omega) : warpS pw ph xs ⟨1, 0, dx, 0, 1, dy, 1⟩ pw ph fill = _)
                have hSB := Lib.hid (still_S (fill := fill) hzv.out (by omega) (by omega) hfill (by rw [hN]; exact hn.out) hx)
                have hlA := Lib.hid (show (img pw ph (warpG pw ph xs ⟨1, 0, dx, 0, 1, dy, 1⟩ fill)).length = n from (img_length _ _ _).trans hN)
                have hout := Lib.hid (fun (k : Nat) (hk : k < n) (h : ¬ ((0 ≤ (k : Int) % (pw : Int) + dx ∧ (k : Int) % (pw : Int) + dx < pw) ∧ 0 ≤ (k : Int) / (pw : Int) + dy ∧ (k : Int) / (pw : Int) + dy < ph)) => show px (img pw ph (warpG pw ph xs ⟨1, 0, dx, 0, 1, dy, 1⟩ fill)) k = fill from moved_out hx hfill (by rw [hN]; exact hk) h)
                have hins := Lib.hid (fun (k : Nat) (hk : k < n) (U Y : Nat) (hu : (k : Int) % (pw : Int) + dx = U) (hv : (k : Int) / (pw : Int) + dy = Y) (h1 : U < pw) (h2 : Y < ph) => show px (img pw ph (warpG pw ph xs ⟨1, 0, dx, 0, 1, dy, 1⟩ fill)) k = px xs ((Y * pw + U : Nat) : Int) from moved_in hx hfill (by rw [hN]; exact hk) hu hv h1 h2)
                have hNH := Lib.hid hN
                have hrr := hr
                obtain ⟨ba, oa, rfl, hba, hca⟩ := rd_at hr hn.out hn0
                have hcaH := Lib.hid hca
                clear hca hl ha hx hN
                generalize img pw ph (warpG pw ph xs ⟨1, 0, dx, 0, 1, dy, 1⟩ fill) = A at *
                have hB : Below w.heap.size w (w.alloc (.cells #[.int .i64 pw, .int .i64 ph, .slice (some ⟨ba, oa, none⟩) n c] 24)) := below_al (Below.refl _ _) _
                have ka := (Blk.new w 24 #[.int .i64 pw, .int .i64 ph, .slice (some ⟨ba, oa, none⟩) n c])
                obtain ⟨W0, hW⟩ : ∃ W, (w.alloc (.cells #[.int .i64 pw, .int .i64 ph, .slice (some ⟨ba, oa, none⟩) n c] 24)) = W := ⟨_, rfl⟩
                rw [hW] at hB ka
                have m0 := ka.cell (i := 0) rfl
                have m1 := ka.cell (i := 1) rfl
                have m2 := ka.cell (i := 2) rfl
                go_enter Try.func16, Try.ntmps16
                go_wp2_with fail
                clear hW
                refine (alive_any _).mono ?_
                rintro e V1 ⟨rfl, hb⟩
                clear m0 m1 m2
                replace ka := ka.below hb ka.lt
                replace hB := hB.trans (hb.mono hB.size)
                have m0 := ka.cell (i := 0) rfl
                have m1 := ka.cell (i := 1) rfl
                have m2 := ka.cell (i := 2) rfl
                clear hb
                go_wp2_with fail
                refine (Valid_any pw ph (some ⟨ba, oa, none⟩) c xs n hn _ (by omega) ((hr.below (Nat.le_refl _) hB).mono hB.size)).mono ?_
                rintro e V8 ⟨rfl, hb⟩
                rw [hzv.out]
                clear m0 m1 m2
                replace ka := ka.below hb ka.lt
                replace hB := hB.trans (hb.mono hB.size)
                have m0 := ka.cell (i := 0) rfl
                have m1 := ka.cell (i := 1) rfl
                have m2 := ka.cell (i := 2) rfl
                clear hb
                go_wp2_with fail
                have hcall := Warp_any pw ph (some ⟨ba, oa, none⟩) c n xs hn ⟨1, 0, dx, 0, 1, dy, 1⟩ pw ph fill _ (by omega) ((hr.below (Nat.le_refl _) hB).mono hB.size)
                rw [hSA.out] at hcall
                refine hcall.mono ?_
                clear hcall
                rintro e V2 ⟨⟨v, hev, sl, hvl, hrow⟩, hb⟩
                have rA : V2.ownsRow w.heap.size 3 1 sl n ((A).map (Value.int .i64)) := row_base (row_len (k := (A).length) hlA.out hrow) hB.size
                obtain ⟨srAa, srAc, rfl⟩ := row_slice rA
                have he : e = .returned (.tuple #[.agg #[.int .i64 pw, .int .i64 ph, .slice srAa n srAc], .int .i64 0]) := by rw [hev, hvl]
                subst he
                clear hrow hev hvl
                clear m0 m1 m2
                replace ka := ka.below hb ka.lt
                replace hB := hB.trans (hb.mono hB.size)
                have m0 := ka.cell (i := 0) rfl
                have m1 := ka.cell (i := 1) rfl
                have m2 := ka.cell (i := 2) rfl
                clear hb
                obtain ⟨V3, hW⟩ : ∃ V3, V2.alloc (.cells #[.int .i64 pw, .int .i64 ph, .slice srAa n srAc] 24) = V3 := ⟨_, rfl⟩
                obtain ⟨bkA, hbx⟩ : ∃ bkA, V2.heap.size = bkA := ⟨_, rfl⟩
                have kA := Blk.new V2 24 #[.int .i64 pw, .int .i64 ph, .slice srAa n srAc]
                rw [hW, hbx] at kA
                have hb : Below V2.heap.size V2 V3 := alloc_below hW
                have ka' := ka.below hb ka.lt
                have lkakA := ka.lt
                rw [hbx] at lkakA
                have m0' := ka'.cell (i := 0) rfl
                have m1' := ka'.cell (i := 1) rfl
                have m2' := ka'.cell (i := 2) rfl
                have xa0 := kA.cell (i := 0) rfl
                have xa1 := kA.cell (i := 1) rfl
                have xa2 := kA.cell (i := 2) rfl
                have fxa0 := kA.frozen 0
                have fxa1 := kA.frozen 1
                have fxa2 := kA.frozen 2
                go_wp2_with fail
                clear hW
                clear hbx
                clear m0 m1 m2
                clear m0' m1' m2'
                replace ka := ka'
                clear ka'
                have m0 := ka.cell (i := 0) rfl
                have m1 := ka.cell (i := 1) rfl
                have m2 := ka.cell (i := 2) rfl
                replace rA := row_below rA hb
                replace hB := hB.trans (hb.mono hB.size)
                clear hb
                have hcall := Warp_any pw ph (some ⟨ba, oa, none⟩) c n xs hn ⟨7, 0, 0, 0, 7, 0, 7⟩ pw ph fill _ (by omega) ((hr.below (Nat.le_refl _) hB).mono hB.size)
                rw [hSB.out] at hcall
                refine hcall.mono ?_
                clear hcall
                rintro e V4 ⟨⟨v, hev, sl, hvl, hrow⟩, hb⟩
                have rB : V4.ownsRow w.heap.size 3 1 sl n ((xs).map (Value.int .i64)) := row_base (row_len (k := (xs).length) hn.out hrow) hB.size
                obtain ⟨srBa, srBc, rfl⟩ := row_slice rB
                have he : e = .returned (.tuple #[.agg #[.int .i64 pw, .int .i64 ph, .slice srBa n srBc], .int .i64 0]) := by rw [hev, hvl]
                subst he
                clear hrow hev hvl
                clear m0 m1 m2 xa0 xa1 xa2 fxa0 fxa1 fxa2
                replace ka := ka.below hb ka.lt
                replace kA := kA.below hb kA.lt
                replace rA := row_below rA hb
                replace hB := hB.trans (hb.mono hB.size)
                have m0 := ka.cell (i := 0) rfl
                have m1 := ka.cell (i := 1) rfl
                have m2 := ka.cell (i := 2) rfl
                have xa0 := kA.cell (i := 0) rfl
                have xa1 := kA.cell (i := 1) rfl
                have xa2 := kA.cell (i := 2) rfl
                have fxa0 := kA.frozen 0
                have fxa1 := kA.frozen 1
                have fxa2 := kA.frozen 2
                clear hb
                obtain ⟨V5, hW⟩ : ∃ V5, V4.alloc (.cells #[.int .i64 pw, .int .i64 ph, .slice srBa n srBc] 24) = V5 := ⟨_, rfl⟩
                obtain ⟨bkB, hbx⟩ : ∃ bkB, V4.heap.size = bkB := ⟨_, rfl⟩
                have kB := Blk.new V4 24 #[.int .i64 pw, .int .i64 ph, .slice srBa n srBc]
                rw [hW, hbx] at kB
                have hb : Below V4.heap.size V4 V5 := alloc_below hW
                have ka' := ka.below hb ka.lt
                have lkakB := ka.lt
                rw [hbx] at lkakB
                have kA' := kA.below hb kA.lt
                have lkAkB := kA.lt
                rw [hbx] at lkAkB
                have m0' := ka'.cell (i := 0) rfl
                have m1' := ka'.cell (i := 1) rfl
                have m2' := ka'.cell (i := 2) rfl
                have xa0' := kA'.cell (i := 0) rfl
                have xa1' := kA'.cell (i := 1) rfl
                have xa2' := kA'.cell (i := 2) rfl
                have fxa0' := kA'.frozen 0
                have fxa1' := kA'.frozen 1
                have fxa2' := kA'.frozen 2
                have xb0 := kB.cell (i := 0) rfl
                have xb1 := kB.cell (i := 1) rfl
                have xb2 := kB.cell (i := 2) rfl
                have fxb0 := kB.frozen 0
                have fxb1 := kB.frozen 1
                have fxb2 := kB.frozen 2
                go_wp2_with fail
                clear hW
                clear hbx
                clear m0 m1 m2 xa0 xa1 xa2 fxa0 fxa1 fxa2
                clear m0' m1' m2' xa0' xa1' xa2' fxa0' fxa1' fxa2'
                replace ka := ka'
                clear ka'
                replace kA := kA'
                clear kA'
                have m0 := ka.cell (i := 0) rfl
                have m1 := ka.cell (i := 1) rfl
                have m2 := ka.cell (i := 2) rfl
                have xa0 := kA.cell (i := 0) rfl
                have xa1 := kA.cell (i := 1) rfl
                have xa2 := kA.cell (i := 2) rfl
                have fxa0 := kA.frozen 0
                have fxa1 := kA.frozen 1
                have fxa2 := kA.frozen 2
                replace rA := row_below rA hb
                replace rB := row_below rB hb
                replace hB := hB.trans (hb.mono hB.size)
                clear hb
                refine (Same_eq pw ph srBa (some ⟨ba, oa, none⟩) srBc c n xs hn _ (by omega) (row_rd' hn.out rB) ((hr.below (Nat.le_refl _) hB).mono hB.size)).mono ?_
                rintro e V6 ⟨rfl, hb⟩
                clear m0 m1 m2 xa0 xa1 xa2 fxa0 fxa1 fxa2 xb0 xb1 xb2 fxb0 fxb1 fxb2
                replace ka := ka.below hb ka.lt
                replace kA := kA.below hb kA.lt
                replace kB := kB.below hb kB.lt
                replace rA := row_below rA hb
                replace rB := row_below rB hb
                replace hB := hB.trans (hb.mono hB.size)
                have m0 := ka.cell (i := 0) rfl
                have m1 := ka.cell (i := 1) rfl
                have m2 := ka.cell (i := 2) rfl
                have xa0 := kA.cell (i := 0) rfl
                have xa1 := kA.cell (i := 1) rfl
                have xa2 := kA.cell (i := 2) rfl
                have fxa0 := kA.frozen 0
                have fxa1 := kA.frozen 1
                have fxa2 := kA.frozen 2
                have xb0 := kB.cell (i := 0) rfl
                have xb1 := kB.cell (i := 1) rfl
                have xb2 := kB.cell (i := 2) rfl
                have fxb0 := kB.frozen 0
                have fxb1 := kB.frozen 1
                have fxb2 := kB.frozen 2
                clear hb
                go_wp2_with fail
                obtain ⟨bA, oA, hAa, hbA, hcA⟩ := rd_at (row_rd' hlA.out rA) hlA.out hn0
                subst hAa
                have hcAH := Lib.hid hcA
                clear hcA
                clear m0 m1 m2 xa0 xa1 xa2 fxa0 fxa1 fxa2 xb0 xb1 xb2 fxb0 fxb1 fxb2
                go_loopw [14] (fun i wr => ∃ k : Nat, k ≤ n ∧ i = .int .i64 (k : Int) ∧ Below V6.heap.size V6 wr) (fun i _ => n - (intOf i).toNat)
                case atStart => exact ⟨0, Nat.zero_le _, rfl, Below.refl _ _⟩
                case round =>
                  obtain ⟨k, hkn, rfl, hBw⟩ := hrel
                  have hBr : Below w.heap.size w wr := hB.trans (hBw.mono hB.size)
                  have ka' := ka.below hBw ka.lt
                  have kA' := kA.below hBw kA.lt
                  have xa2 := kA'.cell (i := 2) rfl
                  have hS : Below wr.heap.size wr wr.drew := (Below.refl _ _).drew
                  by_cases hk : k < n
                  · have hpw0 : pw ≠ 0 := by omega
                    obtain ⟨x1, x2⟩ := cX_bd (pw := pw) (i := k) (by omega)
                    obtain ⟨y1, y2⟩ := cY_bd (pw := pw) (ph := ph) (i := k) (by rw [hNH.out]; exact hk)
                    rw [cX_eq] at x1 x2
                    rw [cY_eq] at y1 y2
                    go_wp2_with fail
                    clear xa2
                    refine plain_region (fun W' => Below wr.heap.size wr W') 14 14 (by kernel_rfl) rfl ?_
                    simp only [Array.replicate_succ, Array.replicate_zero, List.push_toArray, List.nil_append, List.cons_append]
                    refine take_op 0 (v := ?uv0) rfl (by kernel_rfl) (fun _ _ _ h => h) (by rfl) hS (fun w' hS' => ?uy0) ?uz0
                    case uy0 =>
                      go_simp
                      rfl
                    simp only [List.setIfInBounds_toArray, List.set_cons_zero, List.set_cons_succ]
                    refine take_op 1 (v := ?uv1) rfl (by kernel_rfl) (fun _ _ _ h => h) (by rfl) hS (fun w' hS' => ?uy1) ?uz1
                    case uy1 =>
                      go_simp
                      rfl
                    simp only [List.setIfInBounds_toArray, List.set_cons_zero, List.set_cons_succ]
                    refine take_op 2 (v := ?uv2) rfl (by kernel_rfl) (fun _ _ _ h => h) (by rfl) hS (fun w' hS' => ?uy2) ?uz2
                    case uy2 =>
                      have m0 := (ka'.below hS' ka'.lt).cell (i := 0) rfl
                      go_simp
                      rfl
                    simp only [List.setIfInBounds_toArray, List.set_cons_zero, List.set_cons_succ]
                    refine take_op 3 (v := ?uv3) rfl (by kernel_rfl) (fun _ _ _ h => h) (by rfl) hS (fun w' hS' => ?uy3) ?uz3
                    case uy3 =>
                      go_simp
                      try go_ints
                      rfl
                    simp only [List.setIfInBounds_toArray, List.set_cons_zero, List.set_cons_succ]
                    refine take_op 4 (v := ?uv4) rfl (by kernel_rfl) (fun _ _ _ h => h) (by rfl) hS (fun w' hS' => ?uy4) ?uz4
                    case uy4 =>
                      go_simp
                      rfl
                    simp only [List.setIfInBounds_toArray, List.set_cons_zero, List.set_cons_succ]
                    refine take_op 5 (v := ?uv5) rfl (by kernel_rfl) (fun _ _ _ h => h) (by rfl) hS (fun w' hS' => ?uy5) ?uz5
                    case uy5 =>
                      go_simp
                      try go_ints
                      rfl
                    simp only [List.setIfInBounds_toArray, List.set_cons_zero, List.set_cons_succ]
                    refine take_op 6 (v := ?uv6) rfl (by kernel_rfl) (fun _ _ _ h => h) (by rfl) hS (fun w' hS' => ?uy6) ?uz6
                    case uy6 =>
                      go_simp
                      rfl
                    simp only [List.setIfInBounds_toArray, List.set_cons_zero, List.set_cons_succ]
                    refine take_op 7 (v := ?uv7) rfl (by kernel_rfl) (fun _ _ _ h => h) (by rfl) hS (fun w' hS' => ?uy7) ?uz7
                    case uy7 =>
                      go_simp
                      rfl
                    simp only [List.setIfInBounds_toArray, List.set_cons_zero, List.set_cons_succ]
                    refine take_op 8 (v := ?uv8) rfl (by kernel_rfl) (fun _ _ _ h => h) (by rfl) hS (fun w' hS' => ?uy8) ?uz8
                    case uy8 =>
                      have m0 := (ka'.below hS' ka'.lt).cell (i := 0) rfl
                      go_simp
                      rfl
                    simp only [List.setIfInBounds_toArray, List.set_cons_zero, List.set_cons_succ]
                    refine take_op 9 (v := ?uv9) rfl (by kernel_rfl) (fun _ _ _ h => h) (by rfl) hS (fun w' hS' => ?uy9) ?uz9
                    case uy9 =>
                      go_simp
                      try go_ints
                      rfl
                    simp only [List.setIfInBounds_toArray, List.set_cons_zero, List.set_cons_succ]
                    refine take_op 10 (v := ?uv10) rfl (by kernel_rfl) (fun _ _ _ h => h) (by rfl) hS (fun w' hS' => ?uy10) ?uz10
                    case uy10 =>
                      go_simp
                      rfl
                    simp only [List.setIfInBounds_toArray, List.set_cons_zero, List.set_cons_succ]
                    refine take_op 11 (v := ?uv11) rfl (by kernel_rfl) (fun _ _ _ h => h) (by rfl) hS (fun w' hS' => ?uy11) ?uz11
                    case uy11 =>
                      go_simp
                      try go_ints
                      rfl
                    simp only [List.setIfInBounds_toArray, List.set_cons_zero, List.set_cons_succ]
                    refine take_op 12 (v := ?uv12) rfl (by kernel_rfl) (fun _ _ _ h => h) (by rfl) hS (fun w' hS' => ?uy12) ?uz12
                    case uy12 =>
                      go_simp
                      rfl
                    simp only [List.setIfInBounds_toArray, List.set_cons_zero, List.set_cons_succ]
                    refine take_op 13 (v := ?uv13) rfl (by kernel_rfl) (fun _ _ _ h => h) (by rfl) hS (fun w' hS' => ?uy13) ?uz13
                    case uy13 =>
                      go_simp
                      rfl
                    simp only [List.setIfInBounds_toArray, List.set_cons_zero, List.set_cons_succ]
                    refine done_ops (by kernel_rfl) ?_
                    have ka2 := ka'.below hS ka'.lt
                    have kA2 := kA'.below hS kA'.lt
                    obtain ⟨u, hu⟩ : ∃ u, (k : Int) % (pw : Int) + dx = u := ⟨_, rfl⟩
                    obtain ⟨v, hv⟩ : ∃ v, (k : Int) / (pw : Int) + dy = v := ⟨_, rfl⟩
                    try rw [hu]
                    try rw [hv]
                    by_cases c1 : 0 ≤ u
                    · have e1 : decide (0 ≤ u) = true := decide_eq_true c1
                      by_cases c2 : u < pw
                      · have e2 : decide (u < (pw : Int)) = true := decide_eq_true c2
                        by_cases c3 : 0 ≤ v
                        · have e3 : decide (0 ≤ v) = true := decide_eq_true c3
                          by_cases c4 : v < ph
                          · have e4 : decide (v < (ph : Int)) = true := decide_eq_true c4
                            obtain ⟨U, rfl⟩ : ∃ U : Nat, u = (U : Int) := ⟨u.toNat, by omega⟩
                            obtain ⟨Y, rfl⟩ : ∃ Y : Nat, v = (Y : Int) := ⟨v.toNat, by omega⟩
                            have hq : Y * pw + U < n := by rw [← hNH.out]; exact idx_bound (by omega) (by omega)
                            have hAk : px A k = px xs ((Y * pw + U : Nat) : Int) := hins.out k hk U Y (by rw [hu]) (by rw [hv]) (by omega) (by omega)
                            have p3 : (Y : Int) * (pw : Int) + (U : Int) < (n : Int) := by
                              have e : ((Y * pw + U : Nat) : Int) = (Y : Int) * (pw : Int) + (U : Int) := by simp
                              omega
                            obtain ⟨p5, p6⟩ := mul_small (a := (Y : Int)) (b := (pw : Int)) (m := 16) (n := 16) (by omega) (by omega) (by omega) (by omega)
                            have cq := ((hBr.trans (hS.mono hBr.size)).cell (p := ⟨ba, oa + (Y * pw + U), none⟩) hba).trans (hcaH.out _ hq)
                            obtain ⟨pv, hpv⟩ : ∃ pv, px xs ((Y * pw + U : Nat) : Int) = pv := ⟨_, rfl⟩
                            rw [hpv] at hAk cq
                            have cU : U < pw := by omega
                            have cY : Y < ph := by omega
                            clear hpv c1 c2 c3 c4
                            have cA := ((hBw.trans (hS.mono hBw.size)).cell (p := ⟨bA, oA + k, none⟩) hbA).trans (hcAH.out k hk)
                            rw [hAk] at cA
                            have m0 := ka2.cell (i := 0) rfl
                            have m1 := ka2.cell (i := 1) rfl
                            have m2 := ka2.cell (i := 2) rfl
                            have x2 := kA2.cell (i := 2) rfl
                            go_wp2_with fail
                            go_roundw
                            case rel => exact ⟨k + 1, by omega, by go_num, hBw.trans (hS.mono hBw.size)⟩
                            case measure => simp [intOf]; omega
                          · have e4 : decide (v < (ph : Int)) = false := decide_eq_false c4
                            have hAk : px A k = fill := hout.out k hk (by rw [hu, hv]; omega)
                            have cA := ((hBw.trans (hS.mono hBw.size)).cell (p := ⟨bA, oA + k, none⟩) hbA).trans (hcAH.out k hk)
                            rw [hAk] at cA
                            have m0 := ka2.cell (i := 0) rfl
                            have m1 := ka2.cell (i := 1) rfl
                            have m2 := ka2.cell (i := 2) rfl
                            have x2 := kA2.cell (i := 2) rfl
                            go_wp2_with fail
                            go_roundw
                            case rel => exact ⟨k + 1, by omega, by go_num, hBw.trans (hS.mono hBw.size)⟩
                            case measure => simp [intOf]; omega
                        · have e3 : decide (0 ≤ v) = false := decide_eq_false c3
                          have hAk : px A k = fill := hout.out k hk (by rw [hu, hv]; omega)
                          have cA := ((hBw.trans (hS.mono hBw.size)).cell (p := ⟨bA, oA + k, none⟩) hbA).trans (hcAH.out k hk)
                          rw [hAk] at cA
                          have m0 := ka2.cell (i := 0) rfl
                          have m1 := ka2.cell (i := 1) rfl
                          have m2 := ka2.cell (i := 2) rfl
                          have x2 := kA2.cell (i := 2) rfl
                          go_wp2_with fail
                          go_roundw
                          case rel => exact ⟨k + 1, by omega, by go_num, hBw.trans (hS.mono hBw.size)⟩
                          case measure => simp [intOf]; omega
                      · have e2 : decide (u < (pw : Int)) = false := decide_eq_false c2
                        have hAk : px A k = fill := hout.out k hk (by rw [hu, hv]; omega)
                        have cA := ((hBw.trans (hS.mono hBw.size)).cell (p := ⟨bA, oA + k, none⟩) hbA).trans (hcAH.out k hk)
                        rw [hAk] at cA
                        have m0 := ka2.cell (i := 0) rfl
                        have m1 := ka2.cell (i := 1) rfl
                        have m2 := ka2.cell (i := 2) rfl
                        have x2 := kA2.cell (i := 2) rfl
                        go_wp2_with fail
                        go_roundw
                        case rel => exact ⟨k + 1, by omega, by go_num, hBw.trans (hS.mono hBw.size)⟩
                        case measure => simp [intOf]; omega
                    · have e1 : decide (0 ≤ u) = false := decide_eq_false c1
                      have hAk : px A k = fill := hout.out k hk (by rw [hu, hv]; omega)
                      have cA := ((hBw.trans (hS.mono hBw.size)).cell (p := ⟨bA, oA + k, none⟩) hbA).trans (hcAH.out k hk)
                      rw [hAk] at cA
                      have m0 := ka2.cell (i := 0) rfl
                      have m1 := ka2.cell (i := 1) rfl
                      have m2 := ka2.cell (i := 2) rfl
                      have x2 := kA2.cell (i := 2) rfl
                      go_wp2_with fail
                      go_roundw
                      case rel => exact ⟨k + 1, by omega, by go_num, hBw.trans (hS.mono hBw.size)⟩
                      case measure => simp [intOf]; omega
                  · have hkk : n = k := by omega
                    subst hkk
                    go_wp2_with fail
                    go_ret
                    exact ⟨rfl, hBr⟩

end Go.Proofs.Ytjglfeonoiljlaa

/- The contracts of the functions that read one pixel, or tell whether a place is a pixel, or whether an image is valid. -/
import Derived.Test.YtbfigbpjoaccdaaImgA
namespace Go.Proofs.Ytbfigbpjoaccdaa
open Go Go.RowKit Go.Shelf
set_option linter.unusedVariables false
set_option linter.unusedSimpArgs false

/-- The pixel with an index. -/
def px (xs : List Int) (i : Int) : Int := xs[i.toNat]?.getD 0

/-- An image's value. -/
abbrev imv (iw ih : Int) (a : Option Addr) (n c : Nat) : Value := .agg #[.int .i64 iw, .int .i64 ih, .slice a n c]

theorem within1 (lo hi x : Int) (v : Bool) (hv : inR x lo hi = v) (b o : Nat) (c : Nat) (w : World) (h : w.cell? ⟨b, o, none⟩ = some (.int .i64 x)) :
    Calls Try.prog 50 #[.int .i64 lo, .int .i64 hi, .slice (some ⟨b, o, none⟩) 1 c] w fun e w' => e = .returned (.bool v) ∧ w = w' := by
  subst hv
  have h' := within_any lo hi (some ⟨b, o, none⟩) c [x] w (by simp) (.inr ⟨b, o, rfl, World.block_lt_of_cell? w _ h, fun i hi => by
    have : i = 0 := by simp at hi; omega
    subst this; exact h⟩)
  refine h'.mono fun e w' ⟨he, hw⟩ => ⟨he.trans (ret_bool (by simp [allIn, inR])), hw⟩

theorem within2 (lo hi x y : Int) (v : Bool) (hv : (inR x lo hi && inR y lo hi) = v) (b o : Nat) (c : Nat) (w : World) (h : w.cell? ⟨b, o, none⟩ = some (.int .i64 x)) (h1 : w.cell? ⟨b, o + 1, none⟩ = some (.int .i64 y)) :
    Calls Try.prog 50 #[.int .i64 lo, .int .i64 hi, .slice (some ⟨b, o, none⟩) 2 c] w fun e w' => e = .returned (.bool v) ∧ w = w' := by
  subst hv
  have h' := within_any lo hi (some ⟨b, o, none⟩) c [x, y] w (by simp) (.inr ⟨b, o, rfl, World.block_lt_of_cell? w _ h, fun i hi => by
    have : i = 0 ∨ i = 1 := by simp at hi; omega
    rcases this with rfl | rfl
    · exact h
    · exact h1⟩)
  refine h'.mono fun e w' ⟨he, hw⟩ => ⟨he.trans (ret_bool (by simp [allIn, inR])), hw⟩

set_option maxHeartbeats 400000 in
theorem at_any (iw ih x y : Int) (a : Option Addr) (c : Nat) (xs : List Int) (n : Nat) (hn : Hid (xs.length = n)) (w : World) (b1 : -4611686018427387904 ≤ y * iw) (b2 : y * iw ≤ 4611686018427387904) (h0 : 0 ≤ y * iw + x) (h1 : y * iw + x < n) (hm : n ≤ 9223372036854775807) (hr : Rd w.heap.size w a xs) :
    Calls Try.prog 55 #[imv iw ih a n c, .int .i64 x, .int .i64 y] w fun e w' => e = .returned (.int .i64 (px xs (y * iw + x))) ∧ Below w.heap.size w w' := by
  rcases hr with h | ⟨b, o, rfl, hb, hc⟩
  · exfalso; have := hn.out; rw [h] at this; simp at this; omega
  obtain ⟨v, hv⟩ : ∃ v, px xs (y * iw + x) = v := ⟨_, rfl⟩
  have hcell := hc (y * iw + x).toNat (by have := hn.out; omega)
  unfold px at hv
  rw [hv] at hcell
  have hvH := Lib.hid hv
  clear hc hv
  go_enter Try.func55, Try.ntmps55
  go_wp2
  go_ret
  exact ⟨ret_int (by unfold px; exact hvH.out.symm), (Below.refl _ _).alloc (Nat.le_refl _) _⟩

set_option maxHeartbeats 400000 in
theorem At_any (iw ih x y : Int) (a : Option Addr) (c : Nat) (xs : List Int) (n : Nat) (hn : Hid (xs.length = n)) (w : World) (b1 : -4611686018427387904 ≤ y * iw) (b2 : y * iw ≤ 4611686018427387904) (h0 : 0 ≤ y * iw + x) (h1 : y * iw + x < n) (hm : n ≤ 9223372036854775807) (hr : Rd w.heap.size w a xs) :
    Calls Try.prog 63 #[imv iw ih a n c, .int .i64 x, .int .i64 y] w fun e w' => e = .returned (.int .i64 (px xs (y * iw + x))) ∧ Below w.heap.size w w' := by
  rcases hr with h | ⟨b, o, rfl, hb, hc⟩
  · exfalso; have := hn.out; rw [h] at this; simp at this; omega
  obtain ⟨v, hv⟩ : ∃ v, px xs (y * iw + x) = v := ⟨_, rfl⟩
  have hcell := hc (y * iw + x).toNat (by have := hn.out; omega)
  unfold px at hv
  rw [hv] at hcell
  have hvH := Lib.hid hv
  clear hc hv
  go_enter Try.func63, Try.ntmps63
  go_wp2
  go_ret
  exact ⟨ret_int (by unfold px; exact hvH.out.symm), (Below.refl _ _).alloc (Nat.le_refl _) _⟩

set_option maxHeartbeats 400000 in
theorem inside_any (iw ih x y : Int) (s : Value) (w : World) (b1 : -4611686018427387904 ≤ iw) (b2 : iw ≤ 4611686018427387904) (b3 : -4611686018427387904 ≤ ih) (b4 : ih ≤ 4611686018427387904) (hs : ∃ a n c, s = .slice a n c) :
    Calls Try.prog 70 #[.agg #[.int .i64 iw, .int .i64 ih, s], .int .i64 x, .int .i64 y] w fun e w' => e = .returned (.bool (inR x 0 (iw - 1) && inR y 0 (ih - 1))) ∧ Below w.heap.size w w' := by
  obtain ⟨a, n, c, rfl⟩ := hs
  cases h : inR x 0 (iw - 1) with
  | true =>
    obtain ⟨v2, h2⟩ : ∃ v, inR y 0 (ih - 1) = v := ⟨_, rfl⟩
    rw [h2]
    have hH := Lib.hid h
    have hH2 := Lib.hid h2
    clear h h2
    go_enter Try.func70, Try.ntmps70
    go_wp2_with fail
    refine (within1 0 (iw - 1) x true hH.out _ _ _ _ ?_).mono ?_
    · exact cell_new (by simp) rfl
    rintro e w' ⟨rfl, rfl⟩
    go_wp2_with fail
    refine (within1 0 (ih - 1) y v2 hH2.out _ _ _ _ ?_).mono ?_
    · exact cell_new (by simp) rfl
    rintro e w' ⟨rfl, rfl⟩
    go_wp2_with fail
    go_ret
    exact ⟨ret_bool (by simp), (((Below.refl _ _).alloc (Nat.le_refl _) _).alloc (by simp) _).alloc (by simp <;> omega) _⟩
  | false =>
    have hH := Lib.hid h
    clear h
    go_enter Try.func70, Try.ntmps70
    go_wp2_with fail
    refine (within1 0 (iw - 1) x false hH.out _ _ _ _ ?_).mono ?_
    · exact cell_new (by simp) rfl
    rintro e w' ⟨rfl, rfl⟩
    go_wp2_with fail
    go_ret
    exact ⟨ret_bool (by simp), (((Below.refl _ _).alloc (Nat.le_refl _) _).alloc (by simp) _)⟩

set_option maxHeartbeats 400000 in
theorem Inside_any (iw ih x y : Int) (s : Value) (w : World) (b1 : -4611686018427387904 ≤ iw) (b2 : iw ≤ 4611686018427387904) (b3 : -4611686018427387904 ≤ ih) (b4 : ih ≤ 4611686018427387904) (hs : ∃ a n c, s = .slice a n c) :
    Calls Try.prog 73 #[.agg #[.int .i64 iw, .int .i64 ih, s], .int .i64 x, .int .i64 y] w fun e w' => e = .returned (.bool (inR x 0 (iw - 1) && inR y 0 (ih - 1))) ∧ Below w.heap.size w w' := by
  obtain ⟨a, n, c, rfl⟩ := hs
  cases h : inR x 0 (iw - 1) with
  | true =>
    have hH := Lib.hid h
    clear h
    go_enter Try.func73, Try.ntmps73
    go_wp2_with fail
    refine (rwithin_any _ _ _ _).mono ?_
    rintro e w' ⟨rfl, rfl⟩
    rw [hH.out]
    go_wp2_with fail
    refine (rwithin_any _ _ _ _).mono ?_
    rintro e w' ⟨rfl, rfl⟩
    go_wp2_with fail
    go_ret
    exact ⟨ret_bool (by simp), ((Below.refl _ _).alloc (Nat.le_refl _) _)⟩
  | false =>
    have hH := Lib.hid h
    clear h
    go_enter Try.func73, Try.ntmps73
    go_wp2_with fail
    refine (rwithin_any _ _ _ _).mono ?_
    rintro e w' ⟨rfl, rfl⟩
    rw [hH.out]
    go_wp2_with fail
    go_ret
    exact ⟨ret_bool (by simp), ((Below.refl _ _).alloc (Nat.le_refl _) _)⟩


/-- An image is valid. -/
def vld (iw ih : Int) (xs : List Int) : Bool := ((inR iw 1 16 && inR ih 1 16) && decide ((xs.length : Int) = iw * ih)) && allIn (-2147483648) 2147483648 xs

theorem inR_true {n lo hi : Int} : inR n lo hi = true ↔ lo ≤ n ∧ n ≤ hi := by simp [inR]

theorem vld_true {iw ih : Int} {xs : List Int} (h : vld iw ih xs = true) : (1 ≤ iw ∧ iw ≤ 16) ∧ (1 ≤ ih ∧ ih ≤ 16) ∧ (xs.length : Int) = iw * ih ∧ allIn (-2147483648) 2147483648 xs = true := by
  simp only [vld, Bool.and_eq_true, inR_true, decide_eq_true_eq] at h
  exact ⟨h.1.1.1, h.1.1.2, h.1.2, h.2⟩

theorem len_dec (n : Nat) (p : Int) : decide ((n : Int) = p) = ((n : Int) == p) := by
  by_cases h : (n : Int) = p <;> simp [h]

set_option maxHeartbeats 1000000 in
theorem valid_any (iw ih : Int) (a : Option Addr) (c : Nat) (xs : List Int) (n : Nat) (hn : Hid (xs.length = n)) (w : World) (hm : n ≤ 9223372036854775807) (hr : Rd w.heap.size w a xs) :
    Calls Try.prog 49 #[imv iw ih a n c] w fun e w' => e = .returned (.bool (vld iw ih xs)) ∧ Below w.heap.size w w' := by
  have hvl : vld iw ih xs = (((inR iw 1 16 && inR ih 1 16) && ((n : Int) == iw * ih)) && allIn (-2147483648) 2147483648 xs) := by rw [← hn.out, ← len_dec]; rfl
  cases h1 : (inR iw 1 16 && inR ih 1 16) with
  | false =>
    have hv : vld iw ih xs = false := by rw [hvl, h1]; rfl
    have hvH := Lib.hid hv
    have hH := Lib.hid h1
    clear h1 hv hvl
    go_enter Try.func49, Try.ntmps49
    go_wp2_with fail
    refine (within2 1 16 iw ih false hH.out _ _ _ _ ?_ ?_).mono ?_
    · exact cell_new (by simp) rfl
    · exact cell_new (by simp) rfl
    rintro e w' ⟨rfl, rfl⟩
    go_wp2_with fail
    go_ret
    exact ⟨ret_bool hvH.out.symm, ((Below.refl _ _).alloc (Nat.le_refl _) _).alloc (by simp) _⟩
  | true =>
    have hh := h1
    simp only [Bool.and_eq_true, inR_true] at hh
    obtain ⟨⟨i1, i2⟩, i3, i4⟩ := hh
    obtain ⟨m1, m2⟩ := mul_small (a := iw) (b := ih) (by omega) i2 (by omega) i4
    cases h2 : ((n : Int) == iw * ih) with
    | false =>
      have hv : vld iw ih xs = false := by rw [hvl, h1, h2]; rfl
      have hvH := Lib.hid hv
      have hH := Lib.hid h1
      clear h1 hv hvl
      go_enter Try.func49, Try.ntmps49
      go_wp2_with fail
      refine (within2 1 16 iw ih true hH.out _ _ _ _ ?_ ?_).mono ?_
      · exact cell_new (by simp) rfl
      · exact cell_new (by simp) rfl
      rintro e w' ⟨rfl, rfl⟩
      go_wp2_with fail
      go_ret
      exact ⟨ret_bool hvH.out.symm, ((Below.refl _ _).alloc (Nat.le_refl _) _).alloc (by simp) _⟩
    | true =>
      have hv : vld iw ih xs = allIn (-2147483648) 2147483648 xs := by rw [hvl, h1, h2]; rfl
      have hvH := Lib.hid hv
      have hH := Lib.hid h1
      clear h1 hv hvl
      go_enter Try.func49, Try.ntmps49
      go_wp2_with fail
      refine (within2 1 16 iw ih true hH.out _ _ _ _ ?_ ?_).mono ?_
      · exact cell_new (by simp) rfl
      · exact cell_new (by simp) rfl
      rintro e w' ⟨rfl, rfl⟩
      go_wp2_with fail
      have hw := within_any (-2147483648) 2147483648 a c xs ((w.alloc (.cells #[.int .i64 iw, .int .i64 ih, .slice a n c] 27)).alloc (.cells #[.int .i64 iw, .int .i64 ih] 3)) (by rw [hn.out]; exact hm)
        ((hr.below (Nat.le_refl _) (((Below.refl _ _).alloc (Nat.le_refl _) _).alloc (by simp) _)).mono (by simp <;> omega))
      rw [hn.out] at hw
      refine hw.mono ?_
      rintro e w' ⟨rfl, rfl⟩
      go_wp2_with fail
      go_ret
      exact ⟨ret_bool (by rw [hvH.out]), ((Below.refl _ _).alloc (Nat.le_refl _) _).alloc (by simp) _⟩


theorem rwithin1 (n lo hi : Int) (v : Bool) (hv : inR n lo hi = v) (w : World) :
    Calls Try.prog 72 #[.int .i64 n, .int .i64 lo, .int .i64 hi] w fun e w' => e = .returned (.bool v) ∧ w = w' := by
  subst hv
  exact rwithin_any n lo hi w

set_option maxHeartbeats 1000000 in
theorem Valid_any (iw ih : Int) (a : Option Addr) (c : Nat) (xs : List Int) (n : Nat) (hn : Hid (xs.length = n)) (w : World) (hm : n ≤ 9223372036854775807) (hr : Rd w.heap.size w a xs) :
    Calls Try.prog 56 #[imv iw ih a n c] w fun e w' => e = .returned (.bool (vld iw ih xs)) ∧ Below w.heap.size w w' := by
  have hvl : vld iw ih xs = (((inR iw 1 16 && inR ih 1 16) && !((n : Int) != iw * ih)) && allIn (-2147483648) 2147483648 xs) := by rw [← hn.out]; simp only [vld, len_dec, bne, Bool.not_not]
  cases h1 : inR iw 1 16 with
  | false =>
    have hv : vld iw ih xs = false := by rw [hvl, h1]; rfl
    have hvH := Lib.hid hv
    have hH := Lib.hid h1
    clear h1 hv hvl
    go_enter Try.func56, Try.ntmps56
    go_wp2_with fail
    refine (rwithin1 iw 1 16 false hH.out _).mono ?_
    rintro e w' ⟨rfl, rfl⟩
    go_wp2_with fail
    go_ret
    exact ⟨ret_bool hvH.out.symm, ((Below.refl _ _).alloc (Nat.le_refl _) _)⟩
  | true =>
    cases h2 : inR ih 1 16 with
    | false =>
      have hv : vld iw ih xs = false := by rw [hvl, h1, h2]; rfl
      have hvH := Lib.hid hv
      have hH := Lib.hid h1
      have hH2 := Lib.hid h2
      clear h1 h2 hv hvl
      go_enter Try.func56, Try.ntmps56
      go_wp2_with fail
      refine (rwithin1 iw 1 16 true hH.out _).mono ?_
      rintro e w' ⟨rfl, rfl⟩
      go_wp2_with fail
      refine (rwithin1 ih 1 16 false hH2.out _).mono ?_
      rintro e w' ⟨rfl, rfl⟩
      go_wp2_with fail
      go_ret
      exact ⟨ret_bool hvH.out.symm, ((Below.refl _ _).alloc (Nat.le_refl _) _)⟩
    | true =>
      obtain ⟨i1, i2⟩ := inR_true.1 h1
      obtain ⟨i3, i4⟩ := inR_true.1 h2
      obtain ⟨m1, m2⟩ := mul_small (a := iw) (b := ih) (by omega) i2 (by omega) i4
      cases h3 : ((n : Int) != iw * ih) with
      | true =>
        have hv : vld iw ih xs = false := by rw [hvl, h1, h2, h3]; rfl
        have hvH := Lib.hid hv
        have hH := Lib.hid h1
        have hH2 := Lib.hid h2
        clear h1 h2 hv hvl
        go_enter Try.func56, Try.ntmps56
        go_wp2_with fail
        refine (rwithin1 iw 1 16 true hH.out _).mono ?_
        rintro e w' ⟨rfl, rfl⟩
        go_wp2_with fail
        refine (rwithin1 ih 1 16 true hH2.out _).mono ?_
        rintro e w' ⟨rfl, rfl⟩
        go_wp2_with fail
        go_ret
        exact ⟨ret_bool hvH.out.symm, ((Below.refl _ _).alloc (Nat.le_refl _) _)⟩
      | false =>
        have hv : vld iw ih xs = allIn (-2147483648) 2147483648 xs := by rw [hvl, h1, h2, h3]; rfl
        have hvH := Lib.hid hv
        have hH := Lib.hid h1
        have hH2 := Lib.hid h2
        clear h1 h2 hv hvl
        go_enter Try.func56, Try.ntmps56
        go_wp2_with fail
        refine (rwithin1 iw 1 16 true hH.out _).mono ?_
        rintro e w' ⟨rfl, rfl⟩
        go_wp2_with fail
        refine (rwithin1 ih 1 16 true hH2.out _).mono ?_
        rintro e w' ⟨rfl, rfl⟩
        go_wp2_with fail
        have h3H := Lib.hid h3
        clear h3
        go_loop [3] (fun i => ∃ k : Nat, k ≤ n ∧ i = .int .i64 k ∧ allIn (-2147483648) 2147483648 (xs.take k) = true) (fun i => n - (intOf i).toNat)
        case atStart => exact ⟨0, Nat.zero_le _, rfl, by simp [allIn]⟩
        case round =>
          obtain ⟨k, hk, rfl, hall⟩ := hrel
          by_cases hlt : k < n
          · rcases hr with h0 | ⟨b, o, rfl, hb, hc⟩
            · exfalso; have := hn.out; rw [h0] at this; simp at this; omega
            have hlt' : k < xs.length := by have := hn.out; omega
            have hcell := hc k hlt'
            clear hc
            obtain ⟨x, hx⟩ : ∃ x, xs[k]?.getD 0 = x := ⟨_, rfl⟩
            rw [hx] at hcell
            have hs1 : x < -2147483648 ∨ 2147483648 < x → allIn (-2147483648) 2147483648 xs = false := fun h => allIn_false hlt' (by rw [hx]; exact h)
            have hs2 : -2147483648 ≤ x → x ≤ 2147483648 → allIn (-2147483648) 2147483648 (xs.take (k + 1)) = true := fun h1 h2 => allIn_succ hlt' hall (by rw [hx]; exact h1) (by rw [hx]; exact h2)
            have hs1H := Lib.hid hs1
            have hs2H := Lib.hid hs2
            clear hx hlt' hs1 hs2
            cases h4 : inR x (-2147483648) 2147483648 with
            | false =>
              have h4H := Lib.hid h4
              clear h4
              go_wp2_with fail
              refine (rwithin1 x _ _ false h4H.out _).mono ?_
              rintro e w' ⟨rfl, rfl⟩
              go_wp2_with fail
              go_ret
              exact ⟨ret_bool (by rw [hvH.out, hs1H.out (by have := h4H.out; simp [inR] at this; omega)]), ((Below.refl _ _).alloc (Nat.le_refl _) _)⟩
            | true =>
              have h4H := Lib.hid h4
              clear h4
              go_wp2_with fail
              refine (rwithin1 x _ _ true h4H.out _).mono ?_
              rintro e w' ⟨rfl, rfl⟩
              go_wp2_with fail
              go_round
              case rel => exact ⟨k + 1, by omega, by go_num, hs2H.out (inR_true.1 h4H.out).1 (inR_true.1 h4H.out).2⟩
              case measure => simp [intOf]; omega
          · go_wp2
            go_ret
            exact ⟨ret_bool (by rw [hvH.out]; rw [List.take_of_length_le (by have := hn.out; omega)] at hall; exact hall.symm), ((Below.refl _ _).alloc (Nat.le_refl _) _)⟩

end Go.Proofs.Ytbfigbpjoaccdaa

/- Sides of kernels and shapes; lists of truth values that are read; whether a shape is valid: the program's and the specification's. -/
import Derived.Test.YtbfigbpjoaccdaaImgI
import Derived.Test.YtbfigbpjoaccdaaMorph
namespace Go.Proofs.Ytbfigbpjoaccdaa
open Go Go.RowKit Go.Shelf
set_option linter.unusedVariables false
set_option linter.unusedSimpArgs false

/-- The slice at 'a' reads as the truth values 'bs', in blocks below 'B'. -/
def RdB (B : Nat) (W : World) (a : Option Addr) (bs : List Bool) : Prop :=
  bs = [] ∨ ∃ b o, a = some ⟨b, o, none⟩ ∧ b < B ∧ ∀ i, i < bs.length → W.cell? ⟨b, o + i, none⟩ = some (.bool (bs[i]?.getD false))

theorem RdB.below {B B' : Nat} {W W' : World} {a : Option Addr} {bs : List Bool} (h : RdB B W a bs) (hB : B ≤ B') (hb : Below B' W W') : RdB B W' a bs := by
  rcases h with h | ⟨b, o, h1, h2, h3⟩
  · exact .inl h
  · exact .inr ⟨b, o, h1, h2, fun i hi => (hb.cell (p := ⟨b, o + i, none⟩) (by show b < B'; omega)).trans (h3 i hi)⟩

theorem RdB.mono {B B' : Nat} {W : World} {a : Option Addr} {bs : List Bool} (h : RdB B W a bs) (hB : B ≤ B') : RdB B' W a bs := by
  rcases h with h | ⟨b, o, h1, h2, h3⟩
  · exact .inl h
  · exact .inr ⟨b, o, h1, by omega, h3⟩

theorem rdB_at {B : Nat} {W : World} {a : Option Addr} {bs : List Bool} {n : Nat} (h : RdB B W a bs) (hn : bs.length = n) (h0 : 0 < n) : ∃ b o, a = some ⟨b, o, none⟩ ∧ b < B ∧ ∀ i, i < n → W.cell? ⟨b, o + i, none⟩ = some (.bool (bs[i]?.getD false)) := by
  rcases h with h | ⟨b, o, h1, h2, h3⟩
  · subst h; simp at hn; omega
  · exact ⟨b, o, h1, h2, fun i hi => h3 i (by omega)⟩

/-- A number may be a side. -/
def sideB (n : Int) : Bool := decide (n = 1 ∨ n = 3 ∨ n = 5)
theorem sideB_true {n : Int} (h : sideB n = true) : n = 1 ∨ n = 3 ∨ n = 5 := of_decide_eq_true h

/-! ### Lists that contain a value -/

theorem anyTo_succ {α : Type} (p : α → Bool) {xs : List α} {k : Nat} {x : α} (hx : xs[k]? = some x) : (xs.take (k + 1)).any p = ((xs.take k).any p || p x) := by
  rw [List.take_add_one, hx, List.any_append]
  simp

set_option maxHeartbeats 1000000 in
theorem index_int (v : Int) (a : Option Addr) (c n : Nat) (xs : List Int) (hn : Hid (xs.length = n)) (w : World) (hm : n ≤ 9223372036854775807) (hr : Rd w.heap.size w a xs) :
    Calls Try.prog 78 #[.slice a n c, .int .i64 v] w fun e w' => (∃ r : Int, e = .returned (.int .i64 r) ∧ decide (0 ≤ r) = xs.any (fun x => decide (v = x))) ∧ w = w' := by
  go_enter Try.func78, Try.ntmps78
  go_wp2_with fail
  go_loop [5, 8] (fun u i => ∃ k : Nat, k ≤ n ∧ i = .int .i64 (k : Int) ∧ Hid ((xs.take k).any (fun x => decide (v = x)) = false)) (fun u i => n - (intOf i).toNat)
  case atStart => exact ⟨0, Nat.zero_le _, rfl, Lib.hid rfl⟩
  case round =>
    obtain ⟨k, hk, rfl, hall⟩ := hrel
    by_cases hlt : k < n
    · obtain ⟨b, o, rfl, hb, hc⟩ := rd_at hr hn.out (by omega)
      have hcell := hc k hlt
      have hs := anyTo_succ (fun x => decide (v = x)) (xs := xs) (k := k) (x := px xs k) (by unfold px; simp only [Int.toNat_natCast]; rw [List.getElem?_eq_getElem (by rw [hn.out]; exact hlt)]; rfl)
      rw [hall.out, Bool.false_or] at hs
      have hany : decide (v = px xs k) = true → xs.any (fun x => decide (v = x)) = true := by
        intro h
        rw [h] at hs
        rw [← List.take_append_drop (k + 1) xs, List.any_append, hs]; rfl
      generalize px xs k = x at *
      have hsH := Lib.hid hs
      have haH := Lib.hid hany
      clear hc hs hany
      by_cases hx : v = x
      · subst hx
        go_wp2_with fail
        go_ret
        exact ⟨⟨k, rfl, by rw [haH.out (by simp)]; simp⟩, rfl⟩
      · go_wp2_with fail
        go_round
        case rel => exact ⟨k + 1, by omega, by go_num, Lib.hid (by rw [hsH.out]; simp [hx])⟩
        case measure => simp [intOf]; omega
    · go_wp2_with fail
      go_ret
      refine ⟨⟨-1, rfl, ?_⟩, rfl⟩
      have h := hall.out
      rw [List.take_of_length_le (by have := hn.out; omega)] at h
      rw [h]; rfl

set_option maxHeartbeats 1000000 in
theorem index_bool (v : Bool) (a : Option Addr) (c n : Nat) (xs : List Bool) (hn : Hid (xs.length = n)) (w : World) (hm : n ≤ 9223372036854775807) (hr : RdB w.heap.size w a xs) :
    Calls Try.prog 76 #[.slice a n c, .bool v] w fun e w' => (∃ r : Int, e = .returned (.int .i64 r) ∧ decide (0 ≤ r) = xs.any (fun x => decide (v = x))) ∧ w = w' := by
  go_enter Try.func76, Try.ntmps76
  go_wp2_with fail
  go_loop [5, 8] (fun u i => ∃ k : Nat, k ≤ n ∧ i = .int .i64 (k : Int) ∧ Hid ((xs.take k).any (fun x => decide (v = x)) = false)) (fun u i => n - (intOf i).toNat)
  case atStart => exact ⟨0, Nat.zero_le _, rfl, Lib.hid rfl⟩
  case round =>
    obtain ⟨k, hk, rfl, hall⟩ := hrel
    by_cases hlt : k < n
    · obtain ⟨b, o, rfl, hb, hc⟩ := rdB_at hr hn.out (by omega)
      have hcell := hc k hlt
      have hs := anyTo_succ (fun x => decide (v = x)) (xs := xs) (k := k) (x := xs[k]?.getD false) (by rw [List.getElem?_eq_getElem (by rw [hn.out]; exact hlt)]; rfl)
      rw [hall.out, Bool.false_or] at hs
      have hany : decide (v = xs[k]?.getD false) = true → xs.any (fun x => decide (v = x)) = true := by
        intro h
        rw [h] at hs
        rw [← List.take_append_drop (k + 1) xs, List.any_append, hs]; rfl
      generalize xs[k]?.getD false = x at *
      have hsH := Lib.hid hs
      have haH := Lib.hid hany
      clear hc hs hany
      by_cases hx : v = x
      · subst hx
        go_wp2_with fail
        go_ret
        exact ⟨⟨k, rfl, by rw [haH.out (by simp)]; simp⟩, rfl⟩
      · have hxb : (v == x) = false := by simpa using hx
        have hx2 := Lib.hid (show decide (v = x) = false by simpa using hx)
        clear hx
        go_wp2_with fail
        go_round
        case rel => exact ⟨k + 1, by omega, by go_num, Lib.hid (by rw [hsH.out, hx2.out])⟩
        case measure => simp [intOf]; omega
    · go_wp2_with fail
      go_ret
      refine ⟨⟨-1, rfl, ?_⟩, rfl⟩
      have h := hall.out
      rw [List.take_of_length_le (by have := hn.out; omega)] at h
      rw [h]; rfl

theorem contains_int (v : Int) (r : Bool) (a : Option Addr) (c n : Nat) (xs : List Int) (hn : Hid (xs.length = n)) (hres : Hid (xs.any (fun x => decide (v = x)) = r)) (w : World) (hm : n ≤ 9223372036854775807) (hr : Rd w.heap.size w a xs) :
    Calls Try.prog 75 #[.slice a n c, .int .i64 v] w fun e w' => e = .returned (.bool r) ∧ w = w' := by
  go_enter Try.func75, Try.ntmps75
  go_wp2_with fail
  refine (index_int v a c n xs hn w hm hr).mono ?_
  rintro e w' ⟨⟨i, rfl, hi⟩, rfl⟩
  have hiH := Lib.hid (hi.trans hres.out)
  clear hi
  go_wp2_with fail
  go_ret
  exact ⟨ret_bool hiH.out, rfl⟩

theorem contains_bool (v r : Bool) (a : Option Addr) (c n : Nat) (xs : List Bool) (hn : Hid (xs.length = n)) (hres : Hid (xs.any (fun x => decide (v = x)) = r)) (w : World) (hm : n ≤ 9223372036854775807) (hr : RdB w.heap.size w a xs) :
    Calls Try.prog 67 #[.slice a n c, .bool v] w fun e w' => e = .returned (.bool r) ∧ w = w' := by
  go_enter Try.func67, Try.ntmps67
  go_wp2_with fail
  refine (index_bool v a c n xs hn w hm hr).mono ?_
  rintro e w' ⟨⟨i, rfl, hi⟩, rfl⟩
  have hiH := Lib.hid (hi.trans hres.out)
  clear hi
  go_wp2_with fail
  go_ret
  exact ⟨ret_bool hiH.out, rfl⟩

theorem contains3 (v : Int) (r : Bool) (hres : Hid (sideB v = r)) (c : Nat) (w : World) (b : Nat) (k : Blk w b 3 #[.int .i64 1, .int .i64 3, .int .i64 5]) :
    Calls Try.prog 75 #[.slice (some ⟨b, 0, none⟩) 3 c, .int .i64 v] w fun e w' => e = .returned (.bool r) ∧ w = w' :=
  contains_int v r (some ⟨b, 0, none⟩) c 3 [1, 3, 5] (Lib.hid rfl) (Lib.hid (by rw [← hres.out]; simp [sideB, Bool.or_assoc])) w (by omega) (.inr ⟨b, 0, rfl, k.lt, fun i hi => by
    have : i = 0 ∨ i = 1 ∨ i = 2 := by simp at hi; omega
    rcases this with rfl | rfl | rfl <;> exact k.cell rfl⟩)

/-- Two numbers are sides of something with n entries. -/
def sidesB (sw sh : Int) (n : Nat) : Bool := (sideB sw && sideB sh) && decide ((n : Int) = sw * sh)
theorem sidesB_true {sw sh : Int} {n : Nat} (h : sidesB sw sh n = true) : (sw = 1 ∨ sw = 3 ∨ sw = 5) ∧ (sh = 1 ∨ sh = 3 ∨ sh = 5) ∧ (n : Int) = sw * sh := by
  simp only [sidesB, Bool.and_eq_true, decide_eq_true_eq] at h
  exact ⟨sideB_true h.1.1, sideB_true h.1.2, h.2⟩

set_option maxHeartbeats 1000000 in
theorem sides_any (sw sh : Int) (n : Nat) (r : Bool) (hres : Hid (sidesB sw sh n = r)) (w : World) :
    Calls Try.prog 66 #[.int .i64 sw, .int .i64 sh, .int .i64 n] w fun e w' => e = .returned (.bool r) ∧ Below w.heap.size w w' := by
  have k1 := Blk.new w 3 #[.int .i64 1, .int .i64 3, .int .i64 5]
  have k2 := Blk.new (w.alloc (.cells #[.int .i64 1, .int .i64 3, .int .i64 5] 3)) 3 #[.int .i64 1, .int .i64 3, .int .i64 5]
  simp only [World.size_alloc] at k2
  have hB1 := below_al (Below.refl _ w) (.cells #[.int .i64 1, .int .i64 3, .int .i64 5] 3)
  have hB2 := below_al hB1 (.cells #[.int .i64 1, .int .i64 3, .int .i64 5] 3)
  obtain ⟨v1, hv1⟩ : ∃ v, sideB sw = v := ⟨_, rfl⟩
  have h1 := Lib.hid hv1
  obtain ⟨v2, hv2⟩ : ∃ v, sideB sh = v := ⟨_, rfl⟩
  have h2 := Lib.hid hv2
  have hres' : ((v1 && v2) && decide ((n : Int) = sw * sh)) = r := by rw [← hv1, ← hv2]; exact hres.out
  have hr' := Lib.hid hres'
  clear hv1 hv2 hres'
  cases v1 with
  | false =>
    go_enter Try.func66, Try.ntmps66
    go_wp2_with fail
    refine (contains3 sw false h1 _ _ _ k1).mono ?_
    rintro e w' ⟨rfl, rfl⟩
    go_wp2_with fail
    go_ret
    exact ⟨ret_bool hr'.out, hB1⟩
  | true =>
    cases v2 with
    | false =>
      go_enter Try.func66, Try.ntmps66
      go_wp2_with fail
      refine (contains3 sw true h1 _ _ _ k1).mono ?_
      rintro e w' ⟨rfl, rfl⟩
      go_wp2_with fail
      refine (contains3 sh false h2 _ _ _ k2).mono ?_
      rintro e w' ⟨rfl, rfl⟩
      go_wp2_with fail
      go_ret
      exact ⟨ret_bool hr'.out, hB2⟩
    | true =>
      have m := sideB_true h1.out
      have m' := sideB_true h2.out
      obtain ⟨m1, m2⟩ := mul_small (a := sw) (b := sh) (m := 5) (n := 5) (by omega) (by omega) (by omega) (by omega)
      clear m m'
      go_enter Try.func66, Try.ntmps66
      go_wp2_with fail
      refine (contains3 sw true h1 _ _ _ k1).mono ?_
      rintro e w' ⟨rfl, rfl⟩
      go_wp2_with fail
      refine (contains3 sh true h2 _ _ _ k2).mono ?_
      rintro e w' ⟨rfl, rfl⟩
      go_wp2_with fail
      go_ret
      exact ⟨ret_bool (by rw [← hr'.out]; simp [len_dec]), hB2⟩

/-- A shape is valid. -/
def shapeOk (sw sh : Int) (bs : List Bool) : Bool := sidesB sw sh bs.length && bs.any (fun x => decide (true = x))

end Go.Proofs.Ytbfigbpjoaccdaa

/- The contracts of the smallest functions of the package image and of its specification: ranges, quotients, values. -/
import Derived.Test.YtbfigbpjoaccdaaBase
import Derived.Test.YtbfigbpjoaccdaaProg
namespace Go.Proofs.Ytbfigbpjoaccdaa
open Go Go.RowKit Go.Shelf
set_option linter.unusedVariables false
set_option linter.unusedSimpArgs false

set_option maxHeartbeats 400000 in
theorem within_any (lo hi : Int) (a : Option Addr) (c : Nat) (xs : List Int) (w : World) (hl : xs.length ≤ 9223372036854775807) (hr : Rd w.heap.size w a xs) :
    Calls Try.prog 50 #[.int .i64 lo, .int .i64 hi, .slice a xs.length c] w fun e w' => e = .returned (.bool (allIn lo hi xs)) ∧ w = w' := by
  obtain ⟨n, hn⟩ : ∃ n, xs.length = n := ⟨_, rfl⟩
  rw [hn] at hl ⊢
  have hnH := Lib.hid hn
  clear hn
  go_enter Try.func50, Try.ntmps50
  go_wp2
  go_loop [8, 11] (fun v i => ∃ k : Nat, k ≤ n ∧ i = .int .i64 k ∧ allIn lo hi (xs.take k) = true) (fun _ i => n - (intOf i).toNat)
  case atStart => exact ⟨0, Nat.zero_le _, rfl, by simp [allIn]⟩
  case round =>
    obtain ⟨k, hk, rfl, hall⟩ := hrel
    by_cases hlt : k < n
    · rcases hr with h0 | ⟨b, o, rfl, hb, hc⟩
      · exfalso; have := hnH.out; rw [h0] at this; simp at this; omega
      have hlt' : k < xs.length := by have := hnH.out; omega
      have hcell := hc k hlt'
      clear hc
      obtain ⟨x, hx⟩ : ∃ x, xs[k]?.getD 0 = x := ⟨_, rfl⟩
      rw [hx] at hcell
      have hs1 : x < lo ∨ hi < x → allIn lo hi xs = false := fun h => allIn_false hlt' (by rw [hx]; exact h)
      have hs2 : lo ≤ x → x ≤ hi → allIn lo hi (xs.take (k + 1)) = true := fun h1 h2 => allIn_succ hlt' hall (by rw [hx]; exact h1) (by rw [hx]; exact h2)
      have hs1H := Lib.hid hs1
      have hs2H := Lib.hid hs2
      clear hx hlt' hs1 hs2
      by_cases h1 : x < lo
      · go_wp2
        go_ret
        exact ⟨ret_bool (hs1H.out (.inl h1)).symm, rfl⟩
      · by_cases h2 : hi < x
        · go_wp2
          go_ret
          exact ⟨ret_bool (hs1H.out (.inr h2)).symm, rfl⟩
        · go_wp2
          go_round
          case rel => exact ⟨k + 1, by omega, by go_num, hs2H.out (by omega) (by omega)⟩
          case measure => simp [intOf]; omega
    · go_wp2
      go_ret
      exact ⟨ret_bool (by rw [List.take_of_length_le (by have := hnH.out; omega)] at hall; exact hall.symm), rfl⟩

/-- A number brought into a range. -/
def clamp (n lo hi : Int) : Int := max lo (min n hi)

theorem into_any (n lo hi : Int) (w : World) :
    Calls Try.prog 53 #[.int .i64 n, .int .i64 lo, .int .i64 hi] w fun e w' => e = .returned (.int .i64 (clamp n lo hi)) ∧ w = w' := by
  go_enter Try.func53, Try.ntmps53
  go_wp2
  all_goals (go_ret; exact ⟨ret_int (by unfold clamp; omega), rfl⟩)

theorem Into_any (n lo hi : Int) (w : World) :
    Calls Try.prog 57 #[.int .i64 n, .int .i64 lo, .int .i64 hi] w fun e w' => e = .returned (.int .i64 (clamp n lo hi)) ∧ w = w' := by
  go_enter Try.func57, Try.ntmps57
  go_wp2
  all_goals (go_ret; exact ⟨ret_int (by unfold clamp; omega), rfl⟩)

theorem value_any (n : Int) (w : World) :
    Calls Try.prog 71 #[.int .i64 n] w fun e w' => e = .returned (.int .i64 (clamp n (-2147483648) 2147483648)) ∧ w = w' := by
  go_enter Try.func71, Try.ntmps71
  go_wp2_with (go_at_call 53; refine (into_any _ _ _ _).mono ?_; rintro e w' ⟨rfl, rfl⟩)
  go_ret
  exact ⟨rfl, rfl⟩

theorem floor_any (a b : Int) (w : World) (h1 : -4611686018427387904 ≤ a) (h2 : a ≤ 4611686018427387904) (h3 : 1 ≤ b) (h4 : b ≤ 4611686018427387904) :
    Calls Try.prog 54 #[.int .i64 a, .int .i64 b] w fun e w' => e = .returned (.int .i64 (a / b)) ∧ w = w' := by
  have hf := Lib.hid (floor_lem a b h1 h2 h3 h4)
  go_enter Try.func54, Try.ntmps54
  go_wp2
  all_goals go_ret
  · exact ⟨ret_int (hf.out.1 (by assumption)), rfl⟩
  · exact ⟨ret_int (hf.out.2 (by assumption)), rfl⟩

/-- A number is in a range. -/
def inR (n lo hi : Int) : Bool := decide (lo ≤ n) && decide (n ≤ hi)

theorem rwithin_any (n lo hi : Int) (w : World) :
    Calls Try.prog 72 #[.int .i64 n, .int .i64 lo, .int .i64 hi] w fun e w' => e = .returned (.bool (inR n lo hi)) ∧ w = w' := by
  by_cases h1 : lo ≤ n
  · by_cases h2 : n ≤ hi
    · go_enter Try.func72, Try.ntmps72
      go_wp2
      go_ret
      exact ⟨ret_bool (by simp [inR, h1, h2]), rfl⟩
    · go_enter Try.func72, Try.ntmps72
      go_wp2
      go_ret
      exact ⟨ret_bool (by simp [inR, h1, h2]), rfl⟩
  · go_enter Try.func72, Try.ntmps72
    go_wp2
    go_ret
    exact ⟨ret_bool (by simp [inR]; omega), rfl⟩

end Go.Proofs.Ytbfigbpjoaccdaa

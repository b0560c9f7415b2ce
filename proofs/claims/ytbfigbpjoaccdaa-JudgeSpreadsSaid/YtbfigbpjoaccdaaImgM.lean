/- Sums of values of rectangles: plain, and the specification's Sum. -/
import Derived.Test.YtbfigbpjoaccdaaImgI
import Derived.Test.YtbfigbpjoaccdaaMorph
namespace Go.Proofs.Ytbfigbpjoaccdaa
open Go Go.RowKit Go.Shelf
set_option linter.unusedVariables false
set_option linter.unusedSimpArgs false

/-- The value at a place, by natural numbers. -/
def gpx (pw : Nat) (xs : List Int) (u v : Nat) : Int := px xs ((v : Int) * pw + u)

theorem gpx_bd {xs : List Int} (h : allIn (-2147483648) 2147483648 xs = true) (pw u v : Nat) : -2147483648 ≤ gpx pw xs u v ∧ gpx pw xs u v ≤ 2147483648 := px_bd h _

set_option maxRecDepth 100000 in
set_option maxHeartbeats 2000000 in
theorem Sum_any (pw ph : Nat) (a : Option Addr) (c n : Nat) (xs : List Int) (hn : Hid (xs.length = n)) (x0 y0 x1 y1 : Nat) (hx0 : x0 ≤ x1) (hx1 : x1 ≤ pw) (hy0 : y0 ≤ y1) (hy1 : y1 ≤ ph) (h1 : 1 ≤ pw) (h2 : pw ≤ 16) (h3 : 1 ≤ ph) (h4 : ph ≤ 16) (hnn : Hid ((n : Int) = (pw : Int) * ph)) (hall : Hid (allIn (-2147483648) 2147483648 xs = true)) (w : World) (hr : Rd w.heap.size w a xs) :
    Calls Try.prog 42 #[imv pw ph a n c, .int .i64 x0, .int .i64 y0, .int .i64 x1, .int .i64 y1] w fun e w' => e = .returned (.int .i64 (rect (gpx pw xs) x0 y0 x1 y1)) ∧ Below w.heap.size w w' := by
  have hB0 : Below w.heap.size w (w.alloc (.cells #[.int .i64 pw, .int .i64 ph, .slice a n c] 27)) := below_al (Below.refl _ _) _
  have k5 := Blk.new w 27 #[.int .i64 pw, .int .i64 ph, .slice a n c]
  have hn9 : n ≤ 256 := by
    have := hnn.out
    obtain ⟨m1, m2⟩ := mul_small (a := (pw : Int)) (b := (ph : Int)) (m := 16) (n := 16) (by omega) (by omega) (by omega) (by omega)
    omega
  obtain ⟨W, hW⟩ : ∃ W, w.alloc (.cells #[.int .i64 pw, .int .i64 ph, .slice a n c] 27) = W := ⟨_, rfl⟩
  rw [hW] at hB0 k5
  go_enter Try.func42, Try.ntmps42
  go_wp2_with fail
  clear hW
  go_loopw [11, 12] (fun s i wr => ∃ (k : Nat) (z : Int), y0 + k ≤ y1 ∧ i = .int .i64 ((y0 : Int) + (k : Int)) ∧ s = .int .i64 z ∧ Hid (rect (gpx pw xs) x0 y0 x1 (y0 + k) = z) ∧ -(34359738368 * k : Int) ≤ z ∧ z ≤ 34359738368 * k ∧ Below W.heap.size W wr) (fun _ i _ => y1 - (intOf i).toNat)
  case atStart => exact ⟨0, 0, by omega, by simp, rfl, Lib.hid (rect_zero _ _ _ _), by simp, by simp, Below.refl _ _⟩
  case round =>
    obtain ⟨k, z, hk, rfl, rfl, hz, hz1, hz2, hb⟩ := hrel
    by_cases hlt : y0 + k < y1
    · have hdec : decide ((y0 : Int) + (k : Int) < (y1 : Int)) = true := by simp; omega
      go_wp2_with fail
      try simp only [hdec]
      clear hdec
      go_loopw [11, 13] (fun s i wr => ∃ (j : Nat) (z2 : Int), x0 + j ≤ x1 ∧ i = .int .i64 ((x0 : Int) + (j : Int)) ∧ s = .int .i64 z2 ∧ Hid (rect (gpx pw xs) x0 y0 x1 (y0 + k) + (rowTo (gpx pw xs) (x0 + j) (y0 + k) - rowTo (gpx pw xs) x0 (y0 + k)) = z2) ∧ -(34359738368 * k + 2147483648 * j : Int) ≤ z2 ∧ z2 ≤ 34359738368 * k + 2147483648 * j ∧ Below W.heap.size W wr) (fun _ i _ => x1 - (intOf i).toNat)
      case atStart => exact ⟨0, z, by omega, by simp, rfl, Lib.hid (by rw [← hz.out]; simp), by simp; omega, by simp; omega, hb⟩
      case round =>
        obtain ⟨j, z2, hj, rfl, rfl, hz', hz3, hz4, hb2⟩ := hrel
        by_cases hlt2 : x0 + j < x1
        · obtain ⟨q1, q2, q3, q4⟩ := in_idx (iw := pw) (ih := ph) (u := (x0 : Int) + (j : Int)) (v := (y0 : Int) + (k : Int)) (by omega) hnn.out (by omega) (by omega) (by omega) (by omega)
          have hbd := gpx_bd hall.out pw (x0 + j) (y0 + k)
          have hst : rect (gpx pw xs) x0 y0 x1 (y0 + k) + (rowTo (gpx pw xs) (x0 + (j + 1)) (y0 + k) - rowTo (gpx pw xs) x0 (y0 + k)) = z2 + gpx pw xs (x0 + j) (y0 + k) := by
            rw [← hz'.out, ← Nat.add_assoc, rowTo_succ]; omega
          have hpx : px xs (((y0 : Int) + (k : Int)) * pw + ((x0 : Int) + (j : Int))) = gpx pw xs (x0 + j) (y0 + k) := by unfold gpx; simp
          generalize gpx pw xs (x0 + j) (y0 + k) = v at hbd hst hpx
          have hstH := Lib.hid hst
          have hpxH := Lib.hid hpx
          clear hst hpx
          have c0 := (k5.below hb2 k5.lt).cell (i := 0) rfl
          have c1 := (k5.below hb2 k5.lt).cell (i := 1) rfl
          have c2 := (k5.below hb2 k5.lt).cell (i := 2) rfl
          go_wp2_with fail
          refine (At_any pw ph _ _ a c xs n hn _ (by omega) (by omega) q2 q3 (by omega) ((hr.below (Nat.le_refl _) (hB0.trans (hb2.mono hB0.size))).mono (hB0.trans (hb2.mono hB0.size)).size)).mono ?_
          rintro e W1 ⟨rfl, hb3⟩
          rw [hpxH.out]
          go_wp2_with fail
          go_roundw
          case rel => exact ⟨j + 1, z2 + v, by omega, by go_num, rfl, hstH, by omega, by omega, hb2.trans (hb3.mono hb2.size)⟩
          case measure => simp [intOf]; omega
        · have hx1 : x0 + j = x1 := by omega
          have hst : rect (gpx pw xs) x0 y0 x1 (y0 + (k + 1)) = z2 := by
            rw [← hz'.out, hx1, ← Nat.add_assoc, rect_succ]
          have hstH := Lib.hid hst
          clear hst hx1
          go_wp2_with fail
          go_roundw
          case rel => exact ⟨k + 1, z2, by omega, by go_num, rfl, hstH, by omega, by omega, hb2⟩
          case measure => simp [intOf]; omega
    · have hy1 : y0 + k = y1 := by omega
      rw [hy1] at hz
      go_wp2_with fail
      go_ret
      exact ⟨ret_int hz.out.symm, hB0.trans (hb.mono hB0.size)⟩

end Go.Proofs.Ytbfigbpjoaccdaa

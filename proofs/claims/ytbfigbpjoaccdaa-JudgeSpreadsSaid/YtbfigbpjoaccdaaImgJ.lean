/- The contracts of Check and of Zip: the program's and the specification's. -/
import Derived.Test.YtbfigbpjoaccdaaImgI
namespace Go.Proofs.Ytbfigbpjoaccdaa
open Go Go.RowKit Go.Shelf
set_option linter.unusedVariables false
set_option linter.unusedSimpArgs false

theorem Check_any (iw ih : Int) (a : Option Addr) (c n : Nat) (xs : List Int) (hn : Hid (xs.length = n)) (v : Bool) (hv : vld iw ih xs = v) (w : World) (hm : n ≤ 9223372036854775807) (hr : Rd w.heap.size w a xs) :
    Calls Try.prog 44 #[imv iw ih a n c] w fun e w' => e = .returned (.int .i64 (if v = true then 0 else 20)) ∧ Below w.heap.size w w' := by
  have hvH := Lib.hid hv
  clear hv
  have hB0 : Below w.heap.size w (w.alloc (.cells #[.int .i64 iw, .int .i64 ih, .slice a n c] 27)) := below_al (Below.refl _ _) _
  go_enter Try.func44, Try.ntmps44
  go_wp2_with fail
  refine (valid_any iw ih a c xs n hn _ hm ((hr.below (Nat.le_refl _) hB0).mono hB0.size)).mono ?_
  rintro e W1 ⟨rfl, hb1⟩
  rw [hvH.out]
  cases v with
  | false =>
    go_wp2_with fail
    go_ret
    exact ⟨rfl, hB0.trans (hb1.mono hB0.size)⟩
  | true =>
    go_wp2_with fail
    go_ret
    exact ⟨rfl, hB0.trans (hb1.mono hB0.size)⟩

/-- What an operation of two values gives. -/
def zipF (how a b : Int) : Int := if how = 1 then a + b else if how = 2 then a - b else if how = 3 then min a b else if how = 4 then max a b else if how = 5 then a * b else max (a - b) (b - a)
def zipG (iw : Int) (xs ys : List Int) (how x y : Int) : Int := zipF how (px xs (y * iw + x)) (px ys (y * iw + x))
def zipC (iw : Int) (xs ys : List Int) (how x y : Int) : Int := clamp (zipG iw xs ys how x y) (-2147483648) 2147483648

theorem clamp_bd (n : Int) : -2147483648 ≤ clamp n (-2147483648) 2147483648 ∧ clamp n (-2147483648) 2147483648 ≤ 2147483648 := clamp_le (by decide)

theorem clamp_clamp (n : Int) : clamp (clamp n (-2147483648) 2147483648) (-2147483648) 2147483648 = clamp n (-2147483648) 2147483648 := clamp_id (clamp_bd n).1 (clamp_bd n).2

theorem img_congr {pw ph : Nat} {g f : Int → Int → Int} (h : ∀ x y, clamp (g x y) (-2147483648) 2147483648 = clamp (f x y) (-2147483648) 2147483648) : img pw ph g = img pw ph f := by
  unfold img
  exact List.map_congr_left fun i _ => h _ _

end Go.Proofs.Ytbfigbpjoaccdaa

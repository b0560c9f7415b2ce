/- What a change allows, as two images: by eroding, dilating and a point operation, and by all shifts. Plain. -/
import Derived.Test.YtbfigbpjoaccdaaSpread
import Derived.Test.YtbfigbpjoaccdaaImgT
import Derived.Test.YtbfigbpjoaccdaaCam
namespace Go.Proofs.Ytbfigbpjoaccdaa
open Go
set_option linter.unusedVariables false
set_option linter.unusedSimpArgs false

/-- A change, by what it reads as. -/
structure ChgN where
  s : Int
  gl : Int
  gh : Int
  off : Int
  noi : Int
abbrev ChgN.val (c : ChgN) : Value := .agg #[.int .i64 c.s, .int .i64 c.gl, .int .i64 c.gh, .int .i64 c.off, .int .i64 c.noi]
def chgB (c : ChgN) : Bool := ((nIn 0 2 c.s && (nIn 0 400 c.gl && nIn 0 400 c.gh)) && decide (c.gl ≤ c.gh)) && (nIn 0 255 c.off && nIn 0 255 c.noi)
structure ChgOk (c : ChgN) : Prop where
  s : 0 ≤ c.s ∧ c.s ≤ 2
  gl : 0 ≤ c.gl ∧ c.gl ≤ 400
  gh : 0 ≤ c.gh ∧ c.gh ≤ 400
  le : c.gl ≤ c.gh
  off : 0 ≤ c.off ∧ c.off ≤ 255
  noi : 0 ≤ c.noi ∧ c.noi ≤ 255
theorem chgOk_of {c : ChgN} (h : chgB c = true) : ChgOk c := by
  simp only [chgB, Bool.and_eq_true, nIn_true, decide_eq_true_eq] at h
  exact ⟨h.1.1.1, h.1.1.2.1, h.1.1.2.2, h.1.2, h.2.1, h.2.2⟩
theorem chgB_no {c : ChgN} (h : ¬ ChgOk c) : chgB c = false := by
  rw [Bool.eq_false_iff]; exact fun k => h (chgOk_of k)

/-- The side of the window. -/
def sideN (s : Nat) : Nat := 2 * s + 1
/-- The value of a pixel with shift number t. -/
def shV (pw ph : Nat) (xs : List Int) (s : Nat) (g a : Int) (i t : Nat) : Int := spV g a (spB pw ph xs s (cX pw i) (cY pw i) t)
def loF (pw ph : Nat) (xs : List Int) (s : Nat) (g a : Int) (i : Nat) : Int := spLo (shV pw ph xs s g a i) ((2 * s + 1) * (2 * s + 1))
def hiF (pw ph : Nat) (xs : List Int) (s : Nat) (g a : Int) (i : Nat) : Int := spHi (shV pw ph xs s g a i) ((2 * s + 1) * (2 * s + 1))
def loL (m : ImN) (c : ChgN) : List Int := (List.range (m.w.toNat * m.h.toNat)).map (loF m.w.toNat m.h.toNat m.px c.s.toNat c.gl (-(c.off + c.noi)))
def hiL (m : ImN) (c : ChgN) : List Int := (List.range (m.w.toNat * m.h.toNat)).map (hiF m.w.toNat m.h.toNat m.px c.s.toNat c.gh (c.off + c.noi))

theorem px_img0 {pw ph : Nat} {g : Int → Int → Int} {i : Nat} (hi : i < pw * ph) (h : -2147483648 ≤ g (cX pw i) (cY pw i) ∧ g (cX pw i) (cY pw i) ≤ 2147483648) : px (img pw ph g) ((cY pw i) * pw + cX pw i) = g (cX pw i) (cY pw i) := by
  have hp0 : 0 < pw := Nat.pos_of_ne_zero (by rintro rfl; simp at hi)
  have e : (cY pw i) * (pw : Int) + cX pw i = ((i : Nat) : Int) := by
    show ((i / pw : Nat) : Int) * (pw : Int) + ((i % pw : Nat) : Int) = (i : Int)
    have := Nat.div_add_mod i pw
    rw [Nat.mul_comm] at this
    exact_mod_cast this
  rw [e]
  unfold px
  rw [Int.toNat_natCast]
  unfold img
  rw [List.getElem?_map, List.getElem?_range hi]
  simp only [Option.map_some, Option.getD_some]
  unfold clamp
  omega
theorem cXY_in {pw ph i : Nat} (hi : i < pw * ph) : 0 ≤ cX pw i ∧ cX pw i < pw ∧ 0 ≤ cY pw i ∧ cY pw i < ph := by
  have hp0 : 0 < pw := Nat.pos_of_ne_zero (by rintro rfl; simp at hi)
  have h1 : i % pw < pw := Nat.mod_lt _ hp0
  have h2 : i / pw < ph := Nat.div_lt_of_lt_mul hi
  exact ⟨Int.natCast_nonneg _, by show ((i % pw : Nat) : Int) < _; omega, Int.natCast_nonneg _, by show ((i / pw : Nat) : Int) < _; omega⟩
/-- Eroding and a point operation give the least values. -/
theorem lo_img {pw ph s : Nat} {xs : List Int} (hxs : allIn (-2147483648) 2147483648 xs = true) {g : Int} (hg : 0 ≤ g) (a : Int) :
    img pw ph (pointG pw (img pw ph (morG false pw ph xs (2 * s + 1) (2 * s + 1) (fullB s))) ⟨g, 100 * a, 100, 0, 255⟩) = (List.range (pw * ph)).map (loF pw ph xs s g a) := by
  unfold img
  refine List.map_congr_left fun i hi => ?_
  have hi := List.mem_range.1 hi
  obtain ⟨h1, h2, h3, h4⟩ := cXY_in hi
  have hb := mor_img (mx := false) hxs pw ph (2 * s + 1) (2 * s + 1) (fullB s) (cX pw i) (cY pw i)
  unfold pointG
  rw [show (List.range (pw * ph)).map (fun i => clamp (morG false pw ph xs (2 * s + 1) (2 * s + 1) (fullB s) (cX pw i) (cY pw i)) (-2147483648) 2147483648) = img pw ph (morG false pw ph xs (2 * s + 1) (2 * s + 1) (fullB s)) from rfl]
  rw [px_img0 hi hb, spV_point, spread_lo hxs h1 h2 h3 h4 hg]
  have := spLo_bd (f := shV pw ph xs s g a i) (fun t => spV_bd _ _ _) ((2 * s + 1) * (2 * s + 1))
  unfold loF clamp
  show max (-2147483648) (min (spLo (shV pw ph xs s g a i) _) 2147483648) = _
  omega
theorem hi_img {pw ph s : Nat} {xs : List Int} (hxs : allIn (-2147483648) 2147483648 xs = true) {g : Int} (hg : 0 ≤ g) (a : Int) :
    img pw ph (pointG pw (img pw ph (morG true pw ph xs (2 * s + 1) (2 * s + 1) (fullB s))) ⟨g, 100 * a, 100, 0, 255⟩) = (List.range (pw * ph)).map (hiF pw ph xs s g a) := by
  unfold img
  refine List.map_congr_left fun i hi => ?_
  have hi := List.mem_range.1 hi
  obtain ⟨h1, h2, h3, h4⟩ := cXY_in hi
  have hb := mor_img (mx := true) hxs pw ph (2 * s + 1) (2 * s + 1) (fullB s) (cX pw i) (cY pw i)
  unfold pointG
  rw [show (List.range (pw * ph)).map (fun i => clamp (morG true pw ph xs (2 * s + 1) (2 * s + 1) (fullB s) (cX pw i) (cY pw i)) (-2147483648) 2147483648) = img pw ph (morG true pw ph xs (2 * s + 1) (2 * s + 1) (fullB s)) from rfl]
  rw [px_img0 hi hb, spV_point, spread_hi hxs h1 h2 h3 h4 hg]
  have := spHi_bd (f := shV pw ph xs s g a i) (fun t => spV_bd _ _ _) ((2 * s + 1) * (2 * s + 1))
  unfold hiF clamp
  show max (-2147483648) (min (spHi (shV pw ph xs s g a i) _) 2147483648) = _
  omega

end Go.Proofs.Ytbfigbpjoaccdaa

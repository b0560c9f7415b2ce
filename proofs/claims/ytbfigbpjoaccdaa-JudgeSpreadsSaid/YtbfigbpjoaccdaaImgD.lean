/- The contracts of Warp, Turn and Flip of the package image. -/
import Derived.Test.YtbfigbpjoaccdaaImgC
namespace Go.Proofs.Ytbfigbpjoaccdaa
open Go Go.RowKit Go.Shelf
set_option linter.unusedVariables false
set_option linter.unusedSimpArgs false

/-- What a function returns: an image in new memory of the call's own, from block B on, and a number. -/
structure ImR where
  w : Int
  h : Int
  px : List Int
  err : Int

def RetIm (B : Nat) (r : ImR) (w : World) (e : Ending) (w' : World) : Prop :=
  (∃ v, e = .returned (.tuple #[v, .int .i64 r.err]) ∧ OwnIm B w' v r.w r.h r.px) ∧ Below B w w'

/-- The refusal with a number. -/
def noIm (err : Int) : ImR := { w := 0, h := 0, px := [], err := err }

theorem OwnIm_nil (B : Nat) (W : World) : OwnIm B W (.agg #[.int .i64 0, .int .i64 0, .slice none 0 0]) 0 0 [] := ⟨_, rfl, World.ownsRow_nil _ _ _ _⟩

/-- Three cells written one after the other. -/
abbrev put3 (W : World) (B : Nat) (x y z : Value) : World := ((W.setCell ⟨B, 0, none⟩ x).setCell ⟨B, 1, none⟩ y).setCell ⟨B, 2, none⟩ z

theorem put3_blk {W : World} {B : Nat} {t : TypeId} {a b c : Value} (k : Blk W B t #[a, b, c]) (x y z : Value) : Blk (put3 W B x y z) B t #[x, y, z] := by
  have := ((k.set 0 x).set 1 y).set 2 z
  simpa using this

theorem put3_below {W : World} {n B : Nat} (h : n ≤ B) (x y z : Value) : Below n W (put3 W B x y z) :=
  (((Below.refl n W).setCell (p := ⟨B, 0, none⟩) h x).setCell (p := ⟨B, 1, none⟩) h y).setCell (p := ⟨B, 2, none⟩) h z

theorem put3_below_block (W : World) (B k : Nat) (h : k ≠ B) (x y z : Value) : (put3 W B x y z).heap[k]? = W.heap[k]? :=
  (Below.heap_setCell _ _ _ _ h).trans ((Below.heap_setCell _ _ _ _ h).trans (Below.heap_setCell _ _ _ _ h))

theorem put3_row {W : World} {B : Nat} {base : Nat} {e : TypeId} {size : Nat} {v : Value} {k : Nat} {xs : List Value} (h : W.ownsRow base e size v k xs) (hne : some B ≠ v.ownBlock) (x y z : Value) : (put3 W B x y z).ownsRow base e size v k xs :=
  row_setCell (row_setCell (row_setCell h (a := ⟨B, 0, none⟩) hne x) (a := ⟨B, 1, none⟩) hne y) (a := ⟨B, 2, none⟩) hne z

theorem OwnIm.weaken {B B' : Nat} {W : World} {v : Value} {iw ih : Int} {xs : List Int} (h : OwnIm B W v iw ih xs) (hB : B' ≤ B) : OwnIm B' W v iw ih xs := by
  obtain ⟨s, h1, h2, h3⟩ := h
  refine ⟨s, h1, h2, ?_⟩
  rcases h3 with h3 | ⟨g, cap, cur, e1, e2, r⟩
  · exact .inl h3
  · exact .inr ⟨g, cap, cur, e1, by omega, r⟩

/-- The coordinate of a warp's source. -/
def src (a b c den x y : Int) : Int := (2 * (a * x + b * y + c) + den) / (2 * den)

theorem prod_bd {a x m n : Int} (h1 : -m ≤ a) (h2 : a ≤ m) (h3 : 0 ≤ x) (h4 : x ≤ n) (hm : 0 ≤ m) : -(m * n) ≤ a * x ∧ a * x ≤ m * n := by
  have e1 : a * x ≤ m * x := Int.mul_le_mul_of_nonneg_right h2 h3
  have e2 : m * x ≤ m * n := Int.mul_le_mul_of_nonneg_left h4 hm
  have e3 : -m * x ≤ a * x := Int.mul_le_mul_of_nonneg_right h1 h3
  have e4 : -m * x = -(m * x) := Int.neg_mul _ _
  omega

/-- A warp's numbers. -/
structure WarpN where
  a : Int
  b : Int
  c : Int
  d : Int
  e : Int
  f : Int
  den : Int

def WarpN.ok (t : WarpN) : Bool := (((((inR t.a (-65536) 65536 && inR t.b (-65536) 65536) && inR t.c (-65536) 65536) && inR t.d (-65536) 65536) && inR t.e (-65536) 65536) && inR t.f (-65536) 65536) && inR t.den 1 65536

abbrev WarpN.val (t : WarpN) : Value := .agg #[.int .i64 t.a, .int .i64 t.b, .int .i64 t.c, .int .i64 t.d, .int .i64 t.e, .int .i64 t.f, .int .i64 t.den]
abbrev WarpN.cells (t : WarpN) : Array Value := #[.int .i64 t.a, .int .i64 t.b, .int .i64 t.c, .int .i64 t.d, .int .i64 t.e, .int .i64 t.f, .int .i64 t.den]

/-- A warp's image at a place. -/
def warpG (iw ih : Int) (xs : List Int) (t : WarpN) (fill x y : Int) : Int :=
  if (inR (src t.a t.b t.c t.den x y) 0 (iw - 1) && inR (src t.d t.e t.f t.den x y) 0 (ih - 1)) = true then px xs (src t.d t.e t.f t.den x y * iw + src t.a t.b t.c t.den x y) else fill

theorem in_idx {iw ih u v : Int} {n : Nat} (hw : 1 ≤ iw) (hn : (n : Int) = iw * ih) (hu0 : 0 ≤ u) (hu1 : u ≤ iw - 1) (hv0 : 0 ≤ v) (hv1 : v ≤ ih - 1) : 0 ≤ v * iw ∧ 0 ≤ v * iw + u ∧ v * iw + u < n ∧ v * iw < n := by
  have h1 : 0 ≤ v * iw := Int.mul_nonneg hv0 (by omega)
  have h2 : v * iw ≤ (ih - 1) * iw := Int.mul_le_mul_of_nonneg_right hv1 (by omega)
  have h3 : (ih - 1) * iw = iw * ih - iw := by rw [Int.sub_mul, Int.mul_comm ih iw]; omega
  omega

/-- The image that Turn makes, at a place; that of Flip. -/
def turnG (iw ih : Int) (xs : List Int) (x y : Int) : Int := px xs ((ih - 1 - x) * iw + y)
def flipG (iw : Int) (xs : List Int) (x y : Int) : Int := px xs (y * iw + (iw - 1 - x))

theorem row_slice {W : World} {base : Nat} {e : TypeId} {size : Nat} {v : Value} {k : Nat} {xs : List Value} (h : W.ownsRow base e size v k xs) : ∃ a c, v = .slice a k c := by
  rcases h.2 with ⟨h1, h2⟩ | ⟨g, cap, cur, h1, _⟩
  · exact ⟨none, 0, by rw [h1, h2]⟩
  · exact ⟨_, _, h1⟩

/-- What Turn returns. -/
def turnS (iw ih : Int) (xs : List Int) : ImR := if vld iw ih xs = true then { w := ih, h := iw, px := img ih.toNat iw.toNat (turnG iw ih xs), err := 0 } else noIm 20

/-- What Flip returns. -/
def flipS (iw ih : Int) (xs : List Int) : ImR := if vld iw ih xs = true then { w := iw, h := ih, px := img iw.toNat ih.toNat (flipG iw xs), err := 0 } else noIm 20

theorem alloc_below {W W2 : World} {o : Obj} (h : W.alloc o = W2) : Below W.heap.size W W2 := h ▸ (Below.refl _ _).alloc (Nat.le_refl _) _

theorem below_al {a w : World} (h : Below a.heap.size a w) (o : Obj) : Below a.heap.size a (w.alloc o) := h.alloc h.size o

theorem within6 (lo hi x0 x1 x2 x3 x4 x5 : Int) (v : Bool) (hv : (((((inR x0 lo hi && inR x1 lo hi) && inR x2 lo hi) && inR x3 lo hi) && inR x4 lo hi) && inR x5 lo hi) = v) (b : Nat) (c : Nat) (w : World) (t : TypeId) (h : Blk w b t #[.int .i64 x0, .int .i64 x1, .int .i64 x2, .int .i64 x3, .int .i64 x4, .int .i64 x5]) :
    Calls Try.prog 50 #[.int .i64 lo, .int .i64 hi, .slice (some ⟨b, 0, none⟩) 6 c] w fun e w' => e = .returned (.bool v) ∧ w = w' := by
  subst hv
  have h' := within_any lo hi (some ⟨b, 0, none⟩) c [x0, x1, x2, x3, x4, x5] w (by simp) (.inr ⟨b, 0, rfl, h.lt, fun i hi => by
    have : i = 0 ∨ i = 1 ∨ i = 2 ∨ i = 3 ∨ i = 4 ∨ i = 5 := by simp at hi; omega
    rcases this with rfl | rfl | rfl | rfl | rfl | rfl <;> exact h.cell rfl⟩)
  refine h'.mono fun e w' ⟨he, hw⟩ => ⟨he.trans (ret_bool (by simp [allIn, inR, Bool.and_assoc])), hw⟩

/-- What Warp returns. -/
def warpS (iw ih : Int) (xs : List Int) (t : WarpN) (rw rh fill : Int) : ImR :=
  if vld iw ih xs = true then (if (t.ok && (inR rw 1 16 && inR rh 1 16) && inR fill (-2147483648) 2147483648) = true then { w := rw, h := rh, px := img rw.toNat rh.toNat (warpG iw ih xs t fill), err := 0 } else noIm 2) else noIm 20

end Go.Proofs.Ytbfigbpjoaccdaa

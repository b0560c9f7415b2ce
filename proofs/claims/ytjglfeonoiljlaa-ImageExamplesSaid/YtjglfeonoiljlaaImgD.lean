/- The contracts of Warp, Turn and Flip of the package image. -/
import Derived.Test.YtjglfeonoiljlaaImgC
namespace Go.Proofs.Ytjglfeonoiljlaa
open Go Go.RowKit Go.Shelf
set_option linter.unusedVariables false
set_option linter.unusedSimpArgs false

/-- What a function returns: an image in new memory of the call's own, from block B on, and a number. -/
structure ImR where
  w : Int
  h : Int
  px : List Int
  err : Int

def RetIm (B : Nat) (r : ImR) (w : World) (e : Ending) (w' : World) : Prop :=
  (∃ v, e = .returned (.tuple #[v, .int .i64 r.err]) ∧ OwnIm B w' v r.w r.h r.px) ∧ Below B w w'

/-- The refusal with a number. -/
def noIm (err : Int) : ImR := { w := 0, h := 0, px := [], err := err }

theorem OwnIm_nil (B : Nat) (W : World) : OwnIm B W (.agg #[.int .i64 0, .int .i64 0, .slice none 0 0]) 0 0 [] := ⟨_, rfl, World.ownsRow_nil _ _ _ _⟩

/-- Three cells written one after the other. -/
abbrev put3 (W : World) (B : Nat) (x y z : Value) : World := ((W.setCell ⟨B, 0, none⟩ x).setCell ⟨B, 1, none⟩ y).setCell ⟨B, 2, none⟩ z

theorem put3_blk {W : World} {B : Nat} {t : TypeId} {a b c : Value} (k : Blk W B t #[a, b, c]) (x y z : Value) : Blk (put3 W B x y z) B t #[x, y, z] := by
  have := ((k.set 0 x).set 1 y).set 2 z
  simpa using this

theorem put3_below {W : World} {n B : Nat} (h : n ≤ B) (x y z : Value) : Below n W (put3 W B x y z) :=
  (((Below.refl n W).setCell (p := ⟨B, 0, none⟩) h x).setCell (p := ⟨B, 1, none⟩) h y).setCell (p := ⟨B, 2, none⟩) h z

theorem put3_below_block (W : World) (B k : Nat) (h : k ≠ B) (x y z : Value) : (put3 W B x y z).heap[k]? = W.heap[k]? :=
  (Below.heap_setCell _ _ _ _ h).trans ((Below.heap_setCell _ _ _ _ h).trans (Below.heap_setCell _ _ _ _ h))

theorem put3_row {W : World} {B : Nat} {base : Nat} {e : TypeId} {size : Nat} {v : Value} {k : Nat} {xs : List Value} (h : W.ownsRow base e size v k xs) (hne : some B ≠ v.ownBlock) (x y z : Value) : (put3 W B x y z).ownsRow base e size v k xs :=
  row_setCell (row_setCell (row_setCell h (a := ⟨B, 0, none⟩) hne x) (a := ⟨B, 1, none⟩) hne y) (a := ⟨B, 2, none⟩) hne z

theorem OwnIm.weaken {B B' : Nat} {W : World} {v : Value} {iw ih : Int} {xs : List Int} (h : OwnIm B W v iw ih xs) (hB : B' ≤ B) : OwnIm B' W v iw ih xs := by
  obtain ⟨s, h1, h2, h3⟩ := h
  refine ⟨s, h1, h2, ?_⟩
  rcases h3 with h3 | ⟨g, cap, cur, e1, e2, r⟩
  · exact .inl h3
  · exact .inr ⟨g, cap, cur, e1, by omega, r⟩

/-- The coordinate of a warp's source. -/
def src (a b c den x y : Int) : Int := (2 * (a * x + b * y + c) + den) / (2 * den)

theorem prod_bd {a x m n : Int} (h1 : -m ≤ a) (h2 : a ≤ m) (h3 : 0 ≤ x) (h4 : x ≤ n) (hm : 0 ≤ m) : -(m * n) ≤ a * x ∧ a * x ≤ m * n := by
  have e1 : a * x ≤ m * x := Int.mul_le_mul_of_nonneg_right h2 h3
  have e2 : m * x ≤ m * n := Int.mul_le_mul_of_nonneg_left h4 hm
  have e3 : -m * x ≤ a * x := Int.mul_le_mul_of_nonneg_right h1 h3
  have e4 : -m * x = -(m * x) := Int.neg_mul _ _
  omega

/-- A warp's numbers. -/
structure WarpN where
  a : Int
  b : Int
  c : Int
  d : Int
  e : Int
  f : Int
  den : Int

def WarpN.ok (t : WarpN) : Bool := (((((inR t.a (-65536) 65536 && inR t.b (-65536) 65536) && inR t.c (-65536) 65536) && inR t.d (-65536) 65536) && inR t.e (-65536) 65536) && inR t.f (-65536) 65536) && inR t.den 1 65536

abbrev WarpN.val (t : WarpN) : Value := .agg #[.int .i64 t.a, .int .i64 t.b, .int .i64 t.c, .int .i64 t.d, .int .i64 t.e, .int .i64 t.f, .int .i64 t.den]
abbrev WarpN.cells (t : WarpN) : Array Value := #[.int .i64 t.a, .int .i64 t.b, .int .i64 t.c, .int .i64 t.d, .int .i64 t.e, .int .i64 t.f, .int .i64 t.den]

theorem Warp1_any (a b c x y den : Int) (bt : Nat) (w : World) (ha1 : -1048576 ≤ a * x) (ha2 : a * x ≤ 1048576) (hb1 : -1048576 ≤ b * y) (hb2 : b * y ≤ 1048576) (hc1 : -65536 ≤ c) (hc2 : c ≤ 65536) (hd1 : 1 ≤ den) (hd2 : den ≤ 65536)
    (hc : w.cell? ⟨bt, 6, none⟩ = some (.int .i64 den)) :
    Calls Try.prog 76 #[.int .i64 a, .int .i64 b, .int .i64 c, .int .i64 x, .int .i64 y, .pointer (some ⟨bt, 0, none⟩)] w fun e w' => e = .returned (.int .i64 (src a b c den x y)) ∧ w = w' := by
  go_enter Try.func76, Try.ntmps76
  go_wp2_with fail
  refine (floor_any _ _ _ (by omega) (by omega) (by omega) (by omega)).mono ?_
  rintro e w' ⟨rfl, rfl⟩
  go_wp2_with fail
  go_ret
  exact ⟨rfl, rfl⟩

/-- A warp's image at a place. -/
def warpG (iw ih : Int) (xs : List Int) (t : WarpN) (fill x y : Int) : Int :=
  if (inR (src t.a t.b t.c t.den x y) 0 (iw - 1) && inR (src t.d t.e t.f t.den x y) 0 (ih - 1)) = true then px xs (src t.d t.e t.f t.den x y * iw + src t.a t.b t.c t.den x y) else fill

theorem in_idx {iw ih u v : Int} {n : Nat} (hw : 1 ≤ iw) (hn : (n : Int) = iw * ih) (hu0 : 0 ≤ u) (hu1 : u ≤ iw - 1) (hv0 : 0 ≤ v) (hv1 : v ≤ ih - 1) : 0 ≤ v * iw ∧ 0 ≤ v * iw + u ∧ v * iw + u < n ∧ v * iw < n := by
  have h1 : 0 ≤ v * iw := Int.mul_nonneg hv0 (by omega)
  have h2 : v * iw ≤ (ih - 1) * iw := Int.mul_le_mul_of_nonneg_right hv1 (by omega)
  have h3 : (ih - 1) * iw = iw * ih - iw := by rw [Int.sub_mul, Int.mul_comm ih iw]; omega
  omega

set_option maxRecDepth 100000 in
set_option maxHeartbeats 1000000 in
theorem Warp2_any (iw ih : Int) (a : Option Addr) (c n : Nat) (xs : List Int) (hn : Hid (xs.length = n)) (t : WarpN) (fill x y : Int) (b12 b6 b5 b9 : Nat) (W : World) (hi1 : 1 ≤ iw) (hi2 : iw ≤ 16) (hi3 : 1 ≤ ih) (hi4 : ih ≤ 16) (hnn : Hid ((n : Int) = iw * ih)) (ht : t.ok = true) (hx1 : 0 ≤ x) (hx2 : x ≤ 16) (hy1 : 0 ≤ y) (hy2 : y ≤ 16)
    (k12 : Blk W b12 98 #[.func (.func 76) #[] #[.pointer (some ⟨b6, 0, none⟩)]]) (k6 : Blk W b6 26 t.cells) (k5 : Blk W b5 24 #[.int .i64 iw, .int .i64 ih, .slice a n c]) (k9 : Blk W b9 3 #[.int .i64 fill]) (hr : Rd W.heap.size W a xs) :
    Calls Try.prog 79 #[.int .i64 x, .int .i64 y, .pointer (some ⟨b12, 0, none⟩), .pointer (some ⟨b6, 0, none⟩), .pointer (some ⟨b5, 0, none⟩), .pointer (some ⟨b9, 0, none⟩)] W fun e W' => e = .returned (.int .i64 (warpG iw ih xs t fill x y)) ∧ Below W.heap.size W W' := by
  simp only [WarpN.ok, Bool.and_eq_true, inR_true] at ht
  obtain ⟨⟨⟨⟨⟨⟨⟨b11, b12'⟩, b21, b22⟩, b31, b32⟩, b41, b42⟩, b51, b52⟩, b61, b62⟩, bd1, bd2⟩ := ht
  have p1 := prod_bd b11 b12' hx1 hx2 (by omega)
  have p2 := prod_bd b21 b22 hy1 hy2 (by omega)
  have p4 := prod_bd b41 b42 hx1 hx2 (by omega)
  have p5 := prod_bd b51 b52 hy1 hy2 (by omega)
  have hn9 : n ≤ 256 := by
    have := hnn.out
    obtain ⟨m1, m2⟩ := mul_small (a := iw) (b := ih) (by omega) hi2 (by omega) hi4
    omega
  have hS : Below W.heap.size W W.drew := (Below.refl _ _).drew
  obtain ⟨u, hu⟩ : ∃ u, src t.a t.b t.c t.den x y = u := ⟨_, rfl⟩
  obtain ⟨v, hv⟩ : ∃ v, src t.d t.e t.f t.den x y = v := ⟨_, rfl⟩
  have huH := Lib.hid hu
  have hvH := Lib.hid hv
  clear hu hv
  obtain ⟨o1, ho1⟩ : ∃ o, (inR u 0 (iw - 1) && inR v 0 (ih - 1)) = o := ⟨_, rfl⟩
  have hoH := Lib.hid ho1
  clear ho1
  go_enter Try.func79, Try.ntmps79
  go_wp2_with fail
  refine plain_region (fun W' => Below W.heap.size W W') 22 22 (by kernel_rfl) rfl ?_
  simp only [Array.replicate_succ, Array.replicate_zero, List.push_toArray, List.nil_append, List.cons_append]
  refine take_op 0 (v := ?rv0) rfl (by kernel_rfl) (fun _ _ _ h => h) (by rfl) hS (fun w' hS' => ?ry0) ?rz0
  case ry0 =>
    have f0 := (k12.below hS' k12.lt).cell (i := 0) rfl
    have a0 := (k6.below hS' k6.lt).cell (i := 0) rfl
    have a1 := (k6.below hS' k6.lt).cell (i := 1) rfl
    have a2 := (k6.below hS' k6.lt).cell (i := 2) rfl
    have a3 := (k6.below hS' k6.lt).cell (i := 3) rfl
    have a4 := (k6.below hS' k6.lt).cell (i := 4) rfl
    have a5 := (k6.below hS' k6.lt).cell (i := 5) rfl
    go_simp
    rfl
  simp only [List.setIfInBounds_toArray, List.set_cons_zero, List.set_cons_succ]
  refine take_op 1 (v := ?rv1) rfl (by kernel_rfl) (fun _ _ _ h => h) (by rfl) hS (fun w' hS' => ?ry1) ?rz1
  case ry1 =>
    go_simp
    rfl
  simp only [List.setIfInBounds_toArray, List.set_cons_zero, List.set_cons_succ]
  refine take_op 2 (v := ?rv2) rfl (by kernel_rfl) (fun _ _ _ h => h) (by rfl) hS (fun w' hS' => ?ry2) ?rz2
  case ry2 =>
    have f0 := (k12.below hS' k12.lt).cell (i := 0) rfl
    have a0 := (k6.below hS' k6.lt).cell (i := 0) rfl
    have a1 := (k6.below hS' k6.lt).cell (i := 1) rfl
    have a2 := (k6.below hS' k6.lt).cell (i := 2) rfl
    have a3 := (k6.below hS' k6.lt).cell (i := 3) rfl
    have a4 := (k6.below hS' k6.lt).cell (i := 4) rfl
    have a5 := (k6.below hS' k6.lt).cell (i := 5) rfl
    go_simp
    rfl
  simp only [List.setIfInBounds_toArray, List.set_cons_zero, List.set_cons_succ]
  refine take_op 3 (v := ?rv3) rfl (by kernel_rfl) (fun _ _ _ h => h) (by rfl) hS (fun w' hS' => ?ry3) ?rz3
  case ry3 =>
    go_simp
    rfl
  simp only [List.setIfInBounds_toArray, List.set_cons_zero, List.set_cons_succ]
  refine take_op 4 (v := ?rv4) rfl (by kernel_rfl) (fun _ _ _ h => h) (by rfl) hS (fun w' hS' => ?ry4) ?rz4
  case ry4 =>
    have f0 := (k12.below hS' k12.lt).cell (i := 0) rfl
    have a0 := (k6.below hS' k6.lt).cell (i := 0) rfl
    have a1 := (k6.below hS' k6.lt).cell (i := 1) rfl
    have a2 := (k6.below hS' k6.lt).cell (i := 2) rfl
    have a3 := (k6.below hS' k6.lt).cell (i := 3) rfl
    have a4 := (k6.below hS' k6.lt).cell (i := 4) rfl
    have a5 := (k6.below hS' k6.lt).cell (i := 5) rfl
    go_simp
    rfl
  simp only [List.setIfInBounds_toArray, List.set_cons_zero, List.set_cons_succ]
  refine take_op 5 (v := ?rv5) rfl (by kernel_rfl) (fun _ _ _ h => h) (by rfl) hS (fun w' hS' => ?ry5) ?rz5
  case ry5 =>
    go_simp
    rfl
  simp only [List.setIfInBounds_toArray, List.set_cons_zero, List.set_cons_succ]
  refine take_op 6 (v := ?rv6) rfl (by kernel_rfl) (fun _ _ _ h => h) (by rfl) hS (fun w' hS' => ?ry6) ?rz6
  case ry6 =>
    have f0 := (k12.below hS' k12.lt).cell (i := 0) rfl
    have a0 := (k6.below hS' k6.lt).cell (i := 0) rfl
    have a1 := (k6.below hS' k6.lt).cell (i := 1) rfl
    have a2 := (k6.below hS' k6.lt).cell (i := 2) rfl
    have a3 := (k6.below hS' k6.lt).cell (i := 3) rfl
    have a4 := (k6.below hS' k6.lt).cell (i := 4) rfl
    have a5 := (k6.below hS' k6.lt).cell (i := 5) rfl
    go_simp
    rfl
  simp only [List.setIfInBounds_toArray, List.set_cons_zero, List.set_cons_succ]
  refine take_op 7 (v := ?rv7) rfl (by kernel_rfl) (fun _ _ _ h => h) (by rfl) hS (fun w' hS' => ?ry7) ?rz7
  case ry7 =>
    go_simp
    rfl
  simp only [List.setIfInBounds_toArray, List.set_cons_zero, List.set_cons_succ]
  refine take_op 8 (v := ?rv8) rfl (by kernel_rfl) (fun _ _ _ h => h) (by rfl) hS (fun w' hS' => ?ry8) ?rz8
  case ry8 =>
    go_simp
    rfl
  simp only [List.setIfInBounds_toArray, List.set_cons_zero, List.set_cons_succ]
  refine take_op 10 (v := ?rv10) rfl (by kernel_rfl) (fun _ _ _ h => h) (by rfl) hS (fun w' hS' => ?ry10) ?rz10
  case ry10 =>
    have f0 := (k12.below hS' k12.lt).cell (i := 0) rfl
    have a0 := (k6.below hS' k6.lt).cell (i := 0) rfl
    have a1 := (k6.below hS' k6.lt).cell (i := 1) rfl
    have a2 := (k6.below hS' k6.lt).cell (i := 2) rfl
    have a3 := (k6.below hS' k6.lt).cell (i := 3) rfl
    have a4 := (k6.below hS' k6.lt).cell (i := 4) rfl
    have a5 := (k6.below hS' k6.lt).cell (i := 5) rfl
    go_simp
    rfl
  simp only [List.setIfInBounds_toArray, List.set_cons_zero, List.set_cons_succ]
  refine take_op 11 (v := ?rv11) rfl (by kernel_rfl) (fun _ _ _ h => h) (by rfl) hS (fun w' hS' => ?ry11) ?rz11
  case ry11 =>
    go_simp
    rfl
  simp only [List.setIfInBounds_toArray, List.set_cons_zero, List.set_cons_succ]
  refine take_op 12 (v := ?rv12) rfl (by kernel_rfl) (fun _ _ _ h => h) (by rfl) hS (fun w' hS' => ?ry12) ?rz12
  case ry12 =>
    have f0 := (k12.below hS' k12.lt).cell (i := 0) rfl
    have a0 := (k6.below hS' k6.lt).cell (i := 0) rfl
    have a1 := (k6.below hS' k6.lt).cell (i := 1) rfl
    have a2 := (k6.below hS' k6.lt).cell (i := 2) rfl
    have a3 := (k6.below hS' k6.lt).cell (i := 3) rfl
    have a4 := (k6.below hS' k6.lt).cell (i := 4) rfl
    have a5 := (k6.below hS' k6.lt).cell (i := 5) rfl
    go_simp
    rfl
  simp only [List.setIfInBounds_toArray, List.set_cons_zero, List.set_cons_succ]
  refine take_op 13 (v := ?rv13) rfl (by kernel_rfl) (fun _ _ _ h => h) (by rfl) hS (fun w' hS' => ?ry13) ?rz13
  case ry13 =>
    go_simp
    rfl
  simp only [List.setIfInBounds_toArray, List.set_cons_zero, List.set_cons_succ]
  refine take_op 14 (v := ?rv14) rfl (by kernel_rfl) (fun _ _ _ h => h) (by rfl) hS (fun w' hS' => ?ry14) ?rz14
  case ry14 =>
    have f0 := (k12.below hS' k12.lt).cell (i := 0) rfl
    have a0 := (k6.below hS' k6.lt).cell (i := 0) rfl
    have a1 := (k6.below hS' k6.lt).cell (i := 1) rfl
    have a2 := (k6.below hS' k6.lt).cell (i := 2) rfl
    have a3 := (k6.below hS' k6.lt).cell (i := 3) rfl
    have a4 := (k6.below hS' k6.lt).cell (i := 4) rfl
    have a5 := (k6.below hS' k6.lt).cell (i := 5) rfl
    go_simp
    rfl
  simp only [List.setIfInBounds_toArray, List.set_cons_zero, List.set_cons_succ]
  refine take_op 15 (v := ?rv15) rfl (by kernel_rfl) (fun _ _ _ h => h) (by rfl) hS (fun w' hS' => ?ry15) ?rz15
  case ry15 =>
    go_simp
    rfl
  simp only [List.setIfInBounds_toArray, List.set_cons_zero, List.set_cons_succ]
  refine take_op 16 (v := ?rv16) rfl (by kernel_rfl) (fun _ _ _ h => h) (by rfl) hS (fun w' hS' => ?ry16) ?rz16
  case ry16 =>
    have f0 := (k12.below hS' k12.lt).cell (i := 0) rfl
    have a0 := (k6.below hS' k6.lt).cell (i := 0) rfl
    have a1 := (k6.below hS' k6.lt).cell (i := 1) rfl
    have a2 := (k6.below hS' k6.lt).cell (i := 2) rfl
    have a3 := (k6.below hS' k6.lt).cell (i := 3) rfl
    have a4 := (k6.below hS' k6.lt).cell (i := 4) rfl
    have a5 := (k6.below hS' k6.lt).cell (i := 5) rfl
    go_simp
    rfl
  simp only [List.setIfInBounds_toArray, List.set_cons_zero, List.set_cons_succ]
  refine take_op 17 (v := ?rv17) rfl (by kernel_rfl) (fun _ _ _ h => h) (by rfl) hS (fun w' hS' => ?ry17) ?rz17
  case ry17 =>
    go_simp
    rfl
  simp only [List.setIfInBounds_toArray, List.set_cons_zero, List.set_cons_succ]
  refine take_op 18 (v := ?rv18) rfl (by kernel_rfl) (fun _ _ _ h => h) (by rfl) hS (fun w' hS' => ?ry18) ?rz18
  case ry18 =>
    go_simp
    rfl
  simp only [List.setIfInBounds_toArray, List.set_cons_zero, List.set_cons_succ]
  refine step_op 9 (by kernel_rfl) rfl (fun K hK => ?_)
  rw [if_pos (by rfl)]
  go_simp
  refine (Warp1_any t.a t.b t.c x y t.den b6 _ p1.1 p1.2 p2.1 p2.2 b31 b32 bd1 bd2 ((k6.below hS k6.lt).cell rfl)).mono ?_
  rintro e W1 ⟨rfl, rfl⟩
  refine hK.out _ _ (fun h => hS) ?_
  clear hK K
  try simp only [Act.put, List.setIfInBounds_toArray, List.set_cons_zero, List.set_cons_succ]
  refine step_op 19 (by kernel_rfl) rfl (fun K hK => ?_)
  rw [if_pos (by rfl)]
  go_simp
  refine (Warp1_any t.d t.e t.f x y t.den b6 _ p4.1 p4.2 p5.1 p5.2 b61 b62 bd1 bd2 ((k6.below hS k6.lt).cell rfl)).mono ?_
  rintro e W1 ⟨rfl, rfl⟩
  refine hK.out _ _ (fun h => hS) ?_
  clear hK K
  try simp only [Act.put, List.setIfInBounds_toArray, List.set_cons_zero, List.set_cons_succ]
  refine take_op 20 (v := ?rv20) rfl (by kernel_rfl) (fun _ _ _ h => h) (by rfl) hS (fun w' hS' => ?ry20) ?rz20
  case ry20 =>
    go_simp
    rfl
  simp only [List.setIfInBounds_toArray, List.set_cons_zero, List.set_cons_succ]
  refine take_op 21 (v := ?rv21) rfl (by kernel_rfl) (fun _ _ _ h => h) (by rfl) hS (fun w' hS' => ?ry21) ?rz21
  case ry21 =>
    go_simp
    rfl
  simp only [List.setIfInBounds_toArray, List.set_cons_zero, List.set_cons_succ]
  refine done_ops (by kernel_rfl) ?_
  rw [huH.out, hvH.out]
  have c0 := (k5.below hS k5.lt).cell (i := 0) rfl
  have c1 := (k5.below hS k5.lt).cell (i := 1) rfl
  have c2 := (k5.below hS k5.lt).cell (i := 2) rfl
  have c9 := (k9.below hS k9.lt).cell (i := 0) rfl
  go_wp2_with fail
  refine (inside_any iw ih u v _ W.drew (by omega) (by omega) (by omega) (by omega) ⟨a, n, c, rfl⟩).mono ?_
  rintro e W1 ⟨rfl, hb1⟩
  rw [hoH.out]
  have hS1 : Below W.heap.size W W1 := hS.trans hb1
  have d0 := (k5.below hS1 k5.lt).cell (i := 0) rfl
  have d1 := (k5.below hS1 k5.lt).cell (i := 1) rfl
  have d2 := (k5.below hS1 k5.lt).cell (i := 2) rfl
  have d9 := (k9.below hS1 k9.lt).cell (i := 0) rfl
  clear c0 c1 c2 c9
  cases o1 with
  | false =>
    go_wp2_with fail
    go_ret
    exact ⟨ret_int (by unfold warpG; rw [huH.out, hvH.out, hoH.out]; rfl), hS1⟩
  | true =>
    have ho := hoH.out
    simp only [Bool.and_eq_true, inR_true] at ho
    obtain ⟨q1, q2, q3, q4⟩ := in_idx hi1 hnn.out ho.1.1 ho.1.2 ho.2.1 ho.2.2
    clear ho
    go_wp2_with fail
    refine (at_any iw ih u v a c xs n hn W1 (by omega) (by omega) q2 q3 (by omega) ((hr.below (Nat.le_refl _) hS1).mono hS1.size)).mono ?_
    rintro e W2 ⟨rfl, hb2⟩
    go_wp2_with fail
    go_ret
    exact ⟨ret_int (by unfold warpG; rw [huH.out, hvH.out, hoH.out]; rfl), hS1.trans (hb2.mono hS1.size)⟩

/-- The image that Turn makes, at a place; that of Flip. -/
def turnG (iw ih : Int) (xs : List Int) (x y : Int) : Int := px xs ((ih - 1 - x) * iw + y)
def flipG (iw : Int) (xs : List Int) (x y : Int) : Int := px xs (y * iw + (iw - 1 - x))

set_option maxHeartbeats 400000 in
theorem Turn1_any (iw ih : Int) (a : Option Addr) (c n : Nat) (xs : List Int) (hn : Hid (xs.length = n)) (x y : Int) (b5 : Nat) (W : World) (hi1 : 1 ≤ iw) (hi2 : iw ≤ 16) (hi3 : 1 ≤ ih) (hi4 : ih ≤ 16) (hnn : Hid ((n : Int) = iw * ih)) (hx1 : 0 ≤ x) (hx2 : x ≤ ih - 1) (hy1 : 0 ≤ y) (hy2 : y ≤ iw - 1)
    (k5 : Blk W b5 24 #[.int .i64 iw, .int .i64 ih, .slice a n c]) (hr : Rd W.heap.size W a xs) :
    Calls Try.prog 88 #[.int .i64 x, .int .i64 y, .pointer (some ⟨b5, 0, none⟩)] W fun e W' => e = .returned (.int .i64 (turnG iw ih xs x y)) ∧ Below W.heap.size W W' := by
  have c0 := k5.cell (i := 0) rfl
  have c1 := k5.cell (i := 1) rfl
  have c2 := k5.cell (i := 2) rfl
  obtain ⟨m1, m2⟩ := mul_small (a := iw) (b := ih) (by omega) hi2 (by omega) hi4
  obtain ⟨q1, q2, q3, q4⟩ := in_idx (u := y) (v := ih - 1 - x) hi1 hnn.out hy1 hy2 (by omega) (by omega)
  have hn9 : n ≤ 256 := by have := hnn.out; omega
  go_enter Try.func88, Try.ntmps88
  go_wp2_with fail
  refine (at_any iw ih y (ih - 1 - x) a c xs n hn _ (Int.le_trans (by decide) q1) (Int.le_trans (Int.le_of_lt q4) (by omega)) q2 q3 (by omega) hr).mono ?_
  rintro e W2 ⟨rfl, hb2⟩
  go_wp2_with fail
  go_ret
  exact ⟨rfl, hb2⟩

set_option maxHeartbeats 400000 in
theorem Flip1_any (iw ih : Int) (a : Option Addr) (c n : Nat) (xs : List Int) (hn : Hid (xs.length = n)) (x y : Int) (b5 : Nat) (W : World) (hi1 : 1 ≤ iw) (hi2 : iw ≤ 16) (hi3 : 1 ≤ ih) (hi4 : ih ≤ 16) (hnn : Hid ((n : Int) = iw * ih)) (hx1 : 0 ≤ x) (hx2 : x ≤ iw - 1) (hy1 : 0 ≤ y) (hy2 : y ≤ ih - 1)
    (k5 : Blk W b5 24 #[.int .i64 iw, .int .i64 ih, .slice a n c]) (hr : Rd W.heap.size W a xs) :
    Calls Try.prog 89 #[.int .i64 x, .int .i64 y, .pointer (some ⟨b5, 0, none⟩)] W fun e W' => e = .returned (.int .i64 (flipG iw xs x y)) ∧ Below W.heap.size W W' := by
  have c0 := k5.cell (i := 0) rfl
  have c1 := k5.cell (i := 1) rfl
  have c2 := k5.cell (i := 2) rfl
  obtain ⟨m1, m2⟩ := mul_small (a := iw) (b := ih) (by omega) hi2 (by omega) hi4
  obtain ⟨q1, q2, q3, q4⟩ := in_idx (u := iw - 1 - x) (v := y) hi1 hnn.out (by omega) (by omega) hy1 hy2
  have hn9 : n ≤ 256 := by have := hnn.out; omega
  go_enter Try.func89, Try.ntmps89
  go_wp2_with fail
  refine (at_any iw ih (iw - 1 - x) y a c xs n hn _ (Int.le_trans (by decide) q1) (Int.le_trans (Int.le_of_lt q4) (by omega)) q2 q3 (by omega) hr).mono ?_
  rintro e W2 ⟨rfl, hb2⟩
  go_wp2_with fail
  go_ret
  exact ⟨rfl, hb2⟩

theorem row_slice {W : World} {base : Nat} {e : TypeId} {size : Nat} {v : Value} {k : Nat} {xs : List Value} (h : W.ownsRow base e size v k xs) : ∃ a c, v = .slice a k c := by
  rcases h.2 with ⟨h1, h2⟩ | ⟨g, cap, cur, h1, _⟩
  · exact ⟨none, 0, by rw [h1, h2]⟩
  · exact ⟨_, _, h1⟩

/-- What Turn returns. -/
def turnS (iw ih : Int) (xs : List Int) : ImR := if vld iw ih xs = true then { w := ih, h := iw, px := img ih.toNat iw.toNat (turnG iw ih xs), err := 0 } else noIm 20

set_option maxRecDepth 100000 in
set_option maxHeartbeats 1000000 in
theorem Turn_any (iw ih : Int) (a : Option Addr) (c n : Nat) (xs : List Int) (hn : Hid (xs.length = n)) (w : World) (hm : n ≤ 9223372036854775807) (hr : Rd w.heap.size w a xs) :
    Calls Try.prog 28 #[imv iw ih a n c] w (RetIm w.heap.size (turnS iw ih xs) w) := by
  cases hv : vld iw ih xs with
  | false =>
    have hvH := Lib.hid hv
    clear hv
    go_enter Try.func28, Try.ntmps28
    go_wp2_with fail
    refine (valid_any iw ih a c xs n hn _ hm ((hr.below (Nat.le_refl _) (((Below.refl _ _).alloc (Nat.le_refl _) _).alloc (by simp) _)).mono (by simp <;> omega))).mono ?_
    rintro e W1 ⟨rfl, hb1⟩
    rw [hvH.out]
    have k := (Blk.new (w.alloc (.cells #[.int .i64 iw, .int .i64 ih, .slice a n c] 24)) 24 #[.int .i64 0, .int .i64 0, .slice none 0 0]).below hb1 (by simp)
    simp only [World.size_alloc] at k
    have hB1 : Below w.heap.size w W1 := (((Below.refl _ _).alloc (Nat.le_refl _) _).alloc (by simp) _).trans (hb1.mono (by simp <;> omega))
    clear hb1
    have c0 := k.cell (i := 0) rfl
    have c1 := k.cell (i := 1) rfl
    have c2 := k.cell (i := 2) rfl
    have f0 := k.frozen 0
    have f1 := k.frozen 1
    have f2 := k.frozen 2
    go_wp2_with fail
    have kf := put3_blk k (.int .i64 0) (.int .i64 0) (.slice none 0 0)
    have g0 := kf.cell (i := 0) rfl
    have g1 := kf.cell (i := 1) rfl
    have g2 := kf.cell (i := 2) rfl
    exact bodyPost_ret (v := .tuple #[.agg #[.int .i64 0, .int .i64 0, .slice none 0 0], .int .i64 20]) (by simp [results, Try.results28, go_sem, g0, g1, g2]) rfl ⟨⟨_, by simp only [turnS, hvH.out]; rfl, by simp only [turnS, hvH.out]; exact OwnIm_nil _ _⟩, hB1.trans (put3_below (by omega) _ _ _)⟩
  | true =>
    have hvH := Lib.hid hv
    obtain ⟨⟨i1, i2⟩, ⟨i3, i4⟩, hlen, _⟩ := vld_true hv
    rw [hn.out] at hlen
    have hlenH := Lib.hid hlen
    clear hv hlen
    obtain ⟨pw, rfl⟩ : ∃ pw : Nat, iw = (pw : Int) := ⟨iw.toNat, by omega⟩
    obtain ⟨ph, rfl⟩ : ∃ ph : Nat, ih = (ph : Int) := ⟨ih.toNat, by omega⟩
    go_enter Try.func28, Try.ntmps28
    go_wp2_with fail
    refine (valid_any pw ph a c xs n hn _ hm ((hr.below (Nat.le_refl _) (((Below.refl _ _).alloc (Nat.le_refl _) _).alloc (by simp) _)).mono (by simp <;> omega))).mono ?_
    rintro e W1 ⟨rfl, hb1⟩
    rw [hvH.out]
    have hB1 : Below w.heap.size w W1 := (((Below.refl _ _).alloc (Nat.le_refl _) _).alloc (by simp) _).trans (hb1.mono (by simp <;> omega))
    have k5 := ((Blk.new w 24 #[.int .i64 pw, .int .i64 ph, .slice a n c]).alloc (.cells #[.int .i64 0, .int .i64 0, .slice none 0 0] 24)).below hb1 (by simp <;> omega)
    have k := (Blk.new (w.alloc (.cells #[.int .i64 pw, .int .i64 ph, .slice a n c] 24)) 24 #[.int .i64 0, .int .i64 0, .slice none 0 0]).below hb1 (by simp)
    simp only [World.size_alloc] at k
    clear hb1
    have hlt := k.lt
    have a0 := k5.cell (i := 0) rfl
    have a1 := k5.cell (i := 1) rfl
    have a2 := k5.cell (i := 2) rfl
    go_wp2_with fail
    refine (made_any ph pw (by omega) (by omega) (by omega) (by omega) 88 #[.pointer (some ⟨w.heap.size, 0, none⟩)] (enters_of Try.func88 (by kernel_rfl) rfl) (turnG pw ph xs) W1 (fun x y W hx hy hb => ?_)).mono ?_
    · exact Turn1_any pw ph a c n xs hn x y w.heap.size W i1 i2 i3 i4 hlenH (by omega) (by omega) (by omega) (by omega) (k5.below hb (by omega)) ((hr.below (Nat.le_refl _) (hB1.trans (hb.mono hB1.size))).mono (Nat.le_trans hB1.size hb.size))
    rintro e W2 ⟨v, rfl, ⟨s, rfl, hrow⟩, hb2⟩
    have k2 := k.below hb2 hlt
    have c0 := k2.cell (i := 0) rfl
    have c1 := k2.cell (i := 1) rfl
    have c2 := k2.cell (i := 2) rfl
    have f0 := k2.frozen 0
    have f1 := k2.frozen 1
    have f2 := k2.frozen 2
    obtain ⟨sa, sc, rfl⟩ := row_slice hrow
    go_wp2_with fail
    have kf := put3_blk k2 (.int .i64 ph) (.int .i64 pw) (.slice sa (img ph pw (turnG pw ph xs)).length sc)
    have g0 := kf.cell (i := 0) rfl
    have g1 := kf.cell (i := 1) rfl
    have g2 := kf.cell (i := 2) rfl
    exact bodyPost_ret (v := .tuple #[.agg #[.int .i64 ph, .int .i64 pw, .slice sa (img ph pw (turnG pw ph xs)).length sc], .int .i64 0]) (by simp [results, Try.results28, go_sem, g0, g1, g2]) rfl ⟨⟨_, by simp only [turnS, hvH.out]; rfl, by simp only [turnS, hvH.out]; exact OwnIm.weaken ⟨_, rfl, put3_row hrow (k2.not_row (by decide) hrow) _ _ _⟩ hB1.size⟩, (hB1.trans (hb2.mono hB1.size)).trans (put3_below (by omega) _ _ _)⟩

/-- What Flip returns. -/
def flipS (iw ih : Int) (xs : List Int) : ImR := if vld iw ih xs = true then { w := iw, h := ih, px := img iw.toNat ih.toNat (flipG iw xs), err := 0 } else noIm 20

set_option maxRecDepth 100000 in
set_option maxHeartbeats 1000000 in
theorem Flip_any (iw ih : Int) (a : Option Addr) (c n : Nat) (xs : List Int) (hn : Hid (xs.length = n)) (w : World) (hm : n ≤ 9223372036854775807) (hr : Rd w.heap.size w a xs) :
    Calls Try.prog 30 #[imv iw ih a n c] w (RetIm w.heap.size (flipS iw ih xs) w) := by
  cases hv : vld iw ih xs with
  | false =>
    have hvH := Lib.hid hv
    clear hv
    go_enter Try.func30, Try.ntmps30
    go_wp2_with fail
    refine (valid_any iw ih a c xs n hn _ hm ((hr.below (Nat.le_refl _) (((Below.refl _ _).alloc (Nat.le_refl _) _).alloc (by simp) _)).mono (by simp <;> omega))).mono ?_
    rintro e W1 ⟨rfl, hb1⟩
    rw [hvH.out]
    have k := (Blk.new (w.alloc (.cells #[.int .i64 iw, .int .i64 ih, .slice a n c] 24)) 24 #[.int .i64 0, .int .i64 0, .slice none 0 0]).below hb1 (by simp)
    simp only [World.size_alloc] at k
    have hB1 : Below w.heap.size w W1 := (((Below.refl _ _).alloc (Nat.le_refl _) _).alloc (by simp) _).trans (hb1.mono (by simp <;> omega))
    clear hb1
    have c0 := k.cell (i := 0) rfl
    have c1 := k.cell (i := 1) rfl
    have c2 := k.cell (i := 2) rfl
    have f0 := k.frozen 0
    have f1 := k.frozen 1
    have f2 := k.frozen 2
    go_wp2_with fail
    have kf := put3_blk k (.int .i64 0) (.int .i64 0) (.slice none 0 0)
    have g0 := kf.cell (i := 0) rfl
    have g1 := kf.cell (i := 1) rfl
    have g2 := kf.cell (i := 2) rfl
    exact bodyPost_ret (v := .tuple #[.agg #[.int .i64 0, .int .i64 0, .slice none 0 0], .int .i64 20]) (by simp [results, Try.results30, go_sem, g0, g1, g2]) rfl ⟨⟨_, by simp only [flipS, hvH.out]; rfl, by simp only [flipS, hvH.out]; exact OwnIm_nil _ _⟩, hB1.trans (put3_below (by omega) _ _ _)⟩
  | true =>
    have hvH := Lib.hid hv
    obtain ⟨⟨i1, i2⟩, ⟨i3, i4⟩, hlen, _⟩ := vld_true hv
    rw [hn.out] at hlen
    have hlenH := Lib.hid hlen
    clear hv hlen
    obtain ⟨pw, rfl⟩ : ∃ pw : Nat, iw = (pw : Int) := ⟨iw.toNat, by omega⟩
    obtain ⟨ph, rfl⟩ : ∃ ph : Nat, ih = (ph : Int) := ⟨ih.toNat, by omega⟩
    go_enter Try.func30, Try.ntmps30
    go_wp2_with fail
    refine (valid_any pw ph a c xs n hn _ hm ((hr.below (Nat.le_refl _) (((Below.refl _ _).alloc (Nat.le_refl _) _).alloc (by simp) _)).mono (by simp <;> omega))).mono ?_
    rintro e W1 ⟨rfl, hb1⟩
    rw [hvH.out]
    have hB1 : Below w.heap.size w W1 := (((Below.refl _ _).alloc (Nat.le_refl _) _).alloc (by simp) _).trans (hb1.mono (by simp <;> omega))
    have k5 := ((Blk.new w 24 #[.int .i64 pw, .int .i64 ph, .slice a n c]).alloc (.cells #[.int .i64 0, .int .i64 0, .slice none 0 0] 24)).below hb1 (by simp <;> omega)
    have k := (Blk.new (w.alloc (.cells #[.int .i64 pw, .int .i64 ph, .slice a n c] 24)) 24 #[.int .i64 0, .int .i64 0, .slice none 0 0]).below hb1 (by simp)
    simp only [World.size_alloc] at k
    clear hb1
    have hlt := k.lt
    have a0 := k5.cell (i := 0) rfl
    have a1 := k5.cell (i := 1) rfl
    have a2 := k5.cell (i := 2) rfl
    go_wp2_with fail
    refine (made_any pw ph (by omega) (by omega) (by omega) (by omega) 89 #[.pointer (some ⟨w.heap.size, 0, none⟩)] (enters_of Try.func89 (by kernel_rfl) rfl) (flipG pw xs) W1 (fun x y W hx hy hb => ?_)).mono ?_
    · exact Flip1_any pw ph a c n xs hn x y w.heap.size W i1 i2 i3 i4 hlenH (by omega) (by omega) (by omega) (by omega) (k5.below hb (by omega)) ((hr.below (Nat.le_refl _) (hB1.trans (hb.mono hB1.size))).mono (Nat.le_trans hB1.size hb.size))
    rintro e W2 ⟨v, rfl, ⟨s, rfl, hrow⟩, hb2⟩
    have k2 := k.below hb2 hlt
    have c0 := k2.cell (i := 0) rfl
    have c1 := k2.cell (i := 1) rfl
    have c2 := k2.cell (i := 2) rfl
    have f0 := k2.frozen 0
    have f1 := k2.frozen 1
    have f2 := k2.frozen 2
    obtain ⟨sa, sc, rfl⟩ := row_slice hrow
    go_wp2_with fail
    have kf := put3_blk k2 (.int .i64 pw) (.int .i64 ph) (.slice sa (img pw ph (flipG pw xs)).length sc)
    have g0 := kf.cell (i := 0) rfl
    have g1 := kf.cell (i := 1) rfl
    have g2 := kf.cell (i := 2) rfl
    exact bodyPost_ret (v := .tuple #[.agg #[.int .i64 pw, .int .i64 ph, .slice sa (img pw ph (flipG pw xs)).length sc], .int .i64 0]) (by simp [results, Try.results30, go_sem, g0, g1, g2]) rfl ⟨⟨_, by simp only [flipS, hvH.out]; rfl, by simp only [flipS, hvH.out]; exact OwnIm.weaken ⟨_, rfl, put3_row hrow (k2.not_row (by decide) hrow) _ _ _⟩ hB1.size⟩, (hB1.trans (hb2.mono hB1.size)).trans (put3_below (by omega) _ _ _)⟩


theorem alloc_below {W W2 : World} {o : Obj} (h : W.alloc o = W2) : Below W.heap.size W W2 := h ▸ (Below.refl _ _).alloc (Nat.le_refl _) _

theorem below_al {a w : World} (h : Below a.heap.size a w) (o : Obj) : Below a.heap.size a (w.alloc o) := h.alloc h.size o

theorem within6 (lo hi x0 x1 x2 x3 x4 x5 : Int) (v : Bool) (hv : (((((inR x0 lo hi && inR x1 lo hi) && inR x2 lo hi) && inR x3 lo hi) && inR x4 lo hi) && inR x5 lo hi) = v) (b : Nat) (c : Nat) (w : World) (t : TypeId) (h : Blk w b t #[.int .i64 x0, .int .i64 x1, .int .i64 x2, .int .i64 x3, .int .i64 x4, .int .i64 x5]) :
    Calls Try.prog 75 #[.int .i64 lo, .int .i64 hi, .slice (some ⟨b, 0, none⟩) 6 c] w fun e w' => e = .returned (.bool v) ∧ w = w' := by
  subst hv
  have h' := within_any lo hi (some ⟨b, 0, none⟩) c [x0, x1, x2, x3, x4, x5] w (by simp) (.inr ⟨b, 0, rfl, h.lt, fun i hi => by
    have : i = 0 ∨ i = 1 ∨ i = 2 ∨ i = 3 ∨ i = 4 ∨ i = 5 := by simp at hi; omega
    rcases this with rfl | rfl | rfl | rfl | rfl | rfl <;> exact h.cell rfl⟩)
  refine h'.mono fun e w' ⟨he, hw⟩ => ⟨he.trans (ret_bool (by simp [allIn, inR, Bool.and_assoc])), hw⟩

/-- What Warp returns. -/
def warpS (iw ih : Int) (xs : List Int) (t : WarpN) (rw rh fill : Int) : ImR :=
  if vld iw ih xs = true then (if (t.ok && (inR rw 1 16 && inR rh 1 16) && inR fill (-2147483648) 2147483648) = true then { w := rw, h := rh, px := img rw.toNat rh.toNat (warpG iw ih xs t fill), err := 0 } else noIm 2) else noIm 20

set_option maxRecDepth 100000 in
set_option maxHeartbeats 4000000 in
theorem Warp_any (iw ih : Int) (a : Option Addr) (c n : Nat) (xs : List Int) (hn : Hid (xs.length = n)) (t : WarpN) (rw rh fill : Int) (w : World) (hm : n ≤ 9223372036854775807) (hr : Rd w.heap.size w a xs) :
    Calls Try.prog 24 #[imv iw ih a n c, t.val, .int .i64 rw, .int .i64 rh, .int .i64 fill] w (RetIm w.heap.size (warpS iw ih xs t rw rh fill) w) := by
  have hB0 : Below w.heap.size w ((((w.alloc (.cells #[.int .i64 iw, .int .i64 ih, .slice a n c] 24)).alloc (.cells t.cells 26)).alloc (.cells #[.int .i64 fill] 3)).alloc (.cells #[.int .i64 0, .int .i64 0, .slice none 0 0] 24)) := below_al (below_al (below_al (below_al (Below.refl _ _) _) _) _) _
  obtain ⟨v0, hv⟩ : ∃ v, vld iw ih xs = v := ⟨_, rfl⟩
  have hvH := Lib.hid hv
  obtain ⟨v1, h1⟩ : ∃ v, (((((inR t.a (-65536) 65536 && inR t.b (-65536) 65536) && inR t.c (-65536) 65536) && inR t.d (-65536) 65536) && inR t.e (-65536) 65536) && inR t.f (-65536) 65536) = v := ⟨_, rfl⟩
  have h1H := Lib.hid h1
  obtain ⟨v2, h2⟩ : ∃ v, inR t.den 1 65536 = v := ⟨_, rfl⟩
  have h2H := Lib.hid h2
  obtain ⟨v3, h3⟩ : ∃ v, (inR rw 1 16 && inR rh 1 16) = v := ⟨_, rfl⟩
  have h3H := Lib.hid h3
  obtain ⟨v4, h4⟩ : ∃ v, inR fill (-2147483648) 2147483648 = v := ⟨_, rfl⟩
  have h4H := Lib.hid h4
  have hsp0 : warpS iw ih xs t rw rh fill = if v0 = true then (if (v1 && v2 && v3 && v4) = true then { w := rw, h := rh, px := img rw.toNat rh.toNat (warpG iw ih xs t fill), err := 0 } else noIm 2) else noIm 20 := by
    simp only [warpS, WarpN.ok, hv, h1, h2, h3, h4]
  have hsp := Lib.hid hsp0
  clear hv h1 h2 h3 h4 hsp0
  go_enter Try.func24, Try.ntmps24
  go_wp2_with fail
  refine (valid_any iw ih a c xs n hn _ hm ((hr.below (Nat.le_refl _) hB0).mono hB0.size)).mono ?_
  rintro e W1 ⟨rfl, hb1⟩
  rw [hvH.out]
  have hB1 : Below w.heap.size w W1 := hB0.trans (hb1.mono hB0.size)
  have k5 := ((((Blk.new w 24 #[.int .i64 iw, .int .i64 ih, .slice a n c]).alloc (.cells t.cells 26)).alloc (.cells #[.int .i64 fill] 3)).alloc (.cells #[.int .i64 0, .int .i64 0, .slice none 0 0] 24)).below hb1 (by simp <;> omega)
  have k6 := (((Blk.new (w.alloc (.cells #[.int .i64 iw, .int .i64 ih, .slice a n c] 24)) 26 t.cells).alloc (.cells #[.int .i64 fill] 3)).alloc (.cells #[.int .i64 0, .int .i64 0, .slice none 0 0] 24)).below hb1 (by simp <;> omega)
  have k9 := ((Blk.new ((w.alloc (.cells #[.int .i64 iw, .int .i64 ih, .slice a n c] 24)).alloc (.cells t.cells 26)) 3 #[.int .i64 fill]).alloc (.cells #[.int .i64 0, .int .i64 0, .slice none 0 0] 24)).below hb1 (by simp <;> omega)
  have k := (Blk.new (((w.alloc (.cells #[.int .i64 iw, .int .i64 ih, .slice a n c] 24)).alloc (.cells t.cells 26)).alloc (.cells #[.int .i64 fill] 3)) 24 #[.int .i64 0, .int .i64 0, .slice none 0 0]).below hb1 (by simp <;> omega)
  simp only [World.size_alloc] at k k6 k9
  clear hb1 hB0
  have hlt := k.lt
  have c0 := k.cell (i := 0) rfl
  have c1 := k.cell (i := 1) rfl
  have c2 := k.cell (i := 2) rfl
  have fc0 := k.frozen 0
  have fc1 := k.frozen 1
  have fc2 := k.frozen 2
  have a0 := k6.cell (i := 0) rfl
  have a1 := k6.cell (i := 1) rfl
  have a2 := k6.cell (i := 2) rfl
  have a3 := k6.cell (i := 3) rfl
  have a4 := k6.cell (i := 4) rfl
  have a5 := k6.cell (i := 5) rfl
  have a6 := k6.cell (i := 6) rfl
  have q0 := k9.cell (i := 0) rfl
  cases v0 with
  | false =>
    go_wp2_with fail
    have kf := put3_blk k (.int .i64 0) (.int .i64 0) (.slice none 0 0)
    have g0 := kf.cell (i := 0) rfl
    have g1 := kf.cell (i := 1) rfl
    have g2 := kf.cell (i := 2) rfl
    exact bodyPost_ret (v := .tuple #[.agg #[.int .i64 0, .int .i64 0, .slice none 0 0], .int .i64 20]) (by simp [results, Try.results24, go_sem, g0, g1, g2]) rfl ⟨⟨_, by rw [hsp.out]; rfl, by rw [hsp.out]; exact OwnIm_nil _ _⟩, hB1.trans (put3_below (by omega) _ _ _)⟩
  | true =>
    go_wp2_with fail
    refine (within6 (-65536) 65536 t.a t.b t.c t.d t.e t.f v1 h1H.out _ _ _ 3 (Blk.new _ _ _)).mono ?_
    rintro e W2 ⟨rfl, hW⟩
    have hb : Below W1.heap.size W1 W2 := alloc_below hW
    clear hW
    have hB2 := hB1.trans (hb.mono hB1.size)
    clear c0 c1 c2 fc0 fc1 fc2
    replace k := k.below hb k.lt
    have c0 := k.cell (i := 0) rfl
    have c1 := k.cell (i := 1) rfl
    have c2 := k.cell (i := 2) rfl
    have fc0 := k.frozen 0
    have fc1 := k.frozen 1
    have fc2 := k.frozen 2
    replace k5 := k5.below hb k5.lt
    clear a0 a1 a2 a3 a4 a5 a6
    replace k6 := k6.below hb k6.lt
    have a0 := k6.cell (i := 0) rfl
    have a1 := k6.cell (i := 1) rfl
    have a2 := k6.cell (i := 2) rfl
    have a3 := k6.cell (i := 3) rfl
    have a4 := k6.cell (i := 4) rfl
    have a5 := k6.cell (i := 5) rfl
    have a6 := k6.cell (i := 6) rfl
    clear q0
    replace k9 := k9.below hb k9.lt
    have q0 := k9.cell (i := 0) rfl
    clear hb
    replace hlt := k.lt
    cases v1 with
    | false =>
      go_wp2_with fail
      have kf := put3_blk k (.int .i64 0) (.int .i64 0) (.slice none 0 0)
      have g0 := kf.cell (i := 0) rfl
      have g1 := kf.cell (i := 1) rfl
      have g2 := kf.cell (i := 2) rfl
      exact bodyPost_ret (v := .tuple #[.agg #[.int .i64 0, .int .i64 0, .slice none 0 0], .int .i64 2]) (by simp [results, Try.results24, go_sem, g0, g1, g2]) rfl ⟨⟨_, by rw [hsp.out]; rfl, by rw [hsp.out]; exact OwnIm_nil _ _⟩, hB2.trans (put3_below (by omega) _ _ _)⟩
    | true =>
      go_wp2_with fail
      refine (within1 1 65536 t.den v2 h2H.out _ _ _ _ (cell_new (by simp) rfl)).mono ?_
      rintro e W3 ⟨rfl, hW⟩
      have hb : Below W2.heap.size W2 W3 := alloc_below hW
      clear hW
      have hB3 := hB2.trans (hb.mono hB2.size)
      clear c0 c1 c2 fc0 fc1 fc2
      replace k := k.below hb k.lt
      have c0 := k.cell (i := 0) rfl
      have c1 := k.cell (i := 1) rfl
      have c2 := k.cell (i := 2) rfl
      have fc0 := k.frozen 0
      have fc1 := k.frozen 1
      have fc2 := k.frozen 2
      replace k5 := k5.below hb k5.lt
      clear a0 a1 a2 a3 a4 a5 a6
      replace k6 := k6.below hb k6.lt
      have a0 := k6.cell (i := 0) rfl
      have a1 := k6.cell (i := 1) rfl
      have a2 := k6.cell (i := 2) rfl
      have a3 := k6.cell (i := 3) rfl
      have a4 := k6.cell (i := 4) rfl
      have a5 := k6.cell (i := 5) rfl
      have a6 := k6.cell (i := 6) rfl
      clear q0
      replace k9 := k9.below hb k9.lt
      have q0 := k9.cell (i := 0) rfl
      clear hb
      replace hlt := k.lt
      cases v2 with
      | false =>
        go_wp2_with fail
        have kf := put3_blk k (.int .i64 0) (.int .i64 0) (.slice none 0 0)
        have g0 := kf.cell (i := 0) rfl
        have g1 := kf.cell (i := 1) rfl
        have g2 := kf.cell (i := 2) rfl
        exact bodyPost_ret (v := .tuple #[.agg #[.int .i64 0, .int .i64 0, .slice none 0 0], .int .i64 2]) (by simp [results, Try.results24, go_sem, g0, g1, g2]) rfl ⟨⟨_, by rw [hsp.out]; rfl, by rw [hsp.out]; exact OwnIm_nil _ _⟩, hB3.trans (put3_below (by omega) _ _ _)⟩
      | true =>
        go_wp2_with fail
        refine (within2 1 16 rw rh v3 h3H.out _ _ _ _ (cell_new (by simp) rfl) (cell_new (by simp) rfl)).mono ?_
        rintro e W4 ⟨rfl, hW⟩
        have hb : Below W3.heap.size W3 W4 := alloc_below hW
        clear hW
        have hB4 := hB3.trans (hb.mono hB3.size)
        clear c0 c1 c2 fc0 fc1 fc2
        replace k := k.below hb k.lt
        have c0 := k.cell (i := 0) rfl
        have c1 := k.cell (i := 1) rfl
        have c2 := k.cell (i := 2) rfl
        have fc0 := k.frozen 0
        have fc1 := k.frozen 1
        have fc2 := k.frozen 2
        replace k5 := k5.below hb k5.lt
        clear a0 a1 a2 a3 a4 a5 a6
        replace k6 := k6.below hb k6.lt
        have a0 := k6.cell (i := 0) rfl
        have a1 := k6.cell (i := 1) rfl
        have a2 := k6.cell (i := 2) rfl
        have a3 := k6.cell (i := 3) rfl
        have a4 := k6.cell (i := 4) rfl
        have a5 := k6.cell (i := 5) rfl
        have a6 := k6.cell (i := 6) rfl
        clear q0
        replace k9 := k9.below hb k9.lt
        have q0 := k9.cell (i := 0) rfl
        clear hb
        replace hlt := k.lt
        cases v3 with
        | false =>
          go_wp2_with fail
          have kf := put3_blk k (.int .i64 0) (.int .i64 0) (.slice none 0 0)
          have g0 := kf.cell (i := 0) rfl
          have g1 := kf.cell (i := 1) rfl
          have g2 := kf.cell (i := 2) rfl
          exact bodyPost_ret (v := .tuple #[.agg #[.int .i64 0, .int .i64 0, .slice none 0 0], .int .i64 2]) (by simp [results, Try.results24, go_sem, g0, g1, g2]) rfl ⟨⟨_, by rw [hsp.out]; rfl, by rw [hsp.out]; exact OwnIm_nil _ _⟩, hB4.trans (put3_below (by omega) _ _ _)⟩
        | true =>
          go_wp2_with fail
          refine (within1 (-2147483648) 2147483648 fill v4 h4H.out _ _ _ _ (cell_new (by simp) rfl)).mono ?_
          rintro e W5 ⟨rfl, hW⟩
          have hb : Below W4.heap.size W4 W5 := alloc_below hW
          clear hW
          have hB5 := hB4.trans (hb.mono hB4.size)
          clear c0 c1 c2 fc0 fc1 fc2
          replace k := k.below hb k.lt
          have c0 := k.cell (i := 0) rfl
          have c1 := k.cell (i := 1) rfl
          have c2 := k.cell (i := 2) rfl
          have fc0 := k.frozen 0
          have fc1 := k.frozen 1
          have fc2 := k.frozen 2
          replace k5 := k5.below hb k5.lt
          clear a0 a1 a2 a3 a4 a5 a6
          replace k6 := k6.below hb k6.lt
          have a0 := k6.cell (i := 0) rfl
          have a1 := k6.cell (i := 1) rfl
          have a2 := k6.cell (i := 2) rfl
          have a3 := k6.cell (i := 3) rfl
          have a4 := k6.cell (i := 4) rfl
          have a5 := k6.cell (i := 5) rfl
          have a6 := k6.cell (i := 6) rfl
          clear q0
          replace k9 := k9.below hb k9.lt
          have q0 := k9.cell (i := 0) rfl
          clear hb
          replace hlt := k.lt
          cases v4 with
          | false =>
            go_wp2_with fail
            have kf := put3_blk k (.int .i64 0) (.int .i64 0) (.slice none 0 0)
            have g0 := kf.cell (i := 0) rfl
            have g1 := kf.cell (i := 1) rfl
            have g2 := kf.cell (i := 2) rfl
            exact bodyPost_ret (v := .tuple #[.agg #[.int .i64 0, .int .i64 0, .slice none 0 0], .int .i64 2]) (by simp [results, Try.results24, go_sem, g0, g1, g2]) rfl ⟨⟨_, by rw [hsp.out]; rfl, by rw [hsp.out]; exact OwnIm_nil _ _⟩, hB5.trans (put3_below (by omega) _ _ _)⟩
          | true =>
            obtain ⟨⟨i1, i2⟩, ⟨i3, i4⟩, hlen, _⟩ := vld_true hvH.out
            rw [hn.out] at hlen
            have hlenH := Lib.hid hlen
            clear hlen
            have hrr := h3H.out
            simp only [Bool.and_eq_true, inR_true] at hrr
            obtain ⟨⟨r1, r2⟩, r3, r4⟩ := hrr
            have htok : t.ok = true := by simp only [WarpN.ok, h1H.out, h2H.out]; rfl
            have htokH := Lib.hid htok
            clear htok
            obtain ⟨pw, rfl⟩ : ∃ pw : Nat, rw = (pw : Int) := ⟨rw.toNat, by omega⟩
            obtain ⟨ph, rfl⟩ : ∃ ph : Nat, rh = (ph : Int) := ⟨rh.toNat, by omega⟩
            go_wp2_with fail
            obtain ⟨W6, hW6⟩ : ∃ W6, W5.alloc (.cells #[.func (.func 76) #[] #[.pointer (some ⟨w.heap.size + 1, 0, none⟩)]] 98) = W6 := ⟨_, rfl⟩
            have k12 := Blk.new W5 98 #[.func (.func 76) #[] #[.pointer (some ⟨w.heap.size + 1, 0, none⟩)]]
            rw [hW6] at k12 ⊢
            have hb : Below W5.heap.size W5 W6 := alloc_below hW6
            clear hW6
            have hB6 := hB5.trans (hb.mono hB5.size)
            clear c0 c1 c2 fc0 fc1 fc2
            replace k := k.below hb k.lt
            have c0 := k.cell (i := 0) rfl
            have c1 := k.cell (i := 1) rfl
            have c2 := k.cell (i := 2) rfl
            have fc0 := k.frozen 0
            have fc1 := k.frozen 1
            have fc2 := k.frozen 2
            replace k5 := k5.below hb k5.lt
            clear a0 a1 a2 a3 a4 a5 a6
            replace k6 := k6.below hb k6.lt
            have a0 := k6.cell (i := 0) rfl
            have a1 := k6.cell (i := 1) rfl
            have a2 := k6.cell (i := 2) rfl
            have a3 := k6.cell (i := 3) rfl
            have a4 := k6.cell (i := 4) rfl
            have a5 := k6.cell (i := 5) rfl
            have a6 := k6.cell (i := 6) rfl
            clear q0
            replace k9 := k9.below hb k9.lt
            have q0 := k9.cell (i := 0) rfl
            clear hb
            replace hlt := k.lt
            refine (made_any pw ph (by omega) (by omega) (by omega) (by omega) 79 #[.pointer (some ⟨W5.heap.size, 0, none⟩), .pointer (some ⟨w.heap.size + 1, 0, none⟩), .pointer (some ⟨w.heap.size, 0, none⟩), .pointer (some ⟨w.heap.size + 1 + 1, 0, none⟩)] (enters_of Try.func79 (by kernel_rfl) rfl) (warpG iw ih xs t fill) W6 (fun x y W hx hy hb => ?_)).mono ?_
            · exact Warp2_any iw ih a c n xs hn t fill x y W5.heap.size (w.heap.size + 1) w.heap.size (w.heap.size + 1 + 1) W i1 i2 i3 i4 hlenH htokH.out (by omega) (by omega) (by omega) (by omega) (k12.below hb k12.lt) (k6.below hb k6.lt) (k5.below hb k5.lt) (k9.below hb k9.lt) ((hr.below (Nat.le_refl _) (hB6.trans (hb.mono hB6.size))).mono (Nat.le_trans hB6.size hb.size))
            rintro e W7 ⟨v, rfl, ⟨s, rfl, hrow⟩, hb2⟩
            clear c0 c1 c2 fc0 fc1 fc2
            replace k := k.below hb2 k.lt
            have c0 := k.cell (i := 0) rfl
            have c1 := k.cell (i := 1) rfl
            have c2 := k.cell (i := 2) rfl
            have fc0 := k.frozen 0
            have fc1 := k.frozen 1
            have fc2 := k.frozen 2
            obtain ⟨sa, sc, rfl⟩ := row_slice hrow
            go_wp2_with fail
            have kf := put3_blk k (.int .i64 pw) (.int .i64 ph) (.slice sa (img pw ph (warpG iw ih xs t fill)).length sc)
            have g0 := kf.cell (i := 0) rfl
            have g1 := kf.cell (i := 1) rfl
            have g2 := kf.cell (i := 2) rfl
            exact bodyPost_ret (v := .tuple #[.agg #[.int .i64 pw, .int .i64 ph, .slice sa (img pw ph (warpG iw ih xs t fill)).length sc], .int .i64 0]) (by simp [results, Try.results24, go_sem, g0, g1, g2]) rfl ⟨⟨_, by rw [hsp.out]; rfl, by rw [hsp.out]; exact OwnIm.weaken ⟨_, rfl, put3_row hrow (k.not_row (by decide) hrow) _ _ _⟩ hB6.size⟩, (hB6.trans (hb2.mono hB6.size)).trans (put3_below (by omega) _ _ _)⟩

end Go.Proofs.Ytjglfeonoiljlaa

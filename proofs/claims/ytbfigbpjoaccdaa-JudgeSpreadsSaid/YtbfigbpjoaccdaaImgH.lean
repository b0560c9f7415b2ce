/- The contracts of Point: the program's and the specification's. -/
import Derived.Test.YtbfigbpjoaccdaaImgG
namespace Go.Proofs.Ytbfigbpjoaccdaa
open Go Go.RowKit Go.Shelf
set_option linter.unusedVariables false
set_option linter.unusedSimpArgs false

/-- A point operation's numbers. -/
structure PointN where
  mul : Int
  add : Int
  div : Int
  lo : Int
  hi : Int

abbrev PointN.val (p : PointN) : Value := .agg #[.int .i64 p.mul, .int .i64 p.add, .int .i64 p.div, .int .i64 p.lo, .int .i64 p.hi]
abbrev PointN.cells (p : PointN) : Array Value := #[.int .i64 p.mul, .int .i64 p.add, .int .i64 p.div, .int .i64 p.lo, .int .i64 p.hi]
def PointN.ok (p : PointN) : Bool := ((inR p.mul (-65536) 65536 && ((inR p.add (-2147483648) 2147483648 && inR p.lo (-2147483648) 2147483648) && inR p.hi (-2147483648) 2147483648)) && inR p.div 1 65536) && decide (p.lo ≤ p.hi)
def pointF (p : PointN) (v : Int) : Int := clamp ((p.mul * v + p.add) / p.div) p.lo p.hi
def pointG (iw : Int) (xs : List Int) (p : PointN) (x y : Int) : Int := pointF p (px xs (y * iw + x))

theorem mul_bd {a b m n : Int} (h1 : -m ≤ a) (h2 : a ≤ m) (h3 : -n ≤ b) (h4 : b ≤ n) (hm : 0 ≤ m) (hn : 0 ≤ n) : -(m * n) ≤ a * b ∧ a * b ≤ m * n := by
  rcases Int.le_total 0 b with hb | hb
  · exact prod_bd h1 h2 hb h4 hm
  · have := prod_bd (a := a) (x := -b) (m := m) (n := n) h1 h2 (by omega) (by omega) hm
    rw [Int.mul_neg] at this
    omega

theorem clamp_le {n lo hi : Int} (h : lo ≤ hi) : lo ≤ clamp n lo hi ∧ clamp n lo hi ≤ hi := by unfold clamp; omega

theorem PointN.ok_true {p : PointN} (h : p.ok = true) : (-65536 ≤ p.mul ∧ p.mul ≤ 65536) ∧ (-2147483648 ≤ p.add ∧ p.add ≤ 2147483648) ∧ (-2147483648 ≤ p.lo ∧ p.lo ≤ 2147483648) ∧ (-2147483648 ≤ p.hi ∧ p.hi ≤ 2147483648) ∧ (1 ≤ p.div ∧ p.div ≤ 65536) ∧ p.lo ≤ p.hi := by
  simp only [PointN.ok, Bool.and_eq_true, inR_true, decide_eq_true_eq] at h
  obtain ⟨⟨⟨h1, ⟨h2, h3⟩, h4⟩, h5⟩, h6⟩ := h
  exact ⟨h1, h2, h3, h4, h5, h6⟩

theorem pointF_bd {p : PointN} (h : p.ok = true) (v : Int) : -2147483648 ≤ pointF p v ∧ pointF p v ≤ 2147483648 := by
  obtain ⟨_, _, h3, h4, _, h6⟩ := PointN.ok_true h
  have := clamp_le (n := (p.mul * v + p.add) / p.div) h6
  unfold pointF
  omega

theorem within3 (lo hi x0 x1 x2 : Int) (v : Bool) (hv : ((inR x0 lo hi && inR x1 lo hi) && inR x2 lo hi) = v) (b : Nat) (c : Nat) (w : World) (t : TypeId) (h : Blk w b t #[.int .i64 x0, .int .i64 x1, .int .i64 x2]) :
    Calls Try.prog 50 #[.int .i64 lo, .int .i64 hi, .slice (some ⟨b, 0, none⟩) 3 c] w fun e w' => e = .returned (.bool v) ∧ w = w' := by
  subst hv
  have h' := within_any lo hi (some ⟨b, 0, none⟩) c [x0, x1, x2] w (by simp) (.inr ⟨b, 0, rfl, h.lt, fun i hi => by
    have : i = 0 ∨ i = 1 ∨ i = 2 := by simp at hi; omega
    rcases this with rfl | rfl | rfl <;> exact h.cell rfl⟩)
  refine h'.mono fun e w' ⟨he, hw⟩ => ⟨he.trans (ret_bool (by simp [allIn, inR, Bool.and_assoc])), hw⟩

set_option maxRecDepth 100000 in
set_option maxHeartbeats 1000000 in
theorem Point1_any (iw ih : Int) (a : Option Addr) (c n : Nat) (xs : List Int) (hn : Hid (xs.length = n)) (hall : Hid (allIn (-2147483648) 2147483648 xs = true)) (p : PointN) (hp : p.ok = true) (x y : Int) (b6 b5 : Nat) (W : World) (hi1 : 1 ≤ iw) (hi2 : iw ≤ 16) (hi3 : 1 ≤ ih) (hi4 : ih ≤ 16) (hnn : Hid ((n : Int) = iw * ih)) (hx1 : 0 ≤ x) (hx2 : x ≤ iw - 1) (hy1 : 0 ≤ y) (hy2 : y ≤ ih - 1)
    (k6 : Blk W b6 82 p.cells) (k5 : Blk W b5 27 #[.int .i64 iw, .int .i64 ih, .slice a n c]) (hr : Rd W.heap.size W a xs) :
    Calls Try.prog 52 #[.int .i64 x, .int .i64 y, .pointer (some ⟨b6, 0, none⟩), .pointer (some ⟨b5, 0, none⟩)] W fun e W' => e = .returned (.int .i64 (pointG iw xs p x y)) ∧ Below W.heap.size W W' := by
  obtain ⟨m1, m2⟩ := mul_small (a := iw) (b := ih) (by omega) hi2 (by omega) hi4
  obtain ⟨q1, q2, q3, q4⟩ := in_idx (u := x) (v := y) hi1 hnn.out hx1 hx2 hy1 hy2
  have hn9 : n ≤ 256 := by have := hnn.out; omega
  obtain ⟨⟨p1, p2⟩, ⟨p3, p4⟩, ⟨p5, p6⟩, ⟨p7, p8⟩, ⟨p9, p10⟩, p11⟩ := PointN.ok_true hp
  obtain ⟨v, hv⟩ : ∃ v, px xs (y * iw + x) = v := ⟨_, rfl⟩
  have hv1 := px_bd hall.out (y * iw + x)
  rw [hv] at hv1
  obtain ⟨r1, r2⟩ := mul_bd p1 p2 hv1.1 hv1.2 (by omega) (by omega)
  have hvH := Lib.hid hv
  have hpH := Lib.hid hp
  clear hv hp
  have hS : Below W.heap.size W W.drew := (Below.refl _ _).drew
  go_enter Try.func52, Try.ntmps52
  go_wp2_with fail
  refine plain_region (fun W' => Below W.heap.size W W') 19 19 (by kernel_rfl) rfl ?_
  simp only [Array.replicate_succ, Array.replicate_zero, List.push_toArray, List.nil_append, List.cons_append]
  refine take_op 0 (v := ?rv0) rfl (by kernel_rfl) (fun _ _ _ h => h) (by rfl) hS (fun w' hS' => ?ry0) ?rz0
  case ry0 =>
    go_simp
    rfl
  simp only [List.setIfInBounds_toArray, List.set_cons_zero, List.set_cons_succ]
  refine take_op 1 (v := ?rv1) rfl (by kernel_rfl) (fun _ _ _ h => h) (by rfl) hS (fun w' hS' => ?ry1) ?rz1
  case ry1 =>
    have a0 := (k6.below hS' k6.lt).cell (i := 0) rfl
    have a1 := (k6.below hS' k6.lt).cell (i := 1) rfl
    have a2 := (k6.below hS' k6.lt).cell (i := 2) rfl
    have a3 := (k6.below hS' k6.lt).cell (i := 3) rfl
    have a4 := (k6.below hS' k6.lt).cell (i := 4) rfl
    have b0 := (k5.below hS' k5.lt).cell (i := 0) rfl
    have b1 := (k5.below hS' k5.lt).cell (i := 1) rfl
    have b2 := (k5.below hS' k5.lt).cell (i := 2) rfl
    go_simp
    rfl
  simp only [List.setIfInBounds_toArray, List.set_cons_zero, List.set_cons_succ]
  refine take_op 2 (v := ?rv2) rfl (by kernel_rfl) (fun _ _ _ h => h) (by rfl) hS (fun w' hS' => ?ry2) ?rz2
  case ry2 =>
    have a0 := (k6.below hS' k6.lt).cell (i := 0) rfl
    have a1 := (k6.below hS' k6.lt).cell (i := 1) rfl
    have a2 := (k6.below hS' k6.lt).cell (i := 2) rfl
    have a3 := (k6.below hS' k6.lt).cell (i := 3) rfl
    have a4 := (k6.below hS' k6.lt).cell (i := 4) rfl
    have b0 := (k5.below hS' k5.lt).cell (i := 0) rfl
    have b1 := (k5.below hS' k5.lt).cell (i := 1) rfl
    have b2 := (k5.below hS' k5.lt).cell (i := 2) rfl
    go_simp
    rfl
  simp only [List.setIfInBounds_toArray, List.set_cons_zero, List.set_cons_succ]
  refine take_op 3 (v := ?rv3) rfl (by kernel_rfl) (fun _ _ _ h => h) (by rfl) hS (fun w' hS' => ?ry3) ?rz3
  case ry3 =>
    go_simp
    rfl
  simp only [List.setIfInBounds_toArray, List.set_cons_zero, List.set_cons_succ]
  refine take_op 4 (v := ?rv4) rfl (by kernel_rfl) (fun _ _ _ h => h) (by rfl) hS (fun w' hS' => ?ry4) ?rz4
  case ry4 =>
    go_simp
    rfl
  simp only [List.setIfInBounds_toArray, List.set_cons_zero, List.set_cons_succ]
  refine take_op 7 (v := ?rv7) rfl (by kernel_rfl) (fun _ _ _ h => h) (by rfl) hS (fun w' hS' => ?ry7) ?rz7
  case ry7 =>
    go_simp
    rfl
  simp only [List.setIfInBounds_toArray, List.set_cons_zero, List.set_cons_succ]
  refine take_op 8 (v := ?rv8) rfl (by kernel_rfl) (fun _ _ _ h => h) (by rfl) hS (fun w' hS' => ?ry8) ?rz8
  case ry8 =>
    have a0 := (k6.below hS' k6.lt).cell (i := 0) rfl
    have a1 := (k6.below hS' k6.lt).cell (i := 1) rfl
    have a2 := (k6.below hS' k6.lt).cell (i := 2) rfl
    have a3 := (k6.below hS' k6.lt).cell (i := 3) rfl
    have a4 := (k6.below hS' k6.lt).cell (i := 4) rfl
    have b0 := (k5.below hS' k5.lt).cell (i := 0) rfl
    have b1 := (k5.below hS' k5.lt).cell (i := 1) rfl
    have b2 := (k5.below hS' k5.lt).cell (i := 2) rfl
    go_simp
    rfl
  simp only [List.setIfInBounds_toArray, List.set_cons_zero, List.set_cons_succ]
  refine take_op 10 (v := ?rv10) rfl (by kernel_rfl) (fun _ _ _ h => h) (by rfl) hS (fun w' hS' => ?ry10) ?rz10
  case ry10 =>
    go_simp
    rfl
  simp only [List.setIfInBounds_toArray, List.set_cons_zero, List.set_cons_succ]
  refine take_op 11 (v := ?rv11) rfl (by kernel_rfl) (fun _ _ _ h => h) (by rfl) hS (fun w' hS' => ?ry11) ?rz11
  case ry11 =>
    have a0 := (k6.below hS' k6.lt).cell (i := 0) rfl
    have a1 := (k6.below hS' k6.lt).cell (i := 1) rfl
    have a2 := (k6.below hS' k6.lt).cell (i := 2) rfl
    have a3 := (k6.below hS' k6.lt).cell (i := 3) rfl
    have a4 := (k6.below hS' k6.lt).cell (i := 4) rfl
    have b0 := (k5.below hS' k5.lt).cell (i := 0) rfl
    have b1 := (k5.below hS' k5.lt).cell (i := 1) rfl
    have b2 := (k5.below hS' k5.lt).cell (i := 2) rfl
    go_simp
    rfl
  simp only [List.setIfInBounds_toArray, List.set_cons_zero, List.set_cons_succ]
  refine take_op 13 (v := ?rv13) rfl (by kernel_rfl) (fun _ _ _ h => h) (by rfl) hS (fun w' hS' => ?ry13) ?rz13
  case ry13 =>
    go_simp
    rfl
  simp only [List.setIfInBounds_toArray, List.set_cons_zero, List.set_cons_succ]
  refine take_op 14 (v := ?rv14) rfl (by kernel_rfl) (fun _ _ _ h => h) (by rfl) hS (fun w' hS' => ?ry14) ?rz14
  case ry14 =>
    have a0 := (k6.below hS' k6.lt).cell (i := 0) rfl
    have a1 := (k6.below hS' k6.lt).cell (i := 1) rfl
    have a2 := (k6.below hS' k6.lt).cell (i := 2) rfl
    have a3 := (k6.below hS' k6.lt).cell (i := 3) rfl
    have a4 := (k6.below hS' k6.lt).cell (i := 4) rfl
    have b0 := (k5.below hS' k5.lt).cell (i := 0) rfl
    have b1 := (k5.below hS' k5.lt).cell (i := 1) rfl
    have b2 := (k5.below hS' k5.lt).cell (i := 2) rfl
    go_simp
    rfl
  simp only [List.setIfInBounds_toArray, List.set_cons_zero, List.set_cons_succ]
  refine take_op 15 (v := ?rv15) rfl (by kernel_rfl) (fun _ _ _ h => h) (by rfl) hS (fun w' hS' => ?ry15) ?rz15
  case ry15 =>
    go_simp
    rfl
  simp only [List.setIfInBounds_toArray, List.set_cons_zero, List.set_cons_succ]
  refine take_op 16 (v := ?rv16) rfl (by kernel_rfl) (fun _ _ _ h => h) (by rfl) hS (fun w' hS' => ?ry16) ?rz16
  case ry16 =>
    have a0 := (k6.below hS' k6.lt).cell (i := 0) rfl
    have a1 := (k6.below hS' k6.lt).cell (i := 1) rfl
    have a2 := (k6.below hS' k6.lt).cell (i := 2) rfl
    have a3 := (k6.below hS' k6.lt).cell (i := 3) rfl
    have a4 := (k6.below hS' k6.lt).cell (i := 4) rfl
    have b0 := (k5.below hS' k5.lt).cell (i := 0) rfl
    have b1 := (k5.below hS' k5.lt).cell (i := 1) rfl
    have b2 := (k5.below hS' k5.lt).cell (i := 2) rfl
    go_simp
    rfl
  simp only [List.setIfInBounds_toArray, List.set_cons_zero, List.set_cons_succ]
  refine step_op 5 (by kernel_rfl) rfl (fun K hK => ?_)
  rw [if_pos (by rfl)]
  go_simp
  refine (at_any iw ih x y a c xs n hn _ (Int.le_trans (by decide) q1) (Int.le_trans (Int.le_of_lt q4) (by omega)) q2 q3 (by omega) ((hr.below (Nat.le_refl _) hS).mono hS.size)).mono ?_
  rintro e W1 ⟨rfl, hb2⟩
  rw [hvH.out]
  have hS1 : Below W.heap.size W W1 := hS.trans (hb2.mono hS.size)
  refine hK.out _ _ (fun h => hS1) ?_
  clear hK K
  try simp only [Act.put, List.setIfInBounds_toArray, List.set_cons_zero, List.set_cons_succ]
  refine take_op 6 (v := ?rv6) rfl (by kernel_rfl) (fun _ _ _ h => h) (by rfl) hS1 (fun w' hS' => ?ry6) ?rz6
  case ry6 =>
    go_simp
    try go_ints
    rfl
  simp only [List.setIfInBounds_toArray, List.set_cons_zero, List.set_cons_succ]
  refine take_op 9 (v := ?rv9) rfl (by kernel_rfl) (fun _ _ _ h => h) (by rfl) hS1 (fun w' hS' => ?ry9) ?rz9
  case ry9 =>
    go_simp
    try go_ints
    rfl
  simp only [List.setIfInBounds_toArray, List.set_cons_zero, List.set_cons_succ]
  refine step_op 12 (by kernel_rfl) rfl (fun K hK => ?_)
  rw [if_pos (by rfl)]
  go_simp
  refine (floor_any _ _ _ (by omega) (by omega) (by omega) (by omega)).mono ?_
  rintro e W2 ⟨rfl, rfl⟩
  refine hK.out _ _ (fun h => hS1) ?_
  clear hK K
  try simp only [Act.put, List.setIfInBounds_toArray, List.set_cons_zero, List.set_cons_succ]
  refine step_op 17 (by kernel_rfl) rfl (fun K hK => ?_)
  rw [if_pos (by rfl)]
  go_simp
  refine (into_any _ _ _ _).mono ?_
  rintro e W2 ⟨rfl, rfl⟩
  refine hK.out _ _ (fun h => hS1) ?_
  clear hK K
  try simp only [Act.put, List.setIfInBounds_toArray, List.set_cons_zero, List.set_cons_succ]
  refine take_op 18 (v := ?rv18) rfl (by kernel_rfl) (fun _ _ _ h => h) (by rfl) hS1 (fun w' hS' => ?ry18) ?rz18
  case ry18 =>
    go_simp
    rfl
  simp only [List.setIfInBounds_toArray, List.set_cons_zero, List.set_cons_succ]
  refine done_ops (by kernel_rfl) ?_
  go_wp2_with fail
  go_ret
  exact ⟨ret_int (by unfold pointG pointF; rw [hvH.out]), hS1⟩

/-- What Point returns. -/
def pointS (iw ih : Int) (xs : List Int) (p : PointN) : ImR :=
  if vld iw ih xs = true then (if p.ok = true then { w := iw, h := ih, px := img iw.toNat ih.toNat (pointG iw xs p), err := 0 } else noIm 2) else noIm 20

set_option maxRecDepth 100000 in
set_option maxHeartbeats 4000000 in
theorem Point_any (iw ih : Int) (a : Option Addr) (c n : Nat) (xs : List Int) (hn : Hid (xs.length = n)) (p : PointN) (w : World) (hm : n ≤ 9223372036854775807) (hr : Rd w.heap.size w a xs) :
    Calls Try.prog 34 #[imv iw ih a n c, p.val] w (RetIm w.heap.size (pointS iw ih xs p) w) := by
  have hB0 : Below w.heap.size w (((w.alloc (.cells #[.int .i64 iw, .int .i64 ih, .slice a n c] 27)).alloc (.cells p.cells 82)).alloc (.cells #[.int .i64 0, .int .i64 0, .slice none 0 0] 27)) := below_al (below_al (below_al (Below.refl _ _) _) _) _
  obtain ⟨v0, hv⟩ : ∃ v, vld iw ih xs = v := ⟨_, rfl⟩
  have hvH := Lib.hid hv
  obtain ⟨v1, h1⟩ : ∃ v, inR p.mul (-65536) 65536 = v := ⟨_, rfl⟩
  have h1H := Lib.hid h1
  obtain ⟨v2, h2⟩ : ∃ v, ((inR p.add (-2147483648) 2147483648 && inR p.lo (-2147483648) 2147483648) && inR p.hi (-2147483648) 2147483648) = v := ⟨_, rfl⟩
  have h2H := Lib.hid h2
  obtain ⟨v3, h3⟩ : ∃ v, inR p.div 1 65536 = v := ⟨_, rfl⟩
  have h3H := Lib.hid h3
  obtain ⟨v4, h4⟩ : ∃ v, decide (p.lo ≤ p.hi) = v := ⟨_, rfl⟩
  have h4H := Lib.hid h4
  have hsp0 : pointS iw ih xs p = if v0 = true then (if (v1 && v2 && v3 && v4) = true then { w := iw, h := ih, px := img iw.toNat ih.toNat (pointG iw xs p), err := 0 } else noIm 2) else noIm 20 := by
    simp only [pointS, PointN.ok, hv, h1, h2, h3, h4]
  have hsp := Lib.hid hsp0
  clear hv h1 h2 h3 h4 hsp0
  go_enter Try.func34, Try.ntmps34
  go_wp2_with fail
  refine (valid_any iw ih a c xs n hn _ hm ((hr.below (Nat.le_refl _) hB0).mono hB0.size)).mono ?_
  rintro e W1 ⟨rfl, hb1⟩
  rw [hvH.out]
  have hB1 : Below w.heap.size w W1 := hB0.trans (hb1.mono hB0.size)
  have k5 := (((Blk.new w 27 #[.int .i64 iw, .int .i64 ih, .slice a n c]).alloc (.cells p.cells 82)).alloc (.cells #[.int .i64 0, .int .i64 0, .slice none 0 0] 27)).below hb1 (by simp <;> omega)
  have k6 := ((Blk.new (w.alloc (.cells #[.int .i64 iw, .int .i64 ih, .slice a n c] 27)) 82 p.cells).alloc (.cells #[.int .i64 0, .int .i64 0, .slice none 0 0] 27)).below hb1 (by simp <;> omega)
  have k := (Blk.new ((w.alloc (.cells #[.int .i64 iw, .int .i64 ih, .slice a n c] 27)).alloc (.cells p.cells 82)) 27 #[.int .i64 0, .int .i64 0, .slice none 0 0]).below hb1 (by simp <;> omega)
  simp only [World.size_alloc] at k k6
  clear hb1 hB0
  have hlt := k.lt
  have c0 := k.cell (i := 0) rfl
  have c1 := k.cell (i := 1) rfl
  have c2 := k.cell (i := 2) rfl
  have fc0 := k.frozen 0
  have fc1 := k.frozen 1
  have fc2 := k.frozen 2
  have m0 := k5.cell (i := 0) rfl
  have m1 := k5.cell (i := 1) rfl
  have a0 := k6.cell (i := 0) rfl
  have a1 := k6.cell (i := 1) rfl
  have a2 := k6.cell (i := 2) rfl
  have a3 := k6.cell (i := 3) rfl
  have a4 := k6.cell (i := 4) rfl
  cases v0 with
  | false =>
    go_wp2_with fail
    have kf := put3_blk k (.int .i64 0) (.int .i64 0) (.slice none 0 0)
    have g0 := kf.cell (i := 0) rfl
    have g1 := kf.cell (i := 1) rfl
    have g2 := kf.cell (i := 2) rfl
    exact bodyPost_ret (v := .tuple #[.agg #[.int .i64 0, .int .i64 0, .slice none 0 0], .int .i64 20]) (by simp [results, Try.results34, go_sem, g0, g1, g2]) rfl ⟨⟨_, by rw [hsp.out]; rfl, by rw [hsp.out]; exact OwnIm_nil _ _⟩, hB1.trans (put3_below (by omega) _ _ _)⟩
  | true =>
    go_wp2_with fail
    refine (within1 (-65536) 65536 p.mul v1 h1H.out _ _ _ _ (cell_new (by simp) rfl)).mono ?_
    rintro e W2 ⟨rfl, hW⟩
    have hb : Below W1.heap.size W1 W2 := alloc_below hW
    clear hW
    have hB2 := hB1.trans (hb.mono hB1.size)
    clear c0 c1 c2 fc0 fc1 fc2
    replace k := k.below hb k.lt
    have c0 := k.cell (i := 0) rfl
    have c1 := k.cell (i := 1) rfl
    have c2 := k.cell (i := 2) rfl
    have fc0 := k.frozen 0
    have fc1 := k.frozen 1
    have fc2 := k.frozen 2
    clear m0 m1
    replace k5 := k5.below hb k5.lt
    have m0 := k5.cell (i := 0) rfl
    have m1 := k5.cell (i := 1) rfl
    clear a0 a1 a2 a3 a4
    replace k6 := k6.below hb k6.lt
    have a0 := k6.cell (i := 0) rfl
    have a1 := k6.cell (i := 1) rfl
    have a2 := k6.cell (i := 2) rfl
    have a3 := k6.cell (i := 3) rfl
    have a4 := k6.cell (i := 4) rfl
    clear hb
    replace hlt := k.lt
    cases v1 with
    | false =>
      go_wp2_with fail
      have kf := put3_blk k (.int .i64 0) (.int .i64 0) (.slice none 0 0)
      have g0 := kf.cell (i := 0) rfl
      have g1 := kf.cell (i := 1) rfl
      have g2 := kf.cell (i := 2) rfl
      exact bodyPost_ret (v := .tuple #[.agg #[.int .i64 0, .int .i64 0, .slice none 0 0], .int .i64 2]) (by simp [results, Try.results34, go_sem, g0, g1, g2]) rfl ⟨⟨_, by rw [hsp.out]; rfl, by rw [hsp.out]; exact OwnIm_nil _ _⟩, hB2.trans (put3_below (by omega) _ _ _)⟩
    | true =>
      go_wp2_with fail
      refine (within3 (-2147483648) 2147483648 p.add p.lo p.hi v2 h2H.out _ _ _ 3 (Blk.new _ _ _)).mono ?_
      rintro e W3 ⟨rfl, hW⟩
      have hb : Below W2.heap.size W2 W3 := alloc_below hW
      clear hW
      have hB3 := hB2.trans (hb.mono hB2.size)
      clear c0 c1 c2 fc0 fc1 fc2
      replace k := k.below hb k.lt
      have c0 := k.cell (i := 0) rfl
      have c1 := k.cell (i := 1) rfl
      have c2 := k.cell (i := 2) rfl
      have fc0 := k.frozen 0
      have fc1 := k.frozen 1
      have fc2 := k.frozen 2
      clear m0 m1
      replace k5 := k5.below hb k5.lt
      have m0 := k5.cell (i := 0) rfl
      have m1 := k5.cell (i := 1) rfl
      clear a0 a1 a2 a3 a4
      replace k6 := k6.below hb k6.lt
      have a0 := k6.cell (i := 0) rfl
      have a1 := k6.cell (i := 1) rfl
      have a2 := k6.cell (i := 2) rfl
      have a3 := k6.cell (i := 3) rfl
      have a4 := k6.cell (i := 4) rfl
      clear hb
      replace hlt := k.lt
      cases v2 with
      | false =>
        go_wp2_with fail
        have kf := put3_blk k (.int .i64 0) (.int .i64 0) (.slice none 0 0)
        have g0 := kf.cell (i := 0) rfl
        have g1 := kf.cell (i := 1) rfl
        have g2 := kf.cell (i := 2) rfl
        exact bodyPost_ret (v := .tuple #[.agg #[.int .i64 0, .int .i64 0, .slice none 0 0], .int .i64 2]) (by simp [results, Try.results34, go_sem, g0, g1, g2]) rfl ⟨⟨_, by rw [hsp.out]; rfl, by rw [hsp.out]; exact OwnIm_nil _ _⟩, hB3.trans (put3_below (by omega) _ _ _)⟩
      | true =>
        go_wp2_with fail
        refine (within1 1 65536 p.div v3 h3H.out _ _ _ _ (cell_new (by simp) rfl)).mono ?_
        rintro e W4 ⟨rfl, hW⟩
        have hb : Below W3.heap.size W3 W4 := alloc_below hW
        clear hW
        have hB4 := hB3.trans (hb.mono hB3.size)
        clear c0 c1 c2 fc0 fc1 fc2
        replace k := k.below hb k.lt
        have c0 := k.cell (i := 0) rfl
        have c1 := k.cell (i := 1) rfl
        have c2 := k.cell (i := 2) rfl
        have fc0 := k.frozen 0
        have fc1 := k.frozen 1
        have fc2 := k.frozen 2
        clear m0 m1
        replace k5 := k5.below hb k5.lt
        have m0 := k5.cell (i := 0) rfl
        have m1 := k5.cell (i := 1) rfl
        clear a0 a1 a2 a3 a4
        replace k6 := k6.below hb k6.lt
        have a0 := k6.cell (i := 0) rfl
        have a1 := k6.cell (i := 1) rfl
        have a2 := k6.cell (i := 2) rfl
        have a3 := k6.cell (i := 3) rfl
        have a4 := k6.cell (i := 4) rfl
        clear hb
        replace hlt := k.lt
        cases v3 with
        | false =>
          go_wp2_with fail
          have kf := put3_blk k (.int .i64 0) (.int .i64 0) (.slice none 0 0)
          have g0 := kf.cell (i := 0) rfl
          have g1 := kf.cell (i := 1) rfl
          have g2 := kf.cell (i := 2) rfl
          exact bodyPost_ret (v := .tuple #[.agg #[.int .i64 0, .int .i64 0, .slice none 0 0], .int .i64 2]) (by simp [results, Try.results34, go_sem, g0, g1, g2]) rfl ⟨⟨_, by rw [hsp.out]; rfl, by rw [hsp.out]; exact OwnIm_nil _ _⟩, hB4.trans (put3_below (by omega) _ _ _)⟩
        | true =>
          cases v4 with
          | false =>
            have h4v := h4H.out
            simp only [decide_eq_false_iff_not, Int.not_le] at h4v
            go_wp2_with fail
            have kf := put3_blk k (.int .i64 0) (.int .i64 0) (.slice none 0 0)
            have g0 := kf.cell (i := 0) rfl
            have g1 := kf.cell (i := 1) rfl
            have g2 := kf.cell (i := 2) rfl
            exact bodyPost_ret (v := .tuple #[.agg #[.int .i64 0, .int .i64 0, .slice none 0 0], .int .i64 2]) (by simp [results, Try.results34, go_sem, g0, g1, g2]) rfl ⟨⟨_, by rw [hsp.out]; rfl, by rw [hsp.out]; exact OwnIm_nil _ _⟩, hB4.trans (put3_below (by omega) _ _ _)⟩
          | true =>
            have h4v := h4H.out
            simp only [decide_eq_true_eq] at h4v
            obtain ⟨⟨i1, i2⟩, ⟨i3, i4⟩, hlen, hall⟩ := vld_true hvH.out
            rw [hn.out] at hlen
            have hlenH := Lib.hid hlen
            have hallH := Lib.hid hall
            clear hlen hall
            have hok : p.ok = true := by simp only [PointN.ok, h1H.out, h2H.out, h3H.out, h4H.out]; rfl
            have hokH := Lib.hid hok
            clear hok
            obtain ⟨pw, rfl⟩ : ∃ pw : Nat, iw = (pw : Int) := ⟨iw.toNat, by omega⟩
            obtain ⟨ph, rfl⟩ : ∃ ph : Nat, ih = (ph : Int) := ⟨ih.toNat, by omega⟩
            go_wp2_with fail
            refine (made_any pw ph (by omega) (by omega) (by omega) (by omega) 52 #[.pointer (some ⟨w.heap.size + 1, 0, none⟩), .pointer (some ⟨w.heap.size, 0, none⟩)] (enters_of Try.func52 (by kernel_rfl) rfl) (pointG pw xs p) W4 (fun x y W hx hy hb => ?_)).mono ?_
            · exact Point1_any pw ph a c n xs hn hallH p hokH.out x y (w.heap.size + 1) w.heap.size W i1 i2 i3 i4 hlenH (by omega) (by omega) (by omega) (by omega) (k6.below hb k6.lt) (k5.below hb k5.lt) ((hr.below (Nat.le_refl _) (hB4.trans (hb.mono hB4.size))).mono (Nat.le_trans hB4.size hb.size))
            rintro e W7 ⟨v, rfl, ⟨s, rfl, hrow⟩, hb2⟩
            clear c0 c1 c2 fc0 fc1 fc2
            replace k := k.below hb2 k.lt
            have c0 := k.cell (i := 0) rfl
            have c1 := k.cell (i := 1) rfl
            have c2 := k.cell (i := 2) rfl
            have fc0 := k.frozen 0
            have fc1 := k.frozen 1
            have fc2 := k.frozen 2
            obtain ⟨sa, sc, rfl⟩ := row_slice hrow
            go_wp2_with fail
            have kf := put3_blk k (.int .i64 pw) (.int .i64 ph) (.slice sa (img pw ph (pointG pw xs p)).length sc)
            have g0 := kf.cell (i := 0) rfl
            have g1 := kf.cell (i := 1) rfl
            have g2 := kf.cell (i := 2) rfl
            exact bodyPost_ret (v := .tuple #[.agg #[.int .i64 pw, .int .i64 ph, .slice sa (img pw ph (pointG pw xs p)).length sc], .int .i64 0]) (by simp [results, Try.results34, go_sem, g0, g1, g2]) rfl ⟨⟨_, by rw [hsp.out]; rfl, by rw [hsp.out]; exact OwnIm.weaken ⟨_, rfl, put3_row hrow (k.not_row (by decide) hrow) _ _ _⟩ hB4.size⟩, (hB4.trans (hb2.mono hB4.size)).trans (put3_below (by omega) _ _ _)⟩

end Go.Proofs.Ytbfigbpjoaccdaa

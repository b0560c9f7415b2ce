/- Contracts and laws (ImgH, ImgI, Sums, Near, Low, Morph, ImgR, ImgM). -/
import Derived.Test.YtbfigbpjoaccdaaGreatQC2
import Derived.Test.YtbfigbpjoaccdaaGreatQC1
namespace Go.Proofs.YtbfigbpjoaccdaaGreat
open Go Go.RowKit Go.Shelf
set_option linter.unusedVariables false
set_option linter.unusedSimpArgs false

/-- A point operation's numbers. -/
structure PointN where
  mul : Int
  add : Int
  div : Int
  lo : Int
  hi : Int

abbrev PointN.val (p : PointN) : Value := .agg #[.int .i64 p.mul, .int .i64 p.add, .int .i64 p.div, .int .i64 p.lo, .int .i64 p.hi]
abbrev PointN.cells (p : PointN) : Array Value := #[.int .i64 p.mul, .int .i64 p.add, .int .i64 p.div, .int .i64 p.lo, .int .i64 p.hi]
def PointN.ok (p : PointN) : Bool := ((inR p.mul (-65536) 65536 && ((inR p.add (-2147483648) 2147483648 && inR p.lo (-2147483648) 2147483648) && inR p.hi (-2147483648) 2147483648)) && inR p.div 1 65536) && decide (p.lo ≤ p.hi)
def pointF (p : PointN) (v : Int) : Int := clamp ((p.mul * v + p.add) / p.div) p.lo p.hi
def pointG (iw : Int) (xs : List Int) (p : PointN) (x y : Int) : Int := pointF p (px xs (y * iw + x))

theorem mul_bd {a b m n : Int} (h1 : -m ≤ a) (h2 : a ≤ m) (h3 : -n ≤ b) (h4 : b ≤ n) (hm : 0 ≤ m) (hn : 0 ≤ n) : -(m * n) ≤ a * b ∧ a * b ≤ m * n := by
  rcases Int.le_total 0 b with hb | hb
  · exact prod_bd h1 h2 hb h4 hm
  · have := prod_bd (a := a) (x := -b) (m := m) (n := n) h1 h2 (by omega) (by omega) hm
    rw [Int.mul_neg] at this
    omega

theorem clamp_le {n lo hi : Int} (h : lo ≤ hi) : lo ≤ clamp n lo hi ∧ clamp n lo hi ≤ hi := by unfold clamp; omega

theorem PointN.ok_true {p : PointN} (h : p.ok = true) : (-65536 ≤ p.mul ∧ p.mul ≤ 65536) ∧ (-2147483648 ≤ p.add ∧ p.add ≤ 2147483648) ∧ (-2147483648 ≤ p.lo ∧ p.lo ≤ 2147483648) ∧ (-2147483648 ≤ p.hi ∧ p.hi ≤ 2147483648) ∧ (1 ≤ p.div ∧ p.div ≤ 65536) ∧ p.lo ≤ p.hi := by
  simp only [PointN.ok, Bool.and_eq_true, inR_true, decide_eq_true_eq] at h
  obtain ⟨⟨⟨h1, ⟨h2, h3⟩, h4⟩, h5⟩, h6⟩ := h
  exact ⟨h1, h2, h3, h4, h5, h6⟩

theorem within3 (lo hi x0 x1 x2 : Int) (v : Bool) (hv : ((inR x0 lo hi && inR x1 lo hi) && inR x2 lo hi) = v) (b : Nat) (c : Nat) (w : World) (t : TypeId) (h : Blk w b t #[.int .i64 x0, .int .i64 x1, .int .i64 x2]) :
    Calls Tryz.prog 80 #[.int .i64 lo, .int .i64 hi, .slice (some ⟨b, 0, none⟩) 3 c] w fun e w' => e = .returned (.bool v) ∧ w = w' := by
  subst hv
  have h' := within_any lo hi (some ⟨b, 0, none⟩) c [x0, x1, x2] w (by simp) (.inr ⟨b, 0, rfl, h.lt, fun i hi => by
    have : i = 0 ∨ i = 1 ∨ i = 2 := by simp at hi; omega
    rcases this with rfl | rfl | rfl <;> exact h.cell rfl⟩)
  refine h'.mono fun e w' ⟨he, hw⟩ => ⟨he.trans (ret_bool (by simp [allIn, inR, Bool.and_assoc])), hw⟩

set_option maxRecDepth 100000 in
set_option maxHeartbeats 1000000 in
theorem Point1_any (iw ih : Int) (a : Option Addr) (c n : Nat) (xs : List Int) (hn : Hid (xs.length = n)) (hall : Hid (allIn (-2147483648) 2147483648 xs = true)) (p : PointN) (hp : p.ok = true) (x y : Int) (b6 b5 : Nat) (W : World) (hi1 : 1 ≤ iw) (hi2 : iw ≤ 16) (hi3 : 1 ≤ ih) (hi4 : ih ≤ 16) (hnn : Hid ((n : Int) = iw * ih)) (hx1 : 0 ≤ x) (hx2 : x ≤ iw - 1) (hy1 : 0 ≤ y) (hy2 : y ≤ ih - 1)
    (k6 : Blk W b6 115 p.cells) (k5 : Blk W b5 27 #[.int .i64 iw, .int .i64 ih, .slice a n c]) (hr : Rd W.heap.size W a xs) :
    Calls Tryz.prog 99 #[.int .i64 x, .int .i64 y, .pointer (some ⟨b6, 0, none⟩), .pointer (some ⟨b5, 0, none⟩)] W fun e W' => e = .returned (.int .i64 (pointG iw xs p x y)) ∧ Below W.heap.size W W' := by
  obtain ⟨m1, m2⟩ := mul_small (a := iw) (b := ih) (by omega) hi2 (by omega) hi4
  obtain ⟨q1, q2, q3, q4⟩ := in_idx (u := x) (v := y) hi1 hnn.out hx1 hx2 hy1 hy2
  have hn9 : n ≤ 256 := by have := hnn.out; omega
  obtain ⟨⟨p1, p2⟩, ⟨p3, p4⟩, ⟨p5, p6⟩, ⟨p7, p8⟩, ⟨p9, p10⟩, p11⟩ := PointN.ok_true hp
  obtain ⟨v, hv⟩ : ∃ v, px xs (y * iw + x) = v := ⟨_, rfl⟩
  have hv1 := px_bd hall.out (y * iw + x)
  rw [hv] at hv1
  obtain ⟨r1, r2⟩ := mul_bd p1 p2 hv1.1 hv1.2 (by omega) (by omega)
  have hvH := Lib.hid hv
  have hpH := Lib.hid hp
  clear hv hp
  have hS : Below W.heap.size W W.drew := (Below.refl _ _).drew
  go_enter Tryz.func99, Tryz.ntmps99
  go_wp2_with fail
  refine plain_region (fun W' => Below W.heap.size W W') 19 19 (by kernel_rfl) rfl ?_
  simp only [Array.replicate_succ, Array.replicate_zero, List.push_toArray, List.nil_append, List.cons_append]
  refine take_op 0 (v := ?rv0) rfl (by kernel_rfl) (fun _ _ _ h => h) (by rfl) hS (fun w' hS' => ?ry0) ?rz0
  case ry0 =>
    go_simp
    rfl
  simp only [List.setIfInBounds_toArray, List.set_cons_zero, List.set_cons_succ]
  refine take_op 1 (v := ?rv1) rfl (by kernel_rfl) (fun _ _ _ h => h) (by rfl) hS (fun w' hS' => ?ry1) ?rz1
  case ry1 =>
    have a0 := (k6.below hS' k6.lt).cell (i := 0) rfl
    have a1 := (k6.below hS' k6.lt).cell (i := 1) rfl
    have a2 := (k6.below hS' k6.lt).cell (i := 2) rfl
    have a3 := (k6.below hS' k6.lt).cell (i := 3) rfl
    have a4 := (k6.below hS' k6.lt).cell (i := 4) rfl
    have b0 := (k5.below hS' k5.lt).cell (i := 0) rfl
    have b1 := (k5.below hS' k5.lt).cell (i := 1) rfl
    have b2 := (k5.below hS' k5.lt).cell (i := 2) rfl
    go_simp
    rfl
  simp only [List.setIfInBounds_toArray, List.set_cons_zero, List.set_cons_succ]
  refine take_op 2 (v := ?rv2) rfl (by kernel_rfl) (fun _ _ _ h => h) (by rfl) hS (fun w' hS' => ?ry2) ?rz2
  case ry2 =>
    have a0 := (k6.below hS' k6.lt).cell (i := 0) rfl
    have a1 := (k6.below hS' k6.lt).cell (i := 1) rfl
    have a2 := (k6.below hS' k6.lt).cell (i := 2) rfl
    have a3 := (k6.below hS' k6.lt).cell (i := 3) rfl
    have a4 := (k6.below hS' k6.lt).cell (i := 4) rfl
    have b0 := (k5.below hS' k5.lt).cell (i := 0) rfl
    have b1 := (k5.below hS' k5.lt).cell (i := 1) rfl
    have b2 := (k5.below hS' k5.lt).cell (i := 2) rfl
    go_simp
    rfl
  simp only [List.setIfInBounds_toArray, List.set_cons_zero, List.set_cons_succ]
  refine take_op 3 (v := ?rv3) rfl (by kernel_rfl) (fun _ _ _ h => h) (by rfl) hS (fun w' hS' => ?ry3) ?rz3
  case ry3 =>
    go_simp
    rfl
  simp only [List.setIfInBounds_toArray, List.set_cons_zero, List.set_cons_succ]
  refine take_op 4 (v := ?rv4) rfl (by kernel_rfl) (fun _ _ _ h => h) (by rfl) hS (fun w' hS' => ?ry4) ?rz4
  case ry4 =>
    go_simp
    rfl
  simp only [List.setIfInBounds_toArray, List.set_cons_zero, List.set_cons_succ]
  refine take_op 7 (v := ?rv7) rfl (by kernel_rfl) (fun _ _ _ h => h) (by rfl) hS (fun w' hS' => ?ry7) ?rz7
  case ry7 =>
    go_simp
    rfl
  simp only [List.setIfInBounds_toArray, List.set_cons_zero, List.set_cons_succ]
  refine take_op 8 (v := ?rv8) rfl (by kernel_rfl) (fun _ _ _ h => h) (by rfl) hS (fun w' hS' => ?ry8) ?rz8
  case ry8 =>
    have a0 := (k6.below hS' k6.lt).cell (i := 0) rfl
    have a1 := (k6.below hS' k6.lt).cell (i := 1) rfl
    have a2 := (k6.below hS' k6.lt).cell (i := 2) rfl
    have a3 := (k6.below hS' k6.lt).cell (i := 3) rfl
    have a4 := (k6.below hS' k6.lt).cell (i := 4) rfl
    have b0 := (k5.below hS' k5.lt).cell (i := 0) rfl
    have b1 := (k5.below hS' k5.lt).cell (i := 1) rfl
    have b2 := (k5.below hS' k5.lt).cell (i := 2) rfl
    go_simp
    rfl
  simp only [List.setIfInBounds_toArray, List.set_cons_zero, List.set_cons_succ]
  refine take_op 10 (v := ?rv10) rfl (by kernel_rfl) (fun _ _ _ h => h) (by rfl) hS (fun w' hS' => ?ry10) ?rz10
  case ry10 =>
    go_simp
    rfl
  simp only [List.setIfInBounds_toArray, List.set_cons_zero, List.set_cons_succ]
  refine take_op 11 (v := ?rv11) rfl (by kernel_rfl) (fun _ _ _ h => h) (by rfl) hS (fun w' hS' => ?ry11) ?rz11
  case ry11 =>
    have a0 := (k6.below hS' k6.lt).cell (i := 0) rfl
    have a1 := (k6.below hS' k6.lt).cell (i := 1) rfl
    have a2 := (k6.below hS' k6.lt).cell (i := 2) rfl
    have a3 := (k6.below hS' k6.lt).cell (i := 3) rfl
    have a4 := (k6.below hS' k6.lt).cell (i := 4) rfl
    have b0 := (k5.below hS' k5.lt).cell (i := 0) rfl
    have b1 := (k5.below hS' k5.lt).cell (i := 1) rfl
    have b2 := (k5.below hS' k5.lt).cell (i := 2) rfl
    go_simp
    rfl
  simp only [List.setIfInBounds_toArray, List.set_cons_zero, List.set_cons_succ]
  refine take_op 13 (v := ?rv13) rfl (by kernel_rfl) (fun _ _ _ h => h) (by rfl) hS (fun w' hS' => ?ry13) ?rz13
  case ry13 =>
    go_simp
    rfl
  simp only [List.setIfInBounds_toArray, List.set_cons_zero, List.set_cons_succ]
  refine take_op 14 (v := ?rv14) rfl (by kernel_rfl) (fun _ _ _ h => h) (by rfl) hS (fun w' hS' => ?ry14) ?rz14
  case ry14 =>
    have a0 := (k6.below hS' k6.lt).cell (i := 0) rfl
    have a1 := (k6.below hS' k6.lt).cell (i := 1) rfl
    have a2 := (k6.below hS' k6.lt).cell (i := 2) rfl
    have a3 := (k6.below hS' k6.lt).cell (i := 3) rfl
    have a4 := (k6.below hS' k6.lt).cell (i := 4) rfl
    have b0 := (k5.below hS' k5.lt).cell (i := 0) rfl
    have b1 := (k5.below hS' k5.lt).cell (i := 1) rfl
    have b2 := (k5.below hS' k5.lt).cell (i := 2) rfl
    go_simp
    rfl
  simp only [List.setIfInBounds_toArray, List.set_cons_zero, List.set_cons_succ]
  refine take_op 15 (v := ?rv15) rfl (by kernel_rfl) (fun _ _ _ h => h) (by rfl) hS (fun w' hS' => ?ry15) ?rz15
  case ry15 =>
    go_simp
    rfl
  simp only [List.setIfInBounds_toArray, List.set_cons_zero, List.set_cons_succ]
  refine take_op 16 (v := ?rv16) rfl (by kernel_rfl) (fun _ _ _ h => h) (by rfl) hS (fun w' hS' => ?ry16) ?rz16
  case ry16 =>
    have a0 := (k6.below hS' k6.lt).cell (i := 0) rfl
    have a1 := (k6.below hS' k6.lt).cell (i := 1) rfl
    have a2 := (k6.below hS' k6.lt).cell (i := 2) rfl
    have a3 := (k6.below hS' k6.lt).cell (i := 3) rfl
    have a4 := (k6.below hS' k6.lt).cell (i := 4) rfl
    have b0 := (k5.below hS' k5.lt).cell (i := 0) rfl
    have b1 := (k5.below hS' k5.lt).cell (i := 1) rfl
    have b2 := (k5.below hS' k5.lt).cell (i := 2) rfl
    go_simp
    rfl
  simp only [List.setIfInBounds_toArray, List.set_cons_zero, List.set_cons_succ]
  refine step_op 5 (by kernel_rfl) rfl (fun K hK => ?_)
  rw [if_pos (by rfl)]
  go_simp
  refine (at_any iw ih x y a c xs n hn _ (Int.le_trans (by decide) q1) (Int.le_trans (Int.le_of_lt q4) (by omega)) q2 q3 (by omega) ((hr.below (Nat.le_refl _) hS).mono hS.size)).mono ?_
  rintro e W1 ⟨rfl, hb2⟩
  rw [hvH.out]
  have hS1 : Below W.heap.size W W1 := hS.trans (hb2.mono hS.size)
  refine hK.out _ _ (fun h => hS1) ?_
  clear hK K
  try simp only [Act.put, List.setIfInBounds_toArray, List.set_cons_zero, List.set_cons_succ]
  refine take_op 6 (v := ?rv6) rfl (by kernel_rfl) (fun _ _ _ h => h) (by rfl) hS1 (fun w' hS' => ?ry6) ?rz6
  case ry6 =>
    go_simp
    try go_ints
    rfl
  simp only [List.setIfInBounds_toArray, List.set_cons_zero, List.set_cons_succ]
  refine take_op 9 (v := ?rv9) rfl (by kernel_rfl) (fun _ _ _ h => h) (by rfl) hS1 (fun w' hS' => ?ry9) ?rz9
  case ry9 =>
    go_simp
    try go_ints
    rfl
  simp only [List.setIfInBounds_toArray, List.set_cons_zero, List.set_cons_succ]
  refine step_op 12 (by kernel_rfl) rfl (fun K hK => ?_)
  rw [if_pos (by rfl)]
  go_simp
  refine (floor_any _ _ _ (by omega) (by omega) (by omega) (by omega)).mono ?_
  rintro e W2 ⟨rfl, rfl⟩
  refine hK.out _ _ (fun h => hS1) ?_
  clear hK K
  try simp only [Act.put, List.setIfInBounds_toArray, List.set_cons_zero, List.set_cons_succ]
  refine step_op 17 (by kernel_rfl) rfl (fun K hK => ?_)
  rw [if_pos (by rfl)]
  go_simp
  refine (into_any _ _ _ _).mono ?_
  rintro e W2 ⟨rfl, rfl⟩
  refine hK.out _ _ (fun h => hS1) ?_
  clear hK K
  try simp only [Act.put, List.setIfInBounds_toArray, List.set_cons_zero, List.set_cons_succ]
  refine take_op 18 (v := ?rv18) rfl (by kernel_rfl) (fun _ _ _ h => h) (by rfl) hS1 (fun w' hS' => ?ry18) ?rz18
  case ry18 =>
    go_simp
    rfl
  simp only [List.setIfInBounds_toArray, List.set_cons_zero, List.set_cons_succ]
  refine done_ops (by kernel_rfl) ?_
  go_wp2_with fail
  go_ret
  exact ⟨ret_int (by unfold pointG pointF; rw [hvH.out]), hS1⟩

/-- What Point returns. -/
def pointS (iw ih : Int) (xs : List Int) (p : PointN) : ImR :=
  if vld iw ih xs = true then (if p.ok = true then { w := iw, h := ih, px := img iw.toNat ih.toNat (pointG iw xs p), err := 0 } else noIm 2) else noIm 20

set_option maxRecDepth 100000 in
set_option maxHeartbeats 4000000 in
theorem Point_any (iw ih : Int) (a : Option Addr) (c n : Nat) (xs : List Int) (hn : Hid (xs.length = n)) (p : PointN) (w : World) (hm : n ≤ 9223372036854775807) (hr : Rd w.heap.size w a xs) :
    Calls Tryz.prog 59 #[imv iw ih a n c, p.val] w (RetIm w.heap.size (pointS iw ih xs p) w) := by
  have hB0 : Below w.heap.size w (((w.alloc (.cells #[.int .i64 iw, .int .i64 ih, .slice a n c] 27)).alloc (.cells p.cells 115)).alloc (.cells #[.int .i64 0, .int .i64 0, .slice none 0 0] 27)) := below_al (below_al (below_al (Below.refl _ _) _) _) _
  obtain ⟨v0, hv⟩ : ∃ v, vld iw ih xs = v := ⟨_, rfl⟩
  have hvH := Lib.hid hv
  obtain ⟨v1, h1⟩ : ∃ v, inR p.mul (-65536) 65536 = v := ⟨_, rfl⟩
  have h1H := Lib.hid h1
  obtain ⟨v2, h2⟩ : ∃ v, ((inR p.add (-2147483648) 2147483648 && inR p.lo (-2147483648) 2147483648) && inR p.hi (-2147483648) 2147483648) = v := ⟨_, rfl⟩
  have h2H := Lib.hid h2
  obtain ⟨v3, h3⟩ : ∃ v, inR p.div 1 65536 = v := ⟨_, rfl⟩
  have h3H := Lib.hid h3
  obtain ⟨v4, h4⟩ : ∃ v, decide (p.lo ≤ p.hi) = v := ⟨_, rfl⟩
  have h4H := Lib.hid h4
  have hsp0 : pointS iw ih xs p = if v0 = true then (if (v1 && v2 && v3 && v4) = true then { w := iw, h := ih, px := img iw.toNat ih.toNat (pointG iw xs p), err := 0 } else noIm 2) else noIm 20 := by
    simp only [pointS, PointN.ok, hv, h1, h2, h3, h4]
  have hsp := Lib.hid hsp0
  clear hv h1 h2 h3 h4 hsp0
  go_enter Tryz.func59, Tryz.ntmps59
  go_wp2_with fail
  refine (valid_any iw ih a c xs n hn _ hm ((hr.below (Nat.le_refl _) hB0).mono hB0.size)).mono ?_
  rintro e W1 ⟨rfl, hb1⟩
  rw [hvH.out]
  have hB1 : Below w.heap.size w W1 := hB0.trans (hb1.mono hB0.size)
  have k5 := (((Blk.new w 27 #[.int .i64 iw, .int .i64 ih, .slice a n c]).alloc (.cells p.cells 115)).alloc (.cells #[.int .i64 0, .int .i64 0, .slice none 0 0] 27)).below hb1 (by simp <;> omega)
  have k6 := ((Blk.new (w.alloc (.cells #[.int .i64 iw, .int .i64 ih, .slice a n c] 27)) 115 p.cells).alloc (.cells #[.int .i64 0, .int .i64 0, .slice none 0 0] 27)).below hb1 (by simp <;> omega)
  have k := (Blk.new ((w.alloc (.cells #[.int .i64 iw, .int .i64 ih, .slice a n c] 27)).alloc (.cells p.cells 115)) 27 #[.int .i64 0, .int .i64 0, .slice none 0 0]).below hb1 (by simp <;> omega)
  simp only [World.size_alloc] at k k6
  clear hb1 hB0
  have hlt := k.lt
  have c0 := k.cell (i := 0) rfl
  have c1 := k.cell (i := 1) rfl
  have c2 := k.cell (i := 2) rfl
  have fc0 := k.frozen 0
  have fc1 := k.frozen 1
  have fc2 := k.frozen 2
  have m0 := k5.cell (i := 0) rfl
  have m1 := k5.cell (i := 1) rfl
  have a0 := k6.cell (i := 0) rfl
  have a1 := k6.cell (i := 1) rfl
  have a2 := k6.cell (i := 2) rfl
  have a3 := k6.cell (i := 3) rfl
  have a4 := k6.cell (i := 4) rfl
  cases v0 with
  | false =>
    go_wp2_with fail
    have kf := put3_blk k (.int .i64 0) (.int .i64 0) (.slice none 0 0)
    have g0 := kf.cell (i := 0) rfl
    have g1 := kf.cell (i := 1) rfl
    have g2 := kf.cell (i := 2) rfl
    exact bodyPost_ret (v := .tuple #[.agg #[.int .i64 0, .int .i64 0, .slice none 0 0], .int .i64 20]) (by simp [results, Tryz.results59, go_sem, g0, g1, g2]) rfl ⟨⟨_, by rw [hsp.out]; rfl, by rw [hsp.out]; exact OwnIm_nil _ _⟩, hB1.trans (put3_below (by omega) _ _ _)⟩
  | true =>
    go_wp2_with fail
    refine (within1 (-65536) 65536 p.mul v1 h1H.out _ _ _ _ (cell_new (by simp) rfl)).mono ?_
    rintro e W2 ⟨rfl, hW⟩
    have hb : Below W1.heap.size W1 W2 := alloc_below hW
    clear hW
    have hB2 := hB1.trans (hb.mono hB1.size)
    clear c0 c1 c2 fc0 fc1 fc2
    replace k := k.below hb k.lt
    have c0 := k.cell (i := 0) rfl
    have c1 := k.cell (i := 1) rfl
    have c2 := k.cell (i := 2) rfl
    have fc0 := k.frozen 0
    have fc1 := k.frozen 1
    have fc2 := k.frozen 2
    clear m0 m1
    replace k5 := k5.below hb k5.lt
    have m0 := k5.cell (i := 0) rfl
    have m1 := k5.cell (i := 1) rfl
    clear a0 a1 a2 a3 a4
    replace k6 := k6.below hb k6.lt
    have a0 := k6.cell (i := 0) rfl
    have a1 := k6.cell (i := 1) rfl
    have a2 := k6.cell (i := 2) rfl
    have a3 := k6.cell (i := 3) rfl
    have a4 := k6.cell (i := 4) rfl
    clear hb
    replace hlt := k.lt
    cases v1 with
    | false =>
      go_wp2_with fail
      have kf := put3_blk k (.int .i64 0) (.int .i64 0) (.slice none 0 0)
      have g0 := kf.cell (i := 0) rfl
      have g1 := kf.cell (i := 1) rfl
      have g2 := kf.cell (i := 2) rfl
      exact bodyPost_ret (v := .tuple #[.agg #[.int .i64 0, .int .i64 0, .slice none 0 0], .int .i64 2]) (by simp [results, Tryz.results59, go_sem, g0, g1, g2]) rfl ⟨⟨_, by rw [hsp.out]; rfl, by rw [hsp.out]; exact OwnIm_nil _ _⟩, hB2.trans (put3_below (by omega) _ _ _)⟩
    | true =>
      go_wp2_with fail
      refine (within3 (-2147483648) 2147483648 p.add p.lo p.hi v2 h2H.out _ _ _ 3 (Blk.new _ _ _)).mono ?_
      rintro e W3 ⟨rfl, hW⟩
      have hb : Below W2.heap.size W2 W3 := alloc_below hW
      clear hW
      have hB3 := hB2.trans (hb.mono hB2.size)
      clear c0 c1 c2 fc0 fc1 fc2
      replace k := k.below hb k.lt
      have c0 := k.cell (i := 0) rfl
      have c1 := k.cell (i := 1) rfl
      have c2 := k.cell (i := 2) rfl
      have fc0 := k.frozen 0
      have fc1 := k.frozen 1
      have fc2 := k.frozen 2
      clear m0 m1
      replace k5 := k5.below hb k5.lt
      have m0 := k5.cell (i := 0) rfl
      have m1 := k5.cell (i := 1) rfl
      clear a0 a1 a2 a3 a4
      replace k6 := k6.below hb k6.lt
      have a0 := k6.cell (i := 0) rfl
      have a1 := k6.cell (i := 1) rfl
      have a2 := k6.cell (i := 2) rfl
      have a3 := k6.cell (i := 3) rfl
      have a4 := k6.cell (i := 4) rfl
      clear hb
      replace hlt := k.lt
      cases v2 with
      | false =>
        go_wp2_with fail
        have kf := put3_blk k (.int .i64 0) (.int .i64 0) (.slice none 0 0)
        have g0 := kf.cell (i := 0) rfl
        have g1 := kf.cell (i := 1) rfl
        have g2 := kf.cell (i := 2) rfl
        exact bodyPost_ret (v := .tuple #[.agg #[.int .i64 0, .int .i64 0, .slice none 0 0], .int .i64 2]) (by simp [results, Tryz.results59, go_sem, g0, g1, g2]) rfl ⟨⟨_, by rw [hsp.out]; rfl, by rw [hsp.out]; exact OwnIm_nil _ _⟩, hB3.trans (put3_below (by omega) _ _ _)⟩
      | true =>
        go_wp2_with fail
        refine (within1 1 65536 p.div v3 h3H.out _ _ _ _ (cell_new (by simp) rfl)).mono ?_
        rintro e W4 ⟨rfl, hW⟩
        have hb : Below W3.heap.size W3 W4 := alloc_below hW
        clear hW
        have hB4 := hB3.trans (hb.mono hB3.size)
        clear c0 c1 c2 fc0 fc1 fc2
        replace k := k.below hb k.lt
        have c0 := k.cell (i := 0) rfl
        have c1 := k.cell (i := 1) rfl
        have c2 := k.cell (i := 2) rfl
        have fc0 := k.frozen 0
        have fc1 := k.frozen 1
        have fc2 := k.frozen 2
        clear m0 m1
        replace k5 := k5.below hb k5.lt
        have m0 := k5.cell (i := 0) rfl
        have m1 := k5.cell (i := 1) rfl
        clear a0 a1 a2 a3 a4
        replace k6 := k6.below hb k6.lt
        have a0 := k6.cell (i := 0) rfl
        have a1 := k6.cell (i := 1) rfl
        have a2 := k6.cell (i := 2) rfl
        have a3 := k6.cell (i := 3) rfl
        have a4 := k6.cell (i := 4) rfl
        clear hb
        replace hlt := k.lt
        cases v3 with
        | false =>
          go_wp2_with fail
          have kf := put3_blk k (.int .i64 0) (.int .i64 0) (.slice none 0 0)
          have g0 := kf.cell (i := 0) rfl
          have g1 := kf.cell (i := 1) rfl
          have g2 := kf.cell (i := 2) rfl
          exact bodyPost_ret (v := .tuple #[.agg #[.int .i64 0, .int .i64 0, .slice none 0 0], .int .i64 2]) (by simp [results, Tryz.results59, go_sem, g0, g1, g2]) rfl ⟨⟨_, by rw [hsp.out]; rfl, by rw [hsp.out]; exact OwnIm_nil _ _⟩, hB4.trans (put3_below (by omega) _ _ _)⟩
        | true =>
          cases v4 with
          | false =>
            have h4v := h4H.out
            simp only [decide_eq_false_iff_not, Int.not_le] at h4v
            go_wp2_with fail
            have kf := put3_blk k (.int .i64 0) (.int .i64 0) (.slice none 0 0)
            have g0 := kf.cell (i := 0) rfl
            have g1 := kf.cell (i := 1) rfl
            have g2 := kf.cell (i := 2) rfl
            exact bodyPost_ret (v := .tuple #[.agg #[.int .i64 0, .int .i64 0, .slice none 0 0], .int .i64 2]) (by simp [results, Tryz.results59, go_sem, g0, g1, g2]) rfl ⟨⟨_, by rw [hsp.out]; rfl, by rw [hsp.out]; exact OwnIm_nil _ _⟩, hB4.trans (put3_below (by omega) _ _ _)⟩
          | true =>
            have h4v := h4H.out
            simp only [decide_eq_true_eq] at h4v
            obtain ⟨⟨i1, i2⟩, ⟨i3, i4⟩, hlen, hall⟩ := vld_true hvH.out
            rw [hn.out] at hlen
            have hlenH := Lib.hid hlen
            have hallH := Lib.hid hall
            clear hlen hall
            have hok : p.ok = true := by simp only [PointN.ok, h1H.out, h2H.out, h3H.out, h4H.out]; rfl
            have hokH := Lib.hid hok
            clear hok
            obtain ⟨pw, rfl⟩ : ∃ pw : Nat, iw = (pw : Int) := ⟨iw.toNat, by omega⟩
            obtain ⟨ph, rfl⟩ : ∃ ph : Nat, ih = (ph : Int) := ⟨ih.toNat, by omega⟩
            go_wp2_with fail
            refine (made_any pw ph (by omega) (by omega) (by omega) (by omega) 99 #[.pointer (some ⟨w.heap.size + 1, 0, none⟩), .pointer (some ⟨w.heap.size, 0, none⟩)] (enters_of Tryz.func99 (by kernel_rfl) rfl) (pointG pw xs p) W4 (fun x y W hx hy hb => ?_)).mono ?_
            · exact Point1_any pw ph a c n xs hn hallH p hokH.out x y (w.heap.size + 1) w.heap.size W i1 i2 i3 i4 hlenH (by omega) (by omega) (by omega) (by omega) (k6.below hb k6.lt) (k5.below hb k5.lt) ((hr.below (Nat.le_refl _) (hB4.trans (hb.mono hB4.size))).mono (Nat.le_trans hB4.size hb.size))
            rintro e W7 ⟨v, rfl, ⟨s, rfl, hrow⟩, hb2⟩
            clear c0 c1 c2 fc0 fc1 fc2
            replace k := k.below hb2 k.lt
            have c0 := k.cell (i := 0) rfl
            have c1 := k.cell (i := 1) rfl
            have c2 := k.cell (i := 2) rfl
            have fc0 := k.frozen 0
            have fc1 := k.frozen 1
            have fc2 := k.frozen 2
            obtain ⟨sa, sc, rfl⟩ := row_slice hrow
            go_wp2_with fail
            have kf := put3_blk k (.int .i64 pw) (.int .i64 ph) (.slice sa (img pw ph (pointG pw xs p)).length sc)
            have g0 := kf.cell (i := 0) rfl
            have g1 := kf.cell (i := 1) rfl
            have g2 := kf.cell (i := 2) rfl
            exact bodyPost_ret (v := .tuple #[.agg #[.int .i64 pw, .int .i64 ph, .slice sa (img pw ph (pointG pw xs p)).length sc], .int .i64 0]) (by simp [results, Tryz.results59, go_sem, g0, g1, g2]) rfl ⟨⟨_, by rw [hsp.out]; rfl, by rw [hsp.out]; exact OwnIm.weaken ⟨_, rfl, put3_row hrow (k.not_row (by decide) hrow) _ _ _⟩ hB4.size⟩, (hB4.trans (hb2.mono hB4.size)).trans (put3_below (by omega) _ _ _)⟩

end Go.Proofs.YtbfigbpjoaccdaaGreat

namespace Go.Proofs.YtbfigbpjoaccdaaGreat
open Go Go.RowKit Go.Shelf
set_option linter.unusedVariables false
set_option linter.unusedSimpArgs false

theorem rd_at {B : Nat} {W : World} {a : Option Addr} {xs : List Int} {n : Nat} (h : Rd B W a xs) (hn : xs.length = n) (h0 : 0 < n) : ∃ b o, a = some ⟨b, o, none⟩ ∧ b < B ∧ ∀ i, i < n → W.cell? ⟨b, o + i, none⟩ = some (.int .i64 (px xs i)) := by
  rcases h with h | ⟨b, o, h1, h2, h3⟩
  · subst h; simp at hn; omega
  · exact ⟨b, o, h1, h2, fun i hi => by rw [h3 i (by omega)]; rfl⟩

end Go.Proofs.YtbfigbpjoaccdaaGreat

namespace Go.Proofs.YtbfigbpjoaccdaaGreat
set_option linter.unusedVariables false
set_option linter.unusedSimpArgs false

def sumTo (f : Nat → Int) : Nat → Int
  | 0 => 0
  | k + 1 => sumTo f k + f k

/-- The sum of a line's first x values; that of the values above and to the left; that of a rectangle. -/
def rowTo (g : Nat → Nat → Int) (x y : Nat) : Int := sumTo (fun u => g u y) x
def gridTo (g : Nat → Nat → Int) (x y : Nat) : Int := sumTo (fun v => rowTo g x v) y
def rect (g : Nat → Nat → Int) (x0 y0 x1 y1 : Nat) : Int := gridTo g x1 y1 - gridTo g x1 y0 - gridTo g x0 y1 + gridTo g x0 y0

theorem rowTo_succ (g : Nat → Nat → Int) (x y : Nat) : rowTo g (x + 1) y = rowTo g x y + g x y := rfl
theorem gridTo_succ (g : Nat → Nat → Int) (x y : Nat) : gridTo g x (y + 1) = gridTo g x y + rowTo g x y := rfl
theorem sumTo_zero {f : Nat → Int} (h : ∀ i, f i = 0) (k : Nat) : sumTo f k = 0 := by
  induction k with
  | zero => rfl
  | succ k ih => simp [sumTo, ih, h]
theorem gridTo_x0 (g : Nat → Nat → Int) (y : Nat) : gridTo g 0 y = 0 := sumTo_zero (fun _ => rfl) y
theorem gridTo_y0 (g : Nat → Nat → Int) (x : Nat) : gridTo g x 0 = 0 := rfl
theorem rect_grid (g : Nat → Nat → Int) (x y : Nat) : rect g 0 0 x y = gridTo g x y := by
  unfold rect
  rw [gridTo_x0, gridTo_x0, gridTo_y0]
  omega
theorem gridTo_next (g : Nat → Nat → Int) (x y : Nat) : g x y + gridTo g x (y + 1) + gridTo g (x + 1) y - gridTo g x y = gridTo g (x + 1) (y + 1) := by
  rw [gridTo_succ, gridTo_succ, rowTo_succ]
  omega

theorem sumTo_bd {f : Nat → Int} {B : Int} {k : Nat} (h : ∀ i, i < k → -B ≤ f i ∧ f i ≤ B) : -(B * k) ≤ sumTo f k ∧ sumTo f k ≤ B * k := by
  induction k with
  | zero => simp [sumTo]
  | succ k ih =>
    have h1 := ih (fun i hi => h i (by omega))
    have h2 := h k (by omega)
    have e : B * ((k + 1 : Nat) : Int) = B * k + B := by rw [Int.natCast_succ, Int.mul_add, Int.mul_one]
    rw [e]
    simp only [sumTo]
    omega
theorem rowTo_bd {g : Nat → Nat → Int} (h : ∀ u v, -2147483648 ≤ g u v ∧ g u v ≤ 2147483648) {x : Nat} (hx : x ≤ 16) (y : Nat) : -34359738368 ≤ rowTo g x y ∧ rowTo g x y ≤ 34359738368 := by
  have h1 := sumTo_bd (f := fun u => g u y) (k := x) (fun i _ => h i y)
  unfold rowTo
  omega
theorem gridTo_bd {g : Nat → Nat → Int} (h : ∀ u v, -2147483648 ≤ g u v ∧ g u v ≤ 2147483648) {x y : Nat} (hx : x ≤ 16) (hy : y ≤ 16) : -549755813888 ≤ gridTo g x y ∧ gridTo g x y ≤ 549755813888 := by
  have h1 := sumTo_bd (f := fun v => rowTo g x v) (k := y) (fun i _ => rowTo_bd h hx i)
  unfold gridTo
  omega

/-! ### The list of all sums -/

/-- The sums above and to the left; those whose place has not come up are 0. -/
def integ (pw ph : Nat) (g : Nat → Nat → Int) (k : Nat) : List Int :=
  (List.range ((pw + 1) * (ph + 1))).map fun j => if (j / (pw + 1) - 1) * pw + (j % (pw + 1) - 1) < k then gridTo g (j % (pw + 1)) (j / (pw + 1)) else 0

def integAll (pw ph : Nat) (g : Nat → Nat → Int) : List Int := (List.range ((pw + 1) * (ph + 1))).map fun j => gridTo g (j % (pw + 1)) (j / (pw + 1))

theorem integ_length (pw ph : Nat) (g : Nat → Nat → Int) (k : Nat) : (integ pw ph g k).length = (pw + 1) * (ph + 1) := by simp [integ]
theorem integAll_length (pw ph : Nat) (g : Nat → Nat → Int) : (integAll pw ph g).length = (pw + 1) * (ph + 1) := by simp [integAll]

theorem idx_mod {w x : Nat} (y : Nat) (hx : x < w) : (y * w + x) % w = x := by rw [Nat.mul_comm, Nat.mul_add_mod, Nat.mod_eq_of_lt hx]
theorem idx_div {w x : Nat} (y : Nat) (hx : x < w) : (y * w + x) / w = y := by rw [Nat.mul_comm, Nat.mul_add_div (by omega), Nat.div_eq_of_lt hx]; omega
theorem idx_bound {w h x y : Nat} (hx : x < w) (hy : y < h) : y * w + x < w * h := by
  have := Nat.mul_le_mul_right w (show y + 1 ≤ h by omega)
  rw [Nat.add_mul, Nat.mul_comm h w] at this
  omega

theorem integ_zero (pw ph : Nat) (g : Nat → Nat → Int) : integ pw ph g 0 = List.replicate ((pw + 1) * (ph + 1)) 0 := by
  unfold integ
  simp [List.map_const']

theorem integAll_at (pw ph : Nat) (g : Nat → Nat → Int) {x y : Nat} (hx : x ≤ pw) (hy : y ≤ ph) : (integAll pw ph g)[y * (pw + 1) + x]? = some (gridTo g x y) := by
  unfold integAll
  rw [List.getElem?_map, List.getElem?_range (idx_bound (by omega) (by omega)), Option.map_some, idx_mod y (by omega), idx_div y (by omega)]

theorem integ_at (pw ph : Nat) (g : Nat → Nat → Int) (k : Nat) {x y : Nat} (hx : x ≤ pw) (hy : y ≤ ph) (h : x = 0 ∨ y = 0 ∨ (y - 1) * pw + (x - 1) < k) : (integ pw ph g k)[y * (pw + 1) + x]? = some (gridTo g x y) := by
  unfold integ
  rw [List.getElem?_map, List.getElem?_range (idx_bound (by omega) (by omega)), Option.map_some, idx_mod y (by omega), idx_div y (by omega)]
  rcases h with rfl | rfl | h
  · rw [gridTo_x0]; simp
  · rw [gridTo_y0]; simp
  · rw [if_pos h]

theorem integ_all (pw ph : Nat) (g : Nat → Nat → Int) (hpw : 1 ≤ pw) (hph : 1 ≤ ph) : integ pw ph g (pw * ph) = integAll pw ph g := by
  unfold integ integAll
  refine List.map_congr_left fun j hj => ?_
  have hj' := List.mem_range.1 hj
  have h1 : j % (pw + 1) < pw + 1 := Nat.mod_lt _ (by omega)
  have h2 : j / (pw + 1) < ph + 1 := Nat.div_lt_of_lt_mul hj'
  rw [if_pos (idx_bound (by omega) (by omega))]

theorem integ_set (pw ph : Nat) (g : Nat → Nat → Int) (k : Nat) (hk : k < pw * ph) :
    (integ pw ph g k).set ((k / pw + 1) * (pw + 1) + (k % pw + 1)) (gridTo g (k % pw + 1) (k / pw + 1)) = integ pw ph g (k + 1) := by
  have hp0 : 0 < pw := Nat.pos_of_ne_zero (by rintro rfl; simp at hk)
  have hx : k % pw < pw := Nat.mod_lt _ hp0
  have hy : k / pw < ph := Nat.div_lt_of_lt_mul hk
  have hkk : k / pw * pw + k % pw = k := by rw [Nat.mul_comm]; exact Nat.div_add_mod k pw
  have hN := idx_bound (w := pw + 1) (h := ph + 1) (x := k % pw + 1) (y := k / pw + 1) (by omega) (by omega)
  refine List.ext_getElem? fun j => ?_
  rw [List.getElem?_set]
  by_cases hj : (k / pw + 1) * (pw + 1) + (k % pw + 1) = j
  · subst hj
    rw [if_pos rfl, integ_length, if_pos hN, integ_at pw ph g (k + 1) (by omega) (by omega) (.inr (.inr (by simp only [Nat.add_sub_cancel]; omega)))]
  · rw [if_neg hj]
    by_cases hjN : j < (pw + 1) * (ph + 1)
    · unfold integ
      rw [List.getElem?_map, List.getElem?_map, List.getElem?_range hjN, Option.map_some, Option.map_some]
      congr 1
      have h1 : j % (pw + 1) < pw + 1 := Nat.mod_lt _ (by omega)
      have hjj : j / (pw + 1) * (pw + 1) + j % (pw + 1) = j := by rw [Nat.mul_comm]; exact Nat.div_add_mod j (pw + 1)
      generalize j % (pw + 1) = x at *
      generalize j / (pw + 1) = y at *
      rcases Nat.eq_zero_or_pos x with rfl | hx0
      · rw [gridTo_x0]; simp
      rcases Nat.eq_zero_or_pos y with rfl | hy0
      · rw [gridTo_y0]; simp
      have hne : ¬ (y - 1) * pw + (x - 1) = k := by
        intro he
        have e1 := idx_mod (w := pw) (x := x - 1) (y - 1) (by omega)
        have e2 := idx_div (w := pw) (x := x - 1) (y - 1) (by omega)
        rw [he] at e1 e2
        apply hj
        rw [e1, e2, Nat.sub_add_cancel hx0, Nat.sub_add_cancel hy0, hjj]
      by_cases hlt : (y - 1) * pw + (x - 1) < k
      · rw [if_pos hlt, if_pos (by omega)]
      · rw [if_neg hlt, if_neg (by omega)]
    · rw [List.getElem?_eq_none (by rw [integ_length]; omega), List.getElem?_eq_none (by rw [integ_length]; omega)]

/-- A list laid entry by entry, over zeros. -/
def layTo (f : Nat → Int) (n k : Nat) : List Int := (List.range n).map fun i => if i < k then f i else 0
theorem layTo_length (f : Nat → Int) (n k : Nat) : (layTo f n k).length = n := by simp [layTo]
theorem layTo_zero (f : Nat → Int) (n : Nat) : layTo f n 0 = List.replicate n 0 := by simp [layTo, List.map_const']
theorem layTo_all (f : Nat → Int) (n : Nat) : layTo f n n = (List.range n).map f := List.map_congr_left fun i hi => if_pos (List.mem_range.1 hi)
theorem layTo_set (f : Nat → Int) {n k : Nat} (hk : k < n) : (layTo f n k).set k (f k) = layTo f n (k + 1) := by
  refine List.ext_getElem? fun j => ?_
  rw [List.getElem?_set]
  by_cases hj : k = j
  · subst hj
    rw [if_pos rfl, layTo_length, if_pos hk]
    simp [layTo, hk]
  · rw [if_neg hj]
    by_cases hjn : j < n
    · simp only [layTo, List.getElem?_map, List.getElem?_range hjn, Option.map_some]
      congr 1
      by_cases h : j < k
      · rw [if_pos h, if_pos (by omega)]
      · rw [if_neg h, if_neg (by omega)]
    · rw [List.getElem?_eq_none (by rw [layTo_length]; omega), List.getElem?_eq_none (by rw [layTo_length]; omega)]

end Go.Proofs.YtbfigbpjoaccdaaGreat

namespace Go.Proofs.YtbfigbpjoaccdaaGreat
set_option linter.unusedVariables false
set_option linter.unusedSimpArgs false

/-- The columns', the rows' difference of two indexes. -/
def dX (pw i k : Nat) : Nat := (((i % pw : Nat) : Int) - ((k % pw : Nat) : Int)).natAbs
def dY (pw i k : Nat) : Nat := (((i / pw : Nat) : Int) - ((k / pw : Nat) : Int)).natAbs
def l1 (pw i k : Nat) : Nat := dX pw i k + dY pw i k
/-- Two pixels are neighbours, in the sense of four or of eight. -/
def nearB (pw : Nat) (eight : Bool) (i k : Nat) : Bool := decide (l1 pw i k = 1) || (eight && (decide (dX pw i k = 1) && decide (dY pw i k = 1)))

theorem l1_self (pw i : Nat) : l1 pw i i = 0 := by simp [l1, dX, dY]
theorem l1_tri (pw i j k : Nat) : l1 pw i k ≤ l1 pw i j + l1 pw j k := by unfold l1 dX dY; omega
theorem idx_split (pw i : Nat) : i / pw * pw + i % pw = i := by rw [Nat.mul_comm]; exact Nat.div_add_mod i pw

/-! ### The least distance to a pixel with the value 0 -/

/-- The least distance to the first k pixels' zeros; the sides' sum if there are none. 'z' tells the zeros. -/
def nearTo (pw ph : Nat) (z : Nat → Bool) (i : Nat) : Nat → Int
  | 0 => (pw : Int) + ph
  | k + 1 => if z k = true then min (nearTo pw ph z i k) (l1 pw k i : Nat) else nearTo pw ph z i k

def nearest (pw ph : Nat) (z : Nat → Bool) (i : Nat) : Int := nearTo pw ph z i (pw * ph)

theorem nearTo_le {pw ph : Nat} {z : Nat → Bool} {i m k : Nat} (hk : k < m) (hz : z k = true) : nearTo pw ph z i m ≤ (l1 pw k i : Nat) := by
  induction m with
  | zero => omega
  | succ m ih =>
    unfold nearTo
    by_cases h : k = m
    · subst h; rw [if_pos hz]; omega
    · have := ih (by omega)
      split <;> omega
theorem nearTo_hi (pw ph : Nat) (z : Nat → Bool) (i m : Nat) : nearTo pw ph z i m ≤ (pw : Int) + ph := by
  induction m with
  | zero => exact Int.le_refl _
  | succ m ih => unfold nearTo; split <;> omega
theorem nearTo_cases (pw ph : Nat) (z : Nat → Bool) (i m : Nat) : nearTo pw ph z i m = (pw : Int) + ph ∨ ∃ k, k < m ∧ z k = true ∧ nearTo pw ph z i m = (l1 pw k i : Nat) := by
  induction m with
  | zero => exact .inl rfl
  | succ m ih =>
    unfold nearTo
    by_cases hz : z m = true
    · rw [if_pos hz]
      by_cases hle : nearTo pw ph z i m ≤ (l1 pw m i : Nat)
      · rw [show min (nearTo pw ph z i m) ((l1 pw m i : Nat) : Int) = nearTo pw ph z i m by omega]
        rcases ih with h | ⟨k, h1, h2, h3⟩
        · exact .inl h
        · exact .inr ⟨k, by omega, h2, h3⟩
      · rw [show min (nearTo pw ph z i m) ((l1 pw m i : Nat) : Int) = (l1 pw m i : Nat) by omega]
        exact .inr ⟨m, by omega, hz, rfl⟩
    · rw [if_neg hz]
      rcases ih with h | ⟨k, h1, h2, h3⟩
      · exact .inl h
      · exact .inr ⟨k, by omega, h2, h3⟩
theorem nearTo_pos (pw ph : Nat) (z : Nat → Bool) (i m : Nat) : 0 ≤ nearTo pw ph z i m := by
  rcases nearTo_cases pw ph z i m with h | ⟨k, _, _, h⟩ <;> omega

theorem nearest_step {pw ph : Nat} {z : Nat → Bool} {i j : Nat} (h : l1 pw i j = 1) : nearest pw ph z j ≤ nearest pw ph z i + 1 := by
  unfold nearest
  rcases nearTo_cases pw ph z i (pw * ph) with hc | ⟨k, h1, h2, h3⟩
  · have := nearTo_hi pw ph z j (pw * ph); omega
  · have h4 := nearTo_le (pw := pw) (ph := ph) (i := j) h1 h2
    have h5 := l1_tri pw k i j
    omega
theorem nearest_zero {pw ph : Nat} {z : Nat → Bool} {i : Nat} (hi : i < pw * ph) (h : z i = true) : nearest pw ph z i = 0 := by
  have h1 := nearTo_le (pw := pw) (ph := ph) (i := i) hi h
  have h2 := nearTo_pos pw ph z i (pw * ph)
  rw [l1_self] at h1
  unfold nearest
  omega

/-! ### Narrowing down -/

/-- The state of the search: distances 'f', pixels 'q' that are still to be looked at. -/
structure Narrow (pw ph : Nat) (z : Nat → Bool) (f : Nat → Int) (q : Nat → Prop) : Prop where
  sound : ∀ i, i < pw * ph → nearest pw ph z i ≤ f i
  hi : ∀ i, i < pw * ph → f i ≤ (pw : Int) + ph
  zero : ∀ i, i < pw * ph → z i = true → f i ≤ 0
  done : ∀ i, i < pw * ph → ¬ q i → ∀ j, j < pw * ph → l1 pw i j = 1 → f j ≤ f i + 1

theorem Narrow.start {pw ph : Nat} {z : Nat → Bool} (f : Nat → Int) (q : Nat → Prop) (h0 : ∀ i, i < pw * ph → f i = if z i = true then 0 else (pw : Int) + ph) (hq : ∀ i, i < pw * ph → z i = true → q i) : Narrow pw ph z f q where
  sound i hi := by
    rw [h0 i hi]
    split
    · rename_i hz; rw [nearest_zero hi hz]; exact Int.le_refl _
    · exact nearTo_hi _ _ _ _ _
  hi i hi := by rw [h0 i hi]; split <;> omega
  zero i hi hz := by rw [h0 i hi, if_pos hz]; exact Int.le_refl _
  done i hi hn j hj _ := by
    have hz : ¬ z i = true := fun h => hn (hq i hi h)
    rw [h0 i hi, h0 j hj, if_neg hz]
    split <;> omega

/-- Pixel i is being looked at; 's' are its neighbours that have been. One more: nothing turns. -/
theorem Narrow.skip {pw ph : Nat} {z : Nat → Bool} {f : Nat → Int} {q : Nat → Prop} (h : Narrow pw ph z f q) {q' : Nat → Prop} (hq : ∀ j, q j → q' j) : Narrow pw ph z f q' :=
  ⟨h.sound, h.hi, h.zero, fun i hi hn => h.done i hi fun e => hn (hq i e)⟩

/-- A neighbour k of i gets a nearer distance. -/
theorem Narrow.step {pw ph : Nat} {z : Nat → Bool} {f : Nat → Int} {q : Nat → Prop} (h : Narrow pw ph z f q) {i k : Nat} (hi : i < pw * ph) (hk : k < pw * ph) (hik : l1 pw i k = 1) (hlt : f i + 1 < f k) (f' : Nat → Int) (hf : ∀ j, j ≠ k → f' j = f j) (hfk : f' k = f i + 1) (q' : Nat → Prop) (hq : ∀ j, q j → q' j) (hqk : q' k) : Narrow pw ph z f' q' where
  sound j hj := by
    by_cases e : j = k
    · subst e; rw [hfk]; have := h.sound i hi; have := nearest_step (ph := ph) (z := z) hik; omega
    · rw [hf j e]; exact h.sound j hj
  hi j hj := by
    by_cases e : j = k
    · subst e; rw [hfk]; have := h.hi _ hj; omega
    · rw [hf j e]; exact h.hi j hj
  zero j hj hz := by
    by_cases e : j = k
    · subst e; rw [hfk]; have := h.zero _ hj hz; omega
    · rw [hf j e]; exact h.zero j hj hz
  done j hj hn l hl hjl := by
    have hjk : j ≠ k := fun e => hn (e ▸ hqk)
    have h1 := h.done j hj (fun e => hn (hq j e)) l hl hjl
    rw [hf j hjk]
    by_cases e : l = k
    · subst e; rw [hfk]; omega
    · rw [hf l e]; exact h1

/-! ### Parts: what grows from a pixel on -/

/-- Pixel k is reached from i, along neighbours whose values are not 0 and that have no number yet. -/
inductive Reach (N pw : Nat) (e : Bool) (nz : Nat → Bool) (L : Nat → Int) (i : Nat) : Nat → Prop
  | base : Reach N pw e nz L i i
  | step {k l : Nat} : Reach N pw e nz L i k → l < N → nearB pw e k l = true → nz l = true → L l = 0 → Reach N pw e nz L i l

/-- The state of the search: numbers 'f', pixels 'q' that are still to be looked at; before it the numbers were L, n is new. -/
structure Fill (N pw : Nat) (e : Bool) (nz : Nat → Bool) (L : Nat → Int) (n : Int) (i : Nat) (f : Nat → Int) (q : Nat → Prop) : Prop where
  start : f i = n
  out : ∀ k, k < N → f k = L k ∨ (f k = n ∧ L k = 0 ∧ Reach N pw e nz L i k)
  done : ∀ k, k < N → f k = n → ¬ q k → ∀ l, l < N → nearB pw e k l = true → nz l = true → f l ≠ 0

theorem Fill.skip {N pw : Nat} {e : Bool} {nz : Nat → Bool} {L : Nat → Int} {n : Int} {i : Nat} {f : Nat → Int} {q : Nat → Prop} (h : Fill N pw e nz L n i f q) {q' : Nat → Prop} (hq : ∀ j, q j → q' j) : Fill N pw e nz L n i f q' :=
  ⟨h.start, h.out, fun k hk hf hn => h.done k hk hf fun e => hn (hq k e)⟩

/-- A neighbour l of k gets the number. -/
theorem Fill.step {N pw : Nat} {e : Bool} {nz : Nat → Bool} {L : Nat → Int} {n : Int} {i : Nat} {f : Nat → Int} {q : Nat → Prop} (h : Fill N pw e nz L n i f q) (hn : ∀ k, k < N → L k ≠ n) (hn0 : n ≠ 0) {k l : Nat} (hk : k < N) (hl : l < N) (hfk : f k = n) (hkl : nearB pw e k l = true) (hz : nz l = true) (hfl : f l = 0)
    (f' : Nat → Int) (hf : ∀ j, j ≠ l → f' j = f j) (hf' : f' l = n) (q' : Nat → Prop) (hq : ∀ j, q j → q' j) (hql : q' l) : Fill N pw e nz L n i f' q' where
  start := by
    by_cases ei : i = l
    · subst ei; exact hf'
    · rw [hf i ei]; exact h.start
  out j hj := by
    by_cases ej : j = l
    · subst ej
      refine .inr ⟨hf', ?_, ?_⟩
      · rcases h.out _ hj with ho | ho
        · rw [← ho]; exact hfl
        · exact ho.2.1
      · rcases h.out _ hk with ho | ho
        · rw [ho] at hfk; exact (hn k hk hfk).elim
        · refine ho.2.2.step hj hkl hz ?_
          rcases h.out _ hj with ho2 | ho2
          · rw [← ho2]; exact hfl
          · exact ho2.2.1
    · rw [hf j ej]; exact h.out j hj
  done j hj hfj hnq m hm hjm hzm := by
    have ejl : j ≠ l := fun e => hnq (e ▸ hql)
    rw [hf j ejl] at hfj
    have := h.done j hj hfj (fun e => hnq (hq j e)) m hm hjm hzm
    by_cases em : m = l
    · subst em; rw [hf']; exact hn0
    · rw [hf m em]; exact this

/-! ### The neighbours of a pixel, by their places around it -/

end Go.Proofs.YtbfigbpjoaccdaaGreat

namespace Go.Proofs.YtbfigbpjoaccdaaGreat
set_option linter.unusedVariables false
set_option linter.unusedSimpArgs false

/-- Pixel k is lower than pixel b: by its value, then by its index. -/
def better (m : Nat → Int) (b k : Nat) : Bool := decide (m k < m b) || (decide (m k = m b) && decide (k < b))
theorem better_iff {m : Nat → Int} {b k : Nat} : better m b k = true ↔ m k < m b ∨ (m k = m b ∧ k < b) := by simp [better]
theorem better_not {m : Nat → Int} {b k : Nat} : better m b k = false ↔ ¬ (m k < m b ∨ (m k = m b ∧ k < b)) := by rw [← better_iff]; simp

/-- b is the lowest of i and those that s tells. -/
structure IsLow (m : Nat → Int) (i : Nat) (s : Nat → Prop) (b : Nat) : Prop where
  mem : b = i ∨ s b
  least : ∀ c, c = i ∨ s c → better m b c = false

theorem IsLow.unique {m : Nat → Int} {i : Nat} {s : Nat → Prop} {a b : Nat} (ha : IsLow m i s a) (hb : IsLow m i s b) : a = b := by
  have h1 := better_not.1 (ha.least b hb.mem)
  have h2 := better_not.1 (hb.least a ha.mem)
  omega
theorem IsLow.start (m : Nat → Int) (i : Nat) {s : Nat → Prop} (hs : ∀ c, ¬ s c) : IsLow m i s i :=
  ⟨.inl rfl, fun c hc => by
    rcases hc with rfl | hc
    · exact better_not.2 (by omega)
    · exact (hs c hc).elim⟩
theorem IsLow.step {m : Nat → Int} {i : Nat} {s s' : Nat → Prop} {b k : Nat} (h : IsLow m i s b) (hs : ∀ c, s' c ↔ s c ∨ c = k) : IsLow m i s' (if better m b k = true then k else b) := by
  by_cases hk : better m b k = true
  · rw [if_pos hk]
    refine ⟨.inr ((hs k).2 (.inr rfl)), fun c hc => better_not.2 ?_⟩
    have h1 := better_iff.1 hk
    have hc' : (c = i ∨ s c) ∨ c = k := by
      rcases hc with h | h
      · exact .inl (.inl h)
      · rcases (hs c).1 h with h | h
        · exact .inl (.inr h)
        · exact .inr h
    rcases hc' with h2 | h2
    · have := better_not.1 (h.least c h2)
      omega
    · subst h2; omega
  · rw [if_neg hk]
    refine ⟨h.mem.elim .inl fun e => .inr ((hs b).2 (.inl e)), fun c hc => ?_⟩
    rcases hc with h2 | h2
    · exact h.least c (.inl h2)
    · rcases (hs c).1 h2 with h2 | h2
      · exact h.least c (.inr h2)
      · subst h2; simpa using hk

/-! ### Where going on to the lowest neighbour ends -/

end Go.Proofs.YtbfigbpjoaccdaaGreat

namespace Go.Proofs.YtbfigbpjoaccdaaGreat
set_option linter.unusedVariables false
set_option linter.unusedSimpArgs false

/-- The greatest (mx) or least of the values 'val' with numbers below t that count ('ok'). -/
def morTo (mx : Bool) (ok : Nat → Bool) (val : Nat → Int) : Nat → Int
  | 0 => if mx = true then -2147483648 else 2147483648
  | t + 1 => if ok t = true then (if mx = true then max (morTo mx ok val t) (val t) else min (morTo mx ok val t) (val t)) else morTo mx ok val t

theorem mor_le {ok : Nat → Bool} {val : Nat → Int} {n : Nat} {B : Int} : morTo true ok val n ≤ B ↔ -2147483648 ≤ B ∧ ∀ t, t < n → ok t = true → val t ≤ B := by
  induction n with
  | zero =>
    simp only [morTo, if_true]
    exact ⟨fun h => ⟨h, fun t ht => by omega⟩, fun h => h.1⟩
  | succ n ih =>
    simp only [morTo, if_true]
    have key : (∀ t, t < n + 1 → ok t = true → val t ≤ B) ↔ (∀ t, t < n → ok t = true → val t ≤ B) ∧ (ok n = true → val n ≤ B) := by
      constructor
      · exact fun h => ⟨fun t ht => h t (by omega), h n (by omega)⟩
      · rintro ⟨h1, h2⟩ t ht
        by_cases e : t = n
        · subst e; exact h2
        · exact h1 t (by omega)
    rw [key]
    by_cases h : ok n = true
    · rw [if_pos h]
      constructor
      · intro hm
        have := ih.1 (by omega)
        exact ⟨this.1, this.2, fun _ => by omega⟩
      · rintro ⟨h1, h2, h3⟩
        have := ih.2 ⟨h1, h2⟩
        have := h3 h
        omega
    · rw [if_neg h, ih]
      exact ⟨fun ⟨h1, h2⟩ => ⟨h1, h2, fun h' => (h h').elim⟩, fun ⟨h1, h2, _⟩ => ⟨h1, h2⟩⟩

theorem le_mor {ok : Nat → Bool} {val : Nat → Int} {n : Nat} {B : Int} : B ≤ morTo false ok val n ↔ B ≤ 2147483648 ∧ ∀ t, t < n → ok t = true → B ≤ val t := by
  induction n with
  | zero =>
    simp only [morTo]
    exact ⟨fun h => ⟨h, fun t ht => by omega⟩, fun h => h.1⟩
  | succ n ih =>
    have e0 : morTo false ok val (n + 1) = if ok n = true then min (morTo false ok val n) (val n) else morTo false ok val n := by simp [morTo]
    rw [e0]
    have key : (∀ t, t < n + 1 → ok t = true → B ≤ val t) ↔ (∀ t, t < n → ok t = true → B ≤ val t) ∧ (ok n = true → B ≤ val n) := by
      constructor
      · exact fun h => ⟨fun t ht => h t (by omega), h n (by omega)⟩
      · rintro ⟨h1, h2⟩ t ht
        by_cases e : t = n
        · subst e; exact h2
        · exact h1 t (by omega)
    rw [key]
    by_cases h : ok n = true
    · rw [if_pos h]
      constructor
      · intro hm
        have := ih.1 (by omega)
        exact ⟨this.1, this.2, fun _ => by omega⟩
      · rintro ⟨h1, h2, h3⟩
        have := ih.2 ⟨h1, h2⟩
        have := h3 h
        omega
    · rw [if_neg h, ih]
      exact ⟨fun ⟨h1, h2⟩ => ⟨h1, h2, fun h' => (h h').elim⟩, fun ⟨h1, h2, _⟩ => ⟨h1, h2⟩⟩

theorem mor_bd {mx : Bool} {ok : Nat → Bool} {val : Nat → Int} (h : ∀ t, -2147483648 ≤ val t ∧ val t ≤ 2147483648) (n : Nat) : -2147483648 ≤ morTo mx ok val n ∧ morTo mx ok val n ≤ 2147483648 := by
  induction n with
  | zero => cases mx <;> simp [morTo]
  | succ n ih =>
    have := h n
    simp only [morTo]
    split
    · split <;> omega
    · exact ih

end Go.Proofs.YtbfigbpjoaccdaaGreat

namespace Go.Proofs.YtbfigbpjoaccdaaGreat
open Go Go.RowKit Go.Shelf
set_option linter.unusedVariables false
set_option linter.unusedSimpArgs false

/-- The slice at 'a' reads as the truth values 'bs', in blocks below 'B'. -/
def RdB (B : Nat) (W : World) (a : Option Addr) (bs : List Bool) : Prop :=
  bs = [] ∨ ∃ b o, a = some ⟨b, o, none⟩ ∧ b < B ∧ ∀ i, i < bs.length → W.cell? ⟨b, o + i, none⟩ = some (.bool (bs[i]?.getD false))

theorem RdB.below {B B' : Nat} {W W' : World} {a : Option Addr} {bs : List Bool} (h : RdB B W a bs) (hB : B ≤ B') (hb : Below B' W W') : RdB B W' a bs := by
  rcases h with h | ⟨b, o, h1, h2, h3⟩
  · exact .inl h
  · exact .inr ⟨b, o, h1, h2, fun i hi => (hb.cell (p := ⟨b, o + i, none⟩) (by show b < B'; omega)).trans (h3 i hi)⟩

theorem RdB.mono {B B' : Nat} {W : World} {a : Option Addr} {bs : List Bool} (h : RdB B W a bs) (hB : B ≤ B') : RdB B' W a bs := by
  rcases h with h | ⟨b, o, h1, h2, h3⟩
  · exact .inl h
  · exact .inr ⟨b, o, h1, by omega, h3⟩

theorem rdB_at {B : Nat} {W : World} {a : Option Addr} {bs : List Bool} {n : Nat} (h : RdB B W a bs) (hn : bs.length = n) (h0 : 0 < n) : ∃ b o, a = some ⟨b, o, none⟩ ∧ b < B ∧ ∀ i, i < n → W.cell? ⟨b, o + i, none⟩ = some (.bool (bs[i]?.getD false)) := by
  rcases h with h | ⟨b, o, h1, h2, h3⟩
  · subst h; simp at hn; omega
  · exact ⟨b, o, h1, h2, fun i hi => h3 i (by omega)⟩

/-- A number may be a side. -/
def sideB (n : Int) : Bool := decide (n = 1 ∨ n = 3 ∨ n = 5)
theorem sideB_true {n : Int} (h : sideB n = true) : n = 1 ∨ n = 3 ∨ n = 5 := of_decide_eq_true h

/-! ### Lists that contain a value -/

theorem anyTo_succ {α : Type} (p : α → Bool) {xs : List α} {k : Nat} {x : α} (hx : xs[k]? = some x) : (xs.take (k + 1)).any p = ((xs.take k).any p || p x) := by
  rw [List.take_add_one, hx, List.any_append]
  simp

set_option maxHeartbeats 1000000 in
theorem index_int (v : Int) (a : Option Addr) (c n : Nat) (xs : List Int) (hn : Hid (xs.length = n)) (w : World) (hm : n ≤ 9223372036854775807) (hr : Rd w.heap.size w a xs) :
    Calls Tryz.prog 157 #[.slice a n c, .int .i64 v] w fun e w' => (∃ r : Int, e = .returned (.int .i64 r) ∧ decide (0 ≤ r) = xs.any (fun x => decide (v = x))) ∧ w = w' := by
  go_enter Tryz.func157, Tryz.ntmps157
  go_wp2_with fail
  go_loop [5, 8] (fun u i => ∃ k : Nat, k ≤ n ∧ i = .int .i64 (k : Int) ∧ Hid ((xs.take k).any (fun x => decide (v = x)) = false)) (fun u i => n - (intOf i).toNat)
  case atStart => exact ⟨0, Nat.zero_le _, rfl, Lib.hid rfl⟩
  case round =>
    obtain ⟨k, hk, rfl, hall⟩ := hrel
    by_cases hlt : k < n
    · obtain ⟨b, o, rfl, hb, hc⟩ := rd_at hr hn.out (by omega)
      have hcell := hc k hlt
      have hs := anyTo_succ (fun x => decide (v = x)) (xs := xs) (k := k) (x := px xs k) (by unfold px; simp only [Int.toNat_natCast]; rw [List.getElem?_eq_getElem (by rw [hn.out]; exact hlt)]; rfl)
      rw [hall.out, Bool.false_or] at hs
      have hany : decide (v = px xs k) = true → xs.any (fun x => decide (v = x)) = true := by
        intro h
        rw [h] at hs
        rw [← List.take_append_drop (k + 1) xs, List.any_append, hs]; rfl
      generalize px xs k = x at *
      have hsH := Lib.hid hs
      have haH := Lib.hid hany
      clear hc hs hany
      by_cases hx : v = x
      · subst hx
        go_wp2_with fail
        go_ret
        exact ⟨⟨k, rfl, by rw [haH.out (by simp)]; simp⟩, rfl⟩
      · go_wp2_with fail
        go_round
        case rel => exact ⟨k + 1, by omega, by go_num, Lib.hid (by rw [hsH.out]; simp [hx])⟩
        case measure => simp [intOf]; omega
    · go_wp2_with fail
      go_ret
      refine ⟨⟨-1, rfl, ?_⟩, rfl⟩
      have h := hall.out
      rw [List.take_of_length_le (by have := hn.out; omega)] at h
      rw [h]; rfl

set_option maxHeartbeats 1000000 in
theorem index_bool (v : Bool) (a : Option Addr) (c n : Nat) (xs : List Bool) (hn : Hid (xs.length = n)) (w : World) (hm : n ≤ 9223372036854775807) (hr : RdB w.heap.size w a xs) :
    Calls Tryz.prog 148 #[.slice a n c, .bool v] w fun e w' => (∃ r : Int, e = .returned (.int .i64 r) ∧ decide (0 ≤ r) = xs.any (fun x => decide (v = x))) ∧ w = w' := by
  go_enter Tryz.func148, Tryz.ntmps148
  go_wp2_with fail
  go_loop [5, 8] (fun u i => ∃ k : Nat, k ≤ n ∧ i = .int .i64 (k : Int) ∧ Hid ((xs.take k).any (fun x => decide (v = x)) = false)) (fun u i => n - (intOf i).toNat)
  case atStart => exact ⟨0, Nat.zero_le _, rfl, Lib.hid rfl⟩
  case round =>
    obtain ⟨k, hk, rfl, hall⟩ := hrel
    by_cases hlt : k < n
    · obtain ⟨b, o, rfl, hb, hc⟩ := rdB_at hr hn.out (by omega)
      have hcell := hc k hlt
      have hs := anyTo_succ (fun x => decide (v = x)) (xs := xs) (k := k) (x := xs[k]?.getD false) (by rw [List.getElem?_eq_getElem (by rw [hn.out]; exact hlt)]; rfl)
      rw [hall.out, Bool.false_or] at hs
      have hany : decide (v = xs[k]?.getD false) = true → xs.any (fun x => decide (v = x)) = true := by
        intro h
        rw [h] at hs
        rw [← List.take_append_drop (k + 1) xs, List.any_append, hs]; rfl
      generalize xs[k]?.getD false = x at *
      have hsH := Lib.hid hs
      have haH := Lib.hid hany
      clear hc hs hany
      by_cases hx : v = x
      · subst hx
        go_wp2_with fail
        go_ret
        exact ⟨⟨k, rfl, by rw [haH.out (by simp)]; simp⟩, rfl⟩
      · have hxb : (v == x) = false := by simpa using hx
        have hx2 := Lib.hid (show decide (v = x) = false by simpa using hx)
        clear hx
        go_wp2_with fail
        go_round
        case rel => exact ⟨k + 1, by omega, by go_num, Lib.hid (by rw [hsH.out, hx2.out])⟩
        case measure => simp [intOf]; omega
    · go_wp2_with fail
      go_ret
      refine ⟨⟨-1, rfl, ?_⟩, rfl⟩
      have h := hall.out
      rw [List.take_of_length_le (by have := hn.out; omega)] at h
      rw [h]; rfl

theorem contains_int (v : Int) (r : Bool) (a : Option Addr) (c n : Nat) (xs : List Int) (hn : Hid (xs.length = n)) (hres : Hid (xs.any (fun x => decide (v = x)) = r)) (w : World) (hm : n ≤ 9223372036854775807) (hr : Rd w.heap.size w a xs) :
    Calls Tryz.prog 147 #[.slice a n c, .int .i64 v] w fun e w' => e = .returned (.bool r) ∧ w = w' := by
  go_enter Tryz.func147, Tryz.ntmps147
  go_wp2_with fail
  refine (index_int v a c n xs hn w hm hr).mono ?_
  rintro e w' ⟨⟨i, rfl, hi⟩, rfl⟩
  have hiH := Lib.hid (hi.trans hres.out)
  clear hi
  go_wp2_with fail
  go_ret
  exact ⟨ret_bool hiH.out, rfl⟩

theorem contains_bool (v r : Bool) (a : Option Addr) (c n : Nat) (xs : List Bool) (hn : Hid (xs.length = n)) (hres : Hid (xs.any (fun x => decide (v = x)) = r)) (w : World) (hm : n ≤ 9223372036854775807) (hr : RdB w.heap.size w a xs) :
    Calls Tryz.prog 127 #[.slice a n c, .bool v] w fun e w' => e = .returned (.bool r) ∧ w = w' := by
  go_enter Tryz.func127, Tryz.ntmps127
  go_wp2_with fail
  refine (index_bool v a c n xs hn w hm hr).mono ?_
  rintro e w' ⟨⟨i, rfl, hi⟩, rfl⟩
  have hiH := Lib.hid (hi.trans hres.out)
  clear hi
  go_wp2_with fail
  go_ret
  exact ⟨ret_bool hiH.out, rfl⟩

theorem contains3 (v : Int) (r : Bool) (hres : Hid (sideB v = r)) (c : Nat) (w : World) (b : Nat) (k : Blk w b 3 #[.int .i64 1, .int .i64 3, .int .i64 5]) :
    Calls Tryz.prog 147 #[.slice (some ⟨b, 0, none⟩) 3 c, .int .i64 v] w fun e w' => e = .returned (.bool r) ∧ w = w' :=
  contains_int v r (some ⟨b, 0, none⟩) c 3 [1, 3, 5] (Lib.hid rfl) (Lib.hid (by rw [← hres.out]; simp [sideB, Bool.or_assoc])) w (by omega) (.inr ⟨b, 0, rfl, k.lt, fun i hi => by
    have : i = 0 ∨ i = 1 ∨ i = 2 := by simp at hi; omega
    rcases this with rfl | rfl | rfl <;> exact k.cell rfl⟩)

/-- Two numbers are sides of something with n entries. -/
def sidesB (sw sh : Int) (n : Nat) : Bool := (sideB sw && sideB sh) && decide ((n : Int) = sw * sh)
theorem sidesB_true {sw sh : Int} {n : Nat} (h : sidesB sw sh n = true) : (sw = 1 ∨ sw = 3 ∨ sw = 5) ∧ (sh = 1 ∨ sh = 3 ∨ sh = 5) ∧ (n : Int) = sw * sh := by
  simp only [sidesB, Bool.and_eq_true, decide_eq_true_eq] at h
  exact ⟨sideB_true h.1.1, sideB_true h.1.2, h.2⟩

set_option maxHeartbeats 1000000 in
theorem sides_any (sw sh : Int) (n : Nat) (r : Bool) (hres : Hid (sidesB sw sh n = r)) (w : World) :
    Calls Tryz.prog 126 #[.int .i64 sw, .int .i64 sh, .int .i64 n] w fun e w' => e = .returned (.bool r) ∧ Below w.heap.size w w' := by
  have k1 := Blk.new w 3 #[.int .i64 1, .int .i64 3, .int .i64 5]
  have k2 := Blk.new (w.alloc (.cells #[.int .i64 1, .int .i64 3, .int .i64 5] 3)) 3 #[.int .i64 1, .int .i64 3, .int .i64 5]
  simp only [World.size_alloc] at k2
  have hB1 := below_al (Below.refl _ w) (.cells #[.int .i64 1, .int .i64 3, .int .i64 5] 3)
  have hB2 := below_al hB1 (.cells #[.int .i64 1, .int .i64 3, .int .i64 5] 3)
  obtain ⟨v1, hv1⟩ : ∃ v, sideB sw = v := ⟨_, rfl⟩
  have h1 := Lib.hid hv1
  obtain ⟨v2, hv2⟩ : ∃ v, sideB sh = v := ⟨_, rfl⟩
  have h2 := Lib.hid hv2
  have hres' : ((v1 && v2) && decide ((n : Int) = sw * sh)) = r := by rw [← hv1, ← hv2]; exact hres.out
  have hr' := Lib.hid hres'
  clear hv1 hv2 hres'
  cases v1 with
  | false =>
    go_enter Tryz.func126, Tryz.ntmps126
    go_wp2_with fail
    refine (contains3 sw false h1 _ _ _ k1).mono ?_
    rintro e w' ⟨rfl, rfl⟩
    go_wp2_with fail
    go_ret
    exact ⟨ret_bool hr'.out, hB1⟩
  | true =>
    cases v2 with
    | false =>
      go_enter Tryz.func126, Tryz.ntmps126
      go_wp2_with fail
      refine (contains3 sw true h1 _ _ _ k1).mono ?_
      rintro e w' ⟨rfl, rfl⟩
      go_wp2_with fail
      refine (contains3 sh false h2 _ _ _ k2).mono ?_
      rintro e w' ⟨rfl, rfl⟩
      go_wp2_with fail
      go_ret
      exact ⟨ret_bool hr'.out, hB2⟩
    | true =>
      have m := sideB_true h1.out
      have m' := sideB_true h2.out
      obtain ⟨m1, m2⟩ := mul_small (a := sw) (b := sh) (m := 5) (n := 5) (by omega) (by omega) (by omega) (by omega)
      clear m m'
      go_enter Tryz.func126, Tryz.ntmps126
      go_wp2_with fail
      refine (contains3 sw true h1 _ _ _ k1).mono ?_
      rintro e w' ⟨rfl, rfl⟩
      go_wp2_with fail
      refine (contains3 sh true h2 _ _ _ k2).mono ?_
      rintro e w' ⟨rfl, rfl⟩
      go_wp2_with fail
      go_ret
      exact ⟨ret_bool (by rw [← hr'.out]; simp [len_dec]), hB2⟩

/-- A shape is valid. -/
def shapeOk (sw sh : Int) (bs : List Bool) : Bool := sidesB sw sh bs.length && bs.any (fun x => decide (true = x))

end Go.Proofs.YtbfigbpjoaccdaaGreat

namespace Go.Proofs.YtbfigbpjoaccdaaGreat
open Go Go.RowKit Go.Shelf
set_option linter.unusedVariables false
set_option linter.unusedSimpArgs false

/-- The value at a place, by natural numbers. -/
def gpx (pw : Nat) (xs : List Int) (u v : Nat) : Int := px xs ((v : Int) * pw + u)

theorem gpx_bd {xs : List Int} (h : allIn (-2147483648) 2147483648 xs = true) (pw u v : Nat) : -2147483648 ≤ gpx pw xs u v ∧ gpx pw xs u v ≤ 2147483648 := px_bd h _

end Go.Proofs.YtbfigbpjoaccdaaGreat

/- Contracts and laws (ImgE, ImgF, ImgH, ImgI, ImgJ, ImgK, Sums, Near, Conv, Morph, ImgR, ImgN). -/
import Derived.Laws.AppendOwnNone
import Derived.Test.YtekiemlniegddaaGreatQM1
set_option linter.unusedVariables false
set_option linter.unusedSimpArgs false
namespace Go.Proofs.YtekiemlniegddaaGreat
open Go Go.RowKit Go.Shelf
/-- What a row of integers holds can be read. -/
theorem row_rd {W : World} {base : Nat} {a : Option Addr} {c : Nat} {xs : List Int} (h : W.ownsRow base 3 1 (.slice a xs.length c) xs.length (xs.map (Value.int .i64))) : Rd W.heap.size W a xs := by
 rcases h.2 with ⟨h1, h2⟩ | ⟨g, cap, cur, h1, _, hg, _⟩
 ·exact .inl (List.eq_nil_of_length_eq_zero h2)
 ·simp only [Value.slice.injEq, true_and] at h1
  obtain ⟨rfl, rfl⟩ := h1
  refine .inr ⟨g, 0, rfl, (Array.getElem?_eq_some_iff.1 hg).1, fun i hi => ?_⟩
  have := h.cellAt i (by omega)
  rw [Nat.zero_add, this]
  simp [hi]
theorem row_rd' {W : World} {base : Nat} {a : Option Addr} {c n : Nat} {xs : List Int} (hn : xs.length = n) (h : W.ownsRow base 3 1 (.slice a n c) n (xs.map (Value.int .i64))) : Rd W.heap.size W a xs := by
 subst hn; exact row_rd h
theorem row_nil {W : World} {base : Nat} {e : TypeId} {size : Nat} {n c : Nat} {xs : List Value} (h : W.ownsRow base e size (.slice none n c) n xs) : n = 0 ∧ c = 0 := by
 rcases h.2 with ⟨h1, h2⟩ | ⟨g, cap, cur, h1, _⟩
 ·simp only [Value.slice.injEq, true_and] at h1; exact ⟨h2, h1.2⟩
 ·simp at h1
set_option maxRecDepth 100000 in
set_option maxHeartbeats 1000000 in
theorem SameInts_eq (a1 a2 : Option Addr) (c1 c2 n : Nat) (xs : List Int) (hn : Hid (xs.length = n)) (w : World) (hm : n ≤ 9223372036854775807) (h1 : Rd w.heap.size w a1 xs) (h2 : Rd w.heap.size w a2 xs) :
  Calls Tryz.prog 60 #[.slice a1 n c1, .slice a2 n c2] w fun e w' => e = .returned (.bool true) ∧ Below w.heap.size w w' := by
 go_enter Tryz.func60, Tryz.ntmps60
 go_wp2
 go_loopw [5] (fun i wr => ∃ k : Nat, k ≤ n ∧ i = .int .i64 k ∧ Below w.heap.size w wr) (fun i _ => n - (intOf i).toNat)
 case atStart => exact ⟨0, Nat.zero_le _, rfl, Below.refl _ _⟩
 case round =>
  obtain ⟨k, hk, rfl, hB⟩ := hrel
  by_cases hlt : k < n
  ·rcases h1 with h0 | ⟨b, o, rfl, hb, hc⟩
   ·exfalso; have := hn.out; rw [h0] at this; simp at this; omega
   rcases h2 with h0 | ⟨b2, o2, rfl, hb2, hc2⟩
   ·exfalso; have := hn.out; rw [h0] at this; simp at this; omega
   have hlt' : k < xs.length := by have := hn.out; omega
   have hcell := (hB.cell (p := ⟨b, o + k, none⟩) hb).trans (hc k hlt')
   have hcell2 := (hB.cell (p := ⟨b2, o2 + k, none⟩) hb2).trans (hc2 k hlt')
   obtain ⟨x, hx⟩ : ∃ x, xs[k]?.getD 0 = x := ⟨_, rfl⟩
   rw [hx] at hcell hcell2
   clear hx hlt' hc hc2
   have hS : wr.heap = wr.drew.heap := rfl
   have hS0 : wr.drew.heap = wr.heap := rfl
   go_wp2_with fail
   refine plain_region (fun W' => W'.heap = wr.heap) 9 9 (by kernel_rfl) rfl ?_
   simp only [Array.replicate_succ, Array.replicate_zero, List.push_toArray, List.nil_append, List.cons_append]
   have FA0 := Lib.hid (fun w' (hS' : (fun W' => W'.heap = wr.heap) w') => And.intro ((World.cell?_of_block (w := wr) (w' := w') (a := ⟨b, o + k, none⟩) (by rw [hS'])).trans hcell) ((World.cell?_of_block (w := wr) (w' := w') (a := ⟨b2, o2 + k, none⟩) (by rw [hS'])).trans hcell2))
   refine tkz 0 rfl hS0 (fun w' hS' => by go_simp; rfl) ?_
   simp only [nrz]
   refine tkz 1 rfl hS0 (fun w' hS' => by go_simp; rfl) ?_
   simp only [nrz]
   refine tkz 2 rfl hS0 (fun w' hS' => by go_simp; (try go_ints); rfl) ?_
   simp only [nrz]
   refine tkz 3 rfl hS0 (fun w' hS' => by obtain ⟨c1, c2⟩ := FA0.out w' hS'; clear hS'; go_simp; rfl) ?_
   simp only [nrz]
   refine tkz 4 rfl hS0 (fun w' hS' => by go_simp; rfl) ?_
   simp only [nrz]
   refine tkz 5 rfl hS0 (fun w' hS' => by go_simp; rfl) ?_
   simp only [nrz]
   refine tkz 6 rfl hS0 (fun w' hS' => by go_simp; (try go_ints); rfl) ?_
   simp only [nrz]
   refine tkz 7 rfl hS0 (fun w' hS' => by obtain ⟨c1, c2⟩ := FA0.out w' hS'; clear hS'; go_simp; rfl) ?_
   simp only [nrz]
   refine tkz 8 rfl hS0 (fun w' hS' => by go_simp; (try go_ints); rfl) ?_
   simp only [nrz]
   refine done_ops (by kernel_rfl) ?_
   go_wp2_with fail
   go_roundw
   case rel => exact ⟨k + 1, by omega, by go_num, hB.drew⟩
   case measure => simp [intOf]; omega
  ·go_wp2
   go_ret
   exact ⟨rfl, hB⟩
set_option maxHeartbeats 400000 in
theorem Same_eq (iw ih : Int) (a1 a2 : Option Addr) (c1 c2 n : Nat) (xs : List Int) (hn : Hid (xs.length = n)) (w : World) (hm : n ≤ 9223372036854775807) (h1 : Rd w.heap.size w a1 xs) (h2 : Rd w.heap.size w a2 xs) :
  Calls Tryz.prog 22 #[imv iw ih a1 n c1, imv iw ih a2 n c2] w fun e w' => e = .returned (.bool true) ∧ Below w.heap.size w w' := by
 have hb : Below w.heap.size w ((w.alloc (.cells #[.int .i64 iw, .int .i64 ih, .slice a1 n c1] 32)).alloc (.cells #[.int .i64 iw, .int .i64 ih, .slice a2 n c2] 32)) := below_al (below_al (Below.refl _ _) _) _
 go_enter Tryz.func22, Tryz.ntmps22
 go_wp2_with fail
 refine (SameInts_eq a1 a2 c1 c2 n xs hn _ hm ((h1.below (Nat.le_refl _) hb).mono hb.size) ((h2.below (Nat.le_refl _) hb).mono hb.size)).mono ?_
 rintro e W1 ⟨rfl, hb1⟩
 go_wp2_with fail
 go_ret
 exact ⟨rfl, hb.trans (hb1.mono hb.size)⟩
end Go.Proofs.YtekiemlniegddaaGreat
namespace Go.Proofs.YtekiemlniegddaaGreat
open Go Go.RowKit Go.Shelf
theorem row_base {W : World} {base base' : Nat} {e : TypeId} {size : Nat} {v : Value} {k : Nat} {xs : List Value} (h : W.ownsRow base e size v k xs) (hb : base' ≤ base) : W.ownsRow base' e size v k xs := by
 refine ⟨h.1, ?_⟩
 rcases h.2 with h3 | ⟨g, cap, cur, e1, e2, r⟩
 ·exact .inl h3
 ·exact .inr ⟨g, cap, cur, e1, by omega, r⟩
theorem clamp_id {n : Int} (h : -2147483648 ≤ n) (h2 : n ≤ 2147483648) : clamp n (-2147483648) 2147483648 = n := by unfold clamp; omega
theorem px_bd {xs : List Int} (h : allIn (-2147483648) 2147483648 xs = true) (i : Int) : -2147483648 ≤ px xs i ∧ px xs i ≤ 2147483648 := by
 unfold px
 rcases Nat.lt_or_ge i.toNat xs.length with h1 | h1
 ·rw [List.getElem?_eq_getElem h1]; exact allIn_mem h (List.getElem_mem h1)
 ·rw [List.getElem?_eq_none h1]; decide
end Go.Proofs.YtekiemlniegddaaGreat
namespace Go.Proofs.YtekiemlniegddaaGreat
open Go Go.RowKit Go.Shelf
/-- A point operation's numbers. -/
structure PointN where
 mul : Int
 add : Int
 div : Int
 lo : Int
 hi : Int
abbrev PointN.val (p : PointN) : Value := .agg #[.int .i64 p.mul, .int .i64 p.add, .int .i64 p.div, .int .i64 p.lo, .int .i64 p.hi]
abbrev PointN.cells (p : PointN) : Array Value := #[.int .i64 p.mul, .int .i64 p.add, .int .i64 p.div, .int .i64 p.lo, .int .i64 p.hi]
def PointN.ok (p : PointN) : Bool := ((inR p.mul (-65536) 65536 && ((inR p.add (-2147483648) 2147483648 && inR p.lo (-2147483648) 2147483648) && inR p.hi (-2147483648) 2147483648)) && inR p.div 1 65536) && decide (p.lo ≤ p.hi)
def pointF (p : PointN) (v : Int) : Int := clamp ((p.mul * v + p.add) / p.div) p.lo p.hi
def pointG (iw : Int) (xs : List Int) (p : PointN) (x y : Int) : Int := pointF p (px xs (y * iw + x))
theorem mul_bd {a b m n : Int} (h1 : -m ≤ a) (h2 : a ≤ m) (h3 : -n ≤ b) (h4 : b ≤ n) (hm : 0 ≤ m) (hn : 0 ≤ n) : -(m * n) ≤ a * b ∧ a * b ≤ m * n := by
 rcases Int.le_total 0 b with hb | hb
 ·exact prod_bd h1 h2 hb h4 hm
 ·have := prod_bd (a := a) (x := -b) (m := m) (n := n) h1 h2 (by omega) (by omega) hm
  rw [Int.mul_neg] at this
  omega
theorem clamp_le {n lo hi : Int} (h : lo ≤ hi) : lo ≤ clamp n lo hi ∧ clamp n lo hi ≤ hi := by unfold clamp; omega
theorem PointN.ok_true {p : PointN} (h : p.ok = true) : (-65536 ≤ p.mul ∧ p.mul ≤ 65536) ∧ (-2147483648 ≤ p.add ∧ p.add ≤ 2147483648) ∧ (-2147483648 ≤ p.lo ∧ p.lo ≤ 2147483648) ∧ (-2147483648 ≤ p.hi ∧ p.hi ≤ 2147483648) ∧ (1 ≤ p.div ∧ p.div ≤ 65536) ∧ p.lo ≤ p.hi := by
 simp only [PointN.ok, Bool.and_eq_true, inR_true, decide_eq_true_eq] at h
 obtain ⟨⟨⟨h1, ⟨h2, h3⟩, h4⟩, h5⟩, h6⟩ := h
 exact ⟨h1, h2, h3, h4, h5, h6⟩
theorem within3 (lo hi x0 x1 x2 : Int) (v : Bool) (hv : ((inR x0 lo hi && inR x1 lo hi) && inR x2 lo hi) = v) (b : Nat) (c : Nat) (w : World) (t : TypeId) (h : Blk w b t #[.int .i64 x0, .int .i64 x1, .int .i64 x2]) :
  Calls Tryz.prog 82 #[.int .i64 lo, .int .i64 hi, .slice (some ⟨b, 0, none⟩) 3 c] w fun e w' => e = .returned (.bool v) ∧ w = w' := by
 subst hv
 have h' := within_any lo hi (some ⟨b, 0, none⟩) c [x0, x1, x2] w (by simp) (.inr ⟨b, 0, rfl, h.lt, fun i hi => by
  have : i = 0 ∨ i = 1 ∨ i = 2 := by simp at hi; omega
  rcases this with rfl | rfl | rfl <;> exact h.cell rfl⟩)
 refine h'.mono fun e w' ⟨he, hw⟩ => ⟨he.trans (ret_bool (by simp [allIn, inR, Bool.and_assoc])), hw⟩
set_option maxRecDepth 100000 in
set_option maxHeartbeats 1000000 in
theorem Point1_any (iw ih : Int) (a : Option Addr) (c n : Nat) (xs : List Int) (hn : Hid (xs.length = n)) (hall : Hid (allIn (-2147483648) 2147483648 xs = true)) (p : PointN) (hp : p.ok = true) (x y : Int) (b6 b5 : Nat) (W : World) (hi1 : 1 ≤ iw) (hi2 : iw ≤ 16) (hi3 : 1 ≤ ih) (hi4 : ih ≤ 16) (hnn : Hid ((n : Int) = iw * ih)) (hx1 : 0 ≤ x) (hx2 : x ≤ iw - 1) (hy1 : 0 ≤ y) (hy2 : y ≤ ih - 1)
  (k6 : Blk W b6 69 p.cells) (k5 : Blk W b5 32 #[.int .i64 iw, .int .i64 ih, .slice a n c]) (hr : Rd W.heap.size W a xs) :
  Calls Tryz.prog 84 #[.int .i64 x, .int .i64 y, .pointer (some ⟨b6, 0, none⟩), .pointer (some ⟨b5, 0, none⟩)] W fun e W' => e = .returned (.int .i64 (pointG iw xs p x y)) ∧ Below W.heap.size W W' := by
 obtain ⟨m1, m2⟩ := mul_small (a := iw) (b := ih) (by omega) hi2 (by omega) hi4
 obtain ⟨q1, q2, q3, q4⟩ := in_idx (u := x) (v := y) hi1 hnn.out hx1 hx2 hy1 hy2
 have hn9 : n ≤ 256 := by have := hnn.out; omega
 obtain ⟨⟨p1, p2⟩, ⟨p3, p4⟩, ⟨p5, p6⟩, ⟨p7, p8⟩, ⟨p9, p10⟩, p11⟩ := PointN.ok_true hp
 obtain ⟨v, hv⟩ : ∃ v, px xs (y * iw + x) = v := ⟨_, rfl⟩
 have hv1 := px_bd hall.out (y * iw + x)
 rw [hv] at hv1
 obtain ⟨r1, r2⟩ := mul_bd p1 p2 hv1.1 hv1.2 (by omega) (by omega)
 have hvH := Lib.hid hv
 have hpH := Lib.hid hp
 clear hv hp
 have hS : Below W.heap.size W W.drew := (Below.refl _ _).drew
 go_enter Tryz.func84, Tryz.ntmps84
 go_wp2_with fail
 refine plain_region (fun W' => Below W.heap.size W W') 19 19 (by kernel_rfl) rfl ?_
 simp only [Array.replicate_succ, Array.replicate_zero, List.push_toArray, List.nil_append, List.cons_append]
 refine tkz 0 rfl hS (fun w' hS' => by go_simp; rfl) ?_
 simp only [nrz]
 refine tkz 1 rfl hS (fun w' hS' => by obtain ⟨a0, a1, a2, a3, a4⟩ := cz5 (k6.below hS' k6.lt); obtain ⟨b0, b1, b2⟩ := cz3 (k5.below hS' k5.lt); go_simp; rfl) ?_
 simp only [nrz]
 refine tkz 2 rfl hS (fun w' hS' => by obtain ⟨a0, a1, a2, a3, a4⟩ := cz5 (k6.below hS' k6.lt); obtain ⟨b0, b1, b2⟩ := cz3 (k5.below hS' k5.lt); go_simp; rfl) ?_
 simp only [nrz]
 refine tkz 3 rfl hS (fun w' hS' => by go_simp; rfl) ?_
 simp only [nrz]
 refine tkz 4 rfl hS (fun w' hS' => by go_simp; rfl) ?_
 simp only [nrz]
 refine tkz 7 rfl hS (fun w' hS' => by go_simp; rfl) ?_
 simp only [nrz]
 refine tkz 8 rfl hS (fun w' hS' => by obtain ⟨a0, a1, a2, a3, a4⟩ := cz5 (k6.below hS' k6.lt); obtain ⟨b0, b1, b2⟩ := cz3 (k5.below hS' k5.lt); go_simp; rfl) ?_
 simp only [nrz]
 refine tkz 10 rfl hS (fun w' hS' => by go_simp; rfl) ?_
 simp only [nrz]
 refine tkz 11 rfl hS (fun w' hS' => by obtain ⟨a0, a1, a2, a3, a4⟩ := cz5 (k6.below hS' k6.lt); obtain ⟨b0, b1, b2⟩ := cz3 (k5.below hS' k5.lt); go_simp; rfl) ?_
 simp only [nrz]
 refine tkz 13 rfl hS (fun w' hS' => by go_simp; rfl) ?_
 simp only [nrz]
 refine tkz 14 rfl hS (fun w' hS' => by obtain ⟨a0, a1, a2, a3, a4⟩ := cz5 (k6.below hS' k6.lt); obtain ⟨b0, b1, b2⟩ := cz3 (k5.below hS' k5.lt); go_simp; rfl) ?_
 simp only [nrz]
 refine tkz 15 rfl hS (fun w' hS' => by go_simp; rfl) ?_
 simp only [nrz]
 refine tkz 16 rfl hS (fun w' hS' => by obtain ⟨a0, a1, a2, a3, a4⟩ := cz5 (k6.below hS' k6.lt); obtain ⟨b0, b1, b2⟩ := cz3 (k5.below hS' k5.lt); go_simp; rfl) ?_
 simp only [nrz]
 refine step_op 5 (by kernel_rfl) rfl (fun K hK => ?_)
 rw [if_pos (by rfl)]
 go_simp
 refine (at_any iw ih x y a c xs n hn _ (Int.le_trans (by decide) q1) (Int.le_trans (Int.le_of_lt q4) (by omega)) q2 q3 (by omega) ((hr.below (Nat.le_refl _) hS).mono hS.size)).mono ?_
 rintro e W1 ⟨rfl, hb2⟩
 rw [hvH.out]
 have hS1 : Below W.heap.size W W1 := hS.trans (hb2.mono hS.size)
 refine hK.out _ _ (fun h => hS1) ?_
 clear hK K
 try simp only [Act.put, nrz]
 refine tkz 6 rfl hS1 (fun w' hS' => by go_simp; (try go_ints); rfl) ?_
 simp only [nrz]
 refine tkz 9 rfl hS1 (fun w' hS' => by go_simp; (try go_ints); rfl) ?_
 simp only [nrz]
 refine step_op 12 (by kernel_rfl) rfl (fun K hK => ?_)
 rw [if_pos (by rfl)]
 go_simp
 refine (floor_any _ _ _ (by omega) (by omega) (by omega) (by omega)).mono ?_
 rintro e W2 ⟨rfl, rfl⟩
 refine hK.out _ _ (fun h => hS1) ?_
 clear hK K
 try simp only [Act.put, nrz]
 refine step_op 17 (by kernel_rfl) rfl (fun K hK => ?_)
 rw [if_pos (by rfl)]
 go_simp
 refine (into_any _ _ _ _).mono ?_
 rintro e W2 ⟨rfl, rfl⟩
 refine hK.out _ _ (fun h => hS1) ?_
 clear hK K
 try simp only [Act.put, nrz]
 refine tkz 18 rfl hS1 (fun w' hS' => by go_simp; rfl) ?_
 simp only [nrz]
 refine done_ops (by kernel_rfl) ?_
 go_wp2_with fail
 go_ret
 exact ⟨ret_int (by unfold pointG pointF; rw [hvH.out]), hS1⟩
/-- What Point returns. -/
def pointS (iw ih : Int) (xs : List Int) (p : PointN) : ImR :=
 if vld iw ih xs = true then (if p.ok = true then { w := iw, h := ih, px := img iw.toNat ih.toNat (pointG iw xs p), err := 0 } else noIm 2) else noIm 20
set_option maxRecDepth 100000 in
set_option maxHeartbeats 4000000 in
theorem Point_any (iw ih : Int) (a : Option Addr) (c n : Nat) (xs : List Int) (hn : Hid (xs.length = n)) (p : PointN) (w : World) (hm : n ≤ 9223372036854775807) (hr : Rd w.heap.size w a xs) :
  Calls Tryz.prog 32 #[imv iw ih a n c, p.val] w (RetIm w.heap.size (pointS iw ih xs p) w) := by
 have hB0 : Below w.heap.size w (((w.alloc (.cells #[.int .i64 iw, .int .i64 ih, .slice a n c] 32)).alloc (.cells p.cells 69)).alloc (.cells #[.int .i64 0, .int .i64 0, .slice none 0 0] 32)) := below_al (below_al (below_al (Below.refl _ _) _) _) _
 obtain ⟨v0, hv⟩ : ∃ v, vld iw ih xs = v := ⟨_, rfl⟩
 have hvH := Lib.hid hv
 obtain ⟨v1, h1⟩ : ∃ v, inR p.mul (-65536) 65536 = v := ⟨_, rfl⟩
 have h1H := Lib.hid h1
 obtain ⟨v2, h2⟩ : ∃ v, ((inR p.add (-2147483648) 2147483648 && inR p.lo (-2147483648) 2147483648) && inR p.hi (-2147483648) 2147483648) = v := ⟨_, rfl⟩
 have h2H := Lib.hid h2
 obtain ⟨v3, h3⟩ : ∃ v, inR p.div 1 65536 = v := ⟨_, rfl⟩
 have h3H := Lib.hid h3
 obtain ⟨v4, h4⟩ : ∃ v, decide (p.lo ≤ p.hi) = v := ⟨_, rfl⟩
 have h4H := Lib.hid h4
 have hsp0 : pointS iw ih xs p = if v0 = true then (if (v1 && v2 && v3 && v4) = true then { w := iw, h := ih, px := img iw.toNat ih.toNat (pointG iw xs p), err := 0 } else noIm 2) else noIm 20 := by
  simp only [pointS, PointN.ok, hv, h1, h2, h3, h4]
 have hsp := Lib.hid hsp0
 clear hv h1 h2 h3 h4 hsp0
 go_enter Tryz.func32, Tryz.ntmps32
 go_wp2_with fail
 refine (valid_any iw ih a c xs n hn _ hm ((hr.below (Nat.le_refl _) hB0).mono hB0.size)).mono ?_
 rintro e W1 ⟨rfl, hb1⟩
 rw [hvH.out]
 have hB1 : Below w.heap.size w W1 := hB0.trans (hb1.mono hB0.size)
 have k5 := (((Blk.new w 32 #[.int .i64 iw, .int .i64 ih, .slice a n c]).alloc (.cells p.cells 69)).alloc (.cells #[.int .i64 0, .int .i64 0, .slice none 0 0] 32)).below hb1 (by simp <;> omega)
 have k6 := ((Blk.new (w.alloc (.cells #[.int .i64 iw, .int .i64 ih, .slice a n c] 32)) 69 p.cells).alloc (.cells #[.int .i64 0, .int .i64 0, .slice none 0 0] 32)).below hb1 (by simp <;> omega)
 have k := (Blk.new ((w.alloc (.cells #[.int .i64 iw, .int .i64 ih, .slice a n c] 32)).alloc (.cells p.cells 69)) 32 #[.int .i64 0, .int .i64 0, .slice none 0 0]).below hb1 (by simp <;> omega)
 simp only [World.size_alloc] at k k6
 clear hb1 hB0
 have hlt := k.lt
 obtain ⟨c0, c1, c2⟩ := cz3 k
 have fc0 := k.frozen 0
 have fc1 := k.frozen 1
 have fc2 := k.frozen 2
 have m0 := k5.cell (i := 0) rfl
 have m1 := k5.cell (i := 1) rfl
 obtain ⟨a0, a1, a2, a3, a4⟩ := cz5 k6
 cases v0 with
 | false =>
  go_wp2_with fail
  have kf := put3_blk k (.int .i64 0) (.int .i64 0) (.slice none 0 0)
  obtain ⟨g0, g1, g2⟩ := cz3 kf
  exact bodyPost_ret (v := .tuple #[.agg #[.int .i64 0, .int .i64 0, .slice none 0 0], .int .i64 20]) (by simp [results, Tryz.results32, go_sem, g0, g1, g2]) rfl ⟨⟨_, by rw [hsp.out]; rfl, by rw [hsp.out]; exact OwnIm_nil _ _⟩, hB1.trans (put3_below (by omega) _ _ _)⟩
 | true =>
  go_wp2_with fail
  refine (within1 (-65536) 65536 p.mul v1 h1H.out _ _ _ _ (cell_new (by simp) rfl)).mono ?_
  rintro e W2 ⟨rfl, hW⟩
  have hb : Below W1.heap.size W1 W2 := alloc_below hW
  clear hW
  have hB2 := hB1.trans (hb.mono hB1.size)
  clear c0 c1 c2 fc0 fc1 fc2
  replace k := k.below hb k.lt
  obtain ⟨c0, c1, c2⟩ := cz3 k
  have fc0 := k.frozen 0
  have fc1 := k.frozen 1
  have fc2 := k.frozen 2
  clear m0 m1
  replace k5 := k5.below hb k5.lt
  have m0 := k5.cell (i := 0) rfl
  have m1 := k5.cell (i := 1) rfl
  clear a0 a1 a2 a3 a4
  replace k6 := k6.below hb k6.lt
  obtain ⟨a0, a1, a2, a3, a4⟩ := cz5 k6
  clear hb
  replace hlt := k.lt
  cases v1 with
  | false =>
   go_wp2_with fail
   have kf := put3_blk k (.int .i64 0) (.int .i64 0) (.slice none 0 0)
   obtain ⟨g0, g1, g2⟩ := cz3 kf
   exact bodyPost_ret (v := .tuple #[.agg #[.int .i64 0, .int .i64 0, .slice none 0 0], .int .i64 2]) (by simp [results, Tryz.results32, go_sem, g0, g1, g2]) rfl ⟨⟨_, by rw [hsp.out]; rfl, by rw [hsp.out]; exact OwnIm_nil _ _⟩, hB2.trans (put3_below (by omega) _ _ _)⟩
  | true =>
   go_wp2_with fail
   refine (within3 (-2147483648) 2147483648 p.add p.lo p.hi v2 h2H.out _ _ _ 3 (Blk.new _ _ _)).mono ?_
   rintro e W3 ⟨rfl, hW⟩
   have hb : Below W2.heap.size W2 W3 := alloc_below hW
   clear hW
   have hB3 := hB2.trans (hb.mono hB2.size)
   clear c0 c1 c2 fc0 fc1 fc2
   replace k := k.below hb k.lt
   obtain ⟨c0, c1, c2⟩ := cz3 k
   have fc0 := k.frozen 0
   have fc1 := k.frozen 1
   have fc2 := k.frozen 2
   clear m0 m1
   replace k5 := k5.below hb k5.lt
   have m0 := k5.cell (i := 0) rfl
   have m1 := k5.cell (i := 1) rfl
   clear a0 a1 a2 a3 a4
   replace k6 := k6.below hb k6.lt
   obtain ⟨a0, a1, a2, a3, a4⟩ := cz5 k6
   clear hb
   replace hlt := k.lt
   cases v2 with
   | false =>
    go_wp2_with fail
    have kf := put3_blk k (.int .i64 0) (.int .i64 0) (.slice none 0 0)
    obtain ⟨g0, g1, g2⟩ := cz3 kf
    exact bodyPost_ret (v := .tuple #[.agg #[.int .i64 0, .int .i64 0, .slice none 0 0], .int .i64 2]) (by simp [results, Tryz.results32, go_sem, g0, g1, g2]) rfl ⟨⟨_, by rw [hsp.out]; rfl, by rw [hsp.out]; exact OwnIm_nil _ _⟩, hB3.trans (put3_below (by omega) _ _ _)⟩
   | true =>
    go_wp2_with fail
    refine (within1 1 65536 p.div v3 h3H.out _ _ _ _ (cell_new (by simp) rfl)).mono ?_
    rintro e W4 ⟨rfl, hW⟩
    have hb : Below W3.heap.size W3 W4 := alloc_below hW
    clear hW
    have hB4 := hB3.trans (hb.mono hB3.size)
    clear c0 c1 c2 fc0 fc1 fc2
    replace k := k.below hb k.lt
    obtain ⟨c0, c1, c2⟩ := cz3 k
    have fc0 := k.frozen 0
    have fc1 := k.frozen 1
    have fc2 := k.frozen 2
    clear m0 m1
    replace k5 := k5.below hb k5.lt
    have m0 := k5.cell (i := 0) rfl
    have m1 := k5.cell (i := 1) rfl
    clear a0 a1 a2 a3 a4
    replace k6 := k6.below hb k6.lt
    obtain ⟨a0, a1, a2, a3, a4⟩ := cz5 k6
    clear hb
    replace hlt := k.lt
    cases v3 with
    | false =>
     go_wp2_with fail
     have kf := put3_blk k (.int .i64 0) (.int .i64 0) (.slice none 0 0)
     obtain ⟨g0, g1, g2⟩ := cz3 kf
     exact bodyPost_ret (v := .tuple #[.agg #[.int .i64 0, .int .i64 0, .slice none 0 0], .int .i64 2]) (by simp [results, Tryz.results32, go_sem, g0, g1, g2]) rfl ⟨⟨_, by rw [hsp.out]; rfl, by rw [hsp.out]; exact OwnIm_nil _ _⟩, hB4.trans (put3_below (by omega) _ _ _)⟩
    | true =>
     cases v4 with
     | false =>
      have h4v := h4H.out
      simp only [decide_eq_false_iff_not, Int.not_le] at h4v
      go_wp2_with fail
      have kf := put3_blk k (.int .i64 0) (.int .i64 0) (.slice none 0 0)
      obtain ⟨g0, g1, g2⟩ := cz3 kf
      exact bodyPost_ret (v := .tuple #[.agg #[.int .i64 0, .int .i64 0, .slice none 0 0], .int .i64 2]) (by simp [results, Tryz.results32, go_sem, g0, g1, g2]) rfl ⟨⟨_, by rw [hsp.out]; rfl, by rw [hsp.out]; exact OwnIm_nil _ _⟩, hB4.trans (put3_below (by omega) _ _ _)⟩
     | true =>
      have h4v := h4H.out
      simp only [decide_eq_true_eq] at h4v
      obtain ⟨⟨i1, i2⟩, ⟨i3, i4⟩, hlen, hall⟩ := vld_true hvH.out
      rw [hn.out] at hlen
      have hlenH := Lib.hid hlen
      have hallH := Lib.hid hall
      clear hlen hall
      have hok : p.ok = true := by simp only [PointN.ok, h1H.out, h2H.out, h3H.out, h4H.out]; rfl
      have hokH := Lib.hid hok
      clear hok
      obtain ⟨pw, rfl⟩ : ∃ pw : Nat, iw = (pw : Int) := ⟨iw.toNat, by omega⟩
      obtain ⟨ph, rfl⟩ : ∃ ph : Nat, ih = (ph : Int) := ⟨ih.toNat, by omega⟩
      go_wp2_with fail
      refine (made_any pw ph (by omega) (by omega) (by omega) (by omega) 84 #[.pointer (some ⟨w.heap.size + 1, 0, none⟩), .pointer (some ⟨w.heap.size, 0, none⟩)] (enters_of Tryz.func84 (by kernel_rfl) rfl) (pointG pw xs p) W4 (fun x y W hx hy hb => ?_)).mono ?_
      ·exact Point1_any pw ph a c n xs hn hallH p hokH.out x y (w.heap.size + 1) w.heap.size W i1 i2 i3 i4 hlenH (by omega) (by omega) (by omega) (by omega) (k6.below hb k6.lt) (k5.below hb k5.lt) ((hr.below (Nat.le_refl _) (hB4.trans (hb.mono hB4.size))).mono (Nat.le_trans hB4.size hb.size))
      rintro e W7 ⟨v, rfl, ⟨s, rfl, hrow⟩, hb2⟩
      clear c0 c1 c2 fc0 fc1 fc2
      replace k := k.below hb2 k.lt
      obtain ⟨c0, c1, c2⟩ := cz3 k
      have fc0 := k.frozen 0
      have fc1 := k.frozen 1
      have fc2 := k.frozen 2
      obtain ⟨sa, sc, rfl⟩ := row_slice hrow
      go_wp2_with fail
      have kf := put3_blk k (.int .i64 pw) (.int .i64 ph) (.slice sa (img pw ph (pointG pw xs p)).length sc)
      obtain ⟨g0, g1, g2⟩ := cz3 kf
      exact bodyPost_ret (v := .tuple #[.agg #[.int .i64 pw, .int .i64 ph, .slice sa (img pw ph (pointG pw xs p)).length sc], .int .i64 0]) (by simp [results, Tryz.results32, go_sem, g0, g1, g2]) rfl ⟨⟨_, by rw [hsp.out]; rfl, by rw [hsp.out]; exact OwnIm.weaken ⟨_, rfl, put3_row hrow (k.not_row (by decide) hrow) _ _ _⟩ hB4.size⟩, (hB4.trans (hb2.mono hB4.size)).trans (put3_below (by omega) _ _ _)⟩
end Go.Proofs.YtekiemlniegddaaGreat
namespace Go.Proofs.YtekiemlniegddaaGreat
open Go Go.RowKit Go.Shelf
theorem rd_at {B : Nat} {W : World} {a : Option Addr} {xs : List Int} {n : Nat} (h : Rd B W a xs) (hn : xs.length = n) (h0 : 0 < n) : ∃ b o, a = some ⟨b, o, none⟩ ∧ b < B ∧ ∀ i, i < n → W.cell? ⟨b, o + i, none⟩ = some (.int .i64 (px xs i)) := by
 rcases h with h | ⟨b, o, h1, h2, h3⟩
 ·subst h; simp at hn; omega
 ·exact ⟨b, o, h1, h2, fun i hi => by rw [h3 i (by omega)]; rfl⟩
end Go.Proofs.YtekiemlniegddaaGreat
namespace Go.Proofs.YtekiemlniegddaaGreat
open Go Go.RowKit Go.Shelf
theorem Check_any (iw ih : Int) (a : Option Addr) (c n : Nat) (xs : List Int) (hn : Hid (xs.length = n)) (v : Bool) (hv : vld iw ih xs = v) (w : World) (hm : n ≤ 9223372036854775807) (hr : Rd w.heap.size w a xs) :
  Calls Tryz.prog 110 #[imv iw ih a n c] w fun e w' => e = .returned (.int .i64 (if v = true then 0 else 20)) ∧ Below w.heap.size w w' := by
 have hvH := Lib.hid hv
 clear hv
 have hB0 : Below w.heap.size w (w.alloc (.cells #[.int .i64 iw, .int .i64 ih, .slice a n c] 32)) := below_al (Below.refl _ _) _
 go_enter Tryz.func110, Tryz.ntmps110
 go_wp2_with fail
 refine (valid_any iw ih a c xs n hn _ hm ((hr.below (Nat.le_refl _) hB0).mono hB0.size)).mono ?_
 rintro e W1 ⟨rfl, hb1⟩
 rw [hvH.out]
 cases v with
 | false =>
  go_wp2_with fail
  go_ret
  exact ⟨rfl, hB0.trans (hb1.mono hB0.size)⟩
 | true =>
  go_wp2_with fail
  go_ret
  exact ⟨rfl, hB0.trans (hb1.mono hB0.size)⟩
/-- What an operation of two values gives. -/
def zipF (how a b : Int) : Int := if how = 1 then a + b else if how = 2 then a - b else if how = 3 then min a b else if how = 4 then max a b else if how = 5 then a * b else max (a - b) (b - a)
def zipG (iw : Int) (xs ys : List Int) (how x y : Int) : Int := zipF how (px xs (y * iw + x)) (px ys (y * iw + x))
theorem clamp_bd (n : Int) : -2147483648 ≤ clamp n (-2147483648) 2147483648 ∧ clamp n (-2147483648) 2147483648 ≤ 2147483648 := clamp_le (by decide)
theorem clamp_clamp (n : Int) : clamp (clamp n (-2147483648) 2147483648) (-2147483648) 2147483648 = clamp n (-2147483648) 2147483648 := clamp_id (clamp_bd n).1 (clamp_bd n).2
abbrev opsv : Array Value := #[.nilFunc, .func (.func 131) #[] #[], .func (.func 132) #[] #[], .func (.func 133) #[] #[], .func (.func 134) #[] #[], .func (.func 135) #[] #[], .func (.func 136) #[] #[]]
theorem operations_any (w : World) : Calls Tryz.prog 88 #[] w fun e w' => e = .returned (.agg opsv) ∧ Below w.heap.size w w' := by
 go_enter Tryz.func88, Tryz.ntmps88
 go_wp2_with fail
 have k := Blk.new w 159 opsv
 obtain ⟨g0, g1, g2, g3, g4, g5, g6⟩ := cz7 k
 exact bodyPost_ret (v := .agg opsv) (by simp [results, Tryz.results88, go_sem, g0, g1, g2, g3, g4, g5, g6]) rfl ⟨rfl, below_al (Below.refl _ _) _⟩
theorem oper1_any (a b : Int) (h1 : -2147483648 ≤ a) (h2 : a ≤ 2147483648) (h3 : -2147483648 ≤ b) (h4 : b ≤ 2147483648) (w : World) : Calls Tryz.prog 131 #[.int .i64 a, .int .i64 b] w fun e w' => e = .returned (.int .i64 (zipF 1 a b)) ∧ w = w' := by
 go_enter Tryz.func131, Tryz.ntmps131
 go_wp2_with fail
 all_goals go_ret
 all_goals exact ⟨ret_int (by simp [zipF] <;> omega), rfl⟩
theorem oper2_any (a b : Int) (h1 : -2147483648 ≤ a) (h2 : a ≤ 2147483648) (h3 : -2147483648 ≤ b) (h4 : b ≤ 2147483648) (w : World) : Calls Tryz.prog 132 #[.int .i64 a, .int .i64 b] w fun e w' => e = .returned (.int .i64 (zipF 2 a b)) ∧ w = w' := by
 go_enter Tryz.func132, Tryz.ntmps132
 go_wp2_with fail
 all_goals go_ret
 all_goals exact ⟨ret_int (by simp [zipF] <;> omega), rfl⟩
theorem oper3_any (a b : Int) (h1 : -2147483648 ≤ a) (h2 : a ≤ 2147483648) (h3 : -2147483648 ≤ b) (h4 : b ≤ 2147483648) (w : World) : Calls Tryz.prog 133 #[.int .i64 a, .int .i64 b] w fun e w' => e = .returned (.int .i64 (zipF 3 a b)) ∧ w = w' := by
 go_enter Tryz.func133, Tryz.ntmps133
 go_wp2_with fail
 all_goals go_ret
 all_goals exact ⟨ret_int (by simp [zipF] <;> omega), rfl⟩
theorem oper4_any (a b : Int) (h1 : -2147483648 ≤ a) (h2 : a ≤ 2147483648) (h3 : -2147483648 ≤ b) (h4 : b ≤ 2147483648) (w : World) : Calls Tryz.prog 134 #[.int .i64 a, .int .i64 b] w fun e w' => e = .returned (.int .i64 (zipF 4 a b)) ∧ w = w' := by
 go_enter Tryz.func134, Tryz.ntmps134
 go_wp2_with fail
 all_goals go_ret
 all_goals exact ⟨ret_int (by simp [zipF] <;> omega), rfl⟩
theorem oper5_any (a b : Int) (h1 : -2147483648 ≤ a) (h2 : a ≤ 2147483648) (h3 : -2147483648 ≤ b) (h4 : b ≤ 2147483648) (w : World) : Calls Tryz.prog 135 #[.int .i64 a, .int .i64 b] w fun e w' => e = .returned (.int .i64 (zipF 5 a b)) ∧ w = w' := by
 obtain ⟨r1, r2⟩ := mul_bd h1 h2 h3 h4 (by omega) (by omega)
 go_enter Tryz.func135, Tryz.ntmps135
 go_wp2_with fail
 all_goals go_ret
 all_goals exact ⟨ret_int (by simp [zipF] <;> omega), rfl⟩
theorem oper6_any (a b : Int) (h1 : -2147483648 ≤ a) (h2 : a ≤ 2147483648) (h3 : -2147483648 ≤ b) (h4 : b ≤ 2147483648) (w : World) : Calls Tryz.prog 136 #[.int .i64 a, .int .i64 b] w fun e w' => e = .returned (.int .i64 (zipF 6 a b)) ∧ w = w' := by
 go_enter Tryz.func136, Tryz.ntmps136
 go_wp2_with fail
 all_goals go_ret
 all_goals exact ⟨ret_int (by simp [zipF] <;> omega), rfl⟩
set_option maxRecDepth 100000 in
set_option maxHeartbeats 1000000 in
theorem Zip1_1 (iw ih : Int) (a a' : Option Addr) (c c' n : Nat) (xs ys : List Int) (hn : Hid (xs.length = n)) (hn' : Hid (ys.length = n)) (hall : Hid (allIn (-2147483648) 2147483648 xs = true)) (hall' : Hid (allIn (-2147483648) 2147483648 ys = true)) (x y : Int) (b8 b7 b6 b5 : Nat) (W : World) (hi1 : 1 ≤ iw) (hi2 : iw ≤ 16) (hi3 : 1 ≤ ih) (hi4 : ih ≤ 16) (hnn : Hid ((n : Int) = iw * ih)) (hx1 : 0 ≤ x) (hx2 : x ≤ iw - 1) (hy1 : 0 ≤ y) (hy2 : y ≤ ih - 1)
  (k8 : Blk W b8 159 opsv) (k7 : Blk W b7 5 #[.int .u8 1]) (k6 : Blk W b6 32 #[.int .i64 iw, .int .i64 ih, .slice a' n c']) (k5 : Blk W b5 32 #[.int .i64 iw, .int .i64 ih, .slice a n c]) (hr : Rd W.heap.size W a xs) (hr' : Rd W.heap.size W a' ys) :
  Calls Tryz.prog 89 #[.int .i64 x, .int .i64 y, .pointer (some ⟨b8, 0, none⟩), .pointer (some ⟨b7, 0, none⟩), .pointer (some ⟨b5, 0, none⟩), .pointer (some ⟨b6, 0, none⟩)] W fun e W' => e = .returned (.int .i64 (zipG iw xs ys 1 x y)) ∧ Below W.heap.size W W' := by
 obtain ⟨m1, m2⟩ := mul_small (a := iw) (b := ih) (by omega) hi2 (by omega) hi4
 obtain ⟨q1, q2, q3, q4⟩ := in_idx (u := x) (v := y) hi1 hnn.out hx1 hx2 hy1 hy2
 have hn9 : n ≤ 256 := by have := hnn.out; omega
 obtain ⟨v, hv⟩ : ∃ v, px xs (y * iw + x) = v := ⟨_, rfl⟩
 obtain ⟨u, hu⟩ : ∃ u, px ys (y * iw + x) = u := ⟨_, rfl⟩
 obtain ⟨vb1, vb2⟩ := px_bd hall.out (y * iw + x)
 obtain ⟨ub1, ub2⟩ := px_bd hall'.out (y * iw + x)
 rw [hv] at vb1 vb2
 rw [hu] at ub1 ub2
 have hvH := Lib.hid hv
 have huH := Lib.hid hu
 clear hv hu
 have hS : Below W.heap.size W W.drew := (Below.refl _ _).drew
 go_enter Tryz.func89, Tryz.ntmps89
 go_wp2_with fail
 refine plain_region (fun W' => Below W.heap.size W W') 14 14 (by kernel_rfl) rfl ?_
 simp only [Array.replicate_succ, Array.replicate_zero, List.push_toArray, List.nil_append, List.cons_append]
 refine tkz 0 (v := ?rv0) rfl hS (fun w' hS' => ?ry0) ?rz0
 case ry0 =>
  obtain ⟨b0, b1, b2⟩ := cz3 (k5.below hS' k5.lt)
  obtain ⟨e0, e1, e2⟩ := cz3 (k6.below hS' k6.lt)
  have h0 := (k7.below hS' k7.lt).cell (i := 0) rfl
  obtain ⟨l0, l1, l2, l3, l4, l5, l6⟩ := cz7 (k8.below hS' k8.lt)
  go_simp
  rfl
 simp only [nrz]
 refine tkz 1 rfl hS (fun w' hS' => by go_simp; (try go_ints); rfl) ?_
 simp only [nrz]
 refine tkz 2 rfl hS (fun w' hS' => by go_simp; rfl) ?_
 simp only [nrz]
 refine tkz 3 (v := ?rv3) rfl hS (fun w' hS' => ?ry3) ?rz3
 case ry3 =>
  obtain ⟨b0, b1, b2⟩ := cz3 (k5.below hS' k5.lt)
  obtain ⟨e0, e1, e2⟩ := cz3 (k6.below hS' k6.lt)
  have h0 := (k7.below hS' k7.lt).cell (i := 0) rfl
  obtain ⟨l0, l1, l2, l3, l4, l5, l6⟩ := cz7 (k8.below hS' k8.lt)
  go_simp
  rfl
 simp only [nrz]
 refine tkz 4 (v := ?rv4) rfl hS (fun w' hS' => ?ry4) ?rz4
 case ry4 =>
  obtain ⟨b0, b1, b2⟩ := cz3 (k5.below hS' k5.lt)
  obtain ⟨e0, e1, e2⟩ := cz3 (k6.below hS' k6.lt)
  have h0 := (k7.below hS' k7.lt).cell (i := 0) rfl
  obtain ⟨l0, l1, l2, l3, l4, l5, l6⟩ := cz7 (k8.below hS' k8.lt)
  go_simp
  rfl
 simp only [nrz]
 refine tkz 5 rfl hS (fun w' hS' => by go_simp; rfl) ?_
 simp only [nrz]
 refine tkz 6 rfl hS (fun w' hS' => by go_simp; rfl) ?_
 simp only [nrz]
 refine tkz 8 (v := ?rv8) rfl hS (fun w' hS' => ?ry8) ?rz8
 case ry8 =>
  obtain ⟨b0, b1, b2⟩ := cz3 (k5.below hS' k5.lt)
  obtain ⟨e0, e1, e2⟩ := cz3 (k6.below hS' k6.lt)
  have h0 := (k7.below hS' k7.lt).cell (i := 0) rfl
  obtain ⟨l0, l1, l2, l3, l4, l5, l6⟩ := cz7 (k8.below hS' k8.lt)
  go_simp
  rfl
 simp only [nrz]
 refine tkz 9 rfl hS (fun w' hS' => by go_simp; rfl) ?_
 simp only [nrz]
 refine tkz 10 rfl hS (fun w' hS' => by go_simp; rfl) ?_
 simp only [nrz]
 refine step_op 7 (by kernel_rfl) rfl (fun K hK => ?_)
 rw [if_pos (by rfl)]
 go_simp
 refine (at_any iw ih x y a c xs n hn _ (Int.le_trans (by decide) q1) (Int.le_trans (Int.le_of_lt q4) (by omega)) q2 q3 (by omega) ((hr.below (Nat.le_refl _) hS).mono hS.size)).mono ?_
 rintro e W1 ⟨rfl, hb2⟩
 rw [hvH.out]
 have hS1 : Below W.heap.size W W1 := hS.trans (hb2.mono hS.size)
 refine hK.out _ _ (fun h => hS1) ?_
 clear hK K
 try simp only [Act.put, nrz]
 refine step_op 11 (by kernel_rfl) rfl (fun K hK => ?_)
 rw [if_pos (by rfl)]
 go_simp
 refine (at_any iw ih x y a' c' ys n hn' _ (Int.le_trans (by decide) q1) (Int.le_trans (Int.le_of_lt q4) (by omega)) q2 q3 (by omega) ((hr'.below (Nat.le_refl _) hS1).mono hS1.size)).mono ?_
 rintro e W2 ⟨rfl, hb3⟩
 rw [huH.out]
 have hS2 : Below W.heap.size W W2 := hS1.trans (hb3.mono hS1.size)
 refine hK.out _ _ (fun h => hS2) ?_
 clear hK K
 try simp only [Act.put, nrz]
 refine step_op 12 (by kernel_rfl) rfl (fun K hK => ?_)
 rw [if_pos (by rfl)]
 go_simp
 refine (oper1_any v u vb1 vb2 ub1 ub2 _).mono ?_
 rintro e W3 ⟨rfl, rfl⟩
 refine hK.out _ _ (fun h => hS2) ?_
 clear hK K
 try simp only [Act.put, nrz]
 refine tkz 13 rfl hS2 (fun w' hS' => by go_simp; rfl) ?_
 simp only [nrz]
 refine done_ops (by kernel_rfl) ?_
 go_wp2_with fail
 go_ret
 exact ⟨ret_int (by unfold zipG; rw [hvH.out, huH.out]), hS2⟩
set_option maxRecDepth 100000 in
set_option maxHeartbeats 1000000 in
theorem Zip1_2 (iw ih : Int) (a a' : Option Addr) (c c' n : Nat) (xs ys : List Int) (hn : Hid (xs.length = n)) (hn' : Hid (ys.length = n)) (hall : Hid (allIn (-2147483648) 2147483648 xs = true)) (hall' : Hid (allIn (-2147483648) 2147483648 ys = true)) (x y : Int) (b8 b7 b6 b5 : Nat) (W : World) (hi1 : 1 ≤ iw) (hi2 : iw ≤ 16) (hi3 : 1 ≤ ih) (hi4 : ih ≤ 16) (hnn : Hid ((n : Int) = iw * ih)) (hx1 : 0 ≤ x) (hx2 : x ≤ iw - 1) (hy1 : 0 ≤ y) (hy2 : y ≤ ih - 1)
  (k8 : Blk W b8 159 opsv) (k7 : Blk W b7 5 #[.int .u8 2]) (k6 : Blk W b6 32 #[.int .i64 iw, .int .i64 ih, .slice a' n c']) (k5 : Blk W b5 32 #[.int .i64 iw, .int .i64 ih, .slice a n c]) (hr : Rd W.heap.size W a xs) (hr' : Rd W.heap.size W a' ys) :
  Calls Tryz.prog 89 #[.int .i64 x, .int .i64 y, .pointer (some ⟨b8, 0, none⟩), .pointer (some ⟨b7, 0, none⟩), .pointer (some ⟨b5, 0, none⟩), .pointer (some ⟨b6, 0, none⟩)] W fun e W' => e = .returned (.int .i64 (zipG iw xs ys 2 x y)) ∧ Below W.heap.size W W' := by
 obtain ⟨m1, m2⟩ := mul_small (a := iw) (b := ih) (by omega) hi2 (by omega) hi4
 obtain ⟨q1, q2, q3, q4⟩ := in_idx (u := x) (v := y) hi1 hnn.out hx1 hx2 hy1 hy2
 have hn9 : n ≤ 256 := by have := hnn.out; omega
 obtain ⟨v, hv⟩ : ∃ v, px xs (y * iw + x) = v := ⟨_, rfl⟩
 obtain ⟨u, hu⟩ : ∃ u, px ys (y * iw + x) = u := ⟨_, rfl⟩
 obtain ⟨vb1, vb2⟩ := px_bd hall.out (y * iw + x)
 obtain ⟨ub1, ub2⟩ := px_bd hall'.out (y * iw + x)
 rw [hv] at vb1 vb2
 rw [hu] at ub1 ub2
 have hvH := Lib.hid hv
 have huH := Lib.hid hu
 clear hv hu
 have hS : Below W.heap.size W W.drew := (Below.refl _ _).drew
 go_enter Tryz.func89, Tryz.ntmps89
 go_wp2_with fail
 refine plain_region (fun W' => Below W.heap.size W W') 14 14 (by kernel_rfl) rfl ?_
 simp only [Array.replicate_succ, Array.replicate_zero, List.push_toArray, List.nil_append, List.cons_append]
 refine tkz 0 (v := ?rv0) rfl hS (fun w' hS' => ?ry0) ?rz0
 case ry0 =>
  obtain ⟨b0, b1, b2⟩ := cz3 (k5.below hS' k5.lt)
  obtain ⟨e0, e1, e2⟩ := cz3 (k6.below hS' k6.lt)
  have h0 := (k7.below hS' k7.lt).cell (i := 0) rfl
  obtain ⟨l0, l1, l2, l3, l4, l5, l6⟩ := cz7 (k8.below hS' k8.lt)
  go_simp
  rfl
 simp only [nrz]
 refine tkz 1 rfl hS (fun w' hS' => by go_simp; (try go_ints); rfl) ?_
 simp only [nrz]
 refine tkz 2 rfl hS (fun w' hS' => by go_simp; rfl) ?_
 simp only [nrz]
 refine tkz 3 (v := ?rv3) rfl hS (fun w' hS' => ?ry3) ?rz3
 case ry3 =>
  obtain ⟨b0, b1, b2⟩ := cz3 (k5.below hS' k5.lt)
  obtain ⟨e0, e1, e2⟩ := cz3 (k6.below hS' k6.lt)
  have h0 := (k7.below hS' k7.lt).cell (i := 0) rfl
  obtain ⟨l0, l1, l2, l3, l4, l5, l6⟩ := cz7 (k8.below hS' k8.lt)
  go_simp
  rfl
 simp only [nrz]
 refine tkz 4 (v := ?rv4) rfl hS (fun w' hS' => ?ry4) ?rz4
 case ry4 =>
  obtain ⟨b0, b1, b2⟩ := cz3 (k5.below hS' k5.lt)
  obtain ⟨e0, e1, e2⟩ := cz3 (k6.below hS' k6.lt)
  have h0 := (k7.below hS' k7.lt).cell (i := 0) rfl
  obtain ⟨l0, l1, l2, l3, l4, l5, l6⟩ := cz7 (k8.below hS' k8.lt)
  go_simp
  rfl
 simp only [nrz]
 refine tkz 5 rfl hS (fun w' hS' => by go_simp; rfl) ?_
 simp only [nrz]
 refine tkz 6 rfl hS (fun w' hS' => by go_simp; rfl) ?_
 simp only [nrz]
 refine tkz 8 (v := ?rv8) rfl hS (fun w' hS' => ?ry8) ?rz8
 case ry8 =>
  obtain ⟨b0, b1, b2⟩ := cz3 (k5.below hS' k5.lt)
  obtain ⟨e0, e1, e2⟩ := cz3 (k6.below hS' k6.lt)
  have h0 := (k7.below hS' k7.lt).cell (i := 0) rfl
  obtain ⟨l0, l1, l2, l3, l4, l5, l6⟩ := cz7 (k8.below hS' k8.lt)
  go_simp
  rfl
 simp only [nrz]
 refine tkz 9 rfl hS (fun w' hS' => by go_simp; rfl) ?_
 simp only [nrz]
 refine tkz 10 rfl hS (fun w' hS' => by go_simp; rfl) ?_
 simp only [nrz]
 refine step_op 7 (by kernel_rfl) rfl (fun K hK => ?_)
 rw [if_pos (by rfl)]
 go_simp
 refine (at_any iw ih x y a c xs n hn _ (Int.le_trans (by decide) q1) (Int.le_trans (Int.le_of_lt q4) (by omega)) q2 q3 (by omega) ((hr.below (Nat.le_refl _) hS).mono hS.size)).mono ?_
 rintro e W1 ⟨rfl, hb2⟩
 rw [hvH.out]
 have hS1 : Below W.heap.size W W1 := hS.trans (hb2.mono hS.size)
 refine hK.out _ _ (fun h => hS1) ?_
 clear hK K
 try simp only [Act.put, nrz]
 refine step_op 11 (by kernel_rfl) rfl (fun K hK => ?_)
 rw [if_pos (by rfl)]
 go_simp
 refine (at_any iw ih x y a' c' ys n hn' _ (Int.le_trans (by decide) q1) (Int.le_trans (Int.le_of_lt q4) (by omega)) q2 q3 (by omega) ((hr'.below (Nat.le_refl _) hS1).mono hS1.size)).mono ?_
 rintro e W2 ⟨rfl, hb3⟩
 rw [huH.out]
 have hS2 : Below W.heap.size W W2 := hS1.trans (hb3.mono hS1.size)
 refine hK.out _ _ (fun h => hS2) ?_
 clear hK K
 try simp only [Act.put, nrz]
 refine step_op 12 (by kernel_rfl) rfl (fun K hK => ?_)
 rw [if_pos (by rfl)]
 go_simp
 refine (oper2_any v u vb1 vb2 ub1 ub2 _).mono ?_
 rintro e W3 ⟨rfl, rfl⟩
 refine hK.out _ _ (fun h => hS2) ?_
 clear hK K
 try simp only [Act.put, nrz]
 refine tkz 13 rfl hS2 (fun w' hS' => by go_simp; rfl) ?_
 simp only [nrz]
 refine done_ops (by kernel_rfl) ?_
 go_wp2_with fail
 go_ret
 exact ⟨ret_int (by unfold zipG; rw [hvH.out, huH.out]), hS2⟩
set_option maxRecDepth 100000 in
set_option maxHeartbeats 1000000 in
theorem Zip1_3 (iw ih : Int) (a a' : Option Addr) (c c' n : Nat) (xs ys : List Int) (hn : Hid (xs.length = n)) (hn' : Hid (ys.length = n)) (hall : Hid (allIn (-2147483648) 2147483648 xs = true)) (hall' : Hid (allIn (-2147483648) 2147483648 ys = true)) (x y : Int) (b8 b7 b6 b5 : Nat) (W : World) (hi1 : 1 ≤ iw) (hi2 : iw ≤ 16) (hi3 : 1 ≤ ih) (hi4 : ih ≤ 16) (hnn : Hid ((n : Int) = iw * ih)) (hx1 : 0 ≤ x) (hx2 : x ≤ iw - 1) (hy1 : 0 ≤ y) (hy2 : y ≤ ih - 1)
  (k8 : Blk W b8 159 opsv) (k7 : Blk W b7 5 #[.int .u8 3]) (k6 : Blk W b6 32 #[.int .i64 iw, .int .i64 ih, .slice a' n c']) (k5 : Blk W b5 32 #[.int .i64 iw, .int .i64 ih, .slice a n c]) (hr : Rd W.heap.size W a xs) (hr' : Rd W.heap.size W a' ys) :
  Calls Tryz.prog 89 #[.int .i64 x, .int .i64 y, .pointer (some ⟨b8, 0, none⟩), .pointer (some ⟨b7, 0, none⟩), .pointer (some ⟨b5, 0, none⟩), .pointer (some ⟨b6, 0, none⟩)] W fun e W' => e = .returned (.int .i64 (zipG iw xs ys 3 x y)) ∧ Below W.heap.size W W' := by
 obtain ⟨m1, m2⟩ := mul_small (a := iw) (b := ih) (by omega) hi2 (by omega) hi4
 obtain ⟨q1, q2, q3, q4⟩ := in_idx (u := x) (v := y) hi1 hnn.out hx1 hx2 hy1 hy2
 have hn9 : n ≤ 256 := by have := hnn.out; omega
 obtain ⟨v, hv⟩ : ∃ v, px xs (y * iw + x) = v := ⟨_, rfl⟩
 obtain ⟨u, hu⟩ : ∃ u, px ys (y * iw + x) = u := ⟨_, rfl⟩
 obtain ⟨vb1, vb2⟩ := px_bd hall.out (y * iw + x)
 obtain ⟨ub1, ub2⟩ := px_bd hall'.out (y * iw + x)
 rw [hv] at vb1 vb2
 rw [hu] at ub1 ub2
 have hvH := Lib.hid hv
 have huH := Lib.hid hu
 clear hv hu
 have hS : Below W.heap.size W W.drew := (Below.refl _ _).drew
 go_enter Tryz.func89, Tryz.ntmps89
 go_wp2_with fail
 refine plain_region (fun W' => Below W.heap.size W W') 14 14 (by kernel_rfl) rfl ?_
 simp only [Array.replicate_succ, Array.replicate_zero, List.push_toArray, List.nil_append, List.cons_append]
 refine tkz 0 (v := ?rv0) rfl hS (fun w' hS' => ?ry0) ?rz0
 case ry0 =>
  obtain ⟨b0, b1, b2⟩ := cz3 (k5.below hS' k5.lt)
  obtain ⟨e0, e1, e2⟩ := cz3 (k6.below hS' k6.lt)
  have h0 := (k7.below hS' k7.lt).cell (i := 0) rfl
  obtain ⟨l0, l1, l2, l3, l4, l5, l6⟩ := cz7 (k8.below hS' k8.lt)
  go_simp
  rfl
 simp only [nrz]
 refine tkz 1 rfl hS (fun w' hS' => by go_simp; (try go_ints); rfl) ?_
 simp only [nrz]
 refine tkz 2 rfl hS (fun w' hS' => by go_simp; rfl) ?_
 simp only [nrz]
 refine tkz 3 (v := ?rv3) rfl hS (fun w' hS' => ?ry3) ?rz3
 case ry3 =>
  obtain ⟨b0, b1, b2⟩ := cz3 (k5.below hS' k5.lt)
  obtain ⟨e0, e1, e2⟩ := cz3 (k6.below hS' k6.lt)
  have h0 := (k7.below hS' k7.lt).cell (i := 0) rfl
  obtain ⟨l0, l1, l2, l3, l4, l5, l6⟩ := cz7 (k8.below hS' k8.lt)
  go_simp
  rfl
 simp only [nrz]
 refine tkz 4 (v := ?rv4) rfl hS (fun w' hS' => ?ry4) ?rz4
 case ry4 =>
  obtain ⟨b0, b1, b2⟩ := cz3 (k5.below hS' k5.lt)
  obtain ⟨e0, e1, e2⟩ := cz3 (k6.below hS' k6.lt)
  have h0 := (k7.below hS' k7.lt).cell (i := 0) rfl
  obtain ⟨l0, l1, l2, l3, l4, l5, l6⟩ := cz7 (k8.below hS' k8.lt)
  go_simp
  rfl
 simp only [nrz]
 refine tkz 5 rfl hS (fun w' hS' => by go_simp; rfl) ?_
 simp only [nrz]
 refine tkz 6 rfl hS (fun w' hS' => by go_simp; rfl) ?_
 simp only [nrz]
 refine tkz 8 (v := ?rv8) rfl hS (fun w' hS' => ?ry8) ?rz8
 case ry8 =>
  obtain ⟨b0, b1, b2⟩ := cz3 (k5.below hS' k5.lt)
  obtain ⟨e0, e1, e2⟩ := cz3 (k6.below hS' k6.lt)
  have h0 := (k7.below hS' k7.lt).cell (i := 0) rfl
  obtain ⟨l0, l1, l2, l3, l4, l5, l6⟩ := cz7 (k8.below hS' k8.lt)
  go_simp
  rfl
 simp only [nrz]
 refine tkz 9 rfl hS (fun w' hS' => by go_simp; rfl) ?_
 simp only [nrz]
 refine tkz 10 rfl hS (fun w' hS' => by go_simp; rfl) ?_
 simp only [nrz]
 refine step_op 7 (by kernel_rfl) rfl (fun K hK => ?_)
 rw [if_pos (by rfl)]
 go_simp
 refine (at_any iw ih x y a c xs n hn _ (Int.le_trans (by decide) q1) (Int.le_trans (Int.le_of_lt q4) (by omega)) q2 q3 (by omega) ((hr.below (Nat.le_refl _) hS).mono hS.size)).mono ?_
 rintro e W1 ⟨rfl, hb2⟩
 rw [hvH.out]
 have hS1 : Below W.heap.size W W1 := hS.trans (hb2.mono hS.size)
 refine hK.out _ _ (fun h => hS1) ?_
 clear hK K
 try simp only [Act.put, nrz]
 refine step_op 11 (by kernel_rfl) rfl (fun K hK => ?_)
 rw [if_pos (by rfl)]
 go_simp
 refine (at_any iw ih x y a' c' ys n hn' _ (Int.le_trans (by decide) q1) (Int.le_trans (Int.le_of_lt q4) (by omega)) q2 q3 (by omega) ((hr'.below (Nat.le_refl _) hS1).mono hS1.size)).mono ?_
 rintro e W2 ⟨rfl, hb3⟩
 rw [huH.out]
 have hS2 : Below W.heap.size W W2 := hS1.trans (hb3.mono hS1.size)
 refine hK.out _ _ (fun h => hS2) ?_
 clear hK K
 try simp only [Act.put, nrz]
 refine step_op 12 (by kernel_rfl) rfl (fun K hK => ?_)
 rw [if_pos (by rfl)]
 go_simp
 refine (oper3_any v u vb1 vb2 ub1 ub2 _).mono ?_
 rintro e W3 ⟨rfl, rfl⟩
 refine hK.out _ _ (fun h => hS2) ?_
 clear hK K
 try simp only [Act.put, nrz]
 refine tkz 13 rfl hS2 (fun w' hS' => by go_simp; rfl) ?_
 simp only [nrz]
 refine done_ops (by kernel_rfl) ?_
 go_wp2_with fail
 go_ret
 exact ⟨ret_int (by unfold zipG; rw [hvH.out, huH.out]), hS2⟩
set_option maxRecDepth 100000 in
set_option maxHeartbeats 1000000 in
theorem Zip1_4 (iw ih : Int) (a a' : Option Addr) (c c' n : Nat) (xs ys : List Int) (hn : Hid (xs.length = n)) (hn' : Hid (ys.length = n)) (hall : Hid (allIn (-2147483648) 2147483648 xs = true)) (hall' : Hid (allIn (-2147483648) 2147483648 ys = true)) (x y : Int) (b8 b7 b6 b5 : Nat) (W : World) (hi1 : 1 ≤ iw) (hi2 : iw ≤ 16) (hi3 : 1 ≤ ih) (hi4 : ih ≤ 16) (hnn : Hid ((n : Int) = iw * ih)) (hx1 : 0 ≤ x) (hx2 : x ≤ iw - 1) (hy1 : 0 ≤ y) (hy2 : y ≤ ih - 1)
  (k8 : Blk W b8 159 opsv) (k7 : Blk W b7 5 #[.int .u8 4]) (k6 : Blk W b6 32 #[.int .i64 iw, .int .i64 ih, .slice a' n c']) (k5 : Blk W b5 32 #[.int .i64 iw, .int .i64 ih, .slice a n c]) (hr : Rd W.heap.size W a xs) (hr' : Rd W.heap.size W a' ys) :
  Calls Tryz.prog 89 #[.int .i64 x, .int .i64 y, .pointer (some ⟨b8, 0, none⟩), .pointer (some ⟨b7, 0, none⟩), .pointer (some ⟨b5, 0, none⟩), .pointer (some ⟨b6, 0, none⟩)] W fun e W' => e = .returned (.int .i64 (zipG iw xs ys 4 x y)) ∧ Below W.heap.size W W' := by
 obtain ⟨m1, m2⟩ := mul_small (a := iw) (b := ih) (by omega) hi2 (by omega) hi4
 obtain ⟨q1, q2, q3, q4⟩ := in_idx (u := x) (v := y) hi1 hnn.out hx1 hx2 hy1 hy2
 have hn9 : n ≤ 256 := by have := hnn.out; omega
 obtain ⟨v, hv⟩ : ∃ v, px xs (y * iw + x) = v := ⟨_, rfl⟩
 obtain ⟨u, hu⟩ : ∃ u, px ys (y * iw + x) = u := ⟨_, rfl⟩
 obtain ⟨vb1, vb2⟩ := px_bd hall.out (y * iw + x)
 obtain ⟨ub1, ub2⟩ := px_bd hall'.out (y * iw + x)
 rw [hv] at vb1 vb2
 rw [hu] at ub1 ub2
 have hvH := Lib.hid hv
 have huH := Lib.hid hu
 clear hv hu
 have hS : Below W.heap.size W W.drew := (Below.refl _ _).drew
 go_enter Tryz.func89, Tryz.ntmps89
 go_wp2_with fail
 refine plain_region (fun W' => Below W.heap.size W W') 14 14 (by kernel_rfl) rfl ?_
 simp only [Array.replicate_succ, Array.replicate_zero, List.push_toArray, List.nil_append, List.cons_append]
 refine tkz 0 (v := ?rv0) rfl hS (fun w' hS' => ?ry0) ?rz0
 case ry0 =>
  obtain ⟨b0, b1, b2⟩ := cz3 (k5.below hS' k5.lt)
  obtain ⟨e0, e1, e2⟩ := cz3 (k6.below hS' k6.lt)
  have h0 := (k7.below hS' k7.lt).cell (i := 0) rfl
  obtain ⟨l0, l1, l2, l3, l4, l5, l6⟩ := cz7 (k8.below hS' k8.lt)
  go_simp
  rfl
 simp only [nrz]
 refine tkz 1 rfl hS (fun w' hS' => by go_simp; (try go_ints); rfl) ?_
 simp only [nrz]
 refine tkz 2 rfl hS (fun w' hS' => by go_simp; rfl) ?_
 simp only [nrz]
 refine tkz 3 (v := ?rv3) rfl hS (fun w' hS' => ?ry3) ?rz3
 case ry3 =>
  obtain ⟨b0, b1, b2⟩ := cz3 (k5.below hS' k5.lt)
  obtain ⟨e0, e1, e2⟩ := cz3 (k6.below hS' k6.lt)
  have h0 := (k7.below hS' k7.lt).cell (i := 0) rfl
  obtain ⟨l0, l1, l2, l3, l4, l5, l6⟩ := cz7 (k8.below hS' k8.lt)
  go_simp
  rfl
 simp only [nrz]
 refine tkz 4 (v := ?rv4) rfl hS (fun w' hS' => ?ry4) ?rz4
 case ry4 =>
  obtain ⟨b0, b1, b2⟩ := cz3 (k5.below hS' k5.lt)
  obtain ⟨e0, e1, e2⟩ := cz3 (k6.below hS' k6.lt)
  have h0 := (k7.below hS' k7.lt).cell (i := 0) rfl
  obtain ⟨l0, l1, l2, l3, l4, l5, l6⟩ := cz7 (k8.below hS' k8.lt)
  go_simp
  rfl
 simp only [nrz]
 refine tkz 5 rfl hS (fun w' hS' => by go_simp; rfl) ?_
 simp only [nrz]
 refine tkz 6 rfl hS (fun w' hS' => by go_simp; rfl) ?_
 simp only [nrz]
 refine tkz 8 (v := ?rv8) rfl hS (fun w' hS' => ?ry8) ?rz8
 case ry8 =>
  obtain ⟨b0, b1, b2⟩ := cz3 (k5.below hS' k5.lt)
  obtain ⟨e0, e1, e2⟩ := cz3 (k6.below hS' k6.lt)
  have h0 := (k7.below hS' k7.lt).cell (i := 0) rfl
  obtain ⟨l0, l1, l2, l3, l4, l5, l6⟩ := cz7 (k8.below hS' k8.lt)
  go_simp
  rfl
 simp only [nrz]
 refine tkz 9 rfl hS (fun w' hS' => by go_simp; rfl) ?_
 simp only [nrz]
 refine tkz 10 rfl hS (fun w' hS' => by go_simp; rfl) ?_
 simp only [nrz]
 refine step_op 7 (by kernel_rfl) rfl (fun K hK => ?_)
 rw [if_pos (by rfl)]
 go_simp
 refine (at_any iw ih x y a c xs n hn _ (Int.le_trans (by decide) q1) (Int.le_trans (Int.le_of_lt q4) (by omega)) q2 q3 (by omega) ((hr.below (Nat.le_refl _) hS).mono hS.size)).mono ?_
 rintro e W1 ⟨rfl, hb2⟩
 rw [hvH.out]
 have hS1 : Below W.heap.size W W1 := hS.trans (hb2.mono hS.size)
 refine hK.out _ _ (fun h => hS1) ?_
 clear hK K
 try simp only [Act.put, nrz]
 refine step_op 11 (by kernel_rfl) rfl (fun K hK => ?_)
 rw [if_pos (by rfl)]
 go_simp
 refine (at_any iw ih x y a' c' ys n hn' _ (Int.le_trans (by decide) q1) (Int.le_trans (Int.le_of_lt q4) (by omega)) q2 q3 (by omega) ((hr'.below (Nat.le_refl _) hS1).mono hS1.size)).mono ?_
 rintro e W2 ⟨rfl, hb3⟩
 rw [huH.out]
 have hS2 : Below W.heap.size W W2 := hS1.trans (hb3.mono hS1.size)
 refine hK.out _ _ (fun h => hS2) ?_
 clear hK K
 try simp only [Act.put, nrz]
 refine step_op 12 (by kernel_rfl) rfl (fun K hK => ?_)
 rw [if_pos (by rfl)]
 go_simp
 refine (oper4_any v u vb1 vb2 ub1 ub2 _).mono ?_
 rintro e W3 ⟨rfl, rfl⟩
 refine hK.out _ _ (fun h => hS2) ?_
 clear hK K
 try simp only [Act.put, nrz]
 refine tkz 13 rfl hS2 (fun w' hS' => by go_simp; rfl) ?_
 simp only [nrz]
 refine done_ops (by kernel_rfl) ?_
 go_wp2_with fail
 go_ret
 exact ⟨ret_int (by unfold zipG; rw [hvH.out, huH.out]), hS2⟩
set_option maxRecDepth 100000 in
set_option maxHeartbeats 1000000 in
theorem Zip1_5 (iw ih : Int) (a a' : Option Addr) (c c' n : Nat) (xs ys : List Int) (hn : Hid (xs.length = n)) (hn' : Hid (ys.length = n)) (hall : Hid (allIn (-2147483648) 2147483648 xs = true)) (hall' : Hid (allIn (-2147483648) 2147483648 ys = true)) (x y : Int) (b8 b7 b6 b5 : Nat) (W : World) (hi1 : 1 ≤ iw) (hi2 : iw ≤ 16) (hi3 : 1 ≤ ih) (hi4 : ih ≤ 16) (hnn : Hid ((n : Int) = iw * ih)) (hx1 : 0 ≤ x) (hx2 : x ≤ iw - 1) (hy1 : 0 ≤ y) (hy2 : y ≤ ih - 1)
  (k8 : Blk W b8 159 opsv) (k7 : Blk W b7 5 #[.int .u8 5]) (k6 : Blk W b6 32 #[.int .i64 iw, .int .i64 ih, .slice a' n c']) (k5 : Blk W b5 32 #[.int .i64 iw, .int .i64 ih, .slice a n c]) (hr : Rd W.heap.size W a xs) (hr' : Rd W.heap.size W a' ys) :
  Calls Tryz.prog 89 #[.int .i64 x, .int .i64 y, .pointer (some ⟨b8, 0, none⟩), .pointer (some ⟨b7, 0, none⟩), .pointer (some ⟨b5, 0, none⟩), .pointer (some ⟨b6, 0, none⟩)] W fun e W' => e = .returned (.int .i64 (zipG iw xs ys 5 x y)) ∧ Below W.heap.size W W' := by
 obtain ⟨m1, m2⟩ := mul_small (a := iw) (b := ih) (by omega) hi2 (by omega) hi4
 obtain ⟨q1, q2, q3, q4⟩ := in_idx (u := x) (v := y) hi1 hnn.out hx1 hx2 hy1 hy2
 have hn9 : n ≤ 256 := by have := hnn.out; omega
 obtain ⟨v, hv⟩ : ∃ v, px xs (y * iw + x) = v := ⟨_, rfl⟩
 obtain ⟨u, hu⟩ : ∃ u, px ys (y * iw + x) = u := ⟨_, rfl⟩
 obtain ⟨vb1, vb2⟩ := px_bd hall.out (y * iw + x)
 obtain ⟨ub1, ub2⟩ := px_bd hall'.out (y * iw + x)
 rw [hv] at vb1 vb2
 rw [hu] at ub1 ub2
 have hvH := Lib.hid hv
 have huH := Lib.hid hu
 clear hv hu
 have hS : Below W.heap.size W W.drew := (Below.refl _ _).drew
 go_enter Tryz.func89, Tryz.ntmps89
 go_wp2_with fail
 refine plain_region (fun W' => Below W.heap.size W W') 14 14 (by kernel_rfl) rfl ?_
 simp only [Array.replicate_succ, Array.replicate_zero, List.push_toArray, List.nil_append, List.cons_append]
 refine tkz 0 (v := ?rv0) rfl hS (fun w' hS' => ?ry0) ?rz0
 case ry0 =>
  obtain ⟨b0, b1, b2⟩ := cz3 (k5.below hS' k5.lt)
  obtain ⟨e0, e1, e2⟩ := cz3 (k6.below hS' k6.lt)
  have h0 := (k7.below hS' k7.lt).cell (i := 0) rfl
  obtain ⟨l0, l1, l2, l3, l4, l5, l6⟩ := cz7 (k8.below hS' k8.lt)
  go_simp
  rfl
 simp only [nrz]
 refine tkz 1 rfl hS (fun w' hS' => by go_simp; (try go_ints); rfl) ?_
 simp only [nrz]
 refine tkz 2 rfl hS (fun w' hS' => by go_simp; rfl) ?_
 simp only [nrz]
 refine tkz 3 (v := ?rv3) rfl hS (fun w' hS' => ?ry3) ?rz3
 case ry3 =>
  obtain ⟨b0, b1, b2⟩ := cz3 (k5.below hS' k5.lt)
  obtain ⟨e0, e1, e2⟩ := cz3 (k6.below hS' k6.lt)
  have h0 := (k7.below hS' k7.lt).cell (i := 0) rfl
  obtain ⟨l0, l1, l2, l3, l4, l5, l6⟩ := cz7 (k8.below hS' k8.lt)
  go_simp
  rfl
 simp only [nrz]
 refine tkz 4 (v := ?rv4) rfl hS (fun w' hS' => ?ry4) ?rz4
 case ry4 =>
  obtain ⟨b0, b1, b2⟩ := cz3 (k5.below hS' k5.lt)
  obtain ⟨e0, e1, e2⟩ := cz3 (k6.below hS' k6.lt)
  have h0 := (k7.below hS' k7.lt).cell (i := 0) rfl
  obtain ⟨l0, l1, l2, l3, l4, l5, l6⟩ := cz7 (k8.below hS' k8.lt)
  go_simp
  rfl
 simp only [nrz]
 refine tkz 5 rfl hS (fun w' hS' => by go_simp; rfl) ?_
 simp only [nrz]
 refine tkz 6 rfl hS (fun w' hS' => by go_simp; rfl) ?_
 simp only [nrz]
 refine tkz 8 (v := ?rv8) rfl hS (fun w' hS' => ?ry8) ?rz8
 case ry8 =>
  obtain ⟨b0, b1, b2⟩ := cz3 (k5.below hS' k5.lt)
  obtain ⟨e0, e1, e2⟩ := cz3 (k6.below hS' k6.lt)
  have h0 := (k7.below hS' k7.lt).cell (i := 0) rfl
  obtain ⟨l0, l1, l2, l3, l4, l5, l6⟩ := cz7 (k8.below hS' k8.lt)
  go_simp
  rfl
 simp only [nrz]
 refine tkz 9 rfl hS (fun w' hS' => by go_simp; rfl) ?_
 simp only [nrz]
 refine tkz 10 rfl hS (fun w' hS' => by go_simp; rfl) ?_
 simp only [nrz]
 refine step_op 7 (by kernel_rfl) rfl (fun K hK => ?_)
 rw [if_pos (by rfl)]
 go_simp
 refine (at_any iw ih x y a c xs n hn _ (Int.le_trans (by decide) q1) (Int.le_trans (Int.le_of_lt q4) (by omega)) q2 q3 (by omega) ((hr.below (Nat.le_refl _) hS).mono hS.size)).mono ?_
 rintro e W1 ⟨rfl, hb2⟩
 rw [hvH.out]
 have hS1 : Below W.heap.size W W1 := hS.trans (hb2.mono hS.size)
 refine hK.out _ _ (fun h => hS1) ?_
 clear hK K
 try simp only [Act.put, nrz]
 refine step_op 11 (by kernel_rfl) rfl (fun K hK => ?_)
 rw [if_pos (by rfl)]
 go_simp
 refine (at_any iw ih x y a' c' ys n hn' _ (Int.le_trans (by decide) q1) (Int.le_trans (Int.le_of_lt q4) (by omega)) q2 q3 (by omega) ((hr'.below (Nat.le_refl _) hS1).mono hS1.size)).mono ?_
 rintro e W2 ⟨rfl, hb3⟩
 rw [huH.out]
 have hS2 : Below W.heap.size W W2 := hS1.trans (hb3.mono hS1.size)
 refine hK.out _ _ (fun h => hS2) ?_
 clear hK K
 try simp only [Act.put, nrz]
 refine step_op 12 (by kernel_rfl) rfl (fun K hK => ?_)
 rw [if_pos (by rfl)]
 go_simp
 refine (oper5_any v u vb1 vb2 ub1 ub2 _).mono ?_
 rintro e W3 ⟨rfl, rfl⟩
 refine hK.out _ _ (fun h => hS2) ?_
 clear hK K
 try simp only [Act.put, nrz]
 refine tkz 13 rfl hS2 (fun w' hS' => by go_simp; rfl) ?_
 simp only [nrz]
 refine done_ops (by kernel_rfl) ?_
 go_wp2_with fail
 go_ret
 exact ⟨ret_int (by unfold zipG; rw [hvH.out, huH.out]), hS2⟩
set_option maxRecDepth 100000 in
set_option maxHeartbeats 1000000 in
theorem Zip1_6 (iw ih : Int) (a a' : Option Addr) (c c' n : Nat) (xs ys : List Int) (hn : Hid (xs.length = n)) (hn' : Hid (ys.length = n)) (hall : Hid (allIn (-2147483648) 2147483648 xs = true)) (hall' : Hid (allIn (-2147483648) 2147483648 ys = true)) (x y : Int) (b8 b7 b6 b5 : Nat) (W : World) (hi1 : 1 ≤ iw) (hi2 : iw ≤ 16) (hi3 : 1 ≤ ih) (hi4 : ih ≤ 16) (hnn : Hid ((n : Int) = iw * ih)) (hx1 : 0 ≤ x) (hx2 : x ≤ iw - 1) (hy1 : 0 ≤ y) (hy2 : y ≤ ih - 1)
  (k8 : Blk W b8 159 opsv) (k7 : Blk W b7 5 #[.int .u8 6]) (k6 : Blk W b6 32 #[.int .i64 iw, .int .i64 ih, .slice a' n c']) (k5 : Blk W b5 32 #[.int .i64 iw, .int .i64 ih, .slice a n c]) (hr : Rd W.heap.size W a xs) (hr' : Rd W.heap.size W a' ys) :
  Calls Tryz.prog 89 #[.int .i64 x, .int .i64 y, .pointer (some ⟨b8, 0, none⟩), .pointer (some ⟨b7, 0, none⟩), .pointer (some ⟨b5, 0, none⟩), .pointer (some ⟨b6, 0, none⟩)] W fun e W' => e = .returned (.int .i64 (zipG iw xs ys 6 x y)) ∧ Below W.heap.size W W' := by
 obtain ⟨m1, m2⟩ := mul_small (a := iw) (b := ih) (by omega) hi2 (by omega) hi4
 obtain ⟨q1, q2, q3, q4⟩ := in_idx (u := x) (v := y) hi1 hnn.out hx1 hx2 hy1 hy2
 have hn9 : n ≤ 256 := by have := hnn.out; omega
 obtain ⟨v, hv⟩ : ∃ v, px xs (y * iw + x) = v := ⟨_, rfl⟩
 obtain ⟨u, hu⟩ : ∃ u, px ys (y * iw + x) = u := ⟨_, rfl⟩
 obtain ⟨vb1, vb2⟩ := px_bd hall.out (y * iw + x)
 obtain ⟨ub1, ub2⟩ := px_bd hall'.out (y * iw + x)
 rw [hv] at vb1 vb2
 rw [hu] at ub1 ub2
 have hvH := Lib.hid hv
 have huH := Lib.hid hu
 clear hv hu
 have hS : Below W.heap.size W W.drew := (Below.refl _ _).drew
 go_enter Tryz.func89, Tryz.ntmps89
 go_wp2_with fail
 refine plain_region (fun W' => Below W.heap.size W W') 14 14 (by kernel_rfl) rfl ?_
 simp only [Array.replicate_succ, Array.replicate_zero, List.push_toArray, List.nil_append, List.cons_append]
 refine tkz 0 (v := ?rv0) rfl hS (fun w' hS' => ?ry0) ?rz0
 case ry0 =>
  obtain ⟨b0, b1, b2⟩ := cz3 (k5.below hS' k5.lt)
  obtain ⟨e0, e1, e2⟩ := cz3 (k6.below hS' k6.lt)
  have h0 := (k7.below hS' k7.lt).cell (i := 0) rfl
  obtain ⟨l0, l1, l2, l3, l4, l5, l6⟩ := cz7 (k8.below hS' k8.lt)
  go_simp
  rfl
 simp only [nrz]
 refine tkz 1 rfl hS (fun w' hS' => by go_simp; (try go_ints); rfl) ?_
 simp only [nrz]
 refine tkz 2 rfl hS (fun w' hS' => by go_simp; rfl) ?_
 simp only [nrz]
 refine tkz 3 (v := ?rv3) rfl hS (fun w' hS' => ?ry3) ?rz3
 case ry3 =>
  obtain ⟨b0, b1, b2⟩ := cz3 (k5.below hS' k5.lt)
  obtain ⟨e0, e1, e2⟩ := cz3 (k6.below hS' k6.lt)
  have h0 := (k7.below hS' k7.lt).cell (i := 0) rfl
  obtain ⟨l0, l1, l2, l3, l4, l5, l6⟩ := cz7 (k8.below hS' k8.lt)
  go_simp
  rfl
 simp only [nrz]
 refine tkz 4 (v := ?rv4) rfl hS (fun w' hS' => ?ry4) ?rz4
 case ry4 =>
  obtain ⟨b0, b1, b2⟩ := cz3 (k5.below hS' k5.lt)
  obtain ⟨e0, e1, e2⟩ := cz3 (k6.below hS' k6.lt)
  have h0 := (k7.below hS' k7.lt).cell (i := 0) rfl
  obtain ⟨l0, l1, l2, l3, l4, l5, l6⟩ := cz7 (k8.below hS' k8.lt)
  go_simp
  rfl
 simp only [nrz]
 refine tkz 5 rfl hS (fun w' hS' => by go_simp; rfl) ?_
 simp only [nrz]
 refine tkz 6 rfl hS (fun w' hS' => by go_simp; rfl) ?_
 simp only [nrz]
 refine tkz 8 (v := ?rv8) rfl hS (fun w' hS' => ?ry8) ?rz8
 case ry8 =>
  obtain ⟨b0, b1, b2⟩ := cz3 (k5.below hS' k5.lt)
  obtain ⟨e0, e1, e2⟩ := cz3 (k6.below hS' k6.lt)
  have h0 := (k7.below hS' k7.lt).cell (i := 0) rfl
  obtain ⟨l0, l1, l2, l3, l4, l5, l6⟩ := cz7 (k8.below hS' k8.lt)
  go_simp
  rfl
 simp only [nrz]
 refine tkz 9 rfl hS (fun w' hS' => by go_simp; rfl) ?_
 simp only [nrz]
 refine tkz 10 rfl hS (fun w' hS' => by go_simp; rfl) ?_
 simp only [nrz]
 refine step_op 7 (by kernel_rfl) rfl (fun K hK => ?_)
 rw [if_pos (by rfl)]
 go_simp
 refine (at_any iw ih x y a c xs n hn _ (Int.le_trans (by decide) q1) (Int.le_trans (Int.le_of_lt q4) (by omega)) q2 q3 (by omega) ((hr.below (Nat.le_refl _) hS).mono hS.size)).mono ?_
 rintro e W1 ⟨rfl, hb2⟩
 rw [hvH.out]
 have hS1 : Below W.heap.size W W1 := hS.trans (hb2.mono hS.size)
 refine hK.out _ _ (fun h => hS1) ?_
 clear hK K
 try simp only [Act.put, nrz]
 refine step_op 11 (by kernel_rfl) rfl (fun K hK => ?_)
 rw [if_pos (by rfl)]
 go_simp
 refine (at_any iw ih x y a' c' ys n hn' _ (Int.le_trans (by decide) q1) (Int.le_trans (Int.le_of_lt q4) (by omega)) q2 q3 (by omega) ((hr'.below (Nat.le_refl _) hS1).mono hS1.size)).mono ?_
 rintro e W2 ⟨rfl, hb3⟩
 rw [huH.out]
 have hS2 : Below W.heap.size W W2 := hS1.trans (hb3.mono hS1.size)
 refine hK.out _ _ (fun h => hS2) ?_
 clear hK K
 try simp only [Act.put, nrz]
 refine step_op 12 (by kernel_rfl) rfl (fun K hK => ?_)
 rw [if_pos (by rfl)]
 go_simp
 refine (oper6_any v u vb1 vb2 ub1 ub2 _).mono ?_
 rintro e W3 ⟨rfl, rfl⟩
 refine hK.out _ _ (fun h => hS2) ?_
 clear hK K
 try simp only [Act.put, nrz]
 refine tkz 13 rfl hS2 (fun w' hS' => by go_simp; rfl) ?_
 simp only [nrz]
 refine done_ops (by kernel_rfl) ?_
 go_wp2_with fail
 go_ret
 exact ⟨ret_int (by unfold zipG; rw [hvH.out, huH.out]), hS2⟩
theorem Zip1_any (how : Int) (hh1 : 1 ≤ how) (hh2 : how ≤ 6) (iw ih : Int) (a a' : Option Addr) (c c' n : Nat) (xs ys : List Int) (hn : Hid (xs.length = n)) (hn' : Hid (ys.length = n)) (hall : Hid (allIn (-2147483648) 2147483648 xs = true)) (hall' : Hid (allIn (-2147483648) 2147483648 ys = true)) (x y : Int) (b8 b7 b6 b5 : Nat) (W : World) (hi1 : 1 ≤ iw) (hi2 : iw ≤ 16) (hi3 : 1 ≤ ih) (hi4 : ih ≤ 16) (hnn : Hid ((n : Int) = iw * ih)) (hx1 : 0 ≤ x) (hx2 : x ≤ iw - 1) (hy1 : 0 ≤ y) (hy2 : y ≤ ih - 1)
  (k8 : Blk W b8 159 opsv) (k7 : Blk W b7 5 #[.int .u8 how]) (k6 : Blk W b6 32 #[.int .i64 iw, .int .i64 ih, .slice a' n c']) (k5 : Blk W b5 32 #[.int .i64 iw, .int .i64 ih, .slice a n c]) (hr : Rd W.heap.size W a xs) (hr' : Rd W.heap.size W a' ys) :
  Calls Tryz.prog 89 #[.int .i64 x, .int .i64 y, .pointer (some ⟨b8, 0, none⟩), .pointer (some ⟨b7, 0, none⟩), .pointer (some ⟨b5, 0, none⟩), .pointer (some ⟨b6, 0, none⟩)] W fun e W' => e = .returned (.int .i64 (zipG iw xs ys how x y)) ∧ Below W.heap.size W W' := by
 have : how = 1 ∨ how = 2 ∨ how = 3 ∨ how = 4 ∨ how = 5 ∨ how = 6 := by omega
 rcases this with rfl | rfl | rfl | rfl | rfl | rfl
 ·exact Zip1_1 iw ih a a' c c' n xs ys hn hn' hall hall' x y b8 b7 b6 b5 W hi1 hi2 hi3 hi4 hnn hx1 hx2 hy1 hy2 k8 k7 k6 k5 hr hr'
 ·exact Zip1_2 iw ih a a' c c' n xs ys hn hn' hall hall' x y b8 b7 b6 b5 W hi1 hi2 hi3 hi4 hnn hx1 hx2 hy1 hy2 k8 k7 k6 k5 hr hr'
 ·exact Zip1_3 iw ih a a' c c' n xs ys hn hn' hall hall' x y b8 b7 b6 b5 W hi1 hi2 hi3 hi4 hnn hx1 hx2 hy1 hy2 k8 k7 k6 k5 hr hr'
 ·exact Zip1_4 iw ih a a' c c' n xs ys hn hn' hall hall' x y b8 b7 b6 b5 W hi1 hi2 hi3 hi4 hnn hx1 hx2 hy1 hy2 k8 k7 k6 k5 hr hr'
 ·exact Zip1_5 iw ih a a' c c' n xs ys hn hn' hall hall' x y b8 b7 b6 b5 W hi1 hi2 hi3 hi4 hnn hx1 hx2 hy1 hy2 k8 k7 k6 k5 hr hr'
 ·exact Zip1_6 iw ih a a' c c' n xs ys hn hn' hall hall' x y b8 b7 b6 b5 W hi1 hi2 hi3 hi4 hnn hx1 hx2 hy1 hy2 k8 k7 k6 k5 hr hr'
end Go.Proofs.YtekiemlniegddaaGreat
namespace Go.Proofs.YtekiemlniegddaaGreat
open Go Go.RowKit Go.Shelf
/-- What Zip returns. -/
def zipS (iw ih : Int) (xs : List Int) (jw jh : Int) (ys : List Int) (how : Int) : ImR :=
 if vld iw ih xs = true then (if vld jw jh ys = true then (if decide (iw = jw ∧ ih = jh) = true then (if decide (1 ≤ how ∧ how ≤ 6) = true then { w := iw, h := ih, px := img iw.toNat ih.toNat (zipG iw xs ys how), err := 0 } else noIm 2) else noIm 21) else noIm 20) else noIm 20
set_option maxRecDepth 100000 in
set_option maxHeartbeats 4000000 in
theorem Zip_any (iw ih : Int) (a : Option Addr) (c n : Nat) (xs : List Int) (hn : Hid (xs.length = n)) (jw jh : Int) (a' : Option Addr) (c' n' : Nat) (ys : List Int) (hn' : Hid (ys.length = n')) (how : Int) (hw1 : 0 ≤ how) (hw2 : how ≤ 255) (w : World) (hm : n ≤ 9223372036854775807) (hm' : n' ≤ 9223372036854775807) (hr : Rd w.heap.size w a xs) (hr' : Rd w.heap.size w a' ys) :
  Calls Tryz.prog 33 #[imv iw ih a n c, imv jw jh a' n' c', .int .u8 how] w (RetIm w.heap.size (zipS iw ih xs jw jh ys how) w) := by
 have hB0 : Below w.heap.size w ((((w.alloc (.cells #[.int .i64 iw, .int .i64 ih, .slice a n c] 32)).alloc (.cells #[.int .i64 jw, .int .i64 jh, .slice a' n' c'] 32)).alloc (.cells #[.int .u8 how] 5)).alloc (.cells #[.int .i64 0, .int .i64 0, .slice none 0 0] 32)) := below_al (below_al (below_al (below_al (Below.refl _ _) _) _) _) _
 obtain ⟨v0, hv0⟩ : ∃ v, vld iw ih xs = v := ⟨_, rfl⟩
 obtain ⟨v1, hv1⟩ : ∃ v, vld jw jh ys = v := ⟨_, rfl⟩
 obtain ⟨v2, hv2⟩ : ∃ v, decide (iw = jw ∧ ih = jh) = v := ⟨_, rfl⟩
 obtain ⟨v3, hv3⟩ : ∃ v, decide (1 ≤ how ∧ how ≤ 6) = v := ⟨_, rfl⟩
 have hsp0 : zipS iw ih xs jw jh ys how = if v0 = true then (if v1 = true then (if v2 = true then (if v3 = true then { w := iw, h := ih, px := img iw.toNat ih.toNat (zipG iw xs ys how), err := 0 } else noIm 2) else noIm 21) else noIm 20) else noIm 20 := by
  simp only [zipS, hv0, hv1, hv2, hv3]
 have hsp := Lib.hid hsp0
 have v0H := Lib.hid hv0
 have v1H := Lib.hid hv1
 have v2H := Lib.hid hv2
 have v3H := Lib.hid hv3
 clear hv0 hv1 hv2 hv3 hsp0
 go_enter Tryz.func33, Tryz.ntmps33
 go_wp2_with fail
 refine (operations_any _).mono ?_
 rintro e W1 ⟨rfl, hb1⟩
 have hB1 : Below w.heap.size w W1 := hB0.trans (hb1.mono hB0.size)
 have k5 := ((((Blk.new w 32 #[.int .i64 iw, .int .i64 ih, .slice a n c]).alloc (.cells #[.int .i64 jw, .int .i64 jh, .slice a' n' c'] 32)).alloc (.cells #[.int .u8 how] 5)).alloc (.cells #[.int .i64 0, .int .i64 0, .slice none 0 0] 32)).below hb1 (by simp <;> omega)
 have k6 := (((Blk.new (w.alloc (.cells #[.int .i64 iw, .int .i64 ih, .slice a n c] 32)) 32 #[.int .i64 jw, .int .i64 jh, .slice a' n' c']).alloc (.cells #[.int .u8 how] 5)).alloc (.cells #[.int .i64 0, .int .i64 0, .slice none 0 0] 32)).below hb1 (by simp <;> omega)
 have k7 := ((Blk.new ((w.alloc (.cells #[.int .i64 iw, .int .i64 ih, .slice a n c] 32)).alloc (.cells #[.int .i64 jw, .int .i64 jh, .slice a' n' c'] 32)) 5 #[.int .u8 how]).alloc (.cells #[.int .i64 0, .int .i64 0, .slice none 0 0] 32)).below hb1 (by simp <;> omega)
 have k := (Blk.new (((w.alloc (.cells #[.int .i64 iw, .int .i64 ih, .slice a n c] 32)).alloc (.cells #[.int .i64 jw, .int .i64 jh, .slice a' n' c'] 32)).alloc (.cells #[.int .u8 how] 5)) 32 #[.int .i64 0, .int .i64 0, .slice none 0 0]).below hb1 (by simp <;> omega)
 simp only [World.size_alloc] at k k6 k7
 clear hb1 hB0
 have ka := k5.alloc (.cells #[.nilFunc, .func (.func 131) #[] #[], .func (.func 132) #[] #[], .func (.func 133) #[] #[], .func (.func 134) #[] #[], .func (.func 135) #[] #[], .func (.func 136) #[] #[]] 159)
 obtain ⟨m0, m1, m2⟩ := cz3 ka
 go_wp2_with fail
 have k8 := Blk.new W1 159 opsv
 have hb0 : Below W1.heap.size W1 (W1.alloc (.cells opsv 159)) := below_al (Below.refl _ _) _
 have hB2 := hB1.trans (hb0.mono hB1.size)
 refine (valid_any iw ih a c xs n hn _ hm ((hr.below (Nat.le_refl _) hB2).mono hB2.size)).mono ?_
 rintro e W3 ⟨rfl, hb⟩
 rw [v0H.out]
 have hB3 := hB2.trans (hb.mono hB2.size)
 clear m0 m1 m2 ka
 replace k8 := k8.below hb k8.lt
 obtain ⟨M, hM⟩ : ∃ M, W1.heap.size = M := ⟨_, rfl⟩
 rw [hM] at k8 ⊢
 clear hM
 replace k := k.below hb0 k.lt
 replace k5 := k5.below hb0 k5.lt
 replace k6 := k6.below hb0 k6.lt
 replace k7 := k7.below hb0 k7.lt
 replace k := k.below hb k.lt
 replace k5 := k5.below hb k5.lt
 replace k6 := k6.below hb k6.lt
 replace k7 := k7.below hb k7.lt
 clear hb hb0
 have hlt := k.lt
 obtain ⟨c0, c1, c2⟩ := cz3 k
 have fc0 := k.frozen 0
 have fc1 := k.frozen 1
 have fc2 := k.frozen 2
 obtain ⟨m0, m1, m2⟩ := cz3 k5
 obtain ⟨j0, j1, j2⟩ := cz3 k6
 have h0 := k7.cell (i := 0) rfl
 cases v0 with
 | false =>
  go_wp2_with fail
  have kf := put3_blk k (.int .i64 0) (.int .i64 0) (.slice none 0 0)
  obtain ⟨g0, g1, g2⟩ := cz3 kf
  exact bodyPost_ret (v := .tuple #[.agg #[.int .i64 0, .int .i64 0, .slice none 0 0], .int .i64 20]) (by simp [results, Tryz.results33, go_sem, g0, g1, g2]) rfl ⟨⟨_, by rw [hsp.out]; rfl, by rw [hsp.out]; exact OwnIm_nil _ _⟩, hB3.trans (put3_below (by omega) _ _ _)⟩
 | true =>
  go_wp2_with fail
  refine (valid_any jw jh a' c' ys n' hn' _ hm' ((hr'.below (Nat.le_refl _) hB3).mono hB3.size)).mono ?_
  rintro e W4 ⟨rfl, hb⟩
  rw [v1H.out]
  have hB4 := hB3.trans (hb.mono hB3.size)
  clear c0 c1 c2 fc0 fc1 fc2
  replace k := k.below hb k.lt
  obtain ⟨c0, c1, c2⟩ := cz3 k
  have fc0 := k.frozen 0
  have fc1 := k.frozen 1
  have fc2 := k.frozen 2
  clear m0 m1 m2
  replace k5 := k5.below hb k5.lt
  obtain ⟨m0, m1, m2⟩ := cz3 k5
  clear j0 j1 j2
  replace k6 := k6.below hb k6.lt
  obtain ⟨j0, j1, j2⟩ := cz3 k6
  clear h0
  replace k7 := k7.below hb k7.lt
  have h0 := k7.cell (i := 0) rfl
  replace k8 := k8.below hb k8.lt
  clear hb
  replace hlt := k.lt
  cases v1 with
  | false =>
   go_wp2_with fail
   have kf := put3_blk k (.int .i64 0) (.int .i64 0) (.slice none 0 0)
   obtain ⟨g0, g1, g2⟩ := cz3 kf
   exact bodyPost_ret (v := .tuple #[.agg #[.int .i64 0, .int .i64 0, .slice none 0 0], .int .i64 20]) (by simp [results, Tryz.results33, go_sem, g0, g1, g2]) rfl ⟨⟨_, by rw [hsp.out]; rfl, by rw [hsp.out]; exact OwnIm_nil _ _⟩, hB4.trans (put3_below (by omega) _ _ _)⟩
  | true =>
   cases v2 with
   | false =>
    have hq := v2H.out
    simp only [decide_eq_false_iff_not] at hq
    by_cases e1 : iw = jw
    ·have e2 : ¬ ih = jh := fun e2 => hq ⟨e1, e2⟩
     clear hq
     subst e1
     go_wp2_with fail
     have kf := put3_blk k (.int .i64 0) (.int .i64 0) (.slice none 0 0)
     obtain ⟨g0, g1, g2⟩ := cz3 kf
     exact bodyPost_ret (v := .tuple #[.agg #[.int .i64 0, .int .i64 0, .slice none 0 0], .int .i64 21]) (by simp [results, Tryz.results33, go_sem, g0, g1, g2]) rfl ⟨⟨_, by rw [hsp.out]; rfl, by rw [hsp.out]; exact OwnIm_nil _ _⟩, hB4.trans (put3_below (by omega) _ _ _)⟩
    ·clear hq
     go_wp2_with fail
     have kf := put3_blk k (.int .i64 0) (.int .i64 0) (.slice none 0 0)
     obtain ⟨g0, g1, g2⟩ := cz3 kf
     exact bodyPost_ret (v := .tuple #[.agg #[.int .i64 0, .int .i64 0, .slice none 0 0], .int .i64 21]) (by simp [results, Tryz.results33, go_sem, g0, g1, g2]) rfl ⟨⟨_, by rw [hsp.out]; rfl, by rw [hsp.out]; exact OwnIm_nil _ _⟩, hB4.trans (put3_below (by omega) _ _ _)⟩
   | true =>
    have hq := v2H.out
    simp only [decide_eq_true_eq] at hq
    obtain ⟨e1, e2⟩ := hq
    subst e1 e2
    cases v3 with
    | false =>
     have hq := v3H.out
     simp only [decide_eq_false_iff_not] at hq
     by_cases e1 : how < 1
     ·clear hq
      go_wp2_with fail
      have kf := put3_blk k (.int .i64 0) (.int .i64 0) (.slice none 0 0)
      obtain ⟨g0, g1, g2⟩ := cz3 kf
      exact bodyPost_ret (v := .tuple #[.agg #[.int .i64 0, .int .i64 0, .slice none 0 0], .int .i64 2]) (by simp [results, Tryz.results33, go_sem, g0, g1, g2]) rfl ⟨⟨_, by rw [hsp.out]; rfl, by rw [hsp.out]; exact OwnIm_nil _ _⟩, hB4.trans (put3_below (by omega) _ _ _)⟩
     ·have e2 : 7 ≤ how := by omega
      clear hq
      go_wp2_with fail
      have kf := put3_blk k (.int .i64 0) (.int .i64 0) (.slice none 0 0)
      obtain ⟨g0, g1, g2⟩ := cz3 kf
      exact bodyPost_ret (v := .tuple #[.agg #[.int .i64 0, .int .i64 0, .slice none 0 0], .int .i64 2]) (by simp [results, Tryz.results33, go_sem, g0, g1, g2]) rfl ⟨⟨_, by rw [hsp.out]; rfl, by rw [hsp.out]; exact OwnIm_nil _ _⟩, hB4.trans (put3_below (by omega) _ _ _)⟩
    | true =>
     have hq := v3H.out
     simp only [decide_eq_true_eq] at hq
     obtain ⟨hh1, hh2⟩ := hq
     obtain ⟨⟨i1, i2⟩, ⟨i3, i4⟩, hlen, hall⟩ := vld_true v0H.out
     obtain ⟨_, _, hlen', hall'⟩ := vld_true v1H.out
     rw [hn.out] at hlen
     rw [hn'.out] at hlen'
     obtain rfl : n = n' := by omega
     have hlenH := Lib.hid hlen
     have hallH := Lib.hid hall
     have hallH' := Lib.hid hall'
     clear hlen hall hlen' hall'
     obtain ⟨pw, rfl⟩ : ∃ pw : Nat, iw = (pw : Int) := ⟨iw.toNat, by omega⟩
     obtain ⟨ph, rfl⟩ : ∃ ph : Nat, ih = (ph : Int) := ⟨ih.toNat, by omega⟩
     go_wp2_with fail
     refine (made_any pw ph (by omega) (by omega) (by omega) (by omega) 89 #[.pointer (some ⟨M, 0, none⟩), .pointer (some ⟨w.heap.size + 1 + 1, 0, none⟩), .pointer (some ⟨w.heap.size, 0, none⟩), .pointer (some ⟨w.heap.size + 1, 0, none⟩)] (enters_of Tryz.func89 (by kernel_rfl) rfl) (zipG pw xs ys how) W4 (fun x y W hx hy hb => ?_)).mono ?_
     ·exact Zip1_any how hh1 hh2 pw ph a a' c c' n xs ys hn hn' hallH hallH' x y M (w.heap.size + 1 + 1) (w.heap.size + 1) w.heap.size W i1 i2 i3 i4 hlenH (by omega) (by omega) (by omega) (by omega) (k8.below hb k8.lt) (k7.below hb k7.lt) (k6.below hb k6.lt) (k5.below hb k5.lt) ((hr.below (Nat.le_refl _) (hB4.trans (hb.mono hB4.size))).mono (Nat.le_trans hB4.size hb.size)) ((hr'.below (Nat.le_refl _) (hB4.trans (hb.mono hB4.size))).mono (Nat.le_trans hB4.size hb.size))
     rintro e W7 ⟨v, rfl, ⟨s, rfl, hrow⟩, hb2⟩
     clear c0 c1 c2 fc0 fc1 fc2
     replace k := k.below hb2 k.lt
     obtain ⟨c0, c1, c2⟩ := cz3 k
     have fc0 := k.frozen 0
     have fc1 := k.frozen 1
     have fc2 := k.frozen 2
     obtain ⟨sa, sc, rfl⟩ := row_slice hrow
     go_wp2_with fail
     have kf := put3_blk k (.int .i64 pw) (.int .i64 ph) (.slice sa (img pw ph (zipG pw xs ys how)).length sc)
     obtain ⟨g0, g1, g2⟩ := cz3 kf
     exact bodyPost_ret (v := .tuple #[.agg #[.int .i64 pw, .int .i64 ph, .slice sa (img pw ph (zipG pw xs ys how)).length sc], .int .i64 0]) (by simp [results, Tryz.results33, go_sem, g0, g1, g2]) rfl ⟨⟨_, by rw [hsp.out]; rfl, by rw [hsp.out]; exact OwnIm.weaken ⟨_, rfl, put3_row hrow (k.not_row (by decide) hrow) _ _ _⟩ hB4.size⟩, (hB4.trans (hb2.mono hB4.size)).trans (put3_below (by omega) _ _ _)⟩
end Go.Proofs.YtekiemlniegddaaGreat
namespace Go.Proofs.YtekiemlniegddaaGreat
def sumTo (f : Nat → Int) : Nat → Int
 | 0 => 0
 | k + 1 => sumTo f k + f k
/-! ### The list of all sums -/
end Go.Proofs.YtekiemlniegddaaGreat
namespace Go.Proofs.YtekiemlniegddaaGreat
/-- The columns', the rows' difference of two indexes. -/
def dX (pw i k : Nat) : Nat := (((i % pw : Nat) : Int) - ((k % pw : Nat) : Int)).natAbs
def dY (pw i k : Nat) : Nat := (((i / pw : Nat) : Int) - ((k / pw : Nat) : Int)).natAbs
def l1 (pw i k : Nat) : Nat := dX pw i k + dY pw i k
theorem idx_split (pw i : Nat) : i / pw * pw + i % pw = i := by rw [Nat.mul_comm]; exact Nat.div_add_mod i pw
/-! ### The least distance to a pixel with the value 0 -/
/-! ### Narrowing down -/
/-! ### Parts: what grows from a pixel on -/
/-! ### The neighbours of a pixel, by their places around it -/
end Go.Proofs.YtekiemlniegddaaGreat
namespace Go.Proofs.YtekiemlniegddaaGreat
theorem rest_emod (a b : Int) (hb : 1 ≤ b) : (a.tmod b + b).tmod b = a % b := by
 have h1 : 0 ≤ a % b := Int.emod_nonneg _ (by omega)
 have h2 : a % b < b := Int.emod_lt_of_pos _ (by omega)
 have h3 : a.tmod b = a % b ∨ a.tmod b = a % b - b := by
  rw [Int.tmod_eq_emod]
  split
  ·left; omega
  ·right; omega
 rcases h3 with h | h
 ·rw [h, Int.tmod_eq_emod_of_nonneg (by omega), Int.add_emod_right, Int.emod_emod_of_dvd _ (Int.dvd_refl b)]
 ·rw [h, show a % b - b + b = a % b by omega, Int.tmod_eq_emod_of_nonneg h1, Int.emod_emod_of_dvd _ (Int.dvd_refl b)]
/-! ### The table of a composition -/
end Go.Proofs.YtekiemlniegddaaGreat
namespace Go.Proofs.YtekiemlniegddaaGreat
/-- The greatest (mx) or least of the values 'val' with numbers below t that count ('ok'). -/
def morTo (mx : Bool) (ok : Nat → Bool) (val : Nat → Int) : Nat → Int
 | 0 => if mx = true then -2147483648 else 2147483648
 | t + 1 => if ok t = true then (if mx = true then max (morTo mx ok val t) (val t) else min (morTo mx ok val t) (val t)) else morTo mx ok val t
theorem mor_bd {mx : Bool} {ok : Nat → Bool} {val : Nat → Int} (h : ∀ t, -2147483648 ≤ val t ∧ val t ≤ 2147483648) (n : Nat) : -2147483648 ≤ morTo mx ok val n ∧ morTo mx ok val n ≤ 2147483648 := by
 induction n with
 | zero => cases mx <;> simp [morTo]
 | succ n ih =>
  have := h n
  simp only [morTo]
  split
  ·split <;> omega
  ·exact ih
end Go.Proofs.YtekiemlniegddaaGreat
namespace Go.Proofs.YtekiemlniegddaaGreat
open Go Go.RowKit Go.Shelf
/-- The slice at 'a' reads as the truth values 'bs', in blocks below 'B'. -/
def RdB (B : Nat) (W : World) (a : Option Addr) (bs : List Bool) : Prop :=
 bs = [] ∨ ∃ b o, a = some ⟨b, o, none⟩ ∧ b < B ∧ ∀ i, i < bs.length → W.cell? ⟨b, o + i, none⟩ = some (.bool (bs[i]?.getD false))
theorem RdB.below {B B' : Nat} {W W' : World} {a : Option Addr} {bs : List Bool} (h : RdB B W a bs) (hB : B ≤ B') (hb : Below B' W W') : RdB B W' a bs := by
 rcases h with h | ⟨b, o, h1, h2, h3⟩
 ·exact .inl h
 ·exact .inr ⟨b, o, h1, h2, fun i hi => (hb.cell (p := ⟨b, o + i, none⟩) (by show b < B'; omega)).trans (h3 i hi)⟩
theorem RdB.mono {B B' : Nat} {W : World} {a : Option Addr} {bs : List Bool} (h : RdB B W a bs) (hB : B ≤ B') : RdB B' W a bs := by
 rcases h with h | ⟨b, o, h1, h2, h3⟩
 ·exact .inl h
 ·exact .inr ⟨b, o, h1, by omega, h3⟩
theorem rdB_at {B : Nat} {W : World} {a : Option Addr} {bs : List Bool} {n : Nat} (h : RdB B W a bs) (hn : bs.length = n) (h0 : 0 < n) : ∃ b o, a = some ⟨b, o, none⟩ ∧ b < B ∧ ∀ i, i < n → W.cell? ⟨b, o + i, none⟩ = some (.bool (bs[i]?.getD false)) := by
 rcases h with h | ⟨b, o, h1, h2, h3⟩
 ·subst h; simp at hn; omega
 ·exact ⟨b, o, h1, h2, fun i hi => h3 i (by omega)⟩
/-- A number may be a side. -/
def sideB (n : Int) : Bool := decide (n = 1 ∨ n = 3 ∨ n = 5)
theorem sideB_true {n : Int} (h : sideB n = true) : n = 1 ∨ n = 3 ∨ n = 5 := of_decide_eq_true h
/-! ### Lists that contain a value -/
theorem anyTo_succ {α : Type} (p : α → Bool) {xs : List α} {k : Nat} {x : α} (hx : xs[k]? = some x) : (xs.take (k + 1)).any p = ((xs.take k).any p || p x) := by
 rw [List.take_add_one, hx, List.any_append]
 simp
set_option maxHeartbeats 1000000 in
theorem index_int (v : Int) (a : Option Addr) (c n : Nat) (xs : List Int) (hn : Hid (xs.length = n)) (w : World) (hm : n ≤ 9223372036854775807) (hr : Rd w.heap.size w a xs) :
  Calls Tryz.prog 155 #[.slice a n c, .int .i64 v] w fun e w' => (∃ r : Int, e = .returned (.int .i64 r) ∧ decide (0 ≤ r) = xs.any (fun x => decide (v = x))) ∧ w = w' := by
 go_enter Tryz.func155, Tryz.ntmps155
 go_wp2_with fail
 go_loop [5, 8] (fun u i => ∃ k : Nat, k ≤ n ∧ i = .int .i64 (k : Int) ∧ Hid ((xs.take k).any (fun x => decide (v = x)) = false)) (fun u i => n - (intOf i).toNat)
 case atStart => exact ⟨0, Nat.zero_le _, rfl, Lib.hid rfl⟩
 case round =>
  obtain ⟨k, hk, rfl, hall⟩ := hrel
  by_cases hlt : k < n
  ·obtain ⟨b, o, rfl, hb, hc⟩ := rd_at hr hn.out (by omega)
   have hcell := hc k hlt
   have hs := anyTo_succ (fun x => decide (v = x)) (xs := xs) (k := k) (x := px xs k) (by unfold px; simp only [Int.toNat_natCast]; rw [List.getElem?_eq_getElem (by rw [hn.out]; exact hlt)]; rfl)
   rw [hall.out, Bool.false_or] at hs
   have hany : decide (v = px xs k) = true → xs.any (fun x => decide (v = x)) = true := by
    intro h
    rw [h] at hs
    rw [← List.take_append_drop (k + 1) xs, List.any_append, hs]; rfl
   generalize px xs k = x at *
   have hsH := Lib.hid hs
   have haH := Lib.hid hany
   clear hc hs hany
   by_cases hx : v = x
   ·subst hx
    go_wp2_with fail
    go_ret
    exact ⟨⟨k, rfl, by rw [haH.out (by simp)]; simp⟩, rfl⟩
   ·go_wp2_with fail
    go_round
    case rel => exact ⟨k + 1, by omega, by go_num, Lib.hid (by rw [hsH.out]; simp [hx])⟩
    case measure => simp [intOf]; omega
  ·go_wp2_with fail
   go_ret
   refine ⟨⟨-1, rfl, ?_⟩, rfl⟩
   have h := hall.out
   rw [List.take_of_length_le (by have := hn.out; omega)] at h
   rw [h]; rfl
set_option maxHeartbeats 1000000 in
theorem index_bool (v : Bool) (a : Option Addr) (c n : Nat) (xs : List Bool) (hn : Hid (xs.length = n)) (w : World) (hm : n ≤ 9223372036854775807) (hr : RdB w.heap.size w a xs) :
  Calls Tryz.prog 154 #[.slice a n c, .bool v] w fun e w' => (∃ r : Int, e = .returned (.int .i64 r) ∧ decide (0 ≤ r) = xs.any (fun x => decide (v = x))) ∧ w = w' := by
 go_enter Tryz.func154, Tryz.ntmps154
 go_wp2_with fail
 go_loop [5, 8] (fun u i => ∃ k : Nat, k ≤ n ∧ i = .int .i64 (k : Int) ∧ Hid ((xs.take k).any (fun x => decide (v = x)) = false)) (fun u i => n - (intOf i).toNat)
 case atStart => exact ⟨0, Nat.zero_le _, rfl, Lib.hid rfl⟩
 case round =>
  obtain ⟨k, hk, rfl, hall⟩ := hrel
  by_cases hlt : k < n
  ·obtain ⟨b, o, rfl, hb, hc⟩ := rdB_at hr hn.out (by omega)
   have hcell := hc k hlt
   have hs := anyTo_succ (fun x => decide (v = x)) (xs := xs) (k := k) (x := xs[k]?.getD false) (by rw [List.getElem?_eq_getElem (by rw [hn.out]; exact hlt)]; rfl)
   rw [hall.out, Bool.false_or] at hs
   have hany : decide (v = xs[k]?.getD false) = true → xs.any (fun x => decide (v = x)) = true := by
    intro h
    rw [h] at hs
    rw [← List.take_append_drop (k + 1) xs, List.any_append, hs]; rfl
   generalize xs[k]?.getD false = x at *
   have hsH := Lib.hid hs
   have haH := Lib.hid hany
   clear hc hs hany
   by_cases hx : v = x
   ·subst hx
    go_wp2_with fail
    go_ret
    exact ⟨⟨k, rfl, by rw [haH.out (by simp)]; simp⟩, rfl⟩
   ·have hxb : (v == x) = false := by simpa using hx
    have hx2 := Lib.hid (show decide (v = x) = false by simpa using hx)
    clear hx
    go_wp2_with fail
    go_round
    case rel => exact ⟨k + 1, by omega, by go_num, Lib.hid (by rw [hsH.out, hx2.out])⟩
    case measure => simp [intOf]; omega
  ·go_wp2_with fail
   go_ret
   refine ⟨⟨-1, rfl, ?_⟩, rfl⟩
   have h := hall.out
   rw [List.take_of_length_le (by have := hn.out; omega)] at h
   rw [h]; rfl
theorem contains_int (v : Int) (r : Bool) (a : Option Addr) (c n : Nat) (xs : List Int) (hn : Hid (xs.length = n)) (hres : Hid (xs.any (fun x => decide (v = x)) = r)) (w : World) (hm : n ≤ 9223372036854775807) (hr : Rd w.heap.size w a xs) :
  Calls Tryz.prog 153 #[.slice a n c, .int .i64 v] w fun e w' => e = .returned (.bool r) ∧ w = w' := by
 go_enter Tryz.func153, Tryz.ntmps153
 go_wp2_with fail
 refine (index_int v a c n xs hn w hm hr).mono ?_
 rintro e w' ⟨⟨i, rfl, hi⟩, rfl⟩
 have hiH := Lib.hid (hi.trans hres.out)
 clear hi
 go_wp2_with fail
 go_ret
 exact ⟨ret_bool hiH.out, rfl⟩
theorem contains_bool (v r : Bool) (a : Option Addr) (c n : Nat) (xs : List Bool) (hn : Hid (xs.length = n)) (hres : Hid (xs.any (fun x => decide (v = x)) = r)) (w : World) (hm : n ≤ 9223372036854775807) (hr : RdB w.heap.size w a xs) :
  Calls Tryz.prog 142 #[.slice a n c, .bool v] w fun e w' => e = .returned (.bool r) ∧ w = w' := by
 go_enter Tryz.func142, Tryz.ntmps142
 go_wp2_with fail
 refine (index_bool v a c n xs hn w hm hr).mono ?_
 rintro e w' ⟨⟨i, rfl, hi⟩, rfl⟩
 have hiH := Lib.hid (hi.trans hres.out)
 clear hi
 go_wp2_with fail
 go_ret
 exact ⟨ret_bool hiH.out, rfl⟩
theorem contains3 (v : Int) (r : Bool) (hres : Hid (sideB v = r)) (c : Nat) (w : World) (b : Nat) (k : Blk w b 3 #[.int .i64 1, .int .i64 3, .int .i64 5]) :
  Calls Tryz.prog 153 #[.slice (some ⟨b, 0, none⟩) 3 c, .int .i64 v] w fun e w' => e = .returned (.bool r) ∧ w = w' :=
 contains_int v r (some ⟨b, 0, none⟩) c 3 [1, 3, 5] (Lib.hid rfl) (Lib.hid (by rw [← hres.out]; simp [sideB, Bool.or_assoc])) w (by omega) (.inr ⟨b, 0, rfl, k.lt, fun i hi => by
  have : i = 0 ∨ i = 1 ∨ i = 2 := by simp at hi; omega
  rcases this with rfl | rfl | rfl <;> exact k.cell rfl⟩)
/-- Two numbers are sides of something with n entries. -/
def sidesB (sw sh : Int) (n : Nat) : Bool := (sideB sw && sideB sh) && decide ((n : Int) = sw * sh)
theorem sidesB_true {sw sh : Int} {n : Nat} (h : sidesB sw sh n = true) : (sw = 1 ∨ sw = 3 ∨ sw = 5) ∧ (sh = 1 ∨ sh = 3 ∨ sh = 5) ∧ (n : Int) = sw * sh := by
 simp only [sidesB, Bool.and_eq_true, decide_eq_true_eq] at h
 exact ⟨sideB_true h.1.1, sideB_true h.1.2, h.2⟩
set_option maxHeartbeats 1000000 in
theorem sides_any (sw sh : Int) (n : Nat) (r : Bool) (hres : Hid (sidesB sw sh n = r)) (w : World) :
  Calls Tryz.prog 137 #[.int .i64 sw, .int .i64 sh, .int .i64 n] w fun e w' => e = .returned (.bool r) ∧ Below w.heap.size w w' := by
 have k1 := Blk.new w 3 #[.int .i64 1, .int .i64 3, .int .i64 5]
 have k2 := Blk.new (w.alloc (.cells #[.int .i64 1, .int .i64 3, .int .i64 5] 3)) 3 #[.int .i64 1, .int .i64 3, .int .i64 5]
 simp only [World.size_alloc] at k2
 have hB1 := below_al (Below.refl _ w) (.cells #[.int .i64 1, .int .i64 3, .int .i64 5] 3)
 have hB2 := below_al hB1 (.cells #[.int .i64 1, .int .i64 3, .int .i64 5] 3)
 obtain ⟨v1, hv1⟩ : ∃ v, sideB sw = v := ⟨_, rfl⟩
 have h1 := Lib.hid hv1
 obtain ⟨v2, hv2⟩ : ∃ v, sideB sh = v := ⟨_, rfl⟩
 have h2 := Lib.hid hv2
 have hres' : ((v1 && v2) && decide ((n : Int) = sw * sh)) = r := by rw [← hv1, ← hv2]; exact hres.out
 have hr' := Lib.hid hres'
 clear hv1 hv2 hres'
 cases v1 with
 | false =>
  go_enter Tryz.func137, Tryz.ntmps137
  go_wp2_with fail
  refine (contains3 sw false h1 _ _ _ k1).mono ?_
  rintro e w' ⟨rfl, rfl⟩
  go_wp2_with fail
  go_ret
  exact ⟨ret_bool hr'.out, hB1⟩
 | true =>
  cases v2 with
  | false =>
   go_enter Tryz.func137, Tryz.ntmps137
   go_wp2_with fail
   refine (contains3 sw true h1 _ _ _ k1).mono ?_
   rintro e w' ⟨rfl, rfl⟩
   go_wp2_with fail
   refine (contains3 sh false h2 _ _ _ k2).mono ?_
   rintro e w' ⟨rfl, rfl⟩
   go_wp2_with fail
   go_ret
   exact ⟨ret_bool hr'.out, hB2⟩
  | true =>
   have m := sideB_true h1.out
   have m' := sideB_true h2.out
   obtain ⟨m1, m2⟩ := mul_small (a := sw) (b := sh) (m := 5) (n := 5) (by omega) (by omega) (by omega) (by omega)
   clear m m'
   go_enter Tryz.func137, Tryz.ntmps137
   go_wp2_with fail
   refine (contains3 sw true h1 _ _ _ k1).mono ?_
   rintro e w' ⟨rfl, rfl⟩
   go_wp2_with fail
   refine (contains3 sh true h2 _ _ _ k2).mono ?_
   rintro e w' ⟨rfl, rfl⟩
   go_wp2_with fail
   go_ret
   exact ⟨ret_bool (by rw [← hr'.out]; simp [len_dec]), hB2⟩
/-- A shape is valid. -/
def shapeOk (sw sh : Int) (bs : List Bool) : Bool := sidesB sw sh bs.length && bs.any (fun x => decide (true = x))
end Go.Proofs.YtekiemlniegddaaGreat
namespace Go.Proofs.YtekiemlniegddaaGreat
open Go Go.RowKit Go.Shelf
theorem px_bdB {l : List Int} {B : Int} (hB : 0 ≤ B) (h : allIn (-B) B l = true) (i : Int) : -B ≤ px l i ∧ px l i ≤ B := by
 unfold px
 rcases Nat.lt_or_ge i.toNat l.length with h1 | h1
 ·rw [List.getElem?_eq_getElem h1]
  exact allIn_mem h (List.getElem_mem h1)
 ·rw [List.getElem?_eq_none h1]
  simp; omega
end Go.Proofs.YtekiemlniegddaaGreat

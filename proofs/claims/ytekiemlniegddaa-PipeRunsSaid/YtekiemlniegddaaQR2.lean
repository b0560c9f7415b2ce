/- Contracts and laws (ImgE, ImgF, ImgH, ImgI, ImgJ, ImgK, Near, ImgW, PpL, PpR, Net, ND, JX, JS, PAp). -/
import Derived.Laws.AppendOwnNone
import Derived.Maps.Own
import Derived.Lib.Hide
import Derived.Shelf.Bits.Mul64
import Derived.Laws.CopyOwn
import Derived.Lib.MinMax
import Derived.Test.YtekiemlniegddaaQR1
set_option linter.unusedVariables false
set_option linter.unusedSimpArgs false
namespace Go.Proofs.Ytekiemlniegddaa
open Go Go.RowKit Go.Shelf
/-- What a row of integers holds can be read. -/
theorem row_rd {W : World} {base : Nat} {a : Option Addr} {c : Nat} {xs : List Int} (h : W.ownsRow base 3 1 (.slice a xs.length c) xs.length (xs.map (Value.int .i64))) : Rd W.heap.size W a xs := by
 rcases h.2 with ⟨h1, h2⟩ | ⟨g, cap, cur, h1, _, hg, _⟩
 ·exact .inl (List.eq_nil_of_length_eq_zero h2)
 ·simp only [Value.slice.injEq, true_and] at h1
  obtain ⟨rfl, rfl⟩ := h1
  refine .inr ⟨g, 0, rfl, (Array.getElem?_eq_some_iff.1 hg).1, fun i hi => ?_⟩
  have := h.cellAt i (by omega)
  rw [Nat.zero_add, this]
  simp [hi]
theorem row_rd' {W : World} {base : Nat} {a : Option Addr} {c n : Nat} {xs : List Int} (hn : xs.length = n) (h : W.ownsRow base 3 1 (.slice a n c) n (xs.map (Value.int .i64))) : Rd W.heap.size W a xs := by
 subst hn; exact row_rd h
theorem row_nil {W : World} {base : Nat} {e : TypeId} {size : Nat} {n c : Nat} {xs : List Value} (h : W.ownsRow base e size (.slice none n c) n xs) : n = 0 ∧ c = 0 := by
 rcases h.2 with ⟨h1, h2⟩ | ⟨g, cap, cur, h1, _⟩
 ·simp only [Value.slice.injEq, true_and] at h1; exact ⟨h2, h1.2⟩
 ·simp at h1
set_option maxHeartbeats 1000000 in
theorem Twin_any (iw ih : Int) (a : Option Addr) (c n : Nat) (xs : List Int) (hn : Hid (xs.length = n)) (w : World) (hm : n * 8 ≤ 140737488355328) (hr : Rd w.heap.size w a xs) (hnil : Hid (a = none → n = 0 ∧ c = 0)) :
  Calls Try.prog 30 #[imv iw ih a n c] w fun e w' => ∃ v, e = .returned v ∧ OwnIm w.heap.size w' v iw ih xs ∧ Below w.heap.size w w' := by
 obtain ⟨i0, hi, hz0, hz1, hz2⟩ := info_parts info_int
 have k1 := (Blk.new w 29 #[.int .i64 iw, .int .i64 ih, .slice a n c]).alloc (.cells #[.int .i64 0, .int .i64 0, .slice none 0 0] 29)
 have k2 := Blk.new (w.alloc (.cells #[.int .i64 iw, .int .i64 ih, .slice a n c] 29)) 29 #[.int .i64 0, .int .i64 0, .slice none 0 0]
 have hB : Below w.heap.size w ((w.alloc (.cells #[.int .i64 iw, .int .i64 ih, .slice a n c] 29)).alloc (.cells #[.int .i64 0, .int .i64 0, .slice none 0 0] 29)) := below_al (below_al (Below.refl _ _) _) _
 obtain ⟨W, hW⟩ : ∃ W, (w.alloc (.cells #[.int .i64 iw, .int .i64 ih, .slice a n c] 29)).alloc (.cells #[.int .i64 0, .int .i64 0, .slice none 0 0] 29) = W := ⟨_, rfl⟩
 rw [hW] at k1 k2 hB
 simp only [World.size_alloc] at k2
 have rest : ∀ v W2, W2.ownsRow w.heap.size 3 1 v xs.length (xs.map (Value.int .i64)) → W.grownBy W2 none → ∃ s cc, v = .slice s n cc ∧ Blk W2 w.heap.size 29 #[.int .i64 iw, .int .i64 ih, .slice a n c] ∧ Blk W2 (w.heap.size + 1) 29 #[.int .i64 0, .int .i64 0, .slice none 0 0] ∧ Below w.heap.size w W2 := by
  intro v W2 hrow hg
  obtain ⟨s, cc, hs⟩ := row_slice hrow
  rw [hn.out] at hs
  exact ⟨s, cc, hs, k1.kept hg (by simp), k2.kept hg (by simp), hB.grown hg hB.size (fun k e => by cases e)⟩
 have fin : ∀ (s : Option Addr) (cc : Nat) (W2 : World), W2.ownsRow w.heap.size 3 1 (.slice s n cc) xs.length (xs.map (Value.int .i64)) → Blk W2 w.heap.size 29 #[.int .i64 iw, .int .i64 ih, .slice a n c] → Blk W2 (w.heap.size + 1) 29 #[.int .i64 0, .int .i64 0, .slice none 0 0] → Below w.heap.size w W2 →
   Blk (put3 (W2.setCell ⟨w.heap.size, 2, none⟩ (.slice s n cc)) (w.heap.size + 1) (.int .i64 iw) (.int .i64 ih) (.slice s n cc)) (w.heap.size + 1) 29 #[.int .i64 iw, .int .i64 ih, .slice s n cc] ∧
   OwnIm w.heap.size (put3 (W2.setCell ⟨w.heap.size, 2, none⟩ (.slice s n cc)) (w.heap.size + 1) (.int .i64 iw) (.int .i64 ih) (.slice s n cc)) (.agg #[.int .i64 iw, .int .i64 ih, .slice s n cc]) iw ih xs ∧ Below w.heap.size w (put3 (W2.setCell ⟨w.heap.size, 2, none⟩ (.slice s n cc)) (w.heap.size + 1) (.int .i64 iw) (.int .i64 ih) (.slice s n cc)) := by
  intro s cc W2 hrow h1 h2 hb
  have hrow2 := row_setCell hrow (a := ⟨w.heap.size, 2, none⟩) (h1.not_row (by decide) hrow) (.slice s n cc)
  have h3 := h2.other (a := ⟨w.heap.size, 2, none⟩) (by simp) (.slice s n cc)
  exact ⟨put3_blk h3 _ _ _, ⟨_, rfl, put3_row hrow2 (h3.not_row (by decide) hrow2) _ _ _⟩, (hb.setCell (p := ⟨w.heap.size, 2, none⟩) (Nat.le_refl _) _).trans (put3_below (by omega) _ _ _)⟩
 obtain ⟨c0, c1, c2⟩ := cz3 k1
 go_enter Try.func30, Try.ntmps30
 cases a with
 | none =>
  obtain ⟨hn0, hc0⟩ := hnil.out rfl
  subst hn0 hc0
  have hx : xs = [] := List.eq_nil_of_length_eq_zero hn.out
  subst hx
  clear fin rest c0 c1 c2 k1 k2 hB hW hr hnil
  clear W
  go_wp2_with (at_builtin; refine wpList_append_own_none rfl _ _ 27 rfl w.heap.size 3 i0 1 Try.underlying27 hi (.slice none 0 0) 0 [] rfl (World.ownsRow_nil _ _ _ _) rfl ?_)
  exact bodyPost_ret (v := .agg #[.int .i64 iw, .int .i64 ih, .slice none 0 0]) (by simp [results, Try.results30, go_sem]) rfl ⟨_, rfl, ⟨_, rfl, World.ownsRow_nil _ _ _ _⟩, below_al (below_al (Below.refl _ _) _) _⟩
 | some ad =>
  have hcells : ∀ j u, (xs.map (Value.int .i64))[j]? = some u → W.cell? (ad.add j) = some u := by
   intro j u hu
   rcases hr with h0 | ⟨b, o, h1, h2, h3⟩
   ·rw [h0] at hu; simp at hu
   ·simp only [Option.some.injEq] at h1
    subst h1
    have hj : j < xs.length := by
     rcases Nat.lt_or_ge j xs.length with h | h
     ·exact h
     ·rw [List.getElem?_eq_none (by simpa using h)] at hu; cases hu
    have hadd : (⟨b, o, none⟩ : Addr).add j = ⟨b, o + j, none⟩ := by unfold Addr.add; split <;> simp_all
    rw [hadd, hB.cell (p := ⟨b, o + j, none⟩) h2, h3 j hj]
    simp [hj] at hu ⊢
    exact hu
  have hone : ∀ u ∈ xs.map (Value.int .i64), u.oneCell' = true := by
   intro u hu
   obtain ⟨x, _, rfl⟩ := List.mem_map.1 hu
   rfl
  have hcellsH := Lib.hid hcells
  have honeH := Lib.hid hone
  have hlen : (xs.map (Value.int .i64)).length = n * 1 := by rw [List.length_map, hn.out, Nat.mul_one]
  have hlenH := Lib.hid hlen
  clear hcells hone hlen
  have hWH := Lib.hid hW
  clear hW
  go_wp2_with (at_builtin; refine wpList_append_own _ rfl _ _ 27 rfl w.heap.size 3 i0 (.int .i64 0) 1 8 Try.underlying27 hi hz0 hz1 hz2 rfl (by decide) (.slice none 0 0) 0 [] rfl (World.ownsRow_nil _ _ _ _) ad n c (xs.map (Value.int .i64)) rfl hlenH.out (by rw [hWH.out]; exact hcellsH.out) honeH.out (by unfold maxLen; omega) (by omega) (by simp <;> omega) ?_; intro v' W2 hown hgrow hx; rw [hWH.out] at hgrow; rw [Nat.zero_add, List.nil_append] at hown; obtain ⟨s, cc, rfl, h1, h2, hb⟩ := rest v' W2 (by rw [hn.out]; exact hown) hgrow; have d0 := h1.cell (i := 0) rfl; have d1 := h1.cell (i := 1) rfl; have d2 := h1.cell (i := 2) rfl; have df := h1.frozen 2; have e0 := h2.cell (i := 0) rfl; have e1 := h2.cell (i := 1) rfl; have e2 := h2.cell (i := 2) rfl; have ef0 := h2.frozen 0; have ef1 := h2.frozen 1; have ef2 := h2.frozen 2)
  obtain ⟨kf, ko, kb⟩ := fin s cc W2 (by rw [hn.out]; exact hown) h1 h2 hb
  obtain ⟨g0, g1, g2⟩ := cz3 kf
  exact bodyPost_ret (v := .agg #[.int .i64 iw, .int .i64 ih, .slice s n cc]) (by simp [results, Try.results30, go_sem, g0, g1, g2]) rfl ⟨_, rfl, ko, kb⟩
set_option maxRecDepth 100000 in
set_option maxHeartbeats 1000000 in
theorem SameInts_eq (a1 a2 : Option Addr) (c1 c2 n : Nat) (xs : List Int) (hn : Hid (xs.length = n)) (w : World) (hm : n ≤ 9223372036854775807) (h1 : Rd w.heap.size w a1 xs) (h2 : Rd w.heap.size w a2 xs) :
  Calls Try.prog 37 #[.slice a1 n c1, .slice a2 n c2] w fun e w' => e = .returned (.bool true) ∧ Below w.heap.size w w' := by
 go_enter Try.func37, Try.ntmps37
 go_wp2
 go_loopw [5] (fun i wr => ∃ k : Nat, k ≤ n ∧ i = .int .i64 k ∧ Below w.heap.size w wr) (fun i _ => n - (intOf i).toNat)
 case atStart => exact ⟨0, Nat.zero_le _, rfl, Below.refl _ _⟩
 case round =>
  obtain ⟨k, hk, rfl, hB⟩ := hrel
  by_cases hlt : k < n
  ·rcases h1 with h0 | ⟨b, o, rfl, hb, hc⟩
   ·exfalso; have := hn.out; rw [h0] at this; simp at this; omega
   rcases h2 with h0 | ⟨b2, o2, rfl, hb2, hc2⟩
   ·exfalso; have := hn.out; rw [h0] at this; simp at this; omega
   have hlt' : k < xs.length := by have := hn.out; omega
   have hcell := (hB.cell (p := ⟨b, o + k, none⟩) hb).trans (hc k hlt')
   have hcell2 := (hB.cell (p := ⟨b2, o2 + k, none⟩) hb2).trans (hc2 k hlt')
   obtain ⟨x, hx⟩ : ∃ x, xs[k]?.getD 0 = x := ⟨_, rfl⟩
   rw [hx] at hcell hcell2
   clear hx hlt' hc hc2
   have hS : wr.heap = wr.drew.heap := rfl
   have hS0 : wr.drew.heap = wr.heap := rfl
   go_wp2_with fail
   refine plain_region (fun W' => W'.heap = wr.heap) 9 9 (by kernel_rfl) rfl ?_
   simp only [Array.replicate_succ, Array.replicate_zero, List.push_toArray, List.nil_append, List.cons_append]
   have FA0 := Lib.hid (fun w' (hS' : (fun W' => W'.heap = wr.heap) w') => And.intro ((World.cell?_of_block (w := wr) (w' := w') (a := ⟨b, o + k, none⟩) (by rw [hS'])).trans hcell) ((World.cell?_of_block (w := wr) (w' := w') (a := ⟨b2, o2 + k, none⟩) (by rw [hS'])).trans hcell2))
   refine tkz 0 rfl hS0 (fun w' hS' => by go_simp; rfl) ?_
   simp only [nrz]
   refine tkz 1 rfl hS0 (fun w' hS' => by go_simp; rfl) ?_
   simp only [nrz]
   refine tkz 2 rfl hS0 (fun w' hS' => by go_simp; (try go_ints); rfl) ?_
   simp only [nrz]
   refine tkz 3 rfl hS0 (fun w' hS' => by obtain ⟨c1, c2⟩ := FA0.out w' hS'; clear hS'; go_simp; rfl) ?_
   simp only [nrz]
   refine tkz 4 rfl hS0 (fun w' hS' => by go_simp; rfl) ?_
   simp only [nrz]
   refine tkz 5 rfl hS0 (fun w' hS' => by go_simp; rfl) ?_
   simp only [nrz]
   refine tkz 6 rfl hS0 (fun w' hS' => by go_simp; (try go_ints); rfl) ?_
   simp only [nrz]
   refine tkz 7 rfl hS0 (fun w' hS' => by obtain ⟨c1, c2⟩ := FA0.out w' hS'; clear hS'; go_simp; rfl) ?_
   simp only [nrz]
   refine tkz 8 rfl hS0 (fun w' hS' => by go_simp; (try go_ints); rfl) ?_
   simp only [nrz]
   refine done_ops (by kernel_rfl) ?_
   go_wp2_with fail
   go_roundw
   case rel => exact ⟨k + 1, by omega, by go_num, hB.drew⟩
   case measure => simp [intOf]; omega
  ·go_wp2
   go_ret
   exact ⟨rfl, hB⟩
set_option maxHeartbeats 400000 in
theorem Same_eq (iw ih : Int) (a1 a2 : Option Addr) (c1 c2 n : Nat) (xs : List Int) (hn : Hid (xs.length = n)) (w : World) (hm : n ≤ 9223372036854775807) (h1 : Rd w.heap.size w a1 xs) (h2 : Rd w.heap.size w a2 xs) :
  Calls Try.prog 11 #[imv iw ih a1 n c1, imv iw ih a2 n c2] w fun e w' => e = .returned (.bool true) ∧ Below w.heap.size w w' := by
 have hb : Below w.heap.size w ((w.alloc (.cells #[.int .i64 iw, .int .i64 ih, .slice a1 n c1] 29)).alloc (.cells #[.int .i64 iw, .int .i64 ih, .slice a2 n c2] 29)) := below_al (below_al (Below.refl _ _) _) _
 go_enter Try.func11, Try.ntmps11
 go_wp2_with fail
 refine (SameInts_eq a1 a2 c1 c2 n xs hn _ hm ((h1.below (Nat.le_refl _) hb).mono hb.size) ((h2.below (Nat.le_refl _) hb).mono hb.size)).mono ?_
 rintro e W1 ⟨rfl, hb1⟩
 go_wp2_with fail
 go_ret
 exact ⟨rfl, hb.trans (hb1.mono hb.size)⟩
end Go.Proofs.Ytekiemlniegddaa
namespace Go.Proofs.Ytekiemlniegddaa
open Go Go.RowKit Go.Shelf
theorem px_bd {xs : List Int} (h : allIn (-2147483648) 2147483648 xs = true) (i : Int) : -2147483648 ≤ px xs i ∧ px xs i ≤ 2147483648 := by
 unfold px
 rcases Nat.lt_or_ge i.toNat xs.length with h1 | h1
 ·rw [List.getElem?_eq_getElem h1]; exact allIn_mem h (List.getElem_mem h1)
 ·rw [List.getElem?_eq_none h1]; decide
end Go.Proofs.Ytekiemlniegddaa
namespace Go.Proofs.Ytekiemlniegddaa
open Go Go.RowKit Go.Shelf
/-- A point operation's numbers. -/
structure PointN where
 mul : Int
 add : Int
 div : Int
 lo : Int
 hi : Int
abbrev PointN.val (p : PointN) : Value := .agg #[.int .i64 p.mul, .int .i64 p.add, .int .i64 p.div, .int .i64 p.lo, .int .i64 p.hi]
abbrev PointN.cells (p : PointN) : Array Value := #[.int .i64 p.mul, .int .i64 p.add, .int .i64 p.div, .int .i64 p.lo, .int .i64 p.hi]
def PointN.ok (p : PointN) : Bool := ((inR p.mul (-65536) 65536 && ((inR p.add (-2147483648) 2147483648 && inR p.lo (-2147483648) 2147483648) && inR p.hi (-2147483648) 2147483648)) && inR p.div 1 65536) && decide (p.lo ≤ p.hi)
def pointF (p : PointN) (v : Int) : Int := clamp ((p.mul * v + p.add) / p.div) p.lo p.hi
def pointG (iw : Int) (xs : List Int) (p : PointN) (x y : Int) : Int := pointF p (px xs (y * iw + x))
theorem mul_bd {a b m n : Int} (h1 : -m ≤ a) (h2 : a ≤ m) (h3 : -n ≤ b) (h4 : b ≤ n) (hm : 0 ≤ m) (hn : 0 ≤ n) : -(m * n) ≤ a * b ∧ a * b ≤ m * n := by
 rcases Int.le_total 0 b with hb | hb
 ·exact prod_bd h1 h2 hb h4 hm
 ·have := prod_bd (a := a) (x := -b) (m := m) (n := n) h1 h2 (by omega) (by omega) hm
  rw [Int.mul_neg] at this
  omega
theorem clamp_le {n lo hi : Int} (h : lo ≤ hi) : lo ≤ clamp n lo hi ∧ clamp n lo hi ≤ hi := by unfold clamp; omega
theorem PointN.ok_true {p : PointN} (h : p.ok = true) : (-65536 ≤ p.mul ∧ p.mul ≤ 65536) ∧ (-2147483648 ≤ p.add ∧ p.add ≤ 2147483648) ∧ (-2147483648 ≤ p.lo ∧ p.lo ≤ 2147483648) ∧ (-2147483648 ≤ p.hi ∧ p.hi ≤ 2147483648) ∧ (1 ≤ p.div ∧ p.div ≤ 65536) ∧ p.lo ≤ p.hi := by
 simp only [PointN.ok, Bool.and_eq_true, inR_true, decide_eq_true_eq] at h
 obtain ⟨⟨⟨h1, ⟨h2, h3⟩, h4⟩, h5⟩, h6⟩ := h
 exact ⟨h1, h2, h3, h4, h5, h6⟩
theorem pointF_bd {p : PointN} (h : p.ok = true) (v : Int) : -2147483648 ≤ pointF p v ∧ pointF p v ≤ 2147483648 := by
 obtain ⟨_, _, h3, h4, _, h6⟩ := PointN.ok_true h
 have := clamp_le (n := (p.mul * v + p.add) / p.div) h6
 unfold pointF
 omega
theorem within3 (lo hi x0 x1 x2 : Int) (v : Bool) (hv : ((inR x0 lo hi && inR x1 lo hi) && inR x2 lo hi) = v) (b : Nat) (c : Nat) (w : World) (t : TypeId) (h : Blk w b t #[.int .i64 x0, .int .i64 x1, .int .i64 x2]) :
  Calls Try.prog 105 #[.int .i64 lo, .int .i64 hi, .slice (some ⟨b, 0, none⟩) 3 c] w fun e w' => e = .returned (.bool v) ∧ w = w' := by
 subst hv
 have h' := within_any lo hi (some ⟨b, 0, none⟩) c [x0, x1, x2] w (by simp) (.inr ⟨b, 0, rfl, h.lt, fun i hi => by
  have : i = 0 ∨ i = 1 ∨ i = 2 := by simp at hi; omega
  rcases this with rfl | rfl | rfl <;> exact h.cell rfl⟩)
 refine h'.mono fun e w' ⟨he, hw⟩ => ⟨he.trans (ret_bool (by simp [allIn, inR, Bool.and_assoc])), hw⟩
set_option maxRecDepth 100000 in
set_option maxHeartbeats 1000000 in
theorem Point1_any (iw ih : Int) (a : Option Addr) (c n : Nat) (xs : List Int) (hn : Hid (xs.length = n)) (hall : Hid (allIn (-2147483648) 2147483648 xs = true)) (p : PointN) (hp : p.ok = true) (x y : Int) (b6 b5 : Nat) (W : World) (hi1 : 1 ≤ iw) (hi2 : iw ≤ 16) (hi3 : 1 ≤ ih) (hi4 : ih ≤ 16) (hnn : Hid ((n : Int) = iw * ih)) (hx1 : 0 ≤ x) (hx2 : x ≤ iw - 1) (hy1 : 0 ≤ y) (hy2 : y ≤ ih - 1)
  (k6 : Blk W b6 69 p.cells) (k5 : Blk W b5 29 #[.int .i64 iw, .int .i64 ih, .slice a n c]) (hr : Rd W.heap.size W a xs) :
  Calls Try.prog 107 #[.int .i64 x, .int .i64 y, .pointer (some ⟨b6, 0, none⟩), .pointer (some ⟨b5, 0, none⟩)] W fun e W' => e = .returned (.int .i64 (pointG iw xs p x y)) ∧ Below W.heap.size W W' := by
 obtain ⟨m1, m2⟩ := mul_small (a := iw) (b := ih) (by omega) hi2 (by omega) hi4
 obtain ⟨q1, q2, q3, q4⟩ := in_idx (u := x) (v := y) hi1 hnn.out hx1 hx2 hy1 hy2
 have hn9 : n ≤ 256 := by have := hnn.out; omega
 obtain ⟨⟨p1, p2⟩, ⟨p3, p4⟩, ⟨p5, p6⟩, ⟨p7, p8⟩, ⟨p9, p10⟩, p11⟩ := PointN.ok_true hp
 obtain ⟨v, hv⟩ : ∃ v, px xs (y * iw + x) = v := ⟨_, rfl⟩
 have hv1 := px_bd hall.out (y * iw + x)
 rw [hv] at hv1
 obtain ⟨r1, r2⟩ := mul_bd p1 p2 hv1.1 hv1.2 (by omega) (by omega)
 have hvH := Lib.hid hv
 have hpH := Lib.hid hp
 clear hv hp
 have hS : Below W.heap.size W W.drew := (Below.refl _ _).drew
 go_enter Try.func107, Try.ntmps107
 go_wp2_with fail
 refine plain_region (fun W' => Below W.heap.size W W') 19 19 (by kernel_rfl) rfl ?_
 simp only [Array.replicate_succ, Array.replicate_zero, List.push_toArray, List.nil_append, List.cons_append]
 refine tkz 0 rfl hS (fun w' hS' => by go_simp; rfl) ?_
 simp only [nrz]
 refine tkz 1 rfl hS (fun w' hS' => by obtain ⟨a0, a1, a2, a3, a4⟩ := cz5 (k6.below hS' k6.lt); obtain ⟨b0, b1, b2⟩ := cz3 (k5.below hS' k5.lt); go_simp; rfl) ?_
 simp only [nrz]
 refine tkz 2 rfl hS (fun w' hS' => by obtain ⟨a0, a1, a2, a3, a4⟩ := cz5 (k6.below hS' k6.lt); obtain ⟨b0, b1, b2⟩ := cz3 (k5.below hS' k5.lt); go_simp; rfl) ?_
 simp only [nrz]
 refine tkz 3 rfl hS (fun w' hS' => by go_simp; rfl) ?_
 simp only [nrz]
 refine tkz 4 rfl hS (fun w' hS' => by go_simp; rfl) ?_
 simp only [nrz]
 refine tkz 7 rfl hS (fun w' hS' => by go_simp; rfl) ?_
 simp only [nrz]
 refine tkz 8 rfl hS (fun w' hS' => by obtain ⟨a0, a1, a2, a3, a4⟩ := cz5 (k6.below hS' k6.lt); obtain ⟨b0, b1, b2⟩ := cz3 (k5.below hS' k5.lt); go_simp; rfl) ?_
 simp only [nrz]
 refine tkz 10 rfl hS (fun w' hS' => by go_simp; rfl) ?_
 simp only [nrz]
 refine tkz 11 rfl hS (fun w' hS' => by obtain ⟨a0, a1, a2, a3, a4⟩ := cz5 (k6.below hS' k6.lt); obtain ⟨b0, b1, b2⟩ := cz3 (k5.below hS' k5.lt); go_simp; rfl) ?_
 simp only [nrz]
 refine tkz 13 rfl hS (fun w' hS' => by go_simp; rfl) ?_
 simp only [nrz]
 refine tkz 14 rfl hS (fun w' hS' => by obtain ⟨a0, a1, a2, a3, a4⟩ := cz5 (k6.below hS' k6.lt); obtain ⟨b0, b1, b2⟩ := cz3 (k5.below hS' k5.lt); go_simp; rfl) ?_
 simp only [nrz]
 refine tkz 15 rfl hS (fun w' hS' => by go_simp; rfl) ?_
 simp only [nrz]
 refine tkz 16 rfl hS (fun w' hS' => by obtain ⟨a0, a1, a2, a3, a4⟩ := cz5 (k6.below hS' k6.lt); obtain ⟨b0, b1, b2⟩ := cz3 (k5.below hS' k5.lt); go_simp; rfl) ?_
 simp only [nrz]
 refine step_op 5 (by kernel_rfl) rfl (fun K hK => ?_)
 rw [if_pos (by rfl)]
 go_simp
 refine (at_any iw ih x y a c xs n hn _ (Int.le_trans (by decide) q1) (Int.le_trans (Int.le_of_lt q4) (by omega)) q2 q3 (by omega) ((hr.below (Nat.le_refl _) hS).mono hS.size)).mono ?_
 rintro e W1 ⟨rfl, hb2⟩
 rw [hvH.out]
 have hS1 : Below W.heap.size W W1 := hS.trans (hb2.mono hS.size)
 refine hK.out _ _ (fun h => hS1) ?_
 clear hK K
 try simp only [Act.put, nrz]
 refine tkz 6 rfl hS1 (fun w' hS' => by go_simp; (try go_ints); rfl) ?_
 simp only [nrz]
 refine tkz 9 rfl hS1 (fun w' hS' => by go_simp; (try go_ints); rfl) ?_
 simp only [nrz]
 refine step_op 12 (by kernel_rfl) rfl (fun K hK => ?_)
 rw [if_pos (by rfl)]
 go_simp
 refine (floor_any _ _ _ (by omega) (by omega) (by omega) (by omega)).mono ?_
 rintro e W2 ⟨rfl, rfl⟩
 refine hK.out _ _ (fun h => hS1) ?_
 clear hK K
 try simp only [Act.put, nrz]
 refine step_op 17 (by kernel_rfl) rfl (fun K hK => ?_)
 rw [if_pos (by rfl)]
 go_simp
 refine (into_any _ _ _ _).mono ?_
 rintro e W2 ⟨rfl, rfl⟩
 refine hK.out _ _ (fun h => hS1) ?_
 clear hK K
 try simp only [Act.put, nrz]
 refine tkz 18 rfl hS1 (fun w' hS' => by go_simp; rfl) ?_
 simp only [nrz]
 refine done_ops (by kernel_rfl) ?_
 go_wp2_with fail
 go_ret
 exact ⟨ret_int (by unfold pointG pointF; rw [hvH.out]), hS1⟩
/-- What Point returns. -/
def pointS (iw ih : Int) (xs : List Int) (p : PointN) : ImR :=
 if vld iw ih xs = true then (if p.ok = true then { w := iw, h := ih, px := img iw.toNat ih.toNat (pointG iw xs p), err := 0 } else noIm 2) else noIm 20
set_option maxRecDepth 100000 in
set_option maxHeartbeats 4000000 in
theorem Point_any (iw ih : Int) (a : Option Addr) (c n : Nat) (xs : List Int) (hn : Hid (xs.length = n)) (p : PointN) (w : World) (hm : n ≤ 9223372036854775807) (hr : Rd w.heap.size w a xs) :
  Calls Try.prog 70 #[imv iw ih a n c, p.val] w (RetIm w.heap.size (pointS iw ih xs p) w) := by
 have hB0 : Below w.heap.size w (((w.alloc (.cells #[.int .i64 iw, .int .i64 ih, .slice a n c] 29)).alloc (.cells p.cells 69)).alloc (.cells #[.int .i64 0, .int .i64 0, .slice none 0 0] 29)) := below_al (below_al (below_al (Below.refl _ _) _) _) _
 obtain ⟨v0, hv⟩ : ∃ v, vld iw ih xs = v := ⟨_, rfl⟩
 have hvH := Lib.hid hv
 obtain ⟨v1, h1⟩ : ∃ v, inR p.mul (-65536) 65536 = v := ⟨_, rfl⟩
 have h1H := Lib.hid h1
 obtain ⟨v2, h2⟩ : ∃ v, ((inR p.add (-2147483648) 2147483648 && inR p.lo (-2147483648) 2147483648) && inR p.hi (-2147483648) 2147483648) = v := ⟨_, rfl⟩
 have h2H := Lib.hid h2
 obtain ⟨v3, h3⟩ : ∃ v, inR p.div 1 65536 = v := ⟨_, rfl⟩
 have h3H := Lib.hid h3
 obtain ⟨v4, h4⟩ : ∃ v, decide (p.lo ≤ p.hi) = v := ⟨_, rfl⟩
 have h4H := Lib.hid h4
 have hsp0 : pointS iw ih xs p = if v0 = true then (if (v1 && v2 && v3 && v4) = true then { w := iw, h := ih, px := img iw.toNat ih.toNat (pointG iw xs p), err := 0 } else noIm 2) else noIm 20 := by
  simp only [pointS, PointN.ok, hv, h1, h2, h3, h4]
 have hsp := Lib.hid hsp0
 clear hv h1 h2 h3 h4 hsp0
 go_enter Try.func70, Try.ntmps70
 go_wp2_with fail
 refine (valid_any iw ih a c xs n hn _ hm ((hr.below (Nat.le_refl _) hB0).mono hB0.size)).mono ?_
 rintro e W1 ⟨rfl, hb1⟩
 rw [hvH.out]
 have hB1 : Below w.heap.size w W1 := hB0.trans (hb1.mono hB0.size)
 have k5 := (((Blk.new w 29 #[.int .i64 iw, .int .i64 ih, .slice a n c]).alloc (.cells p.cells 69)).alloc (.cells #[.int .i64 0, .int .i64 0, .slice none 0 0] 29)).below hb1 (by simp <;> omega)
 have k6 := ((Blk.new (w.alloc (.cells #[.int .i64 iw, .int .i64 ih, .slice a n c] 29)) 69 p.cells).alloc (.cells #[.int .i64 0, .int .i64 0, .slice none 0 0] 29)).below hb1 (by simp <;> omega)
 have k := (Blk.new ((w.alloc (.cells #[.int .i64 iw, .int .i64 ih, .slice a n c] 29)).alloc (.cells p.cells 69)) 29 #[.int .i64 0, .int .i64 0, .slice none 0 0]).below hb1 (by simp <;> omega)
 simp only [World.size_alloc] at k k6
 clear hb1 hB0
 have hlt := k.lt
 obtain ⟨c0, c1, c2⟩ := cz3 k
 have fc0 := k.frozen 0
 have fc1 := k.frozen 1
 have fc2 := k.frozen 2
 have m0 := k5.cell (i := 0) rfl
 have m1 := k5.cell (i := 1) rfl
 obtain ⟨a0, a1, a2, a3, a4⟩ := cz5 k6
 cases v0 with
 | false =>
  go_wp2_with fail
  have kf := put3_blk k (.int .i64 0) (.int .i64 0) (.slice none 0 0)
  obtain ⟨g0, g1, g2⟩ := cz3 kf
  exact bodyPost_ret (v := .tuple #[.agg #[.int .i64 0, .int .i64 0, .slice none 0 0], .int .i64 20]) (by simp [results, Try.results70, go_sem, g0, g1, g2]) rfl ⟨⟨_, by rw [hsp.out]; rfl, by rw [hsp.out]; exact OwnIm_nil _ _⟩, hB1.trans (put3_below (by omega) _ _ _)⟩
 | true =>
  go_wp2_with fail
  refine (within1 (-65536) 65536 p.mul v1 h1H.out _ _ _ _ (cell_new (by simp) rfl)).mono ?_
  rintro e W2 ⟨rfl, hW⟩
  have hb : Below W1.heap.size W1 W2 := alloc_below hW
  clear hW
  have hB2 := hB1.trans (hb.mono hB1.size)
  clear c0 c1 c2 fc0 fc1 fc2
  replace k := k.below hb k.lt
  obtain ⟨c0, c1, c2⟩ := cz3 k
  have fc0 := k.frozen 0
  have fc1 := k.frozen 1
  have fc2 := k.frozen 2
  clear m0 m1
  replace k5 := k5.below hb k5.lt
  have m0 := k5.cell (i := 0) rfl
  have m1 := k5.cell (i := 1) rfl
  clear a0 a1 a2 a3 a4
  replace k6 := k6.below hb k6.lt
  obtain ⟨a0, a1, a2, a3, a4⟩ := cz5 k6
  clear hb
  replace hlt := k.lt
  cases v1 with
  | false =>
   go_wp2_with fail
   have kf := put3_blk k (.int .i64 0) (.int .i64 0) (.slice none 0 0)
   obtain ⟨g0, g1, g2⟩ := cz3 kf
   exact bodyPost_ret (v := .tuple #[.agg #[.int .i64 0, .int .i64 0, .slice none 0 0], .int .i64 2]) (by simp [results, Try.results70, go_sem, g0, g1, g2]) rfl ⟨⟨_, by rw [hsp.out]; rfl, by rw [hsp.out]; exact OwnIm_nil _ _⟩, hB2.trans (put3_below (by omega) _ _ _)⟩
  | true =>
   go_wp2_with fail
   refine (within3 (-2147483648) 2147483648 p.add p.lo p.hi v2 h2H.out _ _ _ 3 (Blk.new _ _ _)).mono ?_
   rintro e W3 ⟨rfl, hW⟩
   have hb : Below W2.heap.size W2 W3 := alloc_below hW
   clear hW
   have hB3 := hB2.trans (hb.mono hB2.size)
   clear c0 c1 c2 fc0 fc1 fc2
   replace k := k.below hb k.lt
   obtain ⟨c0, c1, c2⟩ := cz3 k
   have fc0 := k.frozen 0
   have fc1 := k.frozen 1
   have fc2 := k.frozen 2
   clear m0 m1
   replace k5 := k5.below hb k5.lt
   have m0 := k5.cell (i := 0) rfl
   have m1 := k5.cell (i := 1) rfl
   clear a0 a1 a2 a3 a4
   replace k6 := k6.below hb k6.lt
   obtain ⟨a0, a1, a2, a3, a4⟩ := cz5 k6
   clear hb
   replace hlt := k.lt
   cases v2 with
   | false =>
    go_wp2_with fail
    have kf := put3_blk k (.int .i64 0) (.int .i64 0) (.slice none 0 0)
    obtain ⟨g0, g1, g2⟩ := cz3 kf
    exact bodyPost_ret (v := .tuple #[.agg #[.int .i64 0, .int .i64 0, .slice none 0 0], .int .i64 2]) (by simp [results, Try.results70, go_sem, g0, g1, g2]) rfl ⟨⟨_, by rw [hsp.out]; rfl, by rw [hsp.out]; exact OwnIm_nil _ _⟩, hB3.trans (put3_below (by omega) _ _ _)⟩
   | true =>
    go_wp2_with fail
    refine (within1 1 65536 p.div v3 h3H.out _ _ _ _ (cell_new (by simp) rfl)).mono ?_
    rintro e W4 ⟨rfl, hW⟩
    have hb : Below W3.heap.size W3 W4 := alloc_below hW
    clear hW
    have hB4 := hB3.trans (hb.mono hB3.size)
    clear c0 c1 c2 fc0 fc1 fc2
    replace k := k.below hb k.lt
    obtain ⟨c0, c1, c2⟩ := cz3 k
    have fc0 := k.frozen 0
    have fc1 := k.frozen 1
    have fc2 := k.frozen 2
    clear m0 m1
    replace k5 := k5.below hb k5.lt
    have m0 := k5.cell (i := 0) rfl
    have m1 := k5.cell (i := 1) rfl
    clear a0 a1 a2 a3 a4
    replace k6 := k6.below hb k6.lt
    obtain ⟨a0, a1, a2, a3, a4⟩ := cz5 k6
    clear hb
    replace hlt := k.lt
    cases v3 with
    | false =>
     go_wp2_with fail
     have kf := put3_blk k (.int .i64 0) (.int .i64 0) (.slice none 0 0)
     obtain ⟨g0, g1, g2⟩ := cz3 kf
     exact bodyPost_ret (v := .tuple #[.agg #[.int .i64 0, .int .i64 0, .slice none 0 0], .int .i64 2]) (by simp [results, Try.results70, go_sem, g0, g1, g2]) rfl ⟨⟨_, by rw [hsp.out]; rfl, by rw [hsp.out]; exact OwnIm_nil _ _⟩, hB4.trans (put3_below (by omega) _ _ _)⟩
    | true =>
     cases v4 with
     | false =>
      have h4v := h4H.out
      simp only [decide_eq_false_iff_not, Int.not_le] at h4v
      go_wp2_with fail
      have kf := put3_blk k (.int .i64 0) (.int .i64 0) (.slice none 0 0)
      obtain ⟨g0, g1, g2⟩ := cz3 kf
      exact bodyPost_ret (v := .tuple #[.agg #[.int .i64 0, .int .i64 0, .slice none 0 0], .int .i64 2]) (by simp [results, Try.results70, go_sem, g0, g1, g2]) rfl ⟨⟨_, by rw [hsp.out]; rfl, by rw [hsp.out]; exact OwnIm_nil _ _⟩, hB4.trans (put3_below (by omega) _ _ _)⟩
     | true =>
      have h4v := h4H.out
      simp only [decide_eq_true_eq] at h4v
      obtain ⟨⟨i1, i2⟩, ⟨i3, i4⟩, hlen, hall⟩ := vld_true hvH.out
      rw [hn.out] at hlen
      have hlenH := Lib.hid hlen
      have hallH := Lib.hid hall
      clear hlen hall
      have hok : p.ok = true := by simp only [PointN.ok, h1H.out, h2H.out, h3H.out, h4H.out]; rfl
      have hokH := Lib.hid hok
      clear hok
      obtain ⟨pw, rfl⟩ : ∃ pw : Nat, iw = (pw : Int) := ⟨iw.toNat, by omega⟩
      obtain ⟨ph, rfl⟩ : ∃ ph : Nat, ih = (ph : Int) := ⟨ih.toNat, by omega⟩
      go_wp2_with fail
      refine (made_any pw ph (by omega) (by omega) (by omega) (by omega) 107 #[.pointer (some ⟨w.heap.size + 1, 0, none⟩), .pointer (some ⟨w.heap.size, 0, none⟩)] (enters_of Try.func107 (by kernel_rfl) rfl) (pointG pw xs p) W4 (fun x y W hx hy hb => ?_)).mono ?_
      ·exact Point1_any pw ph a c n xs hn hallH p hokH.out x y (w.heap.size + 1) w.heap.size W i1 i2 i3 i4 hlenH (by omega) (by omega) (by omega) (by omega) (k6.below hb k6.lt) (k5.below hb k5.lt) ((hr.below (Nat.le_refl _) (hB4.trans (hb.mono hB4.size))).mono (Nat.le_trans hB4.size hb.size))
      rintro e W7 ⟨v, rfl, ⟨s, rfl, hrow⟩, hb2⟩
      clear c0 c1 c2 fc0 fc1 fc2
      replace k := k.below hb2 k.lt
      obtain ⟨c0, c1, c2⟩ := cz3 k
      have fc0 := k.frozen 0
      have fc1 := k.frozen 1
      have fc2 := k.frozen 2
      obtain ⟨sa, sc, rfl⟩ := row_slice hrow
      go_wp2_with fail
      have kf := put3_blk k (.int .i64 pw) (.int .i64 ph) (.slice sa (img pw ph (pointG pw xs p)).length sc)
      obtain ⟨g0, g1, g2⟩ := cz3 kf
      exact bodyPost_ret (v := .tuple #[.agg #[.int .i64 pw, .int .i64 ph, .slice sa (img pw ph (pointG pw xs p)).length sc], .int .i64 0]) (by simp [results, Try.results70, go_sem, g0, g1, g2]) rfl ⟨⟨_, by rw [hsp.out]; rfl, by rw [hsp.out]; exact OwnIm.weaken ⟨_, rfl, put3_row hrow (k.not_row (by decide) hrow) _ _ _⟩ hB4.size⟩, (hB4.trans (hb2.mono hB4.size)).trans (put3_below (by omega) _ _ _)⟩
end Go.Proofs.Ytekiemlniegddaa
namespace Go.Proofs.Ytekiemlniegddaa
open Go Go.RowKit Go.Shelf
set_option maxHeartbeats 1000000 in
theorem ValidPoint_any (p : PointN) (w : World) :
  Calls Try.prog 120 #[p.val] w fun e w' => e = .returned (.bool p.ok) ∧ Below w.heap.size w w' := by
 obtain ⟨v1, h1⟩ : ∃ v, inR p.mul (-65536) 65536 = v := ⟨_, rfl⟩
 obtain ⟨v2, h2⟩ : ∃ v, inR p.add (-2147483648) 2147483648 = v := ⟨_, rfl⟩
 obtain ⟨v3, h3⟩ : ∃ v, inR p.div 1 65536 = v := ⟨_, rfl⟩
 have hok : p.ok = (((v1 && v2) && v3) && (decide (-2147483648 ≤ p.lo) && decide (p.lo ≤ p.hi) && decide (p.hi ≤ 2147483648))) := by
  rw [← h1, ← h2, ← h3]
  simp only [PointN.ok, inR]
  rw [Bool.eq_iff_iff]
  simp only [Bool.and_eq_true, decide_eq_true_eq]
  omega
 have hokH := Lib.hid hok
 have h1H := Lib.hid h1
 have h2H := Lib.hid h2
 have h3H := Lib.hid h3
 clear hok h1 h2 h3
 have hB : Below w.heap.size w (w.alloc (.cells p.cells 69)) := below_al (Below.refl _ _) _
 go_enter Try.func120, Try.ntmps120
 go_wp2_with fail
 refine (rwithin1 _ _ _ v1 h1H.out _).mono ?_
 rintro e w' ⟨rfl, rfl⟩
 cases v1 with
 | false =>
  go_wp2_with fail
  go_ret
  exact ⟨ret_bool (by rw [hokH.out]; simp), hB⟩
 | true =>
  go_wp2_with fail
  refine (rwithin1 _ _ _ v2 h2H.out _).mono ?_
  rintro e w' ⟨rfl, rfl⟩
  cases v2 with
  | false =>
   go_wp2_with fail
   go_ret
   exact ⟨ret_bool (by rw [hokH.out]; simp), hB⟩
  | true =>
   go_wp2_with fail
   refine (rwithin1 _ _ _ v3 h3H.out _).mono ?_
   rintro e w' ⟨rfl, rfl⟩
   cases v3 with
   | false =>
    go_wp2_with fail
    go_ret
    exact ⟨ret_bool (by rw [hokH.out]; simp), hB⟩
   | true =>
    by_cases c1 : -2147483648 ≤ p.lo
    ·by_cases c2 : p.lo ≤ p.hi
     ·by_cases c3 : p.hi ≤ 2147483648
      ·go_wp2_with fail
       go_ret
       exact ⟨ret_bool (by rw [hokH.out]; simp <;> omega), hB⟩
      ·go_wp2_with fail
       go_ret
       exact ⟨ret_bool (by rw [hokH.out]; simp <;> omega), hB⟩
     ·go_wp2_with fail
      go_ret
      exact ⟨ret_bool (by rw [hokH.out]; simp <;> omega), hB⟩
    ·go_wp2_with fail
     go_ret
     exact ⟨ret_bool (by rw [hokH.out]; simp <;> omega), hB⟩
set_option maxRecDepth 100000 in
set_option maxHeartbeats 1000000 in
theorem Pointed_any (p : PointN) (v r : Int) (hp : p.ok = true) (hv1 : -2147483648 ≤ v) (hv2 : v ≤ 2147483648) (hr : pointF p v = r) (w : World) :
  Calls Try.prog 85 #[p.val, .int .i64 v] w fun e w' => e = .returned (.int .i64 r) ∧ Below w.heap.size w w' := by
 obtain ⟨⟨p1, p2⟩, ⟨p3, p4⟩, ⟨p5, p6⟩, ⟨p7, p8⟩, ⟨p9, p10⟩, p11⟩ := PointN.ok_true hp
 obtain ⟨r1, r2⟩ := mul_bd p1 p2 hv1 hv2 (by omega) (by omega)
 have hrH := Lib.hid hr
 clear hr hp
 have k6 := Blk.new w 69 p.cells
 have hB : Below w.heap.size w (w.alloc (.cells p.cells 69)) := below_al (Below.refl _ _) _
 obtain ⟨W, hW⟩ : ∃ W, w.alloc (.cells p.cells 69) = W := ⟨_, rfl⟩
 go_enter Try.func85, Try.ntmps85
 go_wp2_with fail
 rw [hW] at k6 hB
 clear hW
 have hS : Below W.heap.size W W.drew := (Below.refl _ _).drew
 refine plain_region (fun W' => Below W.heap.size W W') 16 16 (by kernel_rfl) rfl ?_
 simp only [Array.replicate_succ, Array.replicate_zero, List.push_toArray, List.nil_append, List.cons_append]
 refine tkz 0 rfl hS (fun w' hS' => by go_simp; rfl) ?_
 simp only [nrz]
 refine tkz 1 rfl hS (fun w' hS' => by obtain ⟨a0, a1, a2, a3, a4⟩ := cz5 (k6.below hS' k6.lt); go_simp; rfl) ?_
 simp only [nrz]
 refine tkz 2 rfl hS (fun w' hS' => by go_simp; rfl) ?_
 simp only [nrz]
 refine tkz 3 rfl hS (fun w' hS' => by go_simp; (try go_ints); rfl) ?_
 simp only [nrz]
 refine tkz 4 rfl hS (fun w' hS' => by go_simp; rfl) ?_
 simp only [nrz]
 refine tkz 5 rfl hS (fun w' hS' => by obtain ⟨a0, a1, a2, a3, a4⟩ := cz5 (k6.below hS' k6.lt); go_simp; rfl) ?_
 simp only [nrz]
 refine tkz 6 rfl hS (fun w' hS' => by go_simp; (try go_ints); rfl) ?_
 simp only [nrz]
 refine tkz 7 rfl hS (fun w' hS' => by go_simp; rfl) ?_
 simp only [nrz]
 refine tkz 8 rfl hS (fun w' hS' => by obtain ⟨a0, a1, a2, a3, a4⟩ := cz5 (k6.below hS' k6.lt); go_simp; rfl) ?_
 simp only [nrz]
 refine tkz 10 rfl hS (fun w' hS' => by go_simp; rfl) ?_
 simp only [nrz]
 refine tkz 11 rfl hS (fun w' hS' => by obtain ⟨a0, a1, a2, a3, a4⟩ := cz5 (k6.below hS' k6.lt); go_simp; rfl) ?_
 simp only [nrz]
 refine tkz 12 rfl hS (fun w' hS' => by go_simp; rfl) ?_
 simp only [nrz]
 refine tkz 13 rfl hS (fun w' hS' => by obtain ⟨a0, a1, a2, a3, a4⟩ := cz5 (k6.below hS' k6.lt); go_simp; rfl) ?_
 simp only [nrz]
 refine step_op 9 (by kernel_rfl) rfl (fun K hK => ?_)
 rw [if_pos (by rfl)]
 go_simp
 refine (down_any _ _ _ (by omega) (by omega) (by omega) (by omega)).mono ?_
 rintro e W2 ⟨rfl, rfl⟩
 refine hK.out _ _ (fun h => hS) ?_
 clear hK K
 try simp only [Act.put, nrz]
 refine step_op 14 (by kernel_rfl) rfl (fun K hK => ?_)
 rw [if_pos (by rfl)]
 go_simp
 refine (Into_any _ _ _ _).mono ?_
 rintro e W2 ⟨rfl, rfl⟩
 refine hK.out _ _ (fun h => hS) ?_
 clear hK K
 try simp only [Act.put, nrz]
 refine tkz 15 rfl hS (fun w' hS' => by go_simp; rfl) ?_
 simp only [nrz]
 refine done_ops (by kernel_rfl) ?_
 go_wp2_with fail
 go_ret
 exact ⟨ret_int (by rw [← hrH.out]; rfl), hB.trans (hS.mono hB.size)⟩
end Go.Proofs.Ytekiemlniegddaa
namespace Go.Proofs.Ytekiemlniegddaa
open Go Go.RowKit Go.Shelf
theorem Check_any (iw ih : Int) (a : Option Addr) (c n : Nat) (xs : List Int) (hn : Hid (xs.length = n)) (v : Bool) (hv : vld iw ih xs = v) (w : World) (hm : n ≤ 9223372036854775807) (hr : Rd w.heap.size w a xs) :
  Calls Try.prog 69 #[imv iw ih a n c] w fun e w' => e = .returned (.int .i64 (if v = true then 0 else 20)) ∧ Below w.heap.size w w' := by
 have hvH := Lib.hid hv
 clear hv
 have hB0 : Below w.heap.size w (w.alloc (.cells #[.int .i64 iw, .int .i64 ih, .slice a n c] 29)) := below_al (Below.refl _ _) _
 go_enter Try.func69, Try.ntmps69
 go_wp2_with fail
 refine (valid_any iw ih a c xs n hn _ hm ((hr.below (Nat.le_refl _) hB0).mono hB0.size)).mono ?_
 rintro e W1 ⟨rfl, hb1⟩
 rw [hvH.out]
 cases v with
 | false =>
  go_wp2_with fail
  go_ret
  exact ⟨rfl, hB0.trans (hb1.mono hB0.size)⟩
 | true =>
  go_wp2_with fail
  go_ret
  exact ⟨rfl, hB0.trans (hb1.mono hB0.size)⟩
/-- What an operation of two values gives. -/
def zipF (how a b : Int) : Int := if how = 1 then a + b else if how = 2 then a - b else if how = 3 then min a b else if how = 4 then max a b else if how = 5 then a * b else max (a - b) (b - a)
def zipG (iw : Int) (xs ys : List Int) (how x y : Int) : Int := zipF how (px xs (y * iw + x)) (px ys (y * iw + x))
theorem clamp_bd (n : Int) : -2147483648 ≤ clamp n (-2147483648) 2147483648 ∧ clamp n (-2147483648) 2147483648 ≤ 2147483648 := clamp_le (by decide)
abbrev opsv : Array Value := #[.nilFunc, .func (.func 135) #[] #[], .func (.func 136) #[] #[], .func (.func 137) #[] #[], .func (.func 138) #[] #[], .func (.func 139) #[] #[], .func (.func 140) #[] #[]]
theorem operations_any (w : World) : Calls Try.prog 111 #[] w fun e w' => e = .returned (.agg opsv) ∧ Below w.heap.size w w' := by
 go_enter Try.func111, Try.ntmps111
 go_wp2_with fail
 have k := Blk.new w 160 opsv
 obtain ⟨g0, g1, g2, g3, g4, g5, g6⟩ := cz7 k
 exact bodyPost_ret (v := .agg opsv) (by simp [results, Try.results111, go_sem, g0, g1, g2, g3, g4, g5, g6]) rfl ⟨rfl, below_al (Below.refl _ _) _⟩
theorem oper1_any (a b : Int) (h1 : -2147483648 ≤ a) (h2 : a ≤ 2147483648) (h3 : -2147483648 ≤ b) (h4 : b ≤ 2147483648) (w : World) : Calls Try.prog 135 #[.int .i64 a, .int .i64 b] w fun e w' => e = .returned (.int .i64 (zipF 1 a b)) ∧ w = w' := by
 go_enter Try.func135, Try.ntmps135
 go_wp2_with fail
 all_goals go_ret
 all_goals exact ⟨ret_int (by simp [zipF] <;> omega), rfl⟩
theorem oper2_any (a b : Int) (h1 : -2147483648 ≤ a) (h2 : a ≤ 2147483648) (h3 : -2147483648 ≤ b) (h4 : b ≤ 2147483648) (w : World) : Calls Try.prog 136 #[.int .i64 a, .int .i64 b] w fun e w' => e = .returned (.int .i64 (zipF 2 a b)) ∧ w = w' := by
 go_enter Try.func136, Try.ntmps136
 go_wp2_with fail
 all_goals go_ret
 all_goals exact ⟨ret_int (by simp [zipF] <;> omega), rfl⟩
theorem oper3_any (a b : Int) (h1 : -2147483648 ≤ a) (h2 : a ≤ 2147483648) (h3 : -2147483648 ≤ b) (h4 : b ≤ 2147483648) (w : World) : Calls Try.prog 137 #[.int .i64 a, .int .i64 b] w fun e w' => e = .returned (.int .i64 (zipF 3 a b)) ∧ w = w' := by
 go_enter Try.func137, Try.ntmps137
 go_wp2_with fail
 all_goals go_ret
 all_goals exact ⟨ret_int (by simp [zipF] <;> omega), rfl⟩
theorem oper4_any (a b : Int) (h1 : -2147483648 ≤ a) (h2 : a ≤ 2147483648) (h3 : -2147483648 ≤ b) (h4 : b ≤ 2147483648) (w : World) : Calls Try.prog 138 #[.int .i64 a, .int .i64 b] w fun e w' => e = .returned (.int .i64 (zipF 4 a b)) ∧ w = w' := by
 go_enter Try.func138, Try.ntmps138
 go_wp2_with fail
 all_goals go_ret
 all_goals exact ⟨ret_int (by simp [zipF] <;> omega), rfl⟩
theorem oper5_any (a b : Int) (h1 : -2147483648 ≤ a) (h2 : a ≤ 2147483648) (h3 : -2147483648 ≤ b) (h4 : b ≤ 2147483648) (w : World) : Calls Try.prog 139 #[.int .i64 a, .int .i64 b] w fun e w' => e = .returned (.int .i64 (zipF 5 a b)) ∧ w = w' := by
 obtain ⟨r1, r2⟩ := mul_bd h1 h2 h3 h4 (by omega) (by omega)
 go_enter Try.func139, Try.ntmps139
 go_wp2_with fail
 all_goals go_ret
 all_goals exact ⟨ret_int (by simp [zipF] <;> omega), rfl⟩
theorem oper6_any (a b : Int) (h1 : -2147483648 ≤ a) (h2 : a ≤ 2147483648) (h3 : -2147483648 ≤ b) (h4 : b ≤ 2147483648) (w : World) : Calls Try.prog 140 #[.int .i64 a, .int .i64 b] w fun e w' => e = .returned (.int .i64 (zipF 6 a b)) ∧ w = w' := by
 go_enter Try.func140, Try.ntmps140
 go_wp2_with fail
 all_goals go_ret
 all_goals exact ⟨ret_int (by simp [zipF] <;> omega), rfl⟩
set_option maxRecDepth 100000 in
set_option maxHeartbeats 1000000 in
theorem Zip1_1 (iw ih : Int) (a a' : Option Addr) (c c' n : Nat) (xs ys : List Int) (hn : Hid (xs.length = n)) (hn' : Hid (ys.length = n)) (hall : Hid (allIn (-2147483648) 2147483648 xs = true)) (hall' : Hid (allIn (-2147483648) 2147483648 ys = true)) (x y : Int) (b8 b7 b6 b5 : Nat) (W : World) (hi1 : 1 ≤ iw) (hi2 : iw ≤ 16) (hi3 : 1 ≤ ih) (hi4 : ih ≤ 16) (hnn : Hid ((n : Int) = iw * ih)) (hx1 : 0 ≤ x) (hx2 : x ≤ iw - 1) (hy1 : 0 ≤ y) (hy2 : y ≤ ih - 1)
  (k8 : Blk W b8 160 opsv) (k7 : Blk W b7 5 #[.int .u8 1]) (k6 : Blk W b6 29 #[.int .i64 iw, .int .i64 ih, .slice a' n c']) (k5 : Blk W b5 29 #[.int .i64 iw, .int .i64 ih, .slice a n c]) (hr : Rd W.heap.size W a xs) (hr' : Rd W.heap.size W a' ys) :
  Calls Try.prog 112 #[.int .i64 x, .int .i64 y, .pointer (some ⟨b8, 0, none⟩), .pointer (some ⟨b7, 0, none⟩), .pointer (some ⟨b5, 0, none⟩), .pointer (some ⟨b6, 0, none⟩)] W fun e W' => e = .returned (.int .i64 (zipG iw xs ys 1 x y)) ∧ Below W.heap.size W W' := by
 obtain ⟨m1, m2⟩ := mul_small (a := iw) (b := ih) (by omega) hi2 (by omega) hi4
 obtain ⟨q1, q2, q3, q4⟩ := in_idx (u := x) (v := y) hi1 hnn.out hx1 hx2 hy1 hy2
 have hn9 : n ≤ 256 := by have := hnn.out; omega
 obtain ⟨v, hv⟩ : ∃ v, px xs (y * iw + x) = v := ⟨_, rfl⟩
 obtain ⟨u, hu⟩ : ∃ u, px ys (y * iw + x) = u := ⟨_, rfl⟩
 obtain ⟨vb1, vb2⟩ := px_bd hall.out (y * iw + x)
 obtain ⟨ub1, ub2⟩ := px_bd hall'.out (y * iw + x)
 rw [hv] at vb1 vb2
 rw [hu] at ub1 ub2
 have hvH := Lib.hid hv
 have huH := Lib.hid hu
 clear hv hu
 have hS : Below W.heap.size W W.drew := (Below.refl _ _).drew
 go_enter Try.func112, Try.ntmps112
 go_wp2_with fail
 refine plain_region (fun W' => Below W.heap.size W W') 14 14 (by kernel_rfl) rfl ?_
 simp only [Array.replicate_succ, Array.replicate_zero, List.push_toArray, List.nil_append, List.cons_append]
 refine tkz 0 (v := ?rv0) rfl hS (fun w' hS' => ?ry0) ?rz0
 case ry0 =>
  obtain ⟨b0, b1, b2⟩ := cz3 (k5.below hS' k5.lt)
  obtain ⟨e0, e1, e2⟩ := cz3 (k6.below hS' k6.lt)
  have h0 := (k7.below hS' k7.lt).cell (i := 0) rfl
  obtain ⟨l0, l1, l2, l3, l4, l5, l6⟩ := cz7 (k8.below hS' k8.lt)
  go_simp
  rfl
 simp only [nrz]
 refine tkz 1 rfl hS (fun w' hS' => by go_simp; (try go_ints); rfl) ?_
 simp only [nrz]
 refine tkz 2 rfl hS (fun w' hS' => by go_simp; rfl) ?_
 simp only [nrz]
 refine tkz 3 (v := ?rv3) rfl hS (fun w' hS' => ?ry3) ?rz3
 case ry3 =>
  obtain ⟨b0, b1, b2⟩ := cz3 (k5.below hS' k5.lt)
  obtain ⟨e0, e1, e2⟩ := cz3 (k6.below hS' k6.lt)
  have h0 := (k7.below hS' k7.lt).cell (i := 0) rfl
  obtain ⟨l0, l1, l2, l3, l4, l5, l6⟩ := cz7 (k8.below hS' k8.lt)
  go_simp
  rfl
 simp only [nrz]
 refine tkz 4 (v := ?rv4) rfl hS (fun w' hS' => ?ry4) ?rz4
 case ry4 =>
  obtain ⟨b0, b1, b2⟩ := cz3 (k5.below hS' k5.lt)
  obtain ⟨e0, e1, e2⟩ := cz3 (k6.below hS' k6.lt)
  have h0 := (k7.below hS' k7.lt).cell (i := 0) rfl
  obtain ⟨l0, l1, l2, l3, l4, l5, l6⟩ := cz7 (k8.below hS' k8.lt)
  go_simp
  rfl
 simp only [nrz]
 refine tkz 5 rfl hS (fun w' hS' => by go_simp; rfl) ?_
 simp only [nrz]
 refine tkz 6 rfl hS (fun w' hS' => by go_simp; rfl) ?_
 simp only [nrz]
 refine tkz 8 (v := ?rv8) rfl hS (fun w' hS' => ?ry8) ?rz8
 case ry8 =>
  obtain ⟨b0, b1, b2⟩ := cz3 (k5.below hS' k5.lt)
  obtain ⟨e0, e1, e2⟩ := cz3 (k6.below hS' k6.lt)
  have h0 := (k7.below hS' k7.lt).cell (i := 0) rfl
  obtain ⟨l0, l1, l2, l3, l4, l5, l6⟩ := cz7 (k8.below hS' k8.lt)
  go_simp
  rfl
 simp only [nrz]
 refine tkz 9 rfl hS (fun w' hS' => by go_simp; rfl) ?_
 simp only [nrz]
 refine tkz 10 rfl hS (fun w' hS' => by go_simp; rfl) ?_
 simp only [nrz]
 refine step_op 7 (by kernel_rfl) rfl (fun K hK => ?_)
 rw [if_pos (by rfl)]
 go_simp
 refine (at_any iw ih x y a c xs n hn _ (Int.le_trans (by decide) q1) (Int.le_trans (Int.le_of_lt q4) (by omega)) q2 q3 (by omega) ((hr.below (Nat.le_refl _) hS).mono hS.size)).mono ?_
 rintro e W1 ⟨rfl, hb2⟩
 rw [hvH.out]
 have hS1 : Below W.heap.size W W1 := hS.trans (hb2.mono hS.size)
 refine hK.out _ _ (fun h => hS1) ?_
 clear hK K
 try simp only [Act.put, nrz]
 refine step_op 11 (by kernel_rfl) rfl (fun K hK => ?_)
 rw [if_pos (by rfl)]
 go_simp
 refine (at_any iw ih x y a' c' ys n hn' _ (Int.le_trans (by decide) q1) (Int.le_trans (Int.le_of_lt q4) (by omega)) q2 q3 (by omega) ((hr'.below (Nat.le_refl _) hS1).mono hS1.size)).mono ?_
 rintro e W2 ⟨rfl, hb3⟩
 rw [huH.out]
 have hS2 : Below W.heap.size W W2 := hS1.trans (hb3.mono hS1.size)
 refine hK.out _ _ (fun h => hS2) ?_
 clear hK K
 try simp only [Act.put, nrz]
 refine step_op 12 (by kernel_rfl) rfl (fun K hK => ?_)
 rw [if_pos (by rfl)]
 go_simp
 refine (oper1_any v u vb1 vb2 ub1 ub2 _).mono ?_
 rintro e W3 ⟨rfl, rfl⟩
 refine hK.out _ _ (fun h => hS2) ?_
 clear hK K
 try simp only [Act.put, nrz]
 refine tkz 13 rfl hS2 (fun w' hS' => by go_simp; rfl) ?_
 simp only [nrz]
 refine done_ops (by kernel_rfl) ?_
 go_wp2_with fail
 go_ret
 exact ⟨ret_int (by unfold zipG; rw [hvH.out, huH.out]), hS2⟩
set_option maxRecDepth 100000 in
set_option maxHeartbeats 1000000 in
theorem Zip1_2 (iw ih : Int) (a a' : Option Addr) (c c' n : Nat) (xs ys : List Int) (hn : Hid (xs.length = n)) (hn' : Hid (ys.length = n)) (hall : Hid (allIn (-2147483648) 2147483648 xs = true)) (hall' : Hid (allIn (-2147483648) 2147483648 ys = true)) (x y : Int) (b8 b7 b6 b5 : Nat) (W : World) (hi1 : 1 ≤ iw) (hi2 : iw ≤ 16) (hi3 : 1 ≤ ih) (hi4 : ih ≤ 16) (hnn : Hid ((n : Int) = iw * ih)) (hx1 : 0 ≤ x) (hx2 : x ≤ iw - 1) (hy1 : 0 ≤ y) (hy2 : y ≤ ih - 1)
  (k8 : Blk W b8 160 opsv) (k7 : Blk W b7 5 #[.int .u8 2]) (k6 : Blk W b6 29 #[.int .i64 iw, .int .i64 ih, .slice a' n c']) (k5 : Blk W b5 29 #[.int .i64 iw, .int .i64 ih, .slice a n c]) (hr : Rd W.heap.size W a xs) (hr' : Rd W.heap.size W a' ys) :
  Calls Try.prog 112 #[.int .i64 x, .int .i64 y, .pointer (some ⟨b8, 0, none⟩), .pointer (some ⟨b7, 0, none⟩), .pointer (some ⟨b5, 0, none⟩), .pointer (some ⟨b6, 0, none⟩)] W fun e W' => e = .returned (.int .i64 (zipG iw xs ys 2 x y)) ∧ Below W.heap.size W W' := by
 obtain ⟨m1, m2⟩ := mul_small (a := iw) (b := ih) (by omega) hi2 (by omega) hi4
 obtain ⟨q1, q2, q3, q4⟩ := in_idx (u := x) (v := y) hi1 hnn.out hx1 hx2 hy1 hy2
 have hn9 : n ≤ 256 := by have := hnn.out; omega
 obtain ⟨v, hv⟩ : ∃ v, px xs (y * iw + x) = v := ⟨_, rfl⟩
 obtain ⟨u, hu⟩ : ∃ u, px ys (y * iw + x) = u := ⟨_, rfl⟩
 obtain ⟨vb1, vb2⟩ := px_bd hall.out (y * iw + x)
 obtain ⟨ub1, ub2⟩ := px_bd hall'.out (y * iw + x)
 rw [hv] at vb1 vb2
 rw [hu] at ub1 ub2
 have hvH := Lib.hid hv
 have huH := Lib.hid hu
 clear hv hu
 have hS : Below W.heap.size W W.drew := (Below.refl _ _).drew
 go_enter Try.func112, Try.ntmps112
 go_wp2_with fail
 refine plain_region (fun W' => Below W.heap.size W W') 14 14 (by kernel_rfl) rfl ?_
 simp only [Array.replicate_succ, Array.replicate_zero, List.push_toArray, List.nil_append, List.cons_append]
 refine tkz 0 (v := ?rv0) rfl hS (fun w' hS' => ?ry0) ?rz0
 case ry0 =>
  obtain ⟨b0, b1, b2⟩ := cz3 (k5.below hS' k5.lt)
  obtain ⟨e0, e1, e2⟩ := cz3 (k6.below hS' k6.lt)
  have h0 := (k7.below hS' k7.lt).cell (i := 0) rfl
  obtain ⟨l0, l1, l2, l3, l4, l5, l6⟩ := cz7 (k8.below hS' k8.lt)
  go_simp
  rfl
 simp only [nrz]
 refine tkz 1 rfl hS (fun w' hS' => by go_simp; (try go_ints); rfl) ?_
 simp only [nrz]
 refine tkz 2 rfl hS (fun w' hS' => by go_simp; rfl) ?_
 simp only [nrz]
 refine tkz 3 (v := ?rv3) rfl hS (fun w' hS' => ?ry3) ?rz3
 case ry3 =>
  obtain ⟨b0, b1, b2⟩ := cz3 (k5.below hS' k5.lt)
  obtain ⟨e0, e1, e2⟩ := cz3 (k6.below hS' k6.lt)
  have h0 := (k7.below hS' k7.lt).cell (i := 0) rfl
  obtain ⟨l0, l1, l2, l3, l4, l5, l6⟩ := cz7 (k8.below hS' k8.lt)
  go_simp
  rfl
 simp only [nrz]
 refine tkz 4 (v := ?rv4) rfl hS (fun w' hS' => ?ry4) ?rz4
 case ry4 =>
  obtain ⟨b0, b1, b2⟩ := cz3 (k5.below hS' k5.lt)
  obtain ⟨e0, e1, e2⟩ := cz3 (k6.below hS' k6.lt)
  have h0 := (k7.below hS' k7.lt).cell (i := 0) rfl
  obtain ⟨l0, l1, l2, l3, l4, l5, l6⟩ := cz7 (k8.below hS' k8.lt)
  go_simp
  rfl
 simp only [nrz]
 refine tkz 5 rfl hS (fun w' hS' => by go_simp; rfl) ?_
 simp only [nrz]
 refine tkz 6 rfl hS (fun w' hS' => by go_simp; rfl) ?_
 simp only [nrz]
 refine tkz 8 (v := ?rv8) rfl hS (fun w' hS' => ?ry8) ?rz8
 case ry8 =>
  obtain ⟨b0, b1, b2⟩ := cz3 (k5.below hS' k5.lt)
  obtain ⟨e0, e1, e2⟩ := cz3 (k6.below hS' k6.lt)
  have h0 := (k7.below hS' k7.lt).cell (i := 0) rfl
  obtain ⟨l0, l1, l2, l3, l4, l5, l6⟩ := cz7 (k8.below hS' k8.lt)
  go_simp
  rfl
 simp only [nrz]
 refine tkz 9 rfl hS (fun w' hS' => by go_simp; rfl) ?_
 simp only [nrz]
 refine tkz 10 rfl hS (fun w' hS' => by go_simp; rfl) ?_
 simp only [nrz]
 refine step_op 7 (by kernel_rfl) rfl (fun K hK => ?_)
 rw [if_pos (by rfl)]
 go_simp
 refine (at_any iw ih x y a c xs n hn _ (Int.le_trans (by decide) q1) (Int.le_trans (Int.le_of_lt q4) (by omega)) q2 q3 (by omega) ((hr.below (Nat.le_refl _) hS).mono hS.size)).mono ?_
 rintro e W1 ⟨rfl, hb2⟩
 rw [hvH.out]
 have hS1 : Below W.heap.size W W1 := hS.trans (hb2.mono hS.size)
 refine hK.out _ _ (fun h => hS1) ?_
 clear hK K
 try simp only [Act.put, nrz]
 refine step_op 11 (by kernel_rfl) rfl (fun K hK => ?_)
 rw [if_pos (by rfl)]
 go_simp
 refine (at_any iw ih x y a' c' ys n hn' _ (Int.le_trans (by decide) q1) (Int.le_trans (Int.le_of_lt q4) (by omega)) q2 q3 (by omega) ((hr'.below (Nat.le_refl _) hS1).mono hS1.size)).mono ?_
 rintro e W2 ⟨rfl, hb3⟩
 rw [huH.out]
 have hS2 : Below W.heap.size W W2 := hS1.trans (hb3.mono hS1.size)
 refine hK.out _ _ (fun h => hS2) ?_
 clear hK K
 try simp only [Act.put, nrz]
 refine step_op 12 (by kernel_rfl) rfl (fun K hK => ?_)
 rw [if_pos (by rfl)]
 go_simp
 refine (oper2_any v u vb1 vb2 ub1 ub2 _).mono ?_
 rintro e W3 ⟨rfl, rfl⟩
 refine hK.out _ _ (fun h => hS2) ?_
 clear hK K
 try simp only [Act.put, nrz]
 refine tkz 13 rfl hS2 (fun w' hS' => by go_simp; rfl) ?_
 simp only [nrz]
 refine done_ops (by kernel_rfl) ?_
 go_wp2_with fail
 go_ret
 exact ⟨ret_int (by unfold zipG; rw [hvH.out, huH.out]), hS2⟩
set_option maxRecDepth 100000 in
set_option maxHeartbeats 1000000 in
theorem Zip1_3 (iw ih : Int) (a a' : Option Addr) (c c' n : Nat) (xs ys : List Int) (hn : Hid (xs.length = n)) (hn' : Hid (ys.length = n)) (hall : Hid (allIn (-2147483648) 2147483648 xs = true)) (hall' : Hid (allIn (-2147483648) 2147483648 ys = true)) (x y : Int) (b8 b7 b6 b5 : Nat) (W : World) (hi1 : 1 ≤ iw) (hi2 : iw ≤ 16) (hi3 : 1 ≤ ih) (hi4 : ih ≤ 16) (hnn : Hid ((n : Int) = iw * ih)) (hx1 : 0 ≤ x) (hx2 : x ≤ iw - 1) (hy1 : 0 ≤ y) (hy2 : y ≤ ih - 1)
  (k8 : Blk W b8 160 opsv) (k7 : Blk W b7 5 #[.int .u8 3]) (k6 : Blk W b6 29 #[.int .i64 iw, .int .i64 ih, .slice a' n c']) (k5 : Blk W b5 29 #[.int .i64 iw, .int .i64 ih, .slice a n c]) (hr : Rd W.heap.size W a xs) (hr' : Rd W.heap.size W a' ys) :
  Calls Try.prog 112 #[.int .i64 x, .int .i64 y, .pointer (some ⟨b8, 0, none⟩), .pointer (some ⟨b7, 0, none⟩), .pointer (some ⟨b5, 0, none⟩), .pointer (some ⟨b6, 0, none⟩)] W fun e W' => e = .returned (.int .i64 (zipG iw xs ys 3 x y)) ∧ Below W.heap.size W W' := by
 obtain ⟨m1, m2⟩ := mul_small (a := iw) (b := ih) (by omega) hi2 (by omega) hi4
 obtain ⟨q1, q2, q3, q4⟩ := in_idx (u := x) (v := y) hi1 hnn.out hx1 hx2 hy1 hy2
 have hn9 : n ≤ 256 := by have := hnn.out; omega
 obtain ⟨v, hv⟩ : ∃ v, px xs (y * iw + x) = v := ⟨_, rfl⟩
 obtain ⟨u, hu⟩ : ∃ u, px ys (y * iw + x) = u := ⟨_, rfl⟩
 obtain ⟨vb1, vb2⟩ := px_bd hall.out (y * iw + x)
 obtain ⟨ub1, ub2⟩ := px_bd hall'.out (y * iw + x)
 rw [hv] at vb1 vb2
 rw [hu] at ub1 ub2
 have hvH := Lib.hid hv
 have huH := Lib.hid hu
 clear hv hu
 have hS : Below W.heap.size W W.drew := (Below.refl _ _).drew
 go_enter Try.func112, Try.ntmps112
 go_wp2_with fail
 refine plain_region (fun W' => Below W.heap.size W W') 14 14 (by kernel_rfl) rfl ?_
 simp only [Array.replicate_succ, Array.replicate_zero, List.push_toArray, List.nil_append, List.cons_append]
 refine tkz 0 (v := ?rv0) rfl hS (fun w' hS' => ?ry0) ?rz0
 case ry0 =>
  obtain ⟨b0, b1, b2⟩ := cz3 (k5.below hS' k5.lt)
  obtain ⟨e0, e1, e2⟩ := cz3 (k6.below hS' k6.lt)
  have h0 := (k7.below hS' k7.lt).cell (i := 0) rfl
  obtain ⟨l0, l1, l2, l3, l4, l5, l6⟩ := cz7 (k8.below hS' k8.lt)
  go_simp
  rfl
 simp only [nrz]
 refine tkz 1 rfl hS (fun w' hS' => by go_simp; (try go_ints); rfl) ?_
 simp only [nrz]
 refine tkz 2 rfl hS (fun w' hS' => by go_simp; rfl) ?_
 simp only [nrz]
 refine tkz 3 (v := ?rv3) rfl hS (fun w' hS' => ?ry3) ?rz3
 case ry3 =>
  obtain ⟨b0, b1, b2⟩ := cz3 (k5.below hS' k5.lt)
  obtain ⟨e0, e1, e2⟩ := cz3 (k6.below hS' k6.lt)
  have h0 := (k7.below hS' k7.lt).cell (i := 0) rfl
  obtain ⟨l0, l1, l2, l3, l4, l5, l6⟩ := cz7 (k8.below hS' k8.lt)
  go_simp
  rfl
 simp only [nrz]
 refine tkz 4 (v := ?rv4) rfl hS (fun w' hS' => ?ry4) ?rz4
 case ry4 =>
  obtain ⟨b0, b1, b2⟩ := cz3 (k5.below hS' k5.lt)
  obtain ⟨e0, e1, e2⟩ := cz3 (k6.below hS' k6.lt)
  have h0 := (k7.below hS' k7.lt).cell (i := 0) rfl
  obtain ⟨l0, l1, l2, l3, l4, l5, l6⟩ := cz7 (k8.below hS' k8.lt)
  go_simp
  rfl
 simp only [nrz]
 refine tkz 5 rfl hS (fun w' hS' => by go_simp; rfl) ?_
 simp only [nrz]
 refine tkz 6 rfl hS (fun w' hS' => by go_simp; rfl) ?_
 simp only [nrz]
 refine tkz 8 (v := ?rv8) rfl hS (fun w' hS' => ?ry8) ?rz8
 case ry8 =>
  obtain ⟨b0, b1, b2⟩ := cz3 (k5.below hS' k5.lt)
  obtain ⟨e0, e1, e2⟩ := cz3 (k6.below hS' k6.lt)
  have h0 := (k7.below hS' k7.lt).cell (i := 0) rfl
  obtain ⟨l0, l1, l2, l3, l4, l5, l6⟩ := cz7 (k8.below hS' k8.lt)
  go_simp
  rfl
 simp only [nrz]
 refine tkz 9 rfl hS (fun w' hS' => by go_simp; rfl) ?_
 simp only [nrz]
 refine tkz 10 rfl hS (fun w' hS' => by go_simp; rfl) ?_
 simp only [nrz]
 refine step_op 7 (by kernel_rfl) rfl (fun K hK => ?_)
 rw [if_pos (by rfl)]
 go_simp
 refine (at_any iw ih x y a c xs n hn _ (Int.le_trans (by decide) q1) (Int.le_trans (Int.le_of_lt q4) (by omega)) q2 q3 (by omega) ((hr.below (Nat.le_refl _) hS).mono hS.size)).mono ?_
 rintro e W1 ⟨rfl, hb2⟩
 rw [hvH.out]
 have hS1 : Below W.heap.size W W1 := hS.trans (hb2.mono hS.size)
 refine hK.out _ _ (fun h => hS1) ?_
 clear hK K
 try simp only [Act.put, nrz]
 refine step_op 11 (by kernel_rfl) rfl (fun K hK => ?_)
 rw [if_pos (by rfl)]
 go_simp
 refine (at_any iw ih x y a' c' ys n hn' _ (Int.le_trans (by decide) q1) (Int.le_trans (Int.le_of_lt q4) (by omega)) q2 q3 (by omega) ((hr'.below (Nat.le_refl _) hS1).mono hS1.size)).mono ?_
 rintro e W2 ⟨rfl, hb3⟩
 rw [huH.out]
 have hS2 : Below W.heap.size W W2 := hS1.trans (hb3.mono hS1.size)
 refine hK.out _ _ (fun h => hS2) ?_
 clear hK K
 try simp only [Act.put, nrz]
 refine step_op 12 (by kernel_rfl) rfl (fun K hK => ?_)
 rw [if_pos (by rfl)]
 go_simp
 refine (oper3_any v u vb1 vb2 ub1 ub2 _).mono ?_
 rintro e W3 ⟨rfl, rfl⟩
 refine hK.out _ _ (fun h => hS2) ?_
 clear hK K
 try simp only [Act.put, nrz]
 refine tkz 13 rfl hS2 (fun w' hS' => by go_simp; rfl) ?_
 simp only [nrz]
 refine done_ops (by kernel_rfl) ?_
 go_wp2_with fail
 go_ret
 exact ⟨ret_int (by unfold zipG; rw [hvH.out, huH.out]), hS2⟩
set_option maxRecDepth 100000 in
set_option maxHeartbeats 1000000 in
theorem Zip1_4 (iw ih : Int) (a a' : Option Addr) (c c' n : Nat) (xs ys : List Int) (hn : Hid (xs.length = n)) (hn' : Hid (ys.length = n)) (hall : Hid (allIn (-2147483648) 2147483648 xs = true)) (hall' : Hid (allIn (-2147483648) 2147483648 ys = true)) (x y : Int) (b8 b7 b6 b5 : Nat) (W : World) (hi1 : 1 ≤ iw) (hi2 : iw ≤ 16) (hi3 : 1 ≤ ih) (hi4 : ih ≤ 16) (hnn : Hid ((n : Int) = iw * ih)) (hx1 : 0 ≤ x) (hx2 : x ≤ iw - 1) (hy1 : 0 ≤ y) (hy2 : y ≤ ih - 1)
  (k8 : Blk W b8 160 opsv) (k7 : Blk W b7 5 #[.int .u8 4]) (k6 : Blk W b6 29 #[.int .i64 iw, .int .i64 ih, .slice a' n c']) (k5 : Blk W b5 29 #[.int .i64 iw, .int .i64 ih, .slice a n c]) (hr : Rd W.heap.size W a xs) (hr' : Rd W.heap.size W a' ys) :
  Calls Try.prog 112 #[.int .i64 x, .int .i64 y, .pointer (some ⟨b8, 0, none⟩), .pointer (some ⟨b7, 0, none⟩), .pointer (some ⟨b5, 0, none⟩), .pointer (some ⟨b6, 0, none⟩)] W fun e W' => e = .returned (.int .i64 (zipG iw xs ys 4 x y)) ∧ Below W.heap.size W W' := by
 obtain ⟨m1, m2⟩ := mul_small (a := iw) (b := ih) (by omega) hi2 (by omega) hi4
 obtain ⟨q1, q2, q3, q4⟩ := in_idx (u := x) (v := y) hi1 hnn.out hx1 hx2 hy1 hy2
 have hn9 : n ≤ 256 := by have := hnn.out; omega
 obtain ⟨v, hv⟩ : ∃ v, px xs (y * iw + x) = v := ⟨_, rfl⟩
 obtain ⟨u, hu⟩ : ∃ u, px ys (y * iw + x) = u := ⟨_, rfl⟩
 obtain ⟨vb1, vb2⟩ := px_bd hall.out (y * iw + x)
 obtain ⟨ub1, ub2⟩ := px_bd hall'.out (y * iw + x)
 rw [hv] at vb1 vb2
 rw [hu] at ub1 ub2
 have hvH := Lib.hid hv
 have huH := Lib.hid hu
 clear hv hu
 have hS : Below W.heap.size W W.drew := (Below.refl _ _).drew
 go_enter Try.func112, Try.ntmps112
 go_wp2_with fail
 refine plain_region (fun W' => Below W.heap.size W W') 14 14 (by kernel_rfl) rfl ?_
 simp only [Array.replicate_succ, Array.replicate_zero, List.push_toArray, List.nil_append, List.cons_append]
 refine tkz 0 (v := ?rv0) rfl hS (fun w' hS' => ?ry0) ?rz0
 case ry0 =>
  obtain ⟨b0, b1, b2⟩ := cz3 (k5.below hS' k5.lt)
  obtain ⟨e0, e1, e2⟩ := cz3 (k6.below hS' k6.lt)
  have h0 := (k7.below hS' k7.lt).cell (i := 0) rfl
  obtain ⟨l0, l1, l2, l3, l4, l5, l6⟩ := cz7 (k8.below hS' k8.lt)
  go_simp
  rfl
 simp only [nrz]
 refine tkz 1 rfl hS (fun w' hS' => by go_simp; (try go_ints); rfl) ?_
 simp only [nrz]
 refine tkz 2 rfl hS (fun w' hS' => by go_simp; rfl) ?_
 simp only [nrz]
 refine tkz 3 (v := ?rv3) rfl hS (fun w' hS' => ?ry3) ?rz3
 case ry3 =>
  obtain ⟨b0, b1, b2⟩ := cz3 (k5.below hS' k5.lt)
  obtain ⟨e0, e1, e2⟩ := cz3 (k6.below hS' k6.lt)
  have h0 := (k7.below hS' k7.lt).cell (i := 0) rfl
  obtain ⟨l0, l1, l2, l3, l4, l5, l6⟩ := cz7 (k8.below hS' k8.lt)
  go_simp
  rfl
 simp only [nrz]
 refine tkz 4 (v := ?rv4) rfl hS (fun w' hS' => ?ry4) ?rz4
 case ry4 =>
  obtain ⟨b0, b1, b2⟩ := cz3 (k5.below hS' k5.lt)
  obtain ⟨e0, e1, e2⟩ := cz3 (k6.below hS' k6.lt)
  have h0 := (k7.below hS' k7.lt).cell (i := 0) rfl
  obtain ⟨l0, l1, l2, l3, l4, l5, l6⟩ := cz7 (k8.below hS' k8.lt)
  go_simp
  rfl
 simp only [nrz]
 refine tkz 5 rfl hS (fun w' hS' => by go_simp; rfl) ?_
 simp only [nrz]
 refine tkz 6 rfl hS (fun w' hS' => by go_simp; rfl) ?_
 simp only [nrz]
 refine tkz 8 (v := ?rv8) rfl hS (fun w' hS' => ?ry8) ?rz8
 case ry8 =>
  obtain ⟨b0, b1, b2⟩ := cz3 (k5.below hS' k5.lt)
  obtain ⟨e0, e1, e2⟩ := cz3 (k6.below hS' k6.lt)
  have h0 := (k7.below hS' k7.lt).cell (i := 0) rfl
  obtain ⟨l0, l1, l2, l3, l4, l5, l6⟩ := cz7 (k8.below hS' k8.lt)
  go_simp
  rfl
 simp only [nrz]
 refine tkz 9 rfl hS (fun w' hS' => by go_simp; rfl) ?_
 simp only [nrz]
 refine tkz 10 rfl hS (fun w' hS' => by go_simp; rfl) ?_
 simp only [nrz]
 refine step_op 7 (by kernel_rfl) rfl (fun K hK => ?_)
 rw [if_pos (by rfl)]
 go_simp
 refine (at_any iw ih x y a c xs n hn _ (Int.le_trans (by decide) q1) (Int.le_trans (Int.le_of_lt q4) (by omega)) q2 q3 (by omega) ((hr.below (Nat.le_refl _) hS).mono hS.size)).mono ?_
 rintro e W1 ⟨rfl, hb2⟩
 rw [hvH.out]
 have hS1 : Below W.heap.size W W1 := hS.trans (hb2.mono hS.size)
 refine hK.out _ _ (fun h => hS1) ?_
 clear hK K
 try simp only [Act.put, nrz]
 refine step_op 11 (by kernel_rfl) rfl (fun K hK => ?_)
 rw [if_pos (by rfl)]
 go_simp
 refine (at_any iw ih x y a' c' ys n hn' _ (Int.le_trans (by decide) q1) (Int.le_trans (Int.le_of_lt q4) (by omega)) q2 q3 (by omega) ((hr'.below (Nat.le_refl _) hS1).mono hS1.size)).mono ?_
 rintro e W2 ⟨rfl, hb3⟩
 rw [huH.out]
 have hS2 : Below W.heap.size W W2 := hS1.trans (hb3.mono hS1.size)
 refine hK.out _ _ (fun h => hS2) ?_
 clear hK K
 try simp only [Act.put, nrz]
 refine step_op 12 (by kernel_rfl) rfl (fun K hK => ?_)
 rw [if_pos (by rfl)]
 go_simp
 refine (oper4_any v u vb1 vb2 ub1 ub2 _).mono ?_
 rintro e W3 ⟨rfl, rfl⟩
 refine hK.out _ _ (fun h => hS2) ?_
 clear hK K
 try simp only [Act.put, nrz]
 refine tkz 13 rfl hS2 (fun w' hS' => by go_simp; rfl) ?_
 simp only [nrz]
 refine done_ops (by kernel_rfl) ?_
 go_wp2_with fail
 go_ret
 exact ⟨ret_int (by unfold zipG; rw [hvH.out, huH.out]), hS2⟩
set_option maxRecDepth 100000 in
set_option maxHeartbeats 1000000 in
theorem Zip1_5 (iw ih : Int) (a a' : Option Addr) (c c' n : Nat) (xs ys : List Int) (hn : Hid (xs.length = n)) (hn' : Hid (ys.length = n)) (hall : Hid (allIn (-2147483648) 2147483648 xs = true)) (hall' : Hid (allIn (-2147483648) 2147483648 ys = true)) (x y : Int) (b8 b7 b6 b5 : Nat) (W : World) (hi1 : 1 ≤ iw) (hi2 : iw ≤ 16) (hi3 : 1 ≤ ih) (hi4 : ih ≤ 16) (hnn : Hid ((n : Int) = iw * ih)) (hx1 : 0 ≤ x) (hx2 : x ≤ iw - 1) (hy1 : 0 ≤ y) (hy2 : y ≤ ih - 1)
  (k8 : Blk W b8 160 opsv) (k7 : Blk W b7 5 #[.int .u8 5]) (k6 : Blk W b6 29 #[.int .i64 iw, .int .i64 ih, .slice a' n c']) (k5 : Blk W b5 29 #[.int .i64 iw, .int .i64 ih, .slice a n c]) (hr : Rd W.heap.size W a xs) (hr' : Rd W.heap.size W a' ys) :
  Calls Try.prog 112 #[.int .i64 x, .int .i64 y, .pointer (some ⟨b8, 0, none⟩), .pointer (some ⟨b7, 0, none⟩), .pointer (some ⟨b5, 0, none⟩), .pointer (some ⟨b6, 0, none⟩)] W fun e W' => e = .returned (.int .i64 (zipG iw xs ys 5 x y)) ∧ Below W.heap.size W W' := by
 obtain ⟨m1, m2⟩ := mul_small (a := iw) (b := ih) (by omega) hi2 (by omega) hi4
 obtain ⟨q1, q2, q3, q4⟩ := in_idx (u := x) (v := y) hi1 hnn.out hx1 hx2 hy1 hy2
 have hn9 : n ≤ 256 := by have := hnn.out; omega
 obtain ⟨v, hv⟩ : ∃ v, px xs (y * iw + x) = v := ⟨_, rfl⟩
 obtain ⟨u, hu⟩ : ∃ u, px ys (y * iw + x) = u := ⟨_, rfl⟩
 obtain ⟨vb1, vb2⟩ := px_bd hall.out (y * iw + x)
 obtain ⟨ub1, ub2⟩ := px_bd hall'.out (y * iw + x)
 rw [hv] at vb1 vb2
 rw [hu] at ub1 ub2
 have hvH := Lib.hid hv
 have huH := Lib.hid hu
 clear hv hu
 have hS : Below W.heap.size W W.drew := (Below.refl _ _).drew
 go_enter Try.func112, Try.ntmps112
 go_wp2_with fail
 refine plain_region (fun W' => Below W.heap.size W W') 14 14 (by kernel_rfl) rfl ?_
 simp only [Array.replicate_succ, Array.replicate_zero, List.push_toArray, List.nil_append, List.cons_append]
 refine tkz 0 (v := ?rv0) rfl hS (fun w' hS' => ?ry0) ?rz0
 case ry0 =>
  obtain ⟨b0, b1, b2⟩ := cz3 (k5.below hS' k5.lt)
  obtain ⟨e0, e1, e2⟩ := cz3 (k6.below hS' k6.lt)
  have h0 := (k7.below hS' k7.lt).cell (i := 0) rfl
  obtain ⟨l0, l1, l2, l3, l4, l5, l6⟩ := cz7 (k8.below hS' k8.lt)
  go_simp
  rfl
 simp only [nrz]
 refine tkz 1 rfl hS (fun w' hS' => by go_simp; (try go_ints); rfl) ?_
 simp only [nrz]
 refine tkz 2 rfl hS (fun w' hS' => by go_simp; rfl) ?_
 simp only [nrz]
 refine tkz 3 (v := ?rv3) rfl hS (fun w' hS' => ?ry3) ?rz3
 case ry3 =>
  obtain ⟨b0, b1, b2⟩ := cz3 (k5.below hS' k5.lt)
  obtain ⟨e0, e1, e2⟩ := cz3 (k6.below hS' k6.lt)
  have h0 := (k7.below hS' k7.lt).cell (i := 0) rfl
  obtain ⟨l0, l1, l2, l3, l4, l5, l6⟩ := cz7 (k8.below hS' k8.lt)
  go_simp
  rfl
 simp only [nrz]
 refine tkz 4 (v := ?rv4) rfl hS (fun w' hS' => ?ry4) ?rz4
 case ry4 =>
  obtain ⟨b0, b1, b2⟩ := cz3 (k5.below hS' k5.lt)
  obtain ⟨e0, e1, e2⟩ := cz3 (k6.below hS' k6.lt)
  have h0 := (k7.below hS' k7.lt).cell (i := 0) rfl
  obtain ⟨l0, l1, l2, l3, l4, l5, l6⟩ := cz7 (k8.below hS' k8.lt)
  go_simp
  rfl
 simp only [nrz]
 refine tkz 5 rfl hS (fun w' hS' => by go_simp; rfl) ?_
 simp only [nrz]
 refine tkz 6 rfl hS (fun w' hS' => by go_simp; rfl) ?_
 simp only [nrz]
 refine tkz 8 (v := ?rv8) rfl hS (fun w' hS' => ?ry8) ?rz8
 case ry8 =>
  obtain ⟨b0, b1, b2⟩ := cz3 (k5.below hS' k5.lt)
  obtain ⟨e0, e1, e2⟩ := cz3 (k6.below hS' k6.lt)
  have h0 := (k7.below hS' k7.lt).cell (i := 0) rfl
  obtain ⟨l0, l1, l2, l3, l4, l5, l6⟩ := cz7 (k8.below hS' k8.lt)
  go_simp
  rfl
 simp only [nrz]
 refine tkz 9 rfl hS (fun w' hS' => by go_simp; rfl) ?_
 simp only [nrz]
 refine tkz 10 rfl hS (fun w' hS' => by go_simp; rfl) ?_
 simp only [nrz]
 refine step_op 7 (by kernel_rfl) rfl (fun K hK => ?_)
 rw [if_pos (by rfl)]
 go_simp
 refine (at_any iw ih x y a c xs n hn _ (Int.le_trans (by decide) q1) (Int.le_trans (Int.le_of_lt q4) (by omega)) q2 q3 (by omega) ((hr.below (Nat.le_refl _) hS).mono hS.size)).mono ?_
 rintro e W1 ⟨rfl, hb2⟩
 rw [hvH.out]
 have hS1 : Below W.heap.size W W1 := hS.trans (hb2.mono hS.size)
 refine hK.out _ _ (fun h => hS1) ?_
 clear hK K
 try simp only [Act.put, nrz]
 refine step_op 11 (by kernel_rfl) rfl (fun K hK => ?_)
 rw [if_pos (by rfl)]
 go_simp
 refine (at_any iw ih x y a' c' ys n hn' _ (Int.le_trans (by decide) q1) (Int.le_trans (Int.le_of_lt q4) (by omega)) q2 q3 (by omega) ((hr'.below (Nat.le_refl _) hS1).mono hS1.size)).mono ?_
 rintro e W2 ⟨rfl, hb3⟩
 rw [huH.out]
 have hS2 : Below W.heap.size W W2 := hS1.trans (hb3.mono hS1.size)
 refine hK.out _ _ (fun h => hS2) ?_
 clear hK K
 try simp only [Act.put, nrz]
 refine step_op 12 (by kernel_rfl) rfl (fun K hK => ?_)
 rw [if_pos (by rfl)]
 go_simp
 refine (oper5_any v u vb1 vb2 ub1 ub2 _).mono ?_
 rintro e W3 ⟨rfl, rfl⟩
 refine hK.out _ _ (fun h => hS2) ?_
 clear hK K
 try simp only [Act.put, nrz]
 refine tkz 13 rfl hS2 (fun w' hS' => by go_simp; rfl) ?_
 simp only [nrz]
 refine done_ops (by kernel_rfl) ?_
 go_wp2_with fail
 go_ret
 exact ⟨ret_int (by unfold zipG; rw [hvH.out, huH.out]), hS2⟩
set_option maxRecDepth 100000 in
set_option maxHeartbeats 1000000 in
theorem Zip1_6 (iw ih : Int) (a a' : Option Addr) (c c' n : Nat) (xs ys : List Int) (hn : Hid (xs.length = n)) (hn' : Hid (ys.length = n)) (hall : Hid (allIn (-2147483648) 2147483648 xs = true)) (hall' : Hid (allIn (-2147483648) 2147483648 ys = true)) (x y : Int) (b8 b7 b6 b5 : Nat) (W : World) (hi1 : 1 ≤ iw) (hi2 : iw ≤ 16) (hi3 : 1 ≤ ih) (hi4 : ih ≤ 16) (hnn : Hid ((n : Int) = iw * ih)) (hx1 : 0 ≤ x) (hx2 : x ≤ iw - 1) (hy1 : 0 ≤ y) (hy2 : y ≤ ih - 1)
  (k8 : Blk W b8 160 opsv) (k7 : Blk W b7 5 #[.int .u8 6]) (k6 : Blk W b6 29 #[.int .i64 iw, .int .i64 ih, .slice a' n c']) (k5 : Blk W b5 29 #[.int .i64 iw, .int .i64 ih, .slice a n c]) (hr : Rd W.heap.size W a xs) (hr' : Rd W.heap.size W a' ys) :
  Calls Try.prog 112 #[.int .i64 x, .int .i64 y, .pointer (some ⟨b8, 0, none⟩), .pointer (some ⟨b7, 0, none⟩), .pointer (some ⟨b5, 0, none⟩), .pointer (some ⟨b6, 0, none⟩)] W fun e W' => e = .returned (.int .i64 (zipG iw xs ys 6 x y)) ∧ Below W.heap.size W W' := by
 obtain ⟨m1, m2⟩ := mul_small (a := iw) (b := ih) (by omega) hi2 (by omega) hi4
 obtain ⟨q1, q2, q3, q4⟩ := in_idx (u := x) (v := y) hi1 hnn.out hx1 hx2 hy1 hy2
 have hn9 : n ≤ 256 := by have := hnn.out; omega
 obtain ⟨v, hv⟩ : ∃ v, px xs (y * iw + x) = v := ⟨_, rfl⟩
 obtain ⟨u, hu⟩ : ∃ u, px ys (y * iw + x) = u := ⟨_, rfl⟩
 obtain ⟨vb1, vb2⟩ := px_bd hall.out (y * iw + x)
 obtain ⟨ub1, ub2⟩ := px_bd hall'.out (y * iw + x)
 rw [hv] at vb1 vb2
 rw [hu] at ub1 ub2
 have hvH := Lib.hid hv
 have huH := Lib.hid hu
 clear hv hu
 have hS : Below W.heap.size W W.drew := (Below.refl _ _).drew
 go_enter Try.func112, Try.ntmps112
 go_wp2_with fail
 refine plain_region (fun W' => Below W.heap.size W W') 14 14 (by kernel_rfl) rfl ?_
 simp only [Array.replicate_succ, Array.replicate_zero, List.push_toArray, List.nil_append, List.cons_append]
 refine tkz 0 (v := ?rv0) rfl hS (fun w' hS' => ?ry0) ?rz0
 case ry0 =>
  obtain ⟨b0, b1, b2⟩ := cz3 (k5.below hS' k5.lt)
  obtain ⟨e0, e1, e2⟩ := cz3 (k6.below hS' k6.lt)
  have h0 := (k7.below hS' k7.lt).cell (i := 0) rfl
  obtain ⟨l0, l1, l2, l3, l4, l5, l6⟩ := cz7 (k8.below hS' k8.lt)
  go_simp
  rfl
 simp only [nrz]
 refine tkz 1 rfl hS (fun w' hS' => by go_simp; (try go_ints); rfl) ?_
 simp only [nrz]
 refine tkz 2 rfl hS (fun w' hS' => by go_simp; rfl) ?_
 simp only [nrz]
 refine tkz 3 (v := ?rv3) rfl hS (fun w' hS' => ?ry3) ?rz3
 case ry3 =>
  obtain ⟨b0, b1, b2⟩ := cz3 (k5.below hS' k5.lt)
  obtain ⟨e0, e1, e2⟩ := cz3 (k6.below hS' k6.lt)
  have h0 := (k7.below hS' k7.lt).cell (i := 0) rfl
  obtain ⟨l0, l1, l2, l3, l4, l5, l6⟩ := cz7 (k8.below hS' k8.lt)
  go_simp
  rfl
 simp only [nrz]
 refine tkz 4 (v := ?rv4) rfl hS (fun w' hS' => ?ry4) ?rz4
 case ry4 =>
  obtain ⟨b0, b1, b2⟩ := cz3 (k5.below hS' k5.lt)
  obtain ⟨e0, e1, e2⟩ := cz3 (k6.below hS' k6.lt)
  have h0 := (k7.below hS' k7.lt).cell (i := 0) rfl
  obtain ⟨l0, l1, l2, l3, l4, l5, l6⟩ := cz7 (k8.below hS' k8.lt)
  go_simp
  rfl
 simp only [nrz]
 refine tkz 5 rfl hS (fun w' hS' => by go_simp; rfl) ?_
 simp only [nrz]
 refine tkz 6 rfl hS (fun w' hS' => by go_simp; rfl) ?_
 simp only [nrz]
 refine tkz 8 (v := ?rv8) rfl hS (fun w' hS' => ?ry8) ?rz8
 case ry8 =>
  obtain ⟨b0, b1, b2⟩ := cz3 (k5.below hS' k5.lt)
  obtain ⟨e0, e1, e2⟩ := cz3 (k6.below hS' k6.lt)
  have h0 := (k7.below hS' k7.lt).cell (i := 0) rfl
  obtain ⟨l0, l1, l2, l3, l4, l5, l6⟩ := cz7 (k8.below hS' k8.lt)
  go_simp
  rfl
 simp only [nrz]
 refine tkz 9 rfl hS (fun w' hS' => by go_simp; rfl) ?_
 simp only [nrz]
 refine tkz 10 rfl hS (fun w' hS' => by go_simp; rfl) ?_
 simp only [nrz]
 refine step_op 7 (by kernel_rfl) rfl (fun K hK => ?_)
 rw [if_pos (by rfl)]
 go_simp
 refine (at_any iw ih x y a c xs n hn _ (Int.le_trans (by decide) q1) (Int.le_trans (Int.le_of_lt q4) (by omega)) q2 q3 (by omega) ((hr.below (Nat.le_refl _) hS).mono hS.size)).mono ?_
 rintro e W1 ⟨rfl, hb2⟩
 rw [hvH.out]
 have hS1 : Below W.heap.size W W1 := hS.trans (hb2.mono hS.size)
 refine hK.out _ _ (fun h => hS1) ?_
 clear hK K
 try simp only [Act.put, nrz]
 refine step_op 11 (by kernel_rfl) rfl (fun K hK => ?_)
 rw [if_pos (by rfl)]
 go_simp
 refine (at_any iw ih x y a' c' ys n hn' _ (Int.le_trans (by decide) q1) (Int.le_trans (Int.le_of_lt q4) (by omega)) q2 q3 (by omega) ((hr'.below (Nat.le_refl _) hS1).mono hS1.size)).mono ?_
 rintro e W2 ⟨rfl, hb3⟩
 rw [huH.out]
 have hS2 : Below W.heap.size W W2 := hS1.trans (hb3.mono hS1.size)
 refine hK.out _ _ (fun h => hS2) ?_
 clear hK K
 try simp only [Act.put, nrz]
 refine step_op 12 (by kernel_rfl) rfl (fun K hK => ?_)
 rw [if_pos (by rfl)]
 go_simp
 refine (oper6_any v u vb1 vb2 ub1 ub2 _).mono ?_
 rintro e W3 ⟨rfl, rfl⟩
 refine hK.out _ _ (fun h => hS2) ?_
 clear hK K
 try simp only [Act.put, nrz]
 refine tkz 13 rfl hS2 (fun w' hS' => by go_simp; rfl) ?_
 simp only [nrz]
 refine done_ops (by kernel_rfl) ?_
 go_wp2_with fail
 go_ret
 exact ⟨ret_int (by unfold zipG; rw [hvH.out, huH.out]), hS2⟩
theorem Zip1_any (how : Int) (hh1 : 1 ≤ how) (hh2 : how ≤ 6) (iw ih : Int) (a a' : Option Addr) (c c' n : Nat) (xs ys : List Int) (hn : Hid (xs.length = n)) (hn' : Hid (ys.length = n)) (hall : Hid (allIn (-2147483648) 2147483648 xs = true)) (hall' : Hid (allIn (-2147483648) 2147483648 ys = true)) (x y : Int) (b8 b7 b6 b5 : Nat) (W : World) (hi1 : 1 ≤ iw) (hi2 : iw ≤ 16) (hi3 : 1 ≤ ih) (hi4 : ih ≤ 16) (hnn : Hid ((n : Int) = iw * ih)) (hx1 : 0 ≤ x) (hx2 : x ≤ iw - 1) (hy1 : 0 ≤ y) (hy2 : y ≤ ih - 1)
  (k8 : Blk W b8 160 opsv) (k7 : Blk W b7 5 #[.int .u8 how]) (k6 : Blk W b6 29 #[.int .i64 iw, .int .i64 ih, .slice a' n c']) (k5 : Blk W b5 29 #[.int .i64 iw, .int .i64 ih, .slice a n c]) (hr : Rd W.heap.size W a xs) (hr' : Rd W.heap.size W a' ys) :
  Calls Try.prog 112 #[.int .i64 x, .int .i64 y, .pointer (some ⟨b8, 0, none⟩), .pointer (some ⟨b7, 0, none⟩), .pointer (some ⟨b5, 0, none⟩), .pointer (some ⟨b6, 0, none⟩)] W fun e W' => e = .returned (.int .i64 (zipG iw xs ys how x y)) ∧ Below W.heap.size W W' := by
 have : how = 1 ∨ how = 2 ∨ how = 3 ∨ how = 4 ∨ how = 5 ∨ how = 6 := by omega
 rcases this with rfl | rfl | rfl | rfl | rfl | rfl
 ·exact Zip1_1 iw ih a a' c c' n xs ys hn hn' hall hall' x y b8 b7 b6 b5 W hi1 hi2 hi3 hi4 hnn hx1 hx2 hy1 hy2 k8 k7 k6 k5 hr hr'
 ·exact Zip1_2 iw ih a a' c c' n xs ys hn hn' hall hall' x y b8 b7 b6 b5 W hi1 hi2 hi3 hi4 hnn hx1 hx2 hy1 hy2 k8 k7 k6 k5 hr hr'
 ·exact Zip1_3 iw ih a a' c c' n xs ys hn hn' hall hall' x y b8 b7 b6 b5 W hi1 hi2 hi3 hi4 hnn hx1 hx2 hy1 hy2 k8 k7 k6 k5 hr hr'
 ·exact Zip1_4 iw ih a a' c c' n xs ys hn hn' hall hall' x y b8 b7 b6 b5 W hi1 hi2 hi3 hi4 hnn hx1 hx2 hy1 hy2 k8 k7 k6 k5 hr hr'
 ·exact Zip1_5 iw ih a a' c c' n xs ys hn hn' hall hall' x y b8 b7 b6 b5 W hi1 hi2 hi3 hi4 hnn hx1 hx2 hy1 hy2 k8 k7 k6 k5 hr hr'
 ·exact Zip1_6 iw ih a a' c c' n xs ys hn hn' hall hall' x y b8 b7 b6 b5 W hi1 hi2 hi3 hi4 hnn hx1 hx2 hy1 hy2 k8 k7 k6 k5 hr hr'
end Go.Proofs.Ytekiemlniegddaa
namespace Go.Proofs.Ytekiemlniegddaa
open Go Go.RowKit Go.Shelf
/-- What Zip returns. -/
def zipS (iw ih : Int) (xs : List Int) (jw jh : Int) (ys : List Int) (how : Int) : ImR :=
 if vld iw ih xs = true then (if vld jw jh ys = true then (if decide (iw = jw ∧ ih = jh) = true then (if decide (1 ≤ how ∧ how ≤ 6) = true then { w := iw, h := ih, px := img iw.toNat ih.toNat (zipG iw xs ys how), err := 0 } else noIm 2) else noIm 21) else noIm 20) else noIm 20
set_option maxRecDepth 100000 in
set_option maxHeartbeats 4000000 in
theorem Zip_any (iw ih : Int) (a : Option Addr) (c n : Nat) (xs : List Int) (hn : Hid (xs.length = n)) (jw jh : Int) (a' : Option Addr) (c' n' : Nat) (ys : List Int) (hn' : Hid (ys.length = n')) (how : Int) (hw1 : 0 ≤ how) (hw2 : how ≤ 255) (w : World) (hm : n ≤ 9223372036854775807) (hm' : n' ≤ 9223372036854775807) (hr : Rd w.heap.size w a xs) (hr' : Rd w.heap.size w a' ys) :
  Calls Try.prog 71 #[imv iw ih a n c, imv jw jh a' n' c', .int .u8 how] w (RetIm w.heap.size (zipS iw ih xs jw jh ys how) w) := by
 have hB0 : Below w.heap.size w ((((w.alloc (.cells #[.int .i64 iw, .int .i64 ih, .slice a n c] 29)).alloc (.cells #[.int .i64 jw, .int .i64 jh, .slice a' n' c'] 29)).alloc (.cells #[.int .u8 how] 5)).alloc (.cells #[.int .i64 0, .int .i64 0, .slice none 0 0] 29)) := below_al (below_al (below_al (below_al (Below.refl _ _) _) _) _) _
 obtain ⟨v0, hv0⟩ : ∃ v, vld iw ih xs = v := ⟨_, rfl⟩
 obtain ⟨v1, hv1⟩ : ∃ v, vld jw jh ys = v := ⟨_, rfl⟩
 obtain ⟨v2, hv2⟩ : ∃ v, decide (iw = jw ∧ ih = jh) = v := ⟨_, rfl⟩
 obtain ⟨v3, hv3⟩ : ∃ v, decide (1 ≤ how ∧ how ≤ 6) = v := ⟨_, rfl⟩
 have hsp0 : zipS iw ih xs jw jh ys how = if v0 = true then (if v1 = true then (if v2 = true then (if v3 = true then { w := iw, h := ih, px := img iw.toNat ih.toNat (zipG iw xs ys how), err := 0 } else noIm 2) else noIm 21) else noIm 20) else noIm 20 := by
  simp only [zipS, hv0, hv1, hv2, hv3]
 have hsp := Lib.hid hsp0
 have v0H := Lib.hid hv0
 have v1H := Lib.hid hv1
 have v2H := Lib.hid hv2
 have v3H := Lib.hid hv3
 clear hv0 hv1 hv2 hv3 hsp0
 go_enter Try.func71, Try.ntmps71
 go_wp2_with fail
 refine (operations_any _).mono ?_
 rintro e W1 ⟨rfl, hb1⟩
 have hB1 : Below w.heap.size w W1 := hB0.trans (hb1.mono hB0.size)
 have k5 := ((((Blk.new w 29 #[.int .i64 iw, .int .i64 ih, .slice a n c]).alloc (.cells #[.int .i64 jw, .int .i64 jh, .slice a' n' c'] 29)).alloc (.cells #[.int .u8 how] 5)).alloc (.cells #[.int .i64 0, .int .i64 0, .slice none 0 0] 29)).below hb1 (by simp <;> omega)
 have k6 := (((Blk.new (w.alloc (.cells #[.int .i64 iw, .int .i64 ih, .slice a n c] 29)) 29 #[.int .i64 jw, .int .i64 jh, .slice a' n' c']).alloc (.cells #[.int .u8 how] 5)).alloc (.cells #[.int .i64 0, .int .i64 0, .slice none 0 0] 29)).below hb1 (by simp <;> omega)
 have k7 := ((Blk.new ((w.alloc (.cells #[.int .i64 iw, .int .i64 ih, .slice a n c] 29)).alloc (.cells #[.int .i64 jw, .int .i64 jh, .slice a' n' c'] 29)) 5 #[.int .u8 how]).alloc (.cells #[.int .i64 0, .int .i64 0, .slice none 0 0] 29)).below hb1 (by simp <;> omega)
 have k := (Blk.new (((w.alloc (.cells #[.int .i64 iw, .int .i64 ih, .slice a n c] 29)).alloc (.cells #[.int .i64 jw, .int .i64 jh, .slice a' n' c'] 29)).alloc (.cells #[.int .u8 how] 5)) 29 #[.int .i64 0, .int .i64 0, .slice none 0 0]).below hb1 (by simp <;> omega)
 simp only [World.size_alloc] at k k6 k7
 clear hb1 hB0
 have ka := k5.alloc (.cells #[.nilFunc, .func (.func 135) #[] #[], .func (.func 136) #[] #[], .func (.func 137) #[] #[], .func (.func 138) #[] #[], .func (.func 139) #[] #[], .func (.func 140) #[] #[]] 160)
 obtain ⟨m0, m1, m2⟩ := cz3 ka
 go_wp2_with fail
 have k8 := Blk.new W1 160 opsv
 have hb0 : Below W1.heap.size W1 (W1.alloc (.cells opsv 160)) := below_al (Below.refl _ _) _
 have hB2 := hB1.trans (hb0.mono hB1.size)
 refine (valid_any iw ih a c xs n hn _ hm ((hr.below (Nat.le_refl _) hB2).mono hB2.size)).mono ?_
 rintro e W3 ⟨rfl, hb⟩
 rw [v0H.out]
 have hB3 := hB2.trans (hb.mono hB2.size)
 clear m0 m1 m2 ka
 replace k8 := k8.below hb k8.lt
 obtain ⟨M, hM⟩ : ∃ M, W1.heap.size = M := ⟨_, rfl⟩
 rw [hM] at k8 ⊢
 clear hM
 replace k := k.below hb0 k.lt
 replace k5 := k5.below hb0 k5.lt
 replace k6 := k6.below hb0 k6.lt
 replace k7 := k7.below hb0 k7.lt
 replace k := k.below hb k.lt
 replace k5 := k5.below hb k5.lt
 replace k6 := k6.below hb k6.lt
 replace k7 := k7.below hb k7.lt
 clear hb hb0
 have hlt := k.lt
 obtain ⟨c0, c1, c2⟩ := cz3 k
 have fc0 := k.frozen 0
 have fc1 := k.frozen 1
 have fc2 := k.frozen 2
 obtain ⟨m0, m1, m2⟩ := cz3 k5
 obtain ⟨j0, j1, j2⟩ := cz3 k6
 have h0 := k7.cell (i := 0) rfl
 cases v0 with
 | false =>
  go_wp2_with fail
  have kf := put3_blk k (.int .i64 0) (.int .i64 0) (.slice none 0 0)
  obtain ⟨g0, g1, g2⟩ := cz3 kf
  exact bodyPost_ret (v := .tuple #[.agg #[.int .i64 0, .int .i64 0, .slice none 0 0], .int .i64 20]) (by simp [results, Try.results71, go_sem, g0, g1, g2]) rfl ⟨⟨_, by rw [hsp.out]; rfl, by rw [hsp.out]; exact OwnIm_nil _ _⟩, hB3.trans (put3_below (by omega) _ _ _)⟩
 | true =>
  go_wp2_with fail
  refine (valid_any jw jh a' c' ys n' hn' _ hm' ((hr'.below (Nat.le_refl _) hB3).mono hB3.size)).mono ?_
  rintro e W4 ⟨rfl, hb⟩
  rw [v1H.out]
  have hB4 := hB3.trans (hb.mono hB3.size)
  clear c0 c1 c2 fc0 fc1 fc2
  replace k := k.below hb k.lt
  obtain ⟨c0, c1, c2⟩ := cz3 k
  have fc0 := k.frozen 0
  have fc1 := k.frozen 1
  have fc2 := k.frozen 2
  clear m0 m1 m2
  replace k5 := k5.below hb k5.lt
  obtain ⟨m0, m1, m2⟩ := cz3 k5
  clear j0 j1 j2
  replace k6 := k6.below hb k6.lt
  obtain ⟨j0, j1, j2⟩ := cz3 k6
  clear h0
  replace k7 := k7.below hb k7.lt
  have h0 := k7.cell (i := 0) rfl
  replace k8 := k8.below hb k8.lt
  clear hb
  replace hlt := k.lt
  cases v1 with
  | false =>
   go_wp2_with fail
   have kf := put3_blk k (.int .i64 0) (.int .i64 0) (.slice none 0 0)
   obtain ⟨g0, g1, g2⟩ := cz3 kf
   exact bodyPost_ret (v := .tuple #[.agg #[.int .i64 0, .int .i64 0, .slice none 0 0], .int .i64 20]) (by simp [results, Try.results71, go_sem, g0, g1, g2]) rfl ⟨⟨_, by rw [hsp.out]; rfl, by rw [hsp.out]; exact OwnIm_nil _ _⟩, hB4.trans (put3_below (by omega) _ _ _)⟩
  | true =>
   cases v2 with
   | false =>
    have hq := v2H.out
    simp only [decide_eq_false_iff_not] at hq
    by_cases e1 : iw = jw
    ·have e2 : ¬ ih = jh := fun e2 => hq ⟨e1, e2⟩
     clear hq
     subst e1
     go_wp2_with fail
     have kf := put3_blk k (.int .i64 0) (.int .i64 0) (.slice none 0 0)
     obtain ⟨g0, g1, g2⟩ := cz3 kf
     exact bodyPost_ret (v := .tuple #[.agg #[.int .i64 0, .int .i64 0, .slice none 0 0], .int .i64 21]) (by simp [results, Try.results71, go_sem, g0, g1, g2]) rfl ⟨⟨_, by rw [hsp.out]; rfl, by rw [hsp.out]; exact OwnIm_nil _ _⟩, hB4.trans (put3_below (by omega) _ _ _)⟩
    ·clear hq
     go_wp2_with fail
     have kf := put3_blk k (.int .i64 0) (.int .i64 0) (.slice none 0 0)
     obtain ⟨g0, g1, g2⟩ := cz3 kf
     exact bodyPost_ret (v := .tuple #[.agg #[.int .i64 0, .int .i64 0, .slice none 0 0], .int .i64 21]) (by simp [results, Try.results71, go_sem, g0, g1, g2]) rfl ⟨⟨_, by rw [hsp.out]; rfl, by rw [hsp.out]; exact OwnIm_nil _ _⟩, hB4.trans (put3_below (by omega) _ _ _)⟩
   | true =>
    have hq := v2H.out
    simp only [decide_eq_true_eq] at hq
    obtain ⟨e1, e2⟩ := hq
    subst e1 e2
    cases v3 with
    | false =>
     have hq := v3H.out
     simp only [decide_eq_false_iff_not] at hq
     by_cases e1 : how < 1
     ·clear hq
      go_wp2_with fail
      have kf := put3_blk k (.int .i64 0) (.int .i64 0) (.slice none 0 0)
      obtain ⟨g0, g1, g2⟩ := cz3 kf
      exact bodyPost_ret (v := .tuple #[.agg #[.int .i64 0, .int .i64 0, .slice none 0 0], .int .i64 2]) (by simp [results, Try.results71, go_sem, g0, g1, g2]) rfl ⟨⟨_, by rw [hsp.out]; rfl, by rw [hsp.out]; exact OwnIm_nil _ _⟩, hB4.trans (put3_below (by omega) _ _ _)⟩
     ·have e2 : 7 ≤ how := by omega
      clear hq
      go_wp2_with fail
      have kf := put3_blk k (.int .i64 0) (.int .i64 0) (.slice none 0 0)
      obtain ⟨g0, g1, g2⟩ := cz3 kf
      exact bodyPost_ret (v := .tuple #[.agg #[.int .i64 0, .int .i64 0, .slice none 0 0], .int .i64 2]) (by simp [results, Try.results71, go_sem, g0, g1, g2]) rfl ⟨⟨_, by rw [hsp.out]; rfl, by rw [hsp.out]; exact OwnIm_nil _ _⟩, hB4.trans (put3_below (by omega) _ _ _)⟩
    | true =>
     have hq := v3H.out
     simp only [decide_eq_true_eq] at hq
     obtain ⟨hh1, hh2⟩ := hq
     obtain ⟨⟨i1, i2⟩, ⟨i3, i4⟩, hlen, hall⟩ := vld_true v0H.out
     obtain ⟨_, _, hlen', hall'⟩ := vld_true v1H.out
     rw [hn.out] at hlen
     rw [hn'.out] at hlen'
     obtain rfl : n = n' := by omega
     have hlenH := Lib.hid hlen
     have hallH := Lib.hid hall
     have hallH' := Lib.hid hall'
     clear hlen hall hlen' hall'
     obtain ⟨pw, rfl⟩ : ∃ pw : Nat, iw = (pw : Int) := ⟨iw.toNat, by omega⟩
     obtain ⟨ph, rfl⟩ : ∃ ph : Nat, ih = (ph : Int) := ⟨ih.toNat, by omega⟩
     go_wp2_with fail
     refine (made_any pw ph (by omega) (by omega) (by omega) (by omega) 112 #[.pointer (some ⟨M, 0, none⟩), .pointer (some ⟨w.heap.size + 1 + 1, 0, none⟩), .pointer (some ⟨w.heap.size, 0, none⟩), .pointer (some ⟨w.heap.size + 1, 0, none⟩)] (enters_of Try.func112 (by kernel_rfl) rfl) (zipG pw xs ys how) W4 (fun x y W hx hy hb => ?_)).mono ?_
     ·exact Zip1_any how hh1 hh2 pw ph a a' c c' n xs ys hn hn' hallH hallH' x y M (w.heap.size + 1 + 1) (w.heap.size + 1) w.heap.size W i1 i2 i3 i4 hlenH (by omega) (by omega) (by omega) (by omega) (k8.below hb k8.lt) (k7.below hb k7.lt) (k6.below hb k6.lt) (k5.below hb k5.lt) ((hr.below (Nat.le_refl _) (hB4.trans (hb.mono hB4.size))).mono (Nat.le_trans hB4.size hb.size)) ((hr'.below (Nat.le_refl _) (hB4.trans (hb.mono hB4.size))).mono (Nat.le_trans hB4.size hb.size))
     rintro e W7 ⟨v, rfl, ⟨s, rfl, hrow⟩, hb2⟩
     clear c0 c1 c2 fc0 fc1 fc2
     replace k := k.below hb2 k.lt
     obtain ⟨c0, c1, c2⟩ := cz3 k
     have fc0 := k.frozen 0
     have fc1 := k.frozen 1
     have fc2 := k.frozen 2
     obtain ⟨sa, sc, rfl⟩ := row_slice hrow
     go_wp2_with fail
     have kf := put3_blk k (.int .i64 pw) (.int .i64 ph) (.slice sa (img pw ph (zipG pw xs ys how)).length sc)
     obtain ⟨g0, g1, g2⟩ := cz3 kf
     exact bodyPost_ret (v := .tuple #[.agg #[.int .i64 pw, .int .i64 ph, .slice sa (img pw ph (zipG pw xs ys how)).length sc], .int .i64 0]) (by simp [results, Try.results71, go_sem, g0, g1, g2]) rfl ⟨⟨_, by rw [hsp.out]; rfl, by rw [hsp.out]; exact OwnIm.weaken ⟨_, rfl, put3_row hrow (k.not_row (by decide) hrow) _ _ _⟩ hB4.size⟩, (hB4.trans (hb2.mono hB4.size)).trans (put3_below (by omega) _ _ _)⟩
end Go.Proofs.Ytekiemlniegddaa
namespace Go.Proofs.Ytekiemlniegddaa
/-- The columns', the rows' difference of two indexes. -/
def dX (pw i k : Nat) : Nat := (((i % pw : Nat) : Int) - ((k % pw : Nat) : Int)).natAbs
def dY (pw i k : Nat) : Nat := (((i / pw : Nat) : Int) - ((k / pw : Nat) : Int)).natAbs
def l1 (pw i k : Nat) : Nat := dX pw i k + dY pw i k
/-! ### The least distance to a pixel with the value 0 -/
/-! ### Narrowing down -/
/-! ### Parts: what grows from a pixel on -/
/-! ### The neighbours of a pixel, by their places around it -/
end Go.Proofs.Ytekiemlniegddaa
namespace Go.Proofs.Ytekiemlniegddaa
open Go Go.RowKit Go.Shelf
attribute [local go_sem] Oper.semAt_some
theorem funcEq1 (fo : Nat) (W : World) : (binOp BinOp.eql 163 (.func (.func fo) #[] #[]) .nilFunc).run Try.prog W = .ok (.bool false) W := by
 have h : Try.prog.underlying 163 = _ := Try.underlying163
 have hd : Op.maxDepth = (Op.maxDepth - 1) + 1 := rfl
 simp only [binOp, Op.equal]
 rw [hd]
 simp [Op.equalIn, go_sem, run_underlying h]
theorem funcEq2 (W : World) : (binOp BinOp.eql 163 .nilFunc .nilFunc).run Try.prog W = .ok (.bool true) W := by
 have h : Try.prog.underlying 163 = _ := Try.underlying163
 have hd : Op.maxDepth = (Op.maxDepth - 1) + 1 := rfl
 simp only [binOp, Op.equal]
 rw [hd]
 simp [Op.equalIn, go_sem, run_underlying h]
attribute [local go_sem] funcEq1 funcEq2
end Go.Proofs.Ytekiemlniegddaa
namespace Go.Proofs.Ytekiemlniegddaa
open Go Go.RowKit Go.Shelf
/-- A picture: sides and values. -/
structure PicN where
 w : Int
 h : Int
 px : List Int
def picAt (ms : List PicN) (i : Nat) : PicN := ms[i]?.getD ⟨0, 0, []⟩
structure StepN where
 op : Int
 a : Int
 b : Int
 pt : PointN
 how : Int
 kw : Int
 kh : Int
 taps : List Int
 bd : Int
 sw : Int
 sh : Int
 bits : List Bool
def noStep : StepN := ⟨0, 0, 0, ⟨0, 0, 0, 0, 0⟩, 0, 0, 0, [], 0, 0, 0, []⟩
structure PipeN where
 w : Int
 h : Int
 inp : Int
 ss : List StepN
/-- So many images, all valid and of a size. -/
def givenB (ms : List PicN) (n w h : Int) : Bool := decide ((ms.length : Int) = n) && ms.all (fun m => vld m.w m.h m.px && (decide (m.w = w) && decide (m.h = h)))
end Go.Proofs.Ytekiemlniegddaa
namespace Go.Proofs.Ytekiemlniegddaa
open Go Go.RowKit Go.Shelf
/-- The slice at 'a' reads as the images 'ms', in blocks below 'B'. -/
def RdPs (B : Nat) (W : World) (a : Option Addr) (ms : List PicN) : Prop :=
 ms = [] ∨ ∃ b o, a = some ⟨b, o, none⟩ ∧ b < B ∧ ∀ i, i < ms.length → ∃ pa pc, W.cell? ⟨b, o + i * 3, none⟩ = some (.int .i64 (picAt ms i).w) ∧ W.cell? ⟨b, o + i * 3 + 1, none⟩ = some (.int .i64 (picAt ms i).h) ∧
  W.cell? ⟨b, o + i * 3 + 2, none⟩ = some (.slice pa (picAt ms i).px.length pc) ∧ Rd B W pa (picAt ms i).px ∧ (pa = none → pc = 0)
theorem RdPs.below {B B' : Nat} {W W' : World} {a : Option Addr} {ms : List PicN} (h : RdPs B W a ms) (hB : B ≤ B') (hb : Below B' W W') : RdPs B W' a ms := by
 rcases h with h | ⟨b, o, h1, h2, h3⟩
 ·exact .inl h
 ·refine .inr ⟨b, o, h1, h2, fun i hi => ?_⟩
  obtain ⟨pa, pc, e1, e2, e3, e4, e5⟩ := h3 i hi
  exact ⟨pa, pc, (hb.cell (p := ⟨b, o + i * 3, none⟩) (by show b < B'; omega)).trans e1, (hb.cell (p := ⟨b, o + i * 3 + 1, none⟩) (by show b < B'; omega)).trans e2, (hb.cell (p := ⟨b, o + i * 3 + 2, none⟩) (by show b < B'; omega)).trans e3, e4.below hB hb, e5⟩
theorem RdPs.mono {B B' : Nat} {W : World} {a : Option Addr} {ms : List PicN} (h : RdPs B W a ms) (hB : B ≤ B') : RdPs B' W a ms := by
 rcases h with h | ⟨b, o, h1, h2, h3⟩
 ·exact .inl h
 ·refine .inr ⟨b, o, h1, by omega, fun i hi => ?_⟩
  obtain ⟨pa, pc, e1, e2, e3, e4, e5⟩ := h3 i hi
  exact ⟨pa, pc, e1, e2, e3, e4.mono hB, e5⟩
theorem RdPs.later {W W' : World} {a : Option Addr} {ms : List PicN} (h : RdPs W.heap.size W a ms) (hb : Below W.heap.size W W') : RdPs W'.heap.size W' a ms := (h.below (Nat.le_refl _) hb).mono hb.size
theorem RdPs.at {B : Nat} {W : World} {a : Option Addr} {ms : List PicN} (h : RdPs B W a ms) {i : Nat} (hi : i < ms.length) :
  ∃ b o, a = some ⟨b, o, none⟩ ∧ b < B ∧ ∃ pa pc, W.cell? ⟨b, o + i * 3, none⟩ = some (.int .i64 (picAt ms i).w) ∧ W.cell? ⟨b, o + i * 3 + 1, none⟩ = some (.int .i64 (picAt ms i).h) ∧
   W.cell? ⟨b, o + i * 3 + 2, none⟩ = some (.slice pa (picAt ms i).px.length pc) ∧ Rd B W pa (picAt ms i).px ∧ (pa = none → pc = 0) := by
 rcases h with h | ⟨b, o, h1, h2, h3⟩
 ·subst h; simp at hi
 ·obtain ⟨pa, pc, e⟩ := h3 i hi
  exact ⟨b, o, h1, h2, pa, pc, e⟩
theorem RdPs.bm {W W' : World} {a : Option Addr} {l : List PicN} (h : RdPs W.heap.size W a l) (g : Below W.heap.size W W') : RdPs W'.heap.size W' a l := (h.below (Nat.le_refl _) g).mono g.size
end Go.Proofs.Ytekiemlniegddaa
namespace Go.Proofs.Ytekiemlniegddaa
/-- A layer: for each of its numbers the weights of those before it, and a bias. -/
structure LayN where
 ws : List (List Int)
 bs : List Int
/-! ### Verdicts and certificates -/
variable {Ls : List LayN} {low high : Int}
end Go.Proofs.Ytekiemlniegddaa
namespace Go.Proofs.Ytekiemlniegddaa
open Go Go.RowKit Go.Shelf
/-- What is read later. -/
theorem later_i {W W' : World} {a : Option Addr} {xs : List Int} (h : Rd W.heap.size W a xs) (hb : Below W.heap.size W W') : Rd W'.heap.size W' a xs := (h.below (Nat.le_refl _) hb).mono hb.size
end Go.Proofs.Ytekiemlniegddaa
namespace Go.Proofs.Ytekiemlniegddaa
open Go Go.RowKit Go.Shelf
/-! ### Mul -/
theorem row_whole {W : World} {base g n : Nat} {e : TypeId} {xs : List Value} (h : W.ownsRow base e 1 (.slice (some ⟨g, 0, none⟩) n n) n xs) : W.heap[g]? = some (.cells xs.toArray e (0, 0)) := by
 rcases h.2 with ⟨h1, _⟩ | ⟨g', cap, cur, h1, _, h2, _, _, h4, h5⟩
 ·cases h1
 ·simp only [Value.slice.injEq, Option.some.injEq, Addr.mk.injEq, and_true, true_and] at h1
  obtain ⟨rfl, rfl⟩ := h1
  rw [List.take_of_length_le (by simp; omega)] at h5
  rw [h2, ← h5]
end Go.Proofs.Ytekiemlniegddaa
namespace Go.Proofs.Ytekiemlniegddaa
open Go Go.RowKit Go.Shelf
theorem jrow_weaken {W : World} {base base' : Nat} {e : TypeId} {size : Nat} {v : Value} {k : Nat} {xs : List Value} (h : W.ownsRow base e size v k xs) (hb : base' ≤ base) : W.ownsRow base' e size v k xs := by
 refine ⟨h.1, ?_⟩
 rcases h.2 with h1 | ⟨g, cap, cur, h1, h2, h3⟩
 ·exact .inl h1
 ·exact .inr ⟨g, cap, cur, h1, Nat.le_trans hb h2, h3⟩
end Go.Proofs.Ytekiemlniegddaa
namespace Go.Proofs.Ytekiemlniegddaa
open Go Go.RowKit Go.Shelf
theorem row_put3b {W : World} {base : Nat} {e : TypeId} {size : Nat} {v : Value} {k : Nat} {xs : List Value} (h : W.ownsRow base e size v k xs) {B : Nat} (hne : some B ≠ v.ownBlock) (x y z : Value) : (put3 W B x y z).ownsRow base e size v k xs :=
 row_setCell (row_setCell (row_setCell h (a := ⟨B, 0, none⟩) hne x) (a := ⟨B, 1, none⟩) hne y) (a := ⟨B, 2, none⟩) hne z
end Go.Proofs.Ytekiemlniegddaa

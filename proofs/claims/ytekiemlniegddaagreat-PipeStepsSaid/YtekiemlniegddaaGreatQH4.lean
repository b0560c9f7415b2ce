/- Contracts and laws (ImgW, PpL, PpR, Net, NetB, ND, JX, JS, PAp, Ap, PpO). -/
import Derived.Lib.Hide
import Derived.Shelf.Bits.Mul64
import Derived.Laws.CopyOwn
import Derived.Lib.MinMax
import Derived.Maps.AppendAt
import Derived.Test.YtekiemlniegddaaGreatQH3
import Derived.Test.YtekiemlniegddaaGreatQH2
import Derived.Test.YtekiemlniegddaaGreatQH1
set_option linter.unusedVariables false
set_option linter.unusedSimpArgs false
namespace Go.Proofs.YtekiemlniegddaaGreat
open Go Go.RowKit Go.Shelf
attribute [local go_sem] Oper.semAt_some
theorem funcEq1 (fo : Nat) (W : World) : (binOp BinOp.eql 162 (.func (.func fo) #[] #[]) .nilFunc).run Tryz.prog W = .ok (.bool false) W := by
 have h : Tryz.prog.underlying 162 = _ := Tryz.underlying162
 have hd : Op.maxDepth = (Op.maxDepth - 1) + 1 := rfl
 simp only [binOp, Op.equal]
 rw [hd]
 simp [Op.equalIn, go_sem, run_underlying h]
theorem funcEq2 (W : World) : (binOp BinOp.eql 162 .nilFunc .nilFunc).run Tryz.prog W = .ok (.bool true) W := by
 have h : Tryz.prog.underlying 162 = _ := Tryz.underlying162
 have hd : Op.maxDepth = (Op.maxDepth - 1) + 1 := rfl
 simp only [binOp, Op.equal]
 rw [hd]
 simp [Op.equalIn, go_sem, run_underlying h]
attribute [local go_sem] funcEq1 funcEq2
/-- Term t of a convolution at (x, y). -/
def convT (bd iw ih : Int) (xs : List Int) (kw kh : Nat) (taps : List Int) (x y : Int) (t : Nat) : Int := px taps t * beyF bd iw ih xs (x + ((kw / 2 : Nat) : Int) - ((t % kw : Nat) : Int)) (y + ((kh / 2 : Nat) : Int) - ((t / kw : Nat) : Int))
def convG (bd iw ih : Int) (xs : List Int) (kw kh : Nat) (taps : List Int) (x y : Int) : Int := sumTo (convT bd iw ih xs kw kh taps x y) (kw * kh)
def sumL (f : Nat → Int) (l : List Nat) : Int := l.foldl (fun s t => s + f t) 0
theorem sumL_snoc (f : Nat → Int) (l : List Nat) (t : Nat) : sumL f (l ++ [t]) = sumL f l + f t := by unfold sumL; rw [List.foldl_append]; rfl
theorem sumL_range (f : Nat → Int) (n : Nat) : sumL f (List.range n) = sumTo f n := by
 induction n with
 | zero => rfl
 | succ n ih => rw [List.range_succ, sumL_snoc, ih]; rfl
theorem sumL_bd {f : Nat → Int} {B : Int} (h : ∀ t, -B ≤ f t ∧ f t ≤ B) : ∀ (n : Nat) (l : List Nat), l.length = n → -(B * n) ≤ sumL f l ∧ sumL f l ≤ B * n
 | 0, l, hl => by
  rw [List.eq_nil_of_length_eq_zero hl]
  simp [sumL]
 | n + 1, l, hl => by
  have hne : l ≠ [] := by rintro rfl; simp at hl
  rw [← List.dropLast_concat_getLast hne, sumL_snoc]
  have h1 := sumL_bd h n l.dropLast (by simp [hl])
  have h2 := h (l.getLast hne)
  have e : B * ((n + 1 : Nat) : Int) = B * n + B := by rw [Int.natCast_succ, Int.mul_add, Int.mul_one]
  rw [e]
  omega
def kernOk (kw kh : Int) (taps : List Int) : Bool := sidesB kw kh taps.length && allIn (-65536) 65536 taps
theorem convT_bd {xs taps : List Int} (h : allIn (-2147483648) 2147483648 xs = true) (ht : allIn (-65536) 65536 taps = true) (bd iw ih : Int) (kw kh : Nat) (x y : Int) (t : Nat) : -140737488355328 ≤ convT bd iw ih xs kw kh taps x y t ∧ convT bd iw ih xs kw kh taps x y t ≤ 140737488355328 := by
 have h1 := px_bdB (B := 65536) (by decide) ht (t : Int)
 have h2 := beyF_bd h bd iw ih (x + ((kw / 2 : Nat) : Int) - ((t % kw : Nat) : Int)) (y + ((kh / 2 : Nat) : Int) - ((t / kw : Nat) : Int))
 have h3 := mul_bd h1.1 h1.2 h2.1 h2.2 (by decide) (by decide)
 unfold convT
 omega
set_option maxRecDepth 100000 in
set_option maxHeartbeats 8000000 in
theorem Convolve1_any (bd : Int) (iw ih : Int) (a : Option Addr) (c n : Nat) (xs : List Int) (hn : Hid (xs.length = n)) (hall : Hid (allIn (-2147483648) 2147483648 xs = true)) (kw kh : Nat) (ak : Option Addr) (ck nk : Nat) (taps : List Int) (hkn : Hid (taps.length = nk)) (htall : Hid (allIn (-65536) 65536 taps = true)) (hkw : kw = 1 ∨ kw = 3 ∨ kw = 5) (hkh : kh = 1 ∨ kh = 3 ∨ kh = 5) (hns : Hid (kw * kh = nk))
  (fo : Nat) (eg : ∀ args w, (callFunc fo args).run Tryz.prog w = .ok (.enter fo args) w) (hfo : ∀ (u v : Int) (r : Int) (w : World), -100 ≤ u → u ≤ 100 → -100 ≤ v → v ≤ 100 → Hid (beyF bd iw ih xs u v = r) → Rd w.heap.size w a xs → Calls Tryz.prog fo #[imv iw ih a n c, .int .i64 u, .int .i64 v] w fun e w' => e = .returned (.int .i64 r) ∧ Below w.heap.size w w')
  (x y : Int) (bk ba bm : Nat) (W0 : World) (hx1 : 0 ≤ x) (hx2 : x ≤ 15) (hy1 : 0 ≤ y) (hy2 : y ≤ 15)
  (kk : Blk W0 bk 71 #[.int .i64 kw, .int .i64 kh, .slice ak nk ck]) (ka : Blk W0 ba 162 #[.func (.func fo) #[] #[]]) (km : Blk W0 bm 32 #[.int .i64 iw, .int .i64 ih, .slice a n c]) (hr : Rd W0.heap.size W0 a xs) (hrk : Rd W0.heap.size W0 ak taps) :
  Calls Tryz.prog 92 (#[.int .i64 x, .int .i64 y] ++ #[.pointer (some ⟨bk, 0, none⟩), .pointer (some ⟨ba, 0, none⟩), .pointer (some ⟨bm, 0, none⟩)]) W0 fun e W' => e = .returned (.int .i64 (convG bd iw ih xs kw kh taps x y)) ∧ Below W0.heap.size W0 W' := by
 have hnsP : 1 ≤ nk ∧ nk ≤ 25 := by
  have := hns.out
  rcases hkw with rfl | rfl | rfl <;> rcases hkh with rfl | rfl | rfl <;> omega
 obtain ⟨bt, ot, rfl, hbt, hbc⟩ := rd_at hrk hkn.out (by omega)
 have hbcH := Lib.hid hbc
 have hfoH := Lib.hid hfo
 clear hbc hrk hfo
 obtain ⟨hw, ehw⟩ : ∃ v, (kw : Int).tdiv 2 = v := ⟨_, rfl⟩
 obtain ⟨hh, ehh⟩ : ∃ v, (kh : Int).tdiv 2 = v := ⟨_, rfl⟩
 have hw1 : ((kw / 2 : Nat) : Int) = hw ∧ (kw : Int) / 2 = hw ∧ 0 ≤ hw ∧ hw ≤ 2 := by rw [← ehw]; rcases hkw with rfl | rfl | rfl <;> decide
 have hh1 : ((kh / 2 : Nat) : Int) = hh ∧ (kh : Int) / 2 = hh ∧ 0 ≤ hh ∧ hh ≤ 2 := by rw [← ehh]; rcases hkh with rfl | rfl | rfl <;> decide
 obtain ⟨hwe, ehw', hw2, hw3⟩ := hw1
 obtain ⟨hhe, ehh', hh2, hh3⟩ := hh1
 have hweH := Lib.hid hwe
 have hheH := Lib.hid hhe
 clear hwe hhe
 obtain ⟨TT, hTT⟩ : ∃ f, convT bd iw ih xs kw kh taps x y = f := ⟨_, rfl⟩
 have hG := Lib.hid (show convG bd iw ih xs kw kh taps x y = sumTo TT (kw * kh) by unfold convG; rw [hTT])
 have hTB := Lib.hid (fun t => (show -140737488355328 ≤ TT t ∧ TT t ≤ 140737488355328 by rw [← hTT]; exact convT_bd hall.out htall.out bd iw ih kw kh x y t))
 have hTTH := Lib.hid hTT
 clear hTT
 refine (callsIn_wide (n := 10)).1 ?_
 refine callsIn_of_wp_marks Tryz.func92 rfl trivial ?_
 simp only [Tryz.ntmps92, List.size_toArray, List.length_cons, List.length_nil, Nat.reduceAdd, Nat.reduceSub, Array.replicate_succ, Array.replicate_zero, List.push_toArray, List.append_toArray, List.nil_append, List.cons_append]
 obtain ⟨B0, hB0⟩ : ∃ B, W0.heap.size = B := ⟨_, rfl⟩
 have e0 := ((((kk).alloc (.cells #[.int .i64 x] 3)).alloc (.cells #[.int .i64 y] 3)).alloc (.cells #[.int .i64 0] 3)).cell (i := 0) rfl
 have e1' := ((((kk).alloc (.cells #[.int .i64 x] 3)).alloc (.cells #[.int .i64 y] 3)).alloc (.cells #[.int .i64 0] 3)).cell (i := 1) rfl
 gi_wp2_with fail
 clear e0 e1'
 refine ⟨trivial, (callsIn_wide.2 (places_any _ _ _)).mono ?_⟩
 rintro e w' ⟨rfl, rfl⟩
 gi_wp2_with fail
 have kx := ((((Blk.new W0 3 #[.int .i64 x]).alloc (.cells #[.int .i64 y] 3)).alloc (.cells #[.int .i64 0] 3)).alloc (.cells #[.int .i64 kw] 3)).alloc (.cells #[.int .i64 kh] 3)
 have ky := (((Blk.new ((W0).alloc (.cells #[.int .i64 x] 3)) 3 #[.int .i64 y]).alloc (.cells #[.int .i64 0] 3)).alloc (.cells #[.int .i64 kw] 3)).alloc (.cells #[.int .i64 kh] 3)
 have ko := ((Blk.new (((W0).alloc (.cells #[.int .i64 x] 3)).alloc (.cells #[.int .i64 y] 3)) 3 #[.int .i64 0]).alloc (.cells #[.int .i64 kw] 3)).alloc (.cells #[.int .i64 kh] 3)
 have kpw := (Blk.new ((((W0).alloc (.cells #[.int .i64 x] 3)).alloc (.cells #[.int .i64 y] 3)).alloc (.cells #[.int .i64 0] 3)) 3 #[.int .i64 kw]).alloc (.cells #[.int .i64 kh] 3)
 have kph := Blk.new (((((W0).alloc (.cells #[.int .i64 x] 3)).alloc (.cells #[.int .i64 y] 3)).alloc (.cells #[.int .i64 0] 3)).alloc (.cells #[.int .i64 kw] 3)) 3 #[.int .i64 kh]
 have hbw := below_al (below_al (below_al (below_al (below_al (Below.refl _ W0) (.cells #[.int .i64 x] 3)) (.cells #[.int .i64 y] 3)) (.cells #[.int .i64 0] 3)) (.cells #[.int .i64 kw] 3)) (.cells #[.int .i64 kh] 3)
 have hsz : ((((((W0).alloc (.cells #[.int .i64 x] 3)).alloc (.cells #[.int .i64 y] 3)).alloc (.cells #[.int .i64 0] 3)).alloc (.cells #[.int .i64 kw] 3)).alloc (.cells #[.int .i64 kh] 3)).heap.size = W0.heap.size + 1 + 1 + 1 + 1 + 1 := by simp
 simp only [World.size_alloc] at ky ko kpw kph
 obtain ⟨V0, hV0⟩ : ∃ V, (((((W0).alloc (.cells #[.int .i64 x] 3)).alloc (.cells #[.int .i64 y] 3)).alloc (.cells #[.int .i64 0] 3)).alloc (.cells #[.int .i64 kw] 3)).alloc (.cells #[.int .i64 kh] 3) = V := ⟨_, rfl⟩
 rw [hV0] at kx ky ko kpw kph hbw hsz ⊢
 clear hV0
 have lk := kk.lt
 have la := ka.lt
 have lm := km.lt
 rw [hB0] at lk la lm kx ky ko kpw kph hbw hsz hbt hr
 refine wpIn_rangeFunc_ownG (n := 10) rfl (by omega) (gf := 141) (lb := #[.pointer (some ⟨B0 + 1 + 1 + 1 + 1, 0, none⟩), .pointer (some ⟨B0 + 1 + 1 + 1, 0, none⟩)]) rfl trivial (enters_of Tryz.func141 (by kernel_rfl) rfl)
  (Kp := fun A B => B.heap[B0 + 1 + 1 + 1]? = A.heap[B0 + 1 + 1 + 1]?)
  (places_stopsK Fence.wide 9 trivial rfl (by omega) (B0 + 1 + 1 + 1 + 1) (B0 + 1 + 1 + 1) kw kh (by omega) (by omega) V0 (by omega) (by omega) (kph.cell rfl) (kpw.cell rfl)) (fun h k => k.trans h) (fun W l o o' hl _ _ _ => World.putObj_heap_other (by omega)) (Below.refl _ _) (fun _ => rfl)
  (fun pre W => ((Blk W B0 3 #[.int .i64 x] ∧ Blk W (B0 + 1) 3 #[.int .i64 y]) ∧ (Blk W (B0 + 2) 3 #[.int .i64 (sumL TT (pre.map Fin.val))] ∧ B0 + 5 ≤ W.heap.size)) ∧ Below B0 W0 W)
  (fun _ _ _ => False)
  (OwnFrom.and (fun s A B row hs hg hr => ⟨⟨blk_keeps hs.1.1 hg (fun r e => (hr r e).2), blk_keeps hs.1.2 hg (fun r e => (hr r e).2)⟩, blk_keeps hs.2.1 hg (fun r e => (hr r e).2), Nat.le_trans hs.2.2 hg.size⟩) (ownFrom_below (by omega) (by omega)))
  (fun _ _ _ _ _ hs _ _ => hs)
  ⟨⟨⟨kx, ky⟩, ko, by omega⟩, hbw⟩
  ?act
  ?assign ?body ?done ?stop
 case assign =>
  intro l u W K hK
  simp only [enc2]
  gi_wp2
  exact hK
 case body =>
  rintro l pre ⟨i, hi'⟩ W ⟨⟨⟨kx, ky⟩, ko, hs1⟩, hB1⟩ hlt
  have hp0 : 0 < kw := by omega
  have hx : i % kw < kw := Nat.mod_lt _ hp0
  have hy : i / kw < kh := Nat.div_lt_of_lt_mul hi'
  have hsp := idx_split kw i
  have hsn := Lib.hid (sumL_snoc TT (pre.map Fin.val) i)
  have hpre : (pre ++ [(⟨i, hi'⟩ : Fin (kw * kh))]).map Fin.val = pre.map Fin.val ++ [i] := by simp
  have hpreH := Lib.hid hpre
  clear hpre
  have hsb := sumL_bd hTB.out pre.length (pre.map Fin.val) (by simp)
  have hl25 : pre.length < nk := by rw [← hns.out]; exact hlt
  have ecX : cX kw i = ((i % kw : Nat) : Int) := rfl
  have ecY : cY kw i = ((i / kw : Nat) : Int) := rfl
  dsimp only
  rw [ecX, ecY]
  have hin : i < nk := by rw [← hns.out]; exact hi'
  have hTE : TT i = px taps i * beyF bd iw ih xs (x + hw - ((i % kw : Nat) : Int)) (y + hh - ((i / kw : Nat) : Int)) := by rw [← hTTH.out]; unfold convT; rw [hweH.out, hheH.out]
  have htap := hbcH.out i hin
  have htb := px_bdB (B := 65536) (by decide) htall.out (i : Int)
  obtain ⟨tp, htp⟩ : ∃ v, px taps (i : Int) = v := ⟨_, rfl⟩
  rw [htp] at htap htb hTE
  obtain ⟨X, hX⟩ : ∃ X, i % kw = X := ⟨_, rfl⟩
  obtain ⟨Y, hY⟩ : ∃ Y, i / kw = Y := ⟨_, rfl⟩
  rw [hX] at hx hsp hTE ⊢
  rw [hY] at hy hsp hTE ⊢
  clear hX hY ecX ecY htp
  obtain ⟨bv, hbv⟩ : ∃ v, beyF bd iw ih xs (x + hw - (X : Int)) (y + hh - (Y : Int)) = v := ⟨_, rfl⟩
  have hbb := beyF_bd hall.out bd iw ih (x + hw - (X : Int)) (y + hh - (Y : Int))
  rw [hbv] at hbb hTE
  have hbvH := Lib.hid hbv
  clear hbv
  have hmb := mul_bd htb.1 htb.2 hbb.1 hbb.2 (by decide) (by decide)
  have p3 : ((Y : Int) * (kw : Int) + (X : Int)) < (nk : Int) := by
   have e : ((Y * kw + X : Nat) : Int) = (Y : Int) * (kw : Int) + (X : Int) := by simp
   omega
  have p4 : 0 ≤ (Y : Int) * (kw : Int) := Int.mul_nonneg (by omega) (by omega)
  obtain ⟨sv, hsv⟩ : ∃ v, sumL TT (pre.map Fin.val) = v := ⟨_, rfl⟩
  rw [hsv] at ko hsb
  have hsn2 : sumL TT (pre.map Fin.val ++ [i]) = sv + tp * bv := by rw [hsn.out, hsv, hTE]
  have hsn2H := Lib.hid hsn2
  clear hsn2 hsv hsn hTE
  have hS : Below W.heap.size W W.drew := (Below.refl _ _).drew
  gi_wp2_with fail
  refine round_region (fun W' => Below W.heap.size W W') 30 31 l _ (by kernel_rfl) (by kernel_rfl) (fun ⟨_, _, h⟩ => h) rfl ?_
  simp only [Array.replicate_succ, Array.replicate_zero, List.push_toArray, List.nil_append, List.cons_append]
  refine tkz 0 (v := ?rv0) rfl hS (fun w' hS' => ?ry0) ?rz0
  case ry0 =>
   obtain ⟨a0, a1, a2⟩ := cz3 (kk.below (hB1.trans (hS'.mono (by omega))) (by omega))
   have b0 := (ka.below (hB1.trans (hS'.mono (by omega))) (by omega)).cell (i := 0) rfl
   obtain ⟨m0, m1, m2⟩ := cz3 (km.below (hB1.trans (hS'.mono (by omega))) (by omega))
   have c0 := (kx.below hS' kx.lt).cell (i := 0) rfl
   have d0 := (ky.below hS' ky.lt).cell (i := 0) rfl
   have o0 := (ko.below hS' ko.lt).cell (i := 0) rfl
   have t0 := ((hB1.trans (hS'.mono (by omega))).cell (p := ⟨bt, ot + i, none⟩) hbt).trans htap
   go_simp
   rfl
  simp only [nrz]
  refine tkz 1 rfl hS (fun w' hS' => by go_simp; rfl) ?_
  simp only [nrz]
  refine tkz 2 (v := ?rv2) rfl hS (fun w' hS' => ?ry2) ?rz2
  case ry2 =>
   obtain ⟨a0, a1, a2⟩ := cz3 (kk.below (hB1.trans (hS'.mono (by omega))) (by omega))
   have b0 := (ka.below (hB1.trans (hS'.mono (by omega))) (by omega)).cell (i := 0) rfl
   obtain ⟨m0, m1, m2⟩ := cz3 (km.below (hB1.trans (hS'.mono (by omega))) (by omega))
   have c0 := (kx.below hS' kx.lt).cell (i := 0) rfl
   have d0 := (ky.below hS' ky.lt).cell (i := 0) rfl
   have o0 := (ko.below hS' ko.lt).cell (i := 0) rfl
   have t0 := ((hB1.trans (hS'.mono (by omega))).cell (p := ⟨bt, ot + i, none⟩) hbt).trans htap
   go_simp
   rfl
  simp only [nrz]
  refine tkz 3 rfl hS (fun w' hS' => by go_simp; rfl) ?_
  simp only [nrz]
  refine tkz 4 rfl hS (fun w' hS' => by go_simp; rfl) ?_
  simp only [nrz]
  refine tkz 5 (v := ?rv5) rfl hS (fun w' hS' => ?ry5) ?rz5
  case ry5 =>
   obtain ⟨a0, a1, a2⟩ := cz3 (kk.below (hB1.trans (hS'.mono (by omega))) (by omega))
   have b0 := (ka.below (hB1.trans (hS'.mono (by omega))) (by omega)).cell (i := 0) rfl
   obtain ⟨m0, m1, m2⟩ := cz3 (km.below (hB1.trans (hS'.mono (by omega))) (by omega))
   have c0 := (kx.below hS' kx.lt).cell (i := 0) rfl
   have d0 := (ky.below hS' ky.lt).cell (i := 0) rfl
   have o0 := (ko.below hS' ko.lt).cell (i := 0) rfl
   have t0 := ((hB1.trans (hS'.mono (by omega))).cell (p := ⟨bt, ot + i, none⟩) hbt).trans htap
   go_simp
   rfl
  simp only [nrz]
  refine tkz 6 rfl hS (fun w' hS' => by go_simp; (try go_ints); rfl) ?_
  simp only [nrz]
  refine tkz 7 rfl hS (fun w' hS' => by go_simp; rfl) ?_
  simp only [nrz]
  refine tkz 8 rfl hS (fun w' hS' => by go_simp; (try go_ints); rfl) ?_
  simp only [nrz]
  refine tkz 9 (v := ?rv9) rfl hS (fun w' hS' => ?ry9) ?rz9
  case ry9 =>
   go_simp
   try go_ints
   first
   | rfl
   | rw [if_pos ⟨by omega, by omega⟩]
  simp only [nrz]
  refine tkz 10 (v := ?rv10) rfl hS (fun w' hS' => ?ry10) ?rz10
  case ry10 =>
   obtain ⟨a0, a1, a2⟩ := cz3 (kk.below (hB1.trans (hS'.mono (by omega))) (by omega))
   have b0 := (ka.below (hB1.trans (hS'.mono (by omega))) (by omega)).cell (i := 0) rfl
   obtain ⟨m0, m1, m2⟩ := cz3 (km.below (hB1.trans (hS'.mono (by omega))) (by omega))
   have c0 := (kx.below hS' kx.lt).cell (i := 0) rfl
   have d0 := (ky.below hS' ky.lt).cell (i := 0) rfl
   have o0 := (ko.below hS' ko.lt).cell (i := 0) rfl
   have t0 := ((hB1.trans (hS'.mono (by omega))).cell (p := ⟨bt, ot + i, none⟩) hbt).trans htap
   go_simp
   rfl
  simp only [nrz]
  refine tkz 11 (v := ?rv11) rfl hS (fun w' hS' => ?ry11) ?rz11
  case ry11 =>
   obtain ⟨a0, a1, a2⟩ := cz3 (kk.below (hB1.trans (hS'.mono (by omega))) (by omega))
   have b0 := (ka.below (hB1.trans (hS'.mono (by omega))) (by omega)).cell (i := 0) rfl
   obtain ⟨m0, m1, m2⟩ := cz3 (km.below (hB1.trans (hS'.mono (by omega))) (by omega))
   have c0 := (kx.below hS' kx.lt).cell (i := 0) rfl
   have d0 := (ky.below hS' ky.lt).cell (i := 0) rfl
   have o0 := (ko.below hS' ko.lt).cell (i := 0) rfl
   have t0 := ((hB1.trans (hS'.mono (by omega))).cell (p := ⟨bt, ot + i, none⟩) hbt).trans htap
   go_simp
   rfl
  simp only [nrz]
  refine tkz 12 (v := ?rv12) rfl hS (fun w' hS' => ?ry12) ?rz12
  case ry12 =>
   obtain ⟨a0, a1, a2⟩ := cz3 (kk.below (hB1.trans (hS'.mono (by omega))) (by omega))
   have b0 := (ka.below (hB1.trans (hS'.mono (by omega))) (by omega)).cell (i := 0) rfl
   obtain ⟨m0, m1, m2⟩ := cz3 (km.below (hB1.trans (hS'.mono (by omega))) (by omega))
   have c0 := (kx.below hS' kx.lt).cell (i := 0) rfl
   have d0 := (ky.below hS' ky.lt).cell (i := 0) rfl
   have o0 := (ko.below hS' ko.lt).cell (i := 0) rfl
   have t0 := ((hB1.trans (hS'.mono (by omega))).cell (p := ⟨bt, ot + i, none⟩) hbt).trans htap
   go_simp
   rfl
  simp only [nrz]
  refine tkz 13 (v := ?rv13) rfl hS (fun w' hS' => ?ry13) ?rz13
  case ry13 =>
   obtain ⟨a0, a1, a2⟩ := cz3 (kk.below (hB1.trans (hS'.mono (by omega))) (by omega))
   have b0 := (ka.below (hB1.trans (hS'.mono (by omega))) (by omega)).cell (i := 0) rfl
   obtain ⟨m0, m1, m2⟩ := cz3 (km.below (hB1.trans (hS'.mono (by omega))) (by omega))
   have c0 := (kx.below hS' kx.lt).cell (i := 0) rfl
   have d0 := (ky.below hS' ky.lt).cell (i := 0) rfl
   have o0 := (ko.below hS' ko.lt).cell (i := 0) rfl
   have t0 := ((hB1.trans (hS'.mono (by omega))).cell (p := ⟨bt, ot + i, none⟩) hbt).trans htap
   go_simp
   rfl
  simp only [nrz]
  refine tkz 14 rfl hS (fun w' hS' => by go_simp; rfl) ?_
  simp only [nrz]
  refine tkz 15 (v := ?rv15) rfl hS (fun w' hS' => ?ry15) ?rz15
  case ry15 =>
   obtain ⟨a0, a1, a2⟩ := cz3 (kk.below (hB1.trans (hS'.mono (by omega))) (by omega))
   have b0 := (ka.below (hB1.trans (hS'.mono (by omega))) (by omega)).cell (i := 0) rfl
   obtain ⟨m0, m1, m2⟩ := cz3 (km.below (hB1.trans (hS'.mono (by omega))) (by omega))
   have c0 := (kx.below hS' kx.lt).cell (i := 0) rfl
   have d0 := (ky.below hS' ky.lt).cell (i := 0) rfl
   have o0 := (ko.below hS' ko.lt).cell (i := 0) rfl
   have t0 := ((hB1.trans (hS'.mono (by omega))).cell (p := ⟨bt, ot + i, none⟩) hbt).trans htap
   go_simp
   rfl
  simp only [nrz]
  refine tkz 16 rfl hS (fun w' hS' => by go_simp; (try go_ints); rfl) ?_
  simp only [nrz]
  refine tkz 17 rfl hS (fun w' hS' => by go_simp; (try go_ints); rfl) ?_
  simp only [nrz]
  refine tkz 18 rfl hS (fun w' hS' => by go_simp; rfl) ?_
  simp only [nrz]
  refine tkz 19 rfl hS (fun w' hS' => by go_simp; (try go_ints); rfl) ?_
  simp only [nrz]
  refine tkz 20 (v := ?rv20) rfl hS (fun w' hS' => ?ry20) ?rz20
  case ry20 =>
   obtain ⟨a0, a1, a2⟩ := cz3 (kk.below (hB1.trans (hS'.mono (by omega))) (by omega))
   have b0 := (ka.below (hB1.trans (hS'.mono (by omega))) (by omega)).cell (i := 0) rfl
   obtain ⟨m0, m1, m2⟩ := cz3 (km.below (hB1.trans (hS'.mono (by omega))) (by omega))
   have c0 := (kx.below hS' kx.lt).cell (i := 0) rfl
   have d0 := (ky.below hS' ky.lt).cell (i := 0) rfl
   have o0 := (ko.below hS' ko.lt).cell (i := 0) rfl
   have t0 := ((hB1.trans (hS'.mono (by omega))).cell (p := ⟨bt, ot + i, none⟩) hbt).trans htap
   go_simp
   rfl
  simp only [nrz]
  refine tkz 21 rfl hS (fun w' hS' => by go_simp; rfl) ?_
  simp only [nrz]
  refine tkz 22 (v := ?rv22) rfl hS (fun w' hS' => ?ry22) ?rz22
  case ry22 =>
   obtain ⟨a0, a1, a2⟩ := cz3 (kk.below (hB1.trans (hS'.mono (by omega))) (by omega))
   have b0 := (ka.below (hB1.trans (hS'.mono (by omega))) (by omega)).cell (i := 0) rfl
   obtain ⟨m0, m1, m2⟩ := cz3 (km.below (hB1.trans (hS'.mono (by omega))) (by omega))
   have c0 := (kx.below hS' kx.lt).cell (i := 0) rfl
   have d0 := (ky.below hS' ky.lt).cell (i := 0) rfl
   have o0 := (ko.below hS' ko.lt).cell (i := 0) rfl
   have t0 := ((hB1.trans (hS'.mono (by omega))).cell (p := ⟨bt, ot + i, none⟩) hbt).trans htap
   go_simp
   rfl
  simp only [nrz]
  refine tkz 23 rfl hS (fun w' hS' => by go_simp; (try go_ints); rfl) ?_
  simp only [nrz]
  refine tkz 24 rfl hS (fun w' hS' => by go_simp; (try go_ints); rfl) ?_
  simp only [nrz]
  refine tkz 25 rfl hS (fun w' hS' => by go_simp; rfl) ?_
  simp only [nrz]
  refine tkz 26 rfl hS (fun w' hS' => by go_simp; (try go_ints); rfl) ?_
  simp only [nrz]
  refine step_op 27 (by kernel_rfl) rfl (fun K hK => ?_)
  rw [if_pos (by rfl)]
  go_simp
  refine (hfoH.out (x + hw - (X : Int)) (y + hh - (Y : Int)) bv _ (by omega) (by omega) (by omega) (by omega) hbvH ((hr.below (by omega) (hB1.trans (hS.mono (by omega)))).mono (by have := hS.size; omega))).mono ?_
  rintro e W1 ⟨rfl, hb1⟩
  have hS1 : Below W.heap.size W W1 := hS.trans (hb1.mono hS.size)
  refine hK.out _ _ (fun h => hS1) ?_
  clear hK K
  try simp only [Act.put, nrz]
  refine tkz 28 rfl hS1 (fun w' hS' => by go_simp; (try go_ints); rfl) ?_
  simp only [nrz]
  refine tkz 29 rfl hS1 (fun w' hS' => by go_simp; (try go_ints); rfl) ?_
  simp only [nrz]
  refine step_op 30 (by kernel_rfl) rfl (fun K hK => ?_)
  have k3o := ko.below hS1 ko.lt
  have o0 := k3o.cell (i := 0) rfl
  have fo0 := k3o.frozen 0
  rw [if_pos (by rfl)]
  go_simp
  refine hK.out _ _ (fun h => absurd h (by omega)) ?_
  clear hK K
  try simp only [Act.put, nrz]
  refine done_ops (by kernel_rfl) ?_
  have k2o := ko.below hS1 ko.lt
  have hgA : W.grownBy (W1.setCell ⟨B0 + 1 + 1, 0, none⟩ (.int .i64 (sv + tp * bv))) (some (B0 + 1 + 1)) := grown_trans (grown_of_below hS1 _) (grownBy_setCell' W1 _ _)
  exact ⟨((others_of_below hS1).trans (KeepsOthers.setCell _ _ _)).from _, hgA.block _ (by omega) (by simp), ⟨⟨kx.kept hgA (by simp <;> omega), ky.kept hgA (by simp <;> omega)⟩, by rw [hpreH.out, hsn2H.out]; exact k2o.set 0 (.int .i64 (sv + tp * bv)), Nat.le_trans hs1 hgA.size⟩, (hB1.trans (hS1.mono (by omega))).setCell (p := ⟨B0 + 1 + 1, 0, none⟩) (by simp; omega) _⟩
 case done =>
  rintro D ys W hD hys ⟨⟨⟨kx, ky⟩, ko, hs1⟩, hB1⟩ hK
  have hfin := Lib.hid (show sumL TT (ys.map Fin.val) = convG bd iw ih xs kw kh taps x y by rw [hys, sumL_range, hG.out])
  rw [hfin.out] at ko
  have c0 := ko.cell (i := 0) rfl
  gi_wp2
  refine ⟨by simp, .inl ⟨_, _, rfl, run_takeDeferred hK, ?_⟩⟩
  exact ⟨_, results_tmp rfl _ _ _, rfl, by rw [hB0]; exact hB1.trans (belowK_b (w := V0) (by omega) W D _ _ (by omega) hK rfl rfl)⟩
 case stop =>
  rintro D c pre W _ _ h _
  exact h.elim
set_option maxHeartbeats 1000000 in
theorem kernel_any (kw kh : Int) (ak : Option Addr) (ck nk : Nat) (taps : List Int) (hkn : Hid (taps.length = nk)) (r : Bool) (hres : Hid (kernOk kw kh taps = r)) (w : World) (hm : nk ≤ 9223372036854775807) (hrk : Rd w.heap.size w ak taps) :
  Calls Tryz.prog 90 #[imv kw kh ak nk ck] w fun e w' => e = .returned (.bool r) ∧ Below w.heap.size w w' := by
 obtain ⟨v1, hv1⟩ : ∃ v, sidesB kw kh nk = v := ⟨_, rfl⟩
 have h1 := Lib.hid hv1
 have hr2 := Lib.hid (show (v1 && allIn (-65536) 65536 taps) = r by rw [← hres.out, ← hv1]; unfold kernOk; rw [hkn.out])
 clear hv1
 have hB : Below w.heap.size w (w.alloc (.cells #[.int .i64 kw, .int .i64 kh, .slice ak nk ck] 71)) := below_al (Below.refl _ _) _
 have k := Blk.new w 71 #[.int .i64 kw, .int .i64 kh, .slice ak nk ck]
 obtain ⟨W, hW⟩ : ∃ W, w.alloc (.cells #[.int .i64 kw, .int .i64 kh, .slice ak nk ck] 71) = W := ⟨_, rfl⟩
 rw [hW] at hB k
 obtain ⟨m0, m1, m2⟩ := cz3 k
 go_enter Tryz.func90, Tryz.ntmps90
 go_wp2_with fail
 clear hW
 refine (sides_any kw kh nk v1 h1 W).mono ?_
 rintro e W1 ⟨rfl, hb⟩
 replace k := k.below hb k.lt
 replace hB := hB.trans (hb.mono hB.size)
 clear m0 m1 m2 hb
 obtain ⟨m0, m1, m2⟩ := cz3 k
 cases v1 with
 | false =>
  go_wp2_with fail
  go_ret
  exact ⟨ret_bool hr2.out, hB⟩
 | true =>
  go_wp2_with fail
  have hw0 := within_any (-65536) 65536 ak ck taps W1 (by rw [hkn.out]; exact hm) ((hrk.below (Nat.le_refl _) hB).mono hB.size)
  rw [hkn.out] at hw0
  refine hw0.mono ?_
  clear hw0
  rintro e w' ⟨rfl, rfl⟩
  rw [show allIn (-65536) 65536 taps = r by rw [← hr2.out]; rfl]
  go_wp2_with fail
  go_ret
  exact ⟨rfl, hB⟩
/-- What Convolve returns. -/
def convS (iw ih : Int) (xs : List Int) (kw kh : Int) (taps : List Int) (bd : Int) : ImR :=
 if vld iw ih xs = true then (if kernOk kw kh taps = true then (if decide (1 ≤ bd ∧ bd ≤ 3) = true then { w := iw, h := ih, px := img iw.toNat ih.toNat (convG bd iw ih xs kw.toNat kh.toNat taps), err := 0 } else noIm 2) else noIm 22) else noIm 20
set_option maxRecDepth 100000 in
set_option maxHeartbeats 4000000 in
theorem Convolve_any (iw ih : Int) (a : Option Addr) (c n : Nat) (xs : List Int) (hn : Hid (xs.length = n)) (kw kh : Int) (ak : Option Addr) (ck nk : Nat) (taps : List Int) (hkn : Hid (taps.length = nk)) (bd : Int) (hd1 : 0 ≤ bd) (hd2 : bd ≤ 255)
  (w : World) (hm : n ≤ 9223372036854775807) (hr : Rd w.heap.size w a xs) (hmk : nk ≤ 9223372036854775807) (hrk : Rd w.heap.size w ak taps) :
  Calls Tryz.prog 34 #[imv iw ih a n c, imv kw kh ak nk ck, .int .u8 bd] w (RetIm w.heap.size (convS iw ih xs kw kh taps bd) w) := by
 have hB0 : Below w.heap.size w (((w.alloc (.cells #[.int .i64 iw, .int .i64 ih, .slice a n c] 32)).alloc (.cells #[.int .i64 kw, .int .i64 kh, .slice ak nk ck] 71)).alloc (.cells #[.int .i64 0, .int .i64 0, .slice none 0 0] 32)) := below_al (below_al (below_al (Below.refl _ _) _) _) _
 obtain ⟨v0, hv⟩ : ∃ v, vld iw ih xs = v := ⟨_, rfl⟩
 have v0H := Lib.hid hv
 obtain ⟨v1, hv1⟩ : ∃ v, kernOk kw kh taps = v := ⟨_, rfl⟩
 have v1H := Lib.hid hv1
 obtain ⟨v2, hv2⟩ : ∃ v, decide (1 ≤ bd ∧ bd ≤ 3) = v := ⟨_, rfl⟩
 have v2H := Lib.hid hv2
 have hsp := Lib.hid (show convS iw ih xs kw kh taps bd = if v0 = true then (if v1 = true then (if v2 = true then { w := iw, h := ih, px := img iw.toNat ih.toNat (convG bd iw ih xs kw.toNat kh.toNat taps), err := 0 } else noIm 2) else noIm 22) else noIm 20 by unfold convS; rw [hv, hv1, hv2])
 clear hv hv1 hv2
 go_enter Tryz.func34, Tryz.ntmps34
 go_wp2_with fail
 refine (valid_any iw ih a c xs n hn _ hm ((hr.below (Nat.le_refl _) hB0).mono hB0.size)).mono ?_
 rintro e W1 ⟨rfl, hb1⟩
 rw [v0H.out]
 have hB1 : Below w.heap.size w W1 := hB0.trans (hb1.mono hB0.size)
 have k5 := (((Blk.new w 32 #[.int .i64 iw, .int .i64 ih, .slice a n c]).alloc (.cells #[.int .i64 kw, .int .i64 kh, .slice ak nk ck] 71)).alloc (.cells #[.int .i64 0, .int .i64 0, .slice none 0 0] 32)).below hb1 (by simp <;> omega)
 have k6 := ((Blk.new (w.alloc (.cells #[.int .i64 iw, .int .i64 ih, .slice a n c] 32)) 71 #[.int .i64 kw, .int .i64 kh, .slice ak nk ck]).alloc (.cells #[.int .i64 0, .int .i64 0, .slice none 0 0] 32)).below hb1 (by simp <;> omega)
 have k := (Blk.new ((w.alloc (.cells #[.int .i64 iw, .int .i64 ih, .slice a n c] 32)).alloc (.cells #[.int .i64 kw, .int .i64 kh, .slice ak nk ck] 71)) 32 #[.int .i64 0, .int .i64 0, .slice none 0 0]).below hb1 (by simp <;> omega)
 simp only [World.size_alloc] at k6 k
 clear hb1 hB0
 obtain ⟨m0, m1, m2⟩ := cz3 k5
 obtain ⟨s0, s1, s2⟩ := cz3 k6
 obtain ⟨c0, c1, c2⟩ := cz3 k
 have fc0 := k.frozen 0
 have fc1 := k.frozen 1
 have fc2 := k.frozen 2
 cases v0 with
 | false =>
  go_wp2_with fail
  have kf := put3_blk k (.int .i64 0) (.int .i64 0) (.slice none 0 0)
  obtain ⟨g0, g1, g2⟩ := cz3 kf
  exact bodyPost_ret (v := .tuple #[.agg #[.int .i64 0, .int .i64 0, .slice none 0 0], .int .i64 20]) (by simp [results, Tryz.results34, go_sem, g0, g1, g2]) rfl ⟨⟨_, by rw [hsp.out]; rfl, by rw [hsp.out]; exact OwnIm_nil _ _⟩, hB1.trans (put3_below (by omega) _ _ _)⟩
 | true =>
  go_wp2_with fail
  refine (kernel_any kw kh ak ck nk taps hkn v1 v1H W1 hmk ((hrk.below (Nat.le_refl _) hB1).mono hB1.size)).mono ?_
  rintro e W2 ⟨rfl, hb⟩
  have hB2 := hB1.trans (hb.mono hB1.size)
  clear m0 m1 m2
  replace k5 := k5.below hb k5.lt
  obtain ⟨m0, m1, m2⟩ := cz3 k5
  clear s0 s1 s2
  replace k6 := k6.below hb k6.lt
  obtain ⟨s0, s1, s2⟩ := cz3 k6
  clear c0 c1 c2 fc0 fc1 fc2
  replace k := k.below hb k.lt
  obtain ⟨c0, c1, c2⟩ := cz3 k
  have fc0 := k.frozen 0
  have fc1 := k.frozen 1
  have fc2 := k.frozen 2
  clear hb hB1
  cases v1 with
  | false =>
   go_wp2_with fail
   have kf := put3_blk k (.int .i64 0) (.int .i64 0) (.slice none 0 0)
   obtain ⟨g0, g1, g2⟩ := cz3 kf
   exact bodyPost_ret (v := .tuple #[.agg #[.int .i64 0, .int .i64 0, .slice none 0 0], .int .i64 22]) (by simp [results, Tryz.results34, go_sem, g0, g1, g2]) rfl ⟨⟨_, by rw [hsp.out]; rfl, by rw [hsp.out]; exact OwnIm_nil _ _⟩, hB2.trans (put3_below (by omega) _ _ _)⟩
  | true =>
   obtain ⟨fv, hfv⟩ : ∃ v, bordF bd = v := ⟨_, rfl⟩
   have hfvH := Lib.hid hfv
   clear hfv
   go_wp2_with fail
   refine (border_any bd hd1 hd2 fv hfvH W2).mono ?_
   rintro e W3 ⟨rfl, hb⟩
   have hB3 := hB2.trans (hb.mono hB2.size)
   clear m0 m1 m2
   replace k5 := k5.below hb k5.lt
   obtain ⟨m0, m1, m2⟩ := cz3 k5
   clear s0 s1 s2
   replace k6 := k6.below hb k6.lt
   obtain ⟨s0, s1, s2⟩ := cz3 k6
   clear c0 c1 c2 fc0 fc1 fc2
   replace k := k.below hb k.lt
   obtain ⟨c0, c1, c2⟩ := cz3 k
   have fc0 := k.frozen 0
   have fc1 := k.frozen 1
   have fc2 := k.frozen 2
   have hs3 := k.lt
   clear hb hB2
   -- the function's box
   have kf := Blk.new W3 162 #[fv]
   obtain ⟨B8, hB8⟩ : ∃ B, W3.heap.size = B := ⟨_, rfl⟩
   obtain ⟨W4, hW4⟩ : ∃ W4, W3.alloc (.cells #[fv] 162) = W4 := ⟨_, rfl⟩
   have hb : Below W3.heap.size W3 W4 := alloc_below hW4
   rw [hW4, hB8] at kf
   have hB4 := hB3.trans (hb.mono hB3.size)
   have k5' := k5.below hb k5.lt
   have k6' := k6.below hb k6.lt
   have k' := k.below hb k.lt
   clear m0 m1 m2 s0 s1 s2 c0 c1 c2 fc0 fc1 fc2 k5 k6 k
   have k5 := k5'
   clear k5'
   have k6 := k6'
   clear k6'
   have k := k'
   clear k'
   obtain ⟨m0, m1, m2⟩ := cz3 k5
   obtain ⟨s0, s1, s2⟩ := cz3 k6
   obtain ⟨c0, c1, c2⟩ := cz3 k
   have fc0 := k.frozen 0
   have fc1 := k.frozen 1
   have fc2 := k.frozen 2
   have f0 := kf.cell (i := 0) rfl
   cases v2 with
   | false =>
    have hfn : fv = .nilFunc := by
     have h := v2H.out
     simp only [decide_eq_false_iff_not] at h
     rw [← hfvH.out]
     unfold bordF
     rw [if_neg (by omega), if_neg (by omega), if_neg (by omega)]
    subst hfn
    subst hW4
    go_wp2_with fail
    clear hB8 hb hs3
    have kf := put3_blk k (.int .i64 0) (.int .i64 0) (.slice none 0 0)
    obtain ⟨g0, g1, g2⟩ := cz3 kf
    exact bodyPost_ret (v := .tuple #[.agg #[.int .i64 0, .int .i64 0, .slice none 0 0], .int .i64 2]) (by simp [results, Tryz.results34, go_sem, g0, g1, g2]) rfl ⟨⟨_, by rw [hsp.out]; rfl, by rw [hsp.out]; exact OwnIm_nil _ _⟩, hB4.trans (put3_below (by omega) _ _ _)⟩
   | true =>
    have hbd := v2H.out
    simp only [decide_eq_true_eq] at hbd
    obtain ⟨⟨i1, i2⟩, ⟨i3, i4⟩, hlen, hall⟩ := vld_true v0H.out
    rw [hn.out] at hlen
    have hlenH := Lib.hid hlen
    have hallH := Lib.hid hall
    clear hlen hall
    have hk0 := v1H.out
    unfold kernOk at hk0
    rw [Bool.and_eq_true, hkn.out] at hk0
    obtain ⟨s1, s2, s3⟩ := sidesB_true hk0.1
    have htall := Lib.hid hk0.2
    clear hk0
    obtain ⟨pw, rfl⟩ : ∃ pw : Nat, iw = (pw : Int) := ⟨iw.toNat, by omega⟩
    obtain ⟨ph, rfl⟩ : ∃ ph : Nat, ih = (ph : Int) := ⟨ih.toNat, by omega⟩
    obtain ⟨tw, rfl⟩ : ∃ tw : Nat, kw = (tw : Int) := ⟨kw.toNat, by omega⟩
    obtain ⟨th, rfl⟩ : ∃ th : Nat, kh = (th : Int) := ⟨kh.toNat, by omega⟩
    have htn := Lib.hid (show tw * th = nk by
     have e : ((tw * th : Nat) : Int) = (tw : Int) * (th : Int) := by simp
     omega)
    have t1 : tw = 1 ∨ tw = 3 ∨ tw = 5 := by omega
    have t2 : th = 1 ∨ th = 3 ∨ th = 5 := by omega
    clear s1 s2 s3
    have hfo : ∃ fo : Nat, fv = .func (.func fo) #[] #[] ∧ (∀ args w, (callFunc fo args).run Tryz.prog w = .ok (.enter fo args) w) ∧ ∀ (u v : Int) (r : Int) (w : World), -100 ≤ u → u ≤ 100 → -100 ≤ v → v ≤ 100 → Hid (beyF bd pw ph xs u v = r) → Rd w.heap.size w a xs → Calls Tryz.prog fo #[imv pw ph a n c, .int .i64 u, .int .i64 v] w fun e w' => e = .returned (.int .i64 r) ∧ Below w.heap.size w w' := by
     have hbb : bd = 1 ∨ bd = 2 ∨ bd = 3 := by omega
     have hfe := hfvH.out
     rcases hbb with rfl | rfl | rfl
     ·exact ⟨138, hfe.symm, enters_of Tryz.func138 (by kernel_rfl) rfl, fun u v r w h1 h2 h3 h4 h5 h6 => zero_any pw ph a c n xs hn u v w i1 i2 i3 i4 hlenH h1 h2 h3 h4 r h5 h6⟩
     ·exact ⟨139, hfe.symm, enters_of Tryz.func139 (by kernel_rfl) rfl, fun u v r w h1 h2 h3 h4 h5 h6 => near_any pw ph a c n xs hn u v w i1 i2 i3 i4 hlenH h1 h2 h3 h4 r h5 h6⟩
     ·exact ⟨140, hfe.symm, enters_of Tryz.func140 (by kernel_rfl) rfl, fun u v r w h1 h2 h3 h4 h5 h6 => wrap_any pw ph a c n xs hn u v w i1 i2 i3 i4 hlenH h1 h2 h3 h4 r h5 h6⟩
    obtain ⟨fo, rfl, eg, hfo⟩ := hfo
    have hfoH := Lib.hid hfo
    clear hfo
    go_wp2_with fail
    clear hW4 hb
    refine (made_any pw ph (by omega) (by omega) (by omega) (by omega) 92 #[.pointer (some ⟨w.heap.size + 1, 0, none⟩), .pointer (some ⟨B8, 0, none⟩), .pointer (some ⟨w.heap.size, 0, none⟩)] (enters_of Tryz.func92 (by kernel_rfl) rfl) (convG bd pw ph xs tw th taps) W4 (fun x y W hx hy hb => ?_)).mono ?_
    ·have hBW := hB4.trans (hb.mono hB4.size)
     exact Convolve1_any bd pw ph a c n xs hn hallH tw th ak ck nk taps hkn htall t1 t2 htn fo eg hfoH.out x y _ _ _ W (by omega) (by omega) (by omega) (by omega) (k6.below hb k6.lt) (kf.below hb kf.lt) (k5.below hb k5.lt) ((hr.below (Nat.le_refl _) hBW).mono hBW.size) ((hrk.below (Nat.le_refl _) hBW).mono hBW.size)
    rintro e W5 ⟨v, rfl, ⟨s, rfl, hrow⟩, hb2⟩
    clear m0 m1 m2 s0 s1 s2 c0 c1 c2 fc0 fc1 fc2 f0
    have k2 := k.below hb2 k.lt
    obtain ⟨c0, c1, c2⟩ := cz3 k2
    have fc0 := k2.frozen 0
    have fc1 := k2.frozen 1
    have fc2 := k2.frozen 2
    obtain ⟨sa, sc, rfl⟩ := row_slice hrow
    go_wp2_with fail
    have kf := put3_blk k2 (.int .i64 pw) (.int .i64 ph) (.slice sa (img pw ph (convG bd pw ph xs tw th taps)).length sc)
    obtain ⟨g0, g1, g2⟩ := cz3 kf
    exact bodyPost_ret (v := .tuple #[.agg #[.int .i64 pw, .int .i64 ph, .slice sa (img pw ph (convG bd pw ph xs tw th taps)).length sc], .int .i64 0]) (by simp [results, Tryz.results34, go_sem, g0, g1, g2]) rfl ⟨⟨_, by rw [hsp.out]; rfl, by rw [hsp.out]; exact OwnIm.weaken ⟨_, rfl, put3_row hrow (k2.not_row (by decide) hrow) _ _ _⟩ hB4.size⟩, (hB4.trans (hb2.mono hB4.size)).trans (put3_below (by omega) _ _ _)⟩
end Go.Proofs.YtekiemlniegddaaGreat
namespace Go.Proofs.YtekiemlniegddaaGreat
open Go Go.RowKit Go.Shelf
/-- A picture: sides and values. -/
structure PicN where
 w : Int
 h : Int
 px : List Int
def picAt (ms : List PicN) (i : Nat) : PicN := ms[i]?.getD ⟨0, 0, []⟩
structure StepN where
 op : Int
 a : Int
 b : Int
 pt : PointN
 how : Int
 kw : Int
 kh : Int
 taps : List Int
 bd : Int
 sw : Int
 sh : Int
 bits : List Bool
def noStep : StepN := ⟨0, 0, 0, ⟨0, 0, 0, 0, 0⟩, 0, 0, 0, [], 0, 0, 0, []⟩
def stAt (ss : List StepN) (i : Nat) : StepN := ss[i]?.getD noStep
structure PipeN where
 w : Int
 h : Int
 inp : Int
 ss : List StepN
/-- The images that a step uses. -/
def opsN (s : StepN) : List Int := if s.op = 2 ∧ s.a ≠ s.b then [s.a, s.b] else [s.a]
/-- What the operation of a step needs is valid. -/
def needB (s : StepN) : Bool :=
 if s.op = 1 then s.pt.ok else if s.op = 2 then decide (1 ≤ s.how ∧ s.how ≤ 6) else if s.op = 3 then kernOk s.kw s.kh s.taps && decide (1 ≤ s.bd ∧ s.bd ≤ 3) else if s.op = 4 ∨ s.op = 5 then shapeOk s.sw s.sh s.bits else false
/-- The images that a step uses are there. -/
def refB (inp : Int) (i : Nat) (s : StepN) : Bool := inR s.a 0 (inp + i - 1) && (!decide (s.op = 2) || inR s.b 0 (inp + i - 1))
def sizeB (P : PipeN) : Bool := (inR P.w 1 16 && inR P.h 1 16) && (inR P.inp 1 3 && (decide (1 ≤ P.ss.length) && decide (P.ss.length ≤ 12)))
def stepsB (inp : Int) (ss : List StepN) : Nat → Bool
 | 0 => true
 | k + 1 => stepsB inp ss k && (needB (stAt ss k) && refB inp k (stAt ss k))
def pipeB (P : PipeN) : Bool := sizeB P && stepsB P.inp P.ss P.ss.length
/-- The result of a step, or an error. -/
def appS (s : StepN) (ms : List PicN) : ImR :=
 if s.op = 1 then pointS (picAt ms s.a.toNat).w (picAt ms s.a.toNat).h (picAt ms s.a.toNat).px s.pt
 else if s.op = 2 then zipS (picAt ms s.a.toNat).w (picAt ms s.a.toNat).h (picAt ms s.a.toNat).px (picAt ms s.b.toNat).w (picAt ms s.b.toNat).h (picAt ms s.b.toNat).px s.how
 else if s.op = 3 then convS (picAt ms s.a.toNat).w (picAt ms s.a.toNat).h (picAt ms s.a.toNat).px s.kw s.kh s.taps s.bd
 else if s.op = 4 then morS true (picAt ms s.a.toNat).w (picAt ms s.a.toNat).h (picAt ms s.a.toNat).px s.sw s.sh s.bits
 else if s.op = 5 then morS false (picAt ms s.a.toNat).w (picAt ms s.a.toNat).h (picAt ms s.a.toNat).px s.sw s.sh s.bits
 else noIm 30
def resN (r : ImR) : PicN := ⟨r.w, r.h, r.px⟩
/-- All images behind k steps. -/
def afterN (ss : List StepN) (ms : List PicN) : Nat → List PicN
 | 0 => ms
 | k + 1 => afterN ss ms k ++ [resN (appS (stAt ss k) (afterN ss ms k))]
theorem afterN_length (ss : List StepN) (ms : List PicN) : ∀ k, (afterN ss ms k).length = ms.length + k
 | 0 => rfl
 | k + 1 => by rw [afterN, List.length_append, afterN_length ss ms k]; rfl
/-- So many images, all valid and of a size. -/
def givenB (ms : List PicN) (n w h : Int) : Bool := decide ((ms.length : Int) = n) && ms.all (fun m => vld m.w m.h m.px && (decide (m.w = w) && decide (m.h = h)))
def meanN (P : PipeN) (ms : List PicN) : PicN := picAt (afterN P.ss ms P.ss.length) (ms.length + P.ss.length - 1)
def meanS (P : PipeN) (ms : List PicN) : ImR :=
 if pipeB P = true then (if givenB ms P.inp P.w P.h = true then { w := (meanN P ms).w, h := (meanN P ms).h, px := (meanN P ms).px, err := 0 } else noIm 2) else noIm 30
def onePic : PicN := ⟨1, 1, [0]⟩
/-- A step asked of a single image of one pixel tells what it needs. -/
theorem app_one (s : StepN) : (appS { s with a := 0, b := 0 } [onePic]).err = 0 ↔ needB s = true := by
 have hv : vld 1 1 [0] = true := by decide
 unfold appS needB
 simp only [picAt, onePic, Int.toNat_zero, List.getElem?_cons_zero, Option.getD_some]
 by_cases h1 : s.op = 1
 ·rw [if_pos h1, if_pos h1]; unfold pointS; rw [if_pos hv]; split <;> simp_all [noIm]
 rw [if_neg h1, if_neg h1]
 by_cases h2 : s.op = 2
 ·rw [if_pos h2, if_pos h2]; unfold zipS; rw [if_pos hv, if_pos hv, if_pos (by decide)]; split <;> simp_all [noIm]
 rw [if_neg h2, if_neg h2]
 by_cases h3 : s.op = 3
 ·rw [if_pos h3, if_pos h3]; unfold convS; rw [if_pos hv]; split
  ·split <;> simp_all [noIm]
  ·simp_all [noIm]
 rw [if_neg h3, if_neg h3]
 by_cases h4 : s.op = 4
 ·rw [if_pos h4, if_pos (.inl h4)]; unfold morS; rw [if_pos hv]; split <;> simp_all [noIm]
 rw [if_neg h4]
 by_cases h5 : s.op = 5
 ·rw [if_pos h5, if_pos (.inr h5)]; unfold morS; rw [if_pos hv]; split <;> simp_all [noIm]
 rw [if_neg h5, if_neg (by rintro (h | h); exact h4 h; exact h5 h)]
 simp [noIm]
end Go.Proofs.YtekiemlniegddaaGreat
namespace Go.Proofs.YtekiemlniegddaaGreat
open Go Go.RowKit Go.Shelf
/-- The slice at 'a' reads as the images 'ms', in blocks below 'B'. -/
def RdPs (B : Nat) (W : World) (a : Option Addr) (ms : List PicN) : Prop :=
 ms = [] ∨ ∃ b o, a = some ⟨b, o, none⟩ ∧ b < B ∧ ∀ i, i < ms.length → ∃ pa pc, W.cell? ⟨b, o + i * 3, none⟩ = some (.int .i64 (picAt ms i).w) ∧ W.cell? ⟨b, o + i * 3 + 1, none⟩ = some (.int .i64 (picAt ms i).h) ∧
  W.cell? ⟨b, o + i * 3 + 2, none⟩ = some (.slice pa (picAt ms i).px.length pc) ∧ Rd B W pa (picAt ms i).px ∧ (pa = none → pc = 0)
theorem RdPs.below {B B' : Nat} {W W' : World} {a : Option Addr} {ms : List PicN} (h : RdPs B W a ms) (hB : B ≤ B') (hb : Below B' W W') : RdPs B W' a ms := by
 rcases h with h | ⟨b, o, h1, h2, h3⟩
 ·exact .inl h
 ·refine .inr ⟨b, o, h1, h2, fun i hi => ?_⟩
  obtain ⟨pa, pc, e1, e2, e3, e4, e5⟩ := h3 i hi
  exact ⟨pa, pc, (hb.cell (p := ⟨b, o + i * 3, none⟩) (by show b < B'; omega)).trans e1, (hb.cell (p := ⟨b, o + i * 3 + 1, none⟩) (by show b < B'; omega)).trans e2, (hb.cell (p := ⟨b, o + i * 3 + 2, none⟩) (by show b < B'; omega)).trans e3, e4.below hB hb, e5⟩
theorem RdPs.mono {B B' : Nat} {W : World} {a : Option Addr} {ms : List PicN} (h : RdPs B W a ms) (hB : B ≤ B') : RdPs B' W a ms := by
 rcases h with h | ⟨b, o, h1, h2, h3⟩
 ·exact .inl h
 ·refine .inr ⟨b, o, h1, by omega, fun i hi => ?_⟩
  obtain ⟨pa, pc, e1, e2, e3, e4, e5⟩ := h3 i hi
  exact ⟨pa, pc, e1, e2, e3, e4.mono hB, e5⟩
theorem RdPs.later {W W' : World} {a : Option Addr} {ms : List PicN} (h : RdPs W.heap.size W a ms) (hb : Below W.heap.size W W') : RdPs W'.heap.size W' a ms := (h.below (Nat.le_refl _) hb).mono hb.size
theorem RdPs.at {B : Nat} {W : World} {a : Option Addr} {ms : List PicN} (h : RdPs B W a ms) {i : Nat} (hi : i < ms.length) :
  ∃ b o, a = some ⟨b, o, none⟩ ∧ b < B ∧ ∃ pa pc, W.cell? ⟨b, o + i * 3, none⟩ = some (.int .i64 (picAt ms i).w) ∧ W.cell? ⟨b, o + i * 3 + 1, none⟩ = some (.int .i64 (picAt ms i).h) ∧
   W.cell? ⟨b, o + i * 3 + 2, none⟩ = some (.slice pa (picAt ms i).px.length pc) ∧ Rd B W pa (picAt ms i).px ∧ (pa = none → pc = 0) := by
 rcases h with h | ⟨b, o, h1, h2, h3⟩
 ·subst h; simp at hi
 ·obtain ⟨pa, pc, e⟩ := h3 i hi
  exact ⟨b, o, h1, h2, pa, pc, e⟩
/-- The cells of a step. -/
def stepCells (s : StepN) (ka : Option Addr) (kc : Nat) (sa : Option Addr) (sc : Nat) : List Value :=
 [.int .u8 s.op, .int .i64 s.a, .int .i64 s.b, .int .i64 s.pt.mul, .int .i64 s.pt.add, .int .i64 s.pt.div, .int .i64 s.pt.lo, .int .i64 s.pt.hi, .int .u8 s.how, .int .i64 s.kw, .int .i64 s.kh, .slice ka s.taps.length kc, .int .u8 s.bd, .int .i64 s.sw, .int .i64 s.sh, .slice sa s.bits.length sc]
/-- The step's cells stand at a place, and its lists can be read. -/
structure StAt (B : Nat) (W : World) (b o : Nat) (s : StepN) (ka : Option Addr) (kc : Nat) (sa : Option Addr) (sc : Nat) : Prop where
 cell : ∀ j v, (stepCells s ka kc sa sc)[j]? = some v → W.cell? ⟨b, o + j, none⟩ = some v
 taps : Rd B W ka s.taps
 bits : RdB B W sa s.bits
theorem StAt.below {B B' : Nat} {W W' : World} {b o : Nat} {s : StepN} {ka sa : Option Addr} {kc sc : Nat} (h : StAt B W b o s ka kc sa sc) (hbB : b < B') (hB : B ≤ B') (hb : Below B' W W') : StAt B W' b o s ka kc sa sc :=
 ⟨fun j v hv => (hb.cell (p := ⟨b, o + j, none⟩) hbB).trans (h.cell j v hv), h.taps.below hB hb, h.bits.below hB hb⟩
/-- The slice at 'a' reads as the steps 'ss'. -/
def RdSs (B : Nat) (W : World) (a : Option Addr) (ss : List StepN) : Prop :=
 ss = [] ∨ ∃ b o, a = some ⟨b, o, none⟩ ∧ b < B ∧ ∀ i, i < ss.length → ∃ ka kc sa sc, StAt B W b (o + i * 16) (stAt ss i) ka kc sa sc
theorem RdSs.below {B B' : Nat} {W W' : World} {a : Option Addr} {ss : List StepN} (h : RdSs B W a ss) (hB : B ≤ B') (hb : Below B' W W') : RdSs B W' a ss := by
 rcases h with h | ⟨b, o, h1, h2, h3⟩
 ·exact .inl h
 ·refine .inr ⟨b, o, h1, h2, fun i hi => ?_⟩
  obtain ⟨ka, kc, sa, sc, e⟩ := h3 i hi
  exact ⟨ka, kc, sa, sc, e.below (by omega) hB hb⟩
theorem StAt.mono {B B' : Nat} {W : World} {b o : Nat} {s : StepN} {ka sa : Option Addr} {kc sc : Nat} (h : StAt B W b o s ka kc sa sc) (hB : B ≤ B') : StAt B' W b o s ka kc sa sc := ⟨h.cell, h.taps.mono hB, h.bits.mono hB⟩
theorem RdSs.mono {B B' : Nat} {W : World} {a : Option Addr} {ss : List StepN} (h : RdSs B W a ss) (hB : B ≤ B') : RdSs B' W a ss := by
 rcases h with h | ⟨b, o, h1, h2, h3⟩
 ·exact .inl h
 ·refine .inr ⟨b, o, h1, by omega, fun i hi => ?_⟩
  obtain ⟨ka, kc, sa, sc, e⟩ := h3 i hi
  exact ⟨ka, kc, sa, sc, e.mono hB⟩
theorem RdSs.later {W W' : World} {a : Option Addr} {ss : List StepN} (h : RdSs W.heap.size W a ss) (hb : Below W.heap.size W W') : RdSs W'.heap.size W' a ss := (h.below (Nat.le_refl _) hb).mono hb.size
theorem RdPs.bm {W W' : World} {a : Option Addr} {l : List PicN} (h : RdPs W.heap.size W a l) (g : Below W.heap.size W W') : RdPs W'.heap.size W' a l := (h.below (Nat.le_refl _) g).mono g.size
end Go.Proofs.YtekiemlniegddaaGreat
namespace Go.Proofs.YtekiemlniegddaaGreat
/-- A layer: for each of its numbers the weights of those before it, and a bias. -/
structure LayN where
 ws : List (List Int)
 bs : List Int
/-! ### Verdicts and certificates -/
variable {Ls : List LayN} {low high : Int}
end Go.Proofs.YtekiemlniegddaaGreat
namespace Go.Proofs.YtekiemlniegddaaGreat
/-! ### The numbers behind each layer -/
/-! ### How large they are -/
def Bn : Nat → Int
 | 0 => 65280
 | i + 1 => 1000000 + 16000 * Bn i
end Go.Proofs.YtekiemlniegddaaGreat
namespace Go.Proofs.YtekiemlniegddaaGreat
open Go Go.RowKit Go.Shelf
/-- What is read later. -/
theorem later_i {W W' : World} {a : Option Addr} {xs : List Int} (h : Rd W.heap.size W a xs) (hb : Below W.heap.size W W') : Rd W'.heap.size W' a xs := (h.below (Nat.le_refl _) hb).mono hb.size
end Go.Proofs.YtekiemlniegddaaGreat
namespace Go.Proofs.YtekiemlniegddaaGreat
open Go Go.RowKit Go.Shelf
/-! ### Mul -/
theorem row_whole {W : World} {base g n : Nat} {e : TypeId} {xs : List Value} (h : W.ownsRow base e 1 (.slice (some ⟨g, 0, none⟩) n n) n xs) : W.heap[g]? = some (.cells xs.toArray e (0, 0)) := by
 rcases h.2 with ⟨h1, _⟩ | ⟨g', cap, cur, h1, _, h2, _, _, h4, h5⟩
 ·cases h1
 ·simp only [Value.slice.injEq, Option.some.injEq, Addr.mk.injEq, and_true, true_and] at h1
  obtain ⟨rfl, rfl⟩ := h1
  rw [List.take_of_length_le (by simp; omega)] at h5
  rw [h2, ← h5]
end Go.Proofs.YtekiemlniegddaaGreat
namespace Go.Proofs.YtekiemlniegddaaGreat
open Go Go.RowKit Go.Shelf
theorem jrow_weaken {W : World} {base base' : Nat} {e : TypeId} {size : Nat} {v : Value} {k : Nat} {xs : List Value} (h : W.ownsRow base e size v k xs) (hb : base' ≤ base) : W.ownsRow base' e size v k xs := by
 refine ⟨h.1, ?_⟩
 rcases h.2 with h1 | ⟨g, cap, cur, h1, h2, h3⟩
 ·exact .inl h1
 ·exact .inr ⟨g, cap, cur, h1, Nat.le_trans hb h2, h3⟩
end Go.Proofs.YtekiemlniegddaaGreat
namespace Go.Proofs.YtekiemlniegddaaGreat
open Go Go.RowKit Go.Shelf
/-- The value of a step. -/
abbrev stepv (s : StepN) (ka : Option Addr) (kc : Nat) (sa : Option Addr) (sc : Nat) : Value := .agg #[.int .u8 s.op, .int .i64 s.a, .int .i64 s.b, .int .i64 s.pt.mul, .int .i64 s.pt.add, .int .i64 s.pt.div, .int .i64 s.pt.lo, .int .i64 s.pt.hi, .int .u8 s.how, .int .i64 s.kw, .int .i64 s.kh, .slice ka s.taps.length kc, .int .u8 s.bd, .int .i64 s.sw, .int .i64 s.sh, .slice sa s.bits.length sc]
/-- What a step's numbers are, as they came in. -/
structure StepIn (s : StepN) : Prop where
 op : 0 ≤ s.op ∧ s.op ≤ 255
 how : 0 ≤ s.how ∧ s.how ≤ 255
 bd : 0 ≤ s.bd ∧ s.bd ≤ 255
 tl : s.taps.length ≤ 9223372036854775807
 bl : s.bits.length ≤ 9223372036854775807
theorem row_put3b {W : World} {base : Nat} {e : TypeId} {size : Nat} {v : Value} {k : Nat} {xs : List Value} (h : W.ownsRow base e size v k xs) {B : Nat} (hne : some B ≠ v.ownBlock) (x y z : Value) : (put3 W B x y z).ownsRow base e size v k xs :=
 row_setCell (row_setCell (row_setCell h (a := ⟨B, 0, none⟩) hne x) (a := ⟨B, 1, none⟩) hne y) (a := ⟨B, 2, none⟩) hne z
set_option maxRecDepth 100000 in
set_option maxHeartbeats 4000000 in
theorem operands_any (s : StepN) (hs : StepIn s) (ka sa : Option Addr) (kc sc : Nat) (w : World) :
  Calls Tryz.prog 100 #[stepv s ka kc sa sc] w fun e w' => ∃ a c, e = .returned (.slice a (opsN s).length c) ∧ Rd w'.heap.size w' a (opsN s) ∧ Below w.heap.size w w' := by
 have hB : Below w.heap.size w w := Below.refl _ _
 have hop := hs.op
 obtain ⟨V1, hEV1, hbV1, k1⟩ := newB w 76 #[.int .u8 s.op, .int .i64 s.a, .int .i64 s.b, .int .i64 s.pt.mul, .int .i64 s.pt.add, .int .i64 s.pt.div, .int .i64 s.pt.lo, .int .i64 s.pt.hi, .int .u8 s.how, .int .i64 s.kw, .int .i64 s.kh, .slice ka s.taps.length kc, .int .u8 s.bd, .int .i64 s.sw, .int .i64 s.sh, .slice sa s.bits.length sc]
 replace hB := tmB hB hbV1
 clear hbV1
 obtain ⟨m0, m1, m2, m3, m4, m5, m6, m7, m8, m9, m10, m11, m12, m13, m14, m15⟩ := cz16 k1
 unfold opsN
 by_cases h2 : s.op = 2
 case pos =>
  have e1 : (s.op == 2) = true := by simp [h2]
  by_cases hab : s.a = s.b
  case pos =>
   have e2 : (s.a != s.b) = false := by simp [hab]
   have e3 : (s.a == s.b) = true := by simp [hab]
   rw [if_neg (fun h => h.2 hab)]
   clear h2 hab
   have hbv : Below V1.heap.size V1 (V1.alloc (.cells #[.int .i64 s.a] 3)) := jb_al (Below.refl _ V1) _
   have kv := Blk.new V1 3 #[.int .i64 s.a]
   go_enter Tryz.func100, Tryz.ntmps100
   go_wp2_with fail
   go_ret
   exact ⟨_, _, rfl, .inr ⟨_, 0, rfl, kv.lt, fun i hi => by
    have hi2 : i < 1 := hi
    obtain rfl : i = 0 := by omega
    exact kv.cell (i := 0) rfl⟩, hB.trans (hbv.mono hB.size)⟩
  case neg =>
   have e2 : (s.a != s.b) = true := by simp [hab]
   have e3 : (s.a == s.b) = false := by simp [hab]
   rw [if_pos ⟨h2, hab⟩]
   clear h2 hab
   have hbv : Below V1.heap.size V1 (V1.alloc (.cells #[.int .i64 s.a, .int .i64 s.b] 3)) := jb_al (Below.refl _ V1) _
   have kv := Blk.new V1 3 #[.int .i64 s.a, .int .i64 s.b]
   go_enter Tryz.func100, Tryz.ntmps100
   go_wp2_with fail
   go_ret
   exact ⟨_, _, rfl, .inr ⟨_, 0, rfl, kv.lt, fun i hi => by
    have hi2 : i < 2 := hi
    rcases (show i = 0 ∨ i = 1 by omega) with rfl | rfl
    ·exact kv.cell (i := 0) rfl
    ·exact kv.cell (i := 1) rfl⟩, hB.trans (hbv.mono hB.size)⟩
 case neg =>
  have e1 : (s.op == 2) = false := by simp [h2]
  rw [if_neg (fun h => h2 h.1)]
  try clear h2
  have hbv : Below V1.heap.size V1 (V1.alloc (.cells #[.int .i64 s.a] 3)) := jb_al (Below.refl _ V1) _
  have kv := Blk.new V1 3 #[.int .i64 s.a]
  go_enter Tryz.func100, Tryz.ntmps100
  go_wp2_with fail
  go_ret
  exact ⟨_, _, rfl, .inr ⟨_, 0, rfl, kv.lt, fun i hi => by
   have hi2 : i < 1 := hi
   obtain rfl : i = 0 := by omega
   exact kv.cell (i := 0) rfl⟩, hB.trans (hbv.mono hB.size)⟩
set_option maxRecDepth 100000 in
set_option maxHeartbeats 8000000 in
theorem apply_any (s : StepN) (hs : StepIn s) (ka sa : Option Addr) (kc sc : Nat) (ms : List PicN) (a : Option Addr) (c n : Nat) (hn : ms.length = n) (hpl : ∀ i, i < n → (picAt ms i).px.length ≤ 9223372036854775807) (hA0 : 0 ≤ s.a) (hA1 : s.a < n) (hBb : s.op = 2 → 0 ≤ s.b ∧ s.b < n)
  (w : World) (hr : RdPs w.heap.size w a ms) (ht : Rd w.heap.size w ka s.taps) (hbt : RdB w.heap.size w sa s.bits) :
  Calls Tryz.prog 79 #[stepv s ka kc sa sc, .slice a n c] w (RetIm w.heap.size (appS s ms) w) := by
 have hB : Below w.heap.size w w := Below.refl _ _
 have hop := hs.op
 have hhow := hs.how
 have hbdr := hs.bd
 have htl := hs.tl
 have hbl := hs.bl
 obtain ⟨A, hA⟩ : ∃ A : Nat, s.a = (A : Int) := ⟨s.a.toNat, by omega⟩
 have hAn : A < n := by omega
 have hrdA := fun (i : Nat) (hi : i < n) => hr.at (i := i) (by rw [hn]; exact hi)
 have hplH := Lib.hid hpl
 obtain ⟨b, o, hab, hbl0, pa, pc, p0, p1, p2, rA, _⟩ := hrdA A hAn
 obtain ⟨R, hR⟩ : ∃ R, appS s ms = R := ⟨_, rfl⟩
 rw [hR]
 unfold appS at hR
 rw [show s.a.toNat = A by omega] at hR
 obtain ⟨⟨mw, mh, mx⟩, hM⟩ : ∃ M, picAt ms A = M := ⟨_, rfl⟩
 rw [hM] at p0 p1 p2 rA hR
 have hxl : mx.length ≤ 9223372036854775807 := by have := hpl A hAn; rw [hM] at this; exact this
 simp only at p0 p1 p2 rA hR
 obtain ⟨l, hl⟩ : ∃ l, mx.length = l := ⟨_, rfl⟩
 rw [hl] at p2 hxl
 obtain ⟨tl, htl0⟩ : ∃ l, s.taps.length = l := ⟨_, rfl⟩
 obtain ⟨bl, hbl1⟩ : ∃ l, s.bits.length = l := ⟨_, rfl⟩
 subst hab
 unfold stepv
 have hlH := Lib.hid hl
 have htlH := Lib.hid htl0
 have hblH := Lib.hid hbl1
 rw [htl0] at htl ⊢
 rw [hbl1] at hbl ⊢
 clear hpl hl htl0 hbl1 hM
 rw [hA]
 obtain ⟨D0, hD0⟩ : ∃ D : Int, s.b = D := ⟨_, rfl⟩
 rw [hD0] at hBb hR ⊢
 clear hD0
 obtain ⟨V1, hEV1, hbV1, k2⟩ := newB w 76 #[.int .u8 s.op, .int .i64 (A : Int), .int .i64 D0, .int .i64 s.pt.mul, .int .i64 s.pt.add, .int .i64 s.pt.div, .int .i64 s.pt.lo, .int .i64 s.pt.hi, .int .u8 s.how, .int .i64 s.kw, .int .i64 s.kh, .slice ka tl kc, .int .u8 s.bd, .int .i64 s.sw, .int .i64 s.sh, .slice sa bl sc]
 replace hr := hr.later hbV1
 replace rA := later_i rA hbV1
 replace ht := later_i ht hbV1
 replace hbt := ((hbt.below (Nat.le_refl _) hbV1).mono hbV1.size)
 replace hB := tmB hB hbV1
 clear hbV1
 obtain ⟨m0, m1, m2, m3, m4, m5, m6, m7, m8, m9, m10, m11, m12, m13, m14, m15⟩ := cz16 k2
 have hle4 := hB.size
 obtain ⟨V2, hEV2, hbV2, k4⟩ := newB V1 32 #[.int .i64 0, .int .i64 0, .slice none 0 0]
 clear m0 m1 m2 m3 m4 m5 m6 m7 m8 m9 m10 m11 m12 m13 m14 m15
 replace k2 := k2.below hbV2 k2.lt
 replace hr := hr.later hbV2
 replace rA := later_i rA hbV2
 replace ht := later_i ht hbV2
 replace hbt := ((hbt.below (Nat.le_refl _) hbV2).mono hbV2.size)
 replace hB := tmB hB hbV2
 clear hbV2
 obtain ⟨m0, m1, m2, m3, m4, m5, m6, m7, m8, m9, m10, m11, m12, m13, m14, m15⟩ := cz16 k2
 have z0 := k4.cell (i := 0) rfl
 have fz0 := k4.frozen 0
 have z1 := k4.cell (i := 1) rfl
 have fz1 := k4.frozen 1
 have z2 := k4.cell (i := 2) rfl
 have fz2 := k4.frozen 2
 have l2 := k2.lt
 have l4 := k4.lt
 have hbV : b < V2.heap.size := by have := hB.size; omega
 have y0 := (hB.cell (p := ⟨b, o + A * 3, none⟩) hbl0).trans p0
 have y1 := (hB.cell (p := ⟨b, o + A * 3 + 1, none⟩) hbl0).trans p1
 have y2 := (hB.cell (p := ⟨b, o + A * 3 + 2, none⟩) hbl0).trans p2
 by_cases h1 : s.op = 1
 case pos =>
  have f1 : (s.op == 1) = true := by simp [h1]
  rw [if_pos h1] at hR
  clear h1
  go_enter Tryz.func79, Tryz.ntmps79
  have hS : Below V2.heap.size V2 V2.drew := (Below.refl _ _).drew
  go_wp2_with fail
  refine plain_region (fun W' => Below V2.heap.size V2 W') 10 12 (by kernel_rfl) rfl ?_
  simp only [Array.replicate_succ, Array.replicate_zero, List.push_toArray, List.nil_append, List.cons_append]
  obtain ⟨X0, hXX0⟩ : ∃ X : World, V2.drew = X := ⟨_, rfl⟩
  rw [hXX0] at hS ⊢
  clear hXX0
  have FA0 := Lib.hid (fun w' (hS' : (fun W' => Below V2.heap.size V2 W') w') => And.intro (cz16 (k2.below hS' l2)) (And.intro ((hS'.cell (p := ⟨b, o + A * 3, none⟩) hbV).trans y0) (And.intro ((hS'.cell (p := ⟨b, o + A * 3 + 1, none⟩) hbV).trans y1) ((hS'.cell (p := ⟨b, o + A * 3 + 2, none⟩) hbV).trans y2))))
  refine tkz 0 rfl hS (fun w' hS' => by go_simp; rfl) ?_
  simp only [nrz]
  refine tkz 1 rfl hS (fun w' hS' => by go_simp; rfl) ?_
  simp only [nrz]
  refine tkz 2 rfl hS (fun w' hS' => by obtain ⟨⟨fm0, fm1, fm2, fm3, fm4, fm5, fm6, fm7, fm8, fm9, fm10, fm11, fm12, fm13, fm14, fm15⟩, fy0, fy1, fy2⟩ := FA0.out w' hS'; clear hS'; go_simp; rfl) ?_
  simp only [nrz]
  refine tkz 3 (v := ?r3v3) rfl hS (fun w' hS' => ?r3y3) ?r3z3
  case r3y3 =>
   go_simp
   try go_ints
   first
   | rfl
   | (rw [if_pos (by omega)]; done)
   | rw [if_pos ⟨by omega, by omega⟩]
  simp only [nrz]
  refine tkz 4 rfl hS (fun w' hS' => by obtain ⟨⟨fm0, fm1, fm2, fm3, fm4, fm5, fm6, fm7, fm8, fm9, fm10, fm11, fm12, fm13, fm14, fm15⟩, fy0, fy1, fy2⟩ := FA0.out w' hS'; clear hS'; go_simp; rfl) ?_
  simp only [nrz]
  refine tkz 5 rfl hS (fun w' hS' => by go_simp; rfl) ?_
  simp only [nrz]
  refine tkz 6 rfl hS (fun w' hS' => by obtain ⟨⟨fm0, fm1, fm2, fm3, fm4, fm5, fm6, fm7, fm8, fm9, fm10, fm11, fm12, fm13, fm14, fm15⟩, fy0, fy1, fy2⟩ := FA0.out w' hS'; clear hS'; go_simp; rfl) ?_
  simp only [nrz]
  refine step_op 7 (by kernel_rfl) rfl (fun K hK => ?_)
  rw [if_pos (by rfl)]
  go_simp
  have hc := Point_any mw mh pa pc l mx hlH s.pt X0 hxl (later_i rA hS)
  unfold RetIm at hc
  rw [hR] at hc
  refine hc.mono ?_
  clear hc
  rintro e X1 ⟨⟨v, rfl, t1, rfl, hrow⟩, hb⟩
  obtain ⟨qa, qc, rfl⟩ := row_slice hrow
  have hrowb := jrow_weaken hrow (show w.heap.size ≤ X0.heap.size by have := hS.size; have := hB.size; omega)
  have hS1 : Below V2.heap.size V2 X1 := hS.trans (hb.mono hS.size)
  clear hb hrow
  refine hK.out _ _ (fun h => hS1) ?_
  clear hK K
  try simp only [Act.put, nrz]
  refine tkz 8 rfl hS1 (fun w' hS' => by go_simp; rfl) ?_
  simp only [nrz]
  refine tkz 9 rfl hS1 (fun w' hS' => by go_simp; rfl) ?_
  simp only [nrz]
  refine step_op 10 (by kernel_rfl) rfl (fun K hK => ?_)
  have kz := k4.below hS1 l4
  obtain ⟨z0, z1, z2⟩ := cz3 kz
  have fz0 := kz.frozen 0
  have fz1 := kz.frozen 1
  have fz2 := kz.frozen 2
  rw [if_pos (by rfl)]
  go_simp
  refine hK.out _ _ (fun h => absurd h (by omega)) ?_
  clear hK K
  try simp only [Act.put, nrz]
  refine step_op 11 (by kernel_rfl) rfl (fun K hK => ?_)
  rw [if_pos (by rfl)]
  go_simp
  refine hK.out _ _ (fun h => absurd h (by omega)) ?_
  clear hK K
  try simp only [Act.put, nrz]
  refine done_ops (by kernel_rfl) ?_
  have kf := put3_blk kz (.int .i64 R.w) (.int .i64 R.h) (.slice qa R.px.length qc)
  have rowf := row_put3b hrowb (kz.not_row (by decide) hrowb) (.int .i64 R.w) (.int .i64 R.h) (.slice qa R.px.length qc)
  have hbf : Below w.heap.size w (put3 X1 (V1.heap.size) (.int .i64 R.w) (.int .i64 R.h) (.slice qa R.px.length qc)) := (hB.trans (hS1.mono hB.size)).trans (put3_below hle4 _ _ _)
  obtain ⟨g0, g1, g2⟩ := cz3 kf
  go_wp2_with fail
  exact bodyPost_ret (v := .tuple #[imv R.w R.h qa R.px.length qc, .int .i64 R.err]) (by simp [results, Tryz.results79, go_sem, g0, g1, g2]) rfl ⟨⟨_, rfl, _, rfl, rowf⟩, hbf⟩
 case neg =>
  have f1 : (s.op == 1) = false := by simp [h1]
  rw [if_neg h1] at hR
  clear h1
  by_cases h2 : s.op = 2
  case pos =>
   have f2 : (s.op == 2) = true := by simp [h2]
   rw [if_pos h2] at hR
   obtain ⟨hb1, hb2⟩ := hBb h2
   clear h2
   obtain ⟨D, rfl⟩ : ∃ D : Nat, D0 = (D : Int) := ⟨D0.toNat, by omega⟩
   have hDn : D < n := by omega
   obtain ⟨b', o', hbb, _, pb, pd, t0, t1, t2, rD, _⟩ := hrdA D hDn
   simp only [Option.some.injEq, Addr.mk.injEq, and_true] at hbb
   obtain ⟨rfl, rfl⟩ := hbb
   rw [Int.toNat_natCast] at hR
   obtain ⟨⟨nw, nh, nx⟩, hM2⟩ : ∃ M, picAt ms D = M := ⟨_, rfl⟩
   rw [hM2] at t0 t1 t2 rD hR
   have hyl : nx.length ≤ 9223372036854775807 := by have := hplH.out D hDn; rw [hM2] at this; exact this
   simp only at t0 t1 t2 rD hR
   obtain ⟨l', hl'⟩ : ∃ l, nx.length = l := ⟨_, rfl⟩
   rw [hl'] at t2 hyl
   have hlH' := Lib.hid hl'
   have y0' := (hB.cell (p := ⟨b, o + D * 3, none⟩) hbl0).trans t0
   have y1' := (hB.cell (p := ⟨b, o + D * 3 + 1, none⟩) hbl0).trans t1
   have y2' := (hB.cell (p := ⟨b, o + D * 3 + 2, none⟩) hbl0).trans t2
   replace rD := later_i rD hB
   clear hl' hM2
   go_enter Tryz.func79, Tryz.ntmps79
   have hS : Below V2.heap.size V2 V2.drew := (Below.refl _ _).drew
   go_wp2_with fail
   refine plain_region (fun W' => Below V2.heap.size V2 W') 15 17 (by kernel_rfl) rfl ?_
   simp only [Array.replicate_succ, Array.replicate_zero, List.push_toArray, List.nil_append, List.cons_append]
   obtain ⟨X0, hXX0⟩ : ∃ X : World, V2.drew = X := ⟨_, rfl⟩
   rw [hXX0] at hS ⊢
   clear hXX0
   have FA1 := Lib.hid (fun w' (hS' : (fun W' => Below V2.heap.size V2 W') w') => And.intro (cz16 (k2.below hS' l2)) (And.intro ((hS'.cell (p := ⟨b, o + A * 3, none⟩) hbV).trans y0) (And.intro ((hS'.cell (p := ⟨b, o + A * 3 + 1, none⟩) hbV).trans y1) (And.intro ((hS'.cell (p := ⟨b, o + A * 3 + 2, none⟩) hbV).trans y2) (And.intro ((hS'.cell (p := ⟨b, o + D * 3, none⟩) hbV).trans y0') (And.intro ((hS'.cell (p := ⟨b, o + D * 3 + 1, none⟩) hbV).trans y1') ((hS'.cell (p := ⟨b, o + D * 3 + 2, none⟩) hbV).trans y2')))))))
   refine tkz 0 rfl hS (fun w' hS' => by go_simp; rfl) ?_
   simp only [nrz]
   refine tkz 1 rfl hS (fun w' hS' => by go_simp; rfl) ?_
   simp only [nrz]
   refine tkz 2 rfl hS (fun w' hS' => by obtain ⟨⟨fm0, fm1, fm2, fm3, fm4, fm5, fm6, fm7, fm8, fm9, fm10, fm11, fm12, fm13, fm14, fm15⟩, fy0, fy1, fy2, fq0, fq1, fq2⟩ := FA1.out w' hS'; clear hS'; go_simp; rfl) ?_
   simp only [nrz]
   refine tkz 3 (v := ?r5v3) rfl hS (fun w' hS' => ?r5y3) ?r5z3
   case r5y3 =>
    go_simp
    try go_ints
    first
    | rfl
    | (rw [if_pos (by omega)]; done)
    | rw [if_pos ⟨by omega, by omega⟩]
   simp only [nrz]
   refine tkz 4 rfl hS (fun w' hS' => by obtain ⟨⟨fm0, fm1, fm2, fm3, fm4, fm5, fm6, fm7, fm8, fm9, fm10, fm11, fm12, fm13, fm14, fm15⟩, fy0, fy1, fy2, fq0, fq1, fq2⟩ := FA1.out w' hS'; clear hS'; go_simp; rfl) ?_
   simp only [nrz]
   refine tkz 5 rfl hS (fun w' hS' => by go_simp; rfl) ?_
   simp only [nrz]
   refine tkz 6 rfl hS (fun w' hS' => by go_simp; rfl) ?_
   simp only [nrz]
   refine tkz 7 rfl hS (fun w' hS' => by obtain ⟨⟨fm0, fm1, fm2, fm3, fm4, fm5, fm6, fm7, fm8, fm9, fm10, fm11, fm12, fm13, fm14, fm15⟩, fy0, fy1, fy2, fq0, fq1, fq2⟩ := FA1.out w' hS'; clear hS'; go_simp; rfl) ?_
   simp only [nrz]
   refine tkz 8 (v := ?r5v8) rfl hS (fun w' hS' => ?r5y8) ?r5z8
   case r5y8 =>
    go_simp
    try go_ints
    first
    | rfl
    | (rw [if_pos (by omega)]; done)
    | rw [if_pos ⟨by omega, by omega⟩]
   simp only [nrz]
   refine tkz 9 rfl hS (fun w' hS' => by obtain ⟨⟨fm0, fm1, fm2, fm3, fm4, fm5, fm6, fm7, fm8, fm9, fm10, fm11, fm12, fm13, fm14, fm15⟩, fy0, fy1, fy2, fq0, fq1, fq2⟩ := FA1.out w' hS'; clear hS'; go_simp; rfl) ?_
   simp only [nrz]
   refine tkz 10 rfl hS (fun w' hS' => by go_simp; rfl) ?_
   simp only [nrz]
   refine tkz 11 rfl hS (fun w' hS' => by obtain ⟨⟨fm0, fm1, fm2, fm3, fm4, fm5, fm6, fm7, fm8, fm9, fm10, fm11, fm12, fm13, fm14, fm15⟩, fy0, fy1, fy2, fq0, fq1, fq2⟩ := FA1.out w' hS'; clear hS'; go_simp; rfl) ?_
   simp only [nrz]
   refine step_op 12 (by kernel_rfl) rfl (fun K hK => ?_)
   rw [if_pos (by rfl)]
   go_simp
   have hc := Zip_any mw mh pa pc l mx hlH nw nh pb pd l' nx hlH' s.how hhow.1 hhow.2 X0 hxl hyl (later_i rA hS) (later_i rD hS)
   unfold RetIm at hc
   rw [hR] at hc
   refine hc.mono ?_
   clear hc
   rintro e X1 ⟨⟨v, rfl, t1, rfl, hrow⟩, hb⟩
   obtain ⟨qa, qc, rfl⟩ := row_slice hrow
   have hrowb := jrow_weaken hrow (show w.heap.size ≤ X0.heap.size by have := hS.size; have := hB.size; omega)
   have hS1 : Below V2.heap.size V2 X1 := hS.trans (hb.mono hS.size)
   clear hb hrow
   refine hK.out _ _ (fun h => hS1) ?_
   clear hK K
   try simp only [Act.put, nrz]
   refine tkz 13 rfl hS1 (fun w' hS' => by go_simp; rfl) ?_
   simp only [nrz]
   refine tkz 14 rfl hS1 (fun w' hS' => by go_simp; rfl) ?_
   simp only [nrz]
   refine step_op 15 (by kernel_rfl) rfl (fun K hK => ?_)
   have kz := k4.below hS1 l4
   obtain ⟨z0, z1, z2⟩ := cz3 kz
   have fz0 := kz.frozen 0
   have fz1 := kz.frozen 1
   have fz2 := kz.frozen 2
   rw [if_pos (by rfl)]
   go_simp
   refine hK.out _ _ (fun h => absurd h (by omega)) ?_
   clear hK K
   try simp only [Act.put, nrz]
   refine step_op 16 (by kernel_rfl) rfl (fun K hK => ?_)
   rw [if_pos (by rfl)]
   go_simp
   refine hK.out _ _ (fun h => absurd h (by omega)) ?_
   clear hK K
   try simp only [Act.put, nrz]
   refine done_ops (by kernel_rfl) ?_
   have kf := put3_blk kz (.int .i64 R.w) (.int .i64 R.h) (.slice qa R.px.length qc)
   have rowf := row_put3b hrowb (kz.not_row (by decide) hrowb) (.int .i64 R.w) (.int .i64 R.h) (.slice qa R.px.length qc)
   have hbf : Below w.heap.size w (put3 X1 (V1.heap.size) (.int .i64 R.w) (.int .i64 R.h) (.slice qa R.px.length qc)) := (hB.trans (hS1.mono hB.size)).trans (put3_below hle4 _ _ _)
   obtain ⟨g0, g1, g2⟩ := cz3 kf
   go_wp2_with fail
   exact bodyPost_ret (v := .tuple #[imv R.w R.h qa R.px.length qc, .int .i64 R.err]) (by simp [results, Tryz.results79, go_sem, g0, g1, g2]) rfl ⟨⟨_, rfl, _, rfl, rowf⟩, hbf⟩
  case neg =>
   have f2 : (s.op == 2) = false := by simp [h2]
   rw [if_neg h2] at hR
   clear h2
   by_cases h3 : s.op = 3
   case pos =>
    have f3 : (s.op == 3) = true := by simp [h3]
    rw [if_pos h3] at hR
    clear h3
    go_enter Tryz.func79, Tryz.ntmps79
    have hS : Below V2.heap.size V2 V2.drew := (Below.refl _ _).drew
    go_wp2_with fail
    refine plain_region (fun W' => Below V2.heap.size V2 W') 12 14 (by kernel_rfl) rfl ?_
    simp only [Array.replicate_succ, Array.replicate_zero, List.push_toArray, List.nil_append, List.cons_append]
    obtain ⟨X0, hXX0⟩ : ∃ X : World, V2.drew = X := ⟨_, rfl⟩
    rw [hXX0] at hS ⊢
    clear hXX0
    have FA2 := Lib.hid (fun w' (hS' : (fun W' => Below V2.heap.size V2 W') w') => And.intro (cz16 (k2.below hS' l2)) (And.intro ((hS'.cell (p := ⟨b, o + A * 3, none⟩) hbV).trans y0) (And.intro ((hS'.cell (p := ⟨b, o + A * 3 + 1, none⟩) hbV).trans y1) ((hS'.cell (p := ⟨b, o + A * 3 + 2, none⟩) hbV).trans y2))))
    refine tkz 0 rfl hS (fun w' hS' => by go_simp; rfl) ?_
    simp only [nrz]
    refine tkz 1 rfl hS (fun w' hS' => by go_simp; rfl) ?_
    simp only [nrz]
    refine tkz 2 rfl hS (fun w' hS' => by obtain ⟨⟨fm0, fm1, fm2, fm3, fm4, fm5, fm6, fm7, fm8, fm9, fm10, fm11, fm12, fm13, fm14, fm15⟩, fy0, fy1, fy2⟩ := FA2.out w' hS'; clear hS'; go_simp; rfl) ?_
    simp only [nrz]
    refine tkz 3 (v := ?r7v3) rfl hS (fun w' hS' => ?r7y3) ?r7z3
    case r7y3 =>
     go_simp
     try go_ints
     first
     | rfl
     | (rw [if_pos (by omega)]; done)
     | rw [if_pos ⟨by omega, by omega⟩]
    simp only [nrz]
    refine tkz 4 rfl hS (fun w' hS' => by obtain ⟨⟨fm0, fm1, fm2, fm3, fm4, fm5, fm6, fm7, fm8, fm9, fm10, fm11, fm12, fm13, fm14, fm15⟩, fy0, fy1, fy2⟩ := FA2.out w' hS'; clear hS'; go_simp; rfl) ?_
    simp only [nrz]
    refine tkz 5 rfl hS (fun w' hS' => by go_simp; rfl) ?_
    simp only [nrz]
    refine tkz 6 rfl hS (fun w' hS' => by obtain ⟨⟨fm0, fm1, fm2, fm3, fm4, fm5, fm6, fm7, fm8, fm9, fm10, fm11, fm12, fm13, fm14, fm15⟩, fy0, fy1, fy2⟩ := FA2.out w' hS'; clear hS'; go_simp; rfl) ?_
    simp only [nrz]
    refine tkz 7 rfl hS (fun w' hS' => by go_simp; rfl) ?_
    simp only [nrz]
    refine tkz 8 rfl hS (fun w' hS' => by obtain ⟨⟨fm0, fm1, fm2, fm3, fm4, fm5, fm6, fm7, fm8, fm9, fm10, fm11, fm12, fm13, fm14, fm15⟩, fy0, fy1, fy2⟩ := FA2.out w' hS'; clear hS'; go_simp; rfl) ?_
    simp only [nrz]
    refine step_op 9 (by kernel_rfl) rfl (fun K hK => ?_)
    rw [if_pos (by rfl)]
    go_simp
    have hc := Convolve_any mw mh pa pc l mx hlH s.kw s.kh ka kc tl s.taps htlH s.bd hbdr.1 hbdr.2 X0 hxl (later_i rA hS) htl (later_i ht hS)
    unfold RetIm at hc
    rw [hR] at hc
    refine hc.mono ?_
    clear hc
    rintro e X1 ⟨⟨v, rfl, t1, rfl, hrow⟩, hb⟩
    obtain ⟨qa, qc, rfl⟩ := row_slice hrow
    have hrowb := jrow_weaken hrow (show w.heap.size ≤ X0.heap.size by have := hS.size; have := hB.size; omega)
    have hS1 : Below V2.heap.size V2 X1 := hS.trans (hb.mono hS.size)
    clear hb hrow
    refine hK.out _ _ (fun h => hS1) ?_
    clear hK K
    try simp only [Act.put, nrz]
    refine tkz 10 rfl hS1 (fun w' hS' => by go_simp; rfl) ?_
    simp only [nrz]
    refine tkz 11 rfl hS1 (fun w' hS' => by go_simp; rfl) ?_
    simp only [nrz]
    refine step_op 12 (by kernel_rfl) rfl (fun K hK => ?_)
    have kz := k4.below hS1 l4
    obtain ⟨z0, z1, z2⟩ := cz3 kz
    have fz0 := kz.frozen 0
    have fz1 := kz.frozen 1
    have fz2 := kz.frozen 2
    rw [if_pos (by rfl)]
    go_simp
    refine hK.out _ _ (fun h => absurd h (by omega)) ?_
    clear hK K
    try simp only [Act.put, nrz]
    refine step_op 13 (by kernel_rfl) rfl (fun K hK => ?_)
    rw [if_pos (by rfl)]
    go_simp
    refine hK.out _ _ (fun h => absurd h (by omega)) ?_
    clear hK K
    try simp only [Act.put, nrz]
    refine done_ops (by kernel_rfl) ?_
    have kf := put3_blk kz (.int .i64 R.w) (.int .i64 R.h) (.slice qa R.px.length qc)
    have rowf := row_put3b hrowb (kz.not_row (by decide) hrowb) (.int .i64 R.w) (.int .i64 R.h) (.slice qa R.px.length qc)
    have hbf : Below w.heap.size w (put3 X1 (V1.heap.size) (.int .i64 R.w) (.int .i64 R.h) (.slice qa R.px.length qc)) := (hB.trans (hS1.mono hB.size)).trans (put3_below hle4 _ _ _)
    obtain ⟨g0, g1, g2⟩ := cz3 kf
    go_wp2_with fail
    exact bodyPost_ret (v := .tuple #[imv R.w R.h qa R.px.length qc, .int .i64 R.err]) (by simp [results, Tryz.results79, go_sem, g0, g1, g2]) rfl ⟨⟨_, rfl, _, rfl, rowf⟩, hbf⟩
   case neg =>
    have f3 : (s.op == 3) = false := by simp [h3]
    rw [if_neg h3] at hR
    clear h3
    by_cases h4 : s.op = 4
    case pos =>
     have f4 : (s.op == 4) = true := by simp [h4]
     rw [if_pos h4] at hR
     clear h4
     go_enter Tryz.func79, Tryz.ntmps79
     have hS : Below V2.heap.size V2 V2.drew := (Below.refl _ _).drew
     go_wp2_with fail
     refine plain_region (fun W' => Below V2.heap.size V2 W') 10 12 (by kernel_rfl) rfl ?_
     simp only [Array.replicate_succ, Array.replicate_zero, List.push_toArray, List.nil_append, List.cons_append]
     obtain ⟨X0, hXX0⟩ : ∃ X : World, V2.drew = X := ⟨_, rfl⟩
     rw [hXX0] at hS ⊢
     clear hXX0
     have FA3 := Lib.hid (fun w' (hS' : (fun W' => Below V2.heap.size V2 W') w') => And.intro (cz16 (k2.below hS' l2)) (And.intro ((hS'.cell (p := ⟨b, o + A * 3, none⟩) hbV).trans y0) (And.intro ((hS'.cell (p := ⟨b, o + A * 3 + 1, none⟩) hbV).trans y1) ((hS'.cell (p := ⟨b, o + A * 3 + 2, none⟩) hbV).trans y2))))
     refine tkz 0 rfl hS (fun w' hS' => by go_simp; rfl) ?_
     simp only [nrz]
     refine tkz 1 rfl hS (fun w' hS' => by go_simp; rfl) ?_
     simp only [nrz]
     refine tkz 2 rfl hS (fun w' hS' => by obtain ⟨⟨fm0, fm1, fm2, fm3, fm4, fm5, fm6, fm7, fm8, fm9, fm10, fm11, fm12, fm13, fm14, fm15⟩, fy0, fy1, fy2⟩ := FA3.out w' hS'; clear hS'; go_simp; rfl) ?_
     simp only [nrz]
     refine tkz 3 (v := ?r9v3) rfl hS (fun w' hS' => ?r9y3) ?r9z3
     case r9y3 =>
      go_simp
      try go_ints
      first
      | rfl
      | (rw [if_pos (by omega)]; done)
      | rw [if_pos ⟨by omega, by omega⟩]
     simp only [nrz]
     refine tkz 4 rfl hS (fun w' hS' => by obtain ⟨⟨fm0, fm1, fm2, fm3, fm4, fm5, fm6, fm7, fm8, fm9, fm10, fm11, fm12, fm13, fm14, fm15⟩, fy0, fy1, fy2⟩ := FA3.out w' hS'; clear hS'; go_simp; rfl) ?_
     simp only [nrz]
     refine tkz 5 rfl hS (fun w' hS' => by go_simp; rfl) ?_
     simp only [nrz]
     refine tkz 6 rfl hS (fun w' hS' => by obtain ⟨⟨fm0, fm1, fm2, fm3, fm4, fm5, fm6, fm7, fm8, fm9, fm10, fm11, fm12, fm13, fm14, fm15⟩, fy0, fy1, fy2⟩ := FA3.out w' hS'; clear hS'; go_simp; rfl) ?_
     simp only [nrz]
     refine step_op 7 (by kernel_rfl) rfl (fun K hK => ?_)
     rw [if_pos (by rfl)]
     go_simp
     have hc := Dilate_any mw mh pa pc l mx hlH s.sw s.sh sa sc bl s.bits hblH X0 hxl (later_i rA hS) hbl ((hbt.below (Nat.le_refl _) hS).mono hS.size)
     unfold RetIm at hc
     rw [hR] at hc
     refine hc.mono ?_
     clear hc
     rintro e X1 ⟨⟨v, rfl, t1, rfl, hrow⟩, hb⟩
     obtain ⟨qa, qc, rfl⟩ := row_slice hrow
     have hrowb := jrow_weaken hrow (show w.heap.size ≤ X0.heap.size by have := hS.size; have := hB.size; omega)
     have hS1 : Below V2.heap.size V2 X1 := hS.trans (hb.mono hS.size)
     clear hb hrow
     refine hK.out _ _ (fun h => hS1) ?_
     clear hK K
     try simp only [Act.put, nrz]
     refine tkz 8 rfl hS1 (fun w' hS' => by go_simp; rfl) ?_
     simp only [nrz]
     refine tkz 9 rfl hS1 (fun w' hS' => by go_simp; rfl) ?_
     simp only [nrz]
     refine step_op 10 (by kernel_rfl) rfl (fun K hK => ?_)
     have kz := k4.below hS1 l4
     obtain ⟨z0, z1, z2⟩ := cz3 kz
     have fz0 := kz.frozen 0
     have fz1 := kz.frozen 1
     have fz2 := kz.frozen 2
     rw [if_pos (by rfl)]
     go_simp
     refine hK.out _ _ (fun h => absurd h (by omega)) ?_
     clear hK K
     try simp only [Act.put, nrz]
     refine step_op 11 (by kernel_rfl) rfl (fun K hK => ?_)
     rw [if_pos (by rfl)]
     go_simp
     refine hK.out _ _ (fun h => absurd h (by omega)) ?_
     clear hK K
     try simp only [Act.put, nrz]
     refine done_ops (by kernel_rfl) ?_
     have kf := put3_blk kz (.int .i64 R.w) (.int .i64 R.h) (.slice qa R.px.length qc)
     have rowf := row_put3b hrowb (kz.not_row (by decide) hrowb) (.int .i64 R.w) (.int .i64 R.h) (.slice qa R.px.length qc)
     have hbf : Below w.heap.size w (put3 X1 (V1.heap.size) (.int .i64 R.w) (.int .i64 R.h) (.slice qa R.px.length qc)) := (hB.trans (hS1.mono hB.size)).trans (put3_below hle4 _ _ _)
     obtain ⟨g0, g1, g2⟩ := cz3 kf
     go_wp2_with fail
     exact bodyPost_ret (v := .tuple #[imv R.w R.h qa R.px.length qc, .int .i64 R.err]) (by simp [results, Tryz.results79, go_sem, g0, g1, g2]) rfl ⟨⟨_, rfl, _, rfl, rowf⟩, hbf⟩
    case neg =>
     have f4 : (s.op == 4) = false := by simp [h4]
     rw [if_neg h4] at hR
     clear h4
     by_cases h5 : s.op = 5
     case pos =>
      have f5 : (s.op == 5) = true := by simp [h5]
      rw [if_pos h5] at hR
      clear h5
      go_enter Tryz.func79, Tryz.ntmps79
      have hS : Below V2.heap.size V2 V2.drew := (Below.refl _ _).drew
      go_wp2_with fail
      refine plain_region (fun W' => Below V2.heap.size V2 W') 10 12 (by kernel_rfl) rfl ?_
      simp only [Array.replicate_succ, Array.replicate_zero, List.push_toArray, List.nil_append, List.cons_append]
      obtain ⟨X0, hXX0⟩ : ∃ X : World, V2.drew = X := ⟨_, rfl⟩
      rw [hXX0] at hS ⊢
      clear hXX0
      have FA4 := Lib.hid (fun w' (hS' : (fun W' => Below V2.heap.size V2 W') w') => And.intro (cz16 (k2.below hS' l2)) (And.intro ((hS'.cell (p := ⟨b, o + A * 3, none⟩) hbV).trans y0) (And.intro ((hS'.cell (p := ⟨b, o + A * 3 + 1, none⟩) hbV).trans y1) ((hS'.cell (p := ⟨b, o + A * 3 + 2, none⟩) hbV).trans y2))))
      refine tkz 0 rfl hS (fun w' hS' => by go_simp; rfl) ?_
      simp only [nrz]
      refine tkz 1 rfl hS (fun w' hS' => by go_simp; rfl) ?_
      simp only [nrz]
      refine tkz 2 rfl hS (fun w' hS' => by obtain ⟨⟨fm0, fm1, fm2, fm3, fm4, fm5, fm6, fm7, fm8, fm9, fm10, fm11, fm12, fm13, fm14, fm15⟩, fy0, fy1, fy2⟩ := FA4.out w' hS'; clear hS'; go_simp; rfl) ?_
      simp only [nrz]
      refine tkz 3 (v := ?r11v3) rfl hS (fun w' hS' => ?r11y3) ?r11z3
      case r11y3 =>
       go_simp
       try go_ints
       first
       | rfl
       | (rw [if_pos (by omega)]; done)
       | rw [if_pos ⟨by omega, by omega⟩]
      simp only [nrz]
      refine tkz 4 rfl hS (fun w' hS' => by obtain ⟨⟨fm0, fm1, fm2, fm3, fm4, fm5, fm6, fm7, fm8, fm9, fm10, fm11, fm12, fm13, fm14, fm15⟩, fy0, fy1, fy2⟩ := FA4.out w' hS'; clear hS'; go_simp; rfl) ?_
      simp only [nrz]
      refine tkz 5 rfl hS (fun w' hS' => by go_simp; rfl) ?_
      simp only [nrz]
      refine tkz 6 rfl hS (fun w' hS' => by obtain ⟨⟨fm0, fm1, fm2, fm3, fm4, fm5, fm6, fm7, fm8, fm9, fm10, fm11, fm12, fm13, fm14, fm15⟩, fy0, fy1, fy2⟩ := FA4.out w' hS'; clear hS'; go_simp; rfl) ?_
      simp only [nrz]
      refine step_op 7 (by kernel_rfl) rfl (fun K hK => ?_)
      rw [if_pos (by rfl)]
      go_simp
      have hc := Erode_any mw mh pa pc l mx hlH s.sw s.sh sa sc bl s.bits hblH X0 hxl (later_i rA hS) hbl ((hbt.below (Nat.le_refl _) hS).mono hS.size)
      unfold RetIm at hc
      rw [hR] at hc
      refine hc.mono ?_
      clear hc
      rintro e X1 ⟨⟨v, rfl, t1, rfl, hrow⟩, hb⟩
      obtain ⟨qa, qc, rfl⟩ := row_slice hrow
      have hrowb := jrow_weaken hrow (show w.heap.size ≤ X0.heap.size by have := hS.size; have := hB.size; omega)
      have hS1 : Below V2.heap.size V2 X1 := hS.trans (hb.mono hS.size)
      clear hb hrow
      refine hK.out _ _ (fun h => hS1) ?_
      clear hK K
      try simp only [Act.put, nrz]
      refine tkz 8 rfl hS1 (fun w' hS' => by go_simp; rfl) ?_
      simp only [nrz]
      refine tkz 9 rfl hS1 (fun w' hS' => by go_simp; rfl) ?_
      simp only [nrz]
      refine step_op 10 (by kernel_rfl) rfl (fun K hK => ?_)
      have kz := k4.below hS1 l4
      obtain ⟨z0, z1, z2⟩ := cz3 kz
      have fz0 := kz.frozen 0
      have fz1 := kz.frozen 1
      have fz2 := kz.frozen 2
      rw [if_pos (by rfl)]
      go_simp
      refine hK.out _ _ (fun h => absurd h (by omega)) ?_
      clear hK K
      try simp only [Act.put, nrz]
      refine step_op 11 (by kernel_rfl) rfl (fun K hK => ?_)
      rw [if_pos (by rfl)]
      go_simp
      refine hK.out _ _ (fun h => absurd h (by omega)) ?_
      clear hK K
      try simp only [Act.put, nrz]
      refine done_ops (by kernel_rfl) ?_
      have kf := put3_blk kz (.int .i64 R.w) (.int .i64 R.h) (.slice qa R.px.length qc)
      have rowf := row_put3b hrowb (kz.not_row (by decide) hrowb) (.int .i64 R.w) (.int .i64 R.h) (.slice qa R.px.length qc)
      have hbf : Below w.heap.size w (put3 X1 (V1.heap.size) (.int .i64 R.w) (.int .i64 R.h) (.slice qa R.px.length qc)) := (hB.trans (hS1.mono hB.size)).trans (put3_below hle4 _ _ _)
      obtain ⟨g0, g1, g2⟩ := cz3 kf
      go_wp2_with fail
      exact bodyPost_ret (v := .tuple #[imv R.w R.h qa R.px.length qc, .int .i64 R.err]) (by simp [results, Tryz.results79, go_sem, g0, g1, g2]) rfl ⟨⟨_, rfl, _, rfl, rowf⟩, hbf⟩
     case neg =>
      have f5 : (s.op == 5) = false := by simp [h5]
      rw [if_neg h5] at hR
      clear h5
      subst hR
      have q0 := k4.frozen 0
      have kf := put3_blk k4 (.int .i64 0) (.int .i64 0) (.slice none 0 0)
      have hbf : Below w.heap.size w (put3 V2 (V1.heap.size) (.int .i64 0) (.int .i64 0) (.slice none 0 0)) := hB.trans (put3_below hle4 _ _ _)
      obtain ⟨g0, g1, g2⟩ := cz3 kf
      go_enter Tryz.func79, Tryz.ntmps79
      go_wp2_with fail
      exact bodyPost_ret (v := .tuple #[imv 0 0 none 0 0, .int .i64 30]) (by simp [results, Tryz.results79, go_sem, g0, g1, g2]) rfl ⟨⟨_, rfl, _, rfl, World.ownsRow_nil _ _ _ _⟩, hbf⟩
end Go.Proofs.YtekiemlniegddaaGreat
namespace Go.Proofs.YtekiemlniegddaaGreat
open Go Go.RowKit Go.Shelf
/-! ### append of what can be read, nil or not -/
theorem run_append_none0 {P : Program} {w : World} (base : Nat) (t ty e : TypeId) (i : TypeInfo) (size : Nat) (ht : P.underlying t = some (.slice e)) (hi : P.info? e = some i)
  (v : Value) (n : Nat) (xs : List Value) (hown : w.ownsRow base e size v n xs) (c : Nat) : (Builtin.append_ #[t, t] ty #[v, .slice none 0 c]).run P w = .ok v w := by
 rcases hown.2 with ⟨rfl, rfl⟩ | ⟨g, cap, cur, rfl, _, _, hnc, _⟩
 ·simp [Builtin.append_, run_underlying ht, sizeOf, typeInfo, hi, Builtin.lenOf, Builtin.firstCells]
 ·simp [Builtin.append_, run_underlying ht, sizeOf, typeInfo, hi, Builtin.lenOf, Builtin.firstCells, hnc, storeCells]
theorem grownBy_self (w : World) (row : Option Nat) : w.grownBy w row := ⟨rfl, rfl, rfl, Nat.le_refl _, fun _ _ _ => rfl⟩
/-- What stands at an address that may be none. -/
def NewsAt (W : World) (a : Option Addr) (m : Nat) (news : List Value) : Prop := (a = none ∧ m = 0) ∨ ∃ ad, a = some ad ∧ ∀ j u, news[j]? = some u → W.cell? (ad.add j) = some u
theorem addr_add (b o j : Nat) : (⟨b, o, none⟩ : Addr).add j = ⟨b, o + j, none⟩ := by unfold Addr.add; split <;> simp_all
theorem Rd.news {B : Nat} {W : World} {a : Option Addr} {xs : List Int} {m : Nat} (h : Rd B W a xs) (hm : xs.length = m) : NewsAt W a m (xs.map (Value.int .i64)) := by
 subst hm
 cases a with
 | none =>
  rcases h with h | ⟨b, o, h1, _⟩
  ·subst h; exact .inl ⟨rfl, rfl⟩
  ·cases h1
 | some ad =>
  refine .inr ⟨ad, rfl, fun j u hu => ?_⟩
  rcases h with h | ⟨b, o, h1, h2, h3⟩
  ·subst h; simp at hu
  ·simp only [Option.some.injEq] at h1
   subst h1
   have hj : j < xs.length := by
    rcases Nat.lt_or_ge j xs.length with h | h
    ·exact h
    ·rw [List.getElem?_eq_none (by simpa using h)] at hu; cases hu
   rw [addr_add, h3 j hj]
   simp [hj] at hu ⊢
   exact hu
theorem vint_one (xs : List Int) : ∀ u ∈ xs.map (Value.int .i64), u.oneCell' = true := fun u hu => by
 obtain ⟨x, _, rfl⟩ := List.mem_map.1 hu
 rfl
theorem NewsAt.below {W W' : World} {B : Nat} {a : Option Addr} {m : Nat} {news : List Value} (h : NewsAt W a m news) (hb : Below B W W') (ha : ∀ ad, a = some ad → ad.block < B) : NewsAt W' a m news := by
 rcases h with h | ⟨ad, rfl, h2⟩
 ·exact .inl h
 ·exact .inr ⟨ad, rfl, fun j u hu => by
   rw [hb.cell (by have := ha ad rfl; unfold Addr.add; split <;> exact this)]
   exact h2 j u hu⟩
end Go.Proofs.YtekiemlniegddaaGreat
namespace Go.Proofs.YtekiemlniegddaaGreat
open Go Go.RowKit Go.Shelf
/-- A picture in memory. -/
structure PicA where
 p : PicN
 a : Option Addr
 c : Nat
def picCells (x : PicA) : List Value := [.int .i64 x.p.w, .int .i64 x.p.h, .slice x.a x.p.px.length x.c]
def flatC : List PicA → List Value
 | [] => []
 | x :: l => picCells x ++ flatC l
theorem flatC_append : ∀ l k : List PicA, flatC (l ++ k) = flatC l ++ flatC k
 | [], k => rfl
 | x :: l, k => by show picCells x ++ flatC (l ++ k) = picCells x ++ flatC l ++ flatC k; rw [flatC_append l k, List.append_assoc]
theorem flatC_length : ∀ l : List PicA, (flatC l).length = l.length * 3
 | [] => rfl
 | x :: l => by show (picCells x ++ flatC l).length = _; rw [List.length_append, flatC_length l, List.length_cons]; show 3 + _ = _; omega
theorem flatC_one : ∀ (l : List PicA), ∀ u ∈ flatC l, u.oneCell' = true
 | [], u, h => by cases h
 | x :: l, u, h => by
  rcases List.mem_append.1 (show u ∈ picCells x ++ flatC l from h) with h | h
  ·simp only [picCells, List.mem_cons, List.not_mem_nil, or_false] at h
   rcases h with rfl | rfl | rfl <;> rfl
  ·exact flatC_one l u h
theorem flatC_at : ∀ (l : List PicA) (i : Nat) (x : PicA), l[i]? = some x → ∀ j, j < 3 → (flatC l)[i * 3 + j]? = (picCells x)[j]?
 | [], i, x, h, j, hj => by simp at h
 | y :: l, 0, x, h, j, hj => by
  simp only [List.getElem?_cons_zero, Option.some.injEq] at h
  subst h
  show (picCells y ++ flatC l)[0 * 3 + j]? = _
  rw [List.getElem?_append_left (by show 0 * 3 + j < 3; omega)]
  simp
 | y :: l, i + 1, x, h, j, hj => by
  simp only [List.getElem?_cons_succ] at h
  show (picCells y ++ flatC l)[(i + 1) * 3 + j]? = _
  rw [List.getElem?_append_right (by show 3 ≤ (i + 1) * 3 + j; omega)]
  rw [show (i + 1) * 3 + j - (picCells y).length = i * 3 + j by show (i + 1) * 3 + j - 3 = _; omega]
  exact flatC_at l i x h j hj
/-- The slice at 'a' reads as 'xs', outside of the block 'K'. -/
def RdX (K : Option Nat) (W : World) (a : Option Addr) (c : Nat) (xs : List Int) : Prop := Rd W.heap.size W a xs ∧ (a = none → c = 0) ∧ (xs = [] ∨ ∀ ad, a = some ad → K ≠ some ad.block)
/-- The call's own list of images. -/
def OwnPs (B : Nat) (W : World) (v : Value) (ms : List PicN) : Prop :=
 ∃ l : List PicA, l.map PicA.p = ms ∧ W.ownsRow B 32 3 v l.length (flatC l) ∧ ∀ x ∈ l, RdX v.ownBlock W x.a x.c x.p.px
theorem Rd.rowed {W W' : World} {K : Option Nat} {a : Option Addr} {xs : List Int} (h : Rd W.heap.size W a xs) (hx : xs = [] ∨ ∀ ad, a = some ad → K ≠ some ad.block) (hg : W.grownBy W' K) : Rd W'.heap.size W' a xs := by
 rcases h with h | ⟨b, o, h1, h2, h3⟩
 ·exact .inl h
 ·rcases hx with hx | hx
  ·exact .inl hx
  ·refine .inr ⟨b, o, h1, Nat.lt_of_lt_of_le h2 hg.size, fun i hi => ?_⟩
   rw [World.cell?_of_block (w := W) (hg.block b h2 (fun e => hx _ h1 e.symm))]
   exact h3 i hi
theorem OwnPs.slice {B : Nat} {W : World} {v : Value} {ms : List PicN} (h : OwnPs B W v ms) : ∃ a c, v = .slice a ms.length c ∧ RdPs W.heap.size W a ms := by
 obtain ⟨l, rfl, h2, h3⟩ := h
 obtain ⟨a, c, rfl⟩ := row_slice h2
 refine ⟨a, c, by rw [List.length_map], ?_⟩
 rcases Nat.eq_zero_or_pos l.length with h0 | h0
 ·left; rw [List.eq_nil_of_length_eq_zero h0]; rfl
 right
 rcases h2.2 with ⟨_, he⟩ | ⟨g, cap, cur, he, _⟩
 ·omega
 simp only [Value.slice.injEq] at he
 obtain ⟨rfl, _, rfl⟩ := he
 refine ⟨g, 0, rfl, (h2.lt g rfl).2, fun i hi => ?_⟩
 rw [List.length_map] at hi
 have hx := List.getElem?_eq_getElem hi
 obtain ⟨x, hxe⟩ : ∃ x, l[i] = x := ⟨_, rfl⟩
 rw [hxe] at hx
 have hm : x ∈ l := hxe ▸ List.getElem_mem hi
 have hp : picAt (l.map PicA.p) i = x.p := by unfold picAt; rw [List.getElem?_map, hx]; rfl
 rw [hp]
 have hc := fun j (hj : j < 3) => (h2.cellAt (i * 3 + j) (by omega)).trans (flatC_at l i x hx j hj)
 refine ⟨x.a, x.c, ?_, ?_, ?_, (h3 x hm).1, (h3 x hm).2.1⟩
 ·rw [show 0 + i * 3 = i * 3 + 0 by omega, hc 0 (by omega)]; rfl
 ·rw [show 0 + i * 3 + 1 = i * 3 + 1 by omega, hc 1 (by omega)]; rfl
 ·rw [show 0 + i * 3 + 2 = i * 3 + 2 by omega, hc 2 (by omega)]; rfl
/-- What can be read has its pictures in memory. -/
theorem RdPs.pics {B : Nat} {W : World} {a : Option Addr} {ms : List PicN} (h : RdPs B W a ms) :
  ∃ l : List PicA, l.map PicA.p = ms ∧ (ms = [] ∨ ∃ b o, a = some ⟨b, o, none⟩ ∧ b < B ∧ ∀ j u, (flatC l)[j]? = some u → W.cell? ⟨b, o + j, none⟩ = some u) ∧ ∀ x ∈ l, Rd B W x.a x.p.px ∧ (x.a = none → x.c = 0) := by
 rcases h with h | ⟨b, o, h1, h2, h3⟩
 ·subst h; exact ⟨[], rfl, .inl rfl, fun x hx => by cases hx⟩
 ·suffices hk : ∀ k, k ≤ ms.length → ∃ l : List PicA, l.map PicA.p = ms.take k ∧ (∀ j u, (flatC l)[j]? = some u → W.cell? ⟨b, o + j, none⟩ = some u) ∧ ∀ x ∈ l, Rd B W x.a x.p.px ∧ (x.a = none → x.c = 0) by
   obtain ⟨l, e1, e2, e3⟩ := hk ms.length (Nat.le_refl _)
   rw [List.take_length] at e1
   exact ⟨l, e1, .inr ⟨b, o, h1, h2, e2⟩, e3⟩
  intro k
  induction k with
  | zero => exact fun _ => ⟨[], rfl, fun j u hu => by simp [flatC] at hu, fun x hx => by cases hx⟩
  | succ k ih =>
   intro hk
   obtain ⟨l, e1, e2, e3⟩ := ih (by omega)
   obtain ⟨pa, pc, f1, f2, f3, f4, f5⟩ := h3 k (by omega)
   have hl : l.length = k := by have := congrArg List.length e1; rw [List.length_map, List.length_take] at this; omega
   refine ⟨l ++ [⟨picAt ms k, pa, pc⟩], ?_, fun j u hu => ?_, fun x hx => ?_⟩
   ·rw [List.map_append, e1, List.take_succ_eq_append_getElem (by omega : k < ms.length)]
    congr 1
    show [picAt ms k] = _
    unfold picAt; rw [List.getElem?_eq_getElem (by omega)]; rfl
   ·rw [flatC_append] at hu
    rcases Nat.lt_or_ge j (flatC l).length with hj | hj
    ·rw [List.getElem?_append_left hj] at hu; exact e2 j u hu
    ·rw [List.getElem?_append_right hj] at hu
     rw [flatC_length, hl] at hj hu
     obtain ⟨t, rfl⟩ : ∃ t, j = k * 3 + t := ⟨j - k * 3, by omega⟩
     rw [show k * 3 + t - k * 3 = t by omega] at hu
     show W.cell? ⟨b, o + (k * 3 + t), none⟩ = some u
     rw [← Nat.add_assoc]
     match t, hu with
     | 0, hu => simp [flatC, picCells] at hu; rw [← hu]; exact f1
     | 1, hu => simp [flatC, picCells] at hu; rw [← hu]; exact f2
     | 2, hu => simp [flatC, picCells] at hu; rw [← hu]; exact f3
     | t + 3, hu => simp [flatC, picCells] at hu
   ·rcases List.mem_append.1 hx with hx | hx
    ·exact e3 x hx
    ·rw [List.mem_singleton.1 hx]; exact ⟨f4, f5⟩
end Go.Proofs.YtekiemlniegddaaGreat

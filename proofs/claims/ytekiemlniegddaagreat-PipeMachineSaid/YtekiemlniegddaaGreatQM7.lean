/- Contracts and laws (McA). -/
import Derived.Lib.MinMax
import Derived.Test.YtekiemlniegddaaGreatQM6
set_option linter.unusedVariables false
set_option linter.unusedSimpArgs false
namespace Go.Proofs.YtekiemlniegddaaGreat
open Go Go.RowKit Go.Shelf
theorem info_i : (Tryz.prog.info? 3).map (fun i => (i.zero, i.size, i.bytes)) = some (some (.int .i64 0), 1, 8) := by kernel_rfl
/-- A part of a register is other values. -/
def partR (M : MacN) (d : Nat) (v : Nat → Int) (k : Nat) : MacN := ⟨fun r => if r = d then (fun j => if j < k then v j else M.regs d j) else M.regs r, M.mem⟩
theorem partR_zero {B : Nat} {W : World} {bm lanes R N : Nat} {M : MacN} {gr gm cr cm : Nat} {G C : Nat → Nat} (h : MacAt B W bm lanes R N M gr gm cr cm G C) (d : Nat) (v : Nat → Int) : MacAt B W bm lanes R N (partR M d v 0) gr gm cr cm G C := h.congr (fun r j _ _ => by
 unfold partR; simp only
 by_cases e : r = d
 ·rw [if_pos e, e]; simp
 ·rw [if_neg e]) (fun i _ => rfl)
theorem partR_succ {B : Nat} {W : World} {bm lanes R N : Nat} {M : MacN} {gr gm cr cm : Nat} {G C : Nat → Nat} {d k : Nat} {v : Nat → Int} {u : Int} (hu : v k = u) (h : MacAt B W bm lanes R N ⟨fun r => if r = d then (fun i => if i = k then u else (partR M d v k).regs d i) else (partR M d v k).regs r, M.mem⟩ gr gm cr cm G C) : MacAt B W bm lanes R N (partR M d v (k + 1)) gr gm cr cm G C := h.congr (fun r j _ _ => by
 unfold partR; simp only
 by_cases e : r = d
 ·rw [if_pos e, if_pos e]
  by_cases e1 : j = k
  ·subst e1; rw [if_pos rfl, if_pos (by omega), hu]
  ·simp only [if_neg e1, if_true]
   by_cases e2 : j < k
   ·rw [if_pos e2, if_pos (by omega)]
   ·rw [if_neg e2, if_neg (by omega)]
 ·rw [if_neg e, if_neg e, if_neg e]) (fun i _ => rfl)
theorem partR_all {B : Nat} {W : World} {bm lanes R N : Nat} {M : MacN} {gr gm cr cm : Nat} {G C : Nat → Nat} {d : Nat} {v : Nat → Int} (h : MacAt B W bm lanes R N (partR M d v lanes) gr gm cr cm G C) : MacAt B W bm lanes R N (setR M d v) gr gm cr cm G C := h.congr (fun r j _ hj => by
 unfold partR setR; simp only
 by_cases e : r = d
 ·rw [if_pos e, if_pos e, if_pos hj]
 ·rw [if_neg e, if_neg e]) (fun i _ => rfl)
theorem field_pix (a b : Int) (g n c : Nat) (w : World) : (Instr.field 32 (imv a b (some ⟨g, 0, none⟩) n c) 2).run Tryz.prog w = .ok (srow g n c) w := by first | kernel_rfl | rfl
set_option maxRecDepth 100000 in
set_option maxHeartbeats 4000000 in
theorem CloneN_any (xs : List Int) (b o c n : Nat) (hn : xs.length = n) (h1 : 1 ≤ n) (hm : n ≤ 100000) (w : World) (hr : Rd w.heap.size w (some ⟨b, o, none⟩) xs) :
  Calls Tryz.prog 80 #[.slice (some ⟨b, o, none⟩) n c] w fun e w' => ∃ g cap, e = .returned (srow g n cap) ∧ w'.ownsRow w.heap.size 3 1 (srow g n cap) n (xs.map (Value.int .i64)) ∧ Below w.heap.size w w' := by
 obtain ⟨i0, hi, hz0, hz1, hz2⟩ := info_parts info_i
 have qT : ∀ (w : World) (a : Option Addr) (n c n' c' : Nat), (binOp .eql 30 (.slice a n c) (.slice none n' c')).run Tryz.prog w = .ok (.bool a.isNone) w := fun w a n c n' c' => Lib.run_eql_slice_nil w _ _ a n c n' c' Tryz.underlying30
 have qT1 := qT w (some ⟨b, o, none⟩) n c 0 0
 clear qT
 simp only [Option.isNone_some] at qT1
 have own1 := World.ownsRow_made (e := 3) (size := 1) (base := w.heap.size) w #[] 0 (Nat.le_refl _) (by decide) rfl
 have hB1 : Below w.heap.size w (w.alloc (.cells #[] 3)) := jb_al (Below.refl _ w) _
 have hnews : NewsAt (w.alloc (.cells #[] 3)) (some ⟨b, o, none⟩) n (xs.map (Value.int .i64)) := (hr.news hn).below (B := w.heap.size) hB1 (fun ad e => by
  rcases hr with h | ⟨b', o', h2, h3, _⟩
  ·rw [h] at hn; simp at hn; omega
  ·simp only [Option.some.injEq] at e h2; rw [← e, h2]; exact h3)
 have hnewsH := Lib.hid hnews
 have own1H := Lib.hid own1
 have hlenH := Lib.hid (show (xs.map (Value.int .i64)).length = n * 1 by rw [List.length_map, hn]; omega)
 have honeH := Lib.hid (vint_one xs)
 clear hnews own1 hr hn
 go_enter Tryz.func80, Tryz.ntmps80
 go_wp2_with (at_builtin; refine wpList_append_anyS rfl _ _ 30 rfl w.heap.size 3 i0 (.int .i64 0) 1 8 Tryz.underlying30 hi hz0 hz1 hz2 rfl (by decide) (.slice (some ⟨w.heap.size, 0, none⟩) 0 0) 0 [] rfl own1H.out (some ⟨b, o, none⟩) n c (xs.map (Value.int .i64)) rfl hlenH.out hnewsH.out honeH.out (by unfold maxLen; omega) (by omega) hB1.size ?_; intro v2 W2 own2 hg2 _)
 rw [Nat.zero_add, List.nil_append] at own2
 have hB2 := hB1.grown hg2 hB1.size (fun k e => (own1H.out.lt k e).1)
 obtain ⟨a2, c2, rfl⟩ := jrow_slice own2
 obtain ⟨g, rfl⟩ := row_someP own2 (by omega)
 go_ret
 exact ⟨g, c2, rfl, own2, hB2⟩
theorem pix_is (v : Int) : max (-2147483648) (min v 2147483648) = pix v := rfl
theorem intL_step (n : Nat) {f v : Nat → Int} {k : Nat} {z : Int} (hz : v k = z) : intL n (fun i => if i = k then z else if i < k then v i else f i) = intL n (fun i => if i < k + 1 then v i else f i) := intL_congr fun j _ => by
 by_cases e : j = k
 ·subst e; rw [if_pos rfl, if_pos (by omega), hz]
 ·rw [if_neg e]
  by_cases e2 : j < k
  ·rw [if_pos e2, if_pos (by omega)]
  ·rw [if_neg e2, if_neg (by omega)]
set_option maxRecDepth 100000 in
set_option maxHeartbeats 4000000 in
theorem mpix_any (B bm lanes R N : Nat) (M : MacN) (gr gm cr cm : Nat) (G C : Nat → Nat) (w : World) (hM : MacAt B w bm lanes R N M gr gm cr cm G C) (hl : 1 ≤ lanes ∧ lanes ≤ 16) (hRN : R ≤ 16 ∧ N ≤ 8192) (r : Nat) (hr : r < R) :
  Calls Tryz.prog 151 #[.pointer (some ⟨bm, 0, none⟩), .int .i64 (r : Int)] w fun e w' => ∃ g c, e = .returned (imv lanes 1 (some ⟨g, 0, none⟩) lanes c) ∧ w'.ownsRow w.heap.size 3 1 (srow g lanes c) lanes (intL lanes fun j => pix (M.regs r j)) ∧ Below w.heap.size w w' := by
 have hB : Below w.heap.size w w := Below.refl _ _
 obtain ⟨hl1, hl2⟩ := hl
 obtain ⟨hR1, hN1⟩ := hRN
 have hM0 := hM
 obtain ⟨V1, hEV1, hbV1, k4⟩ := newB w 32 #[.int .i64 0, .int .i64 0, .slice none 0 0]
 replace hM := hM.later hbV1
 replace hB := tmB hB hbV1
 clear hbV1
 have z0 := k4.cell (i := 0) rfl
 have fz0 := k4.frozen 0
 have z1 := k4.cell (i := 1) rfl
 have fz1 := k4.frozen 1
 have z2 := k4.cell (i := 2) rfl
 have fz2 := k4.frozen 2
 have hle4 := hB.size
 obtain ⟨e0, e1, e2, er, eg, em⟩ := hM.cells
 have erd := er r hr
 clear er eg em
 have hrd : Rd V1.heap.size V1 (some ⟨G r, 0, none⟩) ((List.range lanes).map (M.regs r)) := by
  have := row_rd' (show ((List.range lanes).map (M.regs r)).length = lanes by simp) (by rw [intL_map]; exact hM.rg r hr)
  exact this
 go_enter Tryz.func151, Tryz.ntmps151
 go_wp2_with fail
 clear hEV1
 clear z0 z1 z2 fz0 fz1 fz2
 clear e0 e1 e2 erd
 refine (CloneN_any ((List.range lanes).map (M.regs r)) (G r) 0 (C r) lanes (by simp) hl1 (by omega) V1 hrd).mono ?_
 rintro e V2 ⟨g, cap, rfl, hrow, hb⟩
 rw [intL_map] at hrow
 replace hrow := jrow_weaken hrow hle4
 have k4b := k4.below hb k4.lt
 replace hB := tmB hB hb
 clear hb hM k4 hrd
 go_wp2_with fail
 go_loopw [6, 17] (fun q i wr => ∃ k : Nat, k ≤ lanes ∧ i = .int .i64 (k : Int) ∧ wr.ownsRow w.heap.size 3 1 (srow g lanes cap) lanes (intL lanes (fun j => if j < k then pix (M.regs r j) else M.regs r j)) ∧ Below w.heap.size w wr ∧ Blk wr (w.heap.size) 32 #[.int .i64 0, .int .i64 0, .slice none 0 0]) (fun _ i _ => lanes - (intOf i).toNat)
 case atStart => exact ⟨0, Nat.zero_le _, rfl, hrow, hB, k4b⟩
 case round =>
  clear hrow hB k4b
  obtain ⟨k, hk, rfl, hrow, hB, k4⟩ := hrel
  by_cases hlt : k < lanes
  case pos =>
   have hc := (hrow.cellAt k (by omega)).trans (intL_at hlt)
   simp only [Nat.lt_irrefl, if_false] at hc
   obtain ⟨x, hx⟩ : ∃ x, M.regs r k = x := ⟨_, rfl⟩
   rw [hx] at hc
   have hfz := hrow.frozenAt k
   obtain ⟨y, hy⟩ : ∃ y, min x 2147483648 = y := ⟨_, rfl⟩
   obtain ⟨z, hz⟩ : ∃ z, max (-2147483648) y = z := ⟨_, rfl⟩
   have hpz : (fun j => pix (M.regs r j)) k = z := by simp only [hx]; rw [← hz, ← hy]; exact (pix_is x).symm
   have hst := hrow.stored k (.int .i64 z)
   have h1 := hst.1
   rw [intL_set, intL_step lanes hpz] at h1
   have hB2 := hB.trans (below_of_row (n := w.heap.size) hrow hst.2 (Nat.le_refl _) hB.size)
   have k42 := k4.kept hst.2 (k4.not_row (by decide) hrow)
   have h1H := Lib.hid h1
   clear h1 hst hpz hx hrow hB k4
   go_wp2_with fail
   go_roundw
   case rel => exact ⟨k + 1, by omega, by go_num, h1H.out, hB2, k42⟩
   case measure => simp [intOf]; omega
  case neg =>
   have hkn : k = lanes := by omega
   subst hkn
   have e0 := (hM0.later hB).cells.1
   obtain ⟨z0, z1, z2⟩ := cz3 k4
   have fz0 := k4.frozen 0
   have fz1 := k4.frozen 1
   have fz2 := k4.frozen 2
   have hrow2 : wr.ownsRow w.heap.size 3 1 (srow g k cap) k (intL k (fun j => pix (M.regs r j))) := by rw [← intL_congr (f := fun j => if j < k then pix (M.regs r j) else M.regs r j) (fun j hj => if_pos hj)]; exact hrow
   have kf := put3_blk k4 (.int .i64 (k : Int)) (.int .i64 1) (srow g k cap)
   have rowf := row_put3b hrow2 (k4.not_row (by decide) hrow2) (.int .i64 (k : Int)) (.int .i64 1) (srow g k cap)
   have hbf : Below w.heap.size w (put3 wr (w.heap.size) (.int .i64 (k : Int)) (.int .i64 1) (srow g k cap)) := hB.trans (put3_below (Nat.le_refl _) _ _ _)
   obtain ⟨g0, g1, g2⟩ := cz3 kf
   clear hrow hrow2 k4 hB hM0
   go_wp2_with fail
   exact bodyPost_ret (v := imv (k : Int) 1 (some ⟨g, 0, none⟩) k cap) (by simp [results, Tryz.results151, go_sem, g0, g1, g2]) rfl ⟨g, cap, rfl, rowf, hbf⟩
set_option maxRecDepth 100000 in
set_option maxHeartbeats 4000000 in
theorem mset_any (B bm lanes R N : Nat) (M : MacN) (gr gm cr cm : Nat) (G C : Nat → Nat) (w : World) (hM : MacAt B w bm lanes R N M gr gm cr cm G C) (hl : 1 ≤ lanes ∧ lanes ≤ 16) (hRN : R ≤ 16 ∧ N ≤ 8192) (x : InsN) (ia : Option Addr) (ic : Nat) (d : Nat) (hd : x.d = (d : Int)) (hdR : d < R) (hBw : B ≤ w.heap.size) :
  Calls Tryz.prog 120 #[.pointer (some ⟨bm, 0, none⟩), insv x ia ic] w fun e w' => (∃ v, e = .returned v) ∧ MacAt B w' bm lanes R N (setR M d fun _ => x.val) gr gm cr cm G C ∧ Below B w w' := by
 have hB : Below w.heap.size w w := Below.refl _ _
 obtain ⟨hl1, hl2⟩ := hl
 obtain ⟨hR1, hN1⟩ := hRN
 have hBB : Below B w w := Below.refl _ _
 unfold insv
 rw [hd]
 obtain ⟨V1, hEV1, hbV1, kx⟩ := newB w 143 #[.int .u8 x.op, .int .i64 (d : Int), .int .i64 x.a, .int .i64 x.b, .int .i64 x.val, .int .i64 x.pt.mul, .int .i64 x.pt.add, .int .i64 x.pt.div, .int .i64 x.pt.lo, .int .i64 x.pt.hi, .int .u8 x.how, .slice ia x.ad.length ic]
 replace hM := hM.later hbV1
 replace hBB := hBB.trans (hbV1.mono (Nat.le_trans hBw hBB.size))
 replace hB := tmB hB hbV1
 clear hbV1
 obtain ⟨x0, x1, x2, x3, x4, x5, x6, x7, x8, x9, x10, x11⟩ := cz12 kx
 obtain ⟨hc1, hc2, hc3⟩ := hM.caps
 have hcd := hc3 d hdR
 have lx := kx.lt
 go_enter Tryz.func120, Tryz.ntmps120
 have hS : Below V1.heap.size V1 V1.drew := (Below.refl _ _).drew
 go_wp2_with fail
 refine plain_region (fun W' => Below V1.heap.size V1 W') 10 10 (by kernel_rfl) rfl ?_
 simp only [Array.replicate_succ, Array.replicate_zero, List.push_toArray, List.nil_append, List.cons_append]
 obtain ⟨X0, hXX0⟩ : ∃ X : World, V1.drew = X := ⟨_, rfl⟩
 rw [hXX0] at hS ⊢
 clear hXX0
 refine tkz 0 rfl hS (fun w' hS' => by go_simp; rfl) ?_
 simp only [nrz]
 refine tkz 1 rfl hS (fun w' hS' => by go_simp; rfl) ?_
 simp only [nrz]
 refine tkz 2 rfl hS (fun w' hS' => by go_simp; rfl) ?_
 simp only [nrz]
 refine tkz 3 (v := ?s1v3) rfl hS (fun w' hS' => ?s1y3) ?s1z3
 case s1y3 =>
  obtain ⟨e0, e1, e2, er, eg, em⟩ := (hM.later hS').cells
  have erd := er d hdR
  have y1 := (kx.below hS' lx).cell (i := 1) rfl
  have y4 := (kx.below hS' lx).cell (i := 4) rfl
  clear hS' er eg em
  go_simp
  rfl
 simp only [nrz]
 refine tkz 4 rfl hS (fun w' hS' => by go_simp; rfl) ?_
 simp only [nrz]
 refine tkz 5 (v := ?s1v5) rfl hS (fun w' hS' => ?s1y5) ?s1z5
 case s1y5 =>
  obtain ⟨e0, e1, e2, er, eg, em⟩ := (hM.later hS').cells
  have erd := er d hdR
  have y1 := (kx.below hS' lx).cell (i := 1) rfl
  have y4 := (kx.below hS' lx).cell (i := 4) rfl
  clear hS' er eg em
  go_simp
  rfl
 simp only [nrz]
 refine tkz 6 (v := ?s1v6) rfl hS (fun w' hS' => ?s1y6) ?s1z6
 case s1y6 =>
  go_simp
  try go_ints
  first
  | rfl
  | (rw [if_pos (by omega)]; done)
  | rw [if_pos ⟨by omega, by omega⟩]
 simp only [nrz]
 refine tkz 7 (v := ?s1v7) rfl hS (fun w' hS' => ?s1y7) ?s1z7
 case s1y7 =>
  obtain ⟨e0, e1, e2, er, eg, em⟩ := (hM.later hS').cells
  have erd := er d hdR
  have y1 := (kx.below hS' lx).cell (i := 1) rfl
  have y4 := (kx.below hS' lx).cell (i := 4) rfl
  clear hS' er eg em
  go_simp
  rfl
 simp only [nrz]
 refine tkz 8 rfl hS (fun w' hS' => by go_simp; rfl) ?_
 simp only [nrz]
 refine tkz 9 rfl hS (fun w' hS' => by go_simp; rfl) ?_
 simp only [nrz]
 refine done_ops (by kernel_rfl) ?_
 clear hEV1
 clear x0 x1 x2 x3 x4 x5 x6 x7 x8 x9 x10 x11
 replace kx := kx.below hS kx.lt
 replace hM := hM.later hS
 replace hBB := hBB.trans (hS.mono (Nat.le_trans hBw hBB.size))
 replace hB := tmB hB hS
 clear hS lx hB
 go_wp2_with fail
 have hMz := partR_zero hM d (fun _ => x.val)
 clear hM
 go_loopw [4, 14] (fun q i wr => ∃ k : Nat, k ≤ lanes ∧ i = .int .i64 (k : Int) ∧ MacAt B wr bm lanes R N (partR M d (fun _ => x.val) k) gr gm cr cm G C ∧ Blk wr w.heap.size 143 #[.int .u8 x.op, .int .i64 (d : Int), .int .i64 x.a, .int .i64 x.b, .int .i64 x.val, .int .i64 x.pt.mul, .int .i64 x.pt.add, .int .i64 x.pt.div, .int .i64 x.pt.lo, .int .i64 x.pt.hi, .int .u8 x.how, .slice ia x.ad.length ic] ∧ Below B w wr) (fun _ i _ => lanes - (intOf i).toNat)
 case atStart => exact ⟨0, Nat.zero_le _, rfl, hMz, kx, hBB⟩
 case round =>
  clear hMz kx hBB
  obtain ⟨k, hk, rfl, hM, kx, hBB⟩ := hrel
  by_cases hlt : k < lanes
  case neg =>
   have hkn : k = lanes := by omega
   subst hkn
   have hMf := partR_all hM
   go_wp2_with fail
   go_end0
   exact ⟨⟨_, rfl⟩, hMf, hBB⟩
  case pos =>
   have lx := kx.lt
   have hS : Below wr.heap.size wr wr.drew := (Below.refl _ _).drew
   go_wp2_with fail
   refine plain_region (fun W' => Below wr.heap.size wr W') 12 13 (by kernel_rfl) rfl ?_
   simp only [Array.replicate_succ, Array.replicate_zero, List.push_toArray, List.nil_append, List.cons_append]
   obtain ⟨X0, hXX0⟩ : ∃ X : World, wr.drew = X := ⟨_, rfl⟩
   rw [hXX0] at hS ⊢
   clear hXX0
   refine tkz 0 rfl hS (fun w' hS' => by go_simp; rfl) ?_
   simp only [nrz]
   refine tkz 1 rfl hS (fun w' hS' => by go_simp; rfl) ?_
   simp only [nrz]
   refine tkz 2 rfl hS (fun w' hS' => by go_simp; rfl) ?_
   simp only [nrz]
   refine tkz 3 (v := ?s4v3) rfl hS (fun w' hS' => ?s4y3) ?s4z3
   case s4y3 =>
    obtain ⟨e0, e1, e2, er, eg, em⟩ := (hM.later hS').cells
    have erd := er d hdR
    have y1 := (kx.below hS' lx).cell (i := 1) rfl
    have y4 := (kx.below hS' lx).cell (i := 4) rfl
    clear hS' er eg em
    go_simp
    rfl
   simp only [nrz]
   refine tkz 4 rfl hS (fun w' hS' => by go_simp; rfl) ?_
   simp only [nrz]
   refine tkz 5 (v := ?s4v5) rfl hS (fun w' hS' => ?s4y5) ?s4z5
   case s4y5 =>
    obtain ⟨e0, e1, e2, er, eg, em⟩ := (hM.later hS').cells
    have erd := er d hdR
    have y1 := (kx.below hS' lx).cell (i := 1) rfl
    have y4 := (kx.below hS' lx).cell (i := 4) rfl
    clear hS' er eg em
    go_simp
    rfl
   simp only [nrz]
   refine tkz 6 (v := ?s4v6) rfl hS (fun w' hS' => ?s4y6) ?s4z6
   case s4y6 =>
    go_simp
    try go_ints
    first
    | rfl
    | (rw [if_pos (by omega)]; done)
    | rw [if_pos ⟨by omega, by omega⟩]
   simp only [nrz]
   refine tkz 7 (v := ?s4v7) rfl hS (fun w' hS' => ?s4y7) ?s4z7
   case s4y7 =>
    obtain ⟨e0, e1, e2, er, eg, em⟩ := (hM.later hS').cells
    have erd := er d hdR
    have y1 := (kx.below hS' lx).cell (i := 1) rfl
    have y4 := (kx.below hS' lx).cell (i := 4) rfl
    clear hS' er eg em
    go_simp
    rfl
   simp only [nrz]
   refine tkz 8 rfl hS (fun w' hS' => by go_simp; rfl) ?_
   simp only [nrz]
   refine tkz 9 rfl hS (fun w' hS' => by go_simp; rfl) ?_
   simp only [nrz]
   refine tkz 10 (v := ?s4v10) rfl hS (fun w' hS' => ?s4y10) ?s4z10
   case s4y10 =>
    obtain ⟨e0, e1, e2, er, eg, em⟩ := (hM.later hS').cells
    have erd := er d hdR
    have y1 := (kx.below hS' lx).cell (i := 1) rfl
    have y4 := (kx.below hS' lx).cell (i := 4) rfl
    clear hS' er eg em
    go_simp
    rfl
   simp only [nrz]
   refine tkz 11 (v := ?s4v11) rfl hS (fun w' hS' => ?s4y11) ?s4z11
   case s4y11 =>
    go_simp
    try go_ints
    first
    | rfl
    | (rw [if_pos (by omega)]; done)
    | rw [if_pos ⟨by omega, by omega⟩]
   simp only [nrz]
   refine step_op 12 (by kernel_rfl) rfl (fun K hK => ?_)
   obtain ⟨e0, e1, e2, er, eg, em⟩ := (hM.later hS).cells
   have egd := eg d k hdR hlt
   have fzd := (hM.later hS).frozen.1 d k hdR
   clear er eg em e0 e1 e2
   rw [if_pos (by rfl)]
   go_simp
   refine hK.out _ _ (fun h => absurd h (by omega)) ?_
   clear hK K
   try simp only [Act.put, nrz]
   refine done_ops (by kernel_rfl) ?_
   have hset := (hM.later hS).setReg (j := k) hdR x.val (by have := hBB.size; have := hS.size; omega)
   obtain ⟨hMs, hbs⟩ := hset
   have kx2 := (kx.below hS lx).kept (row := some (G d)) (hM.later hS |>.rg d hdR |>.stored k (.int .i64 x.val)).2 ((kx.below hS lx).not_row (by decide) ((hM.later hS).rg d hdR))
   have hBB2 := hBB.trans ((hS.mono (by have := hBB.size; omega)).trans hbs)
   have hM2 := partR_succ (k := k) (v := fun _ => x.val) (M := M) rfl hMs
   clear hM kx hBB hS hMs hbs
   obtain ⟨X2, hX2⟩ : ∃ X, X0.setCell ⟨G d, k, none⟩ (.int .i64 x.val) = X := ⟨_, rfl⟩
   rw [hX2] at hM2 kx2 hBB2
   try rw [hX2]
   clear hX2
   go_wp2_with fail
   go_roundw
   case rel => exact ⟨k + 1, by omega, by go_num, hM2, kx2, hBB2⟩
   case measure => simp [intOf]; omega
set_option maxRecDepth 100000 in
set_option maxHeartbeats 4000000 in
theorem mload_any (B bm lanes R N : Nat) (M : MacN) (gr gm cr cm : Nat) (G C : Nat → Nat) (w : World) (hM : MacAt B w bm lanes R N M gr gm cr cm G C) (hl : 1 ≤ lanes ∧ lanes ≤ 16) (hRN : R ≤ 16 ∧ N ≤ 8192) (x : InsN) (ia : Option Addr) (ic : Nat) (d : Nat) (hd : x.d = (d : Int)) (hdR : d < R) (hal : x.ad.length = lanes) (hra : Rd B w ia x.ad) (hin : ∀ k, k < lanes → -1 ≤ adOf x k ∧ adOf x k < N) (hBw : B ≤ w.heap.size) :
  Calls Tryz.prog 118 #[.pointer (some ⟨bm, 0, none⟩), insv x ia ic] w fun e w' => (∃ v, e = .returned v) ∧ MacAt B w' bm lanes R N (setR M d (fun j => if 0 ≤ adOf x j then M.mem (adOf x j).toNat else x.val)) gr gm cr cm G C ∧ Below B w w' := by
 have hB : Below w.heap.size w w := Below.refl _ _
 obtain ⟨hl1, hl2⟩ := hl
 obtain ⟨hR1, hN1⟩ := hRN
 have hBB : Below B w w := Below.refl _ _
 unfold insv
 rw [hd, hal]
 obtain ⟨V1, hEV1, hbV1, kx⟩ := newB w 143 #[.int .u8 x.op, .int .i64 (d : Int), .int .i64 x.a, .int .i64 x.b, .int .i64 x.val, .int .i64 x.pt.mul, .int .i64 x.pt.add, .int .i64 x.pt.div, .int .i64 x.pt.lo, .int .i64 x.pt.hi, .int .u8 x.how, .slice ia lanes ic]
 replace hM := hM.later hbV1
 replace hBB := hBB.trans (hbV1.mono (Nat.le_trans hBw hBB.size))
 replace hB := tmB hB hbV1
 clear hbV1
 obtain ⟨x0, x1, x2, x3, x4, x5, x6, x7, x8, x9, x10, x11⟩ := cz12 kx
 obtain ⟨hc1, hc2, hc3⟩ := hM.caps
 have hcd := hc3 d hdR
 have hinH := Lib.hid hin
 clear hin
 obtain ⟨b, o, rfl, hbl, hra2⟩ : ∃ b o, ia = some ⟨b, o, none⟩ ∧ b < B ∧ ∀ i, i < lanes → w.cell? ⟨b, o + i, none⟩ = some (.int .i64 (x.ad[i]?.getD 0)) := by
  rcases hra with h | ⟨b, o, h1, h2, h3⟩
  ·rw [h] at hal; simp at hal; omega
  ·exact ⟨b, o, h1, h2, fun i hi => h3 i (by omega)⟩
 have hraH := Lib.hid hra2
 clear hra hra2 hal
 go_enter Tryz.func118, Tryz.ntmps118
 go_wp2_with fail
 clear hEV1
 clear x0 x1 x2 x3 x4 x5 x6 x7 x8 x9 x10 x11
 clear hB
 have hMz := partR_zero hM d (fun j => if 0 ≤ adOf x j then M.mem (adOf x j).toNat else x.val)
 clear hM
 go_loopw [4, 5, 9] (fun q u i wr => ∃ k : Nat, k ≤ lanes ∧ i = .int .i64 (k : Int) ∧ MacAt B wr bm lanes R N (partR M d (fun j => if 0 ≤ adOf x j then M.mem (adOf x j).toNat else x.val) k) gr gm cr cm G C ∧ Blk wr w.heap.size 143 #[.int .u8 x.op, .int .i64 (d : Int), .int .i64 x.a, .int .i64 x.b, .int .i64 x.val, .int .i64 x.pt.mul, .int .i64 x.pt.add, .int .i64 x.pt.div, .int .i64 x.pt.lo, .int .i64 x.pt.hi, .int .u8 x.how, .slice (some ⟨b, o, none⟩) lanes ic] ∧ Below B w wr) (fun _ _ i _ => lanes - (intOf i).toNat)
 case atStart => exact ⟨0, Nat.zero_le _, rfl, hMz, kx, hBB⟩
 case round =>
  clear hMz kx hBB
  obtain ⟨k, hk, rfl, hM, kx, hBB⟩ := hrel
  by_cases hlt : k < lanes
  case neg =>
   have hkn : k = lanes := by omega
   subst hkn
   have hMf := partR_all hM
   go_wp2_with fail
   go_end0
   exact ⟨⟨_, rfl⟩, hMf, hBB⟩
  case pos =>
   have hcq := (hBB.cell (p := ⟨b, o + k, none⟩) hbl).trans (hraH.out k hlt)
   have hinq := hinH.out k hlt
   have hadq : adOf x k = x.ad[k]?.getD 0 := rfl
   obtain ⟨q, hq⟩ : ∃ q, x.ad[k]?.getD 0 = q := ⟨_, rfl⟩
   rw [hq] at hcq hadq
   rw [hadq] at hinq
   have hadqH := Lib.hid hadq
   clear hq hadq
   have lx := kx.lt
   have hS : Below wr.heap.size wr wr.drew := (Below.refl _ _).drew
   go_wp2_with fail
   refine plain_region (fun W' => Below wr.heap.size wr W') 12 13 (by kernel_rfl) rfl ?_
   simp only [Array.replicate_succ, Array.replicate_zero, List.push_toArray, List.nil_append, List.cons_append]
   obtain ⟨X0, hXX0⟩ : ∃ X : World, wr.drew = X := ⟨_, rfl⟩
   rw [hXX0] at hS ⊢
   clear hXX0
   refine tkz 0 rfl hS (fun w' hS' => by go_simp; rfl) ?_
   simp only [nrz]
   refine tkz 1 rfl hS (fun w' hS' => by go_simp; rfl) ?_
   simp only [nrz]
   refine tkz 2 rfl hS (fun w' hS' => by go_simp; rfl) ?_
   simp only [nrz]
   refine tkz 3 (v := ?l4v3) rfl hS (fun w' hS' => ?l4y3) ?l4z3
   case l4y3 =>
    obtain ⟨e0, e1, e2, er, eg, em⟩ := (hM.later hS').cells
    have erd := er d hdR
    have y1 := (kx.below hS' lx).cell (i := 1) rfl
    have y4 := (kx.below hS' lx).cell (i := 4) rfl
    clear hS' er eg em
    go_simp
    rfl
   simp only [nrz]
   refine tkz 4 rfl hS (fun w' hS' => by go_simp; rfl) ?_
   simp only [nrz]
   refine tkz 5 (v := ?l4v5) rfl hS (fun w' hS' => ?l4y5) ?l4z5
   case l4y5 =>
    obtain ⟨e0, e1, e2, er, eg, em⟩ := (hM.later hS').cells
    have erd := er d hdR
    have y1 := (kx.below hS' lx).cell (i := 1) rfl
    have y4 := (kx.below hS' lx).cell (i := 4) rfl
    clear hS' er eg em
    go_simp
    rfl
   simp only [nrz]
   refine tkz 6 (v := ?l4v6) rfl hS (fun w' hS' => ?l4y6) ?l4z6
   case l4y6 =>
    go_simp
    try go_ints
    first
    | rfl
    | (rw [if_pos (by omega)]; done)
    | rw [if_pos ⟨by omega, by omega⟩]
   simp only [nrz]
   refine tkz 7 (v := ?l4v7) rfl hS (fun w' hS' => ?l4y7) ?l4z7
   case l4y7 =>
    obtain ⟨e0, e1, e2, er, eg, em⟩ := (hM.later hS').cells
    have erd := er d hdR
    have y1 := (kx.below hS' lx).cell (i := 1) rfl
    have y4 := (kx.below hS' lx).cell (i := 4) rfl
    clear hS' er eg em
    go_simp
    rfl
   simp only [nrz]
   refine tkz 8 rfl hS (fun w' hS' => by go_simp; rfl) ?_
   simp only [nrz]
   refine tkz 9 rfl hS (fun w' hS' => by go_simp; rfl) ?_
   simp only [nrz]
   refine tkz 10 (v := ?l4v10) rfl hS (fun w' hS' => ?l4y10) ?l4z10
   case l4y10 =>
    obtain ⟨e0, e1, e2, er, eg, em⟩ := (hM.later hS').cells
    have erd := er d hdR
    have y1 := (kx.below hS' lx).cell (i := 1) rfl
    have y4 := (kx.below hS' lx).cell (i := 4) rfl
    clear hS' er eg em
    go_simp
    rfl
   simp only [nrz]
   refine tkz 11 (v := ?l4v11) rfl hS (fun w' hS' => ?l4y11) ?l4z11
   case l4y11 =>
    go_simp
    try go_ints
    first
    | rfl
    | (rw [if_pos (by omega)]; done)
    | rw [if_pos ⟨by omega, by omega⟩]
   simp only [nrz]
   refine step_op 12 (by kernel_rfl) rfl (fun K hK => ?_)
   obtain ⟨e0, e1, e2, er, eg, em⟩ := (hM.later hS).cells
   have egd := eg d k hdR hlt
   have fzd := (hM.later hS).frozen.1 d k hdR
   clear er eg em e0 e1 e2
   rw [if_pos (by rfl)]
   go_simp
   refine hK.out _ _ (fun h => absurd h (by omega)) ?_
   clear hK K
   try simp only [Act.put, nrz]
   refine done_ops (by kernel_rfl) ?_
   have hset := (hM.later hS).setReg (j := k) hdR x.val (by have := hBB.size; have := hS.size; omega)
   obtain ⟨hMs, hbs⟩ := hset
   have kx2 := (kx.below hS lx).kept (row := some (G d)) (hM.later hS |>.rg d hdR |>.stored k (.int .i64 x.val)).2 ((kx.below hS lx).not_row (by decide) ((hM.later hS).rg d hdR))
   have hBB2 := hBB.trans ((hS.mono (by have := hBB.size; omega)).trans hbs)
   clear hM kx hBB hS hbs
   obtain ⟨X2, hX2⟩ : ∃ X, X0.setCell ⟨G d, k, none⟩ (.int .i64 x.val) = X := ⟨_, rfl⟩
   rw [hX2] at hMs kx2 hBB2
   try rw [hX2]
   clear hX2
   by_cases hq0 : 0 ≤ q
   case neg =>
    have hqd : decide (0 ≤ q) = false := by simp; omega
    have hM2 := partR_succ (k := k) (v := fun j => if 0 ≤ adOf x j then M.mem (adOf x j).toNat else x.val) (M := M) (by simp only [hadqH.out, if_neg hq0]) hMs
    clear hMs
    go_wp2_with fail
    go_roundw
    case rel => exact ⟨k + 1, by omega, by go_num, hM2, kx2, hBB2⟩
    case measure => simp [intOf]; omega
   case pos =>
    have hqd : decide (0 ≤ q) = true := by simp; omega
    obtain ⟨Q, rfl⟩ : ∃ Q : Nat, q = (Q : Int) := ⟨q.toNat, by omega⟩
    have hQN : Q < N := by omega
    have lx := kx2.lt
    have hS : Below X2.heap.size X2 X2.drew := (Below.refl _ _).drew
    go_wp2_with fail
    refine plain_region (fun W' => Below X2.heap.size X2 W') 17 18 (by kernel_rfl) rfl ?_
    simp only [Array.replicate_succ, Array.replicate_zero, List.push_toArray, List.nil_append, List.cons_append]
    obtain ⟨X3, hXX3⟩ : ∃ X : World, X2.drew = X := ⟨_, rfl⟩
    rw [hXX3] at hS ⊢
    clear hXX3
    refine tkz 0 rfl hS (fun w' hS' => by go_simp; rfl) ?_
    simp only [nrz]
    refine tkz 1 rfl hS (fun w' hS' => by go_simp; rfl) ?_
    simp only [nrz]
    refine tkz 2 rfl hS (fun w' hS' => by go_simp; rfl) ?_
    simp only [nrz]
    refine tkz 3 (v := ?l6v3) rfl hS (fun w' hS' => ?l6y3) ?l6z3
    case l6y3 =>
     obtain ⟨e0, e1, e2, er, eg, em⟩ := (hMs.later hS').cells
     have erd := er d hdR
     have emq : w'.cell? ⟨gm, Q, none⟩ = some (.int .i64 (M.mem Q)) := em Q hQN
     have y1 := (kx2.below hS' lx).cell (i := 1) rfl
     have y4 := (kx2.below hS' lx).cell (i := 4) rfl
     clear hS' er eg em
     go_simp
     rfl
    simp only [nrz]
    refine tkz 4 rfl hS (fun w' hS' => by go_simp; rfl) ?_
    simp only [nrz]
    refine tkz 5 (v := ?l6v5) rfl hS (fun w' hS' => ?l6y5) ?l6z5
    case l6y5 =>
     obtain ⟨e0, e1, e2, er, eg, em⟩ := (hMs.later hS').cells
     have erd := er d hdR
     have emq : w'.cell? ⟨gm, Q, none⟩ = some (.int .i64 (M.mem Q)) := em Q hQN
     have y1 := (kx2.below hS' lx).cell (i := 1) rfl
     have y4 := (kx2.below hS' lx).cell (i := 4) rfl
     clear hS' er eg em
     go_simp
     rfl
    simp only [nrz]
    refine tkz 6 (v := ?l6v6) rfl hS (fun w' hS' => ?l6y6) ?l6z6
    case l6y6 =>
     go_simp
     try go_ints
     first
     | rfl
     | (rw [if_pos (by omega)]; done)
     | rw [if_pos ⟨by omega, by omega⟩]
    simp only [nrz]
    refine tkz 7 (v := ?l6v7) rfl hS (fun w' hS' => ?l6y7) ?l6z7
    case l6y7 =>
     obtain ⟨e0, e1, e2, er, eg, em⟩ := (hMs.later hS').cells
     have erd := er d hdR
     have emq : w'.cell? ⟨gm, Q, none⟩ = some (.int .i64 (M.mem Q)) := em Q hQN
     have y1 := (kx2.below hS' lx).cell (i := 1) rfl
     have y4 := (kx2.below hS' lx).cell (i := 4) rfl
     clear hS' er eg em
     go_simp
     rfl
    simp only [nrz]
    refine tkz 8 rfl hS (fun w' hS' => by go_simp; rfl) ?_
    simp only [nrz]
    refine tkz 9 rfl hS (fun w' hS' => by go_simp; rfl) ?_
    simp only [nrz]
    refine tkz 10 rfl hS (fun w' hS' => by go_simp; rfl) ?_
    simp only [nrz]
    refine tkz 11 rfl hS (fun w' hS' => by go_simp; rfl) ?_
    simp only [nrz]
    refine tkz 12 (v := ?l6v12) rfl hS (fun w' hS' => ?l6y12) ?l6z12
    case l6y12 =>
     obtain ⟨e0, e1, e2, er, eg, em⟩ := (hMs.later hS').cells
     have erd := er d hdR
     have emq : w'.cell? ⟨gm, Q, none⟩ = some (.int .i64 (M.mem Q)) := em Q hQN
     have y1 := (kx2.below hS' lx).cell (i := 1) rfl
     have y4 := (kx2.below hS' lx).cell (i := 4) rfl
     clear hS' er eg em
     go_simp
     rfl
    simp only [nrz]
    refine tkz 13 rfl hS (fun w' hS' => by go_simp; rfl) ?_
    simp only [nrz]
    refine tkz 14 (v := ?l6v14) rfl hS (fun w' hS' => ?l6y14) ?l6z14
    case l6y14 =>
     go_simp
     try go_ints
     first
     | rfl
     | (rw [if_pos (by omega)]; done)
     | rw [if_pos ⟨by omega, by omega⟩]
    simp only [nrz]
    refine tkz 15 (v := ?l6v15) rfl hS (fun w' hS' => ?l6y15) ?l6z15
    case l6y15 =>
     obtain ⟨e0, e1, e2, er, eg, em⟩ := (hMs.later hS').cells
     have erd := er d hdR
     have emq : w'.cell? ⟨gm, Q, none⟩ = some (.int .i64 (M.mem Q)) := em Q hQN
     have y1 := (kx2.below hS' lx).cell (i := 1) rfl
     have y4 := (kx2.below hS' lx).cell (i := 4) rfl
     clear hS' er eg em
     go_simp
     rfl
    simp only [nrz]
    refine tkz 16 (v := ?l6v16) rfl hS (fun w' hS' => ?l6y16) ?l6z16
    case l6y16 =>
     go_simp
     try go_ints
     first
     | rfl
     | (rw [if_pos (by omega)]; done)
     | rw [if_pos ⟨by omega, by omega⟩]
    simp only [nrz]
    refine step_op 17 (by kernel_rfl) rfl (fun K hK => ?_)
    obtain ⟨e0, e1, e2, er, eg, em⟩ := (hMs.later hS).cells
    have egd := eg d k hdR hlt
    have fzd := (hMs.later hS).frozen.1 d k hdR
    clear er eg em e0 e1 e2
    rw [if_pos (by rfl)]
    go_simp
    refine hK.out _ _ (fun h => absurd h (by omega)) ?_
    clear hK K
    try simp only [Act.put, nrz]
    refine done_ops (by kernel_rfl) ?_
    have hset := (hMs.later hS).setReg (j := k) hdR (M.mem Q) (by have := hBB2.size; have := hS.size; omega)
    obtain ⟨hMt, hbs⟩ := hset
    have kx3 := (kx2.below hS lx).kept (row := some (G d)) (hMs.later hS |>.rg d hdR |>.stored k (.int .i64 (M.mem Q))).2 ((kx2.below hS lx).not_row (by decide) ((hMs.later hS).rg d hdR))
    have hBB3 := hBB2.trans ((hS.mono (by have := hBB2.size; omega)).trans hbs)
    have hM2 := partR_succ (d := d) (k := k) (v := fun j => if 0 ≤ adOf x j then M.mem (adOf x j).toNat else x.val) (M := M) (u := M.mem Q) (by simp only [hadqH.out, if_pos hq0, Int.toNat_natCast]) (hMt.congr (fun r j _ _ => by
     by_cases e : r = d
     ·simp only [if_pos e, if_true]
      by_cases e1 : j = k
      ·simp only [if_pos e1]
      ·simp only [if_neg e1]
     ·simp only [if_neg e]) (fun i _ => rfl))
    clear hMs hMt kx2 hBB2 hS hbs
    obtain ⟨X4, hX4⟩ : ∃ X, X3.setCell ⟨G d, k, none⟩ (.int .i64 (M.mem Q)) = X := ⟨_, rfl⟩
    rw [hX4] at hM2 kx3 hBB3
    try rw [hX4]
    clear hX4
    go_wp2_with fail
    go_roundw
    case rel => exact ⟨k + 1, by omega, by go_num, hM2, kx3, hBB3⟩
    case measure => simp [intOf]; omega
set_option maxRecDepth 100000 in
set_option maxHeartbeats 4000000 in
theorem mstore_any (B bm lanes R N : Nat) (M : MacN) (gr gm cr cm : Nat) (G C : Nat → Nat) (w : World) (hM : MacAt B w bm lanes R N M gr gm cr cm G C) (hl : 1 ≤ lanes ∧ lanes ≤ 16) (hRN : R ≤ 16 ∧ N ≤ 8192) (x : InsN) (ia : Option Addr) (ic : Nat) (a : Nat) (hd : x.a = (a : Int)) (hdR : a < R) (hal : x.ad.length = lanes) (hra : Rd B w ia x.ad) (hin : ∀ k, k < lanes → -1 ≤ adOf x k ∧ adOf x k < N) (hBw : B ≤ w.heap.size) :
  Calls Tryz.prog 119 #[.pointer (some ⟨bm, 0, none⟩), insv x ia ic] w fun e w' => (∃ v, e = .returned v) ∧ MacAt B w' bm lanes R N (⟨M.regs, stoM (adOf x) (fun j => pix (M.regs a j)) M.mem lanes⟩) gr gm cr cm G C ∧ Below B w w' := by
 have hB : Below w.heap.size w w := Below.refl _ _
 obtain ⟨hl1, hl2⟩ := hl
 obtain ⟨hR1, hN1⟩ := hRN
 have hBB : Below B w w := Below.refl _ _
 unfold insv
 rw [hd, hal]
 obtain ⟨V1, hEV1, hbV1, kx⟩ := newB w 143 #[.int .u8 x.op, .int .i64 x.d, .int .i64 (a : Int), .int .i64 x.b, .int .i64 x.val, .int .i64 x.pt.mul, .int .i64 x.pt.add, .int .i64 x.pt.div, .int .i64 x.pt.lo, .int .i64 x.pt.hi, .int .u8 x.how, .slice ia lanes ic]
 replace hM := hM.later hbV1
 replace hBB := hBB.trans (hbV1.mono (Nat.le_trans hBw hBB.size))
 replace hB := tmB hB hbV1
 clear hbV1
 obtain ⟨x0, x1, x2, x3, x4, x5, x6, x7, x8, x9, x10, x11⟩ := cz12 kx
 obtain ⟨hc1, hc2, hc3⟩ := hM.caps
 have hinH := Lib.hid hin
 clear hin
 obtain ⟨b, o, rfl, hbl, hra2⟩ : ∃ b o, ia = some ⟨b, o, none⟩ ∧ b < B ∧ ∀ i, i < lanes → w.cell? ⟨b, o + i, none⟩ = some (.int .i64 (x.ad[i]?.getD 0)) := by
  rcases hra with h | ⟨b, o, h1, h2, h3⟩
  ·rw [h] at hal; simp at hal; omega
  ·exact ⟨b, o, h1, h2, fun i hi => h3 i (by omega)⟩
 have hraH := Lib.hid hra2
 clear hra hra2 hal
 have hgm := (hM.mm.lt gm rfl).2
 have hszV := hB.size
 go_enter Tryz.func119, Tryz.ntmps119
 go_wp2_with fail
 clear hEV1
 refine (mpix_any B bm lanes R N M gr gm cr cm G C V1 hM ⟨hl1, hl2⟩ ⟨hR1, hN1⟩ a hdR).mono ?_
 rintro e V2 ⟨g, cap, rfl, hrow, hb⟩
 clear x0 x1 x2 x3 x4 x5 x6 x7 x8 x9 x10 x11
 replace kx := kx.below hb kx.lt
 replace hM := hM.later hb
 replace hBB := hBB.trans (hb.mono (Nat.le_trans hBw hBB.size))
 replace hB := tmB hB hb
 clear hb
 obtain ⟨x0, x1, x2, x3, x4, x5, x6, x7, x8, x9, x10, x11⟩ := cz12 kx
 have hgl := (hrow.lt g rfl).1
 have hcp : lanes ≤ cap := by
  rcases hrow.2 with ⟨h1, _⟩ | ⟨g', cap', cur, h1, _, _, h3, _⟩
  ·cases h1
  ·simp only [Value.slice.injEq, Option.some.injEq, Addr.mk.injEq, and_true] at h1; omega
 have hfl := field_pix (lanes : Int) 1 g lanes cap V2
 go_wp2_with fail
 clear hfl
 clear x0 x1 x2 x3 x4 x5 x6 x7 x8 x9 x10 x11
 clear hB
 replace hrow := jrow_weaken hrow (show B ≤ V1.heap.size by omega)
 go_loopw [5, 6, 15] (fun q u i wr => ∃ k : Nat, k ≤ lanes ∧ i = .int .i64 (k : Int) ∧ MacAt B wr bm lanes R N ⟨M.regs, stoM (adOf x) (fun j => pix (M.regs a j)) M.mem k⟩ gr gm cr cm G C ∧ Blk wr w.heap.size 143 #[.int .u8 x.op, .int .i64 x.d, .int .i64 (a : Int), .int .i64 x.b, .int .i64 x.val, .int .i64 x.pt.mul, .int .i64 x.pt.add, .int .i64 x.pt.div, .int .i64 x.pt.lo, .int .i64 x.pt.hi, .int .u8 x.how, .slice (some ⟨b, o, none⟩) lanes ic] ∧ wr.ownsRow B 3 1 (srow g lanes cap) lanes (intL lanes (fun j => pix (M.regs a j))) ∧ Below B w wr) (fun _ _ i _ => lanes - (intOf i).toNat)
 case atStart => exact ⟨0, Nat.zero_le _, rfl, hM, kx, hrow, hBB⟩
 case round =>
  clear hM kx hBB hrow
  obtain ⟨k, hk, rfl, hM, kx, hrow, hBB⟩ := hrel
  by_cases hlt : k < lanes
  case neg =>
   have hkn : k = lanes := by omega
   subst hkn
   go_wp2_with fail
   go_end0
   exact ⟨⟨_, rfl⟩, hM, hBB⟩
  case pos =>
   have hcq := (hBB.cell (p := ⟨b, o + k, none⟩) hbl).trans (hraH.out k hlt)
   have hinq := hinH.out k hlt
   have hadq : adOf x k = x.ad[k]?.getD 0 := rfl
   obtain ⟨q, hq⟩ : ∃ q, x.ad[k]?.getD 0 = q := ⟨_, rfl⟩
   rw [hq] at hcq hadq
   rw [hadq] at hinq
   have hadqH := Lib.hid hadq
   clear hq hadq
   by_cases hq0 : 0 ≤ q
   case neg =>
    have hqd : decide (0 ≤ q) = false := by simp; omega
    have hM2 : MacAt B wr bm lanes R N ⟨M.regs, stoM (adOf x) (fun j => pix (M.regs a j)) M.mem (k + 1)⟩ gr gm cr cm G C := hM.congr (fun _ _ _ _ => rfl) (fun i _ => by
     simp only [stoM]
     rw [if_neg (fun h => hq0 (hadqH.out ▸ h.1))])
    clear hM
    go_wp2_with fail
    go_roundw
    case rel => exact ⟨k + 1, by omega, by go_num, hM2, kx, hrow, hBB⟩
    case measure => simp [intOf]; omega
   case pos =>
    have hqd : decide (0 ≤ q) = true := by simp; omega
    obtain ⟨Q, rfl⟩ : ∃ Q : Nat, q = (Q : Int) := ⟨q.toNat, by omega⟩
    have hQN : Q < N := by omega
    have hcl := (hrow.cellAt k (by omega)).trans (intL_at hlt)
    try simp only at hcl
    obtain ⟨u, hu⟩ : ∃ u, pix (M.regs a k) = u := ⟨_, rfl⟩
    rw [hu] at hcl
    have huH := Lib.hid hu
    clear hu
    have lx := kx.lt
    have lg := (hrow.lt g rfl).2
    have hS : Below wr.heap.size wr wr.drew := (Below.refl _ _).drew
    go_wp2_with fail
    refine plain_region (fun W' => Below wr.heap.size wr W') 10 11 (by kernel_rfl) rfl ?_
    simp only [Array.replicate_succ, Array.replicate_zero, List.push_toArray, List.nil_append, List.cons_append]
    obtain ⟨X0, hXX0⟩ : ∃ X : World, wr.drew = X := ⟨_, rfl⟩
    rw [hXX0] at hS ⊢
    clear hXX0
    refine tkz 0 rfl hS (fun w' hS' => by go_simp; rfl) ?_
    simp only [nrz]
    refine tkz 1 rfl hS (fun w' hS' => by go_simp; rfl) ?_
    simp only [nrz]
    refine tkz 2 rfl hS (fun w' hS' => by go_simp; rfl) ?_
    simp only [nrz]
    refine tkz 3 (v := ?t6v3) rfl hS (fun w' hS' => ?t6y3) ?t6z3
    case t6y3 =>
     obtain ⟨e0, e1, e2, er, eg, em⟩ := (hM.later hS').cells
     have emq := em Q hQN
     have ecl := (hS'.cell (p := ⟨g, k, none⟩) lg).trans hcl
     clear hS' er eg em
     go_simp
     rfl
    simp only [nrz]
    refine tkz 4 rfl hS (fun w' hS' => by go_simp; rfl) ?_
    simp only [nrz]
    refine tkz 5 rfl hS (fun w' hS' => by go_simp; rfl) ?_
    simp only [nrz]
    refine tkz 6 rfl hS (fun w' hS' => by go_simp; rfl) ?_
    simp only [nrz]
    refine tkz 7 (v := ?t6v7) rfl hS (fun w' hS' => ?t6y7) ?t6z7
    case t6y7 =>
     go_simp
     try go_ints
     first
     | rfl
     | (rw [if_pos (by omega)]; done)
     | rw [if_pos ⟨by omega, by omega⟩]
    simp only [nrz]
    refine tkz 8 (v := ?t6v8) rfl hS (fun w' hS' => ?t6y8) ?t6z8
    case t6y8 =>
     obtain ⟨e0, e1, e2, er, eg, em⟩ := (hM.later hS').cells
     have emq := em Q hQN
     have ecl := (hS'.cell (p := ⟨g, k, none⟩) lg).trans hcl
     clear hS' er eg em
     go_simp
     rfl
    simp only [nrz]
    refine tkz 9 (v := ?t6v9) rfl hS (fun w' hS' => ?t6y9) ?t6z9
    case t6y9 =>
     go_simp
     try go_ints
     first
     | rfl
     | (rw [if_pos (by omega)]; done)
     | rw [if_pos ⟨by omega, by omega⟩]
    simp only [nrz]
    refine step_op 10 (by kernel_rfl) rfl (fun K hK => ?_)
    obtain ⟨e0, e1, e2, er, eg, em⟩ := (hM.later hS).cells
    have emq := em Q hQN
    have fzd := (hM.later hS).frozen.2.1 Q
    clear er eg em e0 e1 e2
    rw [if_pos (by rfl)]
    go_simp
    refine hK.out _ _ (fun h => absurd h (by omega)) ?_
    clear hK K
    try simp only [Act.put, nrz]
    refine done_ops (by kernel_rfl) ?_
    obtain ⟨hMs, hbs⟩ := (hM.later hS).setMem Q u (by have := hBB.size; have := hS.size; omega)
    have hst := ((hM.later hS).mm.stored Q (.int .i64 u)).2
    have kx2 := (kx.below hS lx).kept hst ((kx.below hS lx).not_row (by decide) (hM.later hS).mm)
    have hrow2 := (row_below hrow hS).kept hst (.inr (some_ne (show g ≠ gm by omega)))
    have hBB2 := hBB.trans ((hS.mono (by have := hBB.size; omega)).trans hbs)
    have hM2 : MacAt B (X0.setCell ⟨gm, Q, none⟩ (.int .i64 u)) bm lanes R N ⟨M.regs, stoM (adOf x) (fun j => pix (M.regs a j)) M.mem (k + 1)⟩ gr gm cr cm G C := hMs.congr (fun _ _ _ _ => rfl) (fun i _ => by
     simp only [stoM]
     rw [hadqH.out, huH.out]
     by_cases e : i = Q
     ·rw [if_pos e, if_pos (by omega)]
     ·rw [if_neg e, if_neg (by omega)])
    clear hM kx hBB hrow hS hMs hbs hst hcl emq fzd
    obtain ⟨X2, hX2⟩ : ∃ X, X0.setCell ⟨gm, Q, none⟩ (.int .i64 u) = X := ⟨_, rfl⟩
    rw [hX2] at hM2 kx2 hrow2 hBB2
    try rw [hX2]
    clear hX2
    go_wp2_with fail
    go_roundw
    case rel => exact ⟨k + 1, by omega, by go_num, hM2, kx2, hrow2, hBB2⟩
    case measure => simp [intOf]; omega
set_option maxRecDepth 100000 in
set_option maxHeartbeats 4000000 in
theorem madd_any (B bm lanes R N : Nat) (M : MacN) (gr gm cr cm : Nat) (G C : Nat → Nat) (w : World) (hM : MacAt B w bm lanes R N M gr gm cr cm G C) (hl : 1 ≤ lanes ∧ lanes ≤ 16) (hRN : R ≤ 16 ∧ N ≤ 8192) (x : InsN) (ia : Option Addr) (ic : Nat) (d a : Nat) (hd : x.d = (d : Int)) (ha : x.a = (a : Int)) (hdR : d < R) (haR : a < R) (hv1 : -65536 ≤ x.val) (hv2 : x.val ≤ 65536) (hbd : ∀ k, k < lanes → -1152921504606846976 ≤ M.regs d k ∧ M.regs d k ≤ 1152921504606846976) (hBw : B ≤ w.heap.size) :
  Calls Tryz.prog 123 #[.pointer (some ⟨bm, 0, none⟩), insv x ia ic] w fun e w' => (∃ v, e = .returned v) ∧ MacAt B w' bm lanes R N (setR M d (fun j => wide (M.regs d j + x.val * pix (M.regs a j)))) gr gm cr cm G C ∧ Below B w w' := by
 have hB : Below w.heap.size w w := Below.refl _ _
 obtain ⟨hl1, hl2⟩ := hl
 obtain ⟨hR1, hN1⟩ := hRN
 have hBB : Below B w w := Below.refl _ _
 have hM0 := hM
 unfold insv
 rw [hd, ha]
 obtain ⟨V1, hEV1, hbV1, kx⟩ := newB w 143 #[.int .u8 x.op, .int .i64 (d : Int), .int .i64 (a : Int), .int .i64 x.b, .int .i64 x.val, .int .i64 x.pt.mul, .int .i64 x.pt.add, .int .i64 x.pt.div, .int .i64 x.pt.lo, .int .i64 x.pt.hi, .int .u8 x.how, .slice ia x.ad.length ic]
 replace hM := hM.later hbV1
 replace hBB := hBB.trans (hbV1.mono (Nat.le_trans hBw hBB.size))
 replace hB := tmB hB hbV1
 clear hbV1
 obtain ⟨x0, x1, x2, x3, x4, x5, x6, x7, x8, x9, x10, x11⟩ := cz12 kx
 obtain ⟨hc1, hc2, hc3⟩ := hM.caps
 have hcd := hc3 d hdR
 have hbdH := Lib.hid hbd
 clear hbd
 have hszV := hB.size
 have hGl : ∀ r, r < R → G r < w.heap.size := fun r hr => ((hM0.rg r hr).lt (G r) rfl).2
 go_enter Tryz.func123, Tryz.ntmps123
 go_wp2_with fail
 clear hEV1
 refine (mpix_any B bm lanes R N M gr gm cr cm G C V1 hM ⟨hl1, hl2⟩ ⟨hR1, hN1⟩ a haR).mono ?_
 rintro e V2 ⟨g, cap, rfl, hrow, hb⟩
 clear x0 x1 x2 x3 x4 x5 x6 x7 x8 x9 x10 x11
 replace kx := kx.below hb kx.lt
 replace hM := hM.later hb
 replace hBB := hBB.trans (hb.mono (Nat.le_trans hBw hBB.size))
 replace hB := tmB hB hb
 clear hb
 obtain ⟨x0, x1, x2, x3, x4, x5, x6, x7, x8, x9, x10, x11⟩ := cz12 kx
 have hgl := (hrow.lt g rfl).1
 have hcp : lanes ≤ cap := by
  rcases hrow.2 with ⟨h1, _⟩ | ⟨g', cap', cur, h1, _, _, h3, _⟩
  ·cases h1
  ·simp only [Value.slice.injEq, Option.some.injEq, Addr.mk.injEq, and_true] at h1; omega
 have hfl := field_pix (lanes : Int) 1 g lanes cap V2
 go_wp2_with fail
 clear hfl
 clear x0 x1 x2 x3 x4 x5 x6 x7 x8 x9 x10 x11
 clear hB
 replace hrow := jrow_weaken hrow (show B ≤ V1.heap.size by omega)
 have hMz := partR_zero hM d (fun j => wide (M.regs d j + x.val * pix (M.regs a j)))
 clear hM
 go_loopw [5, 13] (fun q i wr => ∃ k : Nat, k ≤ lanes ∧ i = .int .i64 (k : Int) ∧ MacAt B wr bm lanes R N (partR M d (fun j => wide (M.regs d j + x.val * pix (M.regs a j))) k) gr gm cr cm G C ∧ Blk wr w.heap.size 143 #[.int .u8 x.op, .int .i64 (d : Int), .int .i64 (a : Int), .int .i64 x.b, .int .i64 x.val, .int .i64 x.pt.mul, .int .i64 x.pt.add, .int .i64 x.pt.div, .int .i64 x.pt.lo, .int .i64 x.pt.hi, .int .u8 x.how, .slice ia x.ad.length ic] ∧ wr.ownsRow B 3 1 (srow g lanes cap) lanes (intL lanes (fun j => pix (M.regs a j))) ∧ Below B w wr) (fun _ i _ => lanes - (intOf i).toNat)
 case atStart => exact ⟨0, Nat.zero_le _, rfl, hMz, kx, hrow, hBB⟩
 case round =>
  clear hMz kx hBB hrow
  obtain ⟨k, hk, rfl, hM, kx, hrow, hBB⟩ := hrel
  by_cases hlt : k < lanes
  case neg =>
   have hkn : k = lanes := by omega
   subst hkn
   have hMf := partR_all hM
   go_wp2_with fail
   go_end0
   exact ⟨⟨_, rfl⟩, hMf, hBB⟩
  case pos =>
   have hcl := (hrow.cellAt k (by omega)).trans (intL_at hlt)
   try simp only at hcl
   have hpb := pix_bd (M.regs a k)
   obtain ⟨hb1, hb2⟩ := hbdH.out k hlt
   have hold : (partR M d (fun j => wide (M.regs d j + x.val * pix (M.regs a j))) k).regs d k = M.regs d k := by unfold partR; simp
   obtain ⟨p, hp⟩ : ∃ p, pix (M.regs a k) = p := ⟨_, rfl⟩
   obtain ⟨r, hr⟩ : ∃ r, M.regs d k = r := ⟨_, rfl⟩
   rw [hp] at hcl hpb
   rw [hr] at hb1 hb2 hold
   have hmb := mul_bd (a := x.val) (b := p) (m := 65536) (n := 2147483648) hv1 hv2 hpb.1 hpb.2 (by omega) (by omega)
   obtain ⟨mp, hmp⟩ : ∃ m, x.val * p = m := ⟨_, rfl⟩
   rw [hmp] at hmb
   simp only [Int.reduceMul] at hmb
   obtain ⟨y, hy⟩ : ∃ y, min (r + mp) 1152921504606846976 = y := ⟨_, rfl⟩
   obtain ⟨z, hz⟩ : ∃ z, max (-1152921504606846976) y = z := ⟨_, rfl⟩
   have hvz : (fun j => wide (M.regs d j + x.val * pix (M.regs a j))) k = z := by simp only [hp, hr, hmp]; rw [← hz, ← hy]; rfl
   have hvzH := Lib.hid hvz
   have holdH := Lib.hid hold
   clear hvz hold hp hr
   have lx := kx.lt
   have lg := (hrow.lt g rfl).2
   have hS : Below wr.heap.size wr wr.drew := (Below.refl _ _).drew
   go_wp2_with fail
   refine plain_region (fun W' => Below wr.heap.size wr W') 31 32 (by kernel_rfl) rfl ?_
   simp only [Array.replicate_succ, Array.replicate_zero, List.push_toArray, List.nil_append, List.cons_append]
   obtain ⟨X0, hXX0⟩ : ∃ X : World, wr.drew = X := ⟨_, rfl⟩
   rw [hXX0] at hS ⊢
   clear hXX0
   refine tkz 0 rfl hS (fun w' hS' => by go_simp; rfl) ?_
   simp only [nrz]
   refine tkz 1 rfl hS (fun w' hS' => by go_simp; rfl) ?_
   simp only [nrz]
   refine tkz 2 rfl hS (fun w' hS' => by go_simp; rfl) ?_
   simp only [nrz]
   refine tkz 3 (v := ?a5v3) rfl hS (fun w' hS' => ?a5y3) ?a5z3
   case a5y3 =>
    obtain ⟨e0, e1, e2, er, eg, em⟩ := (hM.later hS').cells
    have erd := er d hdR
    have egd := eg d k hdR hlt
    rw [holdH.out] at egd
    have ecl := (hS'.cell (p := ⟨g, k, none⟩) lg).trans hcl
    have y1 := (kx.below hS' lx).cell (i := 1) rfl
    have y4 := (kx.below hS' lx).cell (i := 4) rfl
    clear hS' er eg em
    go_simp
    rfl
   simp only [nrz]
   refine tkz 4 rfl hS (fun w' hS' => by go_simp; rfl) ?_
   simp only [nrz]
   refine tkz 5 (v := ?a5v5) rfl hS (fun w' hS' => ?a5y5) ?a5z5
   case a5y5 =>
    obtain ⟨e0, e1, e2, er, eg, em⟩ := (hM.later hS').cells
    have erd := er d hdR
    have egd := eg d k hdR hlt
    rw [holdH.out] at egd
    have ecl := (hS'.cell (p := ⟨g, k, none⟩) lg).trans hcl
    have y1 := (kx.below hS' lx).cell (i := 1) rfl
    have y4 := (kx.below hS' lx).cell (i := 4) rfl
    clear hS' er eg em
    go_simp
    rfl
   simp only [nrz]
   refine tkz 6 (v := ?a5v6) rfl hS (fun w' hS' => ?a5y6) ?a5z6
   case a5y6 =>
    go_simp
    try go_ints
    first
    | rfl
    | (rw [if_pos (by omega)]; done)
    | rw [if_pos ⟨by omega, by omega⟩]
   simp only [nrz]
   refine tkz 7 (v := ?a5v7) rfl hS (fun w' hS' => ?a5y7) ?a5z7
   case a5y7 =>
    obtain ⟨e0, e1, e2, er, eg, em⟩ := (hM.later hS').cells
    have erd := er d hdR
    have egd := eg d k hdR hlt
    rw [holdH.out] at egd
    have ecl := (hS'.cell (p := ⟨g, k, none⟩) lg).trans hcl
    have y1 := (kx.below hS' lx).cell (i := 1) rfl
    have y4 := (kx.below hS' lx).cell (i := 4) rfl
    clear hS' er eg em
    go_simp
    rfl
   simp only [nrz]
   refine tkz 8 rfl hS (fun w' hS' => by go_simp; rfl) ?_
   simp only [nrz]
   refine tkz 9 rfl hS (fun w' hS' => by go_simp; rfl) ?_
   simp only [nrz]
   refine tkz 10 rfl hS (fun w' hS' => by go_simp; rfl) ?_
   simp only [nrz]
   refine tkz 11 rfl hS (fun w' hS' => by go_simp; rfl) ?_
   simp only [nrz]
   refine tkz 12 (v := ?a5v12) rfl hS (fun w' hS' => ?a5y12) ?a5z12
   case a5y12 =>
    obtain ⟨e0, e1, e2, er, eg, em⟩ := (hM.later hS').cells
    have erd := er d hdR
    have egd := eg d k hdR hlt
    rw [holdH.out] at egd
    have ecl := (hS'.cell (p := ⟨g, k, none⟩) lg).trans hcl
    have y1 := (kx.below hS' lx).cell (i := 1) rfl
    have y4 := (kx.below hS' lx).cell (i := 4) rfl
    clear hS' er eg em
    go_simp
    rfl
   simp only [nrz]
   refine tkz 13 rfl hS (fun w' hS' => by go_simp; rfl) ?_
   simp only [nrz]
   refine tkz 14 (v := ?a5v14) rfl hS (fun w' hS' => ?a5y14) ?a5z14
   case a5y14 =>
    obtain ⟨e0, e1, e2, er, eg, em⟩ := (hM.later hS').cells
    have erd := er d hdR
    have egd := eg d k hdR hlt
    rw [holdH.out] at egd
    have ecl := (hS'.cell (p := ⟨g, k, none⟩) lg).trans hcl
    have y1 := (kx.below hS' lx).cell (i := 1) rfl
    have y4 := (kx.below hS' lx).cell (i := 4) rfl
    clear hS' er eg em
    go_simp
    rfl
   simp only [nrz]
   refine tkz 15 (v := ?a5v15) rfl hS (fun w' hS' => ?a5y15) ?a5z15
   case a5y15 =>
    go_simp
    try go_ints
    first
    | rfl
    | (rw [if_pos (by omega)]; done)
    | rw [if_pos ⟨by omega, by omega⟩]
   simp only [nrz]
   refine tkz 16 (v := ?a5v16) rfl hS (fun w' hS' => ?a5y16) ?a5z16
   case a5y16 =>
    obtain ⟨e0, e1, e2, er, eg, em⟩ := (hM.later hS').cells
    have erd := er d hdR
    have egd := eg d k hdR hlt
    rw [holdH.out] at egd
    have ecl := (hS'.cell (p := ⟨g, k, none⟩) lg).trans hcl
    have y1 := (kx.below hS' lx).cell (i := 1) rfl
    have y4 := (kx.below hS' lx).cell (i := 4) rfl
    clear hS' er eg em
    go_simp
    rfl
   simp only [nrz]
   refine tkz 17 rfl hS (fun w' hS' => by go_simp; rfl) ?_
   simp only [nrz]
   refine tkz 18 (v := ?a5v18) rfl hS (fun w' hS' => ?a5y18) ?a5z18
   case a5y18 =>
    go_simp
    try go_ints
    first
    | rfl
    | (rw [if_pos (by omega)]; done)
    | rw [if_pos ⟨by omega, by omega⟩]
   simp only [nrz]
   refine tkz 19 (v := ?a5v19) rfl hS (fun w' hS' => ?a5y19) ?a5z19
   case a5y19 =>
    obtain ⟨e0, e1, e2, er, eg, em⟩ := (hM.later hS').cells
    have erd := er d hdR
    have egd := eg d k hdR hlt
    rw [holdH.out] at egd
    have ecl := (hS'.cell (p := ⟨g, k, none⟩) lg).trans hcl
    have y1 := (kx.below hS' lx).cell (i := 1) rfl
    have y4 := (kx.below hS' lx).cell (i := 4) rfl
    clear hS' er eg em
    go_simp
    rfl
   simp only [nrz]
   refine tkz 20 rfl hS (fun w' hS' => by go_simp; rfl) ?_
   simp only [nrz]
   refine tkz 21 (v := ?a5v21) rfl hS (fun w' hS' => ?a5y21) ?a5z21
   case a5y21 =>
    obtain ⟨e0, e1, e2, er, eg, em⟩ := (hM.later hS').cells
    have erd := er d hdR
    have egd := eg d k hdR hlt
    rw [holdH.out] at egd
    have ecl := (hS'.cell (p := ⟨g, k, none⟩) lg).trans hcl
    have y1 := (kx.below hS' lx).cell (i := 1) rfl
    have y4 := (kx.below hS' lx).cell (i := 4) rfl
    clear hS' er eg em
    go_simp
    rfl
   simp only [nrz]
   refine tkz 22 rfl hS (fun w' hS' => by go_simp; rfl) ?_
   simp only [nrz]
   refine tkz 23 rfl hS (fun w' hS' => by go_simp; rfl) ?_
   simp only [nrz]
   refine tkz 24 (v := ?a5v24) rfl hS (fun w' hS' => ?a5y24) ?a5z24
   case a5y24 =>
    go_simp
    try go_ints
    first
    | rfl
    | (rw [if_pos (by omega)]; done)
    | rw [if_pos ⟨by omega, by omega⟩]
   simp only [nrz]
   refine tkz 25 (v := ?a5v25) rfl hS (fun w' hS' => ?a5y25) ?a5z25
   case a5y25 =>
    obtain ⟨e0, e1, e2, er, eg, em⟩ := (hM.later hS').cells
    have erd := er d hdR
    have egd := eg d k hdR hlt
    rw [holdH.out] at egd
    have ecl := (hS'.cell (p := ⟨g, k, none⟩) lg).trans hcl
    have y1 := (kx.below hS' lx).cell (i := 1) rfl
    have y4 := (kx.below hS' lx).cell (i := 4) rfl
    clear hS' er eg em
    go_simp
    rfl
   simp only [nrz]
   refine tkz 26 rfl hS (fun w' hS' => by go_simp; (try go_ints); rfl) ?_
   simp only [nrz]
   refine tkz 27 rfl hS (fun w' hS' => by go_simp; (try go_ints); rfl) ?_
   simp only [nrz]
   refine tkz 28 rfl hS (fun w' hS' => by go_simp; rfl) ?_
   simp only [nrz]
   refine tkz 29 rfl hS (fun w' hS' => by go_simp; rfl) ?_
   simp only [nrz]
   refine tkz 30 (v := ?a5v30) rfl hS (fun w' hS' => ?a5y30) ?a5z30
   case a5y30 =>
    go_simp
    try go_ints
    first
    | rfl
    | (rw [if_pos (by omega)]; done)
    | rw [if_pos ⟨by omega, by omega⟩]
   simp only [nrz]
   refine step_op 31 (by kernel_rfl) rfl (fun K hK => ?_)
   obtain ⟨e0, e1, e2, er, eg, em⟩ := (hM.later hS).cells
   have egd := eg d k hdR hlt
   have fzd := (hM.later hS).frozen.1 d k hdR
   clear er eg em e0 e1 e2
   rw [if_pos (by rfl)]
   go_simp
   refine hK.out _ _ (fun h => absurd h (by omega)) ?_
   clear hK K
   try simp only [Act.put, nrz]
   refine done_ops (by kernel_rfl) ?_
   obtain ⟨hMs, hbs⟩ := (hM.later hS).setReg (j := k) hdR z (by have := hBB.size; have := hS.size; omega)
   have hst := ((hM.later hS).rg d hdR |>.stored k (.int .i64 z)).2
   have kx2 := (kx.below hS lx).kept hst ((kx.below hS lx).not_row (by decide) ((hM.later hS).rg d hdR))
   have hrow2 := (row_below hrow hS).kept hst (.inr (some_ne (show g ≠ G d by have := hGl d hdR; omega)))
   have hBB2 := hBB.trans ((hS.mono (by have := hBB.size; omega)).trans hbs)
   have hM2 := partR_succ (k := k) (v := fun j => wide (M.regs d j + x.val * pix (M.regs a j))) (M := M) hvzH.out hMs
   clear hM kx hBB hrow hS hMs hbs hst hcl
   obtain ⟨X2, hX2⟩ : ∃ X, X0.setCell ⟨G d, k, none⟩ (.int .i64 z) = X := ⟨_, rfl⟩
   rw [hX2] at hM2 kx2 hrow2 hBB2
   try rw [hX2]
   clear hX2
   go_wp2_with fail
   go_roundw
   case rel => exact ⟨k + 1, by omega, by go_num, hM2, kx2, hrow2, hBB2⟩
   case measure => simp [intOf]; omega
end Go.Proofs.YtekiemlniegddaaGreat

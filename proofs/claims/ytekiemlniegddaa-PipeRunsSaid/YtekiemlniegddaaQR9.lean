/- Contracts and laws (PsE). -/
import Derived.Test.YtekiemlniegddaaQR7
import Derived.Test.YtekiemlniegddaaQR8
set_option linter.unusedVariables false
set_option linter.unusedSimpArgs false
namespace Go.Proofs.Ytekiemlniegddaa
open Go Go.RowKit Go.Shelf
/-- The specification's machine in memory: the row of its registers, each register's row, its memory's row. -/
structure RefAt (B : Nat) (W : World) (lanes R N : Nat) (M : MacN) (gr gm cr cm : Nat) (G C : Nat → Nat) : Prop where
 rr : W.ownsRow B 27 1 (srow gr R cr) R (rowsL R lanes G C)
 rg : ∀ r, r < R → W.ownsRow B 3 1 (srow (G r) lanes (C r)) lanes (intL lanes (M.regs r))
 mm : W.ownsRow B 3 1 (srow gm N cm) N (intL N M.mem)
 inj : ∀ r s, r < R → s < R → G r = G s → r = s
 ne : ∀ r, r < R → G r ≠ gm
theorem RefAt.later {B : Nat} {W W' : World} {lanes R N : Nat} {M : MacN} {gr gm cr cm : Nat} {G C : Nat → Nat} (h : RefAt B W lanes R N M gr gm cr cm G C) (hb : Below W.heap.size W W') : RefAt B W' lanes R N M gr gm cr cm G C :=
 ⟨row_below h.rr hb, fun r hr => row_below (h.rg r hr) hb, row_below h.mm hb, h.inj, h.ne⟩
theorem RefAt.setReg {B : Nat} {W : World} {lanes R N : Nat} {M : MacN} {gr gm cr cm : Nat} {G C : Nat → Nat} (h : RefAt B W lanes R N M gr gm cr cm G C) {d j : Nat} (hd : d < R) (v : Int) (hB : B ≤ W.heap.size) :
  RefAt B (W.setCell ⟨G d, j, none⟩ (.int .i64 v)) lanes R N ⟨fun r => if r = d then (fun i => if i = j then v else M.regs d i) else M.regs r, M.mem⟩ gr gm cr cm G C ∧ Below B W (W.setCell ⟨G d, j, none⟩ (.int .i64 v)) := by
 have hst := (h.rg d hd).stored j (.int .i64 v)
 have hg := hst.2
 refine ⟨⟨row_setCell h.rr (a := ⟨G d, j, none⟩) (some_ne (rows_ne (h.rg d hd) h.rr (by decide))) _, fun r hr => ?_, row_setCell h.mm (a := ⟨G d, j, none⟩) (some_ne (h.ne d hd)) _, h.inj, h.ne⟩, ?_⟩
 ·by_cases e : r = d
  ·subst e
   have := hst.1
   rw [intL_set] at this
   simpa using this
  ·simp only [if_neg e]
   exact row_setCell (h.rg r hr) (a := ⟨G d, j, none⟩) (some_ne (fun e2 => e (h.inj d r hd hr e2).symm)) _
 ·exact below_of_row (n := B) (h.rg d hd) hg (Nat.le_refl _) hB
theorem RefAt.setMem {B : Nat} {W : World} {lanes R N : Nat} {M : MacN} {gr gm cr cm : Nat} {G C : Nat → Nat} (h : RefAt B W lanes R N M gr gm cr cm G C) (i : Nat) (v : Int) (hB : B ≤ W.heap.size) :
  RefAt B (W.setCell ⟨gm, i, none⟩ (.int .i64 v)) lanes R N ⟨M.regs, fun k => if k = i then v else M.mem k⟩ gr gm cr cm G C ∧ Below B W (W.setCell ⟨gm, i, none⟩ (.int .i64 v)) := by
 have hst := h.mm.stored i (.int .i64 v)
 have hg := hst.2
 refine ⟨⟨row_setCell h.rr (a := ⟨gm, i, none⟩) (some_ne (rows_ne h.mm h.rr (by decide))) _, fun r hr => row_setCell (h.rg r hr) (a := ⟨gm, i, none⟩) (some_ne (fun e => h.ne r hr e.symm)) _, ?_, h.inj, h.ne⟩, ?_⟩
 ·have := hst.1
  rw [intL_set] at this
  exact this
 ·exact below_of_row (n := B) h.mm hg (Nat.le_refl _) hB
theorem RefAt.cells {B : Nat} {W : World} {lanes R N : Nat} {M : MacN} {gr gm cr cm : Nat} {G C : Nat → Nat} (h : RefAt B W lanes R N M gr gm cr cm G C) :
  (∀ r, r < R → W.cell? ⟨gr, r, none⟩ = some (srow (G r) lanes (C r))) ∧ (∀ r j, r < R → j < lanes → W.cell? ⟨G r, j, none⟩ = some (.int .i64 (M.regs r j))) ∧ (∀ i, i < N → W.cell? ⟨gm, i, none⟩ = some (.int .i64 (M.mem i))) :=
 ⟨fun r hr => (h.rr.cellAt r (by omega)).trans (rowsL_at hr), fun r j hr hj => ((h.rg r hr).cellAt j (by omega)).trans (intL_at hj), fun i hi => (h.mm.cellAt i (by omega)).trans (intL_at hi)⟩
theorem RefAt.congr {B : Nat} {W : World} {lanes R N : Nat} {M M' : MacN} {gr gm cr cm : Nat} {G C : Nat → Nat} (h : RefAt B W lanes R N M gr gm cr cm G C) (h1 : ∀ r j, r < R → j < lanes → M.regs r j = M'.regs r j) (h2 : ∀ i, i < N → M.mem i = M'.mem i) : RefAt B W lanes R N M' gr gm cr cm G C :=
 ⟨h.rr, fun r hr => by rw [← intL_congr (fun j hj => h1 r j hr hj)]; exact h.rg r hr, by rw [← intL_congr (fun i hi => h2 i hi)]; exact h.mm, h.inj, h.ne⟩
theorem partR_at (M : MacN) (d : Nat) (v : Nat → Int) (r k : Nat) : (partR M d v k).regs r k = M.regs r k := by
 unfold partR
 simp only
 by_cases e : r = d
 ·subst e; rw [if_pos rfl]; simp
 ·rw [if_neg e]
theorem RefAt.part0 {B : Nat} {W : World} {lanes R N : Nat} {M : MacN} {gr gm cr cm : Nat} {G C : Nat → Nat} (h : RefAt B W lanes R N M gr gm cr cm G C) (d : Nat) (v : Nat → Int) : RefAt B W lanes R N (partR M d v 0) gr gm cr cm G C := h.congr (fun r j _ _ => by
 unfold partR; simp only
 by_cases e : r = d
 ·rw [if_pos e, e]; simp
 ·rw [if_neg e]) (fun i _ => rfl)
theorem RefAt.partS {B : Nat} {W : World} {lanes R N : Nat} {M : MacN} {gr gm cr cm : Nat} {G C : Nat → Nat} {d k : Nat} {v : Nat → Int} {g : Nat → Nat → Int} (h : RefAt B W lanes R N ⟨g, M.mem⟩ gr gm cr cm G C) (hg : ∀ r i, g r i = if r = d ∧ i = k then v k else (partR M d v k).regs r i) : RefAt B W lanes R N (partR M d v (k + 1)) gr gm cr cm G C := h.congr (fun r j _ _ => by
 show g r j = _
 rw [hg r j]
 unfold partR; simp only
 by_cases e : r = d
 ·subst e
  rw [if_pos rfl, if_pos rfl]
  by_cases e1 : j = k
  ·subst e1; rw [if_pos ⟨rfl, rfl⟩, if_pos (by omega)]
  ·rw [if_neg (fun h => e1 h.2)]
   by_cases e2 : j < k
   ·rw [if_pos e2, if_pos (by omega)]
   ·rw [if_neg e2, if_neg (by omega)]
 ·rw [if_neg (fun h => e h.1), if_neg e, if_neg e]) (fun i _ => rfl)
theorem RefAt.partA {B : Nat} {W : World} {lanes R N : Nat} {M : MacN} {gr gm cr cm : Nat} {G C : Nat → Nat} {d : Nat} {v : Nat → Int} (h : RefAt B W lanes R N (partR M d v lanes) gr gm cr cm G C) : RefAt B W lanes R N (setR M d v) gr gm cr cm G C := h.congr (fun r j _ hj => by
 unfold partR setR; simp only
 by_cases e : r = d
 ·rw [if_pos e, if_pos e, if_pos hj]
 ·rw [if_neg e, if_neg e]) (fun i _ => rfl)
set_option maxRecDepth 100000 in
set_option maxHeartbeats 1000000 in
theorem rpix_any (n r : Int) (hr : pix n = r) (w : World) : Calls Try.prog 84 #[.int .i64 n] w fun e w' => e = .returned (.int .i64 r) ∧ w = w' := by
 go_enter Try.func84, Try.ntmps84
 go_wp2_with fail
 refine (Into_any n (-2147483648) 2147483648 w).mono ?_
 rintro e w' ⟨rfl, rfl⟩
 go_wp2_with fail
 go_ret
 exact ⟨by rw [← hr]; rfl, rfl⟩
set_option maxRecDepth 100000 in
set_option maxHeartbeats 4000000 in
theorem carry3_any (B lanes R N : Nat) (M : MacN) (gr gm cr cm : Nat) (G C : Nat → Nat) (w : World) (hM : RefAt B w lanes R N M gr gm cr cm G C) (hl : 1 ≤ lanes ∧ lanes ≤ 16) (hRN : R ≤ 16 ∧ N ≤ 8192) (x : InsN) (ia : Option Addr) (ic : Nat) (hO : x.op = 3) (d : Nat) (hd : x.d = (d : Int)) (hdR : d < R)  (hBw : B ≤ w.heap.size) :
  Calls Try.prog 42 #[insv x ia ic, srow gr R cr, srow gm N cm] w fun e w' => (∃ v, e = .returned v) ∧ RefAt B w' lanes R N (setR M d (fun _ => x.val)) gr gm cr cm G C ∧ Below B w w' := by
 have hB : Below w.heap.size w w := Below.refl _ _
 obtain ⟨hl1, hl2⟩ := hl
 obtain ⟨hR1, hN1⟩ := hRN
 have hBB : Below B w w := Below.refl _ _
 unfold insv
 rw [hO, hd]
 obtain ⟨V1, hEV1, hbV1, kx⟩ := newB w 95 #[.int .u8 3, .int .i64 (d : Int), .int .i64 x.a, .int .i64 x.b, .int .i64 x.val, .int .i64 x.pt.mul, .int .i64 x.pt.add, .int .i64 x.pt.div, .int .i64 x.pt.lo, .int .i64 x.pt.hi, .int .u8 x.how, .slice ia x.ad.length ic]
 replace hM := hM.later hbV1
 replace hBB := hBB.trans (hbV1.mono (Nat.le_trans hBw hBB.size))
 replace hB := tmB hB hbV1
 clear hbV1
 obtain ⟨x0, x1, x2, x3, x4, x5, x6, x7, x8, x9, x10, x11⟩ := cz12 kx
 go_enter Try.func42, Try.ntmps42
 go_wp2_with fail
 clear hEV1
 clear x0 x1 x2 x3 x4 x5 x6 x7 x8 x9 x10 x11
 have hMz := hM.part0 d (fun _ => x.val)
 clear hM hB
 go_loopw [6] (fun i wr => ∃ k : Nat, k ≤ lanes ∧ i = .int .i64 (k : Int) ∧ RefAt B wr lanes R N (partR M d (fun _ => x.val) k) gr gm cr cm G C ∧ Blk wr w.heap.size 95 #[.int .u8 3, .int .i64 (d : Int), .int .i64 x.a, .int .i64 x.b, .int .i64 x.val, .int .i64 x.pt.mul, .int .i64 x.pt.add, .int .i64 x.pt.div, .int .i64 x.pt.lo, .int .i64 x.pt.hi, .int .u8 x.how, .slice ia x.ad.length ic] ∧ Below B w wr) (fun i _ => lanes - (intOf i).toNat)
 case atStart => exact ⟨0, Nat.zero_le _, rfl, hMz, kx, hBB⟩
 case round =>
  clear hMz kx hBB
  obtain ⟨k, hk, rfl, hM, kx, hBB⟩ := hrel
  have er0 := hM.cells.1 0 (by omega)
  by_cases hlt : k < lanes
  case neg =>
   have hkn : lanes = k := by omega
   subst hkn
   have hMf := hM.partA
   go_wp2_with fail
   go_end0
   exact ⟨⟨_, rfl⟩, hMf, hBB⟩
  case pos =>
   have lx := kx.lt
   have x0 := kx.cell (i := 0) rfl
   have hS : Below wr.heap.size wr wr.drew := (Below.refl _ _).drew
   go_wp2_with fail
   clear x0 er0
   refine plain_region (fun W' => Below wr.heap.size wr W') 9 10 (by kernel_rfl) rfl ?_
   simp only [Array.replicate_succ, Array.replicate_zero, List.push_toArray, List.nil_append, List.cons_append]
   obtain ⟨X0, hXX0⟩ : ∃ X : World, wr.drew = X := ⟨_, rfl⟩
   rw [hXX0] at hS ⊢
   clear hXX0
   refine tkz 0 rfl hS (fun w' hS' => by go_simp; rfl) ?_
   simp only [nrz]
   refine tkz 1 rfl hS (fun w' hS' => by go_simp; rfl) ?_
   simp only [nrz]
   refine tkz 2 (v := ?av2) rfl hS (fun w' hS' => ?ay2) ?az2
   case ay2 =>
    obtain ⟨er, eg, em⟩ := (hM.later hS').cells
    have erd := er d hdR
    have y1 := (kx.below hS' lx).cell (i := 1) rfl
    have y4 := (kx.below hS' lx).cell (i := 4) rfl
    clear hS' er eg em
    go_simp
    rfl
   simp only [nrz]
   refine tkz 3 (v := ?av3) rfl hS (fun w' hS' => ?ay3) ?az3
   case ay3 =>
    go_simp
    try go_ints
    first
    | rfl
    | (rw [if_pos (by omega)]; done)
    | rw [if_pos ⟨by omega, by omega⟩]
   simp only [nrz]
   refine tkz 4 (v := ?av4) rfl hS (fun w' hS' => ?ay4) ?az4
   case ay4 =>
    obtain ⟨er, eg, em⟩ := (hM.later hS').cells
    have erd := er d hdR
    have y1 := (kx.below hS' lx).cell (i := 1) rfl
    have y4 := (kx.below hS' lx).cell (i := 4) rfl
    clear hS' er eg em
    go_simp
    rfl
   simp only [nrz]
   refine tkz 5 rfl hS (fun w' hS' => by go_simp; rfl) ?_
   simp only [nrz]
   refine tkz 6 rfl hS (fun w' hS' => by go_simp; rfl) ?_
   simp only [nrz]
   refine tkz 7 (v := ?av7) rfl hS (fun w' hS' => ?ay7) ?az7
   case ay7 =>
    obtain ⟨er, eg, em⟩ := (hM.later hS').cells
    have erd := er d hdR
    have y1 := (kx.below hS' lx).cell (i := 1) rfl
    have y4 := (kx.below hS' lx).cell (i := 4) rfl
    clear hS' er eg em
    go_simp
    rfl
   simp only [nrz]
   refine tkz 8 (v := ?av8) rfl hS (fun w' hS' => ?ay8) ?az8
   case ay8 =>
    go_simp
    try go_ints
    first
    | rfl
    | (rw [if_pos (by omega)]; done)
    | rw [if_pos ⟨by omega, by omega⟩]
   simp only [nrz]
   refine step_op 9 (by kernel_rfl) rfl (fun K hK => ?_)
   obtain ⟨er, eg, em⟩ := (hM.later hS).cells
   have egd := eg d k hdR hlt
   have fzd := ((hM.later hS).rg d hdR).frozenAt k
   clear er eg em
   rw [if_pos (by rfl)]
   go_simp
   refine hK.out _ _ (fun h => absurd h (by omega)) ?_
   clear hK K
   try simp only [Act.put, nrz]
   refine done_ops (by kernel_rfl) ?_
   try clear egd fzd
   obtain ⟨hMs, hbs⟩ := (hM.later hS).setReg (j := k) hdR x.val (by have := hBB.size; have := hS.size; omega)
   have kx2 := (kx.below hS kx.lt).kept ((hM.later hS).rg d hdR |>.stored k (.int .i64 x.val)).2 ((kx.below hS kx.lt).not_row (by decide) ((hM.later hS).rg d hdR))
   have hBB2 := hBB.trans ((hS.mono (by have := hBB.size; omega)).trans hbs)
   obtain ⟨X2, hXX2⟩ : ∃ X, X0.setCell ⟨G d, k, none⟩ (.int .i64 x.val) = X := ⟨_, rfl⟩
   rw [hXX2] at hMs kx2 hBB2
   try rw [hXX2]
   clear hXX2 hbs
   have hM2 := hMs.partS (M := M) (d := d) (k := k) (v := fun _ => x.val) (fun r i => by
    by_cases e : r = d
    ·subst e
     by_cases e1 : i = k
     ·subst e1; simp
     ·simp [e1]
    ·simp [e])
   clear hMs hM kx hBB hS
   go_wp2_with fail
   go_roundw
   case rel => exact ⟨k + 1, by omega, by go_num, hM2, kx2, hBB2⟩
   case measure => simp [intOf]; omega
set_option maxRecDepth 100000 in
set_option maxHeartbeats 4000000 in
theorem carry1_any (B lanes R N : Nat) (M : MacN) (gr gm cr cm : Nat) (G C : Nat → Nat) (w : World) (hM : RefAt B w lanes R N M gr gm cr cm G C) (hl : 1 ≤ lanes ∧ lanes ≤ 16) (hRN : R ≤ 16 ∧ N ≤ 8192) (x : InsN) (ia : Option Addr) (ic : Nat) (hO : x.op = 1) (d : Nat) (hd : x.d = (d : Int)) (hdR : d < R) (hal : x.ad.length = lanes) (hra : Rd B w ia x.ad) (hin : ∀ k, k < lanes → -1 ≤ adOf x k ∧ adOf x k < N) (hBw : B ≤ w.heap.size) :
  Calls Try.prog 42 #[insv x ia ic, srow gr R cr, srow gm N cm] w fun e w' => (∃ v, e = .returned v) ∧ RefAt B w' lanes R N (setR M d (fun j => if 0 ≤ adOf x j then M.mem (adOf x j).toNat else x.val)) gr gm cr cm G C ∧ Below B w w' := by
 have hB : Below w.heap.size w w := Below.refl _ _
 obtain ⟨hl1, hl2⟩ := hl
 obtain ⟨hR1, hN1⟩ := hRN
 have hBB : Below B w w := Below.refl _ _
 unfold insv
 rw [hO, hd, hal]
 obtain ⟨b, o, rfl, hbl, hra2⟩ : ∃ b o, ia = some ⟨b, o, none⟩ ∧ b < B ∧ ∀ i, i < lanes → w.cell? ⟨b, o + i, none⟩ = some (.int .i64 (x.ad[i]?.getD 0)) := by
  rcases hra with h | ⟨b, o, h1, h2, h3⟩
  ·rw [h] at hal; simp at hal; omega
  ·exact ⟨b, o, h1, h2, fun i hi => h3 i (by omega)⟩
 have hraH := Lib.hid hra2
 have hinH := Lib.hid hin
 clear hra2 hin
 obtain ⟨V1, hEV1, hbV1, kx⟩ := newB w 95 #[.int .u8 1, .int .i64 (d : Int), .int .i64 x.a, .int .i64 x.b, .int .i64 x.val, .int .i64 x.pt.mul, .int .i64 x.pt.add, .int .i64 x.pt.div, .int .i64 x.pt.lo, .int .i64 x.pt.hi, .int .u8 x.how, .slice (some ⟨b, o, none⟩) lanes ic]
 replace hM := hM.later hbV1
 replace hBB := hBB.trans (hbV1.mono (Nat.le_trans hBw hBB.size))
 replace hB := tmB hB hbV1
 clear hbV1
 obtain ⟨x0, x1, x2, x3, x4, x5, x6, x7, x8, x9, x10, x11⟩ := cz12 kx
 go_enter Try.func42, Try.ntmps42
 go_wp2_with fail
 clear hEV1
 clear x0 x1 x2 x3 x4 x5 x6 x7 x8 x9 x10 x11
 have hMz := hM.part0 d (fun j => if 0 ≤ adOf x j then M.mem (adOf x j).toNat else x.val)
 clear hM hB
 go_loopw [6] (fun i wr => ∃ k : Nat, k ≤ lanes ∧ i = .int .i64 (k : Int) ∧ RefAt B wr lanes R N (partR M d (fun j => if 0 ≤ adOf x j then M.mem (adOf x j).toNat else x.val) k) gr gm cr cm G C ∧ Blk wr w.heap.size 95 #[.int .u8 1, .int .i64 (d : Int), .int .i64 x.a, .int .i64 x.b, .int .i64 x.val, .int .i64 x.pt.mul, .int .i64 x.pt.add, .int .i64 x.pt.div, .int .i64 x.pt.lo, .int .i64 x.pt.hi, .int .u8 x.how, .slice (some ⟨b, o, none⟩) lanes ic] ∧ Below B w wr) (fun i _ => lanes - (intOf i).toNat)
 case atStart => exact ⟨0, Nat.zero_le _, rfl, hMz, kx, hBB⟩
 case round =>
  clear hMz kx hBB
  obtain ⟨k, hk, rfl, hM, kx, hBB⟩ := hrel
  have er0 := hM.cells.1 0 (by omega)
  by_cases hlt : k < lanes
  case neg =>
   have hkn : lanes = k := by omega
   subst hkn
   have hMf := hM.partA
   go_wp2_with fail
   go_end0
   exact ⟨⟨_, rfl⟩, hMf, hBB⟩
  case pos =>
   have lx := kx.lt
   have x0 := kx.cell (i := 0) rfl
   have hS : Below wr.heap.size wr wr.drew := (Below.refl _ _).drew
   go_wp2_with fail
   clear x0 er0
   refine plain_region (fun W' => Below wr.heap.size wr W') 9 10 (by kernel_rfl) rfl ?_
   simp only [Array.replicate_succ, Array.replicate_zero, List.push_toArray, List.nil_append, List.cons_append]
   obtain ⟨X0, hXX0⟩ : ∃ X : World, wr.drew = X := ⟨_, rfl⟩
   rw [hXX0] at hS ⊢
   clear hXX0
   refine tkz 0 rfl hS (fun w' hS' => by go_simp; rfl) ?_
   simp only [nrz]
   refine tkz 1 rfl hS (fun w' hS' => by go_simp; rfl) ?_
   simp only [nrz]
   refine tkz 2 (v := ?av2) rfl hS (fun w' hS' => ?ay2) ?az2
   case ay2 =>
    obtain ⟨er, eg, em⟩ := (hM.later hS').cells
    have erd := er d hdR
    have y1 := (kx.below hS' lx).cell (i := 1) rfl
    have y4 := (kx.below hS' lx).cell (i := 4) rfl
    clear hS' er eg em
    go_simp
    rfl
   simp only [nrz]
   refine tkz 3 (v := ?av3) rfl hS (fun w' hS' => ?ay3) ?az3
   case ay3 =>
    go_simp
    try go_ints
    first
    | rfl
    | (rw [if_pos (by omega)]; done)
    | rw [if_pos ⟨by omega, by omega⟩]
   simp only [nrz]
   refine tkz 4 (v := ?av4) rfl hS (fun w' hS' => ?ay4) ?az4
   case ay4 =>
    obtain ⟨er, eg, em⟩ := (hM.later hS').cells
    have erd := er d hdR
    have y1 := (kx.below hS' lx).cell (i := 1) rfl
    have y4 := (kx.below hS' lx).cell (i := 4) rfl
    clear hS' er eg em
    go_simp
    rfl
   simp only [nrz]
   refine tkz 5 rfl hS (fun w' hS' => by go_simp; rfl) ?_
   simp only [nrz]
   refine tkz 6 rfl hS (fun w' hS' => by go_simp; rfl) ?_
   simp only [nrz]
   refine tkz 7 (v := ?av7) rfl hS (fun w' hS' => ?ay7) ?az7
   case ay7 =>
    obtain ⟨er, eg, em⟩ := (hM.later hS').cells
    have erd := er d hdR
    have y1 := (kx.below hS' lx).cell (i := 1) rfl
    have y4 := (kx.below hS' lx).cell (i := 4) rfl
    clear hS' er eg em
    go_simp
    rfl
   simp only [nrz]
   refine tkz 8 (v := ?av8) rfl hS (fun w' hS' => ?ay8) ?az8
   case ay8 =>
    go_simp
    try go_ints
    first
    | rfl
    | (rw [if_pos (by omega)]; done)
    | rw [if_pos ⟨by omega, by omega⟩]
   simp only [nrz]
   refine step_op 9 (by kernel_rfl) rfl (fun K hK => ?_)
   obtain ⟨er, eg, em⟩ := (hM.later hS).cells
   have egd := eg d k hdR hlt
   have fzd := ((hM.later hS).rg d hdR).frozenAt k
   clear er eg em
   rw [if_pos (by rfl)]
   go_simp
   refine hK.out _ _ (fun h => absurd h (by omega)) ?_
   clear hK K
   try simp only [Act.put, nrz]
   refine done_ops (by kernel_rfl) ?_
   try clear egd fzd
   obtain ⟨hMs, hbs⟩ := (hM.later hS).setReg (j := k) hdR x.val (by have := hBB.size; have := hS.size; omega)
   have kx2 := (kx.below hS kx.lt).kept ((hM.later hS).rg d hdR |>.stored k (.int .i64 x.val)).2 ((kx.below hS kx.lt).not_row (by decide) ((hM.later hS).rg d hdR))
   have hBB2 := hBB.trans ((hS.mono (by have := hBB.size; omega)).trans hbs)
   obtain ⟨X2, hXX2⟩ : ∃ X, X0.setCell ⟨G d, k, none⟩ (.int .i64 x.val) = X := ⟨_, rfl⟩
   rw [hXX2] at hMs kx2 hBB2
   try rw [hXX2]
   clear hXX2 hbs
   have hcq := (hBB2.cell (p := ⟨b, o + k, none⟩) hbl).trans (hraH.out k hlt)
   have hinq := hinH.out k hlt
   have hadq : adOf x k = x.ad[k]?.getD 0 := rfl
   obtain ⟨q, hq⟩ : ∃ q, x.ad[k]?.getD 0 = q := ⟨_, rfl⟩
   rw [hq] at hcq hadq
   rw [hadq] at hinq
   have hadqH := Lib.hid hadq
   have x11 := kx2.cell (i := 11) rfl
   clear hq hadq hM kx hBB hS lx
   by_cases hq0 : 0 ≤ q
   case neg =>
    have hqd : decide (0 ≤ q) = false := by simp; omega
    have hM2 := hMs.partS (M := M) (d := d) (k := k) (v := fun j => if 0 ≤ adOf x j then M.mem (adOf x j).toNat else x.val) (fun r i => by
     by_cases e : r = d
     ·subst e
      by_cases e1 : i = k
      ·subst e1; simp [hadqH.out, hq0]
      ·simp [e1]
     ·simp [e])
    clear hMs
    go_wp2_with fail
    go_roundw
    case rel => exact ⟨k + 1, by omega, by go_num, hM2, kx2, hBB2⟩
    case measure => simp [intOf]; omega
   case pos =>
   have hqd : decide (0 ≤ q) = true := by simp; omega
   obtain ⟨Q, rfl⟩ : ∃ Q : Nat, q = (Q : Int) := ⟨q.toNat, by omega⟩
   have hQN : Q < N := by omega
   have hS : Below X2.heap.size X2 X2.drew := (Below.refl _ _).drew
   go_wp2_with fail
   clear x11 hcq
   have hcq := (hBB2.cell (p := ⟨b, o + k, none⟩) hbl).trans (hraH.out k hlt)
   have hadq : x.ad[k]?.getD 0 = (Q : Int) := hadqH.out
   rw [hadq] at hcq
   have hb2 : b < X2.heap.size := by have := hBB2.size; omega
   clear hadq
   refine plain_region (fun W' => Below X2.heap.size X2 W') 15 16 (by kernel_rfl) rfl ?_
   simp only [Array.replicate_succ, Array.replicate_zero, List.push_toArray, List.nil_append, List.cons_append]
   obtain ⟨X3, hXX3⟩ : ∃ X : World, X2.drew = X := ⟨_, rfl⟩
   rw [hXX3] at hS ⊢
   clear hXX3
   refine tkz 0 rfl hS (fun w' hS' => by go_simp; rfl) ?_
   simp only [nrz]
   refine tkz 1 rfl hS (fun w' hS' => by go_simp; rfl) ?_
   simp only [nrz]
   refine tkz 2 (v := ?bv2) rfl hS (fun w' hS' => ?by2) ?bz2
   case by2 =>
    obtain ⟨er, eg, em⟩ := (hMs.later hS').cells
    have erd := er d hdR
    have emq : _ = some (Value.int .i64 (M.mem Q)) := em Q hQN
    have y1 := (kx2.below hS' kx2.lt).cell (i := 1) rfl
    have y11 := (kx2.below hS' kx2.lt).cell (i := 11) rfl
    have eq := (hS'.cell (p := ⟨b, o + k, none⟩) hb2).trans hcq
    clear hS' er eg em
    go_simp
    rfl
   simp only [nrz]
   refine tkz 3 (v := ?bv3) rfl hS (fun w' hS' => ?by3) ?bz3
   case by3 =>
    go_simp
    try go_ints
    first
    | rfl
    | (rw [if_pos (by omega)]; done)
    | rw [if_pos ⟨by omega, by omega⟩]
   simp only [nrz]
   refine tkz 4 (v := ?bv4) rfl hS (fun w' hS' => ?by4) ?bz4
   case by4 =>
    obtain ⟨er, eg, em⟩ := (hMs.later hS').cells
    have erd := er d hdR
    have emq : _ = some (Value.int .i64 (M.mem Q)) := em Q hQN
    have y1 := (kx2.below hS' kx2.lt).cell (i := 1) rfl
    have y11 := (kx2.below hS' kx2.lt).cell (i := 11) rfl
    have eq := (hS'.cell (p := ⟨b, o + k, none⟩) hb2).trans hcq
    clear hS' er eg em
    go_simp
    rfl
   simp only [nrz]
   refine tkz 5 rfl hS (fun w' hS' => by go_simp; rfl) ?_
   simp only [nrz]
   refine tkz 6 rfl hS (fun w' hS' => by go_simp; rfl) ?_
   simp only [nrz]
   refine tkz 7 rfl hS (fun w' hS' => by go_simp; rfl) ?_
   simp only [nrz]
   refine tkz 8 (v := ?bv8) rfl hS (fun w' hS' => ?by8) ?bz8
   case by8 =>
    obtain ⟨er, eg, em⟩ := (hMs.later hS').cells
    have erd := er d hdR
    have emq : _ = some (Value.int .i64 (M.mem Q)) := em Q hQN
    have y1 := (kx2.below hS' kx2.lt).cell (i := 1) rfl
    have y11 := (kx2.below hS' kx2.lt).cell (i := 11) rfl
    have eq := (hS'.cell (p := ⟨b, o + k, none⟩) hb2).trans hcq
    clear hS' er eg em
    go_simp
    rfl
   simp only [nrz]
   refine tkz 9 rfl hS (fun w' hS' => by go_simp; rfl) ?_
   simp only [nrz]
   refine tkz 10 (v := ?bv10) rfl hS (fun w' hS' => ?by10) ?bz10
   case by10 =>
    go_simp
    try go_ints
    first
    | rfl
    | (rw [if_pos (by omega)]; done)
    | rw [if_pos ⟨by omega, by omega⟩]
   simp only [nrz]
   refine tkz 11 (v := ?bv11) rfl hS (fun w' hS' => ?by11) ?bz11
   case by11 =>
    obtain ⟨er, eg, em⟩ := (hMs.later hS').cells
    have erd := er d hdR
    have emq : _ = some (Value.int .i64 (M.mem Q)) := em Q hQN
    have y1 := (kx2.below hS' kx2.lt).cell (i := 1) rfl
    have y11 := (kx2.below hS' kx2.lt).cell (i := 11) rfl
    have eq := (hS'.cell (p := ⟨b, o + k, none⟩) hb2).trans hcq
    clear hS' er eg em
    go_simp
    rfl
   simp only [nrz]
   refine tkz 12 (v := ?bv12) rfl hS (fun w' hS' => ?by12) ?bz12
   case by12 =>
    go_simp
    try go_ints
    first
    | rfl
    | (rw [if_pos (by omega)]; done)
    | rw [if_pos ⟨by omega, by omega⟩]
   simp only [nrz]
   refine tkz 13 (v := ?bv13) rfl hS (fun w' hS' => ?by13) ?bz13
   case by13 =>
    obtain ⟨er, eg, em⟩ := (hMs.later hS').cells
    have erd := er d hdR
    have emq : _ = some (Value.int .i64 (M.mem Q)) := em Q hQN
    have y1 := (kx2.below hS' kx2.lt).cell (i := 1) rfl
    have y11 := (kx2.below hS' kx2.lt).cell (i := 11) rfl
    have eq := (hS'.cell (p := ⟨b, o + k, none⟩) hb2).trans hcq
    clear hS' er eg em
    go_simp
    rfl
   simp only [nrz]
   refine tkz 14 (v := ?bv14) rfl hS (fun w' hS' => ?by14) ?bz14
   case by14 =>
    go_simp
    try go_ints
    first
    | rfl
    | (rw [if_pos (by omega)]; done)
    | rw [if_pos ⟨by omega, by omega⟩]
   simp only [nrz]
   refine step_op 15 (by kernel_rfl) rfl (fun K hK => ?_)
   obtain ⟨er, eg, em⟩ := (hMs.later hS).cells
   have egd := eg d k hdR hlt
   have fzd := ((hMs.later hS).rg d hdR).frozenAt k
   clear er eg em
   rw [if_pos (by rfl)]
   go_simp
   refine hK.out _ _ (fun h => absurd h (by omega)) ?_
   clear hK K
   try simp only [Act.put, nrz]
   refine done_ops (by kernel_rfl) ?_
   try clear egd fzd
   obtain ⟨hMt, hbs⟩ := (hMs.later hS).setReg (j := k) hdR (M.mem Q) (by have := hBB2.size; have := hS.size; omega)
   have kx4 := (kx2.below hS kx2.lt).kept ((hMs.later hS).rg d hdR |>.stored k (.int .i64 (M.mem Q))).2 ((kx2.below hS kx2.lt).not_row (by decide) ((hMs.later hS).rg d hdR))
   have hBB4 := hBB2.trans ((hS.mono (by have := hBB2.size; omega)).trans hbs)
   obtain ⟨X4, hXX4⟩ : ∃ X, X3.setCell ⟨G d, k, none⟩ (.int .i64 (M.mem Q)) = X := ⟨_, rfl⟩
   rw [hXX4] at hMt kx4 hBB4
   try rw [hXX4]
   clear hXX4 hbs
   have hM2 := hMt.partS (M := M) (d := d) (k := k) (v := fun j => if 0 ≤ adOf x j then M.mem (adOf x j).toNat else x.val) (fun r i => by
    by_cases e : r = d
    ·subst e
     by_cases e1 : i = k
     ·subst e1; simp [hadqH.out]
     ·simp [e1]
    ·simp [e])
   clear hMs hMt kx2 hBB2 hS
   go_wp2_with fail
   go_roundw
   case rel => exact ⟨k + 1, by omega, by go_num, hM2, kx4, hBB4⟩
   case measure => simp [intOf]; omega
set_option maxRecDepth 100000 in
set_option maxHeartbeats 4000000 in
theorem carry4_any (B lanes R N : Nat) (M : MacN) (gr gm cr cm : Nat) (G C : Nat → Nat) (w : World) (hM : RefAt B w lanes R N M gr gm cr cm G C) (hl : 1 ≤ lanes ∧ lanes ≤ 16) (hRN : R ≤ 16 ∧ N ≤ 8192) (x : InsN) (ia : Option Addr) (ic : Nat) (hO : x.op = 4) (d : Nat) (hd : x.d = (d : Int)) (hdR : d < R) (a : Nat) (ha : x.a = (a : Int)) (haR : a < R) (hp : x.pt.ok = true) (hBw : B ≤ w.heap.size) :
  Calls Try.prog 42 #[insv x ia ic, srow gr R cr, srow gm N cm] w fun e w' => (∃ v, e = .returned v) ∧ RefAt B w' lanes R N (setR M d (fun j => pix (pointF x.pt (pix (M.regs a j))))) gr gm cr cm G C ∧ Below B w w' := by
 have hB : Below w.heap.size w w := Below.refl _ _
 obtain ⟨hl1, hl2⟩ := hl
 obtain ⟨hR1, hN1⟩ := hRN
 have hBB : Below B w w := Below.refl _ _
 unfold insv
 rw [hO, hd, ha]
 have hpH := Lib.hid hp
 clear hp
 obtain ⟨V1, hEV1, hbV1, kx⟩ := newB w 95 #[.int .u8 4, .int .i64 (d : Int), .int .i64 (a : Int), .int .i64 x.b, .int .i64 x.val, .int .i64 x.pt.mul, .int .i64 x.pt.add, .int .i64 x.pt.div, .int .i64 x.pt.lo, .int .i64 x.pt.hi, .int .u8 x.how, .slice ia x.ad.length ic]
 replace hM := hM.later hbV1
 replace hBB := hBB.trans (hbV1.mono (Nat.le_trans hBw hBB.size))
 replace hB := tmB hB hbV1
 clear hbV1
 obtain ⟨x0, x1, x2, x3, x4, x5, x6, x7, x8, x9, x10, x11⟩ := cz12 kx
 go_enter Try.func42, Try.ntmps42
 go_wp2_with fail
 clear hEV1
 clear x0 x1 x2 x3 x4 x5 x6 x7 x8 x9 x10 x11
 have hMz := hM.part0 d (fun j => pix (pointF x.pt (pix (M.regs a j))))
 clear hM hB
 go_loopw [6] (fun i wr => ∃ k : Nat, k ≤ lanes ∧ i = .int .i64 (k : Int) ∧ RefAt B wr lanes R N (partR M d (fun j => pix (pointF x.pt (pix (M.regs a j)))) k) gr gm cr cm G C ∧ Blk wr w.heap.size 95 #[.int .u8 4, .int .i64 (d : Int), .int .i64 (a : Int), .int .i64 x.b, .int .i64 x.val, .int .i64 x.pt.mul, .int .i64 x.pt.add, .int .i64 x.pt.div, .int .i64 x.pt.lo, .int .i64 x.pt.hi, .int .u8 x.how, .slice ia x.ad.length ic] ∧ Below B w wr) (fun i _ => lanes - (intOf i).toNat)
 case atStart => exact ⟨0, Nat.zero_le _, rfl, hMz, kx, hBB⟩
 case round =>
  clear hMz kx hBB
  obtain ⟨k, hk, rfl, hM, kx, hBB⟩ := hrel
  have er0 := hM.cells.1 0 (by omega)
  by_cases hlt : k < lanes
  case neg =>
   have hkn : lanes = k := by omega
   subst hkn
   have hMf := hM.partA
   go_wp2_with fail
   go_end0
   exact ⟨⟨_, rfl⟩, hMf, hBB⟩
  case pos =>
   have lx := kx.lt
   have x0 := kx.cell (i := 0) rfl
   have hS : Below wr.heap.size wr wr.drew := (Below.refl _ _).drew
   obtain ⟨y, hy⟩ : ∃ y, M.regs a k = y := ⟨_, rfl⟩
   obtain ⟨p, hp1⟩ : ∃ p, pix y = p := ⟨_, rfl⟩
   have hpb := pix_bd y
   rw [hp1] at hpb
   have hp1H := Lib.hid hp1
   obtain ⟨z, hz⟩ : ∃ z, pointF x.pt p = z := ⟨_, rfl⟩
   have hzH := Lib.hid hz
   have hvz : (fun j => pix (pointF x.pt (pix (M.regs a j)))) k = z := by
    have h1 := pointF_bd hpH.out p
    simp only [hy, hp1, hz] at h1 ⊢
    unfold pix clamp
    omega
   have hvzH := Lib.hid hvz
   clear hvz hz
   go_wp2_with fail
   clear x0 er0 hp1
   refine plain_region (fun W' => Below wr.heap.size wr W') 19 20 (by kernel_rfl) rfl ?_
   simp only [Array.replicate_succ, Array.replicate_zero, List.push_toArray, List.nil_append, List.cons_append]
   obtain ⟨X0, hXX0⟩ : ∃ X : World, wr.drew = X := ⟨_, rfl⟩
   rw [hXX0] at hS ⊢
   clear hXX0
   refine tkz 0 rfl hS (fun w' hS' => by go_simp; rfl) ?_
   simp only [nrz]
   refine tkz 1 rfl hS (fun w' hS' => by go_simp; rfl) ?_
   simp only [nrz]
   refine tkz 2 (v := ?cv2) rfl hS (fun w' hS' => ?cy2) ?cz2
   case cy2 =>
    obtain ⟨er, eg, em⟩ := (hM.later hS').cells
    have erd := er d hdR
    have era := er a haR
    have ega := eg a k haR hlt
    rw [partR_at] at ega
    try simp only at ega
    rw [hy] at ega
    have y1 := (kx.below hS' lx).cell (i := 1) rfl
    have y2 := (kx.below hS' lx).cell (i := 2) rfl
    have y5 := (kx.below hS' lx).cell (i := 5) rfl
    have y6 := (kx.below hS' lx).cell (i := 6) rfl
    have y7 := (kx.below hS' lx).cell (i := 7) rfl
    have y8 := (kx.below hS' lx).cell (i := 8) rfl
    have y9 := (kx.below hS' lx).cell (i := 9) rfl
    clear hS' er eg em
    go_simp
    rfl
   simp only [nrz]
   refine tkz 3 (v := ?cv3) rfl hS (fun w' hS' => ?cy3) ?cz3
   case cy3 =>
    go_simp
    try go_ints
    first
    | rfl
    | (rw [if_pos (by omega)]; done)
    | rw [if_pos ⟨by omega, by omega⟩]
   simp only [nrz]
   refine tkz 4 (v := ?cv4) rfl hS (fun w' hS' => ?cy4) ?cz4
   case cy4 =>
    obtain ⟨er, eg, em⟩ := (hM.later hS').cells
    have erd := er d hdR
    have era := er a haR
    have ega := eg a k haR hlt
    rw [partR_at] at ega
    try simp only at ega
    rw [hy] at ega
    have y1 := (kx.below hS' lx).cell (i := 1) rfl
    have y2 := (kx.below hS' lx).cell (i := 2) rfl
    have y5 := (kx.below hS' lx).cell (i := 5) rfl
    have y6 := (kx.below hS' lx).cell (i := 6) rfl
    have y7 := (kx.below hS' lx).cell (i := 7) rfl
    have y8 := (kx.below hS' lx).cell (i := 8) rfl
    have y9 := (kx.below hS' lx).cell (i := 9) rfl
    clear hS' er eg em
    go_simp
    rfl
   simp only [nrz]
   refine tkz 5 rfl hS (fun w' hS' => by go_simp; rfl) ?_
   simp only [nrz]
   refine tkz 6 rfl hS (fun w' hS' => by go_simp; rfl) ?_
   simp only [nrz]
   refine tkz 7 (v := ?cv7) rfl hS (fun w' hS' => ?cy7) ?cz7
   case cy7 =>
    obtain ⟨er, eg, em⟩ := (hM.later hS').cells
    have erd := er d hdR
    have era := er a haR
    have ega := eg a k haR hlt
    rw [partR_at] at ega
    try simp only at ega
    rw [hy] at ega
    have y1 := (kx.below hS' lx).cell (i := 1) rfl
    have y2 := (kx.below hS' lx).cell (i := 2) rfl
    have y5 := (kx.below hS' lx).cell (i := 5) rfl
    have y6 := (kx.below hS' lx).cell (i := 6) rfl
    have y7 := (kx.below hS' lx).cell (i := 7) rfl
    have y8 := (kx.below hS' lx).cell (i := 8) rfl
    have y9 := (kx.below hS' lx).cell (i := 9) rfl
    clear hS' er eg em
    go_simp
    rfl
   simp only [nrz]
   refine tkz 8 rfl hS (fun w' hS' => by go_simp; rfl) ?_
   simp only [nrz]
   refine tkz 9 rfl hS (fun w' hS' => by go_simp; rfl) ?_
   simp only [nrz]
   refine tkz 10 (v := ?cv10) rfl hS (fun w' hS' => ?cy10) ?cz10
   case cy10 =>
    obtain ⟨er, eg, em⟩ := (hM.later hS').cells
    have erd := er d hdR
    have era := er a haR
    have ega := eg a k haR hlt
    rw [partR_at] at ega
    try simp only at ega
    rw [hy] at ega
    have y1 := (kx.below hS' lx).cell (i := 1) rfl
    have y2 := (kx.below hS' lx).cell (i := 2) rfl
    have y5 := (kx.below hS' lx).cell (i := 5) rfl
    have y6 := (kx.below hS' lx).cell (i := 6) rfl
    have y7 := (kx.below hS' lx).cell (i := 7) rfl
    have y8 := (kx.below hS' lx).cell (i := 8) rfl
    have y9 := (kx.below hS' lx).cell (i := 9) rfl
    clear hS' er eg em
    go_simp
    rfl
   simp only [nrz]
   refine tkz 11 (v := ?cv11) rfl hS (fun w' hS' => ?cy11) ?cz11
   case cy11 =>
    go_simp
    try go_ints
    first
    | rfl
    | (rw [if_pos (by omega)]; done)
    | rw [if_pos ⟨by omega, by omega⟩]
   simp only [nrz]
   refine tkz 12 (v := ?cv12) rfl hS (fun w' hS' => ?cy12) ?cz12
   case cy12 =>
    obtain ⟨er, eg, em⟩ := (hM.later hS').cells
    have erd := er d hdR
    have era := er a haR
    have ega := eg a k haR hlt
    rw [partR_at] at ega
    try simp only at ega
    rw [hy] at ega
    have y1 := (kx.below hS' lx).cell (i := 1) rfl
    have y2 := (kx.below hS' lx).cell (i := 2) rfl
    have y5 := (kx.below hS' lx).cell (i := 5) rfl
    have y6 := (kx.below hS' lx).cell (i := 6) rfl
    have y7 := (kx.below hS' lx).cell (i := 7) rfl
    have y8 := (kx.below hS' lx).cell (i := 8) rfl
    have y9 := (kx.below hS' lx).cell (i := 9) rfl
    clear hS' er eg em
    go_simp
    rfl
   simp only [nrz]
   refine tkz 13 rfl hS (fun w' hS' => by go_simp; rfl) ?_
   simp only [nrz]
   refine tkz 14 (v := ?cv14) rfl hS (fun w' hS' => ?cy14) ?cz14
   case cy14 =>
    go_simp
    try go_ints
    first
    | rfl
    | (rw [if_pos (by omega)]; done)
    | rw [if_pos ⟨by omega, by omega⟩]
   simp only [nrz]
   refine tkz 15 (v := ?cv15) rfl hS (fun w' hS' => ?cy15) ?cz15
   case cy15 =>
    obtain ⟨er, eg, em⟩ := (hM.later hS').cells
    have erd := er d hdR
    have era := er a haR
    have ega := eg a k haR hlt
    rw [partR_at] at ega
    try simp only at ega
    rw [hy] at ega
    have y1 := (kx.below hS' lx).cell (i := 1) rfl
    have y2 := (kx.below hS' lx).cell (i := 2) rfl
    have y5 := (kx.below hS' lx).cell (i := 5) rfl
    have y6 := (kx.below hS' lx).cell (i := 6) rfl
    have y7 := (kx.below hS' lx).cell (i := 7) rfl
    have y8 := (kx.below hS' lx).cell (i := 8) rfl
    have y9 := (kx.below hS' lx).cell (i := 9) rfl
    clear hS' er eg em
    go_simp
    rfl
   simp only [nrz]
   refine step_op 16 (by kernel_rfl) rfl (fun K hK => ?_)
   rw [if_pos (by rfl)]
   go_simp
   refine (rpix_any y p hp1H.out X0).mono ?_
   rintro e X1 ⟨rfl, hX⟩
   rw [← hX]
   clear hX X1
   refine hK.out _ _ (fun h => hS) ?_
   clear hK K
   try simp only [Act.put, nrz]
   refine step_op 17 (by kernel_rfl) rfl (fun K hK => ?_)
   rw [if_pos (by rfl)]
   go_simp
   refine (Pointed_any x.pt p z hpH.out hpb.1 hpb.2 hzH.out X0).mono ?_
   rintro e X1 ⟨rfl, hb⟩
   have hS1 : Below wr.heap.size wr X1 := hS.trans (hb.mono hS.size)
   clear hb
   refine hK.out _ _ (fun h => hS1) ?_
   clear hK K
   try simp only [Act.put, nrz]
   refine tkz 18 (v := ?cv18) rfl hS1 (fun w' hS' => ?cy18) ?cz18
   case cy18 =>
    go_simp
    try go_ints
    first
    | rfl
    | (rw [if_pos (by omega)]; done)
    | rw [if_pos ⟨by omega, by omega⟩]
   simp only [nrz]
   refine step_op 19 (by kernel_rfl) rfl (fun K hK => ?_)
   obtain ⟨er, eg, em⟩ := (hM.later hS1).cells
   have egd := eg d k hdR hlt
   have fzd := ((hM.later hS1).rg d hdR).frozenAt k
   clear er eg em
   rw [if_pos (by rfl)]
   go_simp
   refine hK.out _ _ (fun h => absurd h (by omega)) ?_
   clear hK K
   try simp only [Act.put, nrz]
   refine done_ops (by kernel_rfl) ?_
   try clear egd fzd
   obtain ⟨hMs, hbs⟩ := (hM.later hS1).setReg (j := k) hdR z (by have := hBB.size; have := hS1.size; omega)
   have kx2 := (kx.below hS1 kx.lt).kept ((hM.later hS1).rg d hdR |>.stored k (.int .i64 z)).2 ((kx.below hS1 kx.lt).not_row (by decide) ((hM.later hS1).rg d hdR))
   have hBB2 := hBB.trans ((hS1.mono (by have := hBB.size; omega)).trans hbs)
   obtain ⟨X2, hXX2⟩ : ∃ X, X1.setCell ⟨G d, k, none⟩ (.int .i64 z) = X := ⟨_, rfl⟩
   rw [hXX2] at hMs kx2 hBB2
   try rw [hXX2]
   clear hXX2 hbs
   have hM2 := hMs.partS (M := M) (d := d) (k := k) (v := fun j => pix (pointF x.pt (pix (M.regs a j)))) (fun r i => by
    by_cases e : r = d
    ·subst e
     by_cases e1 : i = k
     ·subst e1; simp; exact hvzH.out.symm
     ·simp [e1]
    ·simp [e])
   clear hMs hM kx hBB hS hS1
   go_wp2_with fail
   go_roundw
   case rel => exact ⟨k + 1, by omega, by go_num, hM2, kx2, hBB2⟩
   case measure => simp [intOf]; omega
set_option maxRecDepth 100000 in
set_option maxHeartbeats 4000000 in
theorem carry5_any (B lanes R N : Nat) (M : MacN) (gr gm cr cm : Nat) (G C : Nat → Nat) (w : World) (hM : RefAt B w lanes R N M gr gm cr cm G C) (hl : 1 ≤ lanes ∧ lanes ≤ 16) (hRN : R ≤ 16 ∧ N ≤ 8192) (x : InsN) (ia : Option Addr) (ic : Nat) (hO : x.op = 5) (d : Nat) (hd : x.d = (d : Int)) (hdR : d < R) (a b : Nat) (ha : x.a = (a : Int)) (hb' : x.b = (b : Int)) (haR : a < R) (hbR : b < R) (hhow : 1 ≤ x.how ∧ x.how ≤ 6) (hBw : B ≤ w.heap.size) :
  Calls Try.prog 42 #[insv x ia ic, srow gr R cr, srow gm N cm] w fun e w' => (∃ v, e = .returned v) ∧ RefAt B w' lanes R N (setR M d (fun j => pix (zipF x.how (pix (M.regs a j)) (pix (M.regs b j))))) gr gm cr cm G C ∧ Below B w w' := by
 have hB : Below w.heap.size w w := Below.refl _ _
 obtain ⟨hl1, hl2⟩ := hl
 obtain ⟨hR1, hN1⟩ := hRN
 have hBB : Below B w w := Below.refl _ _
 unfold insv
 rw [hO, hd, ha, hb']
 obtain ⟨V1, hEV1, hbV1, kx⟩ := newB w 95 #[.int .u8 5, .int .i64 (d : Int), .int .i64 (a : Int), .int .i64 (b : Int), .int .i64 x.val, .int .i64 x.pt.mul, .int .i64 x.pt.add, .int .i64 x.pt.div, .int .i64 x.pt.lo, .int .i64 x.pt.hi, .int .u8 x.how, .slice ia x.ad.length ic]
 replace hM := hM.later hbV1
 replace hBB := hBB.trans (hbV1.mono (Nat.le_trans hBw hBB.size))
 replace hB := tmB hB hbV1
 clear hbV1
 obtain ⟨x0, x1, x2, x3, x4, x5, x6, x7, x8, x9, x10, x11⟩ := cz12 kx
 go_enter Try.func42, Try.ntmps42
 go_wp2_with fail
 clear hEV1
 clear x0 x1 x2 x3 x4 x5 x6 x7 x8 x9 x10 x11
 have hMz := hM.part0 d (fun j => pix (zipF x.how (pix (M.regs a j)) (pix (M.regs b j))))
 clear hM hB
 go_loopw [6] (fun i wr => ∃ k : Nat, k ≤ lanes ∧ i = .int .i64 (k : Int) ∧ RefAt B wr lanes R N (partR M d (fun j => pix (zipF x.how (pix (M.regs a j)) (pix (M.regs b j)))) k) gr gm cr cm G C ∧ Blk wr w.heap.size 95 #[.int .u8 5, .int .i64 (d : Int), .int .i64 (a : Int), .int .i64 (b : Int), .int .i64 x.val, .int .i64 x.pt.mul, .int .i64 x.pt.add, .int .i64 x.pt.div, .int .i64 x.pt.lo, .int .i64 x.pt.hi, .int .u8 x.how, .slice ia x.ad.length ic] ∧ Below B w wr) (fun i _ => lanes - (intOf i).toNat)
 case atStart => exact ⟨0, Nat.zero_le _, rfl, hMz, kx, hBB⟩
 case round =>
  clear hMz kx hBB
  obtain ⟨k, hk, rfl, hM, kx, hBB⟩ := hrel
  have er0 := hM.cells.1 0 (by omega)
  by_cases hlt : k < lanes
  case neg =>
   have hkn : lanes = k := by omega
   subst hkn
   have hMf := hM.partA
   go_wp2_with fail
   go_end0
   exact ⟨⟨_, rfl⟩, hMf, hBB⟩
  case pos =>
   have lx := kx.lt
   have x0 := kx.cell (i := 0) rfl
   have hS : Below wr.heap.size wr wr.drew := (Below.refl _ _).drew
   obtain ⟨y, hy⟩ : ∃ y, M.regs a k = y := ⟨_, rfl⟩
   obtain ⟨p, hp1⟩ : ∃ p, pix y = p := ⟨_, rfl⟩
   have hpb := pix_bd y
   rw [hp1] at hpb
   have hp1H := Lib.hid hp1
   obtain ⟨y2, hy2⟩ : ∃ y, M.regs b k = y := ⟨_, rfl⟩
   obtain ⟨p2, hp2⟩ : ∃ p, pix y2 = p := ⟨_, rfl⟩
   have hpb2 := pix_bd y2
   rw [hp2] at hpb2
   have hp2H := Lib.hid hp2
   obtain ⟨z, hz⟩ : ∃ z, pix (zipF x.how p p2) = z := ⟨_, rfl⟩
   have hzH := Lib.hid hz
   have hvz : (fun j => pix (zipF x.how (pix (M.regs a j)) (pix (M.regs b j)))) k = z := by simp only [hy, hp1, hy2, hp2, hz]
   have hvzH := Lib.hid hvz
   clear hvz hz hp2
   go_wp2_with fail
   clear x0 er0 hp1
   refine plain_region (fun W' => Below wr.heap.size wr W') 28 29 (by kernel_rfl) rfl ?_
   simp only [Array.replicate_succ, Array.replicate_zero, List.push_toArray, List.nil_append, List.cons_append]
   obtain ⟨X0, hXX0⟩ : ∃ X : World, wr.drew = X := ⟨_, rfl⟩
   rw [hXX0] at hS ⊢
   clear hXX0
   refine tkz 0 rfl hS (fun w' hS' => by go_simp; rfl) ?_
   simp only [nrz]
   refine tkz 1 rfl hS (fun w' hS' => by go_simp; rfl) ?_
   simp only [nrz]
   refine tkz 2 (v := ?cv2) rfl hS (fun w' hS' => ?cy2) ?cz2
   case cy2 =>
    obtain ⟨er, eg, em⟩ := (hM.later hS').cells
    have erd := er d hdR
    have era := er a haR
    have ega := eg a k haR hlt
    rw [partR_at] at ega
    try simp only at ega
    rw [hy] at ega
    have erb := er b hbR
    have egb := eg b k hbR hlt
    rw [partR_at, hy2] at egb
    have y1 := (kx.below hS' lx).cell (i := 1) rfl
    have y2 := (kx.below hS' lx).cell (i := 2) rfl
    have y3 := (kx.below hS' lx).cell (i := 3) rfl
    have y10 := (kx.below hS' lx).cell (i := 10) rfl
    clear hS' er eg em
    go_simp
    rfl
   simp only [nrz]
   refine tkz 3 (v := ?cv3) rfl hS (fun w' hS' => ?cy3) ?cz3
   case cy3 =>
    go_simp
    try go_ints
    first
    | rfl
    | (rw [if_pos (by omega)]; done)
    | rw [if_pos ⟨by omega, by omega⟩]
   simp only [nrz]
   refine tkz 4 (v := ?cv4) rfl hS (fun w' hS' => ?cy4) ?cz4
   case cy4 =>
    obtain ⟨er, eg, em⟩ := (hM.later hS').cells
    have erd := er d hdR
    have era := er a haR
    have ega := eg a k haR hlt
    rw [partR_at] at ega
    try simp only at ega
    rw [hy] at ega
    have erb := er b hbR
    have egb := eg b k hbR hlt
    rw [partR_at, hy2] at egb
    have y1 := (kx.below hS' lx).cell (i := 1) rfl
    have y2 := (kx.below hS' lx).cell (i := 2) rfl
    have y3 := (kx.below hS' lx).cell (i := 3) rfl
    have y10 := (kx.below hS' lx).cell (i := 10) rfl
    clear hS' er eg em
    go_simp
    rfl
   simp only [nrz]
   refine tkz 5 rfl hS (fun w' hS' => by go_simp; rfl) ?_
   simp only [nrz]
   refine tkz 6 rfl hS (fun w' hS' => by go_simp; rfl) ?_
   simp only [nrz]
   refine tkz 7 (v := ?cv7) rfl hS (fun w' hS' => ?cy7) ?cz7
   case cy7 =>
    obtain ⟨er, eg, em⟩ := (hM.later hS').cells
    have erd := er d hdR
    have era := er a haR
    have ega := eg a k haR hlt
    rw [partR_at] at ega
    try simp only at ega
    rw [hy] at ega
    have erb := er b hbR
    have egb := eg b k hbR hlt
    rw [partR_at, hy2] at egb
    have y1 := (kx.below hS' lx).cell (i := 1) rfl
    have y2 := (kx.below hS' lx).cell (i := 2) rfl
    have y3 := (kx.below hS' lx).cell (i := 3) rfl
    have y10 := (kx.below hS' lx).cell (i := 10) rfl
    clear hS' er eg em
    go_simp
    rfl
   simp only [nrz]
   refine tkz 8 rfl hS (fun w' hS' => by go_simp; rfl) ?_
   simp only [nrz]
   refine tkz 9 rfl hS (fun w' hS' => by go_simp; rfl) ?_
   simp only [nrz]
   refine tkz 10 (v := ?cv10) rfl hS (fun w' hS' => ?cy10) ?cz10
   case cy10 =>
    obtain ⟨er, eg, em⟩ := (hM.later hS').cells
    have erd := er d hdR
    have era := er a haR
    have ega := eg a k haR hlt
    rw [partR_at] at ega
    try simp only at ega
    rw [hy] at ega
    have erb := er b hbR
    have egb := eg b k hbR hlt
    rw [partR_at, hy2] at egb
    have y1 := (kx.below hS' lx).cell (i := 1) rfl
    have y2 := (kx.below hS' lx).cell (i := 2) rfl
    have y3 := (kx.below hS' lx).cell (i := 3) rfl
    have y10 := (kx.below hS' lx).cell (i := 10) rfl
    clear hS' er eg em
    go_simp
    rfl
   simp only [nrz]
   refine tkz 11 (v := ?cv11) rfl hS (fun w' hS' => ?cy11) ?cz11
   case cy11 =>
    go_simp
    try go_ints
    first
    | rfl
    | (rw [if_pos (by omega)]; done)
    | rw [if_pos ⟨by omega, by omega⟩]
   simp only [nrz]
   refine tkz 12 (v := ?cv12) rfl hS (fun w' hS' => ?cy12) ?cz12
   case cy12 =>
    obtain ⟨er, eg, em⟩ := (hM.later hS').cells
    have erd := er d hdR
    have era := er a haR
    have ega := eg a k haR hlt
    rw [partR_at] at ega
    try simp only at ega
    rw [hy] at ega
    have erb := er b hbR
    have egb := eg b k hbR hlt
    rw [partR_at, hy2] at egb
    have y1 := (kx.below hS' lx).cell (i := 1) rfl
    have y2 := (kx.below hS' lx).cell (i := 2) rfl
    have y3 := (kx.below hS' lx).cell (i := 3) rfl
    have y10 := (kx.below hS' lx).cell (i := 10) rfl
    clear hS' er eg em
    go_simp
    rfl
   simp only [nrz]
   refine tkz 13 rfl hS (fun w' hS' => by go_simp; rfl) ?_
   simp only [nrz]
   refine tkz 14 (v := ?cv14) rfl hS (fun w' hS' => ?cy14) ?cz14
   case cy14 =>
    go_simp
    try go_ints
    first
    | rfl
    | (rw [if_pos (by omega)]; done)
    | rw [if_pos ⟨by omega, by omega⟩]
   simp only [nrz]
   refine tkz 15 (v := ?cv15) rfl hS (fun w' hS' => ?cy15) ?cz15
   case cy15 =>
    obtain ⟨er, eg, em⟩ := (hM.later hS').cells
    have erd := er d hdR
    have era := er a haR
    have ega := eg a k haR hlt
    rw [partR_at] at ega
    try simp only at ega
    rw [hy] at ega
    have erb := er b hbR
    have egb := eg b k hbR hlt
    rw [partR_at, hy2] at egb
    have y1 := (kx.below hS' lx).cell (i := 1) rfl
    have y2 := (kx.below hS' lx).cell (i := 2) rfl
    have y3 := (kx.below hS' lx).cell (i := 3) rfl
    have y10 := (kx.below hS' lx).cell (i := 10) rfl
    clear hS' er eg em
    go_simp
    rfl
   simp only [nrz]
   refine tkz 17 rfl hS (fun w' hS' => by go_simp; rfl) ?_
   simp only [nrz]
   refine tkz 18 rfl hS (fun w' hS' => by go_simp; rfl) ?_
   simp only [nrz]
   refine tkz 19 (v := ?cv19) rfl hS (fun w' hS' => ?cy19) ?cz19
   case cy19 =>
    obtain ⟨er, eg, em⟩ := (hM.later hS').cells
    have erd := er d hdR
    have era := er a haR
    have ega := eg a k haR hlt
    rw [partR_at] at ega
    try simp only at ega
    rw [hy] at ega
    have erb := er b hbR
    have egb := eg b k hbR hlt
    rw [partR_at, hy2] at egb
    have y1 := (kx.below hS' lx).cell (i := 1) rfl
    have y2 := (kx.below hS' lx).cell (i := 2) rfl
    have y3 := (kx.below hS' lx).cell (i := 3) rfl
    have y10 := (kx.below hS' lx).cell (i := 10) rfl
    clear hS' er eg em
    go_simp
    rfl
   simp only [nrz]
   refine tkz 20 (v := ?cv20) rfl hS (fun w' hS' => ?cy20) ?cz20
   case cy20 =>
    go_simp
    try go_ints
    first
    | rfl
    | (rw [if_pos (by omega)]; done)
    | rw [if_pos ⟨by omega, by omega⟩]
   simp only [nrz]
   refine tkz 21 (v := ?cv21) rfl hS (fun w' hS' => ?cy21) ?cz21
   case cy21 =>
    obtain ⟨er, eg, em⟩ := (hM.later hS').cells
    have erd := er d hdR
    have era := er a haR
    have ega := eg a k haR hlt
    rw [partR_at] at ega
    try simp only at ega
    rw [hy] at ega
    have erb := er b hbR
    have egb := eg b k hbR hlt
    rw [partR_at, hy2] at egb
    have y1 := (kx.below hS' lx).cell (i := 1) rfl
    have y2 := (kx.below hS' lx).cell (i := 2) rfl
    have y3 := (kx.below hS' lx).cell (i := 3) rfl
    have y10 := (kx.below hS' lx).cell (i := 10) rfl
    clear hS' er eg em
    go_simp
    rfl
   simp only [nrz]
   refine tkz 22 rfl hS (fun w' hS' => by go_simp; rfl) ?_
   simp only [nrz]
   refine tkz 23 (v := ?cv23) rfl hS (fun w' hS' => ?cy23) ?cz23
   case cy23 =>
    go_simp
    try go_ints
    first
    | rfl
    | (rw [if_pos (by omega)]; done)
    | rw [if_pos ⟨by omega, by omega⟩]
   simp only [nrz]
   refine tkz 24 (v := ?cv24) rfl hS (fun w' hS' => ?cy24) ?cz24
   case cy24 =>
    obtain ⟨er, eg, em⟩ := (hM.later hS').cells
    have erd := er d hdR
    have era := er a haR
    have ega := eg a k haR hlt
    rw [partR_at] at ega
    try simp only at ega
    rw [hy] at ega
    have erb := er b hbR
    have egb := eg b k hbR hlt
    rw [partR_at, hy2] at egb
    have y1 := (kx.below hS' lx).cell (i := 1) rfl
    have y2 := (kx.below hS' lx).cell (i := 2) rfl
    have y3 := (kx.below hS' lx).cell (i := 3) rfl
    have y10 := (kx.below hS' lx).cell (i := 10) rfl
    clear hS' er eg em
    go_simp
    rfl
   simp only [nrz]
   refine step_op 16 (by kernel_rfl) rfl (fun K hK => ?_)
   rw [if_pos (by rfl)]
   go_simp
   refine (rpix_any y p hp1H.out X0).mono ?_
   rintro e X1 ⟨rfl, hX⟩
   rw [← hX]
   clear hX X1
   refine hK.out _ _ (fun h => hS) ?_
   clear hK K
   try simp only [Act.put, nrz]
   refine step_op 25 (by kernel_rfl) rfl (fun K hK => ?_)
   rw [if_pos (by rfl)]
   go_simp
   refine (rpix_any y2 p2 hp2H.out X0).mono ?_
   rintro e X1 ⟨rfl, hX⟩
   rw [← hX]
   clear hX X1
   refine hK.out _ _ (fun h => hS) ?_
   clear hK K
   try simp only [Act.put, nrz]
   refine step_op 26 (by kernel_rfl) rfl (fun K hK => ?_)
   rw [if_pos (by rfl)]
   go_simp
   refine (Zipped_any x.how p p2 z hhow.1 hhow.2 hpb.1 hpb.2 hpb2.1 hpb2.2 hzH.out X0).mono ?_
   rintro e X1 ⟨rfl, hX⟩
   rw [← hX]
   clear hX X1
   refine hK.out _ _ (fun h => hS) ?_
   clear hK K
   try simp only [Act.put, nrz]
   refine tkz 27 (v := ?cv27) rfl hS (fun w' hS' => ?cy27) ?cz27
   case cy27 =>
    go_simp
    try go_ints
    first
    | rfl
    | (rw [if_pos (by omega)]; done)
    | rw [if_pos ⟨by omega, by omega⟩]
   simp only [nrz]
   refine step_op 28 (by kernel_rfl) rfl (fun K hK => ?_)
   obtain ⟨er, eg, em⟩ := (hM.later hS).cells
   have egd := eg d k hdR hlt
   have fzd := ((hM.later hS).rg d hdR).frozenAt k
   clear er eg em
   rw [if_pos (by rfl)]
   go_simp
   refine hK.out _ _ (fun h => absurd h (by omega)) ?_
   clear hK K
   try simp only [Act.put, nrz]
   refine done_ops (by kernel_rfl) ?_
   try clear egd fzd
   obtain ⟨hMs, hbs⟩ := (hM.later hS).setReg (j := k) hdR z (by have := hBB.size; have := hS.size; omega)
   have kx2 := (kx.below hS kx.lt).kept ((hM.later hS).rg d hdR |>.stored k (.int .i64 z)).2 ((kx.below hS kx.lt).not_row (by decide) ((hM.later hS).rg d hdR))
   have hBB2 := hBB.trans ((hS.mono (by have := hBB.size; omega)).trans hbs)
   obtain ⟨X2, hXX2⟩ : ∃ X, X0.setCell ⟨G d, k, none⟩ (.int .i64 z) = X := ⟨_, rfl⟩
   rw [hXX2] at hMs kx2 hBB2
   try rw [hXX2]
   clear hXX2 hbs
   have hM2 := hMs.partS (M := M) (d := d) (k := k) (v := fun j => pix (zipF x.how (pix (M.regs a j)) (pix (M.regs b j)))) (fun r i => by
    by_cases e : r = d
    ·subst e
     by_cases e1 : i = k
     ·subst e1; simp; exact hvzH.out.symm
     ·simp [e1]
    ·simp [e])
   clear hMs hM kx hBB hS
   go_wp2_with fail
   go_roundw
   case rel => exact ⟨k + 1, by omega, by go_num, hM2, kx2, hBB2⟩
   case measure => simp [intOf]; omega
set_option maxRecDepth 100000 in
set_option maxHeartbeats 4000000 in
theorem carry6_any (B lanes R N : Nat) (M : MacN) (gr gm cr cm : Nat) (G C : Nat → Nat) (w : World) (hM : RefAt B w lanes R N M gr gm cr cm G C) (hl : 1 ≤ lanes ∧ lanes ≤ 16) (hRN : R ≤ 16 ∧ N ≤ 8192) (x : InsN) (ia : Option Addr) (ic : Nat) (hO : x.op = 6) (d : Nat) (hd : x.d = (d : Int)) (hdR : d < R) (a : Nat) (ha : x.a = (a : Int)) (haR : a < R) (hv1 : -65536 ≤ x.val) (hv2 : x.val ≤ 65536) (hbd : ∀ k, k < lanes → -1152921504606846976 ≤ M.regs d k ∧ M.regs d k ≤ 1152921504606846976) (hBw : B ≤ w.heap.size) :
  Calls Try.prog 42 #[insv x ia ic, srow gr R cr, srow gm N cm] w fun e w' => (∃ v, e = .returned v) ∧ RefAt B w' lanes R N (setR M d (fun j => wide (M.regs d j + x.val * pix (M.regs a j)))) gr gm cr cm G C ∧ Below B w w' := by
 have hB : Below w.heap.size w w := Below.refl _ _
 obtain ⟨hl1, hl2⟩ := hl
 obtain ⟨hR1, hN1⟩ := hRN
 have hBB : Below B w w := Below.refl _ _
 unfold insv
 rw [hO, hd, ha]
 have hbdH := Lib.hid hbd
 clear hbd
 obtain ⟨V1, hEV1, hbV1, kx⟩ := newB w 95 #[.int .u8 6, .int .i64 (d : Int), .int .i64 (a : Int), .int .i64 x.b, .int .i64 x.val, .int .i64 x.pt.mul, .int .i64 x.pt.add, .int .i64 x.pt.div, .int .i64 x.pt.lo, .int .i64 x.pt.hi, .int .u8 x.how, .slice ia x.ad.length ic]
 replace hM := hM.later hbV1
 replace hBB := hBB.trans (hbV1.mono (Nat.le_trans hBw hBB.size))
 replace hB := tmB hB hbV1
 clear hbV1
 obtain ⟨x0, x1, x2, x3, x4, x5, x6, x7, x8, x9, x10, x11⟩ := cz12 kx
 go_enter Try.func42, Try.ntmps42
 go_wp2_with fail
 clear hEV1
 clear x0 x1 x2 x3 x4 x5 x6 x7 x8 x9 x10 x11
 have hMz := hM.part0 d (fun j => wide (M.regs d j + x.val * pix (M.regs a j)))
 clear hM hB
 go_loopw [6] (fun i wr => ∃ k : Nat, k ≤ lanes ∧ i = .int .i64 (k : Int) ∧ RefAt B wr lanes R N (partR M d (fun j => wide (M.regs d j + x.val * pix (M.regs a j))) k) gr gm cr cm G C ∧ Blk wr w.heap.size 95 #[.int .u8 6, .int .i64 (d : Int), .int .i64 (a : Int), .int .i64 x.b, .int .i64 x.val, .int .i64 x.pt.mul, .int .i64 x.pt.add, .int .i64 x.pt.div, .int .i64 x.pt.lo, .int .i64 x.pt.hi, .int .u8 x.how, .slice ia x.ad.length ic] ∧ Below B w wr) (fun i _ => lanes - (intOf i).toNat)
 case atStart => exact ⟨0, Nat.zero_le _, rfl, hMz, kx, hBB⟩
 case round =>
  clear hMz kx hBB
  obtain ⟨k, hk, rfl, hM, kx, hBB⟩ := hrel
  have er0 := hM.cells.1 0 (by omega)
  by_cases hlt : k < lanes
  case neg =>
   have hkn : lanes = k := by omega
   subst hkn
   have hMf := hM.partA
   go_wp2_with fail
   go_end0
   exact ⟨⟨_, rfl⟩, hMf, hBB⟩
  case pos =>
   have lx := kx.lt
   have x0 := kx.cell (i := 0) rfl
   have hS : Below wr.heap.size wr wr.drew := (Below.refl _ _).drew
   obtain ⟨y, hy⟩ : ∃ y, M.regs a k = y := ⟨_, rfl⟩
   obtain ⟨p, hp1⟩ : ∃ p, pix y = p := ⟨_, rfl⟩
   have hpb := pix_bd y
   rw [hp1] at hpb
   have hp1H := Lib.hid hp1
   obtain ⟨q, hq⟩ : ∃ q, M.regs d k = q := ⟨_, rfl⟩
   obtain ⟨hq1, hq2⟩ := hbdH.out k hlt
   rw [hq] at hq1 hq2
   have hmb := mul_bd (a := x.val) (b := p) (m := 65536) (n := 2147483648) hv1 hv2 hpb.1 hpb.2 (by omega) (by omega)
   obtain ⟨mp, hmp⟩ : ∃ m, x.val * p = m := ⟨_, rfl⟩
   rw [hmp] at hmb
   simp only [Int.reduceMul] at hmb
   obtain ⟨sm, hsm⟩ : ∃ s, q + mp = s := ⟨_, rfl⟩
   obtain ⟨z, hz⟩ : ∃ z, clamp sm (-1152921504606846976) 1152921504606846976 = z := ⟨_, rfl⟩
   have hvz : (fun j => wide (M.regs d j + x.val * pix (M.regs a j))) k = z := by simp only [hy, hp1, hq, hmp, hsm]; exact hz
   have hvzH := Lib.hid hvz
   have hzH := Lib.hid hz
   have hmpH := Lib.hid hmp
   have hsmH := Lib.hid hsm
   clear hvz hz
   clear hp1
   go_wp2_with fail
   clear x0 er0
   refine plain_region (fun W' => Below wr.heap.size wr W') 29 30 (by kernel_rfl) rfl ?_
   simp only [Array.replicate_succ, Array.replicate_zero, List.push_toArray, List.nil_append, List.cons_append]
   obtain ⟨X0, hXX0⟩ : ∃ X : World, wr.drew = X := ⟨_, rfl⟩
   rw [hXX0] at hS ⊢
   clear hXX0
   refine tkz 0 rfl hS (fun w' hS' => by go_simp; rfl) ?_
   simp only [nrz]
   refine tkz 1 rfl hS (fun w' hS' => by go_simp; rfl) ?_
   simp only [nrz]
   refine tkz 2 (v := ?cv2) rfl hS (fun w' hS' => ?cy2) ?cz2
   case cy2 =>
    obtain ⟨er, eg, em⟩ := (hM.later hS').cells
    have erd := er d hdR
    have era := er a haR
    have ega := eg a k haR hlt
    rw [partR_at] at ega
    try simp only at ega
    rw [hy] at ega
    have egd := eg d k hdR hlt
    rw [partR_at, hq] at egd
    have y1 := (kx.below hS' lx).cell (i := 1) rfl
    have y2 := (kx.below hS' lx).cell (i := 2) rfl
    have y4 := (kx.below hS' lx).cell (i := 4) rfl
    clear hS' er eg em
    go_simp
    rfl
   simp only [nrz]
   refine tkz 3 (v := ?cv3) rfl hS (fun w' hS' => ?cy3) ?cz3
   case cy3 =>
    go_simp
    try go_ints
    first
    | rfl
    | (rw [if_pos (by omega)]; done)
    | rw [if_pos ⟨by omega, by omega⟩]
   simp only [nrz]
   refine tkz 4 (v := ?cv4) rfl hS (fun w' hS' => ?cy4) ?cz4
   case cy4 =>
    obtain ⟨er, eg, em⟩ := (hM.later hS').cells
    have erd := er d hdR
    have era := er a haR
    have ega := eg a k haR hlt
    rw [partR_at] at ega
    try simp only at ega
    rw [hy] at ega
    have egd := eg d k hdR hlt
    rw [partR_at, hq] at egd
    have y1 := (kx.below hS' lx).cell (i := 1) rfl
    have y2 := (kx.below hS' lx).cell (i := 2) rfl
    have y4 := (kx.below hS' lx).cell (i := 4) rfl
    clear hS' er eg em
    go_simp
    rfl
   simp only [nrz]
   refine tkz 5 rfl hS (fun w' hS' => by go_simp; rfl) ?_
   simp only [nrz]
   refine tkz 6 rfl hS (fun w' hS' => by go_simp; rfl) ?_
   simp only [nrz]
   refine tkz 7 rfl hS (fun w' hS' => by go_simp; rfl) ?_
   simp only [nrz]
   refine tkz 8 (v := ?cv8) rfl hS (fun w' hS' => ?cy8) ?cz8
   case cy8 =>
    obtain ⟨er, eg, em⟩ := (hM.later hS').cells
    have erd := er d hdR
    have era := er a haR
    have ega := eg a k haR hlt
    rw [partR_at] at ega
    try simp only at ega
    rw [hy] at ega
    have egd := eg d k hdR hlt
    rw [partR_at, hq] at egd
    have y1 := (kx.below hS' lx).cell (i := 1) rfl
    have y2 := (kx.below hS' lx).cell (i := 2) rfl
    have y4 := (kx.below hS' lx).cell (i := 4) rfl
    clear hS' er eg em
    go_simp
    rfl
   simp only [nrz]
   refine tkz 9 (v := ?cv9) rfl hS (fun w' hS' => ?cy9) ?cz9
   case cy9 =>
    go_simp
    try go_ints
    first
    | rfl
    | (rw [if_pos (by omega)]; done)
    | rw [if_pos ⟨by omega, by omega⟩]
   simp only [nrz]
   refine tkz 10 (v := ?cv10) rfl hS (fun w' hS' => ?cy10) ?cz10
   case cy10 =>
    obtain ⟨er, eg, em⟩ := (hM.later hS').cells
    have erd := er d hdR
    have era := er a haR
    have ega := eg a k haR hlt
    rw [partR_at] at ega
    try simp only at ega
    rw [hy] at ega
    have egd := eg d k hdR hlt
    rw [partR_at, hq] at egd
    have y1 := (kx.below hS' lx).cell (i := 1) rfl
    have y2 := (kx.below hS' lx).cell (i := 2) rfl
    have y4 := (kx.below hS' lx).cell (i := 4) rfl
    clear hS' er eg em
    go_simp
    rfl
   simp only [nrz]
   refine tkz 11 rfl hS (fun w' hS' => by go_simp; rfl) ?_
   simp only [nrz]
   refine tkz 12 (v := ?cv12) rfl hS (fun w' hS' => ?cy12) ?cz12
   case cy12 =>
    go_simp
    try go_ints
    first
    | rfl
    | (rw [if_pos (by omega)]; done)
    | rw [if_pos ⟨by omega, by omega⟩]
   simp only [nrz]
   refine tkz 13 (v := ?cv13) rfl hS (fun w' hS' => ?cy13) ?cz13
   case cy13 =>
    obtain ⟨er, eg, em⟩ := (hM.later hS').cells
    have erd := er d hdR
    have era := er a haR
    have ega := eg a k haR hlt
    rw [partR_at] at ega
    try simp only at ega
    rw [hy] at ega
    have egd := eg d k hdR hlt
    rw [partR_at, hq] at egd
    have y1 := (kx.below hS' lx).cell (i := 1) rfl
    have y2 := (kx.below hS' lx).cell (i := 2) rfl
    have y4 := (kx.below hS' lx).cell (i := 4) rfl
    clear hS' er eg em
    go_simp
    rfl
   simp only [nrz]
   refine tkz 14 rfl hS (fun w' hS' => by go_simp; rfl) ?_
   simp only [nrz]
   refine tkz 15 (v := ?cv15) rfl hS (fun w' hS' => ?cy15) ?cz15
   case cy15 =>
    obtain ⟨er, eg, em⟩ := (hM.later hS').cells
    have erd := er d hdR
    have era := er a haR
    have ega := eg a k haR hlt
    rw [partR_at] at ega
    try simp only at ega
    rw [hy] at ega
    have egd := eg d k hdR hlt
    rw [partR_at, hq] at egd
    have y1 := (kx.below hS' lx).cell (i := 1) rfl
    have y2 := (kx.below hS' lx).cell (i := 2) rfl
    have y4 := (kx.below hS' lx).cell (i := 4) rfl
    clear hS' er eg em
    go_simp
    rfl
   simp only [nrz]
   refine tkz 16 rfl hS (fun w' hS' => by go_simp; rfl) ?_
   simp only [nrz]
   refine tkz 17 rfl hS (fun w' hS' => by go_simp; rfl) ?_
   simp only [nrz]
   refine tkz 18 (v := ?cv18) rfl hS (fun w' hS' => ?cy18) ?cz18
   case cy18 =>
    obtain ⟨er, eg, em⟩ := (hM.later hS').cells
    have erd := er d hdR
    have era := er a haR
    have ega := eg a k haR hlt
    rw [partR_at] at ega
    try simp only at ega
    rw [hy] at ega
    have egd := eg d k hdR hlt
    rw [partR_at, hq] at egd
    have y1 := (kx.below hS' lx).cell (i := 1) rfl
    have y2 := (kx.below hS' lx).cell (i := 2) rfl
    have y4 := (kx.below hS' lx).cell (i := 4) rfl
    clear hS' er eg em
    go_simp
    rfl
   simp only [nrz]
   refine tkz 19 (v := ?cv19) rfl hS (fun w' hS' => ?cy19) ?cz19
   case cy19 =>
    go_simp
    try go_ints
    first
    | rfl
    | (rw [if_pos (by omega)]; done)
    | rw [if_pos ⟨by omega, by omega⟩]
   simp only [nrz]
   refine tkz 20 (v := ?cv20) rfl hS (fun w' hS' => ?cy20) ?cz20
   case cy20 =>
    obtain ⟨er, eg, em⟩ := (hM.later hS').cells
    have erd := er d hdR
    have era := er a haR
    have ega := eg a k haR hlt
    rw [partR_at] at ega
    try simp only at ega
    rw [hy] at ega
    have egd := eg d k hdR hlt
    rw [partR_at, hq] at egd
    have y1 := (kx.below hS' lx).cell (i := 1) rfl
    have y2 := (kx.below hS' lx).cell (i := 2) rfl
    have y4 := (kx.below hS' lx).cell (i := 4) rfl
    clear hS' er eg em
    go_simp
    rfl
   simp only [nrz]
   refine tkz 21 rfl hS (fun w' hS' => by go_simp; rfl) ?_
   simp only [nrz]
   refine tkz 22 (v := ?cv22) rfl hS (fun w' hS' => ?cy22) ?cz22
   case cy22 =>
    go_simp
    try go_ints
    first
    | rfl
    | (rw [if_pos (by omega)]; done)
    | rw [if_pos ⟨by omega, by omega⟩]
   simp only [nrz]
   refine tkz 23 (v := ?cv23) rfl hS (fun w' hS' => ?cy23) ?cz23
   case cy23 =>
    obtain ⟨er, eg, em⟩ := (hM.later hS').cells
    have erd := er d hdR
    have era := er a haR
    have ega := eg a k haR hlt
    rw [partR_at] at ega
    try simp only at ega
    rw [hy] at ega
    have egd := eg d k hdR hlt
    rw [partR_at, hq] at egd
    have y1 := (kx.below hS' lx).cell (i := 1) rfl
    have y2 := (kx.below hS' lx).cell (i := 2) rfl
    have y4 := (kx.below hS' lx).cell (i := 4) rfl
    clear hS' er eg em
    go_simp
    rfl
   simp only [nrz]
   refine step_op 24 (by kernel_rfl) rfl (fun K hK => ?_)
   rw [if_pos (by rfl)]
   go_simp
   refine (rpix_any y p hp1H.out X0).mono ?_
   rintro e X1 ⟨rfl, hX⟩
   rw [← hX]
   clear hX X1
   refine hK.out _ _ (fun h => hS) ?_
   clear hK K
   try simp only [Act.put, nrz]
   refine tkz 25 (v := .int .i64 mp) rfl hS (fun w' hS' => ?cy25) ?cz25
   case cy25 =>
    clear hS'
    have h0 := hmpH.out
    go_simp
    first
     | (go_ints; done)
     | go_num
     | (go_ints; trivial)
   simp only [nrz]
   refine tkz 26 (v := .int .i64 sm) rfl hS (fun w' hS' => ?cy26) ?cz26
   case cy26 =>
    clear hS'
    have h0 := hsmH.out
    go_simp
    first
     | (go_ints; done)
     | go_num
     | (go_ints; trivial)
   simp only [nrz]
   refine step_op 27 (by kernel_rfl) rfl (fun K hK => ?_)
   rw [if_pos (by rfl)]
   go_simp
   refine (Into_any sm (-1152921504606846976) 1152921504606846976 X0).mono ?_
   rintro e X1 ⟨rfl, hX⟩
   rw [← hX, hzH.out]
   clear hX X1
   refine hK.out _ _ (fun h => hS) ?_
   clear hK K
   try simp only [Act.put, nrz]
   refine tkz 28 (v := ?cv28) rfl hS (fun w' hS' => ?cy28) ?cz28
   case cy28 =>
    go_simp
    try go_ints
    first
    | rfl
    | (rw [if_pos (by omega)]; done)
    | rw [if_pos ⟨by omega, by omega⟩]
   simp only [nrz]
   refine step_op 29 (by kernel_rfl) rfl (fun K hK => ?_)
   obtain ⟨er, eg, em⟩ := (hM.later hS).cells
   have egd := eg d k hdR hlt
   have fzd := ((hM.later hS).rg d hdR).frozenAt k
   clear er eg em
   rw [if_pos (by rfl)]
   go_simp
   refine hK.out _ _ (fun h => absurd h (by omega)) ?_
   clear hK K
   try simp only [Act.put, nrz]
   refine done_ops (by kernel_rfl) ?_
   try clear egd fzd
   obtain ⟨hMs, hbs⟩ := (hM.later hS).setReg (j := k) hdR z (by have := hBB.size; have := hS.size; omega)
   have kx2 := (kx.below hS kx.lt).kept ((hM.later hS).rg d hdR |>.stored k (.int .i64 z)).2 ((kx.below hS kx.lt).not_row (by decide) ((hM.later hS).rg d hdR))
   have hBB2 := hBB.trans ((hS.mono (by have := hBB.size; omega)).trans hbs)
   obtain ⟨X2, hXX2⟩ : ∃ X, X0.setCell ⟨G d, k, none⟩ (.int .i64 z) = X := ⟨_, rfl⟩
   rw [hXX2] at hMs kx2 hBB2
   try rw [hXX2]
   clear hXX2 hbs
   have hM2 := hMs.partS (M := M) (d := d) (k := k) (v := fun j => wide (M.regs d j + x.val * pix (M.regs a j))) (fun r i => by
    by_cases e : r = d
    ·subst e
     by_cases e1 : i = k
     ·subst e1; simp; exact hvzH.out.symm
     ·simp [e1]
    ·simp [e])
   clear hMs hM kx hBB hS
   go_wp2_with fail
   go_roundw
   case rel => exact ⟨k + 1, by omega, by go_num, hM2, kx2, hBB2⟩
   case measure => simp [intOf]; omega
set_option maxRecDepth 100000 in
set_option maxHeartbeats 4000000 in
theorem carry2_any (B lanes R N : Nat) (M : MacN) (gr gm cr cm : Nat) (G C : Nat → Nat) (w : World) (hM : RefAt B w lanes R N M gr gm cr cm G C) (hl : 1 ≤ lanes ∧ lanes ≤ 16) (hRN : R ≤ 16 ∧ N ≤ 8192) (x : InsN) (ia : Option Addr) (ic : Nat) (hO : x.op = 2) (a : Nat) (ha : x.a = (a : Int)) (haR : a < R) (hal : x.ad.length = lanes) (hra : Rd B w ia x.ad) (hin : ∀ k, k < lanes → -1 ≤ adOf x k ∧ adOf x k < N) (hBw : B ≤ w.heap.size) :
  Calls Try.prog 42 #[insv x ia ic, srow gr R cr, srow gm N cm] w fun e w' => (∃ v, e = .returned v) ∧ RefAt B w' lanes R N (⟨M.regs, stoM (adOf x) (fun j => pix (M.regs a j)) M.mem lanes⟩) gr gm cr cm G C ∧ Below B w w' := by
 have hB : Below w.heap.size w w := Below.refl _ _
 obtain ⟨hl1, hl2⟩ := hl
 obtain ⟨hR1, hN1⟩ := hRN
 have hBB : Below B w w := Below.refl _ _
 unfold insv
 rw [hO, ha, hal]
 obtain ⟨b, o, rfl, hbl, hra2⟩ : ∃ b o, ia = some ⟨b, o, none⟩ ∧ b < B ∧ ∀ i, i < lanes → w.cell? ⟨b, o + i, none⟩ = some (.int .i64 (x.ad[i]?.getD 0)) := by
  rcases hra with h | ⟨b, o, h1, h2, h3⟩
  ·rw [h] at hal; simp at hal; omega
  ·exact ⟨b, o, h1, h2, fun i hi => h3 i (by omega)⟩
 have hraH := Lib.hid hra2
 have hinH := Lib.hid hin
 clear hra2 hin
 obtain ⟨V1, hEV1, hbV1, kx⟩ := newB w 95 #[.int .u8 2, .int .i64 x.d, .int .i64 (a : Int), .int .i64 x.b, .int .i64 x.val, .int .i64 x.pt.mul, .int .i64 x.pt.add, .int .i64 x.pt.div, .int .i64 x.pt.lo, .int .i64 x.pt.hi, .int .u8 x.how, .slice (some ⟨b, o, none⟩) lanes ic]
 replace hM := hM.later hbV1
 replace hBB := hBB.trans (hbV1.mono (Nat.le_trans hBw hBB.size))
 replace hB := tmB hB hbV1
 clear hbV1
 obtain ⟨x0, x1, x2, x3, x4, x5, x6, x7, x8, x9, x10, x11⟩ := cz12 kx
 go_enter Try.func42, Try.ntmps42
 go_wp2_with fail
 clear hEV1
 clear x0 x1 x2 x3 x4 x5 x6 x7 x8 x9 x10 x11
 have hMz := hM
 clear hM hB
 go_loopw [6] (fun i wr => ∃ k : Nat, k ≤ lanes ∧ i = .int .i64 (k : Int) ∧ RefAt B wr lanes R N (⟨M.regs, stoM (adOf x) (fun j => pix (M.regs a j)) M.mem k⟩) gr gm cr cm G C ∧ Blk wr w.heap.size 95 #[.int .u8 2, .int .i64 x.d, .int .i64 (a : Int), .int .i64 x.b, .int .i64 x.val, .int .i64 x.pt.mul, .int .i64 x.pt.add, .int .i64 x.pt.div, .int .i64 x.pt.lo, .int .i64 x.pt.hi, .int .u8 x.how, .slice (some ⟨b, o, none⟩) lanes ic] ∧ Below B w wr) (fun i _ => lanes - (intOf i).toNat)
 case atStart => exact ⟨0, Nat.zero_le _, rfl, hMz, kx, hBB⟩
 case round =>
  clear hMz kx hBB
  obtain ⟨k, hk, rfl, hM, kx, hBB⟩ := hrel
  have er0 := hM.cells.1 0 (by omega)
  by_cases hlt : k < lanes
  case neg =>
   have hkn : lanes = k := by omega
   subst hkn
   have hMf := hM
   go_wp2_with fail
   go_end0
   exact ⟨⟨_, rfl⟩, hMf, hBB⟩
  case pos =>
   have lx := kx.lt
   have x0 := kx.cell (i := 0) rfl
   have hS : Below wr.heap.size wr wr.drew := (Below.refl _ _).drew
   have hcq := (hBB.cell (p := ⟨b, o + k, none⟩) hbl).trans (hraH.out k hlt)
   have hinq := hinH.out k hlt
   have hadq : adOf x k = x.ad[k]?.getD 0 := rfl
   obtain ⟨q, hq⟩ : ∃ q, x.ad[k]?.getD 0 = q := ⟨_, rfl⟩
   rw [hq] at hcq hadq
   rw [hadq] at hinq
   have hadqH := Lib.hid hadq
   have x11 := kx.cell (i := 11) rfl
   clear hq hadq
   by_cases hq0 : 0 ≤ q
   case neg =>
    have hqd : decide (0 ≤ q) = false := by simp; omega
    have hM2 : RefAt B wr lanes R N ⟨M.regs, stoM (adOf x) (fun j => pix (M.regs a j)) M.mem (k + 1)⟩ gr gm cr cm G C := hM.congr (fun _ _ _ _ => rfl) (fun i _ => by
     simp only [stoM]
     rw [if_neg (fun h => hq0 (hadqH.out ▸ h.1))])
    clear hM hS
    go_wp2_with fail
    go_roundw
    case rel => exact ⟨k + 1, by omega, by go_num, hM2, kx, hBB⟩
    case measure => simp [intOf]; omega
   case pos =>
   have hqd : decide (0 ≤ q) = true := by simp; omega
   obtain ⟨Q, rfl⟩ : ∃ Q : Nat, q = (Q : Int) := ⟨q.toNat, by omega⟩
   have hQN : Q < N := by omega
   obtain ⟨y, hy⟩ : ∃ y, M.regs a k = y := ⟨_, rfl⟩
   obtain ⟨p, hp1⟩ : ∃ p, pix y = p := ⟨_, rfl⟩
   have hvz : (fun j => pix (M.regs a j)) k = p := by simp only [hy, hp1]
   have hvzH := Lib.hid hvz
   have hp1H := Lib.hid hp1
   have hb2 : b < wr.heap.size := by have := hBB.size; omega
   clear hvz hp1
   go_wp2_with fail
   clear x0 er0 x11
   refine plain_region (fun W' => Below wr.heap.size wr W') 16 17 (by kernel_rfl) rfl ?_
   simp only [Array.replicate_succ, Array.replicate_zero, List.push_toArray, List.nil_append, List.cons_append]
   obtain ⟨X0, hXX0⟩ : ∃ X : World, wr.drew = X := ⟨_, rfl⟩
   rw [hXX0] at hS ⊢
   clear hXX0
   refine tkz 0 rfl hS (fun w' hS' => by go_simp; rfl) ?_
   simp only [nrz]
   refine tkz 1 rfl hS (fun w' hS' => by go_simp; rfl) ?_
   simp only [nrz]
   refine tkz 2 (v := ?dv2) rfl hS (fun w' hS' => ?dy2) ?dz2
   case dy2 =>
    obtain ⟨er, eg, em⟩ := (hM.later hS').cells
    have era := er a haR
    have ega := eg a k haR hlt
    try simp only at ega
    rw [hy] at ega
    have y2 := (kx.below hS' lx).cell (i := 2) rfl
    have y11 := (kx.below hS' lx).cell (i := 11) rfl
    have eq := (hS'.cell (p := ⟨b, o + k, none⟩) hb2).trans hcq
    clear hS' er eg em
    go_simp
    rfl
   simp only [nrz]
   refine tkz 3 rfl hS (fun w' hS' => by go_simp; rfl) ?_
   simp only [nrz]
   refine tkz 4 (v := ?dv4) rfl hS (fun w' hS' => ?dy4) ?dz4
   case dy4 =>
    go_simp
    try go_ints
    first
    | rfl
    | (rw [if_pos (by omega)]; done)
    | rw [if_pos ⟨by omega, by omega⟩]
   simp only [nrz]
   refine tkz 5 (v := ?dv5) rfl hS (fun w' hS' => ?dy5) ?dz5
   case dy5 =>
    obtain ⟨er, eg, em⟩ := (hM.later hS').cells
    have era := er a haR
    have ega := eg a k haR hlt
    try simp only at ega
    rw [hy] at ega
    have y2 := (kx.below hS' lx).cell (i := 2) rfl
    have y11 := (kx.below hS' lx).cell (i := 11) rfl
    have eq := (hS'.cell (p := ⟨b, o + k, none⟩) hb2).trans hcq
    clear hS' er eg em
    go_simp
    rfl
   simp only [nrz]
   refine tkz 6 rfl hS (fun w' hS' => by go_simp; rfl) ?_
   simp only [nrz]
   refine tkz 7 rfl hS (fun w' hS' => by go_simp; rfl) ?_
   simp only [nrz]
   refine tkz 8 (v := ?dv8) rfl hS (fun w' hS' => ?dy8) ?dz8
   case dy8 =>
    obtain ⟨er, eg, em⟩ := (hM.later hS').cells
    have era := er a haR
    have ega := eg a k haR hlt
    try simp only at ega
    rw [hy] at ega
    have y2 := (kx.below hS' lx).cell (i := 2) rfl
    have y11 := (kx.below hS' lx).cell (i := 11) rfl
    have eq := (hS'.cell (p := ⟨b, o + k, none⟩) hb2).trans hcq
    clear hS' er eg em
    go_simp
    rfl
   simp only [nrz]
   refine tkz 9 (v := ?dv9) rfl hS (fun w' hS' => ?dy9) ?dz9
   case dy9 =>
    go_simp
    try go_ints
    first
    | rfl
    | (rw [if_pos (by omega)]; done)
    | rw [if_pos ⟨by omega, by omega⟩]
   simp only [nrz]
   refine tkz 10 (v := ?dv10) rfl hS (fun w' hS' => ?dy10) ?dz10
   case dy10 =>
    obtain ⟨er, eg, em⟩ := (hM.later hS').cells
    have era := er a haR
    have ega := eg a k haR hlt
    try simp only at ega
    rw [hy] at ega
    have y2 := (kx.below hS' lx).cell (i := 2) rfl
    have y11 := (kx.below hS' lx).cell (i := 11) rfl
    have eq := (hS'.cell (p := ⟨b, o + k, none⟩) hb2).trans hcq
    clear hS' er eg em
    go_simp
    rfl
   simp only [nrz]
   refine tkz 11 rfl hS (fun w' hS' => by go_simp; rfl) ?_
   simp only [nrz]
   refine tkz 12 (v := ?dv12) rfl hS (fun w' hS' => ?dy12) ?dz12
   case dy12 =>
    go_simp
    try go_ints
    first
    | rfl
    | (rw [if_pos (by omega)]; done)
    | rw [if_pos ⟨by omega, by omega⟩]
   simp only [nrz]
   refine tkz 13 (v := ?dv13) rfl hS (fun w' hS' => ?dy13) ?dz13
   case dy13 =>
    obtain ⟨er, eg, em⟩ := (hM.later hS').cells
    have era := er a haR
    have ega := eg a k haR hlt
    try simp only at ega
    rw [hy] at ega
    have y2 := (kx.below hS' lx).cell (i := 2) rfl
    have y11 := (kx.below hS' lx).cell (i := 11) rfl
    have eq := (hS'.cell (p := ⟨b, o + k, none⟩) hb2).trans hcq
    clear hS' er eg em
    go_simp
    rfl
   simp only [nrz]
   refine step_op 14 (by kernel_rfl) rfl (fun K hK => ?_)
   rw [if_pos (by rfl)]
   go_simp
   refine (rpix_any y p hp1H.out X0).mono ?_
   rintro e X1 ⟨rfl, hX⟩
   rw [← hX]
   clear hX X1
   refine hK.out _ _ (fun h => hS) ?_
   clear hK K
   try simp only [Act.put, nrz]
   refine tkz 15 (v := ?dv15) rfl hS (fun w' hS' => ?dy15) ?dz15
   case dy15 =>
    go_simp
    try go_ints
    first
    | rfl
    | (rw [if_pos (by omega)]; done)
    | rw [if_pos ⟨by omega, by omega⟩]
   simp only [nrz]
   refine step_op 16 (by kernel_rfl) rfl (fun K hK => ?_)
   obtain ⟨er, eg, em⟩ := (hM.later hS).cells
   have emq := em Q hQN
   have fzd := (hM.later hS).mm.frozenAt Q
   clear er eg em
   rw [if_pos (by rfl)]
   go_simp
   refine hK.out _ _ (fun h => absurd h (by omega)) ?_
   clear hK K
   try simp only [Act.put, nrz]
   refine done_ops (by kernel_rfl) ?_
   try clear emq fzd
   obtain ⟨hMs, hbs⟩ := (hM.later hS).setMem Q p (by have := hBB.size; have := hS.size; omega)
   have kx2 := (kx.below hS kx.lt).kept ((hM.later hS).mm.stored Q (.int .i64 p)).2 ((kx.below hS kx.lt).not_row (by decide) (hM.later hS).mm)
   have hBB2 := hBB.trans ((hS.mono (by have := hBB.size; omega)).trans hbs)
   obtain ⟨X2, hX2⟩ : ∃ X, X0.setCell ⟨gm, Q, none⟩ (.int .i64 p) = X := ⟨_, rfl⟩
   rw [hX2] at hMs kx2 hBB2
   try rw [hX2]
   clear hX2 hbs
   have hM2 : RefAt B X2 lanes R N ⟨M.regs, stoM (adOf x) (fun j => pix (M.regs a j)) M.mem (k + 1)⟩ gr gm cr cm G C := hMs.congr (fun _ _ _ _ => rfl) (fun i _ => by
    simp only [stoM]
    rw [hadqH.out, hy, hp1H.out]
    by_cases e : i = Q
    ·rw [if_pos e, if_pos (by omega)]
    ·rw [if_neg e, if_neg (by omega)])
   clear hMs hM kx hBB hS
   go_wp2_with fail
   go_roundw
   case rel => exact ⟨k + 1, by omega, by go_num, hM2, kx2, hBB2⟩
   case measure => simp [intOf]; omega
/-- An instruction is carried out. -/
theorem carry_any (v : VecN) (hv : VecIn v) (L R N : Nat) (hL : v.lanes = (L : Int)) (hR : v.regs = (R : Int)) (hN : v.mem = (N : Int)) (x : InsN) (hx : insB v x = true) (ia : Option Addr) (ic : Nat)
  (B : Nat) (M : MacN) (gr gm cr cm : Nat) (G C : Nat → Nat) (w : World) (hM : RefAt B w L R N M gr gm cr cm G C) (hr : RegB L R M) (hra : Rd B w ia x.ad) (hBw : B ≤ w.heap.size) :
  Calls Try.prog 42 #[insv x ia ic, srow gr R cr, srow gm N cm] w fun e w' => (∃ v, e = .returned v) ∧ RefAt B w' L R N (stepM L x M) gr gm cr cm G C ∧ Below B w w' := by
 obtain ⟨v1, v2, v3, v4, v5, v6⟩ := hv
 have hop := ins_op hx
 have hl : 1 ≤ L ∧ L ≤ 16 := by omega
 have hRN : R ≤ 16 ∧ N ≤ 8192 := by omega
 have adr : adrB v x.ad = true → x.ad.length = L ∧ ∀ k, k < L → -1 ≤ adOf x k ∧ adOf x k < N := fun h => by
  obtain ⟨h1, h2⟩ := adr_in h
  have : x.ad.length = L := by omega
  exact ⟨this, fun k hk => by have := h2 k (by omega); omega⟩
 have hk : x.op = 1 ∨ x.op = 2 ∨ x.op = 3 ∨ x.op = 4 ∨ x.op = 5 ∨ x.op = 6 := by omega
 unfold stepM
 rcases hk with hO | hO | hO | hO | hO | hO
 ·obtain ⟨⟨d1, d2⟩, _, ha⟩ := ins_1 hx hO
  obtain ⟨a1, a2⟩ := adr ha
  rw [if_pos hO]
  exact carry1_any B L R N M gr gm cr cm G C w hM hl hRN x ia ic hO x.d.toNat (by omega) (by omega) a1 hra a2 hBw
 ·obtain ⟨⟨d1, d2⟩, ha⟩ := ins_2 hx hO
  obtain ⟨a1, a2⟩ := adr ha
  rw [if_neg (by omega), if_pos hO]
  exact carry2_any B L R N M gr gm cr cm G C w hM hl hRN x ia ic hO x.a.toNat (by omega) (by omega) a1 hra a2 hBw
 ·obtain ⟨⟨d1, d2⟩, _⟩ := ins_3 hx hO
  rw [if_neg (by omega), if_neg (by omega), if_pos hO]
  exact carry3_any B L R N M gr gm cr cm G C w hM hl hRN x ia ic hO x.d.toNat (by omega) (by omega) hBw
 ·obtain ⟨⟨d1, d2⟩, ⟨a1, a2⟩, hp⟩ := ins_4 hx hO
  rw [if_neg (by omega), if_neg (by omega), if_neg (by omega), if_pos hO]
  exact carry4_any B L R N M gr gm cr cm G C w hM hl hRN x ia ic hO x.d.toNat (by omega) (by omega) x.a.toNat (by omega) (by omega) hp hBw
 ·obtain ⟨⟨d1, d2⟩, ⟨a1, a2⟩, ⟨b1, b2⟩, hh⟩ := ins_5 hx hO
  rw [if_neg (by omega), if_neg (by omega), if_neg (by omega), if_neg (by omega), if_pos hO]
  exact carry5_any B L R N M gr gm cr cm G C w hM hl hRN x ia ic hO x.d.toNat (by omega) (by omega) x.a.toNat x.b.toNat (by omega) (by omega) (by omega) (by omega) hh hBw
 ·obtain ⟨⟨d1, d2⟩, ⟨a1, a2⟩, hv1, hv2⟩ := ins_6 hx hO
  rw [if_neg (by omega), if_neg (by omega), if_neg (by omega), if_neg (by omega), if_neg (by omega), if_pos hO]
  exact carry6_any B L R N M gr gm cr cm G C w hM hl hRN x ia ic hO x.d.toNat (by omega) (by omega) x.a.toNat (by omega) (by omega) hv1 hv2 (fun k hk => hr x.d.toNat (by omega) k hk) hBw
end Go.Proofs.Ytekiemlniegddaa

/- Contracts and laws (McB, McE, PAd, PCm, PEm). -/
import Derived.Maps.AppendAt
import Derived.Test.YtekiemlniegddaaGreatQM7
import Derived.Test.YtekiemlniegddaaGreatQM2
import Derived.Test.YtekiemlniegddaaGreatQM12
import Derived.Test.YtekiemlniegddaaGreatQM10
import Derived.Test.YtekiemlniegddaaGreatQM6
set_option linter.unusedVariables false
set_option linter.unusedSimpArgs false
namespace Go.Proofs.YtekiemlniegddaaGreat
open Go Go.RowKit Go.Shelf
theorem cutP {G : Prop} {P : Nat → Nat → Nat → Nat → Nat → World → Prop} (F : Nat → Nat → Nat → Nat → Nat → World → Prop) (main : (∀ a b c d e W, F a b c d e W → P a b c d e W) → G) (key : ∀ a b c d e W, F a b c d e W → P a b c d e W) : G := main key
theorem cutZ {G : Prop} {P : Nat → Nat → Nat → Nat → Nat → Nat → Nat → World → Prop} (F : Nat → Nat → Nat → Nat → Nat → Nat → Nat → World → Prop) (main : (∀ a b c d e f g W, F a b c d e f g W → P a b c d e f g W) → G) (key : ∀ a b c d e f g W, F a b c d e f g W → P a b c d e f g W) : G := main key
/-- A register's numbers, brought into the range of values. -/
def pixR (lanes : Nat) (M : MacN) (a : Nat) : List Int := (List.range lanes).map fun j => pix (M.regs a j)
theorem pixR_len (lanes : Nat) (M : MacN) (a : Nat) : (pixR lanes M a).length = lanes := by simp [pixR]
theorem pixR_px {lanes : Nat} {M : MacN} {a j : Nat} (hj : j < lanes) : px (pixR lanes M a) (j : Int) = pix (M.regs a j) := by
 unfold px pixR; rw [Int.toNat_natCast, List.getElem?_map, List.getElem?_range hj]; rfl
theorem pixR_in (lanes : Nat) (M : MacN) (a : Nat) : allIn (-2147483648) 2147483648 (pixR lanes M a) = true := by
 unfold allIn pixR
 rw [List.all_eq_true]
 intro x hx
 obtain ⟨j, _, rfl⟩ := List.mem_map.1 hx
 have := pix_bd (M.regs a j)
 simp; omega
theorem pixR_vld {lanes : Nat} (h1 : 1 ≤ lanes) (h2 : lanes ≤ 16) (M : MacN) (a : Nat) : vld (lanes : Int) 1 (pixR lanes M a) = true := by
 unfold vld
 rw [pixR_len, pixR_in]
 simp [inR]; omega
theorem img_row {lanes : Nat} (h1 : 1 ≤ lanes) (g : Int → Int → Int) (f : Nat → Int) (h : ∀ j : Nat, j < lanes → pix (g (j : Int) 0) = f j) : img (lanes : Int).toNat (1 : Int).toNat g = (List.range lanes).map f := by
 unfold img
 rw [Int.toNat_natCast, show lanes * (1 : Int).toNat = lanes by simp]
 refine List.map_congr_left fun j hj => ?_
 have hj := List.mem_range.1 hj
 unfold cX cY
 rw [Nat.mod_eq_of_lt hj, Nat.div_eq_of_lt hj]
 exact h j hj
theorem point_row {lanes : Nat} (h1 : 1 ≤ lanes) (h2 : lanes ≤ 16) (M : MacN) (a : Nat) {p : PointN} (hp : p.ok = true) : pointS (lanes : Int) 1 (pixR lanes M a) p = ⟨lanes, 1, (List.range lanes).map fun j => pix (pointF p (pix (M.regs a j))), 0⟩ := by
 unfold pointS
 rw [if_pos (pixR_vld h1 h2 M a), if_pos hp, img_row h1 _ (fun j => pix (pointF p (pix (M.regs a j)))) (fun j hj => by
  unfold pointG
  rw [show (0 : Int) * (lanes : Int) + (j : Int) = (j : Int) by omega, pixR_px hj])]
theorem zip_row {lanes : Nat} (h1 : 1 ≤ lanes) (h2 : lanes ≤ 16) (M : MacN) (a b : Nat) {how : Int} (hh : 1 ≤ how ∧ how ≤ 6) : zipS (lanes : Int) 1 (pixR lanes M a) (lanes : Int) 1 (pixR lanes M b) how = ⟨lanes, 1, (List.range lanes).map fun j => pix (zipF how (pix (M.regs a j)) (pix (M.regs b j))), 0⟩ := by
 unfold zipS
 rw [if_pos (pixR_vld h1 h2 M a), if_pos (pixR_vld h1 h2 M b), if_pos (by simp), if_pos (by simpa using hh), img_row h1 _ (fun j => pix (zipF how (pix (M.regs a j)) (pix (M.regs b j)))) (fun j hj => by
  unfold zipG
  rw [show (0 : Int) * (lanes : Int) + (j : Int) = (j : Int) by omega, pixR_px hj, pixR_px hj])]
set_option maxRecDepth 100000 in
set_option maxHeartbeats 8000000 in
theorem mpoint_any (B bm lanes R N : Nat) (M : MacN) (gr gm cr cm : Nat) (G C : Nat → Nat) (w : World) (hM : MacAt B w bm lanes R N M gr gm cr cm G C) (hl : 1 ≤ lanes ∧ lanes ≤ 16) (hRN : R ≤ 16 ∧ N ≤ 8192) (x : InsN) (ia : Option Addr) (ic : Nat) (d a : Nat) (hd : x.d = (d : Int)) (ha : x.a = (a : Int)) (hdR : d < R) (haR : a < R) (hpt : x.pt.ok = true) (hBw : B ≤ w.heap.size) :
  Calls Tryz.prog 121 #[.pointer (some ⟨bm, 0, none⟩), insv x ia ic] w fun e w' => (∃ v, e = .returned v) ∧ ∃ G' C', C' R = C R ∧ MacAt B w' bm lanes R N (setR M d fun j => pix (pointF x.pt (pix (M.regs a j)))) gr gm cr cm G' C' ∧ Below B w w' := by
 have hB : Below w.heap.size w w := Below.refl _ _
 obtain ⟨hl1, hl2⟩ := hl
 obtain ⟨hR1, hN1⟩ := hRN
 have hBB : Below B w w := Below.refl _ _
 unfold insv
 rw [hd, ha]
 have hM0 := hM
 obtain ⟨V1, hEV1, hbV1, kx⟩ := newB w 143 #[.int .u8 x.op, .int .i64 (d : Int), .int .i64 (a : Int), .int .i64 x.b, .int .i64 x.val, .int .i64 x.pt.mul, .int .i64 x.pt.add, .int .i64 x.pt.div, .int .i64 x.pt.lo, .int .i64 x.pt.hi, .int .u8 x.how, .slice ia x.ad.length ic]
 replace hM := hM.later hbV1
 replace hBB := hBB.trans (hbV1.mono (Nat.le_trans hBw hBB.size))
 replace hB := tmB hB hbV1
 clear hbV1
 obtain ⟨x0, x1, x2, x3, x4, x5, x6, x7, x8, x9, x10, x11⟩ := cz12 kx
 obtain ⟨hc1, hc2, hc3⟩ := hM.caps
 have hszV := hB.size
 have hGl : ∀ r, r < R → G r < w.heap.size := fun r hr => ((hM0.rg r hr).lt (G r) rfl).2
 have hgml : gm < w.heap.size := (hM0.mm.lt gm rfl).2
 have lx := kx.lt
 clear hM0
 have hspec := point_row hl1 hl2 M a hpt
 have hspecH := Lib.hid hspec
 clear hspec
 go_enter Tryz.func121, Tryz.ntmps121
 have hS0 : Below V1.heap.size V1 V1.drew := (Below.refl _ _).drew
 go_wp2_with fail
 clear hB
 clear hEV1
 refine plain_region (fun W' => Below V1.heap.size V1 W') 13 13 (by kernel_rfl) rfl ?_
 simp only [Array.replicate_succ, Array.replicate_zero, List.push_toArray, List.nil_append, List.cons_append]
 obtain ⟨X0, hX0⟩ : ∃ X : World, V1.drew = X := ⟨_, rfl⟩
 rw [hX0] at hS0 ⊢
 clear hX0
 apply cutP (fun gP qc bt gA cA X3 => X3.ownsRow V1.heap.size 3 1 (srow gP lanes qc) lanes (intL lanes fun j => pix (pointF x.pt (pix (M.regs a j)))) ∧ Blk X3 bt 32 #[.int .i64 0, .int .i64 0, .slice none 0 0] ∧ V1.heap.size ≤ bt ∧ Below V1.heap.size V1 X3)
 case' main => intro key
 refine tkz 0 rfl hS0 (fun w' hS' => by go_simp; rfl) ?_
 simp only [nrz]
 refine tkz 1 rfl hS0 (fun w' hS' => by go_simp; rfl) ?_
 simp only [nrz]
 refine tkz 2 rfl hS0 (fun w' hS' => by obtain ⟨y0, y1, y2, y3, y4, y5, y6, y7, y8, y9, y10, y11⟩ := cz12 (kx.below hS' lx); clear hS'; go_simp; rfl) ?_
 simp only [nrz]
 refine tkz 4 rfl hS0 (fun w' hS' => by go_simp; rfl) ?_
 simp only [nrz]
 refine tkz 5 rfl hS0 (fun w' hS' => by obtain ⟨y0, y1, y2, y3, y4, y5, y6, y7, y8, y9, y10, y11⟩ := cz12 (kx.below hS' lx); clear hS'; go_simp; rfl) ?_
 simp only [nrz]
 refine fork2 (i := 3) (j := 10) (by kernel_rfl) ?_ ?_
 ·refine step_at 3 rfl (fun K hK => ?_)
  rw [if_pos (by rfl)]
  go_simp
  refine (mpix_any B bm lanes R N M gr gm cr cm G C X0 (hM.later hS0) ⟨hl1, hl2⟩ ⟨hR1, hN1⟩ a haR).mono ?_
  rintro e X1 ⟨gA, cA, rfl, rowA, hb⟩
  replace rowA : X1.ownsRow V1.heap.size 3 1 (srow gA lanes cA) lanes (intL lanes fun j => pix (M.regs a j)) := jrow_weaken rowA hS0.size
  have hS1 : Below V1.heap.size V1 X1 := hS0.trans (hb.mono hS0.size)
  clear hb
  refine hK.out _ _ (fun h => hS1) ?_
  clear hK K
  try simp only [Act.put, nrz]
  refine fork2 (i := 6) (j := 10) (by kernel_rfl) ?_ ?_
  ·refine step_at 6 rfl (fun K hK => ?_)
   rw [if_pos (by rfl)]
   go_simp
   have hc := Point_any (lanes : Int) 1 (some ⟨gA, 0, none⟩) cA lanes (pixR lanes M a) (Lib.hid (pixR_len _ _ _)) x.pt X1 (by omega) (row_rd' (pixR_len lanes M a) (by unfold pixR; rw [intL_map]; exact rowA))
   rw [hspecH.out] at hc
   refine hc.mono ?_
   clear hc
   rintro e X2 ⟨⟨v, rfl, tt, rfl, rowP⟩, hb⟩
   have hlp : ((List.range lanes).map fun j => pix (pointF x.pt (pix (M.regs a j)))).length = lanes := by simp
   simp only [hlp] at rowP
   rw [intL_map] at rowP
   obtain ⟨qa, qc, rfl⟩ := row_slice rowP
   obtain ⟨gP, rfl⟩ := row_someP rowP (by omega)
   replace rowP : X2.ownsRow V1.heap.size 3 1 (srow gP lanes qc) lanes (intL lanes fun j => pix (pointF x.pt (pix (M.regs a j)))) := jrow_weaken rowP hS1.size
   have hS2 : Below V1.heap.size V1 X2 := hS1.trans (hb.mono hS1.size)
   clear hlp
   clear hb rowA
   refine hK.out _ _ (fun h => hS2) ?_
   clear hK K
   try simp only [Act.put, nrz]
   refine tkz 7 rfl hS2 (fun w' hS' => by go_simp; rfl) ?_
   simp only [nrz]
   refine tkz 8 rfl hS2 (fun w' hS' => by go_simp; rfl) ?_
   simp only [nrz]
   refine tkz 9 rfl hS2 (fun w' hS' => by go_simp; rfl) ?_
   simp only [nrz]
   refine step_op 10 (by kernel_rfl) rfl (fun K hK => ?_)
   have kb := Blk.new X2 32 #[.int .i64 0, .int .i64 0, .slice none 0 0]
   have hb : Below X2.heap.size X2 (X2.alloc (.cells #[.int .i64 0, .int .i64 0, .slice none 0 0] 32)) := jb_al (Below.refl _ X2) _
   obtain ⟨X3, hEX3⟩ : ∃ X, X2.alloc (.cells #[.int .i64 0, .int .i64 0, .slice none 0 0] 32) = X := ⟨_, rfl⟩
   obtain ⟨bt, hbt⟩ : ∃ b, X2.heap.size = b := ⟨_, rfl⟩
   have hbtl : V1.heap.size ≤ bt := by have := hS2.size; omega
   have hS3 : Below V1.heap.size V1 (X2.alloc (.cells #[.int .i64 0, .int .i64 0, .slice none 0 0] 32)) := hS2.trans (hb.mono hS2.size)
   rw [hEX3] at hS3 hb kb
   replace rowP := row_below rowP hb
   rw [hbt] at kb
   rw [if_pos (by rfl)]
   go_simp
   try rw [hEX3]
   try rw [hbt]
   clear hb hbt
   refine hK.out _ _ (fun h => (hEX3 ▸ hS3)) ?_
   clear hK K
   try simp only [Act.put, nrz]
   exact key gP qc bt gA cA X3 ⟨rowP, kb, hbtl, hS3⟩
  ·refine step_at 10 rfl (fun K hK => ?_)
   have kb := Blk.new X1 32 #[.int .i64 0, .int .i64 0, .slice none 0 0]
   have hb : Below X1.heap.size X1 (X1.alloc (.cells #[.int .i64 0, .int .i64 0, .slice none 0 0] 32)) := jb_al (Below.refl _ X1) _
   obtain ⟨X2, hEX2⟩ : ∃ X, X1.alloc (.cells #[.int .i64 0, .int .i64 0, .slice none 0 0] 32) = X := ⟨_, rfl⟩
   obtain ⟨bt, hbt⟩ : ∃ b, X1.heap.size = b := ⟨_, rfl⟩
   have hbtl : V1.heap.size ≤ bt := by have := hS1.size; omega
   have hS2 : Below V1.heap.size V1 (X1.alloc (.cells #[.int .i64 0, .int .i64 0, .slice none 0 0] 32)) := hS1.trans (hb.mono hS1.size)
   rw [hEX2] at hS2 hb kb
   replace rowA := row_below rowA hb
   rw [hbt] at kb
   rw [if_pos (by rfl)]
   go_simp
   try rw [hEX2]
   try rw [hbt]
   clear hb hbt
   refine hK.out _ _ (fun h => (hEX2 ▸ hS2)) ?_
   clear hK K
   try simp only [Act.put, nrz]
   refine step_op 6 (by kernel_rfl) rfl (fun K hK => ?_)
   rw [if_pos (by rfl)]
   go_simp
   have hc := Point_any (lanes : Int) 1 (some ⟨gA, 0, none⟩) cA lanes (pixR lanes M a) (Lib.hid (pixR_len _ _ _)) x.pt X2 (by omega) (row_rd' (pixR_len lanes M a) (by unfold pixR; rw [intL_map]; exact rowA))
   rw [hspecH.out] at hc
   refine hc.mono ?_
   clear hc
   rintro e X3 ⟨⟨v, rfl, tt, rfl, rowP⟩, hb⟩
   replace kb := kb.below hb kb.lt
   have hlp : ((List.range lanes).map fun j => pix (pointF x.pt (pix (M.regs a j)))).length = lanes := by simp
   simp only [hlp] at rowP
   rw [intL_map] at rowP
   obtain ⟨qa, qc, rfl⟩ := row_slice rowP
   obtain ⟨gP, rfl⟩ := row_someP rowP (by omega)
   replace rowP : X3.ownsRow V1.heap.size 3 1 (srow gP lanes qc) lanes (intL lanes fun j => pix (pointF x.pt (pix (M.regs a j)))) := jrow_weaken rowP hS2.size
   have hS3 : Below V1.heap.size V1 X3 := hS2.trans (hb.mono hS2.size)
   clear hlp
   clear hb rowA
   refine hK.out _ _ (fun h => hS3) ?_
   clear hK K
   try simp only [Act.put, nrz]
   refine tkz 7 rfl hS3 (fun w' hS' => by go_simp; rfl) ?_
   simp only [nrz]
   refine tkz 8 rfl hS3 (fun w' hS' => by go_simp; rfl) ?_
   simp only [nrz]
   refine tkz 9 rfl hS3 (fun w' hS' => by go_simp; rfl) ?_
   simp only [nrz]
   exact key gP qc bt gA cA X3 ⟨rowP, kb, hbtl, hS3⟩
 ·refine step_at 10 rfl (fun K hK => ?_)
  have kb := Blk.new X0 32 #[.int .i64 0, .int .i64 0, .slice none 0 0]
  have hb : Below X0.heap.size X0 (X0.alloc (.cells #[.int .i64 0, .int .i64 0, .slice none 0 0] 32)) := jb_al (Below.refl _ X0) _
  obtain ⟨X1, hEX1⟩ : ∃ X, X0.alloc (.cells #[.int .i64 0, .int .i64 0, .slice none 0 0] 32) = X := ⟨_, rfl⟩
  obtain ⟨bt, hbt⟩ : ∃ b, X0.heap.size = b := ⟨_, rfl⟩
  have hbtl : V1.heap.size ≤ bt := by have := hS0.size; omega
  have hS1 : Below V1.heap.size V1 (X0.alloc (.cells #[.int .i64 0, .int .i64 0, .slice none 0 0] 32)) := hS0.trans (hb.mono hS0.size)
  rw [hEX1] at hS1 hb kb
  rw [hbt] at kb
  rw [if_pos (by rfl)]
  go_simp
  try rw [hEX1]
  try rw [hbt]
  clear hb hbt
  refine hK.out _ _ (fun h => (hEX1 ▸ hS1)) ?_
  clear hK K
  try simp only [Act.put, nrz]
  refine step_op 3 (by kernel_rfl) rfl (fun K hK => ?_)
  rw [if_pos (by rfl)]
  go_simp
  refine (mpix_any B bm lanes R N M gr gm cr cm G C X1 (hM.later hS1) ⟨hl1, hl2⟩ ⟨hR1, hN1⟩ a haR).mono ?_
  rintro e X2 ⟨gA, cA, rfl, rowA, hb⟩
  replace kb := kb.below hb kb.lt
  replace rowA : X2.ownsRow V1.heap.size 3 1 (srow gA lanes cA) lanes (intL lanes fun j => pix (M.regs a j)) := jrow_weaken rowA hS1.size
  have hS2 : Below V1.heap.size V1 X2 := hS1.trans (hb.mono hS1.size)
  clear hb
  refine hK.out _ _ (fun h => hS2) ?_
  clear hK K
  try simp only [Act.put, nrz]
  refine step_op 6 (by kernel_rfl) rfl (fun K hK => ?_)
  rw [if_pos (by rfl)]
  go_simp
  have hc := Point_any (lanes : Int) 1 (some ⟨gA, 0, none⟩) cA lanes (pixR lanes M a) (Lib.hid (pixR_len _ _ _)) x.pt X2 (by omega) (row_rd' (pixR_len lanes M a) (by unfold pixR; rw [intL_map]; exact rowA))
  rw [hspecH.out] at hc
  refine hc.mono ?_
  clear hc
  rintro e X3 ⟨⟨v, rfl, tt, rfl, rowP⟩, hb⟩
  replace kb := kb.below hb kb.lt
  have hlp : ((List.range lanes).map fun j => pix (pointF x.pt (pix (M.regs a j)))).length = lanes := by simp
  simp only [hlp] at rowP
  rw [intL_map] at rowP
  obtain ⟨qa, qc, rfl⟩ := row_slice rowP
  obtain ⟨gP, rfl⟩ := row_someP rowP (by omega)
  replace rowP : X3.ownsRow V1.heap.size 3 1 (srow gP lanes qc) lanes (intL lanes fun j => pix (pointF x.pt (pix (M.regs a j)))) := jrow_weaken rowP hS2.size
  have hS3 : Below V1.heap.size V1 X3 := hS2.trans (hb.mono hS2.size)
  clear hlp
  clear hb rowA
  refine hK.out _ _ (fun h => hS3) ?_
  clear hK K
  try simp only [Act.put, nrz]
  refine tkz 7 rfl hS3 (fun w' hS' => by go_simp; rfl) ?_
  simp only [nrz]
  refine tkz 8 rfl hS3 (fun w' hS' => by go_simp; rfl) ?_
  simp only [nrz]
  refine tkz 9 rfl hS3 (fun w' hS' => by go_simp; rfl) ?_
  simp only [nrz]
  exact key gP qc bt gA cA X3 ⟨rowP, kb, hbtl, hS3⟩
 case key =>
  rintro gP qc bt gA cA X3 ⟨rowP, kb, hbtl, hS3⟩
  refine step_op 11 (by kernel_rfl) rfl (fun K hK => ?_)
  obtain ⟨z0, z1, z2⟩ := cz3 kb
  have fz0 := kb.frozen 0
  have fz1 := kb.frozen 1
  have fz2 := kb.frozen 2
  have hS4 : Below V1.heap.size V1 (put3 X3 bt (.int .i64 (lanes : Int)) (.int .i64 1) (srow gP lanes qc)) := hS3.trans (put3_below hbtl _ _ _)
  rw [if_pos (by rfl)]
  go_simp
  refine hK.out _ _ (fun h => hS4) ?_
  clear hK K
  try simp only [Act.put, nrz]
  refine tkz 12 rfl hS4 (fun w' hS' => by go_simp; rfl) ?_
  simp only [nrz]
  refine done_ops (by kernel_rfl) ?_
  have kb2 := put3_blk kb (.int .i64 (lanes : Int)) (.int .i64 1) (srow gP lanes qc)
  have rowP2 := row_put3b rowP (kb.not_row (by decide) rowP) (.int .i64 (lanes : Int)) (.int .i64 1) (srow gP lanes qc)
  have hM2 := hM.later hS4
  have kx2 := kx.below hS4 lx
  have hBB2 := hBB.trans (hS4.mono (Nat.le_trans hBw hBB.size))
  have hszX := hS4.size
  clear rowP kb hM kx hBB hS3 hS4 hS0 z0 z1 z2 fz0 fz1 fz2
  obtain ⟨X9, hX9⟩ : ∃ X, ((X3.setCell ⟨bt, 0, none⟩ (.int .i64 (lanes : Int))).setCell ⟨bt, 1, none⟩ (.int .i64 1)).setCell ⟨bt, 2, none⟩ (.slice (some ⟨gP, 0, none⟩) lanes qc) = X := ⟨_, rfl⟩
  have e9 : put3 X3 bt (.int .i64 (lanes : Int)) (.int .i64 1) (srow gP lanes qc) = X9 := hX9
  rw [e9] at kb2 rowP2 hM2 kx2 hBB2 hszX
  rw [hX9]
  clear hX9 e9
  have lb := kb2.lt
  have lx2 := kx2.lt
  have hS : Below X9.heap.size X9 X9.drew := (Below.refl _ _).drew
  go_wp2_with fail
  refine plain_region (fun W' => Below X9.heap.size X9 W') 9 10 (by kernel_rfl) rfl ?_
  simp only [Array.replicate_succ, Array.replicate_zero, List.push_toArray, List.nil_append, List.cons_append]
  obtain ⟨Y0, hXY0⟩ : ∃ X : World, X9.drew = X := ⟨_, rfl⟩
  rw [hXY0] at hS ⊢
  clear hXY0
  refine tkz 0 rfl hS (fun w' hS' => by go_simp; rfl) ?_
  simp only [nrz]
  refine tkz 1 rfl hS (fun w' hS' => by go_simp; rfl) ?_
  simp only [nrz]
  refine tkz 2 rfl hS (fun w' hS' => by go_simp; rfl) ?_
  simp only [nrz]
  refine tkz 3 (v := ?qv3) rfl hS (fun w' hS' => ?qy3) ?qz3
  case qy3 =>
   obtain ⟨e0, e1, e2, er, eg, em⟩ := (hM2.later hS').cells
   have erd := er d hdR
   obtain ⟨q0, q1, q2⟩ := cz3 (kb2.below hS' lb)
   have y1 := (kx2.below hS' lx2).cell (i := 1) rfl
   clear hS' er eg em
   go_simp
   rfl
  simp only [nrz]
  refine tkz 4 rfl hS (fun w' hS' => by go_simp; rfl) ?_
  simp only [nrz]
  refine tkz 5 (v := ?qv5) rfl hS (fun w' hS' => ?qy5) ?qz5
  case qy5 =>
   obtain ⟨e0, e1, e2, er, eg, em⟩ := (hM2.later hS').cells
   have erd := er d hdR
   obtain ⟨q0, q1, q2⟩ := cz3 (kb2.below hS' lb)
   have y1 := (kx2.below hS' lx2).cell (i := 1) rfl
   clear hS' er eg em
   go_simp
   rfl
  simp only [nrz]
  refine tkz 6 rfl hS (fun w' hS' => by go_simp; rfl) ?_
  simp only [nrz]
  refine tkz 7 (v := ?qv7) rfl hS (fun w' hS' => ?qy7) ?qz7
  case qy7 =>
   obtain ⟨e0, e1, e2, er, eg, em⟩ := (hM2.later hS').cells
   have erd := er d hdR
   obtain ⟨q0, q1, q2⟩ := cz3 (kb2.below hS' lb)
   have y1 := (kx2.below hS' lx2).cell (i := 1) rfl
   clear hS' er eg em
   go_simp
   rfl
  simp only [nrz]
  refine tkz 8 (v := ?qv8) rfl hS (fun w' hS' => ?qy8) ?qz8
  case qy8 =>
   go_simp
   try go_ints
   first
   | rfl
   | (rw [if_pos (by omega)]; done)
   | rw [if_pos ⟨by omega, by omega⟩]
  simp only [nrz]
  refine step_op 9 (by kernel_rfl) rfl (fun K hK => ?_)
  obtain ⟨e0, e1, e2, er, eg, em⟩ := (hM2.later hS).cells
  have erd := er d hdR
  have fzd := (hM2.later hS).frozen.2.2 d
  clear er eg em e0 e1 e2
  rw [if_pos (by rfl)]
  go_simp
  refine hK.out _ _ (fun h => absurd h (by omega)) ?_
  clear hK K
  try simp only [Act.put, nrz]
  refine done_ops (by kernel_rfl) ?_
  have hgP := (rowP2.lt gP rfl).1
  have hrow3 := row_below rowP2 hS
  obtain ⟨hMf, hbf⟩ := (hM2.later hS).repl hdR (jrow_weaken hrow3 (by omega)) (fun r hr e => by have := hGl r hr; omega) (by omega) (by have := hS.size; have := hBB2.size; omega)
  have hBBf := hBB2.trans ((hS.mono (by have := hBB2.size; omega)).trans hbf)
  clear hM2 hbf hBB2 hrow3 rowP2 kb2 kx2 hS
  go_wp2_with fail
  go_end0
  exact ⟨⟨_, rfl⟩, _, _, if_neg (by omega), hMf, hBBf⟩
set_option maxRecDepth 100000 in
set_option maxHeartbeats 8000000 in
theorem mzip_any (B bm lanes R N : Nat) (M : MacN) (gr gm cr cm : Nat) (G C : Nat → Nat) (w : World) (hM : MacAt B w bm lanes R N M gr gm cr cm G C) (hl : 1 ≤ lanes ∧ lanes ≤ 16) (hRN : R ≤ 16 ∧ N ≤ 8192) (x : InsN) (ia : Option Addr) (ic : Nat) (d a b : Nat) (hd : x.d = (d : Int)) (ha : x.a = (a : Int)) (hb' : x.b = (b : Int)) (hdR : d < R) (haR : a < R) (hbR : b < R) (hhow : 1 ≤ x.how ∧ x.how ≤ 6) (hBw : B ≤ w.heap.size) :
  Calls Tryz.prog 122 #[.pointer (some ⟨bm, 0, none⟩), insv x ia ic] w fun e w' => (∃ v, e = .returned v) ∧ ∃ G' C', C' R = C R ∧ MacAt B w' bm lanes R N (setR M d fun j => pix (zipF x.how (pix (M.regs a j)) (pix (M.regs b j)))) gr gm cr cm G' C' ∧ Below B w w' := by
 have hB : Below w.heap.size w w := Below.refl _ _
 obtain ⟨hl1, hl2⟩ := hl
 obtain ⟨hR1, hN1⟩ := hRN
 have hBB : Below B w w := Below.refl _ _
 unfold insv
 rw [hd, ha, hb']
 have hM0 := hM
 obtain ⟨V1, hEV1, hbV1, kx⟩ := newB w 143 #[.int .u8 x.op, .int .i64 (d : Int), .int .i64 (a : Int), .int .i64 (b : Int), .int .i64 x.val, .int .i64 x.pt.mul, .int .i64 x.pt.add, .int .i64 x.pt.div, .int .i64 x.pt.lo, .int .i64 x.pt.hi, .int .u8 x.how, .slice ia x.ad.length ic]
 replace hM := hM.later hbV1
 replace hBB := hBB.trans (hbV1.mono (Nat.le_trans hBw hBB.size))
 replace hB := tmB hB hbV1
 clear hbV1
 obtain ⟨x0, x1, x2, x3, x4, x5, x6, x7, x8, x9, x10, x11⟩ := cz12 kx
 obtain ⟨hc1, hc2, hc3⟩ := hM.caps
 have hszV := hB.size
 have hGl : ∀ r, r < R → G r < w.heap.size := fun r hr => ((hM0.rg r hr).lt (G r) rfl).2
 have hgml : gm < w.heap.size := (hM0.mm.lt gm rfl).2
 have lx := kx.lt
 clear hM0
 have hspec := zip_row hl1 hl2 M a b hhow
 have hspecH := Lib.hid hspec
 clear hspec
 go_enter Tryz.func122, Tryz.ntmps122
 have hS0 : Below V1.heap.size V1 V1.drew := (Below.refl _ _).drew
 go_wp2_with fail
 clear hB
 clear hEV1
 refine plain_region (fun W' => Below V1.heap.size V1 W') 17 17 (by kernel_rfl) rfl ?_
 simp only [Array.replicate_succ, Array.replicate_zero, List.push_toArray, List.nil_append, List.cons_append]
 obtain ⟨X0, hX0⟩ : ∃ X : World, V1.drew = X := ⟨_, rfl⟩
 rw [hX0] at hS0 ⊢
 clear hX0
 apply cutZ (fun gP qc bt gA cA gBb cBb X4 => X4.ownsRow V1.heap.size 3 1 (srow gP lanes qc) lanes (intL lanes fun j => pix (zipF x.how (pix (M.regs a j)) (pix (M.regs b j)))) ∧ Blk X4 bt 32 #[.int .i64 0, .int .i64 0, .slice none 0 0] ∧ V1.heap.size ≤ bt ∧ Below V1.heap.size V1 X4)
 case' main => intro key
 refine tkz 0 rfl hS0 (fun w' hS' => by go_simp; rfl) ?_
 simp only [nrz]
 refine tkz 1 rfl hS0 (fun w' hS' => by go_simp; rfl) ?_
 simp only [nrz]
 refine tkz 2 rfl hS0 (fun w' hS' => by obtain ⟨y0, y1, y2, y3, y4, y5, y6, y7, y8, y9, y10, y11⟩ := cz12 (kx.below hS' lx); clear hS'; go_simp; rfl) ?_
 simp only [nrz]
 refine tkz 4 rfl hS0 (fun w' hS' => by go_simp; rfl) ?_
 simp only [nrz]
 refine tkz 5 rfl hS0 (fun w' hS' => by go_simp; rfl) ?_
 simp only [nrz]
 refine tkz 6 rfl hS0 (fun w' hS' => by obtain ⟨y0, y1, y2, y3, y4, y5, y6, y7, y8, y9, y10, y11⟩ := cz12 (kx.below hS' lx); clear hS'; go_simp; rfl) ?_
 simp only [nrz]
 refine tkz 8 rfl hS0 (fun w' hS' => by go_simp; rfl) ?_
 simp only [nrz]
 refine tkz 9 rfl hS0 (fun w' hS' => by obtain ⟨y0, y1, y2, y3, y4, y5, y6, y7, y8, y9, y10, y11⟩ := cz12 (kx.below hS' lx); clear hS'; go_simp; rfl) ?_
 simp only [nrz]
 refine fork2 (i := 3) (j := 14) (by kernel_rfl) ?_ ?_
 ·refine step_at 3 rfl (fun K hK => ?_)
  rw [if_pos (by rfl)]
  go_simp
  refine (mpix_any B bm lanes R N M gr gm cr cm G C X0 (hM.later hS0) ⟨hl1, hl2⟩ ⟨hR1, hN1⟩ a haR).mono ?_
  rintro e X1 ⟨gA, cA, rfl, rowA, hb⟩
  replace rowA : X1.ownsRow V1.heap.size 3 1 (srow gA lanes cA) lanes (intL lanes fun j => pix (M.regs a j)) := jrow_weaken rowA hS0.size
  have hS1 : Below V1.heap.size V1 X1 := hS0.trans (hb.mono hS0.size)
  clear hb
  refine hK.out _ _ (fun h => hS1) ?_
  clear hK K
  try simp only [Act.put, nrz]
  refine fork2 (i := 7) (j := 14) (by kernel_rfl) ?_ ?_
  ·refine step_at 7 rfl (fun K hK => ?_)
   rw [if_pos (by rfl)]
   go_simp
   refine (mpix_any B bm lanes R N M gr gm cr cm G C X1 (hM.later hS1) ⟨hl1, hl2⟩ ⟨hR1, hN1⟩ b hbR).mono ?_
   rintro e X2 ⟨gBb, cBb, rfl, rowBb, hb⟩
   replace rowA := row_below rowA hb
   replace rowBb : X2.ownsRow V1.heap.size 3 1 (srow gBb lanes cBb) lanes (intL lanes fun j => pix (M.regs b j)) := jrow_weaken rowBb hS1.size
   have hS2 : Below V1.heap.size V1 X2 := hS1.trans (hb.mono hS1.size)
   clear hb
   refine hK.out _ _ (fun h => hS2) ?_
   clear hK K
   try simp only [Act.put, nrz]
   refine fork2 (i := 10) (j := 14) (by kernel_rfl) ?_ ?_
   ·refine step_at 10 rfl (fun K hK => ?_)
    rw [if_pos (by rfl)]
    go_simp
    have hc := Zip_any (lanes : Int) 1 (some ⟨gA, 0, none⟩) cA lanes (pixR lanes M a) (Lib.hid (pixR_len _ _ _)) (lanes : Int) 1 (some ⟨gBb, 0, none⟩) cBb lanes (pixR lanes M b) (Lib.hid (pixR_len _ _ _)) x.how (by omega) (by omega) X2 (by omega) (by omega) (row_rd' (pixR_len lanes M a) (by unfold pixR; rw [intL_map]; exact rowA)) (row_rd' (pixR_len lanes M b) (by unfold pixR; rw [intL_map]; exact rowBb))
    rw [hspecH.out] at hc
    refine hc.mono ?_
    clear hc
    rintro e X3 ⟨⟨v, rfl, tt, rfl, rowP⟩, hb⟩
    have hlp : ((List.range lanes).map fun j => pix (zipF x.how (pix (M.regs a j)) (pix (M.regs b j)))).length = lanes := by simp
    simp only [hlp] at rowP
    rw [intL_map] at rowP
    obtain ⟨qa, qc, rfl⟩ := row_slice rowP
    obtain ⟨gP, rfl⟩ := row_someP rowP (by omega)
    replace rowP : X3.ownsRow V1.heap.size 3 1 (srow gP lanes qc) lanes (intL lanes fun j => pix (zipF x.how (pix (M.regs a j)) (pix (M.regs b j)))) := jrow_weaken rowP hS2.size
    have hS3 : Below V1.heap.size V1 X3 := hS2.trans (hb.mono hS2.size)
    clear hlp
    clear hb rowA rowBb
    refine hK.out _ _ (fun h => hS3) ?_
    clear hK K
    try simp only [Act.put, nrz]
    refine tkz 11 rfl hS3 (fun w' hS' => by go_simp; rfl) ?_
    simp only [nrz]
    refine tkz 12 rfl hS3 (fun w' hS' => by go_simp; rfl) ?_
    simp only [nrz]
    refine tkz 13 rfl hS3 (fun w' hS' => by go_simp; rfl) ?_
    simp only [nrz]
    refine step_op 14 (by kernel_rfl) rfl (fun K hK => ?_)
    have kb := Blk.new X3 32 #[.int .i64 0, .int .i64 0, .slice none 0 0]
    have hb : Below X3.heap.size X3 (X3.alloc (.cells #[.int .i64 0, .int .i64 0, .slice none 0 0] 32)) := jb_al (Below.refl _ X3) _
    obtain ⟨X4, hEX4⟩ : ∃ X, X3.alloc (.cells #[.int .i64 0, .int .i64 0, .slice none 0 0] 32) = X := ⟨_, rfl⟩
    obtain ⟨bt, hbt⟩ : ∃ b, X3.heap.size = b := ⟨_, rfl⟩
    have hbtl : V1.heap.size ≤ bt := by have := hS3.size; omega
    have hS4 : Below V1.heap.size V1 (X3.alloc (.cells #[.int .i64 0, .int .i64 0, .slice none 0 0] 32)) := hS3.trans (hb.mono hS3.size)
    rw [hEX4] at hS4 hb kb
    replace rowP := row_below rowP hb
    rw [hbt] at kb
    rw [if_pos (by rfl)]
    go_simp
    try rw [hEX4]
    try rw [hbt]
    clear hb hbt
    refine hK.out _ _ (fun h => (hEX4 ▸ hS4)) ?_
    clear hK K
    try simp only [Act.put, nrz]
    exact key gP qc bt gA cA gBb cBb X4 ⟨rowP, kb, hbtl, hS4⟩
   ·refine step_at 14 rfl (fun K hK => ?_)
    have kb := Blk.new X2 32 #[.int .i64 0, .int .i64 0, .slice none 0 0]
    have hb : Below X2.heap.size X2 (X2.alloc (.cells #[.int .i64 0, .int .i64 0, .slice none 0 0] 32)) := jb_al (Below.refl _ X2) _
    obtain ⟨X3, hEX3⟩ : ∃ X, X2.alloc (.cells #[.int .i64 0, .int .i64 0, .slice none 0 0] 32) = X := ⟨_, rfl⟩
    obtain ⟨bt, hbt⟩ : ∃ b, X2.heap.size = b := ⟨_, rfl⟩
    have hbtl : V1.heap.size ≤ bt := by have := hS2.size; omega
    have hS3 : Below V1.heap.size V1 (X2.alloc (.cells #[.int .i64 0, .int .i64 0, .slice none 0 0] 32)) := hS2.trans (hb.mono hS2.size)
    rw [hEX3] at hS3 hb kb
    replace rowA := row_below rowA hb
    replace rowBb := row_below rowBb hb
    rw [hbt] at kb
    rw [if_pos (by rfl)]
    go_simp
    try rw [hEX3]
    try rw [hbt]
    clear hb hbt
    refine hK.out _ _ (fun h => (hEX3 ▸ hS3)) ?_
    clear hK K
    try simp only [Act.put, nrz]
    refine step_op 10 (by kernel_rfl) rfl (fun K hK => ?_)
    rw [if_pos (by rfl)]
    go_simp
    have hc := Zip_any (lanes : Int) 1 (some ⟨gA, 0, none⟩) cA lanes (pixR lanes M a) (Lib.hid (pixR_len _ _ _)) (lanes : Int) 1 (some ⟨gBb, 0, none⟩) cBb lanes (pixR lanes M b) (Lib.hid (pixR_len _ _ _)) x.how (by omega) (by omega) X3 (by omega) (by omega) (row_rd' (pixR_len lanes M a) (by unfold pixR; rw [intL_map]; exact rowA)) (row_rd' (pixR_len lanes M b) (by unfold pixR; rw [intL_map]; exact rowBb))
    rw [hspecH.out] at hc
    refine hc.mono ?_
    clear hc
    rintro e X4 ⟨⟨v, rfl, tt, rfl, rowP⟩, hb⟩
    replace kb := kb.below hb kb.lt
    have hlp : ((List.range lanes).map fun j => pix (zipF x.how (pix (M.regs a j)) (pix (M.regs b j)))).length = lanes := by simp
    simp only [hlp] at rowP
    rw [intL_map] at rowP
    obtain ⟨qa, qc, rfl⟩ := row_slice rowP
    obtain ⟨gP, rfl⟩ := row_someP rowP (by omega)
    replace rowP : X4.ownsRow V1.heap.size 3 1 (srow gP lanes qc) lanes (intL lanes fun j => pix (zipF x.how (pix (M.regs a j)) (pix (M.regs b j)))) := jrow_weaken rowP hS3.size
    have hS4 : Below V1.heap.size V1 X4 := hS3.trans (hb.mono hS3.size)
    clear hlp
    clear hb rowA rowBb
    refine hK.out _ _ (fun h => hS4) ?_
    clear hK K
    try simp only [Act.put, nrz]
    refine tkz 11 rfl hS4 (fun w' hS' => by go_simp; rfl) ?_
    simp only [nrz]
    refine tkz 12 rfl hS4 (fun w' hS' => by go_simp; rfl) ?_
    simp only [nrz]
    refine tkz 13 rfl hS4 (fun w' hS' => by go_simp; rfl) ?_
    simp only [nrz]
    exact key gP qc bt gA cA gBb cBb X4 ⟨rowP, kb, hbtl, hS4⟩
  ·refine step_at 14 rfl (fun K hK => ?_)
   have kb := Blk.new X1 32 #[.int .i64 0, .int .i64 0, .slice none 0 0]
   have hb : Below X1.heap.size X1 (X1.alloc (.cells #[.int .i64 0, .int .i64 0, .slice none 0 0] 32)) := jb_al (Below.refl _ X1) _
   obtain ⟨X2, hEX2⟩ : ∃ X, X1.alloc (.cells #[.int .i64 0, .int .i64 0, .slice none 0 0] 32) = X := ⟨_, rfl⟩
   obtain ⟨bt, hbt⟩ : ∃ b, X1.heap.size = b := ⟨_, rfl⟩
   have hbtl : V1.heap.size ≤ bt := by have := hS1.size; omega
   have hS2 : Below V1.heap.size V1 (X1.alloc (.cells #[.int .i64 0, .int .i64 0, .slice none 0 0] 32)) := hS1.trans (hb.mono hS1.size)
   rw [hEX2] at hS2 hb kb
   replace rowA := row_below rowA hb
   rw [hbt] at kb
   rw [if_pos (by rfl)]
   go_simp
   try rw [hEX2]
   try rw [hbt]
   clear hb hbt
   refine hK.out _ _ (fun h => (hEX2 ▸ hS2)) ?_
   clear hK K
   try simp only [Act.put, nrz]
   refine step_op 7 (by kernel_rfl) rfl (fun K hK => ?_)
   rw [if_pos (by rfl)]
   go_simp
   refine (mpix_any B bm lanes R N M gr gm cr cm G C X2 (hM.later hS2) ⟨hl1, hl2⟩ ⟨hR1, hN1⟩ b hbR).mono ?_
   rintro e X3 ⟨gBb, cBb, rfl, rowBb, hb⟩
   replace rowA := row_below rowA hb
   replace kb := kb.below hb kb.lt
   replace rowBb : X3.ownsRow V1.heap.size 3 1 (srow gBb lanes cBb) lanes (intL lanes fun j => pix (M.regs b j)) := jrow_weaken rowBb hS2.size
   have hS3 : Below V1.heap.size V1 X3 := hS2.trans (hb.mono hS2.size)
   clear hb
   refine hK.out _ _ (fun h => hS3) ?_
   clear hK K
   try simp only [Act.put, nrz]
   refine step_op 10 (by kernel_rfl) rfl (fun K hK => ?_)
   rw [if_pos (by rfl)]
   go_simp
   have hc := Zip_any (lanes : Int) 1 (some ⟨gA, 0, none⟩) cA lanes (pixR lanes M a) (Lib.hid (pixR_len _ _ _)) (lanes : Int) 1 (some ⟨gBb, 0, none⟩) cBb lanes (pixR lanes M b) (Lib.hid (pixR_len _ _ _)) x.how (by omega) (by omega) X3 (by omega) (by omega) (row_rd' (pixR_len lanes M a) (by unfold pixR; rw [intL_map]; exact rowA)) (row_rd' (pixR_len lanes M b) (by unfold pixR; rw [intL_map]; exact rowBb))
   rw [hspecH.out] at hc
   refine hc.mono ?_
   clear hc
   rintro e X4 ⟨⟨v, rfl, tt, rfl, rowP⟩, hb⟩
   replace kb := kb.below hb kb.lt
   have hlp : ((List.range lanes).map fun j => pix (zipF x.how (pix (M.regs a j)) (pix (M.regs b j)))).length = lanes := by simp
   simp only [hlp] at rowP
   rw [intL_map] at rowP
   obtain ⟨qa, qc, rfl⟩ := row_slice rowP
   obtain ⟨gP, rfl⟩ := row_someP rowP (by omega)
   replace rowP : X4.ownsRow V1.heap.size 3 1 (srow gP lanes qc) lanes (intL lanes fun j => pix (zipF x.how (pix (M.regs a j)) (pix (M.regs b j)))) := jrow_weaken rowP hS3.size
   have hS4 : Below V1.heap.size V1 X4 := hS3.trans (hb.mono hS3.size)
   clear hlp
   clear hb rowA rowBb
   refine hK.out _ _ (fun h => hS4) ?_
   clear hK K
   try simp only [Act.put, nrz]
   refine tkz 11 rfl hS4 (fun w' hS' => by go_simp; rfl) ?_
   simp only [nrz]
   refine tkz 12 rfl hS4 (fun w' hS' => by go_simp; rfl) ?_
   simp only [nrz]
   refine tkz 13 rfl hS4 (fun w' hS' => by go_simp; rfl) ?_
   simp only [nrz]
   exact key gP qc bt gA cA gBb cBb X4 ⟨rowP, kb, hbtl, hS4⟩
 ·refine step_at 14 rfl (fun K hK => ?_)
  have kb := Blk.new X0 32 #[.int .i64 0, .int .i64 0, .slice none 0 0]
  have hb : Below X0.heap.size X0 (X0.alloc (.cells #[.int .i64 0, .int .i64 0, .slice none 0 0] 32)) := jb_al (Below.refl _ X0) _
  obtain ⟨X1, hEX1⟩ : ∃ X, X0.alloc (.cells #[.int .i64 0, .int .i64 0, .slice none 0 0] 32) = X := ⟨_, rfl⟩
  obtain ⟨bt, hbt⟩ : ∃ b, X0.heap.size = b := ⟨_, rfl⟩
  have hbtl : V1.heap.size ≤ bt := by have := hS0.size; omega
  have hS1 : Below V1.heap.size V1 (X0.alloc (.cells #[.int .i64 0, .int .i64 0, .slice none 0 0] 32)) := hS0.trans (hb.mono hS0.size)
  rw [hEX1] at hS1 hb kb
  rw [hbt] at kb
  rw [if_pos (by rfl)]
  go_simp
  try rw [hEX1]
  try rw [hbt]
  clear hb hbt
  refine hK.out _ _ (fun h => (hEX1 ▸ hS1)) ?_
  clear hK K
  try simp only [Act.put, nrz]
  refine step_op 3 (by kernel_rfl) rfl (fun K hK => ?_)
  rw [if_pos (by rfl)]
  go_simp
  refine (mpix_any B bm lanes R N M gr gm cr cm G C X1 (hM.later hS1) ⟨hl1, hl2⟩ ⟨hR1, hN1⟩ a haR).mono ?_
  rintro e X2 ⟨gA, cA, rfl, rowA, hb⟩
  replace kb := kb.below hb kb.lt
  replace rowA : X2.ownsRow V1.heap.size 3 1 (srow gA lanes cA) lanes (intL lanes fun j => pix (M.regs a j)) := jrow_weaken rowA hS1.size
  have hS2 : Below V1.heap.size V1 X2 := hS1.trans (hb.mono hS1.size)
  clear hb
  refine hK.out _ _ (fun h => hS2) ?_
  clear hK K
  try simp only [Act.put, nrz]
  refine step_op 7 (by kernel_rfl) rfl (fun K hK => ?_)
  rw [if_pos (by rfl)]
  go_simp
  refine (mpix_any B bm lanes R N M gr gm cr cm G C X2 (hM.later hS2) ⟨hl1, hl2⟩ ⟨hR1, hN1⟩ b hbR).mono ?_
  rintro e X3 ⟨gBb, cBb, rfl, rowBb, hb⟩
  replace kb := kb.below hb kb.lt
  replace rowA := row_below rowA hb
  replace rowBb : X3.ownsRow V1.heap.size 3 1 (srow gBb lanes cBb) lanes (intL lanes fun j => pix (M.regs b j)) := jrow_weaken rowBb hS2.size
  have hS3 : Below V1.heap.size V1 X3 := hS2.trans (hb.mono hS2.size)
  clear hb
  refine hK.out _ _ (fun h => hS3) ?_
  clear hK K
  try simp only [Act.put, nrz]
  refine step_op 10 (by kernel_rfl) rfl (fun K hK => ?_)
  rw [if_pos (by rfl)]
  go_simp
  have hc := Zip_any (lanes : Int) 1 (some ⟨gA, 0, none⟩) cA lanes (pixR lanes M a) (Lib.hid (pixR_len _ _ _)) (lanes : Int) 1 (some ⟨gBb, 0, none⟩) cBb lanes (pixR lanes M b) (Lib.hid (pixR_len _ _ _)) x.how (by omega) (by omega) X3 (by omega) (by omega) (row_rd' (pixR_len lanes M a) (by unfold pixR; rw [intL_map]; exact rowA)) (row_rd' (pixR_len lanes M b) (by unfold pixR; rw [intL_map]; exact rowBb))
  rw [hspecH.out] at hc
  refine hc.mono ?_
  clear hc
  rintro e X4 ⟨⟨v, rfl, tt, rfl, rowP⟩, hb⟩
  replace kb := kb.below hb kb.lt
  have hlp : ((List.range lanes).map fun j => pix (zipF x.how (pix (M.regs a j)) (pix (M.regs b j)))).length = lanes := by simp
  simp only [hlp] at rowP
  rw [intL_map] at rowP
  obtain ⟨qa, qc, rfl⟩ := row_slice rowP
  obtain ⟨gP, rfl⟩ := row_someP rowP (by omega)
  replace rowP : X4.ownsRow V1.heap.size 3 1 (srow gP lanes qc) lanes (intL lanes fun j => pix (zipF x.how (pix (M.regs a j)) (pix (M.regs b j)))) := jrow_weaken rowP hS3.size
  have hS4 : Below V1.heap.size V1 X4 := hS3.trans (hb.mono hS3.size)
  clear hlp
  clear hb rowA rowBb
  refine hK.out _ _ (fun h => hS4) ?_
  clear hK K
  try simp only [Act.put, nrz]
  refine tkz 11 rfl hS4 (fun w' hS' => by go_simp; rfl) ?_
  simp only [nrz]
  refine tkz 12 rfl hS4 (fun w' hS' => by go_simp; rfl) ?_
  simp only [nrz]
  refine tkz 13 rfl hS4 (fun w' hS' => by go_simp; rfl) ?_
  simp only [nrz]
  exact key gP qc bt gA cA gBb cBb X4 ⟨rowP, kb, hbtl, hS4⟩
 case key =>
  rintro gP qc bt gA cA gBb cBb X4 ⟨rowP, kb, hbtl, hS4⟩
  refine step_op 15 (by kernel_rfl) rfl (fun K hK => ?_)
  obtain ⟨z0, z1, z2⟩ := cz3 kb
  have fz0 := kb.frozen 0
  have fz1 := kb.frozen 1
  have fz2 := kb.frozen 2
  have hS5 : Below V1.heap.size V1 (put3 X4 bt (.int .i64 (lanes : Int)) (.int .i64 1) (srow gP lanes qc)) := hS4.trans (put3_below hbtl _ _ _)
  rw [if_pos (by rfl)]
  go_simp
  refine hK.out _ _ (fun h => hS5) ?_
  clear hK K
  try simp only [Act.put, nrz]
  refine tkz 16 rfl hS5 (fun w' hS' => by go_simp; rfl) ?_
  simp only [nrz]
  refine done_ops (by kernel_rfl) ?_
  have kb2 := put3_blk kb (.int .i64 (lanes : Int)) (.int .i64 1) (srow gP lanes qc)
  have rowP2 := row_put3b rowP (kb.not_row (by decide) rowP) (.int .i64 (lanes : Int)) (.int .i64 1) (srow gP lanes qc)
  have hM2 := hM.later hS5
  have kx2 := kx.below hS5 lx
  have hBB2 := hBB.trans (hS5.mono (Nat.le_trans hBw hBB.size))
  have hszX := hS5.size
  clear rowP kb hM kx hBB hS4 hS5 hS0 z0 z1 z2 fz0 fz1 fz2
  obtain ⟨X9, hX9⟩ : ∃ X, ((X4.setCell ⟨bt, 0, none⟩ (.int .i64 (lanes : Int))).setCell ⟨bt, 1, none⟩ (.int .i64 1)).setCell ⟨bt, 2, none⟩ (.slice (some ⟨gP, 0, none⟩) lanes qc) = X := ⟨_, rfl⟩
  have e9 : put3 X4 bt (.int .i64 (lanes : Int)) (.int .i64 1) (srow gP lanes qc) = X9 := hX9
  rw [e9] at kb2 rowP2 hM2 kx2 hBB2 hszX
  rw [hX9]
  clear hX9 e9
  have lb := kb2.lt
  have lx2 := kx2.lt
  have hS : Below X9.heap.size X9 X9.drew := (Below.refl _ _).drew
  go_wp2_with fail
  refine plain_region (fun W' => Below X9.heap.size X9 W') 9 10 (by kernel_rfl) rfl ?_
  simp only [Array.replicate_succ, Array.replicate_zero, List.push_toArray, List.nil_append, List.cons_append]
  obtain ⟨Y0, hXY0⟩ : ∃ X : World, X9.drew = X := ⟨_, rfl⟩
  rw [hXY0] at hS ⊢
  clear hXY0
  refine tkz 0 rfl hS (fun w' hS' => by go_simp; rfl) ?_
  simp only [nrz]
  refine tkz 1 rfl hS (fun w' hS' => by go_simp; rfl) ?_
  simp only [nrz]
  refine tkz 2 rfl hS (fun w' hS' => by go_simp; rfl) ?_
  simp only [nrz]
  refine tkz 3 (v := ?qv3) rfl hS (fun w' hS' => ?qy3) ?qz3
  case qy3 =>
   obtain ⟨e0, e1, e2, er, eg, em⟩ := (hM2.later hS').cells
   have erd := er d hdR
   obtain ⟨q0, q1, q2⟩ := cz3 (kb2.below hS' lb)
   have y1 := (kx2.below hS' lx2).cell (i := 1) rfl
   clear hS' er eg em
   go_simp
   rfl
  simp only [nrz]
  refine tkz 4 rfl hS (fun w' hS' => by go_simp; rfl) ?_
  simp only [nrz]
  refine tkz 5 (v := ?qv5) rfl hS (fun w' hS' => ?qy5) ?qz5
  case qy5 =>
   obtain ⟨e0, e1, e2, er, eg, em⟩ := (hM2.later hS').cells
   have erd := er d hdR
   obtain ⟨q0, q1, q2⟩ := cz3 (kb2.below hS' lb)
   have y1 := (kx2.below hS' lx2).cell (i := 1) rfl
   clear hS' er eg em
   go_simp
   rfl
  simp only [nrz]
  refine tkz 6 rfl hS (fun w' hS' => by go_simp; rfl) ?_
  simp only [nrz]
  refine tkz 7 (v := ?qv7) rfl hS (fun w' hS' => ?qy7) ?qz7
  case qy7 =>
   obtain ⟨e0, e1, e2, er, eg, em⟩ := (hM2.later hS').cells
   have erd := er d hdR
   obtain ⟨q0, q1, q2⟩ := cz3 (kb2.below hS' lb)
   have y1 := (kx2.below hS' lx2).cell (i := 1) rfl
   clear hS' er eg em
   go_simp
   rfl
  simp only [nrz]
  refine tkz 8 (v := ?qv8) rfl hS (fun w' hS' => ?qy8) ?qz8
  case qy8 =>
   go_simp
   try go_ints
   first
   | rfl
   | (rw [if_pos (by omega)]; done)
   | rw [if_pos ⟨by omega, by omega⟩]
  simp only [nrz]
  refine step_op 9 (by kernel_rfl) rfl (fun K hK => ?_)
  obtain ⟨e0, e1, e2, er, eg, em⟩ := (hM2.later hS).cells
  have erd := er d hdR
  have fzd := (hM2.later hS).frozen.2.2 d
  clear er eg em e0 e1 e2
  rw [if_pos (by rfl)]
  go_simp
  refine hK.out _ _ (fun h => absurd h (by omega)) ?_
  clear hK K
  try simp only [Act.put, nrz]
  refine done_ops (by kernel_rfl) ?_
  have hgP := (rowP2.lt gP rfl).1
  have hrow3 := row_below rowP2 hS
  obtain ⟨hMf, hbf⟩ := (hM2.later hS).repl hdR (jrow_weaken hrow3 (by omega)) (fun r hr e => by have := hGl r hr; omega) (by omega) (by have := hS.size; have := hBB2.size; omega)
  have hBBf := hBB2.trans ((hS.mono (by have := hBB2.size; omega)).trans hbf)
  clear hM2 hbf hBB2 hrow3 rowP2 kb2 kx2 hS
  go_wp2_with fail
  go_end0
  exact ⟨⟨_, rfl⟩, _, _, if_neg (by omega), hMf, hBBf⟩
end Go.Proofs.YtekiemlniegddaaGreat
namespace Go.Proofs.YtekiemlniegddaaGreat
open Go Go.RowKit Go.Shelf
def doL : List Nat := [0, 118, 119, 120, 121, 122, 123]
def doF (k : Nat) : Nat := doL[k]?.getD 0
theorem do_fn {k : Nat} (h1 : 1 ≤ k) (h7 : k < 7) : (needAt k).fn = .func (.func (doF k)) #[] #[] := by
 match k, h1, h7 with
 | 1, _, _ => rfl
 | 2, _, _ => rfl
 | 3, _, _ => rfl
 | 4, _, _ => rfl
 | 5, _, _ => rfl
 | 6, _, _ => rfl
theorem enters_do1 : ∀ args w, (callFunc 118 args).run Tryz.prog w = .ok (.enter 118 args) w := enters_of Tryz.func118 (by kernel_rfl) rfl
theorem enters_do2 : ∀ args w, (callFunc 119 args).run Tryz.prog w = .ok (.enter 119 args) w := enters_of Tryz.func119 (by kernel_rfl) rfl
theorem enters_do3 : ∀ args w, (callFunc 120 args).run Tryz.prog w = .ok (.enter 120 args) w := enters_of Tryz.func120 (by kernel_rfl) rfl
theorem enters_do4 : ∀ args w, (callFunc 121 args).run Tryz.prog w = .ok (.enter 121 args) w := enters_of Tryz.func121 (by kernel_rfl) rfl
theorem enters_do5 : ∀ args w, (callFunc 122 args).run Tryz.prog w = .ok (.enter 122 args) w := enters_of Tryz.func122 (by kernel_rfl) rfl
theorem enters_do6 : ∀ args w, (callFunc 123 args).run Tryz.prog w = .ok (.enter 123 args) w := enters_of Tryz.func123 (by kernel_rfl) rfl
theorem enters_do {k : Nat} (h1 : 1 ≤ k) (h7 : k < 7) : ∀ args w, (callFunc (doF k) args).run Tryz.prog w = .ok (.enter (doF k) args) w := by
 match k, h1, h7 with
 | 1, _, _ => exact enters_do1
 | 2, _, _ => exact enters_do2
 | 3, _, _ => exact enters_do3
 | 4, _, _ => exact enters_do4
 | 5, _, _ => exact enters_do5
 | 6, _, _ => exact enters_do6
/-- What an instruction's function does. -/
theorem do_any (v : VecN) (hv : VecIn v) (L R N : Nat) (hL : v.lanes = (L : Int)) (hR : v.regs = (R : Int)) (hN : v.mem = (N : Int)) (x : InsN) (hx : insB v x = true) (k : Nat) (hO : x.op = (k : Int)) (ia : Option Addr) (ic : Nat)
  (B bm : Nat) (M : MacN) (gr gm cr cm : Nat) (G C : Nat → Nat) (w : World) (hM : MacAt B w bm L R N M gr gm cr cm G C) (hr : RegB L R M) (hra : Rd B w ia x.ad) (hBw : B ≤ w.heap.size) :
  Calls Tryz.prog (doF k) #[.pointer (some ⟨bm, 0, none⟩), insv x ia ic] w fun e w' => (∃ v, e = .returned v) ∧ ∃ G' C', C' R = C R ∧ MacAt B w' bm L R N (stepM L x M) gr gm cr cm G' C' ∧ Below B w w' := by
 obtain ⟨v1, v2, v3, v4, v5, v6⟩ := hv
 have hop := ins_op hx
 have hl : 1 ≤ L ∧ L ≤ 16 := by omega
 have hRN : R ≤ 16 ∧ N ≤ 8192 := by omega
 have adr : adrB v x.ad = true → x.ad.length = L ∧ ∀ k, k < L → -1 ≤ adOf x k ∧ adOf x k < N := fun h => by
  obtain ⟨h1, h2⟩ := adr_in h
  have : x.ad.length = L := by omega
  exact ⟨this, fun k hk => by have := h2 k (by omega); omega⟩
 have hk : k = 1 ∨ k = 2 ∨ k = 3 ∨ k = 4 ∨ k = 5 ∨ k = 6 := by omega
 unfold stepM
 rcases hk with rfl | rfl | rfl | rfl | rfl | rfl
 ·obtain ⟨⟨d1, d2⟩, _, ha⟩ := ins_1 hx hO
  obtain ⟨a1, a2⟩ := adr ha
  rw [if_pos (by omega)]
  exact (mload_any B bm L R N M gr gm cr cm G C w hM hl hRN x ia ic x.d.toNat (by omega) (by omega) a1 hra a2 hBw).mono fun e w' h => ⟨h.1, G, C, rfl, h.2.1, h.2.2⟩
 ·obtain ⟨⟨d1, d2⟩, ha⟩ := ins_2 hx hO
  obtain ⟨a1, a2⟩ := adr ha
  rw [if_neg (by omega), if_pos (by omega)]
  exact (mstore_any B bm L R N M gr gm cr cm G C w hM hl hRN x ia ic x.a.toNat (by omega) (by omega) a1 hra a2 hBw).mono fun e w' h => ⟨h.1, G, C, rfl, h.2.1, h.2.2⟩
 ·obtain ⟨⟨d1, d2⟩, _⟩ := ins_3 hx hO
  rw [if_neg (by omega), if_neg (by omega), if_pos (by omega)]
  exact (mset_any B bm L R N M gr gm cr cm G C w hM hl hRN x ia ic x.d.toNat (by omega) (by omega) hBw).mono fun e w' h => ⟨h.1, G, C, rfl, h.2.1, h.2.2⟩
 ·obtain ⟨⟨d1, d2⟩, ⟨a1, a2⟩, hp⟩ := ins_4 hx hO
  rw [if_neg (by omega), if_neg (by omega), if_neg (by omega), if_pos (by omega)]
  exact mpoint_any B bm L R N M gr gm cr cm G C w hM hl hRN x ia ic x.d.toNat x.a.toNat (by omega) (by omega) (by omega) (by omega) hp hBw
 ·obtain ⟨⟨d1, d2⟩, ⟨a1, a2⟩, ⟨b1, b2⟩, hh⟩ := ins_5 hx hO
  rw [if_neg (by omega), if_neg (by omega), if_neg (by omega), if_neg (by omega), if_pos (by omega)]
  exact mzip_any B bm L R N M gr gm cr cm G C w hM hl hRN x ia ic x.d.toNat x.a.toNat x.b.toNat (by omega) (by omega) (by omega) (by omega) (by omega) (by omega) hh hBw
 ·obtain ⟨⟨d1, d2⟩, ⟨a1, a2⟩, hv⟩ := ins_6 hx hO
  rw [if_neg (by omega), if_neg (by omega), if_neg (by omega), if_neg (by omega), if_neg (by omega), if_pos (by omega)]
  exact (madd_any B bm L R N M gr gm cr cm G C w hM hl hRN x ia ic x.d.toNat x.a.toNat (by omega) (by omega) (by omega) (by omega) hv.1 hv.2 (hr _ (by omega)) hBw).mono fun e w' h => ⟨h.1, G, C, rfl, h.2.1, h.2.2⟩
/-- A machine whose registers are being made: k of them are there. -/
structure MacP (B : Nat) (W : World) (bm lanes k N : Nat) (v : Value) (gm cm : Nat) (G C : Nat → Nat) : Prop where
 m : Blk W bm 151 #[.int .i64 (lanes : Int), v, srow gm N cm]
 rr : W.ownsRow B 30 1 v k (rowsL k lanes G C)
 rg : ∀ r, r < k → W.ownsRow B 3 1 (srow (G r) lanes (C r)) lanes (intL lanes fun _ => 0)
 mm : W.ownsRow B 3 1 (srow gm N cm) N (intL N fun _ => 0)
 inj : ∀ r s, r < k → s < k → G r = G s → r = s
 ne : ∀ r, r < k → G r ≠ gm
 hb : B ≤ bm
theorem MacP.later {B : Nat} {W W' : World} {bm lanes k N : Nat} {v : Value} {gm cm : Nat} {G C : Nat → Nat} (h : MacP B W bm lanes k N v gm cm G C) (hb : Below W.heap.size W W') : MacP B W' bm lanes k N v gm cm G C :=
 ⟨h.m.below hb h.m.lt, row_below h.rr hb, fun r hr => row_below (h.rg r hr) hb, row_below h.mm hb, h.inj, h.ne, h.hb⟩
/-- The machine is made. -/
theorem MacP.mac {B : Nat} {W : World} {bm lanes R N : Nat} {v : Value} {gm cm : Nat} {G C : Nat → Nat} (h : MacP B W bm lanes R N v gm cm G C) (hR : 0 < R) (hC : C R = 0) : ∃ gr cr, v = srow gr R cr ∧ MacAt B W bm lanes R N ⟨fun _ _ => 0, fun _ => 0⟩ gr gm cr cm G C := by
 obtain ⟨a, c, rfl⟩ := row_slice h.rr
 obtain ⟨g, rfl⟩ := row_someP h.rr hR
 exact ⟨g, c, rfl, h.m, h.rr, h.rg, h.mm, h.inj, h.ne, h.hb, fun h0 => absurd hC h0⟩
theorem row_apart {W : World} {B1 B2 : Nat} {e1 e2 : TypeId} {s1 s2 g n c k1 k2 : Nat} {v : Value} {xs ys : List Value} (h1 : W.ownsRow B1 e1 s1 (srow g n c) k1 xs) (h2 : W.ownsRow B2 e2 s2 v k2 ys) (he : e1 ≠ e2) : some g ≠ v.ownBlock := by
 rcases h2.2 with ⟨h3, _⟩ | ⟨g', cap, cur, h3, _⟩
 ·rw [h3]; intro h; cases h
 ·subst h3
  intro h
  have hgg : g = g' := by injection h
  exact rows_ne h1 h2 he hgg
theorem rowsL_succ (k lanes g c : Nat) (G C : Nat → Nat) : rowsL (k + 1) lanes (fun r => if r = k then g else G r) (fun r => if r = k then c else C r) = rowsL k lanes G C ++ [srow g lanes c] := by
 unfold rowsL
 rw [List.range_succ, List.map_append, List.map_cons, List.map_nil]
 simp only [if_true]
 congr 1
 exact List.map_congr_left fun r hr => by have := List.mem_range.1 hr; rw [if_neg (by omega), if_neg (by omega)]
theorem MacP.push {B : Nat} {W W1 W2 : World} {bm L k N : Nat} {v v' : Value} {gm cm g : Nat} {G C : Nat → Nat} (h : MacP B W bm L k N v gm cm G C) (hb1 : Below W.heap.size W W1) (hg : W.heap.size ≤ g)
  (hnew : W1.ownsRow B 3 1 (srow g L L) L (intL L fun _ => 0)) (hrow : W2.ownsRow B 30 1 v' (k + 1) (rowsL k L G C ++ [srow g L L])) (hgr : W1.grownBy W2 v.ownBlock)
  (hat : v'.ownBlock = v.ownBlock ∨ v'.ownBlock = some W1.heap.size) (hB : B ≤ W.heap.size) :
  MacP B (W2.setCell ⟨bm, 1, none⟩ v') bm L (k + 1) N v' gm cm (fun r => if r = k then g else G r) (fun r => if r = k then L else C r) ∧ Below B W (W2.setCell ⟨bm, 1, none⟩ v') := by
 have h1 := h.later hb1
 have hbm := h.m.lt
 have n1 : some bm ≠ v.ownBlock := h1.m.not_row (by decide) h1.rr
 have n2 : some bm ≠ v'.ownBlock := by
  rcases hat with e | e
  ·rw [e]; exact n1
  ·rw [e]; have := h1.m.lt; intro h; simp at h; omega
 have low : ∀ {g n c : Nat} {xs : List Value}, W.ownsRow B 3 1 (srow g n c) n xs → g < W.heap.size := fun h => (h.lt _ rfl).2
 refine ⟨⟨(h1.m.kept hgr n1).set 1 v', ?_, fun r hr => ?_, ?_, fun r s hr hs e => ?_, fun r hr => ?_, h.hb⟩, ?_⟩
 ·rw [rowsL_succ]
  exact row_setCell hrow (a := ⟨bm, 1, none⟩) n2 _
 ·by_cases e : r = k
  ·rw [if_pos e, if_pos e]
   exact row_setCell (hnew.kept hgr (.inr (row_apart hnew h1.rr (by decide)))) (a := ⟨bm, 1, none⟩) (some_ne (show bm ≠ g by omega)) _
  ·rw [if_neg e, if_neg e]
   have h2 := h1.rg r (by omega)
   have h3 := low (h.rg r (by omega))
   exact row_setCell (h2.kept hgr (.inr (row_apart h2 h1.rr (by decide)))) (a := ⟨bm, 1, none⟩) (h1.m.not_row (by decide) h2) _
 ·exact row_setCell (h1.mm.kept hgr (.inr (row_apart h1.mm h1.rr (by decide)))) (a := ⟨bm, 1, none⟩) (h1.m.not_row (by decide) h1.mm) _
 ·by_cases e1 : r = k
  ·by_cases e2 : s = k
   ·omega
   ·rw [if_pos e1, if_neg e2] at e; have := low (h.rg s (by omega)); omega
  ·by_cases e2 : s = k
   ·rw [if_neg e1, if_pos e2] at e; have := low (h.rg r (by omega)); omega
   ·rw [if_neg e1, if_neg e2] at e; exact h.inj r s (by omega) (by omega) e
 ·by_cases e : r = k
  ·rw [if_pos e]; have := low h.mm; omega
  ·rw [if_neg e]; exact h.ne r (by omega)
 ·exact ((hb1.mono hB).grown hgr (by have := hb1.size; omega) (fun j e => (h1.rr.lt j e).1)).setCell h.hb _
theorem put_list {N o : Nat} {xs : List Int} {mem : Nat → Int} (h : o + xs.length ≤ N) : (intL N mem).take o ++ xs.map (Value.int .i64) ++ (intL N mem).drop (o + xs.length) = intL N (putImg (o : Int) xs mem) := by
 refine List.ext_getElem? fun i => ?_
 have e1 : ((intL N mem).take o).length = o := by rw [List.length_take, intL_len]; omega
 have hm : (xs.map (Value.int .i64)).length = xs.length := List.length_map _
 unfold putImg
 rw [List.append_assoc]
 by_cases hi : i < o
 ·rw [List.getElem?_append_left (by omega), List.getElem?_take, if_pos hi, intL_at (by omega), intL_at (by omega), if_neg (by omega)]
 rw [List.getElem?_append_right (by omega), e1]
 by_cases hi2 : i < o + xs.length
 ·rw [List.getElem?_append_left (by omega), List.getElem?_map, intL_at (by omega), if_pos ⟨by omega, by omega, by omega⟩]
  unfold px
  rw [show ((i : Int) - (o : Int)).toNat = i - o by omega, List.getElem?_eq_getElem (show i - o < xs.length by omega)]
  rfl
 rw [List.getElem?_append_right (by omega), hm, List.getElem?_drop, show o + xs.length + (i - o - xs.length) = i by omega]
 by_cases hi3 : i < N
 ·rw [intL_at hi3, intL_at hi3, if_neg (by omega)]
 ·rw [List.getElem?_eq_none (by rw [intL_len]; omega), List.getElem?_eq_none (by rw [intL_len]; omega)]
theorem grownBy_setRow (w : World) (g : Nat) (cs : Array Value) : w.grownBy (w.setRow g cs) (some g) :=
 ⟨rfl, rfl, rfl, by simp, fun k _ hne => setRow_other w g k cs (fun e => hne (by rw [e]))⟩
/-- An image is copied into the memory. -/
theorem MacAt.copied {B : Nat} {W : World} {bm L R N : Nat} {M : MacN} {gr gm cr : Nat} {G C : Nat → Nat} (h : MacAt B W bm L R N M gr gm cr N G C) {o : Nat} {xs : List Int} (ho : o + xs.length ≤ N) (hN : N ≤ 8192) (hB : B ≤ W.heap.size) :
  MacAt B (W.setRow gm (((intL N M.mem).toArray.toList.take o ++ xs.map (Value.int .i64) ++ (intL N M.mem).toArray.toList.drop (o + (xs.map (Value.int .i64)).length)).toArray)) bm L R N ⟨M.regs, putImg (o : Int) xs M.mem⟩ gr gm cr N G C ∧
   Below B W (W.setRow gm (((intL N M.mem).toArray.toList.take o ++ xs.map (Value.int .i64) ++ (intL N M.mem).toArray.toList.drop (o + (xs.map (Value.int .i64)).length)).toArray)) := by
 have hw := row_whole h.mm
 have hlow := (h.mm.lt gm rfl).1
 rw [List.length_map]
 show MacAt B (W.setRow gm (((intL N M.mem).take o ++ xs.map (Value.int .i64) ++ (intL N M.mem).drop (o + xs.length)).toArray)) bm L R N ⟨M.regs, putImg (o : Int) xs M.mem⟩ gr gm cr N G C ∧ Below B W (W.setRow gm (((intL N M.mem).take o ++ xs.map (Value.int .i64) ++ (intL N M.mem).drop (o + xs.length)).toArray))
 rw [put_list ho]
 have hg := grownBy_setRow W gm (intL N (putImg (o : Int) xs M.mem)).toArray
 have hne := h.m.not_row (by decide) h.mm
 refine ⟨⟨h.m.kept hg hne, h.rr.kept hg (.inr (some_ne (rows_ne h.mm h.rr (by decide)).symm)), fun r hr => (h.rg r hr).kept hg (.inr (some_ne (h.ne r hr))), ?_, h.inj, h.ne, h.hb, fun h0 => (h.gs h0).kept hg ((h.gs h0).not_row (by decide) h.mm)⟩, below_setRow (Below.refl _ _) hlow _⟩
 refine ⟨by rw [intL_len, Nat.mul_one], .inr ⟨gm, N, _, rfl, hlow, setRow_heap W gm _ _ _ _ hw, Nat.le_refl _, by unfold maxLen; omega, by simp [intL_len], ?_⟩⟩
 rw [List.take_of_length_le (by simp [intL_len])]
theorem step_make_fullP {P : Program} {ops : Array Oper} {o : Oper} {a : Act} {w : World} {K : Act → World → Prop} {Q : Exit → Act → World → Prop} {E : Prop}
  (hg : o.guard = none) (l c : Operand) (t : TypeId) (hop : o.op = Op.makeSlice t l c) (base : Nat) (e : TypeId) (i : TypeInfo) (z : Value) (size : Nat) (h1 : P.underlying t = some (.slice e)) (h2 : P.info? e = some i) (h3 : i.zero = some z) (h4 : i.size = size)
  (kl kc : IntKind) (m : Nat) (hl : a.eval l = .int kl (m : Int)) (hc : a.eval c = .int kc (m : Int)) (b2 : i.bytes * m ≤ 281474976710656) (b3 : m ≤ maxLen) (b4 : base ≤ w.heap.size)
  (hK : ∀ w', w'.ownsRow base e size (.slice (some ⟨w.heap.size, 0, none⟩) m m) m (madeCells z.cells (m * size)).toList → w.grownBy w' none → K (a.put o.dst (.slice (some ⟨w.heap.size, 0, none⟩) m m)) w') :
  if Region.wanted o (yielded ops a.tmps) = true then Oper.wp P o a w K Q else E := by
 have hw : Region.wanted o (yielded ops a.tmps) = true := by simp [Region.wanted, hg]
 rw [if_pos hw]
 obtain ⟨w', hrun, r1, r2⟩ := run_make_full (P := P) w base t e i z size h1 h2 h3 h4 kl kc m b2 b3 b4
 unfold Oper.wp
 simp [execOp, hop, hl, hc, hrun, Result.andThen]
 exact hK w' r1 r2
theorem step_append_atP {P : Program} {ops : Array Oper} {o : Oper} {a : Act} {w : World} {K : Act → World → Prop} {Q : Exit → Act → World → Prop} {E : Prop}
  (hg : o.guard = none) (s x : Operand) (t : TypeId) (hop : o.op = Op.call { callee := Callee.builtin Builtin.append, args := #[s, x], argTypes := #[t, t] })
  (base : Nat) (e : TypeId) (i : TypeInfo) (z : Value) (size bytes : Nat) (h1 : P.underlying t = some (.slice e)) (h2 : P.info? e = some i) (h3 : i.zero = some z) (h4 : i.size = size) (h5 : i.bytes = bytes) (h6 : z.cells.size = size) (h7 : 0 < size)
  (v : Value) (k : Nat) (xs : List Value) (hs : a.eval s = v) (hown : w.ownsRow base e size v k xs) (ad : Addr) (m c : Nat) (news : List Value) (hx : a.eval x = .slice (some ad) m c) (hn : news.length = m * size)
  (hc : ∀ j u, news[j]? = some u → w.cell? (ad.add j) = some u) (h1c : ∀ u ∈ news, u.oneCell' = true) (b1 : k + m ≤ maxLen) (b2 : (k + m) * bytes ≤ 140737488355328) (b3 : base ≤ w.heap.size)
  (hK : ∀ v' w', w'.ownsRow base e size v' (k + m) (xs ++ news) → w.grownBy w' v.ownBlock → (v'.ownBlock = v.ownBlock ∨ v'.ownBlock = some w.heap.size) → K (a.put o.dst v') w') :
  if Region.wanted o (yielded ops a.tmps) = true then Oper.wp P o a w K Q else E := by
 have hw : Region.wanted o (yielded ops a.tmps) = true := by simp [Region.wanted, hg]
 rw [if_pos hw]
 obtain ⟨v', w', hrun, r1, r2, r3, r4⟩ := run_append_own_at (P := P) w base t o.type e i z size bytes h1 h2 h3 h4 h5 h6 h7 v k xs hown ad m c news hn hc h1c b1 b2 b3
 unfold Oper.wp
 simp [execOp, hop, resolve, invoke, builtin, hs, hx, hrun, Result.andThen]
 exact hK v' w' r1 r2 r4
theorem info_row : (Tryz.prog.info? 30).map (fun i => (i.zero, i.size, i.bytes)) = some (some (.slice none 0 0), 1, 24) := by kernel_rfl
theorem info_num : (Tryz.prog.info? 3).map (fun i => (i.zero, i.size, i.bytes)) = some (some (.int .i64 0), 1, 8) := by kernel_rfl
theorem made_row (n : Nat) : (madeCells (Value.int .i64 0).cells (n * 1)).toList = intL n fun _ => 0 := by
 unfold intL
 refine List.ext_getElem (by simp [size_madeCells]) fun i h1 h2 => ?_
 simp [madeCells, Value.cells, Nat.mod_one]
/-- The table lies behind the machine. -/
theorem MacAt.guest {B : Nat} {W : World} {bm L R N : Nat} {M : MacN} {gr gm cr cm bT : Nat} {G C : Nat → Nat} (h : MacAt B W bm L R N M gr gm cr cm G C) (kT : Blk W bT 139 tabC) : MacAt B W bm L R N M gr gm cr cm G (fun r => if r = R then bT else C r) := by
 have hrow : rowsL R L G (fun r => if r = R then bT else C r) = rowsL R L G C := by
  unfold rowsL
  exact List.map_congr_left fun r hr => by have := List.mem_range.1 hr; show srow (G r) L (if r = R then bT else C r) = _; rw [if_neg (by omega)]
 refine ⟨h.m, hrow.symm ▸ h.rr, fun r hr => ?_, h.mm, h.inj, h.ne, h.hb, fun _ => ?_⟩
 ·show W.ownsRow B _ 1 (srow (G r) L (if r = R then bT else C r)) L _
  rw [if_neg (by omega)]; exact h.rg r hr
 ·show Blk W (if R = R then bT else C R) _ _
  rw [if_pos rfl]; exact kT
theorem memN_bd {ms : List PicN} {ats : List Int} {n : Nat} (h : ∀ k, k < n → allIn (-2147483648) 2147483648 (picAt ms k).px = true) : ∀ k, k ≤ n → ∀ i, -2147483648 ≤ memN ats ms k i ∧ memN ats ms k i ≤ 2147483648
 | 0, _, i => by show -2147483648 ≤ (0 : Int) ∧ (0 : Int) ≤ 2147483648; omega
 | k + 1, hk, i => by
  show -2147483648 ≤ putImg (ats[k]?.getD 0) (picAt ms k).px (memN ats ms k) i ∧ putImg (ats[k]?.getD 0) (picAt ms k).px (memN ats ms k) i ≤ 2147483648
  unfold putImg
  split
  ·exact px_bd (h k (by omega)) _
  ·exact memN_bd h k (by omega) i
theorem run_bd (v : VecN) (l : List InsN) (hl : ∀ x ∈ l, insB v x = true) (M : MacN) (hr : RegB v.lanes.toNat v.regs.toNat M) (hm : MemB v.mem.toNat M) : RegB v.lanes.toNat v.regs.toNat (runM v.lanes.toNat l M) ∧ MemB v.mem.toNat (runM v.lanes.toNat l M) := by
 induction l generalizing M with
 | nil => exact ⟨hr, hm⟩
 | cons x l ih =>
  rw [runM_cons]
  obtain ⟨h1, h2⟩ := step_bd v x (hl x (by simp)) M hr hm
  exact ih (fun y hy => hl y (by simp [hy])) _ h1 h2
theorem runM_take (L : Nat) (l : List InsN) (M : MacN) (k : Nat) (hk : k < l.length) : runM L (l.take (k + 1)) M = stepM L (insAt l k) (runM L (l.take k) M) := by
 rw [List.take_succ_eq_append_getElem hk, runM_app, runM_cons, runM_nil]
 unfold insAt
 rw [List.getElem?_eq_getElem hk]
 rfl
end Go.Proofs.YtekiemlniegddaaGreat
namespace Go.Proofs.YtekiemlniegddaaGreat
open Go Go.Maps Go.RowKit Go.Shelf
set_option maxRecDepth 100000 in
set_option maxHeartbeats 8000000 in
theorem addresses_any (w : World) (bc bm : Nat) (WW HH I vr vm : Int) (L : Nat) (a : Option Addr) (n c : Nat) (fv cv : Value) (kc : Blk w bc 103 #[.int .i64 WW, .int .i64 HH, .int .i64 I, .slice a n c, .int .i64 (L : Int), .int .i64 vr, .int .i64 vm, .map (some bm), fv, cv]) (hw : 1 ≤ WW ∧ WW ≤ 16) (hh : 1 ≤ HH ∧ HH ≤ 16) (hL : 1 ≤ L ∧ L ≤ 16) (gr : Nat) (hgr : gr ≤ 256) (place dx dy bd : Int) (hpl : 0 ≤ place ∧ place ≤ 100000) (hdx : -100 ≤ dx ∧ dx ≤ 100) (hdy : -100 ≤ dy ∧ dy ≤ 100) (hbd : 0 ≤ bd ∧ bd ≤ 255) :
  Calls Tryz.prog 109 #[.pointer (some ⟨bc, 0, none⟩), .int .i64 (gr : Int), .int .i64 place, .int .i64 dx, .int .i64 dy, .int .u8 bd] w fun e w' => ∃ b, e = .returned (srow b L L) ∧ w'.ownsRow w.heap.size 3 1 (srow b L L) L (intL L (adrAt WW HH L gr place dx dy bd)) ∧ Below w.heap.size w w' := by
 have hB : Below w.heap.size w w := Below.refl _ _
 obtain ⟨i0, hi, hz0, hz1, hz2⟩ := info_parts info_num
 obtain ⟨A, hA⟩ : ∃ A : Nat → Int, (fun t => adrAt WW HH L gr place dx dy bd t) = A := ⟨_, rfl⟩
 have hAt : ∀ t, A t = adrAt WW HH L gr place dx dy bd t := fun t => by rw [← hA]
 have hAH := Lib.hid hAt
 rw [show (adrAt WW HH L gr place dx dy bd) = A from hA]
 clear hA hAt
 obtain ⟨GL, hGL⟩ : ∃ GL : Nat, gr * L = GL := ⟨_, rfl⟩
 have hGLi : (gr : Int) * (L : Int) = (GL : Int) := by rw [← hGL]; push_cast; rfl
 have hGLH := Lib.hid hGL
 have hGLb : GL ≤ 4096 := by have := Nat.mul_le_mul hgr hL.2; omega
 have hm1 := prod_bd (a := WW) (x := HH) (m := 16) (n := 16) (by omega) (by omega) (by omega) (by omega) (by omega)
 simp only [Int.reduceMul] at hm1
 obtain ⟨p, hp⟩ : ∃ p, WW * HH = p := ⟨_, rfl⟩
 rw [hp] at hm1
 have hpH := Lib.hid hp
 have hcon := fun W k2 x y h1 h2 => cell_any W bc bm WW HH I (L : Int) vr vm a n c fv cv k2 hw hh x y bd h1 h2 hbd
 have hconH := Lib.hid hcon
 have ne : Value.int .i64 0 = .int .i64 0 := rfl
 clear hGL hcon ne
 have hb0 := kc.lt
 have y0 := kc.cell (i := 0) rfl
 have y1 := kc.cell (i := 1) rfl
 have y4 := kc.cell (i := 4) rfl
 go_enter Tryz.func109, Tryz.ntmps109
 go_wp2_with (at_make; refine wpList_make_full _ rfl _ _ 30 rfl w.heap.size 3 i0 (.int .i64 0) 1 Tryz.underlying30 hi hz0 hz1 .i64 .i64 (L : Int) (L : Int) L rfl rfl (by simp) (by simp) (by rw [hz2]; omega) (by unfold maxLen; omega) (by simp) ?_; intro w1 hown hg; have kc1 := kc.kept hg (by simp))
 clear y0 y1 y4
 rw [made_row] at hown
 have hB1 : Below w.heap.size w w1 := hB.grown hg hB.size (fun k e => by cases e)
 obtain ⟨g, hgw⟩ : ∃ g, w.heap.size = g := ⟨_, rfl⟩
 have hbcg : bc ≠ g := by omega
 have hgwH := Lib.hid hgw
 rw [hgw] at hown ⊢
 clear hgw hg kc
 have hown0 : w1.ownsRow g 3 1 (srow g L L) L (intL L (fun t => if t < 0 then A t else 0)) := by rw [intL_congr (g := fun _ => 0) (fun j _ => if_neg (by omega))]; exact hown
 clear hown
 go_loopw [25] (fun i wr => ∃ j : Nat, j ≤ L ∧ i = .int .i64 (j : Int) ∧ wr.ownsRow g 3 1 (srow g L L) L (intL L (fun t => if t < j then A t else 0)) ∧ Blk wr bc 103 #[.int .i64 WW, .int .i64 HH, .int .i64 I, .slice a n c, .int .i64 (L : Int), .int .i64 vr, .int .i64 vm, .map (some bm), fv, cv] ∧ Below g w wr) (fun i _ => L - (intOf i).toNat)
 case atStart => exact ⟨0, Nat.zero_le _, rfl, hown0, kc1, by rw [← hgwH.out]; exact hB1⟩
 case round =>
  clear hown0 kc1 hB1 hB
  obtain ⟨j, hj, rfl, hown, kc, hB⟩ := hrel
  by_cases hlt : j < L
  case neg =>
   have hltd : decide ((j : Int) < (L : Int)) = false := by simp; omega
   have hjn : L = j := by omega
   subst hjn
   rw [intL_congr (g := A) (fun j h => if_pos h)] at hown
   go_wp2_with fail
   go_ret
   exact ⟨g, rfl, by rw [hgwH.out]; exact hown, by rw [hgwH.out]; exact hB⟩
  case pos =>
   have hltd : decide ((j : Int) < (L : Int)) = true := by simp; omega
   have hc0 := row_cellAt hown j (intL_at hlt)
   have hf0 := row_frz hown j
   obtain ⟨hown1, hg1⟩ := hown.stored j (.int .i64 (-1))
   rw [intL_set] at hown1
   have hgl := (hown.lt g rfl).2
   have kc1 := kc.kept hg1 (by simp; exact hbcg)
   have hB1 := hB.setCell (p := ⟨g, j, none⟩) (Nat.le_refl _) (.int .i64 (-1))
   obtain ⟨W1, hW1⟩ : ∃ X, wr.setCell ⟨g, j, none⟩ (.int .i64 (-1)) = X := ⟨_, rfl⟩
   rw [hW1] at hown1 kc1 hB1
   have y4 := kc1.cell (i := 4) rfl
   have hlt2 : (j : Int) < (L : Int) := by omega
   have hS : Blk W1.drew bc 103 #[.int .i64 WW, .int .i64 HH, .int .i64 I, .slice a n c, .int .i64 (L : Int), .int .i64 vr, .int .i64 vm, .map (some bm), fv, cv] := kc1.below (Below.refl _ W1).drew kc1.lt
   go_wp2_with fail
   clear hW1 y4 hc0 hf0
   refine plain_region (fun W' => Blk W' bc 103 #[.int .i64 WW, .int .i64 HH, .int .i64 I, .slice a n c, .int .i64 (L : Int), .int .i64 vr, .int .i64 vm, .map (some bm), fv, cv]) 13 13 (by kernel_rfl) rfl ?_
   simp only [Array.replicate_succ, Array.replicate_zero, List.push_toArray, List.nil_append, List.cons_append]
   have FA0 := Lib.hid (fun w' (hS' : (fun W' => Blk W' bc 103 #[.int .i64 WW, .int .i64 HH, .int .i64 I, .slice a n c, .int .i64 (L : Int), .int .i64 vr, .int .i64 vm, .map (some bm), fv, cv]) w') => And.intro (hS'.cell (i := 0) rfl) (hS'.cell (i := 1) rfl))
   refine tkz 0 rfl hS (fun w' hS' => by go_simp; rfl) ?_
   simp only [nrz]
   refine tkz 1 rfl hS (fun w' hS' => by go_simp; rfl) ?_
   simp only [nrz]
   refine tkz 2 rfl hS (fun w' hS' => by go_simp; rfl) ?_
   simp only [nrz]
   refine tkz 3 rfl hS (fun w' hS' => by go_simp; rfl) ?_
   simp only [nrz]
   refine tkz 4 rfl hS (fun w' hS' => by go_simp; rfl) ?_
   simp only [nrz]
   refine tkz 5 rfl hS (fun w' hS' => by obtain ⟨y0, y1⟩ := FA0.out w' hS'; clear hS'; go_simp; rfl) ?_
   simp only [nrz]
   refine tkz 6 rfl hS (fun w' hS' => by go_simp; rfl) ?_
   simp only [nrz]
   refine tkz 7 rfl hS (fun w' hS' => by go_simp; rfl) ?_
   simp only [nrz]
   refine tkz 8 rfl hS (fun w' hS' => by go_simp; rfl) ?_
   simp only [nrz]
   refine tkz 9 rfl hS (fun w' hS' => by go_simp; rfl) ?_
   simp only [nrz]
   refine tkz 10 rfl hS (fun w' hS' => by obtain ⟨y0, y1⟩ := FA0.out w' hS'; clear hS'; go_simp; rfl) ?_
   simp only [nrz]
   refine tkz 11 rfl hS (fun w' hS' => by go_simp; (try go_ints); rfl) ?_
   simp only [nrz]
   refine tkz 12 rfl hS (fun w' hS' => by go_simp; (try go_ints); rfl) ?_
   simp only [nrz]
   refine done_ops (by kernel_rfl) ?_
   have hAj := hAH.out j
   unfold adrAt at hAj
   rw [hGLH.out, hpH.out] at hAj
   have hcast : ((GL + j : Nat) : Int) = (GL : Int) + (j : Int) := by push_cast; rfl
   rw [hcast] at hAj
   clear hcast
   have hB2 := hB1.drew
   have hown2 := row_below hown1 ((Below.refl _ W1).drew)
   have kc2 := hS
   obtain ⟨W2, hW2⟩ : ∃ X, W1.drew = X := ⟨_, rfl⟩
   rw [hW2] at hown2 hB2 kc2 ⊢
   clear hW2 hown1 hB1 kc1 hS hg1 hown hB kc
   by_cases hip : (GL : Int) + (j : Int) < p
   case neg =>
    have hipd : decide ((GL : Int) + (j : Int) < p) = false := decide_eq_false hip
    rw [if_neg hip] at hAj
    have hown3 : W2.ownsRow g 3 1 (srow g L L) L (intL L (fun t => if t < j + 1 then A t else 0)) := by
     rw [intL_congr (g := fun i => if i = j then -1 else if i < j then A i else 0) (fun t _ => ?_)]
     ·exact hown2
     ·by_cases e : t = j
      ·subst e; rw [if_pos (by omega), if_pos rfl, hAj]
      ·rw [if_neg e]
       by_cases e2 : t < j
       ·rw [if_pos e2, if_pos (by omega)]
       ·rw [if_neg e2, if_neg (by omega)]
    clear hAj hown2
    go_wp2_with fail
    go_roundw
    case rel => exact ⟨j + 1, by omega, by go_num, hown3, kc2, hB2⟩
    case measure => simp [intOf]; omega
   case pos =>
    have hipd : decide ((GL : Int) + (j : Int) < p) = true := decide_eq_true hip
    rw [if_pos hip] at hAj
    have hq1 : ((GL : Int) + (j : Int)).tmod WW = ((GL : Int) + (j : Int)) % WW := Int.tmod_eq_emod_of_nonneg (by omega)
    have hq2 : ((GL : Int) + (j : Int)).tdiv WW = ((GL : Int) + (j : Int)) / WW := Int.tdiv_eq_ediv_of_nonneg (by omega)
    have hq3 := Int.emod_nonneg ((GL : Int) + (j : Int)) (show WW ≠ 0 by omega)
    have hq4 := Int.emod_lt_of_pos ((GL : Int) + (j : Int)) (show 0 < WW by omega)
    have hq5 : 0 ≤ ((GL : Int) + (j : Int)) / WW := Int.ediv_nonneg (by omega) (by omega)
    have hq6 : ((GL : Int) + (j : Int)) / WW ≤ (GL : Int) + (j : Int) := Int.ediv_le_self _ (by omega)
    obtain ⟨mx, hmx⟩ : ∃ m, ((GL : Int) + (j : Int)) % WW = m := ⟨_, rfl⟩
    obtain ⟨dv, hdv⟩ : ∃ m, ((GL : Int) + (j : Int)) / WW = m := ⟨_, rfl⟩
    rw [hmx] at hq1 hq3 hq4 hAj
    rw [hdv] at hq2 hq5 hq6 hAj
    clear hmx hdv
    have hip2 : (GL : Int) + (j : Int) < 256 := by omega
    have z1 : ¬ WW = 0 := by omega
    have z1b : (WW == 0) = false := by simp [z1]
    obtain ⟨K0, hK0⟩ : ∃ k, cellN WW HH (mx + dx) (dv + dy) bd = k := ⟨_, rfl⟩
    rw [hK0] at hAj
    have hcall := fun W k2 => hconH.out W k2 (mx + dx) (dv + dy) (by omega) (by omega)
    rw [hK0] at hcall
    have hKb := cell_bd (w := WW) (h := HH) (x := mx + dx) (y := dv + dy) (bd := bd) hw.1 hh.1
    rw [hK0, hpH.out] at hKb
    have hcallH := Lib.hid hcall
    have hAjH := Lib.hid hAj
    clear hcall hAj hK0
    have hS : Blk W2.drew bc 103 #[.int .i64 WW, .int .i64 HH, .int .i64 I, .slice a n c, .int .i64 (L : Int), .int .i64 vr, .int .i64 vm, .map (some bm), fv, cv] := kc2.below (Below.refl _ W2).drew kc2.lt
    have hown3 := row_below hown2 ((Below.refl _ W2).drew)
    have hB3 := hB2.drew
    clear hown2 hB2 kc2
    go_wp2_with fail
    refine plain_region (fun W' => Blk W' bc 103 #[.int .i64 WW, .int .i64 HH, .int .i64 I, .slice a n c, .int .i64 (L : Int), .int .i64 vr, .int .i64 vm, .map (some bm), fv, cv]) 22 22 (by kernel_rfl) rfl ?_
    simp only [Array.replicate_succ, Array.replicate_zero, List.push_toArray, List.nil_append, List.cons_append]
    obtain ⟨X0, hXX0⟩ : ∃ X : World, W2.drew = X := ⟨_, rfl⟩
    rw [hXX0] at hS hown3 hB3 ⊢
    clear hXX0
    refine tkz 0 rfl hS (fun w' hS' => by go_simp; rfl) ?_
    simp only [nrz]
    refine tkz 1 rfl hS (fun w' hS' => by go_simp; rfl) ?_
    simp only [nrz]
    refine tkz 2 rfl hS (fun w' hS' => by go_simp; rfl) ?_
    simp only [nrz]
    refine tkz 3 rfl hS (fun w' hS' => by go_simp; rfl) ?_
    simp only [nrz]
    refine tkz 4 rfl hS (fun w' hS' => by go_simp; rfl) ?_
    simp only [nrz]
    refine tkz 5 rfl hS (fun w' hS' => by go_simp; rfl) ?_
    simp only [nrz]
    refine tkz 6 (v := ?bv6) rfl hS (fun w' hS' => ?by6) ?bz6
    case by6 =>
     have y0 := hS'.cell (i := 0) rfl
     clear hS'
     go_simp
     rfl
    simp only [nrz]
    refine tkz 7 rfl hS (fun w' hS' => by go_simp; (try go_ints); rfl) ?_
    simp only [nrz]
    refine tkz 8 rfl hS (fun w' hS' => by go_simp; rfl) ?_
    simp only [nrz]
    refine tkz 9 rfl hS (fun w' hS' => by go_simp; (try go_ints); rfl) ?_
    simp only [nrz]
    refine tkz 10 rfl hS (fun w' hS' => by go_simp; rfl) ?_
    simp only [nrz]
    refine tkz 11 rfl hS (fun w' hS' => by go_simp; rfl) ?_
    simp only [nrz]
    refine tkz 12 rfl hS (fun w' hS' => by go_simp; rfl) ?_
    simp only [nrz]
    refine tkz 13 rfl hS (fun w' hS' => by go_simp; rfl) ?_
    simp only [nrz]
    refine tkz 14 rfl hS (fun w' hS' => by go_simp; rfl) ?_
    simp only [nrz]
    refine tkz 15 (v := ?bv15) rfl hS (fun w' hS' => ?by15) ?bz15
    case by15 =>
     have y0 := hS'.cell (i := 0) rfl
     clear hS'
     go_simp
     rfl
    simp only [nrz]
    refine tkz 16 rfl hS (fun w' hS' => by go_simp; (try go_ints); rfl) ?_
    simp only [nrz]
    refine tkz 17 rfl hS (fun w' hS' => by go_simp; rfl) ?_
    simp only [nrz]
    refine tkz 18 rfl hS (fun w' hS' => by go_simp; (try go_ints); rfl) ?_
    simp only [nrz]
    refine tkz 19 rfl hS (fun w' hS' => by go_simp; rfl) ?_
    simp only [nrz]
    refine step_op 20 (by kernel_rfl) rfl (fun K hK => ?_)
    rw [if_pos (by rfl)]
    go_simp
    refine (hcallH.out X0 hS).mono ?_
    rintro e X9 ⟨rfl, hb9⟩
    have hS9 := hS.below hb9 hS.lt
    have hown9 := row_below hown3 hb9
    have hB9 := hB3.trans (hb9.mono (by have := (hown3.lt g rfl).2; omega))
    clear hS hown3 hB3 hb9
    refine hK.out _ _ (fun h => hS9) ?_
    clear hK K
    try simp only [Act.put, nrz]
    refine tkz 21 rfl hS9 (fun w' hS' => by go_simp; rfl) ?_
    simp only [nrz]
    refine done_ops (by kernel_rfl) ?_
    by_cases hk0 : 0 ≤ K0
    case neg =>
     have hk0d : decide (0 ≤ K0) = false := decide_eq_false hk0
     have hAj := hAjH.out
     rw [if_neg hk0] at hAj
     have hown4 : X9.ownsRow g 3 1 (srow g L L) L (intL L (fun t => if t < j + 1 then A t else 0)) := by
      rw [intL_congr (g := fun i => if i = j then -1 else if i < j then A i else 0) (fun t _ => ?_)]
      ·exact hown9
      ·by_cases e : t = j
       ·subst e; rw [if_pos (by omega), if_pos rfl, hAj]
       ·rw [if_neg e]
        by_cases e2 : t < j
        ·rw [if_pos e2, if_pos (by omega)]
        ·rw [if_neg e2, if_neg (by omega)]
     clear hAj hown9
     go_wp2_with fail
     go_roundw
     case rel => exact ⟨j + 1, by omega, by go_num, hown4, hS9, hB9⟩
     case measure => simp [intOf]; omega
    case pos =>
     have hk0d : decide (0 ≤ K0) = true := decide_eq_true hk0
     have hAj := hAjH.out
     rw [if_pos hk0] at hAj
     have hc0 := row_cellAt hown9 j (intL_at hlt)
     have hf0 := row_frz hown9 j
     obtain ⟨hown10, hg1⟩ := hown9.stored j (.int .i64 (place + K0))
     rw [intL_set] at hown10
     have kc10 := hS9.kept hg1 (by simp; exact hbcg)
     have hB10 := hB9.setCell (p := ⟨g, j, none⟩) (Nat.le_refl _) (.int .i64 (place + K0))
     obtain ⟨W1', hW1⟩ : ∃ X, X9.setCell ⟨g, j, none⟩ (.int .i64 (place + K0)) = X := ⟨_, rfl⟩
     rw [hW1] at hown10 kc10 hB10
     have hown4 : W1'.ownsRow g 3 1 (srow g L L) L (intL L (fun t => if t < j + 1 then A t else 0)) := by
      rw [intL_congr (g := fun i => if i = j then place + K0 else if i = j then -1 else if i < j then A i else 0) (fun t _ => ?_)]
      ·exact hown10
      ·by_cases e : t = j
       ·subst e; rw [if_pos (by omega), if_pos rfl, hAj]
       ·rw [if_neg e, if_neg e]
        by_cases e2 : t < j
        ·rw [if_pos e2, if_pos (by omega)]
        ·rw [if_neg e2, if_neg (by omega)]
     clear hAj hown9 hown10 hg1 hS9 hB9
     go_wp2_with fail
     clear hc0 hf0 hW1
     go_roundw
     case rel => exact ⟨j + 1, by omega, by go_num, hown4, kc10, hB10⟩
     case measure => simp [intOf]; omega
end Go.Proofs.YtekiemlniegddaaGreat
namespace Go.Proofs.YtekiemlniegddaaGreat
open Go Go.Maps Go.RowKit Go.Shelf
/-- An instruction in memory. -/
structure InsA where
 x : InsN
 a : Option Addr
 c : Nat
def insCell (y : InsA) : Nat → Value := fun j => (insCells y.x y.a y.c)[j]?.getD .nilFunc
theorem insCells_len (x : InsN) (a : Option Addr) (c : Nat) : (insCells x a c).length = 12 := rfl
theorem insCells_at (y : InsA) {j : Nat} (hj : j < 12) : (insCells y.x y.a y.c)[j]? = some (insCell y j) := by
 unfold insCell
 rw [List.getElem?_eq_getElem (by rw [insCells_len]; exact hj)]; rfl
theorem insCells_one (x : InsN) (a : Option Addr) (c : Nat) : ∀ u ∈ insCells x a c, u.oneCell' = true := by
 intro u hu
 unfold insCells at hu
 simp only [List.mem_cons, List.not_mem_nil, or_false] at hu
 rcases hu with rfl | rfl | rfl | rfl | rfl | rfl | rfl | rfl | rfl | rfl | rfl | rfl <;> rfl
/-- The addresses of an instruction: none, or a row of the call's own. -/
def AdAt (B : Nat) (W : World) (y : InsA) : Prop := (y.a = none ∧ y.c = 0 ∧ y.x.ad = []) ∨ ∃ b, y.a = some ⟨b, 0, none⟩ ∧ W.ownsRow B 3 1 (.slice (some ⟨b, 0, none⟩) y.x.ad.length y.c) y.x.ad.length (y.x.ad.map (Value.int .i64))
/-- The instruction's addresses lie in block b. -/
def AdBlk (y : InsA) (b : Nat) : Prop := ∃ ad, y.a = some ad ∧ ad.block = b
theorem AdAt.blk {B : Nat} {W : World} {y : InsA} (h : AdAt B W y) {b : Nat} (hb : AdBlk y b) : y.a = some ⟨b, 0, none⟩ ∧ B ≤ b ∧ b < W.heap.size ∧ ∃ cur, W.heap[b]? = some (.cells cur 3 (0, 0)) := by
 obtain ⟨ad, e1, e2⟩ := hb
 rcases h with ⟨h0, _⟩ | ⟨b', h1, h2⟩
 ·rw [h0] at e1; cases e1
 ·rw [h1] at e1; cases e1
  simp only at e2
  subst e2
  refine ⟨h1, (h2.lt b' rfl).1, (h2.lt b' rfl).2, ?_⟩
  rcases h2.2 with ⟨h3, _⟩ | ⟨g, cap, cur, h3, _, h4, _⟩
  ·cases h3
  ·simp only [Value.slice.injEq, Option.some.injEq, Addr.mk.injEq, and_true] at h3
   exact ⟨cur, by rw [h3.1]; exact h4⟩
theorem AdAt.trn {B : Nat} {W W' : World} {y : InsA} {S : Nat → Prop} (h : AdAt B W y) (ht : Trn S W W') (hS : ∀ b, AdBlk y b → ¬ S b) : AdAt B W' y := by
 rcases h with h | ⟨b, h1, h2⟩
 ·exact .inl h
 ·exact .inr ⟨b, h1, ht.row h2 (fun c hc => by injection hc with hc; subst hc; exact hS _ ⟨_, h1, rfl⟩)⟩
/-- The fixed cells of a compiler: the pipe's and the machine's numbers. -/
structure CmP where
 w : Int
 h : Int
 I : Int
 a : Option Addr
 n : Nat
 c : Nat
 vl : Int
 vr : Int
 vm : Int
abbrev cmC (P : CmP) (bm : Nat) (fv cv : Value) : Array Value := #[.int .i64 P.w, .int .i64 P.h, .int .i64 P.I, .slice P.a P.n P.c, .int .i64 P.vl, .int .i64 P.vr, .int .i64 P.vm, .map (some bm), fv, cv]
structure CmAt (B : Nat) (W : World) (P : CmP) (bc bm km M : Nat) (C : CmN) (fv cv : Value) (l : Nat → InsA) : Prop where
 c : Blk W bc 103 (cmC P bm fv cv)
 at_ : OwnF Tryz.prog 3 3 W bm km C.at_ M
 free : W.ownsRow B 3 1 fv C.free.length (C.free.map (Value.int .i64))
 code : W.ownsRow B 143 12 cv C.code.length (flat 12 (fun q j => insCell (l q) j) C.code.length)
 ads : ∀ q, q < C.code.length → (l q).x = insAt C.code q ∧ AdAt B W (l q) ∧ ∀ b, AdBlk (l q) b → fv.ownBlock ≠ some b
 lo : B ≤ bc ∧ B ≤ bm
/-- The blocks of a compiler. -/
def CmS (bc bm n : Nat) (fv cv : Value) (l : Nat → InsA) : Nat → Prop := fun b => b = bc ∨ b = bm ∨ fv.ownBlock = some b ∨ cv.ownBlock = some b ∨ ∃ q, q < n ∧ AdBlk (l q) b
theorem int_ne_cmp : (103 : TypeId) ≠ 3 := by decide
theorem ins_ne_cmp : (103 : TypeId) ≠ 143 := by decide
theorem int_ne_ins : (3 : TypeId) ≠ 143 := by decide
section
variable {B : Nat} {W W' : World} {P : CmP} {bc bm km M : Nat} {C : CmN} {fv cv : Value} {l : Nat → InsA}
theorem CmAt.frame (h : CmAt B W P bc bm km M C fv cv l) (ht : Trn (fun b => ¬ CmS bc bm C.code.length fv cv l b) W W') : CmAt B W' P bc bm km M C fv cv l where
 c := ht.blk h.c (fun hn => hn (.inl rfl))
 at_ := h.at_.trn ht (fun hn => hn (.inr (.inl rfl)))
 free := ht.row h.free (fun b hb hn => hn (.inr (.inr (.inl hb))))
 code := ht.row h.code (fun b hb hn => hn (.inr (.inr (.inr (.inl hb)))))
 ads := fun q hq => by
  obtain ⟨h1, h2, h3⟩ := h.ads q hq
  exact ⟨h1, h2.trn ht (fun b hb hn => hn (.inr (.inr (.inr (.inr ⟨q, hq, hb⟩))))), h3⟩
 lo := h.lo
theorem CmAt.own (h : CmAt B W P bc bm km M C fv cv l) : ∀ b, CmS bc bm C.code.length fv cv l b → B ≤ b ∧ b < W.heap.size := by
 rintro b (rfl | rfl | hb | hb | ⟨q, hq, hb⟩)
 ·exact ⟨h.lo.1, h.c.lt⟩
 ·exact ⟨h.lo.2, h.at_.lt⟩
 ·exact h.free.lt b hb
 ·exact h.code.lt b hb
 ·have := (h.ads q hq).2.1.blk hb; exact ⟨this.2.1, this.2.2.1⟩
theorem CmAt.below (h : CmAt B W P bc bm km M C fv cv l) (hb : Below W.heap.size W W') : CmAt B W' P bc bm km M C fv cv l := h.frame (Below.trn0 hb _)
/-- An instruction is emitted: the row of code grows, the compiler's slice of it is written. -/
theorem CmAt.emit (h : CmAt B W P bc bm km M C fv cv l) {y : InsA} (hy : AdAt B W y) (hyf : ∀ b, AdBlk y b → fv.ownBlock ≠ some b) {cv' : Value} (hrow : W'.ownsRow B 143 12 cv' (C.code.length + 1) (flat 12 (fun q j => insCell (l q) j) C.code.length ++ insCells y.x y.a y.c)) (hg : W.grownBy W' cv.ownBlock) :
  CmAt B (W'.setCell ⟨bc, 9, none⟩ cv') P bc bm km M ⟨C.at_, C.free, C.code ++ [y.x]⟩ fv cv' (fun q => if q = C.code.length then y else l q) ∧ Trn (fun b => b = bc ∨ cv.ownBlock = some b) W (W'.setCell ⟨bc, 9, none⟩ cv') := by
 have k1 := grown_trn hg (fun b => cv.ownBlock = some b) (fun b e => e)
 have k2 := setCell_trn W' ⟨bc, 9, none⟩ cv' (fun b => b = bc) rfl
 have hc1 := k1.blk h.c (fun e => h.c.not_row ins_ne_cmp h.code e.symm)
 have hcell : ∀ b cur, W.heap[b]? = some (.cells cur 3 (0, 0)) → ¬ cv.ownBlock = some b ∧ ¬ b = bc := fun b cur hb => by
  refine ⟨fun e => ?_, fun e => ?_⟩
  ·rcases h.code.2 with ⟨h0, _⟩ | ⟨g, cap, cu, h0, _, hg2, _⟩
   ·rw [h0] at e; cases e
   ·rw [h0] at e
    obtain rfl : g = b := by simpa [Value.ownBlock] using e
    rw [hb] at hg2; injection hg2 with hg2; injection hg2 with _ hg2 _; exact int_ne_ins hg2
  ·subst e
   have := h.c
   unfold Blk at this
   rw [hb] at this; injection this with this; injection this with _ this _; exact int_ne_cmp this.symm
 refine ⟨{ c := ?_, at_ := ?_, free := ?_, code := ?_, ads := fun q hq => ?_, lo := h.lo }, (k1.mono (fun b _ e => .inr e)).trans (k2.mono (fun b _ e => .inl e))⟩
 ·exact hc1.set 9 cv'
 ·exact (h.at_.trn k1 (h.at_.not_row h.code)).trn k2 (fun e => h.at_.not_cells h.c e.symm)
 ·have hf1 := k1.row h.free (fun b hb e => rows_apart h.free h.code int_ne_ins hb e)
  exact k2.row hf1 (fun b hb e => by subst e; exact h.c.not_row int_ne_cmp h.free hb.symm)
 ·rw [List.length_append, List.length_singleton]
  have hr2 := k2.row hrow (fun b hb e => by subst e; exact hc1.not_row ins_ne_cmp hrow hb.symm)
  rw [← flat_snoc (fun q j => insCell (if q = C.code.length then y else l q) j) (insCells y.x y.a y.c) (insCells_len _ _ _) (fun j hj => by rw [if_pos rfl]; exact insCells_at y hj)]
  rw [flat_congr (S := 12) (n := C.code.length) (f := fun q j => insCell (if q = C.code.length then y else l q) j) (g := fun q j => insCell (l q) j) (fun i hi j _ => by rw [if_neg (by omega)])]
  exact hr2
 ·rw [List.length_append, List.length_singleton] at hq
  by_cases e : q = C.code.length
  ·simp only [e, if_true]
   refine ⟨by unfold insAt; rw [List.getElem?_append_right (Nat.le_refl _)]; simp, ?_, hyf⟩
   have hd : ∀ b, AdBlk y b → ¬ cv.ownBlock = some b ∧ ¬ b = bc := fun b hb => by
    obtain ⟨_, _, _, cur, hcur⟩ := hy.blk hb
    exact hcell b cur hcur
   exact (hy.trn k1 (fun b hb => (hd b hb).1)).trn k2 (fun b hb => (hd b hb).2)
  ·simp only [if_neg e]
   obtain ⟨h1, h2, h3⟩ := h.ads q (by omega)
   have hd : ∀ b, AdBlk (l q) b → ¬ cv.ownBlock = some b ∧ ¬ b = bc := fun b hb => by
    obtain ⟨_, _, _, cur, hcur⟩ := h2.blk hb
    exact hcell b cur hcur
   refine ⟨?_, (h2.trn k1 (fun b hb => (hd b hb).1)).trn k2 (fun b hb => (hd b hb).2), h3⟩
   rw [h1]; unfold insAt; rw [List.getElem?_append_left (by omega)]
end
end Go.Proofs.YtekiemlniegddaaGreat
namespace Go.Proofs.YtekiemlniegddaaGreat
open Go Go.Maps Go.RowKit Go.Shelf
theorem info_ins : (Tryz.prog.info? 143).map (fun i => (i.zero, i.size, i.bytes)) = some (some (.agg #[.int .u8 0, .int .i64 0, .int .i64 0, .int .i64 0, .int .i64 0, .int .i64 0, .int .i64 0, .int .i64 0, .int .i64 0, .int .i64 0, .int .u8 0, .slice none 0 0]), 12, 112) := by kernel_rfl
set_option maxRecDepth 100000 in
set_option maxHeartbeats 4000000 in
theorem emit_any (B : Nat) (w : World) (P : CmP) (bc bm km M : Nat) (C : CmN) (fv cv : Value) (l : Nat → InsA) (hcm : CmAt B w P bc bm km M C fv cv l) (hlen : C.code.length ≤ 1000000) (x : InsN) (a : Option Addr) (c : Nat) (hy : AdAt B w ⟨x, a, c⟩) (hyf : ∀ b, AdBlk ⟨x, a, c⟩ b → fv.ownBlock ≠ some b) :
  Calls Tryz.prog 108 #[.pointer (some ⟨bc, 0, none⟩), insv x a c] w fun e w' => (∃ vv, e = .returned vv) ∧ ∃ cv', CmAt B w' P bc bm km M ⟨C.at_, C.free, C.code ++ [x]⟩ fv cv' (fun q => if q = C.code.length then ⟨x, a, c⟩ else l q) ∧ Trn (fun b => b = bc ∨ cv.ownBlock = some b) w w' ∧ (cv'.ownBlock = cv.ownBlock ∨ ∃ b, cv'.ownBlock = some b ∧ w.heap.size ≤ b) := by
 have hB : Below w.heap.size w w := Below.refl _ _
 obtain ⟨i0, hi, hz0, hz1, hz2⟩ := info_partsQ info_ins
 obtain ⟨al, hal⟩ : ∃ n, x.ad.length = n := ⟨_, rfl⟩
 have halH := Lib.hid hal
 unfold insv
 rw [hal]
 have hkx : cv.ownBlock ≠ some w.heap.size := fun e => by have := (hcm.code.lt _ e).2; omega
 clear hal
 have hBw : B ≤ w.heap.size := by have := hcm.lo; have := hcm.c.lt; omega
 obtain ⟨V1, hEV1, hbV1, kx⟩ := newB w 143 #[.int .u8 x.op, .int .i64 x.d, .int .i64 x.a, .int .i64 x.b, .int .i64 x.val, .int .i64 x.pt.mul, .int .i64 x.pt.add, .int .i64 x.pt.div, .int .i64 x.pt.lo, .int .i64 x.pt.hi, .int .u8 x.how, .slice a al c]
 replace hcm := hcm.below hbV1
 replace hy := hy.trn (Below.trn0 hbV1 (fun _ => False)) (fun _ _ h => h)
 replace hB := tmB hB hbV1
 clear hbV1
 go_enter Tryz.func108, Tryz.ntmps108
 go_wp2_with fail
 clear hEV1
 have hcm2 := hcm.below (Below.refl _ V1).drew
 have hy2 := hy.trn (Below.trn0 (Below.refl _ V1).drew (fun _ => False)) (fun _ _ h => h)
 have hB2 := hB.drew
 have hS : Blk V1.drew bc 103 (cmC P bm fv cv) ∧ Blk V1.drew w.heap.size 143 #[.int .u8 x.op, .int .i64 x.d, .int .i64 x.a, .int .i64 x.b, .int .i64 x.val, .int .i64 x.pt.mul, .int .i64 x.pt.add, .int .i64 x.pt.div, .int .i64 x.pt.lo, .int .i64 x.pt.hi, .int .u8 x.how, .slice a al c] := ⟨hcm2.c, kx.below (Below.refl _ V1).drew kx.lt⟩
 clear hcm hy hB kx
 refine plain_region (fun W' => Blk W' bc 103 (cmC P bm fv cv) ∧ Blk W' w.heap.size 143 #[.int .u8 x.op, .int .i64 x.d, .int .i64 x.a, .int .i64 x.b, .int .i64 x.val, .int .i64 x.pt.mul, .int .i64 x.pt.add, .int .i64 x.pt.div, .int .i64 x.pt.lo, .int .i64 x.pt.hi, .int .u8 x.how, .slice a al c]) 10 11 (by kernel_rfl) rfl ?_
 simp only [Array.replicate_succ, Array.replicate_zero, List.push_toArray, List.nil_append, List.cons_append]
 obtain ⟨X0, hXX0⟩ : ∃ X : World, V1.drew = X := ⟨_, rfl⟩
 rw [hXX0] at hS hcm2 hy2 hB2 ⊢
 clear hXX0
 have FA0 := Lib.hid (fun w' (hS' : (fun W' => Blk W' bc 103 (cmC P bm fv cv) ∧ Blk W' w.heap.size 143 #[.int .u8 x.op, .int .i64 x.d, .int .i64 x.a, .int .i64 x.b, .int .i64 x.val, .int .i64 x.pt.mul, .int .i64 x.pt.add, .int .i64 x.pt.div, .int .i64 x.pt.lo, .int .i64 x.pt.hi, .int .u8 x.how, .slice a al c]) w') => And.intro (hS'.1.cell (i := 9) rfl) (cz12 hS'.2))
 refine tkz 0 rfl hS (fun w' hS' => by go_simp; rfl) ?_
 simp only [nrz]
 refine tkz 1 rfl hS (fun w' hS' => by go_simp; rfl) ?_
 simp only [nrz]
 refine tkz 2 rfl hS (fun w' hS' => by go_simp; rfl) ?_
 simp only [nrz]
 refine tkz 3 rfl hS (fun w' hS' => by go_simp; rfl) ?_
 simp only [nrz]
 refine tkz 4 rfl hS (fun w' hS' => by obtain ⟨y9, ⟨x0, x1, x2, x3, x4, x5, x6, x7, x8, x9, x10, x11⟩⟩ := FA0.out w' hS'; clear hS'; go_simp; rfl) ?_
 simp only [nrz]
 refine tkz 5 rfl hS (fun w' hS' => by obtain ⟨y9, ⟨x0, x1, x2, x3, x4, x5, x6, x7, x8, x9, x10, x11⟩⟩ := FA0.out w' hS'; clear hS'; go_simp; rfl) ?_
 simp only [nrz]
 refine step_op 6 (by kernel_rfl) rfl (fun K hK => ?_)
 rw [if_pos (by rfl)]
 go_simp
 have hbA := jb_al (Below.refl _ X0) (.cells #[.int .u8 x.op, .int .i64 x.d, .int .i64 x.a, .int .i64 x.b, .int .i64 x.val, .int .i64 x.pt.mul, .int .i64 x.pt.add, .int .i64 x.pt.div, .int .i64 x.pt.lo, .int .i64 x.pt.hi, .int .u8 x.how, .slice a al c] 143)
 have ky := Blk.new X0 143 #[.int .u8 x.op, .int .i64 x.d, .int .i64 x.a, .int .i64 x.b, .int .i64 x.val, .int .i64 x.pt.mul, .int .i64 x.pt.add, .int .i64 x.pt.div, .int .i64 x.pt.lo, .int .i64 x.pt.hi, .int .u8 x.how, .slice a al c]
 have hcm6 := hcm2.below hbA
 have hy6 := hy2.trn (Below.trn0 hbA (fun _ => False)) (fun _ _ h => h)
 have hB6 := hB2.trans (hbA.mono hB2.size)
 have hS6 : Blk (X0.alloc (.cells #[.int .u8 x.op, .int .i64 x.d, .int .i64 x.a, .int .i64 x.b, .int .i64 x.val, .int .i64 x.pt.mul, .int .i64 x.pt.add, .int .i64 x.pt.div, .int .i64 x.pt.lo, .int .i64 x.pt.hi, .int .u8 x.how, .slice a al c] 143)) bc 103 (cmC P bm fv cv) ∧ Blk (X0.alloc (.cells #[.int .u8 x.op, .int .i64 x.d, .int .i64 x.a, .int .i64 x.b, .int .i64 x.val, .int .i64 x.pt.mul, .int .i64 x.pt.add, .int .i64 x.pt.div, .int .i64 x.pt.lo, .int .i64 x.pt.hi, .int .u8 x.how, .slice a al c] 143)) w.heap.size 143 #[.int .u8 x.op, .int .i64 x.d, .int .i64 x.a, .int .i64 x.b, .int .i64 x.val, .int .i64 x.pt.mul, .int .i64 x.pt.add, .int .i64 x.pt.div, .int .i64 x.pt.lo, .int .i64 x.pt.hi, .int .u8 x.how, .slice a al c] := ⟨hS.1.below hbA hS.1.lt, hS.2.below hbA hS.2.lt⟩
 obtain ⟨by_, hby⟩ : ∃ b, X0.heap.size = b := ⟨_, rfl⟩
 obtain ⟨X6, hX6⟩ : ∃ X, X0.alloc (.cells #[.int .u8 x.op, .int .i64 x.d, .int .i64 x.a, .int .i64 x.b, .int .i64 x.val, .int .i64 x.pt.mul, .int .i64 x.pt.add, .int .i64 x.pt.div, .int .i64 x.pt.lo, .int .i64 x.pt.hi, .int .u8 x.how, .slice a al c] 143) = X := ⟨_, rfl⟩
 rw [hX6] at ky hcm6 hy6 hS6 hB6 ⊢
 rw [hby] at ky ⊢
 clear hX6 hby hbA hcm2 hy2 hS hB2
 refine hK.out _ _ (fun h => hS6) ?_
 clear hK K
 try simp only [Act.put, nrz]
 refine step_op 7 (by kernel_rfl) rfl (fun K hK => ?_)
 have hnews : ∀ j u, (insCells x a c)[j]? = some u → X6.cell? ((⟨by_, 0, none⟩ : Addr).add j) = some u := by
  unfold insCells
  rw [halH.out]
  exact blk_news ky
 refine step_append_atQ rfl (.tmp 8) (.tmp 10) 41 rfl B 143 i0 (.agg #[.int .u8 0, .int .i64 0, .int .i64 0, .int .i64 0, .int .i64 0, .int .i64 0, .int .i64 0, .int .i64 0, .int .i64 0, .int .i64 0, .int .u8 0, .slice none 0 0]) 12 112 Tryz.underlying41 hi hz0 hz1 hz2 rfl (by decide) cv C.code.length _ rfl hcm6.code ⟨by_, 0, none⟩ 1 1 (insCells x a c) rfl rfl hnews (insCells_one x a c) (by unfold maxLen; omega) (by omega) (Nat.le_trans hBw hB6.size) ?_
 intro cv' X7 hown7 hg7 hat7
 obtain ⟨ca, cc, rfl⟩ := row_slice hown7
 obtain ⟨hcm7, ht7⟩ := hcm6.emit (y := ⟨x, a, c⟩) hy6 hyf hown7 hg7
 have k1 := grown_trn hg7 (fun b => cv.ownBlock = some b) (fun b e => e)
 have hS7 : Blk X7 bc 103 (cmC P bm fv cv) ∧ Blk X7 w.heap.size 143 #[.int .u8 x.op, .int .i64 x.d, .int .i64 x.a, .int .i64 x.b, .int .i64 x.val, .int .i64 x.pt.mul, .int .i64 x.pt.add, .int .i64 x.pt.div, .int .i64 x.pt.lo, .int .i64 x.pt.hi, .int .u8 x.how, .slice a al c] := ⟨k1.blk hS6.1 (fun e => hS6.1.not_row ins_ne_cmp hcm6.code e.symm), k1.blk hS6.2 (fun e => hkx e)⟩
 have e9 := hS7.1.cell (i := 9) rfl
 have f9 := hS7.1.frozen 9
 have hsz6 := hB6.size
 clear hown7 hg7 hcm6 hy6 ky hS6 k1 hnews
 refine hK.out _ _ (fun h => hS7) ?_
 clear hK K
 try simp only [Act.put, nrz]
 refine step_op 8 (by kernel_rfl) rfl (fun K hK => ?_)
 rw [if_pos (by rfl)]
 go_simp
 refine hK.out _ _ (fun h => hS7) ?_
 clear hK K
 try simp only [Act.put, nrz]
 refine tkz 9 rfl hS7 (fun w' hS' => by go_simp; rfl) ?_
 simp only [nrz]
 refine step_op 10 (by kernel_rfl) rfl (fun K hK => ?_)
 rw [if_pos (by rfl)]
 go_simp
 clear e9 f9
 refine hK.out _ _ (fun h => absurd h (by omega)) ?_
 clear hK K
 try simp only [Act.put, nrz]
 refine done_ops (by kernel_rfl) ?_
 clear hS7
 have hT : Trn (fun b => b = bc ∨ cv.ownBlock = some b) w (X7.setCell ⟨bc, 9, none⟩ (.slice ca (C.code.length + 1) cc)) := (Below.trn0 hB6 _).trans ht7
 go_wp2_with fail
 go_end0
 exact ⟨⟨_, rfl⟩, _, hcm7, hT, hat7.elim .inl (fun h => .inr ⟨_, h, hsz6⟩)⟩
end Go.Proofs.YtekiemlniegddaaGreat

/- The walk of the law PipeRuns: it returns true. -/
import Derived.Test.YtekiemlniegddaaQR6
import Derived.Test.YtekiemlniegddaaQR10
namespace Go.Proofs.Ytekiemlniegddaa
open Go Go.RowKit Go.Shelf
set_option linter.unusedVariables false
set_option linter.unusedSimpArgs false

set_option maxRecDepth 100000 in
set_option maxHeartbeats 8000000 in
theorem law_runs (v : VecN) (C : CodeN) (ia xa : Option Addr) (ic xc : Nat) (hC : CodeIn C) (ms : List PicN) (la : Option Addr) (q lc : Nat) (hm : ms.length = q) (hm40 : q * 40 ≤ 140737488355328) (hpl : ∀ i, (picAt ms i).px.length * 8 ≤ 140737488355328) (w : World) (hri : Rd w.heap.size w ia C.inp) (hrx : RdCs w.heap.size w xa C.ins) (hrl : RdPs w.heap.size w la ms) :
  Calls Try.prog 4 #[vecv v, codev C ia ic xa xc, .slice la q lc] w fun e w' => e = .returned (.bool true) ∧ Below w.heap.size w w' := by
 have hmH := Lib.hid hm
 have hplH := Lib.hid hpl
 have hpl2 : ∀ i, (picAt ms i).px.length ≤ 9223372036854775807 := fun i => by have := hpl i; omega
 have hpl2H := Lib.hid hpl2
 have hB : Below w.heap.size w w := Below.refl _ _
 have hRn := fun (la' : Option Addr) (lc' : Nat) W h1 h2 h3 => Run_any v C ia xa ic xc hC ms la' q lc' hm (by omega) hpl2 W h1 h2 h3
 have hRr := fun W h1 h2 h3 => rRun_any v C ia xa ic xc hC ms la q lc hm (by omega) hpl2 W h1 h2 h3
 have hCk := fun W h1 h2 => CheckCode_any v C ia xa ic xc hC W h1 h2
 have hCr := fun W h1 h2 => rCheckCode_any v C ia xa ic xc hC W h1 h2
 obtain ⟨R, hR⟩ : ∃ R, runS v C ms = R := ⟨_, rfl⟩
 obtain ⟨E, hE⟩ : ∃ E, chkS v C = E := ⟨_, rfl⟩
 rw [hR] at hRn hRr
 rw [hE] at hCk hCr
 unfold vecv codev at hRn hRr hCk hCr ⊢
 have hRnH := Lib.hid hRn
 have hRrH := Lib.hid hRr
 have hCkH := Lib.hid hCk
 have hCrH := Lib.hid hCr
 clear hm hpl hpl2 hRn hRr hCk hCr hR hE
 obtain ⟨V1, hEV1, hbV1, kv⟩ := newB w 42 #[.int .i64 v.lanes, .int .i64 v.regs, .int .i64 v.mem]
 replace hri := later_i hri hbV1
 replace hrx := hrx.later hbV1
 replace hrl := hrl.later hbV1
 replace hB := tmB hB hbV1
 clear hbV1
 obtain ⟨v0, v1, v2⟩ := cz3 kv
 obtain ⟨V2, hEV2, hbV2, kc⟩ := newB V1 45 #[.int .i64 C.w, .int .i64 C.h, .slice ia C.inp.length ic, .int .i64 C.out, .slice xa C.ins.length xc]
 clear v0 v1 v2
 replace kv := kv.below hbV2 kv.lt
 replace hri := later_i hri hbV2
 replace hrx := hrx.later hbV2
 replace hrl := hrl.later hbV2
 replace hB := tmB hB hbV2
 clear hbV2
 obtain ⟨v0, v1, v2⟩ := cz3 kv
 obtain ⟨c0, c1, c2, c3, c4⟩ := cz5 kc
 go_enter Try.func4, Try.ntmps4
 go_wp2_with fail
 clear hEV1 hEV2
 refine (twins_any ms la lc q hmH.out hm40 hplH.out V2 hrl).mono ?_
 rintro e V3 ⟨oa, oc, rfl, rdo, hb⟩
 clear v0 v1 v2 c0 c1 c2 c3 c4
 replace kv := kv.below hb kv.lt
 replace kc := kc.below hb kc.lt
 replace hri := later_i hri hb
 replace hrx := hrx.later hb
 replace hrl := hrl.later hb
 replace hB := tmB hB hb
 clear hb
 obtain ⟨v0, v1, v2⟩ := cz3 kv
 obtain ⟨c0, c1, c2, c3, c4⟩ := cz5 kc
 go_wp2_with fail
 refine (hRnH.out oa oc V3 hri hrx rdo).mono ?_
 rintro e V4 ⟨⟨vv, rfl, tt, rfl, hrowx⟩, hb⟩
 clear v0 v1 v2 c0 c1 c2 c3 c4
 replace kv := kv.below hb kv.lt
 replace kc := kc.below hb kc.lt
 replace hri := later_i hri hb
 replace hrx := hrx.later hb
 replace hrl := hrl.later hb
 replace rdo := rdo.later hb
 replace hB := tmB hB hb
 clear hb
 obtain ⟨v0, v1, v2⟩ := cz3 kv
 obtain ⟨c0, c1, c2, c3, c4⟩ := cz5 kc
 obtain ⟨xa2, xc2, rfl⟩ := row_slice hrowx
 obtain ⟨rw0, rh0, rpx, er⟩ := R
 simp only at hrowx ⊢
 obtain ⟨xl, hxl⟩ : ∃ l, rpx.length = l := ⟨_, rfl⟩
 rw [hxl] at hrowx ⊢
 have hxlH := Lib.hid hxl
 clear hxl
 have kx := Blk.new V4 29 #[.int .i64 0, .int .i64 0, .slice none 0 0]
 obtain ⟨bkx, hxkx⟩ : ∃ b, V4.heap.size = b := ⟨_, rfl⟩
 obtain ⟨V4a, hAkx⟩ : ∃ X, V4.alloc (.cells #[.int .i64 0, .int .i64 0, .slice none 0 0] 29) = X := ⟨_, rfl⟩
 have hba : Below V4.heap.size V4 V4a := alloc_below hAkx
 rw [hAkx, hxkx] at kx
 have hlekx : V4.heap.size ≤ bkx := by omega
 have ykx0 := kx.cell (i := 0) rfl
 have fykx0 := kx.frozen 0
 have ykx1 := kx.cell (i := 1) rfl
 have fykx1 := kx.frozen 1
 have ykx2 := kx.cell (i := 2) rfl
 have fykx2 := kx.frozen 2
 have kxn := put3_blk kx (.int .i64 rw0) (.int .i64 rh0) (.slice xa2 xl xc2)
 have hb : Below V4.heap.size V4 (put3 V4a bkx (.int .i64 rw0) (.int .i64 rh0) (.slice xa2 xl xc2)) := hba.trans (put3_below hlekx (.int .i64 rw0) (.int .i64 rh0) (.slice xa2 xl xc2))
 obtain ⟨V5, hPkx⟩ : ∃ X, put3 V4a bkx (.int .i64 rw0) (.int .i64 rh0) (.slice xa2 xl xc2) = X := ⟨_, rfl⟩
 rw [hPkx] at kxn hb
 replace kx := kxn
 clear kxn hba hlekx
 clear v0 v1 v2 c0 c1 c2 c3 c4
 replace kv := kv.below hb kv.lt
 replace kc := kc.below hb kc.lt
 replace hri := later_i hri hb
 replace hrx := hrx.later hb
 replace hrl := hrl.later hb
 replace rdo := rdo.later hb
 replace hrowx := row_below hrowx hb
 replace hB := tmB hB hb
 clear hb
 obtain ⟨v0, v1, v2⟩ := cz3 kv
 obtain ⟨c0, c1, c2, c3, c4⟩ := cz5 kc
 obtain ⟨x0, x1, x2⟩ := cz3 kx
 go_wp2_with fail
 clear hAkx hxkx hPkx ykx0 ykx1 ykx2 fykx0 fykx1 fykx2
 refine (hRrH.out V5 hri hrx hrl).mono ?_
 rintro e V6 ⟨⟨vv, rfl, tt, rfl, hrowy⟩, hb⟩
 clear v0 v1 v2 c0 c1 c2 c3 c4 x0 x1 x2
 replace kv := kv.below hb kv.lt
 replace kc := kc.below hb kc.lt
 replace kx := kx.below hb kx.lt
 replace hri := later_i hri hb
 replace hrx := hrx.later hb
 replace hrl := hrl.later hb
 replace rdo := rdo.later hb
 replace hrowx := row_below hrowx hb
 replace hB := tmB hB hb
 clear hb
 obtain ⟨v0, v1, v2⟩ := cz3 kv
 obtain ⟨c0, c1, c2, c3, c4⟩ := cz5 kc
 obtain ⟨x0, x1, x2⟩ := cz3 kx
 obtain ⟨ya, yc, rfl⟩ := row_slice hrowy
 try simp only at hrowy ⊢
 rw [hxlH.out] at hrowy ⊢
 have ky := Blk.new V6 29 #[.int .i64 0, .int .i64 0, .slice none 0 0]
 obtain ⟨bky, hxky⟩ : ∃ b, V6.heap.size = b := ⟨_, rfl⟩
 obtain ⟨V6a, hAky⟩ : ∃ X, V6.alloc (.cells #[.int .i64 0, .int .i64 0, .slice none 0 0] 29) = X := ⟨_, rfl⟩
 have hba : Below V6.heap.size V6 V6a := alloc_below hAky
 rw [hAky, hxky] at ky
 have hleky : V6.heap.size ≤ bky := by omega
 have yky0 := ky.cell (i := 0) rfl
 have fyky0 := ky.frozen 0
 have yky1 := ky.cell (i := 1) rfl
 have fyky1 := ky.frozen 1
 have yky2 := ky.cell (i := 2) rfl
 have fyky2 := ky.frozen 2
 have kyn := put3_blk ky (.int .i64 rw0) (.int .i64 rh0) (.slice ya xl yc)
 have hb : Below V6.heap.size V6 (put3 V6a bky (.int .i64 rw0) (.int .i64 rh0) (.slice ya xl yc)) := hba.trans (put3_below hleky (.int .i64 rw0) (.int .i64 rh0) (.slice ya xl yc))
 obtain ⟨V7, hPky⟩ : ∃ X, put3 V6a bky (.int .i64 rw0) (.int .i64 rh0) (.slice ya xl yc) = X := ⟨_, rfl⟩
 rw [hPky] at kyn hb
 replace ky := kyn
 clear kyn hba hleky
 clear v0 v1 v2 c0 c1 c2 c3 c4 x0 x1 x2
 replace kv := kv.below hb kv.lt
 replace kc := kc.below hb kc.lt
 replace kx := kx.below hb kx.lt
 replace hri := later_i hri hb
 replace hrx := hrx.later hb
 replace hrl := hrl.later hb
 replace rdo := rdo.later hb
 replace hrowx := row_below hrowx hb
 replace hrowy := row_below hrowy hb
 replace hB := tmB hB hb
 clear hb
 obtain ⟨v0, v1, v2⟩ := cz3 kv
 obtain ⟨c0, c1, c2, c3, c4⟩ := cz5 kc
 obtain ⟨x0, x1, x2⟩ := cz3 kx
 obtain ⟨y0, y1, y2⟩ := cz3 ky
 go_wp2_with fail
 clear hAky hxky hPky yky0 yky1 yky2 fyky0 fyky1 fyky2
 have lx := kx.lt
 have ly := ky.lt
 have lv := kv.lt
 have lc0 := kc.lt
 have hS : Below V7.heap.size V7 V7.drew := (Below.refl _ _).drew
 refine plain_region (fun W' => Below V7.heap.size V7 W') 23 23 (by kernel_rfl) rfl ?_
 simp only [Array.replicate_succ, Array.replicate_zero, List.push_toArray, List.nil_append, List.cons_append]
 obtain ⟨X0, hXX0⟩ : ∃ X : World, V7.drew = X := ⟨_, rfl⟩
 rw [hXX0] at hS ⊢
 clear hXX0
 have FA0 := Lib.hid (fun w' (hS' : (fun W' => Below V7.heap.size V7 W') w') => And.intro ((kx.below hS' lx).cell (i := 0) rfl) (And.intro ((ky.below hS' ly).cell (i := 0) rfl) (And.intro ((kx.below hS' lx).cell (i := 1) rfl) (And.intro ((ky.below hS' ly).cell (i := 1) rfl) (And.intro ((kx.below hS' lx).cell (i := 2) rfl) (And.intro ((ky.below hS' ly).cell (i := 2) rfl) (And.intro (cz3 (kv.below hS' lv)) (cz5 (kc.below hS' lc0)))))))))
 refine tkz 0 rfl hS (fun w' hS' => by obtain ⟨d0, g0, d1, g1, d2, g2, ⟨p0, p1, p2⟩, ⟨e0, e1, e2, e3, e4⟩⟩ := FA0.out w' hS'; clear hS'; go_simp; rfl) ?_
 simp only [nrz]
 refine tkz 1 rfl hS (fun w' hS' => by obtain ⟨d0, g0, d1, g1, d2, g2, ⟨p0, p1, p2⟩, ⟨e0, e1, e2, e3, e4⟩⟩ := FA0.out w' hS'; clear hS'; go_simp; rfl) ?_
 simp only [nrz]
 refine step_op 2 (by kernel_rfl) rfl (fun K hK => ?_)
 rw [if_pos (by rfl)]
 go_simp
 refine (Same_eq rw0 rh0 xa2 ya xc2 yc xl rpx hxlH X0 (by have := row_maxP hrowx; omega) (later_i (row_rd' hxlH.out hrowx) hS) (later_i (row_rd' hxlH.out hrowy) hS)).mono ?_
 rintro e X1 ⟨rfl, hb⟩
 have hS1 : Below V7.heap.size V7 X1 := hS.trans (hb.mono hS.size)
 clear hb
 refine hK.out _ _ (fun h => hS1) ?_
 clear hK K
 try simp only [Act.put, nrz]
 refine tkz 3 rfl hS1 (fun w' hS' => by go_simp; rfl) ?_
 simp only [nrz]
 refine tkz 4 rfl hS1 (fun w' hS' => by go_simp; rfl) ?_
 simp only [nrz]
 refine tkz 5 rfl hS1 (fun w' hS' => by go_simp; rfl) ?_
 simp only [nrz]
 refine tkz 6 rfl hS1 (fun w' hS' => by go_simp; (try go_ints); rfl) ?_
 simp only [nrz]
 refine tkz 7 rfl hS1 (fun w' hS' => by go_simp; rfl) ?_
 simp only [nrz]
 refine tkz 8 rfl hS1 (fun w' hS' => by go_simp; rfl) ?_
 simp only [nrz]
 refine tkz 9 rfl hS1 (fun w' hS' => by obtain ⟨d0, g0, d1, g1, d2, g2, ⟨p0, p1, p2⟩, ⟨e0, e1, e2, e3, e4⟩⟩ := FA0.out w' hS'; clear hS'; go_simp; rfl) ?_
 simp only [nrz]
 refine tkz 10 rfl hS1 (fun w' hS' => by obtain ⟨d0, g0, d1, g1, d2, g2, ⟨p0, p1, p2⟩, ⟨e0, e1, e2, e3, e4⟩⟩ := FA0.out w' hS'; clear hS'; go_simp; rfl) ?_
 simp only [nrz]
 refine tkz 12 rfl hS1 (fun w' hS' => by obtain ⟨d0, g0, d1, g1, d2, g2, ⟨p0, p1, p2⟩, ⟨e0, e1, e2, e3, e4⟩⟩ := FA0.out w' hS'; clear hS'; go_simp; rfl) ?_
 simp only [nrz]
 refine tkz 13 rfl hS1 (fun w' hS' => by obtain ⟨d0, g0, d1, g1, d2, g2, ⟨p0, p1, p2⟩, ⟨e0, e1, e2, e3, e4⟩⟩ := FA0.out w' hS'; clear hS'; go_simp; rfl) ?_
 simp only [nrz]
 refine step_op 11 (by kernel_rfl) rfl (fun K hK => ?_)
 rw [if_pos (by rfl)]
 go_simp
 refine (hCkH.out X1 (later_i hri hS1) (hrx.later hS1)).mono ?_
 rintro e X2 ⟨rfl, hb⟩
 have hS2 : Below V7.heap.size V7 X2 := hS1.trans (hb.mono hS1.size)
 clear hb
 refine hK.out _ _ (fun h => hS2) ?_
 clear hK K
 try simp only [Act.put, nrz]
 refine step_op 14 (by kernel_rfl) rfl (fun K hK => ?_)
 rw [if_pos (by rfl)]
 go_simp
 refine (hCrH.out X2 (later_i hri hS2) (hrx.later hS2)).mono ?_
 rintro e X3 ⟨rfl, hb⟩
 have hS3 : Below V7.heap.size V7 X3 := hS2.trans (hb.mono hS2.size)
 clear hb
 refine hK.out _ _ (fun h => hS3) ?_
 clear hK K
 try simp only [Act.put, nrz]
 refine tkz 15 rfl hS3 (fun w' hS' => by go_simp; (try go_ints); rfl) ?_
 simp only [nrz]
 refine tkz 16 rfl hS3 (fun w' hS' => by go_simp; rfl) ?_
 simp only [nrz]
 refine tkz 17 rfl hS3 (fun w' hS' => by go_simp; rfl) ?_
 simp only [nrz]
 refine tkz 18 rfl hS3 (fun w' hS' => by go_simp; rfl) ?_
 simp only [nrz]
 refine tkz 19 rfl hS3 (fun w' hS' => by go_simp; rfl) ?_
 simp only [nrz]
 refine step_op 20 (by kernel_rfl) rfl (fun K hK => ?_)
 rw [if_pos (by rfl)]
 go_simp
 refine (same3_any ms oa la oc lc q hmH.out (by omega) hpl2H.out X3 (rdo.later hS3) (hrl.later hS3)).mono ?_
 rintro e X4 ⟨rfl, hb⟩
 have hS4 : Below V7.heap.size V7 X4 := hS3.trans (hb.mono hS3.size)
 clear hb
 refine hK.out _ _ (fun h => hS4) ?_
 clear hK K
 try simp only [Act.put, nrz]
 refine tkz 21 rfl hS4 (fun w' hS' => by go_simp; rfl) ?_
 simp only [nrz]
 refine tkz 22 rfl hS4 (fun w' hS' => by go_simp; rfl) ?_
 simp only [nrz]
 refine done_ops (by kernel_rfl) ?_
 have hBF := hB.trans (hS4.mono hB.size)
 go_wp2_with fail
 go_ret
 exact ⟨rfl, hBF⟩

end Go.Proofs.Ytekiemlniegddaa

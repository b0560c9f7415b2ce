/- Contracts and laws (McF, PsF). -/
import Derived.Test.YtekiemlniegddaaQR8
import Derived.Test.YtekiemlniegddaaQR9
import Derived.Test.YtekiemlniegddaaQR6
set_option linter.unusedVariables false
set_option linter.unusedSimpArgs false
namespace Go.Proofs.Ytekiemlniegddaa
open Go Go.RowKit Go.Shelf
theorem code_inp {v : VecN} {c : CodeN} (h : codeB v c = true) (k : Nat) (hk : k < c.inp.length) : c.inp[k]?.getD 0 = -1 ∨ (0 ≤ c.inp[k]?.getD 0 ∧ c.inp[k]?.getD 0 ≤ v.mem - c.w * c.h) := by
 unfold codeB at h
 simp only [Bool.and_eq_true, List.all_eq_true, Bool.or_eq_true, decide_eq_true_eq, inR_true] at h
 have := h.2.2.2.2.1 _ (List.getElem_mem hk)
 rw [List.getElem?_eq_getElem hk]
 exact this
theorem code_ins {v : VecN} {c : CodeN} (h : codeB v c = true) (k : Nat) (hk : k < c.ins.length) : insB v (insAt c.ins k) = true := by
 unfold codeB at h
 simp only [Bool.and_eq_true, List.all_eq_true] at h
 unfold insAt
 rw [List.getElem?_eq_getElem hk]
 exact h.2.2.2.2.2 _ (List.getElem_mem hk)
theorem code_all {v : VecN} {c : CodeN} (h : codeB v c = true) : ∀ x ∈ c.ins, insB v x = true := by
 unfold codeB at h
 simp only [Bool.and_eq_true, List.all_eq_true] at h
 exact h.2.2.2.2.2
theorem code_out {v : VecN} {c : CodeN} (h : codeB v c = true) : (1 ≤ c.w ∧ c.w ≤ 16) ∧ (1 ≤ c.h ∧ c.h ≤ 16) ∧ 0 ≤ c.out ∧ c.out ≤ v.mem - c.w * c.h := by
 unfold codeB at h
 simp only [Bool.and_eq_true, inR_true] at h
 exact ⟨h.1.1, h.1.2, h.2.2.2.1.1, h.2.2.2.1.2⟩
theorem gvn_len {ms : List PicN} {n w h : Int} (hg : givenB ms n w h = true) : (ms.length : Int) = n := givenB_len hg
theorem gvn_at {ms : List PicN} {n w h : Int} (hg : givenB ms n w h = true) {i : Nat} (hi : i < ms.length) : (1 ≤ w ∧ w ≤ 16) ∧ (1 ≤ h ∧ h ≤ 16) ∧ ((picAt ms i).px.length : Int) = w * h ∧ allIn (-2147483648) 2147483648 (picAt ms i).px = true := by
 unfold givenB at hg
 simp only [Bool.and_eq_true, List.all_eq_true, decide_eq_true_eq] at hg
 obtain ⟨h1, h2, h3⟩ := hg.2 _ (List.getElem_mem hi)
 obtain ⟨a1, a2, a3, a4⟩ := vld_true h1
 unfold picAt
 rw [List.getElem?_eq_getElem hi]
 rw [h2, h3] at a3
 rw [h2] at a1
 rw [h3] at a2
 exact ⟨a1, a2, a3, a4⟩
theorem ins_store (W : World) (o : Int) (y : InsN) (ia2 : Option Addr) (ic2 : Nat) : (storeCells ⟨W.heap.size, 0, none⟩ [.int .u8 o, .int .i64 y.d, .int .i64 y.a, .int .i64 y.b, .int .i64 y.val, .int .i64 y.pt.mul, .int .i64 y.pt.add, .int .i64 y.pt.div, .int .i64 y.pt.lo, .int .i64 y.pt.hi, .int .u8 y.how, .slice ia2 y.ad.length ic2] 0).run Try.prog (W.alloc (.cells #[.int .u8 0, .int .i64 0, .int .i64 0, .int .i64 0, .int .i64 0, .int .i64 0, .int .i64 0, .int .i64 0, .int .i64 0, .int .i64 0, .int .u8 0, .slice none 0 0] 95)) = .ok () (W.alloc (.cells #[.int .u8 o, .int .i64 y.d, .int .i64 y.a, .int .i64 y.b, .int .i64 y.val, .int .i64 y.pt.mul, .int .i64 y.pt.add, .int .i64 y.pt.div, .int .i64 y.pt.lo, .int .i64 y.pt.hi, .int .u8 y.how, .slice ia2 y.ad.length ic2] 95)) :=
 run_storeCells_new (P := Try.prog) W 95 #[.int .u8 0, .int .i64 0, .int .i64 0, .int .i64 0, .int .i64 0, .int .i64 0, .int .i64 0, .int .i64 0, .int .i64 0, .int .i64 0, .int .u8 0, .slice none 0 0] #[.int .u8 o, .int .i64 y.d, .int .i64 y.a, .int .i64 y.b, .int .i64 y.val, .int .i64 y.pt.mul, .int .i64 y.pt.add, .int .i64 y.pt.div, .int .i64 y.pt.lo, .int .i64 y.pt.hi, .int .u8 y.how, .slice ia2 y.ad.length ic2] (by kernel_rfl) rfl (by simp [Value.oneCell'])
set_option maxRecDepth 100000 in
set_option maxHeartbeats 16000000 in
theorem Run_any (v : VecN) (C : CodeN) (ia xa : Option Addr) (ic xc : Nat) (hC : CodeIn C) (ms : List PicN) (la : Option Addr) (q lc : Nat) (hm : ms.length = q) (hmm : q ≤ 9223372036854775807) (hpl : ∀ i, (picAt ms i).px.length ≤ 9223372036854775807) (w : World) (hri : Rd w.heap.size w ia C.inp) (hrx : RdCs w.heap.size w xa C.ins) (hrl : RdPs w.heap.size w la ms) :
    Calls Try.prog 16 #[vecv v, codev C ia ic xa xc, .slice la q lc] w (RetIm w.heap.size (runS v C ms) w) := by
  have hB : Below w.heap.size w w := Below.refl _ _
  obtain ⟨il0, xl0, hins⟩ := hC
  obtain ⟨R, hR⟩ : ∃ R, runS v C ms = R := ⟨_, rfl⟩
  have hRH := Lib.hid hR
  have hck0 := fun V h1 h2 => CheckCode_any v C ia xa ic xc ⟨il0, xl0, hins⟩ V h1 h2
  obtain ⟨E, hE⟩ : ∃ E, chkS v C = E := ⟨_, rfl⟩
  have hEH := Lib.hid hE
  rw [hE] at hck0
  obtain ⟨W, H, inp, out, ins⟩ := C
  obtain ⟨vl, vr, vm⟩ := v
  unfold vecv codev
  unfold vecv codev at hck0
  simp only at il0 xl0 hri hrx hins hck0 ⊢
  obtain ⟨ni, hni⟩ : ∃ l, inp.length = l := ⟨_, rfl⟩
  obtain ⟨nx, hnx⟩ : ∃ l, ins.length = l := ⟨_, rfl⟩
  have hniH := Lib.hid hni
  have hnxH := Lib.hid hnx
  have hinsH := Lib.hid hins
  have hplH := Lib.hid hpl
  have hmH := Lib.hid hm
  rw [hni] at il0 hck0 ⊢
  rw [hnx] at xl0 hck0 ⊢
  rw [hR]
  have hckH := Lib.hid hck0
  clear hR hE hni hnx hins hpl hm hck0
  obtain ⟨V1, hEV1, hbV1, kv⟩ := newB w 42 #[.int .i64 vl, .int .i64 vr, .int .i64 vm]
  replace hri := later_i hri hbV1
  replace hrx := hrx.later hbV1
  replace hrl := hrl.later hbV1
  replace hB := tmB hB hbV1
  clear hbV1
  obtain ⟨vc0, vc1, vc2⟩ := cz3 kv
  obtain ⟨V2, hEV2, hbV2, kc⟩ := newB V1 45 #[.int .i64 W, .int .i64 H, .slice ia ni ic, .int .i64 out, .slice xa nx xc]
  clear vc0 vc1 vc2
  replace kv := kv.below hbV2 kv.lt
  replace hri := later_i hri hbV2
  replace hrx := hrx.later hbV2
  replace hrl := hrl.later hbV2
  replace hB := tmB hB hbV2
  clear hbV2
  obtain ⟨vc0, vc1, vc2⟩ := cz3 kv
  obtain ⟨c0, c1, c2, c3, c4⟩ := cz5 kc
  have hle4 := hB.size
  obtain ⟨V3, hEV3, hbV3, k4⟩ := newB V2 29 #[.int .i64 0, .int .i64 0, .slice none 0 0]
  clear vc0 vc1 vc2 c0 c1 c2 c3 c4
  replace kv := kv.below hbV3 kv.lt
  replace kc := kc.below hbV3 kc.lt
  replace hri := later_i hri hbV3
  replace hrx := hrx.later hbV3
  replace hrl := hrl.later hbV3
  replace hB := tmB hB hbV3
  clear hbV3
  obtain ⟨vc0, vc1, vc2⟩ := cz3 kv
  obtain ⟨c0, c1, c2, c3, c4⟩ := cz5 kc
  have z0 := k4.cell (i := 0) rfl
  have fz0 := k4.frozen 0
  have z1 := k4.cell (i := 1) rfl
  have fz1 := k4.frozen 1
  have z2 := k4.cell (i := 2) rfl
  have fz2 := k4.frozen 2
  go_enter Try.func16, Try.ntmps16
  go_wp2_with fail
  clear hEV1 hEV2 hEV3
  refine (hckH.out V3 hri hrx).mono ?_
  rintro e V4 ⟨rfl, hb⟩
  clear vc0 vc1 vc2 c0 c1 c2 c3 c4 z0 z1 z2 fz0 fz1 fz2
  replace kv := kv.below hb kv.lt
  replace kc := kc.below hb kc.lt
  replace k4 := k4.below hb k4.lt
  replace hri := later_i hri hb
  replace hrx := hrx.later hb
  replace hrl := hrl.later hb
  replace hB := tmB hB hb
  clear hb
  obtain ⟨vc0, vc1, vc2⟩ := cz3 kv
  obtain ⟨c0, c1, c2, c3, c4⟩ := cz5 kc
  have z0 := k4.cell (i := 0) rfl
  have fz0 := k4.frozen 0
  have z1 := k4.cell (i := 1) rfl
  have fz1 := k4.frozen 1
  have z2 := k4.cell (i := 2) rfl
  have fz2 := k4.frozen 2
  by_cases hE0 : E = 0
  case neg =>
    have hE1 : (E != 0) = true := by simp [hE0]
    have hE0H := Lib.hid hE0
    clear hE0
    have hR2 : R = noIm E := by rw [← hRH.out]; unfold runS; rw [hEH.out, if_neg hE0H.out]
    subst hR2
    have kf := put3_blk k4 (.int .i64 0) (.int .i64 0) (.slice none 0 0)
    have hbf : Below w.heap.size w (put3 V4 (V2.heap.size) (.int .i64 0) (.int .i64 0) (.slice none 0 0)) := hB.trans (put3_below hle4 _ _ _)
    obtain ⟨g0, g1, g2⟩ := cz3 kf
    go_wp2_with fail
    exact bodyPost_ret (v := .tuple #[imv 0 0 none 0 0, .int .i64 E]) (by simp [results, Try.results16, go_sem, g0, g1, g2]) rfl ⟨⟨_, rfl, _, rfl, World.ownsRow_nil _ _ _ _⟩, hbf⟩
  case pos =>
  subst hE0
  obtain ⟨v1, hv1⟩ : ∃ v, givenB ms (ni : Int) W H = v := ⟨_, rfl⟩
  have hv1H := Lib.hid hv1
  clear hv1
  go_wp2_with fail
  have hc := fit_any ms la lc q hmH.out hmm (fun i _ => hplH.out i) (ni : Int) W H V4 hrl
  rw [hv1H.out] at hc
  refine hc.mono ?_
  clear hc
  rintro e V5 ⟨rfl, hb⟩
  clear vc0 vc1 vc2 c0 c1 c2 c3 c4 z0 z1 z2 fz0 fz1 fz2
  replace kv := kv.below hb kv.lt
  replace kc := kc.below hb kc.lt
  replace k4 := k4.below hb k4.lt
  replace hri := later_i hri hb
  replace hrx := hrx.later hb
  replace hrl := hrl.later hb
  replace hB := tmB hB hb
  clear hb
  obtain ⟨vc0, vc1, vc2⟩ := cz3 kv
  obtain ⟨c0, c1, c2, c3, c4⟩ := cz5 kc
  have z0 := k4.cell (i := 0) rfl
  have fz0 := k4.frozen 0
  have z1 := k4.cell (i := 1) rfl
  have fz1 := k4.frozen 1
  have z2 := k4.cell (i := 2) rfl
  have fz2 := k4.frozen 2
  cases v1 with
  | false =>
    have hR2 : R = noIm 2 := by rw [← hRH.out]; unfold runS; rw [hEH.out, if_pos rfl]; simp only; rw [hniH.out, hv1H.out]; rfl
    subst hR2
    have kf := put3_blk k4 (.int .i64 0) (.int .i64 0) (.slice none 0 0)
    have hbf : Below w.heap.size w (put3 V5 (V2.heap.size) (.int .i64 0) (.int .i64 0) (.slice none 0 0)) := hB.trans (put3_below hle4 _ _ _)
    obtain ⟨g0, g1, g2⟩ := cz3 kf
    go_wp2_with fail
    exact bodyPost_ret (v := .tuple #[imv 0 0 none 0 0, .int .i64 2]) (by simp [results, Try.results16, go_sem, g0, g1, g2]) rfl ⟨⟨_, rfl, _, rfl, World.ownsRow_nil _ _ _ _⟩, hbf⟩
  | true =>
  have hv0 : vecB ⟨vl, vr, vm⟩ = true := by
    cases h : vecB ⟨vl, vr, vm⟩ with
    | true => rfl
    | false => have := hEH.out; unfold chkS at this; rw [h] at this; cases this
  have hcb : codeB ⟨vl, vr, vm⟩ ⟨W, H, inp, out, ins⟩ = true := by
    cases h : codeB ⟨vl, vr, vm⟩ ⟨W, H, inp, out, ins⟩ with
    | true => rfl
    | false => have := hEH.out; unfold chkS at this; rw [hv0, h] at this; cases this
  have hcbH := Lib.hid hcb
  have hvv : VecIn ⟨vl, vr, vm⟩ := by
    have := hv0
    unfold vecB at this
    simp only [Bool.and_eq_true, inR_true] at this
    show 1 ≤ vl ∧ vl ≤ 16 ∧ 2 ≤ vr ∧ vr ≤ 16 ∧ 1 ≤ vm ∧ vm ≤ 8192
    omega
  have hvvH := Lib.hid hvv
  obtain ⟨q1, q2, q3, q4, q5, q6⟩ := hvv
  simp only at q1 q2 q3 q4 q5 q6
  clear hv0 hcb
  obtain ⟨L, rfl⟩ : ∃ L : Nat, vl = (L : Int) := ⟨vl.toNat, by omega⟩
  obtain ⟨Rn, rfl⟩ : ∃ L : Nat, vr = (L : Int) := ⟨vr.toNat, by omega⟩
  obtain ⟨N, rfl⟩ : ∃ L : Nat, vm = (L : Int) := ⟨vm.toNat, by omega⟩
  have lv := kv.lt
  have lc := kc.lt
  obtain ⟨i0, hi, hz0, hz1, hz2⟩ := info_parts info_num
  obtain ⟨j0, gi, gz0, gz1, gz2⟩ := info_parts info_row
  have hS : Below V5.heap.size V5 V5.drew := (Below.refl _ _).drew
  go_wp2_with fail
  refine plain_region (fun W' => Below V5.heap.size V5 W') 8 8 (by kernel_rfl) rfl ?_
  simp only [Array.replicate_succ, Array.replicate_zero, List.push_toArray, List.nil_append, List.cons_append]
  obtain ⟨X0, hXX0⟩ : ∃ X : World, V5.drew = X := ⟨_, rfl⟩
  rw [hXX0] at hS ⊢
  clear hXX0
  have FA0 := Lib.hid (fun w' (hS' : (fun W' => Below V5.heap.size V5 W') w') => And.intro ((kv.below hS' lv).cell (i := 0) rfl) ((kv.below hS' lv).cell (i := 2) rfl))
  refine tkz 0 rfl hS (fun w' hS' => by go_simp; rfl) ?_
  simp only [nrz]
  refine tkz 1 rfl hS (fun w' hS' => by obtain ⟨y0, y2⟩ := FA0.out w' hS'; clear hS'; go_simp; rfl) ?_
  simp only [nrz]
  refine tkz 2 rfl hS (fun w' hS' => by go_simp; rfl) ?_
  simp only [nrz]
  refine tkz 3 rfl hS (fun w' hS' => by obtain ⟨y0, y2⟩ := FA0.out w' hS'; clear hS'; go_simp; rfl) ?_
  simp only [nrz]
  refine step_op 4 (by kernel_rfl) rfl (fun K hK => ?_)
  refine step_make_fullP rfl _ _ 27 rfl V5.heap.size 3 i0 (.int .i64 0) 1 Try.underlying27 hi hz0 hz1 .i64 .i64 N rfl rfl (by rw [hz2]; omega) (by unfold maxLen; omega) hS.size ?_
  intro X4 hown hg4
  have hS4 : Below V5.heap.size V5 X4 := hS.grown hg4 hS.size (fun k e => by cases e)
  rw [made_row] at hown
  obtain ⟨gm, hgm⟩ : ∃ g, X0.heap.size = g := ⟨_, rfl⟩
  rw [hgm] at hown ⊢
  clear hgm hg4
  refine hK.out _ _ (fun h => hS4) ?_
  clear hK K
  try simp only [Act.put, nrz]
  refine tkz 5 rfl hS4 (fun w' hS' => by go_simp; rfl) ?_
  simp only [nrz]
  refine step_op 6 (by kernel_rfl) rfl (fun K hK => ?_)
  rw [if_pos (by rfl)]
  go_simp
  have hbA := jb_al (Below.refl _ X4) (.cells #[.int .i64 (L : Int), .slice none 0 0, .slice (some ⟨gm, 0, none⟩) N N] 88)
  have km := Blk.new X4 88 #[.int .i64 (L : Int), .slice none 0 0, .slice (some ⟨gm, 0, none⟩) N N]
  obtain ⟨bm, hbm⟩ : ∃ b, X4.heap.size = b := ⟨_, rfl⟩
  have hbmB : V5.heap.size ≤ bm := by rw [← hbm]; exact hS4.size
  obtain ⟨X6, hX6⟩ : ∃ X, X4.alloc (.cells #[.int .i64 (L : Int), .slice none 0 0, .slice (some ⟨gm, 0, none⟩) N N] 88) = X := ⟨_, rfl⟩
  rw [hX6] at hbA km ⊢
  rw [hbm] at km ⊢
  have hS6 := hS4.trans (hbA.mono hS4.size)
  have hown6 := row_below hown hbA
  refine hK.out _ _ (fun h => hS6) ?_
  clear hK K
  try simp only [Act.put, nrz]
  refine tkz 7 rfl hS6 (fun w' hS' => by go_simp; rfl) ?_
  simp only [nrz]
  refine done_ops (by kernel_rfl) ?_
  have hP : MacP V5.heap.size X6 bm L 0 N (.slice none 0 0) gm N (fun _ => 0) (fun _ => 0) := ⟨km, World.ownsRow_nil _ _ _ _, fun r hr => absurd hr (by omega), hown6, fun r s hr => absurd hr (by omega), fun r hr => absurd hr (by omega), hbmB⟩
  clear km hbm hX6 hbA hS4 hown hown6 hS
  have y1 := (kv.below hS6 lv).cell (i := 1) rfl
  clear vc0 vc1 vc2 c0 c1 c2 c3 c4 z0 z1 z2 fz0 fz1 fz2
  have hBw := hB
  clear hB
  go_wp2_with fail
  go_loopw [42] (fun i wr => ∃ k : Nat, k ≤ Rn ∧ i = .int .i64 (k : Int) ∧ Hid (∃ v G C, C Rn = 0 ∧ MacP V5.heap.size wr bm L k N v gm N G C) ∧ Below V5.heap.size V5 wr) (fun i _ => Rn - (intOf i).toNat)
  case atStart => exact ⟨0, Nat.zero_le _, rfl, Lib.hid ⟨_, _, _, rfl, hP⟩, hS6⟩
  case round =>
    clear hP hS6 y1
    obtain ⟨k, hk, rfl, hH, hBV⟩ := hrel
    by_cases hlt : k < Rn
    case pos =>
      obtain ⟨v, G, C, hC0, hP⟩ := hH.out
      have hP0 := hP.later (Below.refl _ wr).drew
      have hS : Below V5.heap.size V5 wr.drew ∧ Blk wr.drew bm 88 #[.int .i64 (L : Int), v, .slice (some ⟨gm, 0, none⟩) N N] := ⟨hBV.drew, hP0.m⟩
      have hltd : decide ((k : Int) < (Rn : Int)) = true := by simp; omega
      clear hP hH hBV
      go_wp2_with fail
      refine plain_region (fun W' => Below V5.heap.size V5 W' ∧ Blk W' bm 88 #[.int .i64 (L : Int), v, .slice (some ⟨gm, 0, none⟩) N N]) 12 13 (by kernel_rfl) rfl ?_
      simp only [Array.replicate_succ, Array.replicate_zero, List.push_toArray, List.nil_append, List.cons_append]
      obtain ⟨X0, hXX0⟩ : ∃ X : World, wr.drew = X := ⟨_, rfl⟩
      rw [hXX0] at hS hP0 ⊢
      clear hXX0
      have FA1 := Lib.hid (fun w' (hS' : (fun W' => Below V5.heap.size V5 W' ∧ Blk W' bm 88 #[.int .i64 (L : Int), v, .slice (some ⟨gm, 0, none⟩) N N]) w') => And.intro ((kv.below hS'.1 lv).cell (i := 0) rfl) (hS'.2.cell (i := 1) rfl))
      refine tkz 0 rfl hS (fun w' hS' => by go_simp; rfl) ?_
      simp only [nrz]
      refine tkz 1 rfl hS (fun w' hS' => by go_simp; rfl) ?_
      simp only [nrz]
      refine tkz 2 rfl hS (fun w' hS' => by go_simp; rfl) ?_
      simp only [nrz]
      refine tkz 3 rfl hS (fun w' hS' => by go_simp; rfl) ?_
      simp only [nrz]
      refine tkz 4 rfl hS (fun w' hS' => by obtain ⟨y0, e1⟩ := FA1.out w' hS'; clear hS'; go_simp; rfl) ?_
      simp only [nrz]
      refine tkz 5 rfl hS (fun w' hS' => by go_simp; rfl) ?_
      simp only [nrz]
      refine tkz 6 rfl hS (fun w' hS' => by obtain ⟨y0, e1⟩ := FA1.out w' hS'; clear hS'; go_simp; rfl) ?_
      simp only [nrz]
      refine step_op 7 (by kernel_rfl) rfl (fun K hK => ?_)
      refine step_make_fullP rfl _ _ 27 rfl V5.heap.size 3 i0 (.int .i64 0) 1 Try.underlying27 hi hz0 hz1 .i64 .i64 L rfl rfl (by rw [hz2]; omega) (by unfold maxLen; omega) hS.1.size ?_
      intro X7 hown hg7
      have hb7 : Below X0.heap.size X0 X7 := (Below.refl _ _).grown hg7 (Nat.le_refl _) (fun k e => by cases e)
      have hP7 := hP0.later hb7
      rw [made_row] at hown
      have hS7 : Below V5.heap.size V5 X7 ∧ Blk X7 bm 88 #[.int .i64 (L : Int), v, .slice (some ⟨gm, 0, none⟩) N N] := ⟨hS.1.trans (hb7.mono hS.1.size), hP7.m⟩
      obtain ⟨g, hgX⟩ : ∃ g, X0.heap.size = g := ⟨_, rfl⟩
      have hgl : X0.heap.size ≤ g := by omega
      rw [hgX] at hown ⊢
      clear hgX hg7
      refine hK.out _ _ (fun h => hS7) ?_
      clear hK K
      try simp only [Act.put, nrz]
      refine step_op 8 (by kernel_rfl) rfl (fun K hK => ?_)
      rw [if_pos (by rfl)]
      go_simp
      have hbA := jb_al (Below.refl _ X7) (.cells #[.slice (some ⟨g, 0, none⟩) L L] 27)
      have hcell := fun j u (hu : [srow g L L][j]? = some u) => cell_one_new X7 (srow g L L) 27 j u hu
      have hown8 := row_below hown hbA
      have hP8 := hP7.later hbA
      have hS8 : Below V5.heap.size V5 (X7.alloc (.cells #[.slice (some ⟨g, 0, none⟩) L L] 27)) ∧ Blk (X7.alloc (.cells #[.slice (some ⟨g, 0, none⟩) L L] 27)) bm 88 #[.int .i64 (L : Int), v, .slice (some ⟨gm, 0, none⟩) N N] := ⟨hS7.1.trans (hbA.mono hS7.1.size), hP8.m⟩
      have hb8 := hb7.trans (hbA.mono hb7.size)
      clear hbA hP7 hown
      refine hK.out _ _ (fun h => hS8) ?_
      clear hK K
      try simp only [Act.put, nrz]
      refine step_op 9 (by kernel_rfl) rfl (fun K hK => ?_)
      refine step_append_atP rfl (.tmp 48) (.tmp 52) 86 rfl V5.heap.size 27 j0 (.slice none 0 0) 1 24 Try.underlying86 gi gz0 gz1 gz2 rfl (by decide) v k (rowsL k L G C) rfl hP8.rr ⟨X7.heap.size, 0, none⟩ 1 1 [srow g L L] rfl rfl hcell (by simp [Value.oneCell']) (by unfold maxLen; omega) (by omega) hS8.1.size ?_
      intro v' X9 hown9 hg9 hat9
      have hS9 : Below V5.heap.size V5 X9 ∧ Blk X9 bm 88 #[.int .i64 (L : Int), v, .slice (some ⟨gm, 0, none⟩) N N] := ⟨hS8.1.grown hg9 hS8.1.size (fun j e => (hP8.rr.lt j e).1), hP8.m.kept hg9 (hP8.m.not_row (by decide) hP8.rr)⟩
      obtain ⟨hPn, hbn⟩ := hP0.push hb8 hgl hown8 hown9 hg9 hat9 hS.1.size
      have hBVn := hS.1.trans hbn
      obtain ⟨va', vc', rfl⟩ := row_slice hown9
      clear hP8 hown8 hg9 hat9 hown9 hcell hP0 hb7 hb8 hbn hS7 hS8
      refine hK.out _ _ (fun h => hS9) ?_
      clear hK K
      try simp only [Act.put, nrz]
      refine step_op 10 (by kernel_rfl) rfl (fun K hK => ?_)
      rw [if_pos (by rfl)]
      go_simp
      refine hK.out _ _ (fun h => hS9) ?_
      clear hK K
      try simp only [Act.put, nrz]
      refine tkz 11 rfl hS9 (fun w' hS' => by go_simp; rfl) ?_
      simp only [nrz]
      refine step_op 12 (by kernel_rfl) rfl (fun K hK => ?_)
      have e1 := hS9.2.cell (i := 1) rfl
      have f1 := hS9.2.frozen 1
      rw [if_pos (by rfl)]
      go_simp
      clear e1 f1
      refine hK.out _ _ (fun h => absurd h (by omega)) ?_
      clear hK K
      try simp only [Act.put, nrz]
      refine done_ops (by kernel_rfl) ?_
      clear hS9 hS hgl
      go_wp2_with fail
      go_roundw
      case rel => exact ⟨k + 1, by omega, by go_num, Lib.hid ⟨_, _, fun r => if r = k then L else C r, by show (if Rn = k then L else C Rn) = 0; rw [if_neg (by omega)]; exact hC0, hPn⟩, hBVn⟩
      case measure => simp [intOf]; omega
    case neg =>
      have hltd : decide ((k : Int) < (Rn : Int)) = false := by simp; omega
      have hkR : Rn = k := by omega
      subst hkR
      obtain ⟨v, G, C, hC0, hP⟩ := hH.out
      obtain ⟨gr, cr, rfl, hM⟩ := hP.mac (by omega) hC0
      have y2 := (kc.below hBV lc).cell (i := 2) rfl
      clear hP hH hk hlt hltd
      have hBW := hBV
      go_wp2_with fail
      clear y2
      go_loopw [60] (fun i wr => ∃ k : Nat, k ≤ ni ∧ i = .int .i64 (k : Int) ∧ Hid (MacAt V5.heap.size wr bm L Rn N ⟨fun _ _ => 0, memN inp ms k⟩ gr gm cr N G C) ∧ Below V5.heap.size V5 wr) (fun i _ => ni - (intOf i).toNat)
      case atStart => exact ⟨0, Nat.zero_le _, rfl, Lib.hid hM, hBW⟩
      case round =>
        clear hM hBW hBV
        obtain ⟨k, hk, rfl, hH, hBV⟩ := hrel
        by_cases hlt : k < ni
        case pos =>
          have hM := hH.out
          have hltd : decide ((k : Int) < (ni : Int)) = true := by simp; omega
          obtain ⟨at_, hat⟩ : ∃ x, inp[k]?.getD 0 = x := ⟨_, rfl⟩
          have hatH := Lib.hid hat
          have hlt' : k < inp.length := by have := hniH.out; omega
          have hin := code_inp hcbH.out k hlt'
          simp only [hat] at hin
          rcases hri with h0 | ⟨b, o, rfl, hb, hc⟩
          · exfalso; rw [h0] at hlt'; simp at hlt'
          have c0 := (hBV.cell (p := ⟨b, o + k, none⟩) hb).trans (hc k hlt')
          rw [hat] at c0
          clear hat hc hH
          by_cases h0 : 0 ≤ at_
          case neg =>
            have h0d : decide (0 ≤ at_) = false := by simp; omega
            have hmem : memN inp ms k = memN inp ms (k + 1) := by
              show _ = putImg (inp[k]?.getD 0) (picAt ms k).px (memN inp ms k)
              funext i
              unfold putImg
              rw [hatH.out, if_neg (by omega)]
            rw [hmem] at hM
            have hMH := Lib.hid hM
            clear hmem hM
            go_wp2_with fail
            go_roundw
            case rel => exact ⟨k + 1, by omega, by go_num, hMH, hBV⟩
            case measure => simp [intOf]; omega
          case pos =>
            have h0d : decide (0 ≤ at_) = true := by simp; omega
            obtain ⟨A, rfl⟩ : ∃ A : Nat, at_ = (A : Int) := ⟨at_.toNat, by omega⟩
            have hq := gvn_len hv1H.out
            rw [hmH.out] at hq
            have hkq : k < q := by omega
            obtain ⟨g1, g2, g3, g4⟩ := gvn_at hv1H.out (i := k) (by rw [hmH.out]; exact hkq)
            rcases hrl with h1 | ⟨pb, po, rfl, hpb, hpc⟩
            · exfalso; have := hmH.out; rw [h1] at this; simp at this; omega
            obtain ⟨pa, pc, p0, p1, p2, p3, p4⟩ := hpc k (by rw [hmH.out]; exact hkq)
            obtain ⟨l, hl⟩ : ∃ l, (picAt ms k).px.length = l := ⟨_, rfl⟩
            rw [hl] at p2 g3
            have hlH := Lib.hid hl
            have hl1 : 1 ≤ l := by
              have := prod_bd (a := W) (x := H) (m := 16) (n := 16) (by omega) (by omega) (by omega) (by omega) (by omega)
              have h2 := Int.mul_le_mul g1.1 g2.1 (by omega) (by omega)
              omega
            rcases p3 with h1 | ⟨xb, xo, rfl, hxb, hxc⟩
            · exfalso; rw [h1] at hl; simp at hl; omega
            have hAl : A + l ≤ N := by
              rcases hin with h1 | h1
              · omega
              · have := h1.2; rw [← g3] at this; omega
            clear hl hpc p0 p1 p4 hin
            have hM0 := hM.later (Below.refl _ wr).drew
            have hS : Below V5.heap.size V5 wr.drew ∧ Blk wr.drew bm 88 #[.int .i64 (L : Int), (.slice (some ⟨gr, 0, none⟩) Rn cr), .slice (some ⟨gm, 0, none⟩) N N] := ⟨hBV.drew, hM0.m⟩
            clear hM
            go_wp2_with fail
            refine plain_region (fun W' => Below V5.heap.size V5 W' ∧ Blk W' bm 88 #[.int .i64 (L : Int), (.slice (some ⟨gr, 0, none⟩) Rn cr), .slice (some ⟨gm, 0, none⟩) N N]) 12 12 (by kernel_rfl) rfl ?_
            simp only [Array.replicate_succ, Array.replicate_zero, List.push_toArray, List.nil_append, List.cons_append]
            obtain ⟨X0, hXX0⟩ : ∃ X : World, wr.drew = X := ⟨_, rfl⟩
            rw [hXX0] at hS hM0 ⊢
            clear hXX0
            have FA2 := Lib.hid (fun w' (hS' : (fun W' => Below V5.heap.size V5 W' ∧ Blk W' bm 88 #[.int .i64 (L : Int), (.slice (some ⟨gr, 0, none⟩) Rn cr), .slice (some ⟨gm, 0, none⟩) N N]) w') => And.intro (hS'.2.cell (i := 2) rfl) ((hS'.1.cell (p := ⟨pb, po + k * 3 + 2, none⟩) hpb).trans p2))
            refine tkz 0 rfl hS (fun w' hS' => by go_simp; rfl) ?_
            simp only [nrz]
            refine tkz 1 rfl hS (fun w' hS' => by go_simp; rfl) ?_
            simp only [nrz]
            refine tkz 2 rfl hS (fun w' hS' => by go_simp; rfl) ?_
            simp only [nrz]
            refine tkz 3 rfl hS (fun w' hS' => by obtain ⟨e2, y2⟩ := FA2.out w' hS'; clear hS'; go_simp; rfl) ?_
            simp only [nrz]
            refine tkz 4 rfl hS (fun w' hS' => by go_simp; rfl) ?_
            simp only [nrz]
            refine tkz 5 (v := .slice (some ⟨gm, A, none⟩) (N - A) (N - A)) rfl hS (fun w' hS' => ?cy5) ?cz5
            case cy5 =>
              clear hS'
              go_simp
              rw [if_pos (by omega), if_neg (by omega)]
            simp only [nrz]
            refine tkz 6 rfl hS (fun w' hS' => by go_simp; rfl) ?_
            simp only [nrz]
            refine tkz 7 rfl hS (fun w' hS' => by go_simp; rfl) ?_
            simp only [nrz]
            refine tkz 8 (v := ?cv8) rfl hS (fun w' hS' => ?cy8) ?cz8
            case cy8 =>
              go_simp
              try go_ints
              first
              | rfl
              | (rw [if_pos (by omega)]; done)
              | rw [if_pos ⟨by omega, by omega⟩]
            simp only [nrz]
            refine tkz 9 rfl hS (fun w' hS' => by go_simp; rfl) ?_
            simp only [nrz]
            refine tkz 10 rfl hS (fun w' hS' => by obtain ⟨e2, y2⟩ := FA2.out w' hS'; clear hS'; go_simp; rfl) ?_
            simp only [nrz]
            refine step_op 11 (by kernel_rfl) rfl (fun K hK => ?_)
            have hcs : ∀ (j : Nat) (u : Value), ((picAt ms k).px.map (Value.int .i64))[j]? = some u → X0.cell? ((⟨xb, xo, none⟩ : Addr).add j) = some u := fun j u hu => by
              rw [List.getElem?_map, Option.map_eq_some_iff] at hu
              obtain ⟨y, hy, rfl⟩ := hu
              have hj : j < (picAt ms k).px.length := (List.getElem?_eq_some_iff.1 hy).1
              have := hxc j hj
              rw [hy] at this
              rw [addr_add]
              exact (hS.1.cell (p := ⟨xb, xo + j, none⟩) hxb).trans this
            have hrun := run_copy_row (P := Try.prog) X0 27 27 3 3 gm A (N - A) (N - A) ⟨xb, xo, none⟩ l pc _ _ ((picAt ms k).px.map (Value.int .i64)) Try.underlying27 (by kernel_rfl) (row_whole hM0.mm) (by rw [List.length_map, hlH.out]; show l = min l (N - A); omega) hcs (by rw [List.length_map, hlH.out]; simp [intL_len]; omega) (by simp [Value.oneCell'])
            obtain ⟨hMn, hbn⟩ := hM0.copied (o := A) (xs := (picAt ms k).px) (by rw [hlH.out]; exact hAl) (by omega) hS.1.size
            rw [List.append_assoc, List.length_map] at hMn hbn
            have hBVn := hS.1.trans hbn
            rw [if_pos (by rfl)]
            go_simp
            refine hK.out _ _ (fun h => ⟨hBVn, hMn.m⟩) ?_
            clear hK K
            try simp only [Act.put, nrz]
            refine done_ops (by kernel_rfl) ?_
            have hmem : putImg (A : Int) (picAt ms k).px (memN inp ms k) = memN inp ms (k + 1) := by
              show _ = putImg (inp[k]?.getD 0) (picAt ms k).px (memN inp ms k)
              rw [hatH.out]
            simp only at hMn
            rw [hmem] at hMn
            have hMH := Lib.hid hMn
            clear hmem hMn hM0 hS hbn hrun hcs hxc p2
            go_wp2_with fail
            go_roundw
            case rel => exact ⟨k + 1, by omega, by go_num, hMH, hBVn⟩
            case measure => simp [intOf]; omega
        case neg =>
          have hltd : decide ((k : Int) < (ni : Int)) = false := by simp; omega
          have hkn : ni = k := by omega
          obtain ⟨M0, hM0⟩ : ∃ M0 : MacN, ⟨fun _ _ => 0, memN inp ms k⟩ = M0 := ⟨_, rfl⟩
          have hM := hH.out
          rw [hM0] at hM
          have hM0H := Lib.hid (show ⟨fun _ _ => 0, memN inp ms ni⟩ = M0 by rw [hkn]; exact hM0)
          clear hH hM0
          have hregH : Hid (∀ k, RegB L Rn (runM L (ins.take k) M0)) := Lib.hid (fun k => by
            have hq := gvn_len hv1H.out
            have h2 := (run_bd ⟨(L : Int), (Rn : Int), (N : Int)⟩ (ins.take k) (fun x hx => code_all hcbH.out x (List.mem_of_mem_take hx)) M0 (by rw [← hM0H.out]; intro r hr k hk; show -1152921504606846976 ≤ (0 : Int) ∧ (0 : Int) ≤ 1152921504606846976; omega) (by rw [← hM0H.out]; intro i hi; exact memN_bd (n := ni) (fun j hj => (gvn_at hv1H.out (i := j) (by omega)).2.2.2) ni (Nat.le_refl _) i)).1
            exact h2)
          go_upto_region 17 with fail
          clear hltd hlt hk hkn
          refine wp_region_lit ?_
          refine wpList_callAny rfl _ rfl 40 #[] (by kernel_rfl) _ (table_any wr) ?_
          rintro e X0 ⟨rfl, hb⟩
          refine ⟨_, rfl, ?_⟩
          refine Go.Great.wpList_allocTo rfl _ rfl (.pointer (some ⟨X0.heap.size, 0, none⟩)) (.cells zerC 92) (by kernel_rfl) ?_
          refine wpList_store_row rfl 92 _ _ rfl X0.heap.size tabC rfl (by kernel_rfl) 92 zerC (heap_alloc_last X0 _) (by kernel_rfl) rfl tabC_one ?_
          rw [World.setRow_alloc_new]
          refine wpList_nil ?_
          have kT := Blk.new X0 92 tabC
          have hbT1 := hb.size
          replace hb : Below wr.heap.size wr (X0.alloc (.cells tabC 92)) := jb_al hb _
          have hMg := (hM.later hb).guest kT
          obtain ⟨X1, hX1⟩ : ∃ X, X0.alloc (.cells tabC 92) = X := ⟨_, rfl⟩
          obtain ⟨bT, hbT⟩ : ∃ b, X0.heap.size = b := ⟨_, rfl⟩
          rw [hX1] at hb hMg ⊢
          rw [hbT] at hMg hbT1 ⊢
          have hBT := hBV.trans (hb.mono hBV.size)
          have hbT0 : bT ≠ 0 := by have := hBV.size; omega
          have hMgH : Hid (∃ G C, C Rn = bT ∧ MacAt V5.heap.size X1 bm L Rn N (runM L (ins.take 0) M0) gr gm cr N G C) := Lib.hid ⟨_, fun r => if r = Rn then bT else C r, by show (if Rn = Rn then bT else C Rn) = bT; rw [if_pos rfl], hMg⟩
          rename_i Q' K hK
          refine hK _ _ ?_
          clear hK K kT hX1 hbT hM hMg hb hBV hbT1
          have y4 := (kc.below hBT lc).cell (i := 4) rfl
          go_wp2_with fail
          clear y4
          go_loopw [84] (fun i wr => ∃ k : Nat, k ≤ nx ∧ i = .int .i64 (k : Int) ∧ Hid (∃ G C, C Rn = bT ∧ MacAt V5.heap.size wr bm L Rn N (runM L (ins.take k) M0) gr gm cr N G C) ∧ Below V5.heap.size V5 wr) (fun i _ => nx - (intOf i).toNat)
          case atStart => exact ⟨0, Nat.zero_le _, rfl, hMgH, hBT⟩
          case round =>
            clear hMgH hBT
            obtain ⟨k, hk, rfl, hH, hBV⟩ := hrel
            by_cases hlt : k < nx
            case pos =>
              have hltd : decide ((k : Int) < (nx : Int)) = true := by simp; omega
              obtain ⟨G2, C2, hC2, hM⟩ := hH.out
              have hlt' : k < ins.length := by have := hnxH.out; omega
              have hval := code_ins hcbH.out k hlt'
              rcases hrx with h0 | ⟨b, o, rfl, hb, hc⟩
              · exfalso; rw [h0] at hlt'; simp at hlt'
              obtain ⟨ia2, ic2, hcell, had⟩ := hc k hlt'
              have c0 : wr.cell? ⟨b, o + k * 12, none⟩ = some (.int .u8 (insAt ins k).op) := (hBV.cell (p := ⟨b, o + k * 12, none⟩) hb).trans (hcell 0 _ rfl)
              have c1 : wr.cell? ⟨b, o + k * 12 + 1, none⟩ = some (.int .i64 (insAt ins k).d) := (hBV.cell (p := ⟨b, o + k * 12 + 1, none⟩) hb).trans (hcell 1 _ rfl)
              have c2 : wr.cell? ⟨b, o + k * 12 + 2, none⟩ = some (.int .i64 (insAt ins k).a) := (hBV.cell (p := ⟨b, o + k * 12 + 2, none⟩) hb).trans (hcell 2 _ rfl)
              have c3 : wr.cell? ⟨b, o + k * 12 + 3, none⟩ = some (.int .i64 (insAt ins k).b) := (hBV.cell (p := ⟨b, o + k * 12 + 3, none⟩) hb).trans (hcell 3 _ rfl)
              have c4 : wr.cell? ⟨b, o + k * 12 + 4, none⟩ = some (.int .i64 (insAt ins k).val) := (hBV.cell (p := ⟨b, o + k * 12 + 4, none⟩) hb).trans (hcell 4 _ rfl)
              have c5 : wr.cell? ⟨b, o + k * 12 + 5, none⟩ = some (.int .i64 (insAt ins k).pt.mul) := (hBV.cell (p := ⟨b, o + k * 12 + 5, none⟩) hb).trans (hcell 5 _ rfl)
              have c6 : wr.cell? ⟨b, o + k * 12 + 6, none⟩ = some (.int .i64 (insAt ins k).pt.add) := (hBV.cell (p := ⟨b, o + k * 12 + 6, none⟩) hb).trans (hcell 6 _ rfl)
              have c7 : wr.cell? ⟨b, o + k * 12 + 7, none⟩ = some (.int .i64 (insAt ins k).pt.div) := (hBV.cell (p := ⟨b, o + k * 12 + 7, none⟩) hb).trans (hcell 7 _ rfl)
              have c8 : wr.cell? ⟨b, o + k * 12 + 8, none⟩ = some (.int .i64 (insAt ins k).pt.lo) := (hBV.cell (p := ⟨b, o + k * 12 + 8, none⟩) hb).trans (hcell 8 _ rfl)
              have c9 : wr.cell? ⟨b, o + k * 12 + 9, none⟩ = some (.int .i64 (insAt ins k).pt.hi) := (hBV.cell (p := ⟨b, o + k * 12 + 9, none⟩) hb).trans (hcell 9 _ rfl)
              have c10 : wr.cell? ⟨b, o + k * 12 + 10, none⟩ = some (.int .u8 (insAt ins k).how) := (hBV.cell (p := ⟨b, o + k * 12 + 10, none⟩) hb).trans (hcell 10 _ rfl)
              have c11 : wr.cell? ⟨b, o + k * 12 + 11, none⟩ = some (.slice ia2 (insAt ins k).ad.length ic2) := (hBV.cell (p := ⟨b, o + k * 12 + 11, none⟩) hb).trans (hcell 11 _ rfl)
              obtain ⟨y, hy⟩ : ∃ y, insAt ins k = y := ⟨_, rfl⟩
              rw [hy] at c0 c1 c2 c3 c4 c5 c6 c7 c8 c9 c10 c11 had hval
              have hyH := Lib.hid hy
              obtain ⟨ko, hko⟩ : ∃ ko : Nat, y.op = (ko : Int) := ⟨y.op.toNat, by have := ins_op hval; omega⟩
              have hk1 : 1 ≤ ko := by have := ins_op hval; omega
              have hk7 : ko < 7 := by have := ins_op hval; omega
              rw [hko] at c0
              have hvalH := Lib.hid hval
              clear hc hcell hy hH hval
              have hst := ins_store wr (ko : Int) y ia2 ic2
              have kxn := Blk.new wr 95 #[.int .u8 (ko : Int), .int .i64 y.d, .int .i64 y.a, .int .i64 y.b, .int .i64 y.val, .int .i64 y.pt.mul, .int .i64 y.pt.add, .int .i64 y.pt.div, .int .i64 y.pt.lo, .int .i64 y.pt.hi, .int .u8 y.how, .slice ia2 y.ad.length ic2]
              have hbA := jb_al (Below.refl _ wr) (.cells #[.int .u8 (ko : Int), .int .i64 y.d, .int .i64 y.a, .int .i64 y.b, .int .i64 y.val, .int .i64 y.pt.mul, .int .i64 y.pt.add, .int .i64 y.pt.div, .int .i64 y.pt.lo, .int .i64 y.pt.hi, .int .u8 y.how, .slice ia2 y.ad.length ic2] 95)
              have hMA := hM.later hbA
              have hBA := hBV.trans (hbA.mono hBV.size)
              go_wp2_with fail
              clear hst c0 c1 c2 c3 c4 c5 c6 c7 c8 c9 c10 c11 hltd hM hBV
              obtain ⟨wA, hwA⟩ : ∃ X, wr.alloc (.cells #[.int .u8 (ko : Int), .int .i64 y.d, .int .i64 y.a, .int .i64 y.b, .int .i64 y.val, .int .i64 y.pt.mul, .int .i64 y.pt.add, .int .i64 y.pt.div, .int .i64 y.pt.lo, .int .i64 y.pt.hi, .int .u8 y.how, .slice ia2 y.ad.length ic2] 95) = X := ⟨_, rfl⟩
              obtain ⟨bx, hbx⟩ : ∃ b, wr.heap.size = b := ⟨_, rfl⟩
              rw [hwA] at kxn hMA hBA hbA ⊢
              rw [hbx] at kxn ⊢
              clear hwA hbx hbA
              have kT := hMA.gs (by rw [hC2]; exact hbT0)
              rw [hC2] at kT
              have tf : tabC[ko * 6 + 5]? = some (.func (.func (doF ko)) #[] #[]) := by rw [← do_fn hk1 hk7]; exact (tab_at hk7).2.2.2.2.2
              have hMd := hMA.later (Below.refl _ wA).drew
              have hBd := hBA.drew
              have hS : Below wA.heap.size wA wA.drew := (Below.refl _ _).drew
              have eg := enters_do hk1 hk7
              clear hMA hBA
              refine plain_region (fun W' => Below wA.heap.size wA W') 7 8 (by kernel_rfl) rfl ?_
              simp only [Array.replicate_succ, Array.replicate_zero, List.push_toArray, List.nil_append, List.cons_append]
              obtain ⟨X0, hXX0⟩ : ∃ X : World, wA.drew = X := ⟨_, rfl⟩
              rw [hXX0] at hS hMd hBd ⊢
              clear hXX0
              have FA3 := Lib.hid (fun w' (hS' : (fun W' => Below wA.heap.size wA W') w') => And.intro (cz12 (kxn.below hS' kxn.lt)) ((kT.below hS' kT.lt).cell tf))
              refine tkz 5 rfl hS (fun w' hS' => by go_simp; rfl) ?_
              simp only [nrz]
              refine tkz 6 rfl hS (fun w' hS' => by obtain ⟨⟨x0, x1, x2, x3, x4, x5, x6, x7, x8, x9, x10, x11⟩, uT⟩ := FA3.out w' hS'; clear hS'; go_simp; rfl) ?_
              simp only [nrz]
              refine step_op 0 (by kernel_rfl) rfl (fun K hK => ?_)
              rw [if_pos (by rfl)]
              go_simp
              refine hK.out _ _ (fun h => hS) ?_
              clear hK K
              try simp only [Act.put, nrz]
              refine step_op 1 (by kernel_rfl) rfl (fun K hK => ?_)
              have x0 := (kxn.below hS kxn.lt).cell (i := 0) rfl
              rw [if_pos (by rfl)]
              go_simp
              clear x0
              refine hK.out _ _ (fun h => hS) ?_
              clear hK K
              try simp only [Act.put, nrz]
              refine step_op 2 (by kernel_rfl) rfl (fun K hK => ?_)
              rw [if_pos (by rfl)]
              go_simp
              try go_ints
              rw [if_pos (by omega)]
              refine hK.out _ _ (fun h => hS) ?_
              clear hK K
              try simp only [Act.put, nrz]
              refine step_op 3 (by kernel_rfl) rfl (fun K hK => ?_)
              rw [if_pos (by rfl)]
              go_simp
              refine hK.out _ _ (fun h => hS) ?_
              clear hK K
              try simp only [Act.put, nrz]
              refine tkz 4 rfl hS (fun w' hS' => by obtain ⟨⟨x0, x1, x2, x3, x4, x5, x6, x7, x8, x9, x10, x11⟩, uT⟩ := FA3.out w' hS'; clear hS'; go_simp; rfl) ?_
              simp only [nrz]
              refine step_op 7 (by kernel_rfl) rfl (fun K hK => ?_)
              have hdo := do_any ⟨(L : Int), (Rn : Int), (N : Int)⟩ hvvH.out L Rn N rfl rfl rfl y hvalH.out ko hko ia2 ic2 V5.heap.size bm (runM L (ins.take k) M0) gr gm cr N G2 C2 X0 hMd (hregH.out k) (had.below (Nat.le_refl _) hBd) hBd.size
              unfold insv at hdo
              rw [hko] at hdo
              rw [if_pos (by rfl)]
              go_simp
              refine hdo.mono ?_
              clear hdo
              rintro e X7 ⟨⟨vv, rfl⟩, G3, C3, hC3, hM3, hb3⟩
              have hB3 := hBd.trans hb3
              refine hK.out _ _ (fun h => absurd h (by omega)) ?_
              clear hK K
              try simp only [Act.put, nrz]
              refine done_ops (by kernel_rfl) ?_
              rw [← hyH.out, ← runM_take L ins M0 k hlt'] at hM3
              have hM3H : Hid (∃ G C, C Rn = bT ∧ MacAt V5.heap.size X7 bm L Rn N (runM L (ins.take (k + 1)) M0) gr gm cr N G C) := Lib.hid ⟨G3, C3, hC3.trans hC2, hM3⟩
              clear hM3 hMd hBd hS kT kxn tf eg hb3 had
              go_wp2_with fail
              go_roundw
              case rel => exact ⟨k + 1, by omega, by go_num, hM3H, hB3⟩
              case measure => simp [intOf]; omega
            case neg =>
              have hltd : decide ((k : Int) < (nx : Int)) = false := by simp; omega
              have hkn : nx = k := by omega
              obtain ⟨G2, C2, hC2, hM⟩ := hH.out
              rw [show ins.take k = ins from List.take_of_length_le (by have := hnxH.out; omega)] at hM
              obtain ⟨M1, hM1⟩ : ∃ M, runM L ins M0 = M := ⟨_, rfl⟩
              rw [hM1] at hM
              have hM1H := Lib.hid hM1
              clear hH hkn hk hM1
              obtain ⟨hw1, hh1, ho1, ho2⟩ := code_out hcbH.out
              simp only at hw1 hh1 ho1 ho2
              have hmb := prod_bd (a := W) (x := H) (m := 16) (n := 16) (by omega) (by omega) (by omega) (by omega) (by omega)
              have hm1 := Int.mul_le_mul hw1.1 hh1.1 (by omega) (by omega)
              obtain ⟨p, hp⟩ : ∃ p : Nat, W * H = (p : Int) := ⟨(W * H).toNat, by omega⟩
              obtain ⟨O, rfl⟩ : ∃ O : Nat, out = (O : Int) := ⟨out.toNat, by omega⟩
              rw [hp] at hmb ho2 hm1
              simp only [Int.reduceMul] at hmb hm1
              have hOp : O + p ≤ N := by omega
              have hp1 : 1 ≤ p := by omega
              have hp2 : p ≤ 256 := by omega
              have hpH := Lib.hid hp
              have hR2 : R = { w := W, h := H, px := outN M1 (O : Int) p, err := 0 } := by
                rw [← hRH.out]
                unfold runS
                rw [hEH.out, if_pos rfl]
                simp only
                rw [hniH.out, hv1H.out, if_pos rfl]
                unfold mac0
                simp only
                rw [hniH.out, hM0H.out]
                show ({ w := W, h := H, px := outN (runM L ins M0) (O : Int) (W.toNat * H.toNat), err := 0 } : ImR) = _
                rw [hM1H.out, show W.toNat * H.toNat = p by have := hpH.out; have h3 : ((W.toNat * H.toNat : Nat) : Int) = W * H := by push_cast; rw [Int.toNat_of_nonneg (by omega), Int.toNat_of_nonneg (by omega)]
                                                            omega]
              subst hR2
              have hMd := hM.later (Below.refl _ wr).drew
              have hS : Below V5.heap.size V5 wr.drew ∧ Blk wr.drew bm 88 #[.int .i64 (L : Int), (.slice (some ⟨gr, 0, none⟩) Rn cr), .slice (some ⟨gm, 0, none⟩) N N] := ⟨hBV.drew, hMd.m⟩
              have l4 := k4.lt
              clear hM hBV hmb hm1 ho1 ho2 hp
              go_wp2_with fail
              refine plain_region (fun W' => Below V5.heap.size V5 W' ∧ Blk W' bm 88 #[.int .i64 (L : Int), (.slice (some ⟨gr, 0, none⟩) Rn cr), .slice (some ⟨gm, 0, none⟩) N N]) 19 21 (by kernel_rfl) rfl ?_
              simp only [Array.replicate_succ, Array.replicate_zero, List.push_toArray, List.nil_append, List.cons_append]
              obtain ⟨X0, hXX0⟩ : ∃ X : World, wr.drew = X := ⟨_, rfl⟩
              rw [hXX0] at hS hMd ⊢
              clear hXX0
              have FA4 := Lib.hid (fun w' (hS' : (fun W' => Below V5.heap.size V5 W' ∧ Blk W' bm 88 #[.int .i64 (L : Int), (.slice (some ⟨gr, 0, none⟩) Rn cr), .slice (some ⟨gm, 0, none⟩) N N]) w') => And.intro (hS'.2.cell (i := 2) rfl) (And.intro ((kc.below hS'.1 lc).cell (i := 0) rfl) (And.intro ((kc.below hS'.1 lc).cell (i := 1) rfl) ((kc.below hS'.1 lc).cell (i := 3) rfl))))
              refine tkz 0 rfl hS (fun w' hS' => by go_simp; rfl) ?_
              simp only [nrz]
              refine tkz 1 rfl hS (fun w' hS' => by obtain ⟨e2, a0, a1, a3⟩ := FA4.out w' hS'; clear hS'; go_simp; rfl) ?_
              simp only [nrz]
              refine tkz 2 rfl hS (fun w' hS' => by go_simp; rfl) ?_
              simp only [nrz]
              refine tkz 3 rfl hS (fun w' hS' => by obtain ⟨e2, a0, a1, a3⟩ := FA4.out w' hS'; clear hS'; go_simp; rfl) ?_
              simp only [nrz]
              refine tkz 4 rfl hS (fun w' hS' => by go_simp; rfl) ?_
              simp only [nrz]
              refine tkz 5 rfl hS (fun w' hS' => by go_simp; rfl) ?_
              simp only [nrz]
              refine tkz 6 rfl hS (fun w' hS' => by go_simp; rfl) ?_
              simp only [nrz]
              refine tkz 7 rfl hS (fun w' hS' => by obtain ⟨e2, a0, a1, a3⟩ := FA4.out w' hS'; clear hS'; go_simp; rfl) ?_
              simp only [nrz]
              refine tkz 8 rfl hS (fun w' hS' => by go_simp; rfl) ?_
              simp only [nrz]
              refine tkz 9 rfl hS (fun w' hS' => by obtain ⟨e2, a0, a1, a3⟩ := FA4.out w' hS'; clear hS'; go_simp; rfl) ?_
              simp only [nrz]
              refine tkz 10 (v := .slice (some ⟨gm, O, none⟩) (N - O) (N - O)) rfl hS (fun w' hS' => ?ey10) ?ez10
              case ey10 =>
                clear hS'
                go_simp
                rw [if_pos (by omega), if_neg (by omega)]
              simp only [nrz]
              refine tkz 11 rfl hS (fun w' hS' => by go_simp; rfl) ?_
              simp only [nrz]
              refine tkz 12 rfl hS (fun w' hS' => by obtain ⟨e2, a0, a1, a3⟩ := FA4.out w' hS'; clear hS'; go_simp; rfl) ?_
              simp only [nrz]
              refine tkz 13 rfl hS (fun w' hS' => by go_simp; rfl) ?_
              simp only [nrz]
              refine tkz 14 rfl hS (fun w' hS' => by obtain ⟨e2, a0, a1, a3⟩ := FA4.out w' hS'; clear hS'; go_simp; rfl) ?_
              simp only [nrz]
              refine tkz 15 (v := .int .i64 (p : Int)) rfl hS (fun w' hS' => ?ey15) ?ez15
              case ey15 =>
                clear hS'
                have hpp := hpH.out
                go_simp
                first
                  | (go_ints; done)
                  | go_num
                  | (go_ints; trivial)
              simp only [nrz]
              refine tkz 16 (v := .slice (some ⟨gm, O, none⟩) p (N - O)) rfl hS (fun w' hS' => ?ey16) ?ez16
              case ey16 =>
                clear hS'
                go_simp
                intro h
                omega
              simp only [nrz]
              refine step_op 17 (by kernel_rfl) rfl (fun K hK => ?_)
              have hrd : Rd X0.heap.size X0 (some ⟨gm, O, none⟩) (outN M1 (O : Int) p) := by
                obtain ⟨e0, e1, e2, er, eg, em⟩ := hMd.cells
                refine .inr ⟨gm, O, rfl, (hMd.mm.lt gm rfl).2, fun i hi => ?_⟩
                have hi2 : i < p := by simpa [outN] using hi
                unfold outN
                rw [List.getElem?_map, List.getElem?_range hi2]
                exact em (O + i) (by omega)
              rw [if_pos (by rfl)]
              go_simp
              refine (CloneN_any (outN M1 (O : Int) p) gm O (N - O) p (by simp [outN]) (by omega) (by omega) X0 hrd).mono ?_
              clear hrd
              rintro e X7 ⟨g, cap, rfl, hrow, hb⟩
              have hS7 : Below V5.heap.size V5 X7 ∧ Blk X7 bm 88 #[.int .i64 (L : Int), (.slice (some ⟨gr, 0, none⟩) Rn cr), .slice (some ⟨gm, 0, none⟩) N N] := ⟨hS.1.trans (hb.mono hS.1.size), (hMd.later hb).m⟩
              have hrowb := jrow_weaken hrow (show w.heap.size ≤ X0.heap.size by have := hS.1.size; omega)
              clear hb hrow
              refine hK.out _ _ (fun h => hS7) ?_
              clear hK K
              try simp only [Act.put, nrz]
              refine tkz 18 rfl hS7 (fun w' hS' => by go_simp; rfl) ?_
              simp only [nrz]
              refine step_op 19 (by kernel_rfl) rfl (fun K hK => ?_)
              have kz := k4.below hS7.1 l4
              obtain ⟨z0, z1, z2⟩ := cz3 kz
              have fz0 := kz.frozen 0
              have fz1 := kz.frozen 1
              have fz2 := kz.frozen 2
              rw [if_pos (by rfl)]
              go_simp
              clear z0 z1 z2 fz0 fz1 fz2
              refine hK.out _ _ (fun h => absurd h (by omega)) ?_
              clear hK K
              try simp only [Act.put, nrz]
              refine step_op 20 (by kernel_rfl) rfl (fun K hK => ?_)
              rw [if_pos (by rfl)]
              go_simp
              refine hK.out _ _ (fun h => absurd h (by omega)) ?_
              clear hK K
              try simp only [Act.put, nrz]
              refine done_ops (by kernel_rfl) ?_
              have kf := put3_blk kz (.int .i64 W) (.int .i64 H) (.slice (some ⟨g, 0, none⟩) p cap)
              have rowf := row_put3b hrowb (kz.not_row (by decide) hrowb) (.int .i64 W) (.int .i64 H) (.slice (some ⟨g, 0, none⟩) p cap)
              have hbf : Below w.heap.size w (put3 X7 (V2.heap.size) (.int .i64 W) (.int .i64 H) (.slice (some ⟨g, 0, none⟩) p cap)) := (hBw.trans (hS7.1.mono hBw.size)).trans (put3_below hle4 _ _ _)
              obtain ⟨g0, g1, g2⟩ := cz3 kf
              have hol : (outN M1 (O : Int) p).length = p := by simp [outN]
              clear hS7 hS hMd kz hrowb
              go_wp2_with fail
              exact bodyPost_ret (v := .tuple #[imv W H (some ⟨g, 0, none⟩) p cap, .int .i64 0]) (by simp [results, Try.results16, go_sem, g0, g1, g2]) rfl ⟨⟨_, rfl, (.slice (some ⟨g, 0, none⟩) p cap), rfl, by rw [hol]; exact rowf⟩, hbf⟩
end Go.Proofs.Ytekiemlniegddaa
namespace Go.Proofs.Ytekiemlniegddaa
open Go Go.RowKit Go.Shelf
/-- Registers that are being made, behind the memory. -/
structure RefP (B : Nat) (W : World) (lanes k N : Nat) (v : Value) (mem : Nat → Int) (gm cm : Nat) (G C : Nat → Nat) : Prop where
 rr : W.ownsRow B 27 1 v k (rowsL k lanes G C)
 rg : ∀ r, r < k → W.ownsRow B 3 1 (srow (G r) lanes (C r)) lanes (intL lanes fun _ => 0)
 mm : W.ownsRow B 3 1 (srow gm N cm) N (intL N mem)
 inj : ∀ r s, r < k → s < k → G r = G s → r = s
 ne : ∀ r, r < k → G r ≠ gm
theorem RefP.ref {B : Nat} {W : World} {lanes R N : Nat} {v : Value} {mem : Nat → Int} {gm cm : Nat} {G C : Nat → Nat} (h : RefP B W lanes R N v mem gm cm G C) (hR : 0 < R) : ∃ gr cr, v = srow gr R cr ∧ RefAt B W lanes R N ⟨fun _ _ => 0, mem⟩ gr gm cr cm G C := by
 obtain ⟨a, c, rfl⟩ := row_slice h.rr
 obtain ⟨g, rfl⟩ := row_someP h.rr hR
 exact ⟨g, c, rfl, h.rr, h.rg, h.mm, h.inj, h.ne⟩
theorem RefP.later {B : Nat} {W W' : World} {lanes k N : Nat} {v : Value} {mem : Nat → Int} {gm cm : Nat} {G C : Nat → Nat} (h : RefP B W lanes k N v mem gm cm G C) (hb : Below W.heap.size W W') : RefP B W' lanes k N v mem gm cm G C :=
 ⟨row_below h.rr hb, fun r hr => row_below (h.rg r hr) hb, row_below h.mm hb, h.inj, h.ne⟩
theorem RefP.push {B : Nat} {W W1 W2 : World} {L k N : Nat} {v v' : Value} {mem : Nat → Int} {gm cm g : Nat} {G C : Nat → Nat} (h : RefP B W L k N v mem gm cm G C) (hb1 : Below W.heap.size W W1) (hg : W.heap.size ≤ g)
  (hnew : W1.ownsRow B 3 1 (srow g L L) L (intL L fun _ => 0)) (hrow : W2.ownsRow B 27 1 v' (k + 1) (rowsL k L G C ++ [srow g L L])) (hgr : W1.grownBy W2 v.ownBlock) (hB : B ≤ W.heap.size) :
  RefP B W2 L (k + 1) N v' mem gm cm (fun r => if r = k then g else G r) (fun r => if r = k then L else C r) ∧ Below B W W2 := by
 have h1 := h.later hb1
 have low : ∀ {g n c : Nat} {xs : List Value}, W.ownsRow B 3 1 (srow g n c) n xs → g < W.heap.size := fun h => (h.lt _ rfl).2
 refine ⟨⟨?_, fun r hr => ?_, ?_, fun r s hr hs e => ?_, fun r hr => ?_⟩, ?_⟩
 ·rw [rowsL_succ]
  exact hrow
 ·by_cases e : r = k
  ·rw [if_pos e, if_pos e]
   exact hnew.kept hgr (.inr (row_apart hnew h1.rr (by decide)))
  ·rw [if_neg e, if_neg e]
   have h2 := h1.rg r (by omega)
   exact h2.kept hgr (.inr (row_apart h2 h1.rr (by decide)))
 ·exact h1.mm.kept hgr (.inr (row_apart h1.mm h1.rr (by decide)))
 ·by_cases e1 : r = k
  ·by_cases e2 : s = k
   ·omega
   ·rw [if_pos e1, if_neg e2] at e; have := low (h.rg s (by omega)); omega
  ·by_cases e2 : s = k
   ·rw [if_neg e1, if_pos e2] at e; have := low (h.rg r (by omega)); omega
   ·rw [if_neg e1, if_neg e2] at e; exact h.inj r s (by omega) (by omega) e
 ·by_cases e : r = k
  ·rw [if_pos e]; have := low h.mm; omega
  ·rw [if_neg e]; exact h.ne r (by omega)
 ·exact (hb1.mono hB).grown hgr (by have := hb1.size; omega) (fun j e => (h1.rr.lt j e).1)
/-- A part of an image is placed. -/
def putK (at_ : Int) (xs : List Int) (k : Nat) (mem : Nat → Int) : Nat → Int := fun i => if 0 ≤ at_ ∧ at_ ≤ (i : Int) ∧ (i : Int) < at_ + k then px xs ((i : Int) - at_) else mem i
theorem putK_zero (at_ : Int) (xs : List Int) (mem : Nat → Int) : putK at_ xs 0 mem = mem := by funext i; unfold putK; rw [if_neg (by omega)]
theorem putK_neg {at_ : Int} (h : ¬ 0 ≤ at_) (xs : List Int) (mem : Nat → Int) : putImg at_ xs mem = mem := by funext i; unfold putImg; rw [if_neg (by omega)]
theorem putK_row {W : World} {B : Nat} {gm cm N A k : Nat} {xs : List Int} {mem : Nat → Int} {u : Int} (h : W.ownsRow B 3 1 (srow gm N cm) N (intL N (putK (A : Int) xs k mem))) (hu : px xs (k : Int) = u) :
  (W.setCell ⟨gm, A + k, none⟩ (.int .i64 u)).ownsRow B 3 1 (srow gm N cm) N (intL N (putK (A : Int) xs (k + 1) mem)) := by
 have := (h.stored (A + k) (.int .i64 u)).1
 rw [intL_set] at this
 refine (intL_congr (n := N) (f := fun i => if i = A + k then u else putK (A : Int) xs k mem i) (g := putK (A : Int) xs (k + 1) mem) (fun i _ => ?_)) ▸ this
 show (if i = A + k then u else putK (A : Int) xs k mem i) = putK (A : Int) xs (k + 1) mem i
 unfold putK
 by_cases e : i = A + k
 ·rw [if_pos e, if_pos (by omega), ← hu]; congr 1; omega
 ·rw [if_neg e]
  by_cases e2 : (A : Int) ≤ (i : Int) ∧ (i : Int) < A + k
  ·rw [if_pos (by omega), if_pos (by omega)]
  ·rw [if_neg (by omega), if_neg (by omega)]
set_option maxRecDepth 100000 in
set_option maxHeartbeats 16000000 in
theorem rRun_any (v : VecN) (C : CodeN) (ia xa : Option Addr) (ic xc : Nat) (hC : CodeIn C) (ms : List PicN) (la : Option Addr) (q lc : Nat) (hm : ms.length = q) (hmm : q ≤ 9223372036854775807) (hpl : ∀ i, (picAt ms i).px.length ≤ 9223372036854775807) (w : World) (hri : Rd w.heap.size w ia C.inp) (hrx : RdCs w.heap.size w xa C.ins) (hrl : RdPs w.heap.size w la ms) :
    Calls Try.prog 17 #[vecv v, codev C ia ic xa xc, .slice la q lc] w (RetIm w.heap.size (runS v C ms) w) := by
  have hB : Below w.heap.size w w := Below.refl _ _
  have hCI := hC
  obtain ⟨il0, xl0, hins⟩ := hC
  obtain ⟨R, hR⟩ : ∃ R, runS v C ms = R := ⟨_, rfl⟩
  have hRH := Lib.hid hR
  have hck0 := fun V h1 h2 => rCheckCode_any v C ia xa ic xc hCI V h1 h2
  obtain ⟨E, hE⟩ : ∃ E, chkS v C = E := ⟨_, rfl⟩
  have hEH := Lib.hid hE
  rw [hE] at hck0
  obtain ⟨W, H, inp, out, ins⟩ := C
  obtain ⟨vl, vr, vm⟩ := v
  unfold vecv codev
  unfold vecv codev at hck0
  simp only at il0 xl0 hri hrx hins hck0 ⊢
  obtain ⟨ni, hni⟩ : ∃ l, inp.length = l := ⟨_, rfl⟩
  obtain ⟨nx, hnx⟩ : ∃ l, ins.length = l := ⟨_, rfl⟩
  have hniH := Lib.hid hni
  have hnxH := Lib.hid hnx
  have hinsH := Lib.hid hins
  have hplH := Lib.hid hpl
  have hmH := Lib.hid hm
  rw [hni] at il0 hck0 ⊢
  rw [hnx] at xl0 hck0 ⊢
  rw [hR]
  have hckH := Lib.hid hck0
  clear hR hE hni hnx hins hpl hm hck0 hCI
  obtain ⟨V1, hEV1, hbV1, kv⟩ := newB w 42 #[.int .i64 vl, .int .i64 vr, .int .i64 vm]
  replace hri := later_i hri hbV1
  replace hrx := hrx.later hbV1
  replace hrl := hrl.later hbV1
  replace hB := tmB hB hbV1
  clear hbV1
  obtain ⟨vc0, vc1, vc2⟩ := cz3 kv
  obtain ⟨V2, hEV2, hbV2, kc⟩ := newB V1 45 #[.int .i64 W, .int .i64 H, .slice ia ni ic, .int .i64 out, .slice xa nx xc]
  clear vc0 vc1 vc2
  replace kv := kv.below hbV2 kv.lt
  replace hri := later_i hri hbV2
  replace hrx := hrx.later hbV2
  replace hrl := hrl.later hbV2
  replace hB := tmB hB hbV2
  clear hbV2
  obtain ⟨vc0, vc1, vc2⟩ := cz3 kv
  obtain ⟨c0, c1, c2, c3, c4⟩ := cz5 kc
  have hle4 := hB.size
  obtain ⟨V3, hEV3, hbV3, k4⟩ := newB V2 29 #[.int .i64 0, .int .i64 0, .slice none 0 0]
  clear vc0 vc1 vc2 c0 c1 c2 c3 c4
  replace kv := kv.below hbV3 kv.lt
  replace kc := kc.below hbV3 kc.lt
  replace hri := later_i hri hbV3
  replace hrx := hrx.later hbV3
  replace hrl := hrl.later hbV3
  replace hB := tmB hB hbV3
  clear hbV3
  obtain ⟨vc0, vc1, vc2⟩ := cz3 kv
  obtain ⟨c0, c1, c2, c3, c4⟩ := cz5 kc
  have z0 := k4.cell (i := 0) rfl
  have fz0 := k4.frozen 0
  have z1 := k4.cell (i := 1) rfl
  have fz1 := k4.frozen 1
  have z2 := k4.cell (i := 2) rfl
  have fz2 := k4.frozen 2
  go_enter Try.func17, Try.ntmps17
  go_wp2_with fail
  clear hEV1 hEV2 hEV3
  refine (hckH.out V3 hri hrx).mono ?_
  rintro e V4 ⟨rfl, hb⟩
  clear vc0 vc1 vc2 c0 c1 c2 c3 c4 z0 z1 z2 fz0 fz1 fz2
  replace kv := kv.below hb kv.lt
  replace kc := kc.below hb kc.lt
  replace k4 := k4.below hb k4.lt
  replace hri := later_i hri hb
  replace hrx := hrx.later hb
  replace hrl := hrl.later hb
  replace hB := tmB hB hb
  clear hb
  obtain ⟨vc0, vc1, vc2⟩ := cz3 kv
  obtain ⟨c0, c1, c2, c3, c4⟩ := cz5 kc
  have z0 := k4.cell (i := 0) rfl
  have fz0 := k4.frozen 0
  have z1 := k4.cell (i := 1) rfl
  have fz1 := k4.frozen 1
  have z2 := k4.cell (i := 2) rfl
  have fz2 := k4.frozen 2
  by_cases hE0 : E = 0
  case neg =>
    have hE1 : (E != 0) = true := by simp [hE0]
    have hE0H := Lib.hid hE0
    clear hE0
    have hR2 : R = noIm E := by rw [← hRH.out]; unfold runS; rw [hEH.out, if_neg hE0H.out]
    subst hR2
    have kf := put3_blk k4 (.int .i64 0) (.int .i64 0) (.slice none 0 0)
    have hbf : Below w.heap.size w (put3 V4 (V2.heap.size) (.int .i64 0) (.int .i64 0) (.slice none 0 0)) := hB.trans (put3_below hle4 _ _ _)
    obtain ⟨g0, g1, g2⟩ := cz3 kf
    go_wp2_with fail
    exact bodyPost_ret (v := .tuple #[imv 0 0 none 0 0, .int .i64 E]) (by simp [results, Try.results17, go_sem, g0, g1, g2]) rfl ⟨⟨_, rfl, _, rfl, World.ownsRow_nil _ _ _ _⟩, hbf⟩
  case pos =>
  subst hE0
  obtain ⟨v1, hv1⟩ : ∃ v, givenB ms (ni : Int) W H = v := ⟨_, rfl⟩
  have hv1H := Lib.hid hv1
  clear hv1
  go_wp2_with fail
  refine (rgiven_any ms la lc q hmH.out hmm (fun i _ => hplH.out i) (ni : Int) W H v1 hv1H.out V4 hrl).mono ?_
  rintro e V5 ⟨rfl, hb⟩
  clear vc0 vc1 vc2 c0 c1 c2 c3 c4 z0 z1 z2 fz0 fz1 fz2
  replace kv := kv.below hb kv.lt
  replace kc := kc.below hb kc.lt
  replace k4 := k4.below hb k4.lt
  replace hri := later_i hri hb
  replace hrx := hrx.later hb
  replace hrl := hrl.later hb
  replace hB := tmB hB hb
  clear hb
  obtain ⟨vc0, vc1, vc2⟩ := cz3 kv
  obtain ⟨c0, c1, c2, c3, c4⟩ := cz5 kc
  have z0 := k4.cell (i := 0) rfl
  have fz0 := k4.frozen 0
  have z1 := k4.cell (i := 1) rfl
  have fz1 := k4.frozen 1
  have z2 := k4.cell (i := 2) rfl
  have fz2 := k4.frozen 2
  cases v1 with
  | false =>
    have hR2 : R = noIm 2 := by rw [← hRH.out]; unfold runS; rw [hEH.out, if_pos rfl]; simp only; rw [hniH.out, hv1H.out]; rfl
    subst hR2
    have kf := put3_blk k4 (.int .i64 0) (.int .i64 0) (.slice none 0 0)
    have hbf : Below w.heap.size w (put3 V5 (V2.heap.size) (.int .i64 0) (.int .i64 0) (.slice none 0 0)) := hB.trans (put3_below hle4 _ _ _)
    obtain ⟨g0, g1, g2⟩ := cz3 kf
    go_wp2_with fail
    exact bodyPost_ret (v := .tuple #[imv 0 0 none 0 0, .int .i64 2]) (by simp [results, Try.results17, go_sem, g0, g1, g2]) rfl ⟨⟨_, rfl, _, rfl, World.ownsRow_nil _ _ _ _⟩, hbf⟩
  | true =>
  have hv0 : vecB ⟨vl, vr, vm⟩ = true := by
    cases h : vecB ⟨vl, vr, vm⟩ with
    | true => rfl
    | false => have := hEH.out; unfold chkS at this; rw [h] at this; cases this
  have hcb : codeB ⟨vl, vr, vm⟩ ⟨W, H, inp, out, ins⟩ = true := by
    cases h : codeB ⟨vl, vr, vm⟩ ⟨W, H, inp, out, ins⟩ with
    | true => rfl
    | false => have := hEH.out; unfold chkS at this; rw [hv0, h] at this; cases this
  have hcbH := Lib.hid hcb
  have hvv := vecB_in hv0
  have hvvH := Lib.hid hvv
  obtain ⟨q1, q2, q3, q4, q5, q6⟩ := hvv
  simp only at q1 q2 q3 q4 q5 q6
  clear hv0 hcb
  obtain ⟨L, rfl⟩ : ∃ L : Nat, vl = (L : Int) := ⟨vl.toNat, by omega⟩
  obtain ⟨Rn, rfl⟩ : ∃ L : Nat, vr = (L : Int) := ⟨vr.toNat, by omega⟩
  obtain ⟨N, rfl⟩ : ∃ L : Nat, vm = (L : Int) := ⟨vm.toNat, by omega⟩
  obtain ⟨i0, hi, hz0, hz1, hz2⟩ := info_parts info_num
  obtain ⟨j0, gi, gz0, gz1, gz2⟩ := info_parts info_row
  have hqn : (q : Int) = ni := by have := gvn_len hv1H.out; rw [hmH.out] at this; exact this
  have hq2 : q = ni := by omega
  subst hq2
  clear hqn
  go_wp2_with (at_make; refine wpList_make_full _ rfl _ _ 27 rfl V5.heap.size 3 i0 (.int .i64 0) 1 Try.underlying27 hi hz0 hz1 .i64 .i64 (N : Int) (N : Int) N rfl rfl (by simp) (by simp) (by rw [hz2]; omega) (by unfold maxLen; omega) (Nat.le_refl _) ?_; intro X1 hown hgX1)
  have hS1 : Below V5.heap.size V5 X1 := (Below.refl _ V5).grown hgX1 (Nat.le_refl _) (fun k e => by cases e)
  rw [made_row] at hown
  obtain ⟨gm, hgm⟩ : ∃ g, V5.heap.size = g := ⟨_, rfl⟩
  clear hgX1
  clear vc0 vc1 vc2 c0 c1 c2 c3 c4 z0 z1 z2 fz0 fz1 fz2
  have lv := kv.lt
  have lc := kc.lt
  have l4 := k4.lt
  clear hgm gm
  have hownH := Lib.hid (show X1.ownsRow V5.heap.size 3 1 (srow V5.heap.size N N) N (intL N (memN inp ms 0)) from hown)
  clear hown
  go_wp2_with fail
  go_loopw [10] (fun i wr => ∃ k : Nat, k ≤ q ∧ i = .int .i64 (k : Int) ∧ Hid (wr.ownsRow V5.heap.size 3 1 (srow V5.heap.size N N) N (intL N (memN inp ms k))) ∧ Below V5.heap.size V5 wr) (fun i _ => q - (intOf i).toNat)
  case atStart => exact ⟨0, Nat.zero_le _, rfl, hownH, hS1⟩
  case round =>
    clear hownH hS1
    obtain ⟨k, hk, rfl, hH, hBV⟩ := hrel
    by_cases hlt : k < q
    case pos =>
      have hltd : decide ((k : Int) < (q : Int)) = true := by simp; omega
      obtain ⟨at_, hat⟩ : ∃ x, inp[k]?.getD 0 = x := ⟨_, rfl⟩
      have hatH := Lib.hid hat
      have hlt' : k < inp.length := by have := hniH.out; omega
      have hin := code_inp hcbH.out k hlt'
      simp only [hat] at hin
      rcases hri with h0 | ⟨b, o, rfl, hb, hc⟩
      · exfalso; rw [h0] at hlt'; simp at hlt'
      have c0v := hc k hlt'
      rw [hat] at c0v
      have hkm : k < ms.length := by rw [hmH.out]; exact hlt
      obtain ⟨g1, g2, g3, g4⟩ := gvn_at hv1H.out hkm
      obtain ⟨pb, po, rfl, hpb, pa, pc, p0, p1, p2, p3, p4⟩ := hrl.at hkm
      obtain ⟨xs, hxs⟩ : ∃ l, (picAt ms k).px = l := ⟨_, rfl⟩
      rw [hxs] at p2 p3 g3 g4
      have hxsH := Lib.hid hxs
      obtain ⟨l, hl⟩ : ∃ l, xs.length = l := ⟨_, rfl⟩
      rw [hl] at p2 g3
      have hlH := Lib.hid hl
      have hl1 : 1 ≤ l := by
        have h2 := Int.mul_le_mul g1.1 g2.1 (by omega) (by omega)
        omega
      have hl256 : l ≤ 256 := by
        have := prod_bd (a := W) (x := H) (m := 16) (n := 16) (by omega) (by omega) (by omega) (by omega) (by omega)
        simp only [Int.reduceMul] at this
        omega
      rcases p3 with h1 | ⟨xb, xo, rfl, hxb, hxc⟩
      · exfalso; rw [h1] at hl; simp at hl; omega
      have hmem : memN inp ms (k + 1) = putImg at_ xs (memN inp ms k) := by show putImg (inp[k]?.getD 0) (picAt ms k).px (memN inp ms k) = _; rw [hatH.out, hxsH.out]
      obtain ⟨mem, hme⟩ : ∃ m, memN inp ms k = m := ⟨_, rfl⟩
      rw [hme] at hH hmem
      have hmemH := Lib.hid hmem
      have hxcH := Lib.hid (fun j (hj : j < l) => hxc j (by rw [hl]; exact hj))
      clear hat hc hxs hl p0 p1 p4 hmem hme hxc g4 hltd
      have c0 := (hBV.cell (p := ⟨b, o + k, none⟩) hb).trans c0v
      have y2 := (hBV.cell (p := ⟨pb, po + k * 3 + 2, none⟩) hpb).trans p2
      have d2 := (kc.below hBV lc).cell (i := 2) rfl
      by_cases h0 : 0 ≤ at_
      case neg =>
        have h0d : decide (0 ≤ at_) = false := by simp; omega
        have h0l : decide (0 < (l : Int)) = true := by simp; omega
        have hMH := Lib.hid (show wr.ownsRow V5.heap.size 3 1 (srow V5.heap.size N N) N (intL N (memN inp ms (k + 1))) by rw [hmemH.out, putK_neg h0]; exact hH.out)
        clear hH hin
        go_wp2_with fail
        clear c0 y2 d2
        go_loopw [11] (fun i wr' => i = .int .i64 0 ∧ wr = wr') (fun i _ => 0)
        case atStart => exact ⟨rfl, rfl⟩
        case round =>
          obtain ⟨rfl, rfl⟩ := hrel
          have c0 := (hBV.cell (p := ⟨b, o + k, none⟩) hb).trans c0v
          have y2 := (hBV.cell (p := ⟨pb, po + k * 3 + 2, none⟩) hpb).trans p2
          have d2 := (kc.below hBV lc).cell (i := 2) rfl
          go_wp2_with fail
          go_roundw
          case rel => exact ⟨k + 1, by omega, by go_num, hMH, hBV⟩
          case measure => simp [intOf]; omega
      case pos =>
        have h0d : decide (0 ≤ at_) = true := by simp; omega
        obtain ⟨A, rfl⟩ : ∃ A : Nat, at_ = (A : Int) := ⟨at_.toNat, by omega⟩
        have hAl : A + l ≤ N := by
          rcases hin with h1 | h1
          · omega
          · have := h1.2; rw [← g3] at this; omega
        have hHk := Lib.hid (show wr.ownsRow V5.heap.size 3 1 (srow V5.heap.size N N) N (intL N (putK (A : Int) xs 0 mem)) by rw [putK_zero]; exact hH.out)
        clear hH hin
        go_wp2_with fail
        clear c0 y2 d2
        have hBV0 := hBV
        go_loopw [11] (fun i wr => ∃ j : Nat, j ≤ l ∧ i = .int .i64 (j : Int) ∧ Hid (wr.ownsRow V5.heap.size 3 1 (srow V5.heap.size N N) N (intL N (putK (A : Int) xs j mem))) ∧ Below V5.heap.size V5 wr) (fun i _ => l - (intOf i).toNat)
        case atStart => exact ⟨0, Nat.zero_le _, rfl, hHk, hBV0⟩
        case round =>
          clear hHk hBV0 hBV
          obtain ⟨j, hj, rfl, hH, hBV⟩ := hrel
          have c0 := (hBV.cell (p := ⟨b, o + k, none⟩) hb).trans c0v
          have y2 := (hBV.cell (p := ⟨pb, po + k * 3 + 2, none⟩) hpb).trans p2
          have d2 := (kc.below hBV lc).cell (i := 2) rfl
          by_cases hjl : j < l
          case neg =>
            have hjd : decide ((j : Int) < (l : Int)) = false := by simp; omega
            have hjn : l = j := by omega
            have hMH := Lib.hid (show wr.ownsRow V5.heap.size 3 1 (srow V5.heap.size N N) N (intL N (memN inp ms (k + 1))) by rw [hmemH.out]; have := hH.out; rw [← hjn, ← hlH.out] at this; exact this)
            clear hH
            go_wp2_with fail
            go_roundw
            case rel => exact ⟨k + 1, by omega, by go_num, hMH, hBV⟩
            case measure => simp [intOf]; omega
          case pos =>
            have hjd : decide ((j : Int) < (l : Int)) = true := by simp; omega
            have hxv := hxcH.out j hjl
            obtain ⟨u, hu⟩ : ∃ u, xs[j]?.getD 0 = u := ⟨_, rfl⟩
            rw [hu] at hxv
            have huH := Lib.hid (show px xs (j : Int) = u from hu)
            have hHo := hH.out
            clear hu hH
            have hS : Below wr.heap.size wr wr.drew := (Below.refl _ _).drew
            have hAj : A + j < N := by omega
            have hb1 : b < wr.heap.size := by have := hBV.size; omega
            have hb2 : pb < wr.heap.size := by have := hBV.size; omega
            have hb3 : xb < wr.heap.size := by have := hBV.size; omega
            have x0 := (hBV.cell (p := ⟨xb, xo + j, none⟩) hxb).trans hxv
            go_wp2_with fail
            refine plain_region (fun W' => Below wr.heap.size wr W') 17 18 (by kernel_rfl) rfl ?_
            simp only [Array.replicate_succ, Array.replicate_zero, List.push_toArray, List.nil_append, List.cons_append]
            obtain ⟨X0, hXX0⟩ : ∃ X : World, wr.drew = X := ⟨_, rfl⟩
            rw [hXX0] at hS ⊢
            clear hXX0
            have FA0 := Lib.hid (fun w' (hS' : (fun W' => Below wr.heap.size wr W') w') => And.intro ((hS'.cell (p := ⟨b, o + k, none⟩) hb1).trans c0) (And.intro ((hS'.cell (p := ⟨pb, po + k * 3 + 2, none⟩) hb2).trans y2) (And.intro ((kc.below (hBV.trans (hS'.mono hBV.size)) lc).cell (i := 2) rfl) ((hS'.cell (p := ⟨xb, xo + j, none⟩) hb3).trans x0))))
            refine tkz 0 rfl hS (fun w' hS' => by go_simp; rfl) ?_
            simp only [nrz]
            refine tkz 1 rfl hS (fun w' hS' => by go_simp; rfl) ?_
            simp only [nrz]
            refine tkz 2 rfl hS (fun w' hS' => by obtain ⟨e0, e1, e2, e3⟩ := FA0.out w' hS'; clear hS'; go_simp; rfl) ?_
            simp only [nrz]
            refine tkz 3 rfl hS (fun w' hS' => by go_simp; rfl) ?_
            simp only [nrz]
            refine tkz 4 (v := ?cv4) rfl hS (fun w' hS' => ?cy4) ?cz4
            case cy4 =>
              go_simp
              try go_ints
              first
              | rfl
              | (rw [if_pos (by omega)]; done)
              | rw [if_pos ⟨by omega, by omega⟩]
            simp only [nrz]
            refine tkz 5 rfl hS (fun w' hS' => by obtain ⟨e0, e1, e2, e3⟩ := FA0.out w' hS'; clear hS'; go_simp; rfl) ?_
            simp only [nrz]
            refine tkz 6 rfl hS (fun w' hS' => by go_simp; rfl) ?_
            simp only [nrz]
            refine tkz 7 rfl hS (fun w' hS' => by go_simp; (try go_ints); rfl) ?_
            simp only [nrz]
            refine tkz 8 rfl hS (fun w' hS' => by go_simp; rfl) ?_
            simp only [nrz]
            refine tkz 9 rfl hS (fun w' hS' => by go_simp; rfl) ?_
            simp only [nrz]
            refine tkz 10 (v := ?cv10) rfl hS (fun w' hS' => ?cy10) ?cz10
            case cy10 =>
              go_simp
              try go_ints
              first
              | rfl
              | (rw [if_pos (by omega)]; done)
              | rw [if_pos ⟨by omega, by omega⟩]
            simp only [nrz]
            refine tkz 11 rfl hS (fun w' hS' => by go_simp; rfl) ?_
            simp only [nrz]
            refine tkz 12 rfl hS (fun w' hS' => by obtain ⟨e0, e1, e2, e3⟩ := FA0.out w' hS'; clear hS'; go_simp; rfl) ?_
            simp only [nrz]
            refine tkz 13 rfl hS (fun w' hS' => by go_simp; rfl) ?_
            simp only [nrz]
            refine tkz 14 (v := ?cv14) rfl hS (fun w' hS' => ?cy14) ?cz14
            case cy14 =>
              go_simp
              try go_ints
              first
              | rfl
              | (rw [if_pos (by omega)]; done)
              | rw [if_pos ⟨by omega, by omega⟩]
            simp only [nrz]
            refine tkz 15 rfl hS (fun w' hS' => by obtain ⟨e0, e1, e2, e3⟩ := FA0.out w' hS'; clear hS'; go_simp; rfl) ?_
            simp only [nrz]
            refine tkz 16 (v := ?cv16) rfl hS (fun w' hS' => ?cy16) ?cz16
            case cy16 =>
              go_simp
              try go_ints
              first
              | rfl
              | (rw [if_pos (by omega)]; done)
              | rw [if_pos ⟨by omega, by omega⟩]
            simp only [nrz]
            refine step_op 17 (by kernel_rfl) rfl (fun K hK => ?_)
            have z0 := (row_below hHo hS).cellAt (A + j) (by omega)
            have fz0 := (row_below hHo hS).frozenAt (A + j)
            rw [intL_at hAj] at z0
            rw [if_pos (by rfl)]
            go_simp
            clear z0 fz0
            refine hK.out _ _ (fun h => absurd h (by omega)) ?_
            clear hK K
            try simp only [Act.put, nrz]
            refine done_ops (by kernel_rfl) ?_
            have hrow2 := putK_row (row_below hHo hS) huH.out
            have hB3 : Below V5.heap.size V5 (X0.setCell ⟨V5.heap.size, A + j, none⟩ (.int .i64 u)) := (hBV.trans (hS.mono hBV.size)).setCell (p := ⟨V5.heap.size, A + j, none⟩) (Nat.le_refl _) _
            obtain ⟨X2, hX2⟩ : ∃ X, X0.setCell ⟨V5.heap.size, A + j, none⟩ (.int .i64 u) = X := ⟨_, rfl⟩
            rw [hX2] at hrow2 hB3
            try rw [hX2]
            have hrow2H := Lib.hid hrow2
            clear hX2 hrow2 hHo hS c0 y2 d2 x0
            go_wp2_with fail
            go_roundw
            case rel => exact ⟨j + 1, by omega, by go_num, hrow2H, hB3⟩
            case measure => simp [intOf]; omega
    case neg =>
      have hltd : decide ((k : Int) < (q : Int)) = false := by simp; omega
      have hkn : q = k := by omega
      subst hkn
      obtain ⟨mem, hme⟩ : ∃ m, memN inp ms q = m := ⟨_, rfl⟩
      rw [hme] at hH
      have hmeH := Lib.hid hme
      have hmr := hH.out
      have hPH := Lib.hid (show ∃ v G C, RefP V5.heap.size wr L 0 N v mem V5.heap.size N G C ∧ v = .slice none 0 0 from ⟨.slice none 0 0, fun _ => 0, fun _ => 0, ⟨World.ownsRow_nil _ _ _ _, fun r hr => absurd hr (by omega), hmr, fun r s hr => absurd hr (by omega), fun r hr => absurd hr (by omega)⟩, rfl⟩)
      clear hH hmr hme hlt hk
      have hBV0 := hBV
      go_wp2_with fail
      clear hltd
      go_loopw [12, 13] (fun v i wr => ∃ k : Nat, k ≤ Rn ∧ i = .int .i64 (k : Int) ∧ Hid (∃ G C, RefP V5.heap.size wr L k N v mem V5.heap.size N G C) ∧ Below V5.heap.size V5 wr) (fun _ i _ => Rn - (intOf i).toNat)
      case atStart =>
        obtain ⟨v, G, C, h, rfl⟩ := hPH.out
        exact ⟨0, Nat.zero_le _, rfl, Lib.hid ⟨G, C, h⟩, hBV0⟩
      case round =>
        clear hPH hBV0 hBV
        obtain ⟨k, hk, rfl, hH, hBV⟩ := hrel
        have v1 := (kv.below hBV lv).cell (i := 1) rfl
        by_cases hlt : k < Rn
        case pos =>
          have hltd : decide ((k : Int) < (Rn : Int)) = true := by simp; omega
          obtain ⟨G, C, hP⟩ := hH.out
          have v0 := (kv.below hBV lv).cell (i := 0) rfl
          have hszw := hBV.size
          obtain ⟨va, vc', rfl⟩ := row_slice hP.rr
          clear hH
          go_wp2_with (first
            | (at_make; refine wpList_make_full _ rfl _ _ 27 rfl V5.heap.size 3 i0 (.int .i64 0) 1 Try.underlying27 hi hz0 hz1 .i64 .i64 (L : Int) (L : Int) L rfl rfl (by simp) (by simp) (by rw [hz2]; omega) (by unfold maxLen; omega) hszw ?_; intro X3 hown hgX3); (rw [made_row] at hown; have hcell := fun j u (hu : [srow wr.heap.size L L][j]? = some u) => cell_one_new X3 (srow wr.heap.size L L) 27 j u hu; have hb3 : Below wr.heap.size wr X3 := (Below.refl _ wr).grown hgX3 (Nat.le_refl _) (fun k e => by cases e); have hbA := jb_al (Below.refl _ X3) (.cells #[.slice (some ⟨wr.heap.size, 0, none⟩) L L] 27); have hown8 := row_below hown hbA; have hb8 := hb3.trans (hbA.mono hb3.size); have hP8 := hP.later hb8; have hsz8 : V5.heap.size ≤ (X3.alloc (.cells #[.slice (some ⟨wr.heap.size, 0, none⟩) L L] 27)).heap.size := by have := hb8.size; omega)
            | (at_builtin; refine wpList_append_own_at _ rfl _ _ 86 rfl V5.heap.size 27 j0 (.slice none 0 0) 1 24 Try.underlying86 gi gz0 gz1 gz2 rfl (by decide) (.slice va k vc') k (rowsL k L G C) rfl hP8.rr ⟨X3.heap.size, 0, none⟩ 1 1 [srow wr.heap.size L L] rfl rfl hcell (by simp [Value.oneCell']) (by unfold maxLen; omega) (by omega) hsz8 ?_; intro v' X9 hown9 hg9 _ _))
          obtain ⟨hPn, hbn⟩ := hP.push hb8 (Nat.le_refl _) hown8 hown9 hg9 hszw
          have hBVn := hBV.trans hbn
          have hPnH := Lib.hid (show ∃ G C, RefP V5.heap.size X9 L (k + 1) N v' mem V5.heap.size N G C from ⟨_, _, hPn⟩)
          clear hP hP8 hown hown8 hown9 hg9 hcell hb3 hbA hb8 hPn hbn v0 v1 hgX3
          go_wp2_with fail
          go_roundw
          case rel => exact ⟨k + 1, by omega, by go_num, hPnH, hBVn⟩
          case measure => simp [intOf]; omega
        case neg =>
          have hltd : decide ((k : Int) < (Rn : Int)) = false := by simp; omega
          have hkn : Rn = k := by omega
          subst hkn
          obtain ⟨G, C, hP⟩ := hH.out
          obtain ⟨gr, cr, rfl, hM⟩ := hP.ref (by omega)
          obtain ⟨M0, hM0⟩ : ∃ M0 : MacN, ⟨fun _ _ => 0, mem⟩ = M0 := ⟨_, rfl⟩
          rw [hM0] at hM
          have hM0H := Lib.hid (show ⟨fun _ _ => 0, memN inp ms q⟩ = M0 by rw [hmeH.out]; exact hM0)
          have hregH : Hid (∀ k, RegB L Rn (runM L (ins.take k) M0)) := Lib.hid (fun k => by
            have h2 := (run_bd ⟨(L : Int), (Rn : Int), (N : Int)⟩ (ins.take k) (fun x hx => code_all hcbH.out x (List.mem_of_mem_take hx)) M0 (by rw [← hM0H.out]; intro r hr k hk; show -1152921504606846976 ≤ (0 : Int) ∧ (0 : Int) ≤ 1152921504606846976; omega) (by rw [← hM0H.out]; intro i hi; exact memN_bd (n := q) (fun j hj => (gvn_at hv1H.out (i := j) (by rw [hmH.out]; exact hj)).2.2.2) q (Nat.le_refl _) i)).1
            exact h2)
          have hMH := Lib.hid (show RefAt V5.heap.size wr L Rn N (runM L (ins.take 0) M0) gr V5.heap.size cr N G C from hM)
          clear hH hP hM hM0 hk hlt
          have hBV0 := hBV
          go_wp2_with fail
          clear v1 hltd
          go_loopw [14] (fun i wr => ∃ k : Nat, k ≤ nx ∧ i = .int .i64 (k : Int) ∧ Hid (RefAt V5.heap.size wr L Rn N (runM L (ins.take k) M0) gr V5.heap.size cr N G C) ∧ Below V5.heap.size V5 wr) (fun i _ => nx - (intOf i).toNat)
          case atStart => exact ⟨0, Nat.zero_le _, rfl, hMH, hBV0⟩
          case round =>
            clear hMH hBV0 hBV
            obtain ⟨k, hk, rfl, hH, hBV⟩ := hrel
            have d4 := (kc.below hBV lc).cell (i := 4) rfl
            by_cases hlt : k < nx
            case pos =>
              have hltd : decide ((k : Int) < (nx : Int)) = true := by simp; omega
              have hM := hH.out
              have hlt' : k < ins.length := by have := hnxH.out; omega
              have hval := code_ins hcbH.out k hlt'
              rcases hrx with h0 | ⟨b, o, rfl, hb, hc⟩
              · exfalso; rw [h0] at hlt'; simp at hlt'
              obtain ⟨ia2, ic2, hcell, had⟩ := hc k hlt'
              have c0 : wr.cell? ⟨b, o + k * 12, none⟩ = some (.int .u8 (insAt ins k).op) := (hBV.cell (p := ⟨b, o + k * 12, none⟩) hb).trans (hcell 0 _ rfl)
              have c1 : wr.cell? ⟨b, o + k * 12 + 1, none⟩ = some (.int .i64 (insAt ins k).d) := (hBV.cell (p := ⟨b, o + k * 12 + 1, none⟩) hb).trans (hcell 1 _ rfl)
              have c2 : wr.cell? ⟨b, o + k * 12 + 2, none⟩ = some (.int .i64 (insAt ins k).a) := (hBV.cell (p := ⟨b, o + k * 12 + 2, none⟩) hb).trans (hcell 2 _ rfl)
              have c3 : wr.cell? ⟨b, o + k * 12 + 3, none⟩ = some (.int .i64 (insAt ins k).b) := (hBV.cell (p := ⟨b, o + k * 12 + 3, none⟩) hb).trans (hcell 3 _ rfl)
              have c4 : wr.cell? ⟨b, o + k * 12 + 4, none⟩ = some (.int .i64 (insAt ins k).val) := (hBV.cell (p := ⟨b, o + k * 12 + 4, none⟩) hb).trans (hcell 4 _ rfl)
              have c5 : wr.cell? ⟨b, o + k * 12 + 5, none⟩ = some (.int .i64 (insAt ins k).pt.mul) := (hBV.cell (p := ⟨b, o + k * 12 + 5, none⟩) hb).trans (hcell 5 _ rfl)
              have c6 : wr.cell? ⟨b, o + k * 12 + 6, none⟩ = some (.int .i64 (insAt ins k).pt.add) := (hBV.cell (p := ⟨b, o + k * 12 + 6, none⟩) hb).trans (hcell 6 _ rfl)
              have c7 : wr.cell? ⟨b, o + k * 12 + 7, none⟩ = some (.int .i64 (insAt ins k).pt.div) := (hBV.cell (p := ⟨b, o + k * 12 + 7, none⟩) hb).trans (hcell 7 _ rfl)
              have c8 : wr.cell? ⟨b, o + k * 12 + 8, none⟩ = some (.int .i64 (insAt ins k).pt.lo) := (hBV.cell (p := ⟨b, o + k * 12 + 8, none⟩) hb).trans (hcell 8 _ rfl)
              have c9 : wr.cell? ⟨b, o + k * 12 + 9, none⟩ = some (.int .i64 (insAt ins k).pt.hi) := (hBV.cell (p := ⟨b, o + k * 12 + 9, none⟩) hb).trans (hcell 9 _ rfl)
              have c10 : wr.cell? ⟨b, o + k * 12 + 10, none⟩ = some (.int .u8 (insAt ins k).how) := (hBV.cell (p := ⟨b, o + k * 12 + 10, none⟩) hb).trans (hcell 10 _ rfl)
              have c11 : wr.cell? ⟨b, o + k * 12 + 11, none⟩ = some (.slice ia2 (insAt ins k).ad.length ic2) := (hBV.cell (p := ⟨b, o + k * 12 + 11, none⟩) hb).trans (hcell 11 _ rfl)
              obtain ⟨y, hy⟩ : ∃ y, insAt ins k = y := ⟨_, rfl⟩
              rw [hy] at c0 c1 c2 c3 c4 c5 c6 c7 c8 c9 c10 c11 had hval
              have hyH := Lib.hid hy
              have hvalH := Lib.hid hval
              clear hc hcell hy hH hval
              have hca := carry_any ⟨(L : Int), (Rn : Int), (N : Int)⟩ hvvH.out L Rn N rfl rfl rfl y hvalH.out ia2 ic2 V5.heap.size (runM L (ins.take k) M0) gr V5.heap.size cr N G C wr hM (hregH.out k) (had.below (Nat.le_refl _) hBV) hBV.size
              unfold insv at hca
              have hcaH := Lib.hid hca
              clear hca
              go_wp2_with fail
              refine hcaH.out.mono ?_
              rintro e X7 ⟨⟨vv, rfl⟩, hM3, hb3⟩
              rw [← hyH.out, ← runM_take L ins M0 k hlt'] at hM3
              have hM3H := Lib.hid hM3
              have hB3 := hBV.trans hb3
              clear hM3 hb3 hcaH hM c0 c1 c2 c3 c4 c5 c6 c7 c8 c9 c10 c11 d4 hltd
              go_wp2_with fail
              go_roundw
              case rel => exact ⟨k + 1, by omega, by go_num, hM3H, hB3⟩
              case measure => simp [intOf]; omega
            case neg =>
              have hltd : decide ((k : Int) < (nx : Int)) = false := by simp; omega
              have hkn : nx = k := by omega
              have hM := hH.out
              rw [show ins.take k = ins from List.take_of_length_le (by have := hnxH.out; omega)] at hM
              obtain ⟨M1, hM1⟩ : ∃ M, runM L ins M0 = M := ⟨_, rfl⟩
              rw [hM1] at hM
              have hM1H := Lib.hid hM1
              clear hH hkn hk hM1
              obtain ⟨hw1, hh1, ho1, ho2⟩ := code_out hcbH.out
              simp only at hw1 hh1 ho1 ho2
              have hmb := prod_bd (a := W) (x := H) (m := 16) (n := 16) (by omega) (by omega) (by omega) (by omega) (by omega)
              have hm1 := Int.mul_le_mul hw1.1 hh1.1 (by omega) (by omega)
              obtain ⟨p, hp⟩ : ∃ p : Nat, W * H = (p : Int) := ⟨(W * H).toNat, by omega⟩
              obtain ⟨O, rfl⟩ : ∃ O : Nat, out = (O : Int) := ⟨out.toNat, by omega⟩
              rw [hp] at hmb ho2 hm1
              simp only [Int.reduceMul] at hmb hm1
              have hOp : O + p ≤ N := by omega
              have hp1 : 1 ≤ p := by omega
              have hp2 : p ≤ 256 := by omega
              have hpH := Lib.hid hp
              have hR2 : R = { w := W, h := H, px := outN M1 (O : Int) p, err := 0 } := by
                rw [← hRH.out]
                unfold runS
                rw [hEH.out, if_pos rfl]
                simp only
                rw [hniH.out, hv1H.out, if_pos rfl]
                unfold mac0
                simp only
                rw [hniH.out, hM0H.out]
                show ({ w := W, h := H, px := outN (runM L ins M0) (O : Int) (W.toNat * H.toNat), err := 0 } : ImR) = _
                rw [hM1H.out, show W.toNat * H.toNat = p by have := hpH.out; have h3 : ((W.toNat * H.toNat : Nat) : Int) = W * H := by push_cast; rw [Int.toNat_of_nonneg (by omega), Int.toNat_of_nonneg (by omega)]
                                                            omega]
              subst hR2
              have hMd := hM.later (Below.refl _ wr).drew
              have hS : Below V5.heap.size V5 wr.drew := hBV.drew
              clear hM hBV hmb hm1 ho1 ho2 hp
              go_wp2_with fail
              refine plain_region (fun W' => Below V5.heap.size V5 W') 19 21 (by kernel_rfl) rfl ?_
              simp only [Array.replicate_succ, Array.replicate_zero, List.push_toArray, List.nil_append, List.cons_append]
              obtain ⟨X0, hXX0⟩ : ∃ X : World, wr.drew = X := ⟨_, rfl⟩
              rw [hXX0] at hS hMd ⊢
              clear hXX0
              have FA1 := Lib.hid (fun w' (hS' : (fun W' => Below V5.heap.size V5 W') w') => And.intro ((kc.below hS' lc).cell (i := 0) rfl) (And.intro ((kc.below hS' lc).cell (i := 1) rfl) ((kc.below hS' lc).cell (i := 3) rfl)))
              refine tkz 0 rfl hS (fun w' hS' => by go_simp; rfl) ?_
              simp only [nrz]
              refine tkz 1 rfl hS (fun w' hS' => by obtain ⟨a0, a1, a3⟩ := FA1.out w' hS'; clear hS'; go_simp; rfl) ?_
              simp only [nrz]
              refine tkz 2 rfl hS (fun w' hS' => by go_simp; rfl) ?_
              simp only [nrz]
              refine tkz 3 rfl hS (fun w' hS' => by obtain ⟨a0, a1, a3⟩ := FA1.out w' hS'; clear hS'; go_simp; rfl) ?_
              simp only [nrz]
              refine tkz 5 rfl hS (fun w' hS' => by go_simp; rfl) ?_
              simp only [nrz]
              refine tkz 6 rfl hS (fun w' hS' => by go_simp; rfl) ?_
              simp only [nrz]
              refine tkz 7 rfl hS (fun w' hS' => by obtain ⟨a0, a1, a3⟩ := FA1.out w' hS'; clear hS'; go_simp; rfl) ?_
              simp only [nrz]
              refine tkz 8 rfl hS (fun w' hS' => by go_simp; rfl) ?_
              simp only [nrz]
              refine tkz 9 rfl hS (fun w' hS' => by obtain ⟨a0, a1, a3⟩ := FA1.out w' hS'; clear hS'; go_simp; rfl) ?_
              simp only [nrz]
              refine tkz 10 rfl hS (fun w' hS' => by go_simp; rfl) ?_
              simp only [nrz]
              refine tkz 11 rfl hS (fun w' hS' => by obtain ⟨a0, a1, a3⟩ := FA1.out w' hS'; clear hS'; go_simp; rfl) ?_
              simp only [nrz]
              refine tkz 12 rfl hS (fun w' hS' => by go_simp; rfl) ?_
              simp only [nrz]
              refine tkz 13 rfl hS (fun w' hS' => by obtain ⟨a0, a1, a3⟩ := FA1.out w' hS'; clear hS'; go_simp; rfl) ?_
              simp only [nrz]
              refine tkz 14 (v := .int .i64 (p : Int)) rfl hS (fun w' hS' => ?ey14) ?ez14
              case ey14 =>
                clear hS'
                have hpp := hpH.out
                go_simp
                first
                  | (go_ints; done)
                  | go_num
                  | (go_ints; trivial)
              simp only [nrz]
              refine tkz 15 rfl hS (fun w' hS' => by go_simp; (try go_ints); rfl) ?_
              simp only [nrz]
              refine tkz 16 (v := .slice (some ⟨V5.heap.size, O, none⟩) p (N - O)) rfl hS (fun w' hS' => ?ey16) ?ez16
              case ey16 =>
                clear hS'
                go_simp
                rw [if_pos (by omega), if_pos (by omega), if_neg (by omega), show ((O : Int) + (p : Int)).toNat - O = p by omega]
              simp only [nrz]
              refine step_op 4 (by kernel_rfl) rfl (fun K hK => ?_)
              rw [if_pos (by rfl)]
              go_simp
              have own1 := World.ownsRow_made (e := 3) (size := 1) (base := X0.heap.size) X0 #[] 0 (Nat.le_refl _) (by decide) rfl
              have hbA := jb_al (Below.refl _ X0) (.cells #[] 3)
              obtain ⟨X4, hX4⟩ : ∃ X, X0.alloc (.cells #[] 3) = X := ⟨_, rfl⟩
              rw [hX4] at own1 hbA
              try rw [hX4]
              have hMe := hMd.later hbA
              have hS4 : Below V5.heap.size V5 X4 := hS.trans (hbA.mono hS.size)
              have hsx := hS.size
              have hsx4 := hbA.size
              clear hX4 hbA
              refine hK.out _ _ (fun h => hS4) ?_
              clear hK K
              try simp only [Act.put, nrz]
              refine step_op 17 (by kernel_rfl) rfl (fun K hK => ?_)
              have hnw : ∀ j u, (((List.range p).map fun i => M1.mem (O + i)).map (Value.int .i64))[j]? = some u → X4.cell? ((⟨V5.heap.size, O, none⟩ : Addr).add j) = some u := fun j u hu => by
                rw [List.getElem?_map, Option.map_eq_some_iff] at hu
                obtain ⟨y, hy, rfl⟩ := hu
                rw [List.getElem?_map, Option.map_eq_some_iff] at hy
                obtain ⟨i, hi2, rfl⟩ := hy
                obtain ⟨hi3, rfl⟩ := List.getElem?_eq_some_iff.1 hi2
                rw [addr_add]
                have hi4 : j < p := by simpa using hi3
                have := hMe.cells.2.2 (O + j) (by omega)
                simpa using this
              refine step_append_atP rfl _ _ 27 rfl X0.heap.size 3 i0 (.int .i64 0) 1 8 Try.underlying27 hi hz0 hz1 hz2 rfl (by decide) (.slice (some ⟨X0.heap.size, 0, none⟩) 0 0) 0 [] rfl own1 ⟨V5.heap.size, O, none⟩ p (N - O) (((List.range p).map fun i => M1.mem (O + i)).map (Value.int .i64)) rfl (by simp) hnw (vint_one _) (by unfold maxLen; omega) (by omega) (by omega) ?_
              intro v7 X7 hown7 hg7 hat7
              rw [Nat.zero_add, List.nil_append] at hown7
              obtain ⟨ga, cap, rfl⟩ := jrow_slice hown7
              obtain ⟨g, rfl⟩ := row_someP hown7 hp1
              have hS7 : Below V5.heap.size V5 X7 := hS4.grown hg7 hS4.size (fun j e => by have := (own1.lt j e).1; omega)
              have hrowb : X7.ownsRow w.heap.size 3 1 (.slice (some ⟨g, 0, none⟩) p cap) p ((outN M1 (O : Int) p).map (Value.int .i64)) := jrow_weaken hown7 (by have := hB.size; omega)
              clear hnw hown7 hg7 hat7 own1
              refine hK.out _ _ (fun h => hS7) ?_
              clear hK K
              try simp only [Act.put, nrz]
              refine tkz 18 rfl hS7 (fun w' hS' => by go_simp; rfl) ?_
              simp only [nrz]
              refine step_op 19 (by kernel_rfl) rfl (fun K hK => ?_)
              have kz := k4.below hS7 l4
              obtain ⟨z0, z1, z2⟩ := cz3 kz
              have fz0 := kz.frozen 0
              have fz1 := kz.frozen 1
              have fz2 := kz.frozen 2
              rw [if_pos (by rfl)]
              go_simp
              clear z0 z1 z2 fz0 fz1 fz2
              refine hK.out _ _ (fun h => absurd h (by omega)) ?_
              clear hK K
              try simp only [Act.put, nrz]
              refine step_op 20 (by kernel_rfl) rfl (fun K hK => ?_)
              rw [if_pos (by rfl)]
              go_simp
              refine hK.out _ _ (fun h => absurd h (by omega)) ?_
              clear hK K
              try simp only [Act.put, nrz]
              refine done_ops (by kernel_rfl) ?_
              have kf := put3_blk kz (.int .i64 W) (.int .i64 H) (.slice (some ⟨g, 0, none⟩) p cap)
              have rowf := row_put3b hrowb (kz.not_row (by decide) hrowb) (.int .i64 W) (.int .i64 H) (.slice (some ⟨g, 0, none⟩) p cap)
              have hbf : Below w.heap.size w (put3 X7 (V2.heap.size) (.int .i64 W) (.int .i64 H) (.slice (some ⟨g, 0, none⟩) p cap)) := (hB.trans (hS7.mono hB.size)).trans (put3_below hle4 _ _ _)
              obtain ⟨g0, g1, g2⟩ := cz3 kf
              have hol : (outN M1 (O : Int) p).length = p := by simp [outN]
              clear hS7 hS hMd kz hrowb
              go_wp2_with fail
              exact bodyPost_ret (v := .tuple #[imv W H (some ⟨g, 0, none⟩) p cap, .int .i64 0]) (by simp [results, Try.results17, go_sem, g0, g1, g2]) rfl ⟨⟨_, rfl, (.slice (some ⟨g, 0, none⟩) p cap), rfl, by rw [hol]; exact rowf⟩, hbf⟩
end Go.Proofs.Ytekiemlniegddaa

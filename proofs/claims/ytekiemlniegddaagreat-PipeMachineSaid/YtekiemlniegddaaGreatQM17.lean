/- Contracts and laws (McF, PEx, PAl, PsA, PsV). -/
import Derived.Test.YtekiemlniegddaaGreatQM13
import Derived.Test.YtekiemlniegddaaGreatQM16
import Derived.Test.YtekiemlniegddaaGreatQM6
import Derived.Test.YtekiemlniegddaaGreatQM2
import Derived.Test.YtekiemlniegddaaGreatQM3
import Derived.Test.YtekiemlniegddaaGreatQM10
set_option linter.unusedVariables false
set_option linter.unusedSimpArgs false
namespace Go.Proofs.YtekiemlniegddaaGreat
open Go Go.RowKit Go.Shelf
theorem code_inp {v : VecN} {c : CodeN} (h : codeB v c = true) (k : Nat) (hk : k < c.inp.length) : c.inp[k]?.getD 0 = -1 ∨ (0 ≤ c.inp[k]?.getD 0 ∧ c.inp[k]?.getD 0 ≤ v.mem - c.w * c.h) := by
 unfold codeB at h
 simp only [Bool.and_eq_true, List.all_eq_true, Bool.or_eq_true, decide_eq_true_eq, inR_true] at h
 have := h.2.2.2.2.1 _ (List.getElem_mem hk)
 rw [List.getElem?_eq_getElem hk]
 exact this
theorem code_ins {v : VecN} {c : CodeN} (h : codeB v c = true) (k : Nat) (hk : k < c.ins.length) : insB v (insAt c.ins k) = true := by
 unfold codeB at h
 simp only [Bool.and_eq_true, List.all_eq_true] at h
 unfold insAt
 rw [List.getElem?_eq_getElem hk]
 exact h.2.2.2.2.2 _ (List.getElem_mem hk)
theorem code_all {v : VecN} {c : CodeN} (h : codeB v c = true) : ∀ x ∈ c.ins, insB v x = true := by
 unfold codeB at h
 simp only [Bool.and_eq_true, List.all_eq_true] at h
 exact h.2.2.2.2.2
theorem code_out {v : VecN} {c : CodeN} (h : codeB v c = true) : (1 ≤ c.w ∧ c.w ≤ 16) ∧ (1 ≤ c.h ∧ c.h ≤ 16) ∧ 0 ≤ c.out ∧ c.out ≤ v.mem - c.w * c.h := by
 unfold codeB at h
 simp only [Bool.and_eq_true, inR_true] at h
 exact ⟨h.1.1, h.1.2, h.2.2.2.1.1, h.2.2.2.1.2⟩
theorem gvn_len {ms : List PicN} {n w h : Int} (hg : givenB ms n w h = true) : (ms.length : Int) = n := givenB_len hg
theorem gvn_at {ms : List PicN} {n w h : Int} (hg : givenB ms n w h = true) {i : Nat} (hi : i < ms.length) : (1 ≤ w ∧ w ≤ 16) ∧ (1 ≤ h ∧ h ≤ 16) ∧ ((picAt ms i).px.length : Int) = w * h ∧ allIn (-2147483648) 2147483648 (picAt ms i).px = true := by
 unfold givenB at hg
 simp only [Bool.and_eq_true, List.all_eq_true, decide_eq_true_eq] at hg
 obtain ⟨h1, h2, h3⟩ := hg.2 _ (List.getElem_mem hi)
 obtain ⟨a1, a2, a3, a4⟩ := vld_true h1
 unfold picAt
 rw [List.getElem?_eq_getElem hi]
 rw [h2, h3] at a3
 rw [h2] at a1
 rw [h3] at a2
 exact ⟨a1, a2, a3, a4⟩
theorem ins_store (W : World) (o : Int) (y : InsN) (ia2 : Option Addr) (ic2 : Nat) : (storeCells ⟨W.heap.size, 0, none⟩ [.int .u8 o, .int .i64 y.d, .int .i64 y.a, .int .i64 y.b, .int .i64 y.val, .int .i64 y.pt.mul, .int .i64 y.pt.add, .int .i64 y.pt.div, .int .i64 y.pt.lo, .int .i64 y.pt.hi, .int .u8 y.how, .slice ia2 y.ad.length ic2] 0).run Tryz.prog (W.alloc (.cells #[.int .u8 0, .int .i64 0, .int .i64 0, .int .i64 0, .int .i64 0, .int .i64 0, .int .i64 0, .int .i64 0, .int .i64 0, .int .i64 0, .int .u8 0, .slice none 0 0] 143)) = .ok () (W.alloc (.cells #[.int .u8 o, .int .i64 y.d, .int .i64 y.a, .int .i64 y.b, .int .i64 y.val, .int .i64 y.pt.mul, .int .i64 y.pt.add, .int .i64 y.pt.div, .int .i64 y.pt.lo, .int .i64 y.pt.hi, .int .u8 y.how, .slice ia2 y.ad.length ic2] 143)) :=
 run_storeCells_new (P := Tryz.prog) W 143 #[.int .u8 0, .int .i64 0, .int .i64 0, .int .i64 0, .int .i64 0, .int .i64 0, .int .i64 0, .int .i64 0, .int .i64 0, .int .i64 0, .int .u8 0, .slice none 0 0] #[.int .u8 o, .int .i64 y.d, .int .i64 y.a, .int .i64 y.b, .int .i64 y.val, .int .i64 y.pt.mul, .int .i64 y.pt.add, .int .i64 y.pt.div, .int .i64 y.pt.lo, .int .i64 y.pt.hi, .int .u8 y.how, .slice ia2 y.ad.length ic2] (by kernel_rfl) rfl (by simp [Value.oneCell'])
set_option maxRecDepth 100000 in
set_option maxHeartbeats 16000000 in
theorem Run_any (v : VecN) (C : CodeN) (ia xa : Option Addr) (ic xc : Nat) (hC : CodeIn C) (ms : List PicN) (la : Option Addr) (q lc : Nat) (hm : ms.length = q) (hmm : q ≤ 9223372036854775807) (hpl : ∀ i, (picAt ms i).px.length ≤ 9223372036854775807) (w : World) (hri : Rd w.heap.size w ia C.inp) (hrx : RdCs w.heap.size w xa C.ins) (hrl : RdPs w.heap.size w la ms) :
    Calls Tryz.prog 31 #[vecv v, codev C ia ic xa xc, .slice la q lc] w (RetIm w.heap.size (runS v C ms) w) := by
  have hB : Below w.heap.size w w := Below.refl _ _
  obtain ⟨il0, xl0, hins⟩ := hC
  obtain ⟨R, hR⟩ : ∃ R, runS v C ms = R := ⟨_, rfl⟩
  have hRH := Lib.hid hR
  have hck0 := fun V h1 h2 => CheckCode_any v C ia xa ic xc ⟨il0, xl0, hins⟩ V h1 h2
  obtain ⟨E, hE⟩ : ∃ E, chkS v C = E := ⟨_, rfl⟩
  have hEH := Lib.hid hE
  rw [hE] at hck0
  obtain ⟨W, H, inp, out, ins⟩ := C
  obtain ⟨vl, vr, vm⟩ := v
  unfold vecv codev
  unfold vecv codev at hck0
  simp only at il0 xl0 hri hrx hins hck0 ⊢
  obtain ⟨ni, hni⟩ : ∃ l, inp.length = l := ⟨_, rfl⟩
  obtain ⟨nx, hnx⟩ : ∃ l, ins.length = l := ⟨_, rfl⟩
  have hniH := Lib.hid hni
  have hnxH := Lib.hid hnx
  have hinsH := Lib.hid hins
  have hplH := Lib.hid hpl
  have hmH := Lib.hid hm
  rw [hni] at il0 hck0 ⊢
  rw [hnx] at xl0 hck0 ⊢
  rw [hR]
  have hckH := Lib.hid hck0
  clear hR hE hni hnx hins hpl hm hck0
  obtain ⟨V1, hEV1, hbV1, kv⟩ := newB w 26 #[.int .i64 vl, .int .i64 vr, .int .i64 vm]
  replace hri := later_i hri hbV1
  replace hrx := hrx.later hbV1
  replace hrl := hrl.later hbV1
  replace hB := tmB hB hbV1
  clear hbV1
  obtain ⟨vc0, vc1, vc2⟩ := cz3 kv
  obtain ⟨V2, hEV2, hbV2, kc⟩ := newB V1 43 #[.int .i64 W, .int .i64 H, .slice ia ni ic, .int .i64 out, .slice xa nx xc]
  clear vc0 vc1 vc2
  replace kv := kv.below hbV2 kv.lt
  replace hri := later_i hri hbV2
  replace hrx := hrx.later hbV2
  replace hrl := hrl.later hbV2
  replace hB := tmB hB hbV2
  clear hbV2
  obtain ⟨vc0, vc1, vc2⟩ := cz3 kv
  obtain ⟨c0, c1, c2, c3, c4⟩ := cz5 kc
  have hle4 := hB.size
  obtain ⟨V3, hEV3, hbV3, k4⟩ := newB V2 32 #[.int .i64 0, .int .i64 0, .slice none 0 0]
  clear vc0 vc1 vc2 c0 c1 c2 c3 c4
  replace kv := kv.below hbV3 kv.lt
  replace kc := kc.below hbV3 kc.lt
  replace hri := later_i hri hbV3
  replace hrx := hrx.later hbV3
  replace hrl := hrl.later hbV3
  replace hB := tmB hB hbV3
  clear hbV3
  obtain ⟨vc0, vc1, vc2⟩ := cz3 kv
  obtain ⟨c0, c1, c2, c3, c4⟩ := cz5 kc
  have z0 := k4.cell (i := 0) rfl
  have fz0 := k4.frozen 0
  have z1 := k4.cell (i := 1) rfl
  have fz1 := k4.frozen 1
  have z2 := k4.cell (i := 2) rfl
  have fz2 := k4.frozen 2
  go_enter Tryz.func31, Tryz.ntmps31
  go_wp2_with fail
  clear hEV1 hEV2 hEV3
  refine (hckH.out V3 hri hrx).mono ?_
  rintro e V4 ⟨rfl, hb⟩
  clear vc0 vc1 vc2 c0 c1 c2 c3 c4 z0 z1 z2 fz0 fz1 fz2
  replace kv := kv.below hb kv.lt
  replace kc := kc.below hb kc.lt
  replace k4 := k4.below hb k4.lt
  replace hri := later_i hri hb
  replace hrx := hrx.later hb
  replace hrl := hrl.later hb
  replace hB := tmB hB hb
  clear hb
  obtain ⟨vc0, vc1, vc2⟩ := cz3 kv
  obtain ⟨c0, c1, c2, c3, c4⟩ := cz5 kc
  have z0 := k4.cell (i := 0) rfl
  have fz0 := k4.frozen 0
  have z1 := k4.cell (i := 1) rfl
  have fz1 := k4.frozen 1
  have z2 := k4.cell (i := 2) rfl
  have fz2 := k4.frozen 2
  by_cases hE0 : E = 0
  case neg =>
    have hE1 : (E != 0) = true := by simp [hE0]
    have hE0H := Lib.hid hE0
    clear hE0
    have hR2 : R = noIm E := by rw [← hRH.out]; unfold runS; rw [hEH.out, if_neg hE0H.out]
    subst hR2
    have kf := put3_blk k4 (.int .i64 0) (.int .i64 0) (.slice none 0 0)
    have hbf : Below w.heap.size w (put3 V4 (V2.heap.size) (.int .i64 0) (.int .i64 0) (.slice none 0 0)) := hB.trans (put3_below hle4 _ _ _)
    obtain ⟨g0, g1, g2⟩ := cz3 kf
    go_wp2_with fail
    exact bodyPost_ret (v := .tuple #[imv 0 0 none 0 0, .int .i64 E]) (by simp [results, Tryz.results31, go_sem, g0, g1, g2]) rfl ⟨⟨_, rfl, _, rfl, World.ownsRow_nil _ _ _ _⟩, hbf⟩
  case pos =>
  subst hE0
  obtain ⟨v1, hv1⟩ : ∃ v, givenB ms (ni : Int) W H = v := ⟨_, rfl⟩
  have hv1H := Lib.hid hv1
  clear hv1
  go_wp2_with fail
  have hc := fit_any ms la lc q hmH.out hmm (fun i _ => hplH.out i) (ni : Int) W H V4 hrl
  rw [hv1H.out] at hc
  refine hc.mono ?_
  clear hc
  rintro e V5 ⟨rfl, hb⟩
  clear vc0 vc1 vc2 c0 c1 c2 c3 c4 z0 z1 z2 fz0 fz1 fz2
  replace kv := kv.below hb kv.lt
  replace kc := kc.below hb kc.lt
  replace k4 := k4.below hb k4.lt
  replace hri := later_i hri hb
  replace hrx := hrx.later hb
  replace hrl := hrl.later hb
  replace hB := tmB hB hb
  clear hb
  obtain ⟨vc0, vc1, vc2⟩ := cz3 kv
  obtain ⟨c0, c1, c2, c3, c4⟩ := cz5 kc
  have z0 := k4.cell (i := 0) rfl
  have fz0 := k4.frozen 0
  have z1 := k4.cell (i := 1) rfl
  have fz1 := k4.frozen 1
  have z2 := k4.cell (i := 2) rfl
  have fz2 := k4.frozen 2
  cases v1 with
  | false =>
    have hR2 : R = noIm 2 := by rw [← hRH.out]; unfold runS; rw [hEH.out, if_pos rfl]; simp only; rw [hniH.out, hv1H.out]; rfl
    subst hR2
    have kf := put3_blk k4 (.int .i64 0) (.int .i64 0) (.slice none 0 0)
    have hbf : Below w.heap.size w (put3 V5 (V2.heap.size) (.int .i64 0) (.int .i64 0) (.slice none 0 0)) := hB.trans (put3_below hle4 _ _ _)
    obtain ⟨g0, g1, g2⟩ := cz3 kf
    go_wp2_with fail
    exact bodyPost_ret (v := .tuple #[imv 0 0 none 0 0, .int .i64 2]) (by simp [results, Tryz.results31, go_sem, g0, g1, g2]) rfl ⟨⟨_, rfl, _, rfl, World.ownsRow_nil _ _ _ _⟩, hbf⟩
  | true =>
  have hv0 : vecB ⟨vl, vr, vm⟩ = true := by
    cases h : vecB ⟨vl, vr, vm⟩ with
    | true => rfl
    | false => have := hEH.out; unfold chkS at this; rw [h] at this; cases this
  have hcb : codeB ⟨vl, vr, vm⟩ ⟨W, H, inp, out, ins⟩ = true := by
    cases h : codeB ⟨vl, vr, vm⟩ ⟨W, H, inp, out, ins⟩ with
    | true => rfl
    | false => have := hEH.out; unfold chkS at this; rw [hv0, h] at this; cases this
  have hcbH := Lib.hid hcb
  have hvv : VecIn ⟨vl, vr, vm⟩ := by
    have := hv0
    unfold vecB at this
    simp only [Bool.and_eq_true, inR_true] at this
    show 1 ≤ vl ∧ vl ≤ 16 ∧ 2 ≤ vr ∧ vr ≤ 16 ∧ 1 ≤ vm ∧ vm ≤ 8192
    omega
  have hvvH := Lib.hid hvv
  obtain ⟨q1, q2, q3, q4, q5, q6⟩ := hvv
  simp only at q1 q2 q3 q4 q5 q6
  clear hv0 hcb
  obtain ⟨L, rfl⟩ : ∃ L : Nat, vl = (L : Int) := ⟨vl.toNat, by omega⟩
  obtain ⟨Rn, rfl⟩ : ∃ L : Nat, vr = (L : Int) := ⟨vr.toNat, by omega⟩
  obtain ⟨N, rfl⟩ : ∃ L : Nat, vm = (L : Int) := ⟨vm.toNat, by omega⟩
  have lv := kv.lt
  have lc := kc.lt
  obtain ⟨i0, hi, hz0, hz1, hz2⟩ := info_parts info_num
  obtain ⟨j0, gi, gz0, gz1, gz2⟩ := info_parts info_row
  have hS : Below V5.heap.size V5 V5.drew := (Below.refl _ _).drew
  go_wp2_with fail
  refine plain_region (fun W' => Below V5.heap.size V5 W') 8 8 (by kernel_rfl) rfl ?_
  simp only [Array.replicate_succ, Array.replicate_zero, List.push_toArray, List.nil_append, List.cons_append]
  obtain ⟨X0, hXX0⟩ : ∃ X : World, V5.drew = X := ⟨_, rfl⟩
  rw [hXX0] at hS ⊢
  clear hXX0
  have FA0 := Lib.hid (fun w' (hS' : (fun W' => Below V5.heap.size V5 W') w') => And.intro ((kv.below hS' lv).cell (i := 0) rfl) ((kv.below hS' lv).cell (i := 2) rfl))
  refine tkz 0 rfl hS (fun w' hS' => by go_simp; rfl) ?_
  simp only [nrz]
  refine tkz 1 rfl hS (fun w' hS' => by obtain ⟨y0, y2⟩ := FA0.out w' hS'; clear hS'; go_simp; rfl) ?_
  simp only [nrz]
  refine tkz 2 rfl hS (fun w' hS' => by go_simp; rfl) ?_
  simp only [nrz]
  refine tkz 3 rfl hS (fun w' hS' => by obtain ⟨y0, y2⟩ := FA0.out w' hS'; clear hS'; go_simp; rfl) ?_
  simp only [nrz]
  refine step_op 4 (by kernel_rfl) rfl (fun K hK => ?_)
  refine step_make_fullP rfl _ _ 30 rfl V5.heap.size 3 i0 (.int .i64 0) 1 Tryz.underlying30 hi hz0 hz1 .i64 .i64 N rfl rfl (by rw [hz2]; omega) (by unfold maxLen; omega) hS.size ?_
  intro X4 hown hg4
  have hS4 : Below V5.heap.size V5 X4 := hS.grown hg4 hS.size (fun k e => by cases e)
  rw [made_row] at hown
  obtain ⟨gm, hgm⟩ : ∃ g, X0.heap.size = g := ⟨_, rfl⟩
  rw [hgm] at hown ⊢
  clear hgm hg4
  refine hK.out _ _ (fun h => hS4) ?_
  clear hK K
  try simp only [Act.put, nrz]
  refine tkz 5 rfl hS4 (fun w' hS' => by go_simp; rfl) ?_
  simp only [nrz]
  refine step_op 6 (by kernel_rfl) rfl (fun K hK => ?_)
  rw [if_pos (by rfl)]
  go_simp
  have hbA := jb_al (Below.refl _ X4) (.cells #[.int .i64 (L : Int), .slice none 0 0, .slice (some ⟨gm, 0, none⟩) N N] 151)
  have km := Blk.new X4 151 #[.int .i64 (L : Int), .slice none 0 0, .slice (some ⟨gm, 0, none⟩) N N]
  obtain ⟨bm, hbm⟩ : ∃ b, X4.heap.size = b := ⟨_, rfl⟩
  have hbmB : V5.heap.size ≤ bm := by rw [← hbm]; exact hS4.size
  obtain ⟨X6, hX6⟩ : ∃ X, X4.alloc (.cells #[.int .i64 (L : Int), .slice none 0 0, .slice (some ⟨gm, 0, none⟩) N N] 151) = X := ⟨_, rfl⟩
  rw [hX6] at hbA km ⊢
  rw [hbm] at km ⊢
  have hS6 := hS4.trans (hbA.mono hS4.size)
  have hown6 := row_below hown hbA
  refine hK.out _ _ (fun h => hS6) ?_
  clear hK K
  try simp only [Act.put, nrz]
  refine tkz 7 rfl hS6 (fun w' hS' => by go_simp; rfl) ?_
  simp only [nrz]
  refine done_ops (by kernel_rfl) ?_
  have hP : MacP V5.heap.size X6 bm L 0 N (.slice none 0 0) gm N (fun _ => 0) (fun _ => 0) := ⟨km, World.ownsRow_nil _ _ _ _, fun r hr => absurd hr (by omega), hown6, fun r s hr => absurd hr (by omega), fun r hr => absurd hr (by omega), hbmB⟩
  clear km hbm hX6 hbA hS4 hown hown6 hS
  have y1 := (kv.below hS6 lv).cell (i := 1) rfl
  clear vc0 vc1 vc2 c0 c1 c2 c3 c4 z0 z1 z2 fz0 fz1 fz2
  have hBw := hB
  clear hB
  go_wp2_with fail
  go_loopw [42] (fun i wr => ∃ k : Nat, k ≤ Rn ∧ i = .int .i64 (k : Int) ∧ Hid (∃ v G C, C Rn = 0 ∧ MacP V5.heap.size wr bm L k N v gm N G C) ∧ Below V5.heap.size V5 wr) (fun i _ => Rn - (intOf i).toNat)
  case atStart => exact ⟨0, Nat.zero_le _, rfl, Lib.hid ⟨_, _, _, rfl, hP⟩, hS6⟩
  case round =>
    clear hP hS6 y1
    obtain ⟨k, hk, rfl, hH, hBV⟩ := hrel
    by_cases hlt : k < Rn
    case pos =>
      obtain ⟨v, G, C, hC0, hP⟩ := hH.out
      have hP0 := hP.later (Below.refl _ wr).drew
      have hS : Below V5.heap.size V5 wr.drew ∧ Blk wr.drew bm 151 #[.int .i64 (L : Int), v, .slice (some ⟨gm, 0, none⟩) N N] := ⟨hBV.drew, hP0.m⟩
      have hltd : decide ((k : Int) < (Rn : Int)) = true := by simp; omega
      clear hP hH hBV
      go_wp2_with fail
      refine plain_region (fun W' => Below V5.heap.size V5 W' ∧ Blk W' bm 151 #[.int .i64 (L : Int), v, .slice (some ⟨gm, 0, none⟩) N N]) 12 13 (by kernel_rfl) rfl ?_
      simp only [Array.replicate_succ, Array.replicate_zero, List.push_toArray, List.nil_append, List.cons_append]
      obtain ⟨X0, hXX0⟩ : ∃ X : World, wr.drew = X := ⟨_, rfl⟩
      rw [hXX0] at hS hP0 ⊢
      clear hXX0
      have FA1 := Lib.hid (fun w' (hS' : (fun W' => Below V5.heap.size V5 W' ∧ Blk W' bm 151 #[.int .i64 (L : Int), v, .slice (some ⟨gm, 0, none⟩) N N]) w') => And.intro ((kv.below hS'.1 lv).cell (i := 0) rfl) (hS'.2.cell (i := 1) rfl))
      refine tkz 0 rfl hS (fun w' hS' => by go_simp; rfl) ?_
      simp only [nrz]
      refine tkz 1 rfl hS (fun w' hS' => by go_simp; rfl) ?_
      simp only [nrz]
      refine tkz 2 rfl hS (fun w' hS' => by go_simp; rfl) ?_
      simp only [nrz]
      refine tkz 3 rfl hS (fun w' hS' => by go_simp; rfl) ?_
      simp only [nrz]
      refine tkz 4 rfl hS (fun w' hS' => by obtain ⟨y0, e1⟩ := FA1.out w' hS'; clear hS'; go_simp; rfl) ?_
      simp only [nrz]
      refine tkz 5 rfl hS (fun w' hS' => by go_simp; rfl) ?_
      simp only [nrz]
      refine tkz 6 rfl hS (fun w' hS' => by obtain ⟨y0, e1⟩ := FA1.out w' hS'; clear hS'; go_simp; rfl) ?_
      simp only [nrz]
      refine step_op 7 (by kernel_rfl) rfl (fun K hK => ?_)
      refine step_make_fullP rfl _ _ 30 rfl V5.heap.size 3 i0 (.int .i64 0) 1 Tryz.underlying30 hi hz0 hz1 .i64 .i64 L rfl rfl (by rw [hz2]; omega) (by unfold maxLen; omega) hS.1.size ?_
      intro X7 hown hg7
      have hb7 : Below X0.heap.size X0 X7 := (Below.refl _ _).grown hg7 (Nat.le_refl _) (fun k e => by cases e)
      have hP7 := hP0.later hb7
      rw [made_row] at hown
      have hS7 : Below V5.heap.size V5 X7 ∧ Blk X7 bm 151 #[.int .i64 (L : Int), v, .slice (some ⟨gm, 0, none⟩) N N] := ⟨hS.1.trans (hb7.mono hS.1.size), hP7.m⟩
      obtain ⟨g, hgX⟩ : ∃ g, X0.heap.size = g := ⟨_, rfl⟩
      have hgl : X0.heap.size ≤ g := by omega
      rw [hgX] at hown ⊢
      clear hgX hg7
      refine hK.out _ _ (fun h => hS7) ?_
      clear hK K
      try simp only [Act.put, nrz]
      refine step_op 8 (by kernel_rfl) rfl (fun K hK => ?_)
      rw [if_pos (by rfl)]
      go_simp
      have hbA := jb_al (Below.refl _ X7) (.cells #[.slice (some ⟨g, 0, none⟩) L L] 30)
      have hcell := fun j u (hu : [srow g L L][j]? = some u) => cell_one_new X7 (srow g L L) 30 j u hu
      have hown8 := row_below hown hbA
      have hP8 := hP7.later hbA
      have hS8 : Below V5.heap.size V5 (X7.alloc (.cells #[.slice (some ⟨g, 0, none⟩) L L] 30)) ∧ Blk (X7.alloc (.cells #[.slice (some ⟨g, 0, none⟩) L L] 30)) bm 151 #[.int .i64 (L : Int), v, .slice (some ⟨gm, 0, none⟩) N N] := ⟨hS7.1.trans (hbA.mono hS7.1.size), hP8.m⟩
      have hb8 := hb7.trans (hbA.mono hb7.size)
      clear hbA hP7 hown
      refine hK.out _ _ (fun h => hS8) ?_
      clear hK K
      try simp only [Act.put, nrz]
      refine step_op 9 (by kernel_rfl) rfl (fun K hK => ?_)
      refine step_append_atP rfl (.tmp 48) (.tmp 52) 93 rfl V5.heap.size 30 j0 (.slice none 0 0) 1 24 Tryz.underlying93 gi gz0 gz1 gz2 rfl (by decide) v k (rowsL k L G C) rfl hP8.rr ⟨X7.heap.size, 0, none⟩ 1 1 [srow g L L] rfl rfl hcell (by simp [Value.oneCell']) (by unfold maxLen; omega) (by omega) hS8.1.size ?_
      intro v' X9 hown9 hg9 hat9
      have hS9 : Below V5.heap.size V5 X9 ∧ Blk X9 bm 151 #[.int .i64 (L : Int), v, .slice (some ⟨gm, 0, none⟩) N N] := ⟨hS8.1.grown hg9 hS8.1.size (fun j e => (hP8.rr.lt j e).1), hP8.m.kept hg9 (hP8.m.not_row (by decide) hP8.rr)⟩
      obtain ⟨hPn, hbn⟩ := hP0.push hb8 hgl hown8 hown9 hg9 hat9 hS.1.size
      have hBVn := hS.1.trans hbn
      obtain ⟨va', vc', rfl⟩ := row_slice hown9
      clear hP8 hown8 hg9 hat9 hown9 hcell hP0 hb7 hb8 hbn hS7 hS8
      refine hK.out _ _ (fun h => hS9) ?_
      clear hK K
      try simp only [Act.put, nrz]
      refine step_op 10 (by kernel_rfl) rfl (fun K hK => ?_)
      rw [if_pos (by rfl)]
      go_simp
      refine hK.out _ _ (fun h => hS9) ?_
      clear hK K
      try simp only [Act.put, nrz]
      refine tkz 11 rfl hS9 (fun w' hS' => by go_simp; rfl) ?_
      simp only [nrz]
      refine step_op 12 (by kernel_rfl) rfl (fun K hK => ?_)
      have e1 := hS9.2.cell (i := 1) rfl
      have f1 := hS9.2.frozen 1
      rw [if_pos (by rfl)]
      go_simp
      clear e1 f1
      refine hK.out _ _ (fun h => absurd h (by omega)) ?_
      clear hK K
      try simp only [Act.put, nrz]
      refine done_ops (by kernel_rfl) ?_
      clear hS9 hS hgl
      go_wp2_with fail
      go_roundw
      case rel => exact ⟨k + 1, by omega, by go_num, Lib.hid ⟨_, _, fun r => if r = k then L else C r, by show (if Rn = k then L else C Rn) = 0; rw [if_neg (by omega)]; exact hC0, hPn⟩, hBVn⟩
      case measure => simp [intOf]; omega
    case neg =>
      have hltd : decide ((k : Int) < (Rn : Int)) = false := by simp; omega
      have hkR : Rn = k := by omega
      subst hkR
      obtain ⟨v, G, C, hC0, hP⟩ := hH.out
      obtain ⟨gr, cr, rfl, hM⟩ := hP.mac (by omega) hC0
      have y2 := (kc.below hBV lc).cell (i := 2) rfl
      clear hP hH hk hlt hltd
      have hBW := hBV
      go_wp2_with fail
      clear y2
      go_loopw [60] (fun i wr => ∃ k : Nat, k ≤ ni ∧ i = .int .i64 (k : Int) ∧ Hid (MacAt V5.heap.size wr bm L Rn N ⟨fun _ _ => 0, memN inp ms k⟩ gr gm cr N G C) ∧ Below V5.heap.size V5 wr) (fun i _ => ni - (intOf i).toNat)
      case atStart => exact ⟨0, Nat.zero_le _, rfl, Lib.hid hM, hBW⟩
      case round =>
        clear hM hBW hBV
        obtain ⟨k, hk, rfl, hH, hBV⟩ := hrel
        by_cases hlt : k < ni
        case pos =>
          have hM := hH.out
          have hltd : decide ((k : Int) < (ni : Int)) = true := by simp; omega
          obtain ⟨at_, hat⟩ : ∃ x, inp[k]?.getD 0 = x := ⟨_, rfl⟩
          have hatH := Lib.hid hat
          have hlt' : k < inp.length := by have := hniH.out; omega
          have hin := code_inp hcbH.out k hlt'
          simp only [hat] at hin
          rcases hri with h0 | ⟨b, o, rfl, hb, hc⟩
          · exfalso; rw [h0] at hlt'; simp at hlt'
          have c0 := (hBV.cell (p := ⟨b, o + k, none⟩) hb).trans (hc k hlt')
          rw [hat] at c0
          clear hat hc hH
          by_cases h0 : 0 ≤ at_
          case neg =>
            have h0d : decide (0 ≤ at_) = false := by simp; omega
            have hmem : memN inp ms k = memN inp ms (k + 1) := by
              show _ = putImg (inp[k]?.getD 0) (picAt ms k).px (memN inp ms k)
              funext i
              unfold putImg
              rw [hatH.out, if_neg (by omega)]
            rw [hmem] at hM
            have hMH := Lib.hid hM
            clear hmem hM
            go_wp2_with fail
            go_roundw
            case rel => exact ⟨k + 1, by omega, by go_num, hMH, hBV⟩
            case measure => simp [intOf]; omega
          case pos =>
            have h0d : decide (0 ≤ at_) = true := by simp; omega
            obtain ⟨A, rfl⟩ : ∃ A : Nat, at_ = (A : Int) := ⟨at_.toNat, by omega⟩
            have hq := gvn_len hv1H.out
            rw [hmH.out] at hq
            have hkq : k < q := by omega
            obtain ⟨g1, g2, g3, g4⟩ := gvn_at hv1H.out (i := k) (by rw [hmH.out]; exact hkq)
            rcases hrl with h1 | ⟨pb, po, rfl, hpb, hpc⟩
            · exfalso; have := hmH.out; rw [h1] at this; simp at this; omega
            obtain ⟨pa, pc, p0, p1, p2, p3, p4⟩ := hpc k (by rw [hmH.out]; exact hkq)
            obtain ⟨l, hl⟩ : ∃ l, (picAt ms k).px.length = l := ⟨_, rfl⟩
            rw [hl] at p2 g3
            have hlH := Lib.hid hl
            have hl1 : 1 ≤ l := by
              have := prod_bd (a := W) (x := H) (m := 16) (n := 16) (by omega) (by omega) (by omega) (by omega) (by omega)
              have h2 := Int.mul_le_mul g1.1 g2.1 (by omega) (by omega)
              omega
            rcases p3 with h1 | ⟨xb, xo, rfl, hxb, hxc⟩
            · exfalso; rw [h1] at hl; simp at hl; omega
            have hAl : A + l ≤ N := by
              rcases hin with h1 | h1
              · omega
              · have := h1.2; rw [← g3] at this; omega
            clear hl hpc p0 p1 p4 hin
            have hM0 := hM.later (Below.refl _ wr).drew
            have hS : Below V5.heap.size V5 wr.drew ∧ Blk wr.drew bm 151 #[.int .i64 (L : Int), (.slice (some ⟨gr, 0, none⟩) Rn cr), .slice (some ⟨gm, 0, none⟩) N N] := ⟨hBV.drew, hM0.m⟩
            clear hM
            go_wp2_with fail
            refine plain_region (fun W' => Below V5.heap.size V5 W' ∧ Blk W' bm 151 #[.int .i64 (L : Int), (.slice (some ⟨gr, 0, none⟩) Rn cr), .slice (some ⟨gm, 0, none⟩) N N]) 12 12 (by kernel_rfl) rfl ?_
            simp only [Array.replicate_succ, Array.replicate_zero, List.push_toArray, List.nil_append, List.cons_append]
            obtain ⟨X0, hXX0⟩ : ∃ X : World, wr.drew = X := ⟨_, rfl⟩
            rw [hXX0] at hS hM0 ⊢
            clear hXX0
            have FA2 := Lib.hid (fun w' (hS' : (fun W' => Below V5.heap.size V5 W' ∧ Blk W' bm 151 #[.int .i64 (L : Int), (.slice (some ⟨gr, 0, none⟩) Rn cr), .slice (some ⟨gm, 0, none⟩) N N]) w') => And.intro (hS'.2.cell (i := 2) rfl) ((hS'.1.cell (p := ⟨pb, po + k * 3 + 2, none⟩) hpb).trans p2))
            refine tkz 0 rfl hS (fun w' hS' => by go_simp; rfl) ?_
            simp only [nrz]
            refine tkz 1 rfl hS (fun w' hS' => by go_simp; rfl) ?_
            simp only [nrz]
            refine tkz 2 rfl hS (fun w' hS' => by go_simp; rfl) ?_
            simp only [nrz]
            refine tkz 3 rfl hS (fun w' hS' => by obtain ⟨e2, y2⟩ := FA2.out w' hS'; clear hS'; go_simp; rfl) ?_
            simp only [nrz]
            refine tkz 4 rfl hS (fun w' hS' => by go_simp; rfl) ?_
            simp only [nrz]
            refine tkz 5 (v := .slice (some ⟨gm, A, none⟩) (N - A) (N - A)) rfl hS (fun w' hS' => ?cy5) ?cz5
            case cy5 =>
              clear hS'
              go_simp
              rw [if_pos (by omega), if_neg (by omega)]
            simp only [nrz]
            refine tkz 6 rfl hS (fun w' hS' => by go_simp; rfl) ?_
            simp only [nrz]
            refine tkz 7 rfl hS (fun w' hS' => by go_simp; rfl) ?_
            simp only [nrz]
            refine tkz 8 (v := ?cv8) rfl hS (fun w' hS' => ?cy8) ?cz8
            case cy8 =>
              go_simp
              try go_ints
              first
              | rfl
              | (rw [if_pos (by omega)]; done)
              | rw [if_pos ⟨by omega, by omega⟩]
            simp only [nrz]
            refine tkz 9 rfl hS (fun w' hS' => by go_simp; rfl) ?_
            simp only [nrz]
            refine tkz 10 rfl hS (fun w' hS' => by obtain ⟨e2, y2⟩ := FA2.out w' hS'; clear hS'; go_simp; rfl) ?_
            simp only [nrz]
            refine step_op 11 (by kernel_rfl) rfl (fun K hK => ?_)
            have hcs : ∀ (j : Nat) (u : Value), ((picAt ms k).px.map (Value.int .i64))[j]? = some u → X0.cell? ((⟨xb, xo, none⟩ : Addr).add j) = some u := fun j u hu => by
              rw [List.getElem?_map, Option.map_eq_some_iff] at hu
              obtain ⟨y, hy, rfl⟩ := hu
              have hj : j < (picAt ms k).px.length := (List.getElem?_eq_some_iff.1 hy).1
              have := hxc j hj
              rw [hy] at this
              rw [addr_add]
              exact (hS.1.cell (p := ⟨xb, xo + j, none⟩) hxb).trans this
            have hrun := run_copy_row (P := Tryz.prog) X0 30 30 3 3 gm A (N - A) (N - A) ⟨xb, xo, none⟩ l pc _ _ ((picAt ms k).px.map (Value.int .i64)) Tryz.underlying30 (by kernel_rfl) (row_whole hM0.mm) (by rw [List.length_map, hlH.out]; show l = min l (N - A); omega) hcs (by rw [List.length_map, hlH.out]; simp [intL_len]; omega) (by simp [Value.oneCell'])
            obtain ⟨hMn, hbn⟩ := hM0.copied (o := A) (xs := (picAt ms k).px) (by rw [hlH.out]; exact hAl) (by omega) hS.1.size
            rw [List.append_assoc, List.length_map] at hMn hbn
            have hBVn := hS.1.trans hbn
            rw [if_pos (by rfl)]
            go_simp
            refine hK.out _ _ (fun h => ⟨hBVn, hMn.m⟩) ?_
            clear hK K
            try simp only [Act.put, nrz]
            refine done_ops (by kernel_rfl) ?_
            have hmem : putImg (A : Int) (picAt ms k).px (memN inp ms k) = memN inp ms (k + 1) := by
              show _ = putImg (inp[k]?.getD 0) (picAt ms k).px (memN inp ms k)
              rw [hatH.out]
            simp only at hMn
            rw [hmem] at hMn
            have hMH := Lib.hid hMn
            clear hmem hMn hM0 hS hbn hrun hcs hxc p2
            go_wp2_with fail
            go_roundw
            case rel => exact ⟨k + 1, by omega, by go_num, hMH, hBVn⟩
            case measure => simp [intOf]; omega
        case neg =>
          have hltd : decide ((k : Int) < (ni : Int)) = false := by simp; omega
          have hkn : ni = k := by omega
          obtain ⟨M0, hM0⟩ : ∃ M0 : MacN, ⟨fun _ _ => 0, memN inp ms k⟩ = M0 := ⟨_, rfl⟩
          have hM := hH.out
          rw [hM0] at hM
          have hM0H := Lib.hid (show ⟨fun _ _ => 0, memN inp ms ni⟩ = M0 by rw [hkn]; exact hM0)
          clear hH hM0
          have hregH : Hid (∀ k, RegB L Rn (runM L (ins.take k) M0)) := Lib.hid (fun k => by
            have hq := gvn_len hv1H.out
            have h2 := (run_bd ⟨(L : Int), (Rn : Int), (N : Int)⟩ (ins.take k) (fun x hx => code_all hcbH.out x (List.mem_of_mem_take hx)) M0 (by rw [← hM0H.out]; intro r hr k hk; show -1152921504606846976 ≤ (0 : Int) ∧ (0 : Int) ≤ 1152921504606846976; omega) (by rw [← hM0H.out]; intro i hi; exact memN_bd (n := ni) (fun j hj => (gvn_at hv1H.out (i := j) (by omega)).2.2.2) ni (Nat.le_refl _) i)).1
            exact h2)
          go_upto_region 17 with fail
          clear hltd hlt hk hkn
          refine wp_region_lit ?_
          refine wpList_callAny rfl _ rfl 73 #[] (by kernel_rfl) _ (table_any wr) ?_
          rintro e X0 ⟨rfl, hb⟩
          refine ⟨_, rfl, ?_⟩
          refine Go.Great.wpList_allocTo rfl _ rfl (.pointer (some ⟨X0.heap.size, 0, none⟩)) (.cells zerC 139) (by kernel_rfl) ?_
          refine wpList_store_row rfl 139 _ _ rfl X0.heap.size tabC rfl (by kernel_rfl) 139 zerC (heap_alloc_last X0 _) (by kernel_rfl) rfl tabC_one ?_
          rw [World.setRow_alloc_new]
          refine wpList_nil ?_
          have kT := Blk.new X0 139 tabC
          have hbT1 := hb.size
          replace hb : Below wr.heap.size wr (X0.alloc (.cells tabC 139)) := jb_al hb _
          have hMg := (hM.later hb).guest kT
          obtain ⟨X1, hX1⟩ : ∃ X, X0.alloc (.cells tabC 139) = X := ⟨_, rfl⟩
          obtain ⟨bT, hbT⟩ : ∃ b, X0.heap.size = b := ⟨_, rfl⟩
          rw [hX1] at hb hMg ⊢
          rw [hbT] at hMg hbT1 ⊢
          have hBT := hBV.trans (hb.mono hBV.size)
          have hbT0 : bT ≠ 0 := by have := hBV.size; omega
          have hMgH : Hid (∃ G C, C Rn = bT ∧ MacAt V5.heap.size X1 bm L Rn N (runM L (ins.take 0) M0) gr gm cr N G C) := Lib.hid ⟨_, fun r => if r = Rn then bT else C r, by show (if Rn = Rn then bT else C Rn) = bT; rw [if_pos rfl], hMg⟩
          rename_i Q' K hK
          refine hK _ _ ?_
          clear hK K kT hX1 hbT hM hMg hb hBV hbT1
          have y4 := (kc.below hBT lc).cell (i := 4) rfl
          go_wp2_with fail
          clear y4
          go_loopw [84] (fun i wr => ∃ k : Nat, k ≤ nx ∧ i = .int .i64 (k : Int) ∧ Hid (∃ G C, C Rn = bT ∧ MacAt V5.heap.size wr bm L Rn N (runM L (ins.take k) M0) gr gm cr N G C) ∧ Below V5.heap.size V5 wr) (fun i _ => nx - (intOf i).toNat)
          case atStart => exact ⟨0, Nat.zero_le _, rfl, hMgH, hBT⟩
          case round =>
            clear hMgH hBT
            obtain ⟨k, hk, rfl, hH, hBV⟩ := hrel
            by_cases hlt : k < nx
            case pos =>
              have hltd : decide ((k : Int) < (nx : Int)) = true := by simp; omega
              obtain ⟨G2, C2, hC2, hM⟩ := hH.out
              have hlt' : k < ins.length := by have := hnxH.out; omega
              have hval := code_ins hcbH.out k hlt'
              rcases hrx with h0 | ⟨b, o, rfl, hb, hc⟩
              · exfalso; rw [h0] at hlt'; simp at hlt'
              obtain ⟨ia2, ic2, hcell, had⟩ := hc k hlt'
              have c0 : wr.cell? ⟨b, o + k * 12, none⟩ = some (.int .u8 (insAt ins k).op) := (hBV.cell (p := ⟨b, o + k * 12, none⟩) hb).trans (hcell 0 _ rfl)
              have c1 : wr.cell? ⟨b, o + k * 12 + 1, none⟩ = some (.int .i64 (insAt ins k).d) := (hBV.cell (p := ⟨b, o + k * 12 + 1, none⟩) hb).trans (hcell 1 _ rfl)
              have c2 : wr.cell? ⟨b, o + k * 12 + 2, none⟩ = some (.int .i64 (insAt ins k).a) := (hBV.cell (p := ⟨b, o + k * 12 + 2, none⟩) hb).trans (hcell 2 _ rfl)
              have c3 : wr.cell? ⟨b, o + k * 12 + 3, none⟩ = some (.int .i64 (insAt ins k).b) := (hBV.cell (p := ⟨b, o + k * 12 + 3, none⟩) hb).trans (hcell 3 _ rfl)
              have c4 : wr.cell? ⟨b, o + k * 12 + 4, none⟩ = some (.int .i64 (insAt ins k).val) := (hBV.cell (p := ⟨b, o + k * 12 + 4, none⟩) hb).trans (hcell 4 _ rfl)
              have c5 : wr.cell? ⟨b, o + k * 12 + 5, none⟩ = some (.int .i64 (insAt ins k).pt.mul) := (hBV.cell (p := ⟨b, o + k * 12 + 5, none⟩) hb).trans (hcell 5 _ rfl)
              have c6 : wr.cell? ⟨b, o + k * 12 + 6, none⟩ = some (.int .i64 (insAt ins k).pt.add) := (hBV.cell (p := ⟨b, o + k * 12 + 6, none⟩) hb).trans (hcell 6 _ rfl)
              have c7 : wr.cell? ⟨b, o + k * 12 + 7, none⟩ = some (.int .i64 (insAt ins k).pt.div) := (hBV.cell (p := ⟨b, o + k * 12 + 7, none⟩) hb).trans (hcell 7 _ rfl)
              have c8 : wr.cell? ⟨b, o + k * 12 + 8, none⟩ = some (.int .i64 (insAt ins k).pt.lo) := (hBV.cell (p := ⟨b, o + k * 12 + 8, none⟩) hb).trans (hcell 8 _ rfl)
              have c9 : wr.cell? ⟨b, o + k * 12 + 9, none⟩ = some (.int .i64 (insAt ins k).pt.hi) := (hBV.cell (p := ⟨b, o + k * 12 + 9, none⟩) hb).trans (hcell 9 _ rfl)
              have c10 : wr.cell? ⟨b, o + k * 12 + 10, none⟩ = some (.int .u8 (insAt ins k).how) := (hBV.cell (p := ⟨b, o + k * 12 + 10, none⟩) hb).trans (hcell 10 _ rfl)
              have c11 : wr.cell? ⟨b, o + k * 12 + 11, none⟩ = some (.slice ia2 (insAt ins k).ad.length ic2) := (hBV.cell (p := ⟨b, o + k * 12 + 11, none⟩) hb).trans (hcell 11 _ rfl)
              obtain ⟨y, hy⟩ : ∃ y, insAt ins k = y := ⟨_, rfl⟩
              rw [hy] at c0 c1 c2 c3 c4 c5 c6 c7 c8 c9 c10 c11 had hval
              have hyH := Lib.hid hy
              obtain ⟨ko, hko⟩ : ∃ ko : Nat, y.op = (ko : Int) := ⟨y.op.toNat, by have := ins_op hval; omega⟩
              have hk1 : 1 ≤ ko := by have := ins_op hval; omega
              have hk7 : ko < 7 := by have := ins_op hval; omega
              rw [hko] at c0
              have hvalH := Lib.hid hval
              clear hc hcell hy hH hval
              have hst := ins_store wr (ko : Int) y ia2 ic2
              have kxn := Blk.new wr 143 #[.int .u8 (ko : Int), .int .i64 y.d, .int .i64 y.a, .int .i64 y.b, .int .i64 y.val, .int .i64 y.pt.mul, .int .i64 y.pt.add, .int .i64 y.pt.div, .int .i64 y.pt.lo, .int .i64 y.pt.hi, .int .u8 y.how, .slice ia2 y.ad.length ic2]
              have hbA := jb_al (Below.refl _ wr) (.cells #[.int .u8 (ko : Int), .int .i64 y.d, .int .i64 y.a, .int .i64 y.b, .int .i64 y.val, .int .i64 y.pt.mul, .int .i64 y.pt.add, .int .i64 y.pt.div, .int .i64 y.pt.lo, .int .i64 y.pt.hi, .int .u8 y.how, .slice ia2 y.ad.length ic2] 143)
              have hMA := hM.later hbA
              have hBA := hBV.trans (hbA.mono hBV.size)
              go_wp2_with fail
              clear hst c0 c1 c2 c3 c4 c5 c6 c7 c8 c9 c10 c11 hltd hM hBV
              obtain ⟨wA, hwA⟩ : ∃ X, wr.alloc (.cells #[.int .u8 (ko : Int), .int .i64 y.d, .int .i64 y.a, .int .i64 y.b, .int .i64 y.val, .int .i64 y.pt.mul, .int .i64 y.pt.add, .int .i64 y.pt.div, .int .i64 y.pt.lo, .int .i64 y.pt.hi, .int .u8 y.how, .slice ia2 y.ad.length ic2] 143) = X := ⟨_, rfl⟩
              obtain ⟨bx, hbx⟩ : ∃ b, wr.heap.size = b := ⟨_, rfl⟩
              rw [hwA] at kxn hMA hBA hbA ⊢
              rw [hbx] at kxn ⊢
              clear hwA hbx hbA
              have kT := hMA.gs (by rw [hC2]; exact hbT0)
              rw [hC2] at kT
              have tf : tabC[ko * 6 + 5]? = some (.func (.func (doF ko)) #[] #[]) := by rw [← do_fn hk1 hk7]; exact (tab_at hk7).2.2.2.2.2
              have hMd := hMA.later (Below.refl _ wA).drew
              have hBd := hBA.drew
              have hS : Below wA.heap.size wA wA.drew := (Below.refl _ _).drew
              have eg := enters_do hk1 hk7
              clear hMA hBA
              refine plain_region (fun W' => Below wA.heap.size wA W') 7 8 (by kernel_rfl) rfl ?_
              simp only [Array.replicate_succ, Array.replicate_zero, List.push_toArray, List.nil_append, List.cons_append]
              obtain ⟨X0, hXX0⟩ : ∃ X : World, wA.drew = X := ⟨_, rfl⟩
              rw [hXX0] at hS hMd hBd ⊢
              clear hXX0
              have FA3 := Lib.hid (fun w' (hS' : (fun W' => Below wA.heap.size wA W') w') => And.intro (cz12 (kxn.below hS' kxn.lt)) ((kT.below hS' kT.lt).cell tf))
              refine tkz 5 rfl hS (fun w' hS' => by go_simp; rfl) ?_
              simp only [nrz]
              refine tkz 6 rfl hS (fun w' hS' => by obtain ⟨⟨x0, x1, x2, x3, x4, x5, x6, x7, x8, x9, x10, x11⟩, uT⟩ := FA3.out w' hS'; clear hS'; go_simp; rfl) ?_
              simp only [nrz]
              refine step_op 0 (by kernel_rfl) rfl (fun K hK => ?_)
              rw [if_pos (by rfl)]
              go_simp
              refine hK.out _ _ (fun h => hS) ?_
              clear hK K
              try simp only [Act.put, nrz]
              refine step_op 1 (by kernel_rfl) rfl (fun K hK => ?_)
              have x0 := (kxn.below hS kxn.lt).cell (i := 0) rfl
              rw [if_pos (by rfl)]
              go_simp
              clear x0
              refine hK.out _ _ (fun h => hS) ?_
              clear hK K
              try simp only [Act.put, nrz]
              refine step_op 2 (by kernel_rfl) rfl (fun K hK => ?_)
              rw [if_pos (by rfl)]
              go_simp
              try go_ints
              rw [if_pos (by omega)]
              refine hK.out _ _ (fun h => hS) ?_
              clear hK K
              try simp only [Act.put, nrz]
              refine step_op 3 (by kernel_rfl) rfl (fun K hK => ?_)
              rw [if_pos (by rfl)]
              go_simp
              refine hK.out _ _ (fun h => hS) ?_
              clear hK K
              try simp only [Act.put, nrz]
              refine tkz 4 rfl hS (fun w' hS' => by obtain ⟨⟨x0, x1, x2, x3, x4, x5, x6, x7, x8, x9, x10, x11⟩, uT⟩ := FA3.out w' hS'; clear hS'; go_simp; rfl) ?_
              simp only [nrz]
              refine step_op 7 (by kernel_rfl) rfl (fun K hK => ?_)
              have hdo := do_any ⟨(L : Int), (Rn : Int), (N : Int)⟩ hvvH.out L Rn N rfl rfl rfl y hvalH.out ko hko ia2 ic2 V5.heap.size bm (runM L (ins.take k) M0) gr gm cr N G2 C2 X0 hMd (hregH.out k) (had.below (Nat.le_refl _) hBd) hBd.size
              unfold insv at hdo
              rw [hko] at hdo
              rw [if_pos (by rfl)]
              go_simp
              refine hdo.mono ?_
              clear hdo
              rintro e X7 ⟨⟨vv, rfl⟩, G3, C3, hC3, hM3, hb3⟩
              have hB3 := hBd.trans hb3
              refine hK.out _ _ (fun h => absurd h (by omega)) ?_
              clear hK K
              try simp only [Act.put, nrz]
              refine done_ops (by kernel_rfl) ?_
              rw [← hyH.out, ← runM_take L ins M0 k hlt'] at hM3
              have hM3H : Hid (∃ G C, C Rn = bT ∧ MacAt V5.heap.size X7 bm L Rn N (runM L (ins.take (k + 1)) M0) gr gm cr N G C) := Lib.hid ⟨G3, C3, hC3.trans hC2, hM3⟩
              clear hM3 hMd hBd hS kT kxn tf eg hb3 had
              go_wp2_with fail
              go_roundw
              case rel => exact ⟨k + 1, by omega, by go_num, hM3H, hB3⟩
              case measure => simp [intOf]; omega
            case neg =>
              have hltd : decide ((k : Int) < (nx : Int)) = false := by simp; omega
              have hkn : nx = k := by omega
              obtain ⟨G2, C2, hC2, hM⟩ := hH.out
              rw [show ins.take k = ins from List.take_of_length_le (by have := hnxH.out; omega)] at hM
              obtain ⟨M1, hM1⟩ : ∃ M, runM L ins M0 = M := ⟨_, rfl⟩
              rw [hM1] at hM
              have hM1H := Lib.hid hM1
              clear hH hkn hk hM1
              obtain ⟨hw1, hh1, ho1, ho2⟩ := code_out hcbH.out
              simp only at hw1 hh1 ho1 ho2
              have hmb := prod_bd (a := W) (x := H) (m := 16) (n := 16) (by omega) (by omega) (by omega) (by omega) (by omega)
              have hm1 := Int.mul_le_mul hw1.1 hh1.1 (by omega) (by omega)
              obtain ⟨p, hp⟩ : ∃ p : Nat, W * H = (p : Int) := ⟨(W * H).toNat, by omega⟩
              obtain ⟨O, rfl⟩ : ∃ O : Nat, out = (O : Int) := ⟨out.toNat, by omega⟩
              rw [hp] at hmb ho2 hm1
              simp only [Int.reduceMul] at hmb hm1
              have hOp : O + p ≤ N := by omega
              have hp1 : 1 ≤ p := by omega
              have hp2 : p ≤ 256 := by omega
              have hpH := Lib.hid hp
              have hR2 : R = { w := W, h := H, px := outN M1 (O : Int) p, err := 0 } := by
                rw [← hRH.out]
                unfold runS
                rw [hEH.out, if_pos rfl]
                simp only
                rw [hniH.out, hv1H.out, if_pos rfl]
                unfold mac0
                simp only
                rw [hniH.out, hM0H.out]
                show ({ w := W, h := H, px := outN (runM L ins M0) (O : Int) (W.toNat * H.toNat), err := 0 } : ImR) = _
                rw [hM1H.out, show W.toNat * H.toNat = p by have := hpH.out; have h3 : ((W.toNat * H.toNat : Nat) : Int) = W * H := by push_cast; rw [Int.toNat_of_nonneg (by omega), Int.toNat_of_nonneg (by omega)]
                                                            omega]
              subst hR2
              have hMd := hM.later (Below.refl _ wr).drew
              have hS : Below V5.heap.size V5 wr.drew ∧ Blk wr.drew bm 151 #[.int .i64 (L : Int), (.slice (some ⟨gr, 0, none⟩) Rn cr), .slice (some ⟨gm, 0, none⟩) N N] := ⟨hBV.drew, hMd.m⟩
              have l4 := k4.lt
              clear hM hBV hmb hm1 ho1 ho2 hp
              go_wp2_with fail
              refine plain_region (fun W' => Below V5.heap.size V5 W' ∧ Blk W' bm 151 #[.int .i64 (L : Int), (.slice (some ⟨gr, 0, none⟩) Rn cr), .slice (some ⟨gm, 0, none⟩) N N]) 19 21 (by kernel_rfl) rfl ?_
              simp only [Array.replicate_succ, Array.replicate_zero, List.push_toArray, List.nil_append, List.cons_append]
              obtain ⟨X0, hXX0⟩ : ∃ X : World, wr.drew = X := ⟨_, rfl⟩
              rw [hXX0] at hS hMd ⊢
              clear hXX0
              have FA4 := Lib.hid (fun w' (hS' : (fun W' => Below V5.heap.size V5 W' ∧ Blk W' bm 151 #[.int .i64 (L : Int), (.slice (some ⟨gr, 0, none⟩) Rn cr), .slice (some ⟨gm, 0, none⟩) N N]) w') => And.intro (hS'.2.cell (i := 2) rfl) (And.intro ((kc.below hS'.1 lc).cell (i := 0) rfl) (And.intro ((kc.below hS'.1 lc).cell (i := 1) rfl) ((kc.below hS'.1 lc).cell (i := 3) rfl))))
              refine tkz 0 rfl hS (fun w' hS' => by go_simp; rfl) ?_
              simp only [nrz]
              refine tkz 1 rfl hS (fun w' hS' => by obtain ⟨e2, a0, a1, a3⟩ := FA4.out w' hS'; clear hS'; go_simp; rfl) ?_
              simp only [nrz]
              refine tkz 2 rfl hS (fun w' hS' => by go_simp; rfl) ?_
              simp only [nrz]
              refine tkz 3 rfl hS (fun w' hS' => by obtain ⟨e2, a0, a1, a3⟩ := FA4.out w' hS'; clear hS'; go_simp; rfl) ?_
              simp only [nrz]
              refine tkz 4 rfl hS (fun w' hS' => by go_simp; rfl) ?_
              simp only [nrz]
              refine tkz 5 rfl hS (fun w' hS' => by go_simp; rfl) ?_
              simp only [nrz]
              refine tkz 6 rfl hS (fun w' hS' => by go_simp; rfl) ?_
              simp only [nrz]
              refine tkz 7 rfl hS (fun w' hS' => by obtain ⟨e2, a0, a1, a3⟩ := FA4.out w' hS'; clear hS'; go_simp; rfl) ?_
              simp only [nrz]
              refine tkz 8 rfl hS (fun w' hS' => by go_simp; rfl) ?_
              simp only [nrz]
              refine tkz 9 rfl hS (fun w' hS' => by obtain ⟨e2, a0, a1, a3⟩ := FA4.out w' hS'; clear hS'; go_simp; rfl) ?_
              simp only [nrz]
              refine tkz 10 (v := .slice (some ⟨gm, O, none⟩) (N - O) (N - O)) rfl hS (fun w' hS' => ?ey10) ?ez10
              case ey10 =>
                clear hS'
                go_simp
                rw [if_pos (by omega), if_neg (by omega)]
              simp only [nrz]
              refine tkz 11 rfl hS (fun w' hS' => by go_simp; rfl) ?_
              simp only [nrz]
              refine tkz 12 rfl hS (fun w' hS' => by obtain ⟨e2, a0, a1, a3⟩ := FA4.out w' hS'; clear hS'; go_simp; rfl) ?_
              simp only [nrz]
              refine tkz 13 rfl hS (fun w' hS' => by go_simp; rfl) ?_
              simp only [nrz]
              refine tkz 14 rfl hS (fun w' hS' => by obtain ⟨e2, a0, a1, a3⟩ := FA4.out w' hS'; clear hS'; go_simp; rfl) ?_
              simp only [nrz]
              refine tkz 15 (v := .int .i64 (p : Int)) rfl hS (fun w' hS' => ?ey15) ?ez15
              case ey15 =>
                clear hS'
                have hpp := hpH.out
                go_simp
                first
                  | (go_ints; done)
                  | go_num
                  | (go_ints; trivial)
              simp only [nrz]
              refine tkz 16 (v := .slice (some ⟨gm, O, none⟩) p (N - O)) rfl hS (fun w' hS' => ?ey16) ?ez16
              case ey16 =>
                clear hS'
                go_simp
                intro h
                omega
              simp only [nrz]
              refine step_op 17 (by kernel_rfl) rfl (fun K hK => ?_)
              have hrd : Rd X0.heap.size X0 (some ⟨gm, O, none⟩) (outN M1 (O : Int) p) := by
                obtain ⟨e0, e1, e2, er, eg, em⟩ := hMd.cells
                refine .inr ⟨gm, O, rfl, (hMd.mm.lt gm rfl).2, fun i hi => ?_⟩
                have hi2 : i < p := by simpa [outN] using hi
                unfold outN
                rw [List.getElem?_map, List.getElem?_range hi2]
                exact em (O + i) (by omega)
              rw [if_pos (by rfl)]
              go_simp
              refine (CloneN_any (outN M1 (O : Int) p) gm O (N - O) p (by simp [outN]) (by omega) (by omega) X0 hrd).mono ?_
              clear hrd
              rintro e X7 ⟨g, cap, rfl, hrow, hb⟩
              have hS7 : Below V5.heap.size V5 X7 ∧ Blk X7 bm 151 #[.int .i64 (L : Int), (.slice (some ⟨gr, 0, none⟩) Rn cr), .slice (some ⟨gm, 0, none⟩) N N] := ⟨hS.1.trans (hb.mono hS.1.size), (hMd.later hb).m⟩
              have hrowb := jrow_weaken hrow (show w.heap.size ≤ X0.heap.size by have := hS.1.size; omega)
              clear hb hrow
              refine hK.out _ _ (fun h => hS7) ?_
              clear hK K
              try simp only [Act.put, nrz]
              refine tkz 18 rfl hS7 (fun w' hS' => by go_simp; rfl) ?_
              simp only [nrz]
              refine step_op 19 (by kernel_rfl) rfl (fun K hK => ?_)
              have kz := k4.below hS7.1 l4
              obtain ⟨z0, z1, z2⟩ := cz3 kz
              have fz0 := kz.frozen 0
              have fz1 := kz.frozen 1
              have fz2 := kz.frozen 2
              rw [if_pos (by rfl)]
              go_simp
              clear z0 z1 z2 fz0 fz1 fz2
              refine hK.out _ _ (fun h => absurd h (by omega)) ?_
              clear hK K
              try simp only [Act.put, nrz]
              refine step_op 20 (by kernel_rfl) rfl (fun K hK => ?_)
              rw [if_pos (by rfl)]
              go_simp
              refine hK.out _ _ (fun h => absurd h (by omega)) ?_
              clear hK K
              try simp only [Act.put, nrz]
              refine done_ops (by kernel_rfl) ?_
              have kf := put3_blk kz (.int .i64 W) (.int .i64 H) (.slice (some ⟨g, 0, none⟩) p cap)
              have rowf := row_put3b hrowb (kz.not_row (by decide) hrowb) (.int .i64 W) (.int .i64 H) (.slice (some ⟨g, 0, none⟩) p cap)
              have hbf : Below w.heap.size w (put3 X7 (V2.heap.size) (.int .i64 W) (.int .i64 H) (.slice (some ⟨g, 0, none⟩) p cap)) := (hBw.trans (hS7.1.mono hBw.size)).trans (put3_below hle4 _ _ _)
              obtain ⟨g0, g1, g2⟩ := cz3 kf
              have hol : (outN M1 (O : Int) p).length = p := by simp [outN]
              clear hS7 hS hMd kz hrowb
              go_wp2_with fail
              exact bodyPost_ret (v := .tuple #[imv W H (some ⟨g, 0, none⟩) p cap, .int .i64 0]) (by simp [results, Tryz.results31, go_sem, g0, g1, g2]) rfl ⟨⟨_, rfl, (.slice (some ⟨g, 0, none⟩) p cap), rfl, by rw [hol]; exact rowf⟩, hbf⟩
end Go.Proofs.YtekiemlniegddaaGreat
namespace Go.Proofs.YtekiemlniegddaaGreat
open Go Go.Maps Go.RowKit Go.Shelf
def exS : List StepN := [⟨3, 0, 0, ⟨0, 0, 0, 0, 0⟩, 0, 3, 1, [1, 0, -1], 1, 0, 0, []⟩, ⟨1, 1, 0, ⟨-1, 0, 1, -9, 9⟩, 0, 0, 0, [], 0, 0, 0, []⟩, ⟨2, 1, 2, ⟨0, 0, 0, 0, 0⟩, 4, 0, 0, [], 0, 0, 0, []⟩, ⟨1, 3, 0, ⟨2, 0, 1, 0, 100⟩, 0, 0, 0, [], 0, 0, 0, []⟩]
def exP : PipeN := ⟨4, 1, 1, exS⟩
def exI : List Value := [.int .i64 1, .int .i64 0, .int .i64 (-1)]
def exC (kb : Nat) : Array Value := #[.int .u8 3, .int .i64 0, .int .i64 0, .int .i64 0, .int .i64 0, .int .i64 0, .int .i64 0, .int .i64 0, .int .u8 0, .int .i64 3, .int .i64 1, .slice (some ⟨kb, 0, none⟩) 3 3, .int .u8 1, .int .i64 0, .int .i64 0, .slice none 0 0, .int .u8 1, .int .i64 1, .int .i64 0, .int .i64 (-1), .int .i64 0, .int .i64 1, .int .i64 (-9), .int .i64 9, .int .u8 0, .int .i64 0, .int .i64 0, .slice none 0 0, .int .u8 0, .int .i64 0, .int .i64 0, .slice none 0 0, .int .u8 2, .int .i64 1, .int .i64 2, .int .i64 0, .int .i64 0, .int .i64 0, .int .i64 0, .int .i64 0, .int .u8 4, .int .i64 0, .int .i64 0, .slice none 0 0, .int .u8 0, .int .i64 0, .int .i64 0, .slice none 0 0, .int .u8 1, .int .i64 3, .int .i64 0, .int .i64 2, .int .i64 0, .int .i64 1, .int .i64 0, .int .i64 100, .int .u8 0, .int .i64 0, .int .i64 0, .slice none 0 0, .int .u8 0, .int .i64 0, .int .i64 0, .slice none 0 0]
theorem ex_cells (kb : Nat) : ∀ i, i < 4 → ∀ j v, (stepCells (stAt exS i) (if i = 0 then some ⟨kb, 0, none⟩ else none) (if i = 0 then 3 else 0) none 0)[j]? = some v → (exC kb)[i * 16 + j]? = some v := by
 intro i hi j v hv
 have hj : j < 16 := by
  rcases Nat.lt_or_ge j 16 with h | h
  ·exact h
  ·rw [List.getElem?_eq_none (by simp [stepCells]; exact h)] at hv; cases hv
 match i, hi with
 | 0, _ => match j, hj, hv with
  | 0, _, hv => exact hv
  | 1, _, hv => exact hv
  | 2, _, hv => exact hv
  | 3, _, hv => exact hv
  | 4, _, hv => exact hv
  | 5, _, hv => exact hv
  | 6, _, hv => exact hv
  | 7, _, hv => exact hv
  | 8, _, hv => exact hv
  | 9, _, hv => exact hv
  | 10, _, hv => exact hv
  | 11, _, hv => exact hv
  | 12, _, hv => exact hv
  | 13, _, hv => exact hv
  | 14, _, hv => exact hv
  | 15, _, hv => exact hv
 | 1, _ => match j, hj, hv with
  | 0, _, hv => exact hv
  | 1, _, hv => exact hv
  | 2, _, hv => exact hv
  | 3, _, hv => exact hv
  | 4, _, hv => exact hv
  | 5, _, hv => exact hv
  | 6, _, hv => exact hv
  | 7, _, hv => exact hv
  | 8, _, hv => exact hv
  | 9, _, hv => exact hv
  | 10, _, hv => exact hv
  | 11, _, hv => exact hv
  | 12, _, hv => exact hv
  | 13, _, hv => exact hv
  | 14, _, hv => exact hv
  | 15, _, hv => exact hv
 | 2, _ => match j, hj, hv with
  | 0, _, hv => exact hv
  | 1, _, hv => exact hv
  | 2, _, hv => exact hv
  | 3, _, hv => exact hv
  | 4, _, hv => exact hv
  | 5, _, hv => exact hv
  | 6, _, hv => exact hv
  | 7, _, hv => exact hv
  | 8, _, hv => exact hv
  | 9, _, hv => exact hv
  | 10, _, hv => exact hv
  | 11, _, hv => exact hv
  | 12, _, hv => exact hv
  | 13, _, hv => exact hv
  | 14, _, hv => exact hv
  | 15, _, hv => exact hv
 | 3, _ => match j, hj, hv with
  | 0, _, hv => exact hv
  | 1, _, hv => exact hv
  | 2, _, hv => exact hv
  | 3, _, hv => exact hv
  | 4, _, hv => exact hv
  | 5, _, hv => exact hv
  | 6, _, hv => exact hv
  | 7, _, hv => exact hv
  | 8, _, hv => exact hv
  | 9, _, hv => exact hv
  | 10, _, hv => exact hv
  | 11, _, hv => exact hv
  | 12, _, hv => exact hv
  | 13, _, hv => exact hv
  | 14, _, hv => exact hv
  | 15, _, hv => exact hv
theorem ex_rd {W : World} {b kb : Nat} (h : Blk W b 76 (exC kb)) (hk : Blk W kb 3 exI.toArray) : RdSs W.heap.size W (some ⟨b, 0, none⟩) exP.ss := by
 refine .inr ⟨b, 0, rfl, h.lt, fun i hi => ⟨if i = 0 then some ⟨kb, 0, none⟩ else none, if i = 0 then 3 else 0, none, 0, ⟨fun j v hv => ?_, ?_, ?_⟩⟩⟩
 ·rw [show 0 + i * 16 + j = i * 16 + j by omega]
  exact h.cell (ex_cells kb i hi j v hv)
 ·match i, hi with
  | 0, _ => exact .inr ⟨kb, 0, rfl, hk.lt, fun q hq => by
    match q, hq with
    | 0, _ => exact hk.cell (i := 0) rfl
    | 1, _ => exact hk.cell (i := 1) rfl
    | 2, _ => exact hk.cell (i := 2) rfl⟩
  | 1, _ => exact .inl rfl
  | 2, _ => exact .inl rfl
  | 3, _ => exact .inl rfl
 ·match i, hi with
  | 0, _ => exact .inl rfl
  | 1, _ => exact .inl rfl
  | 2, _ => exact .inl rfl
  | 3, _ => exact .inl rfl
theorem ex_in : PipeIn exP := ⟨by decide, fun i hi => by
 match i, hi with
 | 0, _ => exact ⟨by decide, by decide, by decide, by decide, by decide⟩
 | 1, _ => exact ⟨by decide, by decide, by decide, by decide, by decide⟩
 | 2, _ => exact ⟨by decide, by decide, by decide, by decide, by decide⟩
 | 3, _ => exact ⟨by decide, by decide, by decide, by decide, by decide⟩⟩
abbrev put4 (W : World) (B : Nat) (x0 x1 x2 x3 : Value) : World := (((W.setCell ⟨B, 0, none⟩ x0).setCell ⟨B, 1, none⟩ x1).setCell ⟨B, 2, none⟩ x2).setCell ⟨B, 3, none⟩ x3
theorem put4_blk {W : World} {B : Nat} {t : TypeId} {a b c d : Value} (k : Blk W B t #[a, b, c, d]) (x0 x1 x2 x3 : Value) : Blk (put4 W B x0 x1 x2 x3) B t #[x0, x1, x2, x3] := by
 have h := (((k.set 0 x0).set 1 x1).set 2 x2).set 3 x3
 simpa using h
theorem put4_trn (W : World) (B : Nat) (x0 x1 x2 x3 : Value) : Trn (fun b => b = B) W (put4 W B x0 x1 x2 x3) := by
 have k := fun (W : World) (i : Nat) (v : Value) => setCell_trn W ⟨B, i, none⟩ v (fun b => b = B) rfl
 exact (((k W 0 x0).trans (k _ 1 x1)).trans (k _ 2 x2)).trans (k _ 3 x3)
set_option maxRecDepth 100000 in
set_option maxHeartbeats 4000000 in
theorem example_any (w : World) : Calls Tryz.prog 68 #[] w fun e w' => ∃ b kb, e = .returned (pipev exP (some ⟨b, 0, none⟩) 4 4) ∧ Blk w' b 76 (exC kb) ∧ Blk w' kb 3 exI.toArray ∧ w.heap.size ≤ b ∧ w.heap.size ≤ kb ∧ Below w.heap.size w w' := by
 have hB : Below w.heap.size w w := Below.refl _ _
 obtain ⟨V1, hEV1, hbV1, kr⟩ := newB w 24 #[.int .i64 0, .int .i64 0, .int .i64 0, .slice none 0 0]
 replace hB := tmB hB hbV1
 clear hbV1
 have z0 := kr.cell (i := 0) rfl
 have fz0 := kr.frozen 0
 have z1 := kr.cell (i := 1) rfl
 have fz1 := kr.frozen 1
 have z2 := kr.cell (i := 2) rfl
 have fz2 := kr.frozen 2
 have z3 := kr.cell (i := 3) rfl
 have fz3 := kr.frozen 3
 have hkrlt := kr.lt
 obtain ⟨V2, hEV2, hbV2, kt⟩ := newB V1 3 #[.int .i64 1, .int .i64 0, .int .i64 (-1)]
 clear z0 z1 z2 z3 fz0 fz1 fz2 fz3
 replace kr := kr.below hbV2 kr.lt
 replace hB := tmB hB hbV2
 clear hbV2
 obtain ⟨kb, hkb⟩ : ∃ b, V1.heap.size = b := ⟨_, rfl⟩
 rw [hkb] at kt
 have hktlt := kt.lt
 obtain ⟨V3, hEV3, hbV3, ks⟩ := newB V2 76 #[.int .u8 3, .int .i64 0, .int .i64 0, .int .i64 0, .int .i64 0, .int .i64 0, .int .i64 0, .int .i64 0, .int .u8 0, .int .i64 3, .int .i64 1, .slice (some ⟨kb, 0, none⟩) 3 3, .int .u8 1, .int .i64 0, .int .i64 0, .slice none 0 0, .int .u8 1, .int .i64 1, .int .i64 0, .int .i64 (-1), .int .i64 0, .int .i64 1, .int .i64 (-9), .int .i64 9, .int .u8 0, .int .i64 0, .int .i64 0, .slice none 0 0, .int .u8 0, .int .i64 0, .int .i64 0, .slice none 0 0, .int .u8 2, .int .i64 1, .int .i64 2, .int .i64 0, .int .i64 0, .int .i64 0, .int .i64 0, .int .i64 0, .int .u8 4, .int .i64 0, .int .i64 0, .slice none 0 0, .int .u8 0, .int .i64 0, .int .i64 0, .slice none 0 0, .int .u8 1, .int .i64 3, .int .i64 0, .int .i64 2, .int .i64 0, .int .i64 1, .int .i64 0, .int .i64 100, .int .u8 0, .int .i64 0, .int .i64 0, .slice none 0 0, .int .u8 0, .int .i64 0, .int .i64 0, .slice none 0 0]
 replace kr := kr.below hbV3 kr.lt
 replace kt := kt.below hbV3 kt.lt
 replace hB := tmB hB hbV3
 clear hbV3
 obtain ⟨sb, hsb⟩ : ∃ b, V2.heap.size = b := ⟨_, rfl⟩
 rw [hsb] at ks
 have z0 := kr.cell (i := 0) rfl
 have fz0 := kr.frozen 0
 have z1 := kr.cell (i := 1) rfl
 have fz1 := kr.frozen 1
 have z2 := kr.cell (i := 2) rfl
 have fz2 := kr.frozen 2
 have z3 := kr.cell (i := 3) rfl
 have fz3 := kr.frozen 3
 have kf := put4_blk kr (.int .i64 4) (.int .i64 1) (.int .i64 1) (.slice (some ⟨sb, 0, none⟩) 4 4)
 have hks : kb < sb := by rw [← hsb]; exact hktlt
 have hkw : w.heap.size < kb := by rw [← hkb]; exact hkrlt
 have hT := put4_trn V3 w.heap.size (.int .i64 4) (.int .i64 1) (.int .i64 1) (.slice (some ⟨sb, 0, none⟩) 4 4)
 obtain ⟨V4, hV4⟩ : ∃ X, put4 V3 w.heap.size (.int .i64 4) (.int .i64 1) (.int .i64 1) (.slice (some ⟨sb, 0, none⟩) 4 4) = X := ⟨_, rfl⟩
 rw [hV4] at hT kf
 have ks4 := hT.blk ks (by omega)
 have kt4 := hT.blk kt (by omega)
 have hB4 : Below w.heap.size w V4 := hB.trans (hT.below hB.size (fun b hb e => by omega))
 obtain ⟨g0, g1, g2, g3⟩ := cz4 kf
 clear ks kt kr kf hT hB
 go_enter Tryz.func68, Tryz.ntmps68
 go_wp2_with fail
 exact bodyPost_ret (v := .agg #[.int .i64 4, .int .i64 1, .int .i64 1, .slice (some ⟨sb, 0, none⟩) 4 4]) (by simp [results, Tryz.results68, go_sem, g0, g1, g2, g3]) rfl ⟨sb, rfl, kb, ks4, kt4, by omega, by omega, hB4⟩
set_option maxRecDepth 100000 in
set_option maxHeartbeats 2000000 in
theorem row3_any (a : Option Addr) (n c : Nat) (w : World) :
  Calls Tryz.prog 67 #[.slice a n c] w fun e w' => e = .returned (imv n 1 a n c) ∧ Below w.heap.size w w' := by
 have k2 := Blk.new w 32 #[.int .i64 n, .int .i64 1, .slice a n c]
 have hb : Below w.heap.size w (w.alloc (.cells #[.int .i64 n, .int .i64 1, .slice a n c] 32)) := jb_al (Below.refl _ w) _
 obtain ⟨g0, g1, g2⟩ := cz3 k2
 go_enter Tryz.func67, Tryz.ntmps67
 go_wp2_with fail
 exact bodyPost_ret (v := imv n 1 a n c) (by simp [results, Tryz.results67, go_sem, g0, g1, g2]) rfl ⟨rfl, hb⟩
def ranE (P : PipeN) (v : VecN) (ms : List PicN) : Bool := decide (cmpE P v = 0) && decide ((runS v (cmpR P v) ms).err = 0)
set_option maxRecDepth 100000 in
set_option maxHeartbeats 4000000 in
theorem compiled_any (Q : PipeN) (hQ : PipeIn Q) (v : VecN) (a : Option Addr) (n c : Nat) (hn : Q.ss.length = n) (ms : List PicN) (la : Option Addr) (q lc : Nat) (hm : ms.length = q) (hmm : q ≤ 9223372036854775807) (hpl : ∀ i, (picAt ms i).px.length ≤ 9223372036854775807) (w : World) (hr : RdSs w.heap.size w a Q.ss) (hrl : RdPs w.heap.size w la ms) :
  Calls Tryz.prog 69 #[pipev Q a n c, vecv v, .slice la q lc] w fun e w' => (∃ u, e = .returned (.tuple #[u, .bool (ranE Q v ms)]) ∧ OwnIm w.heap.size w' u (runS v (cmpR Q v) ms).w (runS v (cmpR Q v) ms).h (runS v (cmpR Q v) ms).px) ∧ Below w.heap.size w w' := by
 have hB : Below w.heap.size w w := Below.refl _ _
 have hcmp := fun W h => Compile_any Q hQ v a n c hn W h
 have hrun := fun W ia ic xa xc h1 h2 h3 => Run_any v (cmpR Q v) ia xa ic xc (cmpR_in Q v) ms la q lc hm hmm hpl W h1 h2 h3
 obtain ⟨E, hE⟩ : ∃ E, cmpE Q v = E := ⟨_, rfl⟩
 obtain ⟨C, hC⟩ : ∃ C, cmpR Q v = C := ⟨_, rfl⟩
 obtain ⟨R, hR⟩ : ∃ R, runS v C ms = R := ⟨_, rfl⟩
 have hran : ranE Q v ms = (decide (E = 0) && decide (R.err = 0)) := by unfold ranE; rw [hE, hC, hR]
 rw [hran, hC, hR]
 rw [hE, hC] at hcmp
 rw [hC, hR] at hrun
 obtain ⟨RW, RH, RP, RE⟩ := R
 have hcmpH := Lib.hid hcmp
 have hrunH := Lib.hid hrun
 clear hcmp hrun hran hE hC hR hQ hn hm hpl
 unfold pipev vecv
 unfold pipev vecv at hcmpH
 unfold vecv codev at hrunH
 simp only at hrunH ⊢
 obtain ⟨V1, hEV1, hbV1, kp⟩ := newB w 24 #[.int .i64 Q.w, .int .i64 Q.h, .int .i64 Q.inp, .slice a n c]
 replace hr := hr.later hbV1
 replace hrl := hrl.bm hbV1
 replace hB := tmB hB hbV1
 clear hbV1
 obtain ⟨p0, p1, p2, p3⟩ := cz4 kp
 obtain ⟨V2, hEV2, hbV2, kv⟩ := newB V1 26 #[.int .i64 v.lanes, .int .i64 v.regs, .int .i64 v.mem]
 clear p0 p1 p2 p3
 replace kp := kp.below hbV2 kp.lt
 replace hr := hr.later hbV2
 replace hrl := hrl.bm hbV2
 replace hB := tmB hB hbV2
 clear hbV2
 obtain ⟨p0, p1, p2, p3⟩ := cz4 kp
 obtain ⟨v0, v1, v2⟩ := cz3 kv
 have hle4 := hB.size
 obtain ⟨V3, hEV3, hbV3, kz⟩ := newB V2 32 #[.int .i64 0, .int .i64 0, .slice none 0 0]
 clear p0 p1 p2 p3 v0 v1 v2
 replace kp := kp.below hbV3 kp.lt
 replace kv := kv.below hbV3 kv.lt
 replace hr := hr.later hbV3
 replace hrl := hrl.bm hbV3
 replace hB := tmB hB hbV3
 clear hbV3
 obtain ⟨p0, p1, p2, p3⟩ := cz4 kp
 obtain ⟨v0, v1, v2⟩ := cz3 kv
 have z0 := kz.cell (i := 0) rfl
 have fz0 := kz.frozen 0
 have z1 := kz.cell (i := 1) rfl
 have fz1 := kz.frozen 1
 have z2 := kz.cell (i := 2) rfl
 have fz2 := kz.frozen 2
 go_enter Tryz.func69, Tryz.ntmps69
 go_wp2_with fail
 clear hEV1 hEV2 hEV3
 have hc := hcmpH.out V3 hr
 unfold RetCo codev at hc
 refine hc.mono ?_
 clear hc
 rintro e V4 ⟨ia, ic, xa, xc, rfl, ri, rx, hb⟩
 clear p0 p1 p2 p3 v0 v1 v2 z0 z1 z2 fz0 fz1 fz2
 replace kp := kp.below hb kp.lt
 replace kv := kv.below hb kv.lt
 replace kz := kz.below hb kz.lt
 replace hr := hr.later hb
 replace hrl := hrl.bm hb
 replace hB := tmB hB hb
 clear hb
 obtain ⟨p0, p1, p2, p3⟩ := cz4 kp
 obtain ⟨v0, v1, v2⟩ := cz3 kv
 have z0 := kz.cell (i := 0) rfl
 have fz0 := kz.frozen 0
 have z1 := kz.cell (i := 1) rfl
 have fz1 := kz.frozen 1
 have z2 := kz.cell (i := 2) rfl
 have fz2 := kz.frozen 2
 obtain ⟨V5, hEV5, hbV5, kc⟩ := newB V4 43 #[.int .i64 C.w, .int .i64 C.h, .slice ia C.inp.length ic, .int .i64 C.out, .slice xa C.ins.length xc]
 clear p0 p1 p2 p3 v0 v1 v2 z0 z1 z2 fz0 fz1 fz2
 replace kp := kp.below hbV5 kp.lt
 replace kv := kv.below hbV5 kv.lt
 replace kz := kz.below hbV5 kz.lt
 replace hr := hr.later hbV5
 replace hrl := hrl.bm hbV5
 replace ri := later_i ri hbV5
 replace rx := (rx.below (Nat.le_refl _) hbV5).mono hbV5.size
 replace hB := tmB hB hbV5
 clear hbV5
 obtain ⟨p0, p1, p2, p3⟩ := cz4 kp
 obtain ⟨v0, v1, v2⟩ := cz3 kv
 have z0 := kz.cell (i := 0) rfl
 have fz0 := kz.frozen 0
 have z1 := kz.cell (i := 1) rfl
 have fz1 := kz.frozen 1
 have z2 := kz.cell (i := 2) rfl
 have fz2 := kz.frozen 2
 obtain ⟨c0, c1, c2, c3, c4⟩ := cz5 kc
 have hle5 := hB.size
 go_wp2_with fail
 clear hEV5
 refine (hrunH.out V5 ia ic xa xc ri rx hrl).mono ?_
 rintro e V6 ⟨⟨v9, rfl, ⟨u9, rfl, ho⟩⟩, hb⟩
 clear p0 p1 p2 p3 v0 v1 v2 z0 z1 z2 fz0 fz1 fz2 c0 c1 c2 c3 c4
 replace kp := kp.below hb kp.lt
 replace kv := kv.below hb kv.lt
 replace kz := kz.below hb kz.lt
 replace kc := kc.below hb kc.lt
 replace hr := hr.later hb
 replace hrl := hrl.bm hb
 replace ri := later_i ri hb
 replace rx := (rx.below (Nat.le_refl _) hb).mono hb.size
 replace hB := tmB hB hb
 clear hb
 obtain ⟨p0, p1, p2, p3⟩ := cz4 kp
 obtain ⟨v0, v1, v2⟩ := cz3 kv
 have z0 := kz.cell (i := 0) rfl
 have fz0 := kz.frozen 0
 have z1 := kz.cell (i := 1) rfl
 have fz1 := kz.frozen 1
 have z2 := kz.cell (i := 2) rfl
 have fz2 := kz.frozen 2
 obtain ⟨c0, c1, c2, c3, c4⟩ := cz5 kc
 obtain ⟨ra, rcp, rfl⟩ := row_slice ho
 dsimp only at ho ⊢
 obtain ⟨V7, hEV7, hbV7, ki⟩ := newB V6 32 #[.int .i64 RW, .int .i64 RH, .slice ra RP.length rcp]
 clear p0 p1 p2 p3 v0 v1 v2 z0 z1 z2 fz0 fz1 fz2 c0 c1 c2 c3 c4
 replace kp := kp.below hbV7 kp.lt
 replace kv := kv.below hbV7 kv.lt
 replace kz := kz.below hbV7 kz.lt
 replace kc := kc.below hbV7 kc.lt
 replace hr := hr.later hbV7
 replace hrl := hrl.bm hbV7
 replace ri := later_i ri hbV7
 replace rx := (rx.below (Nat.le_refl _) hbV7).mono hbV7.size
 replace ho := row_below ho hbV7
 replace hB := tmB hB hbV7
 clear hbV7
 obtain ⟨p0, p1, p2, p3⟩ := cz4 kp
 obtain ⟨v0, v1, v2⟩ := cz3 kv
 have z0 := kz.cell (i := 0) rfl
 have fz0 := kz.frozen 0
 have z1 := kz.cell (i := 1) rfl
 have fz1 := kz.frozen 1
 have z2 := kz.cell (i := 2) rfl
 have fz2 := kz.frozen 2
 obtain ⟨c0, c1, c2, c3, c4⟩ := cz5 kc
 obtain ⟨i0, i1, i2⟩ := cz3 ki
 have hzl := kz.lt
 have kf := put3_blk kz (.int .i64 RW) (.int .i64 RH) (.slice ra RP.length rcp)
 have rowf := jrow_weaken (row_put3b ho (kz.not_row (by decide) ho) (.int .i64 RW) (.int .i64 RH) (.slice ra RP.length rcp)) hle5
 have hbf : Below w.heap.size w (put3 V7 (V2.heap.size) (.int .i64 RW) (.int .i64 RH) (.slice ra RP.length rcp)) := hB.trans (put3_below hle4 _ _ _)
 obtain ⟨g0, g1, g2⟩ := cz3 kf
 have hEb : ∃ eb, (E == 0) = eb ∧ decide (E = 0) = eb := ⟨E == 0, rfl, rfl⟩
 obtain ⟨eb, hEb, hEd⟩ := hEb
 have hRb : ∃ rb, (RE == 0) = rb ∧ decide (RE = 0) = rb := ⟨RE == 0, rfl, rfl⟩
 obtain ⟨rb, hRb, hRd⟩ := hRb
 have hEdH := Lib.hid hEd
 have hRdH := Lib.hid hRd
 clear kf kz ki kc kp kv hEd hRd ri rx ho
 cases eb
 case false =>
  go_wp2_with fail
  exact bodyPost_ret (v := .tuple #[imv RW RH ra RP.length rcp, .bool false]) (by simp [results, Tryz.results69, go_sem, g0, g1, g2]) rfl ⟨⟨imv RW RH ra RP.length rcp, by rw [hEdH.out, hRdH.out]; simp, ⟨.slice ra RP.length rcp, rfl, rowf⟩⟩, hbf⟩
 case true =>
  go_wp2_with fail
  exact bodyPost_ret (v := .tuple #[imv RW RH ra RP.length rcp, .bool rb]) (by simp [results, Tryz.results69, go_sem, g0, g1, g2]) rfl ⟨⟨imv RW RH ra RP.length rcp, by rw [hEdH.out, hRdH.out]; simp, ⟨.slice ra RP.length rcp, rfl, rowf⟩⟩, hbf⟩
end Go.Proofs.YtekiemlniegddaaGreat
namespace Go.Proofs.YtekiemlniegddaaGreat
open Go Go.Maps Go.RowKit Go.Shelf
theorem lst_rd {W : World} {bi kl : Nat} (h : Blk W bi 32 #[.int .i64 4, .int .i64 1, .slice (some ⟨kl, 0, none⟩) 4 4]) (hk : Blk W kl 3 #[.int .i64 1, .int .i64 2, .int .i64 4, .int .i64 9]) : RdPs W.heap.size W (some ⟨bi, 0, none⟩) [⟨4, 1, [1, 2, 4, 9]⟩] := by
 refine .inr ⟨bi, 0, rfl, h.lt, fun i hi => ?_⟩
 match i, hi with
 | 0, _ => exact ⟨some ⟨kl, 0, none⟩, 4, h.cell (i := 0) rfl, h.cell (i := 1) rfl, h.cell (i := 2) rfl, .inr ⟨kl, 0, rfl, hk.lt, fun q hq => by
   match q, hq with
   | 0, _ => exact hk.cell (i := 0) rfl
   | 1, _ => exact hk.cell (i := 1) rfl
   | 2, _ => exact hk.cell (i := 2) rfl
   | 3, _ => exact hk.cell (i := 3) rfl⟩, fun h => by cases h⟩
theorem ms_len : ∀ i, (picAt [⟨4, 1, [1, 2, 4, 9]⟩] i).px.length ≤ 9223372036854775807
 | 0 => by decide
 | i + 1 => by simp [picAt]
theorem ex_ok : pipeB exP = true := by kernel_rfl
theorem ex_room : roomP exP = 12 := by kernel_rfl
theorem ex_mean : meanS exP [⟨4, 1, [1, 2, 4, 9]⟩] = ⟨4, 1, [4, 6, 14, 8], 0⟩ := by kernel_rfl
theorem ex_len : lenV exP 3 = 28 ∧ lenE exP 3 = 0 := ⟨by kernel_rfl, by kernel_rfl⟩
theorem ex_cmp : cmpE exP ⟨3, 2, 12⟩ = 0 ∧ cmpE exP ⟨3, 2, 11⟩ = 9 := by
 unfold cmpE
 rw [ex_ok, ex_room]
 decide
theorem ex_run : runS ⟨3, 2, 12⟩ (cmpR exP ⟨3, 2, 12⟩) [⟨4, 1, [1, 2, 4, 9]⟩] = ⟨4, 1, [4, 6, 14, 8], 0⟩ := by
 unfold cmpR
 rw [if_pos ex_cmp.1, cmp_mean ex_ok (by decide) (by rw [ex_room]; decide) (by decide), ex_mean]
theorem ex_ran : ranE exP ⟨3, 2, 12⟩ [⟨4, 1, [1, 2, 4, 9]⟩] = true := by unfold ranE; rw [ex_run, ex_cmp.1]; decide
theorem ex_full : cmpR exP ⟨3, 2, 11⟩ = ⟨0, 0, [], 0, []⟩ := by unfold cmpR; rw [if_neg (by rw [ex_cmp.2]; decide)]
set_option maxRecDepth 100000 in
set_option maxHeartbeats 8000000 in
theorem alive3_any (w : World) : Calls Tryz.prog 25 #[] w fun e w' => e = .returned (.bool true) ∧ Below w.heap.size w w' := by
 have hB : Below w.heap.size w w := Below.refl _ _
 go_enter Tryz.func25, Tryz.ntmps25
 obtain ⟨V1, hEV1, hbV1, kl⟩ := newB w 3 #[.int .i64 1, .int .i64 2, .int .i64 4, .int .i64 9]
 replace hB := tmB hB hbV1
 clear hbV1
 go_wp2_with fail
 clear hEV1
 refine (row3_any (some ⟨w.heap.size, 0, none⟩) 4 4 V1).mono ?_
 rintro e V2 ⟨rfl, hb⟩
 replace kl := kl.below hb kl.lt
 replace hB := tmB hB hb
 clear hb
 obtain ⟨V3, hEV3, hbV3, ki⟩ := newB V2 32 #[.int .i64 4, .int .i64 1, .slice (some ⟨w.heap.size, 0, none⟩) 4 4]
 replace kl := kl.below hbV3 kl.lt
 replace hB := tmB hB hbV3
 clear hbV3
 have rl := lst_rd ki kl
 clear kl ki
 go_wp2_with fail
 clear hEV3
 refine (example_any V3).mono ?_
 rintro e V4 ⟨sb, kb, rfl, ks, kt, _, _, hb⟩
 have re := ex_rd ks kt
 clear ks kt
 replace rl := (rl.below (Nat.le_refl _) hb).mono hb.size
 replace hB := tmB hB hb
 clear hb
 go_wp2_with fail
 have hc := Mean_any exP (some ⟨sb, 0, none⟩) 4 4 rfl ex_in [⟨4, 1, [1, 2, 4, 9]⟩] (some ⟨V2.heap.size, 0, none⟩) 1 1 rfl (by decide) ms_len V4 re rl
 rw [ex_mean] at hc
 refine hc.mono ?_
 clear hc
 rintro e V5 ⟨⟨v1, rfl, ⟨u1, rfl, h1⟩⟩, hb⟩
 replace rl := (rl.below (Nat.le_refl _) hb).mono hb.size
 replace re := re.later hb
 replace hB := tmB hB hb
 clear hb
 dsimp only at h1 ⊢
 obtain ⟨pa, pc, rfl⟩ := row_slice h1
 have rp := rowI_rd rfl h1
 clear h1 re
 simp only [List.length_cons, List.length_nil, Nat.reduceAdd]
 obtain ⟨V6, hEV6, hbV6, kA⟩ := newB V5 32 #[.int .i64 4, .int .i64 1, .slice pa 4 pc]
 replace rl := (rl.below (Nat.le_refl _) hbV6).mono hbV6.size
 replace rp := later_i rp hbV6
 replace hB := tmB hB hbV6
 clear hbV6
 go_wp2_with fail
 clear hEV6
 refine (example_any V6).mono ?_
 rintro e V7 ⟨sb, kb, rfl, ks, kt, _, _, hb⟩
 have re := ex_rd ks kt
 clear ks kt
 replace kA := kA.below hb kA.lt
 replace rl := (rl.below (Nat.le_refl _) hb).mono hb.size
 replace rp := later_i rp hb
 replace hB := tmB hB hb
 clear hb
 go_wp2_with fail
 have hc := Room_any exP (some ⟨sb, 0, none⟩) 4 4 rfl ex_in V7 re
 rw [if_pos ex_ok, if_pos ex_ok, ex_room] at hc
 refine hc.mono ?_
 clear hc
 rintro e V8 ⟨rfl, hb⟩
 replace kA := kA.below hb kA.lt
 replace rl := (rl.below (Nat.le_refl _) hb).mono hb.size
 replace rp := later_i rp hb
 replace re := re.later hb
 replace hB := tmB hB hb
 clear hb
 clear re
 go_wp2_with fail
 refine (example_any V8).mono ?_
 rintro e V9 ⟨sb, kb, rfl, ks, kt, _, _, hb⟩
 have re := ex_rd ks kt
 clear ks kt
 replace kA := kA.below hb kA.lt
 replace rl := (rl.below (Nat.le_refl _) hb).mono hb.size
 replace rp := later_i rp hb
 replace hB := tmB hB hb
 clear hb
 go_wp2_with fail
 have hc := Length_any exP ex_in (some ⟨sb, 0, none⟩) 4 4 rfl 3 V9 re
 rw [ex_len.1, ex_len.2] at hc
 refine hc.mono ?_
 clear hc
 rintro e V10 ⟨rfl, hb⟩
 replace kA := kA.below hb kA.lt
 replace rl := (rl.below (Nat.le_refl _) hb).mono hb.size
 replace rp := later_i rp hb
 replace re := re.later hb
 replace hB := tmB hB hb
 clear hb
 clear re
 go_wp2_with fail
 refine (example_any V10).mono ?_
 rintro e V11 ⟨sb, kb, rfl, ks, kt, _, _, hb⟩
 have re := ex_rd ks kt
 clear ks kt
 replace kA := kA.below hb kA.lt
 replace rl := (rl.below (Nat.le_refl _) hb).mono hb.size
 replace rp := later_i rp hb
 replace hB := tmB hB hb
 clear hb
 go_wp2_with fail
 have hc := compiled_any exP ex_in ⟨3, 2, 12⟩ (some ⟨sb, 0, none⟩) 4 4 rfl [⟨4, 1, [1, 2, 4, 9]⟩] (some ⟨V2.heap.size, 0, none⟩) 1 1 rfl (by decide) ms_len V11 re rl
 rw [ex_ran, ex_run] at hc
 refine hc.mono ?_
 clear hc
 rintro e V12 ⟨⟨v2, rfl, ⟨u2, rfl, h2⟩⟩, hb⟩
 replace kA := kA.below hb kA.lt
 replace rl := (rl.below (Nat.le_refl _) hb).mono hb.size
 replace rp := later_i rp hb
 replace re := re.later hb
 replace hB := tmB hB hb
 clear hb
 dsimp only at h2 ⊢
 obtain ⟨qa, qc, rfl⟩ := row_slice h2
 have rq := rowI_rd rfl h2
 clear h2 re rl
 simp only [List.length_cons, List.length_nil, Nat.reduceAdd]
 obtain ⟨V13, hEV13, hbV13, kB⟩ := newB V12 32 #[.int .i64 4, .int .i64 1, .slice qa 4 qc]
 replace kA := kA.below hbV13 kA.lt
 replace rp := later_i rp hbV13
 replace rq := later_i rq hbV13
 replace hB := tmB hB hbV13
 clear hbV13
 go_wp2_with fail
 clear hEV13
 refine (example_any V13).mono ?_
 rintro e V14 ⟨sb, kb, rfl, ks, kt, _, _, hb⟩
 have re := ex_rd ks kt
 clear ks kt
 replace kA := kA.below hb kA.lt
 replace kB := kB.below hb kB.lt
 replace rp := later_i rp hb
 replace rq := later_i rq hb
 replace hB := tmB hB hb
 clear hb
 go_wp2_with fail
 have hc := Compile_any exP ex_in ⟨3, 2, 11⟩ (some ⟨sb, 0, none⟩) 4 4 rfl V14 re
 rw [ex_cmp.2, ex_full] at hc
 refine hc.mono ?_
 clear hc
 rintro e V15 ⟨ia, ic, xa, xc, rfl, _, _, hb⟩
 replace kA := kA.below hb kA.lt
 replace kB := kB.below hb kB.lt
 replace rp := later_i rp hb
 replace rq := later_i rq hb
 replace re := re.later hb
 replace hB := tmB hB hb
 clear hb
 clear re
 obtain ⟨V16, hEV16, hbV16, kC⟩ := newB V15 43 #[.int .i64 0, .int .i64 0, .slice ia 0 ic, .int .i64 0, .slice xa 0 xc]
 replace kA := kA.below hbV16 kA.lt
 replace kB := kB.below hbV16 kB.lt
 replace rp := later_i rp hbV16
 replace rq := later_i rq hbV16
 replace hB := tmB hB hbV16
 clear hbV16
 clear kC
 go_wp2_with fail
 clear hEV16
 have hS : Below V16.heap.size V16 V16.drew := (Below.refl _ _).drew
 refine plain_region (fun W' => Below V16.heap.size V16 W') 37 37 (by kernel_rfl) rfl ?_
 simp only [Array.replicate_succ, Array.replicate_zero, List.push_toArray, List.nil_append, List.cons_append]
 obtain ⟨X0, hXX0⟩ : ∃ X : World, V16.drew = X := ⟨_, rfl⟩
 rw [hXX0] at hS ⊢
 clear hXX0
 have FA0 := Lib.hid (fun w' (hS' : (fun W' => Below V16.heap.size V16 W') w') => And.intro ((kA.below hS' kA.lt).cell (i := 0) rfl) (And.intro ((kB.below hS' kB.lt).cell (i := 0) rfl) (And.intro ((kA.below hS' kA.lt).cell (i := 1) rfl) (And.intro ((kB.below hS' kB.lt).cell (i := 1) rfl) (And.intro ((kA.below hS' kA.lt).cell (i := 2) rfl) ((kB.below hS' kB.lt).cell (i := 2) rfl))))))
 refine tkz 0 rfl hS (fun w' hS' => by go_simp; rfl) ?_
 simp only [nrz]
 refine tkz 1 (v := .bool true) rfl hS (fun w' hS' => ?ay1) ?az1
 case ay1 =>
  clear hS'
  go_simp
  first | done | rfl | (simp; done)
 simp only [nrz]
 refine tkz 2 (v := .bool true) rfl hS (fun w' hS' => ?ay2) ?az2
 case ay2 =>
  clear hS'
  go_simp
  first | done | rfl | (simp; done)
 simp only [nrz]
 refine tkz 3 rfl hS (fun w' hS' => by obtain ⟨e0, f0, e1, f1, e2, f2⟩ := FA0.out w' hS'; clear hS'; go_simp; rfl) ?_
 simp only [nrz]
 refine step_op 4 (by kernel_rfl) rfl (fun K hK => ?_)
 rw [if_pos (by rfl)]
 go_simp
 have kx := Blk.new X0 3 #[.int .i64 4, .int .i64 6, .int .i64 14, .int .i64 8]
 obtain ⟨X1, hE⟩ : ∃ X, X0.alloc (.cells #[.int .i64 4, .int .i64 6, .int .i64 14, .int .i64 8] 3) = X := ⟨_, rfl⟩
 rw [hE] at kx ⊢
 obtain ⟨bkx, hbk⟩ : ∃ b, X0.heap.size = b := ⟨_, rfl⟩
 rw [hbk] at kx ⊢
 have hb : Below X0.heap.size X0 X1 := alloc_below hE
 have hS1 : Below V16.heap.size V16 X1 := hS.trans (hb.mono hS.size)
 clear hb hE hbk
 refine hK.out _ _ (fun h => hS1) ?_
 clear hK K
 try simp only [Act.put, nrz]
 refine step_op 5 (by kernel_rfl) rfl (fun K hK => ?_)
 rw [if_pos (by rfl)]
 go_simp
 refine (row3_any (some ⟨bkx, 0, none⟩) 4 4 X1).mono ?_
 rintro e X2 ⟨rfl, hb⟩
 replace kx := kx.below hb kx.lt
 have hS2 : Below V16.heap.size V16 X2 := hS1.trans (hb.mono hS1.size)
 clear hb
 refine hK.out _ _ (fun h => hS2) ?_
 clear hK K
 try simp only [Act.put, nrz]
 refine step_op 6 (by kernel_rfl) rfl (fun K hK => ?_)
 rw [if_pos (by rfl)]
 go_simp
 have rkx : Rd X2.heap.size X2 (some ⟨bkx, 0, none⟩) [4, 6, 14, 8] := .inr ⟨bkx, 0, rfl, kx.lt, fun q hq => by
  match q, hq with
  | 0, _ => exact kx.cell (i := 0) rfl
  | 1, _ => exact kx.cell (i := 1) rfl
  | 2, _ => exact kx.cell (i := 2) rfl
  | 3, _ => exact kx.cell (i := 3) rfl⟩
 refine (Same_eq 4 1 pa (some ⟨bkx, 0, none⟩) pc 4 4 [4, 6, 14, 8] (Lib.hid rfl) X2 (by decide) (later_i rp hS2) rkx).mono ?_
 rintro e X3 ⟨rfl, hb⟩
 have hS3 : Below V16.heap.size V16 X3 := hS2.trans (hb.mono hS2.size)
 clear hb rkx kx
 refine hK.out _ _ (fun h => hS3) ?_
 clear hK K
 try simp only [Act.put, nrz]
 refine tkz 7 (v := .bool true) rfl hS3 (fun w' hS' => ?ay7) ?az7
 case ay7 =>
  clear hS'
  go_simp
  first | done | rfl | (simp; done)
 simp only [nrz]
 refine tkz 8 (v := .bool true) rfl hS3 (fun w' hS' => ?ay8) ?az8
 case ay8 =>
  clear hS'
  go_simp
  first | done | rfl | (simp; done)
 simp only [nrz]
 refine tkz 9 rfl hS3 (fun w' hS' => by go_simp; rfl) ?_
 simp only [nrz]
 refine tkz 10 (v := .bool true) rfl hS3 (fun w' hS' => ?ay10) ?az10
 case ay10 =>
  clear hS'
  go_simp
  first | done | rfl | (simp; done)
 simp only [nrz]
 refine tkz 11 (v := .bool true) rfl hS3 (fun w' hS' => ?ay11) ?az11
 case ay11 =>
  clear hS'
  go_simp
  first | done | rfl | (simp; done)
 simp only [nrz]
 refine tkz 12 (v := .bool true) rfl hS3 (fun w' hS' => ?ay12) ?az12
 case ay12 =>
  clear hS'
  go_simp
  first | done | rfl | (simp; done)
 simp only [nrz]
 refine tkz 13 rfl hS3 (fun w' hS' => by go_simp; rfl) ?_
 simp only [nrz]
 refine tkz 14 (v := .bool true) rfl hS3 (fun w' hS' => ?ay14) ?az14
 case ay14 =>
  clear hS'
  go_simp
  first | done | rfl | (simp; done)
 simp only [nrz]
 refine tkz 15 (v := .bool true) rfl hS3 (fun w' hS' => ?ay15) ?az15
 case ay15 =>
  clear hS'
  go_simp
  first | done | rfl | (simp; done)
 simp only [nrz]
 refine tkz 16 (v := .bool true) rfl hS3 (fun w' hS' => ?ay16) ?az16
 case ay16 =>
  clear hS'
  go_simp
  first | done | rfl | (simp; done)
 simp only [nrz]
 refine tkz 17 rfl hS3 (fun w' hS' => by go_simp; rfl) ?_
 simp only [nrz]
 refine tkz 18 (v := .bool true) rfl hS3 (fun w' hS' => ?ay18) ?az18
 case ay18 =>
  clear hS'
  go_simp
  first | done | rfl | (simp; done)
 simp only [nrz]
 refine tkz 19 (v := .bool true) rfl hS3 (fun w' hS' => ?ay19) ?az19
 case ay19 =>
  clear hS'
  go_simp
  first | done | rfl | (simp; done)
 simp only [nrz]
 refine tkz 20 (v := .bool true) rfl hS3 (fun w' hS' => ?ay20) ?az20
 case ay20 =>
  clear hS'
  go_simp
  first | done | rfl | (simp; done)
 simp only [nrz]
 refine tkz 21 rfl hS3 (fun w' hS' => by go_simp; rfl) ?_
 simp only [nrz]
 refine tkz 22 (v := .bool true) rfl hS3 (fun w' hS' => ?ay22) ?az22
 case ay22 =>
  clear hS'
  go_simp
  first | done | rfl | (simp; done)
 simp only [nrz]
 refine tkz 23 (v := .bool true) rfl hS3 (fun w' hS' => ?ay23) ?az23
 case ay23 =>
  clear hS'
  go_simp
  first | done | rfl | (simp; done)
 simp only [nrz]
 refine tkz 24 (v := .bool true) rfl hS3 (fun w' hS' => ?ay24) ?az24
 case ay24 =>
  clear hS'
  go_simp
  first | done | rfl | (simp; done)
 simp only [nrz]
 refine tkz 25 (v := .bool true) rfl hS3 (fun w' hS' => ?ay25) ?az25
 case ay25 =>
  clear hS'
  go_simp
  first | done | rfl | (simp; done)
 simp only [nrz]
 refine tkz 26 (v := .bool true) rfl hS3 (fun w' hS' => ?ay26) ?az26
 case ay26 =>
  clear hS'
  go_simp
  first | done | rfl | (simp; done)
 simp only [nrz]
 refine tkz 27 (v := .bool true) rfl hS3 (fun w' hS' => ?ay27) ?az27
 case ay27 =>
  clear hS'
  go_simp
  first | done | rfl | (simp; done)
 simp only [nrz]
 refine tkz 28 rfl hS3 (fun w' hS' => by obtain ⟨e0, f0, e1, f1, e2, f2⟩ := FA0.out w' hS'; clear hS'; go_simp; rfl) ?_
 simp only [nrz]
 refine tkz 29 rfl hS3 (fun w' hS' => by obtain ⟨e0, f0, e1, f1, e2, f2⟩ := FA0.out w' hS'; clear hS'; go_simp; rfl) ?_
 simp only [nrz]
 refine step_op 30 (by kernel_rfl) rfl (fun K hK => ?_)
 rw [if_pos (by rfl)]
 go_simp
 refine (Same_eq 4 1 qa pa qc pc 4 [4, 6, 14, 8] (Lib.hid rfl) X3 (by decide) (later_i rq hS3) (later_i rp hS3)).mono ?_
 rintro e X4 ⟨rfl, hb⟩
 have hS4 : Below V16.heap.size V16 X4 := hS3.trans (hb.mono hS3.size)
 clear hb
 refine hK.out _ _ (fun h => hS4) ?_
 clear hK K
 try simp only [Act.put, nrz]
 refine tkz 31 (v := .bool true) rfl hS4 (fun w' hS' => ?ay31) ?az31
 case ay31 =>
  clear hS'
  go_simp
  first | done | rfl | (simp; done)
 simp only [nrz]
 refine tkz 32 (v := .bool true) rfl hS4 (fun w' hS' => ?ay32) ?az32
 case ay32 =>
  clear hS'
  go_simp
  first | done | rfl | (simp; done)
 simp only [nrz]
 refine tkz 33 rfl hS4 (fun w' hS' => by go_simp; rfl) ?_
 simp only [nrz]
 refine tkz 34 (v := .bool true) rfl hS4 (fun w' hS' => ?ay34) ?az34
 case ay34 =>
  clear hS'
  go_simp
  first | done | rfl | (simp; done)
 simp only [nrz]
 refine tkz 35 (v := .bool true) rfl hS4 (fun w' hS' => ?ay35) ?az35
 case ay35 =>
  clear hS'
  go_simp
  first | done | rfl | (simp; done)
 simp only [nrz]
 refine tkz 36 rfl hS4 (fun w' hS' => by go_simp; rfl) ?_
 simp only [nrz]
 refine done_ops (by kernel_rfl) ?_
 replace hB := tmB hB hS4
 clear hS hS1 hS2 hS3 hS4 kA kB rp rq
 go_wp2_with fail
 go_ret
 exact ⟨rfl, hB⟩
end Go.Proofs.YtekiemlniegddaaGreat
namespace Go.Proofs.YtekiemlniegddaaGreat
open Go Go.RowKit Go.Shelf
theorem swithin (n lo hi : Int) (v : Bool) (hv : inR n lo hi = v) (w : World) :
  Calls Tryz.prog 44 #[.int .i64 n, .int .i64 lo, .int .i64 hi] w fun e w' => e = .returned (.bool v) ∧ w = w' := by
 subst hv
 unfold inR
 cases h1 : decide (lo ≤ n) <;> cases h2 : decide (n ≤ hi)
 all_goals
  simp only [decide_eq_true_eq, decide_eq_false_iff_not] at h1 h2
  go_enter Tryz.func44, Tryz.ntmps44
  go_wp2
  go_ret
  exact ⟨ret_bool (by simp; try omega), rfl⟩
end Go.Proofs.YtekiemlniegddaaGreat
namespace Go.Proofs.YtekiemlniegddaaGreat
open Go Go.RowKit Go.Shelf
set_option maxRecDepth 100000 in
set_option maxHeartbeats 2000000 in
theorem rvector_any (v : VecN) (q : Bool) (hq : vecB v = q) (w : World) :
  Calls Tryz.prog 26 #[.agg #[.int .i64 v.lanes, .int .i64 v.regs, .int .i64 v.mem]] w fun e w' => e = .returned (.bool q) ∧ Below w.heap.size w w' := by
 have hB : Below w.heap.size w w := Below.refl _ _
 obtain ⟨q1, h1⟩ : ∃ q, inR v.lanes 1 16 = q := ⟨_, rfl⟩
 obtain ⟨q2, h2⟩ : ∃ q, inR v.regs 2 16 = q := ⟨_, rfl⟩
 obtain ⟨q3, h3⟩ : ∃ q, inR v.mem 1 8192 = q := ⟨_, rfl⟩
 have hq0 : vecB v = (q1 && (q2 && q3)) := by unfold vecB; rw [h1, h2, h3]
 rw [hq] at hq0
 have h1H := Lib.hid h1
 have h2H := Lib.hid h2
 have h3H := Lib.hid h3
 have hqH := Lib.hid hq0
 clear h1 h2 h3 hq hq0
 have tok1 : True := trivial
 have tok2 : True := trivial
 have tok3 : True := trivial
 obtain ⟨V1, hEV1, hbV1, kv⟩ := newB w 26 #[.int .i64 v.lanes, .int .i64 v.regs, .int .i64 v.mem]
 replace hB := tmB hB hbV1
 clear hbV1
 obtain ⟨m0, m1, m2⟩ := cz3 kv
 cases q1 with
 | false =>
  have hqf : q = false := by rw [hqH.out]; rfl
  subst hqf
  go_enter Tryz.func26, Tryz.ntmps26
  go_wp2_with (go_at_call 44; have _t := tok1; refine (swithin v.lanes 1 16 false h1H.out _).mono ?_; clear _t tok1; rintro e w' ⟨rfl, rfl⟩)
  go_ret
  exact ⟨rfl, hB⟩
 | true =>
  cases q2 with
  | false =>
   have hqf : q = false := by rw [hqH.out]; rfl
   subst hqf
   go_enter Tryz.func26, Tryz.ntmps26
   go_wp2_with (first
    | (go_at_call 44; have _t := tok1; refine (swithin v.lanes 1 16 true h1H.out _).mono ?_; clear _t tok1; rintro e w' ⟨rfl, rfl⟩)
    | (go_at_call 44; have _t := tok2; refine (swithin v.regs 2 16 false h2H.out _).mono ?_; clear _t tok2; rintro e w' ⟨rfl, rfl⟩))
   go_ret
   exact ⟨rfl, hB⟩
  | true =>
   have hqf : q = q3 := by rw [hqH.out]; rfl
   subst hqf
   go_enter Tryz.func26, Tryz.ntmps26
   go_wp2_with (first
    | (go_at_call 44; have _t := tok1; refine (swithin v.lanes 1 16 true h1H.out _).mono ?_; clear _t tok1; rintro e w' ⟨rfl, rfl⟩)
    | (go_at_call 44; have _t := tok2; refine (swithin v.regs 2 16 true h2H.out _).mono ?_; clear _t tok2; rintro e w' ⟨rfl, rfl⟩)
    | (go_at_call 44; have _t := tok3; refine (swithin v.mem 1 8192 q h3H.out _).mono ?_; clear _t tok3; rintro e w' ⟨rfl, rfl⟩))
   go_ret
   exact ⟨rfl, hB⟩
end Go.Proofs.YtekiemlniegddaaGreat

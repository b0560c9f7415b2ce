/- Contracts and laws (PHe, PRd, PSw, PRx). -/
import Derived.Test.YtekiemlniegddaaGreatQH14
import Derived.Test.YtekiemlniegddaaGreatQH6
import Derived.Test.YtekiemlniegddaaGreatQH10
set_option linter.unusedVariables false
set_option linter.unusedSimpArgs false
namespace Go.Proofs.YtekiemlniegddaaGreat
open Go Go.Maps Go.RowKit Go.Shelf
set_option maxRecDepth 100000 in
set_option maxHeartbeats 8000000 in
theorem head_any (B : Nat) (w : World) (P : CmP) (bc bm km M : Nat) (C : CmN) (fv cv : Value) (l : Nat → InsA) (hcm : CmAt B w P bc bm km M C fv cv l) (hlen : C.code.length ≤ 900000) (L : Nat) (hvl : P.vl = (L : Int)) (hw : 1 ≤ P.w ∧ P.w ≤ 16) (hh : 1 ≤ P.h ∧ P.h ≤ 16) (hL : 1 ≤ L ∧ L ≤ 16) (gr : Nat) (hgr : gr ≤ 256)
  (s : StepN) (hs : StepIn s) (hn : needB s = true) (ka sa : Option Addr) (kc sc : Nat) (hM : M < 100) (hop : ∀ m ∈ opsN s, (0 ≤ m ∧ m < M) ∧ 0 ≤ numF (C.at_ m) ∧ numF (C.at_ m) ≤ 100000) (hta : Rd B w ka s.taps) (hbi : RdB B w sa s.bits) :
  Calls Tryz.prog 107 #[.pointer (some ⟨bc, 0, none⟩), stepv s ka kc sa sc, .int .i64 (gr : Int)] w fun e w' => (∃ vv, e = .returned vv) ∧ ∃ cv' l', CmAt B w' P bc bm km M ⟨C.at_, C.free, C.code ++ headC P.w P.h L gr C.at_ s⟩ fv cv' l' ∧ Trn (CmS bc bm C.code.length fv cv l) w w' ∧
   ∀ b, CmS bc bm (C.code ++ headC P.w P.h L gr C.at_ s).length fv cv' l' b → CmS bc bm C.code.length fv cv l b ∨ w.heap.size ≤ b := by
 obtain ⟨S0, hS0⟩ : ∃ S0, CmS bc bm C.code.length fv cv l = S0 := ⟨_, rfl⟩
 rw [hS0]
 have hB : Below w.heap.size w w := Below.refl _ _
 have hopr := hs.op
 have hBw : B ≤ w.heap.size := by have := hcm.lo; have := hcm.c.lt; omega
 have hS0B : ∀ b, S0 b → B ≤ b := fun b hb => (hcm.own b (by rw [hS0]; exact hb)).1
 have hS0H := Lib.hid hS0B
 clear hS0B
 have hsub : ∀ b, CmS bc bm C.code.length fv cv l b → S0 b ∨ w.heap.size ≤ b := fun b hb => .inl (hS0 ▸ hb)
 clear hS0
 obtain ⟨V1, hEV1, hbV1, kp⟩ := newB w 100 #[.pointer (some ⟨bc, 0, none⟩)]
 replace hcm := hcm.below hbV1
 replace hB := tmB hB hbV1
 clear hbV1
 obtain ⟨bp, hbp⟩ : ∃ b, w.heap.size = b := ⟨_, rfl⟩
 rw [hbp] at kp
 obtain ⟨V2, hEV2, hbV2, ks⟩ := newB V1 76 #[.int .u8 s.op, .int .i64 s.a, .int .i64 s.b, .int .i64 s.pt.mul, .int .i64 s.pt.add, .int .i64 s.pt.div, .int .i64 s.pt.lo, .int .i64 s.pt.hi, .int .u8 s.how, .int .i64 s.kw, .int .i64 s.kh, .slice ka s.taps.length kc, .int .u8 s.bd, .int .i64 s.sw, .int .i64 s.sh, .slice sa s.bits.length sc]
 replace kp := kp.below hbV2 kp.lt
 replace hcm := hcm.below hbV2
 replace hB := tmB hB hbV2
 clear hbV2
 obtain ⟨bs, hbs⟩ : ∃ b, V1.heap.size = b := ⟨_, rfl⟩
 rw [hbs] at ks
 obtain ⟨V3, hEV3, hbV3, kg⟩ := newB V2 3 #[.int .i64 (gr : Int)]
 replace kp := kp.below hbV3 kp.lt
 replace ks := ks.below hbV3 ks.lt
 replace hcm := hcm.below hbV3
 replace hB := tmB hB hbV3
 clear hbV3
 obtain ⟨bg, hbg⟩ : ∃ b, V2.heap.size = b := ⟨_, rfl⟩
 rw [hbg] at kg
 have z0 := kp.cell (i := 0) rfl
 obtain ⟨y0, y1, y2, y3, y4, y5, y6, y7, y8, y9, y10, y11, y12, y13, y14, y15⟩ := cz16 ks
 have x0 := kg.cell (i := 0) rfl
 have h0 : Hd B S0 w V3 P bc bm km M C fv bp bs bg gr #[.int .u8 s.op, .int .i64 s.a, .int .i64 s.b, .int .i64 s.pt.mul, .int .i64 s.pt.add, .int .i64 s.pt.div, .int .i64 s.pt.lo, .int .i64 s.pt.hi, .int .u8 s.how, .int .i64 s.kw, .int .i64 s.kh, .slice ka s.taps.length kc, .int .u8 s.bd, .int .i64 s.sw, .int .i64 s.sh, .slice sa s.bits.length sc] := ⟨cv, l, ⟨hcm, kp, ks, kg, Below.trn0 hB S0, hsub⟩⟩
 have hfin : ∀ (W : World) (D : CmN), D = ⟨C.at_, C.free, C.code ++ headC P.w P.h L gr C.at_ s⟩ → Hd B S0 w W P bc bm km M D fv bp bs bg gr #[.int .u8 s.op, .int .i64 s.a, .int .i64 s.b, .int .i64 s.pt.mul, .int .i64 s.pt.add, .int .i64 s.pt.div, .int .i64 s.pt.lo, .int .i64 s.pt.hi, .int .u8 s.how, .int .i64 s.kw, .int .i64 s.kh, .slice ka s.taps.length kc, .int .u8 s.bd, .int .i64 s.sw, .int .i64 s.sh, .slice sa s.bits.length sc] → ∃ cv' l', CmAt B W P bc bm km M ⟨C.at_, C.free, C.code ++ headC P.w P.h L gr C.at_ s⟩ fv cv' l' ∧ Trn S0 w W ∧ ∀ b, CmS bc bm (C.code ++ headC P.w P.h L gr C.at_ s).length fv cv' l' b → S0 b ∨ w.heap.size ≤ b := fun W D hD h => by
  subst hD
  obtain ⟨cv', l', h⟩ := h
  exact ⟨cv', l', h.cm, h.ht, h.sub⟩
 have hfinH := Lib.hid hfin
 clear hfin hcm kp ks kg hsub
 go_enter Tryz.func107, Tryz.ntmps107
 have tok1 : True := trivial
 have tok2 : True := trivial
 have tok3 : True := trivial
 have hopA := hop _ (opsN_a s)
 obtain ⟨A, hA⟩ : ∃ A : Nat, s.a = (A : Int) := ⟨s.a.toNat, by omega⟩
 rw [hA] at hopA
 have hAH := Lib.hid hA
 have y1' := y1
 rw [hA] at y1'
 clear hA y1
 by_cases e1 : s.op = 1
 case pos =>
  have e1b : (s.op == 1) = true := by simp [e1]
  have e1H := Lib.hid e1
  clear e1
  go_wp2_with (first
   | (go_at_call 147; have _t := tok1; refine (h0.load (by omega) L hvl hw hh hL hgr 0 A (by omega) hM 0 0 0 0 hopA.2 (by omega) (by omega) (by omega)).mono ?_; clear _t tok1; rintro e W4 ⟨⟨v1, rfl⟩, h1⟩; have z0' := h1.pcell; have u3 := h1.scell (j := 3) rfl; have u4 := h1.scell (j := 4) rfl; have u5 := h1.scell (j := 5) rfl; have u6 := h1.scell (j := 6) rfl; have u7 := h1.scell (j := 7) rfl)
   | (go_at_call 108; have _t := tok2; refine (h1.emit (by simp; omega) (insP s.pt) rfl).mono ?_; clear _t tok2; rintro e W5 ⟨⟨v2, rfl⟩, h2⟩))
  go_end0
  exact ⟨⟨_, rfl⟩, hfinH.out _ _ (by unfold headC; rw [if_pos e1H.out, hAH.out]; simp) h2⟩
 case neg =>
 have e1b : (s.op == 1) = false := by simp [e1]
 have e1H := Lib.hid e1
 clear e1
 by_cases e2 : s.op = 2
 case pos =>
  have e2b : (s.op == 2) = true := by simp [e2]
  have e2H := Lib.hid e2
  have hmb : s.b ∈ opsN s := by
   unfold opsN
   by_cases hab : s.a = s.b
   ·rw [if_neg (fun h => h.2 hab), hab]; simp
   ·rw [if_pos ⟨e2, hab⟩]; simp
  have hopB := hop _ hmb
  clear e2 hmb
  obtain ⟨Bn, hBn⟩ : ∃ A : Nat, s.b = (A : Int) := ⟨s.b.toNat, by omega⟩
  rw [hBn] at hopB
  have hBH := Lib.hid hBn
  clear hBn
  go_wp2_with (first
   | (go_at_call 147; have _t := tok1; refine (h0.load (by omega) L hvl hw hh hL hgr 0 A (by omega) hM 0 0 0 0 hopA.2 (by omega) (by omega) (by omega)).mono ?_; clear _t tok1; rintro e W4 ⟨⟨v1, rfl⟩, h1⟩; have u2 := h1.scell (j := 2) rfl; rw [hBH.out] at u2)
   | (go_at_call 147; have _t := tok2; refine (h1.load (by simp; omega) L hvl hw hh hL hgr 1 Bn (by omega) hM 0 0 0 0 hopB.2 (by omega) (by omega) (by omega)).mono ?_; clear _t tok2; rintro e W5 ⟨⟨v2, rfl⟩, h2⟩; have z0' := h2.pcell; have u4 := h2.scell (j := 8) rfl)
   | (go_at_call 108; have _t := tok3; refine (h2.emit (by simp; omega) (insZ s.how) rfl).mono ?_; clear _t tok3; rintro e W6 ⟨⟨v3, rfl⟩, h3⟩))
  go_end0
  exact ⟨⟨_, rfl⟩, hfinH.out _ _ (by unfold headC; rw [if_neg e1H.out, if_pos e2H.out, hAH.out, hBH.out]; simp) h3⟩
 case neg =>
 have e2b : (s.op == 2) = false := by simp [e2]
 have e2H := Lib.hid e2
 clear e2
 by_cases e3 : s.op = 3
 case pos =>
  have e3b : (s.op == 3) = true := by simp [e3]
  have e3H := Lib.hid e3
  have hnk : kernOk s.kw s.kh s.taps = true ∧ (1 ≤ s.bd ∧ s.bd ≤ 3) := by
   have h := hn
   unfold needB at h
   rw [if_neg e1H.out, if_neg e2H.out, if_pos e3] at h
   simpa using h
  clear e3
  obtain ⟨hk1, hbd⟩ := hnk
  obtain ⟨_, _, _, hk4, _⟩ := kern_facts hk1
  have hsd : (1 ≤ s.kw ∧ s.kw ≤ 5) ∧ (1 ≤ s.kh ∧ s.kh ≤ 5) := by
   have h := hk1
   unfold kernOk at h
   rw [Bool.and_eq_true] at h
   have h2 := sidesB_true h.1
   omega
  have htl := hs.tl
  obtain ⟨nt, hnt⟩ : ∃ n, s.taps.length = n := ⟨_, rfl⟩
  have hntH := Lib.hid hnt
  have y11' := y11
  rw [hnt] at hk4 htl y11'
  clear y11 hnt
  go_wp2_with (first
   | (go_at_call 108; have _t := tok1; refine (h0.emit (by omega) insC rfl).mono ?_; clear _t tok1; rintro e W4 ⟨⟨v1, rfl⟩, h1⟩; have u11 := h1.scell (j := 11) rfl; rw [hntH.out] at u11))
  clear tok2 tok3
  obtain ⟨v, hv⟩ : ∃ v, numF (C.at_ (A : Int)) = v := ⟨_, rfl⟩
  rw [hv] at hopA
  have hvH := Lib.hid hv
  clear hv
  have h1' : Hd B S0 w W4 P bc bm km M ⟨C.at_, C.free, C.code ++ (insC :: tapsC P.w P.h L gr v s 0)⟩ fv bp bs bg gr #[.int .u8 s.op, .int .i64 s.a, .int .i64 s.b, .int .i64 s.pt.mul, .int .i64 s.pt.add, .int .i64 s.pt.div, .int .i64 s.pt.lo, .int .i64 s.pt.hi, .int .u8 s.how, .int .i64 s.kw, .int .i64 s.kh, .slice ka s.taps.length kc, .int .u8 s.bd, .int .i64 s.sw, .int .i64 s.sh, .slice sa s.bits.length sc] := h1
  clear h1 u11 y11'
  go_loopw [113] (fun i wr => ∃ k : Nat, k ≤ nt ∧ i = .int .i64 (k : Int) ∧ Hd B S0 w wr P bc bm km M ⟨C.at_, C.free, C.code ++ (insC :: tapsC P.w P.h L gr v s k)⟩ fv bp bs bg gr #[.int .u8 s.op, .int .i64 s.a, .int .i64 s.b, .int .i64 s.pt.mul, .int .i64 s.pt.add, .int .i64 s.pt.div, .int .i64 s.pt.lo, .int .i64 s.pt.hi, .int .u8 s.how, .int .i64 s.kw, .int .i64 s.kh, .slice ka s.taps.length kc, .int .u8 s.bd, .int .i64 s.sw, .int .i64 s.sh, .slice sa s.bits.length sc]) (fun i _ => nt - (intOf i).toNat)
  case atStart => exact ⟨0, Nat.zero_le _, rfl, h1'⟩
  case round =>
   clear h1'
   obtain ⟨k, hk, rfl, h⟩ := hrel
   by_cases hlt : k < nt
   case neg =>
    have hltd : decide ((k : Int) < (nt : Int)) = false := by simp; omega
    have hkn : nt = k := by omega
    subst hkn
    go_wp2_with fail
    go_end0
    exact ⟨⟨_, rfl⟩, hfinH.out _ _ (by unfold headC; rw [if_neg e1H.out, if_neg e2H.out, if_pos e3H.out, hAH.out, hvH.out, hntH.out]) h⟩
   case pos =>
    have hltd : decide ((k : Int) < (nt : Int)) = true := by simp; omega
    have hlt' : k < s.taps.length := by have := hntH.out; omega
    have hlow := h.low hBw hS0H.out
    obtain ⟨tb, t0, rfl, htb, htc⟩ : ∃ b o, ka = some ⟨b, o, none⟩ ∧ b < B ∧ ∀ i, i < s.taps.length → w.cell? ⟨b, o + i, none⟩ = some (.int .i64 (s.taps[i]?.getD 0)) := by
     rcases hta with h0 | ⟨b, o, h1, h2, h3⟩
     ·exfalso; rw [h0] at hlt'; simp at hlt'
     ·exact ⟨b, o, h1, h2, h3⟩
    have ct := (hlow.cell (p := ⟨tb, t0 + k, none⟩) htb).trans (htc k hlt')
    have hstep : tapsC P.w P.h L gr v s (k + 1) = tapsC P.w P.h L gr v s k ++ (if s.taps[k]?.getD 0 = 0 then [] else [insL P.w P.h L gr 1 v (s.kw / 2 - (k : Int) % s.kw) (s.kh / 2 - (k : Int) / s.kw) 0 s.bd, insA (s.taps[k]?.getD 0)]) := rfl
    obtain ⟨x, hx⟩ : ∃ x, s.taps[k]?.getD 0 = x := ⟨_, rfl⟩
    rw [hx] at ct hstep
    have hstepH := Lib.hid hstep
    have hln := taps_len P.w P.h L gr v s k
    have hnz := nz_le s.taps k
    have hlenk : (insC :: tapsC P.w P.h L gr v s k).length ≤ 100 := by rw [List.length_cons, hln]; omega
    clear htc hx hstep hlow hln hnz
    by_cases hx0 : x = 0
    case pos =>
     have hx0b : (x != 0) = false := by simp [hx0]
     have hnx : tapsC P.w P.h L gr v s (k + 1) = tapsC P.w P.h L gr v s k := by rw [hstepH.out, if_pos hx0]; simp
     rw [← hnx] at h
     clear hnx hx0
     go_wp2_with fail
     go_roundw
     case rel => exact ⟨k + 1, by omega, by go_num, h⟩
     case measure => simp [intOf]; omega
    case neg =>
     have hx0b : (x != 0) = true := by simp [hx0]
     have hnx : tapsC P.w P.h L gr v s (k + 1) = tapsC P.w P.h L gr v s k ++ [insL P.w P.h L gr 1 v (s.kw / 2 - (k : Int) % s.kw) (s.kh / 2 - (k : Int) / s.kw) 0 s.bd, insA x] := by rw [hstepH.out, if_neg hx0]
     have hnxH := Lib.hid hnx
     clear hnx hx0
     have g1 : s.kw.tdiv 2 = s.kw / 2 := Int.tdiv_eq_ediv_of_nonneg (by omega)
     have g2 : s.kh.tdiv 2 = s.kh / 2 := Int.tdiv_eq_ediv_of_nonneg (by omega)
     have g3 : (k : Int).tmod s.kw = (k : Int) % s.kw := Int.tmod_eq_emod_of_nonneg (by omega)
     have g4 : (k : Int).tdiv s.kw = (k : Int) / s.kw := Int.tdiv_eq_ediv_of_nonneg (by omega)
     have b1 := Int.emod_nonneg (k : Int) (show s.kw ≠ 0 by omega)
     have b2 := Int.emod_lt_of_pos (k : Int) (show 0 < s.kw by omega)
     have b3 : 0 ≤ (k : Int) / s.kw := Int.ediv_nonneg (by omega) (by omega)
     have b4 : (k : Int) / s.kw ≤ (k : Int) := Int.ediv_le_self _ (by omega)
     obtain ⟨r1, hr1⟩ : ∃ r, (k : Int) % s.kw = r := ⟨_, rfl⟩
     obtain ⟨r2, hr2⟩ : ∃ r, (k : Int) / s.kw = r := ⟨_, rfl⟩
     obtain ⟨r3, hr3⟩ : ∃ r, s.kw / 2 = r := ⟨_, rfl⟩
     obtain ⟨r4, hr4⟩ : ∃ r, s.kh / 2 = r := ⟨_, rfl⟩
     have b5 : 0 ≤ r3 ∧ r3 ≤ 2 ∧ 0 ≤ r4 ∧ r4 ≤ 2 := by omega
     have hnx2 := hnxH.out
     rw [hr1, hr2, hr3, hr4] at hnx2
     rw [hr1] at g3 b1 b2
     rw [hr2] at g4 b3 b4
     rw [hr3] at g1
     rw [hr4] at g2
     have hnx2H := Lib.hid hnx2
     clear hnx2 hr1 hr2 hr3 hr4
     have zk : ¬ s.kw = 0 := by omega
     have zkb : (s.kw == 0) = false := by simp [zk]
     have hS : Blk wr.drew bs 76 #[.int .u8 s.op, .int .i64 s.a, .int .i64 s.b, .int .i64 s.pt.mul, .int .i64 s.pt.add, .int .i64 s.pt.div, .int .i64 s.pt.lo, .int .i64 s.pt.hi, .int .u8 s.how, .int .i64 s.kw, .int .i64 s.kh, .slice (some ⟨tb, t0, none⟩) s.taps.length kc, .int .u8 s.bd, .int .i64 s.sw, .int .i64 s.sh, .slice sa s.bits.length sc] := (h.below (Below.refl _ wr).drew).box
     have h2 := h.below (Below.refl _ wr).drew
     clear h
     go_wp2_with fail
     refine plain_region (fun W' => Blk W' bs 76 #[.int .u8 s.op, .int .i64 s.a, .int .i64 s.b, .int .i64 s.pt.mul, .int .i64 s.pt.add, .int .i64 s.pt.div, .int .i64 s.pt.lo, .int .i64 s.pt.hi, .int .u8 s.how, .int .i64 s.kw, .int .i64 s.kh, .slice (some ⟨tb, t0, none⟩) s.taps.length kc, .int .u8 s.bd, .int .i64 s.sw, .int .i64 s.sh, .slice sa s.bits.length sc]) 26 26 (by kernel_rfl) rfl ?_
     simp only [Array.replicate_succ, Array.replicate_zero, List.push_toArray, List.nil_append, List.cons_append]
     obtain ⟨X0, hXX0⟩ : ∃ X : World, wr.drew = X := ⟨_, rfl⟩
     rw [hXX0] at hS h2 ⊢
     clear hXX0
     refine tkz 0 rfl hS (fun w' hS' => by go_simp; rfl) ?_
     simp only [nrz]
     refine tkz 1 rfl hS (fun w' hS' => by go_simp; rfl) ?_
     simp only [nrz]
     refine tkz 2 (v := ?gv2) rfl hS (fun w' hS' => ?gy2) ?gz2
     case gy2 =>
      have y1 := hS'.cell (i := 1) rfl
      rw [hAH.out] at y1
      have y9 := hS'.cell (i := 9) rfl
      have y10 := hS'.cell (i := 10) rfl
      have y12 := hS'.cell (i := 12) rfl
      clear hS'
      go_simp
      rfl
     simp only [nrz]
     refine tkz 3 rfl hS (fun w' hS' => by go_simp; rfl) ?_
     simp only [nrz]
     refine tkz 4 rfl hS (fun w' hS' => by go_simp; rfl) ?_
     simp only [nrz]
     refine tkz 5 (v := ?gv5) rfl hS (fun w' hS' => ?gy5) ?gz5
     case gy5 =>
      have y1 := hS'.cell (i := 1) rfl
      rw [hAH.out] at y1
      have y9 := hS'.cell (i := 9) rfl
      have y10 := hS'.cell (i := 10) rfl
      have y12 := hS'.cell (i := 12) rfl
      clear hS'
      go_simp
      rfl
     simp only [nrz]
     refine tkz 6 rfl hS (fun w' hS' => by go_simp; (try go_ints); rfl) ?_
     simp only [nrz]
     refine tkz 7 rfl hS (fun w' hS' => by go_simp; rfl) ?_
     simp only [nrz]
     refine tkz 8 rfl hS (fun w' hS' => by go_simp; rfl) ?_
     simp only [nrz]
     refine tkz 9 rfl hS (fun w' hS' => by go_simp; rfl) ?_
     simp only [nrz]
     refine tkz 10 (v := ?gv10) rfl hS (fun w' hS' => ?gy10) ?gz10
     case gy10 =>
      have y1 := hS'.cell (i := 1) rfl
      rw [hAH.out] at y1
      have y9 := hS'.cell (i := 9) rfl
      have y10 := hS'.cell (i := 10) rfl
      have y12 := hS'.cell (i := 12) rfl
      clear hS'
      go_simp
      rfl
     simp only [nrz]
     refine tkz 11 rfl hS (fun w' hS' => by go_simp; (try go_ints); rfl) ?_
     simp only [nrz]
     refine tkz 12 rfl hS (fun w' hS' => by go_simp; (try go_ints); rfl) ?_
     simp only [nrz]
     refine tkz 13 rfl hS (fun w' hS' => by go_simp; rfl) ?_
     simp only [nrz]
     refine tkz 14 rfl hS (fun w' hS' => by go_simp; rfl) ?_
     simp only [nrz]
     refine tkz 15 (v := ?gv15) rfl hS (fun w' hS' => ?gy15) ?gz15
     case gy15 =>
      have y1 := hS'.cell (i := 1) rfl
      rw [hAH.out] at y1
      have y9 := hS'.cell (i := 9) rfl
      have y10 := hS'.cell (i := 10) rfl
      have y12 := hS'.cell (i := 12) rfl
      clear hS'
      go_simp
      rfl
     simp only [nrz]
     refine tkz 16 rfl hS (fun w' hS' => by go_simp; (try go_ints); rfl) ?_
     simp only [nrz]
     refine tkz 17 rfl hS (fun w' hS' => by go_simp; rfl) ?_
     simp only [nrz]
     refine tkz 18 rfl hS (fun w' hS' => by go_simp; rfl) ?_
     simp only [nrz]
     refine tkz 19 rfl hS (fun w' hS' => by go_simp; rfl) ?_
     simp only [nrz]
     refine tkz 20 (v := ?gv20) rfl hS (fun w' hS' => ?gy20) ?gz20
     case gy20 =>
      have y1 := hS'.cell (i := 1) rfl
      rw [hAH.out] at y1
      have y9 := hS'.cell (i := 9) rfl
      have y10 := hS'.cell (i := 10) rfl
      have y12 := hS'.cell (i := 12) rfl
      clear hS'
      go_simp
      rfl
     simp only [nrz]
     refine tkz 21 rfl hS (fun w' hS' => by go_simp; (try go_ints); rfl) ?_
     simp only [nrz]
     refine tkz 22 rfl hS (fun w' hS' => by go_simp; (try go_ints); rfl) ?_
     simp only [nrz]
     refine tkz 23 rfl hS (fun w' hS' => by go_simp; rfl) ?_
     simp only [nrz]
     refine tkz 24 (v := ?gv24) rfl hS (fun w' hS' => ?gy24) ?gz24
     case gy24 =>
      have y1 := hS'.cell (i := 1) rfl
      rw [hAH.out] at y1
      have y9 := hS'.cell (i := 9) rfl
      have y10 := hS'.cell (i := 10) rfl
      have y12 := hS'.cell (i := 12) rfl
      clear hS'
      go_simp
      rfl
     simp only [nrz]
     refine step_op 25 (by kernel_rfl) rfl (fun K hK => ?_)
     have hc := h2.load (by simp only [List.length_append]; omega) L hvl hw hh hL hgr 1 A (by omega) hM (r3 - r1) (r4 - r2) 0 s.bd (by show 0 ≤ numF (C.at_ (A : Int)) ∧ numF (C.at_ (A : Int)) ≤ 100000; rw [hvH.out]; exact hopA.2) (by omega) (by omega) (by omega)
     rw [if_pos (by rfl)]
     go_simp
     refine hc.mono ?_
     clear hc
     rintro e X9 ⟨⟨v5, rfl⟩, h3⟩
     have hS9 := h3.box
     clear h2
     refine hK.out _ _ (fun h => hS9) ?_
     clear hK K
     try simp only [Act.put, nrz]
     refine done_ops (by kernel_rfl) ?_
     rw [hvH.out] at h3
     have z0' := h3.pcell
     go_wp2_with (go_at_call 108; refine (h3.emit (by simp only [List.length_append, List.length_singleton]; omega) (insA x) rfl).mono ?_; rintro e W9 ⟨⟨v6, rfl⟩, h4⟩)
     have h5 : Hd B S0 w W9 P bc bm km M ⟨C.at_, C.free, C.code ++ (insC :: tapsC P.w P.h L gr v s (k + 1))⟩ fv bp bs bg gr #[.int .u8 s.op, .int .i64 s.a, .int .i64 s.b, .int .i64 s.pt.mul, .int .i64 s.pt.add, .int .i64 s.pt.div, .int .i64 s.pt.lo, .int .i64 s.pt.hi, .int .u8 s.how, .int .i64 s.kw, .int .i64 s.kh, .slice (some ⟨tb, t0, none⟩) s.taps.length kc, .int .u8 s.bd, .int .i64 s.sw, .int .i64 s.sh, .slice sa s.bits.length sc] := by rw [hnx2H.out]; simpa using h4
     clear h3 h4
     go_roundw
     case rel => exact ⟨k + 1, by omega, by go_num, h5⟩
     case measure => simp [intOf]; omega
 case neg =>
 have e3b : (s.op == 3) = false := by simp [e3]
 have e3H := Lib.hid e3
 have hsh4 : shapeOk s.sw s.sh s.bits = true ∧ (s.op = 4 ∨ s.op = 5) := by
  have h := hn
  unfold needB at h
  rw [if_neg e1H.out, if_neg e2H.out, if_neg e3] at h
  by_cases h45 : s.op = 4 ∨ s.op = 5
  ·rw [if_pos h45] at h; exact ⟨h, h45⟩
  ·rw [if_neg h45] at h; cases h
 clear e3
 obtain ⟨hk1, h45⟩ := hsh4
 have h45H := Lib.hid h45
 clear h45
 have hk4 := (shape_facts hk1).2.2.2.1
 have hsd : (1 ≤ s.sw ∧ s.sw ≤ 5) ∧ (1 ≤ s.sh ∧ s.sh ≤ 5) := by
  have h := hk1
  unfold shapeOk at h
  rw [Bool.and_eq_true] at h
  have h2 := sidesB_true h.1
  omega
 have hbl := hs.bl
 obtain ⟨nb, hnb⟩ : ∃ n, s.bits.length = n := ⟨_, rfl⟩
 have hnbH := Lib.hid hnb
 have y15' := y15
 rw [hnb] at hk4 hbl y15'
 clear y15 hnb
 obtain ⟨v, hv⟩ : ∃ v, numF (C.at_ (A : Int)) = v := ⟨_, rfl⟩
 rw [hv] at hopA
 have hvH := Lib.hid hv
 clear hv tok1 tok2 tok3
 by_cases e4 : s.op = 4
 case pos =>
  have e4b : (s.op == 4) = true := by simp [e4]
  have hsgn : sgnC s = -1 := by unfold sgnC; rw [if_pos e4]
  have hvalC : valC s = -2147483648 := by unfold valC; rw [if_pos e4]
  have hhow : howC s = 4 := by unfold howC; rw [if_pos e4]
  have hsgnH := Lib.hid hsgn
  have hvalH := Lib.hid hvalC
  have hhowH := Lib.hid hhow
  clear hsgn hvalC hhow e4
  go_wp2_with fail
  have h0' : Hd B S0 w V3 P bc bm km M ⟨C.at_, C.free, C.code ++ bitsC P.w P.h L gr v s 0⟩ fv bp bs bg gr #[.int .u8 s.op, .int .i64 s.a, .int .i64 s.b, .int .i64 s.pt.mul, .int .i64 s.pt.add, .int .i64 s.pt.div, .int .i64 s.pt.lo, .int .i64 s.pt.hi, .int .u8 s.how, .int .i64 s.kw, .int .i64 s.kh, .slice ka s.taps.length kc, .int .u8 s.bd, .int .i64 s.sw, .int .i64 s.sh, .slice sa s.bits.length sc] := by rw [show bitsC P.w P.h L gr v s 0 = [] from rfl, List.append_nil]; exact h0
  clear h0
  go_loopw [12, 27] (fun f i wr => ∃ k : Nat, k ≤ nb ∧ i = .int .i64 (k : Int) ∧ f = .bool (noBit s k) ∧ Hd B S0 w wr P bc bm km M ⟨C.at_, C.free, C.code ++ bitsC P.w P.h L gr v s k⟩ fv bp bs bg gr #[.int .u8 s.op, .int .i64 s.a, .int .i64 s.b, .int .i64 s.pt.mul, .int .i64 s.pt.add, .int .i64 s.pt.div, .int .i64 s.pt.lo, .int .i64 s.pt.hi, .int .u8 s.how, .int .i64 s.kw, .int .i64 s.kh, .slice ka s.taps.length kc, .int .u8 s.bd, .int .i64 s.sw, .int .i64 s.sh, .slice sa s.bits.length sc]) (fun _ i _ => nb - (intOf i).toNat)
  case atStart => exact ⟨0, Nat.zero_le _, rfl, rfl, h0'⟩
  case round =>
   clear h0'
   obtain ⟨k, hk, rfl, rfl, h⟩ := hrel
   by_cases hlt : k < nb
   case neg =>
    have hltd : decide ((k : Int) < (nb : Int)) = false := by simp; omega
    have hkn : nb = k := by omega
    subst hkn
    go_wp2_with fail
    go_end0
    exact ⟨⟨_, rfl⟩, hfinH.out _ _ (by unfold headC; rw [if_neg e1H.out, if_neg e2H.out, if_neg e3H.out, hAH.out, hvH.out, hnbH.out]) h⟩
   case pos =>
    have hltd : decide ((k : Int) < (nb : Int)) = true := by simp; omega
    have hlt' : k < s.bits.length := by have := hnbH.out; omega
    have hlow := h.low hBw hS0H.out
    obtain ⟨tb, t0, rfl, htb, htc⟩ : ∃ b o, sa = some ⟨b, o, none⟩ ∧ b < B ∧ ∀ i, i < s.bits.length → w.cell? ⟨b, o + i, none⟩ = some (.bool (s.bits[i]?.getD false)) := by
     rcases hbi with h0 | ⟨b, o, h1, h2, h3⟩
     ·exfalso; rw [h0] at hlt'; simp at hlt'
     ·exact ⟨b, o, h1, h2, h3⟩
    have ct := (hlow.cell (p := ⟨tb, t0 + k, none⟩) htb).trans (htc k hlt')
    have hstep : bitsC P.w P.h L gr v s (k + 1) = bitsC P.w P.h L gr v s k ++ (if bitAt s k = false then [] else if noBit s k = true then [insL P.w P.h L gr 0 v (sgnC s * ((k : Int) % s.sw - s.sw / 2)) (sgnC s * ((k : Int) / s.sw - s.sh / 2)) (valC s) 0] else [insL P.w P.h L gr 1 v (sgnC s * ((k : Int) % s.sw - s.sw / 2)) (sgnC s * ((k : Int) / s.sw - s.sh / 2)) (valC s) 0, insZ (howC s)]) := rfl
    have hnoS : noBit s (k + 1) = (noBit s k && !bitAt s k) := rfl
    rw [show s.bits[k]?.getD false = bitAt s k from rfl] at ct
    obtain ⟨x, hx⟩ : ∃ x, bitAt s k = x := ⟨_, rfl⟩
    rw [hx] at ct hstep hnoS
    have hln := (bits_len P.w P.h L gr v s k).1
    have htr := tr_le s.bits k
    have hlenk : (bitsC P.w P.h L gr v s k).length ≤ 100 := by omega
    obtain ⟨nf, hnf⟩ : ∃ nf, noBit s k = nf := ⟨_, rfl⟩
    rw [hnf] at hstep hnoS ⊢
    have hstepH := Lib.hid hstep
    have hnoH := Lib.hid hnoS
    clear htc hx hstep hlow hln htr hnoS hnf
    cases x
    case false =>
     have hnx : bitsC P.w P.h L gr v s (k + 1) = bitsC P.w P.h L gr v s k := by rw [hstepH.out, if_pos rfl]; simp
     have hno2 : noBit s (k + 1) = nf := by rw [hnoH.out]; simp
     rw [← hnx] at h
     have hno2H := Lib.hid hno2
     clear hnx hno2
     go_wp2_with fail
     go_roundw
     case rel => exact ⟨k + 1, by omega, by go_num, by rw [hno2H.out], h⟩
     case measure => simp [intOf]; omega
    case true =>
     have hno2 : noBit s (k + 1) = false := by rw [hnoH.out]; simp
     have hno2H := Lib.hid hno2
     clear hno2
     have hnx := hstepH.out
     rw [if_neg (by simp), hsgnH.out, hvalH.out, hhowH.out] at hnx
     have g1 : s.sw.tdiv 2 = s.sw / 2 := Int.tdiv_eq_ediv_of_nonneg (by omega)
     have g2 : s.sh.tdiv 2 = s.sh / 2 := Int.tdiv_eq_ediv_of_nonneg (by omega)
     have g3 : (k : Int).tmod s.sw = (k : Int) % s.sw := Int.tmod_eq_emod_of_nonneg (by omega)
     have g4 : (k : Int).tdiv s.sw = (k : Int) / s.sw := Int.tdiv_eq_ediv_of_nonneg (by omega)
     have b1 := Int.emod_nonneg (k : Int) (show s.sw ≠ 0 by omega)
     have b2 := Int.emod_lt_of_pos (k : Int) (show 0 < s.sw by omega)
     have b3 : 0 ≤ (k : Int) / s.sw := Int.ediv_nonneg (by omega) (by omega)
     have b4 : (k : Int) / s.sw ≤ (k : Int) := Int.ediv_le_self _ (by omega)
     obtain ⟨r1, hr1⟩ : ∃ r, (k : Int) % s.sw = r := ⟨_, rfl⟩
     obtain ⟨r2, hr2⟩ : ∃ r, (k : Int) / s.sw = r := ⟨_, rfl⟩
     obtain ⟨r3, hr3⟩ : ∃ r, s.sw / 2 = r := ⟨_, rfl⟩
     obtain ⟨r4, hr4⟩ : ∃ r, s.sh / 2 = r := ⟨_, rfl⟩
     have b5 : 0 ≤ r3 ∧ r3 ≤ 2 ∧ 0 ≤ r4 ∧ r4 ≤ 2 := by omega
     rw [hr1, hr2, hr3, hr4] at hnx
     rw [hr1] at g3 b1 b2
     rw [hr2] at g4 b3 b4
     rw [hr3] at g1
     rw [hr4] at g2
     obtain ⟨X1, hX1⟩ : ∃ X, -1 * (r1 - r3) = X := ⟨_, rfl⟩
     obtain ⟨Y1, hY1⟩ : ∃ Y, -1 * (r2 - r4) = Y := ⟨_, rfl⟩
     have bX : -100 ≤ X1 ∧ X1 ≤ 100 := by omega
     have bY : -100 ≤ Y1 ∧ Y1 ≤ 100 := by omega
     rw [hX1, hY1] at hnx
     have hnxH := Lib.hid hnx
     clear hnx hr1 hr2 hr3 hr4
     have zk : ¬ s.sw = 0 := by omega
     have zkb : (s.sw == 0) = false := by simp [zk]
     have hS : Blk wr.drew bs 76 #[.int .u8 s.op, .int .i64 s.a, .int .i64 s.b, .int .i64 s.pt.mul, .int .i64 s.pt.add, .int .i64 s.pt.div, .int .i64 s.pt.lo, .int .i64 s.pt.hi, .int .u8 s.how, .int .i64 s.kw, .int .i64 s.kh, .slice ka s.taps.length kc, .int .u8 s.bd, .int .i64 s.sw, .int .i64 s.sh, .slice (some ⟨tb, t0, none⟩) s.bits.length sc] := (h.below (Below.refl _ wr).drew).box
     have h2 := h.below (Below.refl _ wr).drew
     clear h
     go_wp2_with fail
     refine plain_region (fun W' => Blk W' bs 76 #[.int .u8 s.op, .int .i64 s.a, .int .i64 s.b, .int .i64 s.pt.mul, .int .i64 s.pt.add, .int .i64 s.pt.div, .int .i64 s.pt.lo, .int .i64 s.pt.hi, .int .u8 s.how, .int .i64 s.kw, .int .i64 s.kh, .slice ka s.taps.length kc, .int .u8 s.bd, .int .i64 s.sw, .int .i64 s.sh, .slice (some ⟨tb, t0, none⟩) s.bits.length sc]) 26 26 (by kernel_rfl) rfl ?_
     simp only [Array.replicate_succ, Array.replicate_zero, List.push_toArray, List.nil_append, List.cons_append]
     obtain ⟨X0, hXX0⟩ : ∃ X : World, wr.drew = X := ⟨_, rfl⟩
     rw [hXX0] at hS h2 ⊢
     clear hXX0
     have FA0 := Lib.hid (fun w' (hS' : (fun W' => Blk W' bs 76 #[.int .u8 s.op, .int .i64 s.a, .int .i64 s.b, .int .i64 s.pt.mul, .int .i64 s.pt.add, .int .i64 s.pt.div, .int .i64 s.pt.lo, .int .i64 s.pt.hi, .int .u8 s.how, .int .i64 s.kw, .int .i64 s.kh, .slice ka s.taps.length kc, .int .u8 s.bd, .int .i64 s.sw, .int .i64 s.sh, .slice (some ⟨tb, t0, none⟩) s.bits.length sc]) w') => And.intro (hS'.cell (i := 13) rfl) (hS'.cell (i := 14) rfl))
     refine tkz 0 rfl hS (fun w' hS' => by go_simp; rfl) ?_
     simp only [nrz]
     refine tkz 1 rfl hS (fun w' hS' => by go_simp; rfl) ?_
     simp only [nrz]
     refine tkz 2 rfl hS (fun w' hS' => by go_simp; rfl) ?_
     simp only [nrz]
     refine tkz 3 rfl hS (fun w' hS' => by go_simp; rfl) ?_
     simp only [nrz]
     refine tkz 4 rfl hS (fun w' hS' => by obtain ⟨y13, y14⟩ := FA0.out w' hS'; clear hS'; go_simp; rfl) ?_
     simp only [nrz]
     refine tkz 5 rfl hS (fun w' hS' => by go_simp; (try go_ints); rfl) ?_
     simp only [nrz]
     refine tkz 6 rfl hS (fun w' hS' => by go_simp; rfl) ?_
     simp only [nrz]
     refine tkz 7 rfl hS (fun w' hS' => by go_simp; rfl) ?_
     simp only [nrz]
     refine tkz 8 rfl hS (fun w' hS' => by obtain ⟨y13, y14⟩ := FA0.out w' hS'; clear hS'; go_simp; rfl) ?_
     simp only [nrz]
     refine tkz 9 rfl hS (fun w' hS' => by go_simp; (try go_ints); rfl) ?_
     simp only [nrz]
     refine tkz 10 rfl hS (fun w' hS' => by go_simp; (try go_ints); rfl) ?_
     simp only [nrz]
     refine tkz 11 (v := .int .i64 X1) rfl hS (fun w' hS' => ?g4y11) ?g4z11
     case g4y11 =>
      go_simp
      try go_ints
      first
      | trivial
      | rfl
      | rw [← hX1]
      | (rw [← hX1]; simp)
      | (congr 2; omega)
     simp only [nrz]
     refine tkz 12 rfl hS (fun w' hS' => by go_simp; rfl) ?_
     simp only [nrz]
     refine tkz 13 rfl hS (fun w' hS' => by go_simp; rfl) ?_
     simp only [nrz]
     refine tkz 14 rfl hS (fun w' hS' => by go_simp; rfl) ?_
     simp only [nrz]
     refine tkz 15 rfl hS (fun w' hS' => by go_simp; rfl) ?_
     simp only [nrz]
     refine tkz 16 rfl hS (fun w' hS' => by obtain ⟨y13, y14⟩ := FA0.out w' hS'; clear hS'; go_simp; rfl) ?_
     simp only [nrz]
     refine tkz 17 rfl hS (fun w' hS' => by go_simp; (try go_ints); rfl) ?_
     simp only [nrz]
     refine tkz 18 rfl hS (fun w' hS' => by go_simp; rfl) ?_
     simp only [nrz]
     refine tkz 19 rfl hS (fun w' hS' => by go_simp; rfl) ?_
     simp only [nrz]
     refine tkz 20 rfl hS (fun w' hS' => by obtain ⟨y13, y14⟩ := FA0.out w' hS'; clear hS'; go_simp; rfl) ?_
     simp only [nrz]
     refine tkz 21 rfl hS (fun w' hS' => by go_simp; (try go_ints); rfl) ?_
     simp only [nrz]
     refine tkz 22 rfl hS (fun w' hS' => by go_simp; (try go_ints); rfl) ?_
     simp only [nrz]
     refine tkz 23 (v := .int .i64 Y1) rfl hS (fun w' hS' => ?g4y23) ?g4z23
     case g4y23 =>
      go_simp
      try go_ints
      first
      | trivial
      | rfl
      | rw [← hY1]
      | (rw [← hY1]; simp)
      | (congr 2; omega)
     simp only [nrz]
     refine tkz 24 rfl hS (fun w' hS' => by go_simp; rfl) ?_
     simp only [nrz]
     refine tkz 25 rfl hS (fun w' hS' => by go_simp; rfl) ?_
     simp only [nrz]
     refine done_ops (by kernel_rfl) ?_
     clear hX1 hY1 g1 g2 g3 g4 zk zkb
     have u1 := h2.scell (j := 1) rfl
     rw [hAH.out] at u1
     cases nf
     case true =>
      rw [if_pos rfl] at hnxH
      go_wp2_with (go_at_call 147; refine (h2.load (by simp only [List.length_append]; omega) L hvl hw hh hL hgr 0 A (by omega) hM X1 Y1 (-2147483648) 0 (by show 0 ≤ numF (C.at_ (A : Int)) ∧ numF (C.at_ (A : Int)) ≤ 100000; rw [hvH.out]; exact hopA.2) (by omega) (by omega) (by omega)).mono ?_; rintro e W4 ⟨⟨v1, rfl⟩, h3⟩)
      have h5 : Hd B S0 w W4 P bc bm km M ⟨C.at_, C.free, C.code ++ bitsC P.w P.h L gr v s (k + 1)⟩ fv bp bs bg gr #[.int .u8 s.op, .int .i64 s.a, .int .i64 s.b, .int .i64 s.pt.mul, .int .i64 s.pt.add, .int .i64 s.pt.div, .int .i64 s.pt.lo, .int .i64 s.pt.hi, .int .u8 s.how, .int .i64 s.kw, .int .i64 s.kh, .slice ka s.taps.length kc, .int .u8 s.bd, .int .i64 s.sw, .int .i64 s.sh, .slice (some ⟨tb, t0, none⟩) s.bits.length sc] := by
       rw [hnxH.out, ← List.append_assoc]; rw [hvH.out] at h3; exact h3
      clear h3 h2
      go_roundw
      case rel => exact ⟨k + 1, by omega, by go_num, by rw [hno2H.out], h5⟩
      case measure => simp [intOf]; omega
     case false =>
      rw [if_neg (by simp)] at hnxH
      have tok1 : True := trivial
      have tok2 : True := trivial
      go_wp2_with (first
       | (go_at_call 147; have _t := tok1; refine (h2.load (by simp only [List.length_append]; omega) L hvl hw hh hL hgr 1 A (by omega) hM X1 Y1 (-2147483648) 0 (by show 0 ≤ numF (C.at_ (A : Int)) ∧ numF (C.at_ (A : Int)) ≤ 100000; rw [hvH.out]; exact hopA.2) (by omega) (by omega) (by omega)).mono ?_; clear _t tok1; rintro e W4 ⟨⟨v1, rfl⟩, h3⟩; have z0' := h3.pcell)
       | (go_at_call 108; have _t := tok2; refine (h3.emit (by simp only [List.length_append, List.length_singleton]; omega) (insZ 4) rfl).mono ?_; clear _t tok2; rintro e W9 ⟨⟨v6, rfl⟩, h4⟩))
      have h5 : Hd B S0 w W9 P bc bm km M ⟨C.at_, C.free, C.code ++ bitsC P.w P.h L gr v s (k + 1)⟩ fv bp bs bg gr #[.int .u8 s.op, .int .i64 s.a, .int .i64 s.b, .int .i64 s.pt.mul, .int .i64 s.pt.add, .int .i64 s.pt.div, .int .i64 s.pt.lo, .int .i64 s.pt.hi, .int .u8 s.how, .int .i64 s.kw, .int .i64 s.kh, .slice ka s.taps.length kc, .int .u8 s.bd, .int .i64 s.sw, .int .i64 s.sh, .slice (some ⟨tb, t0, none⟩) s.bits.length sc] := by
       rw [hnxH.out]; rw [hvH.out] at h4; simpa using h4
      clear h3 h4 h2
      go_roundw
      case rel => exact ⟨k + 1, by omega, by go_num, by rw [hno2H.out], h5⟩
      case measure => simp [intOf]; omega
 case neg =>
  have e4b : (s.op == 4) = false := by simp [e4]
  have hsgn : sgnC s = 1 := by unfold sgnC; rw [if_neg e4]
  have hvalC : valC s = 2147483648 := by unfold valC; rw [if_neg e4]
  have hhow : howC s = 3 := by unfold howC; rw [if_neg e4]
  have hsgnH := Lib.hid hsgn
  have hvalH := Lib.hid hvalC
  have hhowH := Lib.hid hhow
  clear hsgn hvalC hhow e4
  go_wp2_with fail
  have h0' : Hd B S0 w V3 P bc bm km M ⟨C.at_, C.free, C.code ++ bitsC P.w P.h L gr v s 0⟩ fv bp bs bg gr #[.int .u8 s.op, .int .i64 s.a, .int .i64 s.b, .int .i64 s.pt.mul, .int .i64 s.pt.add, .int .i64 s.pt.div, .int .i64 s.pt.lo, .int .i64 s.pt.hi, .int .u8 s.how, .int .i64 s.kw, .int .i64 s.kh, .slice ka s.taps.length kc, .int .u8 s.bd, .int .i64 s.sw, .int .i64 s.sh, .slice sa s.bits.length sc] := by rw [show bitsC P.w P.h L gr v s 0 = [] from rfl, List.append_nil]; exact h0
  clear h0
  go_loopw [12, 27] (fun f i wr => ∃ k : Nat, k ≤ nb ∧ i = .int .i64 (k : Int) ∧ f = .bool (noBit s k) ∧ Hd B S0 w wr P bc bm km M ⟨C.at_, C.free, C.code ++ bitsC P.w P.h L gr v s k⟩ fv bp bs bg gr #[.int .u8 s.op, .int .i64 s.a, .int .i64 s.b, .int .i64 s.pt.mul, .int .i64 s.pt.add, .int .i64 s.pt.div, .int .i64 s.pt.lo, .int .i64 s.pt.hi, .int .u8 s.how, .int .i64 s.kw, .int .i64 s.kh, .slice ka s.taps.length kc, .int .u8 s.bd, .int .i64 s.sw, .int .i64 s.sh, .slice sa s.bits.length sc]) (fun _ i _ => nb - (intOf i).toNat)
  case atStart => exact ⟨0, Nat.zero_le _, rfl, rfl, h0'⟩
  case round =>
   clear h0'
   obtain ⟨k, hk, rfl, rfl, h⟩ := hrel
   by_cases hlt : k < nb
   case neg =>
    have hltd : decide ((k : Int) < (nb : Int)) = false := by simp; omega
    have hkn : nb = k := by omega
    subst hkn
    go_wp2_with fail
    go_end0
    exact ⟨⟨_, rfl⟩, hfinH.out _ _ (by unfold headC; rw [if_neg e1H.out, if_neg e2H.out, if_neg e3H.out, hAH.out, hvH.out, hnbH.out]) h⟩
   case pos =>
    have hltd : decide ((k : Int) < (nb : Int)) = true := by simp; omega
    have hlt' : k < s.bits.length := by have := hnbH.out; omega
    have hlow := h.low hBw hS0H.out
    obtain ⟨tb, t0, rfl, htb, htc⟩ : ∃ b o, sa = some ⟨b, o, none⟩ ∧ b < B ∧ ∀ i, i < s.bits.length → w.cell? ⟨b, o + i, none⟩ = some (.bool (s.bits[i]?.getD false)) := by
     rcases hbi with h0 | ⟨b, o, h1, h2, h3⟩
     ·exfalso; rw [h0] at hlt'; simp at hlt'
     ·exact ⟨b, o, h1, h2, h3⟩
    have ct := (hlow.cell (p := ⟨tb, t0 + k, none⟩) htb).trans (htc k hlt')
    have hstep : bitsC P.w P.h L gr v s (k + 1) = bitsC P.w P.h L gr v s k ++ (if bitAt s k = false then [] else if noBit s k = true then [insL P.w P.h L gr 0 v (sgnC s * ((k : Int) % s.sw - s.sw / 2)) (sgnC s * ((k : Int) / s.sw - s.sh / 2)) (valC s) 0] else [insL P.w P.h L gr 1 v (sgnC s * ((k : Int) % s.sw - s.sw / 2)) (sgnC s * ((k : Int) / s.sw - s.sh / 2)) (valC s) 0, insZ (howC s)]) := rfl
    have hnoS : noBit s (k + 1) = (noBit s k && !bitAt s k) := rfl
    rw [show s.bits[k]?.getD false = bitAt s k from rfl] at ct
    obtain ⟨x, hx⟩ : ∃ x, bitAt s k = x := ⟨_, rfl⟩
    rw [hx] at ct hstep hnoS
    have hln := (bits_len P.w P.h L gr v s k).1
    have htr := tr_le s.bits k
    have hlenk : (bitsC P.w P.h L gr v s k).length ≤ 100 := by omega
    obtain ⟨nf, hnf⟩ : ∃ nf, noBit s k = nf := ⟨_, rfl⟩
    rw [hnf] at hstep hnoS ⊢
    have hstepH := Lib.hid hstep
    have hnoH := Lib.hid hnoS
    clear htc hx hstep hlow hln htr hnoS hnf
    cases x
    case false =>
     have hnx : bitsC P.w P.h L gr v s (k + 1) = bitsC P.w P.h L gr v s k := by rw [hstepH.out, if_pos rfl]; simp
     have hno2 : noBit s (k + 1) = nf := by rw [hnoH.out]; simp
     rw [← hnx] at h
     have hno2H := Lib.hid hno2
     clear hnx hno2
     go_wp2_with fail
     go_roundw
     case rel => exact ⟨k + 1, by omega, by go_num, by rw [hno2H.out], h⟩
     case measure => simp [intOf]; omega
    case true =>
     have hno2 : noBit s (k + 1) = false := by rw [hnoH.out]; simp
     have hno2H := Lib.hid hno2
     clear hno2
     have hnx := hstepH.out
     rw [if_neg (by simp), hsgnH.out, hvalH.out, hhowH.out] at hnx
     have g1 : s.sw.tdiv 2 = s.sw / 2 := Int.tdiv_eq_ediv_of_nonneg (by omega)
     have g2 : s.sh.tdiv 2 = s.sh / 2 := Int.tdiv_eq_ediv_of_nonneg (by omega)
     have g3 : (k : Int).tmod s.sw = (k : Int) % s.sw := Int.tmod_eq_emod_of_nonneg (by omega)
     have g4 : (k : Int).tdiv s.sw = (k : Int) / s.sw := Int.tdiv_eq_ediv_of_nonneg (by omega)
     have b1 := Int.emod_nonneg (k : Int) (show s.sw ≠ 0 by omega)
     have b2 := Int.emod_lt_of_pos (k : Int) (show 0 < s.sw by omega)
     have b3 : 0 ≤ (k : Int) / s.sw := Int.ediv_nonneg (by omega) (by omega)
     have b4 : (k : Int) / s.sw ≤ (k : Int) := Int.ediv_le_self _ (by omega)
     obtain ⟨r1, hr1⟩ : ∃ r, (k : Int) % s.sw = r := ⟨_, rfl⟩
     obtain ⟨r2, hr2⟩ : ∃ r, (k : Int) / s.sw = r := ⟨_, rfl⟩
     obtain ⟨r3, hr3⟩ : ∃ r, s.sw / 2 = r := ⟨_, rfl⟩
     obtain ⟨r4, hr4⟩ : ∃ r, s.sh / 2 = r := ⟨_, rfl⟩
     have b5 : 0 ≤ r3 ∧ r3 ≤ 2 ∧ 0 ≤ r4 ∧ r4 ≤ 2 := by omega
     rw [hr1, hr2, hr3, hr4] at hnx
     rw [hr1] at g3 b1 b2
     rw [hr2] at g4 b3 b4
     rw [hr3] at g1
     rw [hr4] at g2
     obtain ⟨X1, hX1⟩ : ∃ X, 1 * (r1 - r3) = X := ⟨_, rfl⟩
     obtain ⟨Y1, hY1⟩ : ∃ Y, 1 * (r2 - r4) = Y := ⟨_, rfl⟩
     have bX : -100 ≤ X1 ∧ X1 ≤ 100 := by omega
     have bY : -100 ≤ Y1 ∧ Y1 ≤ 100 := by omega
     rw [hX1, hY1] at hnx
     have hnxH := Lib.hid hnx
     clear hnx hr1 hr2 hr3 hr4
     have zk : ¬ s.sw = 0 := by omega
     have zkb : (s.sw == 0) = false := by simp [zk]
     have hS : Blk wr.drew bs 76 #[.int .u8 s.op, .int .i64 s.a, .int .i64 s.b, .int .i64 s.pt.mul, .int .i64 s.pt.add, .int .i64 s.pt.div, .int .i64 s.pt.lo, .int .i64 s.pt.hi, .int .u8 s.how, .int .i64 s.kw, .int .i64 s.kh, .slice ka s.taps.length kc, .int .u8 s.bd, .int .i64 s.sw, .int .i64 s.sh, .slice (some ⟨tb, t0, none⟩) s.bits.length sc] := (h.below (Below.refl _ wr).drew).box
     have h2 := h.below (Below.refl _ wr).drew
     clear h
     go_wp2_with fail
     refine plain_region (fun W' => Blk W' bs 76 #[.int .u8 s.op, .int .i64 s.a, .int .i64 s.b, .int .i64 s.pt.mul, .int .i64 s.pt.add, .int .i64 s.pt.div, .int .i64 s.pt.lo, .int .i64 s.pt.hi, .int .u8 s.how, .int .i64 s.kw, .int .i64 s.kh, .slice ka s.taps.length kc, .int .u8 s.bd, .int .i64 s.sw, .int .i64 s.sh, .slice (some ⟨tb, t0, none⟩) s.bits.length sc]) 26 26 (by kernel_rfl) rfl ?_
     simp only [Array.replicate_succ, Array.replicate_zero, List.push_toArray, List.nil_append, List.cons_append]
     obtain ⟨X0, hXX0⟩ : ∃ X : World, wr.drew = X := ⟨_, rfl⟩
     rw [hXX0] at hS h2 ⊢
     clear hXX0
     have FA1 := Lib.hid (fun w' (hS' : (fun W' => Blk W' bs 76 #[.int .u8 s.op, .int .i64 s.a, .int .i64 s.b, .int .i64 s.pt.mul, .int .i64 s.pt.add, .int .i64 s.pt.div, .int .i64 s.pt.lo, .int .i64 s.pt.hi, .int .u8 s.how, .int .i64 s.kw, .int .i64 s.kh, .slice ka s.taps.length kc, .int .u8 s.bd, .int .i64 s.sw, .int .i64 s.sh, .slice (some ⟨tb, t0, none⟩) s.bits.length sc]) w') => And.intro (hS'.cell (i := 13) rfl) (hS'.cell (i := 14) rfl))
     refine tkz 0 rfl hS (fun w' hS' => by go_simp; rfl) ?_
     simp only [nrz]
     refine tkz 1 rfl hS (fun w' hS' => by go_simp; rfl) ?_
     simp only [nrz]
     refine tkz 2 rfl hS (fun w' hS' => by go_simp; rfl) ?_
     simp only [nrz]
     refine tkz 3 rfl hS (fun w' hS' => by go_simp; rfl) ?_
     simp only [nrz]
     refine tkz 4 rfl hS (fun w' hS' => by obtain ⟨y13, y14⟩ := FA1.out w' hS'; clear hS'; go_simp; rfl) ?_
     simp only [nrz]
     refine tkz 5 rfl hS (fun w' hS' => by go_simp; (try go_ints); rfl) ?_
     simp only [nrz]
     refine tkz 6 rfl hS (fun w' hS' => by go_simp; rfl) ?_
     simp only [nrz]
     refine tkz 7 rfl hS (fun w' hS' => by go_simp; rfl) ?_
     simp only [nrz]
     refine tkz 8 rfl hS (fun w' hS' => by obtain ⟨y13, y14⟩ := FA1.out w' hS'; clear hS'; go_simp; rfl) ?_
     simp only [nrz]
     refine tkz 9 rfl hS (fun w' hS' => by go_simp; (try go_ints); rfl) ?_
     simp only [nrz]
     refine tkz 10 rfl hS (fun w' hS' => by go_simp; (try go_ints); rfl) ?_
     simp only [nrz]
     refine tkz 11 (v := .int .i64 X1) rfl hS (fun w' hS' => ?g5y11) ?g5z11
     case g5y11 =>
      go_simp
      try go_ints
      first
      | trivial
      | rfl
      | rw [← hX1]
      | (rw [← hX1]; simp)
      | (congr 2; omega)
     simp only [nrz]
     refine tkz 12 rfl hS (fun w' hS' => by go_simp; rfl) ?_
     simp only [nrz]
     refine tkz 13 rfl hS (fun w' hS' => by go_simp; rfl) ?_
     simp only [nrz]
     refine tkz 14 rfl hS (fun w' hS' => by go_simp; rfl) ?_
     simp only [nrz]
     refine tkz 15 rfl hS (fun w' hS' => by go_simp; rfl) ?_
     simp only [nrz]
     refine tkz 16 rfl hS (fun w' hS' => by obtain ⟨y13, y14⟩ := FA1.out w' hS'; clear hS'; go_simp; rfl) ?_
     simp only [nrz]
     refine tkz 17 rfl hS (fun w' hS' => by go_simp; (try go_ints); rfl) ?_
     simp only [nrz]
     refine tkz 18 rfl hS (fun w' hS' => by go_simp; rfl) ?_
     simp only [nrz]
     refine tkz 19 rfl hS (fun w' hS' => by go_simp; rfl) ?_
     simp only [nrz]
     refine tkz 20 rfl hS (fun w' hS' => by obtain ⟨y13, y14⟩ := FA1.out w' hS'; clear hS'; go_simp; rfl) ?_
     simp only [nrz]
     refine tkz 21 rfl hS (fun w' hS' => by go_simp; (try go_ints); rfl) ?_
     simp only [nrz]
     refine tkz 22 rfl hS (fun w' hS' => by go_simp; (try go_ints); rfl) ?_
     simp only [nrz]
     refine tkz 23 (v := .int .i64 Y1) rfl hS (fun w' hS' => ?g5y23) ?g5z23
     case g5y23 =>
      go_simp
      try go_ints
      first
      | trivial
      | rfl
      | rw [← hY1]
      | (rw [← hY1]; simp)
      | (congr 2; omega)
     simp only [nrz]
     refine tkz 24 rfl hS (fun w' hS' => by go_simp; rfl) ?_
     simp only [nrz]
     refine tkz 25 rfl hS (fun w' hS' => by go_simp; rfl) ?_
     simp only [nrz]
     refine done_ops (by kernel_rfl) ?_
     clear hX1 hY1 g1 g2 g3 g4 zk zkb
     have u1 := h2.scell (j := 1) rfl
     rw [hAH.out] at u1
     cases nf
     case true =>
      rw [if_pos rfl] at hnxH
      go_wp2_with (go_at_call 147; refine (h2.load (by simp only [List.length_append]; omega) L hvl hw hh hL hgr 0 A (by omega) hM X1 Y1 (2147483648) 0 (by show 0 ≤ numF (C.at_ (A : Int)) ∧ numF (C.at_ (A : Int)) ≤ 100000; rw [hvH.out]; exact hopA.2) (by omega) (by omega) (by omega)).mono ?_; rintro e W4 ⟨⟨v1, rfl⟩, h3⟩)
      have h5 : Hd B S0 w W4 P bc bm km M ⟨C.at_, C.free, C.code ++ bitsC P.w P.h L gr v s (k + 1)⟩ fv bp bs bg gr #[.int .u8 s.op, .int .i64 s.a, .int .i64 s.b, .int .i64 s.pt.mul, .int .i64 s.pt.add, .int .i64 s.pt.div, .int .i64 s.pt.lo, .int .i64 s.pt.hi, .int .u8 s.how, .int .i64 s.kw, .int .i64 s.kh, .slice ka s.taps.length kc, .int .u8 s.bd, .int .i64 s.sw, .int .i64 s.sh, .slice (some ⟨tb, t0, none⟩) s.bits.length sc] := by
       rw [hnxH.out, ← List.append_assoc]; rw [hvH.out] at h3; exact h3
      clear h3 h2
      go_roundw
      case rel => exact ⟨k + 1, by omega, by go_num, by rw [hno2H.out], h5⟩
      case measure => simp [intOf]; omega
     case false =>
      rw [if_neg (by simp)] at hnxH
      have tok1 : True := trivial
      have tok2 : True := trivial
      go_wp2_with (first
       | (go_at_call 147; have _t := tok1; refine (h2.load (by simp only [List.length_append]; omega) L hvl hw hh hL hgr 1 A (by omega) hM X1 Y1 (2147483648) 0 (by show 0 ≤ numF (C.at_ (A : Int)) ∧ numF (C.at_ (A : Int)) ≤ 100000; rw [hvH.out]; exact hopA.2) (by omega) (by omega) (by omega)).mono ?_; clear _t tok1; rintro e W4 ⟨⟨v1, rfl⟩, h3⟩; have z0' := h3.pcell)
       | (go_at_call 108; have _t := tok2; refine (h3.emit (by simp only [List.length_append, List.length_singleton]; omega) (insZ 3) rfl).mono ?_; clear _t tok2; rintro e W9 ⟨⟨v6, rfl⟩, h4⟩))
      have h5 : Hd B S0 w W9 P bc bm km M ⟨C.at_, C.free, C.code ++ bitsC P.w P.h L gr v s (k + 1)⟩ fv bp bs bg gr #[.int .u8 s.op, .int .i64 s.a, .int .i64 s.b, .int .i64 s.pt.mul, .int .i64 s.pt.add, .int .i64 s.pt.div, .int .i64 s.pt.lo, .int .i64 s.pt.hi, .int .u8 s.how, .int .i64 s.kw, .int .i64 s.kh, .slice ka s.taps.length kc, .int .u8 s.bd, .int .i64 s.sw, .int .i64 s.sh, .slice (some ⟨tb, t0, none⟩) s.bits.length sc] := by
       rw [hnxH.out]; rw [hvH.out] at h4; simpa using h4
      clear h3 h4 h2
      go_roundw
      case rel => exact ⟨k + 1, by omega, by go_num, by rw [hno2H.out], h5⟩
      case measure => simp [intOf]; omega
end Go.Proofs.YtekiemlniegddaaGreat
namespace Go.Proofs.YtekiemlniegddaaGreat
open Go Go.Maps Go.RowKit Go.Shelf
/-- A block of another type is none of a compiler's blocks. -/
theorem CmAt.not_blk {B : Nat} {W : World} {P : CmP} {bc bm km M : Nat} {C : CmN} {fv cv : Value} {l : Nat → InsA} (h : CmAt B W P bc bm km M C fv cv l) {b : Nat} {t : TypeId} {cs : Array Value} (hb : Blk W b t cs) (h1 : t ≠ 103) (h2 : t ≠ 143) (h3 : t ≠ 3) : ¬ CmS bc bm C.code.length fv cv l b := by
 rintro (e | e | e | e | ⟨q, hq, e⟩)
 ·subst e
  have h4 : W.heap[b]? = _ := h.c
  rw [show W.heap[b]? = _ from hb] at h4
  injection h4 with h4; injection h4 with _ h4 _; exact h1 h4
 ·exact h.at_.not_cells hb e
 ·exact hb.not_row h3 h.free e.symm
 ·exact hb.not_row h2 h.code e.symm
 ·obtain ⟨_, _, _, cur, hc⟩ := (h.ads q hq).2.1.blk e
  rw [show W.heap[b]? = _ from hb] at hc
  injection hc with hc; injection hc with _ hc _; exact h3 hc
/-- The compiler and the round's box; S0, W0: the compiler's blocks and the world at the call. -/
structure RnAt (B : Nat) (S0 : Nat → Prop) (W0 W : World) (P : CmP) (bc bm km M : Nat) (C : CmN) (fv : Value) (br : Nat) (rc : Array Value) (cv : Value) (l : Nat → InsA) : Prop where
 cm : CmAt B W P bc bm km M C fv cv l
 kr : Blk W br 111 rc
 ht : Trn S0 W0 W
 sub : ∀ b, CmS bc bm C.code.length fv cv l b → S0 b ∨ W0.heap.size ≤ b
def Rn (B : Nat) (S0 : Nat → Prop) (W0 W : World) (P : CmP) (bc bm km M : Nat) (C : CmN) (fv : Value) (br : Nat) (rc : Array Value) : Prop := ∃ cv l, RnAt B S0 W0 W P bc bm km M C fv br rc cv l
theorem rnd_ne_cmp : (111 : TypeId) ≠ 103 := by decide
theorem rnd_ne_ins : (111 : TypeId) ≠ 143 := by decide
theorem rnd_ne_int : (111 : TypeId) ≠ 3 := by decide
section
variable {B : Nat} {S0 : Nat → Prop} {W0 W W' : World} {P : CmP} {bc bm km M : Nat} {C : CmN} {fv : Value} {br : Nat} {rc : Array Value}
theorem Rn.below (h : Rn B S0 W0 W P bc bm km M C fv br rc) (hb : Below W.heap.size W W') : Rn B S0 W0 W' P bc bm km M C fv br rc := by
 obtain ⟨cv, l, h⟩ := h
 exact ⟨cv, l, ⟨h.cm.below hb, h.kr.below hb h.kr.lt, h.ht.trans (Below.trn0 hb S0), h.sub⟩⟩
theorem RnAt.step {cv : Value} {l : Nat → InsA} (h : RnAt B S0 W0 W P bc bm km M C fv br rc cv l) {km' : Nat} {C' : CmN} {fv' cv' : Value} {l' : Nat → InsA} (hcm : CmAt B W' P bc bm km' M C' fv' cv' l') (hT : Trn (CmS bc bm C.code.length fv cv l) W W')
  (hsub : ∀ b, CmS bc bm C'.code.length fv' cv' l' b → CmS bc bm C.code.length fv cv l b ∨ W.heap.size ≤ b) : Rn B S0 W0 W' P bc bm km' M C' fv' br rc := by
 refine ⟨cv', l', ⟨hcm, hT.blk h.kr (h.cm.not_blk h.kr rnd_ne_cmp rnd_ne_ins rnd_ne_int), h.ht.step hT h.sub, fun b hb => ?_⟩⟩
 rcases hsub b hb with h1 | h1
 ·exact h.sub b h1
 ·exact .inr (Nat.le_trans h.ht.size h1)
theorem Rn.rcell (h : Rn B S0 W0 W P bc bm km M C fv br rc) {j : Nat} {v : Value} (hv : rc[j]? = some v) : W.cell? ⟨br, j, none⟩ = some v := by
 obtain ⟨cv, l, h⟩ := h
 exact h.kr.cell hv
theorem Rn.low (h : Rn B S0 W0 W P bc bm km M C fv br rc) (hB : B ≤ W0.heap.size) (hS : ∀ b, S0 b → B ≤ b) : Below B W0 W := by
 obtain ⟨cv, l, h⟩ := h
 exact h.ht.below hB (fun b hb hs => by have := hS b hs; omega)
theorem Rn.trn (h : Rn B S0 W0 W P bc bm km M C fv br rc) : Trn S0 W0 W := by
 obtain ⟨cv, l, h⟩ := h
 exact h.ht
/-- An instruction without addresses is emitted. -/
theorem Rn.emit (h : Rn B S0 W0 W P bc bm km M C fv br rc) (hlen : C.code.length ≤ 1000000) (x : InsN) (hx : x.ad = []) :
  Calls Tryz.prog 108 #[.pointer (some ⟨bc, 0, none⟩), insv x none 0] W fun e W' => (∃ vv, e = .returned vv) ∧ Rn B S0 W0 W' P bc bm km M ⟨C.at_, C.free, C.code ++ [x]⟩ fv br rc := by
 obtain ⟨cv, l, h⟩ := h
 refine (emit_any B W P bc bm km M C fv cv l h.cm hlen x none 0 (.inl ⟨rfl, rfl, hx⟩) (fun b hb => by obtain ⟨ad, h1, _⟩ := hb; cases h1)).mono ?_
 rintro e W' ⟨h1, cv', hcm, hT, hcv⟩
 refine ⟨h1, h.step hcm (hT.mono (fun b _ hb => hb.elim (fun e => .inl e) (fun e => .inr (.inr (.inr (.inl e)))))) (fun b hb => ?_)⟩
 rw [List.length_append, List.length_singleton] at hb
 rcases CmS.emit hcv b hb with h2 | h2 | h2
 ·exact .inl h2
 ·exact .inr h2
 ·obtain ⟨ad, h1, _⟩ := h2; cases h1
/-- The addresses of a group. -/
theorem Rn.addr (h : Rn B S0 W0 W P bc bm km M C fv br rc) (L : Nat) (hvl : P.vl = (L : Int)) (hw : 1 ≤ P.w ∧ P.w ≤ 16) (hh : 1 ≤ P.h ∧ P.h ≤ 16) (hL : 1 ≤ L ∧ L ≤ 16) (gr : Nat) (hgr : gr ≤ 256) (place : Int) (hpl : 0 ≤ place ∧ place ≤ 100000) :
  Calls Tryz.prog 109 #[.pointer (some ⟨bc, 0, none⟩), .int .i64 (gr : Int), .int .i64 place, .int .i64 0, .int .i64 0, .int .u8 0] W fun e W' => ∃ b, e = .returned (srow b L L) ∧ Rn B S0 W0 W' P bc bm km M C fv br rc ∧ W'.ownsRow B 3 1 (srow b L L) L (intL L (adrAt P.w P.h L gr place 0 0 0)) ∧ fv.ownBlock ≠ some b ∧ W0.heap.size ≤ b := by
 obtain ⟨cv, l, h⟩ := h
 refine (addresses_any W bc bm P.w P.h P.I P.vr P.vm L P.a P.n P.c fv cv (by have h := h.cm.c; unfold cmC at h; rw [hvl] at h; exact h) hw hh hL gr hgr place 0 0 0 hpl (by omega) (by omega) (by omega)).mono ?_
 rintro e W' ⟨b, rfl, hrow, hb⟩
 have hlo := hrow.lt b rfl
 refine ⟨b, rfl, Rn.below ⟨cv, l, h⟩ hb, jrow_weaken hrow (by have := h.cm.lo; have := h.cm.c.lt; omega), fun e => ?_, Nat.le_trans h.ht.size hlo.1⟩
 have := (h.cm.free.lt b e).2
 omega
/-- A store is emitted. -/
theorem Rn.store (h : Rn B S0 W0 W P bc bm km M C fv br rc) (hlen : C.code.length ≤ 1000000) (L gr : Nat) (place : Int) (b : Nat) (hrow : W.ownsRow B 3 1 (srow b L L) L (intL L (adrAt P.w P.h L gr place 0 0 0))) (hfb : fv.ownBlock ≠ some b) (hb0 : W0.heap.size ≤ b) :
  Calls Tryz.prog 108 #[.pointer (some ⟨bc, 0, none⟩), .agg #[.int .u8 2, .int .i64 0, .int .i64 0, .int .i64 0, .int .i64 0, .int .i64 0, .int .i64 0, .int .i64 0, .int .i64 0, .int .i64 0, .int .u8 0, .slice (some ⟨b, 0, none⟩) L L]] W fun e W' => (∃ vv, e = .returned vv) ∧ Rn B S0 W0 W' P bc bm km M ⟨C.at_, C.free, C.code ++ [insS P.w P.h L gr place]⟩ fv br rc := by
 obtain ⟨cv, l, h⟩ := h
 have hl : (insS P.w P.h L gr place).ad.length = L := adrN_len _ _ _ _ _ _ _ _
 have hy : AdAt B W ⟨insS P.w P.h L gr place, some ⟨b, 0, none⟩, L⟩ := .inr ⟨b, rfl, by
  show W.ownsRow B 3 1 (.slice (some ⟨b, 0, none⟩) (insS P.w P.h L gr place).ad.length L) (insS P.w P.h L gr place).ad.length ((adrN P.w P.h L gr place 0 0 0).map (Value.int .i64))
  rw [hl, adrN_row]; exact hrow⟩
 have hyf : ∀ b', AdBlk ⟨insS P.w P.h L gr place, some ⟨b, 0, none⟩, L⟩ b' → b = b' := fun b' hb' => by
  obtain ⟨ad, h1, h2⟩ := hb'; cases h1; exact h2
 have hem := emit_any B W P bc bm km M C fv cv l h.cm hlen (insS P.w P.h L gr place) (some ⟨b, 0, none⟩) L hy (fun b' hb' => by rw [← hyf b' hb']; exact hfb)
 unfold insv at hem
 rw [hl] at hem
 refine Calls.mono hem ?_
 rintro e W' ⟨h1, cv', hcm, hT, hcv⟩
 refine ⟨h1, ?_⟩
 have ht' := h.ht.step (hT.mono (T := CmS bc bm C.code.length fv cv l) (fun b _ hb => hb.elim (fun e => .inl e) (fun e => .inr (.inr (.inr (.inl e)))))) h.sub
 refine ⟨cv', _, ⟨hcm, hT.blk h.kr (fun hh => h.cm.not_blk h.kr rnd_ne_cmp rnd_ne_ins rnd_ne_int (hh.elim (fun e => .inl e) (fun e => .inr (.inr (.inr (.inl e)))))), ht', fun b' hb => ?_⟩⟩
 rw [List.length_append, List.length_singleton] at hb
 rcases CmS.emit hcv b' hb with h2 | h2 | h2
 ·exact h.sub b' h2
 ·exact .inr (Nat.le_trans h.ht.size h2)
 ·rw [← hyf b' h2]; exact .inr hb0
/-- A head is emitted. -/
theorem Rn.head (h : Rn B S0 W0 W P bc bm km M C fv br rc) (hlen : C.code.length ≤ 900000) (L : Nat) (hvl : P.vl = (L : Int)) (hw : 1 ≤ P.w ∧ P.w ≤ 16) (hh : 1 ≤ P.h ∧ P.h ≤ 16) (hL : 1 ≤ L ∧ L ≤ 16) (gr : Nat) (hgr : gr ≤ 256)
  (s : StepN) (hs : StepIn s) (hn : needB s = true) (ka sa : Option Addr) (kc sc : Nat) (hM : M < 100) (hop : ∀ m ∈ opsN s, (0 ≤ m ∧ m < M) ∧ 0 ≤ numF (C.at_ m) ∧ numF (C.at_ m) ≤ 100000) (hB : B ≤ W0.heap.size) (hS : ∀ b, S0 b → B ≤ b) (hta : Rd B W0 ka s.taps) (hbi : RdB B W0 sa s.bits) :
  Calls Tryz.prog 107 #[.pointer (some ⟨bc, 0, none⟩), stepv s ka kc sa sc, .int .i64 (gr : Int)] W fun e W' => (∃ vv, e = .returned vv) ∧ Rn B S0 W0 W' P bc bm km M ⟨C.at_, C.free, C.code ++ headC P.w P.h L gr C.at_ s⟩ fv br rc := by
 have hlow := h.low hB hS
 obtain ⟨cv, l, h⟩ := h
 refine (head_any B W P bc bm km M C fv cv l h.cm hlen L hvl hw hh hL gr hgr s hs hn ka sa kc sc hM hop (hta.below (Nat.le_refl _) hlow) (hbi.below (Nat.le_refl _) hlow)).mono ?_
 rintro e W' ⟨h1, cv', l', hcm, hT, hsub⟩
 exact ⟨h1, h.step hcm hT hsub⟩
end
end Go.Proofs.YtekiemlniegddaaGreat
namespace Go.Proofs.YtekiemlniegddaaGreat
open Go Go.Maps Go.RowKit Go.Shelf
theorem OwnF.run_lookok {P : Program} {K E t : TypeId} {n m : Nat} {F : Int → Option Lit} {w : World} {b : Nat} (h : OwnF P K E w b n F m) (hK : P.underlying K = some (.int .i64)) (ht : P.underlying t = some (.map K E)) (hE : P.underlying E = some (.int .i64)) (hz : (zeroValue E).run P w = .ok (.int .i64 0) w) (k : Int) (hk : (Lit.int .i64 k).wf = true) :
  (Instr.lookup t (.map (some b)) (.int .i64 k) true).run P w = .ok (.tuple #[.int .i64 (numF (F k)), .bool (F k).isSome]) w := by
 obtain ⟨D, h1, h2⟩ := h
 obtain ⟨v, ps, hrun, hv⟩ := h1.look_ok (int_keyed hK) ht hz (plainElem_int hE (by decide)) (keyOf_int_mk hK hk)
 obtain ⟨c, rfl, hc, hwc⟩ := plainElem_int_inv hE hv
 have hat := congrArg Prod.fst hc
 have e : numF (F k) = c := by
  cases hF : F k with
  | none => simp only at hat; rw [h2.none_at hk hF] at hat; injection hat with e1; injection e1 with _ e2
  | some v => simp only at hat; rw [h2.here k hk v hF] at hat; injection hat with e1; subst e1; rfl
 rw [hrun, h2.has hk, e]
section
variable {B : Nat} {W W' : World} {P : CmP} {bc bm km M : Nat} {C : CmN} {fv cv : Value} {l : Nat → InsA}
/-- A place is given back: the row of free places grows, the compiler's slice of it is written. -/
theorem CmAt.freeing (h : CmAt B W P bc bm km M C fv cv l) {v : Int} {fv' : Value} (hrow : W'.ownsRow B 3 1 fv' (C.free.length + 1) (C.free.map (Value.int .i64) ++ [.int .i64 v])) (hg : W.grownBy W' fv.ownBlock) (hnew : fv'.ownBlock = fv.ownBlock ∨ ∃ b, fv'.ownBlock = some b ∧ W.heap.size ≤ b) :
  CmAt B (W'.setCell ⟨bc, 8, none⟩ fv') P bc bm km M ⟨C.at_, C.free ++ [v], C.code⟩ fv' cv l ∧ Trn (fun b => b = bc ∨ fv.ownBlock = some b) W (W'.setCell ⟨bc, 8, none⟩ fv') := by
 have k1 := grown_trn hg (fun b => fv.ownBlock = some b) (fun b e => e)
 have k2 := setCell_trn W' ⟨bc, 8, none⟩ fv' (fun b => b = bc) rfl
 have hc1 := k1.blk h.c (fun e => h.c.not_row int_ne_cmp h.free e.symm)
 refine ⟨{ c := hc1.set 8 fv', at_ := ?_, free := ?_, code := ?_, ads := fun q hq => ?_, lo := h.lo }, (k1.mono (fun b _ e => .inr e)).trans (k2.mono (fun b _ e => .inl e))⟩
 ·exact (h.at_.trn k1 (h.at_.not_row h.free)).trn k2 (fun e => h.at_.not_cells h.c e.symm)
 ·have hr2 := k2.row hrow (fun b hb e => by subst e; exact hc1.not_row int_ne_cmp hrow hb.symm)
  rw [List.length_append, List.length_singleton, List.map_append]
  exact hr2
 ·have hd1 := k1.row h.code (fun b hb e => rows_apart h.free h.code int_ne_ins e hb)
  exact k2.row hd1 (fun b hb e => by subst e; exact h.c.not_row ins_ne_cmp h.code hb.symm)
 ·obtain ⟨h1, h2, h3⟩ := h.ads q hq
  refine ⟨h1, (h2.trn k1 (fun b hb e => h3 b hb e)).trn k2 (fun b hb e => ?_), fun b hb e => ?_⟩
  ·obtain ⟨_, _, _, cur, hcur⟩ := h2.blk hb
   subst e
   have := h.c
   unfold Blk at this
   rw [hcur] at this; injection this with this; injection this with _ this _; exact int_ne_cmp this.symm
  ·rcases hnew with e2 | ⟨b', e2, hb'⟩
   ·exact h3 b hb (e2 ▸ e)
   ·rw [e2] at e
    injection e with e; subst e
    have := (h2.blk hb).2.2.1
    omega
/-- An image's place is forgotten. -/
theorem CmAt.deld (h : CmAt B W P bc bm km M C fv cv l) {F' : FnL} (hF : OwnF Tryz.prog 3 3 W' bm km F' M) (hg : W.grownBy W' (some bm)) :
  CmAt B W' P bc bm km M ⟨F', C.free, C.code⟩ fv cv l ∧ Trn (fun b => b = bm) W W' := by
 have k1 := grown_trn hg (fun b => b = bm) (fun b e => by injection e with e; exact e.symm)
 have hcb := h.at_.not_cells h.c
 refine ⟨{ c := k1.blk h.c hcb, at_ := hF, free := k1.row h.free (fun b hb e => by subst e; exact h.at_.not_row h.free hb), code := k1.row h.code (fun b hb e => by subst e; exact h.at_.not_row h.code hb), ads := fun q hq => ?_, lo := h.lo }, k1⟩
 obtain ⟨h1, h2, h3⟩ := h.ads q hq
 refine ⟨h1, h2.trn k1 (fun b hb e => ?_), h3⟩
 obtain ⟨_, _, _, cur, hcur⟩ := h2.blk hb
 exact h.at_.not_cells hcur e
end
theorem pip_ne_cmp : (24 : TypeId) ≠ 103 := by decide
theorem pip_ne_ins : (24 : TypeId) ≠ 143 := by decide
theorem pip_ne_int : (24 : TypeId) ≠ 3 := by decide
theorem ptr_ne_int : (100 : TypeId) ≠ 3 := by decide
/-- The compiler, the captured cells and the round's box. -/
structure SwAt (B : Nat) (S0 : Nat → Prop) (W0 W : World) (P : CmP) (bc bm km M : Nat) (C : CmN) (bp bx br : Nat) (rc : Array Value) (fv cv : Value) (l : Nat → InsA) : Prop where
 cm : CmAt B W P bc bm km M C fv cv l
 kp : Blk W bp 24 #[.int .i64 P.w, .int .i64 P.h, .int .i64 P.I, .slice P.a P.n P.c]
 kx : Blk W bx 100 #[.pointer (some ⟨bc, 0, none⟩)]
 kr : Blk W br 111 rc
 ht : Trn S0 W0 W
 sub : ∀ b, CmS bc bm C.code.length fv cv l b → S0 b ∨ W0.heap.size ≤ b
def Sw (B : Nat) (S0 : Nat → Prop) (W0 W : World) (P : CmP) (bc bm km M : Nat) (C : CmN) (bp bx br : Nat) (rc : Array Value) : Prop := ∃ fv cv l, SwAt B S0 W0 W P bc bm km M C bp bx br rc fv cv l
section
variable {B : Nat} {S0 : Nat → Prop} {W0 W W' : World} {P : CmP} {bc bm km M : Nat} {C : CmN} {bp bx br : Nat} {rc : Array Value}
theorem SwAt.below {fv cv : Value} {l : Nat → InsA} (h : SwAt B S0 W0 W P bc bm km M C bp bx br rc fv cv l) (hb : Below W.heap.size W W') : SwAt B S0 W0 W' P bc bm km M C bp bx br rc fv cv l :=
 ⟨h.cm.below hb, h.kp.below hb h.kp.lt, h.kx.below hb h.kx.lt, h.kr.below hb h.kr.lt, h.ht.trans (Below.trn0 hb S0), h.sub⟩
theorem SwAt.step {fv cv : Value} {l : Nat → InsA} (h : SwAt B S0 W0 W P bc bm km M C bp bx br rc fv cv l) {km' : Nat} {C' : CmN} {fv' cv' : Value} {l' : Nat → InsA} (hcm : CmAt B W' P bc bm km' M C' fv' cv' l') (hT : Trn (CmS bc bm C.code.length fv cv l) W W')
  (hsub : ∀ b, CmS bc bm C'.code.length fv' cv' l' b → CmS bc bm C.code.length fv cv l b ∨ W.heap.size ≤ b) : SwAt B S0 W0 W' P bc bm km' M C' bp bx br rc fv' cv' l' := by
 refine ⟨hcm, hT.blk h.kp (h.cm.not_blk h.kp pip_ne_cmp pip_ne_ins pip_ne_int), hT.blk h.kx (h.cm.not_blk h.kx ptr_ne_cmp ptr_ne_ins ptr_ne_int), hT.blk h.kr (h.cm.not_blk h.kr rnd_ne_cmp rnd_ne_ins rnd_ne_int), h.ht.step hT h.sub, fun b hb => ?_⟩
 rcases hsub b hb with h1 | h1
 ·exact h.sub b h1
 ·exact .inr (Nat.le_trans h.ht.size h1)
/-- A place given back. -/
theorem SwAt.freeing {fv cv : Value} {l : Nat → InsA} (h : SwAt B S0 W0 W P bc bm km M C bp bx br rc fv cv l) {v : Int} {fv' : Value} (hrow : W'.ownsRow B 3 1 fv' (C.free.length + 1) (C.free.map (Value.int .i64) ++ [.int .i64 v])) (hg : W.grownBy W' fv.ownBlock) (hnew : fv'.ownBlock = fv.ownBlock ∨ ∃ b, fv'.ownBlock = some b ∧ W.heap.size ≤ b) :
  SwAt B S0 W0 (W'.setCell ⟨bc, 8, none⟩ fv') P bc bm km M ⟨C.at_, C.free ++ [v], C.code⟩ bp bx br rc fv' cv l := by
 obtain ⟨h1, h2⟩ := h.cm.freeing hrow hg hnew
 refine h.step h1 (h2.mono (fun b _ hb => hb.elim (fun e => .inl e) (fun e => .inr (.inr (.inl e))))) (fun b hb => ?_)
 rcases hb with e | e | e | e | e
 ·exact .inl (.inl e)
 ·exact .inl (.inr (.inl e))
 ·rcases hnew with e2 | ⟨b', e2, hb'⟩
  ·exact .inl (.inr (.inr (.inl (e2 ▸ e))))
  ·rw [e2] at e; injection e with e; subst e; exact .inr hb'
 ·exact .inl (.inr (.inr (.inr (.inl e))))
 ·exact .inl (.inr (.inr (.inr (.inr e))))
theorem SwAt.deld {fv cv : Value} {l : Nat → InsA} (h : SwAt B S0 W0 W P bc bm km M C bp bx br rc fv cv l) {F' : FnL} (hF : OwnF Tryz.prog 3 3 W' bm km F' M) (hg : W.grownBy W' (some bm)) :
  SwAt B S0 W0 W' P bc bm km M ⟨F', C.free, C.code⟩ bp bx br rc fv cv l := by
 obtain ⟨h1, h2⟩ := h.cm.deld hF hg
 exact h.step h1 (h2.mono (fun b _ hb => .inr (.inl hb))) (fun b hb => .inl hb)
theorem Sw.xcell (h : Sw B S0 W0 W P bc bm km M C bp bx br rc) : W.cell? ⟨bx, 0, none⟩ = some (.pointer (some ⟨bc, 0, none⟩)) := by
 obtain ⟨fv, cv, l, h⟩ := h
 exact h.kx.cell rfl
theorem Sw.mcell (h : Sw B S0 W0 W P bc bm km M C bp bx br rc) : W.cell? ⟨bc, 7, none⟩ = some (.map (some bm)) := by
 obtain ⟨fv, cv, l, h⟩ := h
 exact h.cm.c.cell rfl
theorem Sw.map (h : Sw B S0 W0 W P bc bm km M C bp bx br rc) : OwnF Tryz.prog 3 3 W bm km C.at_ M := by
 obtain ⟨fv, cv, l, h⟩ := h
 exact h.cm.at_
theorem Sw.trn (h : Sw B S0 W0 W P bc bm km M C bp bx br rc) : Trn S0 W0 W := by
 obtain ⟨fv, cv, l, h⟩ := h
 exact h.ht
end
end Go.Proofs.YtekiemlniegddaaGreat
namespace Go.Proofs.YtekiemlniegddaaGreat
open Go Go.Maps Go.RowKit Go.Shelf
theorem head_len {w h : Int} {lanes g : Nat} {F : FnL} {s : StepN} (hs : needB s = true) : (headC w h lanes g F s).length ≤ 52 := by
 have h1 := @group_len w h lanes g F ⟨0, s, [], 0⟩ 0 hs
 have h2 := headL_le hs
 unfold groupC at h1
 simp only [List.length_append, List.map_nil, List.length_nil, List.length_singleton] at h1
 omega
set_option maxRecDepth 100000 in
set_option maxHeartbeats 8000000 in
theorem round_any (B : Nat) (w : World) (P : CmP) (bc bm km M : Nat) (C : CmN) (fv cv : Value) (l : Nat → InsA) (hcm : CmAt B w P bc bm km M C fv cv l) (hlen : C.code.length ≤ 800000) (kf : Nat) (hkf : C.free.length = kf + 1) (hkf1 : kf ≤ 1000) (hM : M < 100) (hkm : km < 100) (hvb : 0 ≤ lastN C ∧ lastN C ≤ 100000)
  (L : Nat) (hvl : P.vl = (L : Int)) (hw : 1 ≤ P.w ∧ P.w ≤ 16) (hh : 1 ≤ P.h ∧ P.h ≤ 16) (hL : 1 ≤ L ∧ L ≤ 16) (G : Nat) (hG : grpsN P.w P.h P.vl = (G : Int)) (hG2 : G ≤ 256) (x : RndA) (hs : StepIn x.r.head) (hn : needB x.r.head = true) (m : Nat) (hm : m < M) (hres : x.r.res = (m : Int))
  (hop : ∀ q ∈ opsN x.r.head, (0 ≤ q ∧ q < M) ∧ 0 ≤ numF ((placeN C (m : Int)).at_ q) ∧ numF ((placeN C (m : Int)).at_ q) ≤ 100000) (hta : Rd B w x.ka x.r.head.taps) (hbi : RdB B w x.sa x.r.head.bits) (hpts : w.ownsRow B 69 5 x.pv x.r.pts.length (ptsC x.r.pts)) (hpS : ∀ b, x.pv.ownBlock = some b → ¬ CmS bc bm C.code.length fv cv l b) (hnp : x.r.pts.length ≤ 12) :
  Calls Tryz.prog 55 #[.pointer (some ⟨bc, 0, none⟩), rndv x] w fun e w' => (∃ vv, e = .returned vv) ∧ ∃ fv' cv' l', CmAt B w' P bc bm (km + 1) M ⟨(placeN C (m : Int)).at_, (placeN C (m : Int)).free, C.code ++ roundC P.w P.h L (placeN C (m : Int)).at_ x.r (lastN C) G⟩ fv' cv' l' ∧ Trn (CmS bc bm C.code.length fv cv l) w w' ∧
   ∀ b, CmS bc bm (C.code ++ roundC P.w P.h L (placeN C (m : Int)).at_ x.r (lastN C) G).length fv' cv' l' b → CmS bc bm C.code.length fv cv l b ∨ w.heap.size ≤ b := by
 obtain ⟨⟨rat, s, pts, rz⟩, ka, kc, sa, sc, pv, ub, uc⟩ := x
 simp only at hs hn hres hop hta hbi hpts hpS hnp ⊢
 subst hres
 obtain ⟨S0, hS0⟩ : ∃ S0, CmS bc bm C.code.length fv cv l = S0 := ⟨_, rfl⟩
 have hB : Below w.heap.size w w := Below.refl _ _
 have hBw : B ≤ w.heap.size := by have := hcm.lo; have := hcm.c.lt; omega
 have hS0B : ∀ b, S0 b → B ≤ b := fun b hb => (hcm.own b (by rw [hS0]; exact hb)).1
 have hS0H := Lib.hid hS0B
 clear hS0B
 obtain ⟨np, hnp0⟩ : ∃ n, pts.length = n := ⟨_, rfl⟩
 have hnpH := Lib.hid hnp0
 rw [hnp0] at hpts hnp
 obtain ⟨pa, pc, rfl⟩ : ∃ a c, pv = .slice a np c := by
  rcases hpts.2 with ⟨h1, h2⟩ | ⟨g, cap, cur, h1, _⟩
  ·exact ⟨none, 0, by rw [h1, h2]⟩
  ·exact ⟨_, _, h1⟩
 have hpt : ∀ j, j < np → ∃ g, pa = some ⟨g, 0, none⟩ ∧ (g < w.heap.size ∧ ¬ S0 g) ∧ ∀ i, i < 5 → w.cell? ⟨g, j * 5 + i, none⟩ = some (ptCell (ptAt pts j) i) := fun j hj => by
  have hr := hpts
  rcases hr.2 with ⟨h1, h2⟩ | ⟨g, cap, cur, h1, _⟩
  ·omega
  ·injection h1 with h1 _ _
   subst h1
   refine ⟨g, rfl, ⟨(hr.lt g rfl).2, fun hh => hpS g rfl (by rw [hS0]; exact hh)⟩, fun i hi => row_cellAt hr _ ?_⟩
   exact flat_at _ (by omega) hi
 have hptH := Lib.hid hpt
 clear hpt hpts hpS hnp0
 obtain ⟨mo, hmo⟩ : ∃ n, (opsN s).length = n := ⟨_, rfl⟩
 try simp only [rndv]
 rw [hmo]
 clear hmo
 obtain ⟨tz, hto⟩ : ∃ v, lastN C = v := ⟨_, rfl⟩
 have hpl := fun W (h : CmAt B W P bc bm km M C fv cv l) => place_any B W P bc bm km M C fv cv l h kf hkf hkf1 m hm hM hkm hvb
 rw [hto] at hpl hvb ⊢
 have hplH := Lib.hid hpl
 obtain ⟨C2, hC2⟩ : ∃ C2, placeN C (m : Int) = C2 := ⟨_, rfl⟩
 have hC2c : C2.code = C.code := by rw [← hC2]; rfl
 rw [hC2] at hop hplH ⊢
 obtain ⟨at_, fr, cd⟩ := C2
 simp only at hC2c hop ⊢
 subst hC2c
 clear hpl hC2 hto hkf
 obtain ⟨RCA, hRCA⟩ : ∃ A : Array Value, #[.int .u8 s.op, .int .i64 s.a, .int .i64 s.b, .int .i64 s.pt.mul, .int .i64 s.pt.add, .int .i64 s.pt.div, .int .i64 s.pt.lo, .int .i64 s.pt.hi, .int .u8 s.how, .int .i64 s.kw, .int .i64 s.kh, .slice ka s.taps.length kc, .int .u8 s.bd, .int .i64 s.sw, .int .i64 s.sh, .slice sa s.bits.length sc, .slice pa np pc, .slice (some ⟨ub, 0, none⟩) mo uc, .int .i64 (m : Int)] = A := ⟨_, rfl⟩
 have hRCH := Lib.hid hRCA
 clear hRCA
 obtain ⟨R, hR⟩ : ∃ R : RndN, (⟨rat, s, pts, (m : Int)⟩ : RndN) = R := ⟨_, rfl⟩
 rw [hR]
 have hRs : R.head = s := by rw [← hR]
 have hRp : R.pts = pts := by rw [← hR]
 have hRH := Lib.hid (And.intro hRs hRp)
 clear hRs hRp hR
 have hfin : ∀ (W : World) (fv' : Value) (br : Nat), Rn B S0 w W P bc bm (km + 1) M ⟨at_, fr, C.code ++ roundC P.w P.h L at_ R tz G⟩ fv' br RCA → ∃ fv' cv' l', CmAt B W P bc bm (km + 1) M ⟨at_, fr, C.code ++ roundC P.w P.h L at_ R tz G⟩ fv' cv' l' ∧ Trn S0 w W ∧ ∀ b, CmS bc bm (C.code ++ roundC P.w P.h L at_ R tz G).length fv' cv' l' b → S0 b ∨ w.heap.size ≤ b := fun W fv' br h => by
  obtain ⟨cv', l', h⟩ := h
  exact ⟨fv', cv', l', h.cm, h.ht, h.sub⟩
 have hfinH := Lib.hid hfin
 rw [hS0]
 clear hfin
 obtain ⟨V1, hEV1, hbV1, kr⟩ := newB w 111 #[.int .u8 s.op, .int .i64 s.a, .int .i64 s.b, .int .i64 s.pt.mul, .int .i64 s.pt.add, .int .i64 s.pt.div, .int .i64 s.pt.lo, .int .i64 s.pt.hi, .int .u8 s.how, .int .i64 s.kw, .int .i64 s.kh, .slice ka s.taps.length kc, .int .u8 s.bd, .int .i64 s.sw, .int .i64 s.sh, .slice sa s.bits.length sc, .slice pa np pc, .slice (some ⟨ub, 0, none⟩) mo uc, .int .i64 (m : Int)]
 replace hcm := hcm.below hbV1
 replace hB := tmB hB hbV1
 clear hbV1
 obtain ⟨br, hbr⟩ : ∃ b, w.heap.size = b := ⟨_, rfl⟩
 have hbrH := Lib.hid hbr
 rw [hbr] at kr
 have z18 := kr.cell (i := 18) rfl
 have hHV : Trn S0 w V1 := Below.trn0 hB S0
 go_enter Tryz.func55, Tryz.ntmps55
 have tok1 : True := trivial
 go_wp2_with (go_at_call 52; have _t := tok1; refine (hplH.out _ hcm).mono ?_; clear _t tok1; rintro e W2 ⟨rfl, fv', hcm2, hT2, hfv⟩)
 clear z18 hbr hEV1
 rw [hRCH.out] at kr
 have h1 : Rn B S0 w W2 P bc bm (km + 1) M ⟨at_, fr, C.code⟩ fv' br RCA := RnAt.step (B := B) (S0 := S0) (W0 := w) (W := V1) (P := P) (bc := bc) (bm := bm) (km := km) (M := M) (C := C) (fv := fv) (br := br) (rc := RCA) (cv := cv) (l := l) ⟨hcm, kr, hHV, fun b hb => .inl (hS0 ▸ hb)⟩ hcm2 (hT2.mono (fun b _ hb => hb.elim (fun e => .inl e) (fun e => .inr (.inl e)))) (fun b hb => by
  rcases hb with h | h | h | h
  ·exact .inl (.inl h)
  ·exact .inl (.inr (.inl h))
  ·exact .inl (.inr (.inr (.inl (hfv ▸ h))))
  ·exact .inl (.inr (.inr (.inr h))))
 clear hcm hcm2 kr hT2 hHV hfv hS0 hB
 obtain ⟨cv2, l2, h1⟩ := h1
 have hS : ∃ cx, Blk W2.drew bc 103 (cmC P bm fv' cx) := ⟨_, (h1.cm.below (Below.refl _ W2).drew).c⟩
 have h2 : Rn B S0 w W2.drew P bc bm (km + 1) M ⟨at_, fr, C.code⟩ fv' br RCA := Rn.below ⟨cv2, l2, h1⟩ (Below.refl _ W2).drew
 clear h1
 refine plain_region (fun W' => ∃ cx, Blk W' bc 103 (cmC P bm fv' cx)) 11 11 (by kernel_rfl) rfl ?_
 simp only [Array.replicate_succ, Array.replicate_zero, List.push_toArray, List.nil_append, List.cons_append]
 obtain ⟨X0, hXX0⟩ : ∃ X : World, W2.drew = X := ⟨_, rfl⟩
 rw [hXX0] at hS h2 ⊢
 clear hXX0
 refine tkz 0 rfl hS (fun w' hS' => by go_simp; rfl) ?_
 simp only [nrz]
 refine tkz 1 rfl hS (fun w' hS' => by go_simp; rfl) ?_
 simp only [nrz]
 refine tkz 2 rfl hS (fun w' hS' => by go_simp; rfl) ?_
 simp only [nrz]
 refine tkz 3 rfl hS (fun w' hS' => by obtain ⟨cx, hcx⟩ := hS'; obtain ⟨y0, y1, y2, y3, y4⟩ := cz5 hcx; clear hcx; go_simp; rfl) ?_
 simp only [nrz]
 refine tkz 4 rfl hS (fun w' hS' => by go_simp; rfl) ?_
 simp only [nrz]
 refine tkz 5 rfl hS (fun w' hS' => by go_simp; rfl) ?_
 simp only [nrz]
 refine tkz 6 rfl hS (fun w' hS' => by go_simp; rfl) ?_
 simp only [nrz]
 refine tkz 7 rfl hS (fun w' hS' => by go_simp; rfl) ?_
 simp only [nrz]
 refine tkz 8 rfl hS (fun w' hS' => by obtain ⟨cx, hcx⟩ := hS'; obtain ⟨y0, y1, y2, y3, y4⟩ := cz5 hcx; clear hcx; go_simp; rfl) ?_
 simp only [nrz]
 refine tkz 10 rfl hS (fun w' hS' => by go_simp; rfl) ?_
 simp only [nrz]
 refine step_op 9 (by kernel_rfl) rfl (fun K hK => ?_)
 have hgr := groups_any ⟨P.w, P.h, P.I, []⟩ P.a P.n P.c hw hh P.vl (by omega) X0
 simp only [hG, pipev] at hgr
 rw [hvl] at hgr
 rw [if_pos (by rfl)]
 go_simp
 refine hgr.mono ?_
 rintro e X9 ⟨rfl, hb9⟩
 have hS9 : ∃ cx, Blk X9 bc 103 (cmC P bm fv' cx) := by obtain ⟨cx, hcx⟩ := hS; exact ⟨cx, hcx.below hb9 hcx.lt⟩
 have h3 := h2.below hb9
 clear h2 hgr hb9
 refine hK.out _ _ (fun h => hS9) ?_
 clear hK K
 try simp only [Act.put, nrz]
 refine done_ops (by kernel_rfl) ?_
 clear hS9 hS
 have h4 : Rn B S0 w X9 P bc bm (km + 1) M ⟨at_, fr, C.code ++ roundC P.w P.h L at_ R tz 0⟩ fv' br RCA := by rw [show roundC P.w P.h L at_ R tz 0 = [] from rfl, List.append_nil]; exact h3
 clear h3
 have hns : needB R.head = true := by rw [hRH.out.1]; exact hn
 have hrl := fun k => @round_len P.w P.h L at_ R tz hns k
 have hhl := headL_le hns
 rw [hRH.out.2, hnpH.out] at hrl
 obtain ⟨hl0, hhl0⟩ : ∃ q, headL R.head = q := ⟨_, rfl⟩
 rw [hhl0] at hrl hhl
 have hrl2 : ∀ k, k ≤ G → (roundC P.w P.h L at_ R tz k).length ≤ 16384 := fun k hk => by rw [hrl]; have := Nat.mul_le_mul (show np + hl0 ≤ 64 by omega) (show k ≤ 256 by omega); omega
 have hhd := fun g => head_len (w := P.w) (h := P.h) (lanes := L) (g := g) (F := at_) hn
 have hrlH := Lib.hid hrl2
 have hhdH := Lib.hid hhd
 clear hrl hrl2 hhd hhl hhl0 hns
 go_wp2_with fail
 go_loopw [22] (fun i wr => ∃ gr : Nat, gr ≤ G ∧ i = .int .i64 (gr : Int) ∧ Rn B S0 w wr P bc bm (km + 1) M ⟨at_, fr, C.code ++ roundC P.w P.h L at_ R tz gr⟩ fv' br RCA) (fun i _ => G - (intOf i).toNat)
 case atStart => exact ⟨0, Nat.zero_le _, rfl, h4⟩
 case round =>
  clear h4
  obtain ⟨gr, hgr, rfl, h⟩ := hrel
  by_cases hlt : gr < G
  case neg =>
   have hltd : decide ((gr : Int) < (G : Int)) = false := by simp; omega
   have hkn : G = gr := by omega
   subst hkn
   go_wp2_with fail
   go_end0
   exact ⟨⟨_, rfl⟩, hfinH.out _ _ _ h⟩
  case pos =>
   have hltd : decide ((gr : Int) < (G : Int)) = true := by simp; omega
   have hl1 := hrlH.out gr hgr
   have hl2 := hhdH.out gr
   have z0 : wr.cell? ⟨br, 0, none⟩ = some (.int .u8 s.op) := h.rcell (j := 0) (by rw [← hRCH.out]; rfl)
   have z1 : wr.cell? ⟨br, 1, none⟩ = some (.int .i64 s.a) := h.rcell (j := 1) (by rw [← hRCH.out]; rfl)
   have z2 : wr.cell? ⟨br, 2, none⟩ = some (.int .i64 s.b) := h.rcell (j := 2) (by rw [← hRCH.out]; rfl)
   have z3 : wr.cell? ⟨br, 3, none⟩ = some (.int .i64 s.pt.mul) := h.rcell (j := 3) (by rw [← hRCH.out]; rfl)
   have z4 : wr.cell? ⟨br, 4, none⟩ = some (.int .i64 s.pt.add) := h.rcell (j := 4) (by rw [← hRCH.out]; rfl)
   have z5 : wr.cell? ⟨br, 5, none⟩ = some (.int .i64 s.pt.div) := h.rcell (j := 5) (by rw [← hRCH.out]; rfl)
   have z6 : wr.cell? ⟨br, 6, none⟩ = some (.int .i64 s.pt.lo) := h.rcell (j := 6) (by rw [← hRCH.out]; rfl)
   have z7 : wr.cell? ⟨br, 7, none⟩ = some (.int .i64 s.pt.hi) := h.rcell (j := 7) (by rw [← hRCH.out]; rfl)
   have z8 : wr.cell? ⟨br, 8, none⟩ = some (.int .u8 s.how) := h.rcell (j := 8) (by rw [← hRCH.out]; rfl)
   have z9 : wr.cell? ⟨br, 9, none⟩ = some (.int .i64 s.kw) := h.rcell (j := 9) (by rw [← hRCH.out]; rfl)
   have z10 : wr.cell? ⟨br, 10, none⟩ = some (.int .i64 s.kh) := h.rcell (j := 10) (by rw [← hRCH.out]; rfl)
   have z11 : wr.cell? ⟨br, 11, none⟩ = some (.slice ka s.taps.length kc) := h.rcell (j := 11) (by rw [← hRCH.out]; rfl)
   have z12 : wr.cell? ⟨br, 12, none⟩ = some (.int .u8 s.bd) := h.rcell (j := 12) (by rw [← hRCH.out]; rfl)
   have z13 : wr.cell? ⟨br, 13, none⟩ = some (.int .i64 s.sw) := h.rcell (j := 13) (by rw [← hRCH.out]; rfl)
   have z14 : wr.cell? ⟨br, 14, none⟩ = some (.int .i64 s.sh) := h.rcell (j := 14) (by rw [← hRCH.out]; rfl)
   have z15 : wr.cell? ⟨br, 15, none⟩ = some (.slice sa s.bits.length sc) := h.rcell (j := 15) (by rw [← hRCH.out]; rfl)
   have z16 : wr.cell? ⟨br, 16, none⟩ = some (.slice pa np pc) := h.rcell (j := 16) (by rw [← hRCH.out]; rfl)
   have tok1 : True := trivial
   go_wp2_with (go_at_call 107; have _t := tok1; refine (h.head (by simp only [List.length_append]; omega) L hvl hw hh hL gr (by omega) s hs hn ka sa kc sc hM hop hBw hS0H.out hta hbi).mono ?_; clear _t tok1; rintro e W4 ⟨⟨v1, rfl⟩, h5⟩; have z16' : W4.cell? ⟨br, 16, none⟩ = some (.slice pa np pc) := h5.rcell (j := 16) (by rw [← hRCH.out]; rfl))
   clear z0 z1 z2 z3 z4 z5 z6 z7 z8 z9 z10 z11 z12 z13 z14 z15 z16 h
   have h6 : Rn B S0 w W4 P bc bm (km + 1) M ⟨at_, fr, C.code ++ roundC P.w P.h L at_ R tz gr ++ headC P.w P.h L gr at_ s ++ (pts.take 0).map insP⟩ fv' br RCA := by rw [List.take_zero, List.map_nil, List.append_nil]; exact h5
   clear h5 z16'
   go_loopw [33] (fun i wx => ∃ j : Nat, j ≤ np ∧ i = .int .i64 (j : Int) ∧ Rn B S0 w wx P bc bm (km + 1) M ⟨at_, fr, C.code ++ roundC P.w P.h L at_ R tz gr ++ headC P.w P.h L gr at_ s ++ (pts.take j).map insP⟩ fv' br RCA) (fun i _ => np - (intOf i).toNat)
   case atStart => exact ⟨0, Nat.zero_le _, rfl, h6⟩
   case round =>
    clear h6
    obtain ⟨j, hj, rfl, h⟩ := hrel
    have hl3 : ((pts.take j).map insP).length ≤ 12 := by rw [List.length_map, List.length_take]; omega
    by_cases hlj : j < np
    case neg =>
     have hljd : decide ((j : Int) < (np : Int)) = false := by simp; omega
     have hjn : np = j := by omega
     subst hjn
     have tok1 : True := trivial
     have tok2 : True := trivial
     have htk : pts.take np = pts := by rw [← hnpH.out]; exact List.take_length
     rw [htk] at h hl3
     clear htk
     go_wp2_with (first
      | (go_at_call 109; have _t := tok1; refine (h.addr L hvl hw hh hL gr (by omega) tz hvb).mono ?_; clear _t tok1; rintro e W5 ⟨ab, rfl, h7, hrow, hfb, hb0⟩)
      | (go_at_call 108; have _t := tok2; refine (h7.store (by simp only [List.length_append]; omega) L gr tz ab hrow hfb hb0).mono ?_; clear _t tok2; rintro e W6 ⟨⟨v2, rfl⟩, h8⟩))
     have h9 : Rn B S0 w W6 P bc bm (km + 1) M ⟨at_, fr, C.code ++ roundC P.w P.h L at_ R tz (gr + 1)⟩ fv' br RCA := by
      rw [show roundC P.w P.h L at_ R tz (gr + 1) = roundC P.w P.h L at_ R tz gr ++ groupC P.w P.h L gr at_ R tz from rfl]
      unfold groupC
      rw [hRH.out.1, hRH.out.2]
      simpa using h8
     clear h h7 h8 hrow hfb hb0
     go_roundw
     case rel => exact ⟨gr + 1, by omega, by go_num, h9⟩
     case measure => simp [intOf]; omega
    case pos =>
     have hljd : decide ((j : Int) < (np : Int)) = true := by simp; omega
     obtain ⟨pg, rfl, ⟨hpg, hpgS⟩, hpcell⟩ := hptH.out j hlj
     have hct : ∀ i, i < 5 → wr.cell? ⟨pg, j * 5 + i, none⟩ = some (ptCell (ptAt pts j) i) := fun i hi => (World.cell?_of_block (w := w) (w' := wr) (a := ⟨pg, j * 5 + i, none⟩) (h.trn.block pg hpg hpgS)).trans (hpcell i hi)
     have hstep : (pts.take (j + 1)).map insP = (pts.take j).map insP ++ [insP (ptAt pts j)] := by
      have hjl : j < pts.length := by have := hnpH.out; omega
      rw [List.take_succ_eq_append_getElem hjl, List.map_append]
      unfold ptAt
      rw [List.getElem?_eq_getElem hjl]; rfl
     obtain ⟨p, hp⟩ : ∃ p, ptAt pts j = p := ⟨_, rfl⟩
     rw [hp] at hct hstep
     have hstepH := Lib.hid hstep
     have c0 := hct 0 (by omega)
     have c1 := hct 1 (by omega)
     have c2 := hct 2 (by omega)
     have c3 := hct 3 (by omega)
     have c4 := hct 4 (by omega)
     rw [Nat.add_zero] at c0
     have c0' : wr.cell? ⟨pg, j * 5, none⟩ = some (.int .i64 p.mul) := c0
     have c1' : wr.cell? ⟨pg, j * 5 + 1, none⟩ = some (.int .i64 p.add) := c1
     have c2' : wr.cell? ⟨pg, j * 5 + 2, none⟩ = some (.int .i64 p.div) := c2
     have c3' : wr.cell? ⟨pg, j * 5 + 3, none⟩ = some (.int .i64 p.lo) := c3
     have c4' : wr.cell? ⟨pg, j * 5 + 4, none⟩ = some (.int .i64 p.hi) := c4
     clear hct hstep hpcell hp c0 c1 c2 c3 c4
     obtain ⟨Y1, hEY1, hbY1, kq⟩ := newB wr 69 #[.int .i64 p.mul, .int .i64 p.add, .int .i64 p.div, .int .i64 p.lo, .int .i64 p.hi]
     replace h := h.below hbY1
     obtain ⟨q0, q1, q2, q3, q4⟩ := cz5 kq
     have tok1 : True := trivial
     go_wp2_with (go_at_call 108; have _t := tok1; refine (h.emit (by simp only [List.length_append]; omega) (insP p) rfl).mono ?_; clear _t tok1; rintro e W5 ⟨⟨v1, rfl⟩, h7⟩)
     have h8 : Rn B S0 w W5 P bc bm (km + 1) M ⟨at_, fr, C.code ++ roundC P.w P.h L at_ R tz gr ++ headC P.w P.h L gr at_ s ++ (pts.take (j + 1)).map insP⟩ fv' br RCA := by rw [hstepH.out]; simpa using h7
     clear h h7
     go_roundw
     case rel => exact ⟨j + 1, by omega, by go_num, h8⟩
     case measure => simp [intOf]; omega
end Go.Proofs.YtekiemlniegddaaGreat

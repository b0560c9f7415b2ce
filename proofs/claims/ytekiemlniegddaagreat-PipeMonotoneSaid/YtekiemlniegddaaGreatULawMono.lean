/- PipeMonotone returns true for every pipe and two lists of images. -/
import Derived.Deep.DeepCutAuto
import Derived.Deep.LoopGhost
import Derived.Test.YtekiemlniegddaaGreatQH18
import Derived.Test.YtekiemlniegddaaGreatQH19
import Derived.Test.YtekiemlniegddaaGreatUPcN
import Derived.Test.YtekiemlniegddaaGreatQH7
namespace Go.Proofs.YtekiemlniegddaaGreat
open Go Go.Maps Go.RowKit Go.Shelf
set_option linter.unusedVariables false
set_option linter.unusedSimpArgs false

set_option maxRecDepth 100000 in
set_option maxHeartbeats 8000000 in
theorem law_monotone (Q : PipeN) (a : Option Addr) (n c : Nat) (hn : Q.ss.length = n) (hQ : PipeIn Q) (ks : List PicN) (ya : Option Addr) (qk yc : Nat) (hmk : ks.length = qk) (hmmk : qk ≤ 9223372036854775807) (hplk : ∀ i, (picAt ks i).px.length ≤ 9223372036854775807) (ms : List PicN) (la : Option Addr) (q lc : Nat) (hm : ms.length = q) (hmm : q ≤ 9223372036854775807) (hpl : ∀ i, (picAt ms i).px.length ≤ 9223372036854775807) (w : World) (hr : RdSs w.heap.size w a Q.ss) (hrk : RdPs w.heap.size w ya ks) (hrl : RdPs w.heap.size w la ms) :
  Calls Tryz.prog 7 #[pipev Q a n c, .slice ya qk yc, .slice la q lc] w fun e w' => e = .returned (.bool true) ∧ Below w.heap.size w w' := by
 have hB : Below w.heap.size w w := Below.refl _ _
 obtain ⟨pb, hpb⟩ : ∃ q, pipeB Q = q := ⟨_, rfl⟩
 have hvl := fun W h => PValid_any Q a n c hn hQ pb hpb W h
 unfold pipev at hvl
 have hvlH := Lib.hid hvl
 have hpbH := Lib.hid hpb
 clear hvl hpb
 obtain ⟨gbk, hgb⟩ : ∃ q, givenB ks Q.inp Q.w Q.h = q := ⟨_, rfl⟩
 have hgv := fun W h => given3_any Q a n c ks ya yc qk hmk hmmk (fun i _ => hplk i) gbk hgb W h
 unfold pipev at hgv
 have hgvkH := Lib.hid hgv
 have hgbkH := Lib.hid hgb
 clear hgv hgb
 obtain ⟨gb, hgb⟩ : ∃ q, givenB ms Q.inp Q.w Q.h = q := ⟨_, rfl⟩
 have hgv := fun W h => given3_any Q a n c ms la lc q hm hmm (fun i _ => hpl i) gb hgb W h
 unfold pipev at hgv
 have hgvH := Lib.hid hgv
 have hgbH := Lib.hid hgb
 clear hgv hgb
 have hmn := fun (X : List PicN) (xa' : Option Addr) (xq xcap : Nat) (e1 : X.length = xq) (e2 : xq ≤ 9223372036854775807) (e3 : ∀ i, (picAt X i).px.length ≤ 9223372036854775807) W h1 h2 => Mean_any Q a n c hn hQ X xa' xq xcap e1 e2 e3 W h1 h2
 unfold pipev at hmn
 have hmnH := Lib.hid hmn
 have hmH := Lib.hid hm
 have hmkH := Lib.hid hmk
 have hplH := Lib.hid hpl
 have hplkH := Lib.hid hplk
 have hQH := Lib.hid hQ
 have hnH := Lib.hid hn
 have hr0 := hr
 have hrl0 := hrl
 have hrk0 := hrk
 clear hmn hQ hn hm hpl hmk hplk
 unfold pipev
 obtain ⟨V1, hEV1, hbV1, kp⟩ := newB w 24 #[.int .i64 Q.w, .int .i64 Q.h, .int .i64 Q.inp, .slice a n c]
 replace hr := hr.later hbV1
 replace hrl := hrl.bm hbV1
 replace hrk := hrk.bm hbV1
 replace hB := tmB hB hbV1
 clear hbV1
 obtain ⟨p0, p1, p2, p3⟩ := cz4 kp
 go_enter Tryz.func7, Tryz.ntmps7
 go_wp2_with fail
 clear hEV1
 refine (alive3_any V1).mono ?_
 rintro e V2 ⟨rfl, hb⟩
 clear p0 p1 p2 p3
 replace kp := kp.below hb kp.lt
 replace hr := hr.later hb
 replace hrl := hrl.bm hb
 replace hrk := hrk.bm hb
 replace hB := tmB hB hb
 clear hb
 obtain ⟨p0, p1, p2, p3⟩ := cz4 kp
 go_wp2_with fail
 refine (hvlH.out V2 hr).mono ?_
 rintro e V3 ⟨rfl, hb⟩
 clear p0 p1 p2 p3
 replace kp := kp.below hb kp.lt
 replace hr := hr.later hb
 replace hrl := hrl.bm hb
 replace hrk := hrk.bm hb
 replace hB := tmB hB hb
 clear hb
 obtain ⟨p0, p1, p2, p3⟩ := cz4 kp
 cases pb with
 | false =>
  go_wp2_with fail
  go_ret
  exact ⟨rfl, hB⟩
 | true =>
 go_wp2_with fail
 refine (hgvkH.out V3 hrk).mono ?_
 rintro e V4 ⟨rfl, hb⟩
 clear p0 p1 p2 p3
 replace kp := kp.below hb kp.lt
 replace hr := hr.later hb
 replace hrl := hrl.bm hb
 replace hrk := hrk.bm hb
 replace hB := tmB hB hb
 clear hb
 obtain ⟨p0, p1, p2, p3⟩ := cz4 kp
 cases gbk with
 | false =>
  go_wp2_with fail
  go_ret
  exact ⟨rfl, hB⟩
 | true =>
 go_wp2_with fail
 refine (hgvH.out V4 hrl).mono ?_
 rintro e V5 ⟨rfl, hb⟩
 clear p0 p1 p2 p3
 replace kp := kp.below hb kp.lt
 replace hr := hr.later hb
 replace hrl := hrl.bm hb
 replace hrk := hrk.bm hb
 replace hB := tmB hB hb
 clear hb
 obtain ⟨p0, p1, p2, p3⟩ := cz4 kp
 cases gb with
 | false =>
  go_wp2_with fail
  go_ret
  exact ⟨rfl, hB⟩
 | true =>
 obtain ⟨_, _, hI, hn12, _⟩ := pipeB_true hpbH.out
 rw [hnH.out] at hn12
 have hq : (q : Int) = Q.inp := by have := givenB_len hgbH.out; rw [hmH.out] at this; exact this
 have hqk : (qk : Int) = Q.inp := by have := givenB_len hgbkH.out; rw [hmkH.out] at this; exact this
 have hq1 : 1 ≤ q := by omega
 have hq3 : q ≤ 3 := by omega
 obtain rfl : q = qk := by omega
 have hqH := Lib.hid hq
 clear hq hqk
 go_wp2_with fail
 clear p0 p1 p2 p3
 have hmonH := Lib.hid (show ∀ j, j < 0 → monB (stAt Q.ss j) = true from fun j h => absurd h (Nat.not_lt_zero j))
 clear hr hrl hrk
 go_loopw [8] (fun i wr => ∃ k : Nat, k ≤ n ∧ i = .int .i64 (k : Int) ∧ Hid (∀ j, j < k → monB (stAt Q.ss j) = true) ∧ Below w.heap.size w wr ∧ Blk wr w.heap.size 24 #[.int .i64 Q.w, .int .i64 Q.h, .int .i64 Q.inp, .slice a n c]) (fun i _ => n - (intOf i).toNat)
 case atStart => exact ⟨0, Nat.zero_le _, rfl, hmonH, hB, kp⟩
 case round =>
  clear hmonH hB kp
  obtain ⟨k, hk, rfl, hmonH, hB, kp⟩ := hrel
  by_cases hlt : k < n
  case neg =>
   have hkn : n = k := by omega
   subst hkn
   obtain ⟨i0, gi, gz0, gz1, gz2⟩ := info_parts info_pic
   have hlo : w.heap.size + 1 ≤ wr.heap.size := kp.lt
   have hownH := Lib.hid (show ∃ l : List PicA, OwnA (w.heap.size + 1) wr (.slice none 0 0) l ∧ l.map PicA.p = lowN ks ms 0 from ⟨[], ⟨World.ownsRow_nil _ _ _ _, fun x hx => by cases hx⟩, rfl⟩)
   have p3 := kp.cell (i := 3) rfl
   go_wp2_with fail
   clear p3
   go_loopg [10, 11] q (fun g v i wr => ∃ k : Nat, k + g = q ∧ i = .int .i64 (k : Int) ∧ Hid (∃ l : List PicA, OwnA (w.heap.size + 1) wr v l ∧ l.map PicA.p = lowN ks ms k) ∧ w.heap.size + 1 ≤ wr.heap.size ∧ Below w.heap.size w wr ∧ Blk wr w.heap.size 24 #[.int .i64 Q.w, .int .i64 Q.h, .int .i64 Q.inp, .slice a n c])
   case atStart => exact ⟨0, by omega, rfl, hownH, hlo, hB, kp⟩
   case round =>
    clear hB kp hownH hlo
    obtain ⟨k, hk, rfl, hH, hlo, hB, kp⟩ := hrel
    obtain ⟨l, hown, hlm⟩ := hH.out
    have hll : l.length = k := by rw [← lowN_len ks ms k, ← hlm, List.length_map]
    obtain ⟨va, vc, rfl⟩ := row_slice hown.row
    rw [hll]
    by_cases hlt : k < q
    case neg =>
     have hkn : q = k := by omega
     subst hkn
     have hqn : Q.inp.toNat = q := by have := hqH.out; omega
     obtain ⟨hLg, hLb⟩ := low_ok hpbH.out hgbkH.out hgbH.out
     have hmm0 := mean_mono hpbH.out hLg hgbH.out (by rw [hnH.out]; exact hmonH.out) hLb
     have hA := mean_val hpbH.out hLg
     have hA2 := mean_val hpbH.out hgbH.out
     have hAl := (mean_pic hpbH.out hLg).lenN
     have hBl := (mean_pic hpbH.out hgbH.out).lenN
     have hNm := (mean_pic hpbH.out hgbH.out).len
     have hLp := given_px hLg
     have hLl := lowN_len ks ms Q.inp.toNat
     have hpr : RdPs wr.heap.size wr va (lowN ks ms q) := by
      obtain ⟨a', c', e1, e2⟩ := hown.ps.slice
      simp only [Value.slice.injEq] at e1
      obtain ⟨rfl, _, rfl⟩ := e1
      rw [hlm] at e2; exact e2
     rw [hqn] at hLg hmm0 hA hAl hLp hLl
     obtain ⟨L, hL⟩ : ∃ L, lowN ks ms q = L := ⟨_, rfl⟩
     rw [hL] at hLg hmm0 hA hAl hLp hpr hLl
     obtain ⟨A, hAe⟩ : ∃ A, (meanN Q L).px = A := ⟨_, rfl⟩
     obtain ⟨B, hBe⟩ : ∃ B, (meanN Q ms).px = B := ⟨_, rfl⟩
     rw [hAe] at hmm0 hA hAl
     rw [hBe] at hmm0 hA2 hBl hNm
     obtain ⟨N, hN⟩ : ∃ N, Q.w.toNat * Q.h.toNat = N := ⟨_, rfl⟩
     rw [hN] at hmm0 hAl hBl
     have g1 := hmnH.out L va q vc hLl (by omega) hLp
     have g2 := hmnH.out ms la q lc hmH.out (by omega) hplH.out
     rw [hA] at g1
     rw [hA2] at g2
     have g1H := Lib.hid g1
     have g2H := Lib.hid g2
     have hmmH := Lib.hid (belowB_iff.1 hmm0)
     have hAlH := Lib.hid hAl
     have hBlH := Lib.hid hBl
     have hN0 : N ≤ 256 := by omega
     have hr : RdSs wr.heap.size wr a Q.ss := hr0.later hB
     have hrl : RdPs wr.heap.size wr la ms := (hrl0.below (Nat.le_refl _) hB).mono hB.size
     clear hLg hLb hmm0 hA hA2 hAl hBl hNm hLp hLl hqn hL hAe hBe hN g1 g2 hown hlm hll hH hlo hlt hk
     obtain ⟨p0, p1, p2, p3⟩ := cz4 kp
     go_wp2_with fail
     refine (g1H.out wr hr hpr).mono ?_
     rintro e V81 ⟨⟨vv1, rfl, ⟨uu1, rfl, h1⟩⟩, hb⟩
     clear p0 p1 p2 p3
     replace kp := kp.below hb kp.lt
     replace hr := hr.later hb
     replace hrl := hrl.bm hb
     replace hpr := hpr.bm hb
     replace hB := tmB hB hb
     clear hb
     dsimp only at h1 ⊢
     obtain ⟨p1a, p1c, rfl⟩ := row_slice h1
     rw [hAlH.out] at h1 ⊢
     have rp1 := row_rd' hAlH.out h1
     clear h1
     obtain ⟨p0, p1, p2, p3⟩ := cz4 kp
     obtain ⟨V82, hEV82, hbV82, k1⟩ := newB V81 32 #[.int .i64 Q.w, .int .i64 Q.h, .slice p1a N p1c]
     clear p0 p1 p2 p3
     replace kp := kp.below hbV82 kp.lt
     replace hr := hr.later hbV82
     replace hrl := hrl.bm hbV82
     replace hpr := hpr.bm hbV82
     replace rp1 := later_i rp1 hbV82
     replace hB := tmB hB hbV82
     clear hbV82
     obtain ⟨p0, p1, p2, p3⟩ := cz4 kp
     obtain ⟨i1z0, i1z1, i1z2⟩ := cz3 k1
     go_wp2_with fail
     clear hEV82
     refine (g2H.out V82 hr hrl).mono ?_
     rintro e V83 ⟨⟨vv2, rfl, ⟨uu2, rfl, h1⟩⟩, hb⟩
     clear p0 p1 p2 p3 i1z0 i1z1 i1z2
     replace kp := kp.below hb kp.lt
     replace k1 := k1.below hb k1.lt
     replace hr := hr.later hb
     replace hrl := hrl.bm hb
     replace hpr := hpr.bm hb
     replace rp1 := later_i rp1 hb
     replace hB := tmB hB hb
     clear hb
     dsimp only at h1 ⊢
     obtain ⟨p2a, p2c, rfl⟩ := row_slice h1
     rw [hBlH.out] at h1 ⊢
     have rp2 := row_rd' hBlH.out h1
     clear h1
     obtain ⟨p0, p1, p2, p3⟩ := cz4 kp
     obtain ⟨i1z0, i1z1, i1z2⟩ := cz3 k1
     obtain ⟨V84, hEV84, hbV84, k2⟩ := newB V83 32 #[.int .i64 Q.w, .int .i64 Q.h, .slice p2a N p2c]
     clear p0 p1 p2 p3 i1z0 i1z1 i1z2
     replace kp := kp.below hbV84 kp.lt
     replace k1 := k1.below hbV84 k1.lt
     replace hr := hr.later hbV84
     replace hrl := hrl.bm hbV84
     replace hpr := hpr.bm hbV84
     replace rp1 := later_i rp1 hbV84
     replace rp2 := later_i rp2 hbV84
     replace hB := tmB hB hbV84
     clear hbV84
     obtain ⟨p0, p1, p2, p3⟩ := cz4 kp
     obtain ⟨i1z0, i1z1, i1z2⟩ := cz3 k1
     obtain ⟨i2z0, i2z1, i2z2⟩ := cz3 k2
     have hnn : ((N : Int) != (N : Int)) = false := by simp
     go_wp2_with fail
     clear hnn
     clear hEV84
     clear p0 p1 p2 p3 i1z0 i1z1 i1z2 i2z0 i2z1 i2z2
     go_loopw [18] (fun i wr => ∃ k : Nat, k ≤ N ∧ i = .int .i64 (k : Int) ∧ Below V84.heap.size V84 wr) (fun i _ => N - (intOf i).toNat)
     case atStart => exact ⟨0, Nat.zero_le _, rfl, Below.refl _ _⟩
     case round =>
      obtain ⟨k, hk, rfl, hbr⟩ := hrel
      have i1z2 := (k1.below hbr k1.lt).cell (i := 2) rfl
      by_cases hlt : k < N
      case neg =>
       have hkN : N = k := by omega
       subst hkN
       go_wp2_with fail
       go_ret
       exact ⟨rfl, hB.trans (hbr.mono hB.size)⟩
      case pos =>
       obtain ⟨b, o, rfl, hbl, hc1⟩ := rd_at rp1 hAlH.out (by omega)
       obtain ⟨b2, o2, rfl, hbl2, hc2⟩ := rd_at rp2 hBlH.out (by omega)
       have hv1 := hc1 k hlt
       have hv2 := hc2 k hlt
       have hle := hmmH.out k hlt
       obtain ⟨x, hx⟩ : ∃ x, px A k = x := ⟨_, rfl⟩
       obtain ⟨y, hy⟩ : ∃ x, px B k = x := ⟨_, rfl⟩
       rw [hx] at hv1 hle
       rw [hy] at hv2 hle
       have hgt : decide (y < x) = false := decide_eq_false (by omega)
       have hS : Below wr.heap.size wr wr.drew := (Below.refl _ _).drew
       clear hx hy hc1 hc2
       go_wp2_with fail
       refine plain_region (fun W' => Below wr.heap.size wr W') 11 11 (by kernel_rfl) rfl ?_
       simp only [Array.replicate_succ, Array.replicate_zero, List.push_toArray, List.nil_append, List.cons_append]
       refine tkz 0 rfl hS (fun w' hS' => by go_simp; rfl) ?_
       simp only [nrz]
       refine tkz 1 (v := ?rv1) rfl hS (fun w' hS' => ?ry1) ?rz1
       case ry1 =>
        have hb' := hbr.trans (hS'.mono hbr.size)
        have d1 := (k1.below hb' k1.lt).cell (i := 2) rfl
        have d2 := (k2.below hb' k2.lt).cell (i := 2) rfl
        have d3 := (hb'.cell (p := ⟨b, o + k, none⟩) hbl).trans hv1
        have d4 := (hb'.cell (p := ⟨b2, o2 + k, none⟩) hbl2).trans hv2
        clear hb' hS'
        go_simp
        rfl
       simp only [nrz]
       refine tkz 2 rfl hS (fun w' hS' => by go_simp; rfl) ?_
       simp only [nrz]
       refine tkz 3 (v := ?rv3) rfl hS (fun w' hS' => ?ry3) ?rz3
       case ry3 =>
        go_simp
        try go_ints
        first
        | rfl
        | (rw [if_pos (by omega)]; done)
        | rw [if_pos ⟨by omega, by omega⟩]
       simp only [nrz]
       refine tkz 4 (v := ?rv4) rfl hS (fun w' hS' => ?ry4) ?rz4
       case ry4 =>
        have hb' := hbr.trans (hS'.mono hbr.size)
        have d1 := (k1.below hb' k1.lt).cell (i := 2) rfl
        have d2 := (k2.below hb' k2.lt).cell (i := 2) rfl
        have d3 := (hb'.cell (p := ⟨b, o + k, none⟩) hbl).trans hv1
        have d4 := (hb'.cell (p := ⟨b2, o2 + k, none⟩) hbl2).trans hv2
        clear hb' hS'
        go_simp
        rfl
       simp only [nrz]
       refine tkz 5 rfl hS (fun w' hS' => by go_simp; rfl) ?_
       simp only [nrz]
       refine tkz 6 (v := ?rv6) rfl hS (fun w' hS' => ?ry6) ?rz6
       case ry6 =>
        have hb' := hbr.trans (hS'.mono hbr.size)
        have d1 := (k1.below hb' k1.lt).cell (i := 2) rfl
        have d2 := (k2.below hb' k2.lt).cell (i := 2) rfl
        have d3 := (hb'.cell (p := ⟨b, o + k, none⟩) hbl).trans hv1
        have d4 := (hb'.cell (p := ⟨b2, o2 + k, none⟩) hbl2).trans hv2
        clear hb' hS'
        go_simp
        rfl
       simp only [nrz]
       refine tkz 7 rfl hS (fun w' hS' => by go_simp; rfl) ?_
       simp only [nrz]
       refine tkz 8 (v := ?rv8) rfl hS (fun w' hS' => ?ry8) ?rz8
       case ry8 =>
        go_simp
        try go_ints
        first
        | rfl
        | (rw [if_pos (by omega)]; done)
        | rw [if_pos ⟨by omega, by omega⟩]
       simp only [nrz]
       refine tkz 9 (v := ?rv9) rfl hS (fun w' hS' => ?ry9) ?rz9
       case ry9 =>
        have hb' := hbr.trans (hS'.mono hbr.size)
        have d1 := (k1.below hb' k1.lt).cell (i := 2) rfl
        have d2 := (k2.below hb' k2.lt).cell (i := 2) rfl
        have d3 := (hb'.cell (p := ⟨b, o + k, none⟩) hbl).trans hv1
        have d4 := (hb'.cell (p := ⟨b2, o2 + k, none⟩) hbl2).trans hv2
        clear hb' hS'
        go_simp
        rfl
       simp only [nrz]
       refine tkz 10 rfl hS (fun w' hS' => by go_simp; (try go_ints); rfl) ?_
       simp only [nrz]
       refine done_ops (by kernel_rfl) ?_
       have hbr2 := hbr.trans (hS.mono hbr.size)
       go_wp2_with fail
       go_roundw
       case rel => exact ⟨k + 1, by omega, by go_num, hbr2⟩
       case measure => simp [intOf]; omega
    case pos =>
     have hkk : k < ks.length := by rw [hmkH.out]; exact hlt
     have hkm : k < ms.length := by rw [hmH.out]; exact hlt
     obtain ⟨b, o, rfl, hbl, pa, pc, p0, p1, p2, rA, _⟩ := hrk0.at hkk
     obtain ⟨b2, o2, rfl, hbl2, qa, qc, q0, q1, q2, rQ, _⟩ := hrl0.at hkm
     have hz := les_ok (given_at hgbkH.out hkk) (given_at hgbH.out hkm)
     have hnx : lowN ks ms (k + 1) = lowN ks ms k ++ [resN (lesS (picAt ks k) (picAt ms k))] := rfl
     rw [hz] at hnx
     have hxl := hplkH.out k
     have hyl := hplH.out k
     have c0 := (hB.cell (p := ⟨b, o + k * 3, none⟩) hbl).trans p0
     have e0 := (hB.cell (p := ⟨b2, o2 + k * 3, none⟩) hbl2).trans q0
     have c1 := (hB.cell (p := ⟨b, o + k * 3 + 1, none⟩) hbl).trans p1
     have e1 := (hB.cell (p := ⟨b2, o2 + k * 3 + 1, none⟩) hbl2).trans q1
     have c2 := (hB.cell (p := ⟨b, o + k * 3 + 2, none⟩) hbl).trans p2
     have e2 := (hB.cell (p := ⟨b2, o2 + k * 3 + 2, none⟩) hbl2).trans q2
     replace rA := later_i rA hB
     replace rQ := later_i rQ hB
     have hb1 : b < wr.heap.size := by have := hB.size; omega
     have hb2 : b2 < wr.heap.size := by have := hB.size; omega
     obtain ⟨xx, hxx⟩ : ∃ X, img Q.w.toNat Q.h.toNat (zipG Q.w (picAt ks k).px (picAt ms k).px 3) = X := ⟨_, rfl⟩
     unfold lesS at hz
     rw [hxx] at hz hnx
     obtain ⟨⟨mw, mh, mx⟩, hM⟩ : ∃ M, picAt ks k = M := ⟨_, rfl⟩
     obtain ⟨⟨nw, nh, nx⟩, hN⟩ : ∃ M, picAt ms k = M := ⟨_, rfl⟩
     rw [hM] at c0 c1 c2 rA hxl hz
     rw [hN] at e0 e1 e2 rQ hyl hz
     simp only at c0 c1 c2 e0 e1 e2 rA rQ hxl hyl hz
     obtain ⟨l1, hl1⟩ : ∃ l, mx.length = l := ⟨_, rfl⟩
     obtain ⟨l2, hl2⟩ : ∃ l, nx.length = l := ⟨_, rfl⟩
     rw [hl1] at c2 hxl
     rw [hl2] at e2 hyl
     have hlH := Lib.hid hl1
     have hlH' := Lib.hid hl2
     have hzH := Lib.hid hz
     have hnxH := Lib.hid hnx
     have hlmH := Lib.hid hlm
     have hllH := Lib.hid hll
     have hrdJ : ∀ x ∈ l, RdX (Value.ownBlock (.slice va k vc)) wr x.a x.c x.p.px := by have := hown.rd; rw [hll] at this; exact this
     have hrdH := Lib.hid hrdJ
     have hrow0 : wr.ownsRow (w.heap.size + 1) 32 3 (.slice va k vc) k (flatC l) := by have := hown.row; rw [hll] at this; exact this
     have hvl : ∀ b, (Value.slice va k vc).ownBlock = some b → b < wr.heap.size := fun b e => (hrow0.lt b e).2
     clear p0 p1 p2 q0 q1 q2 hM hN hl1 hl2 hz hnx hlm hll hown hrdJ hH hxx hkk hkm
     have hBw : Below wr.heap.size wr wr := Below.refl _ _
     go_upto_region 14 with fail
     go_cut [12, 13] (fun s12 s13 wx => ∃ (bm : Nat) (xa : Option Addr) (xc : Nat), s12 = .pointer (some ⟨bm, 0, none⟩) ∧ s13 = .int .i64 0 ∧ Blk wx bm 32 #[.int .i64 Q.w, .int .i64 Q.h, .slice xa xx.length xc] ∧ wx.ownsRow wr.heap.size 3 1 (.slice xa xx.length xc) xx.length (xx.map (Value.int .i64)) ∧ wr.heap.size ≤ bm ∧ Below wr.heap.size wr wx)
     case first =>
      have hS : Below wr.heap.size wr wr.drew := (Below.refl _ _).drew
      refine plain_region (fun W' => Below wr.heap.size wr W') 15 15 (by kernel_rfl) rfl ?_
      simp only [Array.replicate_succ, Array.replicate_zero, List.push_toArray, List.nil_append, List.cons_append]
      obtain ⟨Xz, hXz⟩ : ∃ X, wr.drew = X := ⟨_, rfl⟩
      rw [hXz] at hS ⊢
      clear hXz
      have FA0 := Lib.hid (fun w' (hS' : (fun W' => Below wr.heap.size wr W') w') => And.intro ((hS'.cell (p := ⟨b, o + k * 3, none⟩) hb1).trans c0) (And.intro ((hS'.cell (p := ⟨b2, o2 + k * 3, none⟩) hb2).trans e0) (And.intro ((hS'.cell (p := ⟨b, o + k * 3 + 1, none⟩) hb1).trans c1) (And.intro ((hS'.cell (p := ⟨b2, o2 + k * 3 + 1, none⟩) hb2).trans e1) (And.intro ((hS'.cell (p := ⟨b, o + k * 3 + 2, none⟩) hb1).trans c2) ((hS'.cell (p := ⟨b2, o2 + k * 3 + 2, none⟩) hb2).trans e2))))))
      refine tkz 0 rfl hS (fun w' hS' => by go_simp; rfl) ?_
      simp only [nrz]
      refine tkz 1 rfl hS (fun w' hS' => by go_simp; rfl) ?_
      simp only [nrz]
      refine tkz 2 (v := ?r3v) rfl hS (fun w' hS' => ?r3y) ?r3z
      case r3y =>
       go_simp
       try go_ints
       first
       | rfl
       | (rw [if_pos (by omega)]; done)
       | rw [if_pos ⟨by omega, by omega⟩]
      simp only [nrz]
      refine tkz 3 rfl hS (fun w' hS' => by obtain ⟨d0, g0, d1, g1, d2, g2⟩ := FA0.out w' hS'; clear hS'; go_simp; rfl) ?_
      simp only [nrz]
      refine tkz 4 rfl hS (fun w' hS' => by go_simp; rfl) ?_
      simp only [nrz]
      refine tkz 5 rfl hS (fun w' hS' => by go_simp; rfl) ?_
      simp only [nrz]
      refine tkz 6 (v := ?r7v) rfl hS (fun w' hS' => ?r7y) ?r7z
      case r7y =>
       go_simp
       try go_ints
       first
       | rfl
       | (rw [if_pos (by omega)]; done)
       | rw [if_pos ⟨by omega, by omega⟩]
      simp only [nrz]
      refine tkz 7 rfl hS (fun w' hS' => by obtain ⟨d0, g0, d1, g1, d2, g2⟩ := FA0.out w' hS'; clear hS'; go_simp; rfl) ?_
      simp only [nrz]
      refine fork2 (i := 8) (j := 12) (by kernel_rfl) ?_ ?_
      ·refine step_at 8 rfl (fun K hK => ?_)
       rw [if_pos (by rfl)]
       go_simp
       have hc := Zip_any mw mh pa pc l1 mx hlH nw nh qa qc l2 nx hlH' 3 (by decide) (by decide) Xz hxl hyl (later_i rA hS) (later_i rQ hS)
       rw [hzH.out] at hc
       refine hc.mono ?_
       clear hc
       rintro e X8 ⟨⟨v, rfl, tt, rfl, hrowx⟩, hb⟩
       obtain ⟨xa, xc, rfl⟩ := row_slice hrowx
       have hrow := jrow_weaken hrowx hS.size
       clear hrowx
       have hS8 : Below wr.heap.size wr X8 := hS.trans (hb.mono hS.size)
       clear hb
       refine hK.out _ _ (fun h => hS8) ?_
       clear hK K
       try simp only [Act.put, nrz]
       refine tkz 9 rfl hS8 (fun w' hS' => by go_simp; rfl) ?_
       simp only [nrz]
       refine tkz 10 rfl hS8 (fun w' hS' => by go_simp; rfl) ?_
       simp only [nrz]
       refine tkz 11 rfl hS8 (fun w' hS' => by go_simp; rfl) ?_
       simp only [nrz]
       refine step_op 12 (by kernel_rfl) rfl (fun K hK => ?_)
       rw [if_pos (by rfl)]
       go_simp
       have km := Blk.new X8 32 #[.int .i64 0, .int .i64 0, .slice none 0 0]
       obtain ⟨bm, hbm⟩ : ∃ b, X8.heap.size = b := ⟨_, rfl⟩
       have hbmW : wr.heap.size ≤ bm := by have := hS8.size; omega
       obtain ⟨X12, hX12⟩ : ∃ X, X8.alloc (.cells #[.int .i64 0, .int .i64 0, .slice none 0 0] 32) = X := ⟨_, rfl⟩
       have hb : Below X8.heap.size X8 X12 := alloc_below hX12
       have hS12 : Below wr.heap.size wr X12 := hS8.trans (hb.mono hS8.size)
       rw [hX12] at km ⊢
       rw [hbm] at km ⊢
       replace hrow := row_below hrow hb
       clear hX12 hbm hb
       refine hK.out _ _ (fun h => hS12) ?_
       clear hK K
       try simp only [Act.put, nrz]
       refine step_op 13 (by kernel_rfl) rfl (fun K hK => ?_)
       obtain ⟨z0, z1, z2⟩ := cz3 km
       have fz0 := km.frozen 0
       have fz1 := km.frozen 1
       have fz2 := km.frozen 2
       rw [if_pos (by rfl)]
       go_simp
       have hS13 := hS12.trans (put3_below hbmW (.int .i64 Q.w) (.int .i64 Q.h) (.slice xa xx.length xc))
       refine hK.out _ _ (fun h => hS13) ?_
       clear hK K
       try simp only [Act.put, nrz]
       refine tkz 14 rfl hS13 (fun w' hS' => by go_simp; rfl) ?_
       simp only [nrz]
       refine done_ops (by kernel_rfl) ?_
       go_wp2_with fail
       go_meet
       exact ⟨bm, xa, xc, rfl, rfl, put3_blk km _ _ _, row_put3b hrow (km.not_row (by decide) hrow) _ _ _, hbmW, hS13⟩
      ·refine step_at 12 rfl (fun K hK => ?_)
       rw [if_pos (by rfl)]
       go_simp
       have km := Blk.new Xz 32 #[.int .i64 0, .int .i64 0, .slice none 0 0]
       obtain ⟨bm, hbm⟩ : ∃ b, Xz.heap.size = b := ⟨_, rfl⟩
       have hbmW : wr.heap.size ≤ bm := by have := hS.size; omega
       obtain ⟨X12, hX12⟩ : ∃ X, Xz.alloc (.cells #[.int .i64 0, .int .i64 0, .slice none 0 0] 32) = X := ⟨_, rfl⟩
       have hb : Below Xz.heap.size Xz X12 := alloc_below hX12
       have hS12 : Below wr.heap.size wr X12 := hS.trans (hb.mono hS.size)
       rw [hX12] at km ⊢
       rw [hbm] at km ⊢
       clear hX12 hbm hb
       refine hK.out _ _ (fun h => hS12) ?_
       clear hK K
       try simp only [Act.put, nrz]
       refine step_op 8 (by kernel_rfl) rfl (fun K hK => ?_)
       rw [if_pos (by rfl)]
       go_simp
       have hc := Zip_any mw mh pa pc l1 mx hlH nw nh qa qc l2 nx hlH' 3 (by decide) (by decide) X12 hxl hyl (later_i rA hS12) (later_i rQ hS12)
       rw [hzH.out] at hc
       refine hc.mono ?_
       clear hc
       rintro e X8 ⟨⟨v, rfl, tt, rfl, hrowx⟩, hb⟩
       obtain ⟨xa, xc, rfl⟩ := row_slice hrowx
       have hrow := jrow_weaken hrowx hS12.size
       clear hrowx
       have hS8 : Below wr.heap.size wr X8 := hS12.trans (hb.mono hS12.size)
       replace km := km.below hb km.lt
       clear hb
       refine hK.out _ _ (fun h => hS8) ?_
       clear hK K
       try simp only [Act.put, nrz]
       refine tkz 9 rfl hS8 (fun w' hS' => by go_simp; rfl) ?_
       simp only [nrz]
       refine tkz 10 rfl hS8 (fun w' hS' => by go_simp; rfl) ?_
       simp only [nrz]
       refine tkz 11 rfl hS8 (fun w' hS' => by go_simp; rfl) ?_
       simp only [nrz]
       refine step_op 13 (by kernel_rfl) rfl (fun K hK => ?_)
       obtain ⟨z0, z1, z2⟩ := cz3 km
       have fz0 := km.frozen 0
       have fz1 := km.frozen 1
       have fz2 := km.frozen 2
       rw [if_pos (by rfl)]
       go_simp
       have hS13 := hS8.trans (put3_below hbmW (.int .i64 Q.w) (.int .i64 Q.h) (.slice xa xx.length xc))
       refine hK.out _ _ (fun h => hS13) ?_
       clear hK K
       try simp only [Act.put, nrz]
       refine tkz 14 rfl hS13 (fun w' hS' => by go_simp; rfl) ?_
       simp only [nrz]
       refine done_ops (by kernel_rfl) ?_
       go_wp2_with fail
       go_meet
       exact ⟨bm, xa, xc, rfl, rfl, put3_blk km _ _ _, row_put3b hrow (km.not_row (by decide) hrow) _ _ _, hbmW, hS13⟩
     case rest =>
     obtain ⟨bm, xa, xc, rfl, rfl, km, hrow, hbm, hb⟩ := hcut
     clear c0 c1 c2 e0 e1 e2 rA rQ
     obtain ⟨xl, hxl⟩ : ∃ l, xx.length = l := ⟨_, rfl⟩
     rw [hxl] at hrow km
     have hxlH := Lib.hid hxl
     clear hxl
     replace kp := kp.below hb kp.lt
     replace hrow0 := row_below hrow0 hb
     replace hB := tmB hB hb
     replace hBw := hb
     clear hb
     obtain ⟨m0, m1, m2⟩ := cz3 km
     have hfar : xx = [] ∨ ∀ ad, xa = some ad → (Value.slice va k vc).ownBlock ≠ some ad.block := by
      right
      rintro ad rfl e
      have e1 := (hrow.lt ad.block rfl).1
      have e2 := hvl _ e
      omega
     have hfarH := Lib.hid hfar
     clear hfar
     have n0 := m0
     have n1 := m1
     have n2 := m2
     obtain ⟨V61, hEV61, hbV61, kb⟩ := newB wc 32 #[.int .i64 Q.w, .int .i64 Q.h, .slice xa xl xc]
     clear m0 m1 m2
     replace kp := kp.below hbV61 kp.lt
     replace km := km.below hbV61 km.lt
     replace hBw := hBw.trans (hbV61.mono hBw.size)
     replace hrow0 := row_below hrow0 hbV61
     replace hrow := row_below hrow hbV61
     replace hB := tmB hB hbV61
     clear hbV61
     go_wp2_with (at_builtin; refine wpList_append_anyS rfl _ _ 58 rfl (w.heap.size + 1) 32 i0 (.agg #[.int .i64 0, .int .i64 0, .slice none 0 0]) 3 40 Tryz.underlying58 gi gz0 gz1 gz2 rfl (by decide) (.slice va k vc) k (flatC l) rfl hrow0 (some ⟨_, 0, none⟩) 1 1 (picCells ⟨⟨Q.w, Q.h, xx⟩, xa, xc⟩) rfl rfl (by rw [show picCells ⟨⟨Q.w, Q.h, xx⟩, xa, xc⟩ = [.int .i64 Q.w, .int .i64 Q.h, .slice xa xl xc] by show [_, _, Value.slice xa xx.length xc] = _; rw [hxlH.out]]; exact NewsAt.blk kb 1) (flatC_one [⟨⟨Q.w, Q.h, xx⟩, xa, xc⟩]) (by unfold maxLen; omega) (by omega) (by have := hBw.size; omega) ?_; intro v7 W7 own7 hg7 hat7)
     clear hEV61
     clear n0 n1 n2
     have hBf : Below w.heap.size w W7 := hB.grown hg7 hB.size (fun b e => by have := (hrow0.lt b e).1; omega)
     have kp7 := kp.kept hg7 (fun e => by have := (hrow0.lt _ e.symm).1; omega)
     have hlo7 : (w.heap.size + 1) ≤ W7.heap.size := by have := hBw.size; have := hg7.size; omega
     have hnew := OwnA.push (B := (w.heap.size + 1)) (x := ⟨⟨Q.w, Q.h, xx⟩, xa, xc⟩) (fun y hy => by have e := hrdH.out y hy; exact ⟨later_i e.1 hBw, e.2⟩) (row_rd' hxlH.out hrow) (fun e => by subst e; exact (row_nil hrow).2) hfarH.out (by have hll2 := hllH.out; rw [hll2]; exact own7) hg7 hat7
     have hfin : ∃ l : List PicA, OwnA (w.heap.size + 1) W7 v7 l ∧ l.map PicA.p = lowN ks ms (k + 1) := by
      refine ⟨_, hnew, ?_⟩
      rw [List.map_append, hlmH.out, hnxH.out]
      rfl
     have hfinH := Lib.hid hfin
     clear hfin hnew hrow hrow0 own7 hg7 hat7 kb km hB hBw kp
     go_roundg (q - (k + 1))
     case measure => omega
     case rel => exact ⟨k + 1, by omega, by go_num, hfinH, hlo7, hBf, kp7⟩
  case pos =>
   obtain ⟨p0, p1, p2, p3⟩ := cz4 kp
   have hks : k < Q.ss.length := by rw [hnH.out]; exact hlt
   obtain ⟨b, o, ka, kc, sa, sc, rfl, hbl, hst2⟩ : ∃ b o ka kc sa sc, a = some ⟨b, o, none⟩ ∧ b < w.heap.size ∧ StAt w.heap.size w b (o + k * 16) (stAt Q.ss k) ka kc sa sc := by
    rcases hr0 with h | ⟨b, o, h1, h2, h3⟩
    ·exfalso; rw [h] at hks; simp at hks
    ·obtain ⟨ka, kc, sa, sc, e⟩ := h3 k hks
     exact ⟨b, o, ka, kc, sa, sc, h1, h2, e⟩
   have hnx : ∀ j, j < k + 1 → monB (stAt Q.ss k) = true → monB (stAt Q.ss j) = true := fun j hj h => by
    by_cases e : j = k
    ·rw [e]; exact h
    ·exact hmonH.out j (by omega)
   obtain ⟨s, hse⟩ : ∃ s, stAt Q.ss k = s := ⟨_, rfl⟩
   rw [hse] at hst2 hnx
   clear hse hks hmonH
   have hnxH := Lib.hid hnx
   clear hnx
   obtain ⟨hcell, hta, hbi⟩ := hst2
   have c0 : wr.cell? ⟨b, o + k * 16, none⟩ = some (.int .u8 s.op) := (hB.cell (p := ⟨b, o + k * 16, none⟩) hbl).trans (hcell 0 _ rfl)
   have c1 : wr.cell? ⟨b, o + k * 16 + 1, none⟩ = some (.int .i64 s.a) := (hB.cell (p := ⟨b, o + k * 16 + 1, none⟩) hbl).trans (hcell 1 _ rfl)
   have c2 : wr.cell? ⟨b, o + k * 16 + 2, none⟩ = some (.int .i64 s.b) := (hB.cell (p := ⟨b, o + k * 16 + 2, none⟩) hbl).trans (hcell 2 _ rfl)
   have c3 : wr.cell? ⟨b, o + k * 16 + 3, none⟩ = some (.int .i64 s.pt.mul) := (hB.cell (p := ⟨b, o + k * 16 + 3, none⟩) hbl).trans (hcell 3 _ rfl)
   have c4 : wr.cell? ⟨b, o + k * 16 + 4, none⟩ = some (.int .i64 s.pt.add) := (hB.cell (p := ⟨b, o + k * 16 + 4, none⟩) hbl).trans (hcell 4 _ rfl)
   have c5 : wr.cell? ⟨b, o + k * 16 + 5, none⟩ = some (.int .i64 s.pt.div) := (hB.cell (p := ⟨b, o + k * 16 + 5, none⟩) hbl).trans (hcell 5 _ rfl)
   have c6 : wr.cell? ⟨b, o + k * 16 + 6, none⟩ = some (.int .i64 s.pt.lo) := (hB.cell (p := ⟨b, o + k * 16 + 6, none⟩) hbl).trans (hcell 6 _ rfl)
   have c7 : wr.cell? ⟨b, o + k * 16 + 7, none⟩ = some (.int .i64 s.pt.hi) := (hB.cell (p := ⟨b, o + k * 16 + 7, none⟩) hbl).trans (hcell 7 _ rfl)
   have c8 : wr.cell? ⟨b, o + k * 16 + 8, none⟩ = some (.int .u8 s.how) := (hB.cell (p := ⟨b, o + k * 16 + 8, none⟩) hbl).trans (hcell 8 _ rfl)
   have c9 : wr.cell? ⟨b, o + k * 16 + 9, none⟩ = some (.int .i64 s.kw) := (hB.cell (p := ⟨b, o + k * 16 + 9, none⟩) hbl).trans (hcell 9 _ rfl)
   have c10 : wr.cell? ⟨b, o + k * 16 + 10, none⟩ = some (.int .i64 s.kh) := (hB.cell (p := ⟨b, o + k * 16 + 10, none⟩) hbl).trans (hcell 10 _ rfl)
   have c11 : wr.cell? ⟨b, o + k * 16 + 11, none⟩ = some (.slice ka s.taps.length kc) := (hB.cell (p := ⟨b, o + k * 16 + 11, none⟩) hbl).trans (hcell 11 _ rfl)
   have c12 : wr.cell? ⟨b, o + k * 16 + 12, none⟩ = some (.int .u8 s.bd) := (hB.cell (p := ⟨b, o + k * 16 + 12, none⟩) hbl).trans (hcell 12 _ rfl)
   have c13 : wr.cell? ⟨b, o + k * 16 + 13, none⟩ = some (.int .i64 s.sw) := (hB.cell (p := ⟨b, o + k * 16 + 13, none⟩) hbl).trans (hcell 13 _ rfl)
   have c14 : wr.cell? ⟨b, o + k * 16 + 14, none⟩ = some (.int .i64 s.sh) := (hB.cell (p := ⟨b, o + k * 16 + 14, none⟩) hbl).trans (hcell 14 _ rfl)
   have c15 : wr.cell? ⟨b, o + k * 16 + 15, none⟩ = some (.slice sa s.bits.length sc) := (hB.cell (p := ⟨b, o + k * 16 + 15, none⟩) hbl).trans (hcell 15 _ rfl)
   clear hcell hta hbi
   have q_p0 := p0
   have q_p1 := p1
   have q_p2 := p2
   have q_p3 := p3
   obtain ⟨V41, hEV41, hbV41, kb⟩ := newB wr 76 #[.int .u8 s.op, .int .i64 s.a, .int .i64 s.b, .int .i64 s.pt.mul, .int .i64 s.pt.add, .int .i64 s.pt.div, .int .i64 s.pt.lo, .int .i64 s.pt.hi, .int .u8 s.how, .int .i64 s.kw, .int .i64 s.kh, .slice ka s.taps.length kc, .int .u8 s.bd, .int .i64 s.sw, .int .i64 s.sh, .slice sa s.bits.length sc]
   clear p0 p1 p2 p3
   replace kp := kp.below hbV41 kp.lt
   replace hB := tmB hB hbV41
   clear hbV41
   obtain ⟨p0, p1, p2, p3⟩ := cz4 kp
   obtain ⟨m0, m1, m2, m3, m4, m5, m6, m7, m8, m9, m10, m11, m12, m13, m14, m15⟩ := cz16 kb
   have hmb : monB s = (!decide (s.op = 3) && (!(decide (s.op = 1) && decide (s.pt.mul < 0)) && !(decide (s.op = 2) && (decide (s.how ≠ 3) && decide (s.how ≠ 4))))) := rfl
   have hmbH := Lib.hid hmb
   clear hmb
   go_upto_region 8 with fail
   clear hEV41
   clear c0 c1 c2 c3 c4 c5 c6 c7 c8 c9 c10 c11 c12 c13 c14 c15 q_p0 q_p1 q_p2 q_p3
   by_cases g3 : s.op = 3
   case pos =>
    have g3f : (s.op == 3) = true := by simp [g3]
    have g3H := Lib.hid g3
    clear g3
    go_wp2_with fail
    go_ret
    exact ⟨rfl, hB⟩
   case neg =>
   have g3f : (s.op == 3) = false := by simp [g3]
   by_cases g1 : s.op = 1
   case pos =>
    have g1f : (s.op == 1) = true := by simp [g1]
    have g1H := Lib.hid g1
    clear g1
    have g2 : ¬ s.op = 2 := by have := g1H.out; omega
    have g2f : (s.op == 2) = false := by simp [g2]
    by_cases gm : s.pt.mul < 0
    case pos =>
     have gmd : decide (s.pt.mul < 0) = true := decide_eq_true gm
     go_wp2_with fail
     go_ret
     exact ⟨rfl, hB⟩
    case neg =>
     have gmd : decide (s.pt.mul < 0) = false := decide_eq_false gm
     have hmn2 : monB s = true := by rw [hmbH.out]; simp [g1H.out, gm]
     have hmonH := Lib.hid (fun j hj => hnxH.out j hj hmn2)
     clear hmn2
     go_wp2_with fail
     go_roundw
     case rel => exact ⟨k + 1, hlt, rfl, hmonH, hB, kp⟩
     case measure => simp only [intOf]; omega
   case neg =>
   have g1f : (s.op == 1) = false := by simp [g1]
   by_cases g2 : s.op = 2
   case neg =>
    have g2f : (s.op == 2) = false := by simp [g2]
    have hmn2 : monB s = true := by rw [hmbH.out]; simp [g1, g2, g3]
    have hmonH := Lib.hid (fun j hj => hnxH.out j hj hmn2)
    clear hmn2
    go_wp2_with fail
    go_roundw
    case rel => exact ⟨k + 1, hlt, rfl, hmonH, hB, kp⟩
    case measure => simp only [intOf]; omega
   case pos =>
   have g2f : (s.op == 2) = true := by simp [g2]
   have g2H := Lib.hid g2
   clear g2
   by_cases g4 : s.how = 3
   case pos =>
    have g4f : (s.how == 3) = true := by simp [g4]
    have g4n : (s.how != 3) = false := by simp [g4]
    have g4H := Lib.hid g4
    clear g4
    have hmn2 : monB s = true := by rw [hmbH.out]; simp [g2H.out, g4H.out]
    have hmonH := Lib.hid (fun j hj => hnxH.out j hj hmn2)
    clear hmn2
    go_wp2_with fail
    go_roundw
    case rel => exact ⟨k + 1, hlt, rfl, hmonH, hB, kp⟩
    case measure => simp only [intOf]; omega
   case neg =>
   have g4f : (s.how == 3) = false := by simp [g4]
   have g4n : (s.how != 3) = true := by simp [g4]
   by_cases g5 : s.how = 4
   case pos =>
    have g5f : (s.how == 4) = true := by simp [g5]
    have g5n : (s.how != 4) = false := by simp [g5]
    have g5H := Lib.hid g5
    clear g5
    have hmn2 : monB s = true := by rw [hmbH.out]; simp [g2H.out, g5H.out]
    have hmonH := Lib.hid (fun j hj => hnxH.out j hj hmn2)
    clear hmn2
    go_wp2_with fail
    go_roundw
    case rel => exact ⟨k + 1, hlt, rfl, hmonH, hB, kp⟩
    case measure => simp only [intOf]; omega
   case neg =>
    have g5f : (s.how == 4) = false := by simp [g5]
    have g5n : (s.how != 4) = true := by simp [g5]
    go_wp2_with fail
    go_ret
    exact ⟨rfl, hB⟩

end Go.Proofs.YtekiemlniegddaaGreat

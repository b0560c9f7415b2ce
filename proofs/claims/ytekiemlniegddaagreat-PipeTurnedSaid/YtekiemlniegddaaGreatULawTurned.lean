/- PipeTurned returns true for every pipe and images. -/
import Derived.Test.YtekiemlniegddaaGreatQH18
import Derived.Test.YtekiemlniegddaaGreatQH19
import Derived.Test.YtekiemlniegddaaGreatUPcT
import Derived.Test.YtekiemlniegddaaGreatQH2
import Derived.Test.YtekiemlniegddaaGreatQH7
namespace Go.Proofs.YtekiemlniegddaaGreat
open Go Go.Maps Go.RowKit Go.Shelf
set_option linter.unusedVariables false
set_option linter.unusedSimpArgs false

set_option maxRecDepth 100000 in
set_option maxHeartbeats 8000000 in
theorem law_turned (Q : PipeN) (a : Option Addr) (n c : Nat) (hn : Q.ss.length = n) (hQ : PipeIn Q) (ms : List PicN) (la : Option Addr) (q lc : Nat) (hm : ms.length = q) (hmm : q ≤ 9223372036854775807) (hpl : ∀ i, (picAt ms i).px.length ≤ 9223372036854775807) (w : World) (hr : RdSs w.heap.size w a Q.ss) (hrl : RdPs w.heap.size w la ms) :
  Calls Tryz.prog 10 #[pipev Q a n c, .slice la q lc] w fun e w' => e = .returned (.bool true) ∧ Below w.heap.size w w' := by
 have hB : Below w.heap.size w w := Below.refl _ _
 obtain ⟨pb, hpb⟩ : ∃ q, pipeB Q = q := ⟨_, rfl⟩
 have hvl := fun W h => PValid_any Q a n c hn hQ pb hpb W h
 unfold pipev at hvl
 have hvlH := Lib.hid hvl
 have hpbH := Lib.hid hpb
 clear hvl hpb
 obtain ⟨gb, hgb⟩ : ∃ q, givenB ms Q.inp Q.w Q.h = q := ⟨_, rfl⟩
 have hgv := fun W h => given3_any Q a n c ms la lc q hm hmm (fun i _ => hpl i) gb hgb W h
 unfold pipev at hgv
 have hgvH := Lib.hid hgv
 have hgbH := Lib.hid hgb
 clear hgv hgb
 have hmH := Lib.hid hm
 have hplH := Lib.hid hpl
 have hQH := Lib.hid hQ
 have hnH := Lib.hid hn
 have hr0 := hr
 have hrl0 := hrl
 clear hQ hn hm hpl
 unfold pipev
 obtain ⟨V1, hEV1, hbV1, kp⟩ := newB w 24 #[.int .i64 Q.w, .int .i64 Q.h, .int .i64 Q.inp, .slice a n c]
 replace hr := hr.later hbV1
 replace hrl := hrl.bm hbV1
 replace hB := tmB hB hbV1
 clear hbV1
 obtain ⟨p0, p1, p2, p3⟩ := cz4 kp
 go_enter Tryz.func10, Tryz.ntmps10
 go_wp2_with fail
 clear hEV1
 refine (alive3_any V1).mono ?_
 rintro e V2 ⟨rfl, hb⟩
 clear p0 p1 p2 p3
 replace kp := kp.below hb kp.lt
 replace hr := hr.later hb
 replace hrl := hrl.bm hb
 replace hB := tmB hB hb
 clear hb
 obtain ⟨p0, p1, p2, p3⟩ := cz4 kp
 go_wp2_with fail
 refine (hvlH.out V2 hr).mono ?_
 rintro e V3 ⟨rfl, hb⟩
 clear p0 p1 p2 p3
 replace kp := kp.below hb kp.lt
 replace hr := hr.later hb
 replace hrl := hrl.bm hb
 replace hB := tmB hB hb
 clear hb
 obtain ⟨p0, p1, p2, p3⟩ := cz4 kp
 cases pb with
 | false =>
  go_wp2_with fail
  go_ret
  exact ⟨rfl, hB⟩
 | true =>
 go_wp2_with fail
 refine (hgvH.out V3 hrl).mono ?_
 rintro e V4 ⟨rfl, hb⟩
 clear p0 p1 p2 p3
 replace kp := kp.below hb kp.lt
 replace hr := hr.later hb
 replace hrl := hrl.bm hb
 replace hB := tmB hB hb
 clear hb
 obtain ⟨p0, p1, p2, p3⟩ := cz4 kp
 cases gb with
 | false =>
  go_wp2_with fail
  go_ret
  exact ⟨rfl, hB⟩
 | true =>
 obtain ⟨_, _, hI, hn12, _⟩ := pipeB_true hpbH.out
 rw [hnH.out] at hn12
 have hq : (q : Int) = Q.inp := by have := givenB_len hgbH.out; rw [hmH.out] at this; exact this
 have hq1 : 1 ≤ q := by omega
 have hq3 : q ≤ 3 := by omega
 have hqH := Lib.hid hq
 clear hq
 go_wp2_with fail
 have hopH := Lib.hid (show ∀ j, j < 0 → (stAt Q.ss j).op = 1 ∨ (stAt Q.ss j).op = 2 from fun j h => absurd h (Nat.not_lt_zero j))
 clear hr hrl
 go_loop [6] (fun i => ∃ k : Nat, k ≤ n ∧ i = .int .i64 (k : Int) ∧ Hid (∀ j, j < k → (stAt Q.ss j).op = 1 ∨ (stAt Q.ss j).op = 2)) (fun i => n - (intOf i).toNat)
 case atStart => exact ⟨0, Nat.zero_le _, rfl, hopH⟩
 case round =>
  clear hopH
  obtain ⟨k, hk, rfl, hopH⟩ := hrel
  by_cases hlt : k < n
  case pos =>
   have hks : k < Q.ss.length := by rw [hnH.out]; exact hlt
   obtain ⟨b, o, ka, kc, sa, sc, rfl, hbl, hst2⟩ : ∃ b o ka kc sa sc, a = some ⟨b, o, none⟩ ∧ b < w.heap.size ∧ StAt w.heap.size w b (o + k * 16) (stAt Q.ss k) ka kc sa sc := by
    rcases hr0 with h | ⟨b, o, h1, h2, h3⟩
    ·exfalso; rw [h] at hks; simp at hks
    ·obtain ⟨ka, kc, sa, sc, e⟩ := h3 k hks
     exact ⟨b, o, ka, kc, sa, sc, h1, h2, e⟩
   have hnx : ∀ j, j < k + 1 → ((stAt Q.ss k).op = 1 ∨ (stAt Q.ss k).op = 2) → (stAt Q.ss j).op = 1 ∨ (stAt Q.ss j).op = 2 := fun j hj h => by
    by_cases e : j = k
    ·rw [e]; exact h
    ·exact hopH.out j (by omega)
   obtain ⟨s, hse⟩ : ∃ s, stAt Q.ss k = s := ⟨_, rfl⟩
   rw [hse] at hst2 hnx
   have hnxH := Lib.hid hnx
   clear hse hks hopH hnx
   obtain ⟨hcell, hta, hbi⟩ := hst2
   have c0 : V4.cell? ⟨b, o + k * 16, none⟩ = some (.int .u8 s.op) := (hB.cell (p := ⟨b, o + k * 16, none⟩) hbl).trans (hcell 0 _ rfl)
   clear hcell hta hbi
   by_cases h1 : s.op = 1
   case pos =>
    have h1f : (s.op != 1) = false := by simp [h1]
    have hopH := Lib.hid (fun j hj => hnxH.out j hj (.inl h1))
    clear h1
    go_wp2_with fail
    go_round
    case rel => exact ⟨k + 1, hlt, rfl, hopH⟩
    case measure => simp only [intOf]; omega
   case neg =>
   have h1f : (s.op != 1) = true := by simp [h1]
   by_cases h2 : s.op = 2
   case pos =>
    have h2f : (s.op != 2) = false := by simp [h2]
    have hopH := Lib.hid (fun j hj => hnxH.out j hj (.inr h2))
    clear h1 h2
    go_wp2_with fail
    go_round
    case rel => exact ⟨k + 1, hlt, rfl, hopH⟩
    case measure => simp only [intOf]; omega
   case neg =>
    have h2f : (s.op != 2) = true := by simp [h2]
    clear h1 h2
    go_wp2_with fail
    go_ret
    exact ⟨rfl, hB⟩
  case neg =>
   have hkn : n = k := by omega
   subst hkn
   obtain ⟨Vq, hEVq, hbVq, kq⟩ := newB V4 24 #[.int .i64 Q.w, .int .i64 Q.h, .int .i64 Q.inp, .slice a n c]
   obtain ⟨bq, hbq⟩ : ∃ b, V4.heap.size = b := ⟨_, rfl⟩
   rw [hbq] at kq
   go_wp2_with fail
   clear hEVq
   have hS : Below V4.heap.size V4 Vq.drew := hbVq.drew
   replace kq : Blk Vq.drew bq 24 #[.int .i64 Q.w, .int .i64 Q.h, .int .i64 Q.inp, .slice a n c] := kq.below (Below.refl _ Vq).drew kq.lt
   refine plain_region (fun W' => Below V4.heap.size V4 W') 8 8 (by kernel_rfl) rfl ?_
   simp only [Array.replicate_succ, Array.replicate_zero, List.push_toArray, List.nil_append, List.cons_append]
   obtain ⟨X0, hXX0⟩ : ∃ X : World, Vq.drew = X := ⟨_, rfl⟩
   rw [hXX0] at hS kq ⊢
   clear hXX0
   have FA0 := Lib.hid (fun w' (hS' : (fun W' => Below V4.heap.size V4 W') w') => And.intro ((kp.below hS' kp.lt).cell (i := 0) rfl) ((kp.below hS' kp.lt).cell (i := 1) rfl))
   refine tkz 0 rfl hS (fun w' hS' => by go_simp; rfl) ?_
   simp only [nrz]
   refine tkz 1 rfl hS (fun w' hS' => by obtain ⟨fp0, fp1⟩ := FA0.out w' hS'; clear hS'; go_simp; rfl) ?_
   simp only [nrz]
   refine tkz 2 rfl hS (fun w' hS' => by go_simp; rfl) ?_
   simp only [nrz]
   refine tkz 3 rfl hS (fun w' hS' => by obtain ⟨fp0, fp1⟩ := FA0.out w' hS'; clear hS'; go_simp; rfl) ?_
   simp only [nrz]
   refine tkz 4 rfl hS (fun w' hS' => by go_simp; rfl) ?_
   simp only [nrz]
   refine step_op 5 (by kernel_rfl) rfl (fun K hK => ?_)
   have z0 := kq.cell (i := 0) rfl
   have fz0 := kq.frozen 0
   rw [if_pos (by rfl)]
   go_simp
   clear z0 fz0
   have kq5 := kq.set 0 (.int .i64 Q.h)
   have hS5 := hS.setCell (p := ⟨bq, 0, none⟩) (by rw [← hbq]; exact Nat.le_refl _) (.int .i64 Q.h)
   obtain ⟨X5, hX5⟩ : ∃ X, X0.setCell ⟨bq, 0, none⟩ (.int .i64 Q.h) = X := ⟨_, rfl⟩
   rw [hX5] at kq5 hS5 ⊢
   clear hX5
   refine hK.out _ _ (fun h => hS5) ?_
   clear hK K
   try simp only [Act.put, nrz]
   refine tkz 6 rfl hS5 (fun w' hS' => by go_simp; rfl) ?_
   simp only [nrz]
   refine step_op 7 (by kernel_rfl) rfl (fun K hK => ?_)
   have z1 := kq5.cell (i := 1) rfl
   have fz1 := kq5.frozen 1
   rw [if_pos (by rfl)]
   go_simp
   clear z1 fz1
   have kq7 := kq5.set 1 (.int .i64 Q.w)
   have hS7 := hS5.setCell (p := ⟨bq, 1, none⟩) (by rw [← hbq]; exact Nat.le_refl _) (.int .i64 Q.w)
   obtain ⟨X7, hX7⟩ : ∃ X, X5.setCell ⟨bq, 1, none⟩ (.int .i64 Q.w) = X := ⟨_, rfl⟩
   rw [hX7] at kq7 hS7 ⊢
   clear hX7
   refine hK.out _ _ (fun h => hS7) ?_
   clear hK K
   try simp only [Act.put, nrz]
   refine done_ops (by kernel_rfl) ?_
   clear kq kq5 hS hS5 hbVq
   clear p0 p1 p2 p3
   have kq : Blk X7 bq 24 #[.int .i64 Q.h, .int .i64 Q.w, .int .i64 Q.inp, .slice a n c] := kq7
   have hbp : w.heap.size < bq := hbq ▸ kp.lt
   clear kq7
   replace kp := kp.below hS7 kp.lt
   replace hB := tmB hB hS7
   obtain ⟨B0, hB0⟩ : ∃ b, X7.heap.size = b := ⟨_, rfl⟩
   have hbB : bq < B0 := hB0 ▸ kq.lt
   have hlo : B0 ≤ X7.heap.size := by omega
   clear hS7 hbq hB0
   obtain ⟨i0, gi, gz0, gz1, gz2⟩ := info_parts info_pic
   have hownH := Lib.hid (show ∃ l : List PicA, OwnA B0 X7 (.slice none 0 0) l ∧ l.map PicA.p = (ms.map turnP).take 0 from ⟨[], ⟨World.ownsRow_nil _ _ _ _, fun x hx => by cases hx⟩, rfl⟩)
   go_wp2_with fail
   go_loopw [8, 9] (fun v i wr => ∃ k : Nat, k ≤ q ∧ i = .int .i64 (k : Int) ∧ Hid (∃ l : List PicA, OwnA B0 wr v l ∧ l.map PicA.p = (ms.map turnP).take k) ∧ B0 ≤ wr.heap.size ∧ Below w.heap.size w wr ∧ Blk wr w.heap.size 24 #[.int .i64 Q.w, .int .i64 Q.h, .int .i64 Q.inp, .slice a n c] ∧ Blk wr bq 24 #[.int .i64 Q.h, .int .i64 Q.w, .int .i64 Q.inp, .slice a n c]) (fun _ i _ => q - (intOf i).toNat)
   case atStart => exact ⟨0, Nat.zero_le _, rfl, hownH, hlo, hB, kp, kq⟩
   case round =>
    clear hB kp kq hownH hlo
    obtain ⟨k, hk, rfl, hH, hlo, hB, kp, kq⟩ := hrel
    obtain ⟨l, hown, hlm⟩ := hH.out
    have hll : l.length = k := by have := congrArg List.length hlm; rw [List.length_map, List.length_take, List.length_map, hmH.out] at this; omega
    obtain ⟨va, vc, rfl⟩ := row_slice hown.row
    rw [hll]
    by_cases hlt : k < q
    case neg =>
     have hkn : q = k := by omega
     subst hkn
     have hqn : Q.inp.toNat = q := by have := hqH.out; omega
     obtain ⟨L, hL⟩ : ∃ L, ms.map turnP = L := ⟨_, rfl⟩
     have hLl : L.length = q := by rw [← hL, List.length_map, hmH.out]
     have hLg : givenB L Q.inp Q.h Q.w = true := by rw [← hL]; exact turned_given hpbH.out hgbH.out
     have hTQ : givenB L (turnQ Q).inp (turnQ Q).w (turnQ Q).h = true := hLg
     have hLp := given_px hLg
     have hMT := mean_turn (ns := L) hpbH.out hgbH.out (by rw [hLl, hmH.out]) (by rw [hnH.out]; exact hopH.out) (fun i hi => by rw [← hL]; exact turned_at (by rw [hmH.out]; omega))
     have hA := mean_val hpbH.out hgbH.out
     have hA3 : meanS (turnQ Q) L = { w := Q.h, h := Q.w, px := (meanN (turnQ Q) L).px, err := 0 } := mean_val (turnQ_ok hpbH.out) hTQ
     obtain ⟨TB, hTB, hTP⟩ := turnI_ok (mean_pic hpbH.out hgbH.out)
     rw [hMT, hTP] at hA3
     obtain ⟨ma, mb, _⟩ := mean_pic hpbH.out hgbH.out
     rw [ma, mb] at hTB
     have hpr : RdPs wr.heap.size wr va L := by
      obtain ⟨a', c', e1, e2⟩ := hown.ps.slice
      simp only [Value.slice.injEq] at e1
      obtain ⟨rfl, _, rfl⟩ := e1
      rw [hlm, hL, List.take_of_length_le (by omega)] at e2; exact e2
     obtain ⟨A, hAe⟩ : ∃ A, (meanN Q ms).px = A := ⟨_, rfl⟩
     rw [hAe] at hA hTB
     have g1 := fun W h1 h2 => Mean_any Q a n c hnH.out hQH.out ms la q lc hmH.out (by omega) hplH.out W h1 h2
     have g3 := fun W h1 h2 => Mean_any (turnQ Q) a n c hnH.out ⟨hQH.out.1, hQH.out.2⟩ L va q vc hLl (by omega) hLp W h1 h2
     have g2 := fun W pa pc hm hr => Turn_any Q.w Q.h pa pc A.length A (Lib.hid rfl) W hm hr
     rw [hA] at g1
     rw [hA3] at g3
     rw [hTB] at g2
     unfold pipev at g1 g3
     have g1H := Lib.hid g1
     have g2H := Lib.hid g2
     have g3H := Lib.hid g3
     have hr : RdSs wr.heap.size wr a Q.ss := hr0.later hB
     have hrl : RdPs wr.heap.size wr la ms := (hrl0.below (Nat.le_refl _) hB).mono hB.size
     clear hqn hL hLl hLg hTQ hLp hMT hA hA3 hTB hTP ma mb hAe g1 g2 g3 hown hlm hll hH hlt hk
     obtain ⟨p0, p1, p2, p3⟩ := cz4 kp
     obtain ⟨q0, q1, q2, q3⟩ := cz4 kq
     go_wp2_with fail
     refine (g1H.out wr hr hrl).mono ?_
     rintro e V81 ⟨⟨vv1, rfl, ⟨uu1, rfl, h1⟩⟩, hb⟩
     clear p0 p1 p2 p3 q0 q1 q2 q3
     replace kp := kp.below hb kp.lt
     replace kq := kq.below hb kq.lt
     replace hr := hr.later hb
     replace hrl := hrl.bm hb
     replace hpr := hpr.bm hb
     replace hB := tmB hB hb
     clear hb
     dsimp only at h1 ⊢
     obtain ⟨p1a, p1c, rfl⟩ := row_slice h1
     have rp1 := rowI_rd rfl h1
     have hml1 := row_maxP h1
     clear h1
     obtain ⟨p0, p1, p2, p3⟩ := cz4 kp
     obtain ⟨q0, q1, q2, q3⟩ := cz4 kq
     obtain ⟨V82, hEV82, hbV82, k1⟩ := newB V81 32 #[.int .i64 Q.w, .int .i64 Q.h, .slice p1a A.length p1c]
     clear p0 p1 p2 p3 q0 q1 q2 q3
     replace kp := kp.below hbV82 kp.lt
     replace kq := kq.below hbV82 kq.lt
     replace hr := hr.later hbV82
     replace hrl := hrl.bm hbV82
     replace hpr := hpr.bm hbV82
     replace rp1 := later_i rp1 hbV82
     replace hB := tmB hB hbV82
     clear hbV82
     obtain ⟨p0, p1, p2, p3⟩ := cz4 kp
     obtain ⟨q0, q1, q2, q3⟩ := cz4 kq
     obtain ⟨i1z0, i1z1, i1z2⟩ := cz3 k1
     go_wp2_with fail
     clear hEV82
     refine (g2H.out V82 p1a p1c hml1 rp1).mono ?_
     rintro e V83 ⟨⟨vv2, rfl, ⟨uu2, rfl, h1⟩⟩, hb⟩
     clear p0 p1 p2 p3 q0 q1 q2 q3 i1z0 i1z1 i1z2
     replace kp := kp.below hb kp.lt
     replace kq := kq.below hb kq.lt
     replace k1 := k1.below hb k1.lt
     replace hr := hr.later hb
     replace hrl := hrl.bm hb
     replace hpr := hpr.bm hb
     replace rp1 := later_i rp1 hb
     replace hB := tmB hB hb
     clear hb
     dsimp only at h1 ⊢
     obtain ⟨p2a, p2c, rfl⟩ := row_slice h1
     have rp2 := rowI_rd rfl h1
     have hml2 := row_maxP h1
     clear h1
     obtain ⟨p0, p1, p2, p3⟩ := cz4 kp
     obtain ⟨q0, q1, q2, q3⟩ := cz4 kq
     obtain ⟨i1z0, i1z1, i1z2⟩ := cz3 k1
     obtain ⟨V84, hEV84, hbV84, k2⟩ := newB V83 32 #[.int .i64 Q.h, .int .i64 Q.w, .slice p2a TB.length p2c]
     clear p0 p1 p2 p3 q0 q1 q2 q3 i1z0 i1z1 i1z2
     replace kp := kp.below hbV84 kp.lt
     replace kq := kq.below hbV84 kq.lt
     replace k1 := k1.below hbV84 k1.lt
     replace hr := hr.later hbV84
     replace hrl := hrl.bm hbV84
     replace hpr := hpr.bm hbV84
     replace rp1 := later_i rp1 hbV84
     replace rp2 := later_i rp2 hbV84
     replace hB := tmB hB hbV84
     clear hbV84
     obtain ⟨p0, p1, p2, p3⟩ := cz4 kp
     obtain ⟨q0, q1, q2, q3⟩ := cz4 kq
     obtain ⟨i1z0, i1z1, i1z2⟩ := cz3 k1
     obtain ⟨i2z0, i2z1, i2z2⟩ := cz3 k2
     go_wp2_with fail
     clear hEV84
     refine (g3H.out V84 hr hpr).mono ?_
     rintro e V85 ⟨⟨vv3, rfl, ⟨uu3, rfl, h1⟩⟩, hb⟩
     clear p0 p1 p2 p3 q0 q1 q2 q3 i1z0 i1z1 i1z2 i2z0 i2z1 i2z2
     replace kp := kp.below hb kp.lt
     replace kq := kq.below hb kq.lt
     replace k1 := k1.below hb k1.lt
     replace k2 := k2.below hb k2.lt
     replace hr := hr.later hb
     replace hrl := hrl.bm hb
     replace hpr := hpr.bm hb
     replace rp1 := later_i rp1 hb
     replace rp2 := later_i rp2 hb
     replace hB := tmB hB hb
     clear hb
     dsimp only at h1 ⊢
     obtain ⟨p3a, p3c, rfl⟩ := row_slice h1
     have rp3 := rowI_rd rfl h1
     have hml3 := row_maxP h1
     clear h1
     obtain ⟨p0, p1, p2, p3⟩ := cz4 kp
     obtain ⟨q0, q1, q2, q3⟩ := cz4 kq
     obtain ⟨i1z0, i1z1, i1z2⟩ := cz3 k1
     obtain ⟨i2z0, i2z1, i2z2⟩ := cz3 k2
     obtain ⟨V86, hEV86, hbV86, k3⟩ := newB V85 32 #[.int .i64 Q.h, .int .i64 Q.w, .slice p3a TB.length p3c]
     clear p0 p1 p2 p3 q0 q1 q2 q3 i1z0 i1z1 i1z2 i2z0 i2z1 i2z2
     replace kp := kp.below hbV86 kp.lt
     replace kq := kq.below hbV86 kq.lt
     replace k1 := k1.below hbV86 k1.lt
     replace k2 := k2.below hbV86 k2.lt
     replace hr := hr.later hbV86
     replace hrl := hrl.bm hbV86
     replace hpr := hpr.bm hbV86
     replace rp1 := later_i rp1 hbV86
     replace rp2 := later_i rp2 hbV86
     replace rp3 := later_i rp3 hbV86
     replace hB := tmB hB hbV86
     clear hbV86
     obtain ⟨p0, p1, p2, p3⟩ := cz4 kp
     obtain ⟨q0, q1, q2, q3⟩ := cz4 kq
     obtain ⟨i1z0, i1z1, i1z2⟩ := cz3 k1
     obtain ⟨i2z0, i2z1, i2z2⟩ := cz3 k2
     obtain ⟨i3z0, i3z1, i3z2⟩ := cz3 k3
     go_wp2_with fail
     clear hEV86
     refine (Same_eq Q.h Q.w p2a p3a p2c p3c TB.length TB (Lib.hid rfl) V86 hml2 rp2 rp3).mono ?_
     rintro e V87 ⟨rfl, hb⟩
     clear p0 p1 p2 p3 q0 q1 q2 q3 i1z0 i1z1 i1z2 i2z0 i2z1 i2z2 i3z0 i3z1 i3z2
     replace kp := kp.below hb kp.lt
     replace kq := kq.below hb kq.lt
     replace k1 := k1.below hb k1.lt
     replace k2 := k2.below hb k2.lt
     replace k3 := k3.below hb k3.lt
     replace hr := hr.later hb
     replace hrl := hrl.bm hb
     replace hpr := hpr.bm hb
     replace rp1 := later_i rp1 hb
     replace rp2 := later_i rp2 hb
     replace rp3 := later_i rp3 hb
     replace hB := tmB hB hb
     clear hb
     obtain ⟨p0, p1, p2, p3⟩ := cz4 kp
     obtain ⟨q0, q1, q2, q3⟩ := cz4 kq
     obtain ⟨i1z0, i1z1, i1z2⟩ := cz3 k1
     obtain ⟨i2z0, i2z1, i2z2⟩ := cz3 k2
     obtain ⟨i3z0, i3z1, i3z2⟩ := cz3 k3
     go_wp2_with fail
     go_ret
     exact ⟨rfl, hB⟩
    case pos =>
     have hkm : k < ms.length := by rw [hmH.out]; exact hlt
     obtain ⟨b, o, rfl, hbl, pa, pc, p0, p1, p2, rA, _⟩ := hrl0.at hkm
     have hnx : (ms.map turnP).take (k + 1) = (ms.map turnP).take k ++ [turnP (picAt ms k)] := by
      rw [List.take_succ_eq_append_getElem (by rw [List.length_map]; exact hkm), List.getElem_map]; unfold picAt; rw [List.getElem?_eq_getElem hkm]; rfl
     obtain ⟨xx, hz, hzP⟩ := turnI_ok (given_at hgbH.out hkm)
     have hzP2 : turnP (picAt ms k) = ⟨Q.h, Q.w, xx⟩ := by unfold turnP; rw [hz]; rfl
     rw [hzP2] at hnx
     have hxl := hplH.out k
     have c0 := (hB.cell (p := ⟨b, o + k * 3, none⟩) hbl).trans p0
     have c1 := (hB.cell (p := ⟨b, o + k * 3 + 1, none⟩) hbl).trans p1
     have c2 := (hB.cell (p := ⟨b, o + k * 3 + 2, none⟩) hbl).trans p2
     replace rA := later_i rA hB
     obtain ⟨⟨mw, mh, mx⟩, hM⟩ : ∃ M, picAt ms k = M := ⟨_, rfl⟩
     rw [hM] at c0 c1 c2 rA hxl hz
     simp only at c0 c1 c2 rA hxl hz
     obtain ⟨l1, hl1⟩ : ∃ l, mx.length = l := ⟨_, rfl⟩
     rw [hl1] at c2 hxl
     have hlH := Lib.hid hl1
     have hzH := Lib.hid hz
     have hnxH := Lib.hid hnx
     have hlmH := Lib.hid hlm
     have hllH := Lib.hid hll
     have hrdJ : ∀ x ∈ l, RdX (Value.ownBlock (.slice va k vc)) wr x.a x.c x.p.px := by have := hown.rd; rw [hll] at this; exact this
     have hrdH := Lib.hid hrdJ
     have hrow0 : wr.ownsRow B0 32 3 (.slice va k vc) k (flatC l) := by have := hown.row; rw [hll] at this; exact this
     have hvl : ∀ b, (Value.slice va k vc).ownBlock = some b → b < wr.heap.size := fun b e => (hrow0.lt b e).2
     clear p0 p1 p2 hM hl1 hz hzP hzP2 hnx hlm hll hown hrdJ hH hkm
     have hBw : Below wr.heap.size wr wr := Below.refl _ _
     go_wp2_with fail
     have hc := Turn_any mw mh pa pc l1 mx hlH wr hxl rA
     rw [hzH.out] at hc
     refine hc.mono ?_
     clear hc
     rintro e V61 ⟨⟨vv, rfl, tt, rfl, hrow⟩, hb⟩
     replace kp := kp.below hb kp.lt
     replace kq := kq.below hb kq.lt
     replace hBw := hBw.trans (hb.mono hBw.size)
     replace hrow0 := row_below hrow0 hb
     replace hB := tmB hB hb
     clear hb
     obtain ⟨xa, xc, rfl⟩ := row_slice hrow
     simp only at hrow
     obtain ⟨xl, hxl2⟩ : ∃ l, xx.length = l := ⟨_, rfl⟩
     have hxlH := Lib.hid hxl2
     simp only
     rw [hxl2] at hrow ⊢
     clear hxl2 c0 c1 c2 rA
     obtain ⟨V62, hEV62, hbV62, km⟩ := newB V61 32 #[.int .i64 Q.h, .int .i64 Q.w, .slice xa xl xc]
     replace kp := kp.below hbV62 kp.lt
     replace kq := kq.below hbV62 kq.lt
     replace hBw := hBw.trans (hbV62.mono hBw.size)
     replace hrow0 := row_below hrow0 hbV62
     replace hrow := row_below hrow hbV62
     replace hB := tmB hB hbV62
     clear hbV62
     obtain ⟨m0, m1, m2⟩ := cz3 km
     have hfar : xx = [] ∨ ∀ ad, xa = some ad → (Value.slice va k vc).ownBlock ≠ some ad.block := by
      right
      rintro ad rfl e
      have e1 := (hrow.lt ad.block rfl).1
      have e2 := hvl _ e
      omega
     have hfarH := Lib.hid hfar
     clear hfar
     have n0 := m0
     have n1 := m1
     have n2 := m2
     obtain ⟨V63, hEV63, hbV63, kb⟩ := newB V62 32 #[.int .i64 Q.h, .int .i64 Q.w, .slice xa xl xc]
     clear m0 m1 m2
     replace kp := kp.below hbV63 kp.lt
     replace kq := kq.below hbV63 kq.lt
     replace km := km.below hbV63 km.lt
     replace hBw := hBw.trans (hbV63.mono hBw.size)
     replace hrow0 := row_below hrow0 hbV63
     replace hrow := row_below hrow hbV63
     replace hB := tmB hB hbV63
     clear hbV63
     go_wp2_with (at_builtin; refine wpList_append_anyS rfl _ _ 58 rfl B0 32 i0 (.agg #[.int .i64 0, .int .i64 0, .slice none 0 0]) 3 40 Tryz.underlying58 gi gz0 gz1 gz2 rfl (by decide) (.slice va k vc) k (flatC l) rfl hrow0 (some ⟨_, 0, none⟩) 1 1 (picCells ⟨⟨Q.h, Q.w, xx⟩, xa, xc⟩) rfl rfl (by rw [show picCells ⟨⟨Q.h, Q.w, xx⟩, xa, xc⟩ = [.int .i64 Q.h, .int .i64 Q.w, .slice xa xl xc] by show [_, _, Value.slice xa xx.length xc] = _; rw [hxlH.out]]; exact NewsAt.blk kb 1) (flatC_one [⟨⟨Q.h, Q.w, xx⟩, xa, xc⟩]) (by unfold maxLen; omega) (by omega) (by have := hBw.size; omega) ?_; intro v7 W7 own7 hg7 hat7)
     clear hEV62 hEV63
     clear n0 n1 n2
     have hBf : Below w.heap.size w W7 := hB.grown hg7 hB.size (fun b e => by have := (hrow0.lt b e).1; omega)
     have kp7 := kp.kept hg7 (fun e => by have := (hrow0.lt _ e.symm).1; omega)
     have kq7 := kq.kept hg7 (fun e => by have := (hrow0.lt _ e.symm).1; omega)
     have hlo7 : B0 ≤ W7.heap.size := by have := hBw.size; have := hg7.size; omega
     have hnew := OwnA.push (B := B0) (x := ⟨⟨Q.h, Q.w, xx⟩, xa, xc⟩) (fun y hy => by have e := hrdH.out y hy; exact ⟨later_i e.1 hBw, e.2⟩) (row_rd' hxlH.out hrow) (fun e => by subst e; exact (row_nil hrow).2) hfarH.out (by have hll2 := hllH.out; rw [hll2]; exact own7) hg7 hat7
     have hfin : ∃ l : List PicA, OwnA B0 W7 v7 l ∧ l.map PicA.p = (ms.map turnP).take (k + 1) := by
      refine ⟨_, hnew, ?_⟩
      rw [List.map_append, hlmH.out, hnxH.out]
      rfl
     have hfinH := Lib.hid hfin
     clear hfin hnew hrow hrow0 own7 hg7 hat7 kb km hB hBw kp kq
     go_roundw
     case rel => exact ⟨k + 1, by omega, by go_num, hfinH, hlo7, hBf, kp7, kq7⟩
     case measure => simp [intOf]; omega

end Go.Proofs.YtekiemlniegddaaGreat

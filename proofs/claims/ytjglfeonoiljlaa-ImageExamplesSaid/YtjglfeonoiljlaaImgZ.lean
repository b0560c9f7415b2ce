/- The contract of Compose of the program, for any two kernels. -/
import Derived.Test.YtjglfeonoiljlaaImgY
namespace Go.Proofs.Ytjglfeonoiljlaa
open Go Go.RowKit Go.Shelf
set_option linter.unusedVariables false
set_option linter.unusedSimpArgs false


set_option maxRecDepth 100000 in
set_option maxHeartbeats 8000000 in
theorem Compose_any (aw ah : Int) (ax : Option Addr) (ca na : Nat) (A : List Int) (hna : Hid (A.length = na)) (bw bh : Int) (bx : Option Addr) (cb nb : Nat) (B : List Int) (hnb : Hid (B.length = nb)) (w : World) (hma : na ≤ 9223372036854775807) (hra : Rd w.heap.size w ax A) (hmb : nb ≤ 9223372036854775807) (hrb : Rd w.heap.size w bx B) :
    Calls Try.prog 53 #[imv aw ah ax na ca, imv bw bh bx nb cb] w (RetIm w.heap.size (compS aw ah A bw bh B) w) := by
  obtain ⟨i0, hi, hz0, hz1, hz2⟩ := info_parts info_int
  have hB0 : Below w.heap.size w (((w.alloc (.cells #[.int .i64 aw, .int .i64 ah, .slice ax na ca] 64)).alloc (.cells #[.int .i64 bw, .int .i64 bh, .slice bx nb cb] 64)).alloc (.cells #[.int .i64 0, .int .i64 0, .slice none 0 0] 64)) := below_al (below_al (below_al (Below.refl _ _) _) _) _
  obtain ⟨v1, hv1⟩ : ∃ v, kernOk aw ah A = v := ⟨_, rfl⟩
  have v1H := Lib.hid hv1
  obtain ⟨v2, hv2⟩ : ∃ v, kernOk bw bh B = v := ⟨_, rfl⟩
  have v2H := Lib.hid hv2
  have hsp := Lib.hid (show compS aw ah A bw bh B = if (v1 && v2) = true then (if decide (aw + bw - 1 ≤ 5 ∧ ah + bh - 1 ≤ 5) = true then { w := aw + bw - 1, h := ah + bh - 1, px := compL aw.toNat ah.toNat bw.toNat bh.toNat A B, err := 0 } else noIm 21) else noIm 22 by unfold compS; rw [hv1, hv2])
  clear hv1 hv2
  cases v1 with
  | false =>
    go_enter Try.func53, Try.ntmps53
    go_wp2_with fail
    refine (kernel_any aw ah ax ca na A hna false v1H _ hma ((hra.below (Nat.le_refl _) hB0).mono hB0.size)).mono ?_
    rintro e W1 ⟨rfl, hb1⟩
    have hB1 : Below w.heap.size w W1 := hB0.trans (hb1.mono hB0.size)
    have k5 := (((Blk.new w 64 #[.int .i64 aw, .int .i64 ah, .slice ax na ca]).alloc (.cells #[.int .i64 bw, .int .i64 bh, .slice bx nb cb] 64)).alloc (.cells #[.int .i64 0, .int .i64 0, .slice none 0 0] 64)).below hb1 (by simp <;> omega)
    have k6 := ((Blk.new (w.alloc (.cells #[.int .i64 aw, .int .i64 ah, .slice ax na ca] 64)) 64 #[.int .i64 bw, .int .i64 bh, .slice bx nb cb]).alloc (.cells #[.int .i64 0, .int .i64 0, .slice none 0 0] 64)).below hb1 (by simp <;> omega)
    have k := (Blk.new ((w.alloc (.cells #[.int .i64 aw, .int .i64 ah, .slice ax na ca] 64)).alloc (.cells #[.int .i64 bw, .int .i64 bh, .slice bx nb cb] 64)) 64 #[.int .i64 0, .int .i64 0, .slice none 0 0]).below hb1 (by simp <;> omega)
    simp only [World.size_alloc] at k6 k
    clear hb1 hB0
    have m0 := k5.cell (i := 0) rfl
    have m1 := k5.cell (i := 1) rfl
    have m2 := k5.cell (i := 2) rfl
    have s0 := k6.cell (i := 0) rfl
    have s1 := k6.cell (i := 1) rfl
    have s2 := k6.cell (i := 2) rfl
    have c0 := k.cell (i := 0) rfl
    have c1 := k.cell (i := 1) rfl
    have c2 := k.cell (i := 2) rfl
    have fc0 := k.frozen 0
    have fc1 := k.frozen 1
    have fc2 := k.frozen 2
    go_wp2_with fail
    have kf := put3_blk k (.int .i64 0) (.int .i64 0) (.slice none 0 0)
    have g0 := kf.cell (i := 0) rfl
    have g1 := kf.cell (i := 1) rfl
    have g2 := kf.cell (i := 2) rfl
    exact bodyPost_ret (v := .tuple #[.agg #[.int .i64 0, .int .i64 0, .slice none 0 0], .int .i64 22]) (by simp [results, Try.results53, go_sem, g0, g1, g2]) rfl ⟨⟨_, by rw [hsp.out]; rfl, by rw [hsp.out]; exact OwnIm_nil _ _⟩, hB1.trans (put3_below (by omega) _ _ _)⟩
  | true =>
    cases v2 with
    | false =>
      go_enter Try.func53, Try.ntmps53
      go_wp2_with fail
      refine (kernel_any aw ah ax ca na A hna true v1H _ hma ((hra.below (Nat.le_refl _) hB0).mono hB0.size)).mono ?_
      rintro e W1 ⟨rfl, hb1⟩
      have hB1 : Below w.heap.size w W1 := hB0.trans (hb1.mono hB0.size)
      have k5 := (((Blk.new w 64 #[.int .i64 aw, .int .i64 ah, .slice ax na ca]).alloc (.cells #[.int .i64 bw, .int .i64 bh, .slice bx nb cb] 64)).alloc (.cells #[.int .i64 0, .int .i64 0, .slice none 0 0] 64)).below hb1 (by simp <;> omega)
      have k6 := ((Blk.new (w.alloc (.cells #[.int .i64 aw, .int .i64 ah, .slice ax na ca] 64)) 64 #[.int .i64 bw, .int .i64 bh, .slice bx nb cb]).alloc (.cells #[.int .i64 0, .int .i64 0, .slice none 0 0] 64)).below hb1 (by simp <;> omega)
      have k := (Blk.new ((w.alloc (.cells #[.int .i64 aw, .int .i64 ah, .slice ax na ca] 64)).alloc (.cells #[.int .i64 bw, .int .i64 bh, .slice bx nb cb] 64)) 64 #[.int .i64 0, .int .i64 0, .slice none 0 0]).below hb1 (by simp <;> omega)
      simp only [World.size_alloc] at k6 k
      clear hb1 hB0
      have m0 := k5.cell (i := 0) rfl
      have m1 := k5.cell (i := 1) rfl
      have m2 := k5.cell (i := 2) rfl
      have s0 := k6.cell (i := 0) rfl
      have s1 := k6.cell (i := 1) rfl
      have s2 := k6.cell (i := 2) rfl
      have c0 := k.cell (i := 0) rfl
      have c1 := k.cell (i := 1) rfl
      have c2 := k.cell (i := 2) rfl
      have fc0 := k.frozen 0
      have fc1 := k.frozen 1
      have fc2 := k.frozen 2
      go_wp2_with fail
      refine (kernel_any bw bh bx cb nb B hnb false v2H W1 hmb ((hrb.below (Nat.le_refl _) hB1).mono hB1.size)).mono ?_
      rintro e W2 ⟨rfl, hb⟩
      have hB2 := hB1.trans (hb.mono hB1.size)
      clear m0 m1 m2
      replace k5 := k5.below hb k5.lt
      have m0 := k5.cell (i := 0) rfl
      have m1 := k5.cell (i := 1) rfl
      have m2 := k5.cell (i := 2) rfl
      clear s0 s1 s2
      replace k6 := k6.below hb k6.lt
      have s0 := k6.cell (i := 0) rfl
      have s1 := k6.cell (i := 1) rfl
      have s2 := k6.cell (i := 2) rfl
      clear c0 c1 c2 fc0 fc1 fc2
      replace k := k.below hb k.lt
      have c0 := k.cell (i := 0) rfl
      have c1 := k.cell (i := 1) rfl
      have c2 := k.cell (i := 2) rfl
      have fc0 := k.frozen 0
      have fc1 := k.frozen 1
      have fc2 := k.frozen 2
      clear hb hB1
      go_wp2_with fail
      have kf := put3_blk k (.int .i64 0) (.int .i64 0) (.slice none 0 0)
      have g0 := kf.cell (i := 0) rfl
      have g1 := kf.cell (i := 1) rfl
      have g2 := kf.cell (i := 2) rfl
      exact bodyPost_ret (v := .tuple #[.agg #[.int .i64 0, .int .i64 0, .slice none 0 0], .int .i64 22]) (by simp [results, Try.results53, go_sem, g0, g1, g2]) rfl ⟨⟨_, by rw [hsp.out]; rfl, by rw [hsp.out]; exact OwnIm_nil _ _⟩, hB2.trans (put3_below (by omega) _ _ _)⟩
    | true =>
      have hk1 := v1H.out
      unfold kernOk at hk1
      rw [Bool.and_eq_true, hna.out] at hk1
      obtain ⟨s1, s2, s3⟩ := sidesB_true hk1.1
      have hAH := Lib.hid hk1.2
      have hk2 := v2H.out
      unfold kernOk at hk2
      rw [Bool.and_eq_true, hnb.out] at hk2
      obtain ⟨s4, s5, s6⟩ := sidesB_true hk2.1
      have hBH := Lib.hid hk2.2
      clear hk1 hk2
      obtain ⟨KW, eKW⟩ : ∃ v, aw + bw - 1 = v := ⟨_, rfl⟩
      obtain ⟨KH, eKH⟩ : ∃ v, ah + bh - 1 = v := ⟨_, rfl⟩
      obtain ⟨M, hM⟩ : ∃ M, (if KW < KH then KH else KW) = M := ⟨_, rfl⟩
      have hMs : KW ≤ M ∧ KH ≤ M ∧ (M = KW ∨ M = KH) := by rw [← hM]; split <;> omega
      obtain ⟨hM1, hM2, hM3⟩ := hMs
      have bK : 1 ≤ KW ∧ KW ≤ 9 ∧ 1 ≤ KH ∧ KH ≤ 9 := by omega
      by_cases hsz : 5 < M
      · have hspd := Lib.hid (show compS aw ah A bw bh B = noIm 21 by rw [hsp.out, eKW, eKH]; rw [show decide (KW ≤ 5 ∧ KH ≤ 5) = false by simp; omega]; rfl)
        clear s3 s6
        go_enter Try.func53, Try.ntmps53
        go_wp2_with fail
        refine (kernel_any aw ah ax ca na A hna true v1H _ hma ((hra.below (Nat.le_refl _) hB0).mono hB0.size)).mono ?_
        rintro e W1 ⟨rfl, hb1⟩
        have hB1 : Below w.heap.size w W1 := hB0.trans (hb1.mono hB0.size)
        have k5 := (((Blk.new w 64 #[.int .i64 aw, .int .i64 ah, .slice ax na ca]).alloc (.cells #[.int .i64 bw, .int .i64 bh, .slice bx nb cb] 64)).alloc (.cells #[.int .i64 0, .int .i64 0, .slice none 0 0] 64)).below hb1 (by simp <;> omega)
        have k6 := ((Blk.new (w.alloc (.cells #[.int .i64 aw, .int .i64 ah, .slice ax na ca] 64)) 64 #[.int .i64 bw, .int .i64 bh, .slice bx nb cb]).alloc (.cells #[.int .i64 0, .int .i64 0, .slice none 0 0] 64)).below hb1 (by simp <;> omega)
        have k := (Blk.new ((w.alloc (.cells #[.int .i64 aw, .int .i64 ah, .slice ax na ca] 64)).alloc (.cells #[.int .i64 bw, .int .i64 bh, .slice bx nb cb] 64)) 64 #[.int .i64 0, .int .i64 0, .slice none 0 0]).below hb1 (by simp <;> omega)
        simp only [World.size_alloc] at k6 k
        clear hb1 hB0
        have m0 := k5.cell (i := 0) rfl
        have m1 := k5.cell (i := 1) rfl
        have m2 := k5.cell (i := 2) rfl
        have s0 := k6.cell (i := 0) rfl
        have s1 := k6.cell (i := 1) rfl
        have s2 := k6.cell (i := 2) rfl
        have c0 := k.cell (i := 0) rfl
        have c1 := k.cell (i := 1) rfl
        have c2 := k.cell (i := 2) rfl
        have fc0 := k.frozen 0
        have fc1 := k.frozen 1
        have fc2 := k.frozen 2
        go_wp2_with fail
        refine (kernel_any bw bh bx cb nb B hnb true v2H W1 hmb ((hrb.below (Nat.le_refl _) hB1).mono hB1.size)).mono ?_
        rintro e W2 ⟨rfl, hb⟩
        have hB2 := hB1.trans (hb.mono hB1.size)
        clear m0 m1 m2
        replace k5 := k5.below hb k5.lt
        have m0 := k5.cell (i := 0) rfl
        have m1 := k5.cell (i := 1) rfl
        have m2 := k5.cell (i := 2) rfl
        clear s0 s1 s2
        replace k6 := k6.below hb k6.lt
        have s0 := k6.cell (i := 0) rfl
        have s1 := k6.cell (i := 1) rfl
        have s2 := k6.cell (i := 2) rfl
        clear c0 c1 c2 fc0 fc1 fc2
        replace k := k.below hb k.lt
        have c0 := k.cell (i := 0) rfl
        have c1 := k.cell (i := 1) rfl
        have c2 := k.cell (i := 2) rfl
        have fc0 := k.frozen 0
        have fc1 := k.frozen 1
        have fc2 := k.frozen 2
        clear hb hB1
        have kq := Blk.new W2 64 #[.int .i64 KW, .int .i64 KH, .slice none 0 0]
        obtain ⟨B6, hB6⟩ : ∃ B, W2.heap.size = B := ⟨_, rfl⟩
        have hb : Below W2.heap.size W2 (W2.alloc (.cells #[.int .i64 KW, .int .i64 KH, .slice none 0 0] 64)) := below_al (Below.refl _ _) _
        rw [hB6] at kq
        have hB3 := hB2.trans (hb.mono hB2.size)
        have hs6 := k.lt
        rw [hB6] at hs6
        have hs7 := kq.lt
        have k5' := k5.below hb k5.lt
        have k6' := k6.below hb k6.lt
        have k' := k.below hb k.lt
        have m0' := k5'.cell (i := 0) rfl
        have m1' := k5'.cell (i := 1) rfl
        have m2' := k5'.cell (i := 2) rfl
        have s0' := k6'.cell (i := 0) rfl
        have s1' := k6'.cell (i := 1) rfl
        have s2' := k6'.cell (i := 2) rfl
        have c0' := k'.cell (i := 0) rfl
        have c1' := k'.cell (i := 1) rfl
        have c2' := k'.cell (i := 2) rfl
        have fc0' := k'.frozen 0
        have fc1' := k'.frozen 1
        have fc2' := k'.frozen 2
        have q0 := kq.cell (i := 0) rfl
        have q1 := kq.cell (i := 1) rfl
        have q2 := kq.cell (i := 2) rfl
        clear hb
        go_wp2_with fail
        have kf := (put3_blk k (.int .i64 0) (.int .i64 0) (.slice none 0 0)).alloc (.cells #[.int .i64 KW, .int .i64 KH, .slice none 0 0] 64)
        have g0 := kf.cell (i := 0) rfl
        have g1 := kf.cell (i := 1) rfl
        have g2 := kf.cell (i := 2) rfl
        exact bodyPost_ret (v := .tuple #[.agg #[.int .i64 0, .int .i64 0, .slice none 0 0], .int .i64 21]) (by simp [results, Try.results53, go_sem, g0, g1, g2]) rfl ⟨⟨_, by rw [hspd.out]; rfl, by rw [hspd.out]; exact OwnIm_nil _ _⟩, below_al (hB2.trans (put3_below (by omega) _ _ _)) _⟩
      · obtain ⟨a1, rfl⟩ : ∃ k : Nat, aw = (k : Int) := ⟨aw.toNat, by omega⟩
        obtain ⟨a2, rfl⟩ : ∃ k : Nat, ah = (k : Int) := ⟨ah.toNat, by omega⟩
        obtain ⟨b1, rfl⟩ : ∃ k : Nat, bw = (k : Int) := ⟨bw.toNat, by omega⟩
        obtain ⟨b2, rfl⟩ : ∃ k : Nat, bh = (k : Int) := ⟨bh.toNat, by omega⟩
        obtain ⟨kw, rfl⟩ : ∃ k : Nat, KW = (k : Int) := ⟨KW.toNat, by omega⟩
        obtain ⟨kh, rfl⟩ : ∃ k : Nat, KH = (k : Int) := ⟨KH.toNat, by omega⟩
        have hfin : compS a1 a2 A b1 b2 B = { w := kw, h := kh, px := compL a1 a2 b1 b2 A B, err := 0 } := by
          rw [hsp.out, eKW, eKH, show decide ((kw : Int) ≤ 5 ∧ (kh : Int) ≤ 5) = true by simp; omega]
          simp only [Int.toNat_natCast]
          rfl
        rw [hfin]
        exact Compose_ok a1 a2 ax ca na A hna b1 b2 bx cb nb B hnb w hma hra hmb hrb v1H v2H kw kh (by omega) (by omega) (by omega) (by omega)

end Go.Proofs.Ytjglfeonoiljlaa

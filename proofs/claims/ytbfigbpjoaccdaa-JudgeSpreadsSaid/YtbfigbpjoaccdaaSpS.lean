/- Spread of the specification. -/
import Derived.Test.YtbfigbpjoaccdaaSpI
import Derived.Lib.MinMax
namespace Go.Proofs.Ytbfigbpjoaccdaa
open Go Go.RowKit Go.Shelf
set_option linter.unusedVariables false
set_option linter.unusedSimpArgs false

theorem cut7 {G : Prop} {P : Nat → Nat → Nat → Nat → Nat → Nat → World → Prop} (F : Nat → Nat → Nat → Nat → Nat → Nat → World → Prop) (main : (∀ a b c d e f W, F a b c d e f W → P a b c d e f W) → G) (key : ∀ a b c d e f W, F a b c d e f W → P a b c d e f W) : G := main key
set_option maxRecDepth 100000 in
set_option maxHeartbeats 8000000 in
theorem rSpread_any (iw ih : Int) (a : Option Addr) (c n : Nat) (xs : List Int) (hn : Hid (xs.length = n)) (C : ChgN) (w : World) (hm : n ≤ 9223372036854775807) (hr : Rd w.heap.size w a xs) :
    Calls Try.prog 16 #[imv iw ih a n c, C.val] w (RetSp w.heap.size (sprS ⟨iw, ih, xs⟩ C) w) := by
  obtain ⟨s, gl, gh, off, noi⟩ := C
  obtain ⟨v0, hv0⟩ : ∃ v, camB ⟨iw, ih, xs⟩ = v := ⟨_, rfl⟩
  obtain ⟨v1, hv1⟩ : ∃ v, chgB ⟨s, gl, gh, off, noi⟩ = v := ⟨_, rfl⟩
  have hsp0 : sprS ⟨iw, ih, xs⟩ ⟨s, gl, gh, off, noi⟩ = if v0 = true then (if v1 = true then ⟨iw, ih, loL ⟨iw, ih, xs⟩ ⟨s, gl, gh, off, noi⟩, hiL ⟨iw, ih, xs⟩ ⟨s, gl, gh, off, noi⟩, 0⟩ else noSp 2) else noSp 20 := by
    simp only [sprS, hv0, hv1]
  have hsp := Lib.hid hsp0
  have h0H := Lib.hid hv0
  have h1H := Lib.hid hv1
  clear hv0 hv1 hsp0
  have hbA1 : Below w.heap.size w (w.alloc (.cells #[.int .i64 iw, .int .i64 ih, .slice a n c] 27)) := jb_al (Below.refl _ w) _
  have k1 := Blk.new w 27 #[.int .i64 iw, .int .i64 ih, .slice a n c]
  obtain ⟨A1, hEA1⟩ : ∃ X, w.alloc (.cells #[.int .i64 iw, .int .i64 ih, .slice a n c] 27) = X := ⟨_, rfl⟩
  rw [hEA1] at hbA1 k1
  have l1 := k1.lt
  have hbA2 : Below A1.heap.size A1 (A1.alloc (.cells #[.int .i64 s, .int .i64 gl, .int .i64 gh, .int .i64 off, .int .i64 noi] 44)) := jb_al (Below.refl _ A1) _
  have k2 := Blk.new A1 44 #[.int .i64 s, .int .i64 gl, .int .i64 gh, .int .i64 off, .int .i64 noi]
  obtain ⟨A2, hEA2⟩ : ∃ X, A1.alloc (.cells #[.int .i64 s, .int .i64 gl, .int .i64 gh, .int .i64 off, .int .i64 noi] 44) = X := ⟨_, rfl⟩
  rw [hEA2] at hbA2 k2
  have l2 := k2.lt
  replace k1 := k1.below hbA2 k1.lt
  have hbA3 : Below A2.heap.size A2 (A2.alloc (.cells #[.int .i64 0, .int .i64 0, .slice none 0 0] 27)) := jb_al (Below.refl _ A2) _
  have r1 := Blk.new A2 27 #[.int .i64 0, .int .i64 0, .slice none 0 0]
  obtain ⟨A3, hEA3⟩ : ∃ X, A2.alloc (.cells #[.int .i64 0, .int .i64 0, .slice none 0 0] 27) = X := ⟨_, rfl⟩
  rw [hEA3] at hbA3 r1
  have l3 := r1.lt
  replace k1 := k1.below hbA3 k1.lt
  replace k2 := k2.below hbA3 k2.lt
  have hbW0 : Below A3.heap.size A3 (A3.alloc (.cells #[.int .i64 0, .int .i64 0, .slice none 0 0] 27)) := jb_al (Below.refl _ A3) _
  have r2 := Blk.new A3 27 #[.int .i64 0, .int .i64 0, .slice none 0 0]
  obtain ⟨W0, hEW0⟩ : ∃ X, A3.alloc (.cells #[.int .i64 0, .int .i64 0, .slice none 0 0] 27) = X := ⟨_, rfl⟩
  rw [hEW0] at hbW0 r2
  have l4 := r2.lt
  replace k1 := k1.below hbW0 k1.lt
  replace k2 := k2.below hbW0 k2.lt
  replace r1 := r1.below hbW0 r1.lt
  have hB0 : Below w.heap.size w W0 := hbA1.trans ((hbA2.trans ((hbA3.trans (hbW0.mono hbA3.size)).mono hbA2.size)).mono hbA1.size)
  have m0 := k1.cell (i := 0) rfl
  have m1 := k1.cell (i := 1) rfl
  have m2 := k1.cell (i := 2) rfl
  have hca := Lib.hid (rCamera_any ⟨iw, ih, xs⟩ a n c hn.out hm W0 (later_i hr hB0) v0 h0H.out)
  go_enter Try.func16, Try.ntmps16
  go_wp2_with fail
  refine hca.out.mono ?_
  clear hca
  rintro e W2 ⟨rfl, hb⟩
  clear hEA1 hEA2 hEA3 hEW0 m0 m1 m2 hbA1 hbA2 hbA3 hbW0
  replace k1 := k1.below hb k1.lt
  replace k2 := k2.below hb k2.lt
  replace r1 := r1.below hb r1.lt
  replace r2 := r2.below hb r2.lt
  have hB := hB0.trans (hb.mono hB0.size)
  have ri := hr.below (Nat.le_refl _) hB
  have ril := hB.size
  have hW0l : W0.heap.size ≤ W2.heap.size := hb.size
  clear hb hB0 hr
  have m0 := k1.cell (i := 0) rfl
  have m1 := k1.cell (i := 1) rfl
  have m2 := k1.cell (i := 2) rfl
  have h0 := k2.cell (i := 0) rfl
  have h1 := k2.cell (i := 1) rfl
  have h2 := k2.cell (i := 2) rfl
  have h3 := k2.cell (i := 3) rfl
  have h4 := k2.cell (i := 4) rfl
  have x0 := r1.cell (i := 0) rfl
  have x1 := r1.cell (i := 1) rfl
  have x2 := r1.cell (i := 2) rfl
  have fx0 := r1.frozen 0
  have fx1 := r1.frozen 1
  have fx2 := r1.frozen 2
  have y0 := r2.cell (i := 0) rfl
  have y1 := r2.cell (i := 1) rfl
  have y2 := r2.cell (i := 2) rfl
  have fy0 := r2.frozen 0
  have fy1 := r2.frozen 1
  have fy2 := r2.frozen 2
  cases v0 with
  | false =>
    have hg1 := put3_grow2 W2 A2.heap.size (.int .i64 0) (.int .i64 0) (.slice none 0 0)
    have q1 := put3_blk r1 (.int .i64 0) (.int .i64 0) (.slice none 0 0)
    have q2 := r2.kept hg1 (by simp <;> omega)
    obtain ⟨P1, hP1⟩ : ∃ P, put3 W2 A2.heap.size (.int .i64 0) (.int .i64 0) (.slice none 0 0) = P := ⟨_, rfl⟩
    rw [hP1] at hg1 q1 q2
    have hg2 := put3_grow2 P1 A3.heap.size (.int .i64 0) (.int .i64 0) (.slice none 0 0)
    have q1' := q1.kept hg2 (by simp <;> omega)
    have q2' := put3_blk q2 (.int .i64 0) (.int .i64 0) (.slice none 0 0)
    obtain ⟨P2, hP2⟩ : ∃ P, put3 P1 A3.heap.size (.int .i64 0) (.int .i64 0) (.slice none 0 0) = P := ⟨_, rfl⟩
    rw [hP2] at hg2 q1' q2'
    have d0 := q2.cell (i := 0) rfl
    have d1 := q2.cell (i := 1) rfl
    have d2 := q2.cell (i := 2) rfl
    have fd0 := q2.frozen 0
    have fd1 := q2.frozen 1
    have fd2 := q2.frozen 2
    have g0 := q1'.cell (i := 0) rfl
    have g1 := q1'.cell (i := 1) rfl
    have g2 := q1'.cell (i := 2) rfl
    have g3 := q2'.cell (i := 0) rfl
    have g4 := q2'.cell (i := 1) rfl
    have g5 := q2'.cell (i := 2) rfl
    have hB' : Below w.heap.size w P2 := hB.trans ((grown_below2 hg1 hB.size (by intro k e; cases e; omega)).trans (grown_below2 hg2 (by have := hg1.size; have := hB.size; omega) (by intro k e; cases e; omega)))
    go_wp2_with fail
    exact bodyPost_ret (v := .tuple #[.agg #[.int .i64 0, .int .i64 0, .slice none 0 0], .agg #[.int .i64 0, .int .i64 0, .slice none 0 0], .int .i64 20]) (by simp [results, Try.results16, go_sem, g0, g1, g2, g3, g4, g5]) rfl ⟨⟨_, _, by rw [hsp.out]; rfl, by rw [hsp.out]; exact OwnIm_nil _ _, by rw [hsp.out]; exact OwnIm_nil _ _⟩, hB'⟩
  | true =>
    go_wp2_with fail
    refine (ValidChange_any ⟨s, gl, gh, off, noi⟩ v1 h1H.out _).mono ?_
    rintro e W3 ⟨rfl, hb⟩
    clear m0 m1 m2 h0 h1 h2 h3 h4 x0 x1 x2 fx0 fx1 fx2 y0 y1 y2 fy0 fy1 fy2
    replace k1 := k1.below hb k1.lt
    replace k2 := k2.below hb k2.lt
    replace r1 := r1.below hb r1.lt
    replace r2 := r2.below hb r2.lt
    replace ri := ri.below (Nat.le_refl _) (hb.mono ril)
    replace ril := Nat.le_trans ril hb.size
    replace hB := hB.trans (hb.mono hB.size)
    have m0 := k1.cell (i := 0) rfl
    have m1 := k1.cell (i := 1) rfl
    have m2 := k1.cell (i := 2) rfl
    have h0 := k2.cell (i := 0) rfl
    have h1 := k2.cell (i := 1) rfl
    have h2 := k2.cell (i := 2) rfl
    have h3 := k2.cell (i := 3) rfl
    have h4 := k2.cell (i := 4) rfl
    have x0 := r1.cell (i := 0) rfl
    have x1 := r1.cell (i := 1) rfl
    have x2 := r1.cell (i := 2) rfl
    have fx0 := r1.frozen 0
    have fx1 := r1.frozen 1
    have fx2 := r1.frozen 2
    have y0 := r2.cell (i := 0) rfl
    have y1 := r2.cell (i := 1) rfl
    have y2 := r2.cell (i := 2) rfl
    have fy0 := r2.frozen 0
    have fy1 := r2.frozen 1
    have fy2 := r2.frozen 2
    replace hW0l := Nat.le_trans hW0l hb.size
    clear hb
    cases v1 with
    | false =>
      have hg1 := put3_grow2 W3 A2.heap.size (.int .i64 0) (.int .i64 0) (.slice none 0 0)
      have q1 := put3_blk r1 (.int .i64 0) (.int .i64 0) (.slice none 0 0)
      have q2 := r2.kept hg1 (by simp <;> omega)
      obtain ⟨P1, hP1⟩ : ∃ P, put3 W3 A2.heap.size (.int .i64 0) (.int .i64 0) (.slice none 0 0) = P := ⟨_, rfl⟩
      rw [hP1] at hg1 q1 q2
      have hg2 := put3_grow2 P1 A3.heap.size (.int .i64 0) (.int .i64 0) (.slice none 0 0)
      have q1' := q1.kept hg2 (by simp <;> omega)
      have q2' := put3_blk q2 (.int .i64 0) (.int .i64 0) (.slice none 0 0)
      obtain ⟨P2, hP2⟩ : ∃ P, put3 P1 A3.heap.size (.int .i64 0) (.int .i64 0) (.slice none 0 0) = P := ⟨_, rfl⟩
      rw [hP2] at hg2 q1' q2'
      have d0 := q2.cell (i := 0) rfl
      have d1 := q2.cell (i := 1) rfl
      have d2 := q2.cell (i := 2) rfl
      have fd0 := q2.frozen 0
      have fd1 := q2.frozen 1
      have fd2 := q2.frozen 2
      have g0 := q1'.cell (i := 0) rfl
      have g1 := q1'.cell (i := 1) rfl
      have g2 := q1'.cell (i := 2) rfl
      have g3 := q2'.cell (i := 0) rfl
      have g4 := q2'.cell (i := 1) rfl
      have g5 := q2'.cell (i := 2) rfl
      have hB' : Below w.heap.size w P2 := hB.trans ((grown_below2 hg1 hB.size (by intro k e; cases e; omega)).trans (grown_below2 hg2 (by have := hg1.size; have := hB.size; omega) (by intro k e; cases e; omega)))
      go_wp2_with fail
      exact bodyPost_ret (v := .tuple #[.agg #[.int .i64 0, .int .i64 0, .slice none 0 0], .agg #[.int .i64 0, .int .i64 0, .slice none 0 0], .int .i64 2]) (by simp [results, Try.results16, go_sem, g0, g1, g2, g3, g4, g5]) rfl ⟨⟨_, _, by rw [hsp.out]; rfl, by rw [hsp.out]; exact OwnIm_nil _ _, by rw [hsp.out]; exact OwnIm_nil _ _⟩, hB'⟩
    | true =>
      have hcb := h0H.out
      simp only [camB, Bool.and_eq_true] at hcb
      obtain ⟨⟨i1, i2⟩, ⟨i3, i4⟩, hlen, hall⟩ := vld_true hcb.1
      have hck := chgOk_of h1H.out
      obtain ⟨s1, s2⟩ := hck.s
      obtain ⟨g1, g2⟩ := hck.gl
      obtain ⟨g3, g4⟩ := hck.gh
      obtain ⟨o1, o2⟩ := hck.off
      obtain ⟨o3, o4⟩ := hck.noi
      simp only at s1 s2 g1 g2 g3 g4 o1 o2 o3 o4
      obtain ⟨pw, rfl⟩ : ∃ pw : Nat, iw = (pw : Int) := ⟨iw.toNat, by omega⟩
      obtain ⟨ph, rfl⟩ : ∃ ph : Nat, ih = (ph : Int) := ⟨ih.toNat, by omega⟩
      obtain ⟨sn, rfl⟩ : ∃ sn : Nat, s = (sn : Int) := ⟨s.toNat, by omega⟩
      have hsn : sn ≤ 2 := by omega
      have hbyH := Lib.hid hcb.2
      have hfinH := Lib.hid (show sprS ⟨(pw : Int), (ph : Int), xs⟩ ⟨(sn : Int), gl, gh, off, noi⟩ = ⟨(pw : Int), (ph : Int), (List.range (pw * ph)).map (loF pw ph xs sn gl (-(off + noi))), (List.range (pw * ph)).map (hiF pw ph xs sn gh (off + noi)), 0⟩ by rw [hsp.out]; rfl)
      have hpq : pw * ph ≤ 256 := Nat.mul_le_mul (show pw ≤ 16 by omega) (show ph ≤ 16 by omega)
      rw [hn.out] at hlen
      have hlenH := Lib.hid hlen
      have hnpq : n = pw * ph := by have : ((pw * ph : Nat) : Int) = (pw : Int) * ph := by simp
                                    omega
      have hnpqH := Lib.hid hnpq
      clear hnpq hlen hcb hall hck h0H h1H hsp
      go_wp2_with fail
      clear m0 m1 m2 h0 h1 h2 h3 h4 x0 x1 x2 fx0 fx1 fx2 y0 y1 y2 fy0 fy1 fy2
      have lw1 := k1.lt
      have lw2 := k2.lt
      have lw3 := r1.lt
      have lw4 := r2.lt
      have hV1 := Lib.hid k1
      have hV2 := Lib.hid k2
      have hV3 := Lib.hid r1
      have hV4 := Lib.hid r2
      rename_i K1 hK1
      have key : ∀ (go gp co cp bo bp : Nat) (W : World), Blk W bo 27 #[.int .i64 (pw : Int), .int .i64 (ph : Int), .slice (some ⟨go, 0, none⟩) (pw * ph) co] → Blk W bp 27 #[.int .i64 (pw : Int), .int .i64 (ph : Int), .slice (some ⟨gp, 0, none⟩) (pw * ph) cp] → W.ownsRow W3.heap.size 3 1 (.slice (some ⟨go, 0, none⟩) (pw * ph) co) (pw * ph) ((List.replicate (pw * ph) 0).map (Value.int .i64)) → W.ownsRow W3.heap.size 3 1 (.slice (some ⟨gp, 0, none⟩) (pw * ph) cp) (pw * ph) ((List.replicate (pw * ph) 0).map (Value.int .i64)) → go ≠ gp → Below W3.heap.size W3 W →
          Blk W w.heap.size 27 #[.int .i64 (pw : Int), .int .i64 (ph : Int), .slice a n c] → Blk W A1.heap.size 44 #[.int .i64 (sn : Int), .int .i64 gl, .int .i64 gh, .int .i64 off, .int .i64 noi] → Blk W A2.heap.size 27 #[.int .i64 0, .int .i64 0, .slice none 0 0] → Blk W A3.heap.size 27 #[.int .i64 0, .int .i64 0, .slice none 0 0] → W3.heap.size ≤ bo → W3.heap.size ≤ bp → bo ≠ bp →
          K1 { tmps := #[imv pw ph a n c, .agg #[.int .i64 (sn : Int), .int .i64 gl, .int .i64 gh, .int .i64 off, .int .i64 noi], .pointer (some ⟨w.heap.size, 0, none⟩), .pointer (some ⟨A1.heap.size, 0, none⟩), .pointer (some ⟨A2.heap.size, 0, none⟩), .pointer (some ⟨A3.heap.size, 0, none⟩), .int .i64 0, .pointer (some ⟨bo, 0, none⟩), .pointer (some ⟨bp, 0, none⟩), undef, undef, undef, imv pw ph a n c, .bool true, .bool false, undef, undef, .agg #[.int .i64 (sn : Int), .int .i64 gl, .int .i64 gh, .int .i64 off, .int .i64 noi], .bool true, .bool false, undef, undef, .pointer (some ⟨w.heap.size, 0, none⟩), .int .i64 (pw : Int), .pointer (some ⟨w.heap.size, 1, none⟩), .int .i64 (ph : Int), .agg #[.int .i64 (pw : Int), .int .i64 (ph : Int), .slice (some ⟨go, 0, none⟩) (pw * ph) co], .pointer (some ⟨w.heap.size, 0, none⟩), .int .i64 (pw : Int), .pointer (some ⟨w.heap.size, 1, none⟩), .int .i64 (ph : Int), .agg #[.int .i64 (pw : Int), .int .i64 (ph : Int), .slice (some ⟨gp, 0, none⟩) (pw * ph) cp], undef, undef, undef, undef, undef, undef, undef, undef, undef, undef, undef, undef, undef, undef, undef, undef, undef, undef, undef, undef, undef, undef, undef, undef, undef, undef, undef, undef, undef, undef, undef, undef, undef, undef, undef, undef, undef, undef, undef, undef, undef, undef, undef, undef, undef, undef, undef, undef, undef, undef, undef, undef, undef, undef, undef, undef, undef, undef, undef, undef, undef, undef, undef, undef, undef, undef, undef, undef, undef, undef, undef, undef, undef, undef, undef, undef, undef, undef, undef, undef, undef, undef, undef, undef, undef, undef, undef, undef, undef], defers := [] } W := by
        clear k1 k2 r1 r2
        intro go gp co cp bo bp W ko kp rowo rowp hgne hB3 k1 k2 r1 r2 hlo hlp hne
        refine hK1 _ _ ?_
        clear hK1
        have hbW0 := Lib.hid (fun (X : World) (hb : Below W3.heap.size W3 X) => hB.trans (hb.mono hB.size))
        obtain ⟨fl, hfl⟩ : ∃ f, loF pw ph xs sn gl (-(off + noi)) = f := ⟨_, rfl⟩
        obtain ⟨fh, hfh⟩ : ∃ f, hiF pw ph xs sn gh (off + noi) = f := ⟨_, rfl⟩
        rw [hfl, hfh] at hfinH
        rw [← spTo_zero fl (pw * ph)] at rowo
        rw [← spTo_zero fh (pw * ph)] at rowp
        have hI : SpI W3 W go gp co cp bo bp pw ph fl fh 0 0 0 := ⟨rowo, rowp, ko, kp, hB3⟩
        clear rowo rowp ko kp k1 k2 r1 r2
        go_wp2_with fail
        go_loopw [9] (fun i wr => ∃ k : Nat, k ≤ pw * ph ∧ i = .int .i64 (k : Int) ∧ SpI W3 wr go gp co cp bo bp pw ph fl fh k 0 0) (fun i _ => pw * ph - (intOf i).toNat)
        case atStart => exact ⟨0, Nat.zero_le _, rfl, hI⟩
        case round =>
          clear hI
          obtain ⟨i, hi, rfl, hI⟩ := hrel
          have k1 := hV1.out.below hI.bl lw1
          have m2 := k1.cell (i := 2) rfl
          by_cases hlt : i < pw * ph
          case neg =>
            obtain rfl : i = pw * ph := by omega
            have hnl : ¬ (((pw * ph : Nat) : Int) < (n : Int)) := by rw [hnpqH.out]; omega
            have hnl2 : decide (((pw * ph : Nat) : Int) < (n : Int)) = false := by simp only [decide_eq_false_iff_not]; exact hnl
            have rlo := hI.lo
            have rhi := hI.hi
            rw [spTo_all] at rlo rhi
            have ko := hI.ko
            have kp := hI.kp
            have hB := hbW0.out _ hI.bl
            have r1 := hV3.out.below hI.bl lw3
            have r2 := hV4.out.below hI.bl lw4
            have lo1 := hI.bl.size
            clear hI
            go_wp2_with fail
            clear k1 m2 hnl hnl2
            have hwl : w.heap.size ≤ W3.heap.size := ril
            replace rlo := row_base rlo hwl
            replace rhi := row_base rhi hwl
            have hS0 : (fun X => Blk X bo 27 #[.int .i64 (pw : Int), .int .i64 (ph : Int), .slice (some ⟨go, 0, none⟩) (pw * ph) co] ∧ Blk X bp 27 #[.int .i64 (pw : Int), .int .i64 (ph : Int), .slice (some ⟨gp, 0, none⟩) (pw * ph) cp]) wr.drew := ⟨ko, kp⟩
            obtain ⟨D0, hD0⟩ : ∃ D, wr.drew = D := ⟨_, rfl⟩
            have hBd : Below w.heap.size w D0 := hD0 ▸ hB.drew
            have r1d : Blk D0 A2.heap.size 27 #[.int .i64 0, .int .i64 0, .slice none 0 0] := hD0 ▸ r1
            have r2d : Blk D0 A3.heap.size 27 #[.int .i64 0, .int .i64 0, .slice none 0 0] := hD0 ▸ r2
            have kod : Blk D0 bo 27 #[.int .i64 (pw : Int), .int .i64 (ph : Int), .slice (some ⟨go, 0, none⟩) (pw * ph) co] := hD0 ▸ ko
            have kpd : Blk D0 bp 27 #[.int .i64 (pw : Int), .int .i64 (ph : Int), .slice (some ⟨gp, 0, none⟩) (pw * ph) cp] := hD0 ▸ kp
            have rlod : D0.ownsRow w.heap.size 3 1 (.slice (some ⟨go, 0, none⟩) (pw * ph) co) (pw * ph) (((List.range (pw * ph)).map fl).map (Value.int .i64)) := hD0 ▸ rlo
            have rhid : D0.ownsRow w.heap.size 3 1 (.slice (some ⟨gp, 0, none⟩) (pw * ph) cp) (pw * ph) (((List.range (pw * ph)).map fh).map (Value.int .i64)) := hD0 ▸ rhi
            rw [hD0] at hS0
            clear hB r1 r2 ko kp rlo rhi
            have hB := hBd
            have r1 := r1d
            have r2 := r2d
            have ko := kod
            have kp := kpd
            have rlo := rlod
            have rhi := rhid
            clear hBd r1d r2d kod kpd rlod rhid
            refine plain_region (fun X => Blk X bo 27 #[.int .i64 (pw : Int), .int .i64 (ph : Int), .slice (some ⟨go, 0, none⟩) (pw * ph) co] ∧ Blk X bp 27 #[.int .i64 (pw : Int), .int .i64 (ph : Int), .slice (some ⟨gp, 0, none⟩) (pw * ph) cp]) 5 5 (by kernel_rfl) rfl ?_
            simp only [Array.replicate_succ, Array.replicate_zero, List.push_toArray, List.nil_append, List.cons_append]
            rw [hD0]
            clear hD0
            refine take_op 0 (v := ?dv0) rfl (by kernel_rfl) (fun _ _ _ h => h) (by rfl) hS0 (fun w' hS' => ?dy0) ?dz0
            case dy0 =>
              have e0 := hS'.1.cell (i := 0) rfl
              have f0 := hS'.2.cell (i := 0) rfl
              have e1 := hS'.1.cell (i := 1) rfl
              have f1 := hS'.2.cell (i := 1) rfl
              have e2 := hS'.1.cell (i := 2) rfl
              have f2 := hS'.2.cell (i := 2) rfl
              clear hS'
              go_simp
              rfl
            simp only [List.setIfInBounds_toArray, List.set_cons_zero, List.set_cons_succ]
            refine take_op 1 (v := ?dv1) rfl (by kernel_rfl) (fun _ _ _ h => h) (by rfl) hS0 (fun w' hS' => ?dy1) ?dz1
            case dy1 =>
              have e0 := hS'.1.cell (i := 0) rfl
              have f0 := hS'.2.cell (i := 0) rfl
              have e1 := hS'.1.cell (i := 1) rfl
              have f1 := hS'.2.cell (i := 1) rfl
              have e2 := hS'.1.cell (i := 2) rfl
              have f2 := hS'.2.cell (i := 2) rfl
              clear hS'
              go_simp
              rfl
            simp only [List.setIfInBounds_toArray, List.set_cons_zero, List.set_cons_succ]
            refine step_op 2 (by kernel_rfl) rfl (fun K hK => ?_)
            rw [if_pos (by rfl)]
            have c0 := r1.cell (i := 0) rfl
            have fc0 := r1.frozen 0
            have c1 := r1.cell (i := 1) rfl
            have fc1 := r1.frozen 1
            have c2 := r1.cell (i := 2) rfl
            have fc2 := r1.frozen 2
            go_simp
            clear c0 c1 c2 fc0 fc1 fc2
            have hg := put3_grow2 D0 A2.heap.size (.int .i64 (pw : Int)) (.int .i64 (ph : Int)) (.slice (some ⟨go, 0, none⟩) (pw * ph) co)
            have r1n := put3_blk r1 (.int .i64 (pw : Int)) (.int .i64 (ph : Int)) (.slice (some ⟨go, 0, none⟩) (pw * ph) co)
            have rlon := put3_row rlo (r1.not_row (by decide) rlo) (.int .i64 (pw : Int)) (.int .i64 (ph : Int)) (.slice (some ⟨go, 0, none⟩) (pw * ph) co)
            have rhin := put3_row rhi (r1.not_row (by decide) rhi) (.int .i64 (pw : Int)) (.int .i64 (ph : Int)) (.slice (some ⟨go, 0, none⟩) (pw * ph) co)
            obtain ⟨D1, hW⟩ : ∃ W2, put3 D0 A2.heap.size (.int .i64 (pw : Int)) (.int .i64 (ph : Int)) (.slice (some ⟨go, 0, none⟩) (pw * ph) co) = W2 := ⟨_, rfl⟩
            have hW' : ((D0.setCell ⟨A2.heap.size, 0, none⟩ (.int .i64 (pw : Int))).setCell ⟨A2.heap.size, 1, none⟩ (.int .i64 (ph : Int))).setCell ⟨A2.heap.size, 2, none⟩ (.slice (some ⟨go, 0, none⟩) (pw * ph) co) = D1 := hW
            rw [hW] at hg r1n rlon rhin
            rw [hW']
            clear hW hW' rlo rhi
            have rlo := rlon
            have rhi := rhin
            clear rlon rhin
            have hB1 : Below w.heap.size w D1 := hB.trans (grown_below2 hg hB.size (by intro k e; cases e; omega))
            clear hB
            have hB := hB1
            clear hB1
            replace ko := ko.kept hg (by simp <;> omega)
            replace kp := kp.kept hg (by simp <;> omega)
            replace r2 := r2.kept hg (by simp <;> omega)
            replace r1 := r1n
            clear r1n hg
            have hS1 := And.intro ko kp
            refine hK.out _ _ (fun h => hS1) ?_
            clear hK K
            try simp only [Act.put, List.setIfInBounds_toArray, List.set_cons_zero, List.set_cons_succ]
            refine step_op 3 (by kernel_rfl) rfl (fun K hK => ?_)
            rw [if_pos (by rfl)]
            have c0 := r2.cell (i := 0) rfl
            have fc0 := r2.frozen 0
            have c1 := r2.cell (i := 1) rfl
            have fc1 := r2.frozen 1
            have c2 := r2.cell (i := 2) rfl
            have fc2 := r2.frozen 2
            go_simp
            clear c0 c1 c2 fc0 fc1 fc2
            have hg := put3_grow2 D1 A3.heap.size (.int .i64 (pw : Int)) (.int .i64 (ph : Int)) (.slice (some ⟨gp, 0, none⟩) (pw * ph) cp)
            have r2n := put3_blk r2 (.int .i64 (pw : Int)) (.int .i64 (ph : Int)) (.slice (some ⟨gp, 0, none⟩) (pw * ph) cp)
            have rlon := put3_row rlo (r2.not_row (by decide) rlo) (.int .i64 (pw : Int)) (.int .i64 (ph : Int)) (.slice (some ⟨gp, 0, none⟩) (pw * ph) cp)
            have rhin := put3_row rhi (r2.not_row (by decide) rhi) (.int .i64 (pw : Int)) (.int .i64 (ph : Int)) (.slice (some ⟨gp, 0, none⟩) (pw * ph) cp)
            obtain ⟨D2, hW⟩ : ∃ W2, put3 D1 A3.heap.size (.int .i64 (pw : Int)) (.int .i64 (ph : Int)) (.slice (some ⟨gp, 0, none⟩) (pw * ph) cp) = W2 := ⟨_, rfl⟩
            have hW' : ((D1.setCell ⟨A3.heap.size, 0, none⟩ (.int .i64 (pw : Int))).setCell ⟨A3.heap.size, 1, none⟩ (.int .i64 (ph : Int))).setCell ⟨A3.heap.size, 2, none⟩ (.slice (some ⟨gp, 0, none⟩) (pw * ph) cp) = D2 := hW
            rw [hW] at hg r2n rlon rhin
            rw [hW']
            clear hW hW' rlo rhi
            have rlo := rlon
            have rhi := rhin
            clear rlon rhin
            have hB2 : Below w.heap.size w D2 := hB.trans (grown_below2 hg hB.size (by intro k e; cases e; omega))
            clear hB
            have hB := hB2
            clear hB2
            replace ko := ko.kept hg (by simp <;> omega)
            replace kp := kp.kept hg (by simp <;> omega)
            replace r1 := r1.kept hg (by simp <;> omega)
            replace r2 := r2n
            clear r2n hg
            have hS2 := And.intro ko kp
            refine hK.out _ _ (fun h => hS2) ?_
            clear hK K
            try simp only [Act.put, List.setIfInBounds_toArray, List.set_cons_zero, List.set_cons_succ]
            refine take_op 4 (v := ?dv4) rfl (by kernel_rfl) (fun _ _ _ h => h) (by rfl) hS2 (fun w' hS' => ?dy4) ?dz4
            case dy4 =>
              go_simp
              rfl
            simp only [List.setIfInBounds_toArray, List.set_cons_zero, List.set_cons_succ]
            refine done_ops (by kernel_rfl) ?_
            have g0 := r1.cell (i := 0) rfl
            have g1 := r1.cell (i := 1) rfl
            have g2 := r1.cell (i := 2) rfl
            have g3 := r2.cell (i := 0) rfl
            have g4 := r2.cell (i := 1) rfl
            have g5 := r2.cell (i := 2) rfl
            go_wp2_with fail
            exact bodyPost_ret (v := .tuple #[.agg #[.int .i64 (pw : Int), .int .i64 (ph : Int), .slice (some ⟨go, 0, none⟩) (pw * ph) co], .agg #[.int .i64 (pw : Int), .int .i64 (ph : Int), .slice (some ⟨gp, 0, none⟩) (pw * ph) cp], .int .i64 0]) (by simp [results, Try.results16, go_sem, g0, g1, g2, g3, g4, g5]) rfl ⟨⟨_, _, by rw [hfinH.out], by rw [hfinH.out]; exact ⟨_, rfl, row_len (by simp) rlo⟩, by rw [hfinH.out]; exact ⟨_, rfl, row_len (by simp) rhi⟩⟩, hB⟩
          case pos =>
            have hnl : (i : Int) < (n : Int) := by rw [hnpqH.out]; omega
            have o2 := hI.ko.cell (i := 2) rfl
            have ⟨z1, z2⟩ := hI.atLo hlt
            obtain ⟨wt, hwt⟩ : ∃ X, wr.setCell ⟨go, i, none⟩ (.int .i64 255) = X := ⟨_, rfl⟩
            have hI2 : SpI W3 wt go gp co cp bo bp pw ph fl fh i 255 0 := hwt ▸ hI.setLo hgne hlt 255
            clear hI
            have k2 := hV2.out.below hI2.bl lw2
            have c0 := k2.cell (i := 0) rfl
            clear k1 k2
            go_wp2_with fail
            clear hwt z1 z2 m2 o2 c0 hnl
            have hj0 : (0 : Nat) ≤ 2 * sn + 1 := Nat.zero_le _
            go_loopw [10] (fun d wr => ∃ j : Nat, j ≤ 2 * sn + 1 ∧ d = .int .i64 ((j : Int) - (sn : Int)) ∧ SpI W3 wr go gp co cp bo bp pw ph fl fh i (spLo (shV pw ph xs sn gl (-(off + noi)) i) (j * (2 * sn + 1))) (spHi (shV pw ph xs sn gh (off + noi) i) (j * (2 * sn + 1)))) (fun d _ => ((sn : Int) + 1 - intOf d).toNat)
            case atStart => exact ⟨0, Nat.zero_le _, by simp, by rw [Nat.zero_mul]; exact hI2⟩
            case round =>
              clear hI2
              obtain ⟨j, hj, rfl, hI⟩ := hrel
              have k2 := hV2.out.below hI.bl lw2
              have c0 := k2.cell (i := 0) rfl
              clear k2
              by_cases hltj : j < 2 * sn + 1
              case neg =>
                obtain rfl : j = 2 * sn + 1 := by omega
                have hc : ¬ ((((2 * sn + 1 : Nat) : Int) - (sn : Int)) ≤ (sn : Int)) := by omega
                have hcd : decide ((((2 * sn + 1 : Nat) : Int) - (sn : Int)) ≤ (sn : Int)) = false := by simp only [decide_eq_false_iff_not]; exact hc
                have e1 : spLo (shV pw ph xs sn gl (-(off + noi)) i) ((2 * sn + 1) * (2 * sn + 1)) = fl i := by rw [← hfl]; rfl
                have e2 : spHi (shV pw ph xs sn gh (off + noi) i) ((2 * sn + 1) * (2 * sn + 1)) = fh i := by rw [← hfh]; rfl
                rw [e1, e2] at hI
                have hI := hI.next
                clear e1 e2
                go_wp2_with fail
                go_roundw
                case rel => exact ⟨i + 1, by omega, by go_num, hI⟩
                case measure => simp [intOf]; omega
              case pos =>
                have hc : (((j : Int) - (sn : Int)) ≤ (sn : Int)) := by omega
                go_wp2_with fail
                clear c0 hc
                go_loopw [11] (fun d wr => ∃ k : Nat, k ≤ 2 * sn + 1 ∧ d = .int .i64 ((k : Int) - (sn : Int)) ∧ SpI W3 wr go gp co cp bo bp pw ph fl fh i (spLo (shV pw ph xs sn gl (-(off + noi)) i) (j * (2 * sn + 1) + k)) (spHi (shV pw ph xs sn gh (off + noi) i) (j * (2 * sn + 1) + k))) (fun d _ => ((sn : Int) + 1 - intOf d).toNat)
                case atStart => exact ⟨0, Nat.zero_le _, by simp, hI⟩
                case round =>
                  clear hI
                  obtain ⟨k, hk, rfl, hI⟩ := hrel
                  have k2 := hV2.out.below hI.bl lw2
                  have c0 := k2.cell (i := 0) rfl
                  by_cases hltk : k < 2 * sn + 1
                  case neg =>
                    obtain rfl : k = 2 * sn + 1 := by omega
                    have hc : ¬ ((((2 * sn + 1 : Nat) : Int) - (sn : Int)) ≤ (sn : Int)) := by omega
                    have hcd : decide ((((2 * sn + 1 : Nat) : Int) - (sn : Int)) ≤ (sn : Int)) = false := by simp only [decide_eq_false_iff_not]; exact hc
                    rw [show j * (2 * sn + 1) + (2 * sn + 1) = (j + 1) * (2 * sn + 1) by rw [Nat.add_mul]; omega] at hI
                    clear k2
                    go_wp2_with fail
                    go_roundw
                    case rel => exact ⟨j + 1, by omega, by rw [show ((j + 1 : Nat) : Int) - (sn : Int) = (j : Int) - (sn : Int) + 1 by omega], hI⟩
                    case measure => simp [intOf]; omega
                  case pos =>
                    have hmdl : i % pw < pw := Nat.mod_lt _ (by omega)
                    have hdvl : i / pw < ph := Nat.div_lt_of_lt_mul hlt
                    obtain ⟨y, hye⟩ : ∃ y, i / pw = y := ⟨_, rfl⟩
                    obtain ⟨x, hxe⟩ : ∃ x, i % pw = x := ⟨_, rfl⟩
                    have hyq : (i : Int).tdiv (pw : Int) = (y : Int) := by rw [← hye, ← Int.ofNat_tdiv]
                    have hxq : (i : Int).tmod (pw : Int) = (x : Int) := by rw [← hxe, ← Int.ofNat_tmod]
                    rw [hxe] at hmdl
                    rw [hye] at hdvl
                    have hpw0 : ¬ pw = 0 := by omega
                    have sL := shV_at (pw := pw) (ph := ph) (s := sn) (j := j) (k := k) (xs := xs) (g := gl) (a := -(off + noi)) (i := i) hltk
                    have sH := shV_at (pw := pw) (ph := ph) (s := sn) (j := j) (k := k) (xs := xs) (g := gh) (a := off + noi) (i := i) hltk
                    rw [show cX pw i = (x : Int) by rw [← hxe]; rfl, show cY pw i = (y : Int) by rw [← hye]; rfl] at sL sH
                    have pL := spLo_bd (f := shV pw ph xs sn gl (-(off + noi)) i) (fun t => spV_bd _ _ _) (j * (2 * sn + 1) + k)
                    have pH := spHi_bd (f := shV pw ph xs sn gh (off + noi) i) (fun t => spV_bd _ _ _) (j * (2 * sn + 1) + k)
                    obtain ⟨zL, hzL⟩ : ∃ z, shV pw ph xs sn gl (-(off + noi)) i (j * (2 * sn + 1) + k) = z := ⟨_, rfl⟩
                    obtain ⟨zH, hzH⟩ : ∃ z, shV pw ph xs sn gh (off + noi) i (j * (2 * sn + 1) + k) = z := ⟨_, rfl⟩
                    have qL : 0 ≤ zL ∧ zL ≤ 255 := by rw [← hzL]; exact spV_bd _ _ _
                    have qH : 0 ≤ zH ∧ zH ≤ 255 := by rw [← hzH]; exact spV_bd _ _ _
                    have nL : spLo (shV pw ph xs sn gl (-(off + noi)) i) (j * (2 * sn + 1) + (k + 1)) = min (spLo (shV pw ph xs sn gl (-(off + noi)) i) (j * (2 * sn + 1) + k)) zL := by rw [← hzL]; rfl
                    have nH : spHi (shV pw ph xs sn gh (off + noi) i) (j * (2 * sn + 1) + (k + 1)) = max (spHi (shV pw ph xs sn gh (off + noi) i) (j * (2 * sn + 1) + k)) zH := by rw [← hzH]; rfl
                    obtain ⟨vL, hvL⟩ : ∃ z, spLo (shV pw ph xs sn gl (-(off + noi)) i) (j * (2 * sn + 1) + k) = z := ⟨_, rfl⟩
                    obtain ⟨vH, hvH⟩ : ∃ z, spHi (shV pw ph xs sn gh (off + noi) i) (j * (2 * sn + 1) + k) = z := ⟨_, rfl⟩
                    rw [hvL] at nL pL hI
                    rw [hvH] at nH pH hI
                    obtain ⟨mL, hmL⟩ : ∃ z, min vL zL = z := ⟨_, rfl⟩
                    obtain ⟨mH, hmH⟩ : ∃ z, max vH zH = z := ⟨_, rfl⟩
                    rw [hmL] at nL
                    rw [hmH] at nH
                    have nLH := Lib.hid nL
                    have nHH := Lib.hid nH
                    have sLH := Lib.hid ((show spV gl (-off + -noi) (beyF 2 pw ph xs ((x : Int) + ((k : Int) - sn)) ((y : Int) + ((j : Int) - sn))) = zL by rw [show -off + -noi = -(off + noi) by omega, ← sL, hzL]))
                    have sHH := Lib.hid ((show spV gh (off + noi) (beyF 2 pw ph xs ((x : Int) + ((k : Int) - sn)) ((y : Int) + ((j : Int) - sn))) = zH by rw [← sH, hzH]))
                    have hch := fun (W' : World) (hb : Below W3.heap.size W3 W') => Changed_any pw ph a c n xs hn (by omega) (by omega) (by omega) (by omega) hlenH hbyH (x : Int) (y : Int) ((k : Int) - sn) ((j : Int) - sn) gl (-off) (-noi) (by omega) (by omega) (by omega) (by omega) (by omega) (by omega) (by omega) (by omega) g1 g2 (by omega) (by omega) (by omega) (by omega) zL sLH W' ((ri.below (Nat.le_refl _) (hb.mono ril)).mono (Nat.le_trans ril hb.size))
                    have hchL := Lib.hid hch
                    have hch2 := fun (W' : World) (hb : Below W3.heap.size W3 W') => Changed_any pw ph a c n xs hn (by omega) (by omega) (by omega) (by omega) hlenH hbyH (x : Int) (y : Int) ((k : Int) - sn) ((j : Int) - sn) gh off noi (by omega) (by omega) (by omega) (by omega) (by omega) (by omega) (by omega) (by omega) (by omega) g4 (by omega) (by omega) (by omega) (by omega) zH sHH W' ((ri.below (Nat.le_refl _) (hb.mono ril)).mono (Nat.le_trans ril hb.size))
                    have hchH := Lib.hid hch2
                    clear hch hch2 nL nH sL sH hzL hzH hvL hvH hxe hye
                    go_wp2_with fail
                    clear c0 k2
                    have hS0 : SpI W3 wr.drew go gp co cp bo bp pw ph fl fh i vL vH := hI.drew
                    refine plain_region (fun W' => SpI W3 W' go gp co cp bo bp pw ph fl fh i vL vH) 30 31 (by kernel_rfl) rfl ?_
                    simp only [Array.replicate_succ, Array.replicate_zero, List.push_toArray, List.nil_append, List.cons_append]
                    refine take_op 0 (v := ?av0) rfl (by kernel_rfl) (fun _ _ _ h => h) (by rfl) hS0 (fun w' hS' => ?ay0) ?az0
                    case ay0 =>
                      go_simp
                      rfl
                    simp only [List.setIfInBounds_toArray, List.set_cons_zero, List.set_cons_succ]
                    refine take_op 1 (v := ?av1) rfl (by kernel_rfl) (fun _ _ _ h => h) (by rfl) hS0 (fun w' hS' => ?ay1) ?az1
                    case ay1 =>
                      have k1 := hV1.out.below hS'.bl lw1
                      have k2 := hV2.out.below hS'.bl lw2
                      have m0 := k1.cell (i := 0) rfl
                      have m1 := k1.cell (i := 1) rfl
                      have m2 := k1.cell (i := 2) rfl
                      have c0 := k2.cell (i := 0) rfl
                      have c1 := k2.cell (i := 1) rfl
                      have c2 := k2.cell (i := 2) rfl
                      have c3 := k2.cell (i := 3) rfl
                      have c4 := k2.cell (i := 4) rfl
                      have q2 := hS'.ko.cell (i := 2) rfl
                      have p2 := hS'.kp.cell (i := 2) rfl
                      have ⟨z1, _⟩ := hS'.atLo hlt
                      have ⟨z2, _⟩ := hS'.atHi hlt
                      clear hS' k1 k2
                      go_simp
                      rfl
                    simp only [List.setIfInBounds_toArray, List.set_cons_zero, List.set_cons_succ]
                    refine take_op 2 (v := ?av2) rfl (by kernel_rfl) (fun _ _ _ h => h) (by rfl) hS0 (fun w' hS' => ?ay2) ?az2
                    case ay2 =>
                      go_simp
                      rfl
                    simp only [List.setIfInBounds_toArray, List.set_cons_zero, List.set_cons_succ]
                    refine take_op 3 (v := ?av3) rfl (by kernel_rfl) (fun _ _ _ h => h) (by rfl) hS0 (fun w' hS' => ?ay3) ?az3
                    case ay3 =>
                      go_simp
                      rfl
                    simp only [List.setIfInBounds_toArray, List.set_cons_zero, List.set_cons_succ]
                    refine take_op 4 (v := ?av4) rfl (by kernel_rfl) (fun _ _ _ h => h) (by rfl) hS0 (fun w' hS' => ?ay4) ?az4
                    case ay4 =>
                      have k1 := hV1.out.below hS'.bl lw1
                      have k2 := hV2.out.below hS'.bl lw2
                      have m0 := k1.cell (i := 0) rfl
                      have m1 := k1.cell (i := 1) rfl
                      have m2 := k1.cell (i := 2) rfl
                      have c0 := k2.cell (i := 0) rfl
                      have c1 := k2.cell (i := 1) rfl
                      have c2 := k2.cell (i := 2) rfl
                      have c3 := k2.cell (i := 3) rfl
                      have c4 := k2.cell (i := 4) rfl
                      have q2 := hS'.ko.cell (i := 2) rfl
                      have p2 := hS'.kp.cell (i := 2) rfl
                      have ⟨z1, _⟩ := hS'.atLo hlt
                      have ⟨z2, _⟩ := hS'.atHi hlt
                      clear hS' k1 k2
                      go_simp
                      rfl
                    simp only [List.setIfInBounds_toArray, List.set_cons_zero, List.set_cons_succ]
                    refine take_op 5 (v := ?av5) rfl (by kernel_rfl) (fun _ _ _ h => h) (by rfl) hS0 (fun w' hS' => ?ay5) ?az5
                    case ay5 =>
                      go_simp
                      rfl
                    simp only [List.setIfInBounds_toArray, List.set_cons_zero, List.set_cons_succ]
                    refine take_op 6 (v := ?av6) rfl (by kernel_rfl) (fun _ _ _ h => h) (by rfl) hS0 (fun w' hS' => ?ay6) ?az6
                    case ay6 =>
                      go_simp
                      try go_ints
                      first
                      | rfl
                      | (rw [if_pos (by omega)]; done)
                      | rw [if_pos ⟨by omega, by omega⟩]
                    simp only [List.setIfInBounds_toArray, List.set_cons_zero, List.set_cons_succ]
                    refine take_op 7 (v := ?av7) rfl (by kernel_rfl) (fun _ _ _ h => h) (by rfl) hS0 (fun w' hS' => ?ay7) ?az7
                    case ay7 =>
                      have k1 := hV1.out.below hS'.bl lw1
                      have k2 := hV2.out.below hS'.bl lw2
                      have m0 := k1.cell (i := 0) rfl
                      have m1 := k1.cell (i := 1) rfl
                      have m2 := k1.cell (i := 2) rfl
                      have c0 := k2.cell (i := 0) rfl
                      have c1 := k2.cell (i := 1) rfl
                      have c2 := k2.cell (i := 2) rfl
                      have c3 := k2.cell (i := 3) rfl
                      have c4 := k2.cell (i := 4) rfl
                      have q2 := hS'.ko.cell (i := 2) rfl
                      have p2 := hS'.kp.cell (i := 2) rfl
                      have ⟨z1, _⟩ := hS'.atLo hlt
                      have ⟨z2, _⟩ := hS'.atHi hlt
                      clear hS' k1 k2
                      go_simp
                      rfl
                    simp only [List.setIfInBounds_toArray, List.set_cons_zero, List.set_cons_succ]
                    refine take_op 8 (v := ?av8) rfl (by kernel_rfl) (fun _ _ _ h => h) (by rfl) hS0 (fun w' hS' => ?ay8) ?az8
                    case ay8 =>
                      have k1 := hV1.out.below hS'.bl lw1
                      have k2 := hV2.out.below hS'.bl lw2
                      have m0 := k1.cell (i := 0) rfl
                      have m1 := k1.cell (i := 1) rfl
                      have m2 := k1.cell (i := 2) rfl
                      have c0 := k2.cell (i := 0) rfl
                      have c1 := k2.cell (i := 1) rfl
                      have c2 := k2.cell (i := 2) rfl
                      have c3 := k2.cell (i := 3) rfl
                      have c4 := k2.cell (i := 4) rfl
                      have q2 := hS'.ko.cell (i := 2) rfl
                      have p2 := hS'.kp.cell (i := 2) rfl
                      have ⟨z1, _⟩ := hS'.atLo hlt
                      have ⟨z2, _⟩ := hS'.atHi hlt
                      clear hS' k1 k2
                      go_simp
                      rfl
                    simp only [List.setIfInBounds_toArray, List.set_cons_zero, List.set_cons_succ]
                    refine take_op 9 (v := ?av9) rfl (by kernel_rfl) (fun _ _ _ h => h) (by rfl) hS0 (fun w' hS' => ?ay9) ?az9
                    case ay9 =>
                      go_simp
                      rfl
                    simp only [List.setIfInBounds_toArray, List.set_cons_zero, List.set_cons_succ]
                    refine take_op 10 (v := ?av10) rfl (by kernel_rfl) (fun _ _ _ h => h) (by rfl) hS0 (fun w' hS' => ?ay10) ?az10
                    case ay10 =>
                      go_simp
                      rfl
                    simp only [List.setIfInBounds_toArray, List.set_cons_zero, List.set_cons_succ]
                    refine take_op 11 (v := ?av11) rfl (by kernel_rfl) (fun _ _ _ h => h) (by rfl) hS0 (fun w' hS' => ?ay11) ?az11
                    case ay11 =>
                      have k1 := hV1.out.below hS'.bl lw1
                      have k2 := hV2.out.below hS'.bl lw2
                      have m0 := k1.cell (i := 0) rfl
                      have m1 := k1.cell (i := 1) rfl
                      have m2 := k1.cell (i := 2) rfl
                      have c0 := k2.cell (i := 0) rfl
                      have c1 := k2.cell (i := 1) rfl
                      have c2 := k2.cell (i := 2) rfl
                      have c3 := k2.cell (i := 3) rfl
                      have c4 := k2.cell (i := 4) rfl
                      have q2 := hS'.ko.cell (i := 2) rfl
                      have p2 := hS'.kp.cell (i := 2) rfl
                      have ⟨z1, _⟩ := hS'.atLo hlt
                      have ⟨z2, _⟩ := hS'.atHi hlt
                      clear hS' k1 k2
                      go_simp
                      rfl
                    simp only [List.setIfInBounds_toArray, List.set_cons_zero, List.set_cons_succ]
                    refine take_op 12 (v := ?av12) rfl (by kernel_rfl) (fun _ _ _ h => h) (by rfl) hS0 (fun w' hS' => ?ay12) ?az12
                    case ay12 =>
                      go_simp
                      try go_ints
                      rfl
                    simp only [List.setIfInBounds_toArray, List.set_cons_zero, List.set_cons_succ]
                    refine take_op 13 (v := ?av13) rfl (by kernel_rfl) (fun _ _ _ h => h) (by rfl) hS0 (fun w' hS' => ?ay13) ?az13
                    case ay13 =>
                      go_simp
                      rfl
                    simp only [List.setIfInBounds_toArray, List.set_cons_zero, List.set_cons_succ]
                    refine take_op 14 (v := ?av14) rfl (by kernel_rfl) (fun _ _ _ h => h) (by rfl) hS0 (fun w' hS' => ?ay14) ?az14
                    case ay14 =>
                      go_simp
                      rfl
                    simp only [List.setIfInBounds_toArray, List.set_cons_zero, List.set_cons_succ]
                    refine take_op 15 (v := ?av15) rfl (by kernel_rfl) (fun _ _ _ h => h) (by rfl) hS0 (fun w' hS' => ?ay15) ?az15
                    case ay15 =>
                      have k1 := hV1.out.below hS'.bl lw1
                      have k2 := hV2.out.below hS'.bl lw2
                      have m0 := k1.cell (i := 0) rfl
                      have m1 := k1.cell (i := 1) rfl
                      have m2 := k1.cell (i := 2) rfl
                      have c0 := k2.cell (i := 0) rfl
                      have c1 := k2.cell (i := 1) rfl
                      have c2 := k2.cell (i := 2) rfl
                      have c3 := k2.cell (i := 3) rfl
                      have c4 := k2.cell (i := 4) rfl
                      have q2 := hS'.ko.cell (i := 2) rfl
                      have p2 := hS'.kp.cell (i := 2) rfl
                      have ⟨z1, _⟩ := hS'.atLo hlt
                      have ⟨z2, _⟩ := hS'.atHi hlt
                      clear hS' k1 k2
                      go_simp
                      rfl
                    simp only [List.setIfInBounds_toArray, List.set_cons_zero, List.set_cons_succ]
                    refine take_op 16 (v := ?av16) rfl (by kernel_rfl) (fun _ _ _ h => h) (by rfl) hS0 (fun w' hS' => ?ay16) ?az16
                    case ay16 =>
                      go_simp
                      try go_ints
                      rfl
                    simp only [List.setIfInBounds_toArray, List.set_cons_zero, List.set_cons_succ]
                    refine take_op 17 (v := ?av17) rfl (by kernel_rfl) (fun _ _ _ h => h) (by rfl) hS0 (fun w' hS' => ?ay17) ?az17
                    case ay17 =>
                      go_simp
                      rfl
                    simp only [List.setIfInBounds_toArray, List.set_cons_zero, List.set_cons_succ]
                    refine take_op 18 (v := ?av18) rfl (by kernel_rfl) (fun _ _ _ h => h) (by rfl) hS0 (fun w' hS' => ?ay18) ?az18
                    case ay18 =>
                      go_simp
                      rfl
                    simp only [List.setIfInBounds_toArray, List.set_cons_zero, List.set_cons_succ]
                    refine take_op 19 (v := ?av19) rfl (by kernel_rfl) (fun _ _ _ h => h) (by rfl) hS0 (fun w' hS' => ?ay19) ?az19
                    case ay19 =>
                      go_simp
                      rfl
                    simp only [List.setIfInBounds_toArray, List.set_cons_zero, List.set_cons_succ]
                    refine take_op 20 (v := ?av20) rfl (by kernel_rfl) (fun _ _ _ h => h) (by rfl) hS0 (fun w' hS' => ?ay20) ?az20
                    case ay20 =>
                      have k1 := hV1.out.below hS'.bl lw1
                      have k2 := hV2.out.below hS'.bl lw2
                      have m0 := k1.cell (i := 0) rfl
                      have m1 := k1.cell (i := 1) rfl
                      have m2 := k1.cell (i := 2) rfl
                      have c0 := k2.cell (i := 0) rfl
                      have c1 := k2.cell (i := 1) rfl
                      have c2 := k2.cell (i := 2) rfl
                      have c3 := k2.cell (i := 3) rfl
                      have c4 := k2.cell (i := 4) rfl
                      have q2 := hS'.ko.cell (i := 2) rfl
                      have p2 := hS'.kp.cell (i := 2) rfl
                      have ⟨z1, _⟩ := hS'.atLo hlt
                      have ⟨z2, _⟩ := hS'.atHi hlt
                      clear hS' k1 k2
                      go_simp
                      rfl
                    simp only [List.setIfInBounds_toArray, List.set_cons_zero, List.set_cons_succ]
                    refine take_op 21 (v := ?av21) rfl (by kernel_rfl) (fun _ _ _ h => h) (by rfl) hS0 (fun w' hS' => ?ay21) ?az21
                    case ay21 =>
                      go_simp
                      rfl
                    simp only [List.setIfInBounds_toArray, List.set_cons_zero, List.set_cons_succ]
                    refine take_op 22 (v := ?av22) rfl (by kernel_rfl) (fun _ _ _ h => h) (by rfl) hS0 (fun w' hS' => ?ay22) ?az22
                    case ay22 =>
                      have k1 := hV1.out.below hS'.bl lw1
                      have k2 := hV2.out.below hS'.bl lw2
                      have m0 := k1.cell (i := 0) rfl
                      have m1 := k1.cell (i := 1) rfl
                      have m2 := k1.cell (i := 2) rfl
                      have c0 := k2.cell (i := 0) rfl
                      have c1 := k2.cell (i := 1) rfl
                      have c2 := k2.cell (i := 2) rfl
                      have c3 := k2.cell (i := 3) rfl
                      have c4 := k2.cell (i := 4) rfl
                      have q2 := hS'.ko.cell (i := 2) rfl
                      have p2 := hS'.kp.cell (i := 2) rfl
                      have ⟨z1, _⟩ := hS'.atLo hlt
                      have ⟨z2, _⟩ := hS'.atHi hlt
                      clear hS' k1 k2
                      go_simp
                      rfl
                    simp only [List.setIfInBounds_toArray, List.set_cons_zero, List.set_cons_succ]
                    refine take_op 23 (v := ?av23) rfl (by kernel_rfl) (fun _ _ _ h => h) (by rfl) hS0 (fun w' hS' => ?ay23) ?az23
                    case ay23 =>
                      go_simp
                      try go_ints
                      rfl
                    simp only [List.setIfInBounds_toArray, List.set_cons_zero, List.set_cons_succ]
                    refine take_op 24 (v := ?av24) rfl (by kernel_rfl) (fun _ _ _ h => h) (by rfl) hS0 (fun w' hS' => ?ay24) ?az24
                    case ay24 =>
                      go_simp
                      rfl
                    simp only [List.setIfInBounds_toArray, List.set_cons_zero, List.set_cons_succ]
                    refine take_op 25 (v := ?av25) rfl (by kernel_rfl) (fun _ _ _ h => h) (by rfl) hS0 (fun w' hS' => ?ay25) ?az25
                    case ay25 =>
                      have k1 := hV1.out.below hS'.bl lw1
                      have k2 := hV2.out.below hS'.bl lw2
                      have m0 := k1.cell (i := 0) rfl
                      have m1 := k1.cell (i := 1) rfl
                      have m2 := k1.cell (i := 2) rfl
                      have c0 := k2.cell (i := 0) rfl
                      have c1 := k2.cell (i := 1) rfl
                      have c2 := k2.cell (i := 2) rfl
                      have c3 := k2.cell (i := 3) rfl
                      have c4 := k2.cell (i := 4) rfl
                      have q2 := hS'.ko.cell (i := 2) rfl
                      have p2 := hS'.kp.cell (i := 2) rfl
                      have ⟨z1, _⟩ := hS'.atLo hlt
                      have ⟨z2, _⟩ := hS'.atHi hlt
                      clear hS' k1 k2
                      go_simp
                      rfl
                    simp only [List.setIfInBounds_toArray, List.set_cons_zero, List.set_cons_succ]
                    refine take_op 26 (v := ?av26) rfl (by kernel_rfl) (fun _ _ _ h => h) (by rfl) hS0 (fun w' hS' => ?ay26) ?az26
                    case ay26 =>
                      go_simp
                      try go_ints
                      rfl
                    simp only [List.setIfInBounds_toArray, List.set_cons_zero, List.set_cons_succ]
                    refine step_op 27 (by kernel_rfl) rfl (fun K hK => ?_)
                    rw [if_pos (by rfl)]
                    go_simp
                    refine (hchL.out _ hS0.bl).mono ?_
                    rintro e Y1 ⟨rfl, hb1⟩
                    have hS1 := hS0.below hb1
                    clear hb1
                    refine hK.out _ _ (fun h => hS1) ?_
                    clear hK K
                    try simp only [Act.put, List.setIfInBounds_toArray, List.set_cons_zero, List.set_cons_succ]
                    refine take_op 28 (v := .int .i64 mL) rfl (by kernel_rfl) (fun _ _ _ h => h) (by rfl) hS1 (fun w' hS' => ?ay28) ?az28
                    case ay28 =>
                      go_simp
                      try simp only [hmL, hmH]
                      try rfl
                    simp only [List.setIfInBounds_toArray, List.set_cons_zero, List.set_cons_succ]
                    refine take_op 29 (v := ?av29) rfl (by kernel_rfl) (fun _ _ _ h => h) (by rfl) hS1 (fun w' hS' => ?ay29) ?az29
                    case ay29 =>
                      go_simp
                      try go_ints
                      first
                      | rfl
                      | (rw [if_pos (by omega)]; done)
                      | rw [if_pos ⟨by omega, by omega⟩]
                    simp only [List.setIfInBounds_toArray, List.set_cons_zero, List.set_cons_succ]
                    refine step_op 30 (by kernel_rfl) rfl (fun K hK => ?_)
                    rw [if_pos (by rfl)]
                    have ⟨z1, zf1⟩ := hS1.atLo hlt
                    go_simp
                    refine hK.out _ _ (fun h => absurd h (by omega)) ?_
                    clear hK K
                    try simp only [Act.put, List.setIfInBounds_toArray, List.set_cons_zero, List.set_cons_succ]
                    refine done_ops (by kernel_rfl) ?_
                    obtain ⟨wn, hwn⟩ : ∃ X, Y1.setCell ⟨go, i, none⟩ (.int .i64 mL) = X := ⟨_, rfl⟩
                    have hI2 : SpI W3 wn go gp co cp bo bp pw ph fl fh i mL vH := hwn ▸ hS1.setLo hgne hlt mL
                    clear hS1
                    go_wp2_with fail
                    rw [hwn]
                    clear hwn
                    have hT0 : SpI W3 wn.drew go gp co cp bo bp pw ph fl fh i mL vH := hI2.drew
                    refine plain_region (fun W' => SpI W3 W' go gp co cp bo bp pw ph fl fh i mL vH) 28 29 (by kernel_rfl) rfl ?_
                    simp only [Array.replicate_succ, Array.replicate_zero, List.push_toArray, List.nil_append, List.cons_append]
                    refine take_op 0 (v := ?bv0) rfl (by kernel_rfl) (fun _ _ _ h => h) (by rfl) hT0 (fun w' hS' => ?by0) ?bz0
                    case by0 =>
                      go_simp
                      rfl
                    simp only [List.setIfInBounds_toArray, List.set_cons_zero, List.set_cons_succ]
                    refine take_op 1 (v := ?bv1) rfl (by kernel_rfl) (fun _ _ _ h => h) (by rfl) hT0 (fun w' hS' => ?by1) ?bz1
                    case by1 =>
                      have k1 := hV1.out.below hS'.bl lw1
                      have k2 := hV2.out.below hS'.bl lw2
                      have m0 := k1.cell (i := 0) rfl
                      have m1 := k1.cell (i := 1) rfl
                      have m2 := k1.cell (i := 2) rfl
                      have c0 := k2.cell (i := 0) rfl
                      have c1 := k2.cell (i := 1) rfl
                      have c2 := k2.cell (i := 2) rfl
                      have c3 := k2.cell (i := 3) rfl
                      have c4 := k2.cell (i := 4) rfl
                      have q2 := hS'.ko.cell (i := 2) rfl
                      have p2 := hS'.kp.cell (i := 2) rfl
                      have ⟨z1, _⟩ := hS'.atLo hlt
                      have ⟨z2, _⟩ := hS'.atHi hlt
                      clear hS' k1 k2
                      go_simp
                      rfl
                    simp only [List.setIfInBounds_toArray, List.set_cons_zero, List.set_cons_succ]
                    refine take_op 2 (v := ?bv2) rfl (by kernel_rfl) (fun _ _ _ h => h) (by rfl) hT0 (fun w' hS' => ?by2) ?bz2
                    case by2 =>
                      go_simp
                      rfl
                    simp only [List.setIfInBounds_toArray, List.set_cons_zero, List.set_cons_succ]
                    refine take_op 3 (v := ?bv3) rfl (by kernel_rfl) (fun _ _ _ h => h) (by rfl) hT0 (fun w' hS' => ?by3) ?bz3
                    case by3 =>
                      go_simp
                      rfl
                    simp only [List.setIfInBounds_toArray, List.set_cons_zero, List.set_cons_succ]
                    refine take_op 4 (v := ?bv4) rfl (by kernel_rfl) (fun _ _ _ h => h) (by rfl) hT0 (fun w' hS' => ?by4) ?bz4
                    case by4 =>
                      have k1 := hV1.out.below hS'.bl lw1
                      have k2 := hV2.out.below hS'.bl lw2
                      have m0 := k1.cell (i := 0) rfl
                      have m1 := k1.cell (i := 1) rfl
                      have m2 := k1.cell (i := 2) rfl
                      have c0 := k2.cell (i := 0) rfl
                      have c1 := k2.cell (i := 1) rfl
                      have c2 := k2.cell (i := 2) rfl
                      have c3 := k2.cell (i := 3) rfl
                      have c4 := k2.cell (i := 4) rfl
                      have q2 := hS'.ko.cell (i := 2) rfl
                      have p2 := hS'.kp.cell (i := 2) rfl
                      have ⟨z1, _⟩ := hS'.atLo hlt
                      have ⟨z2, _⟩ := hS'.atHi hlt
                      clear hS' k1 k2
                      go_simp
                      rfl
                    simp only [List.setIfInBounds_toArray, List.set_cons_zero, List.set_cons_succ]
                    refine take_op 5 (v := ?bv5) rfl (by kernel_rfl) (fun _ _ _ h => h) (by rfl) hT0 (fun w' hS' => ?by5) ?bz5
                    case by5 =>
                      go_simp
                      rfl
                    simp only [List.setIfInBounds_toArray, List.set_cons_zero, List.set_cons_succ]
                    refine take_op 6 (v := ?bv6) rfl (by kernel_rfl) (fun _ _ _ h => h) (by rfl) hT0 (fun w' hS' => ?by6) ?bz6
                    case by6 =>
                      go_simp
                      try go_ints
                      first
                      | rfl
                      | (rw [if_pos (by omega)]; done)
                      | rw [if_pos ⟨by omega, by omega⟩]
                    simp only [List.setIfInBounds_toArray, List.set_cons_zero, List.set_cons_succ]
                    refine take_op 7 (v := ?bv7) rfl (by kernel_rfl) (fun _ _ _ h => h) (by rfl) hT0 (fun w' hS' => ?by7) ?bz7
                    case by7 =>
                      have k1 := hV1.out.below hS'.bl lw1
                      have k2 := hV2.out.below hS'.bl lw2
                      have m0 := k1.cell (i := 0) rfl
                      have m1 := k1.cell (i := 1) rfl
                      have m2 := k1.cell (i := 2) rfl
                      have c0 := k2.cell (i := 0) rfl
                      have c1 := k2.cell (i := 1) rfl
                      have c2 := k2.cell (i := 2) rfl
                      have c3 := k2.cell (i := 3) rfl
                      have c4 := k2.cell (i := 4) rfl
                      have q2 := hS'.ko.cell (i := 2) rfl
                      have p2 := hS'.kp.cell (i := 2) rfl
                      have ⟨z1, _⟩ := hS'.atLo hlt
                      have ⟨z2, _⟩ := hS'.atHi hlt
                      clear hS' k1 k2
                      go_simp
                      rfl
                    simp only [List.setIfInBounds_toArray, List.set_cons_zero, List.set_cons_succ]
                    refine take_op 8 (v := ?bv8) rfl (by kernel_rfl) (fun _ _ _ h => h) (by rfl) hT0 (fun w' hS' => ?by8) ?bz8
                    case by8 =>
                      have k1 := hV1.out.below hS'.bl lw1
                      have k2 := hV2.out.below hS'.bl lw2
                      have m0 := k1.cell (i := 0) rfl
                      have m1 := k1.cell (i := 1) rfl
                      have m2 := k1.cell (i := 2) rfl
                      have c0 := k2.cell (i := 0) rfl
                      have c1 := k2.cell (i := 1) rfl
                      have c2 := k2.cell (i := 2) rfl
                      have c3 := k2.cell (i := 3) rfl
                      have c4 := k2.cell (i := 4) rfl
                      have q2 := hS'.ko.cell (i := 2) rfl
                      have p2 := hS'.kp.cell (i := 2) rfl
                      have ⟨z1, _⟩ := hS'.atLo hlt
                      have ⟨z2, _⟩ := hS'.atHi hlt
                      clear hS' k1 k2
                      go_simp
                      rfl
                    simp only [List.setIfInBounds_toArray, List.set_cons_zero, List.set_cons_succ]
                    refine take_op 9 (v := ?bv9) rfl (by kernel_rfl) (fun _ _ _ h => h) (by rfl) hT0 (fun w' hS' => ?by9) ?bz9
                    case by9 =>
                      go_simp
                      rfl
                    simp only [List.setIfInBounds_toArray, List.set_cons_zero, List.set_cons_succ]
                    refine take_op 10 (v := ?bv10) rfl (by kernel_rfl) (fun _ _ _ h => h) (by rfl) hT0 (fun w' hS' => ?by10) ?bz10
                    case by10 =>
                      go_simp
                      rfl
                    simp only [List.setIfInBounds_toArray, List.set_cons_zero, List.set_cons_succ]
                    refine take_op 11 (v := ?bv11) rfl (by kernel_rfl) (fun _ _ _ h => h) (by rfl) hT0 (fun w' hS' => ?by11) ?bz11
                    case by11 =>
                      have k1 := hV1.out.below hS'.bl lw1
                      have k2 := hV2.out.below hS'.bl lw2
                      have m0 := k1.cell (i := 0) rfl
                      have m1 := k1.cell (i := 1) rfl
                      have m2 := k1.cell (i := 2) rfl
                      have c0 := k2.cell (i := 0) rfl
                      have c1 := k2.cell (i := 1) rfl
                      have c2 := k2.cell (i := 2) rfl
                      have c3 := k2.cell (i := 3) rfl
                      have c4 := k2.cell (i := 4) rfl
                      have q2 := hS'.ko.cell (i := 2) rfl
                      have p2 := hS'.kp.cell (i := 2) rfl
                      have ⟨z1, _⟩ := hS'.atLo hlt
                      have ⟨z2, _⟩ := hS'.atHi hlt
                      clear hS' k1 k2
                      go_simp
                      rfl
                    simp only [List.setIfInBounds_toArray, List.set_cons_zero, List.set_cons_succ]
                    refine take_op 12 (v := ?bv12) rfl (by kernel_rfl) (fun _ _ _ h => h) (by rfl) hT0 (fun w' hS' => ?by12) ?bz12
                    case by12 =>
                      go_simp
                      try go_ints
                      rfl
                    simp only [List.setIfInBounds_toArray, List.set_cons_zero, List.set_cons_succ]
                    refine take_op 13 (v := ?bv13) rfl (by kernel_rfl) (fun _ _ _ h => h) (by rfl) hT0 (fun w' hS' => ?by13) ?bz13
                    case by13 =>
                      go_simp
                      rfl
                    simp only [List.setIfInBounds_toArray, List.set_cons_zero, List.set_cons_succ]
                    refine take_op 14 (v := ?bv14) rfl (by kernel_rfl) (fun _ _ _ h => h) (by rfl) hT0 (fun w' hS' => ?by14) ?bz14
                    case by14 =>
                      go_simp
                      rfl
                    simp only [List.setIfInBounds_toArray, List.set_cons_zero, List.set_cons_succ]
                    refine take_op 15 (v := ?bv15) rfl (by kernel_rfl) (fun _ _ _ h => h) (by rfl) hT0 (fun w' hS' => ?by15) ?bz15
                    case by15 =>
                      have k1 := hV1.out.below hS'.bl lw1
                      have k2 := hV2.out.below hS'.bl lw2
                      have m0 := k1.cell (i := 0) rfl
                      have m1 := k1.cell (i := 1) rfl
                      have m2 := k1.cell (i := 2) rfl
                      have c0 := k2.cell (i := 0) rfl
                      have c1 := k2.cell (i := 1) rfl
                      have c2 := k2.cell (i := 2) rfl
                      have c3 := k2.cell (i := 3) rfl
                      have c4 := k2.cell (i := 4) rfl
                      have q2 := hS'.ko.cell (i := 2) rfl
                      have p2 := hS'.kp.cell (i := 2) rfl
                      have ⟨z1, _⟩ := hS'.atLo hlt
                      have ⟨z2, _⟩ := hS'.atHi hlt
                      clear hS' k1 k2
                      go_simp
                      rfl
                    simp only [List.setIfInBounds_toArray, List.set_cons_zero, List.set_cons_succ]
                    refine take_op 16 (v := ?bv16) rfl (by kernel_rfl) (fun _ _ _ h => h) (by rfl) hT0 (fun w' hS' => ?by16) ?bz16
                    case by16 =>
                      go_simp
                      try go_ints
                      rfl
                    simp only [List.setIfInBounds_toArray, List.set_cons_zero, List.set_cons_succ]
                    refine take_op 17 (v := ?bv17) rfl (by kernel_rfl) (fun _ _ _ h => h) (by rfl) hT0 (fun w' hS' => ?by17) ?bz17
                    case by17 =>
                      go_simp
                      rfl
                    simp only [List.setIfInBounds_toArray, List.set_cons_zero, List.set_cons_succ]
                    refine take_op 18 (v := ?bv18) rfl (by kernel_rfl) (fun _ _ _ h => h) (by rfl) hT0 (fun w' hS' => ?by18) ?bz18
                    case by18 =>
                      go_simp
                      rfl
                    simp only [List.setIfInBounds_toArray, List.set_cons_zero, List.set_cons_succ]
                    refine take_op 19 (v := ?bv19) rfl (by kernel_rfl) (fun _ _ _ h => h) (by rfl) hT0 (fun w' hS' => ?by19) ?bz19
                    case by19 =>
                      go_simp
                      rfl
                    simp only [List.setIfInBounds_toArray, List.set_cons_zero, List.set_cons_succ]
                    refine take_op 20 (v := ?bv20) rfl (by kernel_rfl) (fun _ _ _ h => h) (by rfl) hT0 (fun w' hS' => ?by20) ?bz20
                    case by20 =>
                      have k1 := hV1.out.below hS'.bl lw1
                      have k2 := hV2.out.below hS'.bl lw2
                      have m0 := k1.cell (i := 0) rfl
                      have m1 := k1.cell (i := 1) rfl
                      have m2 := k1.cell (i := 2) rfl
                      have c0 := k2.cell (i := 0) rfl
                      have c1 := k2.cell (i := 1) rfl
                      have c2 := k2.cell (i := 2) rfl
                      have c3 := k2.cell (i := 3) rfl
                      have c4 := k2.cell (i := 4) rfl
                      have q2 := hS'.ko.cell (i := 2) rfl
                      have p2 := hS'.kp.cell (i := 2) rfl
                      have ⟨z1, _⟩ := hS'.atLo hlt
                      have ⟨z2, _⟩ := hS'.atHi hlt
                      clear hS' k1 k2
                      go_simp
                      rfl
                    simp only [List.setIfInBounds_toArray, List.set_cons_zero, List.set_cons_succ]
                    refine take_op 21 (v := ?bv21) rfl (by kernel_rfl) (fun _ _ _ h => h) (by rfl) hT0 (fun w' hS' => ?by21) ?bz21
                    case by21 =>
                      go_simp
                      rfl
                    simp only [List.setIfInBounds_toArray, List.set_cons_zero, List.set_cons_succ]
                    refine take_op 22 (v := ?bv22) rfl (by kernel_rfl) (fun _ _ _ h => h) (by rfl) hT0 (fun w' hS' => ?by22) ?bz22
                    case by22 =>
                      have k1 := hV1.out.below hS'.bl lw1
                      have k2 := hV2.out.below hS'.bl lw2
                      have m0 := k1.cell (i := 0) rfl
                      have m1 := k1.cell (i := 1) rfl
                      have m2 := k1.cell (i := 2) rfl
                      have c0 := k2.cell (i := 0) rfl
                      have c1 := k2.cell (i := 1) rfl
                      have c2 := k2.cell (i := 2) rfl
                      have c3 := k2.cell (i := 3) rfl
                      have c4 := k2.cell (i := 4) rfl
                      have q2 := hS'.ko.cell (i := 2) rfl
                      have p2 := hS'.kp.cell (i := 2) rfl
                      have ⟨z1, _⟩ := hS'.atLo hlt
                      have ⟨z2, _⟩ := hS'.atHi hlt
                      clear hS' k1 k2
                      go_simp
                      rfl
                    simp only [List.setIfInBounds_toArray, List.set_cons_zero, List.set_cons_succ]
                    refine take_op 23 (v := ?bv23) rfl (by kernel_rfl) (fun _ _ _ h => h) (by rfl) hT0 (fun w' hS' => ?by23) ?bz23
                    case by23 =>
                      go_simp
                      rfl
                    simp only [List.setIfInBounds_toArray, List.set_cons_zero, List.set_cons_succ]
                    refine take_op 24 (v := ?bv24) rfl (by kernel_rfl) (fun _ _ _ h => h) (by rfl) hT0 (fun w' hS' => ?by24) ?bz24
                    case by24 =>
                      have k1 := hV1.out.below hS'.bl lw1
                      have k2 := hV2.out.below hS'.bl lw2
                      have m0 := k1.cell (i := 0) rfl
                      have m1 := k1.cell (i := 1) rfl
                      have m2 := k1.cell (i := 2) rfl
                      have c0 := k2.cell (i := 0) rfl
                      have c1 := k2.cell (i := 1) rfl
                      have c2 := k2.cell (i := 2) rfl
                      have c3 := k2.cell (i := 3) rfl
                      have c4 := k2.cell (i := 4) rfl
                      have q2 := hS'.ko.cell (i := 2) rfl
                      have p2 := hS'.kp.cell (i := 2) rfl
                      have ⟨z1, _⟩ := hS'.atLo hlt
                      have ⟨z2, _⟩ := hS'.atHi hlt
                      clear hS' k1 k2
                      go_simp
                      rfl
                    simp only [List.setIfInBounds_toArray, List.set_cons_zero, List.set_cons_succ]
                    refine step_op 25 (by kernel_rfl) rfl (fun K hK => ?_)
                    rw [if_pos (by rfl)]
                    go_simp
                    refine (hchH.out _ hT0.bl).mono ?_
                    rintro e Y2 ⟨rfl, hb1⟩
                    have hT1 := hT0.below hb1
                    clear hb1
                    refine hK.out _ _ (fun h => hT1) ?_
                    clear hK K
                    try simp only [Act.put, List.setIfInBounds_toArray, List.set_cons_zero, List.set_cons_succ]
                    refine take_op 26 (v := .int .i64 mH) rfl (by kernel_rfl) (fun _ _ _ h => h) (by rfl) hT1 (fun w' hS' => ?by26) ?bz26
                    case by26 =>
                      go_simp
                      try simp only [hmL, hmH]
                      try rfl
                    simp only [List.setIfInBounds_toArray, List.set_cons_zero, List.set_cons_succ]
                    refine take_op 27 (v := ?bv27) rfl (by kernel_rfl) (fun _ _ _ h => h) (by rfl) hT1 (fun w' hS' => ?by27) ?bz27
                    case by27 =>
                      go_simp
                      try go_ints
                      first
                      | rfl
                      | (rw [if_pos (by omega)]; done)
                      | rw [if_pos ⟨by omega, by omega⟩]
                    simp only [List.setIfInBounds_toArray, List.set_cons_zero, List.set_cons_succ]
                    refine step_op 28 (by kernel_rfl) rfl (fun K hK => ?_)
                    rw [if_pos (by rfl)]
                    have ⟨z2, zf2⟩ := hT1.atHi hlt
                    go_simp
                    refine hK.out _ _ (fun h => absurd h (by omega)) ?_
                    clear hK K
                    try simp only [Act.put, List.setIfInBounds_toArray, List.set_cons_zero, List.set_cons_succ]
                    refine done_ops (by kernel_rfl) ?_
                    have hI3 := hT1.setHi hgne hlt mH
                    go_wp2_with fail
                    go_roundw
                    case rel => exact ⟨k + 1, by omega, by rw [show ((k + 1 : Nat) : Int) - (sn : Int) = (k : Int) - (sn : Int) + 1 by omega], by rw [nLH.out, nHH.out]; exact hI3⟩
                    case measure => simp [intOf]; omega
      have hBV : Below W3.heap.size W3 W3.drew := (Below.refl _ _).drew
      refine plain_region (fun W' => Below W3.heap.size W3 W') 14 14 (by kernel_rfl) rfl ?_
      simp only [Array.replicate_succ, Array.replicate_zero, List.push_toArray, List.nil_append, List.cons_append]
      have hBV' : Below W3.heap.size W3 W3.drew := hBV
      have kf1 := k1
      replace k1 : Blk W3.drew w.heap.size _ _ := k1
      replace k2 : Blk W3.drew A1.heap.size _ _ := k2
      replace r1 : Blk W3.drew A2.heap.size _ _ := r1
      replace r2 : Blk W3.drew A3.heap.size _ _ := r2
      obtain ⟨U0, hU0⟩ : ∃ U, W3.drew = U := ⟨_, rfl⟩
      rw [hU0] at hBV' k1 k2 r1 r2 ⊢
      clear hBV
      have hBV := hBV'
      clear hBV' hU0
      revert hBV k1 k2 r1 r2
      apply cut7 (fun go gp co cp bo bp W => Blk W bo 27 #[.int .i64 0, .int .i64 0, .slice none 0 0] ∧ Blk W bp 27 #[.int .i64 0, .int .i64 0, .slice none 0 0] ∧ W.ownsRow W3.heap.size 3 1 (.slice (some ⟨go, 0, none⟩) (pw * ph) co) (pw * ph) ((List.replicate (pw * ph) 0).map (Value.int .i64)) ∧ W.ownsRow W3.heap.size 3 1 (.slice (some ⟨gp, 0, none⟩) (pw * ph) cp) (pw * ph) ((List.replicate (pw * ph) 0).map (Value.int .i64)) ∧ go ≠ gp ∧ Below W3.heap.size W3 W ∧ Blk W w.heap.size 27 #[.int .i64 (pw : Int), .int .i64 (ph : Int), .slice a n c] ∧ Blk W A1.heap.size 44 #[.int .i64 (sn : Int), .int .i64 gl, .int .i64 gh, .int .i64 off, .int .i64 noi] ∧ Blk W A2.heap.size 27 #[.int .i64 0, .int .i64 0, .slice none 0 0] ∧ Blk W A3.heap.size 27 #[.int .i64 0, .int .i64 0, .slice none 0 0] ∧ W3.heap.size ≤ bo ∧ W3.heap.size ≤ bp ∧ bo ≠ bp)
      case' main => intro key2 r2 r1 k2 k1 hBV
      refine take_op 0 (v := ?q1v) rfl (by kernel_rfl) (fun _ _ _ h => h) (by rfl) hBV (fun w' hS' => ?q1y) ?q1z
      case q1y =>
        go_simp
        rfl
      simp only [List.setIfInBounds_toArray, List.set_cons_zero, List.set_cons_succ]
      refine take_op 1 (v := ?q2v) rfl (by kernel_rfl) (fun _ _ _ h => h) (by rfl) hBV (fun w' hS' => ?q2y) ?q2z
      case q2y =>
        have e0 := (kf1.below hS' lw1).cell (i := 0) rfl
        have e1 := (kf1.below hS' lw1).cell (i := 1) rfl
        clear hS'
        go_simp
        rfl
      simp only [List.setIfInBounds_toArray, List.set_cons_zero, List.set_cons_succ]
      refine take_op 2 (v := ?q3v) rfl (by kernel_rfl) (fun _ _ _ h => h) (by rfl) hBV (fun w' hS' => ?q3y) ?q3z
      case q3y =>
        go_simp
        rfl
      simp only [List.setIfInBounds_toArray, List.set_cons_zero, List.set_cons_succ]
      refine take_op 3 (v := ?q4v) rfl (by kernel_rfl) (fun _ _ _ h => h) (by rfl) hBV (fun w' hS' => ?q4y) ?q4z
      case q4y =>
        have e0 := (kf1.below hS' lw1).cell (i := 0) rfl
        have e1 := (kf1.below hS' lw1).cell (i := 1) rfl
        clear hS'
        go_simp
        rfl
      simp only [List.setIfInBounds_toArray, List.set_cons_zero, List.set_cons_succ]
      refine take_op 5 (v := ?q5v) rfl (by kernel_rfl) (fun _ _ _ h => h) (by rfl) hBV (fun w' hS' => ?q5y) ?q5z
      case q5y =>
        go_simp
        rfl
      simp only [List.setIfInBounds_toArray, List.set_cons_zero, List.set_cons_succ]
      refine take_op 6 (v := ?q6v) rfl (by kernel_rfl) (fun _ _ _ h => h) (by rfl) hBV (fun w' hS' => ?q6y) ?q6z
      case q6y =>
        have e0 := (kf1.below hS' lw1).cell (i := 0) rfl
        have e1 := (kf1.below hS' lw1).cell (i := 1) rfl
        clear hS'
        go_simp
        rfl
      simp only [List.setIfInBounds_toArray, List.set_cons_zero, List.set_cons_succ]
      refine take_op 7 (v := ?q7v) rfl (by kernel_rfl) (fun _ _ _ h => h) (by rfl) hBV (fun w' hS' => ?q7y) ?q7z
      case q7y =>
        go_simp
        rfl
      simp only [List.setIfInBounds_toArray, List.set_cons_zero, List.set_cons_succ]
      refine take_op 8 (v := ?q8v) rfl (by kernel_rfl) (fun _ _ _ h => h) (by rfl) hBV (fun w' hS' => ?q8y) ?q8z
      case q8y =>
        have e0 := (kf1.below hS' lw1).cell (i := 0) rfl
        have e1 := (kf1.below hS' lw1).cell (i := 1) rfl
        clear hS'
        go_simp
        rfl
      simp only [List.setIfInBounds_toArray, List.set_cons_zero, List.set_cons_succ]
      refine fork3 (i := 4) (j := 10) (m := 11) (by kernel_rfl) ?_ ?_ ?_
      · refine step_at 4 rfl (fun K hK => ?_)
        rw [if_pos (by rfl)]
        go_simp
        refine (Blank_any pw ph (by omega) (by omega) _).mono ?_
        rintro e U1 ⟨go, co, rfl, hrow, hgl, hb⟩
        have rowon := row_base hrow hBV.size
        clear hrow
        clear hgl
        replace k1 := k1.below hb k1.lt
        replace k2 := k2.below hb k2.lt
        replace r1 := r1.below hb r1.lt
        replace r2 := r2.below hb r2.lt
        replace hBV := hBV.trans (hb.mono hBV.size)
        clear hb
        have rowo := rowon
        clear rowon
        refine hK.out _ _ (fun h => hBV) ?_
        clear hK K
        try simp only [Act.put, List.setIfInBounds_toArray, List.set_cons_zero, List.set_cons_succ]
        refine fork3 (i := 9) (j := 10) (m := 11) (by kernel_rfl) ?_ ?_ ?_
        · refine step_at 9 rfl (fun K hK => ?_)
          rw [if_pos (by rfl)]
          go_simp
          refine (Blank_any pw ph (by omega) (by omega) _).mono ?_
          rintro e U2 ⟨gp, cp, rfl, hrow, hgl, hb⟩
          have rowpn := row_base hrow hBV.size
          clear hrow
          have hgne : go ≠ gp := by have := row_lt2 rowo; omega
          clear hgl
          replace k1 := k1.below hb k1.lt
          replace k2 := k2.below hb k2.lt
          replace r1 := r1.below hb r1.lt
          replace r2 := r2.below hb r2.lt
          replace rowo := row_below rowo hb
          replace hBV := hBV.trans (hb.mono hBV.size)
          clear hb
          have rowp := rowpn
          clear rowpn
          refine hK.out _ _ (fun h => hBV) ?_
          clear hK K
          try simp only [Act.put, List.setIfInBounds_toArray, List.set_cons_zero, List.set_cons_succ]
          refine fork2 (i := 10) (j := 11) (by kernel_rfl) ?_ ?_
          · refine step_at 10 rfl (fun K hK => ?_)
            rw [if_pos (by rfl)]
            go_simp
            have kon := Blk.new U2 27 #[.int .i64 0, .int .i64 0, .slice none 0 0]
            obtain ⟨bo, hbo⟩ : ∃ b, U2.heap.size = b := ⟨_, rfl⟩
            obtain ⟨U3, hW⟩ : ∃ W2, U2.alloc (.cells #[.int .i64 0, .int .i64 0, .slice none 0 0] 27) = W2 := ⟨_, rfl⟩
            have hb : Below U2.heap.size U2 U3 := alloc_below hW
            rw [hW] at kon ⊢
            rw [hbo] at kon ⊢
            have hlko := hBV.size
            rw [hbo] at hlko
            replace k1 := k1.below hb k1.lt
            replace k2 := k2.below hb k2.lt
            replace r1 := r1.below hb r1.lt
            replace r2 := r2.below hb r2.lt
            replace rowo := row_below rowo hb
            replace rowp := row_below rowp hb
            replace hBV := hBV.trans (hb.mono hBV.size)
            clear hb
            have ko := kon
            clear kon hW hbo
            refine hK.out _ _ (fun h => hBV) ?_
            clear hK K
            try simp only [Act.put, List.setIfInBounds_toArray, List.set_cons_zero, List.set_cons_succ]
            refine step_op 11 (by kernel_rfl) rfl (fun K hK => ?_)
            rw [if_pos (by rfl)]
            go_simp
            have kpn := Blk.new U3 27 #[.int .i64 0, .int .i64 0, .slice none 0 0]
            obtain ⟨bp, hbo⟩ : ∃ b, U3.heap.size = b := ⟨_, rfl⟩
            obtain ⟨U4, hW⟩ : ∃ W2, U3.alloc (.cells #[.int .i64 0, .int .i64 0, .slice none 0 0] 27) = W2 := ⟨_, rfl⟩
            have hb : Below U3.heap.size U3 U4 := alloc_below hW
            rw [hW] at kpn ⊢
            rw [hbo] at kpn ⊢
            have hlkp := hBV.size
            rw [hbo] at hlkp
            have hlne := ko.lt
            rw [hbo] at hlne
            have hne : bo ≠ bp := by omega
            clear hlne
            replace k1 := k1.below hb k1.lt
            replace k2 := k2.below hb k2.lt
            replace r1 := r1.below hb r1.lt
            replace r2 := r2.below hb r2.lt
            replace ko := ko.below hb ko.lt
            replace rowo := row_below rowo hb
            replace rowp := row_below rowp hb
            replace hBV := hBV.trans (hb.mono hBV.size)
            clear hb
            have kp := kpn
            clear kpn hW hbo
            refine hK.out _ _ (fun h => hBV) ?_
            clear hK K
            try simp only [Act.put, List.setIfInBounds_toArray, List.set_cons_zero, List.set_cons_succ]
            exact key2 go gp co cp bo bp U4 ⟨ko, kp, rowo, rowp, hgne, hBV, k1, k2, r1, r2, hlko, hlkp, hne⟩
          · refine step_at 11 rfl (fun K hK => ?_)
            rw [if_pos (by rfl)]
            go_simp
            have kpn := Blk.new U2 27 #[.int .i64 0, .int .i64 0, .slice none 0 0]
            obtain ⟨bp, hbo⟩ : ∃ b, U2.heap.size = b := ⟨_, rfl⟩
            obtain ⟨U3, hW⟩ : ∃ W2, U2.alloc (.cells #[.int .i64 0, .int .i64 0, .slice none 0 0] 27) = W2 := ⟨_, rfl⟩
            have hb : Below U2.heap.size U2 U3 := alloc_below hW
            rw [hW] at kpn ⊢
            rw [hbo] at kpn ⊢
            have hlkp := hBV.size
            rw [hbo] at hlkp
            replace k1 := k1.below hb k1.lt
            replace k2 := k2.below hb k2.lt
            replace r1 := r1.below hb r1.lt
            replace r2 := r2.below hb r2.lt
            replace rowo := row_below rowo hb
            replace rowp := row_below rowp hb
            replace hBV := hBV.trans (hb.mono hBV.size)
            clear hb
            have kp := kpn
            clear kpn hW hbo
            refine hK.out _ _ (fun h => hBV) ?_
            clear hK K
            try simp only [Act.put, List.setIfInBounds_toArray, List.set_cons_zero, List.set_cons_succ]
            refine step_op 10 (by kernel_rfl) rfl (fun K hK => ?_)
            rw [if_pos (by rfl)]
            go_simp
            have kon := Blk.new U3 27 #[.int .i64 0, .int .i64 0, .slice none 0 0]
            obtain ⟨bo, hbo⟩ : ∃ b, U3.heap.size = b := ⟨_, rfl⟩
            obtain ⟨U4, hW⟩ : ∃ W2, U3.alloc (.cells #[.int .i64 0, .int .i64 0, .slice none 0 0] 27) = W2 := ⟨_, rfl⟩
            have hb : Below U3.heap.size U3 U4 := alloc_below hW
            rw [hW] at kon ⊢
            rw [hbo] at kon ⊢
            have hlko := hBV.size
            rw [hbo] at hlko
            have hlne := kp.lt
            rw [hbo] at hlne
            have hne : bo ≠ bp := by omega
            clear hlne
            replace k1 := k1.below hb k1.lt
            replace k2 := k2.below hb k2.lt
            replace r1 := r1.below hb r1.lt
            replace r2 := r2.below hb r2.lt
            replace kp := kp.below hb kp.lt
            replace rowo := row_below rowo hb
            replace rowp := row_below rowp hb
            replace hBV := hBV.trans (hb.mono hBV.size)
            clear hb
            have ko := kon
            clear kon hW hbo
            refine hK.out _ _ (fun h => hBV) ?_
            clear hK K
            try simp only [Act.put, List.setIfInBounds_toArray, List.set_cons_zero, List.set_cons_succ]
            exact key2 go gp co cp bo bp U4 ⟨ko, kp, rowo, rowp, hgne, hBV, k1, k2, r1, r2, hlko, hlkp, hne⟩
        · refine step_at 10 rfl (fun K hK => ?_)
          rw [if_pos (by rfl)]
          go_simp
          have kon := Blk.new U1 27 #[.int .i64 0, .int .i64 0, .slice none 0 0]
          obtain ⟨bo, hbo⟩ : ∃ b, U1.heap.size = b := ⟨_, rfl⟩
          obtain ⟨U2, hW⟩ : ∃ W2, U1.alloc (.cells #[.int .i64 0, .int .i64 0, .slice none 0 0] 27) = W2 := ⟨_, rfl⟩
          have hb : Below U1.heap.size U1 U2 := alloc_below hW
          rw [hW] at kon ⊢
          rw [hbo] at kon ⊢
          have hlko := hBV.size
          rw [hbo] at hlko
          replace k1 := k1.below hb k1.lt
          replace k2 := k2.below hb k2.lt
          replace r1 := r1.below hb r1.lt
          replace r2 := r2.below hb r2.lt
          replace rowo := row_below rowo hb
          replace hBV := hBV.trans (hb.mono hBV.size)
          clear hb
          have ko := kon
          clear kon hW hbo
          refine hK.out _ _ (fun h => hBV) ?_
          clear hK K
          try simp only [Act.put, List.setIfInBounds_toArray, List.set_cons_zero, List.set_cons_succ]
          refine fork2 (i := 9) (j := 11) (by kernel_rfl) ?_ ?_
          · refine step_at 9 rfl (fun K hK => ?_)
            rw [if_pos (by rfl)]
            go_simp
            refine (Blank_any pw ph (by omega) (by omega) _).mono ?_
            rintro e U3 ⟨gp, cp, rfl, hrow, hgl, hb⟩
            have rowpn := row_base hrow hBV.size
            clear hrow
            have hgne : go ≠ gp := by have := row_lt2 rowo; omega
            clear hgl
            replace k1 := k1.below hb k1.lt
            replace k2 := k2.below hb k2.lt
            replace r1 := r1.below hb r1.lt
            replace r2 := r2.below hb r2.lt
            replace ko := ko.below hb ko.lt
            replace rowo := row_below rowo hb
            replace hBV := hBV.trans (hb.mono hBV.size)
            clear hb
            have rowp := rowpn
            clear rowpn
            refine hK.out _ _ (fun h => hBV) ?_
            clear hK K
            try simp only [Act.put, List.setIfInBounds_toArray, List.set_cons_zero, List.set_cons_succ]
            refine step_op 11 (by kernel_rfl) rfl (fun K hK => ?_)
            rw [if_pos (by rfl)]
            go_simp
            have kpn := Blk.new U3 27 #[.int .i64 0, .int .i64 0, .slice none 0 0]
            obtain ⟨bp, hbo⟩ : ∃ b, U3.heap.size = b := ⟨_, rfl⟩
            obtain ⟨U4, hW⟩ : ∃ W2, U3.alloc (.cells #[.int .i64 0, .int .i64 0, .slice none 0 0] 27) = W2 := ⟨_, rfl⟩
            have hb : Below U3.heap.size U3 U4 := alloc_below hW
            rw [hW] at kpn ⊢
            rw [hbo] at kpn ⊢
            have hlkp := hBV.size
            rw [hbo] at hlkp
            have hlne := ko.lt
            rw [hbo] at hlne
            have hne : bo ≠ bp := by omega
            clear hlne
            replace k1 := k1.below hb k1.lt
            replace k2 := k2.below hb k2.lt
            replace r1 := r1.below hb r1.lt
            replace r2 := r2.below hb r2.lt
            replace ko := ko.below hb ko.lt
            replace rowo := row_below rowo hb
            replace rowp := row_below rowp hb
            replace hBV := hBV.trans (hb.mono hBV.size)
            clear hb
            have kp := kpn
            clear kpn hW hbo
            refine hK.out _ _ (fun h => hBV) ?_
            clear hK K
            try simp only [Act.put, List.setIfInBounds_toArray, List.set_cons_zero, List.set_cons_succ]
            exact key2 go gp co cp bo bp U4 ⟨ko, kp, rowo, rowp, hgne, hBV, k1, k2, r1, r2, hlko, hlkp, hne⟩
          · refine step_at 11 rfl (fun K hK => ?_)
            rw [if_pos (by rfl)]
            go_simp
            have kpn := Blk.new U2 27 #[.int .i64 0, .int .i64 0, .slice none 0 0]
            obtain ⟨bp, hbo⟩ : ∃ b, U2.heap.size = b := ⟨_, rfl⟩
            obtain ⟨U3, hW⟩ : ∃ W2, U2.alloc (.cells #[.int .i64 0, .int .i64 0, .slice none 0 0] 27) = W2 := ⟨_, rfl⟩
            have hb : Below U2.heap.size U2 U3 := alloc_below hW
            rw [hW] at kpn ⊢
            rw [hbo] at kpn ⊢
            have hlkp := hBV.size
            rw [hbo] at hlkp
            have hlne := ko.lt
            rw [hbo] at hlne
            have hne : bo ≠ bp := by omega
            clear hlne
            replace k1 := k1.below hb k1.lt
            replace k2 := k2.below hb k2.lt
            replace r1 := r1.below hb r1.lt
            replace r2 := r2.below hb r2.lt
            replace ko := ko.below hb ko.lt
            replace rowo := row_below rowo hb
            replace hBV := hBV.trans (hb.mono hBV.size)
            clear hb
            have kp := kpn
            clear kpn hW hbo
            refine hK.out _ _ (fun h => hBV) ?_
            clear hK K
            try simp only [Act.put, List.setIfInBounds_toArray, List.set_cons_zero, List.set_cons_succ]
            refine step_op 9 (by kernel_rfl) rfl (fun K hK => ?_)
            rw [if_pos (by rfl)]
            go_simp
            refine (Blank_any pw ph (by omega) (by omega) _).mono ?_
            rintro e U4 ⟨gp, cp, rfl, hrow, hgl, hb⟩
            have rowpn := row_base hrow hBV.size
            clear hrow
            have hgne : go ≠ gp := by have := row_lt2 rowo; omega
            clear hgl
            replace k1 := k1.below hb k1.lt
            replace k2 := k2.below hb k2.lt
            replace r1 := r1.below hb r1.lt
            replace r2 := r2.below hb r2.lt
            replace ko := ko.below hb ko.lt
            replace kp := kp.below hb kp.lt
            replace rowo := row_below rowo hb
            replace hBV := hBV.trans (hb.mono hBV.size)
            clear hb
            have rowp := rowpn
            clear rowpn
            refine hK.out _ _ (fun h => hBV) ?_
            clear hK K
            try simp only [Act.put, List.setIfInBounds_toArray, List.set_cons_zero, List.set_cons_succ]
            exact key2 go gp co cp bo bp U4 ⟨ko, kp, rowo, rowp, hgne, hBV, k1, k2, r1, r2, hlko, hlkp, hne⟩
        · refine step_at 11 rfl (fun K hK => ?_)
          rw [if_pos (by rfl)]
          go_simp
          have kpn := Blk.new U1 27 #[.int .i64 0, .int .i64 0, .slice none 0 0]
          obtain ⟨bp, hbo⟩ : ∃ b, U1.heap.size = b := ⟨_, rfl⟩
          obtain ⟨U2, hW⟩ : ∃ W2, U1.alloc (.cells #[.int .i64 0, .int .i64 0, .slice none 0 0] 27) = W2 := ⟨_, rfl⟩
          have hb : Below U1.heap.size U1 U2 := alloc_below hW
          rw [hW] at kpn ⊢
          rw [hbo] at kpn ⊢
          have hlkp := hBV.size
          rw [hbo] at hlkp
          replace k1 := k1.below hb k1.lt
          replace k2 := k2.below hb k2.lt
          replace r1 := r1.below hb r1.lt
          replace r2 := r2.below hb r2.lt
          replace rowo := row_below rowo hb
          replace hBV := hBV.trans (hb.mono hBV.size)
          clear hb
          have kp := kpn
          clear kpn hW hbo
          refine hK.out _ _ (fun h => hBV) ?_
          clear hK K
          try simp only [Act.put, List.setIfInBounds_toArray, List.set_cons_zero, List.set_cons_succ]
          refine fork2 (i := 9) (j := 10) (by kernel_rfl) ?_ ?_
          · refine step_at 9 rfl (fun K hK => ?_)
            rw [if_pos (by rfl)]
            go_simp
            refine (Blank_any pw ph (by omega) (by omega) _).mono ?_
            rintro e U3 ⟨gp, cp, rfl, hrow, hgl, hb⟩
            have rowpn := row_base hrow hBV.size
            clear hrow
            have hgne : go ≠ gp := by have := row_lt2 rowo; omega
            clear hgl
            replace k1 := k1.below hb k1.lt
            replace k2 := k2.below hb k2.lt
            replace r1 := r1.below hb r1.lt
            replace r2 := r2.below hb r2.lt
            replace kp := kp.below hb kp.lt
            replace rowo := row_below rowo hb
            replace hBV := hBV.trans (hb.mono hBV.size)
            clear hb
            have rowp := rowpn
            clear rowpn
            refine hK.out _ _ (fun h => hBV) ?_
            clear hK K
            try simp only [Act.put, List.setIfInBounds_toArray, List.set_cons_zero, List.set_cons_succ]
            refine step_op 10 (by kernel_rfl) rfl (fun K hK => ?_)
            rw [if_pos (by rfl)]
            go_simp
            have kon := Blk.new U3 27 #[.int .i64 0, .int .i64 0, .slice none 0 0]
            obtain ⟨bo, hbo⟩ : ∃ b, U3.heap.size = b := ⟨_, rfl⟩
            obtain ⟨U4, hW⟩ : ∃ W2, U3.alloc (.cells #[.int .i64 0, .int .i64 0, .slice none 0 0] 27) = W2 := ⟨_, rfl⟩
            have hb : Below U3.heap.size U3 U4 := alloc_below hW
            rw [hW] at kon ⊢
            rw [hbo] at kon ⊢
            have hlko := hBV.size
            rw [hbo] at hlko
            have hlne := kp.lt
            rw [hbo] at hlne
            have hne : bo ≠ bp := by omega
            clear hlne
            replace k1 := k1.below hb k1.lt
            replace k2 := k2.below hb k2.lt
            replace r1 := r1.below hb r1.lt
            replace r2 := r2.below hb r2.lt
            replace kp := kp.below hb kp.lt
            replace rowo := row_below rowo hb
            replace rowp := row_below rowp hb
            replace hBV := hBV.trans (hb.mono hBV.size)
            clear hb
            have ko := kon
            clear kon hW hbo
            refine hK.out _ _ (fun h => hBV) ?_
            clear hK K
            try simp only [Act.put, List.setIfInBounds_toArray, List.set_cons_zero, List.set_cons_succ]
            exact key2 go gp co cp bo bp U4 ⟨ko, kp, rowo, rowp, hgne, hBV, k1, k2, r1, r2, hlko, hlkp, hne⟩
          · refine step_at 10 rfl (fun K hK => ?_)
            rw [if_pos (by rfl)]
            go_simp
            have kon := Blk.new U2 27 #[.int .i64 0, .int .i64 0, .slice none 0 0]
            obtain ⟨bo, hbo⟩ : ∃ b, U2.heap.size = b := ⟨_, rfl⟩
            obtain ⟨U3, hW⟩ : ∃ W2, U2.alloc (.cells #[.int .i64 0, .int .i64 0, .slice none 0 0] 27) = W2 := ⟨_, rfl⟩
            have hb : Below U2.heap.size U2 U3 := alloc_below hW
            rw [hW] at kon ⊢
            rw [hbo] at kon ⊢
            have hlko := hBV.size
            rw [hbo] at hlko
            have hlne := kp.lt
            rw [hbo] at hlne
            have hne : bo ≠ bp := by omega
            clear hlne
            replace k1 := k1.below hb k1.lt
            replace k2 := k2.below hb k2.lt
            replace r1 := r1.below hb r1.lt
            replace r2 := r2.below hb r2.lt
            replace kp := kp.below hb kp.lt
            replace rowo := row_below rowo hb
            replace hBV := hBV.trans (hb.mono hBV.size)
            clear hb
            have ko := kon
            clear kon hW hbo
            refine hK.out _ _ (fun h => hBV) ?_
            clear hK K
            try simp only [Act.put, List.setIfInBounds_toArray, List.set_cons_zero, List.set_cons_succ]
            refine step_op 9 (by kernel_rfl) rfl (fun K hK => ?_)
            rw [if_pos (by rfl)]
            go_simp
            refine (Blank_any pw ph (by omega) (by omega) _).mono ?_
            rintro e U4 ⟨gp, cp, rfl, hrow, hgl, hb⟩
            have rowpn := row_base hrow hBV.size
            clear hrow
            have hgne : go ≠ gp := by have := row_lt2 rowo; omega
            clear hgl
            replace k1 := k1.below hb k1.lt
            replace k2 := k2.below hb k2.lt
            replace r1 := r1.below hb r1.lt
            replace r2 := r2.below hb r2.lt
            replace ko := ko.below hb ko.lt
            replace kp := kp.below hb kp.lt
            replace rowo := row_below rowo hb
            replace hBV := hBV.trans (hb.mono hBV.size)
            clear hb
            have rowp := rowpn
            clear rowpn
            refine hK.out _ _ (fun h => hBV) ?_
            clear hK K
            try simp only [Act.put, List.setIfInBounds_toArray, List.set_cons_zero, List.set_cons_succ]
            exact key2 go gp co cp bo bp U4 ⟨ko, kp, rowo, rowp, hgne, hBV, k1, k2, r1, r2, hlko, hlkp, hne⟩
      · refine step_at 10 rfl (fun K hK => ?_)
        rw [if_pos (by rfl)]
        go_simp
        have kon := Blk.new U0 27 #[.int .i64 0, .int .i64 0, .slice none 0 0]
        obtain ⟨bo, hbo⟩ : ∃ b, U0.heap.size = b := ⟨_, rfl⟩
        obtain ⟨U1, hW⟩ : ∃ W2, U0.alloc (.cells #[.int .i64 0, .int .i64 0, .slice none 0 0] 27) = W2 := ⟨_, rfl⟩
        have hb : Below U0.heap.size U0 U1 := alloc_below hW
        rw [hW] at kon ⊢
        rw [hbo] at kon ⊢
        have hlko := hBV.size
        rw [hbo] at hlko
        replace k1 := k1.below hb k1.lt
        replace k2 := k2.below hb k2.lt
        replace r1 := r1.below hb r1.lt
        replace r2 := r2.below hb r2.lt
        replace hBV := hBV.trans (hb.mono hBV.size)
        clear hb
        have ko := kon
        clear kon hW hbo
        refine hK.out _ _ (fun h => hBV) ?_
        clear hK K
        try simp only [Act.put, List.setIfInBounds_toArray, List.set_cons_zero, List.set_cons_succ]
        refine fork2 (i := 4) (j := 11) (by kernel_rfl) ?_ ?_
        · refine step_at 4 rfl (fun K hK => ?_)
          rw [if_pos (by rfl)]
          go_simp
          refine (Blank_any pw ph (by omega) (by omega) _).mono ?_
          rintro e U2 ⟨go, co, rfl, hrow, hgl, hb⟩
          have rowon := row_base hrow hBV.size
          clear hrow
          clear hgl
          replace k1 := k1.below hb k1.lt
          replace k2 := k2.below hb k2.lt
          replace r1 := r1.below hb r1.lt
          replace r2 := r2.below hb r2.lt
          replace ko := ko.below hb ko.lt
          replace hBV := hBV.trans (hb.mono hBV.size)
          clear hb
          have rowo := rowon
          clear rowon
          refine hK.out _ _ (fun h => hBV) ?_
          clear hK K
          try simp only [Act.put, List.setIfInBounds_toArray, List.set_cons_zero, List.set_cons_succ]
          refine fork2 (i := 9) (j := 11) (by kernel_rfl) ?_ ?_
          · refine step_at 9 rfl (fun K hK => ?_)
            rw [if_pos (by rfl)]
            go_simp
            refine (Blank_any pw ph (by omega) (by omega) _).mono ?_
            rintro e U3 ⟨gp, cp, rfl, hrow, hgl, hb⟩
            have rowpn := row_base hrow hBV.size
            clear hrow
            have hgne : go ≠ gp := by have := row_lt2 rowo; omega
            clear hgl
            replace k1 := k1.below hb k1.lt
            replace k2 := k2.below hb k2.lt
            replace r1 := r1.below hb r1.lt
            replace r2 := r2.below hb r2.lt
            replace ko := ko.below hb ko.lt
            replace rowo := row_below rowo hb
            replace hBV := hBV.trans (hb.mono hBV.size)
            clear hb
            have rowp := rowpn
            clear rowpn
            refine hK.out _ _ (fun h => hBV) ?_
            clear hK K
            try simp only [Act.put, List.setIfInBounds_toArray, List.set_cons_zero, List.set_cons_succ]
            refine step_op 11 (by kernel_rfl) rfl (fun K hK => ?_)
            rw [if_pos (by rfl)]
            go_simp
            have kpn := Blk.new U3 27 #[.int .i64 0, .int .i64 0, .slice none 0 0]
            obtain ⟨bp, hbo⟩ : ∃ b, U3.heap.size = b := ⟨_, rfl⟩
            obtain ⟨U4, hW⟩ : ∃ W2, U3.alloc (.cells #[.int .i64 0, .int .i64 0, .slice none 0 0] 27) = W2 := ⟨_, rfl⟩
            have hb : Below U3.heap.size U3 U4 := alloc_below hW
            rw [hW] at kpn ⊢
            rw [hbo] at kpn ⊢
            have hlkp := hBV.size
            rw [hbo] at hlkp
            have hlne := ko.lt
            rw [hbo] at hlne
            have hne : bo ≠ bp := by omega
            clear hlne
            replace k1 := k1.below hb k1.lt
            replace k2 := k2.below hb k2.lt
            replace r1 := r1.below hb r1.lt
            replace r2 := r2.below hb r2.lt
            replace ko := ko.below hb ko.lt
            replace rowo := row_below rowo hb
            replace rowp := row_below rowp hb
            replace hBV := hBV.trans (hb.mono hBV.size)
            clear hb
            have kp := kpn
            clear kpn hW hbo
            refine hK.out _ _ (fun h => hBV) ?_
            clear hK K
            try simp only [Act.put, List.setIfInBounds_toArray, List.set_cons_zero, List.set_cons_succ]
            exact key2 go gp co cp bo bp U4 ⟨ko, kp, rowo, rowp, hgne, hBV, k1, k2, r1, r2, hlko, hlkp, hne⟩
          · refine step_at 11 rfl (fun K hK => ?_)
            rw [if_pos (by rfl)]
            go_simp
            have kpn := Blk.new U2 27 #[.int .i64 0, .int .i64 0, .slice none 0 0]
            obtain ⟨bp, hbo⟩ : ∃ b, U2.heap.size = b := ⟨_, rfl⟩
            obtain ⟨U3, hW⟩ : ∃ W2, U2.alloc (.cells #[.int .i64 0, .int .i64 0, .slice none 0 0] 27) = W2 := ⟨_, rfl⟩
            have hb : Below U2.heap.size U2 U3 := alloc_below hW
            rw [hW] at kpn ⊢
            rw [hbo] at kpn ⊢
            have hlkp := hBV.size
            rw [hbo] at hlkp
            have hlne := ko.lt
            rw [hbo] at hlne
            have hne : bo ≠ bp := by omega
            clear hlne
            replace k1 := k1.below hb k1.lt
            replace k2 := k2.below hb k2.lt
            replace r1 := r1.below hb r1.lt
            replace r2 := r2.below hb r2.lt
            replace ko := ko.below hb ko.lt
            replace rowo := row_below rowo hb
            replace hBV := hBV.trans (hb.mono hBV.size)
            clear hb
            have kp := kpn
            clear kpn hW hbo
            refine hK.out _ _ (fun h => hBV) ?_
            clear hK K
            try simp only [Act.put, List.setIfInBounds_toArray, List.set_cons_zero, List.set_cons_succ]
            refine step_op 9 (by kernel_rfl) rfl (fun K hK => ?_)
            rw [if_pos (by rfl)]
            go_simp
            refine (Blank_any pw ph (by omega) (by omega) _).mono ?_
            rintro e U4 ⟨gp, cp, rfl, hrow, hgl, hb⟩
            have rowpn := row_base hrow hBV.size
            clear hrow
            have hgne : go ≠ gp := by have := row_lt2 rowo; omega
            clear hgl
            replace k1 := k1.below hb k1.lt
            replace k2 := k2.below hb k2.lt
            replace r1 := r1.below hb r1.lt
            replace r2 := r2.below hb r2.lt
            replace ko := ko.below hb ko.lt
            replace kp := kp.below hb kp.lt
            replace rowo := row_below rowo hb
            replace hBV := hBV.trans (hb.mono hBV.size)
            clear hb
            have rowp := rowpn
            clear rowpn
            refine hK.out _ _ (fun h => hBV) ?_
            clear hK K
            try simp only [Act.put, List.setIfInBounds_toArray, List.set_cons_zero, List.set_cons_succ]
            exact key2 go gp co cp bo bp U4 ⟨ko, kp, rowo, rowp, hgne, hBV, k1, k2, r1, r2, hlko, hlkp, hne⟩
        · refine step_at 11 rfl (fun K hK => ?_)
          rw [if_pos (by rfl)]
          go_simp
          have kpn := Blk.new U1 27 #[.int .i64 0, .int .i64 0, .slice none 0 0]
          obtain ⟨bp, hbo⟩ : ∃ b, U1.heap.size = b := ⟨_, rfl⟩
          obtain ⟨U2, hW⟩ : ∃ W2, U1.alloc (.cells #[.int .i64 0, .int .i64 0, .slice none 0 0] 27) = W2 := ⟨_, rfl⟩
          have hb : Below U1.heap.size U1 U2 := alloc_below hW
          rw [hW] at kpn ⊢
          rw [hbo] at kpn ⊢
          have hlkp := hBV.size
          rw [hbo] at hlkp
          have hlne := ko.lt
          rw [hbo] at hlne
          have hne : bo ≠ bp := by omega
          clear hlne
          replace k1 := k1.below hb k1.lt
          replace k2 := k2.below hb k2.lt
          replace r1 := r1.below hb r1.lt
          replace r2 := r2.below hb r2.lt
          replace ko := ko.below hb ko.lt
          replace hBV := hBV.trans (hb.mono hBV.size)
          clear hb
          have kp := kpn
          clear kpn hW hbo
          refine hK.out _ _ (fun h => hBV) ?_
          clear hK K
          try simp only [Act.put, List.setIfInBounds_toArray, List.set_cons_zero, List.set_cons_succ]
          refine step_op 4 (by kernel_rfl) rfl (fun K hK => ?_)
          rw [if_pos (by rfl)]
          go_simp
          refine (Blank_any pw ph (by omega) (by omega) _).mono ?_
          rintro e U3 ⟨go, co, rfl, hrow, hgl, hb⟩
          have rowon := row_base hrow hBV.size
          clear hrow
          clear hgl
          replace k1 := k1.below hb k1.lt
          replace k2 := k2.below hb k2.lt
          replace r1 := r1.below hb r1.lt
          replace r2 := r2.below hb r2.lt
          replace ko := ko.below hb ko.lt
          replace kp := kp.below hb kp.lt
          replace hBV := hBV.trans (hb.mono hBV.size)
          clear hb
          have rowo := rowon
          clear rowon
          refine hK.out _ _ (fun h => hBV) ?_
          clear hK K
          try simp only [Act.put, List.setIfInBounds_toArray, List.set_cons_zero, List.set_cons_succ]
          refine step_op 9 (by kernel_rfl) rfl (fun K hK => ?_)
          rw [if_pos (by rfl)]
          go_simp
          refine (Blank_any pw ph (by omega) (by omega) _).mono ?_
          rintro e U4 ⟨gp, cp, rfl, hrow, hgl, hb⟩
          have rowpn := row_base hrow hBV.size
          clear hrow
          have hgne : go ≠ gp := by have := row_lt2 rowo; omega
          clear hgl
          replace k1 := k1.below hb k1.lt
          replace k2 := k2.below hb k2.lt
          replace r1 := r1.below hb r1.lt
          replace r2 := r2.below hb r2.lt
          replace ko := ko.below hb ko.lt
          replace kp := kp.below hb kp.lt
          replace rowo := row_below rowo hb
          replace hBV := hBV.trans (hb.mono hBV.size)
          clear hb
          have rowp := rowpn
          clear rowpn
          refine hK.out _ _ (fun h => hBV) ?_
          clear hK K
          try simp only [Act.put, List.setIfInBounds_toArray, List.set_cons_zero, List.set_cons_succ]
          exact key2 go gp co cp bo bp U4 ⟨ko, kp, rowo, rowp, hgne, hBV, k1, k2, r1, r2, hlko, hlkp, hne⟩
      · refine step_at 11 rfl (fun K hK => ?_)
        rw [if_pos (by rfl)]
        go_simp
        have kpn := Blk.new U0 27 #[.int .i64 0, .int .i64 0, .slice none 0 0]
        obtain ⟨bp, hbo⟩ : ∃ b, U0.heap.size = b := ⟨_, rfl⟩
        obtain ⟨U1, hW⟩ : ∃ W2, U0.alloc (.cells #[.int .i64 0, .int .i64 0, .slice none 0 0] 27) = W2 := ⟨_, rfl⟩
        have hb : Below U0.heap.size U0 U1 := alloc_below hW
        rw [hW] at kpn ⊢
        rw [hbo] at kpn ⊢
        have hlkp := hBV.size
        rw [hbo] at hlkp
        replace k1 := k1.below hb k1.lt
        replace k2 := k2.below hb k2.lt
        replace r1 := r1.below hb r1.lt
        replace r2 := r2.below hb r2.lt
        replace hBV := hBV.trans (hb.mono hBV.size)
        clear hb
        have kp := kpn
        clear kpn hW hbo
        refine hK.out _ _ (fun h => hBV) ?_
        clear hK K
        try simp only [Act.put, List.setIfInBounds_toArray, List.set_cons_zero, List.set_cons_succ]
        refine fork2 (i := 4) (j := 10) (by kernel_rfl) ?_ ?_
        · refine step_at 4 rfl (fun K hK => ?_)
          rw [if_pos (by rfl)]
          go_simp
          refine (Blank_any pw ph (by omega) (by omega) _).mono ?_
          rintro e U2 ⟨go, co, rfl, hrow, hgl, hb⟩
          have rowon := row_base hrow hBV.size
          clear hrow
          clear hgl
          replace k1 := k1.below hb k1.lt
          replace k2 := k2.below hb k2.lt
          replace r1 := r1.below hb r1.lt
          replace r2 := r2.below hb r2.lt
          replace kp := kp.below hb kp.lt
          replace hBV := hBV.trans (hb.mono hBV.size)
          clear hb
          have rowo := rowon
          clear rowon
          refine hK.out _ _ (fun h => hBV) ?_
          clear hK K
          try simp only [Act.put, List.setIfInBounds_toArray, List.set_cons_zero, List.set_cons_succ]
          refine fork2 (i := 9) (j := 10) (by kernel_rfl) ?_ ?_
          · refine step_at 9 rfl (fun K hK => ?_)
            rw [if_pos (by rfl)]
            go_simp
            refine (Blank_any pw ph (by omega) (by omega) _).mono ?_
            rintro e U3 ⟨gp, cp, rfl, hrow, hgl, hb⟩
            have rowpn := row_base hrow hBV.size
            clear hrow
            have hgne : go ≠ gp := by have := row_lt2 rowo; omega
            clear hgl
            replace k1 := k1.below hb k1.lt
            replace k2 := k2.below hb k2.lt
            replace r1 := r1.below hb r1.lt
            replace r2 := r2.below hb r2.lt
            replace kp := kp.below hb kp.lt
            replace rowo := row_below rowo hb
            replace hBV := hBV.trans (hb.mono hBV.size)
            clear hb
            have rowp := rowpn
            clear rowpn
            refine hK.out _ _ (fun h => hBV) ?_
            clear hK K
            try simp only [Act.put, List.setIfInBounds_toArray, List.set_cons_zero, List.set_cons_succ]
            refine step_op 10 (by kernel_rfl) rfl (fun K hK => ?_)
            rw [if_pos (by rfl)]
            go_simp
            have kon := Blk.new U3 27 #[.int .i64 0, .int .i64 0, .slice none 0 0]
            obtain ⟨bo, hbo⟩ : ∃ b, U3.heap.size = b := ⟨_, rfl⟩
            obtain ⟨U4, hW⟩ : ∃ W2, U3.alloc (.cells #[.int .i64 0, .int .i64 0, .slice none 0 0] 27) = W2 := ⟨_, rfl⟩
            have hb : Below U3.heap.size U3 U4 := alloc_below hW
            rw [hW] at kon ⊢
            rw [hbo] at kon ⊢
            have hlko := hBV.size
            rw [hbo] at hlko
            have hlne := kp.lt
            rw [hbo] at hlne
            have hne : bo ≠ bp := by omega
            clear hlne
            replace k1 := k1.below hb k1.lt
            replace k2 := k2.below hb k2.lt
            replace r1 := r1.below hb r1.lt
            replace r2 := r2.below hb r2.lt
            replace kp := kp.below hb kp.lt
            replace rowo := row_below rowo hb
            replace rowp := row_below rowp hb
            replace hBV := hBV.trans (hb.mono hBV.size)
            clear hb
            have ko := kon
            clear kon hW hbo
            refine hK.out _ _ (fun h => hBV) ?_
            clear hK K
            try simp only [Act.put, List.setIfInBounds_toArray, List.set_cons_zero, List.set_cons_succ]
            exact key2 go gp co cp bo bp U4 ⟨ko, kp, rowo, rowp, hgne, hBV, k1, k2, r1, r2, hlko, hlkp, hne⟩
          · refine step_at 10 rfl (fun K hK => ?_)
            rw [if_pos (by rfl)]
            go_simp
            have kon := Blk.new U2 27 #[.int .i64 0, .int .i64 0, .slice none 0 0]
            obtain ⟨bo, hbo⟩ : ∃ b, U2.heap.size = b := ⟨_, rfl⟩
            obtain ⟨U3, hW⟩ : ∃ W2, U2.alloc (.cells #[.int .i64 0, .int .i64 0, .slice none 0 0] 27) = W2 := ⟨_, rfl⟩
            have hb : Below U2.heap.size U2 U3 := alloc_below hW
            rw [hW] at kon ⊢
            rw [hbo] at kon ⊢
            have hlko := hBV.size
            rw [hbo] at hlko
            have hlne := kp.lt
            rw [hbo] at hlne
            have hne : bo ≠ bp := by omega
            clear hlne
            replace k1 := k1.below hb k1.lt
            replace k2 := k2.below hb k2.lt
            replace r1 := r1.below hb r1.lt
            replace r2 := r2.below hb r2.lt
            replace kp := kp.below hb kp.lt
            replace rowo := row_below rowo hb
            replace hBV := hBV.trans (hb.mono hBV.size)
            clear hb
            have ko := kon
            clear kon hW hbo
            refine hK.out _ _ (fun h => hBV) ?_
            clear hK K
            try simp only [Act.put, List.setIfInBounds_toArray, List.set_cons_zero, List.set_cons_succ]
            refine step_op 9 (by kernel_rfl) rfl (fun K hK => ?_)
            rw [if_pos (by rfl)]
            go_simp
            refine (Blank_any pw ph (by omega) (by omega) _).mono ?_
            rintro e U4 ⟨gp, cp, rfl, hrow, hgl, hb⟩
            have rowpn := row_base hrow hBV.size
            clear hrow
            have hgne : go ≠ gp := by have := row_lt2 rowo; omega
            clear hgl
            replace k1 := k1.below hb k1.lt
            replace k2 := k2.below hb k2.lt
            replace r1 := r1.below hb r1.lt
            replace r2 := r2.below hb r2.lt
            replace ko := ko.below hb ko.lt
            replace kp := kp.below hb kp.lt
            replace rowo := row_below rowo hb
            replace hBV := hBV.trans (hb.mono hBV.size)
            clear hb
            have rowp := rowpn
            clear rowpn
            refine hK.out _ _ (fun h => hBV) ?_
            clear hK K
            try simp only [Act.put, List.setIfInBounds_toArray, List.set_cons_zero, List.set_cons_succ]
            exact key2 go gp co cp bo bp U4 ⟨ko, kp, rowo, rowp, hgne, hBV, k1, k2, r1, r2, hlko, hlkp, hne⟩
        · refine step_at 10 rfl (fun K hK => ?_)
          rw [if_pos (by rfl)]
          go_simp
          have kon := Blk.new U1 27 #[.int .i64 0, .int .i64 0, .slice none 0 0]
          obtain ⟨bo, hbo⟩ : ∃ b, U1.heap.size = b := ⟨_, rfl⟩
          obtain ⟨U2, hW⟩ : ∃ W2, U1.alloc (.cells #[.int .i64 0, .int .i64 0, .slice none 0 0] 27) = W2 := ⟨_, rfl⟩
          have hb : Below U1.heap.size U1 U2 := alloc_below hW
          rw [hW] at kon ⊢
          rw [hbo] at kon ⊢
          have hlko := hBV.size
          rw [hbo] at hlko
          have hlne := kp.lt
          rw [hbo] at hlne
          have hne : bo ≠ bp := by omega
          clear hlne
          replace k1 := k1.below hb k1.lt
          replace k2 := k2.below hb k2.lt
          replace r1 := r1.below hb r1.lt
          replace r2 := r2.below hb r2.lt
          replace kp := kp.below hb kp.lt
          replace hBV := hBV.trans (hb.mono hBV.size)
          clear hb
          have ko := kon
          clear kon hW hbo
          refine hK.out _ _ (fun h => hBV) ?_
          clear hK K
          try simp only [Act.put, List.setIfInBounds_toArray, List.set_cons_zero, List.set_cons_succ]
          refine step_op 4 (by kernel_rfl) rfl (fun K hK => ?_)
          rw [if_pos (by rfl)]
          go_simp
          refine (Blank_any pw ph (by omega) (by omega) _).mono ?_
          rintro e U3 ⟨go, co, rfl, hrow, hgl, hb⟩
          have rowon := row_base hrow hBV.size
          clear hrow
          clear hgl
          replace k1 := k1.below hb k1.lt
          replace k2 := k2.below hb k2.lt
          replace r1 := r1.below hb r1.lt
          replace r2 := r2.below hb r2.lt
          replace ko := ko.below hb ko.lt
          replace kp := kp.below hb kp.lt
          replace hBV := hBV.trans (hb.mono hBV.size)
          clear hb
          have rowo := rowon
          clear rowon
          refine hK.out _ _ (fun h => hBV) ?_
          clear hK K
          try simp only [Act.put, List.setIfInBounds_toArray, List.set_cons_zero, List.set_cons_succ]
          refine step_op 9 (by kernel_rfl) rfl (fun K hK => ?_)
          rw [if_pos (by rfl)]
          go_simp
          refine (Blank_any pw ph (by omega) (by omega) _).mono ?_
          rintro e U4 ⟨gp, cp, rfl, hrow, hgl, hb⟩
          have rowpn := row_base hrow hBV.size
          clear hrow
          have hgne : go ≠ gp := by have := row_lt2 rowo; omega
          clear hgl
          replace k1 := k1.below hb k1.lt
          replace k2 := k2.below hb k2.lt
          replace r1 := r1.below hb r1.lt
          replace r2 := r2.below hb r2.lt
          replace ko := ko.below hb ko.lt
          replace kp := kp.below hb kp.lt
          replace rowo := row_below rowo hb
          replace hBV := hBV.trans (hb.mono hBV.size)
          clear hb
          have rowp := rowpn
          clear rowpn
          refine hK.out _ _ (fun h => hBV) ?_
          clear hK K
          try simp only [Act.put, List.setIfInBounds_toArray, List.set_cons_zero, List.set_cons_succ]
          exact key2 go gp co cp bo bp U4 ⟨ko, kp, rowo, rowp, hgne, hBV, k1, k2, r1, r2, hlko, hlkp, hne⟩
      case key =>
        rintro go gp co cp bo bp U4 ⟨ko, kp, rowo, rowp, hgne, hBV, k1, k2, r1, r2, hlko, hlkp, hne⟩
        refine step_op 12 (by kernel_rfl) rfl (fun K hK => ?_)
        rw [if_pos (by rfl)]
        have z0 := ko.cell (i := 0) rfl
        have fz0 := ko.frozen 0
        have z1 := ko.cell (i := 1) rfl
        have fz1 := ko.frozen 1
        have z2 := ko.cell (i := 2) rfl
        have fz2 := ko.frozen 2
        go_simp
        clear z0 z1 z2 fz0 fz1 fz2
        have hg := put3_grow2 U4 bo (.int .i64 (pw : Int)) (.int .i64 (ph : Int)) (.slice (some ⟨go, 0, none⟩) (pw * ph) co)
        have kon := put3_blk ko (.int .i64 (pw : Int)) (.int .i64 (ph : Int)) (.slice (some ⟨go, 0, none⟩) (pw * ph) co)
        have ron := put3_row rowo (ko.not_row (by decide) rowo) (.int .i64 (pw : Int)) (.int .i64 (ph : Int)) (.slice (some ⟨go, 0, none⟩) (pw * ph) co)
        have rpn := put3_row rowp (ko.not_row (by decide) rowp) (.int .i64 (pw : Int)) (.int .i64 (ph : Int)) (.slice (some ⟨go, 0, none⟩) (pw * ph) co)
        replace hBV := hBV.trans (put3_below (n := W3.heap.size) (B := bo) (by omega) (.int .i64 (pw : Int)) (.int .i64 (ph : Int)) (.slice (some ⟨go, 0, none⟩) (pw * ph) co))
        obtain ⟨U5, hW⟩ : ∃ W2, put3 U4 bo (.int .i64 (pw : Int)) (.int .i64 (ph : Int)) (.slice (some ⟨go, 0, none⟩) (pw * ph) co) = W2 := ⟨_, rfl⟩
        have hW' : ((U4.setCell ⟨bo, 0, none⟩ (.int .i64 (pw : Int))).setCell ⟨bo, 1, none⟩ (.int .i64 (ph : Int))).setCell ⟨bo, 2, none⟩ (.slice (some ⟨go, 0, none⟩) (pw * ph) co) = U5 := hW
        rw [hW] at hg kon ron rpn hBV
        rw [hW']
        clear hW hW' rowo rowp
        have rowo := ron
        have rowp := rpn
        clear ron rpn
        replace k1 := k1.kept hg (by simp <;> omega)
        replace k2 := k2.kept hg (by simp <;> omega)
        replace r1 := r1.kept hg (by simp <;> omega)
        replace r2 := r2.kept hg (by simp <;> omega)
        replace kp := kp.kept hg (by simp <;> omega)
        replace ko := kon
        clear kon hg
        refine hK.out _ _ (fun h => hBV) ?_
        clear hK K
        try simp only [Act.put, List.setIfInBounds_toArray, List.set_cons_zero, List.set_cons_succ]
        refine step_op 13 (by kernel_rfl) rfl (fun K hK => ?_)
        rw [if_pos (by rfl)]
        have z0 := kp.cell (i := 0) rfl
        have fz0 := kp.frozen 0
        have z1 := kp.cell (i := 1) rfl
        have fz1 := kp.frozen 1
        have z2 := kp.cell (i := 2) rfl
        have fz2 := kp.frozen 2
        go_simp
        clear z0 z1 z2 fz0 fz1 fz2
        have hg := put3_grow2 U5 bp (.int .i64 (pw : Int)) (.int .i64 (ph : Int)) (.slice (some ⟨gp, 0, none⟩) (pw * ph) cp)
        have kpn := put3_blk kp (.int .i64 (pw : Int)) (.int .i64 (ph : Int)) (.slice (some ⟨gp, 0, none⟩) (pw * ph) cp)
        have ron := put3_row rowo (kp.not_row (by decide) rowo) (.int .i64 (pw : Int)) (.int .i64 (ph : Int)) (.slice (some ⟨gp, 0, none⟩) (pw * ph) cp)
        have rpn := put3_row rowp (kp.not_row (by decide) rowp) (.int .i64 (pw : Int)) (.int .i64 (ph : Int)) (.slice (some ⟨gp, 0, none⟩) (pw * ph) cp)
        replace hBV := hBV.trans (put3_below (n := W3.heap.size) (B := bp) (by omega) (.int .i64 (pw : Int)) (.int .i64 (ph : Int)) (.slice (some ⟨gp, 0, none⟩) (pw * ph) cp))
        obtain ⟨U6, hW⟩ : ∃ W2, put3 U5 bp (.int .i64 (pw : Int)) (.int .i64 (ph : Int)) (.slice (some ⟨gp, 0, none⟩) (pw * ph) cp) = W2 := ⟨_, rfl⟩
        have hW' : ((U5.setCell ⟨bp, 0, none⟩ (.int .i64 (pw : Int))).setCell ⟨bp, 1, none⟩ (.int .i64 (ph : Int))).setCell ⟨bp, 2, none⟩ (.slice (some ⟨gp, 0, none⟩) (pw * ph) cp) = U6 := hW
        rw [hW] at hg kpn ron rpn hBV
        rw [hW']
        clear hW hW' rowo rowp
        have rowo := ron
        have rowp := rpn
        clear ron rpn
        replace k1 := k1.kept hg (by simp <;> omega)
        replace k2 := k2.kept hg (by simp <;> omega)
        replace r1 := r1.kept hg (by simp <;> omega)
        replace r2 := r2.kept hg (by simp <;> omega)
        replace ko := ko.kept hg (by simp <;> omega)
        replace kp := kpn
        clear kpn hg
        refine hK.out _ _ (fun h => hBV) ?_
        clear hK K
        try simp only [Act.put, List.setIfInBounds_toArray, List.set_cons_zero, List.set_cons_succ]
        refine done_ops (by kernel_rfl) ?_
        exact key go gp co cp bo bp _ ko kp rowo rowp hgne hBV k1 k2 r1 r2 hlko hlkp hne

end Go.Proofs.Ytbfigbpjoaccdaa

/- The walk of the law JudgeChanges: it returns true, and nothing that lay has turned. -/
import Derived.Test.YtbfigbpjoaccdaaGreatULawTight
import Derived.Test.YtbfigbpjoaccdaaGreatQD6
namespace Go.Proofs.YtbfigbpjoaccdaaGreat
open Go Go.RowKit Go.Shelf
set_option linter.unusedVariables false
set_option linter.unusedSimpArgs false

theorem spV_wide {g g' a a' v : Int} (hv : 0 ≤ v) (hg : g ≤ g') (ha : a ≤ a') : spV g a v ≤ spV g' a' v := by
  have h1 := Int.mul_le_mul_of_nonneg_right hg hv
  have h2 := Int.ediv_le_ediv (show (0 : Int) < 100 by decide) h1
  unfold spV clamp
  omega
theorem chg_t {s : Nat} {X Y : Int} (x1 : -(s : Int) ≤ X) (x2 : X ≤ s) (y1 : -(s : Int) ≤ Y) (y2 : Y ≤ s) (pw ph : Nat) (xs : List Int) (g a : Int) (i : Nat) :
    ∃ t, t < (2 * s + 1) * (2 * s + 1) ∧ shV pw ph xs s g a i t = spV g a (beyF 2 pw ph xs (cX pw i + X) (cY pw i + Y)) := by
  refine ⟨(Y + s).toNat * (2 * s + 1) + (X + s).toNat, ?_, ?_⟩
  · have := Nat.mul_le_mul_right (2 * s + 1) (show (Y + s).toNat + 1 ≤ 2 * s + 1 by omega)
    rw [Nat.add_mul, Nat.one_mul] at this
    omega
  · rw [shV_at (show (X + s).toNat < 2 * s + 1 by omega), show ((X + s).toNat : Int) - s = X by omega, show ((Y + s).toNat : Int) - s = Y by omega]
theorem chg_lo {pw ph s i : Nat} {xs : List Int} (hby : allIn 0 255 xs = true) {g g' a a' X Y : Int} (hg : g ≤ g') (ha : a ≤ a') (x1 : -(s : Int) ≤ X) (x2 : X ≤ s) (y1 : -(s : Int) ≤ Y) (y2 : Y ≤ s) :
    loF pw ph xs s g a i ≤ spV g' a' (beyF 2 pw ph xs (cX pw i + X) (cY pw i + Y)) := by
  obtain ⟨t, ht, e⟩ := chg_t x1 x2 y1 y2 pw ph xs g a i
  have h := (le_spLo (f := shV pw ph xs s g a i) (n := (2 * s + 1) * (2 * s + 1)) (B := loF pw ph xs s g a i)).1 (Int.le_refl _)
  exact Int.le_trans (h.2 t ht) (by rw [e]; exact spV_wide (bey_byte hby _ _ _ _).1 hg ha)
theorem chg_hi {pw ph s i : Nat} {xs : List Int} (hby : allIn 0 255 xs = true) {g g' a a' X Y : Int} (hg : g' ≤ g) (ha : a' ≤ a) (x1 : -(s : Int) ≤ X) (x2 : X ≤ s) (y1 : -(s : Int) ≤ Y) (y2 : Y ≤ s) :
    spV g' a' (beyF 2 pw ph xs (cX pw i + X) (cY pw i + Y)) ≤ hiF pw ph xs s g a i := by
  obtain ⟨t, ht, e⟩ := chg_t x1 x2 y1 y2 pw ph xs g a i
  have h := (spHi_le (f := shV pw ph xs s g a i) (n := (2 * s + 1) * (2 * s + 1)) (B := hiF pw ph xs s g a i)).1 (Int.le_refl _)
  exact Int.le_trans (by rw [e]; exact spV_wide (bey_byte hby _ _ _ _).1 hg ha) (h.2 t ht)
theorem tm_bd {a b : Int} (h : 0 ≤ a) (hb : 0 < b) : 0 ≤ a.tmod b ∧ a.tmod b < b := ⟨Int.tmod_nonneg _ h, Int.tmod_lt_of_pos _ hb⟩
set_option maxRecDepth 100000 in
set_option maxHeartbeats 16000000 in
theorem law_changes (iw ih : Int) (a : Option Addr) (c n : Nat) (xs : List Int) (hn : Hid (xs.length = n)) (C : ChgN) (dx dy ga os : Int) (hdx : 0 ≤ dx ∧ dx ≤ 255) (hdy : 0 ≤ dy ∧ dy ≤ 255) (hga : 0 ≤ ga ∧ ga ≤ 255) (hos : 0 ≤ os ∧ os ≤ 255)
    (za : Option Addr) (zc zn : Nat) (zs : List Nat) (hzn : Hid (zs.length = zn)) (hzm : zn ≤ 140737488355328) (hzb : ∀ x ∈ zs, x < 256) (w : World) (hm : n * 8 ≤ 140737488355328) (hr : Rd w.heap.size w a xs) (hz : RdN w.heap.size w za zs) :
    Calls Tryz.prog 4 #[imv iw ih a n c, C.val, .int .u8 dx, .int .u8 dy, .int .u8 ga, .int .u8 os, .slice za zn zc] w fun e w' => e = .returned (.bool true) ∧ Below w.heap.size w w' := by
  obtain ⟨s, gl, gh, off, noi⟩ := C
  have hB : Below w.heap.size w w := Below.refl _ _
  have hm2 : n ≤ 9223372036854775807 := by omega
  have ri := hr
  have rz := hz
  obtain ⟨R, hR⟩ : ∃ R, sprS ⟨iw, ih, xs⟩ ⟨s, gl, gh, off, noi⟩ = R := ⟨_, rfl⟩
  have hRl := spr_len2 ⟨iw, ih, xs⟩ ⟨s, gl, gh, off, noi⟩
  rw [hR] at hRl
  obtain ⟨hl1, hl2⟩ := hRl
  have hRH := Lib.hid hR
  have hzbH := Lib.hid hzb
  clear hR hr hm hz hzb
  have hbV1 : Below w.heap.size w (w.alloc (.cells #[.int .i64 iw, .int .i64 ih, .slice a n c] 27)) := jb_al (Below.refl _ w) _
  have k1 := Blk.new w 27 #[.int .i64 iw, .int .i64 ih, .slice a n c]
  obtain ⟨V1, hEV1⟩ : ∃ X, w.alloc (.cells #[.int .i64 iw, .int .i64 ih, .slice a n c] 27) = X := ⟨_, rfl⟩
  rw [hEV1] at hbV1 k1
  replace ri := later_i ri hbV1
  replace rz := rz.later hbV1
  replace hB := hB.trans (hbV1.mono hB.size)
  clear hbV1
  have m0 := k1.cell (i := 0) rfl
  have m1 := k1.cell (i := 1) rfl
  have m2 := k1.cell (i := 2) rfl
  have hbV2 : Below V1.heap.size V1 (V1.alloc (.cells #[.int .i64 s, .int .i64 gl, .int .i64 gh, .int .i64 off, .int .i64 noi] 39)) := jb_al (Below.refl _ V1) _
  have k2 := Blk.new V1 39 #[.int .i64 s, .int .i64 gl, .int .i64 gh, .int .i64 off, .int .i64 noi]
  obtain ⟨V2, hEV2⟩ : ∃ X, V1.alloc (.cells #[.int .i64 s, .int .i64 gl, .int .i64 gh, .int .i64 off, .int .i64 noi] 39) = X := ⟨_, rfl⟩
  rw [hEV2] at hbV2 k2
  clear m0 m1 m2
  replace k1 := k1.below hbV2 k1.lt
  replace ri := later_i ri hbV2
  replace rz := rz.later hbV2
  replace hB := hB.trans (hbV2.mono hB.size)
  clear hbV2
  have m0 := k1.cell (i := 0) rfl
  have m1 := k1.cell (i := 1) rfl
  have m2 := k1.cell (i := 2) rfl
  have h0 := k2.cell (i := 0) rfl
  have h1 := k2.cell (i := 1) rfl
  have h2 := k2.cell (i := 2) rfl
  have h3 := k2.cell (i := 3) rfl
  have h4 := k2.cell (i := 4) rfl
  go_enter Tryz.func4, Tryz.ntmps4
  go_wp2_with fail
  clear hEV1 hEV2
  have hc := alive8_any V2
  refine hc.mono ?_
  clear hc
  rintro e V3 ⟨rfl, hb⟩
  clear m0 m1 m2 h0 h1 h2 h3 h4
  replace k1 := k1.below hb k1.lt
  replace k2 := k2.below hb k2.lt
  replace ri := later_i ri hb
  replace rz := rz.later hb
  replace hB := hB.trans (hb.mono hB.size)
  clear hb
  have m0 := k1.cell (i := 0) rfl
  have m1 := k1.cell (i := 1) rfl
  have m2 := k1.cell (i := 2) rfl
  have h0 := k2.cell (i := 0) rfl
  have h1 := k2.cell (i := 1) rfl
  have h2 := k2.cell (i := 2) rfl
  have h3 := k2.cell (i := 3) rfl
  have h4 := k2.cell (i := 4) rfl
  go_wp2_with fail
  have hc := Spread_any iw ih a c n xs hn ⟨s, gl, gh, off, noi⟩ V3 hm2 ri
  rw [hRH.out] at hc
  refine hc.mono ?_
  clear hc
  rintro e V4 ⟨⟨v1, v2, rfl, ⟨t1, rfl, hrA⟩, ⟨t2, rfl, hrB⟩⟩, hb⟩
  clear m0 m1 m2 h0 h1 h2 h3 h4
  replace k1 := k1.below hb k1.lt
  replace k2 := k2.below hb k2.lt
  replace ri := later_i ri hb
  replace rz := rz.later hb
  replace hB := hB.trans (hb.mono hB.size)
  clear hb
  have m0 := k1.cell (i := 0) rfl
  have m1 := k1.cell (i := 1) rfl
  have m2 := k1.cell (i := 2) rfl
  have h0 := k2.cell (i := 0) rfl
  have h1 := k2.cell (i := 1) rfl
  have h2 := k2.cell (i := 2) rfl
  have h3 := k2.cell (i := 3) rfl
  have h4 := k2.cell (i := 4) rfl
  obtain ⟨pa, pc, rfl⟩ := row_slice hrA
  obtain ⟨qa, qc, rfl⟩ := row_slice hrB
  have rp := row_rd' rfl hrA
  have rq := row_rd' rfl hrB
  clear hrA hrB
  have k3 := Blk.new V4 27 #[.int .i64 0, .int .i64 0, .slice none 0 0]
  obtain ⟨bk3, hx1⟩ : ∃ b, V4.heap.size = b := ⟨_, rfl⟩
  obtain ⟨V4a, hA⟩ : ∃ X, V4.alloc (.cells #[.int .i64 0, .int .i64 0, .slice none 0 0] 27) = X := ⟨_, rfl⟩
  have hba : Below V4.heap.size V4 V4a := alloc_below hA
  rw [hA, hx1] at k3
  have k4 := Blk.new V4a 27 #[.int .i64 0, .int .i64 0, .slice none 0 0]
  obtain ⟨bk4, hx2⟩ : ∃ b, V4a.heap.size = b := ⟨_, rfl⟩
  obtain ⟨V4b, hA2⟩ : ∃ X, V4a.alloc (.cells #[.int .i64 0, .int .i64 0, .slice none 0 0] 27) = X := ⟨_, rfl⟩
  have hbb : Below V4a.heap.size V4a V4b := alloc_below hA2
  rw [hA2, hx2] at k4
  have hlt12 : bk3 < bk4 := hx2 ▸ k3.lt
  replace k3 := k3.below hbb k3.lt
  have d0 := k3.cell (i := 0) rfl
  have fd0 := k3.frozen 0
  have d1 := k3.cell (i := 1) rfl
  have fd1 := k3.frozen 1
  have d2 := k3.cell (i := 2) rfl
  have fd2 := k3.frozen 2
  have hg1 := put3_grow2 V4b bk3 (.int .i64 R.w) (.int .i64 R.h) (.slice pa R.lo.length pc)
  have k3n := put3_blk k3 (.int .i64 R.w) (.int .i64 R.h) (.slice pa R.lo.length pc)
  replace k4 := k4.kept hg1 (by simp; omega)
  obtain ⟨V4c, hA3⟩ : ∃ X, put3 V4b bk3 (.int .i64 R.w) (.int .i64 R.h) (.slice pa R.lo.length pc) = X := ⟨_, rfl⟩
  rw [hA3] at hg1 k3n k4
  have e0 := k4.cell (i := 0) rfl
  have fe0 := k4.frozen 0
  have e1 := k4.cell (i := 1) rfl
  have fe1 := k4.frozen 1
  have e2 := k4.cell (i := 2) rfl
  have fe2 := k4.frozen 2
  have hg2 := put3_grow2 V4c bk4 (.int .i64 R.w) (.int .i64 R.h) (.slice qa R.hi.length qc)
  have k4n := put3_blk k4 (.int .i64 R.w) (.int .i64 R.h) (.slice qa R.hi.length qc)
  replace k3 := k3n.kept hg2 (by simp; omega)
  obtain ⟨V5, hA4⟩ : ∃ X, put3 V4c bk4 (.int .i64 R.w) (.int .i64 R.h) (.slice qa R.hi.length qc) = X := ⟨_, rfl⟩
  rw [hA4] at hg2 k3 k4n
  replace k4 := k4n
  clear k3n k4n
  have hb : Below V4.heap.size V4 V5 := hba.trans ((hbb.mono hba.size).trans ((grown_below2 hg1 (by have := hba.size; have := hbb.size; omega) (by intro k e; cases e; omega)).trans (grown_below2 hg2 (by have := hba.size; have := hbb.size; have := hg1.size; omega) (by intro k e; cases e; omega))))
  clear m0 m1 m2 h0 h1 h2 h3 h4
  replace k1 := k1.below hb k1.lt
  replace k2 := k2.below hb k2.lt
  replace ri := later_i ri hb
  replace rz := rz.later hb
  replace rp := later_i rp hb
  replace rq := later_i rq hb
  replace hB := hB.trans (hb.mono hB.size)
  clear hb hba hbb hg1 hg2 hlt12
  have m0 := k1.cell (i := 0) rfl
  have m1 := k1.cell (i := 1) rfl
  have m2 := k1.cell (i := 2) rfl
  have h0 := k2.cell (i := 0) rfl
  have h1 := k2.cell (i := 1) rfl
  have h2 := k2.cell (i := 2) rfl
  have h3 := k2.cell (i := 3) rfl
  have h4 := k2.cell (i := 4) rfl
  have t0 := k3.cell (i := 0) rfl
  have t1 := k3.cell (i := 1) rfl
  have t2 := k3.cell (i := 2) rfl
  have u0 := k4.cell (i := 0) rfl
  have u1 := k4.cell (i := 1) rfl
  have u2 := k4.cell (i := 2) rfl
  obtain ⟨v1, hv1⟩ : ∃ v, camB ⟨iw, ih, xs⟩ = v := ⟨_, rfl⟩
  obtain ⟨v2, hv2⟩ : ∃ v, chgB ⟨s, gl, gh, off, noi⟩ = v := ⟨_, rfl⟩
  cases v1 with
  | false =>
    have he : R.err = 20 := by rw [← hRH.out]; unfold sprS; rw [hv1]; rfl
    have h1H := Lib.hid hv1
    clear hv1 hv2
    go_wp2_with fail
    clear hA hA2 hA3 hA4 hx1 hx2 d0 d1 d2 fd0 fd1 fd2 e0 e1 e2 fe0 fe1 fe2
    have hc := rCamera_any ⟨iw, ih, xs⟩ a n c hn.out hm2 V5 ri false h1H.out
    refine hc.mono ?_
    clear hc
    rintro e V6 ⟨rfl, hb⟩
    clear m0 m1 m2 h0 h1 h2 h3 h4 t0 t1 t2 u0 u1 u2
    replace k1 := k1.below hb k1.lt
    replace k2 := k2.below hb k2.lt
    replace k3 := k3.below hb k3.lt
    replace k4 := k4.below hb k4.lt
    replace ri := later_i ri hb
    replace rz := rz.later hb
    replace rp := later_i rp hb
    replace rq := later_i rq hb
    replace hB := hB.trans (hb.mono hB.size)
    clear hb
    have m0 := k1.cell (i := 0) rfl
    have m1 := k1.cell (i := 1) rfl
    have m2 := k1.cell (i := 2) rfl
    have h0 := k2.cell (i := 0) rfl
    have h1 := k2.cell (i := 1) rfl
    have h2 := k2.cell (i := 2) rfl
    have h3 := k2.cell (i := 3) rfl
    have h4 := k2.cell (i := 4) rfl
    have t0 := k3.cell (i := 0) rfl
    have t1 := k3.cell (i := 1) rfl
    have t2 := k3.cell (i := 2) rfl
    have u0 := k4.cell (i := 0) rfl
    have u1 := k4.cell (i := 1) rfl
    have u2 := k4.cell (i := 2) rfl
    have he1 : (R.err == 20) = true := by rw [he]; rfl
    clear he
    go_wp2_with fail
    go_ret
    exact ⟨rfl, hB⟩
  | true =>
    cases v2 with
    | false =>
      have he : R.err = 2 := by rw [← hRH.out]; unfold sprS; rw [hv1, hv2]; rfl
      have h1H := Lib.hid hv1
      have h2H := Lib.hid hv2
      clear hv1 hv2
      go_wp2_with fail
      clear hA hA2 hA3 hA4 hx1 hx2 d0 d1 d2 fd0 fd1 fd2 e0 e1 e2 fe0 fe1 fe2
      have hc := rCamera_any ⟨iw, ih, xs⟩ a n c hn.out hm2 V5 ri true h1H.out
      refine hc.mono ?_
      clear hc
      rintro e V6 ⟨rfl, hb⟩
      clear m0 m1 m2 h0 h1 h2 h3 h4 t0 t1 t2 u0 u1 u2
      replace k1 := k1.below hb k1.lt
      replace k2 := k2.below hb k2.lt
      replace k3 := k3.below hb k3.lt
      replace k4 := k4.below hb k4.lt
      replace ri := later_i ri hb
      replace rz := rz.later hb
      replace rp := later_i rp hb
      replace rq := later_i rq hb
      replace hB := hB.trans (hb.mono hB.size)
      clear hb
      have m0 := k1.cell (i := 0) rfl
      have m1 := k1.cell (i := 1) rfl
      have m2 := k1.cell (i := 2) rfl
      have h0 := k2.cell (i := 0) rfl
      have h1 := k2.cell (i := 1) rfl
      have h2 := k2.cell (i := 2) rfl
      have h3 := k2.cell (i := 3) rfl
      have h4 := k2.cell (i := 4) rfl
      have t0 := k3.cell (i := 0) rfl
      have t1 := k3.cell (i := 1) rfl
      have t2 := k3.cell (i := 2) rfl
      have u0 := k4.cell (i := 0) rfl
      have u1 := k4.cell (i := 1) rfl
      have u2 := k4.cell (i := 2) rfl
      go_wp2_with fail
      have hc := ValidChange_any ⟨s, gl, gh, off, noi⟩ false h2H.out V6
      refine hc.mono ?_
      clear hc
      rintro e V7 ⟨rfl, hb⟩
      clear m0 m1 m2 h0 h1 h2 h3 h4 t0 t1 t2 u0 u1 u2
      replace k1 := k1.below hb k1.lt
      replace k2 := k2.below hb k2.lt
      replace k3 := k3.below hb k3.lt
      replace k4 := k4.below hb k4.lt
      replace ri := later_i ri hb
      replace rz := rz.later hb
      replace rp := later_i rp hb
      replace rq := later_i rq hb
      replace hB := hB.trans (hb.mono hB.size)
      clear hb
      have m0 := k1.cell (i := 0) rfl
      have m1 := k1.cell (i := 1) rfl
      have m2 := k1.cell (i := 2) rfl
      have h0 := k2.cell (i := 0) rfl
      have h1 := k2.cell (i := 1) rfl
      have h2 := k2.cell (i := 2) rfl
      have h3 := k2.cell (i := 3) rfl
      have h4 := k2.cell (i := 4) rfl
      have t0 := k3.cell (i := 0) rfl
      have t1 := k3.cell (i := 1) rfl
      have t2 := k3.cell (i := 2) rfl
      have u0 := k4.cell (i := 0) rfl
      have u1 := k4.cell (i := 1) rfl
      have u2 := k4.cell (i := 2) rfl
      have he1 : (R.err == 20) = false := by rw [he]; rfl
      have he2 : (R.err == 2) = true := by rw [he]; rfl
      clear he
      go_wp2_with fail
      go_ret
      exact ⟨rfl, hB⟩
    | true =>
      have hok := sprS_ok hv1 hv2
      have h1H := Lib.hid hv1
      have h2H := Lib.hid hv2
      have hcb := hv1
      simp only [camB, Bool.and_eq_true] at hcb
      obtain ⟨⟨i1, i2⟩, ⟨i3, i4⟩, hlen, hall⟩ := vld_true hcb.1
      have hck := chgOk_of hv2
      obtain ⟨s1, s2⟩ := hck.s
      obtain ⟨g1, g2⟩ := hck.gl
      obtain ⟨g3, g4⟩ := hck.gh
      have g5 := hck.le
      obtain ⟨o1, o2⟩ := hck.off
      obtain ⟨o3, o4⟩ := hck.noi
      simp only at s1 s2 g1 g2 g3 g4 g5 o1 o2 o3 o4
      obtain ⟨pw, rfl⟩ : ∃ pw : Nat, iw = (pw : Int) := ⟨iw.toNat, by omega⟩
      obtain ⟨ph, rfl⟩ : ∃ ph : Nat, ih = (ph : Int) := ⟨ih.toNat, by omega⟩
      obtain ⟨sn, rfl⟩ : ∃ sn : Nat, s = (sn : Int) := ⟨s.toNat, by omega⟩
      have hsn : sn ≤ 2 := by omega
      have hbyH := Lib.hid hcb.2
      rw [hRH.out] at hok
      simp only [loL, hiL, Int.toNat_natCast] at hok
      have hpq : pw * ph ≤ 256 := Nat.mul_le_mul (show pw ≤ 16 by omega) (show ph ≤ 16 by omega)
      rw [hn.out] at hlen
      have hlenH := Lib.hid hlen
      have hnpq : n = pw * ph := by have : ((pw * ph : Nat) : Int) = (pw : Int) * ph := by simp
                                    omega
      have hnpos : 0 < n := by rw [hnpq]; exact Nat.mul_pos (by omega) (by omega)
      obtain ⟨LO, hLO⟩ : ∃ l, (List.range (pw * ph)).map (loF pw ph xs sn gl (-(off + noi))) = l := ⟨_, rfl⟩
      obtain ⟨HI, hHI⟩ : ∃ l, (List.range (pw * ph)).map (hiF pw ph xs sn gh (off + noi)) = l := ⟨_, rfl⟩
      rw [hLO, hHI] at hok
      obtain rfl : R = ⟨(pw : Int), (ph : Int), LO, HI, 0⟩ := hok
      simp only at *
      have hLn : LO.length = n := by rw [← hLO, hnpq]; simp
      have hHn : HI.length = n := by rw [← hHI, hnpq]; simp
      rw [hLn] at hl1 k3 t2 hA3 ⊢
      rw [hHn] at hl2 k4 u2 hA4 ⊢
      have hLH := Lib.hid hLO
      have hHH := Lib.hid hHI
      have hnpqH := Lib.hid hnpq
      have hLnH := Lib.hid hLn
      have hHnH := Lib.hid hHn
      have hnn0 : ((n : Int) != (n : Int)) = false := by simp
      rcases rp with h0 | ⟨bp, op, rfl, hbp, hcp⟩
      · rw [h0] at hLn; simp at hLn; omega
      rcases rq with h0 | ⟨bq, oq, rfl, hbq, hcq⟩
      · rw [h0] at hHn; simp at hHn; omega
      have zLH := Lib.hid (fun (i : Nat) (hi : i < n) => hcp i (by rw [hLn]; exact hi))
      have zHH := Lib.hid (fun (i : Nat) (hi : i < n) => hcq i (by rw [hHn]; exact hi))
      clear hLO hHI hlen hcb hall hck hLn hHn hnpq hv1 hv2 hcp hcq
      have hZB : Below V5.heap.size V5 V5 := Below.refl _ _
      go_wp2_with fail
      clear hA hA2 hA3 hA4 hx1 hx2 d0 d1 d2 fd0 fd1 fd2 e0 e1 e2 fe0 fe1 fe2
      have hc := rCamera_any ⟨(pw : Int), (ph : Int), xs⟩ a n c hn.out hm2 V5 ri true h1H.out
      refine hc.mono ?_
      clear hc
      rintro e V6 ⟨rfl, hb⟩
      clear m0 m1 m2 h0 h1 h2 h3 h4 t0 t1 t2 u0 u1 u2
      replace k1 := k1.below hb k1.lt
      replace k2 := k2.below hb k2.lt
      replace k3 := k3.below hb k3.lt
      replace k4 := k4.below hb k4.lt
      replace ri := later_i ri hb
      replace rz := rz.later hb
      replace hZB := hZB.trans (hb.mono hZB.size)
      replace hB := hB.trans (hb.mono hB.size)
      clear hb
      have m0 := k1.cell (i := 0) rfl
      have m1 := k1.cell (i := 1) rfl
      have m2 := k1.cell (i := 2) rfl
      have h0 := k2.cell (i := 0) rfl
      have h1 := k2.cell (i := 1) rfl
      have h2 := k2.cell (i := 2) rfl
      have h3 := k2.cell (i := 3) rfl
      have h4 := k2.cell (i := 4) rfl
      have t0 := k3.cell (i := 0) rfl
      have t1 := k3.cell (i := 1) rfl
      have t2 := k3.cell (i := 2) rfl
      have u0 := k4.cell (i := 0) rfl
      have u1 := k4.cell (i := 1) rfl
      have u2 := k4.cell (i := 2) rfl
      go_wp2_with fail
      have hc := ValidChange_any ⟨(sn : Int), gl, gh, off, noi⟩ true h2H.out V6
      refine hc.mono ?_
      clear hc
      rintro e V7 ⟨rfl, hb⟩
      clear m0 m1 m2 h0 h1 h2 h3 h4 t0 t1 t2 u0 u1 u2
      replace k1 := k1.below hb k1.lt
      replace k2 := k2.below hb k2.lt
      replace k3 := k3.below hb k3.lt
      replace k4 := k4.below hb k4.lt
      replace ri := later_i ri hb
      replace rz := rz.later hb
      replace hZB := hZB.trans (hb.mono hZB.size)
      replace hB := hB.trans (hb.mono hB.size)
      clear hb
      have m0 := k1.cell (i := 0) rfl
      have m1 := k1.cell (i := 1) rfl
      have m2 := k1.cell (i := 2) rfl
      have h0 := k2.cell (i := 0) rfl
      have h1 := k2.cell (i := 1) rfl
      have h2 := k2.cell (i := 2) rfl
      have h3 := k2.cell (i := 3) rfl
      have h4 := k2.cell (i := 4) rfl
      have t0 := k3.cell (i := 0) rfl
      have t1 := k3.cell (i := 1) rfl
      have t2 := k3.cell (i := 2) rfl
      have u0 := k4.cell (i := 0) rfl
      have u1 := k4.cell (i := 1) rfl
      have u2 := k4.cell (i := 2) rfl
      go_wp2_with fail
      clear hnn0
      obtain ⟨X0, hX0⟩ : ∃ z, dx.tmod (2 * (sn : Int) + 1) = z := ⟨_, rfl⟩
      obtain ⟨Y0, hY0⟩ : ∃ z, dy.tmod (2 * (sn : Int) + 1) = z := ⟨_, rfl⟩
      obtain ⟨G0, hG0⟩ : ∃ z, ga.tmod (gh - gl + 1) = z := ⟨_, rfl⟩
      obtain ⟨O0, hO0⟩ : ∃ z, os.tmod (2 * off + 1) = z := ⟨_, rfl⟩
      have bX := tm_bd hdx.1 (show (0 : Int) < 2 * (sn : Int) + 1 by omega)
      have bY := tm_bd hdy.1 (show (0 : Int) < 2 * (sn : Int) + 1 by omega)
      have bG := tm_bd hga.1 (show (0 : Int) < gh - gl + 1 by omega)
      have bO := tm_bd hos.1 (show (0 : Int) < 2 * off + 1 by omega)
      have hX0e : dx % (2 * (sn : Int) + 1) = X0 := by rw [← Int.tmod_eq_emod_of_nonneg hdx.1]; exact hX0
      have hY0e : dy % (2 * (sn : Int) + 1) = Y0 := by rw [← Int.tmod_eq_emod_of_nonneg hdy.1]; exact hY0
      have hG0e : ga % (gh - gl + 1) = G0 := by rw [← Int.tmod_eq_emod_of_nonneg hga.1]; exact hG0
      have hO0e : os % (2 * off + 1) = O0 := by rw [← Int.tmod_eq_emod_of_nonneg hos.1]; exact hO0
      rw [hX0] at bX
      rw [hY0] at bY
      rw [hG0] at bG
      rw [hO0] at bO
      clear m0 m1 m2 h0 h1 h2 h3 h4 t0 t1 t2 u0 u1 u2
      have k1H := Lib.hid k1
      have lk1 := k1.lt
      clear k1
      have k2H := Lib.hid k2
      have lk2 := k2.lt
      clear k2
      have k3H := Lib.hid k3
      have lk3 := k3.lt
      clear k3
      have k4H := Lib.hid k4
      have lk4 := k4.lt
      clear k4
      have riH := Lib.hid ri
      have rzH := Lib.hid rz
      have hB0 : Below V7.heap.size V7 V7 := Below.refl _ _
      clear ri rz
      have hbpV : bp < V7.heap.size := by have := hZB.size; omega
      have hbqV : bq < V7.heap.size := by have := hZB.size; omega
      have hS : Below V7.heap.size V7 V7.drew := hB0.drew
      refine plain_region (fun W' => Below V7.heap.size V7 W') 22 22 (by kernel_rfl) rfl ?_
      simp only [Array.replicate_succ, Array.replicate_zero, List.push_toArray, List.nil_append, List.cons_append]
      refine take_op 0 (v := ?av0) rfl (by kernel_rfl) (fun _ _ _ h => h) (by rfl) hS (fun w' hS' => ?ay0) ?az0
      case ay0 =>
        go_simp
        rfl
      simp only [List.setIfInBounds_toArray, List.set_cons_zero, List.set_cons_succ]
      refine take_op 1 (v := ?av1) rfl (by kernel_rfl) (fun _ _ _ h => h) (by rfl) hS (fun w' hS' => ?ay1) ?az1
      case ay1 =>
        go_simp
        rfl
      simp only [List.setIfInBounds_toArray, List.set_cons_zero, List.set_cons_succ]
      refine take_op 2 (v := ?av2) rfl (by kernel_rfl) (fun _ _ _ h => h) (by rfl) hS (fun w' hS' => ?ay2) ?az2
      case ay2 =>
        go_simp
        rfl
      simp only [List.setIfInBounds_toArray, List.set_cons_zero, List.set_cons_succ]
      refine take_op 3 (v := ?av3) rfl (by kernel_rfl) (fun _ _ _ h => h) (by rfl) hS (fun w' hS' => ?ay3) ?az3
      case ay3 =>
        have k1 := k1H.out.below hS' lk1
        have k2 := k2H.out.below hS' lk2
        have k3 := k3H.out.below hS' lk3
        have k4 := k4H.out.below hS' lk4
        have m0 := k1.cell (i := 0) rfl
        have t0 := k3.cell (i := 0) rfl
        have u0 := k4.cell (i := 0) rfl
        have m1 := k1.cell (i := 1) rfl
        have t1 := k3.cell (i := 1) rfl
        have u1 := k4.cell (i := 1) rfl
        have m2 := k1.cell (i := 2) rfl
        have t2 := k3.cell (i := 2) rfl
        have u2 := k4.cell (i := 2) rfl
        have c0 := k2.cell (i := 0) rfl
        have c1 := k2.cell (i := 1) rfl
        have c2 := k2.cell (i := 2) rfl
        have c3 := k2.cell (i := 3) rfl
        have c4 := k2.cell (i := 4) rfl
        clear k1 k2 k3 k4
        clear hS'
        go_simp
        rfl
      simp only [List.setIfInBounds_toArray, List.set_cons_zero, List.set_cons_succ]
      refine take_op 4 (v := ?av4) rfl (by kernel_rfl) (fun _ _ _ h => h) (by rfl) hS (fun w' hS' => ?ay4) ?az4
      case ay4 =>
        go_simp
        try go_ints
        rfl
      simp only [List.setIfInBounds_toArray, List.set_cons_zero, List.set_cons_succ]
      refine take_op 5 (v := ?av5) rfl (by kernel_rfl) (fun _ _ _ h => h) (by rfl) hS (fun w' hS' => ?ay5) ?az5
      case ay5 =>
        go_simp
        try go_ints
        rfl
      simp only [List.setIfInBounds_toArray, List.set_cons_zero, List.set_cons_succ]
      refine take_op 6 (v := .int .i64 X0) rfl (by kernel_rfl) (fun _ _ _ h => h) (by rfl) hS (fun w' hS' => ?ay6) ?az6
      case ay6 =>
        clear hS'
        go_simp
        try go_ints
        try rw [if_neg (by omega)]
        try simp only [hX0, hX0e]
        first | done | rfl | trivial
      simp only [List.setIfInBounds_toArray, List.set_cons_zero, List.set_cons_succ]
      refine take_op 7 (v := ?av7) rfl (by kernel_rfl) (fun _ _ _ h => h) (by rfl) hS (fun w' hS' => ?ay7) ?az7
      case ay7 =>
        go_simp
        rfl
      simp only [List.setIfInBounds_toArray, List.set_cons_zero, List.set_cons_succ]
      refine take_op 8 (v := ?av8) rfl (by kernel_rfl) (fun _ _ _ h => h) (by rfl) hS (fun w' hS' => ?ay8) ?az8
      case ay8 =>
        have k1 := k1H.out.below hS' lk1
        have k2 := k2H.out.below hS' lk2
        have k3 := k3H.out.below hS' lk3
        have k4 := k4H.out.below hS' lk4
        have m0 := k1.cell (i := 0) rfl
        have t0 := k3.cell (i := 0) rfl
        have u0 := k4.cell (i := 0) rfl
        have m1 := k1.cell (i := 1) rfl
        have t1 := k3.cell (i := 1) rfl
        have u1 := k4.cell (i := 1) rfl
        have m2 := k1.cell (i := 2) rfl
        have t2 := k3.cell (i := 2) rfl
        have u2 := k4.cell (i := 2) rfl
        have c0 := k2.cell (i := 0) rfl
        have c1 := k2.cell (i := 1) rfl
        have c2 := k2.cell (i := 2) rfl
        have c3 := k2.cell (i := 3) rfl
        have c4 := k2.cell (i := 4) rfl
        clear k1 k2 k3 k4
        clear hS'
        go_simp
        rfl
      simp only [List.setIfInBounds_toArray, List.set_cons_zero, List.set_cons_succ]
      refine take_op 9 (v := ?av9) rfl (by kernel_rfl) (fun _ _ _ h => h) (by rfl) hS (fun w' hS' => ?ay9) ?az9
      case ay9 =>
        go_simp
        try go_ints
        rfl
      simp only [List.setIfInBounds_toArray, List.set_cons_zero, List.set_cons_succ]
      refine take_op 10 (v := ?av10) rfl (by kernel_rfl) (fun _ _ _ h => h) (by rfl) hS (fun w' hS' => ?ay10) ?az10
      case ay10 =>
        go_simp
        rfl
      simp only [List.setIfInBounds_toArray, List.set_cons_zero, List.set_cons_succ]
      refine take_op 11 (v := ?av11) rfl (by kernel_rfl) (fun _ _ _ h => h) (by rfl) hS (fun w' hS' => ?ay11) ?az11
      case ay11 =>
        go_simp
        rfl
      simp only [List.setIfInBounds_toArray, List.set_cons_zero, List.set_cons_succ]
      refine take_op 12 (v := ?av12) rfl (by kernel_rfl) (fun _ _ _ h => h) (by rfl) hS (fun w' hS' => ?ay12) ?az12
      case ay12 =>
        go_simp
        rfl
      simp only [List.setIfInBounds_toArray, List.set_cons_zero, List.set_cons_succ]
      refine take_op 13 (v := ?av13) rfl (by kernel_rfl) (fun _ _ _ h => h) (by rfl) hS (fun w' hS' => ?ay13) ?az13
      case ay13 =>
        have k1 := k1H.out.below hS' lk1
        have k2 := k2H.out.below hS' lk2
        have k3 := k3H.out.below hS' lk3
        have k4 := k4H.out.below hS' lk4
        have m0 := k1.cell (i := 0) rfl
        have t0 := k3.cell (i := 0) rfl
        have u0 := k4.cell (i := 0) rfl
        have m1 := k1.cell (i := 1) rfl
        have t1 := k3.cell (i := 1) rfl
        have u1 := k4.cell (i := 1) rfl
        have m2 := k1.cell (i := 2) rfl
        have t2 := k3.cell (i := 2) rfl
        have u2 := k4.cell (i := 2) rfl
        have c0 := k2.cell (i := 0) rfl
        have c1 := k2.cell (i := 1) rfl
        have c2 := k2.cell (i := 2) rfl
        have c3 := k2.cell (i := 3) rfl
        have c4 := k2.cell (i := 4) rfl
        clear k1 k2 k3 k4
        clear hS'
        go_simp
        rfl
      simp only [List.setIfInBounds_toArray, List.set_cons_zero, List.set_cons_succ]
      refine take_op 14 (v := ?av14) rfl (by kernel_rfl) (fun _ _ _ h => h) (by rfl) hS (fun w' hS' => ?ay14) ?az14
      case ay14 =>
        go_simp
        try go_ints
        rfl
      simp only [List.setIfInBounds_toArray, List.set_cons_zero, List.set_cons_succ]
      refine take_op 15 (v := ?av15) rfl (by kernel_rfl) (fun _ _ _ h => h) (by rfl) hS (fun w' hS' => ?ay15) ?az15
      case ay15 =>
        go_simp
        try go_ints
        rfl
      simp only [List.setIfInBounds_toArray, List.set_cons_zero, List.set_cons_succ]
      refine take_op 16 (v := .int .i64 Y0) rfl (by kernel_rfl) (fun _ _ _ h => h) (by rfl) hS (fun w' hS' => ?ay16) ?az16
      case ay16 =>
        clear hS'
        go_simp
        try go_ints
        try rw [if_neg (by omega)]
        try simp only [hY0, hY0e]
        first | done | rfl | trivial
      simp only [List.setIfInBounds_toArray, List.set_cons_zero, List.set_cons_succ]
      refine take_op 17 (v := ?av17) rfl (by kernel_rfl) (fun _ _ _ h => h) (by rfl) hS (fun w' hS' => ?ay17) ?az17
      case ay17 =>
        go_simp
        rfl
      simp only [List.setIfInBounds_toArray, List.set_cons_zero, List.set_cons_succ]
      refine take_op 18 (v := ?av18) rfl (by kernel_rfl) (fun _ _ _ h => h) (by rfl) hS (fun w' hS' => ?ay18) ?az18
      case ay18 =>
        have k1 := k1H.out.below hS' lk1
        have k2 := k2H.out.below hS' lk2
        have k3 := k3H.out.below hS' lk3
        have k4 := k4H.out.below hS' lk4
        have m0 := k1.cell (i := 0) rfl
        have t0 := k3.cell (i := 0) rfl
        have u0 := k4.cell (i := 0) rfl
        have m1 := k1.cell (i := 1) rfl
        have t1 := k3.cell (i := 1) rfl
        have u1 := k4.cell (i := 1) rfl
        have m2 := k1.cell (i := 2) rfl
        have t2 := k3.cell (i := 2) rfl
        have u2 := k4.cell (i := 2) rfl
        have c0 := k2.cell (i := 0) rfl
        have c1 := k2.cell (i := 1) rfl
        have c2 := k2.cell (i := 2) rfl
        have c3 := k2.cell (i := 3) rfl
        have c4 := k2.cell (i := 4) rfl
        clear k1 k2 k3 k4
        clear hS'
        go_simp
        rfl
      simp only [List.setIfInBounds_toArray, List.set_cons_zero, List.set_cons_succ]
      refine take_op 19 (v := ?av19) rfl (by kernel_rfl) (fun _ _ _ h => h) (by rfl) hS (fun w' hS' => ?ay19) ?az19
      case ay19 =>
        go_simp
        try go_ints
        rfl
      simp only [List.setIfInBounds_toArray, List.set_cons_zero, List.set_cons_succ]
      refine take_op 20 (v := ?av20) rfl (by kernel_rfl) (fun _ _ _ h => h) (by rfl) hS (fun w' hS' => ?ay20) ?az20
      case ay20 =>
        go_simp
        rfl
      simp only [List.setIfInBounds_toArray, List.set_cons_zero, List.set_cons_succ]
      refine take_op 21 (v := ?av21) rfl (by kernel_rfl) (fun _ _ _ h => h) (by rfl) hS (fun w' hS' => ?ay21) ?az21
      case ay21 =>
        go_simp
        rfl
      simp only [List.setIfInBounds_toArray, List.set_cons_zero, List.set_cons_succ]
      refine done_ops (by kernel_rfl) ?_
      go_wp2_with fail
      have hT : Below V7.heap.size V7 V7.drew.drew := hS.drew
      refine plain_region (fun W' => Below V7.heap.size V7 W') 24 24 (by kernel_rfl) rfl ?_
      simp only [Array.replicate_succ, Array.replicate_zero, List.push_toArray, List.nil_append, List.cons_append]
      refine take_op 0 (v := ?bv0) rfl (by kernel_rfl) (fun _ _ _ h => h) (by rfl) hT (fun w' hS' => ?by0) ?bz0
      case by0 =>
        go_simp
        rfl
      simp only [List.setIfInBounds_toArray, List.set_cons_zero, List.set_cons_succ]
      refine take_op 1 (v := ?bv1) rfl (by kernel_rfl) (fun _ _ _ h => h) (by rfl) hT (fun w' hS' => ?by1) ?bz1
      case by1 =>
        have k1 := k1H.out.below hS' lk1
        have k2 := k2H.out.below hS' lk2
        have k3 := k3H.out.below hS' lk3
        have k4 := k4H.out.below hS' lk4
        have m0 := k1.cell (i := 0) rfl
        have t0 := k3.cell (i := 0) rfl
        have u0 := k4.cell (i := 0) rfl
        have m1 := k1.cell (i := 1) rfl
        have t1 := k3.cell (i := 1) rfl
        have u1 := k4.cell (i := 1) rfl
        have m2 := k1.cell (i := 2) rfl
        have t2 := k3.cell (i := 2) rfl
        have u2 := k4.cell (i := 2) rfl
        have c0 := k2.cell (i := 0) rfl
        have c1 := k2.cell (i := 1) rfl
        have c2 := k2.cell (i := 2) rfl
        have c3 := k2.cell (i := 3) rfl
        have c4 := k2.cell (i := 4) rfl
        clear k1 k2 k3 k4
        clear hS'
        go_simp
        rfl
      simp only [List.setIfInBounds_toArray, List.set_cons_zero, List.set_cons_succ]
      refine take_op 2 (v := ?bv2) rfl (by kernel_rfl) (fun _ _ _ h => h) (by rfl) hT (fun w' hS' => ?by2) ?bz2
      case by2 =>
        go_simp
        rfl
      simp only [List.setIfInBounds_toArray, List.set_cons_zero, List.set_cons_succ]
      refine take_op 3 (v := ?bv3) rfl (by kernel_rfl) (fun _ _ _ h => h) (by rfl) hT (fun w' hS' => ?by3) ?bz3
      case by3 =>
        go_simp
        rfl
      simp only [List.setIfInBounds_toArray, List.set_cons_zero, List.set_cons_succ]
      refine take_op 4 (v := ?bv4) rfl (by kernel_rfl) (fun _ _ _ h => h) (by rfl) hT (fun w' hS' => ?by4) ?bz4
      case by4 =>
        go_simp
        rfl
      simp only [List.setIfInBounds_toArray, List.set_cons_zero, List.set_cons_succ]
      refine take_op 5 (v := ?bv5) rfl (by kernel_rfl) (fun _ _ _ h => h) (by rfl) hT (fun w' hS' => ?by5) ?bz5
      case by5 =>
        have k1 := k1H.out.below hS' lk1
        have k2 := k2H.out.below hS' lk2
        have k3 := k3H.out.below hS' lk3
        have k4 := k4H.out.below hS' lk4
        have m0 := k1.cell (i := 0) rfl
        have t0 := k3.cell (i := 0) rfl
        have u0 := k4.cell (i := 0) rfl
        have m1 := k1.cell (i := 1) rfl
        have t1 := k3.cell (i := 1) rfl
        have u1 := k4.cell (i := 1) rfl
        have m2 := k1.cell (i := 2) rfl
        have t2 := k3.cell (i := 2) rfl
        have u2 := k4.cell (i := 2) rfl
        have c0 := k2.cell (i := 0) rfl
        have c1 := k2.cell (i := 1) rfl
        have c2 := k2.cell (i := 2) rfl
        have c3 := k2.cell (i := 3) rfl
        have c4 := k2.cell (i := 4) rfl
        clear k1 k2 k3 k4
        clear hS'
        go_simp
        rfl
      simp only [List.setIfInBounds_toArray, List.set_cons_zero, List.set_cons_succ]
      refine take_op 6 (v := ?bv6) rfl (by kernel_rfl) (fun _ _ _ h => h) (by rfl) hT (fun w' hS' => ?by6) ?bz6
      case by6 =>
        go_simp
        rfl
      simp only [List.setIfInBounds_toArray, List.set_cons_zero, List.set_cons_succ]
      refine take_op 7 (v := ?bv7) rfl (by kernel_rfl) (fun _ _ _ h => h) (by rfl) hT (fun w' hS' => ?by7) ?bz7
      case by7 =>
        have k1 := k1H.out.below hS' lk1
        have k2 := k2H.out.below hS' lk2
        have k3 := k3H.out.below hS' lk3
        have k4 := k4H.out.below hS' lk4
        have m0 := k1.cell (i := 0) rfl
        have t0 := k3.cell (i := 0) rfl
        have u0 := k4.cell (i := 0) rfl
        have m1 := k1.cell (i := 1) rfl
        have t1 := k3.cell (i := 1) rfl
        have u1 := k4.cell (i := 1) rfl
        have m2 := k1.cell (i := 2) rfl
        have t2 := k3.cell (i := 2) rfl
        have u2 := k4.cell (i := 2) rfl
        have c0 := k2.cell (i := 0) rfl
        have c1 := k2.cell (i := 1) rfl
        have c2 := k2.cell (i := 2) rfl
        have c3 := k2.cell (i := 3) rfl
        have c4 := k2.cell (i := 4) rfl
        clear k1 k2 k3 k4
        clear hS'
        go_simp
        rfl
      simp only [List.setIfInBounds_toArray, List.set_cons_zero, List.set_cons_succ]
      refine take_op 8 (v := ?bv8) rfl (by kernel_rfl) (fun _ _ _ h => h) (by rfl) hT (fun w' hS' => ?by8) ?bz8
      case by8 =>
        go_simp
        try go_ints
        rfl
      simp only [List.setIfInBounds_toArray, List.set_cons_zero, List.set_cons_succ]
      refine take_op 9 (v := ?bv9) rfl (by kernel_rfl) (fun _ _ _ h => h) (by rfl) hT (fun w' hS' => ?by9) ?bz9
      case by9 =>
        go_simp
        try go_ints
        rfl
      simp only [List.setIfInBounds_toArray, List.set_cons_zero, List.set_cons_succ]
      refine take_op 10 (v := .int .i64 G0) rfl (by kernel_rfl) (fun _ _ _ h => h) (by rfl) hT (fun w' hS' => ?by10) ?bz10
      case by10 =>
        clear hS'
        go_simp
        try go_ints
        try rw [if_neg (by omega)]
        try simp only [hG0, hG0e]
        first | done | rfl | trivial
      simp only [List.setIfInBounds_toArray, List.set_cons_zero, List.set_cons_succ]
      refine take_op 11 (v := ?bv11) rfl (by kernel_rfl) (fun _ _ _ h => h) (by rfl) hT (fun w' hS' => ?by11) ?bz11
      case by11 =>
        go_simp
        try go_ints
        rfl
      simp only [List.setIfInBounds_toArray, List.set_cons_zero, List.set_cons_succ]
      refine take_op 12 (v := ?bv12) rfl (by kernel_rfl) (fun _ _ _ h => h) (by rfl) hT (fun w' hS' => ?by12) ?bz12
      case by12 =>
        go_simp
        rfl
      simp only [List.setIfInBounds_toArray, List.set_cons_zero, List.set_cons_succ]
      refine take_op 13 (v := ?bv13) rfl (by kernel_rfl) (fun _ _ _ h => h) (by rfl) hT (fun w' hS' => ?by13) ?bz13
      case by13 =>
        go_simp
        rfl
      simp only [List.setIfInBounds_toArray, List.set_cons_zero, List.set_cons_succ]
      refine take_op 14 (v := ?bv14) rfl (by kernel_rfl) (fun _ _ _ h => h) (by rfl) hT (fun w' hS' => ?by14) ?bz14
      case by14 =>
        go_simp
        rfl
      simp only [List.setIfInBounds_toArray, List.set_cons_zero, List.set_cons_succ]
      refine take_op 15 (v := ?bv15) rfl (by kernel_rfl) (fun _ _ _ h => h) (by rfl) hT (fun w' hS' => ?by15) ?bz15
      case by15 =>
        have k1 := k1H.out.below hS' lk1
        have k2 := k2H.out.below hS' lk2
        have k3 := k3H.out.below hS' lk3
        have k4 := k4H.out.below hS' lk4
        have m0 := k1.cell (i := 0) rfl
        have t0 := k3.cell (i := 0) rfl
        have u0 := k4.cell (i := 0) rfl
        have m1 := k1.cell (i := 1) rfl
        have t1 := k3.cell (i := 1) rfl
        have u1 := k4.cell (i := 1) rfl
        have m2 := k1.cell (i := 2) rfl
        have t2 := k3.cell (i := 2) rfl
        have u2 := k4.cell (i := 2) rfl
        have c0 := k2.cell (i := 0) rfl
        have c1 := k2.cell (i := 1) rfl
        have c2 := k2.cell (i := 2) rfl
        have c3 := k2.cell (i := 3) rfl
        have c4 := k2.cell (i := 4) rfl
        clear k1 k2 k3 k4
        clear hS'
        go_simp
        rfl
      simp only [List.setIfInBounds_toArray, List.set_cons_zero, List.set_cons_succ]
      refine take_op 16 (v := ?bv16) rfl (by kernel_rfl) (fun _ _ _ h => h) (by rfl) hT (fun w' hS' => ?by16) ?bz16
      case by16 =>
        go_simp
        try go_ints
        rfl
      simp only [List.setIfInBounds_toArray, List.set_cons_zero, List.set_cons_succ]
      refine take_op 17 (v := ?bv17) rfl (by kernel_rfl) (fun _ _ _ h => h) (by rfl) hT (fun w' hS' => ?by17) ?bz17
      case by17 =>
        go_simp
        try go_ints
        rfl
      simp only [List.setIfInBounds_toArray, List.set_cons_zero, List.set_cons_succ]
      refine take_op 18 (v := .int .i64 O0) rfl (by kernel_rfl) (fun _ _ _ h => h) (by rfl) hT (fun w' hS' => ?by18) ?bz18
      case by18 =>
        clear hS'
        go_simp
        try go_ints
        try rw [if_neg (by omega)]
        try simp only [hO0, hO0e]
        first | done | rfl | trivial
      simp only [List.setIfInBounds_toArray, List.set_cons_zero, List.set_cons_succ]
      refine take_op 19 (v := ?bv19) rfl (by kernel_rfl) (fun _ _ _ h => h) (by rfl) hT (fun w' hS' => ?by19) ?bz19
      case by19 =>
        go_simp
        rfl
      simp only [List.setIfInBounds_toArray, List.set_cons_zero, List.set_cons_succ]
      refine take_op 20 (v := ?bv20) rfl (by kernel_rfl) (fun _ _ _ h => h) (by rfl) hT (fun w' hS' => ?by20) ?bz20
      case by20 =>
        have k1 := k1H.out.below hS' lk1
        have k2 := k2H.out.below hS' lk2
        have k3 := k3H.out.below hS' lk3
        have k4 := k4H.out.below hS' lk4
        have m0 := k1.cell (i := 0) rfl
        have t0 := k3.cell (i := 0) rfl
        have u0 := k4.cell (i := 0) rfl
        have m1 := k1.cell (i := 1) rfl
        have t1 := k3.cell (i := 1) rfl
        have u1 := k4.cell (i := 1) rfl
        have m2 := k1.cell (i := 2) rfl
        have t2 := k3.cell (i := 2) rfl
        have u2 := k4.cell (i := 2) rfl
        have c0 := k2.cell (i := 0) rfl
        have c1 := k2.cell (i := 1) rfl
        have c2 := k2.cell (i := 2) rfl
        have c3 := k2.cell (i := 3) rfl
        have c4 := k2.cell (i := 4) rfl
        clear k1 k2 k3 k4
        clear hS'
        go_simp
        rfl
      simp only [List.setIfInBounds_toArray, List.set_cons_zero, List.set_cons_succ]
      refine take_op 21 (v := ?bv21) rfl (by kernel_rfl) (fun _ _ _ h => h) (by rfl) hT (fun w' hS' => ?by21) ?bz21
      case by21 =>
        go_simp
        try go_ints
        rfl
      simp only [List.setIfInBounds_toArray, List.set_cons_zero, List.set_cons_succ]
      refine take_op 22 (v := ?bv22) rfl (by kernel_rfl) (fun _ _ _ h => h) (by rfl) hT (fun w' hS' => ?by22) ?bz22
      case by22 =>
        go_simp
        rfl
      simp only [List.setIfInBounds_toArray, List.set_cons_zero, List.set_cons_succ]
      refine take_op 23 (v := ?bv23) rfl (by kernel_rfl) (fun _ _ _ h => h) (by rfl) hT (fun w' hS' => ?by23) ?bz23
      case by23 =>
        go_simp
        rfl
      simp only [List.setIfInBounds_toArray, List.set_cons_zero, List.set_cons_succ]
      refine done_ops (by kernel_rfl) ?_
      have k1 := k1H.out.below hT lk1
      have k2 := k2H.out.below hT lk2
      have k3 := k3H.out.below hT lk3
      have k4 := k4H.out.below hT lk4
      have m0 := k1.cell (i := 0) rfl
      have t0 := k3.cell (i := 0) rfl
      have u0 := k4.cell (i := 0) rfl
      have m1 := k1.cell (i := 1) rfl
      have t1 := k3.cell (i := 1) rfl
      have u1 := k4.cell (i := 1) rfl
      have m2 := k1.cell (i := 2) rfl
      have t2 := k3.cell (i := 2) rfl
      have u2 := k4.cell (i := 2) rfl
      have c0 := k2.cell (i := 0) rfl
      have c1 := k2.cell (i := 1) rfl
      have c2 := k2.cell (i := 2) rfl
      have c3 := k2.cell (i := 3) rfl
      have c4 := k2.cell (i := 4) rfl
      clear k1 k2 k3 k4
      go_wp2_with fail
      clear m0 m1 m2 t0 t1 t2 u0 u1 u2 c0 c1 c2 c3 c4
      go_loopw [23] (fun i wr => ∃ k : Nat, k ≤ n ∧ i = .int .i64 (k : Int) ∧ Below V7.heap.size V7 wr) (fun i _ => n - (intOf i).toNat)
      case atStart => exact ⟨0, Nat.zero_le _, rfl, hT⟩
      case round =>
        clear hS hT hB0
        obtain ⟨k, hk, rfl, hbw⟩ := hrel
        have k1 := k1H.out.below hbw lk1
        have k2 := k2H.out.below hbw lk2
        have k3 := k3H.out.below hbw lk3
        have k4 := k4H.out.below hbw lk4
        have m0 := k1.cell (i := 0) rfl
        have t0 := k3.cell (i := 0) rfl
        have u0 := k4.cell (i := 0) rfl
        have m1 := k1.cell (i := 1) rfl
        have t1 := k3.cell (i := 1) rfl
        have u1 := k4.cell (i := 1) rfl
        have m2 := k1.cell (i := 2) rfl
        have t2 := k3.cell (i := 2) rfl
        have u2 := k4.cell (i := 2) rfl
        have c0 := k2.cell (i := 0) rfl
        have c1 := k2.cell (i := 1) rfl
        have c2 := k2.cell (i := 2) rfl
        have c3 := k2.cell (i := 3) rfl
        have c4 := k2.cell (i := 4) rfl
        clear k1 k2 k3 k4
        by_cases hlt : k < n
        case neg =>
          have hnl : ¬ ((k : Int) < (n : Int)) := by omega
          have hnd : decide ((k : Int) < (n : Int)) = false := decide_eq_false hnl
          go_wp2_with fail
          go_ret
          exact ⟨rfl, hB.trans (hbw.mono hB.size)⟩
        case pos =>
          have hnl : (k : Int) < (n : Int) := by omega
          have hnd : decide ((k : Int) < (n : Int)) = true := decide_eq_true hnl
          have hkp : k < pw * ph := by rw [← hnpqH.out]; exact hlt
          have zL := zLH.out k hlt
          have zH := zHH.out k hlt
          have eL : LO[k]?.getD 0 = loF pw ph xs sn gl (-(off + noi)) k := by rw [← hLH.out, List.getElem?_map, List.getElem?_range hkp]; rfl
          have eH : HI[k]?.getD 0 = hiF pw ph xs sn gh (off + noi) k := by rw [← hHH.out, List.getElem?_map, List.getElem?_range hkp]; rfl
          rw [eL] at zL
          rw [eH] at zH
          replace zL := (hZB.cell (p := ⟨bp, op + k, none⟩) hbp).trans zL
          replace zH := (hZB.cell (p := ⟨bq, oq + k, none⟩) hbq).trans zH
          have hmdl : k % pw < pw := Nat.mod_lt _ (by omega)
          have hdvl : k / pw < ph := Nat.div_lt_of_lt_mul hkp
          have hin := fun (ad : Int) (h1 : -(off + noi) ≤ ad) (h2 : ad ≤ off + noi) => And.intro (chg_lo (pw := pw) (ph := ph) (s := sn) (i := k) hbyH.out (show gl ≤ gl + G0 by omega) h1 (X := X0 - sn) (Y := Y0 - sn) (by omega) (by omega) (by omega) (by omega)) (chg_hi (pw := pw) (ph := ph) (s := sn) (i := k) hbyH.out (show gl + G0 ≤ gh by omega) h2 (X := X0 - sn) (Y := Y0 - sn) (by omega) (by omega) (by omega) (by omega))
          obtain ⟨y, hye⟩ : ∃ y, k / pw = y := ⟨_, rfl⟩
          obtain ⟨x, hxe⟩ : ∃ x, k % pw = x := ⟨_, rfl⟩
          have hyq : (k : Int).tdiv (pw : Int) = (y : Int) := by rw [← hye, ← Int.ofNat_tdiv]
          have hxq : (k : Int).tmod (pw : Int) = (x : Int) := by rw [← hxe, ← Int.ofNat_tmod]
          have hyqe : (k : Int) / (pw : Int) = (y : Int) := by rw [← hye]; simp
          have hxqe : (k : Int) % (pw : Int) = (x : Int) := by rw [← hxe]; simp
          rw [show cX pw k = (x : Int) by rw [← hxe]; rfl, show cY pw k = (y : Int) by rw [← hye]; rfl] at hin
          rw [hxe] at hmdl
          rw [hye] at hdvl
          obtain ⟨lov, hlov⟩ : ∃ z, loF pw ph xs sn gl (-(off + noi)) k = z := ⟨_, rfl⟩
          obtain ⟨hiv, hhiv⟩ : ∃ z, hiF pw ph xs sn gh (off + noi) k = z := ⟨_, rfl⟩
          rw [hlov] at zL hin
          rw [hhiv] at zH hin
          have hpw0 : ¬ pw = 0 := by omega
          have hinH := Lib.hid hin
          clear hlov hhiv eL eH hxe hye hin
          have hcall := fun (ad : Int) (h1 : -(off + noi) ≤ ad) (h2 : ad ≤ off + noi) (W' : World) (hb : Below V7.heap.size V7 W') => changed_any pw ph a c n xs hn (by omega) (by omega) (by omega) (by omega) hlenH hbyH ((x : Int) + (X0 - sn)) ((y : Int) + (Y0 - sn)) (gl + G0) ad (by omega) (by omega) (by omega) (by omega) (by omega) (by omega) (by omega) (by omega) _ (Lib.hid rfl) W' (later_i riH.out hb)
          have hcallH := Lib.hid hcall
          clear hcall
          by_cases hz0 : 0 < zn
          case neg =>
            have hzd : decide ((0 : Int) < (zn : Int)) = false := decide_eq_false (by omega)
            have hzd2 : ¬ ((0 : Int) < (zn : Int)) := by omega
            obtain ⟨vv, hvv⟩ : ∃ z, spV (gl + G0) (O0 - off) (beyF 2 pw ph xs ((x : Int) + (X0 - sn)) ((y : Int) + (Y0 - sn))) = z := ⟨_, rfl⟩
            have hch := hcallH.out (O0 - off) (by omega) (by omega)
            obtain ⟨q1, q2⟩ := hinH.out (O0 - off) (by omega) (by omega)
            rw [hvv] at hch q1 q2
            have hchH := Lib.hid hch
            have q1d : decide (vv < lov) = false := decide_eq_false (by omega)
            have q1n : ¬ (vv < lov) := by omega
            have q2d : decide (hiv < vv) = false := decide_eq_false (by omega)
            have q2n : ¬ (hiv < vv) := by omega
            clear hch hvv hcallH hinH
            go_wp2_with fail
            clear m0 m1 m2 t0 t1 t2 u0 u1 u2 c0 c1 c2 c3 c4
            have hT : Below V7.heap.size V7 wr.drew := hbw.drew
            refine plain_region (fun W' => Below V7.heap.size V7 W') 19 19 (by kernel_rfl) rfl ?_
            simp only [Array.replicate_succ, Array.replicate_zero, List.push_toArray, List.nil_append, List.cons_append]
            obtain ⟨XX, hXXX⟩ : ∃ X : World, wr.drew = X := ⟨_, rfl⟩
            rw [hXXX] at hT ⊢
            clear hXXX
            refine take_op 0 (v := ?dv0) rfl (by kernel_rfl) (fun _ _ _ h => h) (by rfl) hT (fun w' hS' => ?dy0) ?dz0
            case dy0 =>
              have k1 := k1H.out.below hS' lk1
              have k2 := k2H.out.below hS' lk2
              have k3 := k3H.out.below hS' lk3
              have k4 := k4H.out.below hS' lk4
              have m0 := k1.cell (i := 0) rfl
              have t0 := k3.cell (i := 0) rfl
              have u0 := k4.cell (i := 0) rfl
              have m1 := k1.cell (i := 1) rfl
              have t1 := k3.cell (i := 1) rfl
              have u1 := k4.cell (i := 1) rfl
              have m2 := k1.cell (i := 2) rfl
              have t2 := k3.cell (i := 2) rfl
              have u2 := k4.cell (i := 2) rfl
              have c0 := k2.cell (i := 0) rfl
              have c1 := k2.cell (i := 1) rfl
              have c2 := k2.cell (i := 2) rfl
              have c3 := k2.cell (i := 3) rfl
              have c4 := k2.cell (i := 4) rfl
              clear k1 k2 k3 k4
              clear hS'
              go_simp
              rfl
            simp only [List.setIfInBounds_toArray, List.set_cons_zero, List.set_cons_succ]
            refine take_op 1 (v := ?dv1) rfl (by kernel_rfl) (fun _ _ _ h => h) (by rfl) hT (fun w' hS' => ?dy1) ?dz1
            case dy1 =>
              go_simp
              rfl
            simp only [List.setIfInBounds_toArray, List.set_cons_zero, List.set_cons_succ]
            refine take_op 2 (v := ?dv2) rfl (by kernel_rfl) (fun _ _ _ h => h) (by rfl) hT (fun w' hS' => ?dy2) ?dz2
            case dy2 =>
              go_simp
              rfl
            simp only [List.setIfInBounds_toArray, List.set_cons_zero, List.set_cons_succ]
            refine take_op 3 (v := ?dv3) rfl (by kernel_rfl) (fun _ _ _ h => h) (by rfl) hT (fun w' hS' => ?dy3) ?dz3
            case dy3 =>
              have k1 := k1H.out.below hS' lk1
              have k2 := k2H.out.below hS' lk2
              have k3 := k3H.out.below hS' lk3
              have k4 := k4H.out.below hS' lk4
              have m0 := k1.cell (i := 0) rfl
              have t0 := k3.cell (i := 0) rfl
              have u0 := k4.cell (i := 0) rfl
              have m1 := k1.cell (i := 1) rfl
              have t1 := k3.cell (i := 1) rfl
              have u1 := k4.cell (i := 1) rfl
              have m2 := k1.cell (i := 2) rfl
              have t2 := k3.cell (i := 2) rfl
              have u2 := k4.cell (i := 2) rfl
              have c0 := k2.cell (i := 0) rfl
              have c1 := k2.cell (i := 1) rfl
              have c2 := k2.cell (i := 2) rfl
              have c3 := k2.cell (i := 3) rfl
              have c4 := k2.cell (i := 4) rfl
              clear k1 k2 k3 k4
              clear hS'
              go_simp
              rfl
            simp only [List.setIfInBounds_toArray, List.set_cons_zero, List.set_cons_succ]
            refine take_op 4 (v := .int .i64 (x : Int)) rfl (by kernel_rfl) (fun _ _ _ h => h) (by rfl) hT (fun w' hS' => ?dy4) ?dz4
            case dy4 =>
              clear hS'
              go_simp
              try go_ints
              try rw [if_neg (by omega)]
              try simp only [hxq, hxqe]
              first | done | rfl | trivial
            simp only [List.setIfInBounds_toArray, List.set_cons_zero, List.set_cons_succ]
            refine take_op 5 (v := ?dv5) rfl (by kernel_rfl) (fun _ _ _ h => h) (by rfl) hT (fun w' hS' => ?dy5) ?dz5
            case dy5 =>
              go_simp
              rfl
            simp only [List.setIfInBounds_toArray, List.set_cons_zero, List.set_cons_succ]
            refine take_op 6 (v := ?dv6) rfl (by kernel_rfl) (fun _ _ _ h => h) (by rfl) hT (fun w' hS' => ?dy6) ?dz6
            case dy6 =>
              go_simp
              try go_ints
              rfl
            simp only [List.setIfInBounds_toArray, List.set_cons_zero, List.set_cons_succ]
            refine take_op 7 (v := ?dv7) rfl (by kernel_rfl) (fun _ _ _ h => h) (by rfl) hT (fun w' hS' => ?dy7) ?dz7
            case dy7 =>
              go_simp
              rfl
            simp only [List.setIfInBounds_toArray, List.set_cons_zero, List.set_cons_succ]
            refine take_op 8 (v := ?dv8) rfl (by kernel_rfl) (fun _ _ _ h => h) (by rfl) hT (fun w' hS' => ?dy8) ?dz8
            case dy8 =>
              go_simp
              rfl
            simp only [List.setIfInBounds_toArray, List.set_cons_zero, List.set_cons_succ]
            refine take_op 9 (v := ?dv9) rfl (by kernel_rfl) (fun _ _ _ h => h) (by rfl) hT (fun w' hS' => ?dy9) ?dz9
            case dy9 =>
              have k1 := k1H.out.below hS' lk1
              have k2 := k2H.out.below hS' lk2
              have k3 := k3H.out.below hS' lk3
              have k4 := k4H.out.below hS' lk4
              have m0 := k1.cell (i := 0) rfl
              have t0 := k3.cell (i := 0) rfl
              have u0 := k4.cell (i := 0) rfl
              have m1 := k1.cell (i := 1) rfl
              have t1 := k3.cell (i := 1) rfl
              have u1 := k4.cell (i := 1) rfl
              have m2 := k1.cell (i := 2) rfl
              have t2 := k3.cell (i := 2) rfl
              have u2 := k4.cell (i := 2) rfl
              have c0 := k2.cell (i := 0) rfl
              have c1 := k2.cell (i := 1) rfl
              have c2 := k2.cell (i := 2) rfl
              have c3 := k2.cell (i := 3) rfl
              have c4 := k2.cell (i := 4) rfl
              clear k1 k2 k3 k4
              clear hS'
              go_simp
              rfl
            simp only [List.setIfInBounds_toArray, List.set_cons_zero, List.set_cons_succ]
            refine take_op 10 (v := .int .i64 (y : Int)) rfl (by kernel_rfl) (fun _ _ _ h => h) (by rfl) hT (fun w' hS' => ?dy10) ?dz10
            case dy10 =>
              clear hS'
              go_simp
              try go_ints
              try rw [if_neg (by omega)]
              try simp only [hyq, hyqe]
              first | done | rfl | trivial
            simp only [List.setIfInBounds_toArray, List.set_cons_zero, List.set_cons_succ]
            refine take_op 11 (v := ?dv11) rfl (by kernel_rfl) (fun _ _ _ h => h) (by rfl) hT (fun w' hS' => ?dy11) ?dz11
            case dy11 =>
              go_simp
              rfl
            simp only [List.setIfInBounds_toArray, List.set_cons_zero, List.set_cons_succ]
            refine take_op 12 (v := ?dv12) rfl (by kernel_rfl) (fun _ _ _ h => h) (by rfl) hT (fun w' hS' => ?dy12) ?dz12
            case dy12 =>
              go_simp
              try go_ints
              rfl
            simp only [List.setIfInBounds_toArray, List.set_cons_zero, List.set_cons_succ]
            refine take_op 13 (v := ?dv13) rfl (by kernel_rfl) (fun _ _ _ h => h) (by rfl) hT (fun w' hS' => ?dy13) ?dz13
            case dy13 =>
              go_simp
              rfl
            simp only [List.setIfInBounds_toArray, List.set_cons_zero, List.set_cons_succ]
            refine take_op 14 (v := ?dv14) rfl (by kernel_rfl) (fun _ _ _ h => h) (by rfl) hT (fun w' hS' => ?dy14) ?dz14
            case dy14 =>
              go_simp
              rfl
            simp only [List.setIfInBounds_toArray, List.set_cons_zero, List.set_cons_succ]
            refine take_op 15 (v := ?dv15) rfl (by kernel_rfl) (fun _ _ _ h => h) (by rfl) hT (fun w' hS' => ?dy15) ?dz15
            case dy15 =>
              go_simp
              rfl
            simp only [List.setIfInBounds_toArray, List.set_cons_zero, List.set_cons_succ]
            refine take_op 16 (v := ?dv16) rfl (by kernel_rfl) (fun _ _ _ h => h) (by rfl) hT (fun w' hS' => ?dy16) ?dz16
            case dy16 =>
              go_simp
              try go_ints
              rfl
            simp only [List.setIfInBounds_toArray, List.set_cons_zero, List.set_cons_succ]
            refine step_op 17 (by kernel_rfl) rfl (fun K hK => ?_)
            rw [if_pos (by rfl)]
            go_simp
            refine (hchH.out XX hT).mono ?_
            rintro e Y1 ⟨rfl, hb1⟩
            have hTc : Below V7.heap.size V7 Y1 := hT.trans (hb1.mono hT.size)
            clear hb1
            refine hK.out _ _ (fun h => hTc) ?_
            clear hK K
            try simp only [Act.put, List.setIfInBounds_toArray, List.set_cons_zero, List.set_cons_succ]
            refine take_op 18 (v := ?dv18) rfl (by kernel_rfl) (fun _ _ _ h => h) (by rfl) hTc (fun w' hS' => ?dy18) ?dz18
            case dy18 =>
              go_simp
              rfl
            simp only [List.setIfInBounds_toArray, List.set_cons_zero, List.set_cons_succ]
            refine done_ops (by kernel_rfl) ?_
            have k1 := k1H.out.below hTc lk1
            have k2 := k2H.out.below hTc lk2
            have k3 := k3H.out.below hTc lk3
            have k4 := k4H.out.below hTc lk4
            have m0 := k1.cell (i := 0) rfl
            have t0 := k3.cell (i := 0) rfl
            have u0 := k4.cell (i := 0) rfl
            have m1 := k1.cell (i := 1) rfl
            have t1 := k3.cell (i := 1) rfl
            have u1 := k4.cell (i := 1) rfl
            have m2 := k1.cell (i := 2) rfl
            have t2 := k3.cell (i := 2) rfl
            have u2 := k4.cell (i := 2) rfl
            have c0 := k2.cell (i := 0) rfl
            have c1 := k2.cell (i := 1) rfl
            have c2 := k2.cell (i := 2) rfl
            have c3 := k2.cell (i := 3) rfl
            have c4 := k2.cell (i := 4) rfl
            clear k1 k2 k3 k4
            have z1 := (hTc.cell (p := ⟨bp, op + k, none⟩) hbpV).trans zL
            have z2 := (hTc.cell (p := ⟨bq, oq + k, none⟩) hbqV).trans zH
            go_wp2_with fail
            go_roundw
            case rel => exact ⟨k + 1, by omega, by go_num, hTc⟩
            case measure => simp [intOf]; omega
          case pos =>
            have hzd : decide ((0 : Int) < (zn : Int)) = true := decide_eq_true (by omega)
            have hzd2 : ((0 : Int) < (zn : Int)) := by omega
            have hri : (k : Int).tmod (zn : Int) = ((k % zn : Nat) : Int) := by rw [← Int.ofNat_tmod]
            obtain ⟨r, hr⟩ : ∃ r, k % zn = r := ⟨_, rfl⟩
            have hrl : r < zn := by rw [← hr]; exact Nat.mod_lt _ hz0
            have hrie : (k : Int) % (zn : Int) = (r : Int) := by rw [← hr]; simp
            rw [hr] at hri
            rcases rzH.out with h0 | ⟨bz, oz, rfl, hbz, hcz⟩
            · have := hzn.out; rw [h0] at this; simp at this; omega
            have zc := hcz r (by rw [hzn.out]; exact hrl)
            obtain ⟨u, hu⟩ : ∃ u, zs[r]?.getD 0 = u := ⟨_, rfl⟩
            rw [hu] at zc
            obtain ⟨N0, hN0⟩ : ∃ z, (u : Int).tmod (2 * noi + 1) = z := ⟨_, rfl⟩
            have bN := tm_bd (show 0 ≤ (u : Int) by omega) (show (0 : Int) < 2 * noi + 1 by omega)
            have hN0e : (u : Int) % (2 * noi + 1) = N0 := by rw [← Int.tmod_eq_emod_of_nonneg (by omega)]; exact hN0
            rw [hN0] at bN
            have hub : u < 256 := by
              rw [← hu, List.getElem?_eq_getElem (by rw [hzn.out]; exact hrl)]
              exact hzbH.out _ (List.getElem_mem _)
            have zcH := Lib.hid zc
            have hzn0 : ¬ zn = 0 := by omega
            obtain ⟨vv, hvv⟩ : ∃ z, spV (gl + G0) (O0 - off + (N0 - noi)) (beyF 2 pw ph xs ((x : Int) + (X0 - sn)) ((y : Int) + (Y0 - sn))) = z := ⟨_, rfl⟩
            have hch := hcallH.out (O0 - off + (N0 - noi)) (by omega) (by omega)
            obtain ⟨q1, q2⟩ := hinH.out (O0 - off + (N0 - noi)) (by omega) (by omega)
            rw [hvv] at hch q1 q2
            have hchH := Lib.hid hch
            have q1d : decide (vv < lov) = false := decide_eq_false (by omega)
            have q1n : ¬ (vv < lov) := by omega
            have q2d : decide (hiv < vv) = false := decide_eq_false (by omega)
            have q2n : ¬ (hiv < vv) := by omega
            clear hch hvv hcallH hinH zc hu hr hcz
            go_wp2_with fail
            clear m0 m1 m2 t0 t1 t2 u0 u1 u2 c0 c1 c2 c3 c4
            have hS : Below V7.heap.size V7 wr.drew := hbw.drew
            refine plain_region (fun W' => Below V7.heap.size V7 W') 17 17 (by kernel_rfl) rfl ?_
            simp only [Array.replicate_succ, Array.replicate_zero, List.push_toArray, List.nil_append, List.cons_append]
            refine take_op 0 (v := ?cv0) rfl (by kernel_rfl) (fun _ _ _ h => h) (by rfl) hS (fun w' hS' => ?cy0) ?cz0
            case cy0 =>
              go_simp
              rfl
            simp only [List.setIfInBounds_toArray, List.set_cons_zero, List.set_cons_succ]
            refine take_op 1 (v := ?cv1) rfl (by kernel_rfl) (fun _ _ _ h => h) (by rfl) hS (fun w' hS' => ?cy1) ?cz1
            case cy1 =>
              go_simp
              rfl
            simp only [List.setIfInBounds_toArray, List.set_cons_zero, List.set_cons_succ]
            refine take_op 2 (v := ?cv2) rfl (by kernel_rfl) (fun _ _ _ h => h) (by rfl) hS (fun w' hS' => ?cy2) ?cz2
            case cy2 =>
              go_simp
              rfl
            simp only [List.setIfInBounds_toArray, List.set_cons_zero, List.set_cons_succ]
            refine take_op 3 (v := ?cv3) rfl (by kernel_rfl) (fun _ _ _ h => h) (by rfl) hS (fun w' hS' => ?cy3) ?cz3
            case cy3 =>
              go_simp
              rfl
            simp only [List.setIfInBounds_toArray, List.set_cons_zero, List.set_cons_succ]
            refine take_op 4 (v := .int .i64 (r : Int)) rfl (by kernel_rfl) (fun _ _ _ h => h) (by rfl) hS (fun w' hS' => ?cy4) ?cz4
            case cy4 =>
              clear hS'
              go_simp
              try go_ints
              try rw [if_neg (by omega)]
              try simp only [hri, hrie]
              first | done | rfl | trivial
            simp only [List.setIfInBounds_toArray, List.set_cons_zero, List.set_cons_succ]
            refine take_op 5 (v := ?cv5) rfl (by kernel_rfl) (fun _ _ _ h => h) (by rfl) hS (fun w' hS' => ?cy5) ?cz5
            case cy5 =>
              go_simp
              try go_ints
              first
              | rfl
              | (rw [if_pos (by omega)]; done)
              | rw [if_pos ⟨by omega, by omega⟩]
            simp only [List.setIfInBounds_toArray, List.set_cons_zero, List.set_cons_succ]
            refine take_op 6 (v := ?cv6) rfl (by kernel_rfl) (fun _ _ _ h => h) (by rfl) hS (fun w' hS' => ?cy6) ?cz6
            case cy6 =>
              have zc := (hS'.cell (p := ⟨bz, oz + r, none⟩) hbz).trans zcH.out
              clear hS'
              go_simp
              rfl
            simp only [List.setIfInBounds_toArray, List.set_cons_zero, List.set_cons_succ]
            refine take_op 7 (v := ?cv7) rfl (by kernel_rfl) (fun _ _ _ h => h) (by rfl) hS (fun w' hS' => ?cy7) ?cz7
            case cy7 =>
              go_simp
              rfl
            simp only [List.setIfInBounds_toArray, List.set_cons_zero, List.set_cons_succ]
            refine take_op 8 (v := ?cv8) rfl (by kernel_rfl) (fun _ _ _ h => h) (by rfl) hS (fun w' hS' => ?cy8) ?cz8
            case cy8 =>
              go_simp
              rfl
            simp only [List.setIfInBounds_toArray, List.set_cons_zero, List.set_cons_succ]
            refine take_op 9 (v := ?cv9) rfl (by kernel_rfl) (fun _ _ _ h => h) (by rfl) hS (fun w' hS' => ?cy9) ?cz9
            case cy9 =>
              have k1 := k1H.out.below hS' lk1
              have k2 := k2H.out.below hS' lk2
              have k3 := k3H.out.below hS' lk3
              have k4 := k4H.out.below hS' lk4
              have m0 := k1.cell (i := 0) rfl
              have t0 := k3.cell (i := 0) rfl
              have u0 := k4.cell (i := 0) rfl
              have m1 := k1.cell (i := 1) rfl
              have t1 := k3.cell (i := 1) rfl
              have u1 := k4.cell (i := 1) rfl
              have m2 := k1.cell (i := 2) rfl
              have t2 := k3.cell (i := 2) rfl
              have u2 := k4.cell (i := 2) rfl
              have c0 := k2.cell (i := 0) rfl
              have c1 := k2.cell (i := 1) rfl
              have c2 := k2.cell (i := 2) rfl
              have c3 := k2.cell (i := 3) rfl
              have c4 := k2.cell (i := 4) rfl
              clear k1 k2 k3 k4
              clear hS'
              go_simp
              rfl
            simp only [List.setIfInBounds_toArray, List.set_cons_zero, List.set_cons_succ]
            refine take_op 10 (v := ?cv10) rfl (by kernel_rfl) (fun _ _ _ h => h) (by rfl) hS (fun w' hS' => ?cy10) ?cz10
            case cy10 =>
              go_simp
              try go_ints
              rfl
            simp only [List.setIfInBounds_toArray, List.set_cons_zero, List.set_cons_succ]
            refine take_op 11 (v := ?cv11) rfl (by kernel_rfl) (fun _ _ _ h => h) (by rfl) hS (fun w' hS' => ?cy11) ?cz11
            case cy11 =>
              go_simp
              try go_ints
              rfl
            simp only [List.setIfInBounds_toArray, List.set_cons_zero, List.set_cons_succ]
            refine take_op 12 (v := .int .i64 N0) rfl (by kernel_rfl) (fun _ _ _ h => h) (by rfl) hS (fun w' hS' => ?cy12) ?cz12
            case cy12 =>
              clear hS'
              go_simp
              try go_ints
              try rw [if_neg (by omega)]
              try simp only [hN0, hN0e]
              first | done | rfl | trivial
            simp only [List.setIfInBounds_toArray, List.set_cons_zero, List.set_cons_succ]
            refine take_op 13 (v := ?cv13) rfl (by kernel_rfl) (fun _ _ _ h => h) (by rfl) hS (fun w' hS' => ?cy13) ?cz13
            case cy13 =>
              go_simp
              rfl
            simp only [List.setIfInBounds_toArray, List.set_cons_zero, List.set_cons_succ]
            refine take_op 14 (v := ?cv14) rfl (by kernel_rfl) (fun _ _ _ h => h) (by rfl) hS (fun w' hS' => ?cy14) ?cz14
            case cy14 =>
              have k1 := k1H.out.below hS' lk1
              have k2 := k2H.out.below hS' lk2
              have k3 := k3H.out.below hS' lk3
              have k4 := k4H.out.below hS' lk4
              have m0 := k1.cell (i := 0) rfl
              have t0 := k3.cell (i := 0) rfl
              have u0 := k4.cell (i := 0) rfl
              have m1 := k1.cell (i := 1) rfl
              have t1 := k3.cell (i := 1) rfl
              have u1 := k4.cell (i := 1) rfl
              have m2 := k1.cell (i := 2) rfl
              have t2 := k3.cell (i := 2) rfl
              have u2 := k4.cell (i := 2) rfl
              have c0 := k2.cell (i := 0) rfl
              have c1 := k2.cell (i := 1) rfl
              have c2 := k2.cell (i := 2) rfl
              have c3 := k2.cell (i := 3) rfl
              have c4 := k2.cell (i := 4) rfl
              clear k1 k2 k3 k4
              clear hS'
              go_simp
              rfl
            simp only [List.setIfInBounds_toArray, List.set_cons_zero, List.set_cons_succ]
            refine take_op 15 (v := ?cv15) rfl (by kernel_rfl) (fun _ _ _ h => h) (by rfl) hS (fun w' hS' => ?cy15) ?cz15
            case cy15 =>
              go_simp
              try go_ints
              rfl
            simp only [List.setIfInBounds_toArray, List.set_cons_zero, List.set_cons_succ]
            refine take_op 16 (v := ?cv16) rfl (by kernel_rfl) (fun _ _ _ h => h) (by rfl) hS (fun w' hS' => ?cy16) ?cz16
            case cy16 =>
              go_simp
              rfl
            simp only [List.setIfInBounds_toArray, List.set_cons_zero, List.set_cons_succ]
            refine done_ops (by kernel_rfl) ?_
            have k1 := k1H.out.below hS lk1
            have k2 := k2H.out.below hS lk2
            have k3 := k3H.out.below hS lk3
            have k4 := k4H.out.below hS lk4
            have m0 := k1.cell (i := 0) rfl
            have t0 := k3.cell (i := 0) rfl
            have u0 := k4.cell (i := 0) rfl
            have m1 := k1.cell (i := 1) rfl
            have t1 := k3.cell (i := 1) rfl
            have u1 := k4.cell (i := 1) rfl
            have m2 := k1.cell (i := 2) rfl
            have t2 := k3.cell (i := 2) rfl
            have u2 := k4.cell (i := 2) rfl
            have c0 := k2.cell (i := 0) rfl
            have c1 := k2.cell (i := 1) rfl
            have c2 := k2.cell (i := 2) rfl
            have c3 := k2.cell (i := 3) rfl
            have c4 := k2.cell (i := 4) rfl
            clear k1 k2 k3 k4
            go_wp2_with fail
            clear m0 m1 m2 t0 t1 t2 u0 u1 u2 c0 c1 c2 c3 c4
            have hT : Below V7.heap.size V7 wr.drew.drew := hS.drew
            refine plain_region (fun W' => Below V7.heap.size V7 W') 19 19 (by kernel_rfl) rfl ?_
            simp only [Array.replicate_succ, Array.replicate_zero, List.push_toArray, List.nil_append, List.cons_append]
            obtain ⟨XX, hXXX⟩ : ∃ X : World, wr.drew.drew = X := ⟨_, rfl⟩
            rw [hXXX] at hT ⊢
            clear hXXX
            refine take_op 0 (v := ?ev0) rfl (by kernel_rfl) (fun _ _ _ h => h) (by rfl) hT (fun w' hS' => ?ey0) ?ez0
            case ey0 =>
              have k1 := k1H.out.below hS' lk1
              have k2 := k2H.out.below hS' lk2
              have k3 := k3H.out.below hS' lk3
              have k4 := k4H.out.below hS' lk4
              have m0 := k1.cell (i := 0) rfl
              have t0 := k3.cell (i := 0) rfl
              have u0 := k4.cell (i := 0) rfl
              have m1 := k1.cell (i := 1) rfl
              have t1 := k3.cell (i := 1) rfl
              have u1 := k4.cell (i := 1) rfl
              have m2 := k1.cell (i := 2) rfl
              have t2 := k3.cell (i := 2) rfl
              have u2 := k4.cell (i := 2) rfl
              have c0 := k2.cell (i := 0) rfl
              have c1 := k2.cell (i := 1) rfl
              have c2 := k2.cell (i := 2) rfl
              have c3 := k2.cell (i := 3) rfl
              have c4 := k2.cell (i := 4) rfl
              clear k1 k2 k3 k4
              clear hS'
              go_simp
              rfl
            simp only [List.setIfInBounds_toArray, List.set_cons_zero, List.set_cons_succ]
            refine take_op 1 (v := ?ev1) rfl (by kernel_rfl) (fun _ _ _ h => h) (by rfl) hT (fun w' hS' => ?ey1) ?ez1
            case ey1 =>
              go_simp
              rfl
            simp only [List.setIfInBounds_toArray, List.set_cons_zero, List.set_cons_succ]
            refine take_op 2 (v := ?ev2) rfl (by kernel_rfl) (fun _ _ _ h => h) (by rfl) hT (fun w' hS' => ?ey2) ?ez2
            case ey2 =>
              go_simp
              rfl
            simp only [List.setIfInBounds_toArray, List.set_cons_zero, List.set_cons_succ]
            refine take_op 3 (v := ?ev3) rfl (by kernel_rfl) (fun _ _ _ h => h) (by rfl) hT (fun w' hS' => ?ey3) ?ez3
            case ey3 =>
              have k1 := k1H.out.below hS' lk1
              have k2 := k2H.out.below hS' lk2
              have k3 := k3H.out.below hS' lk3
              have k4 := k4H.out.below hS' lk4
              have m0 := k1.cell (i := 0) rfl
              have t0 := k3.cell (i := 0) rfl
              have u0 := k4.cell (i := 0) rfl
              have m1 := k1.cell (i := 1) rfl
              have t1 := k3.cell (i := 1) rfl
              have u1 := k4.cell (i := 1) rfl
              have m2 := k1.cell (i := 2) rfl
              have t2 := k3.cell (i := 2) rfl
              have u2 := k4.cell (i := 2) rfl
              have c0 := k2.cell (i := 0) rfl
              have c1 := k2.cell (i := 1) rfl
              have c2 := k2.cell (i := 2) rfl
              have c3 := k2.cell (i := 3) rfl
              have c4 := k2.cell (i := 4) rfl
              clear k1 k2 k3 k4
              clear hS'
              go_simp
              rfl
            simp only [List.setIfInBounds_toArray, List.set_cons_zero, List.set_cons_succ]
            refine take_op 4 (v := .int .i64 (x : Int)) rfl (by kernel_rfl) (fun _ _ _ h => h) (by rfl) hT (fun w' hS' => ?ey4) ?ez4
            case ey4 =>
              clear hS'
              go_simp
              try go_ints
              try rw [if_neg (by omega)]
              try simp only [hxq, hxqe]
              first | done | rfl | trivial
            simp only [List.setIfInBounds_toArray, List.set_cons_zero, List.set_cons_succ]
            refine take_op 5 (v := ?ev5) rfl (by kernel_rfl) (fun _ _ _ h => h) (by rfl) hT (fun w' hS' => ?ey5) ?ez5
            case ey5 =>
              go_simp
              rfl
            simp only [List.setIfInBounds_toArray, List.set_cons_zero, List.set_cons_succ]
            refine take_op 6 (v := ?ev6) rfl (by kernel_rfl) (fun _ _ _ h => h) (by rfl) hT (fun w' hS' => ?ey6) ?ez6
            case ey6 =>
              go_simp
              try go_ints
              rfl
            simp only [List.setIfInBounds_toArray, List.set_cons_zero, List.set_cons_succ]
            refine take_op 7 (v := ?ev7) rfl (by kernel_rfl) (fun _ _ _ h => h) (by rfl) hT (fun w' hS' => ?ey7) ?ez7
            case ey7 =>
              go_simp
              rfl
            simp only [List.setIfInBounds_toArray, List.set_cons_zero, List.set_cons_succ]
            refine take_op 8 (v := ?ev8) rfl (by kernel_rfl) (fun _ _ _ h => h) (by rfl) hT (fun w' hS' => ?ey8) ?ez8
            case ey8 =>
              go_simp
              rfl
            simp only [List.setIfInBounds_toArray, List.set_cons_zero, List.set_cons_succ]
            refine take_op 9 (v := ?ev9) rfl (by kernel_rfl) (fun _ _ _ h => h) (by rfl) hT (fun w' hS' => ?ey9) ?ez9
            case ey9 =>
              have k1 := k1H.out.below hS' lk1
              have k2 := k2H.out.below hS' lk2
              have k3 := k3H.out.below hS' lk3
              have k4 := k4H.out.below hS' lk4
              have m0 := k1.cell (i := 0) rfl
              have t0 := k3.cell (i := 0) rfl
              have u0 := k4.cell (i := 0) rfl
              have m1 := k1.cell (i := 1) rfl
              have t1 := k3.cell (i := 1) rfl
              have u1 := k4.cell (i := 1) rfl
              have m2 := k1.cell (i := 2) rfl
              have t2 := k3.cell (i := 2) rfl
              have u2 := k4.cell (i := 2) rfl
              have c0 := k2.cell (i := 0) rfl
              have c1 := k2.cell (i := 1) rfl
              have c2 := k2.cell (i := 2) rfl
              have c3 := k2.cell (i := 3) rfl
              have c4 := k2.cell (i := 4) rfl
              clear k1 k2 k3 k4
              clear hS'
              go_simp
              rfl
            simp only [List.setIfInBounds_toArray, List.set_cons_zero, List.set_cons_succ]
            refine take_op 10 (v := .int .i64 (y : Int)) rfl (by kernel_rfl) (fun _ _ _ h => h) (by rfl) hT (fun w' hS' => ?ey10) ?ez10
            case ey10 =>
              clear hS'
              go_simp
              try go_ints
              try rw [if_neg (by omega)]
              try simp only [hyq, hyqe]
              first | done | rfl | trivial
            simp only [List.setIfInBounds_toArray, List.set_cons_zero, List.set_cons_succ]
            refine take_op 11 (v := ?ev11) rfl (by kernel_rfl) (fun _ _ _ h => h) (by rfl) hT (fun w' hS' => ?ey11) ?ez11
            case ey11 =>
              go_simp
              rfl
            simp only [List.setIfInBounds_toArray, List.set_cons_zero, List.set_cons_succ]
            refine take_op 12 (v := ?ev12) rfl (by kernel_rfl) (fun _ _ _ h => h) (by rfl) hT (fun w' hS' => ?ey12) ?ez12
            case ey12 =>
              go_simp
              try go_ints
              rfl
            simp only [List.setIfInBounds_toArray, List.set_cons_zero, List.set_cons_succ]
            refine take_op 13 (v := ?ev13) rfl (by kernel_rfl) (fun _ _ _ h => h) (by rfl) hT (fun w' hS' => ?ey13) ?ez13
            case ey13 =>
              go_simp
              rfl
            simp only [List.setIfInBounds_toArray, List.set_cons_zero, List.set_cons_succ]
            refine take_op 14 (v := ?ev14) rfl (by kernel_rfl) (fun _ _ _ h => h) (by rfl) hT (fun w' hS' => ?ey14) ?ez14
            case ey14 =>
              go_simp
              rfl
            simp only [List.setIfInBounds_toArray, List.set_cons_zero, List.set_cons_succ]
            refine take_op 15 (v := ?ev15) rfl (by kernel_rfl) (fun _ _ _ h => h) (by rfl) hT (fun w' hS' => ?ey15) ?ez15
            case ey15 =>
              go_simp
              rfl
            simp only [List.setIfInBounds_toArray, List.set_cons_zero, List.set_cons_succ]
            refine take_op 16 (v := ?ev16) rfl (by kernel_rfl) (fun _ _ _ h => h) (by rfl) hT (fun w' hS' => ?ey16) ?ez16
            case ey16 =>
              go_simp
              try go_ints
              rfl
            simp only [List.setIfInBounds_toArray, List.set_cons_zero, List.set_cons_succ]
            refine step_op 17 (by kernel_rfl) rfl (fun K hK => ?_)
            rw [if_pos (by rfl)]
            go_simp
            refine (hchH.out XX hT).mono ?_
            rintro e Y1 ⟨rfl, hb1⟩
            have hTc : Below V7.heap.size V7 Y1 := hT.trans (hb1.mono hT.size)
            clear hb1
            refine hK.out _ _ (fun h => hTc) ?_
            clear hK K
            try simp only [Act.put, List.setIfInBounds_toArray, List.set_cons_zero, List.set_cons_succ]
            refine take_op 18 (v := ?ev18) rfl (by kernel_rfl) (fun _ _ _ h => h) (by rfl) hTc (fun w' hS' => ?ey18) ?ez18
            case ey18 =>
              go_simp
              rfl
            simp only [List.setIfInBounds_toArray, List.set_cons_zero, List.set_cons_succ]
            refine done_ops (by kernel_rfl) ?_
            have k1 := k1H.out.below hTc lk1
            have k2 := k2H.out.below hTc lk2
            have k3 := k3H.out.below hTc lk3
            have k4 := k4H.out.below hTc lk4
            have m0 := k1.cell (i := 0) rfl
            have t0 := k3.cell (i := 0) rfl
            have u0 := k4.cell (i := 0) rfl
            have m1 := k1.cell (i := 1) rfl
            have t1 := k3.cell (i := 1) rfl
            have u1 := k4.cell (i := 1) rfl
            have m2 := k1.cell (i := 2) rfl
            have t2 := k3.cell (i := 2) rfl
            have u2 := k4.cell (i := 2) rfl
            have c0 := k2.cell (i := 0) rfl
            have c1 := k2.cell (i := 1) rfl
            have c2 := k2.cell (i := 2) rfl
            have c3 := k2.cell (i := 3) rfl
            have c4 := k2.cell (i := 4) rfl
            clear k1 k2 k3 k4
            have z1 := (hTc.cell (p := ⟨bp, op + k, none⟩) hbpV).trans zL
            have z2 := (hTc.cell (p := ⟨bq, oq + k, none⟩) hbqV).trans zH
            go_wp2_with fail
            go_roundw
            case rel => exact ⟨k + 1, by omega, by go_num, hTc⟩
            case measure => simp [intOf]; omega

end Go.Proofs.YtbfigbpjoaccdaaGreat

/- The walk of the law JudgeLinear: it returns true, and nothing that lay has turned. -/
import Derived.Test.YtbfigbpjoaccdaaGreatUHoldL
import Derived.Test.YtbfigbpjoaccdaaGreatQC23
import Derived.Test.YtbfigbpjoaccdaaGreatQC10
import Derived.Test.YtbfigbpjoaccdaaGreatQC9
import Derived.Test.YtbfigbpjoaccdaaGreatUImgQ
namespace Go.Proofs.YtbfigbpjoaccdaaGreat
open Go Go.RowKit Go.Shelf
set_option linter.unusedVariables false
set_option linter.unusedSimpArgs false

theorem sumTo_bd2 {F : List Int} (h : ∀ c : Nat, 0 ≤ F[c]?.getD 0 ∧ F[c]?.getD 0 ≤ 65280) : ∀ k, 0 ≤ sumTo (fun c => F[c]?.getD 0) k ∧ sumTo (fun c => F[c]?.getD 0) k ≤ 65280 * k
  | 0 => ⟨Int.le_refl _, by simp [sumTo]⟩
  | k + 1 => by
    have h1 := sumTo_bd2 h k
    have h2 := h k
    simp only [sumTo]
    omega
set_option maxRecDepth 100000 in
set_option maxHeartbeats 8000000 in
theorem law_linear (N : NetN) (na : Option Addr) (nn nc : Nat) (hnn : N.Ls.length = nn) (hz : NetSz N) (iw ih : Int) (a : Option Addr) (c n : Nat) (xs : List Int) (hn : Hid (xs.length = n)) (w : World) (hm : n * 8 ≤ 140737488355328)
    (rn : RdLs w.heap.size w na N.Ls) (r1 : Rd w.heap.size w a xs) :
    Calls Tryz.prog 13 #[netv N na nn nc, imv iw ih a n c] w fun e w' => e = .returned (.bool true) ∧ Below w.heap.size w w' := by
  have hB : Below w.heap.size w w := Below.refl _ _
  have hnnH := Lib.hid hnn
  have hzH := Lib.hid hz
  clear hnn hz
  obtain ⟨E, hE⟩ : ∃ v, chkF N [⟨iw, ih, xs⟩] = v := ⟨_, rfl⟩
  have hEH := Lib.hid hE
  have hbV1 : Below w.heap.size w (w.alloc (.cells #[.int .i64 N.w, .int .i64 N.h, .int .i64 N.gx, .int .i64 N.gy, .slice na nn nc, .int .i64 N.low, .int .i64 N.high] 24)) := jb_al (Below.refl _ w) _
  have k1 := Blk.new w 24 #[.int .i64 N.w, .int .i64 N.h, .int .i64 N.gx, .int .i64 N.gy, .slice na nn nc, .int .i64 N.low, .int .i64 N.high]
  obtain ⟨V1, hEV1⟩ : ∃ X, w.alloc (.cells #[.int .i64 N.w, .int .i64 N.h, .int .i64 N.gx, .int .i64 N.gy, .slice na nn nc, .int .i64 N.low, .int .i64 N.high] 24) = X := ⟨_, rfl⟩
  rw [hEV1] at hbV1 k1
  replace rn := later_l rn hbV1
  replace r1 := later_i r1 hbV1
  replace hB := hB.trans (hbV1.mono hB.size)
  clear hbV1
  have d0 := k1.cell (i := 0) rfl
  have d1 := k1.cell (i := 1) rfl
  have d2 := k1.cell (i := 2) rfl
  have d3 := k1.cell (i := 3) rfl
  have d4 := k1.cell (i := 4) rfl
  have d5 := k1.cell (i := 5) rfl
  have d6 := k1.cell (i := 6) rfl
  have hbV2 : Below V1.heap.size V1 (V1.alloc (.cells #[.int .i64 iw, .int .i64 ih, .slice a n c] 27)) := jb_al (Below.refl _ V1) _
  have k2 := Blk.new V1 27 #[.int .i64 iw, .int .i64 ih, .slice a n c]
  obtain ⟨V2, hEV2⟩ : ∃ X, V1.alloc (.cells #[.int .i64 iw, .int .i64 ih, .slice a n c] 27) = X := ⟨_, rfl⟩
  rw [hEV2] at hbV2 k2
  clear d0 d1 d2 d3 d4 d5 d6
  replace k1 := k1.below hbV2 k1.lt
  replace rn := later_l rn hbV2
  replace r1 := later_i r1 hbV2
  replace hB := hB.trans (hbV2.mono hB.size)
  clear hbV2
  have d0 := k1.cell (i := 0) rfl
  have d1 := k1.cell (i := 1) rfl
  have d2 := k1.cell (i := 2) rfl
  have d3 := k1.cell (i := 3) rfl
  have d4 := k1.cell (i := 4) rfl
  have d5 := k1.cell (i := 5) rfl
  have d6 := k1.cell (i := 6) rfl
  have m0 := k2.cell (i := 0) rfl
  have m1 := k2.cell (i := 1) rfl
  have m2 := k2.cell (i := 2) rfl
  by_cases hE0 : E = 0
  case neg =>
    rcases chkF_err (N := N) (ms := [⟨iw, ih, xs⟩]) (by rw [hE]; exact hE0) with h | h | h
    · rw [hE] at h
      subst h
      clear hE hE0
      go_enter Tryz.func13, Tryz.ntmps13
      go_wp2_with fail
      clear hEV1 hEV2
      have hc := alive8_any V2
      refine hc.mono ?_
      clear hc
      rintro e V3 ⟨rfl, hb⟩
      clear d0 d1 d2 d3 d4 d5 d6 m0 m1 m2
      replace k1 := k1.below hb k1.lt
      replace k2 := k2.below hb k2.lt
      replace rn := later_l rn hb
      replace r1 := later_i r1 hb
      replace hB := hB.trans (hb.mono hB.size)
      clear hb
      have d0 := k1.cell (i := 0) rfl
      have d1 := k1.cell (i := 1) rfl
      have d2 := k1.cell (i := 2) rfl
      have d3 := k1.cell (i := 3) rfl
      have d4 := k1.cell (i := 4) rfl
      have d5 := k1.cell (i := 5) rfl
      have d6 := k1.cell (i := 6) rfl
      have m0 := k2.cell (i := 0) rfl
      have m1 := k2.cell (i := 1) rfl
      have m2 := k2.cell (i := 2) rfl
      go_wp2_with fail
      have hc := Features_any N na nn nc hnnH.out hzH.out ⟨iw, ih, xs⟩ a n c hn.out (by omega) V3 rn r1
      unfold RetFea at hc
      rw [hEH.out] at hc
      refine hc.mono ?_
      clear hc
      rintro e V4 ⟨fa, fn, fc, fs, rfl, hfn, rowf, hfs, hb⟩
      clear d0 d1 d2 d3 d4 d5 d6 m0 m1 m2
      replace k1 := k1.below hb k1.lt
      replace k2 := k2.below hb k2.lt
      replace rn := later_l rn hb
      replace r1 := later_i r1 hb
      replace hB := hB.trans (hb.mono hB.size)
      clear hb
      have d0 := k1.cell (i := 0) rfl
      have d1 := k1.cell (i := 1) rfl
      have d2 := k1.cell (i := 2) rfl
      have d3 := k1.cell (i := 3) rfl
      have d4 := k1.cell (i := 4) rfl
      have d5 := k1.cell (i := 5) rfl
      have d6 := k1.cell (i := 6) rfl
      have m0 := k2.cell (i := 0) rfl
      have m1 := k2.cell (i := 1) rfl
      have m2 := k2.cell (i := 2) rfl
      clear rowf hfs hfn
      go_wp2_with fail
      have hc := Classify_any N na nn nc hnnH.out hzH.out ⟨iw, ih, xs⟩ a n c hn.out (by omega) V4 rn r1
      unfold RetCla at hc
      rw [hEH.out] at hc
      refine hc.mono ?_
      clear hc
      rintro e V5 ⟨sc, vd, rfl, hsc, hvd, hb⟩
      clear d0 d1 d2 d3 d4 d5 d6 m0 m1 m2
      replace k1 := k1.below hb k1.lt
      replace k2 := k2.below hb k2.lt
      replace rn := later_l rn hb
      replace r1 := later_i r1 hb
      replace hB := hB.trans (hb.mono hB.size)
      clear hb
      have d0 := k1.cell (i := 0) rfl
      have d1 := k1.cell (i := 1) rfl
      have d2 := k1.cell (i := 2) rfl
      have d3 := k1.cell (i := 3) rfl
      have d4 := k1.cell (i := 4) rfl
      have d5 := k1.cell (i := 5) rfl
      have d6 := k1.cell (i := 6) rfl
      have m0 := k2.cell (i := 0) rfl
      have m1 := k2.cell (i := 1) rfl
      have m2 := k2.cell (i := 2) rfl
      clear hsc hvd
      go_wp2_with fail
      go_ret
      exact ⟨rfl, hB⟩
    · rw [hE] at h
      subst h
      clear hE hE0
      go_enter Tryz.func13, Tryz.ntmps13
      go_wp2_with fail
      clear hEV1 hEV2
      have hc := alive8_any V2
      refine hc.mono ?_
      clear hc
      rintro e V3 ⟨rfl, hb⟩
      clear d0 d1 d2 d3 d4 d5 d6 m0 m1 m2
      replace k1 := k1.below hb k1.lt
      replace k2 := k2.below hb k2.lt
      replace rn := later_l rn hb
      replace r1 := later_i r1 hb
      replace hB := hB.trans (hb.mono hB.size)
      clear hb
      have d0 := k1.cell (i := 0) rfl
      have d1 := k1.cell (i := 1) rfl
      have d2 := k1.cell (i := 2) rfl
      have d3 := k1.cell (i := 3) rfl
      have d4 := k1.cell (i := 4) rfl
      have d5 := k1.cell (i := 5) rfl
      have d6 := k1.cell (i := 6) rfl
      have m0 := k2.cell (i := 0) rfl
      have m1 := k2.cell (i := 1) rfl
      have m2 := k2.cell (i := 2) rfl
      go_wp2_with fail
      have hc := Features_any N na nn nc hnnH.out hzH.out ⟨iw, ih, xs⟩ a n c hn.out (by omega) V3 rn r1
      unfold RetFea at hc
      rw [hEH.out] at hc
      refine hc.mono ?_
      clear hc
      rintro e V4 ⟨fa, fn, fc, fs, rfl, hfn, rowf, hfs, hb⟩
      clear d0 d1 d2 d3 d4 d5 d6 m0 m1 m2
      replace k1 := k1.below hb k1.lt
      replace k2 := k2.below hb k2.lt
      replace rn := later_l rn hb
      replace r1 := later_i r1 hb
      replace hB := hB.trans (hb.mono hB.size)
      clear hb
      have d0 := k1.cell (i := 0) rfl
      have d1 := k1.cell (i := 1) rfl
      have d2 := k1.cell (i := 2) rfl
      have d3 := k1.cell (i := 3) rfl
      have d4 := k1.cell (i := 4) rfl
      have d5 := k1.cell (i := 5) rfl
      have d6 := k1.cell (i := 6) rfl
      have m0 := k2.cell (i := 0) rfl
      have m1 := k2.cell (i := 1) rfl
      have m2 := k2.cell (i := 2) rfl
      clear rowf hfs hfn
      go_wp2_with fail
      have hc := Classify_any N na nn nc hnnH.out hzH.out ⟨iw, ih, xs⟩ a n c hn.out (by omega) V4 rn r1
      unfold RetCla at hc
      rw [hEH.out] at hc
      refine hc.mono ?_
      clear hc
      rintro e V5 ⟨sc, vd, rfl, hsc, hvd, hb⟩
      clear d0 d1 d2 d3 d4 d5 d6 m0 m1 m2
      replace k1 := k1.below hb k1.lt
      replace k2 := k2.below hb k2.lt
      replace rn := later_l rn hb
      replace r1 := later_i r1 hb
      replace hB := hB.trans (hb.mono hB.size)
      clear hb
      have d0 := k1.cell (i := 0) rfl
      have d1 := k1.cell (i := 1) rfl
      have d2 := k1.cell (i := 2) rfl
      have d3 := k1.cell (i := 3) rfl
      have d4 := k1.cell (i := 4) rfl
      have d5 := k1.cell (i := 5) rfl
      have d6 := k1.cell (i := 6) rfl
      have m0 := k2.cell (i := 0) rfl
      have m1 := k2.cell (i := 1) rfl
      have m2 := k2.cell (i := 2) rfl
      clear hsc hvd
      go_wp2_with fail
      go_ret
      exact ⟨rfl, hB⟩
    · rw [hE] at h
      subst h
      clear hE hE0
      go_enter Tryz.func13, Tryz.ntmps13
      go_wp2_with fail
      clear hEV1 hEV2
      have hc := alive8_any V2
      refine hc.mono ?_
      clear hc
      rintro e V3 ⟨rfl, hb⟩
      clear d0 d1 d2 d3 d4 d5 d6 m0 m1 m2
      replace k1 := k1.below hb k1.lt
      replace k2 := k2.below hb k2.lt
      replace rn := later_l rn hb
      replace r1 := later_i r1 hb
      replace hB := hB.trans (hb.mono hB.size)
      clear hb
      have d0 := k1.cell (i := 0) rfl
      have d1 := k1.cell (i := 1) rfl
      have d2 := k1.cell (i := 2) rfl
      have d3 := k1.cell (i := 3) rfl
      have d4 := k1.cell (i := 4) rfl
      have d5 := k1.cell (i := 5) rfl
      have d6 := k1.cell (i := 6) rfl
      have m0 := k2.cell (i := 0) rfl
      have m1 := k2.cell (i := 1) rfl
      have m2 := k2.cell (i := 2) rfl
      go_wp2_with fail
      have hc := Features_any N na nn nc hnnH.out hzH.out ⟨iw, ih, xs⟩ a n c hn.out (by omega) V3 rn r1
      unfold RetFea at hc
      rw [hEH.out] at hc
      refine hc.mono ?_
      clear hc
      rintro e V4 ⟨fa, fn, fc, fs, rfl, hfn, rowf, hfs, hb⟩
      clear d0 d1 d2 d3 d4 d5 d6 m0 m1 m2
      replace k1 := k1.below hb k1.lt
      replace k2 := k2.below hb k2.lt
      replace rn := later_l rn hb
      replace r1 := later_i r1 hb
      replace hB := hB.trans (hb.mono hB.size)
      clear hb
      have d0 := k1.cell (i := 0) rfl
      have d1 := k1.cell (i := 1) rfl
      have d2 := k1.cell (i := 2) rfl
      have d3 := k1.cell (i := 3) rfl
      have d4 := k1.cell (i := 4) rfl
      have d5 := k1.cell (i := 5) rfl
      have d6 := k1.cell (i := 6) rfl
      have m0 := k2.cell (i := 0) rfl
      have m1 := k2.cell (i := 1) rfl
      have m2 := k2.cell (i := 2) rfl
      clear rowf hfs hfn
      go_wp2_with fail
      have hc := Classify_any N na nn nc hnnH.out hzH.out ⟨iw, ih, xs⟩ a n c hn.out (by omega) V4 rn r1
      unfold RetCla at hc
      rw [hEH.out] at hc
      refine hc.mono ?_
      clear hc
      rintro e V5 ⟨sc, vd, rfl, hsc, hvd, hb⟩
      clear d0 d1 d2 d3 d4 d5 d6 m0 m1 m2
      replace k1 := k1.below hb k1.lt
      replace k2 := k2.below hb k2.lt
      replace rn := later_l rn hb
      replace r1 := later_i r1 hb
      replace hB := hB.trans (hb.mono hB.size)
      clear hb
      have d0 := k1.cell (i := 0) rfl
      have d1 := k1.cell (i := 1) rfl
      have d2 := k1.cell (i := 2) rfl
      have d3 := k1.cell (i := 3) rfl
      have d4 := k1.cell (i := 4) rfl
      have d5 := k1.cell (i := 5) rfl
      have d6 := k1.cell (i := 6) rfl
      have m0 := k2.cell (i := 0) rfl
      have m1 := k2.cell (i := 1) rfl
      have m2 := k2.cell (i := 2) rfl
      clear hsc hvd
      go_wp2_with fail
      go_ret
      exact ⟨rfl, hB⟩
  case pos =>
    subst hE0
    obtain ⟨hN, hw, hh, hcam⟩ := chkF_zero hE
    simp only at hw hh
    have hwH := Lib.hid hw
    have hhH := Lib.hid hh
    clear hE hw hh
    go_enter Tryz.func13, Tryz.ntmps13
    go_wp2_with fail
    clear hEV1 hEV2
    have hc := alive8_any V2
    refine hc.mono ?_
    clear hc
    rintro e V3 ⟨rfl, hb⟩
    clear d0 d1 d2 d3 d4 d5 d6 m0 m1 m2
    replace k1 := k1.below hb k1.lt
    replace k2 := k2.below hb k2.lt
    replace rn := later_l rn hb
    replace r1 := later_i r1 hb
    replace hB := hB.trans (hb.mono hB.size)
    clear hb
    have d0 := k1.cell (i := 0) rfl
    have d1 := k1.cell (i := 1) rfl
    have d2 := k1.cell (i := 2) rfl
    have d3 := k1.cell (i := 3) rfl
    have d4 := k1.cell (i := 4) rfl
    have d5 := k1.cell (i := 5) rfl
    have d6 := k1.cell (i := 6) rfl
    have m0 := k2.cell (i := 0) rfl
    have m1 := k2.cell (i := 1) rfl
    have m2 := k2.cell (i := 2) rfl
    go_wp2_with fail
    have hc := Features_any N na nn nc hnnH.out hzH.out ⟨iw, ih, xs⟩ a n c hn.out (by omega) V3 rn r1
    unfold RetFea at hc
    rw [hEH.out] at hc
    refine hc.mono ?_
    clear hc
    rintro e V4 ⟨fa, fn, fc, fs, rfl, hfn, rowf, hfs, hb⟩
    clear d0 d1 d2 d3 d4 d5 d6 m0 m1 m2
    replace k1 := k1.below hb k1.lt
    replace k2 := k2.below hb k2.lt
    replace rn := later_l rn hb
    replace r1 := later_i r1 hb
    replace hB := hB.trans (hb.mono hB.size)
    clear hb
    have d0 := k1.cell (i := 0) rfl
    have d1 := k1.cell (i := 1) rfl
    have d2 := k1.cell (i := 2) rfl
    have d3 := k1.cell (i := 3) rfl
    have d4 := k1.cell (i := 4) rfl
    have d5 := k1.cell (i := 5) rfl
    have d6 := k1.cell (i := 6) rfl
    have m0 := k2.cell (i := 0) rfl
    have m1 := k2.cell (i := 1) rfl
    have m2 := k2.cell (i := 2) rfl
    rw [if_pos rfl] at hfs
    subst hfs
    have rdf := rowI_rd hfn rowf
    have hfnH := Lib.hid hfn
    clear rowf hfn
    go_wp2_with fail
    have hc := Classify_any N na nn nc hnnH.out hzH.out ⟨iw, ih, xs⟩ a n c hn.out (by omega) V4 rn r1
    unfold RetCla at hc
    rw [hEH.out] at hc
    refine hc.mono ?_
    clear hc
    rintro e V5 ⟨sc, vd, rfl, hsc, hvd, hb⟩
    clear d0 d1 d2 d3 d4 d5 d6 m0 m1 m2
    replace k1 := k1.below hb k1.lt
    replace k2 := k2.below hb k2.lt
    replace rn := later_l rn hb
    replace r1 := later_i r1 hb
    replace rdf := later_i rdf hb
    replace hB := hB.trans (hb.mono hB.size)
    clear hb
    have d0 := k1.cell (i := 0) rfl
    have d1 := k1.cell (i := 1) rfl
    have d2 := k1.cell (i := 2) rfl
    have d3 := k1.cell (i := 3) rfl
    have d4 := k1.cell (i := 4) rfl
    have d5 := k1.cell (i := 5) rfl
    have d6 := k1.cell (i := 6) rfl
    have m0 := k2.cell (i := 0) rfl
    have m1 := k2.cell (i := 1) rfl
    have m2 := k2.cell (i := 2) rfl
    rw [if_pos rfl] at hsc hvd
    try simp only at hsc hvd
    have hw := hwH.out
    have hh := hhH.out
    obtain ⟨F, hF⟩ : ∃ F, featL N xs = F := ⟨_, rfl⟩
    have hcb := (camB_iff.1 hcam)
    try simp only at hcb
    have hfb := fun c => featL_bd hN (xs := xs) (camB_len hcam) hcb.2 c
    have hfl := featL_length N xs
    have hsum := feat_sum hN (xs := xs) (by rw [← hw, ← hh]; exact hcb.1.2.2)
    try simp only at hfb hfl hsum rdf hfnH
    rw [hF] at hsc hvd hfb hfl hsum rdf hfnH
    obtain rfl : fn = N.nf := by rw [← hfnH.out]; exact hfl
    obtain ⟨nf1, nf2, nf3⟩ := hN.nf
    obtain ⟨fn, hfn⟩ : ∃ f, N.nf = f := ⟨_, rfl⟩
    have hlyb := hN.ly 0 hN.l1
    rw [show widthN N.nf N.Ls 0 = N.nf from rfl] at hlyb
    have hleb := featL_le hN (xs := xs) (camB_len hcam) hcb.2
    rw [hF] at hleb
    rw [hfn] at hfl hsum nf1 nf2 nf3 hfnH hlyb ⊢
    obtain ⟨SM, hSM⟩ : ∃ z, sumTo (fun c => F[c]?.getD 0) fn = z := ⟨_, rfl⟩
    rw [hSM] at hsum
    have hbox : boxS iw ih xs 0 0 iw ih = (SM, 0) := by
      unfold boxS
      rw [if_pos (show vld iw ih xs = true by have := hcam; simp only [camB, Bool.and_eq_true] at this; exact this.1), if_pos (boxOk_iff.2 (by omega)), hsum, hw, hh]
      rfl
    obtain ⟨SC, hSC⟩ : ∃ z, scoreN N.Ls F = z := ⟨_, rfl⟩
    rw [hSC] at hsc hvd
    obtain ⟨vn, hvn⟩ : ∃ z, verdB N.low N.high SC SC = z := ⟨_, rfl⟩
    rw [hvn] at hvd
    subst hsc hvd
    have hvl := verd_law N.low N.high sc hN.lt
    rw [hvn] at hvl
    have hvlH := Lib.hid hvl
    have hSMH := Lib.hid hSM
    have hlybH := Lib.hid hlyb
    have hlebH := Lib.hid hleb
    have hSCH := Lib.hid hSC
    have hsb := Lib.hid (sumTo_bd2 hfb)
    have hfbH := Lib.hid hfb
    have hflH := Lib.hid hfl
    have hNH := Lib.hid hN
    have hboxH := Lib.hid hbox
    obtain ⟨gx1, gx2⟩ := hN.gx
    obtain ⟨gy1, gy2⟩ := hN.gy
    have hgxy : N.gx * N.gy = (fn : Int) := nf3.symm
    obtain ⟨l1, l3⟩ := And.intro hN.l1 hN.l3
    rw [hnnH.out] at l1 l3
    clear hF hSC hbox hsum hfb hfl hcb hw hh hcam hN nf3 hfnH hvn hvl hSM hlyb hleb hfn
    go_wp2_with fail
    have hc := Box_any iw ih a c n xs hn 0 0 iw ih V5 (by omega) r1
    unfold RetTwo at hc
    rw [hboxH.out] at hc
    refine hc.mono ?_
    clear hc
    rintro e V6 ⟨rfl, hb⟩
    clear d0 d1 d2 d3 d4 d5 d6 m0 m1 m2
    replace k1 := k1.below hb k1.lt
    replace k2 := k2.below hb k2.lt
    replace rn := later_l rn hb
    replace r1 := later_i r1 hb
    replace rdf := later_i rdf hb
    replace hB := hB.trans (hb.mono hB.size)
    clear hb
    have d0 := k1.cell (i := 0) rfl
    have d1 := k1.cell (i := 1) rfl
    have d2 := k1.cell (i := 2) rfl
    have d3 := k1.cell (i := 3) rfl
    have d4 := k1.cell (i := 4) rfl
    have d5 := k1.cell (i := 5) rfl
    have d6 := k1.cell (i := 6) rfl
    have m0 := k2.cell (i := 0) rfl
    have m1 := k2.cell (i := 1) rfl
    have m2 := k2.cell (i := 2) rfl
    go_wp2_with fail
    go_loop [13, 14] (fun s i => ∃ (k : Nat) (z : Int), k ≤ fn ∧ i = .int .i64 (k : Int) ∧ s = .int .i64 z ∧ Hid (sumTo (fun c => F[c]?.getD 0) k = z)) (fun _ i => fn - (intOf i).toNat)
    case atStart => exact ⟨0, 0, Nat.zero_le _, rfl, rfl, Lib.hid rfl⟩
    case round =>
      obtain ⟨k, z, hk, rfl, rfl, hz⟩ := hrel
      by_cases hlt : k < fn
      case pos =>
        rcases rdf with h0 | ⟨b, o, rfl, hb, hc⟩
        · exfalso; have := hflH.out; rw [h0] at this; simp at this; omega
        have hcell := hc k (by rw [hflH.out]; exact hlt)
        have hst : sumTo (fun c => F[c]?.getD 0) (k + 1) = z + F[k]?.getD 0 := by rw [← hz.out]; rfl
        have hb1 := hsb.out (k + 1)
        rw [hst] at hb1
        have hb0 := hsb.out k
        rw [hz.out] at hb0
        obtain ⟨x, hx⟩ : ∃ x, F[k]?.getD 0 = x := ⟨_, rfl⟩
        rw [hx] at hcell hst hb1
        have hstH := Lib.hid hst
        clear hst hx hc
        go_wp2_with fail
        go_round
        case rel => exact ⟨k + 1, z + x, by omega, by go_num, rfl, hstH⟩
        case measure => simp [intOf]; omega
      case neg =>
        have hkn : k = fn := by omega
        subst hkn
        obtain rfl : z = SM := hz.out.symm.trans hSMH.out
        clear hz hsb hSMH
        have hvl := hvlH.out
        clear hvlH
        by_cases h1 : N.high ≤ sc
        case pos =>
          obtain rfl : vn = 1 := hvl.1.2 h1
          have g1 : decide (N.high ≤ sc) = true := decide_eq_true h1
          have h2 : ¬ (sc ≤ N.low) := fun h => by have := hvl.2.1.2 h; omega
          have g2 : decide (sc ≤ N.low) = false := decide_eq_false h2
          clear hvl
          by_cases hn1 : 1 < nn
          · have hND : decide ((1 : Int) < (nn : Int)) = true := decide_eq_true (by omega)
            have hNP : (1 : Int) < (nn : Int) := by omega
            go_wp2_with fail
            go_ret
            exact ⟨rfl, hB⟩
          have hn1 : nn = 1 := by omega
          subst hn1
          have hND : decide ((1 : Int) < ((1 : Nat) : Int)) = false := by decide
          rcases rn with h0 | ⟨bL, oL, rfl, hbL, hL⟩
          · exfalso; have := hnnH.out; rw [h0] at this; simp at this
          obtain ⟨wa, wc, ba, bc, hcw, hcb, hW, hBs⟩ := hL 0 (by rw [hnnH.out]; decide)
          have hly := hlybH.out
          obtain ⟨L, hL0⟩ : ∃ L, layAt N.Ls 0 = L := ⟨_, rfl⟩
          have hone := score_one (Ls := N.Ls) (by rw [hnnH.out]) (by rw [hL0]; rw [hL0] at hly; exact hly.b1) F
          rw [hL0] at hly hcw hcb hW hBs hone
          rw [hSCH.out, hflH.out] at hone
          have hb1 := hly.b1
          have hws := hly.ws
          obtain ⟨hr1, hr2⟩ := hly.row 0 (by omega)
          rcases hBs with h0 | ⟨bB, oB, rfl, hbB, hcB⟩
          · exfalso; rw [h0] at hb1; simp at hb1
          rcases hW with h0 | ⟨bR, oR, rfl, hbR, hcR⟩
          · exfalso; rw [h0] at hws; simp at hws; omega
          obtain ⟨ra, rc, hcr, hRr⟩ := hcR 0 (by omega)
          rw [hr1] at hcr
          rcases hRr with h0 | ⟨bX, oX, rfl, hbX, hcX⟩
          · exfalso; rw [h0] at hr1; simp at hr1; omega
          rcases rdf with h0 | ⟨bF, oF, rfl, hbF, hcF⟩
          · exfalso; have := hflH.out; rw [h0] at this; simp at this; omega
          have hc0 := hcB 0 (by omega)
          simp only [Nat.zero_mul, Nat.add_zero] at hcw hcb hcr hc0
          have hpb := Lib.hid (fun m (hm : m ≤ k) => partL_bd hly (by omega) (by decide) hlebH.out (show 0 < L.bs.length by omega) hm)
          have hp0 : partL L F 0 0 = L.bs[0]?.getD 0 := by unfold partL bAt; simp [sumJ]
          obtain ⟨z0, hz0⟩ : ∃ z, L.bs[0]?.getD 0 = z := ⟨_, rfl⟩
          rw [hz0] at hp0 hc0
          obtain ⟨bl, hbl⟩ : ∃ l, L.bs.length = l := ⟨_, rfl⟩
          obtain ⟨wl, hwl⟩ : ∃ l, L.ws.length = l := ⟨_, rfl⟩
          rw [hbl] at hcb hb1 hws
          rw [hwl] at hcw hws
          have hp0H := Lib.hid hp0
          have honeH := Lib.hid (show sc = partL L F 0 k from hone)
          have hcXH := Lib.hid hcX
          have hcFH := Lib.hid hcF
          have hr1H := Lib.hid hr1
          have hk1 := k1
          have hBw := hB
          have hwl1 : 1 ≤ wl := by omega
          clear hL hly hone hcB hcR hr2 hz0 hp0 hcX hcF hr1 hbl hwl hlybH hlebH hfbH hSCH hL0
          go_wp2_with fail
          go_loopw [15, 16] (fun s i wr => ∃ (j : Nat) (y : Int), j ≤ k ∧ i = .int .i64 (j : Int) ∧ s = .int .i64 y ∧ Hid (partL L F 0 j = y) ∧ Below V6.heap.size V6 wr) (fun _ i _ => k - (intOf i).toNat)
          case atStart => exact ⟨0, z0, Nat.zero_le _, rfl, rfl, hp0H, Below.refl _ _⟩
          case round =>
            obtain ⟨j, y, hj, rfl, rfl, hy, hbw⟩ := hrel
            by_cases hjt : j < k
            case pos =>
              have hx1 := hcXH.out j (by rw [hr1H.out]; exact hjt)
              have hx2 := hcFH.out j (by rw [hflH.out]; exact hjt)
              have hst : partL L F 0 (j + 1) = partL L F 0 j + wAt L 0 j * F[j]?.getD 0 := by unfold partL; simp only [sumJ]; omega
              have hw0 : wAt L 0 j = (L.ws[0]?.getD [])[j]?.getD 0 := rfl
              rw [hy.out, hw0] at hst
              obtain ⟨u, hu⟩ : ∃ u, (L.ws[0]?.getD [])[j]?.getD 0 = u := ⟨_, rfl⟩
              obtain ⟨v, hv⟩ : ∃ v, F[j]?.getD 0 = v := ⟨_, rfl⟩
              rw [hu] at hx1 hst
              rw [hv] at hx2 hst
              obtain ⟨p, hp⟩ : ∃ p, u * v = p := ⟨_, rfl⟩
              rw [hp] at hst
              have q1 := hpb.out (j + 1) (by omega)
              have q2 := hpb.out j (by omega)
              rw [hst] at q1
              rw [hy.out] at q2
              have hstH := Lib.hid hst
              clear hst hw0 hu hv
              have hS : Below V6.heap.size V6 wr.drew := hbw.drew
              go_wp2_with fail
              refine plain_region (fun W' => Below V6.heap.size V6 W') 18 18 (by kernel_rfl) rfl ?_
              simp only [Array.replicate_succ, Array.replicate_zero, List.push_toArray, List.nil_append, List.cons_append]
              refine take_op 0 (v := ?r1v0) rfl (by kernel_rfl) (fun _ _ _ h => h) (by rfl) hS (fun w' hS' => ?r1y0) ?r1z0
              case r1y0 =>
                go_simp
                rfl
              simp only [List.setIfInBounds_toArray, List.set_cons_zero, List.set_cons_succ]
              refine take_op 1 (v := ?r1v1) rfl (by kernel_rfl) (fun _ _ _ h => h) (by rfl) hS (fun w' hS' => ?r1y1) ?r1z1
              case r1y1 =>
                go_simp
                rfl
              simp only [List.setIfInBounds_toArray, List.set_cons_zero, List.set_cons_succ]
              refine take_op 2 (v := ?r1v2) rfl (by kernel_rfl) (fun _ _ _ h => h) (by rfl) hS (fun w' hS' => ?r1y2) ?r1z2
              case r1y2 =>
                have e0 := (k1.below hS' k1.lt).cell (i := 4) rfl
                have e1 := (hS'.cell (p := ⟨bL, oL, none⟩) hbL).trans hcw
                have e2 := (hS'.cell (p := ⟨bR, oR, none⟩) hbR).trans hcr
                have e3 := (hS'.cell (p := ⟨bX, oX + j, none⟩) hbX).trans hx1
                have e4 := (hS'.cell (p := ⟨bF, oF + j, none⟩) hbF).trans hx2
                clear hS'
                go_simp
                rfl
              simp only [List.setIfInBounds_toArray, List.set_cons_zero, List.set_cons_succ]
              refine take_op 3 (v := ?r1v3) rfl (by kernel_rfl) (fun _ _ _ h => h) (by rfl) hS (fun w' hS' => ?r1y3) ?r1z3
              case r1y3 =>
                go_simp
                try go_ints
                first
                | rfl
                | (rw [if_pos (by omega)]; done)
                | rw [if_pos ⟨by omega, by omega⟩]
              simp only [List.setIfInBounds_toArray, List.set_cons_zero, List.set_cons_succ]
              refine take_op 4 (v := ?r1v4) rfl (by kernel_rfl) (fun _ _ _ h => h) (by rfl) hS (fun w' hS' => ?r1y4) ?r1z4
              case r1y4 =>
                go_simp
                rfl
              simp only [List.setIfInBounds_toArray, List.set_cons_zero, List.set_cons_succ]
              refine take_op 5 (v := ?r1v5) rfl (by kernel_rfl) (fun _ _ _ h => h) (by rfl) hS (fun w' hS' => ?r1y5) ?r1z5
              case r1y5 =>
                have e0 := (k1.below hS' k1.lt).cell (i := 4) rfl
                have e1 := (hS'.cell (p := ⟨bL, oL, none⟩) hbL).trans hcw
                have e2 := (hS'.cell (p := ⟨bR, oR, none⟩) hbR).trans hcr
                have e3 := (hS'.cell (p := ⟨bX, oX + j, none⟩) hbX).trans hx1
                have e4 := (hS'.cell (p := ⟨bF, oF + j, none⟩) hbF).trans hx2
                clear hS'
                go_simp
                rfl
              simp only [List.setIfInBounds_toArray, List.set_cons_zero, List.set_cons_succ]
              refine take_op 6 (v := ?r1v6) rfl (by kernel_rfl) (fun _ _ _ h => h) (by rfl) hS (fun w' hS' => ?r1y6) ?r1z6
              case r1y6 =>
                go_simp
                try go_ints
                first
                | rfl
                | (rw [if_pos (by omega)]; done)
                | rw [if_pos ⟨by omega, by omega⟩]
              simp only [List.setIfInBounds_toArray, List.set_cons_zero, List.set_cons_succ]
              refine take_op 7 (v := ?r1v7) rfl (by kernel_rfl) (fun _ _ _ h => h) (by rfl) hS (fun w' hS' => ?r1y7) ?r1z7
              case r1y7 =>
                have e0 := (k1.below hS' k1.lt).cell (i := 4) rfl
                have e1 := (hS'.cell (p := ⟨bL, oL, none⟩) hbL).trans hcw
                have e2 := (hS'.cell (p := ⟨bR, oR, none⟩) hbR).trans hcr
                have e3 := (hS'.cell (p := ⟨bX, oX + j, none⟩) hbX).trans hx1
                have e4 := (hS'.cell (p := ⟨bF, oF + j, none⟩) hbF).trans hx2
                clear hS'
                go_simp
                rfl
              simp only [List.setIfInBounds_toArray, List.set_cons_zero, List.set_cons_succ]
              refine take_op 8 (v := ?r1v8) rfl (by kernel_rfl) (fun _ _ _ h => h) (by rfl) hS (fun w' hS' => ?r1y8) ?r1z8
              case r1y8 =>
                go_simp
                rfl
              simp only [List.setIfInBounds_toArray, List.set_cons_zero, List.set_cons_succ]
              refine take_op 9 (v := ?r1v9) rfl (by kernel_rfl) (fun _ _ _ h => h) (by rfl) hS (fun w' hS' => ?r1y9) ?r1z9
              case r1y9 =>
                go_simp
                try go_ints
                first
                | rfl
                | (rw [if_pos (by omega)]; done)
                | rw [if_pos ⟨by omega, by omega⟩]
              simp only [List.setIfInBounds_toArray, List.set_cons_zero, List.set_cons_succ]
              refine take_op 10 (v := ?r1v10) rfl (by kernel_rfl) (fun _ _ _ h => h) (by rfl) hS (fun w' hS' => ?r1y10) ?r1z10
              case r1y10 =>
                have e0 := (k1.below hS' k1.lt).cell (i := 4) rfl
                have e1 := (hS'.cell (p := ⟨bL, oL, none⟩) hbL).trans hcw
                have e2 := (hS'.cell (p := ⟨bR, oR, none⟩) hbR).trans hcr
                have e3 := (hS'.cell (p := ⟨bX, oX + j, none⟩) hbX).trans hx1
                have e4 := (hS'.cell (p := ⟨bF, oF + j, none⟩) hbF).trans hx2
                clear hS'
                go_simp
                rfl
              simp only [List.setIfInBounds_toArray, List.set_cons_zero, List.set_cons_succ]
              refine take_op 11 (v := ?r1v11) rfl (by kernel_rfl) (fun _ _ _ h => h) (by rfl) hS (fun w' hS' => ?r1y11) ?r1z11
              case r1y11 =>
                go_simp
                rfl
              simp only [List.setIfInBounds_toArray, List.set_cons_zero, List.set_cons_succ]
              refine take_op 12 (v := ?r1v12) rfl (by kernel_rfl) (fun _ _ _ h => h) (by rfl) hS (fun w' hS' => ?r1y12) ?r1z12
              case r1y12 =>
                go_simp
                rfl
              simp only [List.setIfInBounds_toArray, List.set_cons_zero, List.set_cons_succ]
              refine take_op 13 (v := ?r1v13) rfl (by kernel_rfl) (fun _ _ _ h => h) (by rfl) hS (fun w' hS' => ?r1y13) ?r1z13
              case r1y13 =>
                go_simp
                try go_ints
                first
                | rfl
                | (rw [if_pos (by omega)]; done)
                | rw [if_pos ⟨by omega, by omega⟩]
              simp only [List.setIfInBounds_toArray, List.set_cons_zero, List.set_cons_succ]
              refine take_op 14 (v := ?r1v14) rfl (by kernel_rfl) (fun _ _ _ h => h) (by rfl) hS (fun w' hS' => ?r1y14) ?r1z14
              case r1y14 =>
                have e0 := (k1.below hS' k1.lt).cell (i := 4) rfl
                have e1 := (hS'.cell (p := ⟨bL, oL, none⟩) hbL).trans hcw
                have e2 := (hS'.cell (p := ⟨bR, oR, none⟩) hbR).trans hcr
                have e3 := (hS'.cell (p := ⟨bX, oX + j, none⟩) hbX).trans hx1
                have e4 := (hS'.cell (p := ⟨bF, oF + j, none⟩) hbF).trans hx2
                clear hS'
                go_simp
                rfl
              simp only [List.setIfInBounds_toArray, List.set_cons_zero, List.set_cons_succ]
              refine take_op 15 (v := .int .i64 p) rfl (by kernel_rfl) (fun _ _ _ h => h) (by rfl) hS (fun w' hS' => ?r1y15) ?r1z15
              case r1y15 =>
                clear hS'
                go_simp
                try rw [hp]
                try go_ints
                first | done | rfl | trivial
              simp only [List.setIfInBounds_toArray, List.set_cons_zero, List.set_cons_succ]
              refine take_op 16 (v := ?r1v16) rfl (by kernel_rfl) (fun _ _ _ h => h) (by rfl) hS (fun w' hS' => ?r1y16) ?r1z16
              case r1y16 =>
                go_simp
                try go_ints
                rfl
              simp only [List.setIfInBounds_toArray, List.set_cons_zero, List.set_cons_succ]
              refine take_op 17 (v := ?r1v17) rfl (by kernel_rfl) (fun _ _ _ h => h) (by rfl) hS (fun w' hS' => ?r1y17) ?r1z17
              case r1y17 =>
                go_simp
                rfl
              simp only [List.setIfInBounds_toArray, List.set_cons_zero, List.set_cons_succ]
              refine done_ops (by kernel_rfl) ?_
              go_wp2_with fail
              go_roundw
              case rel => exact ⟨j + 1, y + p, by omega, by go_num, rfl, hstH, hS⟩
              case measure => simp [intOf]; omega
            case neg =>
              have hjk : j = k := by omega
              subst hjk
              obtain rfl : sc = y := honeH.out.trans hy.out
              clear hy honeH hpb
              go_wp2_with fail
              go_ret
              exact ⟨rfl, hBw.trans (hbw.mono hBw.size)⟩
        case neg =>
          have g1 : decide (N.high ≤ sc) = false := decide_eq_false h1
          by_cases h2 : sc ≤ N.low
          case pos =>
            obtain rfl : vn = 2 := hvl.2.1.2 h2
            have g2 : decide (sc ≤ N.low) = true := decide_eq_true h2
            clear hvl
            by_cases hn1 : 1 < nn
            · have hND : decide ((1 : Int) < (nn : Int)) = true := decide_eq_true (by omega)
              have hNP : (1 : Int) < (nn : Int) := by omega
              go_wp2_with fail
              go_ret
              exact ⟨rfl, hB⟩
            have hn1 : nn = 1 := by omega
            subst hn1
            have hND : decide ((1 : Int) < ((1 : Nat) : Int)) = false := by decide
            rcases rn with h0 | ⟨bL, oL, rfl, hbL, hL⟩
            · exfalso; have := hnnH.out; rw [h0] at this; simp at this
            obtain ⟨wa, wc, ba, bc, hcw, hcb, hW, hBs⟩ := hL 0 (by rw [hnnH.out]; decide)
            have hly := hlybH.out
            obtain ⟨L, hL0⟩ : ∃ L, layAt N.Ls 0 = L := ⟨_, rfl⟩
            have hone := score_one (Ls := N.Ls) (by rw [hnnH.out]) (by rw [hL0]; rw [hL0] at hly; exact hly.b1) F
            rw [hL0] at hly hcw hcb hW hBs hone
            rw [hSCH.out, hflH.out] at hone
            have hb1 := hly.b1
            have hws := hly.ws
            obtain ⟨hr1, hr2⟩ := hly.row 0 (by omega)
            rcases hBs with h0 | ⟨bB, oB, rfl, hbB, hcB⟩
            · exfalso; rw [h0] at hb1; simp at hb1
            rcases hW with h0 | ⟨bR, oR, rfl, hbR, hcR⟩
            · exfalso; rw [h0] at hws; simp at hws; omega
            obtain ⟨ra, rc, hcr, hRr⟩ := hcR 0 (by omega)
            rw [hr1] at hcr
            rcases hRr with h0 | ⟨bX, oX, rfl, hbX, hcX⟩
            · exfalso; rw [h0] at hr1; simp at hr1; omega
            rcases rdf with h0 | ⟨bF, oF, rfl, hbF, hcF⟩
            · exfalso; have := hflH.out; rw [h0] at this; simp at this; omega
            have hc0 := hcB 0 (by omega)
            simp only [Nat.zero_mul, Nat.add_zero] at hcw hcb hcr hc0
            have hpb := Lib.hid (fun m (hm : m ≤ k) => partL_bd hly (by omega) (by decide) hlebH.out (show 0 < L.bs.length by omega) hm)
            have hp0 : partL L F 0 0 = L.bs[0]?.getD 0 := by unfold partL bAt; simp [sumJ]
            obtain ⟨z0, hz0⟩ : ∃ z, L.bs[0]?.getD 0 = z := ⟨_, rfl⟩
            rw [hz0] at hp0 hc0
            obtain ⟨bl, hbl⟩ : ∃ l, L.bs.length = l := ⟨_, rfl⟩
            obtain ⟨wl, hwl⟩ : ∃ l, L.ws.length = l := ⟨_, rfl⟩
            rw [hbl] at hcb hb1 hws
            rw [hwl] at hcw hws
            have hp0H := Lib.hid hp0
            have honeH := Lib.hid (show sc = partL L F 0 k from hone)
            have hcXH := Lib.hid hcX
            have hcFH := Lib.hid hcF
            have hr1H := Lib.hid hr1
            have hk1 := k1
            have hBw := hB
            have hwl1 : 1 ≤ wl := by omega
            clear hL hly hone hcB hcR hr2 hz0 hp0 hcX hcF hr1 hbl hwl hlybH hlebH hfbH hSCH hL0
            go_wp2_with fail
            go_loopw [15, 16] (fun s i wr => ∃ (j : Nat) (y : Int), j ≤ k ∧ i = .int .i64 (j : Int) ∧ s = .int .i64 y ∧ Hid (partL L F 0 j = y) ∧ Below V6.heap.size V6 wr) (fun _ i _ => k - (intOf i).toNat)
            case atStart => exact ⟨0, z0, Nat.zero_le _, rfl, rfl, hp0H, Below.refl _ _⟩
            case round =>
              obtain ⟨j, y, hj, rfl, rfl, hy, hbw⟩ := hrel
              by_cases hjt : j < k
              case pos =>
                have hx1 := hcXH.out j (by rw [hr1H.out]; exact hjt)
                have hx2 := hcFH.out j (by rw [hflH.out]; exact hjt)
                have hst : partL L F 0 (j + 1) = partL L F 0 j + wAt L 0 j * F[j]?.getD 0 := by unfold partL; simp only [sumJ]; omega
                have hw0 : wAt L 0 j = (L.ws[0]?.getD [])[j]?.getD 0 := rfl
                rw [hy.out, hw0] at hst
                obtain ⟨u, hu⟩ : ∃ u, (L.ws[0]?.getD [])[j]?.getD 0 = u := ⟨_, rfl⟩
                obtain ⟨v, hv⟩ : ∃ v, F[j]?.getD 0 = v := ⟨_, rfl⟩
                rw [hu] at hx1 hst
                rw [hv] at hx2 hst
                obtain ⟨p, hp⟩ : ∃ p, u * v = p := ⟨_, rfl⟩
                rw [hp] at hst
                have q1 := hpb.out (j + 1) (by omega)
                have q2 := hpb.out j (by omega)
                rw [hst] at q1
                rw [hy.out] at q2
                have hstH := Lib.hid hst
                clear hst hw0 hu hv
                have hS : Below V6.heap.size V6 wr.drew := hbw.drew
                go_wp2_with fail
                refine plain_region (fun W' => Below V6.heap.size V6 W') 18 18 (by kernel_rfl) rfl ?_
                simp only [Array.replicate_succ, Array.replicate_zero, List.push_toArray, List.nil_append, List.cons_append]
                refine take_op 0 (v := ?r2v0) rfl (by kernel_rfl) (fun _ _ _ h => h) (by rfl) hS (fun w' hS' => ?r2y0) ?r2z0
                case r2y0 =>
                  go_simp
                  rfl
                simp only [List.setIfInBounds_toArray, List.set_cons_zero, List.set_cons_succ]
                refine take_op 1 (v := ?r2v1) rfl (by kernel_rfl) (fun _ _ _ h => h) (by rfl) hS (fun w' hS' => ?r2y1) ?r2z1
                case r2y1 =>
                  go_simp
                  rfl
                simp only [List.setIfInBounds_toArray, List.set_cons_zero, List.set_cons_succ]
                refine take_op 2 (v := ?r2v2) rfl (by kernel_rfl) (fun _ _ _ h => h) (by rfl) hS (fun w' hS' => ?r2y2) ?r2z2
                case r2y2 =>
                  have e0 := (k1.below hS' k1.lt).cell (i := 4) rfl
                  have e1 := (hS'.cell (p := ⟨bL, oL, none⟩) hbL).trans hcw
                  have e2 := (hS'.cell (p := ⟨bR, oR, none⟩) hbR).trans hcr
                  have e3 := (hS'.cell (p := ⟨bX, oX + j, none⟩) hbX).trans hx1
                  have e4 := (hS'.cell (p := ⟨bF, oF + j, none⟩) hbF).trans hx2
                  clear hS'
                  go_simp
                  rfl
                simp only [List.setIfInBounds_toArray, List.set_cons_zero, List.set_cons_succ]
                refine take_op 3 (v := ?r2v3) rfl (by kernel_rfl) (fun _ _ _ h => h) (by rfl) hS (fun w' hS' => ?r2y3) ?r2z3
                case r2y3 =>
                  go_simp
                  try go_ints
                  first
                  | rfl
                  | (rw [if_pos (by omega)]; done)
                  | rw [if_pos ⟨by omega, by omega⟩]
                simp only [List.setIfInBounds_toArray, List.set_cons_zero, List.set_cons_succ]
                refine take_op 4 (v := ?r2v4) rfl (by kernel_rfl) (fun _ _ _ h => h) (by rfl) hS (fun w' hS' => ?r2y4) ?r2z4
                case r2y4 =>
                  go_simp
                  rfl
                simp only [List.setIfInBounds_toArray, List.set_cons_zero, List.set_cons_succ]
                refine take_op 5 (v := ?r2v5) rfl (by kernel_rfl) (fun _ _ _ h => h) (by rfl) hS (fun w' hS' => ?r2y5) ?r2z5
                case r2y5 =>
                  have e0 := (k1.below hS' k1.lt).cell (i := 4) rfl
                  have e1 := (hS'.cell (p := ⟨bL, oL, none⟩) hbL).trans hcw
                  have e2 := (hS'.cell (p := ⟨bR, oR, none⟩) hbR).trans hcr
                  have e3 := (hS'.cell (p := ⟨bX, oX + j, none⟩) hbX).trans hx1
                  have e4 := (hS'.cell (p := ⟨bF, oF + j, none⟩) hbF).trans hx2
                  clear hS'
                  go_simp
                  rfl
                simp only [List.setIfInBounds_toArray, List.set_cons_zero, List.set_cons_succ]
                refine take_op 6 (v := ?r2v6) rfl (by kernel_rfl) (fun _ _ _ h => h) (by rfl) hS (fun w' hS' => ?r2y6) ?r2z6
                case r2y6 =>
                  go_simp
                  try go_ints
                  first
                  | rfl
                  | (rw [if_pos (by omega)]; done)
                  | rw [if_pos ⟨by omega, by omega⟩]
                simp only [List.setIfInBounds_toArray, List.set_cons_zero, List.set_cons_succ]
                refine take_op 7 (v := ?r2v7) rfl (by kernel_rfl) (fun _ _ _ h => h) (by rfl) hS (fun w' hS' => ?r2y7) ?r2z7
                case r2y7 =>
                  have e0 := (k1.below hS' k1.lt).cell (i := 4) rfl
                  have e1 := (hS'.cell (p := ⟨bL, oL, none⟩) hbL).trans hcw
                  have e2 := (hS'.cell (p := ⟨bR, oR, none⟩) hbR).trans hcr
                  have e3 := (hS'.cell (p := ⟨bX, oX + j, none⟩) hbX).trans hx1
                  have e4 := (hS'.cell (p := ⟨bF, oF + j, none⟩) hbF).trans hx2
                  clear hS'
                  go_simp
                  rfl
                simp only [List.setIfInBounds_toArray, List.set_cons_zero, List.set_cons_succ]
                refine take_op 8 (v := ?r2v8) rfl (by kernel_rfl) (fun _ _ _ h => h) (by rfl) hS (fun w' hS' => ?r2y8) ?r2z8
                case r2y8 =>
                  go_simp
                  rfl
                simp only [List.setIfInBounds_toArray, List.set_cons_zero, List.set_cons_succ]
                refine take_op 9 (v := ?r2v9) rfl (by kernel_rfl) (fun _ _ _ h => h) (by rfl) hS (fun w' hS' => ?r2y9) ?r2z9
                case r2y9 =>
                  go_simp
                  try go_ints
                  first
                  | rfl
                  | (rw [if_pos (by omega)]; done)
                  | rw [if_pos ⟨by omega, by omega⟩]
                simp only [List.setIfInBounds_toArray, List.set_cons_zero, List.set_cons_succ]
                refine take_op 10 (v := ?r2v10) rfl (by kernel_rfl) (fun _ _ _ h => h) (by rfl) hS (fun w' hS' => ?r2y10) ?r2z10
                case r2y10 =>
                  have e0 := (k1.below hS' k1.lt).cell (i := 4) rfl
                  have e1 := (hS'.cell (p := ⟨bL, oL, none⟩) hbL).trans hcw
                  have e2 := (hS'.cell (p := ⟨bR, oR, none⟩) hbR).trans hcr
                  have e3 := (hS'.cell (p := ⟨bX, oX + j, none⟩) hbX).trans hx1
                  have e4 := (hS'.cell (p := ⟨bF, oF + j, none⟩) hbF).trans hx2
                  clear hS'
                  go_simp
                  rfl
                simp only [List.setIfInBounds_toArray, List.set_cons_zero, List.set_cons_succ]
                refine take_op 11 (v := ?r2v11) rfl (by kernel_rfl) (fun _ _ _ h => h) (by rfl) hS (fun w' hS' => ?r2y11) ?r2z11
                case r2y11 =>
                  go_simp
                  rfl
                simp only [List.setIfInBounds_toArray, List.set_cons_zero, List.set_cons_succ]
                refine take_op 12 (v := ?r2v12) rfl (by kernel_rfl) (fun _ _ _ h => h) (by rfl) hS (fun w' hS' => ?r2y12) ?r2z12
                case r2y12 =>
                  go_simp
                  rfl
                simp only [List.setIfInBounds_toArray, List.set_cons_zero, List.set_cons_succ]
                refine take_op 13 (v := ?r2v13) rfl (by kernel_rfl) (fun _ _ _ h => h) (by rfl) hS (fun w' hS' => ?r2y13) ?r2z13
                case r2y13 =>
                  go_simp
                  try go_ints
                  first
                  | rfl
                  | (rw [if_pos (by omega)]; done)
                  | rw [if_pos ⟨by omega, by omega⟩]
                simp only [List.setIfInBounds_toArray, List.set_cons_zero, List.set_cons_succ]
                refine take_op 14 (v := ?r2v14) rfl (by kernel_rfl) (fun _ _ _ h => h) (by rfl) hS (fun w' hS' => ?r2y14) ?r2z14
                case r2y14 =>
                  have e0 := (k1.below hS' k1.lt).cell (i := 4) rfl
                  have e1 := (hS'.cell (p := ⟨bL, oL, none⟩) hbL).trans hcw
                  have e2 := (hS'.cell (p := ⟨bR, oR, none⟩) hbR).trans hcr
                  have e3 := (hS'.cell (p := ⟨bX, oX + j, none⟩) hbX).trans hx1
                  have e4 := (hS'.cell (p := ⟨bF, oF + j, none⟩) hbF).trans hx2
                  clear hS'
                  go_simp
                  rfl
                simp only [List.setIfInBounds_toArray, List.set_cons_zero, List.set_cons_succ]
                refine take_op 15 (v := .int .i64 p) rfl (by kernel_rfl) (fun _ _ _ h => h) (by rfl) hS (fun w' hS' => ?r2y15) ?r2z15
                case r2y15 =>
                  clear hS'
                  go_simp
                  try rw [hp]
                  try go_ints
                  first | done | rfl | trivial
                simp only [List.setIfInBounds_toArray, List.set_cons_zero, List.set_cons_succ]
                refine take_op 16 (v := ?r2v16) rfl (by kernel_rfl) (fun _ _ _ h => h) (by rfl) hS (fun w' hS' => ?r2y16) ?r2z16
                case r2y16 =>
                  go_simp
                  try go_ints
                  rfl
                simp only [List.setIfInBounds_toArray, List.set_cons_zero, List.set_cons_succ]
                refine take_op 17 (v := ?r2v17) rfl (by kernel_rfl) (fun _ _ _ h => h) (by rfl) hS (fun w' hS' => ?r2y17) ?r2z17
                case r2y17 =>
                  go_simp
                  rfl
                simp only [List.setIfInBounds_toArray, List.set_cons_zero, List.set_cons_succ]
                refine done_ops (by kernel_rfl) ?_
                go_wp2_with fail
                go_roundw
                case rel => exact ⟨j + 1, y + p, by omega, by go_num, rfl, hstH, hS⟩
                case measure => simp [intOf]; omega
              case neg =>
                have hjk : j = k := by omega
                subst hjk
                obtain rfl : sc = y := honeH.out.trans hy.out
                clear hy honeH hpb
                go_wp2_with fail
                go_ret
                exact ⟨rfl, hBw.trans (hbw.mono hBw.size)⟩
          case neg =>
            obtain rfl : vn = 3 := by have e1 := mt hvl.1.1 h1; have e2 := mt hvl.2.1.1 h2; omega
            have g2 : decide (sc ≤ N.low) = false := decide_eq_false h2
            clear hvl
            by_cases hn1 : 1 < nn
            · have hND : decide ((1 : Int) < (nn : Int)) = true := decide_eq_true (by omega)
              have hNP : (1 : Int) < (nn : Int) := by omega
              go_wp2_with fail
              go_ret
              exact ⟨rfl, hB⟩
            have hn1 : nn = 1 := by omega
            subst hn1
            have hND : decide ((1 : Int) < ((1 : Nat) : Int)) = false := by decide
            rcases rn with h0 | ⟨bL, oL, rfl, hbL, hL⟩
            · exfalso; have := hnnH.out; rw [h0] at this; simp at this
            obtain ⟨wa, wc, ba, bc, hcw, hcb, hW, hBs⟩ := hL 0 (by rw [hnnH.out]; decide)
            have hly := hlybH.out
            obtain ⟨L, hL0⟩ : ∃ L, layAt N.Ls 0 = L := ⟨_, rfl⟩
            have hone := score_one (Ls := N.Ls) (by rw [hnnH.out]) (by rw [hL0]; rw [hL0] at hly; exact hly.b1) F
            rw [hL0] at hly hcw hcb hW hBs hone
            rw [hSCH.out, hflH.out] at hone
            have hb1 := hly.b1
            have hws := hly.ws
            obtain ⟨hr1, hr2⟩ := hly.row 0 (by omega)
            rcases hBs with h0 | ⟨bB, oB, rfl, hbB, hcB⟩
            · exfalso; rw [h0] at hb1; simp at hb1
            rcases hW with h0 | ⟨bR, oR, rfl, hbR, hcR⟩
            · exfalso; rw [h0] at hws; simp at hws; omega
            obtain ⟨ra, rc, hcr, hRr⟩ := hcR 0 (by omega)
            rw [hr1] at hcr
            rcases hRr with h0 | ⟨bX, oX, rfl, hbX, hcX⟩
            · exfalso; rw [h0] at hr1; simp at hr1; omega
            rcases rdf with h0 | ⟨bF, oF, rfl, hbF, hcF⟩
            · exfalso; have := hflH.out; rw [h0] at this; simp at this; omega
            have hc0 := hcB 0 (by omega)
            simp only [Nat.zero_mul, Nat.add_zero] at hcw hcb hcr hc0
            have hpb := Lib.hid (fun m (hm : m ≤ k) => partL_bd hly (by omega) (by decide) hlebH.out (show 0 < L.bs.length by omega) hm)
            have hp0 : partL L F 0 0 = L.bs[0]?.getD 0 := by unfold partL bAt; simp [sumJ]
            obtain ⟨z0, hz0⟩ : ∃ z, L.bs[0]?.getD 0 = z := ⟨_, rfl⟩
            rw [hz0] at hp0 hc0
            obtain ⟨bl, hbl⟩ : ∃ l, L.bs.length = l := ⟨_, rfl⟩
            obtain ⟨wl, hwl⟩ : ∃ l, L.ws.length = l := ⟨_, rfl⟩
            rw [hbl] at hcb hb1 hws
            rw [hwl] at hcw hws
            have hp0H := Lib.hid hp0
            have honeH := Lib.hid (show sc = partL L F 0 k from hone)
            have hcXH := Lib.hid hcX
            have hcFH := Lib.hid hcF
            have hr1H := Lib.hid hr1
            have hk1 := k1
            have hBw := hB
            have hwl1 : 1 ≤ wl := by omega
            clear hL hly hone hcB hcR hr2 hz0 hp0 hcX hcF hr1 hbl hwl hlybH hlebH hfbH hSCH hL0
            go_wp2_with fail
            go_loopw [15, 16] (fun s i wr => ∃ (j : Nat) (y : Int), j ≤ k ∧ i = .int .i64 (j : Int) ∧ s = .int .i64 y ∧ Hid (partL L F 0 j = y) ∧ Below V6.heap.size V6 wr) (fun _ i _ => k - (intOf i).toNat)
            case atStart => exact ⟨0, z0, Nat.zero_le _, rfl, rfl, hp0H, Below.refl _ _⟩
            case round =>
              obtain ⟨j, y, hj, rfl, rfl, hy, hbw⟩ := hrel
              by_cases hjt : j < k
              case pos =>
                have hx1 := hcXH.out j (by rw [hr1H.out]; exact hjt)
                have hx2 := hcFH.out j (by rw [hflH.out]; exact hjt)
                have hst : partL L F 0 (j + 1) = partL L F 0 j + wAt L 0 j * F[j]?.getD 0 := by unfold partL; simp only [sumJ]; omega
                have hw0 : wAt L 0 j = (L.ws[0]?.getD [])[j]?.getD 0 := rfl
                rw [hy.out, hw0] at hst
                obtain ⟨u, hu⟩ : ∃ u, (L.ws[0]?.getD [])[j]?.getD 0 = u := ⟨_, rfl⟩
                obtain ⟨v, hv⟩ : ∃ v, F[j]?.getD 0 = v := ⟨_, rfl⟩
                rw [hu] at hx1 hst
                rw [hv] at hx2 hst
                obtain ⟨p, hp⟩ : ∃ p, u * v = p := ⟨_, rfl⟩
                rw [hp] at hst
                have q1 := hpb.out (j + 1) (by omega)
                have q2 := hpb.out j (by omega)
                rw [hst] at q1
                rw [hy.out] at q2
                have hstH := Lib.hid hst
                clear hst hw0 hu hv
                have hS : Below V6.heap.size V6 wr.drew := hbw.drew
                go_wp2_with fail
                refine plain_region (fun W' => Below V6.heap.size V6 W') 18 18 (by kernel_rfl) rfl ?_
                simp only [Array.replicate_succ, Array.replicate_zero, List.push_toArray, List.nil_append, List.cons_append]
                refine take_op 0 (v := ?r3v0) rfl (by kernel_rfl) (fun _ _ _ h => h) (by rfl) hS (fun w' hS' => ?r3y0) ?r3z0
                case r3y0 =>
                  go_simp
                  rfl
                simp only [List.setIfInBounds_toArray, List.set_cons_zero, List.set_cons_succ]
                refine take_op 1 (v := ?r3v1) rfl (by kernel_rfl) (fun _ _ _ h => h) (by rfl) hS (fun w' hS' => ?r3y1) ?r3z1
                case r3y1 =>
                  go_simp
                  rfl
                simp only [List.setIfInBounds_toArray, List.set_cons_zero, List.set_cons_succ]
                refine take_op 2 (v := ?r3v2) rfl (by kernel_rfl) (fun _ _ _ h => h) (by rfl) hS (fun w' hS' => ?r3y2) ?r3z2
                case r3y2 =>
                  have e0 := (k1.below hS' k1.lt).cell (i := 4) rfl
                  have e1 := (hS'.cell (p := ⟨bL, oL, none⟩) hbL).trans hcw
                  have e2 := (hS'.cell (p := ⟨bR, oR, none⟩) hbR).trans hcr
                  have e3 := (hS'.cell (p := ⟨bX, oX + j, none⟩) hbX).trans hx1
                  have e4 := (hS'.cell (p := ⟨bF, oF + j, none⟩) hbF).trans hx2
                  clear hS'
                  go_simp
                  rfl
                simp only [List.setIfInBounds_toArray, List.set_cons_zero, List.set_cons_succ]
                refine take_op 3 (v := ?r3v3) rfl (by kernel_rfl) (fun _ _ _ h => h) (by rfl) hS (fun w' hS' => ?r3y3) ?r3z3
                case r3y3 =>
                  go_simp
                  try go_ints
                  first
                  | rfl
                  | (rw [if_pos (by omega)]; done)
                  | rw [if_pos ⟨by omega, by omega⟩]
                simp only [List.setIfInBounds_toArray, List.set_cons_zero, List.set_cons_succ]
                refine take_op 4 (v := ?r3v4) rfl (by kernel_rfl) (fun _ _ _ h => h) (by rfl) hS (fun w' hS' => ?r3y4) ?r3z4
                case r3y4 =>
                  go_simp
                  rfl
                simp only [List.setIfInBounds_toArray, List.set_cons_zero, List.set_cons_succ]
                refine take_op 5 (v := ?r3v5) rfl (by kernel_rfl) (fun _ _ _ h => h) (by rfl) hS (fun w' hS' => ?r3y5) ?r3z5
                case r3y5 =>
                  have e0 := (k1.below hS' k1.lt).cell (i := 4) rfl
                  have e1 := (hS'.cell (p := ⟨bL, oL, none⟩) hbL).trans hcw
                  have e2 := (hS'.cell (p := ⟨bR, oR, none⟩) hbR).trans hcr
                  have e3 := (hS'.cell (p := ⟨bX, oX + j, none⟩) hbX).trans hx1
                  have e4 := (hS'.cell (p := ⟨bF, oF + j, none⟩) hbF).trans hx2
                  clear hS'
                  go_simp
                  rfl
                simp only [List.setIfInBounds_toArray, List.set_cons_zero, List.set_cons_succ]
                refine take_op 6 (v := ?r3v6) rfl (by kernel_rfl) (fun _ _ _ h => h) (by rfl) hS (fun w' hS' => ?r3y6) ?r3z6
                case r3y6 =>
                  go_simp
                  try go_ints
                  first
                  | rfl
                  | (rw [if_pos (by omega)]; done)
                  | rw [if_pos ⟨by omega, by omega⟩]
                simp only [List.setIfInBounds_toArray, List.set_cons_zero, List.set_cons_succ]
                refine take_op 7 (v := ?r3v7) rfl (by kernel_rfl) (fun _ _ _ h => h) (by rfl) hS (fun w' hS' => ?r3y7) ?r3z7
                case r3y7 =>
                  have e0 := (k1.below hS' k1.lt).cell (i := 4) rfl
                  have e1 := (hS'.cell (p := ⟨bL, oL, none⟩) hbL).trans hcw
                  have e2 := (hS'.cell (p := ⟨bR, oR, none⟩) hbR).trans hcr
                  have e3 := (hS'.cell (p := ⟨bX, oX + j, none⟩) hbX).trans hx1
                  have e4 := (hS'.cell (p := ⟨bF, oF + j, none⟩) hbF).trans hx2
                  clear hS'
                  go_simp
                  rfl
                simp only [List.setIfInBounds_toArray, List.set_cons_zero, List.set_cons_succ]
                refine take_op 8 (v := ?r3v8) rfl (by kernel_rfl) (fun _ _ _ h => h) (by rfl) hS (fun w' hS' => ?r3y8) ?r3z8
                case r3y8 =>
                  go_simp
                  rfl
                simp only [List.setIfInBounds_toArray, List.set_cons_zero, List.set_cons_succ]
                refine take_op 9 (v := ?r3v9) rfl (by kernel_rfl) (fun _ _ _ h => h) (by rfl) hS (fun w' hS' => ?r3y9) ?r3z9
                case r3y9 =>
                  go_simp
                  try go_ints
                  first
                  | rfl
                  | (rw [if_pos (by omega)]; done)
                  | rw [if_pos ⟨by omega, by omega⟩]
                simp only [List.setIfInBounds_toArray, List.set_cons_zero, List.set_cons_succ]
                refine take_op 10 (v := ?r3v10) rfl (by kernel_rfl) (fun _ _ _ h => h) (by rfl) hS (fun w' hS' => ?r3y10) ?r3z10
                case r3y10 =>
                  have e0 := (k1.below hS' k1.lt).cell (i := 4) rfl
                  have e1 := (hS'.cell (p := ⟨bL, oL, none⟩) hbL).trans hcw
                  have e2 := (hS'.cell (p := ⟨bR, oR, none⟩) hbR).trans hcr
                  have e3 := (hS'.cell (p := ⟨bX, oX + j, none⟩) hbX).trans hx1
                  have e4 := (hS'.cell (p := ⟨bF, oF + j, none⟩) hbF).trans hx2
                  clear hS'
                  go_simp
                  rfl
                simp only [List.setIfInBounds_toArray, List.set_cons_zero, List.set_cons_succ]
                refine take_op 11 (v := ?r3v11) rfl (by kernel_rfl) (fun _ _ _ h => h) (by rfl) hS (fun w' hS' => ?r3y11) ?r3z11
                case r3y11 =>
                  go_simp
                  rfl
                simp only [List.setIfInBounds_toArray, List.set_cons_zero, List.set_cons_succ]
                refine take_op 12 (v := ?r3v12) rfl (by kernel_rfl) (fun _ _ _ h => h) (by rfl) hS (fun w' hS' => ?r3y12) ?r3z12
                case r3y12 =>
                  go_simp
                  rfl
                simp only [List.setIfInBounds_toArray, List.set_cons_zero, List.set_cons_succ]
                refine take_op 13 (v := ?r3v13) rfl (by kernel_rfl) (fun _ _ _ h => h) (by rfl) hS (fun w' hS' => ?r3y13) ?r3z13
                case r3y13 =>
                  go_simp
                  try go_ints
                  first
                  | rfl
                  | (rw [if_pos (by omega)]; done)
                  | rw [if_pos ⟨by omega, by omega⟩]
                simp only [List.setIfInBounds_toArray, List.set_cons_zero, List.set_cons_succ]
                refine take_op 14 (v := ?r3v14) rfl (by kernel_rfl) (fun _ _ _ h => h) (by rfl) hS (fun w' hS' => ?r3y14) ?r3z14
                case r3y14 =>
                  have e0 := (k1.below hS' k1.lt).cell (i := 4) rfl
                  have e1 := (hS'.cell (p := ⟨bL, oL, none⟩) hbL).trans hcw
                  have e2 := (hS'.cell (p := ⟨bR, oR, none⟩) hbR).trans hcr
                  have e3 := (hS'.cell (p := ⟨bX, oX + j, none⟩) hbX).trans hx1
                  have e4 := (hS'.cell (p := ⟨bF, oF + j, none⟩) hbF).trans hx2
                  clear hS'
                  go_simp
                  rfl
                simp only [List.setIfInBounds_toArray, List.set_cons_zero, List.set_cons_succ]
                refine take_op 15 (v := .int .i64 p) rfl (by kernel_rfl) (fun _ _ _ h => h) (by rfl) hS (fun w' hS' => ?r3y15) ?r3z15
                case r3y15 =>
                  clear hS'
                  go_simp
                  try rw [hp]
                  try go_ints
                  first | done | rfl | trivial
                simp only [List.setIfInBounds_toArray, List.set_cons_zero, List.set_cons_succ]
                refine take_op 16 (v := ?r3v16) rfl (by kernel_rfl) (fun _ _ _ h => h) (by rfl) hS (fun w' hS' => ?r3y16) ?r3z16
                case r3y16 =>
                  go_simp
                  try go_ints
                  rfl
                simp only [List.setIfInBounds_toArray, List.set_cons_zero, List.set_cons_succ]
                refine take_op 17 (v := ?r3v17) rfl (by kernel_rfl) (fun _ _ _ h => h) (by rfl) hS (fun w' hS' => ?r3y17) ?r3z17
                case r3y17 =>
                  go_simp
                  rfl
                simp only [List.setIfInBounds_toArray, List.set_cons_zero, List.set_cons_succ]
                refine done_ops (by kernel_rfl) ?_
                go_wp2_with fail
                go_roundw
                case rel => exact ⟨j + 1, y + p, by omega, by go_num, rfl, hstH, hS⟩
                case measure => simp [intOf]; omega
              case neg =>
                have hjk : j = k := by omega
                subst hjk
                obtain rfl : sc = y := honeH.out.trans hy.out
                clear hy honeH hpb
                go_wp2_with fail
                go_ret
                exact ⟨rfl, hBw.trans (hbw.mono hBw.size)⟩

end Go.Proofs.YtbfigbpjoaccdaaGreat

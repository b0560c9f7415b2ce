/- The walk of the law JudgeMore: it returns true, and nothing that lay has turned. -/
import Derived.Deep.DeepCutAuto
import Derived.Test.YtbfigbpjoaccdaaGreatUSetA
import Derived.Test.YtbfigbpjoaccdaaGreatQD21
import Derived.Test.YtbfigbpjoaccdaaGreatQD10
import Derived.Test.YtbfigbpjoaccdaaGreatQD7
import Derived.Test.YtbfigbpjoaccdaaGreatUImgK
namespace Go.Proofs.YtbfigbpjoaccdaaGreat
open Go Go.RowKit Go.Shelf
set_option linter.unusedVariables false
set_option linter.unusedSimpArgs false

theorem cutM {G : Prop} {P : Option Addr → Nat → Option Addr → Nat → Nat → Nat → World → Prop} (F : Option Addr → Nat → Option Addr → Nat → Nat → Nat → World → Prop) (main : (∀ a b c d e f W, F a b c d e f W → P a b c d e f W) → G) (key : ∀ a b c d e f W, F a b c d e f W → P a b c d e f W) : G := main key
set_option maxRecDepth 100000 in
set_option maxHeartbeats 16000000 in
theorem law_more (N : NetN) (na : Option Addr) (nn nc : Nat) (hnn : N.Ls.length = nn) (hz : NetSz N) (iw ih : Int) (a : Option Addr) (c n : Nat) (xs : List Int) (hn : Hid (xs.length = n)) (jw jh : Int) (a' : Option Addr) (c' n' : Nat) (ys : List Int) (hn' : Hid (ys.length = n')) (s t : Int)
    (hs : (Lit.int .i64 s).wf = true) (ht : (Lit.int .i64 t).wf = true)
    (za : Option Addr) (zc zn : Nat) (zs : List Nat) (hzn : zs.length = zn) (hzb : ∀ x ∈ zs, x < 256) (hzm0 : zn ≤ 140737488355328) (za' : Option Addr) (zc' zn' : Nat) (zs' : List Nat) (hzn' : zs'.length = zn') (hzb' : ∀ x ∈ zs', x < 256) (hzm0' : zn' ≤ 140737488355328)
    (w : World) (hm : n * 8 ≤ 140737488355328) (hm' : n' * 8 ≤ 140737488355328)
    (rn : RdLs w.heap.size w na N.Ls) (r1 : Rd w.heap.size w a xs) (r2 : Rd w.heap.size w a' ys) (rz : RdN w.heap.size w za zs) (rz' : RdN w.heap.size w za' zs') :
    Calls Tryz.prog 12 #[netv N na nn nc, imv iw ih a n c, imv jw jh a' n' c', .int .i64 s, .int .i64 t, .slice za zn zc, .slice za' zn' zc'] w fun e w' => e = .returned (.bool true) ∧ Below w.heap.size w w' := by
  have hB : Below w.heap.size w w := Below.refl _ _
  have hnnH := Lib.hid hnn
  have hzH := Lib.hid hz
  have hznH := Lib.hid hzn
  have hzbH := Lib.hid hzb
  have hznH' := Lib.hid hzn'
  have hzbH' := Lib.hid hzb'
  clear hnn hz hzn hzb hzn' hzb'
  have hbV1 : Below w.heap.size w (w.alloc (.cells #[.int .i64 N.w, .int .i64 N.h, .int .i64 N.gx, .int .i64 N.gy, .slice na nn nc, .int .i64 N.low, .int .i64 N.high] 24)) := jb_al (Below.refl _ w) _
  have k1 := Blk.new w 24 #[.int .i64 N.w, .int .i64 N.h, .int .i64 N.gx, .int .i64 N.gy, .slice na nn nc, .int .i64 N.low, .int .i64 N.high]
  obtain ⟨V1, hEV1⟩ : ∃ X, w.alloc (.cells #[.int .i64 N.w, .int .i64 N.h, .int .i64 N.gx, .int .i64 N.gy, .slice na nn nc, .int .i64 N.low, .int .i64 N.high] 24) = X := ⟨_, rfl⟩
  rw [hEV1] at hbV1 k1
  replace rn := later_l rn hbV1
  replace r1 := later_i r1 hbV1
  replace r2 := later_i r2 hbV1
  replace rz := rz.later hbV1
  replace rz' := rz'.later hbV1
  replace hB := hB.trans (hbV1.mono hB.size)
  clear hbV1
  have d0 := k1.cell (i := 0) rfl
  have d1 := k1.cell (i := 1) rfl
  have d2 := k1.cell (i := 2) rfl
  have d3 := k1.cell (i := 3) rfl
  have d4 := k1.cell (i := 4) rfl
  have d5 := k1.cell (i := 5) rfl
  have d6 := k1.cell (i := 6) rfl
  have hbV2 : Below V1.heap.size V1 (V1.alloc (.cells #[.int .i64 iw, .int .i64 ih, .slice a n c] 27)) := jb_al (Below.refl _ V1) _
  have k2 := Blk.new V1 27 #[.int .i64 iw, .int .i64 ih, .slice a n c]
  obtain ⟨V2, hEV2⟩ : ∃ X, V1.alloc (.cells #[.int .i64 iw, .int .i64 ih, .slice a n c] 27) = X := ⟨_, rfl⟩
  rw [hEV2] at hbV2 k2
  clear d0 d1 d2 d3 d4 d5 d6
  replace k1 := k1.below hbV2 k1.lt
  replace rn := later_l rn hbV2
  replace r1 := later_i r1 hbV2
  replace r2 := later_i r2 hbV2
  replace rz := rz.later hbV2
  replace rz' := rz'.later hbV2
  replace hB := hB.trans (hbV2.mono hB.size)
  clear hbV2
  have d0 := k1.cell (i := 0) rfl
  have d1 := k1.cell (i := 1) rfl
  have d2 := k1.cell (i := 2) rfl
  have d3 := k1.cell (i := 3) rfl
  have d4 := k1.cell (i := 4) rfl
  have d5 := k1.cell (i := 5) rfl
  have d6 := k1.cell (i := 6) rfl
  have m0 := k2.cell (i := 0) rfl
  have m1 := k2.cell (i := 1) rfl
  have m2 := k2.cell (i := 2) rfl
  have hbV3 : Below V2.heap.size V2 (V2.alloc (.cells #[.int .i64 jw, .int .i64 jh, .slice a' n' c'] 27)) := jb_al (Below.refl _ V2) _
  have k3 := Blk.new V2 27 #[.int .i64 jw, .int .i64 jh, .slice a' n' c']
  obtain ⟨V3, hEV3⟩ : ∃ X, V2.alloc (.cells #[.int .i64 jw, .int .i64 jh, .slice a' n' c'] 27) = X := ⟨_, rfl⟩
  rw [hEV3] at hbV3 k3
  clear d0 d1 d2 d3 d4 d5 d6 m0 m1 m2
  replace k1 := k1.below hbV3 k1.lt
  replace k2 := k2.below hbV3 k2.lt
  replace rn := later_l rn hbV3
  replace r1 := later_i r1 hbV3
  replace r2 := later_i r2 hbV3
  replace rz := rz.later hbV3
  replace rz' := rz'.later hbV3
  replace hB := hB.trans (hbV3.mono hB.size)
  clear hbV3
  have d0 := k1.cell (i := 0) rfl
  have d1 := k1.cell (i := 1) rfl
  have d2 := k1.cell (i := 2) rfl
  have d3 := k1.cell (i := 3) rfl
  have d4 := k1.cell (i := 4) rfl
  have d5 := k1.cell (i := 5) rfl
  have d6 := k1.cell (i := 6) rfl
  have m0 := k2.cell (i := 0) rfl
  have m1 := k2.cell (i := 1) rfl
  have m2 := k2.cell (i := 2) rfl
  have u0 := k3.cell (i := 0) rfl
  have u1 := k3.cell (i := 1) rfl
  have u2 := k3.cell (i := 2) rfl
  go_enter Tryz.func12, Tryz.ntmps12
  go_wp2_with fail
  clear hEV1 hEV2 hEV3
  have hc := alive8_any V3
  refine hc.mono ?_
  clear hc
  rintro e V4 ⟨rfl, hb⟩
  clear d0 d1 d2 d3 d4 d5 d6 m0 m1 m2 u0 u1 u2
  replace k1 := k1.below hb k1.lt
  replace k2 := k2.below hb k2.lt
  replace k3 := k3.below hb k3.lt
  replace rn := later_l rn hb
  replace r1 := later_i r1 hb
  replace r2 := later_i r2 hb
  replace rz := rz.later hb
  replace rz' := rz'.later hb
  replace hB := hB.trans (hb.mono hB.size)
  clear hb
  have d0 := k1.cell (i := 0) rfl
  have d1 := k1.cell (i := 1) rfl
  have d2 := k1.cell (i := 2) rfl
  have d3 := k1.cell (i := 3) rfl
  have d4 := k1.cell (i := 4) rfl
  have d5 := k1.cell (i := 5) rfl
  have d6 := k1.cell (i := 6) rfl
  have m0 := k2.cell (i := 0) rfl
  have m1 := k2.cell (i := 1) rfl
  have m2 := k2.cell (i := 2) rfl
  have u0 := k3.cell (i := 0) rfl
  have u1 := k3.cell (i := 1) rfl
  have u2 := k3.cell (i := 2) rfl
  obtain ⟨vr, hv0⟩ : ∃ v, setB N ⟨iw, ih, xs⟩ ⟨jw, jh, ys⟩ = v := ⟨_, rfl⟩
  have hvH := Lib.hid hv0
  clear hv0
  go_wp2_with fail
  have hc := set_any N na nn nc hnnH.out hzH.out iw ih a c n xs hn jw jh a' c' n' ys hn' (by omega) (by omega) V4 rn r1 r2
  rw [hvH.out] at hc
  refine hc.mono ?_
  clear hc
  rintro e V5 ⟨rfl, hb⟩
  clear d0 d1 d2 d3 d4 d5 d6 m0 m1 m2 u0 u1 u2
  replace k1 := k1.below hb k1.lt
  replace k2 := k2.below hb k2.lt
  replace k3 := k3.below hb k3.lt
  replace rn := later_l rn hb
  replace r1 := later_i r1 hb
  replace r2 := later_i r2 hb
  replace rz := rz.later hb
  replace rz' := rz'.later hb
  replace hB := hB.trans (hb.mono hB.size)
  clear hb
  have d0 := k1.cell (i := 0) rfl
  have d1 := k1.cell (i := 1) rfl
  have d2 := k1.cell (i := 2) rfl
  have d3 := k1.cell (i := 3) rfl
  have d4 := k1.cell (i := 4) rfl
  have d5 := k1.cell (i := 5) rfl
  have d6 := k1.cell (i := 6) rfl
  have m0 := k2.cell (i := 0) rfl
  have m1 := k2.cell (i := 1) rfl
  have m2 := k2.cell (i := 2) rfl
  have u0 := k3.cell (i := 0) rfl
  have u1 := k3.cell (i := 1) rfl
  have u2 := k3.cell (i := 2) rfl
  cases vr with
  | false =>
    go_wp2_with fail
    go_ret
    exact ⟨rfl, hB⟩
  | true =>
    by_cases s0 : s < 0
    case pos =>
      have s0d : decide (s < 0) = true := decide_eq_true s0
      go_wp2_with fail
      go_ret
      exact ⟨rfl, hB⟩
    case neg =>
      have s0d : decide (s < 0) = false := decide_eq_false s0
      by_cases t0 : t < 0
      case pos =>
        have t0d : decide (t < 0) = true := decide_eq_true t0
        go_wp2_with fail
        go_ret
        exact ⟨rfl, hB⟩
      case neg =>
        have t0d : decide (t < 0) = false := decide_eq_false t0
        by_cases s8 : 8 < s
        case pos =>
          have s8d : decide (8 < s) = true := decide_eq_true s8
          go_wp2_with fail
          go_ret
          exact ⟨rfl, hB⟩
        case neg =>
          have s8d : decide (8 < s) = false := decide_eq_false s8
          by_cases t8 : 8 - s < t
          case pos =>
            have t8d : decide (8 - s < t) = true := decide_eq_true t8
            go_wp2_with fail
            go_ret
            exact ⟨rfl, hB⟩
          case neg =>
            have t8d : decide (8 - s < t) = false := decide_eq_false t8
            have hSet := setB_ok hvH.out
            have hl := hSet.len
            have hsm := hSet.small
            simp only at hl hsm
            rw [hn.out] at hsm
            rw [hn.out, hn'.out] at hl
            have hcI := (camB_iff.1 hSet.c)
            have hx2 := (camB_iff.1 hSet.c').2
            have hle := hSet.le
            simp only at hcI hx2 hle
            have hx1 := hcI.2
            subst hl
            obtain ⟨⟨w1, w2⟩, ⟨w3, w4⟩, hlx⟩ := hcI.1
            obtain ⟨pw, hpw⟩ : ∃ pw : Nat, iw = (pw : Int) := ⟨iw.toNat, by omega⟩
            obtain ⟨ph, hph⟩ : ∃ ph : Nat, ih = (ph : Int) := ⟨ih.toNat, by omega⟩
            rw [hn.out, hpw, hph] at hlx
            have hnpq : pw * ph = n' := by
              have hcast : ((pw * ph : Nat) : Int) = (pw : Int) * ph := by simp
              omega
            have hmu := mid_bet hn.out (fun i hi => hle i (by rw [hn.out]; exact hi)) zs
            have hmv := mid_bet hn.out (fun i hi => hle i (by rw [hn.out]; exact hi)) zs'
            have hl3H := Lib.hid (show ∀ i, i < n' → 0 ≤ xs[i]?.getD 0 ∧ xs[i]?.getD 0 ≤ ys[i]?.getD 0 ∧ ys[i]?.getD 0 ≤ 255 from fun i hi =>
              ⟨(allIn_getD hx1 (by rw [hn.out]; exact hi)).1, hle i (by rw [hn.out]; exact hi), (allIn_getD hx2 (by rw [hn'.out]; exact hi)).2⟩)
            obtain ⟨us, hus⟩ : ∃ l, betL xs ys zs = l := ⟨_, rfl⟩
            obtain ⟨vs, hvs⟩ : ∃ l, betL xs ys zs' = l := ⟨_, rfl⟩
            rw [hus] at hmu
            rw [hvs] at hmv
            obtain ⟨hpx, hpy, hpl⟩ := zip_mid (pw := pw) (ph := ph) (by rw [hnpq]; exact hmu) (by rw [hnpq]; exact hmv) (fun i hi => (hl3H.out i (by omega)).1) (fun i hi => (hl3H.out i (by omega)).2.2)
            obtain ⟨X, hX⟩ : ∃ l, img pw ph (zipG pw us vs 3) = l := ⟨_, rfl⟩
            obtain ⟨Y, hY⟩ : ∃ l, img pw ph (zipG pw us vs 4) = l := ⟨_, rfl⟩
            rw [hX] at hpx hpl
            rw [hY] at hpy hpl
            rw [hnpq] at hpx hpy hpl
            have hnx : (⟨iw, ih, xs⟩ : ImN).px.length = n' := hn.out
            have hset2 := setB_of hvH.out (by rw [hnx]; exact hpx) (by rw [hnx]; exact hpy) (by rw [hnx]; exact hpl)
            have hset3 := setB_of hvH.out (by rw [hnx]; exact hmu) (by rw [hnx]; exact hmu) (fun _ _ => Int.le_refl _)
            have hchk := chk_mid hvH.out (by rw [hnx]; exact hmu)
            have hpart := part_law hvH.out (by rw [hnx]; exact hpx) (by rw [hnx]; exact hpy) (by rw [hnx]; exact hpl)
            have hone := one_law N us s.toNat
            have hmore := more_law (N := N) (m := ⟨iw, ih, xs⟩) (m' := ⟨jw, jh, ys⟩) (s := s) (t := t) (by omega) (by omega)
            have c1 := cert_set hvH.out (s := s) ⟨by omega, by omega⟩
            have c2 := cert_set hvH.out (s := s + t) ⟨by omega, by omega⟩
            have c3 := cert_set hvH.out (s := 0) (by decide)
            have c4 := cert_set hset2 (s := 0) (by decide)
            have c5 := cert_set hset3 (s := s) ⟨by omega, by omega⟩
            simp only at hchk hpart hone hmore c1 c2 c3 c4 c5
            rw [show (0 : Int).toNat = 0 from rfl] at c3 c4
            rw [hone] at c5
            obtain ⟨z1, e1⟩ : ∃ z, certN N.Ls N.low N.high s.toNat (bndL N xs ys) = z := ⟨_, rfl⟩
            obtain ⟨z2, e2⟩ : ∃ z, certN N.Ls N.low N.high (s + t).toNat (bndL N xs ys) = z := ⟨_, rfl⟩
            obtain ⟨z3, e3⟩ : ∃ z, certN N.Ls N.low N.high 0 (bndL N xs ys) = z := ⟨_, rfl⟩
            obtain ⟨z4, e4⟩ : ∃ z, certN N.Ls N.low N.high 0 (bndL N X Y) = z := ⟨_, rfl⟩
            obtain ⟨z5, e5⟩ : ∃ z, verdB N.low N.high (scoreN N.Ls (featL N us)) (scoreN N.Ls (featL N us)) = z := ⟨_, rfl⟩
            rw [e1] at c1 hmore
            rw [e2] at c2 hmore
            rw [e3] at c3 hpart
            rw [e4] at c4 hpart
            rw [e5] at c5
            have c1H := Lib.hid c1
            have c2H := Lib.hid c2
            have c3H := Lib.hid c3
            have c4H := Lib.hid c4
            have c5H := Lib.hid c5
            have e5H := Lib.hid e5
            have hmoreH := Lib.hid hmore
            have hpartH := Lib.hid hpart
            have hchkH := Lib.hid hchk
            have husH := Lib.hid hus
            have hvsH := Lib.hid hvs
            have hul := Lib.hid hmu.len
            have hvl := Lib.hid hmv.len
            have hXl := Lib.hid hpx.len
            have hYl := Lib.hid hpy.len
            have hz3 := Lib.hid (show zipS iw ih us iw ih vs 3 = ⟨iw, ih, X, 0⟩ by
              have k1 := hSet.cam (zs := us) (by rw [hnx]; exact hmu)
              have k2 := hSet.cam (zs := vs) (by rw [hnx]; exact hmv)
              simp only [camB, Bool.and_eq_true] at k1 k2
              unfold zipS
              rw [if_pos k1.1, if_pos k2.1, if_pos (by simp), if_pos (by decide), hpw, hph, Int.toNat_natCast, Int.toNat_natCast, hX])
            have hz4 := Lib.hid (show zipS iw ih us iw ih vs 4 = ⟨iw, ih, Y, 0⟩ by
              have k1 := hSet.cam (zs := us) (by rw [hnx]; exact hmu)
              have k2 := hSet.cam (zs := vs) (by rw [hnx]; exact hmv)
              simp only [camB, Bool.and_eq_true] at k1 k2
              unfold zipS
              rw [if_pos k1.1, if_pos k2.1, if_pos (by simp), if_pos (by decide), hpw, hph, Int.toNat_natCast, Int.toNat_natCast, hY])
            clear hSet hcI hx1 hx2 hle hmu hmv hpx hpy hpl hset2 hset3 hchk hpart hone hmore c1 c2 c3 c4 c5 e1 e2 e3 e4 e5 hus hvs hX hY hlx hnpq hnx hpw hph w1 w2 w3 w4
            go_wp2_with fail
            have hc := Certify_any N na nn nc hnnH.out hzH.out ⟨iw, ih, xs⟩ ⟨jw, jh, ys⟩ a a' n' c n' c' hn.out hn'.out (by omega) (by omega) s V5 rn r1 r2
            unfold RetCert at hc
            rw [c1H.out.1, c1H.out.2] at hc
            refine hc.mono ?_
            clear hc
            rintro e V6 ⟨rfl, hb⟩
            clear d0 d1 d2 d3 d4 d5 d6 m0 m1 m2 u0 u1 u2
            replace k1 := k1.below hb k1.lt
            replace k2 := k2.below hb k2.lt
            replace k3 := k3.below hb k3.lt
            replace rn := later_l rn hb
            replace r1 := later_i r1 hb
            replace r2 := later_i r2 hb
            replace rz := rz.later hb
            replace rz' := rz'.later hb
            replace hB := hB.trans (hb.mono hB.size)
            clear hb
            have d0 := k1.cell (i := 0) rfl
            have d1 := k1.cell (i := 1) rfl
            have d2 := k1.cell (i := 2) rfl
            have d3 := k1.cell (i := 3) rfl
            have d4 := k1.cell (i := 4) rfl
            have d5 := k1.cell (i := 5) rfl
            have d6 := k1.cell (i := 6) rfl
            have m0 := k2.cell (i := 0) rfl
            have m1 := k2.cell (i := 1) rfl
            have m2 := k2.cell (i := 2) rfl
            have u0 := k3.cell (i := 0) rfl
            have u1 := k3.cell (i := 1) rfl
            have u2 := k3.cell (i := 2) rfl
            go_wp2_with fail
            have hc := Certify_any N na nn nc hnnH.out hzH.out ⟨iw, ih, xs⟩ ⟨jw, jh, ys⟩ a a' n' c n' c' hn.out hn'.out (by omega) (by omega) (s + t) V6 rn r1 r2
            unfold RetCert at hc
            rw [c2H.out.1, c2H.out.2] at hc
            refine hc.mono ?_
            clear hc
            rintro e V7 ⟨rfl, hb⟩
            clear d0 d1 d2 d3 d4 d5 d6 m0 m1 m2 u0 u1 u2
            replace k1 := k1.below hb k1.lt
            replace k2 := k2.below hb k2.lt
            replace k3 := k3.below hb k3.lt
            replace rn := later_l rn hb
            replace r1 := later_i r1 hb
            replace r2 := later_i r2 hb
            replace rz := rz.later hb
            replace rz' := rz'.later hb
            replace hB := hB.trans (hb.mono hB.size)
            clear hb
            have d0 := k1.cell (i := 0) rfl
            have d1 := k1.cell (i := 1) rfl
            have d2 := k1.cell (i := 2) rfl
            have d3 := k1.cell (i := 3) rfl
            have d4 := k1.cell (i := 4) rfl
            have d5 := k1.cell (i := 5) rfl
            have d6 := k1.cell (i := 6) rfl
            have m0 := k2.cell (i := 0) rfl
            have m1 := k2.cell (i := 1) rfl
            have m2 := k2.cell (i := 2) rfl
            have u0 := k3.cell (i := 0) rfl
            have u1 := k3.cell (i := 1) rfl
            have u2 := k3.cell (i := 2) rfl
            have hz13 : z1 = 3 ∨ (z1 ≠ 3 ∧ z2 = z1) := by
              by_cases h : z1 = 3
              · exact .inl h
              · exact .inr ⟨h, hmoreH.out h⟩
            clear hmoreH
            rcases hz13 with hz13 | ⟨hz13, rfl⟩
            · subst hz13
              go_upto_region 8 with fail
              go_cut [20, 21] (fun s20 s21 wx => ∃ (bA bB : Nat) (a5 : Option Addr) (c5 : Nat) (a6 : Option Addr) (c6 : Nat), s20 = .pointer (some ⟨bA, 0, none⟩) ∧ s21 = .pointer (some ⟨bB, 0, none⟩) ∧ Blk wx bA 27 #[.int .i64 iw, .int .i64 ih, .slice a5 n' c5] ∧ Blk wx bB 27 #[.int .i64 iw, .int .i64 ih, .slice a6 n' c6] ∧ Rd wx.heap.size wx a5 us ∧ Rd wx.heap.size wx a6 vs ∧ Below V7.heap.size V7 wx)
              case first =>
                have g2 := k2
                have g3 := k3
                have hBV : Below V7.heap.size V7 V7.drew := (Below.refl _ _).drew
                refine plain_region (fun W' => Below V7.heap.size V7 W') 12 12 (by kernel_rfl) rfl ?_
                simp only [Array.replicate_succ, Array.replicate_zero, List.push_toArray, List.nil_append, List.cons_append]
                obtain ⟨U0, hU0⟩ : ∃ X : World, V7.drew = X := ⟨_, rfl⟩
                rw [hU0] at hBV ⊢
                clear hU0
                revert hBV
                apply cutM (fun a5 c5 a6 c6 bo bp W => Blk W bo 27 #[.int .i64 0, .int .i64 0, .slice none 0 0] ∧ Blk W bp 27 #[.int .i64 0, .int .i64 0, .slice none 0 0] ∧ W.ownsRow V7.heap.size 3 1 (.slice a5 n' c5) n' (us.map (Value.int .i64)) ∧ W.ownsRow V7.heap.size 3 1 (.slice a6 n' c6) n' (vs.map (Value.int .i64)) ∧ Below V7.heap.size V7 W ∧ V7.heap.size ≤ bo ∧ V7.heap.size ≤ bp ∧ bo ≠ bp)
                case' main => intro key2 hBV
                refine take_op 0 (v := ?qa1v) rfl (by kernel_rfl) (fun _ _ _ h => h) (by rfl) hBV (fun w' hS' => ?qa1y) ?qa1z
                case qa1y =>
                  have fm0 := (g2.below hS' g2.lt).cell (i := 0) rfl
                  have fu0 := (g3.below hS' g3.lt).cell (i := 0) rfl
                  have fm1 := (g2.below hS' g2.lt).cell (i := 1) rfl
                  have fu1 := (g3.below hS' g3.lt).cell (i := 1) rfl
                  have fm2 := (g2.below hS' g2.lt).cell (i := 2) rfl
                  have fu2 := (g3.below hS' g3.lt).cell (i := 2) rfl
                  clear hS'
                  go_simp
                  rfl
                simp only [List.setIfInBounds_toArray, List.set_cons_zero, List.set_cons_succ]
                refine take_op 1 (v := ?qa2v) rfl (by kernel_rfl) (fun _ _ _ h => h) (by rfl) hBV (fun w' hS' => ?qa2y) ?qa2z
                case qa2y =>
                  have fm0 := (g2.below hS' g2.lt).cell (i := 0) rfl
                  have fu0 := (g3.below hS' g3.lt).cell (i := 0) rfl
                  have fm1 := (g2.below hS' g2.lt).cell (i := 1) rfl
                  have fu1 := (g3.below hS' g3.lt).cell (i := 1) rfl
                  have fm2 := (g2.below hS' g2.lt).cell (i := 2) rfl
                  have fu2 := (g3.below hS' g3.lt).cell (i := 2) rfl
                  clear hS'
                  go_simp
                  rfl
                simp only [List.setIfInBounds_toArray, List.set_cons_zero, List.set_cons_succ]
                refine take_op 2 (v := ?qa3v) rfl (by kernel_rfl) (fun _ _ _ h => h) (by rfl) hBV (fun w' hS' => ?qa3y) ?qa3z
                case qa3y =>
                  go_simp
                  rfl
                simp only [List.setIfInBounds_toArray, List.set_cons_zero, List.set_cons_succ]
                refine take_op 4 (v := ?qa4v) rfl (by kernel_rfl) (fun _ _ _ h => h) (by rfl) hBV (fun w' hS' => ?qa4y) ?qa4z
                case qa4y =>
                  have fm0 := (g2.below hS' g2.lt).cell (i := 0) rfl
                  have fu0 := (g3.below hS' g3.lt).cell (i := 0) rfl
                  have fm1 := (g2.below hS' g2.lt).cell (i := 1) rfl
                  have fu1 := (g3.below hS' g3.lt).cell (i := 1) rfl
                  have fm2 := (g2.below hS' g2.lt).cell (i := 2) rfl
                  have fu2 := (g3.below hS' g3.lt).cell (i := 2) rfl
                  clear hS'
                  go_simp
                  rfl
                simp only [List.setIfInBounds_toArray, List.set_cons_zero, List.set_cons_succ]
                refine take_op 5 (v := ?qa5v) rfl (by kernel_rfl) (fun _ _ _ h => h) (by rfl) hBV (fun w' hS' => ?qa5y) ?qa5z
                case qa5y =>
                  have fm0 := (g2.below hS' g2.lt).cell (i := 0) rfl
                  have fu0 := (g3.below hS' g3.lt).cell (i := 0) rfl
                  have fm1 := (g2.below hS' g2.lt).cell (i := 1) rfl
                  have fu1 := (g3.below hS' g3.lt).cell (i := 1) rfl
                  have fm2 := (g2.below hS' g2.lt).cell (i := 2) rfl
                  have fu2 := (g3.below hS' g3.lt).cell (i := 2) rfl
                  clear hS'
                  go_simp
                  rfl
                simp only [List.setIfInBounds_toArray, List.set_cons_zero, List.set_cons_succ]
                refine take_op 6 (v := ?qa6v) rfl (by kernel_rfl) (fun _ _ _ h => h) (by rfl) hBV (fun w' hS' => ?qa6y) ?qa6z
                case qa6y =>
                  go_simp
                  rfl
                simp only [List.setIfInBounds_toArray, List.set_cons_zero, List.set_cons_succ]
                refine fork3 (i := 3) (j := 8) (m := 9) (by kernel_rfl) ?_ ?_ ?_
                · refine step_at 3 rfl (fun K hK => ?_)
                  rw [if_pos (by rfl)]
                  go_simp
                  have hc := between_own iw ih a c n' xs hn jw jh a' c' ys hn' za zc zn zs hznH.out hzbH.out hsm hzm0 hl3H.out U0 (later_i r1 hBV) (later_i r2 hBV) (rz.later hBV)
                  rw [husH.out] at hc
                  refine hc.mono ?_
                  clear hc
                  rintro e U1 ⟨⟨a5, c5, rfl, hrow⟩, hb⟩
                  have rowon := jrow_weaken hrow hBV.size
                  clear hrow
                  replace hBV := hBV.trans (hb.mono hBV.size)
                  clear hb
                  have rowo := rowon
                  clear rowon
                  refine hK.out _ _ (fun h => hBV) ?_
                  clear hK K
                  try simp only [Act.put, List.setIfInBounds_toArray, List.set_cons_zero, List.set_cons_succ]
                  refine fork3 (i := 7) (j := 8) (m := 9) (by kernel_rfl) ?_ ?_ ?_
                  · refine step_at 7 rfl (fun K hK => ?_)
                    rw [if_pos (by rfl)]
                    go_simp
                    have hc := between_own iw ih a c n' xs hn jw jh a' c' ys hn' za' zc' zn' zs' hznH'.out hzbH'.out hsm hzm0' hl3H.out U1 (later_i r1 hBV) (later_i r2 hBV) (rz'.later hBV)
                    rw [hvsH.out] at hc
                    refine hc.mono ?_
                    clear hc
                    rintro e U2 ⟨⟨a6, c6, rfl, hrow⟩, hb⟩
                    have rowpn := jrow_weaken hrow hBV.size
                    clear hrow
                    replace rowo := row_below rowo hb
                    replace hBV := hBV.trans (hb.mono hBV.size)
                    clear hb
                    have rowp := rowpn
                    clear rowpn
                    refine hK.out _ _ (fun h => hBV) ?_
                    clear hK K
                    try simp only [Act.put, List.setIfInBounds_toArray, List.set_cons_zero, List.set_cons_succ]
                    refine fork2 (i := 8) (j := 9) (by kernel_rfl) ?_ ?_
                    · refine step_at 8 rfl (fun K hK => ?_)
                      rw [if_pos (by rfl)]
                      go_simp
                      have kon := Blk.new U2 27 #[.int .i64 0, .int .i64 0, .slice none 0 0]
                      obtain ⟨bo, hbo⟩ : ∃ b, U2.heap.size = b := ⟨_, rfl⟩
                      obtain ⟨U3, hW⟩ : ∃ W2, U2.alloc (.cells #[.int .i64 0, .int .i64 0, .slice none 0 0] 27) = W2 := ⟨_, rfl⟩
                      have hb : Below U2.heap.size U2 U3 := alloc_below hW
                      rw [hW] at kon ⊢
                      rw [hbo] at kon ⊢
                      have hlko := hBV.size
                      rw [hbo] at hlko
                      replace rowo := row_below rowo hb
                      replace rowp := row_below rowp hb
                      replace hBV := hBV.trans (hb.mono hBV.size)
                      clear hb
                      have ko := kon
                      clear kon hW hbo
                      refine hK.out _ _ (fun h => hBV) ?_
                      clear hK K
                      try simp only [Act.put, List.setIfInBounds_toArray, List.set_cons_zero, List.set_cons_succ]
                      refine step_op 9 (by kernel_rfl) rfl (fun K hK => ?_)
                      rw [if_pos (by rfl)]
                      go_simp
                      have kpn := Blk.new U3 27 #[.int .i64 0, .int .i64 0, .slice none 0 0]
                      obtain ⟨bp, hbo⟩ : ∃ b, U3.heap.size = b := ⟨_, rfl⟩
                      obtain ⟨U4, hW⟩ : ∃ W2, U3.alloc (.cells #[.int .i64 0, .int .i64 0, .slice none 0 0] 27) = W2 := ⟨_, rfl⟩
                      have hb : Below U3.heap.size U3 U4 := alloc_below hW
                      rw [hW] at kpn ⊢
                      rw [hbo] at kpn ⊢
                      have hlkp := hBV.size
                      rw [hbo] at hlkp
                      have hlne := ko.lt
                      rw [hbo] at hlne
                      have hne : bo ≠ bp := by omega
                      clear hlne
                      replace ko := ko.below hb ko.lt
                      replace rowo := row_below rowo hb
                      replace rowp := row_below rowp hb
                      replace hBV := hBV.trans (hb.mono hBV.size)
                      clear hb
                      have kp := kpn
                      clear kpn hW hbo
                      refine hK.out _ _ (fun h => hBV) ?_
                      clear hK K
                      try simp only [Act.put, List.setIfInBounds_toArray, List.set_cons_zero, List.set_cons_succ]
                      exact key2 a5 c5 a6 c6 bo bp U4 ⟨ko, kp, rowo, rowp, hBV, hlko, hlkp, hne⟩
                    · refine step_at 9 rfl (fun K hK => ?_)
                      rw [if_pos (by rfl)]
                      go_simp
                      have kpn := Blk.new U2 27 #[.int .i64 0, .int .i64 0, .slice none 0 0]
                      obtain ⟨bp, hbo⟩ : ∃ b, U2.heap.size = b := ⟨_, rfl⟩
                      obtain ⟨U3, hW⟩ : ∃ W2, U2.alloc (.cells #[.int .i64 0, .int .i64 0, .slice none 0 0] 27) = W2 := ⟨_, rfl⟩
                      have hb : Below U2.heap.size U2 U3 := alloc_below hW
                      rw [hW] at kpn ⊢
                      rw [hbo] at kpn ⊢
                      have hlkp := hBV.size
                      rw [hbo] at hlkp
                      replace rowo := row_below rowo hb
                      replace rowp := row_below rowp hb
                      replace hBV := hBV.trans (hb.mono hBV.size)
                      clear hb
                      have kp := kpn
                      clear kpn hW hbo
                      refine hK.out _ _ (fun h => hBV) ?_
                      clear hK K
                      try simp only [Act.put, List.setIfInBounds_toArray, List.set_cons_zero, List.set_cons_succ]
                      refine step_op 8 (by kernel_rfl) rfl (fun K hK => ?_)
                      rw [if_pos (by rfl)]
                      go_simp
                      have kon := Blk.new U3 27 #[.int .i64 0, .int .i64 0, .slice none 0 0]
                      obtain ⟨bo, hbo⟩ : ∃ b, U3.heap.size = b := ⟨_, rfl⟩
                      obtain ⟨U4, hW⟩ : ∃ W2, U3.alloc (.cells #[.int .i64 0, .int .i64 0, .slice none 0 0] 27) = W2 := ⟨_, rfl⟩
                      have hb : Below U3.heap.size U3 U4 := alloc_below hW
                      rw [hW] at kon ⊢
                      rw [hbo] at kon ⊢
                      have hlko := hBV.size
                      rw [hbo] at hlko
                      have hlne := kp.lt
                      rw [hbo] at hlne
                      have hne : bo ≠ bp := by omega
                      clear hlne
                      replace kp := kp.below hb kp.lt
                      replace rowo := row_below rowo hb
                      replace rowp := row_below rowp hb
                      replace hBV := hBV.trans (hb.mono hBV.size)
                      clear hb
                      have ko := kon
                      clear kon hW hbo
                      refine hK.out _ _ (fun h => hBV) ?_
                      clear hK K
                      try simp only [Act.put, List.setIfInBounds_toArray, List.set_cons_zero, List.set_cons_succ]
                      exact key2 a5 c5 a6 c6 bo bp U4 ⟨ko, kp, rowo, rowp, hBV, hlko, hlkp, hne⟩
                  · refine step_at 8 rfl (fun K hK => ?_)
                    rw [if_pos (by rfl)]
                    go_simp
                    have kon := Blk.new U1 27 #[.int .i64 0, .int .i64 0, .slice none 0 0]
                    obtain ⟨bo, hbo⟩ : ∃ b, U1.heap.size = b := ⟨_, rfl⟩
                    obtain ⟨U2, hW⟩ : ∃ W2, U1.alloc (.cells #[.int .i64 0, .int .i64 0, .slice none 0 0] 27) = W2 := ⟨_, rfl⟩
                    have hb : Below U1.heap.size U1 U2 := alloc_below hW
                    rw [hW] at kon ⊢
                    rw [hbo] at kon ⊢
                    have hlko := hBV.size
                    rw [hbo] at hlko
                    replace rowo := row_below rowo hb
                    replace hBV := hBV.trans (hb.mono hBV.size)
                    clear hb
                    have ko := kon
                    clear kon hW hbo
                    refine hK.out _ _ (fun h => hBV) ?_
                    clear hK K
                    try simp only [Act.put, List.setIfInBounds_toArray, List.set_cons_zero, List.set_cons_succ]
                    refine fork2 (i := 7) (j := 9) (by kernel_rfl) ?_ ?_
                    · refine step_at 7 rfl (fun K hK => ?_)
                      rw [if_pos (by rfl)]
                      go_simp
                      have hc := between_own iw ih a c n' xs hn jw jh a' c' ys hn' za' zc' zn' zs' hznH'.out hzbH'.out hsm hzm0' hl3H.out U2 (later_i r1 hBV) (later_i r2 hBV) (rz'.later hBV)
                      rw [hvsH.out] at hc
                      refine hc.mono ?_
                      clear hc
                      rintro e U3 ⟨⟨a6, c6, rfl, hrow⟩, hb⟩
                      have rowpn := jrow_weaken hrow hBV.size
                      clear hrow
                      replace ko := ko.below hb ko.lt
                      replace rowo := row_below rowo hb
                      replace hBV := hBV.trans (hb.mono hBV.size)
                      clear hb
                      have rowp := rowpn
                      clear rowpn
                      refine hK.out _ _ (fun h => hBV) ?_
                      clear hK K
                      try simp only [Act.put, List.setIfInBounds_toArray, List.set_cons_zero, List.set_cons_succ]
                      refine step_op 9 (by kernel_rfl) rfl (fun K hK => ?_)
                      rw [if_pos (by rfl)]
                      go_simp
                      have kpn := Blk.new U3 27 #[.int .i64 0, .int .i64 0, .slice none 0 0]
                      obtain ⟨bp, hbo⟩ : ∃ b, U3.heap.size = b := ⟨_, rfl⟩
                      obtain ⟨U4, hW⟩ : ∃ W2, U3.alloc (.cells #[.int .i64 0, .int .i64 0, .slice none 0 0] 27) = W2 := ⟨_, rfl⟩
                      have hb : Below U3.heap.size U3 U4 := alloc_below hW
                      rw [hW] at kpn ⊢
                      rw [hbo] at kpn ⊢
                      have hlkp := hBV.size
                      rw [hbo] at hlkp
                      have hlne := ko.lt
                      rw [hbo] at hlne
                      have hne : bo ≠ bp := by omega
                      clear hlne
                      replace ko := ko.below hb ko.lt
                      replace rowo := row_below rowo hb
                      replace rowp := row_below rowp hb
                      replace hBV := hBV.trans (hb.mono hBV.size)
                      clear hb
                      have kp := kpn
                      clear kpn hW hbo
                      refine hK.out _ _ (fun h => hBV) ?_
                      clear hK K
                      try simp only [Act.put, List.setIfInBounds_toArray, List.set_cons_zero, List.set_cons_succ]
                      exact key2 a5 c5 a6 c6 bo bp U4 ⟨ko, kp, rowo, rowp, hBV, hlko, hlkp, hne⟩
                    · refine step_at 9 rfl (fun K hK => ?_)
                      rw [if_pos (by rfl)]
                      go_simp
                      have kpn := Blk.new U2 27 #[.int .i64 0, .int .i64 0, .slice none 0 0]
                      obtain ⟨bp, hbo⟩ : ∃ b, U2.heap.size = b := ⟨_, rfl⟩
                      obtain ⟨U3, hW⟩ : ∃ W2, U2.alloc (.cells #[.int .i64 0, .int .i64 0, .slice none 0 0] 27) = W2 := ⟨_, rfl⟩
                      have hb : Below U2.heap.size U2 U3 := alloc_below hW
                      rw [hW] at kpn ⊢
                      rw [hbo] at kpn ⊢
                      have hlkp := hBV.size
                      rw [hbo] at hlkp
                      have hlne := ko.lt
                      rw [hbo] at hlne
                      have hne : bo ≠ bp := by omega
                      clear hlne
                      replace ko := ko.below hb ko.lt
                      replace rowo := row_below rowo hb
                      replace hBV := hBV.trans (hb.mono hBV.size)
                      clear hb
                      have kp := kpn
                      clear kpn hW hbo
                      refine hK.out _ _ (fun h => hBV) ?_
                      clear hK K
                      try simp only [Act.put, List.setIfInBounds_toArray, List.set_cons_zero, List.set_cons_succ]
                      refine step_op 7 (by kernel_rfl) rfl (fun K hK => ?_)
                      rw [if_pos (by rfl)]
                      go_simp
                      have hc := between_own iw ih a c n' xs hn jw jh a' c' ys hn' za' zc' zn' zs' hznH'.out hzbH'.out hsm hzm0' hl3H.out U3 (later_i r1 hBV) (later_i r2 hBV) (rz'.later hBV)
                      rw [hvsH.out] at hc
                      refine hc.mono ?_
                      clear hc
                      rintro e U4 ⟨⟨a6, c6, rfl, hrow⟩, hb⟩
                      have rowpn := jrow_weaken hrow hBV.size
                      clear hrow
                      replace ko := ko.below hb ko.lt
                      replace kp := kp.below hb kp.lt
                      replace rowo := row_below rowo hb
                      replace hBV := hBV.trans (hb.mono hBV.size)
                      clear hb
                      have rowp := rowpn
                      clear rowpn
                      refine hK.out _ _ (fun h => hBV) ?_
                      clear hK K
                      try simp only [Act.put, List.setIfInBounds_toArray, List.set_cons_zero, List.set_cons_succ]
                      exact key2 a5 c5 a6 c6 bo bp U4 ⟨ko, kp, rowo, rowp, hBV, hlko, hlkp, hne⟩
                  · refine step_at 9 rfl (fun K hK => ?_)
                    rw [if_pos (by rfl)]
                    go_simp
                    have kpn := Blk.new U1 27 #[.int .i64 0, .int .i64 0, .slice none 0 0]
                    obtain ⟨bp, hbo⟩ : ∃ b, U1.heap.size = b := ⟨_, rfl⟩
                    obtain ⟨U2, hW⟩ : ∃ W2, U1.alloc (.cells #[.int .i64 0, .int .i64 0, .slice none 0 0] 27) = W2 := ⟨_, rfl⟩
                    have hb : Below U1.heap.size U1 U2 := alloc_below hW
                    rw [hW] at kpn ⊢
                    rw [hbo] at kpn ⊢
                    have hlkp := hBV.size
                    rw [hbo] at hlkp
                    replace rowo := row_below rowo hb
                    replace hBV := hBV.trans (hb.mono hBV.size)
                    clear hb
                    have kp := kpn
                    clear kpn hW hbo
                    refine hK.out _ _ (fun h => hBV) ?_
                    clear hK K
                    try simp only [Act.put, List.setIfInBounds_toArray, List.set_cons_zero, List.set_cons_succ]
                    refine fork2 (i := 7) (j := 8) (by kernel_rfl) ?_ ?_
                    · refine step_at 7 rfl (fun K hK => ?_)
                      rw [if_pos (by rfl)]
                      go_simp
                      have hc := between_own iw ih a c n' xs hn jw jh a' c' ys hn' za' zc' zn' zs' hznH'.out hzbH'.out hsm hzm0' hl3H.out U2 (later_i r1 hBV) (later_i r2 hBV) (rz'.later hBV)
                      rw [hvsH.out] at hc
                      refine hc.mono ?_
                      clear hc
                      rintro e U3 ⟨⟨a6, c6, rfl, hrow⟩, hb⟩
                      have rowpn := jrow_weaken hrow hBV.size
                      clear hrow
                      replace kp := kp.below hb kp.lt
                      replace rowo := row_below rowo hb
                      replace hBV := hBV.trans (hb.mono hBV.size)
                      clear hb
                      have rowp := rowpn
                      clear rowpn
                      refine hK.out _ _ (fun h => hBV) ?_
                      clear hK K
                      try simp only [Act.put, List.setIfInBounds_toArray, List.set_cons_zero, List.set_cons_succ]
                      refine step_op 8 (by kernel_rfl) rfl (fun K hK => ?_)
                      rw [if_pos (by rfl)]
                      go_simp
                      have kon := Blk.new U3 27 #[.int .i64 0, .int .i64 0, .slice none 0 0]
                      obtain ⟨bo, hbo⟩ : ∃ b, U3.heap.size = b := ⟨_, rfl⟩
                      obtain ⟨U4, hW⟩ : ∃ W2, U3.alloc (.cells #[.int .i64 0, .int .i64 0, .slice none 0 0] 27) = W2 := ⟨_, rfl⟩
                      have hb : Below U3.heap.size U3 U4 := alloc_below hW
                      rw [hW] at kon ⊢
                      rw [hbo] at kon ⊢
                      have hlko := hBV.size
                      rw [hbo] at hlko
                      have hlne := kp.lt
                      rw [hbo] at hlne
                      have hne : bo ≠ bp := by omega
                      clear hlne
                      replace kp := kp.below hb kp.lt
                      replace rowo := row_below rowo hb
                      replace rowp := row_below rowp hb
                      replace hBV := hBV.trans (hb.mono hBV.size)
                      clear hb
                      have ko := kon
                      clear kon hW hbo
                      refine hK.out _ _ (fun h => hBV) ?_
                      clear hK K
                      try simp only [Act.put, List.setIfInBounds_toArray, List.set_cons_zero, List.set_cons_succ]
                      exact key2 a5 c5 a6 c6 bo bp U4 ⟨ko, kp, rowo, rowp, hBV, hlko, hlkp, hne⟩
                    · refine step_at 8 rfl (fun K hK => ?_)
                      rw [if_pos (by rfl)]
                      go_simp
                      have kon := Blk.new U2 27 #[.int .i64 0, .int .i64 0, .slice none 0 0]
                      obtain ⟨bo, hbo⟩ : ∃ b, U2.heap.size = b := ⟨_, rfl⟩
                      obtain ⟨U3, hW⟩ : ∃ W2, U2.alloc (.cells #[.int .i64 0, .int .i64 0, .slice none 0 0] 27) = W2 := ⟨_, rfl⟩
                      have hb : Below U2.heap.size U2 U3 := alloc_below hW
                      rw [hW] at kon ⊢
                      rw [hbo] at kon ⊢
                      have hlko := hBV.size
                      rw [hbo] at hlko
                      have hlne := kp.lt
                      rw [hbo] at hlne
                      have hne : bo ≠ bp := by omega
                      clear hlne
                      replace kp := kp.below hb kp.lt
                      replace rowo := row_below rowo hb
                      replace hBV := hBV.trans (hb.mono hBV.size)
                      clear hb
                      have ko := kon
                      clear kon hW hbo
                      refine hK.out _ _ (fun h => hBV) ?_
                      clear hK K
                      try simp only [Act.put, List.setIfInBounds_toArray, List.set_cons_zero, List.set_cons_succ]
                      refine step_op 7 (by kernel_rfl) rfl (fun K hK => ?_)
                      rw [if_pos (by rfl)]
                      go_simp
                      have hc := between_own iw ih a c n' xs hn jw jh a' c' ys hn' za' zc' zn' zs' hznH'.out hzbH'.out hsm hzm0' hl3H.out U3 (later_i r1 hBV) (later_i r2 hBV) (rz'.later hBV)
                      rw [hvsH.out] at hc
                      refine hc.mono ?_
                      clear hc
                      rintro e U4 ⟨⟨a6, c6, rfl, hrow⟩, hb⟩
                      have rowpn := jrow_weaken hrow hBV.size
                      clear hrow
                      replace ko := ko.below hb ko.lt
                      replace kp := kp.below hb kp.lt
                      replace rowo := row_below rowo hb
                      replace hBV := hBV.trans (hb.mono hBV.size)
                      clear hb
                      have rowp := rowpn
                      clear rowpn
                      refine hK.out _ _ (fun h => hBV) ?_
                      clear hK K
                      try simp only [Act.put, List.setIfInBounds_toArray, List.set_cons_zero, List.set_cons_succ]
                      exact key2 a5 c5 a6 c6 bo bp U4 ⟨ko, kp, rowo, rowp, hBV, hlko, hlkp, hne⟩
                · refine step_at 8 rfl (fun K hK => ?_)
                  rw [if_pos (by rfl)]
                  go_simp
                  have kon := Blk.new U0 27 #[.int .i64 0, .int .i64 0, .slice none 0 0]
                  obtain ⟨bo, hbo⟩ : ∃ b, U0.heap.size = b := ⟨_, rfl⟩
                  obtain ⟨U1, hW⟩ : ∃ W2, U0.alloc (.cells #[.int .i64 0, .int .i64 0, .slice none 0 0] 27) = W2 := ⟨_, rfl⟩
                  have hb : Below U0.heap.size U0 U1 := alloc_below hW
                  rw [hW] at kon ⊢
                  rw [hbo] at kon ⊢
                  have hlko := hBV.size
                  rw [hbo] at hlko
                  replace hBV := hBV.trans (hb.mono hBV.size)
                  clear hb
                  have ko := kon
                  clear kon hW hbo
                  refine hK.out _ _ (fun h => hBV) ?_
                  clear hK K
                  try simp only [Act.put, List.setIfInBounds_toArray, List.set_cons_zero, List.set_cons_succ]
                  refine fork2 (i := 3) (j := 9) (by kernel_rfl) ?_ ?_
                  · refine step_at 3 rfl (fun K hK => ?_)
                    rw [if_pos (by rfl)]
                    go_simp
                    have hc := between_own iw ih a c n' xs hn jw jh a' c' ys hn' za zc zn zs hznH.out hzbH.out hsm hzm0 hl3H.out U1 (later_i r1 hBV) (later_i r2 hBV) (rz.later hBV)
                    rw [husH.out] at hc
                    refine hc.mono ?_
                    clear hc
                    rintro e U2 ⟨⟨a5, c5, rfl, hrow⟩, hb⟩
                    have rowon := jrow_weaken hrow hBV.size
                    clear hrow
                    replace ko := ko.below hb ko.lt
                    replace hBV := hBV.trans (hb.mono hBV.size)
                    clear hb
                    have rowo := rowon
                    clear rowon
                    refine hK.out _ _ (fun h => hBV) ?_
                    clear hK K
                    try simp only [Act.put, List.setIfInBounds_toArray, List.set_cons_zero, List.set_cons_succ]
                    refine fork2 (i := 7) (j := 9) (by kernel_rfl) ?_ ?_
                    · refine step_at 7 rfl (fun K hK => ?_)
                      rw [if_pos (by rfl)]
                      go_simp
                      have hc := between_own iw ih a c n' xs hn jw jh a' c' ys hn' za' zc' zn' zs' hznH'.out hzbH'.out hsm hzm0' hl3H.out U2 (later_i r1 hBV) (later_i r2 hBV) (rz'.later hBV)
                      rw [hvsH.out] at hc
                      refine hc.mono ?_
                      clear hc
                      rintro e U3 ⟨⟨a6, c6, rfl, hrow⟩, hb⟩
                      have rowpn := jrow_weaken hrow hBV.size
                      clear hrow
                      replace ko := ko.below hb ko.lt
                      replace rowo := row_below rowo hb
                      replace hBV := hBV.trans (hb.mono hBV.size)
                      clear hb
                      have rowp := rowpn
                      clear rowpn
                      refine hK.out _ _ (fun h => hBV) ?_
                      clear hK K
                      try simp only [Act.put, List.setIfInBounds_toArray, List.set_cons_zero, List.set_cons_succ]
                      refine step_op 9 (by kernel_rfl) rfl (fun K hK => ?_)
                      rw [if_pos (by rfl)]
                      go_simp
                      have kpn := Blk.new U3 27 #[.int .i64 0, .int .i64 0, .slice none 0 0]
                      obtain ⟨bp, hbo⟩ : ∃ b, U3.heap.size = b := ⟨_, rfl⟩
                      obtain ⟨U4, hW⟩ : ∃ W2, U3.alloc (.cells #[.int .i64 0, .int .i64 0, .slice none 0 0] 27) = W2 := ⟨_, rfl⟩
                      have hb : Below U3.heap.size U3 U4 := alloc_below hW
                      rw [hW] at kpn ⊢
                      rw [hbo] at kpn ⊢
                      have hlkp := hBV.size
                      rw [hbo] at hlkp
                      have hlne := ko.lt
                      rw [hbo] at hlne
                      have hne : bo ≠ bp := by omega
                      clear hlne
                      replace ko := ko.below hb ko.lt
                      replace rowo := row_below rowo hb
                      replace rowp := row_below rowp hb
                      replace hBV := hBV.trans (hb.mono hBV.size)
                      clear hb
                      have kp := kpn
                      clear kpn hW hbo
                      refine hK.out _ _ (fun h => hBV) ?_
                      clear hK K
                      try simp only [Act.put, List.setIfInBounds_toArray, List.set_cons_zero, List.set_cons_succ]
                      exact key2 a5 c5 a6 c6 bo bp U4 ⟨ko, kp, rowo, rowp, hBV, hlko, hlkp, hne⟩
                    · refine step_at 9 rfl (fun K hK => ?_)
                      rw [if_pos (by rfl)]
                      go_simp
                      have kpn := Blk.new U2 27 #[.int .i64 0, .int .i64 0, .slice none 0 0]
                      obtain ⟨bp, hbo⟩ : ∃ b, U2.heap.size = b := ⟨_, rfl⟩
                      obtain ⟨U3, hW⟩ : ∃ W2, U2.alloc (.cells #[.int .i64 0, .int .i64 0, .slice none 0 0] 27) = W2 := ⟨_, rfl⟩
                      have hb : Below U2.heap.size U2 U3 := alloc_below hW
                      rw [hW] at kpn ⊢
                      rw [hbo] at kpn ⊢
                      have hlkp := hBV.size
                      rw [hbo] at hlkp
                      have hlne := ko.lt
                      rw [hbo] at hlne
                      have hne : bo ≠ bp := by omega
                      clear hlne
                      replace ko := ko.below hb ko.lt
                      replace rowo := row_below rowo hb
                      replace hBV := hBV.trans (hb.mono hBV.size)
                      clear hb
                      have kp := kpn
                      clear kpn hW hbo
                      refine hK.out _ _ (fun h => hBV) ?_
                      clear hK K
                      try simp only [Act.put, List.setIfInBounds_toArray, List.set_cons_zero, List.set_cons_succ]
                      refine step_op 7 (by kernel_rfl) rfl (fun K hK => ?_)
                      rw [if_pos (by rfl)]
                      go_simp
                      have hc := between_own iw ih a c n' xs hn jw jh a' c' ys hn' za' zc' zn' zs' hznH'.out hzbH'.out hsm hzm0' hl3H.out U3 (later_i r1 hBV) (later_i r2 hBV) (rz'.later hBV)
                      rw [hvsH.out] at hc
                      refine hc.mono ?_
                      clear hc
                      rintro e U4 ⟨⟨a6, c6, rfl, hrow⟩, hb⟩
                      have rowpn := jrow_weaken hrow hBV.size
                      clear hrow
                      replace ko := ko.below hb ko.lt
                      replace kp := kp.below hb kp.lt
                      replace rowo := row_below rowo hb
                      replace hBV := hBV.trans (hb.mono hBV.size)
                      clear hb
                      have rowp := rowpn
                      clear rowpn
                      refine hK.out _ _ (fun h => hBV) ?_
                      clear hK K
                      try simp only [Act.put, List.setIfInBounds_toArray, List.set_cons_zero, List.set_cons_succ]
                      exact key2 a5 c5 a6 c6 bo bp U4 ⟨ko, kp, rowo, rowp, hBV, hlko, hlkp, hne⟩
                  · refine step_at 9 rfl (fun K hK => ?_)
                    rw [if_pos (by rfl)]
                    go_simp
                    have kpn := Blk.new U1 27 #[.int .i64 0, .int .i64 0, .slice none 0 0]
                    obtain ⟨bp, hbo⟩ : ∃ b, U1.heap.size = b := ⟨_, rfl⟩
                    obtain ⟨U2, hW⟩ : ∃ W2, U1.alloc (.cells #[.int .i64 0, .int .i64 0, .slice none 0 0] 27) = W2 := ⟨_, rfl⟩
                    have hb : Below U1.heap.size U1 U2 := alloc_below hW
                    rw [hW] at kpn ⊢
                    rw [hbo] at kpn ⊢
                    have hlkp := hBV.size
                    rw [hbo] at hlkp
                    have hlne := ko.lt
                    rw [hbo] at hlne
                    have hne : bo ≠ bp := by omega
                    clear hlne
                    replace ko := ko.below hb ko.lt
                    replace hBV := hBV.trans (hb.mono hBV.size)
                    clear hb
                    have kp := kpn
                    clear kpn hW hbo
                    refine hK.out _ _ (fun h => hBV) ?_
                    clear hK K
                    try simp only [Act.put, List.setIfInBounds_toArray, List.set_cons_zero, List.set_cons_succ]
                    refine step_op 3 (by kernel_rfl) rfl (fun K hK => ?_)
                    rw [if_pos (by rfl)]
                    go_simp
                    have hc := between_own iw ih a c n' xs hn jw jh a' c' ys hn' za zc zn zs hznH.out hzbH.out hsm hzm0 hl3H.out U2 (later_i r1 hBV) (later_i r2 hBV) (rz.later hBV)
                    rw [husH.out] at hc
                    refine hc.mono ?_
                    clear hc
                    rintro e U3 ⟨⟨a5, c5, rfl, hrow⟩, hb⟩
                    have rowon := jrow_weaken hrow hBV.size
                    clear hrow
                    replace ko := ko.below hb ko.lt
                    replace kp := kp.below hb kp.lt
                    replace hBV := hBV.trans (hb.mono hBV.size)
                    clear hb
                    have rowo := rowon
                    clear rowon
                    refine hK.out _ _ (fun h => hBV) ?_
                    clear hK K
                    try simp only [Act.put, List.setIfInBounds_toArray, List.set_cons_zero, List.set_cons_succ]
                    refine step_op 7 (by kernel_rfl) rfl (fun K hK => ?_)
                    rw [if_pos (by rfl)]
                    go_simp
                    have hc := between_own iw ih a c n' xs hn jw jh a' c' ys hn' za' zc' zn' zs' hznH'.out hzbH'.out hsm hzm0' hl3H.out U3 (later_i r1 hBV) (later_i r2 hBV) (rz'.later hBV)
                    rw [hvsH.out] at hc
                    refine hc.mono ?_
                    clear hc
                    rintro e U4 ⟨⟨a6, c6, rfl, hrow⟩, hb⟩
                    have rowpn := jrow_weaken hrow hBV.size
                    clear hrow
                    replace ko := ko.below hb ko.lt
                    replace kp := kp.below hb kp.lt
                    replace rowo := row_below rowo hb
                    replace hBV := hBV.trans (hb.mono hBV.size)
                    clear hb
                    have rowp := rowpn
                    clear rowpn
                    refine hK.out _ _ (fun h => hBV) ?_
                    clear hK K
                    try simp only [Act.put, List.setIfInBounds_toArray, List.set_cons_zero, List.set_cons_succ]
                    exact key2 a5 c5 a6 c6 bo bp U4 ⟨ko, kp, rowo, rowp, hBV, hlko, hlkp, hne⟩
                · refine step_at 9 rfl (fun K hK => ?_)
                  rw [if_pos (by rfl)]
                  go_simp
                  have kpn := Blk.new U0 27 #[.int .i64 0, .int .i64 0, .slice none 0 0]
                  obtain ⟨bp, hbo⟩ : ∃ b, U0.heap.size = b := ⟨_, rfl⟩
                  obtain ⟨U1, hW⟩ : ∃ W2, U0.alloc (.cells #[.int .i64 0, .int .i64 0, .slice none 0 0] 27) = W2 := ⟨_, rfl⟩
                  have hb : Below U0.heap.size U0 U1 := alloc_below hW
                  rw [hW] at kpn ⊢
                  rw [hbo] at kpn ⊢
                  have hlkp := hBV.size
                  rw [hbo] at hlkp
                  replace hBV := hBV.trans (hb.mono hBV.size)
                  clear hb
                  have kp := kpn
                  clear kpn hW hbo
                  refine hK.out _ _ (fun h => hBV) ?_
                  clear hK K
                  try simp only [Act.put, List.setIfInBounds_toArray, List.set_cons_zero, List.set_cons_succ]
                  refine fork2 (i := 3) (j := 8) (by kernel_rfl) ?_ ?_
                  · refine step_at 3 rfl (fun K hK => ?_)
                    rw [if_pos (by rfl)]
                    go_simp
                    have hc := between_own iw ih a c n' xs hn jw jh a' c' ys hn' za zc zn zs hznH.out hzbH.out hsm hzm0 hl3H.out U1 (later_i r1 hBV) (later_i r2 hBV) (rz.later hBV)
                    rw [husH.out] at hc
                    refine hc.mono ?_
                    clear hc
                    rintro e U2 ⟨⟨a5, c5, rfl, hrow⟩, hb⟩
                    have rowon := jrow_weaken hrow hBV.size
                    clear hrow
                    replace kp := kp.below hb kp.lt
                    replace hBV := hBV.trans (hb.mono hBV.size)
                    clear hb
                    have rowo := rowon
                    clear rowon
                    refine hK.out _ _ (fun h => hBV) ?_
                    clear hK K
                    try simp only [Act.put, List.setIfInBounds_toArray, List.set_cons_zero, List.set_cons_succ]
                    refine fork2 (i := 7) (j := 8) (by kernel_rfl) ?_ ?_
                    · refine step_at 7 rfl (fun K hK => ?_)
                      rw [if_pos (by rfl)]
                      go_simp
                      have hc := between_own iw ih a c n' xs hn jw jh a' c' ys hn' za' zc' zn' zs' hznH'.out hzbH'.out hsm hzm0' hl3H.out U2 (later_i r1 hBV) (later_i r2 hBV) (rz'.later hBV)
                      rw [hvsH.out] at hc
                      refine hc.mono ?_
                      clear hc
                      rintro e U3 ⟨⟨a6, c6, rfl, hrow⟩, hb⟩
                      have rowpn := jrow_weaken hrow hBV.size
                      clear hrow
                      replace kp := kp.below hb kp.lt
                      replace rowo := row_below rowo hb
                      replace hBV := hBV.trans (hb.mono hBV.size)
                      clear hb
                      have rowp := rowpn
                      clear rowpn
                      refine hK.out _ _ (fun h => hBV) ?_
                      clear hK K
                      try simp only [Act.put, List.setIfInBounds_toArray, List.set_cons_zero, List.set_cons_succ]
                      refine step_op 8 (by kernel_rfl) rfl (fun K hK => ?_)
                      rw [if_pos (by rfl)]
                      go_simp
                      have kon := Blk.new U3 27 #[.int .i64 0, .int .i64 0, .slice none 0 0]
                      obtain ⟨bo, hbo⟩ : ∃ b, U3.heap.size = b := ⟨_, rfl⟩
                      obtain ⟨U4, hW⟩ : ∃ W2, U3.alloc (.cells #[.int .i64 0, .int .i64 0, .slice none 0 0] 27) = W2 := ⟨_, rfl⟩
                      have hb : Below U3.heap.size U3 U4 := alloc_below hW
                      rw [hW] at kon ⊢
                      rw [hbo] at kon ⊢
                      have hlko := hBV.size
                      rw [hbo] at hlko
                      have hlne := kp.lt
                      rw [hbo] at hlne
                      have hne : bo ≠ bp := by omega
                      clear hlne
                      replace kp := kp.below hb kp.lt
                      replace rowo := row_below rowo hb
                      replace rowp := row_below rowp hb
                      replace hBV := hBV.trans (hb.mono hBV.size)
                      clear hb
                      have ko := kon
                      clear kon hW hbo
                      refine hK.out _ _ (fun h => hBV) ?_
                      clear hK K
                      try simp only [Act.put, List.setIfInBounds_toArray, List.set_cons_zero, List.set_cons_succ]
                      exact key2 a5 c5 a6 c6 bo bp U4 ⟨ko, kp, rowo, rowp, hBV, hlko, hlkp, hne⟩
                    · refine step_at 8 rfl (fun K hK => ?_)
                      rw [if_pos (by rfl)]
                      go_simp
                      have kon := Blk.new U2 27 #[.int .i64 0, .int .i64 0, .slice none 0 0]
                      obtain ⟨bo, hbo⟩ : ∃ b, U2.heap.size = b := ⟨_, rfl⟩
                      obtain ⟨U3, hW⟩ : ∃ W2, U2.alloc (.cells #[.int .i64 0, .int .i64 0, .slice none 0 0] 27) = W2 := ⟨_, rfl⟩
                      have hb : Below U2.heap.size U2 U3 := alloc_below hW
                      rw [hW] at kon ⊢
                      rw [hbo] at kon ⊢
                      have hlko := hBV.size
                      rw [hbo] at hlko
                      have hlne := kp.lt
                      rw [hbo] at hlne
                      have hne : bo ≠ bp := by omega
                      clear hlne
                      replace kp := kp.below hb kp.lt
                      replace rowo := row_below rowo hb
                      replace hBV := hBV.trans (hb.mono hBV.size)
                      clear hb
                      have ko := kon
                      clear kon hW hbo
                      refine hK.out _ _ (fun h => hBV) ?_
                      clear hK K
                      try simp only [Act.put, List.setIfInBounds_toArray, List.set_cons_zero, List.set_cons_succ]
                      refine step_op 7 (by kernel_rfl) rfl (fun K hK => ?_)
                      rw [if_pos (by rfl)]
                      go_simp
                      have hc := between_own iw ih a c n' xs hn jw jh a' c' ys hn' za' zc' zn' zs' hznH'.out hzbH'.out hsm hzm0' hl3H.out U3 (later_i r1 hBV) (later_i r2 hBV) (rz'.later hBV)
                      rw [hvsH.out] at hc
                      refine hc.mono ?_
                      clear hc
                      rintro e U4 ⟨⟨a6, c6, rfl, hrow⟩, hb⟩
                      have rowpn := jrow_weaken hrow hBV.size
                      clear hrow
                      replace ko := ko.below hb ko.lt
                      replace kp := kp.below hb kp.lt
                      replace rowo := row_below rowo hb
                      replace hBV := hBV.trans (hb.mono hBV.size)
                      clear hb
                      have rowp := rowpn
                      clear rowpn
                      refine hK.out _ _ (fun h => hBV) ?_
                      clear hK K
                      try simp only [Act.put, List.setIfInBounds_toArray, List.set_cons_zero, List.set_cons_succ]
                      exact key2 a5 c5 a6 c6 bo bp U4 ⟨ko, kp, rowo, rowp, hBV, hlko, hlkp, hne⟩
                  · refine step_at 8 rfl (fun K hK => ?_)
                    rw [if_pos (by rfl)]
                    go_simp
                    have kon := Blk.new U1 27 #[.int .i64 0, .int .i64 0, .slice none 0 0]
                    obtain ⟨bo, hbo⟩ : ∃ b, U1.heap.size = b := ⟨_, rfl⟩
                    obtain ⟨U2, hW⟩ : ∃ W2, U1.alloc (.cells #[.int .i64 0, .int .i64 0, .slice none 0 0] 27) = W2 := ⟨_, rfl⟩
                    have hb : Below U1.heap.size U1 U2 := alloc_below hW
                    rw [hW] at kon ⊢
                    rw [hbo] at kon ⊢
                    have hlko := hBV.size
                    rw [hbo] at hlko
                    have hlne := kp.lt
                    rw [hbo] at hlne
                    have hne : bo ≠ bp := by omega
                    clear hlne
                    replace kp := kp.below hb kp.lt
                    replace hBV := hBV.trans (hb.mono hBV.size)
                    clear hb
                    have ko := kon
                    clear kon hW hbo
                    refine hK.out _ _ (fun h => hBV) ?_
                    clear hK K
                    try simp only [Act.put, List.setIfInBounds_toArray, List.set_cons_zero, List.set_cons_succ]
                    refine step_op 3 (by kernel_rfl) rfl (fun K hK => ?_)
                    rw [if_pos (by rfl)]
                    go_simp
                    have hc := between_own iw ih a c n' xs hn jw jh a' c' ys hn' za zc zn zs hznH.out hzbH.out hsm hzm0 hl3H.out U2 (later_i r1 hBV) (later_i r2 hBV) (rz.later hBV)
                    rw [husH.out] at hc
                    refine hc.mono ?_
                    clear hc
                    rintro e U3 ⟨⟨a5, c5, rfl, hrow⟩, hb⟩
                    have rowon := jrow_weaken hrow hBV.size
                    clear hrow
                    replace ko := ko.below hb ko.lt
                    replace kp := kp.below hb kp.lt
                    replace hBV := hBV.trans (hb.mono hBV.size)
                    clear hb
                    have rowo := rowon
                    clear rowon
                    refine hK.out _ _ (fun h => hBV) ?_
                    clear hK K
                    try simp only [Act.put, List.setIfInBounds_toArray, List.set_cons_zero, List.set_cons_succ]
                    refine step_op 7 (by kernel_rfl) rfl (fun K hK => ?_)
                    rw [if_pos (by rfl)]
                    go_simp
                    have hc := between_own iw ih a c n' xs hn jw jh a' c' ys hn' za' zc' zn' zs' hznH'.out hzbH'.out hsm hzm0' hl3H.out U3 (later_i r1 hBV) (later_i r2 hBV) (rz'.later hBV)
                    rw [hvsH.out] at hc
                    refine hc.mono ?_
                    clear hc
                    rintro e U4 ⟨⟨a6, c6, rfl, hrow⟩, hb⟩
                    have rowpn := jrow_weaken hrow hBV.size
                    clear hrow
                    replace ko := ko.below hb ko.lt
                    replace kp := kp.below hb kp.lt
                    replace rowo := row_below rowo hb
                    replace hBV := hBV.trans (hb.mono hBV.size)
                    clear hb
                    have rowp := rowpn
                    clear rowpn
                    refine hK.out _ _ (fun h => hBV) ?_
                    clear hK K
                    try simp only [Act.put, List.setIfInBounds_toArray, List.set_cons_zero, List.set_cons_succ]
                    exact key2 a5 c5 a6 c6 bo bp U4 ⟨ko, kp, rowo, rowp, hBV, hlko, hlkp, hne⟩
                case key =>
                  rintro a5 c5 a6 c6 bo bp U4 ⟨ko, kp, rowo, rowp, hBV, hlko, hlkp, hne⟩
                  refine step_op 10 (by kernel_rfl) rfl (fun K hK => ?_)
                  rw [if_pos (by rfl)]
                  have z0 := ko.cell (i := 0) rfl
                  have fz0 := ko.frozen 0
                  have z1 := ko.cell (i := 1) rfl
                  have fz1 := ko.frozen 1
                  have z2 := ko.cell (i := 2) rfl
                  have fz2 := ko.frozen 2
                  go_simp
                  clear z0 z1 z2 fz0 fz1 fz2
                  have hg := put3_grow2 U4 bo (.int .i64 iw) (.int .i64 ih) (.slice a5 n' c5)
                  have kon := put3_blk ko (.int .i64 iw) (.int .i64 ih) (.slice a5 n' c5)
                  have ron := row_put3 rowo (ko.not_row (by decide) rowo) (.int .i64 iw) (.int .i64 ih) (.slice a5 n' c5)
                  have rpn := row_put3 rowp (ko.not_row (by decide) rowp) (.int .i64 iw) (.int .i64 ih) (.slice a5 n' c5)
                  replace hBV := hBV.trans (put3_below (n := V7.heap.size) (B := bo) (by omega) (.int .i64 iw) (.int .i64 ih) (.slice a5 n' c5))
                  obtain ⟨U5, hW⟩ : ∃ W2, put3 U4 bo (.int .i64 iw) (.int .i64 ih) (.slice a5 n' c5) = W2 := ⟨_, rfl⟩
                  have hW' : ((U4.setCell ⟨bo, 0, none⟩ (.int .i64 iw)).setCell ⟨bo, 1, none⟩ (.int .i64 ih)).setCell ⟨bo, 2, none⟩ (.slice a5 n' c5) = U5 := hW
                  rw [hW] at hg kon ron rpn hBV
                  rw [hW']
                  clear hW hW' rowo rowp
                  have rowo := ron
                  have rowp := rpn
                  clear ron rpn
                  replace kp := kp.kept hg (by simp <;> omega)
                  replace ko := kon
                  clear kon hg
                  refine hK.out _ _ (fun h => hBV) ?_
                  clear hK K
                  try simp only [Act.put, List.setIfInBounds_toArray, List.set_cons_zero, List.set_cons_succ]
                  refine step_op 11 (by kernel_rfl) rfl (fun K hK => ?_)
                  rw [if_pos (by rfl)]
                  have z0 := kp.cell (i := 0) rfl
                  have fz0 := kp.frozen 0
                  have z1 := kp.cell (i := 1) rfl
                  have fz1 := kp.frozen 1
                  have z2 := kp.cell (i := 2) rfl
                  have fz2 := kp.frozen 2
                  go_simp
                  clear z0 z1 z2 fz0 fz1 fz2
                  have hg := put3_grow2 U5 bp (.int .i64 iw) (.int .i64 ih) (.slice a6 n' c6)
                  have kpn := put3_blk kp (.int .i64 iw) (.int .i64 ih) (.slice a6 n' c6)
                  have ron := row_put3 rowo (kp.not_row (by decide) rowo) (.int .i64 iw) (.int .i64 ih) (.slice a6 n' c6)
                  have rpn := row_put3 rowp (kp.not_row (by decide) rowp) (.int .i64 iw) (.int .i64 ih) (.slice a6 n' c6)
                  replace hBV := hBV.trans (put3_below (n := V7.heap.size) (B := bp) (by omega) (.int .i64 iw) (.int .i64 ih) (.slice a6 n' c6))
                  obtain ⟨U6, hW⟩ : ∃ W2, put3 U5 bp (.int .i64 iw) (.int .i64 ih) (.slice a6 n' c6) = W2 := ⟨_, rfl⟩
                  have hW' : ((U5.setCell ⟨bp, 0, none⟩ (.int .i64 iw)).setCell ⟨bp, 1, none⟩ (.int .i64 ih)).setCell ⟨bp, 2, none⟩ (.slice a6 n' c6) = U6 := hW
                  rw [hW] at hg kpn ron rpn hBV
                  rw [hW']
                  clear hW hW' rowo rowp
                  have rowo := ron
                  have rowp := rpn
                  clear ron rpn
                  replace ko := ko.kept hg (by simp <;> omega)
                  replace kp := kpn
                  clear kpn hg
                  refine hK.out _ _ (fun h => hBV) ?_
                  clear hK K
                  try simp only [Act.put, List.setIfInBounds_toArray, List.set_cons_zero, List.set_cons_succ]
                  refine done_ops (by kernel_rfl) ?_
                  go_wp2_with fail
                  go_meet
                  exact ⟨bo, bp, a5, c5, a6, c6, rfl, rfl, ko, kp, row_rd' hul.out rowo, row_rd' hvl.out rowp, hBV⟩
              case rest =>
              obtain ⟨bA, bB, a5, c5, a6, c6, rfl, rfl, kA, kB, rA, rB, hb⟩ := hcut
              clear d0 d1 d2 d3 d4 d5 d6 m0 m1 m2 u0 u1 u2
              replace k1 := k1.below hb k1.lt
              replace k2 := k2.below hb k2.lt
              replace k3 := k3.below hb k3.lt
              replace rn := later_l rn hb
              replace r1 := later_i r1 hb
              replace r2 := later_i r2 hb
              replace rz := rz.later hb
              replace rz' := rz'.later hb
              replace hB := hB.trans (hb.mono hB.size)
              clear hb
              have d0 := k1.cell (i := 0) rfl
              have d1 := k1.cell (i := 1) rfl
              have d2 := k1.cell (i := 2) rfl
              have d3 := k1.cell (i := 3) rfl
              have d4 := k1.cell (i := 4) rfl
              have d5 := k1.cell (i := 5) rfl
              have d6 := k1.cell (i := 6) rfl
              have m0 := k2.cell (i := 0) rfl
              have m1 := k2.cell (i := 1) rfl
              have m2 := k2.cell (i := 2) rfl
              have u0 := k3.cell (i := 0) rfl
              have u1 := k3.cell (i := 1) rfl
              have u2 := k3.cell (i := 2) rfl
              have g0 := kA.cell (i := 0) rfl
              have g1 := kA.cell (i := 1) rfl
              have g2 := kA.cell (i := 2) rfl
              have h0 := kB.cell (i := 0) rfl
              have h1 := kB.cell (i := 1) rfl
              have h2 := kB.cell (i := 2) rfl
              go_wp2_with fail
              have hc := Zip_any iw ih a5 c5 n' us hul iw ih a6 c6 n' vs hvl 3 (by decide) (by decide) wc (by omega) (by omega) rA rB
              unfold RetIm at hc
              rw [hz3.out] at hc
              refine hc.mono ?_
              clear hc
              rintro e V8 ⟨⟨vx, rfl, tx, rfl, hrx⟩, hb⟩
              clear d0 d1 d2 d3 d4 d5 d6 m0 m1 m2 u0 u1 u2 g0 g1 g2 h0 h1 h2
              replace k1 := k1.below hb k1.lt
              replace k2 := k2.below hb k2.lt
              replace k3 := k3.below hb k3.lt
              replace kA := kA.below hb kA.lt
              replace kB := kB.below hb kB.lt
              replace rn := later_l rn hb
              replace r1 := later_i r1 hb
              replace r2 := later_i r2 hb
              replace rz := rz.later hb
              replace rz' := rz'.later hb
              replace rA := later_i rA hb
              replace rB := later_i rB hb
              replace hB := hB.trans (hb.mono hB.size)
              clear hb
              have d0 := k1.cell (i := 0) rfl
              have d1 := k1.cell (i := 1) rfl
              have d2 := k1.cell (i := 2) rfl
              have d3 := k1.cell (i := 3) rfl
              have d4 := k1.cell (i := 4) rfl
              have d5 := k1.cell (i := 5) rfl
              have d6 := k1.cell (i := 6) rfl
              have m0 := k2.cell (i := 0) rfl
              have m1 := k2.cell (i := 1) rfl
              have m2 := k2.cell (i := 2) rfl
              have u0 := k3.cell (i := 0) rfl
              have u1 := k3.cell (i := 1) rfl
              have u2 := k3.cell (i := 2) rfl
              have g0 := kA.cell (i := 0) rfl
              have g1 := kA.cell (i := 1) rfl
              have g2 := kA.cell (i := 2) rfl
              have h0 := kB.cell (i := 0) rfl
              have h1 := kB.cell (i := 1) rfl
              have h2 := kB.cell (i := 2) rfl
              obtain ⟨px, qx, rfl⟩ := row_slice hrx
              have rx := row_rd' rfl hrx
              clear hrx
              simp only [hXl.out]
              have kX := Blk.new V8 27 #[.int .i64 0, .int .i64 0, .slice none 0 0]
              obtain ⟨bkX, hxkX⟩ : ∃ b, V8.heap.size = b := ⟨_, rfl⟩
              obtain ⟨V8a, hAkX⟩ : ∃ X, V8.alloc (.cells #[.int .i64 0, .int .i64 0, .slice none 0 0] 27) = X := ⟨_, rfl⟩
              have hba : Below V8.heap.size V8 V8a := alloc_below hAkX
              rw [hAkX, hxkX] at kX
              have hlekX : V8.heap.size ≤ bkX := by omega
              have ykX0 := kX.cell (i := 0) rfl
              have fykX0 := kX.frozen 0
              have ykX1 := kX.cell (i := 1) rfl
              have fykX1 := kX.frozen 1
              have ykX2 := kX.cell (i := 2) rfl
              have fykX2 := kX.frozen 2
              have kXn := put3_blk kX (.int .i64 iw) (.int .i64 ih) (.slice px n' qx)
              have hb : Below V8.heap.size V8 (put3 V8a bkX (.int .i64 iw) (.int .i64 ih) (.slice px n' qx)) := hba.trans (put3_below hlekX (.int .i64 iw) (.int .i64 ih) (.slice px n' qx))
              obtain ⟨V9, hPkX⟩ : ∃ X, put3 V8a bkX (.int .i64 iw) (.int .i64 ih) (.slice px n' qx) = X := ⟨_, rfl⟩
              rw [hPkX] at kXn hb
              replace kX := kXn
              clear kXn hba hlekX
              clear d0 d1 d2 d3 d4 d5 d6 m0 m1 m2 u0 u1 u2 g0 g1 g2 h0 h1 h2
              replace k1 := k1.below hb k1.lt
              replace k2 := k2.below hb k2.lt
              replace k3 := k3.below hb k3.lt
              replace kA := kA.below hb kA.lt
              replace kB := kB.below hb kB.lt
              replace rn := later_l rn hb
              replace r1 := later_i r1 hb
              replace r2 := later_i r2 hb
              replace rz := rz.later hb
              replace rz' := rz'.later hb
              replace rA := later_i rA hb
              replace rB := later_i rB hb
              replace rx := later_i rx hb
              replace hB := hB.trans (hb.mono hB.size)
              clear hb
              have d0 := k1.cell (i := 0) rfl
              have d1 := k1.cell (i := 1) rfl
              have d2 := k1.cell (i := 2) rfl
              have d3 := k1.cell (i := 3) rfl
              have d4 := k1.cell (i := 4) rfl
              have d5 := k1.cell (i := 5) rfl
              have d6 := k1.cell (i := 6) rfl
              have m0 := k2.cell (i := 0) rfl
              have m1 := k2.cell (i := 1) rfl
              have m2 := k2.cell (i := 2) rfl
              have u0 := k3.cell (i := 0) rfl
              have u1 := k3.cell (i := 1) rfl
              have u2 := k3.cell (i := 2) rfl
              have g0 := kA.cell (i := 0) rfl
              have g1 := kA.cell (i := 1) rfl
              have g2 := kA.cell (i := 2) rfl
              have h0 := kB.cell (i := 0) rfl
              have h1 := kB.cell (i := 1) rfl
              have h2 := kB.cell (i := 2) rfl
              have e0 := kX.cell (i := 0) rfl
              have e1 := kX.cell (i := 1) rfl
              have e2 := kX.cell (i := 2) rfl
              go_wp2_with fail
              clear hAkX hxkX hPkX ykX0 ykX1 ykX2 fykX0 fykX1 fykX2
              have hc := Zip_any iw ih a5 c5 n' us hul iw ih a6 c6 n' vs hvl 4 (by decide) (by decide) V9 (by omega) (by omega) rA rB
              unfold RetIm at hc
              rw [hz4.out] at hc
              refine hc.mono ?_
              clear hc
              rintro e V10 ⟨⟨vy, rfl, ty, rfl, hry⟩, hb⟩
              clear d0 d1 d2 d3 d4 d5 d6 m0 m1 m2 u0 u1 u2 g0 g1 g2 h0 h1 h2 e0 e1 e2
              replace k1 := k1.below hb k1.lt
              replace k2 := k2.below hb k2.lt
              replace k3 := k3.below hb k3.lt
              replace kA := kA.below hb kA.lt
              replace kB := kB.below hb kB.lt
              replace kX := kX.below hb kX.lt
              replace rn := later_l rn hb
              replace r1 := later_i r1 hb
              replace r2 := later_i r2 hb
              replace rz := rz.later hb
              replace rz' := rz'.later hb
              replace rA := later_i rA hb
              replace rB := later_i rB hb
              replace rx := later_i rx hb
              replace hB := hB.trans (hb.mono hB.size)
              clear hb
              have d0 := k1.cell (i := 0) rfl
              have d1 := k1.cell (i := 1) rfl
              have d2 := k1.cell (i := 2) rfl
              have d3 := k1.cell (i := 3) rfl
              have d4 := k1.cell (i := 4) rfl
              have d5 := k1.cell (i := 5) rfl
              have d6 := k1.cell (i := 6) rfl
              have m0 := k2.cell (i := 0) rfl
              have m1 := k2.cell (i := 1) rfl
              have m2 := k2.cell (i := 2) rfl
              have u0 := k3.cell (i := 0) rfl
              have u1 := k3.cell (i := 1) rfl
              have u2 := k3.cell (i := 2) rfl
              have g0 := kA.cell (i := 0) rfl
              have g1 := kA.cell (i := 1) rfl
              have g2 := kA.cell (i := 2) rfl
              have h0 := kB.cell (i := 0) rfl
              have h1 := kB.cell (i := 1) rfl
              have h2 := kB.cell (i := 2) rfl
              have e0 := kX.cell (i := 0) rfl
              have e1 := kX.cell (i := 1) rfl
              have e2 := kX.cell (i := 2) rfl
              obtain ⟨py, qy, rfl⟩ := row_slice hry
              have ry := row_rd' rfl hry
              clear hry
              simp only [hYl.out]
              have kY := Blk.new V10 27 #[.int .i64 0, .int .i64 0, .slice none 0 0]
              obtain ⟨bkY, hxkY⟩ : ∃ b, V10.heap.size = b := ⟨_, rfl⟩
              obtain ⟨V10a, hAkY⟩ : ∃ X, V10.alloc (.cells #[.int .i64 0, .int .i64 0, .slice none 0 0] 27) = X := ⟨_, rfl⟩
              have hba : Below V10.heap.size V10 V10a := alloc_below hAkY
              rw [hAkY, hxkY] at kY
              have hlekY : V10.heap.size ≤ bkY := by omega
              have ykY0 := kY.cell (i := 0) rfl
              have fykY0 := kY.frozen 0
              have ykY1 := kY.cell (i := 1) rfl
              have fykY1 := kY.frozen 1
              have ykY2 := kY.cell (i := 2) rfl
              have fykY2 := kY.frozen 2
              have kYn := put3_blk kY (.int .i64 iw) (.int .i64 ih) (.slice py n' qy)
              have hb : Below V10.heap.size V10 (put3 V10a bkY (.int .i64 iw) (.int .i64 ih) (.slice py n' qy)) := hba.trans (put3_below hlekY (.int .i64 iw) (.int .i64 ih) (.slice py n' qy))
              obtain ⟨V11, hPkY⟩ : ∃ X, put3 V10a bkY (.int .i64 iw) (.int .i64 ih) (.slice py n' qy) = X := ⟨_, rfl⟩
              rw [hPkY] at kYn hb
              replace kY := kYn
              clear kYn hba hlekY
              clear d0 d1 d2 d3 d4 d5 d6 m0 m1 m2 u0 u1 u2 g0 g1 g2 h0 h1 h2 e0 e1 e2
              replace k1 := k1.below hb k1.lt
              replace k2 := k2.below hb k2.lt
              replace k3 := k3.below hb k3.lt
              replace kA := kA.below hb kA.lt
              replace kB := kB.below hb kB.lt
              replace kX := kX.below hb kX.lt
              replace rn := later_l rn hb
              replace r1 := later_i r1 hb
              replace r2 := later_i r2 hb
              replace rz := rz.later hb
              replace rz' := rz'.later hb
              replace rA := later_i rA hb
              replace rB := later_i rB hb
              replace rx := later_i rx hb
              replace ry := later_i ry hb
              replace hB := hB.trans (hb.mono hB.size)
              clear hb
              have d0 := k1.cell (i := 0) rfl
              have d1 := k1.cell (i := 1) rfl
              have d2 := k1.cell (i := 2) rfl
              have d3 := k1.cell (i := 3) rfl
              have d4 := k1.cell (i := 4) rfl
              have d5 := k1.cell (i := 5) rfl
              have d6 := k1.cell (i := 6) rfl
              have m0 := k2.cell (i := 0) rfl
              have m1 := k2.cell (i := 1) rfl
              have m2 := k2.cell (i := 2) rfl
              have u0 := k3.cell (i := 0) rfl
              have u1 := k3.cell (i := 1) rfl
              have u2 := k3.cell (i := 2) rfl
              have g0 := kA.cell (i := 0) rfl
              have g1 := kA.cell (i := 1) rfl
              have g2 := kA.cell (i := 2) rfl
              have h0 := kB.cell (i := 0) rfl
              have h1 := kB.cell (i := 1) rfl
              have h2 := kB.cell (i := 2) rfl
              have e0 := kX.cell (i := 0) rfl
              have e1 := kX.cell (i := 1) rfl
              have e2 := kX.cell (i := 2) rfl
              have f0 := kY.cell (i := 0) rfl
              have f1 := kY.cell (i := 1) rfl
              have f2 := kY.cell (i := 2) rfl
              go_wp2_with fail
              clear hAkY hxkY hPkY ykY0 ykY1 ykY2 fykY0 fykY1 fykY2
              have hc := Certify_any N na nn nc hnnH.out hzH.out ⟨iw, ih, xs⟩ ⟨jw, jh, ys⟩ a a' n' c n' c' hn.out hn'.out (by omega) (by omega) 0 V11 rn r1 r2
              unfold RetCert at hc
              rw [c3H.out.1, c3H.out.2] at hc
              refine hc.mono ?_
              clear hc
              rintro e V12 ⟨rfl, hb⟩
              clear d0 d1 d2 d3 d4 d5 d6 m0 m1 m2 u0 u1 u2 g0 g1 g2 h0 h1 h2 e0 e1 e2 f0 f1 f2
              replace k1 := k1.below hb k1.lt
              replace k2 := k2.below hb k2.lt
              replace k3 := k3.below hb k3.lt
              replace kA := kA.below hb kA.lt
              replace kB := kB.below hb kB.lt
              replace kX := kX.below hb kX.lt
              replace kY := kY.below hb kY.lt
              replace rn := later_l rn hb
              replace r1 := later_i r1 hb
              replace r2 := later_i r2 hb
              replace rz := rz.later hb
              replace rz' := rz'.later hb
              replace rA := later_i rA hb
              replace rB := later_i rB hb
              replace rx := later_i rx hb
              replace ry := later_i ry hb
              replace hB := hB.trans (hb.mono hB.size)
              clear hb
              have d0 := k1.cell (i := 0) rfl
              have d1 := k1.cell (i := 1) rfl
              have d2 := k1.cell (i := 2) rfl
              have d3 := k1.cell (i := 3) rfl
              have d4 := k1.cell (i := 4) rfl
              have d5 := k1.cell (i := 5) rfl
              have d6 := k1.cell (i := 6) rfl
              have m0 := k2.cell (i := 0) rfl
              have m1 := k2.cell (i := 1) rfl
              have m2 := k2.cell (i := 2) rfl
              have u0 := k3.cell (i := 0) rfl
              have u1 := k3.cell (i := 1) rfl
              have u2 := k3.cell (i := 2) rfl
              have g0 := kA.cell (i := 0) rfl
              have g1 := kA.cell (i := 1) rfl
              have g2 := kA.cell (i := 2) rfl
              have h0 := kB.cell (i := 0) rfl
              have h1 := kB.cell (i := 1) rfl
              have h2 := kB.cell (i := 2) rfl
              have e0 := kX.cell (i := 0) rfl
              have e1 := kX.cell (i := 1) rfl
              have e2 := kX.cell (i := 2) rfl
              have f0 := kY.cell (i := 0) rfl
              have f1 := kY.cell (i := 1) rfl
              have f2 := kY.cell (i := 2) rfl
              go_wp2_with fail
              have hc := Certify_any N na nn nc hnnH.out hzH.out ⟨iw, ih, X⟩ ⟨iw, ih, Y⟩ px py n' qx n' qy hXl.out hYl.out (by omega) (by omega) 0 V12 rn rx ry
              unfold RetCert at hc
              rw [c4H.out.1, c4H.out.2] at hc
              refine hc.mono ?_
              clear hc
              rintro e V13 ⟨rfl, hb⟩
              clear d0 d1 d2 d3 d4 d5 d6 m0 m1 m2 u0 u1 u2 g0 g1 g2 h0 h1 h2 e0 e1 e2 f0 f1 f2
              replace k1 := k1.below hb k1.lt
              replace k2 := k2.below hb k2.lt
              replace k3 := k3.below hb k3.lt
              replace kA := kA.below hb kA.lt
              replace kB := kB.below hb kB.lt
              replace kX := kX.below hb kX.lt
              replace kY := kY.below hb kY.lt
              replace rn := later_l rn hb
              replace r1 := later_i r1 hb
              replace r2 := later_i r2 hb
              replace rz := rz.later hb
              replace rz' := rz'.later hb
              replace rA := later_i rA hb
              replace rB := later_i rB hb
              replace rx := later_i rx hb
              replace ry := later_i ry hb
              replace hB := hB.trans (hb.mono hB.size)
              clear hb
              have d0 := k1.cell (i := 0) rfl
              have d1 := k1.cell (i := 1) rfl
              have d2 := k1.cell (i := 2) rfl
              have d3 := k1.cell (i := 3) rfl
              have d4 := k1.cell (i := 4) rfl
              have d5 := k1.cell (i := 5) rfl
              have d6 := k1.cell (i := 6) rfl
              have m0 := k2.cell (i := 0) rfl
              have m1 := k2.cell (i := 1) rfl
              have m2 := k2.cell (i := 2) rfl
              have u0 := k3.cell (i := 0) rfl
              have u1 := k3.cell (i := 1) rfl
              have u2 := k3.cell (i := 2) rfl
              have g0 := kA.cell (i := 0) rfl
              have g1 := kA.cell (i := 1) rfl
              have g2 := kA.cell (i := 2) rfl
              have h0 := kB.cell (i := 0) rfl
              have h1 := kB.cell (i := 1) rfl
              have h2 := kB.cell (i := 2) rfl
              have e0 := kX.cell (i := 0) rfl
              have e1 := kX.cell (i := 1) rfl
              have e2 := kX.cell (i := 2) rfl
              have f0 := kY.cell (i := 0) rfl
              have f1 := kY.cell (i := 1) rfl
              have f2 := kY.cell (i := 2) rfl
              go_wp2_with fail
              have hc := Certify_any N na nn nc hnnH.out hzH.out ⟨iw, ih, us⟩ ⟨iw, ih, us⟩ a5 a5 n' c5 n' c5 hul.out hul.out (by omega) (by omega) s V13 rn rA rA
              unfold RetCert at hc
              rw [c5H.out.1, c5H.out.2] at hc
              refine hc.mono ?_
              clear hc
              rintro e V14 ⟨rfl, hb⟩
              clear d0 d1 d2 d3 d4 d5 d6 m0 m1 m2 u0 u1 u2 g0 g1 g2 h0 h1 h2 e0 e1 e2 f0 f1 f2
              replace k1 := k1.below hb k1.lt
              replace k2 := k2.below hb k2.lt
              replace k3 := k3.below hb k3.lt
              replace kA := kA.below hb kA.lt
              replace kB := kB.below hb kB.lt
              replace kX := kX.below hb kX.lt
              replace kY := kY.below hb kY.lt
              replace rn := later_l rn hb
              replace r1 := later_i r1 hb
              replace r2 := later_i r2 hb
              replace rz := rz.later hb
              replace rz' := rz'.later hb
              replace rA := later_i rA hb
              replace rB := later_i rB hb
              replace rx := later_i rx hb
              replace ry := later_i ry hb
              replace hB := hB.trans (hb.mono hB.size)
              clear hb
              have d0 := k1.cell (i := 0) rfl
              have d1 := k1.cell (i := 1) rfl
              have d2 := k1.cell (i := 2) rfl
              have d3 := k1.cell (i := 3) rfl
              have d4 := k1.cell (i := 4) rfl
              have d5 := k1.cell (i := 5) rfl
              have d6 := k1.cell (i := 6) rfl
              have m0 := k2.cell (i := 0) rfl
              have m1 := k2.cell (i := 1) rfl
              have m2 := k2.cell (i := 2) rfl
              have u0 := k3.cell (i := 0) rfl
              have u1 := k3.cell (i := 1) rfl
              have u2 := k3.cell (i := 2) rfl
              have g0 := kA.cell (i := 0) rfl
              have g1 := kA.cell (i := 1) rfl
              have g2 := kA.cell (i := 2) rfl
              have h0 := kB.cell (i := 0) rfl
              have h1 := kB.cell (i := 1) rfl
              have h2 := kB.cell (i := 2) rfl
              have e0 := kX.cell (i := 0) rfl
              have e1 := kX.cell (i := 1) rfl
              have e2 := kX.cell (i := 2) rfl
              have f0 := kY.cell (i := 0) rfl
              have f1 := kY.cell (i := 1) rfl
              have f2 := kY.cell (i := 2) rfl
              go_wp2_with fail
              have hc := Classify_any N na nn nc hnnH.out hzH.out ⟨iw, ih, us⟩ a5 n' c5 hul.out (by omega) V14 rn rA
              unfold RetCla at hc
              rw [hchkH.out] at hc
              refine hc.mono ?_
              clear hc
              rintro e V15 ⟨sc, vd, rfl, hsc, hvd, hb⟩
              clear d0 d1 d2 d3 d4 d5 d6 m0 m1 m2 u0 u1 u2 g0 g1 g2 h0 h1 h2 e0 e1 e2 f0 f1 f2
              replace k1 := k1.below hb k1.lt
              replace k2 := k2.below hb k2.lt
              replace k3 := k3.below hb k3.lt
              replace kA := kA.below hb kA.lt
              replace kB := kB.below hb kB.lt
              replace kX := kX.below hb kX.lt
              replace kY := kY.below hb kY.lt
              replace rn := later_l rn hb
              replace r1 := later_i r1 hb
              replace r2 := later_i r2 hb
              replace rz := rz.later hb
              replace rz' := rz'.later hb
              replace rA := later_i rA hb
              replace rB := later_i rB hb
              replace rx := later_i rx hb
              replace ry := later_i ry hb
              replace hB := hB.trans (hb.mono hB.size)
              clear hb
              have d0 := k1.cell (i := 0) rfl
              have d1 := k1.cell (i := 1) rfl
              have d2 := k1.cell (i := 2) rfl
              have d3 := k1.cell (i := 3) rfl
              have d4 := k1.cell (i := 4) rfl
              have d5 := k1.cell (i := 5) rfl
              have d6 := k1.cell (i := 6) rfl
              have m0 := k2.cell (i := 0) rfl
              have m1 := k2.cell (i := 1) rfl
              have m2 := k2.cell (i := 2) rfl
              have u0 := k3.cell (i := 0) rfl
              have u1 := k3.cell (i := 1) rfl
              have u2 := k3.cell (i := 2) rfl
              have g0 := kA.cell (i := 0) rfl
              have g1 := kA.cell (i := 1) rfl
              have g2 := kA.cell (i := 2) rfl
              have h0 := kB.cell (i := 0) rfl
              have h1 := kB.cell (i := 1) rfl
              have h2 := kB.cell (i := 2) rfl
              have e0 := kX.cell (i := 0) rfl
              have e1 := kX.cell (i := 1) rfl
              have e2 := kX.cell (i := 2) rfl
              have f0 := kY.cell (i := 0) rfl
              have f1 := kY.cell (i := 1) rfl
              have f2 := kY.cell (i := 2) rfl
              rw [if_pos rfl] at hvd
              try simp only at hvd
              rw [e5H.out] at hvd
              subst hvd
              clear hsc
              by_cases z33 : z3 = 3
              case pos =>
                subst z33
                go_wp2_with fail
                go_ret
                exact ⟨rfl, hB⟩
              case neg =>
                obtain rfl : z4 = z3 := hpartH.out z33
                have y1 : ((z4 : Int) == 3) = false := by simp; omega
                have y2 : ¬ (z4 : Int) = 3 := by omega
                go_wp2_with fail
                go_ret
                exact ⟨rfl, hB⟩
            · have x1 : ((z2 : Int) != 3) = true := by simp; omega
              have x2 : ((z2 : Int) == 3) = false := by simp; omega
              have x3 : ¬ (z2 : Int) = 3 := by omega
              go_upto_region 8 with fail
              clear x1 x2 x3
              go_cut [20, 21] (fun s20 s21 wx => ∃ (bA bB : Nat) (a5 : Option Addr) (c5 : Nat) (a6 : Option Addr) (c6 : Nat), s20 = .pointer (some ⟨bA, 0, none⟩) ∧ s21 = .pointer (some ⟨bB, 0, none⟩) ∧ Blk wx bA 27 #[.int .i64 iw, .int .i64 ih, .slice a5 n' c5] ∧ Blk wx bB 27 #[.int .i64 iw, .int .i64 ih, .slice a6 n' c6] ∧ Rd wx.heap.size wx a5 us ∧ Rd wx.heap.size wx a6 vs ∧ Below V7.heap.size V7 wx)
              case first =>
                have g2 := k2
                have g3 := k3
                have hBV : Below V7.heap.size V7 V7.drew := (Below.refl _ _).drew
                refine plain_region (fun W' => Below V7.heap.size V7 W') 12 12 (by kernel_rfl) rfl ?_
                simp only [Array.replicate_succ, Array.replicate_zero, List.push_toArray, List.nil_append, List.cons_append]
                obtain ⟨U0, hU0⟩ : ∃ X : World, V7.drew = X := ⟨_, rfl⟩
                rw [hU0] at hBV ⊢
                clear hU0
                revert hBV
                apply cutM (fun a5 c5 a6 c6 bo bp W => Blk W bo 27 #[.int .i64 0, .int .i64 0, .slice none 0 0] ∧ Blk W bp 27 #[.int .i64 0, .int .i64 0, .slice none 0 0] ∧ W.ownsRow V7.heap.size 3 1 (.slice a5 n' c5) n' (us.map (Value.int .i64)) ∧ W.ownsRow V7.heap.size 3 1 (.slice a6 n' c6) n' (vs.map (Value.int .i64)) ∧ Below V7.heap.size V7 W ∧ V7.heap.size ≤ bo ∧ V7.heap.size ≤ bp ∧ bo ≠ bp)
                case' main => intro key2 hBV
                refine take_op 0 (v := ?qb1v) rfl (by kernel_rfl) (fun _ _ _ h => h) (by rfl) hBV (fun w' hS' => ?qb1y) ?qb1z
                case qb1y =>
                  have fm0 := (g2.below hS' g2.lt).cell (i := 0) rfl
                  have fu0 := (g3.below hS' g3.lt).cell (i := 0) rfl
                  have fm1 := (g2.below hS' g2.lt).cell (i := 1) rfl
                  have fu1 := (g3.below hS' g3.lt).cell (i := 1) rfl
                  have fm2 := (g2.below hS' g2.lt).cell (i := 2) rfl
                  have fu2 := (g3.below hS' g3.lt).cell (i := 2) rfl
                  clear hS'
                  go_simp
                  rfl
                simp only [List.setIfInBounds_toArray, List.set_cons_zero, List.set_cons_succ]
                refine take_op 1 (v := ?qb2v) rfl (by kernel_rfl) (fun _ _ _ h => h) (by rfl) hBV (fun w' hS' => ?qb2y) ?qb2z
                case qb2y =>
                  have fm0 := (g2.below hS' g2.lt).cell (i := 0) rfl
                  have fu0 := (g3.below hS' g3.lt).cell (i := 0) rfl
                  have fm1 := (g2.below hS' g2.lt).cell (i := 1) rfl
                  have fu1 := (g3.below hS' g3.lt).cell (i := 1) rfl
                  have fm2 := (g2.below hS' g2.lt).cell (i := 2) rfl
                  have fu2 := (g3.below hS' g3.lt).cell (i := 2) rfl
                  clear hS'
                  go_simp
                  rfl
                simp only [List.setIfInBounds_toArray, List.set_cons_zero, List.set_cons_succ]
                refine take_op 2 (v := ?qb3v) rfl (by kernel_rfl) (fun _ _ _ h => h) (by rfl) hBV (fun w' hS' => ?qb3y) ?qb3z
                case qb3y =>
                  go_simp
                  rfl
                simp only [List.setIfInBounds_toArray, List.set_cons_zero, List.set_cons_succ]
                refine take_op 4 (v := ?qb4v) rfl (by kernel_rfl) (fun _ _ _ h => h) (by rfl) hBV (fun w' hS' => ?qb4y) ?qb4z
                case qb4y =>
                  have fm0 := (g2.below hS' g2.lt).cell (i := 0) rfl
                  have fu0 := (g3.below hS' g3.lt).cell (i := 0) rfl
                  have fm1 := (g2.below hS' g2.lt).cell (i := 1) rfl
                  have fu1 := (g3.below hS' g3.lt).cell (i := 1) rfl
                  have fm2 := (g2.below hS' g2.lt).cell (i := 2) rfl
                  have fu2 := (g3.below hS' g3.lt).cell (i := 2) rfl
                  clear hS'
                  go_simp
                  rfl
                simp only [List.setIfInBounds_toArray, List.set_cons_zero, List.set_cons_succ]
                refine take_op 5 (v := ?qb5v) rfl (by kernel_rfl) (fun _ _ _ h => h) (by rfl) hBV (fun w' hS' => ?qb5y) ?qb5z
                case qb5y =>
                  have fm0 := (g2.below hS' g2.lt).cell (i := 0) rfl
                  have fu0 := (g3.below hS' g3.lt).cell (i := 0) rfl
                  have fm1 := (g2.below hS' g2.lt).cell (i := 1) rfl
                  have fu1 := (g3.below hS' g3.lt).cell (i := 1) rfl
                  have fm2 := (g2.below hS' g2.lt).cell (i := 2) rfl
                  have fu2 := (g3.below hS' g3.lt).cell (i := 2) rfl
                  clear hS'
                  go_simp
                  rfl
                simp only [List.setIfInBounds_toArray, List.set_cons_zero, List.set_cons_succ]
                refine take_op 6 (v := ?qb6v) rfl (by kernel_rfl) (fun _ _ _ h => h) (by rfl) hBV (fun w' hS' => ?qb6y) ?qb6z
                case qb6y =>
                  go_simp
                  rfl
                simp only [List.setIfInBounds_toArray, List.set_cons_zero, List.set_cons_succ]
                refine fork3 (i := 3) (j := 8) (m := 9) (by kernel_rfl) ?_ ?_ ?_
                · refine step_at 3 rfl (fun K hK => ?_)
                  rw [if_pos (by rfl)]
                  go_simp
                  have hc := between_own iw ih a c n' xs hn jw jh a' c' ys hn' za zc zn zs hznH.out hzbH.out hsm hzm0 hl3H.out U0 (later_i r1 hBV) (later_i r2 hBV) (rz.later hBV)
                  rw [husH.out] at hc
                  refine hc.mono ?_
                  clear hc
                  rintro e U1 ⟨⟨a5, c5, rfl, hrow⟩, hb⟩
                  have rowon := jrow_weaken hrow hBV.size
                  clear hrow
                  replace hBV := hBV.trans (hb.mono hBV.size)
                  clear hb
                  have rowo := rowon
                  clear rowon
                  refine hK.out _ _ (fun h => hBV) ?_
                  clear hK K
                  try simp only [Act.put, List.setIfInBounds_toArray, List.set_cons_zero, List.set_cons_succ]
                  refine fork3 (i := 7) (j := 8) (m := 9) (by kernel_rfl) ?_ ?_ ?_
                  · refine step_at 7 rfl (fun K hK => ?_)
                    rw [if_pos (by rfl)]
                    go_simp
                    have hc := between_own iw ih a c n' xs hn jw jh a' c' ys hn' za' zc' zn' zs' hznH'.out hzbH'.out hsm hzm0' hl3H.out U1 (later_i r1 hBV) (later_i r2 hBV) (rz'.later hBV)
                    rw [hvsH.out] at hc
                    refine hc.mono ?_
                    clear hc
                    rintro e U2 ⟨⟨a6, c6, rfl, hrow⟩, hb⟩
                    have rowpn := jrow_weaken hrow hBV.size
                    clear hrow
                    replace rowo := row_below rowo hb
                    replace hBV := hBV.trans (hb.mono hBV.size)
                    clear hb
                    have rowp := rowpn
                    clear rowpn
                    refine hK.out _ _ (fun h => hBV) ?_
                    clear hK K
                    try simp only [Act.put, List.setIfInBounds_toArray, List.set_cons_zero, List.set_cons_succ]
                    refine fork2 (i := 8) (j := 9) (by kernel_rfl) ?_ ?_
                    · refine step_at 8 rfl (fun K hK => ?_)
                      rw [if_pos (by rfl)]
                      go_simp
                      have kon := Blk.new U2 27 #[.int .i64 0, .int .i64 0, .slice none 0 0]
                      obtain ⟨bo, hbo⟩ : ∃ b, U2.heap.size = b := ⟨_, rfl⟩
                      obtain ⟨U3, hW⟩ : ∃ W2, U2.alloc (.cells #[.int .i64 0, .int .i64 0, .slice none 0 0] 27) = W2 := ⟨_, rfl⟩
                      have hb : Below U2.heap.size U2 U3 := alloc_below hW
                      rw [hW] at kon ⊢
                      rw [hbo] at kon ⊢
                      have hlko := hBV.size
                      rw [hbo] at hlko
                      replace rowo := row_below rowo hb
                      replace rowp := row_below rowp hb
                      replace hBV := hBV.trans (hb.mono hBV.size)
                      clear hb
                      have ko := kon
                      clear kon hW hbo
                      refine hK.out _ _ (fun h => hBV) ?_
                      clear hK K
                      try simp only [Act.put, List.setIfInBounds_toArray, List.set_cons_zero, List.set_cons_succ]
                      refine step_op 9 (by kernel_rfl) rfl (fun K hK => ?_)
                      rw [if_pos (by rfl)]
                      go_simp
                      have kpn := Blk.new U3 27 #[.int .i64 0, .int .i64 0, .slice none 0 0]
                      obtain ⟨bp, hbo⟩ : ∃ b, U3.heap.size = b := ⟨_, rfl⟩
                      obtain ⟨U4, hW⟩ : ∃ W2, U3.alloc (.cells #[.int .i64 0, .int .i64 0, .slice none 0 0] 27) = W2 := ⟨_, rfl⟩
                      have hb : Below U3.heap.size U3 U4 := alloc_below hW
                      rw [hW] at kpn ⊢
                      rw [hbo] at kpn ⊢
                      have hlkp := hBV.size
                      rw [hbo] at hlkp
                      have hlne := ko.lt
                      rw [hbo] at hlne
                      have hne : bo ≠ bp := by omega
                      clear hlne
                      replace ko := ko.below hb ko.lt
                      replace rowo := row_below rowo hb
                      replace rowp := row_below rowp hb
                      replace hBV := hBV.trans (hb.mono hBV.size)
                      clear hb
                      have kp := kpn
                      clear kpn hW hbo
                      refine hK.out _ _ (fun h => hBV) ?_
                      clear hK K
                      try simp only [Act.put, List.setIfInBounds_toArray, List.set_cons_zero, List.set_cons_succ]
                      exact key2 a5 c5 a6 c6 bo bp U4 ⟨ko, kp, rowo, rowp, hBV, hlko, hlkp, hne⟩
                    · refine step_at 9 rfl (fun K hK => ?_)
                      rw [if_pos (by rfl)]
                      go_simp
                      have kpn := Blk.new U2 27 #[.int .i64 0, .int .i64 0, .slice none 0 0]
                      obtain ⟨bp, hbo⟩ : ∃ b, U2.heap.size = b := ⟨_, rfl⟩
                      obtain ⟨U3, hW⟩ : ∃ W2, U2.alloc (.cells #[.int .i64 0, .int .i64 0, .slice none 0 0] 27) = W2 := ⟨_, rfl⟩
                      have hb : Below U2.heap.size U2 U3 := alloc_below hW
                      rw [hW] at kpn ⊢
                      rw [hbo] at kpn ⊢
                      have hlkp := hBV.size
                      rw [hbo] at hlkp
                      replace rowo := row_below rowo hb
                      replace rowp := row_below rowp hb
                      replace hBV := hBV.trans (hb.mono hBV.size)
                      clear hb
                      have kp := kpn
                      clear kpn hW hbo
                      refine hK.out _ _ (fun h => hBV) ?_
                      clear hK K
                      try simp only [Act.put, List.setIfInBounds_toArray, List.set_cons_zero, List.set_cons_succ]
                      refine step_op 8 (by kernel_rfl) rfl (fun K hK => ?_)
                      rw [if_pos (by rfl)]
                      go_simp
                      have kon := Blk.new U3 27 #[.int .i64 0, .int .i64 0, .slice none 0 0]
                      obtain ⟨bo, hbo⟩ : ∃ b, U3.heap.size = b := ⟨_, rfl⟩
                      obtain ⟨U4, hW⟩ : ∃ W2, U3.alloc (.cells #[.int .i64 0, .int .i64 0, .slice none 0 0] 27) = W2 := ⟨_, rfl⟩
                      have hb : Below U3.heap.size U3 U4 := alloc_below hW
                      rw [hW] at kon ⊢
                      rw [hbo] at kon ⊢
                      have hlko := hBV.size
                      rw [hbo] at hlko
                      have hlne := kp.lt
                      rw [hbo] at hlne
                      have hne : bo ≠ bp := by omega
                      clear hlne
                      replace kp := kp.below hb kp.lt
                      replace rowo := row_below rowo hb
                      replace rowp := row_below rowp hb
                      replace hBV := hBV.trans (hb.mono hBV.size)
                      clear hb
                      have ko := kon
                      clear kon hW hbo
                      refine hK.out _ _ (fun h => hBV) ?_
                      clear hK K
                      try simp only [Act.put, List.setIfInBounds_toArray, List.set_cons_zero, List.set_cons_succ]
                      exact key2 a5 c5 a6 c6 bo bp U4 ⟨ko, kp, rowo, rowp, hBV, hlko, hlkp, hne⟩
                  · refine step_at 8 rfl (fun K hK => ?_)
                    rw [if_pos (by rfl)]
                    go_simp
                    have kon := Blk.new U1 27 #[.int .i64 0, .int .i64 0, .slice none 0 0]
                    obtain ⟨bo, hbo⟩ : ∃ b, U1.heap.size = b := ⟨_, rfl⟩
                    obtain ⟨U2, hW⟩ : ∃ W2, U1.alloc (.cells #[.int .i64 0, .int .i64 0, .slice none 0 0] 27) = W2 := ⟨_, rfl⟩
                    have hb : Below U1.heap.size U1 U2 := alloc_below hW
                    rw [hW] at kon ⊢
                    rw [hbo] at kon ⊢
                    have hlko := hBV.size
                    rw [hbo] at hlko
                    replace rowo := row_below rowo hb
                    replace hBV := hBV.trans (hb.mono hBV.size)
                    clear hb
                    have ko := kon
                    clear kon hW hbo
                    refine hK.out _ _ (fun h => hBV) ?_
                    clear hK K
                    try simp only [Act.put, List.setIfInBounds_toArray, List.set_cons_zero, List.set_cons_succ]
                    refine fork2 (i := 7) (j := 9) (by kernel_rfl) ?_ ?_
                    · refine step_at 7 rfl (fun K hK => ?_)
                      rw [if_pos (by rfl)]
                      go_simp
                      have hc := between_own iw ih a c n' xs hn jw jh a' c' ys hn' za' zc' zn' zs' hznH'.out hzbH'.out hsm hzm0' hl3H.out U2 (later_i r1 hBV) (later_i r2 hBV) (rz'.later hBV)
                      rw [hvsH.out] at hc
                      refine hc.mono ?_
                      clear hc
                      rintro e U3 ⟨⟨a6, c6, rfl, hrow⟩, hb⟩
                      have rowpn := jrow_weaken hrow hBV.size
                      clear hrow
                      replace ko := ko.below hb ko.lt
                      replace rowo := row_below rowo hb
                      replace hBV := hBV.trans (hb.mono hBV.size)
                      clear hb
                      have rowp := rowpn
                      clear rowpn
                      refine hK.out _ _ (fun h => hBV) ?_
                      clear hK K
                      try simp only [Act.put, List.setIfInBounds_toArray, List.set_cons_zero, List.set_cons_succ]
                      refine step_op 9 (by kernel_rfl) rfl (fun K hK => ?_)
                      rw [if_pos (by rfl)]
                      go_simp
                      have kpn := Blk.new U3 27 #[.int .i64 0, .int .i64 0, .slice none 0 0]
                      obtain ⟨bp, hbo⟩ : ∃ b, U3.heap.size = b := ⟨_, rfl⟩
                      obtain ⟨U4, hW⟩ : ∃ W2, U3.alloc (.cells #[.int .i64 0, .int .i64 0, .slice none 0 0] 27) = W2 := ⟨_, rfl⟩
                      have hb : Below U3.heap.size U3 U4 := alloc_below hW
                      rw [hW] at kpn ⊢
                      rw [hbo] at kpn ⊢
                      have hlkp := hBV.size
                      rw [hbo] at hlkp
                      have hlne := ko.lt
                      rw [hbo] at hlne
                      have hne : bo ≠ bp := by omega
                      clear hlne
                      replace ko := ko.below hb ko.lt
                      replace rowo := row_below rowo hb
                      replace rowp := row_below rowp hb
                      replace hBV := hBV.trans (hb.mono hBV.size)
                      clear hb
                      have kp := kpn
                      clear kpn hW hbo
                      refine hK.out _ _ (fun h => hBV) ?_
                      clear hK K
                      try simp only [Act.put, List.setIfInBounds_toArray, List.set_cons_zero, List.set_cons_succ]
                      exact key2 a5 c5 a6 c6 bo bp U4 ⟨ko, kp, rowo, rowp, hBV, hlko, hlkp, hne⟩
                    · refine step_at 9 rfl (fun K hK => ?_)
                      rw [if_pos (by rfl)]
                      go_simp
                      have kpn := Blk.new U2 27 #[.int .i64 0, .int .i64 0, .slice none 0 0]
                      obtain ⟨bp, hbo⟩ : ∃ b, U2.heap.size = b := ⟨_, rfl⟩
                      obtain ⟨U3, hW⟩ : ∃ W2, U2.alloc (.cells #[.int .i64 0, .int .i64 0, .slice none 0 0] 27) = W2 := ⟨_, rfl⟩
                      have hb : Below U2.heap.size U2 U3 := alloc_below hW
                      rw [hW] at kpn ⊢
                      rw [hbo] at kpn ⊢
                      have hlkp := hBV.size
                      rw [hbo] at hlkp
                      have hlne := ko.lt
                      rw [hbo] at hlne
                      have hne : bo ≠ bp := by omega
                      clear hlne
                      replace ko := ko.below hb ko.lt
                      replace rowo := row_below rowo hb
                      replace hBV := hBV.trans (hb.mono hBV.size)
                      clear hb
                      have kp := kpn
                      clear kpn hW hbo
                      refine hK.out _ _ (fun h => hBV) ?_
                      clear hK K
                      try simp only [Act.put, List.setIfInBounds_toArray, List.set_cons_zero, List.set_cons_succ]
                      refine step_op 7 (by kernel_rfl) rfl (fun K hK => ?_)
                      rw [if_pos (by rfl)]
                      go_simp
                      have hc := between_own iw ih a c n' xs hn jw jh a' c' ys hn' za' zc' zn' zs' hznH'.out hzbH'.out hsm hzm0' hl3H.out U3 (later_i r1 hBV) (later_i r2 hBV) (rz'.later hBV)
                      rw [hvsH.out] at hc
                      refine hc.mono ?_
                      clear hc
                      rintro e U4 ⟨⟨a6, c6, rfl, hrow⟩, hb⟩
                      have rowpn := jrow_weaken hrow hBV.size
                      clear hrow
                      replace ko := ko.below hb ko.lt
                      replace kp := kp.below hb kp.lt
                      replace rowo := row_below rowo hb
                      replace hBV := hBV.trans (hb.mono hBV.size)
                      clear hb
                      have rowp := rowpn
                      clear rowpn
                      refine hK.out _ _ (fun h => hBV) ?_
                      clear hK K
                      try simp only [Act.put, List.setIfInBounds_toArray, List.set_cons_zero, List.set_cons_succ]
                      exact key2 a5 c5 a6 c6 bo bp U4 ⟨ko, kp, rowo, rowp, hBV, hlko, hlkp, hne⟩
                  · refine step_at 9 rfl (fun K hK => ?_)
                    rw [if_pos (by rfl)]
                    go_simp
                    have kpn := Blk.new U1 27 #[.int .i64 0, .int .i64 0, .slice none 0 0]
                    obtain ⟨bp, hbo⟩ : ∃ b, U1.heap.size = b := ⟨_, rfl⟩
                    obtain ⟨U2, hW⟩ : ∃ W2, U1.alloc (.cells #[.int .i64 0, .int .i64 0, .slice none 0 0] 27) = W2 := ⟨_, rfl⟩
                    have hb : Below U1.heap.size U1 U2 := alloc_below hW
                    rw [hW] at kpn ⊢
                    rw [hbo] at kpn ⊢
                    have hlkp := hBV.size
                    rw [hbo] at hlkp
                    replace rowo := row_below rowo hb
                    replace hBV := hBV.trans (hb.mono hBV.size)
                    clear hb
                    have kp := kpn
                    clear kpn hW hbo
                    refine hK.out _ _ (fun h => hBV) ?_
                    clear hK K
                    try simp only [Act.put, List.setIfInBounds_toArray, List.set_cons_zero, List.set_cons_succ]
                    refine fork2 (i := 7) (j := 8) (by kernel_rfl) ?_ ?_
                    · refine step_at 7 rfl (fun K hK => ?_)
                      rw [if_pos (by rfl)]
                      go_simp
                      have hc := between_own iw ih a c n' xs hn jw jh a' c' ys hn' za' zc' zn' zs' hznH'.out hzbH'.out hsm hzm0' hl3H.out U2 (later_i r1 hBV) (later_i r2 hBV) (rz'.later hBV)
                      rw [hvsH.out] at hc
                      refine hc.mono ?_
                      clear hc
                      rintro e U3 ⟨⟨a6, c6, rfl, hrow⟩, hb⟩
                      have rowpn := jrow_weaken hrow hBV.size
                      clear hrow
                      replace kp := kp.below hb kp.lt
                      replace rowo := row_below rowo hb
                      replace hBV := hBV.trans (hb.mono hBV.size)
                      clear hb
                      have rowp := rowpn
                      clear rowpn
                      refine hK.out _ _ (fun h => hBV) ?_
                      clear hK K
                      try simp only [Act.put, List.setIfInBounds_toArray, List.set_cons_zero, List.set_cons_succ]
                      refine step_op 8 (by kernel_rfl) rfl (fun K hK => ?_)
                      rw [if_pos (by rfl)]
                      go_simp
                      have kon := Blk.new U3 27 #[.int .i64 0, .int .i64 0, .slice none 0 0]
                      obtain ⟨bo, hbo⟩ : ∃ b, U3.heap.size = b := ⟨_, rfl⟩
                      obtain ⟨U4, hW⟩ : ∃ W2, U3.alloc (.cells #[.int .i64 0, .int .i64 0, .slice none 0 0] 27) = W2 := ⟨_, rfl⟩
                      have hb : Below U3.heap.size U3 U4 := alloc_below hW
                      rw [hW] at kon ⊢
                      rw [hbo] at kon ⊢
                      have hlko := hBV.size
                      rw [hbo] at hlko
                      have hlne := kp.lt
                      rw [hbo] at hlne
                      have hne : bo ≠ bp := by omega
                      clear hlne
                      replace kp := kp.below hb kp.lt
                      replace rowo := row_below rowo hb
                      replace rowp := row_below rowp hb
                      replace hBV := hBV.trans (hb.mono hBV.size)
                      clear hb
                      have ko := kon
                      clear kon hW hbo
                      refine hK.out _ _ (fun h => hBV) ?_
                      clear hK K
                      try simp only [Act.put, List.setIfInBounds_toArray, List.set_cons_zero, List.set_cons_succ]
                      exact key2 a5 c5 a6 c6 bo bp U4 ⟨ko, kp, rowo, rowp, hBV, hlko, hlkp, hne⟩
                    · refine step_at 8 rfl (fun K hK => ?_)
                      rw [if_pos (by rfl)]
                      go_simp
                      have kon := Blk.new U2 27 #[.int .i64 0, .int .i64 0, .slice none 0 0]
                      obtain ⟨bo, hbo⟩ : ∃ b, U2.heap.size = b := ⟨_, rfl⟩
                      obtain ⟨U3, hW⟩ : ∃ W2, U2.alloc (.cells #[.int .i64 0, .int .i64 0, .slice none 0 0] 27) = W2 := ⟨_, rfl⟩
                      have hb : Below U2.heap.size U2 U3 := alloc_below hW
                      rw [hW] at kon ⊢
                      rw [hbo] at kon ⊢
                      have hlko := hBV.size
                      rw [hbo] at hlko
                      have hlne := kp.lt
                      rw [hbo] at hlne
                      have hne : bo ≠ bp := by omega
                      clear hlne
                      replace kp := kp.below hb kp.lt
                      replace rowo := row_below rowo hb
                      replace hBV := hBV.trans (hb.mono hBV.size)
                      clear hb
                      have ko := kon
                      clear kon hW hbo
                      refine hK.out _ _ (fun h => hBV) ?_
                      clear hK K
                      try simp only [Act.put, List.setIfInBounds_toArray, List.set_cons_zero, List.set_cons_succ]
                      refine step_op 7 (by kernel_rfl) rfl (fun K hK => ?_)
                      rw [if_pos (by rfl)]
                      go_simp
                      have hc := between_own iw ih a c n' xs hn jw jh a' c' ys hn' za' zc' zn' zs' hznH'.out hzbH'.out hsm hzm0' hl3H.out U3 (later_i r1 hBV) (later_i r2 hBV) (rz'.later hBV)
                      rw [hvsH.out] at hc
                      refine hc.mono ?_
                      clear hc
                      rintro e U4 ⟨⟨a6, c6, rfl, hrow⟩, hb⟩
                      have rowpn := jrow_weaken hrow hBV.size
                      clear hrow
                      replace ko := ko.below hb ko.lt
                      replace kp := kp.below hb kp.lt
                      replace rowo := row_below rowo hb
                      replace hBV := hBV.trans (hb.mono hBV.size)
                      clear hb
                      have rowp := rowpn
                      clear rowpn
                      refine hK.out _ _ (fun h => hBV) ?_
                      clear hK K
                      try simp only [Act.put, List.setIfInBounds_toArray, List.set_cons_zero, List.set_cons_succ]
                      exact key2 a5 c5 a6 c6 bo bp U4 ⟨ko, kp, rowo, rowp, hBV, hlko, hlkp, hne⟩
                · refine step_at 8 rfl (fun K hK => ?_)
                  rw [if_pos (by rfl)]
                  go_simp
                  have kon := Blk.new U0 27 #[.int .i64 0, .int .i64 0, .slice none 0 0]
                  obtain ⟨bo, hbo⟩ : ∃ b, U0.heap.size = b := ⟨_, rfl⟩
                  obtain ⟨U1, hW⟩ : ∃ W2, U0.alloc (.cells #[.int .i64 0, .int .i64 0, .slice none 0 0] 27) = W2 := ⟨_, rfl⟩
                  have hb : Below U0.heap.size U0 U1 := alloc_below hW
                  rw [hW] at kon ⊢
                  rw [hbo] at kon ⊢
                  have hlko := hBV.size
                  rw [hbo] at hlko
                  replace hBV := hBV.trans (hb.mono hBV.size)
                  clear hb
                  have ko := kon
                  clear kon hW hbo
                  refine hK.out _ _ (fun h => hBV) ?_
                  clear hK K
                  try simp only [Act.put, List.setIfInBounds_toArray, List.set_cons_zero, List.set_cons_succ]
                  refine fork2 (i := 3) (j := 9) (by kernel_rfl) ?_ ?_
                  · refine step_at 3 rfl (fun K hK => ?_)
                    rw [if_pos (by rfl)]
                    go_simp
                    have hc := between_own iw ih a c n' xs hn jw jh a' c' ys hn' za zc zn zs hznH.out hzbH.out hsm hzm0 hl3H.out U1 (later_i r1 hBV) (later_i r2 hBV) (rz.later hBV)
                    rw [husH.out] at hc
                    refine hc.mono ?_
                    clear hc
                    rintro e U2 ⟨⟨a5, c5, rfl, hrow⟩, hb⟩
                    have rowon := jrow_weaken hrow hBV.size
                    clear hrow
                    replace ko := ko.below hb ko.lt
                    replace hBV := hBV.trans (hb.mono hBV.size)
                    clear hb
                    have rowo := rowon
                    clear rowon
                    refine hK.out _ _ (fun h => hBV) ?_
                    clear hK K
                    try simp only [Act.put, List.setIfInBounds_toArray, List.set_cons_zero, List.set_cons_succ]
                    refine fork2 (i := 7) (j := 9) (by kernel_rfl) ?_ ?_
                    · refine step_at 7 rfl (fun K hK => ?_)
                      rw [if_pos (by rfl)]
                      go_simp
                      have hc := between_own iw ih a c n' xs hn jw jh a' c' ys hn' za' zc' zn' zs' hznH'.out hzbH'.out hsm hzm0' hl3H.out U2 (later_i r1 hBV) (later_i r2 hBV) (rz'.later hBV)
                      rw [hvsH.out] at hc
                      refine hc.mono ?_
                      clear hc
                      rintro e U3 ⟨⟨a6, c6, rfl, hrow⟩, hb⟩
                      have rowpn := jrow_weaken hrow hBV.size
                      clear hrow
                      replace ko := ko.below hb ko.lt
                      replace rowo := row_below rowo hb
                      replace hBV := hBV.trans (hb.mono hBV.size)
                      clear hb
                      have rowp := rowpn
                      clear rowpn
                      refine hK.out _ _ (fun h => hBV) ?_
                      clear hK K
                      try simp only [Act.put, List.setIfInBounds_toArray, List.set_cons_zero, List.set_cons_succ]
                      refine step_op 9 (by kernel_rfl) rfl (fun K hK => ?_)
                      rw [if_pos (by rfl)]
                      go_simp
                      have kpn := Blk.new U3 27 #[.int .i64 0, .int .i64 0, .slice none 0 0]
                      obtain ⟨bp, hbo⟩ : ∃ b, U3.heap.size = b := ⟨_, rfl⟩
                      obtain ⟨U4, hW⟩ : ∃ W2, U3.alloc (.cells #[.int .i64 0, .int .i64 0, .slice none 0 0] 27) = W2 := ⟨_, rfl⟩
                      have hb : Below U3.heap.size U3 U4 := alloc_below hW
                      rw [hW] at kpn ⊢
                      rw [hbo] at kpn ⊢
                      have hlkp := hBV.size
                      rw [hbo] at hlkp
                      have hlne := ko.lt
                      rw [hbo] at hlne
                      have hne : bo ≠ bp := by omega
                      clear hlne
                      replace ko := ko.below hb ko.lt
                      replace rowo := row_below rowo hb
                      replace rowp := row_below rowp hb
                      replace hBV := hBV.trans (hb.mono hBV.size)
                      clear hb
                      have kp := kpn
                      clear kpn hW hbo
                      refine hK.out _ _ (fun h => hBV) ?_
                      clear hK K
                      try simp only [Act.put, List.setIfInBounds_toArray, List.set_cons_zero, List.set_cons_succ]
                      exact key2 a5 c5 a6 c6 bo bp U4 ⟨ko, kp, rowo, rowp, hBV, hlko, hlkp, hne⟩
                    · refine step_at 9 rfl (fun K hK => ?_)
                      rw [if_pos (by rfl)]
                      go_simp
                      have kpn := Blk.new U2 27 #[.int .i64 0, .int .i64 0, .slice none 0 0]
                      obtain ⟨bp, hbo⟩ : ∃ b, U2.heap.size = b := ⟨_, rfl⟩
                      obtain ⟨U3, hW⟩ : ∃ W2, U2.alloc (.cells #[.int .i64 0, .int .i64 0, .slice none 0 0] 27) = W2 := ⟨_, rfl⟩
                      have hb : Below U2.heap.size U2 U3 := alloc_below hW
                      rw [hW] at kpn ⊢
                      rw [hbo] at kpn ⊢
                      have hlkp := hBV.size
                      rw [hbo] at hlkp
                      have hlne := ko.lt
                      rw [hbo] at hlne
                      have hne : bo ≠ bp := by omega
                      clear hlne
                      replace ko := ko.below hb ko.lt
                      replace rowo := row_below rowo hb
                      replace hBV := hBV.trans (hb.mono hBV.size)
                      clear hb
                      have kp := kpn
                      clear kpn hW hbo
                      refine hK.out _ _ (fun h => hBV) ?_
                      clear hK K
                      try simp only [Act.put, List.setIfInBounds_toArray, List.set_cons_zero, List.set_cons_succ]
                      refine step_op 7 (by kernel_rfl) rfl (fun K hK => ?_)
                      rw [if_pos (by rfl)]
                      go_simp
                      have hc := between_own iw ih a c n' xs hn jw jh a' c' ys hn' za' zc' zn' zs' hznH'.out hzbH'.out hsm hzm0' hl3H.out U3 (later_i r1 hBV) (later_i r2 hBV) (rz'.later hBV)
                      rw [hvsH.out] at hc
                      refine hc.mono ?_
                      clear hc
                      rintro e U4 ⟨⟨a6, c6, rfl, hrow⟩, hb⟩
                      have rowpn := jrow_weaken hrow hBV.size
                      clear hrow
                      replace ko := ko.below hb ko.lt
                      replace kp := kp.below hb kp.lt
                      replace rowo := row_below rowo hb
                      replace hBV := hBV.trans (hb.mono hBV.size)
                      clear hb
                      have rowp := rowpn
                      clear rowpn
                      refine hK.out _ _ (fun h => hBV) ?_
                      clear hK K
                      try simp only [Act.put, List.setIfInBounds_toArray, List.set_cons_zero, List.set_cons_succ]
                      exact key2 a5 c5 a6 c6 bo bp U4 ⟨ko, kp, rowo, rowp, hBV, hlko, hlkp, hne⟩
                  · refine step_at 9 rfl (fun K hK => ?_)
                    rw [if_pos (by rfl)]
                    go_simp
                    have kpn := Blk.new U1 27 #[.int .i64 0, .int .i64 0, .slice none 0 0]
                    obtain ⟨bp, hbo⟩ : ∃ b, U1.heap.size = b := ⟨_, rfl⟩
                    obtain ⟨U2, hW⟩ : ∃ W2, U1.alloc (.cells #[.int .i64 0, .int .i64 0, .slice none 0 0] 27) = W2 := ⟨_, rfl⟩
                    have hb : Below U1.heap.size U1 U2 := alloc_below hW
                    rw [hW] at kpn ⊢
                    rw [hbo] at kpn ⊢
                    have hlkp := hBV.size
                    rw [hbo] at hlkp
                    have hlne := ko.lt
                    rw [hbo] at hlne
                    have hne : bo ≠ bp := by omega
                    clear hlne
                    replace ko := ko.below hb ko.lt
                    replace hBV := hBV.trans (hb.mono hBV.size)
                    clear hb
                    have kp := kpn
                    clear kpn hW hbo
                    refine hK.out _ _ (fun h => hBV) ?_
                    clear hK K
                    try simp only [Act.put, List.setIfInBounds_toArray, List.set_cons_zero, List.set_cons_succ]
                    refine step_op 3 (by kernel_rfl) rfl (fun K hK => ?_)
                    rw [if_pos (by rfl)]
                    go_simp
                    have hc := between_own iw ih a c n' xs hn jw jh a' c' ys hn' za zc zn zs hznH.out hzbH.out hsm hzm0 hl3H.out U2 (later_i r1 hBV) (later_i r2 hBV) (rz.later hBV)
                    rw [husH.out] at hc
                    refine hc.mono ?_
                    clear hc
                    rintro e U3 ⟨⟨a5, c5, rfl, hrow⟩, hb⟩
                    have rowon := jrow_weaken hrow hBV.size
                    clear hrow
                    replace ko := ko.below hb ko.lt
                    replace kp := kp.below hb kp.lt
                    replace hBV := hBV.trans (hb.mono hBV.size)
                    clear hb
                    have rowo := rowon
                    clear rowon
                    refine hK.out _ _ (fun h => hBV) ?_
                    clear hK K
                    try simp only [Act.put, List.setIfInBounds_toArray, List.set_cons_zero, List.set_cons_succ]
                    refine step_op 7 (by kernel_rfl) rfl (fun K hK => ?_)
                    rw [if_pos (by rfl)]
                    go_simp
                    have hc := between_own iw ih a c n' xs hn jw jh a' c' ys hn' za' zc' zn' zs' hznH'.out hzbH'.out hsm hzm0' hl3H.out U3 (later_i r1 hBV) (later_i r2 hBV) (rz'.later hBV)
                    rw [hvsH.out] at hc
                    refine hc.mono ?_
                    clear hc
                    rintro e U4 ⟨⟨a6, c6, rfl, hrow⟩, hb⟩
                    have rowpn := jrow_weaken hrow hBV.size
                    clear hrow
                    replace ko := ko.below hb ko.lt
                    replace kp := kp.below hb kp.lt
                    replace rowo := row_below rowo hb
                    replace hBV := hBV.trans (hb.mono hBV.size)
                    clear hb
                    have rowp := rowpn
                    clear rowpn
                    refine hK.out _ _ (fun h => hBV) ?_
                    clear hK K
                    try simp only [Act.put, List.setIfInBounds_toArray, List.set_cons_zero, List.set_cons_succ]
                    exact key2 a5 c5 a6 c6 bo bp U4 ⟨ko, kp, rowo, rowp, hBV, hlko, hlkp, hne⟩
                · refine step_at 9 rfl (fun K hK => ?_)
                  rw [if_pos (by rfl)]
                  go_simp
                  have kpn := Blk.new U0 27 #[.int .i64 0, .int .i64 0, .slice none 0 0]
                  obtain ⟨bp, hbo⟩ : ∃ b, U0.heap.size = b := ⟨_, rfl⟩
                  obtain ⟨U1, hW⟩ : ∃ W2, U0.alloc (.cells #[.int .i64 0, .int .i64 0, .slice none 0 0] 27) = W2 := ⟨_, rfl⟩
                  have hb : Below U0.heap.size U0 U1 := alloc_below hW
                  rw [hW] at kpn ⊢
                  rw [hbo] at kpn ⊢
                  have hlkp := hBV.size
                  rw [hbo] at hlkp
                  replace hBV := hBV.trans (hb.mono hBV.size)
                  clear hb
                  have kp := kpn
                  clear kpn hW hbo
                  refine hK.out _ _ (fun h => hBV) ?_
                  clear hK K
                  try simp only [Act.put, List.setIfInBounds_toArray, List.set_cons_zero, List.set_cons_succ]
                  refine fork2 (i := 3) (j := 8) (by kernel_rfl) ?_ ?_
                  · refine step_at 3 rfl (fun K hK => ?_)
                    rw [if_pos (by rfl)]
                    go_simp
                    have hc := between_own iw ih a c n' xs hn jw jh a' c' ys hn' za zc zn zs hznH.out hzbH.out hsm hzm0 hl3H.out U1 (later_i r1 hBV) (later_i r2 hBV) (rz.later hBV)
                    rw [husH.out] at hc
                    refine hc.mono ?_
                    clear hc
                    rintro e U2 ⟨⟨a5, c5, rfl, hrow⟩, hb⟩
                    have rowon := jrow_weaken hrow hBV.size
                    clear hrow
                    replace kp := kp.below hb kp.lt
                    replace hBV := hBV.trans (hb.mono hBV.size)
                    clear hb
                    have rowo := rowon
                    clear rowon
                    refine hK.out _ _ (fun h => hBV) ?_
                    clear hK K
                    try simp only [Act.put, List.setIfInBounds_toArray, List.set_cons_zero, List.set_cons_succ]
                    refine fork2 (i := 7) (j := 8) (by kernel_rfl) ?_ ?_
                    · refine step_at 7 rfl (fun K hK => ?_)
                      rw [if_pos (by rfl)]
                      go_simp
                      have hc := between_own iw ih a c n' xs hn jw jh a' c' ys hn' za' zc' zn' zs' hznH'.out hzbH'.out hsm hzm0' hl3H.out U2 (later_i r1 hBV) (later_i r2 hBV) (rz'.later hBV)
                      rw [hvsH.out] at hc
                      refine hc.mono ?_
                      clear hc
                      rintro e U3 ⟨⟨a6, c6, rfl, hrow⟩, hb⟩
                      have rowpn := jrow_weaken hrow hBV.size
                      clear hrow
                      replace kp := kp.below hb kp.lt
                      replace rowo := row_below rowo hb
                      replace hBV := hBV.trans (hb.mono hBV.size)
                      clear hb
                      have rowp := rowpn
                      clear rowpn
                      refine hK.out _ _ (fun h => hBV) ?_
                      clear hK K
                      try simp only [Act.put, List.setIfInBounds_toArray, List.set_cons_zero, List.set_cons_succ]
                      refine step_op 8 (by kernel_rfl) rfl (fun K hK => ?_)
                      rw [if_pos (by rfl)]
                      go_simp
                      have kon := Blk.new U3 27 #[.int .i64 0, .int .i64 0, .slice none 0 0]
                      obtain ⟨bo, hbo⟩ : ∃ b, U3.heap.size = b := ⟨_, rfl⟩
                      obtain ⟨U4, hW⟩ : ∃ W2, U3.alloc (.cells #[.int .i64 0, .int .i64 0, .slice none 0 0] 27) = W2 := ⟨_, rfl⟩
                      have hb : Below U3.heap.size U3 U4 := alloc_below hW
                      rw [hW] at kon ⊢
                      rw [hbo] at kon ⊢
                      have hlko := hBV.size
                      rw [hbo] at hlko
                      have hlne := kp.lt
                      rw [hbo] at hlne
                      have hne : bo ≠ bp := by omega
                      clear hlne
                      replace kp := kp.below hb kp.lt
                      replace rowo := row_below rowo hb
                      replace rowp := row_below rowp hb
                      replace hBV := hBV.trans (hb.mono hBV.size)
                      clear hb
                      have ko := kon
                      clear kon hW hbo
                      refine hK.out _ _ (fun h => hBV) ?_
                      clear hK K
                      try simp only [Act.put, List.setIfInBounds_toArray, List.set_cons_zero, List.set_cons_succ]
                      exact key2 a5 c5 a6 c6 bo bp U4 ⟨ko, kp, rowo, rowp, hBV, hlko, hlkp, hne⟩
                    · refine step_at 8 rfl (fun K hK => ?_)
                      rw [if_pos (by rfl)]
                      go_simp
                      have kon := Blk.new U2 27 #[.int .i64 0, .int .i64 0, .slice none 0 0]
                      obtain ⟨bo, hbo⟩ : ∃ b, U2.heap.size = b := ⟨_, rfl⟩
                      obtain ⟨U3, hW⟩ : ∃ W2, U2.alloc (.cells #[.int .i64 0, .int .i64 0, .slice none 0 0] 27) = W2 := ⟨_, rfl⟩
                      have hb : Below U2.heap.size U2 U3 := alloc_below hW
                      rw [hW] at kon ⊢
                      rw [hbo] at kon ⊢
                      have hlko := hBV.size
                      rw [hbo] at hlko
                      have hlne := kp.lt
                      rw [hbo] at hlne
                      have hne : bo ≠ bp := by omega
                      clear hlne
                      replace kp := kp.below hb kp.lt
                      replace rowo := row_below rowo hb
                      replace hBV := hBV.trans (hb.mono hBV.size)
                      clear hb
                      have ko := kon
                      clear kon hW hbo
                      refine hK.out _ _ (fun h => hBV) ?_
                      clear hK K
                      try simp only [Act.put, List.setIfInBounds_toArray, List.set_cons_zero, List.set_cons_succ]
                      refine step_op 7 (by kernel_rfl) rfl (fun K hK => ?_)
                      rw [if_pos (by rfl)]
                      go_simp
                      have hc := between_own iw ih a c n' xs hn jw jh a' c' ys hn' za' zc' zn' zs' hznH'.out hzbH'.out hsm hzm0' hl3H.out U3 (later_i r1 hBV) (later_i r2 hBV) (rz'.later hBV)
                      rw [hvsH.out] at hc
                      refine hc.mono ?_
                      clear hc
                      rintro e U4 ⟨⟨a6, c6, rfl, hrow⟩, hb⟩
                      have rowpn := jrow_weaken hrow hBV.size
                      clear hrow
                      replace ko := ko.below hb ko.lt
                      replace kp := kp.below hb kp.lt
                      replace rowo := row_below rowo hb
                      replace hBV := hBV.trans (hb.mono hBV.size)
                      clear hb
                      have rowp := rowpn
                      clear rowpn
                      refine hK.out _ _ (fun h => hBV) ?_
                      clear hK K
                      try simp only [Act.put, List.setIfInBounds_toArray, List.set_cons_zero, List.set_cons_succ]
                      exact key2 a5 c5 a6 c6 bo bp U4 ⟨ko, kp, rowo, rowp, hBV, hlko, hlkp, hne⟩
                  · refine step_at 8 rfl (fun K hK => ?_)
                    rw [if_pos (by rfl)]
                    go_simp
                    have kon := Blk.new U1 27 #[.int .i64 0, .int .i64 0, .slice none 0 0]
                    obtain ⟨bo, hbo⟩ : ∃ b, U1.heap.size = b := ⟨_, rfl⟩
                    obtain ⟨U2, hW⟩ : ∃ W2, U1.alloc (.cells #[.int .i64 0, .int .i64 0, .slice none 0 0] 27) = W2 := ⟨_, rfl⟩
                    have hb : Below U1.heap.size U1 U2 := alloc_below hW
                    rw [hW] at kon ⊢
                    rw [hbo] at kon ⊢
                    have hlko := hBV.size
                    rw [hbo] at hlko
                    have hlne := kp.lt
                    rw [hbo] at hlne
                    have hne : bo ≠ bp := by omega
                    clear hlne
                    replace kp := kp.below hb kp.lt
                    replace hBV := hBV.trans (hb.mono hBV.size)
                    clear hb
                    have ko := kon
                    clear kon hW hbo
                    refine hK.out _ _ (fun h => hBV) ?_
                    clear hK K
                    try simp only [Act.put, List.setIfInBounds_toArray, List.set_cons_zero, List.set_cons_succ]
                    refine step_op 3 (by kernel_rfl) rfl (fun K hK => ?_)
                    rw [if_pos (by rfl)]
                    go_simp
                    have hc := between_own iw ih a c n' xs hn jw jh a' c' ys hn' za zc zn zs hznH.out hzbH.out hsm hzm0 hl3H.out U2 (later_i r1 hBV) (later_i r2 hBV) (rz.later hBV)
                    rw [husH.out] at hc
                    refine hc.mono ?_
                    clear hc
                    rintro e U3 ⟨⟨a5, c5, rfl, hrow⟩, hb⟩
                    have rowon := jrow_weaken hrow hBV.size
                    clear hrow
                    replace ko := ko.below hb ko.lt
                    replace kp := kp.below hb kp.lt
                    replace hBV := hBV.trans (hb.mono hBV.size)
                    clear hb
                    have rowo := rowon
                    clear rowon
                    refine hK.out _ _ (fun h => hBV) ?_
                    clear hK K
                    try simp only [Act.put, List.setIfInBounds_toArray, List.set_cons_zero, List.set_cons_succ]
                    refine step_op 7 (by kernel_rfl) rfl (fun K hK => ?_)
                    rw [if_pos (by rfl)]
                    go_simp
                    have hc := between_own iw ih a c n' xs hn jw jh a' c' ys hn' za' zc' zn' zs' hznH'.out hzbH'.out hsm hzm0' hl3H.out U3 (later_i r1 hBV) (later_i r2 hBV) (rz'.later hBV)
                    rw [hvsH.out] at hc
                    refine hc.mono ?_
                    clear hc
                    rintro e U4 ⟨⟨a6, c6, rfl, hrow⟩, hb⟩
                    have rowpn := jrow_weaken hrow hBV.size
                    clear hrow
                    replace ko := ko.below hb ko.lt
                    replace kp := kp.below hb kp.lt
                    replace rowo := row_below rowo hb
                    replace hBV := hBV.trans (hb.mono hBV.size)
                    clear hb
                    have rowp := rowpn
                    clear rowpn
                    refine hK.out _ _ (fun h => hBV) ?_
                    clear hK K
                    try simp only [Act.put, List.setIfInBounds_toArray, List.set_cons_zero, List.set_cons_succ]
                    exact key2 a5 c5 a6 c6 bo bp U4 ⟨ko, kp, rowo, rowp, hBV, hlko, hlkp, hne⟩
                case key =>
                  rintro a5 c5 a6 c6 bo bp U4 ⟨ko, kp, rowo, rowp, hBV, hlko, hlkp, hne⟩
                  refine step_op 10 (by kernel_rfl) rfl (fun K hK => ?_)
                  rw [if_pos (by rfl)]
                  have z0 := ko.cell (i := 0) rfl
                  have fz0 := ko.frozen 0
                  have z1 := ko.cell (i := 1) rfl
                  have fz1 := ko.frozen 1
                  have z2 := ko.cell (i := 2) rfl
                  have fz2 := ko.frozen 2
                  go_simp
                  clear z0 z1 z2 fz0 fz1 fz2
                  have hg := put3_grow2 U4 bo (.int .i64 iw) (.int .i64 ih) (.slice a5 n' c5)
                  have kon := put3_blk ko (.int .i64 iw) (.int .i64 ih) (.slice a5 n' c5)
                  have ron := row_put3 rowo (ko.not_row (by decide) rowo) (.int .i64 iw) (.int .i64 ih) (.slice a5 n' c5)
                  have rpn := row_put3 rowp (ko.not_row (by decide) rowp) (.int .i64 iw) (.int .i64 ih) (.slice a5 n' c5)
                  replace hBV := hBV.trans (put3_below (n := V7.heap.size) (B := bo) (by omega) (.int .i64 iw) (.int .i64 ih) (.slice a5 n' c5))
                  obtain ⟨U5, hW⟩ : ∃ W2, put3 U4 bo (.int .i64 iw) (.int .i64 ih) (.slice a5 n' c5) = W2 := ⟨_, rfl⟩
                  have hW' : ((U4.setCell ⟨bo, 0, none⟩ (.int .i64 iw)).setCell ⟨bo, 1, none⟩ (.int .i64 ih)).setCell ⟨bo, 2, none⟩ (.slice a5 n' c5) = U5 := hW
                  rw [hW] at hg kon ron rpn hBV
                  rw [hW']
                  clear hW hW' rowo rowp
                  have rowo := ron
                  have rowp := rpn
                  clear ron rpn
                  replace kp := kp.kept hg (by simp <;> omega)
                  replace ko := kon
                  clear kon hg
                  refine hK.out _ _ (fun h => hBV) ?_
                  clear hK K
                  try simp only [Act.put, List.setIfInBounds_toArray, List.set_cons_zero, List.set_cons_succ]
                  refine step_op 11 (by kernel_rfl) rfl (fun K hK => ?_)
                  rw [if_pos (by rfl)]
                  have z0 := kp.cell (i := 0) rfl
                  have fz0 := kp.frozen 0
                  have z1 := kp.cell (i := 1) rfl
                  have fz1 := kp.frozen 1
                  have z2 := kp.cell (i := 2) rfl
                  have fz2 := kp.frozen 2
                  go_simp
                  clear z0 z1 z2 fz0 fz1 fz2
                  have hg := put3_grow2 U5 bp (.int .i64 iw) (.int .i64 ih) (.slice a6 n' c6)
                  have kpn := put3_blk kp (.int .i64 iw) (.int .i64 ih) (.slice a6 n' c6)
                  have ron := row_put3 rowo (kp.not_row (by decide) rowo) (.int .i64 iw) (.int .i64 ih) (.slice a6 n' c6)
                  have rpn := row_put3 rowp (kp.not_row (by decide) rowp) (.int .i64 iw) (.int .i64 ih) (.slice a6 n' c6)
                  replace hBV := hBV.trans (put3_below (n := V7.heap.size) (B := bp) (by omega) (.int .i64 iw) (.int .i64 ih) (.slice a6 n' c6))
                  obtain ⟨U6, hW⟩ : ∃ W2, put3 U5 bp (.int .i64 iw) (.int .i64 ih) (.slice a6 n' c6) = W2 := ⟨_, rfl⟩
                  have hW' : ((U5.setCell ⟨bp, 0, none⟩ (.int .i64 iw)).setCell ⟨bp, 1, none⟩ (.int .i64 ih)).setCell ⟨bp, 2, none⟩ (.slice a6 n' c6) = U6 := hW
                  rw [hW] at hg kpn ron rpn hBV
                  rw [hW']
                  clear hW hW' rowo rowp
                  have rowo := ron
                  have rowp := rpn
                  clear ron rpn
                  replace ko := ko.kept hg (by simp <;> omega)
                  replace kp := kpn
                  clear kpn hg
                  refine hK.out _ _ (fun h => hBV) ?_
                  clear hK K
                  try simp only [Act.put, List.setIfInBounds_toArray, List.set_cons_zero, List.set_cons_succ]
                  refine done_ops (by kernel_rfl) ?_
                  go_wp2_with fail
                  go_meet
                  exact ⟨bo, bp, a5, c5, a6, c6, rfl, rfl, ko, kp, row_rd' hul.out rowo, row_rd' hvl.out rowp, hBV⟩
              case rest =>
              obtain ⟨bA, bB, a5, c5, a6, c6, rfl, rfl, kA, kB, rA, rB, hb⟩ := hcut
              clear d0 d1 d2 d3 d4 d5 d6 m0 m1 m2 u0 u1 u2
              replace k1 := k1.below hb k1.lt
              replace k2 := k2.below hb k2.lt
              replace k3 := k3.below hb k3.lt
              replace rn := later_l rn hb
              replace r1 := later_i r1 hb
              replace r2 := later_i r2 hb
              replace rz := rz.later hb
              replace rz' := rz'.later hb
              replace hB := hB.trans (hb.mono hB.size)
              clear hb
              have d0 := k1.cell (i := 0) rfl
              have d1 := k1.cell (i := 1) rfl
              have d2 := k1.cell (i := 2) rfl
              have d3 := k1.cell (i := 3) rfl
              have d4 := k1.cell (i := 4) rfl
              have d5 := k1.cell (i := 5) rfl
              have d6 := k1.cell (i := 6) rfl
              have m0 := k2.cell (i := 0) rfl
              have m1 := k2.cell (i := 1) rfl
              have m2 := k2.cell (i := 2) rfl
              have u0 := k3.cell (i := 0) rfl
              have u1 := k3.cell (i := 1) rfl
              have u2 := k3.cell (i := 2) rfl
              have g0 := kA.cell (i := 0) rfl
              have g1 := kA.cell (i := 1) rfl
              have g2 := kA.cell (i := 2) rfl
              have h0 := kB.cell (i := 0) rfl
              have h1 := kB.cell (i := 1) rfl
              have h2 := kB.cell (i := 2) rfl
              go_wp2_with fail
              have hc := Zip_any iw ih a5 c5 n' us hul iw ih a6 c6 n' vs hvl 3 (by decide) (by decide) wc (by omega) (by omega) rA rB
              unfold RetIm at hc
              rw [hz3.out] at hc
              refine hc.mono ?_
              clear hc
              rintro e V8 ⟨⟨vx, rfl, tx, rfl, hrx⟩, hb⟩
              clear d0 d1 d2 d3 d4 d5 d6 m0 m1 m2 u0 u1 u2 g0 g1 g2 h0 h1 h2
              replace k1 := k1.below hb k1.lt
              replace k2 := k2.below hb k2.lt
              replace k3 := k3.below hb k3.lt
              replace kA := kA.below hb kA.lt
              replace kB := kB.below hb kB.lt
              replace rn := later_l rn hb
              replace r1 := later_i r1 hb
              replace r2 := later_i r2 hb
              replace rz := rz.later hb
              replace rz' := rz'.later hb
              replace rA := later_i rA hb
              replace rB := later_i rB hb
              replace hB := hB.trans (hb.mono hB.size)
              clear hb
              have d0 := k1.cell (i := 0) rfl
              have d1 := k1.cell (i := 1) rfl
              have d2 := k1.cell (i := 2) rfl
              have d3 := k1.cell (i := 3) rfl
              have d4 := k1.cell (i := 4) rfl
              have d5 := k1.cell (i := 5) rfl
              have d6 := k1.cell (i := 6) rfl
              have m0 := k2.cell (i := 0) rfl
              have m1 := k2.cell (i := 1) rfl
              have m2 := k2.cell (i := 2) rfl
              have u0 := k3.cell (i := 0) rfl
              have u1 := k3.cell (i := 1) rfl
              have u2 := k3.cell (i := 2) rfl
              have g0 := kA.cell (i := 0) rfl
              have g1 := kA.cell (i := 1) rfl
              have g2 := kA.cell (i := 2) rfl
              have h0 := kB.cell (i := 0) rfl
              have h1 := kB.cell (i := 1) rfl
              have h2 := kB.cell (i := 2) rfl
              obtain ⟨px, qx, rfl⟩ := row_slice hrx
              have rx := row_rd' rfl hrx
              clear hrx
              simp only [hXl.out]
              have kX := Blk.new V8 27 #[.int .i64 0, .int .i64 0, .slice none 0 0]
              obtain ⟨bkX, hxkX⟩ : ∃ b, V8.heap.size = b := ⟨_, rfl⟩
              obtain ⟨V8a, hAkX⟩ : ∃ X, V8.alloc (.cells #[.int .i64 0, .int .i64 0, .slice none 0 0] 27) = X := ⟨_, rfl⟩
              have hba : Below V8.heap.size V8 V8a := alloc_below hAkX
              rw [hAkX, hxkX] at kX
              have hlekX : V8.heap.size ≤ bkX := by omega
              have ykX0 := kX.cell (i := 0) rfl
              have fykX0 := kX.frozen 0
              have ykX1 := kX.cell (i := 1) rfl
              have fykX1 := kX.frozen 1
              have ykX2 := kX.cell (i := 2) rfl
              have fykX2 := kX.frozen 2
              have kXn := put3_blk kX (.int .i64 iw) (.int .i64 ih) (.slice px n' qx)
              have hb : Below V8.heap.size V8 (put3 V8a bkX (.int .i64 iw) (.int .i64 ih) (.slice px n' qx)) := hba.trans (put3_below hlekX (.int .i64 iw) (.int .i64 ih) (.slice px n' qx))
              obtain ⟨V9, hPkX⟩ : ∃ X, put3 V8a bkX (.int .i64 iw) (.int .i64 ih) (.slice px n' qx) = X := ⟨_, rfl⟩
              rw [hPkX] at kXn hb
              replace kX := kXn
              clear kXn hba hlekX
              clear d0 d1 d2 d3 d4 d5 d6 m0 m1 m2 u0 u1 u2 g0 g1 g2 h0 h1 h2
              replace k1 := k1.below hb k1.lt
              replace k2 := k2.below hb k2.lt
              replace k3 := k3.below hb k3.lt
              replace kA := kA.below hb kA.lt
              replace kB := kB.below hb kB.lt
              replace rn := later_l rn hb
              replace r1 := later_i r1 hb
              replace r2 := later_i r2 hb
              replace rz := rz.later hb
              replace rz' := rz'.later hb
              replace rA := later_i rA hb
              replace rB := later_i rB hb
              replace rx := later_i rx hb
              replace hB := hB.trans (hb.mono hB.size)
              clear hb
              have d0 := k1.cell (i := 0) rfl
              have d1 := k1.cell (i := 1) rfl
              have d2 := k1.cell (i := 2) rfl
              have d3 := k1.cell (i := 3) rfl
              have d4 := k1.cell (i := 4) rfl
              have d5 := k1.cell (i := 5) rfl
              have d6 := k1.cell (i := 6) rfl
              have m0 := k2.cell (i := 0) rfl
              have m1 := k2.cell (i := 1) rfl
              have m2 := k2.cell (i := 2) rfl
              have u0 := k3.cell (i := 0) rfl
              have u1 := k3.cell (i := 1) rfl
              have u2 := k3.cell (i := 2) rfl
              have g0 := kA.cell (i := 0) rfl
              have g1 := kA.cell (i := 1) rfl
              have g2 := kA.cell (i := 2) rfl
              have h0 := kB.cell (i := 0) rfl
              have h1 := kB.cell (i := 1) rfl
              have h2 := kB.cell (i := 2) rfl
              have e0 := kX.cell (i := 0) rfl
              have e1 := kX.cell (i := 1) rfl
              have e2 := kX.cell (i := 2) rfl
              go_wp2_with fail
              clear hAkX hxkX hPkX ykX0 ykX1 ykX2 fykX0 fykX1 fykX2
              have hc := Zip_any iw ih a5 c5 n' us hul iw ih a6 c6 n' vs hvl 4 (by decide) (by decide) V9 (by omega) (by omega) rA rB
              unfold RetIm at hc
              rw [hz4.out] at hc
              refine hc.mono ?_
              clear hc
              rintro e V10 ⟨⟨vy, rfl, ty, rfl, hry⟩, hb⟩
              clear d0 d1 d2 d3 d4 d5 d6 m0 m1 m2 u0 u1 u2 g0 g1 g2 h0 h1 h2 e0 e1 e2
              replace k1 := k1.below hb k1.lt
              replace k2 := k2.below hb k2.lt
              replace k3 := k3.below hb k3.lt
              replace kA := kA.below hb kA.lt
              replace kB := kB.below hb kB.lt
              replace kX := kX.below hb kX.lt
              replace rn := later_l rn hb
              replace r1 := later_i r1 hb
              replace r2 := later_i r2 hb
              replace rz := rz.later hb
              replace rz' := rz'.later hb
              replace rA := later_i rA hb
              replace rB := later_i rB hb
              replace rx := later_i rx hb
              replace hB := hB.trans (hb.mono hB.size)
              clear hb
              have d0 := k1.cell (i := 0) rfl
              have d1 := k1.cell (i := 1) rfl
              have d2 := k1.cell (i := 2) rfl
              have d3 := k1.cell (i := 3) rfl
              have d4 := k1.cell (i := 4) rfl
              have d5 := k1.cell (i := 5) rfl
              have d6 := k1.cell (i := 6) rfl
              have m0 := k2.cell (i := 0) rfl
              have m1 := k2.cell (i := 1) rfl
              have m2 := k2.cell (i := 2) rfl
              have u0 := k3.cell (i := 0) rfl
              have u1 := k3.cell (i := 1) rfl
              have u2 := k3.cell (i := 2) rfl
              have g0 := kA.cell (i := 0) rfl
              have g1 := kA.cell (i := 1) rfl
              have g2 := kA.cell (i := 2) rfl
              have h0 := kB.cell (i := 0) rfl
              have h1 := kB.cell (i := 1) rfl
              have h2 := kB.cell (i := 2) rfl
              have e0 := kX.cell (i := 0) rfl
              have e1 := kX.cell (i := 1) rfl
              have e2 := kX.cell (i := 2) rfl
              obtain ⟨py, qy, rfl⟩ := row_slice hry
              have ry := row_rd' rfl hry
              clear hry
              simp only [hYl.out]
              have kY := Blk.new V10 27 #[.int .i64 0, .int .i64 0, .slice none 0 0]
              obtain ⟨bkY, hxkY⟩ : ∃ b, V10.heap.size = b := ⟨_, rfl⟩
              obtain ⟨V10a, hAkY⟩ : ∃ X, V10.alloc (.cells #[.int .i64 0, .int .i64 0, .slice none 0 0] 27) = X := ⟨_, rfl⟩
              have hba : Below V10.heap.size V10 V10a := alloc_below hAkY
              rw [hAkY, hxkY] at kY
              have hlekY : V10.heap.size ≤ bkY := by omega
              have ykY0 := kY.cell (i := 0) rfl
              have fykY0 := kY.frozen 0
              have ykY1 := kY.cell (i := 1) rfl
              have fykY1 := kY.frozen 1
              have ykY2 := kY.cell (i := 2) rfl
              have fykY2 := kY.frozen 2
              have kYn := put3_blk kY (.int .i64 iw) (.int .i64 ih) (.slice py n' qy)
              have hb : Below V10.heap.size V10 (put3 V10a bkY (.int .i64 iw) (.int .i64 ih) (.slice py n' qy)) := hba.trans (put3_below hlekY (.int .i64 iw) (.int .i64 ih) (.slice py n' qy))
              obtain ⟨V11, hPkY⟩ : ∃ X, put3 V10a bkY (.int .i64 iw) (.int .i64 ih) (.slice py n' qy) = X := ⟨_, rfl⟩
              rw [hPkY] at kYn hb
              replace kY := kYn
              clear kYn hba hlekY
              clear d0 d1 d2 d3 d4 d5 d6 m0 m1 m2 u0 u1 u2 g0 g1 g2 h0 h1 h2 e0 e1 e2
              replace k1 := k1.below hb k1.lt
              replace k2 := k2.below hb k2.lt
              replace k3 := k3.below hb k3.lt
              replace kA := kA.below hb kA.lt
              replace kB := kB.below hb kB.lt
              replace kX := kX.below hb kX.lt
              replace rn := later_l rn hb
              replace r1 := later_i r1 hb
              replace r2 := later_i r2 hb
              replace rz := rz.later hb
              replace rz' := rz'.later hb
              replace rA := later_i rA hb
              replace rB := later_i rB hb
              replace rx := later_i rx hb
              replace ry := later_i ry hb
              replace hB := hB.trans (hb.mono hB.size)
              clear hb
              have d0 := k1.cell (i := 0) rfl
              have d1 := k1.cell (i := 1) rfl
              have d2 := k1.cell (i := 2) rfl
              have d3 := k1.cell (i := 3) rfl
              have d4 := k1.cell (i := 4) rfl
              have d5 := k1.cell (i := 5) rfl
              have d6 := k1.cell (i := 6) rfl
              have m0 := k2.cell (i := 0) rfl
              have m1 := k2.cell (i := 1) rfl
              have m2 := k2.cell (i := 2) rfl
              have u0 := k3.cell (i := 0) rfl
              have u1 := k3.cell (i := 1) rfl
              have u2 := k3.cell (i := 2) rfl
              have g0 := kA.cell (i := 0) rfl
              have g1 := kA.cell (i := 1) rfl
              have g2 := kA.cell (i := 2) rfl
              have h0 := kB.cell (i := 0) rfl
              have h1 := kB.cell (i := 1) rfl
              have h2 := kB.cell (i := 2) rfl
              have e0 := kX.cell (i := 0) rfl
              have e1 := kX.cell (i := 1) rfl
              have e2 := kX.cell (i := 2) rfl
              have f0 := kY.cell (i := 0) rfl
              have f1 := kY.cell (i := 1) rfl
              have f2 := kY.cell (i := 2) rfl
              go_wp2_with fail
              clear hAkY hxkY hPkY ykY0 ykY1 ykY2 fykY0 fykY1 fykY2
              have hc := Certify_any N na nn nc hnnH.out hzH.out ⟨iw, ih, xs⟩ ⟨jw, jh, ys⟩ a a' n' c n' c' hn.out hn'.out (by omega) (by omega) 0 V11 rn r1 r2
              unfold RetCert at hc
              rw [c3H.out.1, c3H.out.2] at hc
              refine hc.mono ?_
              clear hc
              rintro e V12 ⟨rfl, hb⟩
              clear d0 d1 d2 d3 d4 d5 d6 m0 m1 m2 u0 u1 u2 g0 g1 g2 h0 h1 h2 e0 e1 e2 f0 f1 f2
              replace k1 := k1.below hb k1.lt
              replace k2 := k2.below hb k2.lt
              replace k3 := k3.below hb k3.lt
              replace kA := kA.below hb kA.lt
              replace kB := kB.below hb kB.lt
              replace kX := kX.below hb kX.lt
              replace kY := kY.below hb kY.lt
              replace rn := later_l rn hb
              replace r1 := later_i r1 hb
              replace r2 := later_i r2 hb
              replace rz := rz.later hb
              replace rz' := rz'.later hb
              replace rA := later_i rA hb
              replace rB := later_i rB hb
              replace rx := later_i rx hb
              replace ry := later_i ry hb
              replace hB := hB.trans (hb.mono hB.size)
              clear hb
              have d0 := k1.cell (i := 0) rfl
              have d1 := k1.cell (i := 1) rfl
              have d2 := k1.cell (i := 2) rfl
              have d3 := k1.cell (i := 3) rfl
              have d4 := k1.cell (i := 4) rfl
              have d5 := k1.cell (i := 5) rfl
              have d6 := k1.cell (i := 6) rfl
              have m0 := k2.cell (i := 0) rfl
              have m1 := k2.cell (i := 1) rfl
              have m2 := k2.cell (i := 2) rfl
              have u0 := k3.cell (i := 0) rfl
              have u1 := k3.cell (i := 1) rfl
              have u2 := k3.cell (i := 2) rfl
              have g0 := kA.cell (i := 0) rfl
              have g1 := kA.cell (i := 1) rfl
              have g2 := kA.cell (i := 2) rfl
              have h0 := kB.cell (i := 0) rfl
              have h1 := kB.cell (i := 1) rfl
              have h2 := kB.cell (i := 2) rfl
              have e0 := kX.cell (i := 0) rfl
              have e1 := kX.cell (i := 1) rfl
              have e2 := kX.cell (i := 2) rfl
              have f0 := kY.cell (i := 0) rfl
              have f1 := kY.cell (i := 1) rfl
              have f2 := kY.cell (i := 2) rfl
              go_wp2_with fail
              have hc := Certify_any N na nn nc hnnH.out hzH.out ⟨iw, ih, X⟩ ⟨iw, ih, Y⟩ px py n' qx n' qy hXl.out hYl.out (by omega) (by omega) 0 V12 rn rx ry
              unfold RetCert at hc
              rw [c4H.out.1, c4H.out.2] at hc
              refine hc.mono ?_
              clear hc
              rintro e V13 ⟨rfl, hb⟩
              clear d0 d1 d2 d3 d4 d5 d6 m0 m1 m2 u0 u1 u2 g0 g1 g2 h0 h1 h2 e0 e1 e2 f0 f1 f2
              replace k1 := k1.below hb k1.lt
              replace k2 := k2.below hb k2.lt
              replace k3 := k3.below hb k3.lt
              replace kA := kA.below hb kA.lt
              replace kB := kB.below hb kB.lt
              replace kX := kX.below hb kX.lt
              replace kY := kY.below hb kY.lt
              replace rn := later_l rn hb
              replace r1 := later_i r1 hb
              replace r2 := later_i r2 hb
              replace rz := rz.later hb
              replace rz' := rz'.later hb
              replace rA := later_i rA hb
              replace rB := later_i rB hb
              replace rx := later_i rx hb
              replace ry := later_i ry hb
              replace hB := hB.trans (hb.mono hB.size)
              clear hb
              have d0 := k1.cell (i := 0) rfl
              have d1 := k1.cell (i := 1) rfl
              have d2 := k1.cell (i := 2) rfl
              have d3 := k1.cell (i := 3) rfl
              have d4 := k1.cell (i := 4) rfl
              have d5 := k1.cell (i := 5) rfl
              have d6 := k1.cell (i := 6) rfl
              have m0 := k2.cell (i := 0) rfl
              have m1 := k2.cell (i := 1) rfl
              have m2 := k2.cell (i := 2) rfl
              have u0 := k3.cell (i := 0) rfl
              have u1 := k3.cell (i := 1) rfl
              have u2 := k3.cell (i := 2) rfl
              have g0 := kA.cell (i := 0) rfl
              have g1 := kA.cell (i := 1) rfl
              have g2 := kA.cell (i := 2) rfl
              have h0 := kB.cell (i := 0) rfl
              have h1 := kB.cell (i := 1) rfl
              have h2 := kB.cell (i := 2) rfl
              have e0 := kX.cell (i := 0) rfl
              have e1 := kX.cell (i := 1) rfl
              have e2 := kX.cell (i := 2) rfl
              have f0 := kY.cell (i := 0) rfl
              have f1 := kY.cell (i := 1) rfl
              have f2 := kY.cell (i := 2) rfl
              go_wp2_with fail
              have hc := Certify_any N na nn nc hnnH.out hzH.out ⟨iw, ih, us⟩ ⟨iw, ih, us⟩ a5 a5 n' c5 n' c5 hul.out hul.out (by omega) (by omega) s V13 rn rA rA
              unfold RetCert at hc
              rw [c5H.out.1, c5H.out.2] at hc
              refine hc.mono ?_
              clear hc
              rintro e V14 ⟨rfl, hb⟩
              clear d0 d1 d2 d3 d4 d5 d6 m0 m1 m2 u0 u1 u2 g0 g1 g2 h0 h1 h2 e0 e1 e2 f0 f1 f2
              replace k1 := k1.below hb k1.lt
              replace k2 := k2.below hb k2.lt
              replace k3 := k3.below hb k3.lt
              replace kA := kA.below hb kA.lt
              replace kB := kB.below hb kB.lt
              replace kX := kX.below hb kX.lt
              replace kY := kY.below hb kY.lt
              replace rn := later_l rn hb
              replace r1 := later_i r1 hb
              replace r2 := later_i r2 hb
              replace rz := rz.later hb
              replace rz' := rz'.later hb
              replace rA := later_i rA hb
              replace rB := later_i rB hb
              replace rx := later_i rx hb
              replace ry := later_i ry hb
              replace hB := hB.trans (hb.mono hB.size)
              clear hb
              have d0 := k1.cell (i := 0) rfl
              have d1 := k1.cell (i := 1) rfl
              have d2 := k1.cell (i := 2) rfl
              have d3 := k1.cell (i := 3) rfl
              have d4 := k1.cell (i := 4) rfl
              have d5 := k1.cell (i := 5) rfl
              have d6 := k1.cell (i := 6) rfl
              have m0 := k2.cell (i := 0) rfl
              have m1 := k2.cell (i := 1) rfl
              have m2 := k2.cell (i := 2) rfl
              have u0 := k3.cell (i := 0) rfl
              have u1 := k3.cell (i := 1) rfl
              have u2 := k3.cell (i := 2) rfl
              have g0 := kA.cell (i := 0) rfl
              have g1 := kA.cell (i := 1) rfl
              have g2 := kA.cell (i := 2) rfl
              have h0 := kB.cell (i := 0) rfl
              have h1 := kB.cell (i := 1) rfl
              have h2 := kB.cell (i := 2) rfl
              have e0 := kX.cell (i := 0) rfl
              have e1 := kX.cell (i := 1) rfl
              have e2 := kX.cell (i := 2) rfl
              have f0 := kY.cell (i := 0) rfl
              have f1 := kY.cell (i := 1) rfl
              have f2 := kY.cell (i := 2) rfl
              go_wp2_with fail
              have hc := Classify_any N na nn nc hnnH.out hzH.out ⟨iw, ih, us⟩ a5 n' c5 hul.out (by omega) V14 rn rA
              unfold RetCla at hc
              rw [hchkH.out] at hc
              refine hc.mono ?_
              clear hc
              rintro e V15 ⟨sc, vd, rfl, hsc, hvd, hb⟩
              clear d0 d1 d2 d3 d4 d5 d6 m0 m1 m2 u0 u1 u2 g0 g1 g2 h0 h1 h2 e0 e1 e2 f0 f1 f2
              replace k1 := k1.below hb k1.lt
              replace k2 := k2.below hb k2.lt
              replace k3 := k3.below hb k3.lt
              replace kA := kA.below hb kA.lt
              replace kB := kB.below hb kB.lt
              replace kX := kX.below hb kX.lt
              replace kY := kY.below hb kY.lt
              replace rn := later_l rn hb
              replace r1 := later_i r1 hb
              replace r2 := later_i r2 hb
              replace rz := rz.later hb
              replace rz' := rz'.later hb
              replace rA := later_i rA hb
              replace rB := later_i rB hb
              replace rx := later_i rx hb
              replace ry := later_i ry hb
              replace hB := hB.trans (hb.mono hB.size)
              clear hb
              have d0 := k1.cell (i := 0) rfl
              have d1 := k1.cell (i := 1) rfl
              have d2 := k1.cell (i := 2) rfl
              have d3 := k1.cell (i := 3) rfl
              have d4 := k1.cell (i := 4) rfl
              have d5 := k1.cell (i := 5) rfl
              have d6 := k1.cell (i := 6) rfl
              have m0 := k2.cell (i := 0) rfl
              have m1 := k2.cell (i := 1) rfl
              have m2 := k2.cell (i := 2) rfl
              have u0 := k3.cell (i := 0) rfl
              have u1 := k3.cell (i := 1) rfl
              have u2 := k3.cell (i := 2) rfl
              have g0 := kA.cell (i := 0) rfl
              have g1 := kA.cell (i := 1) rfl
              have g2 := kA.cell (i := 2) rfl
              have h0 := kB.cell (i := 0) rfl
              have h1 := kB.cell (i := 1) rfl
              have h2 := kB.cell (i := 2) rfl
              have e0 := kX.cell (i := 0) rfl
              have e1 := kX.cell (i := 1) rfl
              have e2 := kX.cell (i := 2) rfl
              have f0 := kY.cell (i := 0) rfl
              have f1 := kY.cell (i := 1) rfl
              have f2 := kY.cell (i := 2) rfl
              rw [if_pos rfl] at hvd
              try simp only at hvd
              rw [e5H.out] at hvd
              subst hvd
              clear hsc
              by_cases z33 : z3 = 3
              case pos =>
                subst z33
                go_wp2_with fail
                go_ret
                exact ⟨rfl, hB⟩
              case neg =>
                obtain rfl : z4 = z3 := hpartH.out z33
                have y1 : ((z4 : Int) == 3) = false := by simp; omega
                have y2 : ¬ (z4 : Int) = 3 := by omega
                go_wp2_with fail
                go_ret
                exact ⟨rfl, hB⟩

end Go.Proofs.YtbfigbpjoaccdaaGreat

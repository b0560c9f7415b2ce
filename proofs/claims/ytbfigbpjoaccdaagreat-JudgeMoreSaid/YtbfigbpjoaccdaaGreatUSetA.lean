/- 'set' and 'between' of the judge's law package: whether two images are those of a set, and an image of the set. -/
import Derived.Test.YtbfigbpjoaccdaaGreatUHoldL
import Derived.Test.YtbfigbpjoaccdaaGreatQD3
import Derived.Test.YtbfigbpjoaccdaaGreatQD6
import Derived.Test.YtbfigbpjoaccdaaGreatQD8
import Derived.Test.YtbfigbpjoaccdaaGreatQD17
import Derived.Test.YtbfigbpjoaccdaaGreatQD19
namespace Go.Proofs.YtbfigbpjoaccdaaGreat
open Go Go.RowKit Go.Shelf
set_option linter.unusedVariables false
set_option linter.unusedSimpArgs false

theorem row_drw {W : World} {base : Nat} {e : TypeId} {size : Nat} {v : Value} {k : Nat} {xs : List Value} (h : W.ownsRow base e size v k xs) : W.drew.ownsRow base e size v k xs := h
theorem row_put3 {W : World} {base : Nat} {e : TypeId} {size : Nat} {v : Value} {k : Nat} {xs : List Value} (h : W.ownsRow base e size v k xs) {B : Nat} (hne : some B ≠ v.ownBlock) (x y z : Value) : (put3 W B x y z).ownsRow base e size v k xs :=
  row_setCell (row_setCell (row_setCell h (a := ⟨B, 0, none⟩) hne x) (a := ⟨B, 1, none⟩) hne y) (a := ⟨B, 2, none⟩) hne z
theorem not_setB {N : NetN} {m m' : ImN} (h : ¬ (netOk N = true ∧ camB m = true ∧ camB m' = true ∧ m.w = N.w ∧ m.h = N.h ∧ m'.w = N.w ∧ m'.h = N.h)) : setB N m m' = false := by
  cases e : setB N m m' with
  | false => rfl
  | true =>
    have hS := setB_ok e
    exact absurd ⟨setB_net e, hS.c, hS.c', hS.w, hS.h, hS.w', hS.h'⟩ h
set_option maxRecDepth 100000 in
set_option maxHeartbeats 8000000 in
theorem set_any (N : NetN) (na : Option Addr) (nn nc : Nat) (hnn : N.Ls.length = nn) (hz : NetSz N) (iw ih : Int) (a : Option Addr) (c n : Nat) (xs : List Int) (hn : Hid (xs.length = n)) (jw jh : Int) (a' : Option Addr) (c' n' : Nat) (ys : List Int) (hn' : Hid (ys.length = n'))
    (hm : n ≤ 9223372036854775807) (hm' : n' ≤ 9223372036854775807) (w : World) (rn : RdLs w.heap.size w na N.Ls) (r1 : Rd w.heap.size w a xs) (r2 : Rd w.heap.size w a' ys) :
    Calls Tryz.prog 18 #[netv N na nn nc, imv iw ih a n c, imv jw jh a' n' c'] w fun e w' => e = .returned (.bool (setB N ⟨iw, ih, xs⟩ ⟨jw, jh, ys⟩)) ∧ Below w.heap.size w w' := by
  have hB : Below w.heap.size w w := Below.refl _ _
  have hnnH := Lib.hid hnn
  have hzH := Lib.hid hz
  clear hnn hz
  have hbV1 : Below w.heap.size w (w.alloc (.cells #[.int .i64 N.w, .int .i64 N.h, .int .i64 N.gx, .int .i64 N.gy, .slice na nn nc, .int .i64 N.low, .int .i64 N.high] 24)) := jb_al (Below.refl _ w) _
  have k1 := Blk.new w 24 #[.int .i64 N.w, .int .i64 N.h, .int .i64 N.gx, .int .i64 N.gy, .slice na nn nc, .int .i64 N.low, .int .i64 N.high]
  obtain ⟨V1, hEV1⟩ : ∃ X, w.alloc (.cells #[.int .i64 N.w, .int .i64 N.h, .int .i64 N.gx, .int .i64 N.gy, .slice na nn nc, .int .i64 N.low, .int .i64 N.high] 24) = X := ⟨_, rfl⟩
  rw [hEV1] at hbV1 k1
  replace rn := later_l rn hbV1
  replace r1 := later_i r1 hbV1
  replace r2 := later_i r2 hbV1
  replace hB := hB.trans (hbV1.mono hB.size)
  clear hbV1
  have d0 := k1.cell (i := 0) rfl
  have d1 := k1.cell (i := 1) rfl
  have d2 := k1.cell (i := 2) rfl
  have d3 := k1.cell (i := 3) rfl
  have d4 := k1.cell (i := 4) rfl
  have d5 := k1.cell (i := 5) rfl
  have d6 := k1.cell (i := 6) rfl
  have hbV2 : Below V1.heap.size V1 (V1.alloc (.cells #[.int .i64 iw, .int .i64 ih, .slice a n c] 27)) := jb_al (Below.refl _ V1) _
  have k2 := Blk.new V1 27 #[.int .i64 iw, .int .i64 ih, .slice a n c]
  obtain ⟨V2, hEV2⟩ : ∃ X, V1.alloc (.cells #[.int .i64 iw, .int .i64 ih, .slice a n c] 27) = X := ⟨_, rfl⟩
  rw [hEV2] at hbV2 k2
  clear d0 d1 d2 d3 d4 d5 d6
  replace k1 := k1.below hbV2 k1.lt
  replace rn := later_l rn hbV2
  replace r1 := later_i r1 hbV2
  replace r2 := later_i r2 hbV2
  replace hB := hB.trans (hbV2.mono hB.size)
  clear hbV2
  have d0 := k1.cell (i := 0) rfl
  have d1 := k1.cell (i := 1) rfl
  have d2 := k1.cell (i := 2) rfl
  have d3 := k1.cell (i := 3) rfl
  have d4 := k1.cell (i := 4) rfl
  have d5 := k1.cell (i := 5) rfl
  have d6 := k1.cell (i := 6) rfl
  have m0 := k2.cell (i := 0) rfl
  have m1 := k2.cell (i := 1) rfl
  have m2 := k2.cell (i := 2) rfl
  have hbV3 : Below V2.heap.size V2 (V2.alloc (.cells #[.int .i64 jw, .int .i64 jh, .slice a' n' c'] 27)) := jb_al (Below.refl _ V2) _
  have k3 := Blk.new V2 27 #[.int .i64 jw, .int .i64 jh, .slice a' n' c']
  obtain ⟨V3, hEV3⟩ : ∃ X, V2.alloc (.cells #[.int .i64 jw, .int .i64 jh, .slice a' n' c'] 27) = X := ⟨_, rfl⟩
  rw [hEV3] at hbV3 k3
  clear d0 d1 d2 d3 d4 d5 d6 m0 m1 m2
  replace k1 := k1.below hbV3 k1.lt
  replace k2 := k2.below hbV3 k2.lt
  replace rn := later_l rn hbV3
  replace r1 := later_i r1 hbV3
  replace r2 := later_i r2 hbV3
  replace hB := hB.trans (hbV3.mono hB.size)
  clear hbV3
  have d0 := k1.cell (i := 0) rfl
  have d1 := k1.cell (i := 1) rfl
  have d2 := k1.cell (i := 2) rfl
  have d3 := k1.cell (i := 3) rfl
  have d4 := k1.cell (i := 4) rfl
  have d5 := k1.cell (i := 5) rfl
  have d6 := k1.cell (i := 6) rfl
  have m0 := k2.cell (i := 0) rfl
  have m1 := k2.cell (i := 1) rfl
  have m2 := k2.cell (i := 2) rfl
  have u0 := k3.cell (i := 0) rfl
  have u1 := k3.cell (i := 1) rfl
  have u2 := k3.cell (i := 2) rfl
  go_enter Tryz.func18, Tryz.ntmps18
  obtain ⟨vr, hv0⟩ : ∃ v, setB N ⟨iw, ih, xs⟩ ⟨jw, jh, ys⟩ = v := ⟨_, rfl⟩
  rw [hv0]
  have hvH := Lib.hid hv0
  clear hv0
  cases q1 : netOk N with
  | false =>
    have hF := not_setB (N := N) (m := ⟨iw, ih, xs⟩) (m' := ⟨jw, jh, ys⟩) (fun h => by rw [q1] at h; exact Bool.noConfusion h.1)
    rw [hvH.out] at hF
    subst hF
    have h1H := Lib.hid q1
    clear q1
    go_wp2_with fail
    clear hEV1 hEV2 hEV3
    have hc := ValidNetwork_any N na nn nc hnnH.out hzH.out V3 rn false h1H.out
    refine hc.mono ?_
    clear hc
    rintro e V4 ⟨rfl, hb⟩
    clear d0 d1 d2 d3 d4 d5 d6 m0 m1 m2 u0 u1 u2
    replace k1 := k1.below hb k1.lt
    replace k2 := k2.below hb k2.lt
    replace k3 := k3.below hb k3.lt
    replace rn := later_l rn hb
    replace r1 := later_i r1 hb
    replace r2 := later_i r2 hb
    replace hB := hB.trans (hb.mono hB.size)
    clear hb
    have d0 := k1.cell (i := 0) rfl
    have d1 := k1.cell (i := 1) rfl
    have d2 := k1.cell (i := 2) rfl
    have d3 := k1.cell (i := 3) rfl
    have d4 := k1.cell (i := 4) rfl
    have d5 := k1.cell (i := 5) rfl
    have d6 := k1.cell (i := 6) rfl
    have m0 := k2.cell (i := 0) rfl
    have m1 := k2.cell (i := 1) rfl
    have m2 := k2.cell (i := 2) rfl
    have u0 := k3.cell (i := 0) rfl
    have u1 := k3.cell (i := 1) rfl
    have u2 := k3.cell (i := 2) rfl
    go_wp2_with fail
    go_ret
    exact ⟨rfl, hB⟩
  | true =>
    have h1H := Lib.hid q1
    clear q1
    go_wp2_with fail
    clear hEV1 hEV2 hEV3
    have hc := ValidNetwork_any N na nn nc hnnH.out hzH.out V3 rn true h1H.out
    refine hc.mono ?_
    clear hc
    rintro e V4 ⟨rfl, hb⟩
    clear d0 d1 d2 d3 d4 d5 d6 m0 m1 m2 u0 u1 u2
    replace k1 := k1.below hb k1.lt
    replace k2 := k2.below hb k2.lt
    replace k3 := k3.below hb k3.lt
    replace rn := later_l rn hb
    replace r1 := later_i r1 hb
    replace r2 := later_i r2 hb
    replace hB := hB.trans (hb.mono hB.size)
    clear hb
    have d0 := k1.cell (i := 0) rfl
    have d1 := k1.cell (i := 1) rfl
    have d2 := k1.cell (i := 2) rfl
    have d3 := k1.cell (i := 3) rfl
    have d4 := k1.cell (i := 4) rfl
    have d5 := k1.cell (i := 5) rfl
    have d6 := k1.cell (i := 6) rfl
    have m0 := k2.cell (i := 0) rfl
    have m1 := k2.cell (i := 1) rfl
    have m2 := k2.cell (i := 2) rfl
    have u0 := k3.cell (i := 0) rfl
    have u1 := k3.cell (i := 1) rfl
    have u2 := k3.cell (i := 2) rfl
    cases q2 : camB ⟨iw, ih, xs⟩ with
    | false =>
      have hF := not_setB (N := N) (m := ⟨iw, ih, xs⟩) (m' := ⟨jw, jh, ys⟩) (fun h => by rw [q2] at h; exact Bool.noConfusion h.2.1)
      rw [hvH.out] at hF
      subst hF
      have h2H := Lib.hid q2
      clear q2
      go_wp2_with fail
      have hc := rCamera_any ⟨iw, ih, xs⟩ a n c hn.out hm V4 r1 false h2H.out
      refine hc.mono ?_
      clear hc
      rintro e V5 ⟨rfl, hb⟩
      clear d0 d1 d2 d3 d4 d5 d6 m0 m1 m2 u0 u1 u2
      replace k1 := k1.below hb k1.lt
      replace k2 := k2.below hb k2.lt
      replace k3 := k3.below hb k3.lt
      replace rn := later_l rn hb
      replace r1 := later_i r1 hb
      replace r2 := later_i r2 hb
      replace hB := hB.trans (hb.mono hB.size)
      clear hb
      have d0 := k1.cell (i := 0) rfl
      have d1 := k1.cell (i := 1) rfl
      have d2 := k1.cell (i := 2) rfl
      have d3 := k1.cell (i := 3) rfl
      have d4 := k1.cell (i := 4) rfl
      have d5 := k1.cell (i := 5) rfl
      have d6 := k1.cell (i := 6) rfl
      have m0 := k2.cell (i := 0) rfl
      have m1 := k2.cell (i := 1) rfl
      have m2 := k2.cell (i := 2) rfl
      have u0 := k3.cell (i := 0) rfl
      have u1 := k3.cell (i := 1) rfl
      have u2 := k3.cell (i := 2) rfl
      go_wp2_with fail
      go_ret
      exact ⟨rfl, hB⟩
    | true =>
      have h2H := Lib.hid q2
      clear q2
      go_wp2_with fail
      have hc := rCamera_any ⟨iw, ih, xs⟩ a n c hn.out hm V4 r1 true h2H.out
      refine hc.mono ?_
      clear hc
      rintro e V5 ⟨rfl, hb⟩
      clear d0 d1 d2 d3 d4 d5 d6 m0 m1 m2 u0 u1 u2
      replace k1 := k1.below hb k1.lt
      replace k2 := k2.below hb k2.lt
      replace k3 := k3.below hb k3.lt
      replace rn := later_l rn hb
      replace r1 := later_i r1 hb
      replace r2 := later_i r2 hb
      replace hB := hB.trans (hb.mono hB.size)
      clear hb
      have d0 := k1.cell (i := 0) rfl
      have d1 := k1.cell (i := 1) rfl
      have d2 := k1.cell (i := 2) rfl
      have d3 := k1.cell (i := 3) rfl
      have d4 := k1.cell (i := 4) rfl
      have d5 := k1.cell (i := 5) rfl
      have d6 := k1.cell (i := 6) rfl
      have m0 := k2.cell (i := 0) rfl
      have m1 := k2.cell (i := 1) rfl
      have m2 := k2.cell (i := 2) rfl
      have u0 := k3.cell (i := 0) rfl
      have u1 := k3.cell (i := 1) rfl
      have u2 := k3.cell (i := 2) rfl
      cases q3 : camB ⟨jw, jh, ys⟩ with
      | false =>
        have hF := not_setB (N := N) (m := ⟨iw, ih, xs⟩) (m' := ⟨jw, jh, ys⟩) (fun h => by rw [q3] at h; exact Bool.noConfusion h.2.2.1)
        rw [hvH.out] at hF
        subst hF
        have h3H := Lib.hid q3
        clear q3
        go_wp2_with fail
        have hc := rCamera_any ⟨jw, jh, ys⟩ a' n' c' hn'.out hm' V5 r2 false h3H.out
        refine hc.mono ?_
        clear hc
        rintro e V6 ⟨rfl, hb⟩
        clear d0 d1 d2 d3 d4 d5 d6 m0 m1 m2 u0 u1 u2
        replace k1 := k1.below hb k1.lt
        replace k2 := k2.below hb k2.lt
        replace k3 := k3.below hb k3.lt
        replace rn := later_l rn hb
        replace r1 := later_i r1 hb
        replace r2 := later_i r2 hb
        replace hB := hB.trans (hb.mono hB.size)
        clear hb
        have d0 := k1.cell (i := 0) rfl
        have d1 := k1.cell (i := 1) rfl
        have d2 := k1.cell (i := 2) rfl
        have d3 := k1.cell (i := 3) rfl
        have d4 := k1.cell (i := 4) rfl
        have d5 := k1.cell (i := 5) rfl
        have d6 := k1.cell (i := 6) rfl
        have m0 := k2.cell (i := 0) rfl
        have m1 := k2.cell (i := 1) rfl
        have m2 := k2.cell (i := 2) rfl
        have u0 := k3.cell (i := 0) rfl
        have u1 := k3.cell (i := 1) rfl
        have u2 := k3.cell (i := 2) rfl
        go_wp2_with fail
        go_ret
        exact ⟨rfl, hB⟩
      | true =>
        have h3H := Lib.hid q3
        clear q3
        go_wp2_with fail
        have hc := rCamera_any ⟨jw, jh, ys⟩ a' n' c' hn'.out hm' V5 r2 true h3H.out
        refine hc.mono ?_
        clear hc
        rintro e V6 ⟨rfl, hb⟩
        clear d0 d1 d2 d3 d4 d5 d6 m0 m1 m2 u0 u1 u2
        replace k1 := k1.below hb k1.lt
        replace k2 := k2.below hb k2.lt
        replace k3 := k3.below hb k3.lt
        replace rn := later_l rn hb
        replace r1 := later_i r1 hb
        replace r2 := later_i r2 hb
        replace hB := hB.trans (hb.mono hB.size)
        clear hb
        have d0 := k1.cell (i := 0) rfl
        have d1 := k1.cell (i := 1) rfl
        have d2 := k1.cell (i := 2) rfl
        have d3 := k1.cell (i := 3) rfl
        have d4 := k1.cell (i := 4) rfl
        have d5 := k1.cell (i := 5) rfl
        have d6 := k1.cell (i := 6) rfl
        have m0 := k2.cell (i := 0) rfl
        have m1 := k2.cell (i := 1) rfl
        have m2 := k2.cell (i := 2) rfl
        have u0 := k3.cell (i := 0) rfl
        have u1 := k3.cell (i := 1) rfl
        have u2 := k3.cell (i := 2) rfl
        by_cases e0 : iw = N.w
        case neg =>
          have hF := not_setB (N := N) (m := ⟨iw, ih, xs⟩) (m' := ⟨jw, jh, ys⟩) (fun h => e0 h.2.2.2.1)
          rw [hvH.out] at hF
          subst hF
          have ed0 : (iw != N.w) = true := by simp [e0]
          have ee0 : (iw == N.w) = false := by simp [e0]
          go_wp2_with fail
          go_ret
          exact ⟨rfl, hB⟩
        case pos =>
          have ed0 : (iw != N.w) = false := by simp [e0]
          have ee0 : (iw == N.w) = true := by simp [e0]
          by_cases e1 : ih = N.h
          case neg =>
            have hF := not_setB (N := N) (m := ⟨iw, ih, xs⟩) (m' := ⟨jw, jh, ys⟩) (fun h => e1 h.2.2.2.2.1)
            rw [hvH.out] at hF
            subst hF
            have ed1 : (ih != N.h) = true := by simp [e1]
            have ee1 : (ih == N.h) = false := by simp [e1]
            go_wp2_with fail
            go_ret
            exact ⟨rfl, hB⟩
          case pos =>
            have ed1 : (ih != N.h) = false := by simp [e1]
            have ee1 : (ih == N.h) = true := by simp [e1]
            by_cases e2 : jw = N.w
            case neg =>
              have hF := not_setB (N := N) (m := ⟨iw, ih, xs⟩) (m' := ⟨jw, jh, ys⟩) (fun h => e2 h.2.2.2.2.2.1)
              rw [hvH.out] at hF
              subst hF
              have ed2 : (jw != N.w) = true := by simp [e2]
              have ee2 : (jw == N.w) = false := by simp [e2]
              go_wp2_with fail
              go_ret
              exact ⟨rfl, hB⟩
            case pos =>
              have ed2 : (jw != N.w) = false := by simp [e2]
              have ee2 : (jw == N.w) = true := by simp [e2]
              by_cases e3 : jh = N.h
              case neg =>
                have hF := not_setB (N := N) (m := ⟨iw, ih, xs⟩) (m' := ⟨jw, jh, ys⟩) (fun h => e3 h.2.2.2.2.2.2)
                rw [hvH.out] at hF
                subst hF
                have ed3 : (jh != N.h) = true := by simp [e3]
                have ee3 : (jh == N.h) = false := by simp [e3]
                go_wp2_with fail
                go_ret
                exact ⟨rfl, hB⟩
              case pos =>
                have ed3 : (jh != N.h) = false := by simp [e3]
                have ee3 : (jh == N.h) = true := by simp [e3]
                have x1 := camB_iff.1 h2H.out
                have x2 := camB_iff.1 h3H.out
                have hnn' : n' = n := by
                  have a1 := x1.1.2.2
                  have a2 := x2.1.2.2
                  simp only at a1 a2
                  rw [hn.out] at a1
                  rw [hn'.out] at a2
                  rw [e0, e1] at a1
                  rw [e2, e3] at a2
                  omega
                have hn256 : n ≤ 256 := by have := camB_len h2H.out; simp only at this; rw [hn.out] at this; exact this
                have hgH := Lib.hid (fun (hle : leB xs ys = true) => (show setB N ⟨iw, ih, xs⟩ ⟨jw, jh, ys⟩ = true by
                  simp only [setB, Bool.and_eq_true, decide_eq_true_eq]
                  exact ⟨chkF_of_two h1H.out h2H.out h3H.out ⟨e0, e1⟩ ⟨e2, e3⟩, hle⟩))
                have hbH := Lib.hid (fun (hle : leB xs ys = false) => (show setB N ⟨iw, ih, xs⟩ ⟨jw, jh, ys⟩ = false by simp [setB, hle]))
                clear x1 x2 h1H h2H h3H
                go_wp2_with fail
                clear e0 ed0 ee0 e1 ed1 ee1 e2 ed2 ee2 e3 ed3 ee3
                subst hnn'
                clear d0 d1 d2 d3 d4 d5 d6 m0 m1 m2 u0 u1 u2
                have r1H := Lib.hid r1
                have r2H := Lib.hid r2
                have l2 := k2.lt
                have l3 := k3.lt
                clear r1 r2 rn k1
                go_loopw [7] (fun i wr => ∃ k : Nat, k ≤ n' ∧ i = .int .i64 (k : Int) ∧ Hid (allTo (fun i => decide (xs[i]?.getD 0 ≤ ys[i]?.getD 0)) k = true) ∧ Below V6.heap.size V6 wr) (fun i _ => n' - (intOf i).toNat)
                case atStart => exact ⟨0, Nat.zero_le _, rfl, Lib.hid rfl, Below.refl _ _⟩
                case round =>
                  obtain ⟨k, hk, rfl, hal, hb⟩ := hrel
                  have q2 := k2.below hb l2
                  have q3 := k3.below hb l3
                  have m0 := q2.cell (i := 2) rfl
                  by_cases hlt : k < n'
                  case pos =>
                    rcases r1H.out with h0 | ⟨b1, o1, rfl, hb1, hc1⟩
                    · exfalso; have := hn.out; rw [h0] at this; simp at this; omega
                    rcases r2H.out with h0 | ⟨b2, o2, rfl, hb2, hc2⟩
                    · exfalso; have := hn'.out; rw [h0] at this; simp at this; omega
                    have g1 := (hb.cell (p := ⟨b1, o1 + k, none⟩) hb1).trans (hc1 k (by rw [hn.out]; exact hlt))
                    have g2 := (hb.cell (p := ⟨b2, o2 + k, none⟩) hb2).trans (hc2 k (by rw [hn'.out]; exact hlt))
                    obtain ⟨x, hx⟩ : ∃ x, xs[k]?.getD 0 = x := ⟨_, rfl⟩
                    obtain ⟨y, hy⟩ : ∃ y, ys[k]?.getD 0 = y := ⟨_, rfl⟩
                    rw [hx] at g1
                    rw [hy] at g2
                    have lb1 : b1 < wr.heap.size := by have := hb.size; omega
                    have lb2 : b2 < wr.heap.size := by have := hb.size; omega
                    clear hc1 hc2
                    have hS : Below wr.heap.size wr wr.drew := (Below.refl _ _).drew
                    by_cases hxy : x ≤ y
                    case pos =>
                      have hal2 := Lib.hid (allTo_succ hal.out (show decide (xs[k]?.getD 0 ≤ ys[k]?.getD 0) = true by rw [hx, hy]; exact decide_eq_true hxy))
                      have hg : ¬ (y < x) := by omega
                      have hgd : decide (y < x) = false := decide_eq_false hg
                      clear hx hy
                      go_wp2_with fail
                      refine plain_region (fun W' => Below wr.heap.size wr W') 11 11 (by kernel_rfl) rfl ?_
                      simp only [Array.replicate_succ, Array.replicate_zero, List.push_toArray, List.nil_append, List.cons_append]
                      refine take_op 0 (v := ?ev0) rfl (by kernel_rfl) (fun _ _ _ h => h) (by rfl) hS (fun w' hS' => ?ey0) ?ez0
                      case ey0 =>
                        go_simp
                        rfl
                      simp only [List.setIfInBounds_toArray, List.set_cons_zero, List.set_cons_succ]
                      refine take_op 1 (v := ?ev1) rfl (by kernel_rfl) (fun _ _ _ h => h) (by rfl) hS (fun w' hS' => ?ey1) ?ez1
                      case ey1 =>
                        have fa2 := (q2.below hS' q2.lt).cell (i := 2) rfl
                        have fb2 := (q3.below hS' q3.lt).cell (i := 2) rfl
                        have fa3 := (hS'.cell (p := ⟨b1, o1 + k, none⟩) lb1).trans g1
                        have fb3 := (hS'.cell (p := ⟨b2, o2 + k, none⟩) lb2).trans g2
                        clear hS'
                        go_simp
                        rfl
                      simp only [List.setIfInBounds_toArray, List.set_cons_zero, List.set_cons_succ]
                      refine take_op 2 (v := ?ev2) rfl (by kernel_rfl) (fun _ _ _ h => h) (by rfl) hS (fun w' hS' => ?ey2) ?ez2
                      case ey2 =>
                        go_simp
                        rfl
                      simp only [List.setIfInBounds_toArray, List.set_cons_zero, List.set_cons_succ]
                      refine take_op 3 (v := ?ev3) rfl (by kernel_rfl) (fun _ _ _ h => h) (by rfl) hS (fun w' hS' => ?ey3) ?ez3
                      case ey3 =>
                        go_simp
                        try go_ints
                        first
                        | rfl
                        | (rw [if_pos (by omega)]; done)
                        | rw [if_pos ⟨by omega, by omega⟩]
                      simp only [List.setIfInBounds_toArray, List.set_cons_zero, List.set_cons_succ]
                      refine take_op 4 (v := ?ev4) rfl (by kernel_rfl) (fun _ _ _ h => h) (by rfl) hS (fun w' hS' => ?ey4) ?ez4
                      case ey4 =>
                        have fa2 := (q2.below hS' q2.lt).cell (i := 2) rfl
                        have fb2 := (q3.below hS' q3.lt).cell (i := 2) rfl
                        have fa3 := (hS'.cell (p := ⟨b1, o1 + k, none⟩) lb1).trans g1
                        have fb3 := (hS'.cell (p := ⟨b2, o2 + k, none⟩) lb2).trans g2
                        clear hS'
                        go_simp
                        rfl
                      simp only [List.setIfInBounds_toArray, List.set_cons_zero, List.set_cons_succ]
                      refine take_op 5 (v := ?ev5) rfl (by kernel_rfl) (fun _ _ _ h => h) (by rfl) hS (fun w' hS' => ?ey5) ?ez5
                      case ey5 =>
                        go_simp
                        rfl
                      simp only [List.setIfInBounds_toArray, List.set_cons_zero, List.set_cons_succ]
                      refine take_op 6 (v := ?ev6) rfl (by kernel_rfl) (fun _ _ _ h => h) (by rfl) hS (fun w' hS' => ?ey6) ?ez6
                      case ey6 =>
                        have fa2 := (q2.below hS' q2.lt).cell (i := 2) rfl
                        have fb2 := (q3.below hS' q3.lt).cell (i := 2) rfl
                        have fa3 := (hS'.cell (p := ⟨b1, o1 + k, none⟩) lb1).trans g1
                        have fb3 := (hS'.cell (p := ⟨b2, o2 + k, none⟩) lb2).trans g2
                        clear hS'
                        go_simp
                        rfl
                      simp only [List.setIfInBounds_toArray, List.set_cons_zero, List.set_cons_succ]
                      refine take_op 7 (v := ?ev7) rfl (by kernel_rfl) (fun _ _ _ h => h) (by rfl) hS (fun w' hS' => ?ey7) ?ez7
                      case ey7 =>
                        go_simp
                        rfl
                      simp only [List.setIfInBounds_toArray, List.set_cons_zero, List.set_cons_succ]
                      refine take_op 8 (v := ?ev8) rfl (by kernel_rfl) (fun _ _ _ h => h) (by rfl) hS (fun w' hS' => ?ey8) ?ez8
                      case ey8 =>
                        go_simp
                        try go_ints
                        first
                        | rfl
                        | (rw [if_pos (by omega)]; done)
                        | rw [if_pos ⟨by omega, by omega⟩]
                      simp only [List.setIfInBounds_toArray, List.set_cons_zero, List.set_cons_succ]
                      refine take_op 9 (v := ?ev9) rfl (by kernel_rfl) (fun _ _ _ h => h) (by rfl) hS (fun w' hS' => ?ey9) ?ez9
                      case ey9 =>
                        have fa2 := (q2.below hS' q2.lt).cell (i := 2) rfl
                        have fb2 := (q3.below hS' q3.lt).cell (i := 2) rfl
                        have fa3 := (hS'.cell (p := ⟨b1, o1 + k, none⟩) lb1).trans g1
                        have fb3 := (hS'.cell (p := ⟨b2, o2 + k, none⟩) lb2).trans g2
                        clear hS'
                        go_simp
                        rfl
                      simp only [List.setIfInBounds_toArray, List.set_cons_zero, List.set_cons_succ]
                      refine take_op 10 (v := .bool false) rfl (by kernel_rfl) (fun _ _ _ h => h) (by rfl) hS (fun w' hS' => ?ey10) ?ez10
                      case ey10 =>
                        clear hS'
                        go_simp
                        first | done | rfl | (simp; done)
                      simp only [List.setIfInBounds_toArray, List.set_cons_zero, List.set_cons_succ]
                      refine done_ops (by kernel_rfl) ?_
                      go_wp2_with fail
                      go_roundw
                      case rel => exact ⟨k + 1, by omega, by go_num, hal2, hb.drew⟩
                      case measure => simp [intOf]; omega
                    case neg =>
                      have hF := hbH.out (allTo_false (p := fun i => decide (xs[i]?.getD 0 ≤ ys[i]?.getD 0)) (by rw [hn.out]; exact hlt) (by show decide (xs[k]?.getD 0 ≤ ys[k]?.getD 0) = false; rw [hx, hy]; exact decide_eq_false hxy))
                      rw [hvH.out] at hF
                      subst hF
                      have hg : y < x := by omega
                      have hgd : decide (y < x) = true := decide_eq_true hg
                      clear hx hy
                      go_wp2_with fail
                      refine plain_region (fun W' => Below wr.heap.size wr W') 11 11 (by kernel_rfl) rfl ?_
                      simp only [Array.replicate_succ, Array.replicate_zero, List.push_toArray, List.nil_append, List.cons_append]
                      refine take_op 0 (v := ?fv0) rfl (by kernel_rfl) (fun _ _ _ h => h) (by rfl) hS (fun w' hS' => ?fy0) ?fz0
                      case fy0 =>
                        go_simp
                        rfl
                      simp only [List.setIfInBounds_toArray, List.set_cons_zero, List.set_cons_succ]
                      refine take_op 1 (v := ?fv1) rfl (by kernel_rfl) (fun _ _ _ h => h) (by rfl) hS (fun w' hS' => ?fy1) ?fz1
                      case fy1 =>
                        have fa2 := (q2.below hS' q2.lt).cell (i := 2) rfl
                        have fb2 := (q3.below hS' q3.lt).cell (i := 2) rfl
                        have fa3 := (hS'.cell (p := ⟨b1, o1 + k, none⟩) lb1).trans g1
                        have fb3 := (hS'.cell (p := ⟨b2, o2 + k, none⟩) lb2).trans g2
                        clear hS'
                        go_simp
                        rfl
                      simp only [List.setIfInBounds_toArray, List.set_cons_zero, List.set_cons_succ]
                      refine take_op 2 (v := ?fv2) rfl (by kernel_rfl) (fun _ _ _ h => h) (by rfl) hS (fun w' hS' => ?fy2) ?fz2
                      case fy2 =>
                        go_simp
                        rfl
                      simp only [List.setIfInBounds_toArray, List.set_cons_zero, List.set_cons_succ]
                      refine take_op 3 (v := ?fv3) rfl (by kernel_rfl) (fun _ _ _ h => h) (by rfl) hS (fun w' hS' => ?fy3) ?fz3
                      case fy3 =>
                        go_simp
                        try go_ints
                        first
                        | rfl
                        | (rw [if_pos (by omega)]; done)
                        | rw [if_pos ⟨by omega, by omega⟩]
                      simp only [List.setIfInBounds_toArray, List.set_cons_zero, List.set_cons_succ]
                      refine take_op 4 (v := ?fv4) rfl (by kernel_rfl) (fun _ _ _ h => h) (by rfl) hS (fun w' hS' => ?fy4) ?fz4
                      case fy4 =>
                        have fa2 := (q2.below hS' q2.lt).cell (i := 2) rfl
                        have fb2 := (q3.below hS' q3.lt).cell (i := 2) rfl
                        have fa3 := (hS'.cell (p := ⟨b1, o1 + k, none⟩) lb1).trans g1
                        have fb3 := (hS'.cell (p := ⟨b2, o2 + k, none⟩) lb2).trans g2
                        clear hS'
                        go_simp
                        rfl
                      simp only [List.setIfInBounds_toArray, List.set_cons_zero, List.set_cons_succ]
                      refine take_op 5 (v := ?fv5) rfl (by kernel_rfl) (fun _ _ _ h => h) (by rfl) hS (fun w' hS' => ?fy5) ?fz5
                      case fy5 =>
                        go_simp
                        rfl
                      simp only [List.setIfInBounds_toArray, List.set_cons_zero, List.set_cons_succ]
                      refine take_op 6 (v := ?fv6) rfl (by kernel_rfl) (fun _ _ _ h => h) (by rfl) hS (fun w' hS' => ?fy6) ?fz6
                      case fy6 =>
                        have fa2 := (q2.below hS' q2.lt).cell (i := 2) rfl
                        have fb2 := (q3.below hS' q3.lt).cell (i := 2) rfl
                        have fa3 := (hS'.cell (p := ⟨b1, o1 + k, none⟩) lb1).trans g1
                        have fb3 := (hS'.cell (p := ⟨b2, o2 + k, none⟩) lb2).trans g2
                        clear hS'
                        go_simp
                        rfl
                      simp only [List.setIfInBounds_toArray, List.set_cons_zero, List.set_cons_succ]
                      refine take_op 7 (v := ?fv7) rfl (by kernel_rfl) (fun _ _ _ h => h) (by rfl) hS (fun w' hS' => ?fy7) ?fz7
                      case fy7 =>
                        go_simp
                        rfl
                      simp only [List.setIfInBounds_toArray, List.set_cons_zero, List.set_cons_succ]
                      refine take_op 8 (v := ?fv8) rfl (by kernel_rfl) (fun _ _ _ h => h) (by rfl) hS (fun w' hS' => ?fy8) ?fz8
                      case fy8 =>
                        go_simp
                        try go_ints
                        first
                        | rfl
                        | (rw [if_pos (by omega)]; done)
                        | rw [if_pos ⟨by omega, by omega⟩]
                      simp only [List.setIfInBounds_toArray, List.set_cons_zero, List.set_cons_succ]
                      refine take_op 9 (v := ?fv9) rfl (by kernel_rfl) (fun _ _ _ h => h) (by rfl) hS (fun w' hS' => ?fy9) ?fz9
                      case fy9 =>
                        have fa2 := (q2.below hS' q2.lt).cell (i := 2) rfl
                        have fb2 := (q3.below hS' q3.lt).cell (i := 2) rfl
                        have fa3 := (hS'.cell (p := ⟨b1, o1 + k, none⟩) lb1).trans g1
                        have fb3 := (hS'.cell (p := ⟨b2, o2 + k, none⟩) lb2).trans g2
                        clear hS'
                        go_simp
                        rfl
                      simp only [List.setIfInBounds_toArray, List.set_cons_zero, List.set_cons_succ]
                      refine take_op 10 (v := .bool true) rfl (by kernel_rfl) (fun _ _ _ h => h) (by rfl) hS (fun w' hS' => ?fy10) ?fz10
                      case fy10 =>
                        clear hS'
                        go_simp
                        first | done | rfl | (simp; done)
                      simp only [List.setIfInBounds_toArray, List.set_cons_zero, List.set_cons_succ]
                      refine done_ops (by kernel_rfl) ?_
                      go_wp2_with fail
                      go_ret
                      exact ⟨rfl, hB.trans (hb.drew.mono hB.size)⟩
                  case neg =>
                    have hkn : k = n' := by omega
                    subst hkn
                    have hT := hgH.out (by unfold leB; rw [hn.out]; exact hal.out)
                    rw [hvH.out] at hT
                    subst hT
                    clear q3
                    go_wp2_with fail
                    go_ret
                    exact ⟨rfl, hB.trans (hb.mono hB.size)⟩
set_option maxRecDepth 100000 in
set_option maxHeartbeats 8000000 in
theorem between_own (iw ih : Int) (a : Option Addr) (c n : Nat) (xs : List Int) (hn : Hid (xs.length = n)) (jw jh : Int) (a' : Option Addr) (c' : Nat) (ys : List Int) (hn' : Hid (ys.length = n)) (za : Option Addr) (zc zn : Nat) (zs : List Nat) (hzn : zs.length = zn) (hzb : ∀ x ∈ zs, x < 256)
    (hm : n ≤ 256) (hzm : zn ≤ 140737488355328) (hle : ∀ i, i < n → 0 ≤ xs[i]?.getD 0 ∧ xs[i]?.getD 0 ≤ ys[i]?.getD 0 ∧ ys[i]?.getD 0 ≤ 255) (w : World) (r1 : Rd w.heap.size w a xs) (r2 : Rd w.heap.size w a' ys) (rz : RdN w.heap.size w za zs) :
    Calls Tryz.prog 20 #[imv iw ih a n c, imv jw jh a' n c', .slice za zn zc] w fun e w' => (∃ a5 c5, e = .returned (imv iw ih a5 n c5) ∧ w'.ownsRow w.heap.size 3 1 (.slice a5 n c5) n ((betL xs ys zs).map (Value.int .i64))) ∧ Below w.heap.size w w' := by
  have hB : Below w.heap.size w w := Below.refl _ _
  obtain ⟨i0, hi, hz0, hz1, hz2⟩ := info_parts jinfo_int
  have hznH := Lib.hid hzn
  have hzbH := Lib.hid hzb
  have hleH := Lib.hid hle
  clear hzn hzb hle
  have hbV1 : Below w.heap.size w (w.alloc (.cells #[.int .i64 iw, .int .i64 ih, .slice a n c] 27)) := jb_al (Below.refl _ w) _
  have k3 := Blk.new w 27 #[.int .i64 iw, .int .i64 ih, .slice a n c]
  obtain ⟨V1, hEV1⟩ : ∃ X, w.alloc (.cells #[.int .i64 iw, .int .i64 ih, .slice a n c] 27) = X := ⟨_, rfl⟩
  rw [hEV1] at hbV1 k3
  replace r1 := later_i r1 hbV1
  replace r2 := later_i r2 hbV1
  replace rz := rz.later hbV1
  replace hB := hB.trans (hbV1.mono hB.size)
  clear hbV1
  have m0 := k3.cell (i := 0) rfl
  have m1 := k3.cell (i := 1) rfl
  have m2 := k3.cell (i := 2) rfl
  have hbV2 : Below V1.heap.size V1 (V1.alloc (.cells #[.int .i64 jw, .int .i64 jh, .slice a' n c'] 27)) := jb_al (Below.refl _ V1) _
  have k4 := Blk.new V1 27 #[.int .i64 jw, .int .i64 jh, .slice a' n c']
  obtain ⟨V2, hEV2⟩ : ∃ X, V1.alloc (.cells #[.int .i64 jw, .int .i64 jh, .slice a' n c'] 27) = X := ⟨_, rfl⟩
  rw [hEV2] at hbV2 k4
  clear m0 m1 m2
  replace k3 := k3.below hbV2 k3.lt
  replace r1 := later_i r1 hbV2
  replace r2 := later_i r2 hbV2
  replace rz := rz.later hbV2
  replace hB := hB.trans (hbV2.mono hB.size)
  clear hbV2
  have m0 := k3.cell (i := 0) rfl
  have m1 := k3.cell (i := 1) rfl
  have m2 := k3.cell (i := 2) rfl
  have u0 := k4.cell (i := 0) rfl
  have u1 := k4.cell (i := 1) rfl
  have u2 := k4.cell (i := 2) rfl
  have hle6 := hB.size
  have hbV3 : Below V2.heap.size V2 (V2.alloc (.cells #[.int .i64 0, .int .i64 0, .slice none 0 0] 27)) := jb_al (Below.refl _ V2) _
  have k6 := Blk.new V2 27 #[.int .i64 0, .int .i64 0, .slice none 0 0]
  obtain ⟨V3, hEV3⟩ : ∃ X, V2.alloc (.cells #[.int .i64 0, .int .i64 0, .slice none 0 0] 27) = X := ⟨_, rfl⟩
  rw [hEV3] at hbV3 k6
  clear m0 m1 m2 u0 u1 u2
  replace k3 := k3.below hbV3 k3.lt
  replace k4 := k4.below hbV3 k4.lt
  replace r1 := later_i r1 hbV3
  replace r2 := later_i r2 hbV3
  replace rz := rz.later hbV3
  replace hB := hB.trans (hbV3.mono hB.size)
  clear hbV3
  have m0 := k3.cell (i := 0) rfl
  have m1 := k3.cell (i := 1) rfl
  have m2 := k3.cell (i := 2) rfl
  have u0 := k4.cell (i := 0) rfl
  have u1 := k4.cell (i := 1) rfl
  have u2 := k4.cell (i := 2) rfl
  have y0 := k6.cell (i := 0) rfl
  have fy0 := k6.frozen 0
  have y1 := k6.cell (i := 1) rfl
  have fy1 := k6.frozen 1
  have y2 := k6.cell (i := 2) rfl
  have fy2 := k6.frozen 2
  have hB2 : Below V3.heap.size V3 V3 := Below.refl _ _
  have hBw := hB
  have j3 := k3
  have j4 := k4
  have j6 := k6
  have r1H := Lib.hid r1
  have r2H := Lib.hid r2
  have rzH := Lib.hid rz
  clear r1 r2 rz
  have l3 := k3.lt
  have l4 := k4.lt
  have l6 := k6.lt
  have k7 := Blk.new V3 27 #[.int .i64 0, .int .i64 0, .slice none 0 0]
  obtain ⟨bk7, hxk7⟩ : ∃ b, V3.heap.size = b := ⟨_, rfl⟩
  obtain ⟨V3a, hAk7⟩ : ∃ X, V3.alloc (.cells #[.int .i64 0, .int .i64 0, .slice none 0 0] 27) = X := ⟨_, rfl⟩
  have hba : Below V3.heap.size V3 V3a := alloc_below hAk7
  rw [hAk7, hxk7] at k7
  have hlek7 : V3.heap.size ≤ bk7 := by omega
  have yk70 := k7.cell (i := 0) rfl
  have fyk70 := k7.frozen 0
  have yk71 := k7.cell (i := 1) rfl
  have fyk71 := k7.frozen 1
  have yk72 := k7.cell (i := 2) rfl
  have fyk72 := k7.frozen 2
  have k7n := put3_blk k7 (.int .i64 iw) (.int .i64 ih) (.slice none 0 0)
  have hb : Below V3.heap.size V3 (put3 V3a bk7 (.int .i64 iw) (.int .i64 ih) (.slice none 0 0)) := hba.trans (put3_below hlek7 (.int .i64 iw) (.int .i64 ih) (.slice none 0 0))
  obtain ⟨V4, hPk7⟩ : ∃ X, put3 V3a bk7 (.int .i64 iw) (.int .i64 ih) (.slice none 0 0) = X := ⟨_, rfl⟩
  rw [hPk7] at k7n hb
  replace k7 := k7n
  clear k7n hba hlek7
  clear m0 m1 m2 u0 u1 u2 y0 y1 y2 fy0 fy1 fy2
  replace k3 := k3.below hb k3.lt
  replace k4 := k4.below hb k4.lt
  replace k6 := k6.below hb k6.lt
  replace hB2 := hB2.trans (hb.mono hB2.size)
  replace hB := hB.trans (hb.mono hB.size)
  clear hb
  have m0 := k3.cell (i := 0) rfl
  have m1 := k3.cell (i := 1) rfl
  have m2 := k3.cell (i := 2) rfl
  have u0 := k4.cell (i := 0) rfl
  have u1 := k4.cell (i := 1) rfl
  have u2 := k4.cell (i := 2) rfl
  have y0 := k6.cell (i := 0) rfl
  have fy0 := k6.frozen 0
  have y1 := k6.cell (i := 1) rfl
  have fy1 := k6.frozen 1
  have y2 := k6.cell (i := 2) rfl
  have fy2 := k6.frozen 2
  have z0 := k7.cell (i := 0) rfl
  have z1 := k7.cell (i := 1) rfl
  have z2 := k7.cell (i := 2) rfl
  have hb7 : V3.heap.size ≤ bk7 := by omega
  have e0 := j3.cell (i := 0) rfl
  have e1 := j3.cell (i := 1) rfl
  go_enter Tryz.func20, Tryz.ntmps20
  go_wp2_with fail
  clear hEV1 hEV2 hEV3 hAk7 hxk7 hPk7 yk70 yk71 yk72 fyk70 fyk71 fyk72
  clear e0 e1
  clear m0 m1 m2 u0 u1 u2 y0 y1 y2 fy0 fy1 fy2 z0 z1 z2
  clear k3 k4 k6
  go_loopw [8] (fun i wr => ∃ (k : Nat) (v : Value), k ≤ n ∧ i = .int .i64 (k : Int) ∧ Blk wr bk7 27 #[.int .i64 iw, .int .i64 ih, v] ∧ wr.ownsRow V3.heap.size 3 1 v k (((betL xs ys zs).take k).map (Value.int .i64)) ∧ Below V3.heap.size V3 wr) (fun i _ => n - (intOf i).toNat)
  case atStart => exact ⟨0, .slice none 0 0, Nat.zero_le _, rfl, k7, World.ownsRow_nil _ _ _ _, hB2⟩
  case round =>
    clear k7
    obtain ⟨k, v, hk, rfl, q7, rowk, hb⟩ := hrel
    have p3 := j3.below hb l3
    have m2 := p3.cell (i := 2) rfl
    by_cases hlt : k < n
    case pos =>
      rcases r1H.out with h0 | ⟨b1, o1, rfl, hb1, hc1⟩
      · exfalso; have := hn.out; rw [h0] at this; simp at this; omega
      rcases r2H.out with h0 | ⟨b2, o2, rfl, hb2, hc2⟩
      · exfalso; have := hn'.out; rw [h0] at this; simp at this; omega
      have g1 := hc1 k (by rw [hn.out]; exact hlt)
      have g2 := hc2 k (by rw [hn'.out]; exact hlt)
      obtain ⟨x, hx⟩ : ∃ x, xs[k]?.getD 0 = x := ⟨_, rfl⟩
      obtain ⟨y, hy⟩ : ∃ y, ys[k]?.getD 0 = y := ⟨_, rfl⟩
      rw [hx] at g1
      rw [hy] at g2
      have hxy := hleH.out k hlt
      rw [hx, hy] at hxy
      have ne7 := q7.not_row (by decide) rowk
      have hgb : ∀ W', wr.grownBy W' v.ownBlock → Below V3.heap.size V3 W' := fun W' h => hb.grown h hb.size (fun j e => (rowk.lt j e).1)
      have hS : wr.grownBy wr.drew v.ownBlock := ⟨rfl, rfl, rfl, Nat.le_refl _, fun _ _ _ => rfl⟩
      have hd0 : ¬ (y - x + 1 = 0) := by omega
      have hd1 : ((y - x + 1) == 0) = false := by simp; omega
      clear hc1 hc2
      by_cases hz0' : 0 < zn
      case pos =>
        have hzd : decide ((0 : Int) < (zn : Int)) = true := decide_eq_true (by omega)
        have hzd2 : ((0 : Int) < (zn : Int)) := by omega
        have hzn0 : ¬ zn = 0 := by omega
        have hri : (k : Int).tmod (zn : Int) = ((k % zn : Nat) : Int) := by rw [← Int.ofNat_tmod]
        obtain ⟨r, hr⟩ : ∃ r, k % zn = r := ⟨_, rfl⟩
        have hrl : r < zn := by rw [← hr]; exact Nat.mod_lt _ hz0'
        rw [hr] at hri
        rcases rzH.out with h0 | ⟨bz, oz, rfl, hbz, hcz0⟩
        · have := hznH.out; rw [h0] at this; simp at this; omega
        have zc := (hb.cell (p := ⟨bz, oz + r, none⟩) hbz).trans (hcz0 r (by rw [hznH.out]; exact hrl))
        obtain ⟨cz, hcz1⟩ : ∃ u, zs[r]?.getD 0 = u := ⟨_, rfl⟩
        rw [hcz1] at zc
        have hub : cz < 256 := by
          rw [← hcz1, List.getElem?_eq_getElem (by rw [hznH.out]; exact hrl)]
          exact hzbH.out _ (List.getElem_mem _)
        have hcz : chsN zs k = cz := by unfold chsN; rw [hznH.out, hr, hcz1]
        obtain ⟨T, hT⟩ : ∃ T, (cz : Int).tmod (y - x + 1) = T := ⟨_, rfl⟩
        have hcv : (betL xs ys zs)[k]?.getD 0 = x + T := by rw [betL_at (by rw [hn.out]; exact hlt), hx, hy]; unfold betV; rw [hcz, hT]
        have htk := Lib.hid (take_map_i (by rw [betL_length, hn.out]; exact hlt) hcv)
        have hTb := betV_in (a := x) (b := y) (by omega) cz
        unfold betV at hTb
        rw [hT] at hTb
        clear hcv hx hy hcz
        have hTH := Lib.hid hT
        clear hT hcz0 hcz1 hr
        go_wp2_with fail
        have hT := hTH.out
        clear hri zc
        refine plain_region (fun W' => wr.grownBy W' v.ownBlock) 25 26 (by kernel_rfl) rfl ?_
        simp only [Array.replicate_succ, Array.replicate_zero, List.push_toArray, List.nil_append, List.cons_append]
        refine take_op 0 (v := ?sv0) rfl (by kernel_rfl) (fun _ _ _ h => h) (by rfl) hS (fun w' hS' => ?sy0) ?sz0
        case sy0 =>
          go_simp
          rfl
        simp only [List.setIfInBounds_toArray, List.set_cons_zero, List.set_cons_succ]
        refine take_op 1 (v := ?sv1) rfl (by kernel_rfl) (fun _ _ _ h => h) (by rfl) hS (fun w' hS' => ?sy1) ?sz1
        case sy1 =>
          have fa2 := (j3.below (hgb _ hS') l3).cell (i := 2) rfl
          have fb2 := (j4.below (hgb _ hS') l4).cell (i := 2) rfl
          have fz2 := (q7.kept hS' ne7).cell (i := 2) rfl
          have fa3 := ((hgb _ hS').cell (p := ⟨b1, o1 + k, none⟩) hb1).trans g1
          have fb3 := ((hgb _ hS').cell (p := ⟨b2, o2 + k, none⟩) hb2).trans g2
          clear hS'
          go_simp
          rfl
        simp only [List.setIfInBounds_toArray, List.set_cons_zero, List.set_cons_succ]
        refine take_op 2 (v := ?sv2) rfl (by kernel_rfl) (fun _ _ _ h => h) (by rfl) hS (fun w' hS' => ?sy2) ?sz2
        case sy2 =>
          go_simp
          rfl
        simp only [List.setIfInBounds_toArray, List.set_cons_zero, List.set_cons_succ]
        refine take_op 3 (v := ?sv3) rfl (by kernel_rfl) (fun _ _ _ h => h) (by rfl) hS (fun w' hS' => ?sy3) ?sz3
        case sy3 =>
          have fa2 := (j3.below (hgb _ hS') l3).cell (i := 2) rfl
          have fb2 := (j4.below (hgb _ hS') l4).cell (i := 2) rfl
          have fz2 := (q7.kept hS' ne7).cell (i := 2) rfl
          have fa3 := ((hgb _ hS').cell (p := ⟨b1, o1 + k, none⟩) hb1).trans g1
          have fb3 := ((hgb _ hS').cell (p := ⟨b2, o2 + k, none⟩) hb2).trans g2
          clear hS'
          go_simp
          rfl
        simp only [List.setIfInBounds_toArray, List.set_cons_zero, List.set_cons_succ]
        refine take_op 4 (v := ?sv4) rfl (by kernel_rfl) (fun _ _ _ h => h) (by rfl) hS (fun w' hS' => ?sy4) ?sz4
        case sy4 =>
          go_simp
          rfl
        simp only [List.setIfInBounds_toArray, List.set_cons_zero, List.set_cons_succ]
        refine take_op 5 (v := ?sv5) rfl (by kernel_rfl) (fun _ _ _ h => h) (by rfl) hS (fun w' hS' => ?sy5) ?sz5
        case sy5 =>
          go_simp
          try go_ints
          first
          | rfl
          | (rw [if_pos (by omega)]; done)
          | rw [if_pos ⟨by omega, by omega⟩]
        simp only [List.setIfInBounds_toArray, List.set_cons_zero, List.set_cons_succ]
        refine take_op 6 (v := ?sv6) rfl (by kernel_rfl) (fun _ _ _ h => h) (by rfl) hS (fun w' hS' => ?sy6) ?sz6
        case sy6 =>
          have fa2 := (j3.below (hgb _ hS') l3).cell (i := 2) rfl
          have fb2 := (j4.below (hgb _ hS') l4).cell (i := 2) rfl
          have fz2 := (q7.kept hS' ne7).cell (i := 2) rfl
          have fa3 := ((hgb _ hS').cell (p := ⟨b1, o1 + k, none⟩) hb1).trans g1
          have fb3 := ((hgb _ hS').cell (p := ⟨b2, o2 + k, none⟩) hb2).trans g2
          clear hS'
          go_simp
          rfl
        simp only [List.setIfInBounds_toArray, List.set_cons_zero, List.set_cons_succ]
        refine take_op 7 (v := ?sv7) rfl (by kernel_rfl) (fun _ _ _ h => h) (by rfl) hS (fun w' hS' => ?sy7) ?sz7
        case sy7 =>
          go_simp
          rfl
        simp only [List.setIfInBounds_toArray, List.set_cons_zero, List.set_cons_succ]
        refine take_op 8 (v := ?sv8) rfl (by kernel_rfl) (fun _ _ _ h => h) (by rfl) hS (fun w' hS' => ?sy8) ?sz8
        case sy8 =>
          go_simp
          rfl
        simp only [List.setIfInBounds_toArray, List.set_cons_zero, List.set_cons_succ]
        refine take_op 9 (v := ?sv9) rfl (by kernel_rfl) (fun _ _ _ h => h) (by rfl) hS (fun w' hS' => ?sy9) ?sz9
        case sy9 =>
          have fa2 := (j3.below (hgb _ hS') l3).cell (i := 2) rfl
          have fb2 := (j4.below (hgb _ hS') l4).cell (i := 2) rfl
          have fz2 := (q7.kept hS' ne7).cell (i := 2) rfl
          have fa3 := ((hgb _ hS').cell (p := ⟨b1, o1 + k, none⟩) hb1).trans g1
          have fb3 := ((hgb _ hS').cell (p := ⟨b2, o2 + k, none⟩) hb2).trans g2
          clear hS'
          go_simp
          rfl
        simp only [List.setIfInBounds_toArray, List.set_cons_zero, List.set_cons_succ]
        refine take_op 10 (v := ?sv10) rfl (by kernel_rfl) (fun _ _ _ h => h) (by rfl) hS (fun w' hS' => ?sy10) ?sz10
        case sy10 =>
          go_simp
          rfl
        simp only [List.setIfInBounds_toArray, List.set_cons_zero, List.set_cons_succ]
        refine take_op 11 (v := ?sv11) rfl (by kernel_rfl) (fun _ _ _ h => h) (by rfl) hS (fun w' hS' => ?sy11) ?sz11
        case sy11 =>
          go_simp
          try go_ints
          first
          | rfl
          | (rw [if_pos (by omega)]; done)
          | rw [if_pos ⟨by omega, by omega⟩]
        simp only [List.setIfInBounds_toArray, List.set_cons_zero, List.set_cons_succ]
        refine take_op 12 (v := ?sv12) rfl (by kernel_rfl) (fun _ _ _ h => h) (by rfl) hS (fun w' hS' => ?sy12) ?sz12
        case sy12 =>
          have fa2 := (j3.below (hgb _ hS') l3).cell (i := 2) rfl
          have fb2 := (j4.below (hgb _ hS') l4).cell (i := 2) rfl
          have fz2 := (q7.kept hS' ne7).cell (i := 2) rfl
          have fa3 := ((hgb _ hS').cell (p := ⟨b1, o1 + k, none⟩) hb1).trans g1
          have fb3 := ((hgb _ hS').cell (p := ⟨b2, o2 + k, none⟩) hb2).trans g2
          clear hS'
          go_simp
          rfl
        simp only [List.setIfInBounds_toArray, List.set_cons_zero, List.set_cons_succ]
        refine take_op 13 (v := ?sv13) rfl (by kernel_rfl) (fun _ _ _ h => h) (by rfl) hS (fun w' hS' => ?sy13) ?sz13
        case sy13 =>
          go_simp
          rfl
        simp only [List.setIfInBounds_toArray, List.set_cons_zero, List.set_cons_succ]
        refine take_op 14 (v := ?sv14) rfl (by kernel_rfl) (fun _ _ _ h => h) (by rfl) hS (fun w' hS' => ?sy14) ?sz14
        case sy14 =>
          have fa2 := (j3.below (hgb _ hS') l3).cell (i := 2) rfl
          have fb2 := (j4.below (hgb _ hS') l4).cell (i := 2) rfl
          have fz2 := (q7.kept hS' ne7).cell (i := 2) rfl
          have fa3 := ((hgb _ hS').cell (p := ⟨b1, o1 + k, none⟩) hb1).trans g1
          have fb3 := ((hgb _ hS').cell (p := ⟨b2, o2 + k, none⟩) hb2).trans g2
          clear hS'
          go_simp
          rfl
        simp only [List.setIfInBounds_toArray, List.set_cons_zero, List.set_cons_succ]
        refine take_op 15 (v := ?sv15) rfl (by kernel_rfl) (fun _ _ _ h => h) (by rfl) hS (fun w' hS' => ?sy15) ?sz15
        case sy15 =>
          go_simp
          rfl
        simp only [List.setIfInBounds_toArray, List.set_cons_zero, List.set_cons_succ]
        refine take_op 16 (v := ?sv16) rfl (by kernel_rfl) (fun _ _ _ h => h) (by rfl) hS (fun w' hS' => ?sy16) ?sz16
        case sy16 =>
          go_simp
          try go_ints
          first
          | rfl
          | (rw [if_pos (by omega)]; done)
          | rw [if_pos ⟨by omega, by omega⟩]
        simp only [List.setIfInBounds_toArray, List.set_cons_zero, List.set_cons_succ]
        refine take_op 17 (v := ?sv17) rfl (by kernel_rfl) (fun _ _ _ h => h) (by rfl) hS (fun w' hS' => ?sy17) ?sz17
        case sy17 =>
          have fa2 := (j3.below (hgb _ hS') l3).cell (i := 2) rfl
          have fb2 := (j4.below (hgb _ hS') l4).cell (i := 2) rfl
          have fz2 := (q7.kept hS' ne7).cell (i := 2) rfl
          have fa3 := ((hgb _ hS').cell (p := ⟨b1, o1 + k, none⟩) hb1).trans g1
          have fb3 := ((hgb _ hS').cell (p := ⟨b2, o2 + k, none⟩) hb2).trans g2
          clear hS'
          go_simp
          rfl
        simp only [List.setIfInBounds_toArray, List.set_cons_zero, List.set_cons_succ]
        refine take_op 18 (v := ?sv18) rfl (by kernel_rfl) (fun _ _ _ h => h) (by rfl) hS (fun w' hS' => ?sy18) ?sz18
        case sy18 =>
          go_simp
          try go_ints
          rfl
        simp only [List.setIfInBounds_toArray, List.set_cons_zero, List.set_cons_succ]
        refine take_op 19 (v := ?sv19) rfl (by kernel_rfl) (fun _ _ _ h => h) (by rfl) hS (fun w' hS' => ?sy19) ?sz19
        case sy19 =>
          go_simp
          try go_ints
          rfl
        simp only [List.setIfInBounds_toArray, List.set_cons_zero, List.set_cons_succ]
        refine take_op 20 (v := .int .i64 T) rfl (by kernel_rfl) (fun _ _ _ h => h) (by rfl) hS (fun w' hS' => ?sy20) ?sz20
        case sy20 =>
          clear hS'
          go_simp
          try simp only [hT]
          try rfl
        simp only [List.setIfInBounds_toArray, List.set_cons_zero, List.set_cons_succ]
        refine take_op 21 (v := ?sv21) rfl (by kernel_rfl) (fun _ _ _ h => h) (by rfl) hS (fun w' hS' => ?sy21) ?sz21
        case sy21 =>
          go_simp
          try go_ints
          rfl
        simp only [List.setIfInBounds_toArray, List.set_cons_zero, List.set_cons_succ]
        refine step_op 22 (by kernel_rfl) rfl (fun K hK => ?_)
        obtain ⟨Vd, hVd⟩ : ∃ Vd, wr.drew = Vd := ⟨_, rfl⟩
        have rowD := row_drw rowk
        rw [hVd] at hS rowD ⊢
        have hBd : Below V3.heap.size V3 Vd := hVd ▸ hb.drew
        clear hVd
        rw [if_pos (by rfl)]
        go_simp
        have hS4 : wr.grownBy (Vd.alloc (.cells #[.int .i64 (x + T)] 3)) v.ownBlock := grown_trans hS (World.grownBy_alloc _ _ _)
        refine hK.out _ _ (fun h => hS4) ?_
        clear hK K
        try simp only [Act.put, List.setIfInBounds_toArray, List.set_cons_zero, List.set_cons_succ]
        refine step_op 23 (by kernel_rfl) rfl (fun K hK => ?_)
        refine step_append_own rfl (.tmp 34) (.tmp 55) 25 rfl V3.heap.size 3 i0 (.int .i64 0) 1 8 Tryz.underlying25 hi hz0 hz1 hz2 rfl (by decide) v k (((betL xs ys zs).take k).map (Value.int .i64)) rfl (rowD.alloc (.cells #[.int .i64 (x + T)] 3)) ⟨Vd.heap.size, 0, none⟩ 1 1 [.int .i64 (x + T)] rfl rfl (cell_one_new _ _ _) (by simp [Value.oneCell']) (by unfold maxLen; omega) (by omega) (by have := hBd.size; simp; omega) ?_
        intro v' w4 hown' hg4 hnil
        obtain ⟨va, vc, rfl⟩ := row_slice hown'
        have hS5 : wr.grownBy w4 v.ownBlock := grown_trans hS4 hg4
        refine hK.out _ _ (fun h => hS5) ?_
        clear hK K
        try simp only [Act.put, List.setIfInBounds_toArray, List.set_cons_zero, List.set_cons_succ]
        refine take_op 24 (v := ?sv24) rfl (by kernel_rfl) (fun _ _ _ h => h) (by rfl) hS5 (fun w' hS' => ?sy24) ?sz24
        case sy24 =>
          go_simp
          rfl
        simp only [List.setIfInBounds_toArray, List.set_cons_zero, List.set_cons_succ]
        refine step_op 25 (by kernel_rfl) rfl (fun K hK => ?_)
        have q4 := q7.kept hS5 ne7
        have o2 := q4.cell (i := 2) rfl
        have fo2 := q4.frozen 2
        rw [if_pos (by rfl)]
        go_simp
        refine hK.out _ _ (fun h => absurd h (by omega)) ?_
        clear hK K
        try simp only [Act.put, List.setIfInBounds_toArray, List.set_cons_zero, List.set_cons_succ]
        refine done_ops (by kernel_rfl) ?_
        have hnr := q4.not_row (by decide) hown'
        have rown := row_setCell hown' (a := ⟨bk7, 2, none⟩) hnr (.slice va (k + 1) vc)
        rw [htk.out] at rown
        have kset := q4.set 2 (.slice va (k + 1) vc)
        have hbb := (hb.grown hS5 hb.size (fun j e => (rowk.lt j e).1)).setCell (p := ⟨bk7, 2, none⟩) hb7 (.slice va (k + 1) vc)
        go_wp2_with fail
        go_roundw
        case rel => exact ⟨k + 1, .slice va (k + 1) vc, by omega, by go_num, by simpa using kset, rown, hbb⟩
        case measure => simp [intOf]; omega
      case neg =>
        have hzd : decide ((0 : Int) < (zn : Int)) = false := decide_eq_false (by omega)
        have hzd2 : ¬ ((0 : Int) < (zn : Int)) := by omega
        obtain ⟨cz, hcz0⟩ : ∃ u : Nat, u = 0 := ⟨0, rfl⟩
        have hcz : chsN zs k = cz := by
          have : zs = [] := List.eq_nil_of_length_eq_zero (by rw [hznH.out]; omega)
          subst this; rw [hcz0]; rfl
        have hT : ((0 : Nat) : Int).tmod (y - x + 1) = 0 := by simp
        rw [← hcz0] at hT
        obtain ⟨T, hT0⟩ : ∃ T : Int, T = 0 := ⟨_, rfl⟩
        rw [← hT0] at hT
        have hcv : (betL xs ys zs)[k]?.getD 0 = x + T := by rw [betL_at (by rw [hn.out]; exact hlt), hx, hy]; unfold betV; rw [hcz, hT]
        have htk := Lib.hid (take_map_i (by rw [betL_length, hn.out]; exact hlt) hcv)
        have hTb := betV_in (a := x) (b := y) (by omega) cz
        unfold betV at hTb
        rw [hT] at hTb
        clear hcv hx hy hcz
        subst hcz0
        have hTH := Lib.hid hT
        clear hT hT0
        go_wp2_with fail
        have hT := hTH.out
        simp only [Int.ofNat_zero, Int.cast_ofNat_Int] at hT
        refine plain_region (fun W' => wr.grownBy W' v.ownBlock) 25 26 (by kernel_rfl) rfl ?_
        simp only [Array.replicate_succ, Array.replicate_zero, List.push_toArray, List.nil_append, List.cons_append]
        refine take_op 0 (v := ?tv0) rfl (by kernel_rfl) (fun _ _ _ h => h) (by rfl) hS (fun w' hS' => ?ty0) ?tz0
        case ty0 =>
          go_simp
          rfl
        simp only [List.setIfInBounds_toArray, List.set_cons_zero, List.set_cons_succ]
        refine take_op 1 (v := ?tv1) rfl (by kernel_rfl) (fun _ _ _ h => h) (by rfl) hS (fun w' hS' => ?ty1) ?tz1
        case ty1 =>
          have fa2 := (j3.below (hgb _ hS') l3).cell (i := 2) rfl
          have fb2 := (j4.below (hgb _ hS') l4).cell (i := 2) rfl
          have fz2 := (q7.kept hS' ne7).cell (i := 2) rfl
          have fa3 := ((hgb _ hS').cell (p := ⟨b1, o1 + k, none⟩) hb1).trans g1
          have fb3 := ((hgb _ hS').cell (p := ⟨b2, o2 + k, none⟩) hb2).trans g2
          clear hS'
          go_simp
          rfl
        simp only [List.setIfInBounds_toArray, List.set_cons_zero, List.set_cons_succ]
        refine take_op 2 (v := ?tv2) rfl (by kernel_rfl) (fun _ _ _ h => h) (by rfl) hS (fun w' hS' => ?ty2) ?tz2
        case ty2 =>
          go_simp
          rfl
        simp only [List.setIfInBounds_toArray, List.set_cons_zero, List.set_cons_succ]
        refine take_op 3 (v := ?tv3) rfl (by kernel_rfl) (fun _ _ _ h => h) (by rfl) hS (fun w' hS' => ?ty3) ?tz3
        case ty3 =>
          have fa2 := (j3.below (hgb _ hS') l3).cell (i := 2) rfl
          have fb2 := (j4.below (hgb _ hS') l4).cell (i := 2) rfl
          have fz2 := (q7.kept hS' ne7).cell (i := 2) rfl
          have fa3 := ((hgb _ hS').cell (p := ⟨b1, o1 + k, none⟩) hb1).trans g1
          have fb3 := ((hgb _ hS').cell (p := ⟨b2, o2 + k, none⟩) hb2).trans g2
          clear hS'
          go_simp
          rfl
        simp only [List.setIfInBounds_toArray, List.set_cons_zero, List.set_cons_succ]
        refine take_op 4 (v := ?tv4) rfl (by kernel_rfl) (fun _ _ _ h => h) (by rfl) hS (fun w' hS' => ?ty4) ?tz4
        case ty4 =>
          go_simp
          rfl
        simp only [List.setIfInBounds_toArray, List.set_cons_zero, List.set_cons_succ]
        refine take_op 5 (v := ?tv5) rfl (by kernel_rfl) (fun _ _ _ h => h) (by rfl) hS (fun w' hS' => ?ty5) ?tz5
        case ty5 =>
          go_simp
          try go_ints
          first
          | rfl
          | (rw [if_pos (by omega)]; done)
          | rw [if_pos ⟨by omega, by omega⟩]
        simp only [List.setIfInBounds_toArray, List.set_cons_zero, List.set_cons_succ]
        refine take_op 6 (v := ?tv6) rfl (by kernel_rfl) (fun _ _ _ h => h) (by rfl) hS (fun w' hS' => ?ty6) ?tz6
        case ty6 =>
          have fa2 := (j3.below (hgb _ hS') l3).cell (i := 2) rfl
          have fb2 := (j4.below (hgb _ hS') l4).cell (i := 2) rfl
          have fz2 := (q7.kept hS' ne7).cell (i := 2) rfl
          have fa3 := ((hgb _ hS').cell (p := ⟨b1, o1 + k, none⟩) hb1).trans g1
          have fb3 := ((hgb _ hS').cell (p := ⟨b2, o2 + k, none⟩) hb2).trans g2
          clear hS'
          go_simp
          rfl
        simp only [List.setIfInBounds_toArray, List.set_cons_zero, List.set_cons_succ]
        refine take_op 7 (v := ?tv7) rfl (by kernel_rfl) (fun _ _ _ h => h) (by rfl) hS (fun w' hS' => ?ty7) ?tz7
        case ty7 =>
          go_simp
          rfl
        simp only [List.setIfInBounds_toArray, List.set_cons_zero, List.set_cons_succ]
        refine take_op 8 (v := ?tv8) rfl (by kernel_rfl) (fun _ _ _ h => h) (by rfl) hS (fun w' hS' => ?ty8) ?tz8
        case ty8 =>
          go_simp
          rfl
        simp only [List.setIfInBounds_toArray, List.set_cons_zero, List.set_cons_succ]
        refine take_op 9 (v := ?tv9) rfl (by kernel_rfl) (fun _ _ _ h => h) (by rfl) hS (fun w' hS' => ?ty9) ?tz9
        case ty9 =>
          have fa2 := (j3.below (hgb _ hS') l3).cell (i := 2) rfl
          have fb2 := (j4.below (hgb _ hS') l4).cell (i := 2) rfl
          have fz2 := (q7.kept hS' ne7).cell (i := 2) rfl
          have fa3 := ((hgb _ hS').cell (p := ⟨b1, o1 + k, none⟩) hb1).trans g1
          have fb3 := ((hgb _ hS').cell (p := ⟨b2, o2 + k, none⟩) hb2).trans g2
          clear hS'
          go_simp
          rfl
        simp only [List.setIfInBounds_toArray, List.set_cons_zero, List.set_cons_succ]
        refine take_op 10 (v := ?tv10) rfl (by kernel_rfl) (fun _ _ _ h => h) (by rfl) hS (fun w' hS' => ?ty10) ?tz10
        case ty10 =>
          go_simp
          rfl
        simp only [List.setIfInBounds_toArray, List.set_cons_zero, List.set_cons_succ]
        refine take_op 11 (v := ?tv11) rfl (by kernel_rfl) (fun _ _ _ h => h) (by rfl) hS (fun w' hS' => ?ty11) ?tz11
        case ty11 =>
          go_simp
          try go_ints
          first
          | rfl
          | (rw [if_pos (by omega)]; done)
          | rw [if_pos ⟨by omega, by omega⟩]
        simp only [List.setIfInBounds_toArray, List.set_cons_zero, List.set_cons_succ]
        refine take_op 12 (v := ?tv12) rfl (by kernel_rfl) (fun _ _ _ h => h) (by rfl) hS (fun w' hS' => ?ty12) ?tz12
        case ty12 =>
          have fa2 := (j3.below (hgb _ hS') l3).cell (i := 2) rfl
          have fb2 := (j4.below (hgb _ hS') l4).cell (i := 2) rfl
          have fz2 := (q7.kept hS' ne7).cell (i := 2) rfl
          have fa3 := ((hgb _ hS').cell (p := ⟨b1, o1 + k, none⟩) hb1).trans g1
          have fb3 := ((hgb _ hS').cell (p := ⟨b2, o2 + k, none⟩) hb2).trans g2
          clear hS'
          go_simp
          rfl
        simp only [List.setIfInBounds_toArray, List.set_cons_zero, List.set_cons_succ]
        refine take_op 13 (v := ?tv13) rfl (by kernel_rfl) (fun _ _ _ h => h) (by rfl) hS (fun w' hS' => ?ty13) ?tz13
        case ty13 =>
          go_simp
          rfl
        simp only [List.setIfInBounds_toArray, List.set_cons_zero, List.set_cons_succ]
        refine take_op 14 (v := ?tv14) rfl (by kernel_rfl) (fun _ _ _ h => h) (by rfl) hS (fun w' hS' => ?ty14) ?tz14
        case ty14 =>
          have fa2 := (j3.below (hgb _ hS') l3).cell (i := 2) rfl
          have fb2 := (j4.below (hgb _ hS') l4).cell (i := 2) rfl
          have fz2 := (q7.kept hS' ne7).cell (i := 2) rfl
          have fa3 := ((hgb _ hS').cell (p := ⟨b1, o1 + k, none⟩) hb1).trans g1
          have fb3 := ((hgb _ hS').cell (p := ⟨b2, o2 + k, none⟩) hb2).trans g2
          clear hS'
          go_simp
          rfl
        simp only [List.setIfInBounds_toArray, List.set_cons_zero, List.set_cons_succ]
        refine take_op 15 (v := ?tv15) rfl (by kernel_rfl) (fun _ _ _ h => h) (by rfl) hS (fun w' hS' => ?ty15) ?tz15
        case ty15 =>
          go_simp
          rfl
        simp only [List.setIfInBounds_toArray, List.set_cons_zero, List.set_cons_succ]
        refine take_op 16 (v := ?tv16) rfl (by kernel_rfl) (fun _ _ _ h => h) (by rfl) hS (fun w' hS' => ?ty16) ?tz16
        case ty16 =>
          go_simp
          try go_ints
          first
          | rfl
          | (rw [if_pos (by omega)]; done)
          | rw [if_pos ⟨by omega, by omega⟩]
        simp only [List.setIfInBounds_toArray, List.set_cons_zero, List.set_cons_succ]
        refine take_op 17 (v := ?tv17) rfl (by kernel_rfl) (fun _ _ _ h => h) (by rfl) hS (fun w' hS' => ?ty17) ?tz17
        case ty17 =>
          have fa2 := (j3.below (hgb _ hS') l3).cell (i := 2) rfl
          have fb2 := (j4.below (hgb _ hS') l4).cell (i := 2) rfl
          have fz2 := (q7.kept hS' ne7).cell (i := 2) rfl
          have fa3 := ((hgb _ hS').cell (p := ⟨b1, o1 + k, none⟩) hb1).trans g1
          have fb3 := ((hgb _ hS').cell (p := ⟨b2, o2 + k, none⟩) hb2).trans g2
          clear hS'
          go_simp
          rfl
        simp only [List.setIfInBounds_toArray, List.set_cons_zero, List.set_cons_succ]
        refine take_op 18 (v := ?tv18) rfl (by kernel_rfl) (fun _ _ _ h => h) (by rfl) hS (fun w' hS' => ?ty18) ?tz18
        case ty18 =>
          go_simp
          try go_ints
          rfl
        simp only [List.setIfInBounds_toArray, List.set_cons_zero, List.set_cons_succ]
        refine take_op 19 (v := ?tv19) rfl (by kernel_rfl) (fun _ _ _ h => h) (by rfl) hS (fun w' hS' => ?ty19) ?tz19
        case ty19 =>
          go_simp
          try go_ints
          rfl
        simp only [List.setIfInBounds_toArray, List.set_cons_zero, List.set_cons_succ]
        refine take_op 20 (v := .int .i64 T) rfl (by kernel_rfl) (fun _ _ _ h => h) (by rfl) hS (fun w' hS' => ?ty20) ?tz20
        case ty20 =>
          clear hS'
          go_simp
          try simp only [hT]
          try rfl
        simp only [List.setIfInBounds_toArray, List.set_cons_zero, List.set_cons_succ]
        refine take_op 21 (v := ?tv21) rfl (by kernel_rfl) (fun _ _ _ h => h) (by rfl) hS (fun w' hS' => ?ty21) ?tz21
        case ty21 =>
          go_simp
          try go_ints
          rfl
        simp only [List.setIfInBounds_toArray, List.set_cons_zero, List.set_cons_succ]
        refine step_op 22 (by kernel_rfl) rfl (fun K hK => ?_)
        obtain ⟨Vd, hVd⟩ : ∃ Vd, wr.drew = Vd := ⟨_, rfl⟩
        have rowD := row_drw rowk
        rw [hVd] at hS rowD ⊢
        have hBd : Below V3.heap.size V3 Vd := hVd ▸ hb.drew
        clear hVd
        rw [if_pos (by rfl)]
        go_simp
        have hS4 : wr.grownBy (Vd.alloc (.cells #[.int .i64 (x + T)] 3)) v.ownBlock := grown_trans hS (World.grownBy_alloc _ _ _)
        refine hK.out _ _ (fun h => hS4) ?_
        clear hK K
        try simp only [Act.put, List.setIfInBounds_toArray, List.set_cons_zero, List.set_cons_succ]
        refine step_op 23 (by kernel_rfl) rfl (fun K hK => ?_)
        refine step_append_own rfl (.tmp 34) (.tmp 55) 25 rfl V3.heap.size 3 i0 (.int .i64 0) 1 8 Tryz.underlying25 hi hz0 hz1 hz2 rfl (by decide) v k (((betL xs ys zs).take k).map (Value.int .i64)) rfl (rowD.alloc (.cells #[.int .i64 (x + T)] 3)) ⟨Vd.heap.size, 0, none⟩ 1 1 [.int .i64 (x + T)] rfl rfl (cell_one_new _ _ _) (by simp [Value.oneCell']) (by unfold maxLen; omega) (by omega) (by have := hBd.size; simp; omega) ?_
        intro v' w4 hown' hg4 hnil
        obtain ⟨va, vc, rfl⟩ := row_slice hown'
        have hS5 : wr.grownBy w4 v.ownBlock := grown_trans hS4 hg4
        refine hK.out _ _ (fun h => hS5) ?_
        clear hK K
        try simp only [Act.put, List.setIfInBounds_toArray, List.set_cons_zero, List.set_cons_succ]
        refine take_op 24 (v := ?tv24) rfl (by kernel_rfl) (fun _ _ _ h => h) (by rfl) hS5 (fun w' hS' => ?ty24) ?tz24
        case ty24 =>
          go_simp
          rfl
        simp only [List.setIfInBounds_toArray, List.set_cons_zero, List.set_cons_succ]
        refine step_op 25 (by kernel_rfl) rfl (fun K hK => ?_)
        have q4 := q7.kept hS5 ne7
        have o2 := q4.cell (i := 2) rfl
        have fo2 := q4.frozen 2
        rw [if_pos (by rfl)]
        go_simp
        refine hK.out _ _ (fun h => absurd h (by omega)) ?_
        clear hK K
        try simp only [Act.put, List.setIfInBounds_toArray, List.set_cons_zero, List.set_cons_succ]
        refine done_ops (by kernel_rfl) ?_
        have hnr := q4.not_row (by decide) hown'
        have rown := row_setCell hown' (a := ⟨bk7, 2, none⟩) hnr (.slice va (k + 1) vc)
        rw [htk.out] at rown
        have kset := q4.set 2 (.slice va (k + 1) vc)
        have hbb := (hb.grown hS5 hb.size (fun j e => (rowk.lt j e).1)).setCell (p := ⟨bk7, 2, none⟩) hb7 (.slice va (k + 1) vc)
        go_wp2_with fail
        go_roundw
        case rel => exact ⟨k + 1, .slice va (k + 1) vc, by omega, by go_num, by simpa using kset, rown, hbb⟩
        case measure => simp [intOf]; omega
    case neg =>
      have hkn : k = n := by omega
      subst hkn
      obtain ⟨sa, sc, rfl⟩ := row_slice rowk
      rw [List.take_of_length_le (by rw [betL_length, hn.out]; exact Nat.le_refl _)] at rowk
      have z0 := q7.cell (i := 0) rfl
      have z1 := q7.cell (i := 1) rfl
      have z2 := q7.cell (i := 2) rfl
      have q6 := j6.below hb l6
      have y0 := q6.cell (i := 0) rfl
      have y1 := q6.cell (i := 1) rfl
      have y2 := q6.cell (i := 2) rfl
      have f0 := q6.frozen 0
      have f1 := q6.frozen 1
      have f2 := q6.frozen 2
      have hbw := hBw.trans (hb.mono hBw.size)
      have kf := put3_blk q6 (.int .i64 iw) (.int .i64 ih) (.slice sa k sc)
      have hbf : Below w.heap.size w (put3 wr (V2.heap.size) (.int .i64 iw) (.int .i64 ih) (.slice sa k sc)) := hbw.trans (put3_below hle6 _ _ _)
      have rowf := row_put3 rowk (q6.not_row (by decide) rowk) (.int .i64 iw) (.int .i64 ih) (.slice sa k sc)
      have e0 := kf.cell (i := 0) rfl
      have e1 := kf.cell (i := 1) rfl
      have e2 := kf.cell (i := 2) rfl
      go_wp2_with fail
      exact bodyPost_ret (v := imv iw ih sa k sc) (by simp [results, Tryz.results20, go_sem, e0, e1, e2]) rfl ⟨⟨sa, sc, rfl, jrow_weaken rowf hBw.size⟩, hbf⟩
end Go.Proofs.YtbfigbpjoaccdaaGreat

/- The specification's sequential tests. -/
import Derived.Test.YtaejdgjfnoefjaaRl
import Derived.Test.YtaejdgjfnoefjaaTk
namespace Go.Proofs.Ytaejdgjfnoefjaa
open Go Go.RowKit Go.Shelf
set_option linter.unusedVariables false
set_option linter.unusedSimpArgs false

theorem LdR.one {W : World} {b : Nat} (h : Blk W b 3 #[.int .i64 1]) : LdR W (some ⟨b, 0, none⟩) [1] 1 where
  rd := .inr ⟨b, 0, rfl, h.lt, fun i hi => by
    have : i = 0 := by simp [ints] at hi; exact hi
    subst this
    exact h.cell rfl⟩
  words := fun y hy => by simp at hy; subst hy; decide
  val := by simp [valB]

/-- The number of a side after i rounds. -/
def sideV (f h i : Nat) : Nat := f ^ (min i h) * (256 - f) ^ (i - min i h)
theorem sideV_zero (f h : Nat) : sideV f h 0 = 1 := by simp [sideV]
theorem sideV_hit {f h i : Nat} (hi : i < h) : sideV f h (i + 1) = sideV f h i * f := by
  unfold sideV
  rw [Nat.min_eq_left (by omega), Nat.min_eq_left (by omega), Nat.sub_self, Nat.sub_self, Nat.pow_zero, Nat.mul_one, Nat.mul_one, Nat.pow_succ]
theorem sideV_miss {f h i : Nat} (hi : h ≤ i) : sideV f h (i + 1) = sideV f h i * (256 - f) := by
  unfold sideV
  rw [Nat.min_eq_right (by omega), Nat.min_eq_right (by omega), show i + 1 - h = (i - h) + 1 by omega, Nat.pow_succ, Nat.mul_assoc]
theorem sideV_all {f h r : Nat} (hh : h ≤ r) : sideV f h r = f ^ h * (256 - f) ^ (r - h) := by unfold sideV; rw [Nat.min_eq_right hh]

set_option maxRecDepth 100000 in
set_option maxHeartbeats 4000000 in
theorem rRaises_any (p q num den h r : Nat) (hp : p ≤ 256) (hq : q ≤ 256) (hn : num ≤ 1073741824) (hd : den ≤ 1073741824) (hh : h ≤ r) (hr : r ≤ 1000) (v : Bool) (hv : raiseB p q num den h (r - h) = v) (w : World) :
    Calls Try.prog 48 #[tsv p q num den, .int .i64 (h : Int), .int .i64 (r : Int)] w fun e w' => e = .returned (.bool v) ∧ Below w.heap.size w w' := by
  have k3 := ((Blk.new w 35 #[.int .i64 (p : Int), .int .i64 (q : Int), .int .i64 (num : Int), .int .i64 (den : Int)]).alloc (.cells #[.int .i64 1] 3)).alloc (.cells #[.int .i64 1] 3)
  have k4 := by simpa only [World.size_alloc] using (Blk.new (w.alloc (.cells #[.int .i64 (p : Int), .int .i64 (q : Int), .int .i64 (num : Int), .int .i64 (den : Int)] 35)) 3 #[.int .i64 1]).alloc (.cells #[.int .i64 1] 3)
  have k5 := by simpa only [World.size_alloc] using Blk.new ((w.alloc (.cells #[.int .i64 (p : Int), .int .i64 (q : Int), .int .i64 (num : Int), .int .i64 (den : Int)] 35)).alloc (.cells #[.int .i64 1] 3)) 3 #[.int .i64 1]
  have hB := jwd_al (jwd_al (jwd_al (Below.refl _ w) (.cells #[.int .i64 (p : Int), .int .i64 (q : Int), .int .i64 (num : Int), .int .i64 (den : Int)] 35)) (.cells #[.int .i64 1] 3)) (.cells #[.int .i64 1] 3)
  have hq2 : (256 : Int) - (q : Int) = ((256 - q : Nat) : Int) := by omega
  have hp2 : (256 : Int) - (p : Int) = ((256 - p : Nat) : Int) := by omega
  have hrel0 : ∃ (xs ys : List Nat), Hid (xs.length = 1) ∧ Hid (ys.length = 1) ∧ Hid (LdR (((w.alloc (.cells #[.int .i64 (p : Int), .int .i64 (q : Int), .int .i64 (num : Int), .int .i64 (den : Int)] 35)).alloc (.cells #[.int .i64 1] 3)).alloc (.cells #[.int .i64 1] 3)) (some ⟨w.heap.size + 1, 0, none⟩) xs (sideV q h 0)) ∧
      Hid (LdR (((w.alloc (.cells #[.int .i64 (p : Int), .int .i64 (q : Int), .int .i64 (num : Int), .int .i64 (den : Int)] 35)).alloc (.cells #[.int .i64 1] 3)).alloc (.cells #[.int .i64 1] 3)) (some ⟨w.heap.size + 1 + 1, 0, none⟩) ys (sideV p h 0)) :=
    ⟨[1], [1], Lib.hid rfl, Lib.hid rfl, Lib.hid (by rw [sideV_zero]; exact LdR.one k4), Lib.hid (by rw [sideV_zero]; exact LdR.one k5)⟩
  obtain ⟨q2, hqq⟩ : ∃ x, 256 - q = x := ⟨_, rfl⟩
  obtain ⟨p2, hpp⟩ : ∃ x, 256 - p = x := ⟨_, rfl⟩
  rw [hqq] at hq2
  rw [hpp] at hp2
  have hqqH := Lib.hid hqq
  have hppH := Lib.hid hpp
  have hvH := Lib.hid hv
  have hq2b : q2 ≤ 256 := by omega
  have hp2b : p2 ≤ 256 := by omega
  have hrel0H := Lib.hid hrel0
  clear hv hqq hpp k4 k5 hrel0
  go_enter Try.func48, Try.ntmps48
  go_wp2_with fail
  go_loopw [7, 8, 9] (fun x y i wr => ∃ (k : Nat) (xs ys : List Nat) (a a2 : Option Addr) (l l2 c c2 : Nat), k ≤ r ∧ i = .int .i64 (k : Int) ∧ x = .slice a l c ∧ y = .slice a2 l2 c2 ∧ Hid (xs.length = l) ∧ Hid (ys.length = l2) ∧ l ≤ k + 1 ∧ l2 ≤ k + 1 ∧ Hid (LdR wr a xs (sideV q h k)) ∧ Hid (LdR wr a2 ys (sideV p h k)) ∧ Blk wr w.heap.size 35 #[.int .i64 (p : Int), .int .i64 (q : Int), .int .i64 (num : Int), .int .i64 (den : Int)] ∧ Below w.heap.size w wr) (fun _ _ i _ => r - (intOf i).toNat)
  case atStart =>
    obtain ⟨xs, ys, h1, h2, h3, h4⟩ := hrel0H.out
    exact ⟨0, xs, ys, _, _, 1, 1, 1, 1, Nat.zero_le _, rfl, rfl, rfl, h1, h2, by omega, by omega, h3, h4, k3, hB⟩
  case round =>
    clear k3 hB hrel0H
    obtain ⟨k, xs, ys, a, a2, l, l2, c, c2, hk, rfl, rfl, rfl, hxl, hyl, hlk, hlk2, hX, hY, kt, hB⟩ := hrel
    have t0 := kt.cell (i := 0) rfl
    have t1 := kt.cell (i := 1) rfl
    by_cases hlt : k < r
    · by_cases hhit : k < h
      · have hs1 := Lib.hid (Scaled_any a c l xs (sideV q h k) q hxl.out (by omega) (by omega) wr hX.out)
        have hY2 := hY
        have hstep := Lib.hid (And.intro (sideV_hit (f := q) hhit) (sideV_hit (f := p) hhit))
        have tok1 : True := trivial
        go_wp2_with (first
          | (go_at_call 85; have _t := tok1; refine hs1.out.mono ?_; clear _t tok1; rintro e w2 ⟨zs, b, d, rfl, hZ, hzl, hb2⟩; have hY3 := hY.out.later hb2; have kt2 := kt.below hb2 kt.lt; have hB2 := hB.trans (hb2.mono hB.size); clear hb2 t0 t1; have t0 := kt2.cell (i := 0) rfl; have t1 := kt2.cell (i := 1) rfl; obtain ⟨m, hm⟩ : ∃ m, zs.length = m := ⟨_, rfl⟩; rw [hm] at hzl ⊢; have hmH := Lib.hid hm; clear hm)
          | (go_at_call 85; refine (Scaled_any a2 c2 l2 ys (sideV p h k) p hyl.out (by omega) (by omega) _ hY3).mono ?_; rintro e w3 ⟨us, b2, d2, rfl, hU, hul, hb3⟩; have hZ3 := hZ.later hb3; have kt3 := kt2.below hb3 kt2.lt; have hB3 := hB2.trans (hb3.mono hB2.size); clear hb3 t0 t1; obtain ⟨m2, hm2⟩ : ∃ m, us.length = m := ⟨_, rfl⟩; rw [hm2] at hul ⊢; have hm2H := Lib.hid hm2; clear hm2))
        go_roundw
        case rel => exact ⟨k + 1, zs, us, b, b2, m, m2, d, d2, by omega, by go_num, rfl, rfl, hmH, hm2H, by omega, by omega, Lib.hid (by rw [hstep.out.1]; exact hZ3), Lib.hid (by rw [hstep.out.2]; exact hU), kt3, hB3⟩
        case measure => simp [intOf]; omega
      · have hs1 := Lib.hid (Scaled_any a c l xs (sideV q h k) q2 hxl.out (by omega) (by omega) wr hX.out)
        have hstep := Lib.hid (And.intro (sideV_miss (f := q) (h := h) (i := k) (by omega)) (sideV_miss (f := p) (h := h) (i := k) (by omega)))
        have tok1 : True := trivial
        go_wp2_with (first
          | (go_at_call 85; have _t := tok1; refine hs1.out.mono ?_; clear _t tok1; rintro e w2 ⟨zs, b, d, rfl, hZ, hzl, hb2⟩; have hY3 := hY.out.later hb2; have kt2 := kt.below hb2 kt.lt; have hB2 := hB.trans (hb2.mono hB.size); clear hb2 t0 t1; have t0 := kt2.cell (i := 0) rfl; have t1 := kt2.cell (i := 1) rfl; obtain ⟨m, hm⟩ : ∃ m, zs.length = m := ⟨_, rfl⟩; rw [hm] at hzl ⊢; have hmH := Lib.hid hm; clear hm)
          | (go_at_call 85; refine (Scaled_any a2 c2 l2 ys (sideV p h k) p2 hyl.out (by omega) (by omega) _ hY3).mono ?_; rintro e w3 ⟨us, b2, d2, rfl, hU, hul, hb3⟩; have hZ3 := hZ.later hb3; have kt3 := kt2.below hb3 kt2.lt; have hB3 := hB2.trans (hb3.mono hB2.size); clear hb3 t0 t1; obtain ⟨m2, hm2⟩ : ∃ m, us.length = m := ⟨_, rfl⟩; rw [hm2] at hul ⊢; have hm2H := Lib.hid hm2; clear hm2))
        go_roundw
        case rel => exact ⟨k + 1, zs, us, b, b2, m, m2, d, d2, by omega, by go_num, rfl, rfl, hmH, hm2H, by omega, by omega, Lib.hid (by rw [hstep.out.1, hqqH.out]; exact hZ3), Lib.hid (by rw [hstep.out.2, hppH.out]; exact hU), kt3, hB3⟩
        case measure => simp [intOf]; omega
    · have hkr : k = r := by omega
      subst hkr
      have hvs : decide (sideV p h k * den ≤ sideV q h k * num) = v := by
        rw [← hvH.out, sideV_all hh, sideV_all hh]
        unfold raiseB
        rw [Nat.mul_comm _ den, Nat.mul_comm _ num, Nat.mul_assoc, Nat.mul_assoc]
      have hvsH := Lib.hid hvs
      have hS := (Below.refl wr.heap.size wr).drew
      have kt0 := kt
      have hs1 := Lib.hid (fun (W : World) (hb : Below wr.heap.size wr W) => Scaled_any a2 c2 l2 ys (sideV p h k) den hyl.out (by omega) hd W (hY.out.later hb))
      have hs2 := Lib.hid (fun (W : World) (hb : Below wr.heap.size wr W) => Scaled_any a c l xs (sideV q h k) num hxl.out (by omega) hn W (hX.out.later hb))
      clear hvs t0 t1 hX hY
      go_wp2_with fail
      refine plain_region (fun W' => Below wr.heap.size wr W') 12 12 (by kernel_rfl) rfl ?_
      simp only [Array.replicate_succ, Array.replicate_zero, List.push_toArray, List.nil_append, List.cons_append]
      refine take_op 0 (v := ?rv0) rfl (by kernel_rfl) (fun _ _ _ h => h) (by rfl) hS (fun w' hS' => ?ry0) ?rz0
      case ry0 =>
        go_simp
        rfl
      simp only [List.setIfInBounds_toArray, List.set_cons_zero, List.set_cons_succ]
      refine take_op 1 (v := ?rv1) rfl (by kernel_rfl) (fun _ _ _ h => h) (by rfl) hS (fun w' hS' => ?ry1) ?rz1
      case ry1 =>
        go_simp
        rfl
      simp only [List.setIfInBounds_toArray, List.set_cons_zero, List.set_cons_succ]
      refine take_op 2 (v := ?rv2) rfl (by kernel_rfl) (fun _ _ _ h => h) (by rfl) hS (fun w' hS' => ?ry2) ?rz2
      case ry2 =>
        go_simp
        rfl
      simp only [List.setIfInBounds_toArray, List.set_cons_zero, List.set_cons_succ]
      refine take_op 3 (v := ?rv3) rfl (by kernel_rfl) (fun _ _ _ h => h) (by rfl) hS (fun w' hS' => ?ry3) ?rz3
      case ry3 =>
        have z0 := (kt0.below hS' kt0.lt).cell (i := 0) rfl
        have z1 := (kt0.below hS' kt0.lt).cell (i := 1) rfl
        have z2 := (kt0.below hS' kt0.lt).cell (i := 2) rfl
        have z3 := (kt0.below hS' kt0.lt).cell (i := 3) rfl
        clear hS'
        go_simp
        rfl
      simp only [List.setIfInBounds_toArray, List.set_cons_zero, List.set_cons_succ]
      refine take_op 5 (v := ?rv5) rfl (by kernel_rfl) (fun _ _ _ h => h) (by rfl) hS (fun w' hS' => ?ry5) ?rz5
      case ry5 =>
        go_simp
        rfl
      simp only [List.setIfInBounds_toArray, List.set_cons_zero, List.set_cons_succ]
      refine take_op 6 (v := ?rv6) rfl (by kernel_rfl) (fun _ _ _ h => h) (by rfl) hS (fun w' hS' => ?ry6) ?rz6
      case ry6 =>
        go_simp
        rfl
      simp only [List.setIfInBounds_toArray, List.set_cons_zero, List.set_cons_succ]
      refine take_op 7 (v := ?rv7) rfl (by kernel_rfl) (fun _ _ _ h => h) (by rfl) hS (fun w' hS' => ?ry7) ?rz7
      case ry7 =>
        go_simp
        rfl
      simp only [List.setIfInBounds_toArray, List.set_cons_zero, List.set_cons_succ]
      refine take_op 8 (v := ?rv8) rfl (by kernel_rfl) (fun _ _ _ h => h) (by rfl) hS (fun w' hS' => ?ry8) ?rz8
      case ry8 =>
        have z0 := (kt0.below hS' kt0.lt).cell (i := 0) rfl
        have z1 := (kt0.below hS' kt0.lt).cell (i := 1) rfl
        have z2 := (kt0.below hS' kt0.lt).cell (i := 2) rfl
        have z3 := (kt0.below hS' kt0.lt).cell (i := 3) rfl
        clear hS'
        go_simp
        rfl
      simp only [List.setIfInBounds_toArray, List.set_cons_zero, List.set_cons_succ]
      refine step_op 4 (by kernel_rfl) rfl (fun K hK => ?_)
      rw [if_pos (by rfl)]
      go_simp
      refine (hs1.out _ hS).mono ?_
      rintro e W2 ⟨zs, b, d, rfl, hZ, hzl, hb2⟩
      have hS2 := hS.trans (hb2.mono hS.size)
      obtain ⟨m, hm⟩ : ∃ m, zs.length = m := ⟨_, rfl⟩
      rw [hm] at hzl ⊢
      have hmH := Lib.hid hm
      clear hm hb2
      refine hK.out _ _ (fun h => hS2) ?_
      clear hK K
      try simp only [Act.put, List.setIfInBounds_toArray, List.set_cons_zero, List.set_cons_succ]
      refine step_op 9 (by kernel_rfl) rfl (fun K hK => ?_)
      rw [if_pos (by rfl)]
      go_simp
      refine (hs2.out _ hS2).mono ?_
      rintro e W3 ⟨us, b2, d2, rfl, hU, hul, hb3⟩
      have hS3 := hS2.trans (hb3.mono hS2.size)
      have hZ3 := hZ.later hb3
      obtain ⟨m2, hm2⟩ : ∃ m, us.length = m := ⟨_, rfl⟩
      rw [hm2] at hul ⊢
      have hm2H := Lib.hid hm2
      clear hm2 hb3
      refine hK.out _ _ (fun h => hS3) ?_
      clear hK K
      try simp only [Act.put, List.setIfInBounds_toArray, List.set_cons_zero, List.set_cons_succ]
      refine step_op 10 (by kernel_rfl) rfl (fun K hK => ?_)
      rw [if_pos (by rfl)]
      go_simp
      refine (Least_any b b2 d d2 m m2 zs us _ _ v hvsH.out hmH.out hm2H.out (by omega) (by omega) _ hZ3 hU).mono ?_
      rintro e W4 ⟨rfl, rfl⟩
      refine hK.out _ _ (fun h => hS3) ?_
      clear hK K
      try simp only [Act.put, List.setIfInBounds_toArray, List.set_cons_zero, List.set_cons_succ]
      refine take_op 11 (v := ?rv11) rfl (by kernel_rfl) (fun _ _ _ h => h) (by rfl) hS3 (fun w' hS' => ?ry11) ?rz11
      case ry11 =>
        go_simp
        rfl
      simp only [List.setIfInBounds_toArray, List.set_cons_zero, List.set_cons_succ]
      refine done_ops (by kernel_rfl) ?_
      go_wp2_with fail
      go_ret
      exact ⟨rfl, hB.trans (hS3.mono hB.size)⟩

set_option maxRecDepth 100000 in
set_option maxHeartbeats 2000000 in
theorem rValidTest_any (p q num den : Int) (hn : (Lit.int .i64 num).wf = true) (hd : (Lit.int .i64 den).wf = true) (v : Bool) (hv : testB p q num den = v) (w : World) :
    Calls Try.prog 46 #[tsv p q num den] w fun e w' => e = .returned (.bool v) ∧ Below w.heap.size w w' := by
  have k1 := Blk.new w 35 #[.int .i64 p, .int .i64 q, .int .i64 num, .int .i64 den]
  have hB := jwd_al (Below.refl _ w) (.cells #[.int .i64 p, .int .i64 q, .int .i64 num, .int .i64 den] 35)
  by_cases hp5 : p < 1
  · have hvf : v = false := by rw [← hv]; exact testB_no (.inl (by omega))
    subst hvf
    clear hv hn hd
    go_enter Try.func46, Try.ntmps46
    go_wp2_with fail
    go_ret
    exact ⟨rfl, hB⟩
  by_cases hq5 : q ≤ p
  · have hvf : v = false := by rw [← hv]; exact testB_no (.inl (by omega))
    subst hvf
    clear hv hn hd
    go_enter Try.func46, Try.ntmps46
    go_wp2_with fail
    go_ret
    exact ⟨rfl, hB⟩
  by_cases h27 : 255 < q
  · have hvf : v = false := by rw [← hv]; exact testB_no (.inl (by omega))
    subst hvf
    clear hv hn hd
    go_enter Try.func46, Try.ntmps46
    go_wp2_with fail
    go_ret
    exact ⟨rfl, hB⟩
  rw [testB_yes (by omega) (by omega) (by omega)] at hv
  have hlc := fun W => rLimit_any num den hn hd W
  rw [hv] at hlc
  have hlcH := Lib.hid hlc
  clear hv hlc hn hd
  go_enter Try.func46, Try.ntmps46
  go_wp2_with (go_at_call 62; refine (hlcH.out _).mono ?_; rintro e W2 ⟨rfl, hb2⟩; have hB2 := hB.trans (hb2.mono hB.size))
  go_ret
  exact ⟨rfl, hB2⟩

set_option maxHeartbeats 1000000 in
theorem rCheckTest_any (p q num den : Int) (hn : (Lit.int .i64 num).wf = true) (hd : (Lit.int .i64 den).wf = true) (v : Bool) (hv : testB p q num den = v) (w : World) :
    Calls Try.prog 16 #[tsv p q num den] w fun e w' => e = .returned (.int .i64 (if v = true then 0 else 81)) ∧ Below w.heap.size w w' := by
  have hB := jwd_al (Below.refl _ w) (.cells #[.int .i64 p, .int .i64 q, .int .i64 num, .int .i64 den] 35)
  have hc := Lib.hid (fun W => rValidTest_any p q num den hn hd v hv W)
  clear hv hn hd
  cases v with
  | true =>
    go_enter Try.func16, Try.ntmps16
    go_wp2_with (go_at_call 46; refine (hc.out _).mono ?_; rintro e W2 ⟨rfl, hb2⟩; have hB2 := hB.trans (hb2.mono hB.size))
    go_ret
    exact ⟨rfl, hB2⟩
  | false =>
    go_enter Try.func16, Try.ntmps16
    go_wp2_with (go_at_call 46; refine (hc.out _).mono ?_; rintro e W2 ⟨rfl, hb2⟩; have hB2 := hB.trans (hb2.mono hB.size))
    go_ret
    exact ⟨rfl, hB2⟩

set_option maxHeartbeats 1000000 in
theorem rValidDrift_any (h r : Int) (a v : Bool) (hv : decide (0 ≤ h ∧ h ≤ r ∧ r ≤ 500) = v) (w : World) :
    Calls Try.prog 47 #[drv h r a] w fun e w' => e = .returned (.bool v) ∧ Below w.heap.size w w' := by
  have hB := jwd_al (Below.refl _ w) (.cells #[.int .i64 h, .int .i64 r, .bool a] 37)
  by_cases hh5 : h < 0
  · have hvf : v = false := by rw [← hv]; simp only [decide_eq_false_iff_not]; omega
    subst hvf
    clear hv
    go_enter Try.func47, Try.ntmps47
    go_wp2_with fail
    go_ret
    exact ⟨ret_b (by first | rfl | (simp; done) | (simp; omega)), hB⟩
  by_cases hr5 : r < h
  · have hvf : v = false := by rw [← hv]; simp only [decide_eq_false_iff_not]; omega
    subst hvf
    clear hv
    go_enter Try.func47, Try.ntmps47
    go_wp2_with fail
    go_ret
    exact ⟨ret_b (by first | rfl | (simp; done) | (simp; omega)), hB⟩
  by_cases h57 : 500 < r
  · have hvf : v = false := by rw [← hv]; simp only [decide_eq_false_iff_not]; omega
    subst hvf
    clear hv
    go_enter Try.func47, Try.ntmps47
    go_wp2_with fail
    go_ret
    exact ⟨ret_b (by first | rfl | (simp; done) | (simp; omega)), hB⟩
  have hvt : v = true := by rw [← hv]; simp only [decide_eq_true_eq]; omega
  subst hvt
  clear hv
  go_enter Try.func47, Try.ntmps47
  go_wp2_with fail
  go_ret
  exact ⟨ret_b (by first | rfl | (simp; done) | (simp; omega)), hB⟩

theorem drift_same (h r : Int) : (0 ≤ h ∧ h ≤ r ∧ r ≤ 500) ↔ ((0 ≤ r ∧ r ≤ 500) ∧ 0 ≤ h ∧ h ≤ r) := by omega

set_option maxRecDepth 100000 in
set_option maxHeartbeats 4000000 in
theorem rTake_any (p q num den h r : Int) (al hit : Bool) (hn : (Lit.int .i64 num).wf = true) (hd : (Lit.int .i64 den).wf = true) (w : World) :
    Calls Try.prog 14 #[tsv p q num den, drv h r al, .bool hit] w fun e w' => e = .returned (tkv (takeS p q num den h r al hit)) ∧ Below w.heap.size w w' := by
  have k3 := ((Blk.new w 35 #[.int .i64 p, .int .i64 q, .int .i64 num, .int .i64 den]).alloc (.cells #[.int .i64 h, .int .i64 r, .bool al] 37)).alloc (.cells #[.int .i64 0, .int .i64 0, .bool false] 37)
  have k4 := by simpa only [World.size_alloc] using (Blk.new (w.alloc (.cells #[.int .i64 p, .int .i64 q, .int .i64 num, .int .i64 den] 35)) 37 #[.int .i64 h, .int .i64 r, .bool al]).alloc (.cells #[.int .i64 0, .int .i64 0, .bool false] 37)
  have k6 := by simpa only [World.size_alloc] using Blk.new ((w.alloc (.cells #[.int .i64 p, .int .i64 q, .int .i64 num, .int .i64 den] 35)).alloc (.cells #[.int .i64 h, .int .i64 r, .bool al] 37)) 37 #[.int .i64 0, .int .i64 0, .bool false]
  have hB := jwd_al (jwd_al (jwd_al (Below.refl _ w) (.cells #[.int .i64 p, .int .i64 q, .int .i64 num, .int .i64 den] 35)) (.cells #[.int .i64 h, .int .i64 r, .bool al] 37)) (.cells #[.int .i64 0, .int .i64 0, .bool false] 37)
  obtain ⟨W1, hW1⟩ : ∃ W, ((w.alloc (.cells #[.int .i64 p, .int .i64 q, .int .i64 num, .int .i64 den] 35)).alloc (.cells #[.int .i64 h, .int .i64 r, .bool al] 37)).alloc (.cells #[.int .i64 0, .int .i64 0, .bool false] 37) = W := ⟨_, rfl⟩
  rw [hW1] at k3 k4 k6 hB
  have hWH := Lib.hid hW1
  have c30 := k3.cell (i := 0) rfl
  have c31 := k3.cell (i := 1) rfl
  have c32 := k3.cell (i := 2) rfl
  have c33 := k3.cell (i := 3) rfl
  obtain ⟨v, hv⟩ : ∃ v, testB p q num den = v := ⟨_, rfl⟩
  have hct := fun W => rValidTest_any p q num den hn hd v hv W
  have hctH := Lib.hid hct
  have hvH := Lib.hid hv
  clear hW1 hct hv hn hd
  cases v with
  | false =>
    have hres : takeS p q num den h r al hit = ((0, 0, false), 81) := by unfold takeS; rw [hvH.out]; rfl
    rw [hres]
    clear hres
    go_enter Try.func14, Try.ntmps14
    go_wp2_with (go_at_call 46; rw [hWH.out]; refine (hctH.out _).mono ?_; rintro e W2 ⟨rfl, hb2⟩; have hB2 := hB.trans (hb2.mono hB.size); have l3 := k3.below hb2 k3.lt; have l4 := k4.below hb2 k4.lt; have l6 := k6.below hb2 k6.lt; clear c30 c31 c32 c33 hb2; have c30 := l3.cell (i := 0) rfl; have c31 := l3.cell (i := 1) rfl; have c32 := l3.cell (i := 2) rfl; have c33 := l3.cell (i := 3) rfl; have c40 := l4.cell (i := 0) rfl; have c41 := l4.cell (i := 1) rfl; have c42 := l4.cell (i := 2) rfl; have c60 := l6.cell (i := 0) rfl; have c61 := l6.cell (i := 1) rfl; have c62 := l6.cell (i := 2) rfl; have f60 := l6.frozen 0; have f61 := l6.frozen 1; have f62 := l6.frozen 2; have f40 := l4.frozen 0; have f41 := l4.frozen 1; have f42 := l4.frozen 2)
    have K := (((l6).set 0 (.int .i64 0)).set 1 (.int .i64 0)).set 2 (.bool false)
    have L := (((hB2).setCell (p := ⟨w.heap.size + 1 + 1, 0, none⟩) (by simp <;> omega) (.int .i64 0)).setCell (p := ⟨w.heap.size + 1 + 1, 1, none⟩) (by simp <;> omega) (.int .i64 0)).setCell (p := ⟨w.heap.size + 1 + 1, 2, none⟩) (by simp <;> omega) (.bool false)
    clear c30 c31 c32 c33 c40 c41 c42 c60 c61 c62 f60 f61 f62 f40 f41 f42
    revert K L
    generalize (((W2).setCell ⟨w.heap.size + 1 + 1, 0, none⟩ (.int .i64 0)).setCell ⟨w.heap.size + 1 + 1, 1, none⟩ (.int .i64 0)).setCell ⟨w.heap.size + 1 + 1, 2, none⟩ (.bool false) = Vf
    intro K L
    have g0 := K.cell (i := 0) (v := (.int .i64 0)) (by simp)
    have g1 := K.cell (i := 1) (v := (.int .i64 0)) (by simp)
    have g2 := K.cell (i := 2) (v := (.bool false)) (by simp)
    exact bodyPost_ret (v := tkv ((0, 0, false), 81)) (by simp [results, Try.results14, go_sem, g0, g1, g2]) rfl ⟨by simp, L⟩
  | true =>
    by_cases hr5 : 0 ≤ h ∧ h ≤ r ∧ r ≤ 500
    case neg =>
      have hres : takeS p q num den h r al hit = ((0, 0, false), 2) := by unfold takeS; rw [hvH.out, if_neg (by decide), if_pos (by rw [← drift_same]; exact hr5)]
      rw [hres]
      clear hres
      have hw1 := Lib.hid (fun W => rValidDrift_any h r al false (by simp only [decide_eq_false_iff_not]; exact hr5) W)
      clear hr5
      go_enter Try.func14, Try.ntmps14
      go_wp2_with (first
        | (go_at_call 46; rw [hWH.out]; refine (hctH.out _).mono ?_; rintro e W2 ⟨rfl, hb2⟩; have hB2 := hB.trans (hb2.mono hB.size); have l3 := k3.below hb2 k3.lt; have l4 := k4.below hb2 k4.lt; have l6 := k6.below hb2 k6.lt; clear c30 c31 c32 c33 hb2; have c30 := l3.cell (i := 0) rfl; have c31 := l3.cell (i := 1) rfl; have c32 := l3.cell (i := 2) rfl; have c33 := l3.cell (i := 3) rfl; have c40 := l4.cell (i := 0) rfl; have c41 := l4.cell (i := 1) rfl; have c42 := l4.cell (i := 2) rfl; have c60 := l6.cell (i := 0) rfl; have c61 := l6.cell (i := 1) rfl; have c62 := l6.cell (i := 2) rfl; have f60 := l6.frozen 0; have f61 := l6.frozen 1; have f62 := l6.frozen 2; have f40 := l4.frozen 0; have f41 := l4.frozen 1; have f42 := l4.frozen 2)
        | (go_at_call 47; refine (hw1.out _).mono ?_; rintro e W5 ⟨rfl, hb5⟩; clear c30 c31 c32 c33 c40 c41 c42 c60 c61 c62 f60 f61 f62 f40 f41 f42; replace hB2 := hB2.trans (hb5.mono hB2.size); replace l3 := l3.below hb5 l3.lt; replace l4 := l4.below hb5 l4.lt; replace l6 := l6.below hb5 l6.lt; clear hb5; have c30 := l3.cell (i := 0) rfl; have c31 := l3.cell (i := 1) rfl; have c32 := l3.cell (i := 2) rfl; have c33 := l3.cell (i := 3) rfl; have c40 := l4.cell (i := 0) rfl; have c41 := l4.cell (i := 1) rfl; have c42 := l4.cell (i := 2) rfl; have c60 := l6.cell (i := 0) rfl; have c61 := l6.cell (i := 1) rfl; have c62 := l6.cell (i := 2) rfl; have f60 := l6.frozen 0; have f61 := l6.frozen 1; have f62 := l6.frozen 2; have f40 := l4.frozen 0; have f41 := l4.frozen 1; have f42 := l4.frozen 2))
      have K := (((l6).set 0 (.int .i64 0)).set 1 (.int .i64 0)).set 2 (.bool false)
      have L := (((hB2).setCell (p := ⟨w.heap.size + 1 + 1, 0, none⟩) (by simp <;> omega) (.int .i64 0)).setCell (p := ⟨w.heap.size + 1 + 1, 1, none⟩) (by simp <;> omega) (.int .i64 0)).setCell (p := ⟨w.heap.size + 1 + 1, 2, none⟩) (by simp <;> omega) (.bool false)
      clear c30 c31 c32 c33 c40 c41 c42 c60 c61 c62 f60 f61 f62 f40 f41 f42
      revert K L
      generalize (((W5).setCell ⟨w.heap.size + 1 + 1, 0, none⟩ (.int .i64 0)).setCell ⟨w.heap.size + 1 + 1, 1, none⟩ (.int .i64 0)).setCell ⟨w.heap.size + 1 + 1, 2, none⟩ (.bool false) = Vf
      intro K L
      have g0 := K.cell (i := 0) (v := (.int .i64 0)) (by simp)
      have g1 := K.cell (i := 1) (v := (.int .i64 0)) (by simp)
      have g2 := K.cell (i := 2) (v := (.bool false)) (by simp)
      exact bodyPost_ret (v := tkv ((0, 0, false), 2)) (by simp [results, Try.results14, go_sem, g0, g1, g2]) rfl ⟨by simp, L⟩
    have hw1 := Lib.hid (fun W => rValidDrift_any h r al true (by simp only [decide_eq_true_eq]; exact hr5) W)
    by_cases hrm : r = 500
    · have hres : takeS p q num den h r al hit = ((0, 0, false), 9) := by unfold takeS; rw [hvH.out, if_neg (by decide), if_neg (by rw [← drift_same]; omega), if_pos hrm]
      rw [hres]
      subst hrm
      clear hres hr5
      go_enter Try.func14, Try.ntmps14
      go_wp2_with (first
        | (go_at_call 46; rw [hWH.out]; refine (hctH.out _).mono ?_; rintro e W2 ⟨rfl, hb2⟩; have hB2 := hB.trans (hb2.mono hB.size); have l3 := k3.below hb2 k3.lt; have l4 := k4.below hb2 k4.lt; have l6 := k6.below hb2 k6.lt; clear c30 c31 c32 c33 hb2; have c30 := l3.cell (i := 0) rfl; have c31 := l3.cell (i := 1) rfl; have c32 := l3.cell (i := 2) rfl; have c33 := l3.cell (i := 3) rfl; have c40 := l4.cell (i := 0) rfl; have c41 := l4.cell (i := 1) rfl; have c42 := l4.cell (i := 2) rfl; have c60 := l6.cell (i := 0) rfl; have c61 := l6.cell (i := 1) rfl; have c62 := l6.cell (i := 2) rfl; have f60 := l6.frozen 0; have f61 := l6.frozen 1; have f62 := l6.frozen 2; have f40 := l4.frozen 0; have f41 := l4.frozen 1; have f42 := l4.frozen 2)
        | (go_at_call 47; refine (hw1.out _).mono ?_; rintro e W5 ⟨rfl, hb5⟩; clear c30 c31 c32 c33 c40 c41 c42 c60 c61 c62 f60 f61 f62 f40 f41 f42; replace hB2 := hB2.trans (hb5.mono hB2.size); replace l3 := l3.below hb5 l3.lt; replace l4 := l4.below hb5 l4.lt; replace l6 := l6.below hb5 l6.lt; clear hb5; have c30 := l3.cell (i := 0) rfl; have c31 := l3.cell (i := 1) rfl; have c32 := l3.cell (i := 2) rfl; have c33 := l3.cell (i := 3) rfl; have c40 := l4.cell (i := 0) rfl; have c41 := l4.cell (i := 1) rfl; have c42 := l4.cell (i := 2) rfl; have c60 := l6.cell (i := 0) rfl; have c61 := l6.cell (i := 1) rfl; have c62 := l6.cell (i := 2) rfl; have f60 := l6.frozen 0; have f61 := l6.frozen 1; have f62 := l6.frozen 2; have f40 := l4.frozen 0; have f41 := l4.frozen 1; have f42 := l4.frozen 2))
      have K := (((l6).set 0 (.int .i64 0)).set 1 (.int .i64 0)).set 2 (.bool false)
      have L := (((hB2).setCell (p := ⟨w.heap.size + 1 + 1, 0, none⟩) (by simp <;> omega) (.int .i64 0)).setCell (p := ⟨w.heap.size + 1 + 1, 1, none⟩) (by simp <;> omega) (.int .i64 0)).setCell (p := ⟨w.heap.size + 1 + 1, 2, none⟩) (by simp <;> omega) (.bool false)
      clear c30 c31 c32 c33 c40 c41 c42 c60 c61 c62 f60 f61 f62 f40 f41 f42
      revert K L
      generalize (((W5).setCell ⟨w.heap.size + 1 + 1, 0, none⟩ (.int .i64 0)).setCell ⟨w.heap.size + 1 + 1, 1, none⟩ (.int .i64 0)).setCell ⟨w.heap.size + 1 + 1, 2, none⟩ (.bool false) = Vf
      intro K L
      have g0 := K.cell (i := 0) (v := (.int .i64 0)) (by simp)
      have g1 := K.cell (i := 1) (v := (.int .i64 0)) (by simp)
      have g2 := K.cell (i := 2) (v := (.bool false)) (by simp)
      exact bodyPost_ret (v := tkv ((0, 0, false), 9)) (by simp [results, Try.results14, go_sem, g0, g1, g2]) rfl ⟨by simp, L⟩
    obtain ⟨⟨tp1, tp2, tp3⟩, tn1, tn2, tn3⟩ := testB_true hvH.out
    obtain ⟨P, rfl⟩ := Int.eq_ofNat_of_zero_le (show 0 ≤ p by omega)
    obtain ⟨Q, rfl⟩ := Int.eq_ofNat_of_zero_le (show 0 ≤ q by omega)
    obtain ⟨A, rfl⟩ := Int.eq_ofNat_of_zero_le (show 0 ≤ num by omega)
    obtain ⟨D, rfl⟩ := Int.eq_ofNat_of_zero_le (show 0 ≤ den by omega)
    obtain ⟨H, rfl⟩ := Int.eq_ofNat_of_zero_le (show 0 ≤ h by omega)
    obtain ⟨R, rfl⟩ := Int.eq_ofNat_of_zero_le (show 0 ≤ r by omega)
    have hR : R < 500 := by omega
    have hHR : H ≤ R := by omega
    obtain ⟨h2, hh2⟩ : ∃ x : Nat, (if hit = true then H + 1 else H) = x := ⟨_, rfl⟩
    have hh2b : h2 ≤ R + 1 := by rw [← hh2]; split <;> omega
    obtain ⟨v2, hv2⟩ : ∃ v, raiseB P Q A D h2 (R + 1 - h2) = v := ⟨_, rfl⟩
    have hh2i : (if hit = true then (H : Int) + 1 else (H : Int)) = (h2 : Int) := by rw [← hh2]; split <;> simp
    have hres : takeS P Q A D H R al hit = (((h2 : Int), (R : Int) + 1, al || v2), 0) := by
      unfold takeS
      rw [hvH.out, if_neg (by decide), if_neg (by omega), if_neg hrm, hh2i]
      simp only [Int.toNat_natCast, show ((R : Int) + 1).toNat = R + 1 by omega, hv2]
    rw [hres]
    have hrs := fun W => rRaises_any P Q A D h2 (R + 1) (by omega) (by omega) (by omega) (by omega) hh2b (by omega) v2 hv2 W
    have hrsH := Lib.hid hrs
    have hrm2 : ((R : Int) == 500) = false := by simp; omega
    clear hres hrs hv2 hh2b tp1 tp2 tp3 tn1 tn2 tn3 hr5 hvH hh2i
    by_cases hx : hit = true ∧ al = true
    · obtain ⟨rfl, rfl⟩ := hx
      obtain rfl : H + 1 = h2 := hh2
      go_enter Try.func14, Try.ntmps14
      go_wp2_with (first
        | (go_at_call 46; rw [hWH.out]; refine (hctH.out _).mono ?_; rintro e W2 ⟨rfl, hb2⟩; have hB2 := hB.trans (hb2.mono hB.size); have l3 := k3.below hb2 k3.lt; have l4 := k4.below hb2 k4.lt; have l6 := k6.below hb2 k6.lt; clear c30 c31 c32 c33 hb2; have c30 := l3.cell (i := 0) rfl; have c31 := l3.cell (i := 1) rfl; have c32 := l3.cell (i := 2) rfl; have c33 := l3.cell (i := 3) rfl; have c40 := l4.cell (i := 0) rfl; have c41 := l4.cell (i := 1) rfl; have c42 := l4.cell (i := 2) rfl; have c60 := l6.cell (i := 0) rfl; have c61 := l6.cell (i := 1) rfl; have c62 := l6.cell (i := 2) rfl; have f60 := l6.frozen 0; have f61 := l6.frozen 1; have f62 := l6.frozen 2; have f40 := l4.frozen 0; have f41 := l4.frozen 1; have f42 := l4.frozen 2)
        | (go_at_call 47; refine (hw1.out _).mono ?_; rintro e W5 ⟨rfl, hb5⟩; clear c30 c31 c32 c33 c40 c41 c42 c60 c61 c62 f60 f61 f62 f40 f41 f42; replace hB2 := hB2.trans (hb5.mono hB2.size); replace l3 := l3.below hb5 l3.lt; replace l4 := l4.below hb5 l4.lt; replace l6 := l6.below hb5 l6.lt; clear hb5; have c30 := l3.cell (i := 0) rfl; have c31 := l3.cell (i := 1) rfl; have c32 := l3.cell (i := 2) rfl; have c33 := l3.cell (i := 3) rfl; have c40 := l4.cell (i := 0) rfl; have c41 := l4.cell (i := 1) rfl; have c42 := l4.cell (i := 2) rfl; have c60 := l6.cell (i := 0) rfl; have c61 := l6.cell (i := 1) rfl; have c62 := l6.cell (i := 2) rfl; have f60 := l6.frozen 0; have f61 := l6.frozen 1; have f62 := l6.frozen 2; have f40 := l4.frozen 0; have f41 := l4.frozen 1; have f42 := l4.frozen 2)
        | (go_at_call 48; have K4 := ((l4).set 1 (.int .i64 ((R : Int) + 1))).set 0 (.int .i64 ((H : Int) + 1)); have K6 := ((l6).other (a := ⟨w.heap.size + 1, 1, none⟩) (by simp <;> omega) (.int .i64 ((R : Int) + 1))).other (a := ⟨w.heap.size + 1, 0, none⟩) (by simp <;> omega) (.int .i64 ((H : Int) + 1)); have L4 := ((hB2).setCell (p := ⟨w.heap.size + 1, 1, none⟩) (by simp <;> omega) (.int .i64 ((R : Int) + 1))).setCell (p := ⟨w.heap.size + 1, 0, none⟩) (by simp <;> omega) (.int .i64 ((H : Int) + 1)); refine (hrs2H.out _).mono ?_; rintro e W3 ⟨rfl, hb3⟩; have m4 := K4.below hb3 K4.lt; have m6 := K6.below hb3 K6.lt; have L3 := L4.trans (hb3.mono L4.size); clear hb3 K4 K6 L4 l3 l4 l6; clear c30 c31 c32 c33 c40 c41 c42 c60 c61 c62 f60 f61 f62 f40 f41 f42; have c40 := m4.cell (i := 0) rfl; have c41 := m4.cell (i := 1) rfl; have c42 := m4.cell (i := 2) rfl; have c60 := m6.cell (i := 0) rfl; have c61 := m6.cell (i := 1) rfl; have c62 := m6.cell (i := 2) rfl; have f60 := m6.frozen 0; have f61 := m6.frozen 1; have f62 := m6.frozen 2; have f42 := m4.frozen 2))
      have K := ((((((l6).other (a := ⟨w.heap.size + 1, 1, none⟩) (by simp <;> omega) (.int .i64 ((R : Int) + 1))).other (a := ⟨w.heap.size + 1, 0, none⟩) (by simp <;> omega) (.int .i64 ((H : Int) + 1))).other (a := ⟨w.heap.size + 1, 2, none⟩) (by simp <;> omega) (.bool true)).set 0 (.int .i64 ((H : Int) + 1))).set 1 (.int .i64 ((R : Int) + 1))).set 2 (.bool true)
      have L := ((((((hB2).setCell (p := ⟨w.heap.size + 1, 1, none⟩) (by simp <;> omega) (.int .i64 ((R : Int) + 1))).setCell (p := ⟨w.heap.size + 1, 0, none⟩) (by simp <;> omega) (.int .i64 ((H : Int) + 1))).setCell (p := ⟨w.heap.size + 1, 2, none⟩) (by simp <;> omega) (.bool true)).setCell (p := ⟨w.heap.size + 1 + 1, 0, none⟩) (by simp <;> omega) (.int .i64 ((H : Int) + 1))).setCell (p := ⟨w.heap.size + 1 + 1, 1, none⟩) (by simp <;> omega) (.int .i64 ((R : Int) + 1))).setCell (p := ⟨w.heap.size + 1 + 1, 2, none⟩) (by simp <;> omega) (.bool true)
      clear c30 c31 c32 c33 c40 c41 c42 c60 c61 c62 f60 f61 f62 f40 f41 f42
      revert K L
      generalize ((((((W5).setCell ⟨w.heap.size + 1, 1, none⟩ (.int .i64 ((R : Int) + 1))).setCell ⟨w.heap.size + 1, 0, none⟩ (.int .i64 ((H : Int) + 1))).setCell ⟨w.heap.size + 1, 2, none⟩ (.bool true)).setCell ⟨w.heap.size + 1 + 1, 0, none⟩ (.int .i64 ((H : Int) + 1))).setCell ⟨w.heap.size + 1 + 1, 1, none⟩ (.int .i64 ((R : Int) + 1))).setCell ⟨w.heap.size + 1 + 1, 2, none⟩ (.bool true) = Vf
      intro K L
      have g0 := K.cell (i := 0) (v := (.int .i64 ((H : Int) + 1))) (by simp)
      have g1 := K.cell (i := 1) (v := (.int .i64 ((R : Int) + 1))) (by simp)
      have g2 := K.cell (i := 2) (v := (.bool true)) (by simp)
      exact bodyPost_ret (v := tkv ((((H : Int) + 1), (R : Int) + 1, true), 0)) (by simp [results, Try.results14, go_sem, g0, g1, g2]) rfl ⟨by simp, L⟩
    by_cases hx : hit = true ∧ al = false
    · obtain ⟨rfl, rfl⟩ := hx
      obtain rfl : H + 1 = h2 := hh2
      have hrs2 : ∀ W, Calls Try.prog 48 #[tsv P Q A D, .int .i64 ((H : Int) + 1), .int .i64 ((R : Int) + 1)] W fun e w' => e = .returned (.bool v2) ∧ Below W.heap.size W w' := fun W => by
        have := hrsH.out W
        push_cast at this
        exact this
      have hrs2H := Lib.hid hrs2
      clear hrs2 hrsH
      go_enter Try.func14, Try.ntmps14
      go_wp2_with (first
        | (go_at_call 46; rw [hWH.out]; refine (hctH.out _).mono ?_; rintro e W2 ⟨rfl, hb2⟩; have hB2 := hB.trans (hb2.mono hB.size); have l3 := k3.below hb2 k3.lt; have l4 := k4.below hb2 k4.lt; have l6 := k6.below hb2 k6.lt; clear c30 c31 c32 c33 hb2; have c30 := l3.cell (i := 0) rfl; have c31 := l3.cell (i := 1) rfl; have c32 := l3.cell (i := 2) rfl; have c33 := l3.cell (i := 3) rfl; have c40 := l4.cell (i := 0) rfl; have c41 := l4.cell (i := 1) rfl; have c42 := l4.cell (i := 2) rfl; have c60 := l6.cell (i := 0) rfl; have c61 := l6.cell (i := 1) rfl; have c62 := l6.cell (i := 2) rfl; have f60 := l6.frozen 0; have f61 := l6.frozen 1; have f62 := l6.frozen 2; have f40 := l4.frozen 0; have f41 := l4.frozen 1; have f42 := l4.frozen 2)
        | (go_at_call 47; refine (hw1.out _).mono ?_; rintro e W5 ⟨rfl, hb5⟩; clear c30 c31 c32 c33 c40 c41 c42 c60 c61 c62 f60 f61 f62 f40 f41 f42; replace hB2 := hB2.trans (hb5.mono hB2.size); replace l3 := l3.below hb5 l3.lt; replace l4 := l4.below hb5 l4.lt; replace l6 := l6.below hb5 l6.lt; clear hb5; have c30 := l3.cell (i := 0) rfl; have c31 := l3.cell (i := 1) rfl; have c32 := l3.cell (i := 2) rfl; have c33 := l3.cell (i := 3) rfl; have c40 := l4.cell (i := 0) rfl; have c41 := l4.cell (i := 1) rfl; have c42 := l4.cell (i := 2) rfl; have c60 := l6.cell (i := 0) rfl; have c61 := l6.cell (i := 1) rfl; have c62 := l6.cell (i := 2) rfl; have f60 := l6.frozen 0; have f61 := l6.frozen 1; have f62 := l6.frozen 2; have f40 := l4.frozen 0; have f41 := l4.frozen 1; have f42 := l4.frozen 2)
        | (go_at_call 48; have K4 := ((l4).set 1 (.int .i64 ((R : Int) + 1))).set 0 (.int .i64 ((H : Int) + 1)); have K6 := ((l6).other (a := ⟨w.heap.size + 1, 1, none⟩) (by simp <;> omega) (.int .i64 ((R : Int) + 1))).other (a := ⟨w.heap.size + 1, 0, none⟩) (by simp <;> omega) (.int .i64 ((H : Int) + 1)); have L4 := ((hB2).setCell (p := ⟨w.heap.size + 1, 1, none⟩) (by simp <;> omega) (.int .i64 ((R : Int) + 1))).setCell (p := ⟨w.heap.size + 1, 0, none⟩) (by simp <;> omega) (.int .i64 ((H : Int) + 1)); refine (hrs2H.out _).mono ?_; rintro e W3 ⟨rfl, hb3⟩; have m4 := K4.below hb3 K4.lt; have m6 := K6.below hb3 K6.lt; have L3 := L4.trans (hb3.mono L4.size); clear hb3 K4 K6 L4 l3 l4 l6; clear c30 c31 c32 c33 c40 c41 c42 c60 c61 c62 f60 f61 f62 f40 f41 f42; have c40 := m4.cell (i := 0) rfl; have c41 := m4.cell (i := 1) rfl; have c42 := m4.cell (i := 2) rfl; have c60 := m6.cell (i := 0) rfl; have c61 := m6.cell (i := 1) rfl; have c62 := m6.cell (i := 2) rfl; have f60 := m6.frozen 0; have f61 := m6.frozen 1; have f62 := m6.frozen 2; have f42 := m4.frozen 2))
      have K := ((((m6).other (a := ⟨w.heap.size + 1, 2, none⟩) (by simp <;> omega) (.bool v2)).set 0 (.int .i64 ((H : Int) + 1))).set 1 (.int .i64 ((R : Int) + 1))).set 2 (.bool v2)
      have L := ((((L3).setCell (p := ⟨w.heap.size + 1, 2, none⟩) (by simp <;> omega) (.bool v2)).setCell (p := ⟨w.heap.size + 1 + 1, 0, none⟩) (by simp <;> omega) (.int .i64 ((H : Int) + 1))).setCell (p := ⟨w.heap.size + 1 + 1, 1, none⟩) (by simp <;> omega) (.int .i64 ((R : Int) + 1))).setCell (p := ⟨w.heap.size + 1 + 1, 2, none⟩) (by simp <;> omega) (.bool v2)
      clear c40 c41 c42 c60 c61 c62 f60 f61 f62 f42
      revert K L
      generalize ((((W3).setCell ⟨w.heap.size + 1, 2, none⟩ (.bool v2)).setCell ⟨w.heap.size + 1 + 1, 0, none⟩ (.int .i64 ((H : Int) + 1))).setCell ⟨w.heap.size + 1 + 1, 1, none⟩ (.int .i64 ((R : Int) + 1))).setCell ⟨w.heap.size + 1 + 1, 2, none⟩ (.bool v2) = Vf
      intro K L
      have g0 := K.cell (i := 0) (v := (.int .i64 ((H : Int) + 1))) (by simp)
      have g1 := K.cell (i := 1) (v := (.int .i64 ((R : Int) + 1))) (by simp)
      have g2 := K.cell (i := 2) (v := (.bool v2)) (by simp)
      exact bodyPost_ret (v := tkv ((((H : Int) + 1), (R : Int) + 1, v2), 0)) (by simp [results, Try.results14, go_sem, g0, g1, g2]) rfl ⟨by simp, L⟩
    by_cases hx : hit = false ∧ al = true
    · obtain ⟨rfl, rfl⟩ := hx
      obtain rfl : H = h2 := hh2
      go_enter Try.func14, Try.ntmps14
      go_wp2_with (first
        | (go_at_call 46; rw [hWH.out]; refine (hctH.out _).mono ?_; rintro e W2 ⟨rfl, hb2⟩; have hB2 := hB.trans (hb2.mono hB.size); have l3 := k3.below hb2 k3.lt; have l4 := k4.below hb2 k4.lt; have l6 := k6.below hb2 k6.lt; clear c30 c31 c32 c33 hb2; have c30 := l3.cell (i := 0) rfl; have c31 := l3.cell (i := 1) rfl; have c32 := l3.cell (i := 2) rfl; have c33 := l3.cell (i := 3) rfl; have c40 := l4.cell (i := 0) rfl; have c41 := l4.cell (i := 1) rfl; have c42 := l4.cell (i := 2) rfl; have c60 := l6.cell (i := 0) rfl; have c61 := l6.cell (i := 1) rfl; have c62 := l6.cell (i := 2) rfl; have f60 := l6.frozen 0; have f61 := l6.frozen 1; have f62 := l6.frozen 2; have f40 := l4.frozen 0; have f41 := l4.frozen 1; have f42 := l4.frozen 2)
        | (go_at_call 47; refine (hw1.out _).mono ?_; rintro e W5 ⟨rfl, hb5⟩; clear c30 c31 c32 c33 c40 c41 c42 c60 c61 c62 f60 f61 f62 f40 f41 f42; replace hB2 := hB2.trans (hb5.mono hB2.size); replace l3 := l3.below hb5 l3.lt; replace l4 := l4.below hb5 l4.lt; replace l6 := l6.below hb5 l6.lt; clear hb5; have c30 := l3.cell (i := 0) rfl; have c31 := l3.cell (i := 1) rfl; have c32 := l3.cell (i := 2) rfl; have c33 := l3.cell (i := 3) rfl; have c40 := l4.cell (i := 0) rfl; have c41 := l4.cell (i := 1) rfl; have c42 := l4.cell (i := 2) rfl; have c60 := l6.cell (i := 0) rfl; have c61 := l6.cell (i := 1) rfl; have c62 := l6.cell (i := 2) rfl; have f60 := l6.frozen 0; have f61 := l6.frozen 1; have f62 := l6.frozen 2; have f40 := l4.frozen 0; have f41 := l4.frozen 1; have f42 := l4.frozen 2)
        | (go_at_call 48; have K4 := (l4).set 1 (.int .i64 ((R : Int) + 1)); have K6 := (l6).other (a := ⟨w.heap.size + 1, 1, none⟩) (by simp <;> omega) (.int .i64 ((R : Int) + 1)); have L4 := (hB2).setCell (p := ⟨w.heap.size + 1, 1, none⟩) (by simp <;> omega) (.int .i64 ((R : Int) + 1)); refine (hrs2H.out _).mono ?_; rintro e W3 ⟨rfl, hb3⟩; have m4 := K4.below hb3 K4.lt; have m6 := K6.below hb3 K6.lt; have L3 := L4.trans (hb3.mono L4.size); clear hb3 K4 K6 L4 l3 l4 l6; clear c30 c31 c32 c33 c40 c41 c42 c60 c61 c62 f60 f61 f62 f40 f41 f42; have c40 := m4.cell (i := 0) rfl; have c41 := m4.cell (i := 1) rfl; have c42 := m4.cell (i := 2) rfl; have c60 := m6.cell (i := 0) rfl; have c61 := m6.cell (i := 1) rfl; have c62 := m6.cell (i := 2) rfl; have f60 := m6.frozen 0; have f61 := m6.frozen 1; have f62 := m6.frozen 2; have f42 := m4.frozen 2))
      have K := (((((l6).other (a := ⟨w.heap.size + 1, 1, none⟩) (by simp <;> omega) (.int .i64 ((R : Int) + 1))).other (a := ⟨w.heap.size + 1, 2, none⟩) (by simp <;> omega) (.bool true)).set 0 (.int .i64 (H : Int))).set 1 (.int .i64 ((R : Int) + 1))).set 2 (.bool true)
      have L := (((((hB2).setCell (p := ⟨w.heap.size + 1, 1, none⟩) (by simp <;> omega) (.int .i64 ((R : Int) + 1))).setCell (p := ⟨w.heap.size + 1, 2, none⟩) (by simp <;> omega) (.bool true)).setCell (p := ⟨w.heap.size + 1 + 1, 0, none⟩) (by simp <;> omega) (.int .i64 (H : Int))).setCell (p := ⟨w.heap.size + 1 + 1, 1, none⟩) (by simp <;> omega) (.int .i64 ((R : Int) + 1))).setCell (p := ⟨w.heap.size + 1 + 1, 2, none⟩) (by simp <;> omega) (.bool true)
      clear c30 c31 c32 c33 c40 c41 c42 c60 c61 c62 f60 f61 f62 f40 f41 f42
      revert K L
      generalize (((((W5).setCell ⟨w.heap.size + 1, 1, none⟩ (.int .i64 ((R : Int) + 1))).setCell ⟨w.heap.size + 1, 2, none⟩ (.bool true)).setCell ⟨w.heap.size + 1 + 1, 0, none⟩ (.int .i64 (H : Int))).setCell ⟨w.heap.size + 1 + 1, 1, none⟩ (.int .i64 ((R : Int) + 1))).setCell ⟨w.heap.size + 1 + 1, 2, none⟩ (.bool true) = Vf
      intro K L
      have g0 := K.cell (i := 0) (v := (.int .i64 (H : Int))) (by simp)
      have g1 := K.cell (i := 1) (v := (.int .i64 ((R : Int) + 1))) (by simp)
      have g2 := K.cell (i := 2) (v := (.bool true)) (by simp)
      exact bodyPost_ret (v := tkv (((H : Int), (R : Int) + 1, true), 0)) (by simp [results, Try.results14, go_sem, g0, g1, g2]) rfl ⟨by simp, L⟩
    by_cases hx : hit = false ∧ al = false
    · obtain ⟨rfl, rfl⟩ := hx
      obtain rfl : H = h2 := hh2
      have hrs2 : ∀ W, Calls Try.prog 48 #[tsv P Q A D, .int .i64 (H : Int), .int .i64 ((R : Int) + 1)] W fun e w' => e = .returned (.bool v2) ∧ Below W.heap.size W w' := fun W => by
        have := hrsH.out W
        push_cast at this
        exact this
      have hrs2H := Lib.hid hrs2
      clear hrs2 hrsH
      go_enter Try.func14, Try.ntmps14
      go_wp2_with (first
        | (go_at_call 46; rw [hWH.out]; refine (hctH.out _).mono ?_; rintro e W2 ⟨rfl, hb2⟩; have hB2 := hB.trans (hb2.mono hB.size); have l3 := k3.below hb2 k3.lt; have l4 := k4.below hb2 k4.lt; have l6 := k6.below hb2 k6.lt; clear c30 c31 c32 c33 hb2; have c30 := l3.cell (i := 0) rfl; have c31 := l3.cell (i := 1) rfl; have c32 := l3.cell (i := 2) rfl; have c33 := l3.cell (i := 3) rfl; have c40 := l4.cell (i := 0) rfl; have c41 := l4.cell (i := 1) rfl; have c42 := l4.cell (i := 2) rfl; have c60 := l6.cell (i := 0) rfl; have c61 := l6.cell (i := 1) rfl; have c62 := l6.cell (i := 2) rfl; have f60 := l6.frozen 0; have f61 := l6.frozen 1; have f62 := l6.frozen 2; have f40 := l4.frozen 0; have f41 := l4.frozen 1; have f42 := l4.frozen 2)
        | (go_at_call 47; refine (hw1.out _).mono ?_; rintro e W5 ⟨rfl, hb5⟩; clear c30 c31 c32 c33 c40 c41 c42 c60 c61 c62 f60 f61 f62 f40 f41 f42; replace hB2 := hB2.trans (hb5.mono hB2.size); replace l3 := l3.below hb5 l3.lt; replace l4 := l4.below hb5 l4.lt; replace l6 := l6.below hb5 l6.lt; clear hb5; have c30 := l3.cell (i := 0) rfl; have c31 := l3.cell (i := 1) rfl; have c32 := l3.cell (i := 2) rfl; have c33 := l3.cell (i := 3) rfl; have c40 := l4.cell (i := 0) rfl; have c41 := l4.cell (i := 1) rfl; have c42 := l4.cell (i := 2) rfl; have c60 := l6.cell (i := 0) rfl; have c61 := l6.cell (i := 1) rfl; have c62 := l6.cell (i := 2) rfl; have f60 := l6.frozen 0; have f61 := l6.frozen 1; have f62 := l6.frozen 2; have f40 := l4.frozen 0; have f41 := l4.frozen 1; have f42 := l4.frozen 2)
        | (go_at_call 48; have K4 := (l4).set 1 (.int .i64 ((R : Int) + 1)); have K6 := (l6).other (a := ⟨w.heap.size + 1, 1, none⟩) (by simp <;> omega) (.int .i64 ((R : Int) + 1)); have L4 := (hB2).setCell (p := ⟨w.heap.size + 1, 1, none⟩) (by simp <;> omega) (.int .i64 ((R : Int) + 1)); refine (hrs2H.out _).mono ?_; rintro e W3 ⟨rfl, hb3⟩; have m4 := K4.below hb3 K4.lt; have m6 := K6.below hb3 K6.lt; have L3 := L4.trans (hb3.mono L4.size); clear hb3 K4 K6 L4 l3 l4 l6; clear c30 c31 c32 c33 c40 c41 c42 c60 c61 c62 f60 f61 f62 f40 f41 f42; have c40 := m4.cell (i := 0) rfl; have c41 := m4.cell (i := 1) rfl; have c42 := m4.cell (i := 2) rfl; have c60 := m6.cell (i := 0) rfl; have c61 := m6.cell (i := 1) rfl; have c62 := m6.cell (i := 2) rfl; have f60 := m6.frozen 0; have f61 := m6.frozen 1; have f62 := m6.frozen 2; have f42 := m4.frozen 2))
      have K := ((((m6).other (a := ⟨w.heap.size + 1, 2, none⟩) (by simp <;> omega) (.bool v2)).set 0 (.int .i64 (H : Int))).set 1 (.int .i64 ((R : Int) + 1))).set 2 (.bool v2)
      have L := ((((L3).setCell (p := ⟨w.heap.size + 1, 2, none⟩) (by simp <;> omega) (.bool v2)).setCell (p := ⟨w.heap.size + 1 + 1, 0, none⟩) (by simp <;> omega) (.int .i64 (H : Int))).setCell (p := ⟨w.heap.size + 1 + 1, 1, none⟩) (by simp <;> omega) (.int .i64 ((R : Int) + 1))).setCell (p := ⟨w.heap.size + 1 + 1, 2, none⟩) (by simp <;> omega) (.bool v2)
      clear c40 c41 c42 c60 c61 c62 f60 f61 f62 f42
      revert K L
      generalize ((((W3).setCell ⟨w.heap.size + 1, 2, none⟩ (.bool v2)).setCell ⟨w.heap.size + 1 + 1, 0, none⟩ (.int .i64 (H : Int))).setCell ⟨w.heap.size + 1 + 1, 1, none⟩ (.int .i64 ((R : Int) + 1))).setCell ⟨w.heap.size + 1 + 1, 2, none⟩ (.bool v2) = Vf
      intro K L
      have g0 := K.cell (i := 0) (v := (.int .i64 (H : Int))) (by simp)
      have g1 := K.cell (i := 1) (v := (.int .i64 ((R : Int) + 1))) (by simp)
      have g2 := K.cell (i := 2) (v := (.bool v2)) (by simp)
      exact bodyPost_ret (v := tkv (((H : Int), (R : Int) + 1, v2), 0)) (by simp [results, Try.results14, go_sem, g0, g1, g2]) rfl ⟨by simp, L⟩
    exfalso
    cases hit <;> cases al <;> simp_all

end Go.Proofs.Ytaejdgjfnoefjaa

/- Contracts and laws (LawCount). -/
import Derived.Test.YtbdnjhnlfpfhcaaGreatQE11
import Derived.Test.YtbdnjhnlfpfhcaaGreatQE12
import Derived.Test.YtbdnjhnlfpfhcaaGreatQE15
import Derived.Test.YtbdnjhnlfpfhcaaGreatQE23
namespace Go.Proofs.YtbdnjhnlfpfhcaaGreat
open Go Go.RowKit Go.Shelf
set_option linter.unusedVariables false
set_option linter.unusedSimpArgs false

/-- The bit of a number. -/
theorem i64_and1n (x : Nat) (h : x < 9223372036854775808) : bits .and .i64 (x : Int) 1 = ((x % 2 : Nat) : Int) := by
  show IntKind.i64.wrap ((BitVec.ofInt 64 (x : Int) &&& BitVec.ofInt 64 ((1 : Nat) : Int)).toNat : Int) = _
  rw [BitVec.toNat_and, BitVec.ofInt_natCast, BitVec.ofInt_natCast, BitVec.toNat_ofNat, BitVec.toNat_ofNat, Nat.mod_eq_of_lt (show x < 2 ^ 64 by omega), Nat.mod_eq_of_lt (show 1 < 2 ^ 64 by decide), Nat.and_one_is_mod]
  rcases Nat.mod_two_eq_zero_or_one x with h | h <;> rw [h] <;> rfl
theorem bit_go (s i : Nat) (hs : s < 9223372036854775808) : (bits .and .i64 ((s : Int) / 2 ^ i) 1 == 1) = s.testBit i := by
  have e : (s : Int) / 2 ^ i = ((s / 2 ^ i : Nat) : Int) := by simp
  rw [e, i64_and1n _ (Nat.lt_of_le_of_lt (Nat.div_le_self _ _) hs), Nat.testBit_eq_decide_div_mod_eq]
  rcases Nat.mod_two_eq_zero_or_one (s / 2 ^ i) with h | h <;> rw [h] <;> rfl
theorem limB_parts {num den : Int} (h : limB num den = true) : ∃ p q : Nat, num = (p : Int) ∧ den = (q : Int) ∧ 0 < p ∧ 1 ≤ q ∧ p ≤ 4611686018427387903 ∧ q ≤ 4611686018427387903 ∧ Nat.gcd p q = 1 := by
  obtain ⟨h1, h2, h3⟩ := limB_true h
  unfold limB fracOk at h
  simp only [Bool.and_eq_true, beq_iff_eq, decide_eq_true_eq] at h
  refine ⟨num.toNat, den.toNat, by omega, by omega, by omega, by omega, by omega, by omega, ?_⟩
  have hg := h.1.2
  rwa [show num.natAbs = num.toNat by omega, show den.natAbs = den.toNat by omega] at hg
/-- A fraction made of two numbers lies to another as its numbers do. -/
theorem make_order {s a p q : Nat} (ha : 0 < a) (hq : 0 < q) (hp : 0 < p) (hg : Nat.gcd p q = 1) : orderF (s / Nat.gcd s a) (a / Nat.gcd s a) p q ≤ 0 ↔ s * q ≤ p * a := by
  obtain ⟨g, hgg⟩ : ∃ g, Nat.gcd s a = g := ⟨_, rfl⟩
  have g0 : 0 < g := by rw [← hgg]; exact Nat.gcd_pos_of_pos_right s ha
  have h1 : s / g * g = s := Nat.div_mul_cancel (hgg ▸ Nat.gcd_dvd_left s a)
  have h2 : a / g * g = a := Nat.div_mul_cancel (hgg ▸ Nat.gcd_dvd_right s a)
  have hc : Nat.gcd (s / g) (a / g) = 1 := by rw [← hgg]; exact Nat.coprime_div_gcd_div_gcd (hgg ▸ g0)
  have ha0 : 0 < a / g := by
    rcases Nat.eq_zero_or_pos (a / g) with h | h
    · rw [h] at h2; omega
    · exact h
  rw [hgg, order_law hc hg ha0 hq hp]
  constructor
  · intro h
    have := Nat.mul_le_mul_right g h
    rw [Nat.mul_right_comm, h1, Nat.mul_assoc, h2] at this
    exact this
  · intro h
    refine Nat.le_of_mul_le_mul_right (c := g) ?_ g0
    rw [Nat.mul_right_comm, h1, Nat.mul_assoc, h2]
    exact h
theorem make_parts {s a : Nat} (ha : 0 < a) : 1 ≤ a / Nat.gcd s a ∧ Nat.gcd (s / Nat.gcd s a) (a / Nat.gcd s a) = 1 := by
  have g0 : 0 < Nat.gcd s a := Nat.gcd_pos_of_pos_right s ha
  exact ⟨Nat.div_pos (Nat.le_of_dvd ha (Nat.gcd_dvd_right s a)) g0, Nat.coprime_div_gcd_div_gcd g0⟩
set_option maxRecDepth 100000 in
set_option maxHeartbeats 16000000 in
theorem law_counted (n k j num den : Int) (hn : (Lit.int .i64 num).wf = true) (hd : (Lit.int .i64 den).wf = true) (w : World) :
    Calls Tryz.prog 3 #[.int .i64 n, .int .i64 k, .int .i64 j, frv num den] w fun e w' => e = .returned (.bool true) ∧ Below w.heap.size w w' := by
  have hB : Below w.heap.size w w := Below.refl _ _
  have hbV1 : Below w.heap.size w (w.alloc (.cells #[.int .i64 num, .int .i64 den] 23)) := jb_al (Below.refl _ w) _
  have k1 := Blk.new w 23 #[.int .i64 num, .int .i64 den]
  obtain ⟨V1, hEV1⟩ : ∃ X, w.alloc (.cells #[.int .i64 num, .int .i64 den] 23) = X := ⟨_, rfl⟩
  rw [hEV1] at hbV1 k1
  replace hB := hB.trans (hbV1.mono hB.size)
  clear hbV1
  have f0 := k1.cell (i := 0) rfl
  have f1 := k1.cell (i := 1) rfl
  obtain ⟨⟨A, E⟩, hR⟩ : ∃ r, rateS n k j num den = r := ⟨_, rfl⟩
  go_enter Tryz.func3, Tryz.ntmps3
  go_wp2_with fail
  clear hEV1
  have hc := alive8_any V1
  refine hc.mono ?_
  clear hc
  rintro e V2 ⟨rfl, hb⟩
  clear f0 f1
  replace k1 := k1.below hb k1.lt
  replace hB := hB.trans (hb.mono hB.size)
  clear hb
  have f0 := k1.cell (i := 0) rfl
  have f1 := k1.cell (i := 1) rfl
  go_wp2_with fail
  have hc := AtMost_any n k j num den hn hd V2
  rw [hR] at hc
  refine hc.mono ?_
  clear hc
  rintro e V3 ⟨rfl, hb⟩
  clear f0 f1
  replace k1 := k1.below hb k1.lt
  replace hB := hB.trans (hb.mono hB.size)
  clear hb
  have f0 := k1.cell (i := 0) rfl
  have f1 := k1.cell (i := 1) rfl
  by_cases hG : (0 ≤ n ∧ n ≤ 100) ∧ (0 ≤ k ∧ k ≤ n) ∧ (0 ≤ j ∧ j ≤ 256) ∧ limB num den = true
  case neg =>
    unfold rateS at hR
    rw [if_neg hG] at hR
    cases hR
    clear hG
    go_wp2_with fail
    go_ret
    exact ⟨rfl, hB⟩
  case pos =>
    unfold rateS at hR
    rw [if_pos hG] at hR
    obtain ⟨hA, rfl⟩ := Prod.mk.inj hR
    clear hR
    obtain ⟨⟨n0, n1⟩, ⟨k0, k1'⟩, ⟨j0, j1⟩, hlim⟩ := hG
    have hAH := Lib.hid hA
    clear hA
    by_cases n6 : 6 < n
    case pos =>
      have n6d : decide (6 < n) = true := decide_eq_true n6
      go_wp2_with fail
      go_ret
      exact ⟨rfl, hB⟩
    case neg =>
      have n6d : decide (6 < n) = false := decide_eq_false n6
      obtain ⟨p, q, rfl, rfl, p0, q1, p1, q2, hpq⟩ := limB_parts hlim
      obtain ⟨N, rfl⟩ : ∃ N : Nat, n = (N : Int) := ⟨n.toNat, by omega⟩
      obtain ⟨KK, rfl⟩ : ∃ N : Nat, k = (N : Int) := ⟨k.toNat, by omega⟩
      obtain ⟨J, rfl⟩ : ∃ N : Nat, j = (N : Int) := ⟨j.toNat, by omega⟩
      have hA2 := hAH.out
      simp only [Int.toNat_natCast] at hA2
      have hN6 : N ≤ 6 := by omega
      have hJ : J ≤ 256 := by omega
      have h256 : ∀ i, i ≤ N → 256 ^ i ≤ 281474976710656 := fun i hi => Nat.le_trans (Nat.pow_le_pow_right (by decide) (show i ≤ 6 by omega)) (by decide)
      have h2 : 2 ^ N ≤ 64 := Nat.le_trans (Nat.pow_le_pow_right (by decide) hN6) (by decide)
      have h256H := Lib.hid h256
      obtain ⟨f, hf⟩ : ∃ f, (fun s => fewC KK (foldS (stepC J (256 - J)) (0, 1) s N)) = f := ⟨_, rfl⟩
      have hfull : sumR f (2 ^ N) = fewR J (256 - J) N KK := by rw [← hf]; exact few_all _ _ _ _
      have hpart : ∀ m, m ≤ 2 ^ N → sumR f m ≤ 256 ^ N := fun m hm => by rw [← hf]; exact few_part (by omega) hm
      have hbd : ∀ s i, (foldS (stepC J (256 - J)) (0, 1) s i).1 ≤ i ∧ (foldS (stepC J (256 - J)) (0, 1) s i).2 ≤ 256 ^ i := fun s i => stepC_bd (by omega) (by omega) s i
      have hfs : ∀ s, fewC KK (foldS (stepC J (256 - J)) (0, 1) s N) = f s := fun s => by rw [← hf]
      have hfullH := Lib.hid hfull
      have hpartH := Lib.hid hpart
      have hbdH := Lib.hid hbd
      have hfsH := Lib.hid hfs
      have hA2H := Lib.hid hA2
      clear hlim hAH hA2 h256 hf hfull hpart hbd hfs
      go_wp2_with fail
      go_loop [13, 14] (fun z i => ∃ (m y : Nat), m ≤ N ∧ i = .int .i64 (m : Int) ∧ z = .int .i64 (y : Int) ∧ Hid (256 ^ m = y)) (fun _ i => N - (intOf i).toNat)
      case atStart => exact ⟨0, 1, Nat.zero_le _, rfl, rfl, Lib.hid rfl⟩
      case round =>
        obtain ⟨m, y, hm, rfl, rfl, hy⟩ := hrel
        by_cases hlt : m < N
        case pos =>
          have hy2 : 256 ^ (m + 1) = y * 256 := by rw [Nat.pow_succ, hy.out]
          have hyb := h256H.out (m + 1) (by omega)
          rw [hy2] at hyb
          have hy2H := Lib.hid hy2
          clear hy2
          go_wp2_with fail
          go_round
          case rel => exact ⟨m + 1, y * 256, by omega, by go_num, by go_num, hy2H⟩
          case measure => simp [intOf]; omega
        case neg =>
          have hmn : m = N := by omega
          subst hmn
          have hyb := h256H.out m (Nat.le_refl _)
          rw [hy.out] at hyb
          have hy0 : 0 < y := by rw [← hy.out]; exact Nat.pow_pos (by decide)
          obtain ⟨T, hT⟩ : ∃ T, 2 ^ m = T := ⟨_, rfl⟩
          have hTi : (2 : Int) ^ m = (T : Int) := by rw [← hT]; simp
          rw [hT] at h2 hpartH hfullH
          have hTH := Lib.hid hT
          clear hT
          go_wp2_with fail
          go_loop [12, 15] (fun z i => ∃ (s x : Nat), s ≤ T ∧ i = .int .i64 (s : Int) ∧ z = .int .i64 (x : Int) ∧ Hid (sumR f s = x)) (fun _ i => T - (intOf i).toNat)
          case atStart => exact ⟨0, 0, Nat.zero_le _, rfl, rfl, Lib.hid rfl⟩
          case round =>
            obtain ⟨s, x, hs, rfl, rfl, hx⟩ := hrel
            by_cases hst : s < T
            case pos =>
              have e1 : decide ((s : Int) < (T : Int)) = true := decide_eq_true (by omega)
              have e1p : (s : Int) < (T : Int) := by omega
              obtain ⟨Q, hQ⟩ : ∃ Q, 256 - J = Q := ⟨_, rfl⟩
              have hQi : (256 : Int) - (J : Int) = (Q : Int) := by omega
              have hxs := hpartH.out (s + 1) (by omega)
              rw [show sumR f (s + 1) = x + f s by rw [← hx.out]; rfl, hy.out] at hxs
              have hbd := hbdH.out s
              have hfs := hfsH.out s
              rw [hQ] at hbd hfs
              have hbd2 := Lib.hid hbd
              have hfs2 := Lib.hid hfs
              clear hbd hfs hbdH hfsH
              go_wp2_with fail
              go_loop [16, 17, 18] (fun h z i => ∃ (a hh ww : Nat), a ≤ m ∧ i = .int .i64 (a : Int) ∧ h = .int .i64 (hh : Int) ∧ z = .int .i64 (ww : Int) ∧ Hid (foldS (stepC J Q) (0, 1) s a = (hh, ww))) (fun _ _ i => m - (intOf i).toNat)
              case atStart => exact ⟨0, 0, 1, Nat.zero_le _, rfl, rfl, rfl, Lib.hid rfl⟩
              case round =>
                obtain ⟨a, hh, ww, ha, rfl, rfl, rfl, hw⟩ := hrel
                by_cases hat : a < m
                case pos =>
                  have e2 : decide ((a : Int) < (m : Int)) = true := decide_eq_true (by omega)
                  have hstep : foldS (stepC J Q) (0, 1) s (a + 1) = stepC J Q a (hh, ww) (s.testBit a) := by rw [← hw.out]; rfl
                  have b0 := hbd2.out a
                  have b1 := hbd2.out (a + 1)
                  have b2 := h256H.out (a + 1) (by omega)
                  rw [hw.out] at b0
                  rw [hstep] at b1
                  have hbit := bit_go s a (by omega)
                  cases hb : s.testBit a with
                  | true =>
                    rw [hb] at hbit hstep b1
                    simp only [stepC, if_true] at hstep b1 b0
                    obtain ⟨P, hP⟩ : ∃ P, ww * J = P := ⟨_, rfl⟩
                    have hPi : (ww : Int) * (J : Int) = (P : Int) := by rw [← hP]; simp
                    rw [hP] at hstep b1
                    have hstepH := Lib.hid hstep
                    obtain ⟨b01, b02⟩ := b0
                    have hPb : P ≤ 281474976710656 := Nat.le_trans b1.2 b2
                    clear hstep b1 b2 hb b02 hP
                    go_wp2_with fail
                    go_round
                    case rel => exact ⟨a + 1, hh + 1, P, by omega, by go_num, by go_num, rfl, hstepH⟩
                    case measure => simp [intOf]; omega
                  | false =>
                    rw [hb] at hbit hstep b1
                    simp only [stepC, Bool.false_eq_true, if_false] at hstep b1 b0
                    obtain ⟨P, hP⟩ : ∃ P, ww * Q = P := ⟨_, rfl⟩
                    have hPi : (ww : Int) * (Q : Int) = (P : Int) := by rw [← hP]; simp
                    rw [hP] at hstep b1
                    have hstepH := Lib.hid hstep
                    obtain ⟨b01, b02⟩ := b0
                    have hPb : P ≤ 281474976710656 := Nat.le_trans b1.2 b2
                    clear hstep b1 b2 hb b02 hP
                    go_wp2_with fail
                    go_round
                    case rel => exact ⟨a + 1, hh, P, by omega, by go_num, rfl, rfl, hstepH⟩
                    case measure => simp [intOf]; omega
                case neg =>
                  have ham : a = m := by omega
                  subst ham
                  have hfv := hfs2.out
                  rw [hw.out] at hfv
                  have hsum : sumR f (s + 1) = x + f s := by rw [← hx.out]; rfl
                  unfold fewC at hfv
                  simp only at hfv
                  by_cases hk : hh ≤ KK
                  case pos =>
                    rw [if_pos hk] at hfv
                    rw [← hfv] at hsum hxs
                    have hkd : decide ((hh : Int) ≤ (KK : Int)) = true := decide_eq_true (by omega)
                    have hkp : (hh : Int) ≤ (KK : Int) := by omega
                    have hsumH := Lib.hid hsum
                    clear hsum hfv hw hx
                    go_wp2_with fail
                    go_round
                    case rel => exact ⟨s + 1, x + ww, by omega, by go_num, by go_num, hsumH⟩
                    case measure => simp [intOf]; omega
                  case neg =>
                    rw [if_neg hk] at hfv
                    rw [← hfv, Nat.add_zero] at hsum
                    have hkd : decide ((hh : Int) ≤ (KK : Int)) = false := decide_eq_false (by omega)
                    have hkp : ¬ (hh : Int) ≤ (KK : Int) := by omega
                    have hsumH := Lib.hid hsum
                    clear hsum hfv hw hx
                    go_wp2_with fail
                    go_round
                    case rel => exact ⟨s + 1, x, by omega, by go_num, rfl, hsumH⟩
                    case measure => simp [intOf]; omega
            case neg =>
              have e1 : decide ((s : Int) < (T : Int)) = false := decide_eq_false (by omega)
              have e1p : ¬ (s : Int) < (T : Int) := by omega
              have hsT : s = T := by omega
              subst hsT
              have hxy := hpartH.out s (Nat.le_refl _)
              rw [hx.out, hy.out] at hxy
              have hxf : x = fewR J (256 - J) m KK := hx.out.symm.trans hfullH.out
              have hord := make_order (s := x) (a := y) hy0 (show 0 < q by omega) p0 hpq
              have hpar := make_parts (s := x) hy0
              have hAv : A = decide (orderF (x / Nat.gcd x y) (y / Nat.gcd x y) p q ≤ 0) := by
                rw [← hA2H.out]
                unfold fewB
                rw [← hxf, hy.out]
                exact decide_eq_decide.2 hord.symm
              obtain ⟨xx, hxx⟩ : ∃ z, x / Nat.gcd x y = z := ⟨_, rfl⟩
              obtain ⟨yy, hyy⟩ : ∃ z, y / Nat.gcd x y = z := ⟨_, rfl⟩
              have hxl : xx ≤ 4611686018427387903 := by rw [← hxx]; exact Nat.le_trans (Nat.div_le_self _ _) (by omega)
              have hyl : yy ≤ 4611686018427387903 := by rw [← hyy]; exact Nat.le_trans (Nat.div_le_self _ _) (by omega)
              rw [hxx, hyy] at hAv hpar
              obtain ⟨yy1, hgg⟩ := hpar
              obtain ⟨C, hC⟩ : ∃ C, orderF xx yy p q = C := ⟨_, rfl⟩
              rw [hC] at hAv
              have hCH := Lib.hid hC
              have hxxH := Lib.hid hxx
              have hyyH := Lib.hid hyy
              have hwf : ∀ z : Nat, z ≤ 4611686018427387903 → (Lit.int .i64 (z : Int)).wf = true := fun z hz => by simp [Lit.wf, IntKind.min, IntKind.max, IntKind.signed, IntKind.bits]; omega
              have hwf1 := Lib.hid (hwf x (by omega))
              have hwf2 := Lib.hid (hwf y (by omega))
              clear hx hxf hord hC hxx hyy hwf hfullH hpartH
              go_wp2_with fail
              have hc := Make_any x y hy0 (by omega) (by omega) hwf1.out hwf2.out V3
              rw [hxxH.out, hyyH.out] at hc
              refine hc.mono ?_
              clear hc
              rintro e V4 ⟨rfl, hb⟩
              clear f0 f1
              replace k1 := k1.below hb k1.lt
              replace hB := hB.trans (hb.mono hB.size)
              clear hb
              have f0 := k1.cell (i := 0) rfl
              have f1 := k1.cell (i := 1) rfl
              have hbV5 : Below V4.heap.size V4 (V4.alloc (.cells #[.int .i64 (xx : Int), .int .i64 (yy : Int)] 23)) := jb_al (Below.refl _ V4) _
              have kp := Blk.new V4 23 #[.int .i64 (xx : Int), .int .i64 (yy : Int)]
              obtain ⟨V5, hEV5⟩ : ∃ X, V4.alloc (.cells #[.int .i64 (xx : Int), .int .i64 (yy : Int)] 23) = X := ⟨_, rfl⟩
              rw [hEV5] at hbV5 kp
              clear f0 f1
              replace k1 := k1.below hbV5 k1.lt
              replace hB := hB.trans (hbV5.mono hB.size)
              clear hbV5
              have f0 := k1.cell (i := 0) rfl
              have f1 := k1.cell (i := 1) rfl
              have zz0 := kp.cell (i := 0) rfl
              have zz1 := kp.cell (i := 1) rfl
              go_wp2_with fail
              clear hEV5
              have hc := Compare_any xx yy p q hxl hyl p1 q2 yy1 q1 p0 hgg hpq V5
              rw [hCH.out] at hc
              refine hc.mono ?_
              clear hc
              rintro e V6 ⟨rfl, hb⟩
              clear f0 f1 zz0 zz1
              replace k1 := k1.below hb k1.lt
              replace kp := kp.below hb kp.lt
              replace hB := hB.trans (hb.mono hB.size)
              clear hb
              have f0 := k1.cell (i := 0) rfl
              have f1 := k1.cell (i := 1) rfl
              have zz0 := kp.cell (i := 0) rfl
              have zz1 := kp.cell (i := 1) rfl
              have hCd : decide (C ≤ 0) = A := hAv.symm
              clear hAv
              cases A with
              | true =>
                have hCp : C ≤ 0 := of_decide_eq_true hCd
                go_wp2_with fail
                go_ret
                exact ⟨rfl, hB⟩
              | false =>
                have hCp : ¬ C ≤ 0 := of_decide_eq_false hCd
                go_wp2_with fail
                go_ret
                exact ⟨rfl, hB⟩

end Go.Proofs.YtbdnjhnlfpfhcaaGreat

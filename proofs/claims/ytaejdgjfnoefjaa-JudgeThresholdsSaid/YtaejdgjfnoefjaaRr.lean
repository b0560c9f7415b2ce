/- The specification's bounds of rates. -/
import Derived.Test.YtaejdgjfnoefjaaRf
import Derived.Test.YtaejdgjfnoefjaaRb
namespace Go.Proofs.Ytaejdgjfnoefjaa
open Go Go.RowKit Go.Shelf
set_option linter.unusedVariables false
set_option linter.unusedSimpArgs false

set_option maxHeartbeats 1000000 in
theorem rin_any (n lo hi : Int) (v : Bool) (hv : decide (lo ≤ n ∧ n ≤ hi) = v) (w : World) :
    Calls Try.prog 61 #[.int .i64 n, .int .i64 lo, .int .i64 hi] w fun e w' => e = .returned (.bool v) ∧ w = w' := by
  by_cases h1 : n < lo
  · have hvf : v = false := by rw [← hv]; simp only [decide_eq_false_iff_not]; omega
    subst hvf
    clear hv
    go_enter Try.func61, Try.ntmps61
    go_wp2
    go_ret
    exact ⟨ret_b (by first | rfl | (simp; done) | (simp; omega)), rfl⟩
  by_cases h2 : hi < n
  · have hvf : v = false := by rw [← hv]; simp only [decide_eq_false_iff_not]; omega
    subst hvf
    clear hv
    go_enter Try.func61, Try.ntmps61
    go_wp2
    go_ret
    exact ⟨ret_b (by first | rfl | (simp; done) | (simp; omega)), rfl⟩
  have hvt : v = true := by rw [← hv]; simp only [decide_eq_true_eq]; omega
  subst hvt
  clear hv
  go_enter Try.func61, Try.ntmps61
  go_wp2
  go_ret
  exact ⟨ret_b (by first | rfl | (simp; done) | (simp; omega)), rfl⟩

set_option maxRecDepth 100000 in
set_option maxHeartbeats 4000000 in
theorem rAtMost_any (n k j num den : Int) (hn : (Lit.int .i64 num).wf = true) (hd : (Lit.int .i64 den).wf = true) (w : World) :
    Calls Try.prog 27 #[.int .i64 n, .int .i64 k, .int .i64 j, frv num den] w fun e w' => e = .returned (.tuple #[.bool (rateS n k j num den).1, .int .i64 (rateS n k j num den).2]) ∧ Below w.heap.size w w' := by
  have k7 := Blk.new w 33 #[.int .i64 num, .int .i64 den]
  have hB := jwd_al (Below.refl _ w) (.cells #[.int .i64 num, .int .i64 den] 33)
  have bad : ¬ ((0 ≤ n ∧ n ≤ 100) ∧ (0 ≤ k ∧ k ≤ n) ∧ (0 ≤ j ∧ j ≤ 256) ∧ limB num den = true) → rateS n k j num den = (false, 2) := fun h => by unfold rateS; rw [if_neg h]
  have tok1 : True := trivial
  have tok2 : True := trivial
  by_cases h1 : 0 ≤ n ∧ n ≤ 100
  case neg =>
    rw [bad (fun h => h1 h.1)]
    have w1 := Lib.hid (fun W => rin_any n 0 100 false (by simp only [decide_eq_false_iff_not]; exact h1) W)
    clear h1 bad
    go_enter Try.func27, Try.ntmps27
    go_wp2_with (go_at_call 61; have _t := tok1; refine (w1.out _).mono ?_; clear _t tok1; rintro e w' ⟨rfl, rfl⟩)
    go_ret2
    exact ⟨rfl, hB⟩
  have w1 := Lib.hid (fun W => rin_any n 0 100 true (by simp only [decide_eq_true_eq]; exact h1) W)
  by_cases h2 : 0 ≤ k ∧ k ≤ n
  case neg =>
    rw [bad (fun h => h2 h.2.1)]
    have w2 := Lib.hid (fun W => rin_any k 0 n false (by simp only [decide_eq_false_iff_not]; exact h2) W)
    clear h1 h2 bad
    go_enter Try.func27, Try.ntmps27
    go_wp2_with (first
      | (go_at_call 61; have _t := tok1; refine (w1.out _).mono ?_; clear _t tok1; rintro e w' ⟨rfl, rfl⟩)
      | (go_at_call 61; have _t := tok2; refine (w2.out _).mono ?_; clear _t tok2; rintro e w' ⟨rfl, rfl⟩))
    go_ret2
    exact ⟨rfl, hB⟩
  have w2 := Lib.hid (fun W => rin_any k 0 n true (by simp only [decide_eq_true_eq]; exact h2) W)
  by_cases h3 : 0 ≤ j ∧ j ≤ 256
  case neg =>
    rw [bad (fun h => h3 h.2.2.1)]
    have w3 := Lib.hid (fun W => rin_any j 0 256 false (by simp only [decide_eq_false_iff_not]; exact h3) W)
    clear h1 h2 h3 bad
    go_enter Try.func27, Try.ntmps27
    go_wp2_with (first
      | (go_at_call 61; have _t := tok1; refine (w1.out _).mono ?_; clear _t tok1; rintro e w' ⟨rfl, rfl⟩)
      | (go_at_call 61; have _t := tok2; refine (w2.out _).mono ?_; clear _t tok2; rintro e w' ⟨rfl, rfl⟩)
      | (go_at_call 61; refine (w3.out _).mono ?_; rintro e w' ⟨rfl, rfl⟩))
    go_ret2
    exact ⟨rfl, hB⟩
  have w3 := Lib.hid (fun W => rin_any j 0 256 true (by simp only [decide_eq_true_eq]; exact h3) W)
  obtain ⟨v, hv⟩ : ∃ v, limB num den = v := ⟨_, rfl⟩
  have hlc := fun W => rLimit_any num den hn hd W
  rw [hv] at hlc
  have hlcH := Lib.hid hlc
  have hvH := Lib.hid hv
  cases v with
  | false =>
    rw [bad (fun h => by rw [hvH.out] at h; cases h.2.2.2)]
    clear h1 h2 h3 bad hlc hv hn hd
    go_enter Try.func27, Try.ntmps27
    go_wp2_with (first
      | (go_at_call 61; have _t := tok1; refine (w1.out _).mono ?_; clear _t tok1; rintro e w' ⟨rfl, rfl⟩)
      | (go_at_call 61; have _t := tok2; refine (w2.out _).mono ?_; clear _t tok2; rintro e w' ⟨rfl, rfl⟩)
      | (go_at_call 61; refine (w3.out _).mono ?_; rintro e w' ⟨rfl, rfl⟩)
      | (go_at_call 62; refine (hlcH.out _).mono ?_; rintro e W4 ⟨rfl, hb4⟩; have hB4 := hB.trans (hb4.mono hB.size); have k74 := k7.below hb4 k7.lt; have c40 := k74.cell (i := 0) rfl; have c41 := k74.cell (i := 1) rfl; clear hb4))
    go_ret2
    exact ⟨rfl, hB4⟩
  | true =>
    obtain ⟨t1, t2, t3⟩ := limB_true hvH.out
    obtain ⟨N, rfl⟩ := Int.eq_ofNat_of_zero_le (show 0 ≤ n by omega)
    obtain ⟨K, rfl⟩ := Int.eq_ofNat_of_zero_le (show 0 ≤ k by omega)
    obtain ⟨R, rfl⟩ := Int.eq_ofNat_of_zero_le (show 0 ≤ j by omega)
    obtain ⟨A, rfl⟩ := Int.eq_ofNat_of_zero_le (show 0 ≤ num by omega)
    obtain ⟨D, rfl⟩ := Int.eq_ofNat_of_zero_le (show 0 ≤ den by omega)
    have hres : rateS N K R A D = (fewB N K R A D, 0) := by unfold rateS; rw [if_pos ⟨h1, h2, h3, hvH.out⟩]; simp only [Int.toNat_natCast]
    rw [hres]
    have hf := Lib.hid (fun W => rFew_any N K R A D (by omega) (by omega) (by omega) (by omega) (by omega) _ rfl W)
    clear h1 h2 h3 bad hlc hv hn hd t1 t2 t3 hres hvH
    obtain ⟨fv, hfv⟩ : ∃ f, fewB N K R A D = f := ⟨_, rfl⟩
    rw [hfv] at hf ⊢
    clear hfv
    go_enter Try.func27, Try.ntmps27
    go_wp2_with (first
      | (go_at_call 61; have _t := tok1; refine (w1.out _).mono ?_; clear _t tok1; rintro e w' ⟨rfl, rfl⟩)
      | (go_at_call 61; have _t := tok2; refine (w2.out _).mono ?_; clear _t tok2; rintro e w' ⟨rfl, rfl⟩)
      | (go_at_call 61; refine (w3.out _).mono ?_; rintro e w' ⟨rfl, rfl⟩)
      | (go_at_call 62; refine (hlcH.out _).mono ?_; rintro e W4 ⟨rfl, hb4⟩; have hB4 := hB.trans (hb4.mono hB.size); have k74 := k7.below hb4 k7.lt; have c40 := k74.cell (i := 0) rfl; have c41 := k74.cell (i := 1) rfl; clear hb4)
      | (go_at_call 63; refine (hf.out _).mono ?_; rintro e W5 ⟨rfl, hb5⟩; have hB5 := hB4.trans (hb5.mono hB4.size); clear hb5))
    go_ret2
    exact ⟨rfl, hB5⟩

set_option maxRecDepth 100000 in
set_option maxHeartbeats 4000000 in
theorem rBound_any (n k num den : Int) (hn : (Lit.int .i64 num).wf = true) (hd : (Lit.int .i64 den).wf = true) (w : World) :
    Calls Try.prog 29 #[.int .i64 n, .int .i64 k, frv num den] w fun e w' => e = .returned (.tuple #[.int .i64 (boundS n k num den).1, .int .i64 (boundS n k num den).2]) ∧ Below w.heap.size w w' := by
  have k7 := Blk.new w 33 #[.int .i64 num, .int .i64 den]
  have hB := jwd_al (Below.refl _ w) (.cells #[.int .i64 num, .int .i64 den] 33)
  have bad : ¬ ((0 ≤ n ∧ n ≤ 100) ∧ (0 ≤ k ∧ k ≤ n) ∧ limB num den = true) → boundS n k num den = (0, 2) := fun h => by unfold boundS; rw [if_neg h]
  have tok1 : True := trivial
  have tok2 : True := trivial
  by_cases h1 : 0 ≤ n ∧ n ≤ 100
  case neg =>
    rw [bad (fun h => h1 h.1)]
    have w1 := Lib.hid (fun W => rin_any n 0 100 false (by simp only [decide_eq_false_iff_not]; exact h1) W)
    clear h1 bad
    go_enter Try.func29, Try.ntmps29
    go_wp2_with (go_at_call 61; have _t := tok1; refine (w1.out _).mono ?_; clear _t tok1; rintro e w' ⟨rfl, rfl⟩)
    go_ret2
    exact ⟨rfl, hB⟩
  have w1 := Lib.hid (fun W => rin_any n 0 100 true (by simp only [decide_eq_true_eq]; exact h1) W)
  by_cases h2 : 0 ≤ k ∧ k ≤ n
  case neg =>
    rw [bad (fun h => h2 h.2.1)]
    have w2 := Lib.hid (fun W => rin_any k 0 n false (by simp only [decide_eq_false_iff_not]; exact h2) W)
    clear h1 h2 bad
    go_enter Try.func29, Try.ntmps29
    go_wp2_with (first
      | (go_at_call 61; have _t := tok1; refine (w1.out _).mono ?_; clear _t tok1; rintro e w' ⟨rfl, rfl⟩)
      | (go_at_call 61; have _t := tok2; refine (w2.out _).mono ?_; clear _t tok2; rintro e w' ⟨rfl, rfl⟩))
    go_ret2
    exact ⟨rfl, hB⟩
  have w2 := Lib.hid (fun W => rin_any k 0 n true (by simp only [decide_eq_true_eq]; exact h2) W)
  obtain ⟨v, hv⟩ : ∃ v, limB num den = v := ⟨_, rfl⟩
  have hlc := fun W => rLimit_any num den hn hd W
  rw [hv] at hlc
  have hlcH := Lib.hid hlc
  have hvH := Lib.hid hv
  cases v with
  | false =>
    rw [bad (fun h => by rw [hvH.out] at h; cases h.2.2)]
    clear h1 h2 bad hlc hv hn hd
    go_enter Try.func29, Try.ntmps29
    go_wp2_with (first
      | (go_at_call 61; have _t := tok1; refine (w1.out _).mono ?_; clear _t tok1; rintro e w' ⟨rfl, rfl⟩)
      | (go_at_call 61; have _t := tok2; refine (w2.out _).mono ?_; clear _t tok2; rintro e w' ⟨rfl, rfl⟩)
      | (go_at_call 62; refine (hlcH.out _).mono ?_; rintro e W4 ⟨rfl, hb4⟩; have hB4 := hB.trans (hb4.mono hB.size); have k74 := k7.below hb4 k7.lt; have c40 := k74.cell (i := 0) rfl; have c41 := k74.cell (i := 1) rfl; clear hb4))
    go_ret2
    exact ⟨rfl, hB4⟩
  | true =>
    obtain ⟨t1, t2, t3⟩ := limB_true hvH.out
    obtain ⟨N, rfl⟩ := Int.eq_ofNat_of_zero_le (show 0 ≤ n by omega)
    obtain ⟨K, rfl⟩ := Int.eq_ofNat_of_zero_le (show 0 ≤ k by omega)
    obtain ⟨A, rfl⟩ := Int.eq_ofNat_of_zero_le (show 0 ≤ num by omega)
    obtain ⟨D, rfl⟩ := Int.eq_ofNat_of_zero_le (show 0 ≤ den by omega)
    have hres : boundS N K A D = (((boundR N K A D : Nat) : Int), (0 : Int)) := by unfold boundS; rw [if_pos ⟨h1, h2, hvH.out⟩]; simp only [Int.toNat_natCast]
    rw [hres]
    have hf := Lib.hid (fun W R (hR : R ≤ 256) => rFew_any N K R A D (by omega) (by omega) hR (by omega) (by omega) _ rfl W)
    clear h1 h2 bad hlc hv hn hd t1 t2 t3 hres hvH
    go_enter Try.func29, Try.ntmps29
    go_wp2_with (first
      | (go_at_call 61; have _t := tok1; refine (w1.out _).mono ?_; clear _t tok1; rintro e w' ⟨rfl, rfl⟩)
      | (go_at_call 61; have _t := tok2; refine (w2.out _).mono ?_; clear _t tok2; rintro e w' ⟨rfl, rfl⟩)
      | (go_at_call 62; refine (hlcH.out _).mono ?_; rintro e W4 ⟨rfl, hb4⟩; have hB4 := hB.trans (hb4.mono hB.size); have k74 := k7.below hb4 k7.lt; have c40 := k74.cell (i := 0) rfl; have c41 := k74.cell (i := 1) rfl; clear hb4))
    go_loopw [8] (fun i wr => ∃ x : Nat, x ≤ 256 ∧ i = .int .i64 (x : Int) ∧ Hid (∀ j, j < x → fewB N K j A D = false) ∧ Blk wr w.heap.size 33 #[.int .i64 (A : Int), .int .i64 (D : Int)] ∧ Below w.heap.size w wr) (fun i _ => 256 - (intOf i).toNat)
    case atStart => exact ⟨0, by omega, rfl, Lib.hid (fun j hj => by omega), k74, hB4⟩
    case round =>
      obtain ⟨x, hx, rfl, hlow, kf, hBw⟩ := hrel
      have c0 := kf.cell (i := 0) rfl
      have c1 := kf.cell (i := 1) rfl
      by_cases hxlt : x < 256
      · obtain ⟨fv, hfv⟩ : ∃ f, fewB N K x A D = f := ⟨_, rfl⟩
        have hfm := hf.out wr x (by omega)
        rw [hfv] at hfm
        have hfmH := Lib.hid hfm
        have hfvH := Lib.hid hfv
        clear hfm hfv
        cases fv with
        | true =>
          have hb := boundR_unique (n := N) (k := K) (num := A) (den := D) (show x ≤ 256 by omega) hlow.out (fun _ => hfvH.out)
          have hbH := Lib.hid hb
          clear hb
          go_wp2_with (go_at_call 63; refine hfmH.out.mono ?_; rintro e W5 ⟨rfl, hb5⟩; have hB5 := hBw.trans (hb5.mono hBw.size); clear hb5)
          go_ret2
          rw [← hbH.out]
          exact ⟨rfl, hB5⟩
        | false =>
          go_wp2_with (go_at_call 63; refine hfmH.out.mono ?_; rintro e W5 ⟨rfl, hb5⟩; have k5 := kf.below hb5 kf.lt; have hB5 := hBw.trans (hb5.mono hBw.size); clear hb5)
          go_roundw
          case rel => exact ⟨x + 1, by omega, by go_num, Lib.hid (fun j hj => by
            by_cases e : j = x
            · subst e; exact hfvH.out
            · exact hlow.out j (by omega)), k5, hB5⟩
          case measure => simp [intOf]; omega
      · have hxe : x = 256 := by omega
        subst hxe
        have hb := boundR_unique (n := N) (k := K) (num := A) (den := D) (Nat.le_refl 256) hlow.out (fun h => by omega)
        have hbH := Lib.hid hb
        clear hb
        go_wp2_with fail
        go_ret2
        rw [← hbH.out]
        exact ⟨rfl, hBw⟩

end Go.Proofs.Ytaejdgjfnoefjaa

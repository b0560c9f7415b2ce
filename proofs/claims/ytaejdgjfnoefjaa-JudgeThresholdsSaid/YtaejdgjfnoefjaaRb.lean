/- The program's bounds of rates. -/
import Derived.Test.YtaejdgjfnoefjaaFw
namespace Go.Proofs.Ytaejdgjfnoefjaa
open Go Go.RowKit Go.Shelf
set_option linter.unusedVariables false
set_option linter.unusedSimpArgs false

/-- Whether the chance of at most k hits is at most a limit, or an error. -/
def rateS (n k j num den : Int) : Bool × Int :=
  if (0 ≤ n ∧ n ≤ 100) ∧ (0 ≤ k ∧ k ≤ n) ∧ (0 ≤ j ∧ j ≤ 256) ∧ limB num den = true then (fewB n.toNat k.toNat j.toNat num.toNat den.toNat, 0) else (false, 2)
/-- The least rate for which it is, or an error. -/
def boundS (n k num den : Int) : Int × Int :=
  if (0 ≤ n ∧ n ≤ 100) ∧ (0 ≤ k ∧ k ≤ n) ∧ limB num den = true then (((boundR n.toNat k.toNat num.toNat den.toNat : Nat) : Int), 0) else (0, 2)

set_option maxRecDepth 100000 in
set_option maxHeartbeats 4000000 in
theorem AtMost_any (n k j num den : Int) (hn : (Lit.int .i64 num).wf = true) (hd : (Lit.int .i64 den).wf = true) (w : World) :
    Calls Try.prog 26 #[.int .i64 n, .int .i64 k, .int .i64 j, frv num den] w fun e w' => e = .returned (.tuple #[.bool (rateS n k j num den).1, .int .i64 (rateS n k j num den).2]) ∧ Below w.heap.size w w' := by
  have k7 := Blk.new w 33 #[.int .i64 num, .int .i64 den]
  have hB := jwd_al (Below.refl _ w) (.cells #[.int .i64 num, .int .i64 den] 33)
  have q1 := by simpa only [World.size_alloc] using Blk.new (w.alloc (.cells #[.int .i64 num, .int .i64 den] 33)) 3 #[.int .i64 n]
  have hB1 := jwd_al hB (.cells #[.int .i64 n] 3)
  have k71 := k7.alloc (.cells #[.int .i64 n] 3)
  have q2 := by simpa only [World.size_alloc] using Blk.new ((w.alloc (.cells #[.int .i64 num, .int .i64 den] 33)).alloc (.cells #[.int .i64 n] 3)) 3 #[.int .i64 k]
  have hB2 := jwd_al hB1 (.cells #[.int .i64 k] 3)
  have k72 := k71.alloc (.cells #[.int .i64 k] 3)
  have q3 := by simpa only [World.size_alloc] using Blk.new (((w.alloc (.cells #[.int .i64 num, .int .i64 den] 33)).alloc (.cells #[.int .i64 n] 3)).alloc (.cells #[.int .i64 k] 3)) 3 #[.int .i64 j]
  have hB3 := jwd_al hB2 (.cells #[.int .i64 j] 3)
  have k73 := k72.alloc (.cells #[.int .i64 j] 3)
  have bad : ¬ ((0 ≤ n ∧ n ≤ 100) ∧ (0 ≤ k ∧ k ≤ n) ∧ (0 ≤ j ∧ j ≤ 256) ∧ limB num den = true) → rateS n k j num den = (false, 2) := fun h => by unfold rateS; rw [if_neg h]
  have tok1 : True := trivial
  have tok2 : True := trivial
  by_cases h1 : 0 ≤ n ∧ n ≤ 100
  case neg =>
    rw [bad (fun h => h1 h.1)]
    have w1 := Lib.hid (tk_one 0 100 n false (by simp only [decide_eq_false_iff_not]; exact h1) _ 1 _ _ q1)
    clear h1 bad
    go_enter Try.func26, Try.ntmps26
    go_wp2_with (go_at_call 36; have _t := tok1; refine w1.out.mono ?_; clear _t tok1; rintro e w' ⟨rfl, rfl⟩)
    go_ret2
    exact ⟨rfl, hB1⟩
  have w1 := Lib.hid (tk_one 0 100 n true (by simp only [decide_eq_true_eq]; exact h1) _ 1 _ _ q1)
  by_cases h2 : 0 ≤ k ∧ k ≤ n
  case neg =>
    rw [bad (fun h => h2 h.2.1)]
    have w2 := Lib.hid (tk_one 0 n k false (by simp only [decide_eq_false_iff_not]; exact h2) _ 1 _ _ q2)
    clear h1 h2 bad
    go_enter Try.func26, Try.ntmps26
    go_wp2_with (first
      | (go_at_call 36; have _t := tok1; refine w1.out.mono ?_; clear _t tok1; rintro e w' ⟨rfl, rfl⟩)
      | (go_at_call 36; have _t := tok2; refine w2.out.mono ?_; clear _t tok2; rintro e w' ⟨rfl, rfl⟩))
    go_ret2
    exact ⟨rfl, hB2⟩
  have w2 := Lib.hid (tk_one 0 n k true (by simp only [decide_eq_true_eq]; exact h2) _ 1 _ _ q2)
  by_cases h3 : 0 ≤ j ∧ j ≤ 256
  case neg =>
    rw [bad (fun h => h3 h.2.2.1)]
    have w3 := Lib.hid (tk_one 0 256 j false (by simp only [decide_eq_false_iff_not]; exact h3) _ 1 _ _ q3)
    clear h1 h2 h3 bad
    go_enter Try.func26, Try.ntmps26
    go_wp2_with (first
      | (go_at_call 36; have _t := tok1; refine w1.out.mono ?_; clear _t tok1; rintro e w' ⟨rfl, rfl⟩)
      | (go_at_call 36; have _t := tok2; refine w2.out.mono ?_; clear _t tok2; rintro e w' ⟨rfl, rfl⟩)
      | (go_at_call 36; refine w3.out.mono ?_; rintro e w' ⟨rfl, rfl⟩))
    go_ret2
    exact ⟨rfl, hB3⟩
  have w3 := Lib.hid (tk_one 0 256 j true (by simp only [decide_eq_true_eq]; exact h3) _ 1 _ _ q3)
  obtain ⟨v, hv⟩ : ∃ v, limB num den = v := ⟨_, rfl⟩
  have hlc := fun W => limit_any num den hn hd W
  rw [hv] at hlc
  have hlcH := Lib.hid hlc
  have hvH := Lib.hid hv
  cases v with
  | false =>
    rw [bad (fun h => by rw [hvH.out] at h; cases h.2.2.2)]
    clear h1 h2 h3 bad hlc hv hn hd
    go_enter Try.func26, Try.ntmps26
    go_wp2_with (first
      | (go_at_call 36; have _t := tok1; refine w1.out.mono ?_; clear _t tok1; rintro e w' ⟨rfl, rfl⟩)
      | (go_at_call 36; have _t := tok2; refine w2.out.mono ?_; clear _t tok2; rintro e w' ⟨rfl, rfl⟩)
      | (go_at_call 36; refine w3.out.mono ?_; rintro e w' ⟨rfl, rfl⟩)
      | (go_at_call 49; have c0 := k73.cell (i := 0) rfl; refine (hlcH.out _).mono ?_; rintro e W4 ⟨rfl, hb4⟩; have hB4 := hB3.trans (hb4.mono hB3.size); have k74 := k73.below hb4 k73.lt; have c40 := k74.cell (i := 0) rfl; have c41 := k74.cell (i := 1) rfl; clear hb4 c0))
    go_ret2
    exact ⟨rfl, hB4⟩
  | true =>
    obtain ⟨t1, t2, t3⟩ := limB_true hvH.out
    obtain ⟨N, rfl⟩ := Int.eq_ofNat_of_zero_le (show 0 ≤ n by omega)
    obtain ⟨K, rfl⟩ := Int.eq_ofNat_of_zero_le (show 0 ≤ k by omega)
    obtain ⟨R, rfl⟩ := Int.eq_ofNat_of_zero_le (show 0 ≤ j by omega)
    obtain ⟨A, rfl⟩ := Int.eq_ofNat_of_zero_le (show 0 ≤ num by omega)
    obtain ⟨D, rfl⟩ := Int.eq_ofNat_of_zero_le (show 0 ≤ den by omega)
    have hres : rateS N K R A D = (fewB N K R A D, 0) := by unfold rateS; rw [if_pos ⟨h1, h2, h3, hvH.out⟩]; simp only [Int.toNat_natCast]
    rw [hres]
    have hf := Lib.hid (fun W => few_any N K R A D (by omega) (by omega) (by omega) (by omega) (by omega) (by omega) _ rfl W)
    clear h1 h2 h3 bad hlc hv hn hd t1 t2 t3 hres hvH
    obtain ⟨fv, hfv⟩ : ∃ f, fewB N K R A D = f := ⟨_, rfl⟩
    rw [hfv] at hf ⊢
    clear hfv
    go_enter Try.func26, Try.ntmps26
    go_wp2_with (first
      | (go_at_call 36; have _t := tok1; refine w1.out.mono ?_; clear _t tok1; rintro e w' ⟨rfl, rfl⟩)
      | (go_at_call 36; have _t := tok2; refine w2.out.mono ?_; clear _t tok2; rintro e w' ⟨rfl, rfl⟩)
      | (go_at_call 36; refine w3.out.mono ?_; rintro e w' ⟨rfl, rfl⟩)
      | (go_at_call 49; have c0 := k73.cell (i := 0) rfl; refine (hlcH.out _).mono ?_; rintro e W4 ⟨rfl, hb4⟩; have hB4 := hB3.trans (hb4.mono hB3.size); have k74 := k73.below hb4 k73.lt; have c40 := k74.cell (i := 0) rfl; have c41 := k74.cell (i := 1) rfl; clear hb4 c0)
      | (go_at_call 60; refine (hf.out _).mono ?_; rintro e W5 ⟨rfl, hb5⟩; have hB5 := hB4.trans (hb5.mono hB4.size); clear hb5))
    go_ret2
    exact ⟨rfl, hB5⟩

set_option maxRecDepth 100000 in
set_option maxHeartbeats 4000000 in
theorem Bound_any (n k num den : Int) (hn : (Lit.int .i64 num).wf = true) (hd : (Lit.int .i64 den).wf = true) (w : World) :
    Calls Try.prog 28 #[.int .i64 n, .int .i64 k, frv num den] w fun e w' => e = .returned (.tuple #[.int .i64 (boundS n k num den).1, .int .i64 (boundS n k num den).2]) ∧ Below w.heap.size w w' := by
  have k7 := Blk.new w 33 #[.int .i64 num, .int .i64 den]
  have hB := jwd_al (Below.refl _ w) (.cells #[.int .i64 num, .int .i64 den] 33)
  have q1 := by simpa only [World.size_alloc] using Blk.new (w.alloc (.cells #[.int .i64 num, .int .i64 den] 33)) 3 #[.int .i64 n]
  have hB1 := jwd_al hB (.cells #[.int .i64 n] 3)
  have k71 := k7.alloc (.cells #[.int .i64 n] 3)
  have q2 := by simpa only [World.size_alloc] using Blk.new ((w.alloc (.cells #[.int .i64 num, .int .i64 den] 33)).alloc (.cells #[.int .i64 n] 3)) 3 #[.int .i64 k]
  have hB2 := jwd_al hB1 (.cells #[.int .i64 k] 3)
  have k72 := k71.alloc (.cells #[.int .i64 k] 3)
  have bad : ¬ ((0 ≤ n ∧ n ≤ 100) ∧ (0 ≤ k ∧ k ≤ n) ∧ limB num den = true) → boundS n k num den = (0, 2) := fun h => by unfold boundS; rw [if_neg h]
  have tok1 : True := trivial
  have tok2 : True := trivial
  by_cases h1 : 0 ≤ n ∧ n ≤ 100
  case neg =>
    rw [bad (fun h => h1 h.1)]
    have w1 := Lib.hid (tk_one 0 100 n false (by simp only [decide_eq_false_iff_not]; exact h1) _ 1 _ _ q1)
    clear h1 bad
    go_enter Try.func28, Try.ntmps28
    go_wp2_with (go_at_call 36; have _t := tok1; refine w1.out.mono ?_; clear _t tok1; rintro e w' ⟨rfl, rfl⟩)
    go_ret2
    exact ⟨rfl, hB1⟩
  have w1 := Lib.hid (tk_one 0 100 n true (by simp only [decide_eq_true_eq]; exact h1) _ 1 _ _ q1)
  by_cases h2 : 0 ≤ k ∧ k ≤ n
  case neg =>
    rw [bad (fun h => h2 h.2.1)]
    have w2 := Lib.hid (tk_one 0 n k false (by simp only [decide_eq_false_iff_not]; exact h2) _ 1 _ _ q2)
    clear h1 h2 bad
    go_enter Try.func28, Try.ntmps28
    go_wp2_with (first
      | (go_at_call 36; have _t := tok1; refine w1.out.mono ?_; clear _t tok1; rintro e w' ⟨rfl, rfl⟩)
      | (go_at_call 36; have _t := tok2; refine w2.out.mono ?_; clear _t tok2; rintro e w' ⟨rfl, rfl⟩))
    go_ret2
    exact ⟨rfl, hB2⟩
  have w2 := Lib.hid (tk_one 0 n k true (by simp only [decide_eq_true_eq]; exact h2) _ 1 _ _ q2)
  obtain ⟨v, hv⟩ : ∃ v, limB num den = v := ⟨_, rfl⟩
  have hlc := fun W => limit_any num den hn hd W
  rw [hv] at hlc
  have hlcH := Lib.hid hlc
  have hvH := Lib.hid hv
  cases v with
  | false =>
    rw [bad (fun h => by rw [hvH.out] at h; cases h.2.2)]
    clear h1 h2 bad hlc hv hn hd
    go_enter Try.func28, Try.ntmps28
    go_wp2_with (first
      | (go_at_call 36; have _t := tok1; refine w1.out.mono ?_; clear _t tok1; rintro e w' ⟨rfl, rfl⟩)
      | (go_at_call 36; have _t := tok2; refine w2.out.mono ?_; clear _t tok2; rintro e w' ⟨rfl, rfl⟩)
      | (go_at_call 49; have c0 := k72.cell (i := 0) rfl; refine (hlcH.out _).mono ?_; rintro e W4 ⟨rfl, hb4⟩; have hB4 := hB2.trans (hb4.mono hB2.size); have k74 := k72.below hb4 k72.lt; have c40 := k74.cell (i := 0) rfl; have c41 := k74.cell (i := 1) rfl; clear hb4 c0))
    go_ret2
    exact ⟨rfl, hB4⟩
  | true =>
    obtain ⟨t1, t2, t3⟩ := limB_true hvH.out
    obtain ⟨N, rfl⟩ := Int.eq_ofNat_of_zero_le (show 0 ≤ n by omega)
    obtain ⟨K, rfl⟩ := Int.eq_ofNat_of_zero_le (show 0 ≤ k by omega)
    obtain ⟨A, rfl⟩ := Int.eq_ofNat_of_zero_le (show 0 ≤ num by omega)
    obtain ⟨D, rfl⟩ := Int.eq_ofNat_of_zero_le (show 0 ≤ den by omega)
    have hres : boundS N K A D = (((boundR N K A D : Nat) : Int), (0 : Int)) := by unfold boundS; rw [if_pos ⟨h1, h2, hvH.out⟩]; simp only [Int.toNat_natCast]
    rw [hres]
    have hf := Lib.hid (fun W R (hR : R ≤ 256) => few_any N K R A D (by omega) (by omega) hR (by omega) (by omega) (by omega) _ rfl W)
    clear h1 h2 bad hlc hv hn hd t1 t2 t3 hres hvH
    go_enter Try.func28, Try.ntmps28
    go_wp2_with (first
      | (go_at_call 36; have _t := tok1; refine w1.out.mono ?_; clear _t tok1; rintro e w' ⟨rfl, rfl⟩)
      | (go_at_call 36; have _t := tok2; refine w2.out.mono ?_; clear _t tok2; rintro e w' ⟨rfl, rfl⟩)
      | (go_at_call 49; have c0 := k72.cell (i := 0) rfl; refine (hlcH.out _).mono ?_; rintro e W4 ⟨rfl, hb4⟩; have hB4 := hB2.trans (hb4.mono hB2.size); have k74 := k72.below hb4 k72.lt; have c40 := k74.cell (i := 0) rfl; have c41 := k74.cell (i := 1) rfl; clear hb4 c0))
    go_loopw [8, 9, 10] (fun lv hv _ wr => ∃ lo hi : Nat, lo ≤ hi ∧ hi ≤ 256 ∧ Hid (lv = .int .i64 ((lo : Int) - 1)) ∧ hv = .int .i64 (hi : Int) ∧ Hid (∀ j, j < lo → fewB N K j A D = false) ∧ Hid (hi < 256 → fewB N K hi A D = true) ∧ Blk wr w.heap.size 33 #[.int .i64 (A : Int), .int .i64 (D : Int)] ∧ Below w.heap.size w wr) (fun lv hv _ _ => (intOf hv - intOf lv).toNat)
    case atStart => exact ⟨0, 256, by omega, by omega, Lib.hid rfl, rfl, Lib.hid (fun j hj => by omega), Lib.hid (fun h => by omega), k74, hB4⟩
    case round =>
      obtain ⟨lo, hi, hlh, hh, hlv, rfl, hlow, hhigh, kf, hBw⟩ := hrel
      obtain ⟨L, hL⟩ : ∃ L : Int, (lo : Int) - 1 = L := ⟨_, rfl⟩
      have hlv2 := hlv.out
      rw [hL] at hlv2
      subst hlv2
      have hLb : L = (lo : Int) - 1 := hL.symm
      have c0 := kf.cell (i := 0) rfl
      have c1 := kf.cell (i := 1) rfl
      have hL1 : L + 1 = (lo : Int) := by omega
      have hL1H := Lib.hid hL1
      by_cases hgo : lo < hi
      · obtain ⟨m, hm⟩ : ∃ m, (lo + hi - 1) / 2 = m := ⟨_, rfl⟩
        have hm1 : lo ≤ m ∧ m < hi := by omega
        have hs : L + (hi : Int) = ((lo + hi - 1 : Nat) : Int) := by omega
        obtain ⟨s, hss⟩ : ∃ s, lo + hi - 1 = s := ⟨_, rfl⟩
        rw [hss] at hs hm
        have hsb : s ≤ 512 := by omega
        have hm2 : (s : Int) / 2 = (m : Int) := by omega
        have hgt : 1 < (hi : Int) - L := by omega
        obtain ⟨fv, hfv⟩ : ∃ f, fewB N K m A D = f := ⟨_, rfl⟩
        have hfm := hf.out wr m (by omega)
        rw [hfv] at hfm
        have hfmH := Lib.hid hfm
        have hfvH := Lib.hid hfv
        have hLlo : -1 ≤ L := by omega
        have hLhi : L ≤ 256 := by omega
        clear hL hLb hL1 hm hss hfm hfv hlv
        cases fv with
        | true =>
          go_wp2_with (go_at_call 60; refine hfmH.out.mono ?_; rintro e W5 ⟨rfl, hb5⟩; have k5 := kf.below hb5 kf.lt; have hB5 := hBw.trans (hb5.mono hBw.size); clear hb5)
          go_roundw
          case rel => exact ⟨lo, m, by omega, by omega, Lib.hid (by have := hL1H.out; congr 1; omega), rfl, hlow, Lib.hid (fun _ => hfvH.out), k5, hB5⟩
          case measure => simp [intOf] <;> omega
        | false =>
          go_wp2_with (go_at_call 60; refine hfmH.out.mono ?_; rintro e W5 ⟨rfl, hb5⟩; have k5 := kf.below hb5 kf.lt; have hB5 := hBw.trans (hb5.mono hBw.size); clear hb5)
          go_roundw
          case rel => exact ⟨m + 1, hi, by omega, by omega, Lib.hid (by simp), rfl, Lib.hid (fun j hj => by
            cases hjm : fewB N K j A D with
            | false => rfl
            | true => have := fewB_rate (show j ≤ m by omega) (by omega) hjm; rw [hfvH.out] at this; cases this), hhigh, k5, hB5⟩
          case measure => simp [intOf] <;> omega
      · have hlohi : lo = hi := by omega
        subst hlohi
        have hb := boundR_unique (n := N) (k := K) (num := A) (den := D) hh hlow.out hhigh.out
        have hgt : ¬ 1 < (lo : Int) - L := by omega
        have hLlo : -1 ≤ L := by omega
        have hLhi : L ≤ 256 := by omega
        have hbH := Lib.hid hb
        clear hb hL hLb hL1 hlv
        go_wp2_with fail
        go_ret2
        rw [← hbH.out]
        exact ⟨rfl, hBw⟩

end Go.Proofs.Ytaejdgjfnoefjaa

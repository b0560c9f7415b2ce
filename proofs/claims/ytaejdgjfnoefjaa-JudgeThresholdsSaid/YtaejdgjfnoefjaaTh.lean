/- Scores and costs of the specification. -/
import Derived.Test.YtaejdgjfnoefjaaTs
import Derived.Test.YtaejdgjfnoefjaaThr
import Derived.Test.YtaejdgjfnoefjaaRr
namespace Go.Proofs.Ytaejdgjfnoefjaa
open Go Go.RowKit Go.Shelf
set_option linter.unusedVariables false
set_option linter.unusedSimpArgs false

/-- A list of scores is valid. -/
def scoB (xs : List Int) : Bool := decide (xs.length ≤ 100) && allIn (-1152921504606846976) 1152921504606846976 xs
set_option maxRecDepth 100000 in
set_option maxHeartbeats 1000000 in
theorem rScores_any (a : Option Addr) (c n : Nat) (xs : List Int) (hn : xs.length = n) (hbig : n ≤ 9223372036854775807) (w : World) (hr : Rd w.heap.size w a xs) :
    Calls Try.prog 78 #[.slice a n c] w fun e w' => e = .returned (.bool (scoB xs)) ∧ w = w' := by
  obtain ⟨v, hv⟩ : ∃ v, scoB xs = v := ⟨_, rfl⟩
  rw [hv]
  have hvH := Lib.hid hv
  have hnH := Lib.hid hn
  clear hv hn
  by_cases h100 : n ≤ 100
  case neg =>
    have hvf : v = false := by rw [← hvH.out]; unfold scoB; rw [hnH.out]; simp [h100]
    subst hvf
    clear hvH
    go_enter Try.func78, Try.ntmps78
    go_wp2
    go_ret
    exact ⟨rfl, rfl⟩
  go_enter Try.func78, Try.ntmps78
  go_wp2
  go_loop [3] (fun i => ∃ k : Nat, k ≤ n ∧ i = .int .i64 (k : Int) ∧ allIn (-1152921504606846976) 1152921504606846976 (xs.take k) = true) (fun i => n - (intOf i).toNat)
  case atStart => exact ⟨0, Nat.zero_le _, rfl, by simp [allIn]⟩
  case round =>
    obtain ⟨k, hk, rfl, hall⟩ := hrel
    by_cases hlt : k < n
    · have hlx : k < xs.length := by have := hnH.out; omega
      rcases hr with h0 | ⟨b, o, rfl, hb, hc⟩
      · subst h0; simp at hlx
      have hcell := hc k hlx
      obtain ⟨x, hx⟩ : ∃ x, xs[k]?.getD 0 = x := ⟨_, rfl⟩
      rw [hx] at hcell
      have hxH := Lib.hid hx
      clear hx hc
      cases hd : decide (-1152921504606846976 ≤ x ∧ x ≤ 1152921504606846976) with
      | true =>
        have hcall : ∀ lo hi, lo = (-1152921504606846976 : Int) → hi = (1152921504606846976 : Int) → _ := fun lo hi h1 h2 => rin_any x lo hi true (by rw [h1, h2]; exact hd) w
        have hcallH := Lib.hid hcall
        clear hcall
        have hdH := Lib.hid hd
        have hallH := Lib.hid hall
        clear hd hall
        go_wp2_with (go_at_call 61; refine (hcallH.out _ _ (by omega) (by omega)).mono ?_; rintro e w1 ⟨rfl, rfl⟩)
        go_round
        case rel => exact ⟨k + 1, by omega, by go_num, allIn_succ hlx hallH.out (by rw [hxH.out]; exact (of_decide_eq_true hdH.out).1) (by rw [hxH.out]; exact (of_decide_eq_true hdH.out).2)⟩
        case measure => simp [intOf]; omega
      | false =>
        have hcall : ∀ lo hi, lo = (-1152921504606846976 : Int) → hi = (1152921504606846976 : Int) → _ := fun lo hi h1 h2 => rin_any x lo hi false (by rw [h1, h2]; exact hd) w
        have hcallH := Lib.hid hcall
        clear hcall
        have hvf : v = false := by rw [← hvH.out]; unfold scoB; rw [allIn_false hlx (by rw [hxH.out]; have := of_decide_eq_false hd; omega), Bool.and_false]
        subst hvf
        clear hd hall
        go_wp2_with (go_at_call 61; refine (hcallH.out _ _ (by omega) (by omega)).mono ?_; rintro e w1 ⟨rfl, rfl⟩)
        go_ret
        exact ⟨rfl, rfl⟩
    · have hkn : k = n := by omega
      subst hkn
      have hvt : v = true := by
        rw [← hvH.out]
        unfold scoB
        have e := hall
        rw [← hnH.out, List.take_length] at e
        rw [e, hnH.out]
        simp [h100]
      subst hvt
      clear hall hvH
      go_wp2
      go_ret
      exact ⟨rfl, rfl⟩

theorem costL_take {f : Int → Int} {xs : List Int} {k : Nat} (hk : k < xs.length) : costL f (xs.take (k + 1)) = costL f (xs.take k) + f (xs[k]?.getD 0) := by
  rw [List.take_succ_eq_append_getElem hk, costL_snoc, List.getElem?_eq_getElem hk]
  rfl
theorem costB_bd {miss t : Int} {l : List Int} (h0 : 0 ≤ miss) (h1 : miss ≤ 10000) (hl : l.length ≤ 100) : 0 ≤ costL (badC miss t) l ∧ costL (badC miss t) l ≤ 1000000 := by
  have := costL_bd (f := badC miss t) (B := 10000) (l := l) fun s _ => by unfold badC; split <;> omega
  omega
theorem costG_bd {alarm t : Int} {l : List Int} (h0 : 0 ≤ alarm) (h1 : alarm ≤ 10000) (hl : l.length ≤ 100) : 0 ≤ costL (goodC alarm t) l ∧ costL (goodC alarm t) l ≤ 1000000 := by
  have := costL_bd (f := goodC alarm t) (B := 10000) (l := l) fun s _ => by unfold goodC; split <;> omega
  omega

set_option maxRecDepth 100000 in
set_option maxHeartbeats 2000000 in
theorem Cost_any (ga ba : Option Addr) (gc bc gn bn : Nat) (gs bs : List Int) (hgn : gs.length = gn) (hbn : bs.length = bn) (hg1 : gn ≤ 100) (hb1 : bn ≤ 100) (miss alarm t : Int) (hm0 : 0 ≤ miss) (hm1 : miss ≤ 10000) (ha0 : 0 ≤ alarm) (ha1 : alarm ≤ 10000)
    (w : World) (hrg : Rd w.heap.size w ga gs) (hrb : Rd w.heap.size w ba bs) :
    Calls Try.prog 79 #[.slice ga gn gc, .slice ba bn bc, .int .i64 miss, .int .i64 alarm, .int .i64 t] w fun e w' => e = .returned (.int .i64 (costT gs bs miss alarm t)) ∧ w = w' := by
  have hgnH := Lib.hid hgn
  have hbnH := Lib.hid hbn
  have hbbH := Lib.hid (fun k => costB_bd (t := t) hm0 hm1 (l := bs.take k) (by simp; omega))
  have hggH := Lib.hid (fun k => costG_bd (t := t) ha0 ha1 (l := gs.take k) (by simp; omega))
  have hgH := Lib.hid hrg
  have hbH := Lib.hid hrb
  clear hgn hbn hrg hrb
  go_enter Try.func79, Try.ntmps79
  go_wp2
  go_loop [11, 12] (fun s i => ∃ (k : Nat) (z : Int), k ≤ bn ∧ i = .int .i64 (k : Int) ∧ s = .int .i64 z ∧ Hid (costL (badC miss t) (bs.take k) = z) ∧ 0 ≤ z ∧ z ≤ 1000000) (fun _ i => bn - (intOf i).toNat)
  case atStart => exact ⟨0, 0, Nat.zero_le _, rfl, rfl, Lib.hid rfl, by omega, by omega⟩
  case round =>
    obtain ⟨k, z, hk, rfl, rfl, hz, hz0, hz1⟩ := hrel
    by_cases hlt : k < bn
    · have hlx : k < bs.length := by have := hbnH.out; omega
      rcases hbH.out with h0 | ⟨b, o, rfl, hb, hc⟩
      · subst h0; simp at hlx
      have hcell := hc k hlx
      obtain ⟨x, hx⟩ : ∃ x, bs[k]?.getD 0 = x := ⟨_, rfl⟩
      rw [hx] at hcell
      have hst := costL_take (f := badC miss t) hlx
      rw [hx, hz.out] at hst
      have hbd := hbbH.out (k + 1)
      rw [hst] at hbd
      have hstH := Lib.hid hst
      clear hst hx hc
      by_cases hxt : t ≤ x
      · have hb2 : badC miss t x = miss := by unfold badC; rw [if_pos hxt]
        rw [hb2] at hbd hstH
        go_wp2
        go_round
        case rel => exact ⟨k + 1, z + miss, by omega, by go_num, by go_num, hstH, by omega, by omega⟩
        case measure => simp [intOf]; omega
      · have hb2 : badC miss t x = 0 := by unfold badC; rw [if_neg hxt]
        rw [hb2, Int.add_zero] at hbd hstH
        go_wp2
        go_round
        case rel => exact ⟨k + 1, z, by omega, by go_num, rfl, hstH, by omega, by omega⟩
        case measure => simp [intOf]; omega
    · have hkn : k = bn := by omega
      subst hkn
      have hzB : costL (badC miss t) bs = z := by have := hz.out; rw [← hbnH.out, List.take_length] at this; exact this
      have hzBH := Lib.hid hzB
      clear hzB hz
      go_wp2
      go_loop [11, 13] (fun s i => ∃ (j : Nat) (y : Int), j ≤ gn ∧ i = .int .i64 (j : Int) ∧ s = .int .i64 (z + y) ∧ Hid (costL (goodC alarm t) (gs.take j) = y) ∧ 0 ≤ y ∧ y ≤ 1000000) (fun _ i => gn - (intOf i).toNat)
      case atStart => exact ⟨0, 0, Nat.zero_le _, rfl, by simp, Lib.hid rfl, by omega, by omega⟩
      case round =>
        obtain ⟨j, y, hj, rfl, rfl, hy, hy0, hy1⟩ := hrel
        by_cases hlt2 : j < gn
        · have hlx : j < gs.length := by have := hgnH.out; omega
          rcases hgH.out with h0 | ⟨b, o, rfl, hb, hc⟩
          · subst h0; simp at hlx
          have hcell := hc j hlx
          obtain ⟨x, hx⟩ : ∃ x, gs[j]?.getD 0 = x := ⟨_, rfl⟩
          rw [hx] at hcell
          have hst := costL_take (f := goodC alarm t) hlx
          rw [hx, hy.out] at hst
          have hbd := hggH.out (j + 1)
          rw [hst] at hbd
          have hstH := Lib.hid hst
          clear hst hx hc
          by_cases hxt : x < t
          · have hb2 : goodC alarm t x = alarm := by unfold goodC; rw [if_pos hxt]
            rw [hb2] at hbd hstH
            go_wp2
            go_round
            case rel => exact ⟨j + 1, y + alarm, by omega, by go_num, by go_num, hstH, by omega, by omega⟩
            case measure => simp [intOf]; omega
          · have hb2 : goodC alarm t x = 0 := by unfold goodC; rw [if_neg hxt]
            rw [hb2, Int.add_zero] at hbd hstH
            go_wp2
            go_round
            case rel => exact ⟨j + 1, y, by omega, by go_num, rfl, hstH, by omega, by omega⟩
            case measure => simp [intOf]; omega
        · have hjn : j = gn := by omega
          subst hjn
          have hyG : costL (goodC alarm t) gs = y := by have := hy.out; rw [← hgnH.out, List.take_length] at this; exact this
          have hres : costT gs bs miss alarm t = z + y := by unfold costT; rw [hyG, hzBH.out, Int.add_comm]
          have hresH := Lib.hid hres
          clear hy hyG hzBH hres hbbH hggH
          go_wp2
          go_ret
          rw [hresH.out]
          exact ⟨rfl, rfl⟩

end Go.Proofs.Ytaejdgjfnoefjaa

/- The walk of the law JudgeCheapest: it returns true, and nothing that lay has turned. -/
import Derived.Test.YtbfigbpjoaccdaaGreatQA21
import Derived.Test.YtbfigbpjoaccdaaGreatQA20
namespace Go.Proofs.YtbfigbpjoaccdaaGreat
open Go Go.RowKit Go.Shelf
set_option linter.unusedVariables false
set_option linter.unusedSimpArgs false

set_option maxRecDepth 100000 in
set_option maxHeartbeats 2000000 in
theorem lcost_any (ga ba : Option Addr) (gc bc gn bn : Nat) (gs bs : List Int) (hgn : gs.length = gn) (hbn : bs.length = bn) (hg1 : gn ≤ 100) (hb1 : bn ≤ 100) (miss alarm t : Int) (hm0 : 0 ≤ miss) (hm1 : miss ≤ 10000) (ha0 : 0 ≤ alarm) (ha1 : alarm ≤ 10000)
    (w : World) (hrg : Rd w.heap.size w ga gs) (hrb : Rd w.heap.size w ba bs) :
    Calls Tryz.prog 27 #[.slice ga gn gc, .slice ba bn bc, .int .i64 miss, .int .i64 alarm, .int .i64 t] w fun e w' => e = .returned (.int .i64 (costT gs bs miss alarm t)) ∧ w = w' := by
  have hgnH := Lib.hid hgn
  have hbnH := Lib.hid hbn
  have hbbH := Lib.hid (fun k => costB_bd (t := t) hm0 hm1 (l := bs.take k) (by simp; omega))
  have hggH := Lib.hid (fun k => costG_bd (t := t) ha0 ha1 (l := gs.take k) (by simp; omega))
  have hgH := Lib.hid hrg
  have hbH := Lib.hid hrb
  clear hgn hbn hrg hrb
  go_enter Tryz.func27, Tryz.ntmps27
  go_wp2
  go_loop [11, 12] (fun s i => ∃ (k : Nat) (z : Int), k ≤ gn ∧ i = .int .i64 (k : Int) ∧ s = .int .i64 z ∧ Hid (costL (goodC alarm t) (gs.take k) = z) ∧ 0 ≤ z ∧ z ≤ 1000000) (fun _ i => gn - (intOf i).toNat)
  case atStart => exact ⟨0, 0, Nat.zero_le _, rfl, rfl, Lib.hid rfl, by omega, by omega⟩
  case round =>
    obtain ⟨k, z, hk, rfl, rfl, hz, hz0, hz1⟩ := hrel
    by_cases hlt : k < gn
    case pos =>
      have hlx : k < gs.length := by have := hgnH.out; omega
      rcases hgH.out with h0 | ⟨b, o, rfl, hb, hc⟩
      · subst h0; simp at hlx
      have hcell := hc k hlx
      obtain ⟨x, hx⟩ : ∃ x, gs[k]?.getD 0 = x := ⟨_, rfl⟩
      rw [hx] at hcell
      have hst := costL_take (f := goodC alarm t) hlx
      rw [hx, hz.out] at hst
      have hbd := hggH.out (k + 1)
      rw [hst] at hbd
      have hstH := Lib.hid hst
      clear hst hx hc
      by_cases hxt : x < t
      · have hb2 : goodC alarm t x = alarm := by unfold goodC; rw [if_pos hxt]
        rw [hb2] at hbd hstH
        go_wp2
        go_round
        case rel => exact ⟨k + 1, z + alarm, by omega, by go_num, by go_num, hstH, by omega, by omega⟩
        case measure => simp [intOf]; omega
      · have hb2 : goodC alarm t x = 0 := by unfold goodC; rw [if_neg hxt]
        rw [hb2, Int.add_zero] at hbd hstH
        go_wp2
        go_round
        case rel => exact ⟨k + 1, z, by omega, by go_num, rfl, hstH, by omega, by omega⟩
        case measure => simp [intOf]; omega
    case neg =>
      have hkn : k = gn := by omega
      subst hkn
      have hzB : costL (goodC alarm t) gs = z := by have := hz.out; rw [← hgnH.out, List.take_length] at this; exact this
      have hzBH := Lib.hid hzB
      clear hzB hz
      go_wp2
      go_loop [11, 13] (fun s i => ∃ (j : Nat) (y : Int), j ≤ bn ∧ i = .int .i64 (j : Int) ∧ s = .int .i64 (z + y) ∧ Hid (costL (badC miss t) (bs.take j) = y) ∧ 0 ≤ y ∧ y ≤ 1000000) (fun _ i => bn - (intOf i).toNat)
      case atStart => exact ⟨0, 0, Nat.zero_le _, rfl, by simp, Lib.hid rfl, by omega, by omega⟩
      case round =>
        obtain ⟨j, y, hj, rfl, rfl, hy, hy0, hy1⟩ := hrel
        by_cases hlt2 : j < bn
        case pos =>
          have hlx : j < bs.length := by have := hbnH.out; omega
          rcases hbH.out with h0 | ⟨b, o, rfl, hb, hc⟩
          · subst h0; simp at hlx
          have hcell := hc j hlx
          obtain ⟨x, hx⟩ : ∃ x, bs[j]?.getD 0 = x := ⟨_, rfl⟩
          rw [hx] at hcell
          have hst := costL_take (f := badC miss t) hlx
          rw [hx, hy.out] at hst
          have hbd := hbbH.out (j + 1)
          rw [hst] at hbd
          have hstH := Lib.hid hst
          clear hst hx hc
          by_cases hxt : t ≤ x
          · have hb2 : badC miss t x = miss := by unfold badC; rw [if_pos hxt]
            rw [hb2] at hbd hstH
            go_wp2
            go_round
            case rel => exact ⟨j + 1, y + miss, by omega, by go_num, by go_num, hstH, by omega, by omega⟩
            case measure => simp [intOf]; omega
          · have hb2 : badC miss t x = 0 := by unfold badC; rw [if_neg hxt]
            rw [hb2, Int.add_zero] at hbd hstH
            go_wp2
            go_round
            case rel => exact ⟨j + 1, y, by omega, by go_num, rfl, hstH, by omega, by omega⟩
            case measure => simp [intOf]; omega
        case neg =>
          have hjn : j = bn := by omega
          subst hjn
          have hyG : costL (badC miss t) bs = y := by have := hy.out; rw [← hbnH.out, List.take_length] at this; exact this
          have hres : costT gs bs miss alarm t = z + y := by unfold costT; rw [hyG, hzBH.out]
          have hresH := Lib.hid hres
          clear hy hyG hzBH hres hbbH hggH
          go_wp2
          go_ret
          rw [hresH.out]
          exact ⟨rfl, rfl⟩
theorem cheap_plain {gs bs : List Int} {miss alarm t c f : Int} (h : ThS gs bs miss alarm t c f) (hb : thrB gs bs miss alarm = true) (o : Int) : f = 0 ∧ c = costT gs bs miss alarm t ∧ costT gs bs miss alarm t ≤ costT gs bs miss alarm o := by
  by_cases he : gs ++ bs = []
  · obtain ⟨rfl, rfl, rfl⟩ := h.none hb he
    obtain ⟨rfl, rfl⟩ := List.append_eq_nil_iff.1 he
    exact ⟨rfl, rfl, by simp [costT, costL]⟩
  · obtain ⟨rfl, hc, M, hM, hB⟩ := h.some hb he
    refine ⟨rfl, hc, best_cheapest (top := M + 1) hB (fun s hs => ?_) (by simp) o⟩
    have hm : s ∈ gs ++ bs := List.mem_append.2 hs
    have := hM.le s hm
    exact ⟨List.mem_append.2 (.inl hm), by omega⟩
theorem thrB_eq (gs bs : List Int) (miss alarm : Int) : thrB gs bs miss alarm = (scoB gs && scoB bs && (decide (0 ≤ miss ∧ miss ≤ 10000) && decide (0 ≤ alarm ∧ alarm ≤ 10000))) := by
  unfold thrB
  congr 1
  simp [allIn]
theorem scoB_len {xs : List Int} (h : scoB xs = true) : xs.length ≤ 100 := by
  simp only [scoB, Bool.and_eq_true, decide_eq_true_eq] at h
  exact h.1
set_option maxRecDepth 100000 in
set_option maxHeartbeats 16000000 in
theorem law_cheap (ga ba : Option Addr) (gc bc gn bn : Nat) (gs bs : List Int) (hgn : gs.length = gn) (hbn : bs.length = bn) (hgm : gn * 8 ≤ 140737488355328) (hbm : bn * 8 ≤ 140737488355328) (miss alarm other : Int) (w : World) (rg : Rd w.heap.size w ga gs) (rb : Rd w.heap.size w ba bs) :
    Calls Tryz.prog 6 #[.slice ga gn gc, .slice ba bn bc, .int .i64 miss, .int .i64 alarm, .int .i64 other] w fun e w' => e = .returned (.bool true) ∧ Below w.heap.size w w' := by
  have hB : Below w.heap.size w w := Below.refl _ _
  have hgnH := Lib.hid hgn
  have hbnH := Lib.hid hbn
  clear hgn hbn
  obtain ⟨v1, hv1⟩ : ∃ v, scoB gs = v := ⟨_, rfl⟩
  obtain ⟨v2, hv2⟩ : ∃ v, scoB bs = v := ⟨_, rfl⟩
  have hte := thrB_eq gs bs miss alarm
  rw [hv1, hv2] at hte
  have hv1H := Lib.hid hv1
  have hv2H := Lib.hid hv2
  clear hv1 hv2
  go_enter Tryz.func6, Tryz.ntmps6
  go_wp2_with fail
  have hc := alive8_any w
  refine hc.mono ?_
  clear hc
  rintro e V1 ⟨rfl, hb⟩
  replace rg := later_i rg hb
  replace rb := later_i rb hb
  replace hB := hB.trans (hb.mono hB.size)
  clear hb
  go_wp2_with fail
  have hc := Threshold_any ga ba gc bc gn bn gs bs hgnH.out hbnH.out (by omega) (by omega) miss alarm V1 rg rb
  refine hc.mono ?_
  clear hc
  rintro e V2 ⟨th, c, f, rfl, hb, hth⟩
  replace rg := later_i rg hb
  replace rb := later_i rb hb
  replace hB := hB.trans (hb.mono hB.size)
  clear hb
  cases v1 with
  | false =>
    obtain ⟨rfl, rfl, rfl⟩ := hth.bad (by rw [hte]; rfl)
    clear hth hte
    go_wp2_with fail
    have hc := rScores_any ga gc gn gs hgnH.out (by omega) V2 rg
    rw [hv1H.out] at hc
    refine hc.mono ?_
    clear hc
    rintro e w' ⟨rfl, rfl⟩
    go_wp2_with fail
    go_ret
    exact ⟨rfl, hB⟩
  | true =>
    cases v2 with
    | false =>
      obtain ⟨rfl, rfl, rfl⟩ := hth.bad (by rw [hte]; rfl)
      clear hth hte
      go_wp2_with fail
      have hc := rScores_any ga gc gn gs hgnH.out (by omega) V2 rg
      rw [hv1H.out] at hc
      refine hc.mono ?_
      clear hc
      rintro e w' ⟨rfl, rfl⟩
      go_wp2_with fail
      have hc := rScores_any ba bc bn bs hbnH.out (by omega) V2 rb
      rw [hv2H.out] at hc
      refine hc.mono ?_
      clear hc
      rintro e w' ⟨rfl, rfl⟩
      go_wp2_with fail
      go_ret
      exact ⟨rfl, hB⟩
    | true =>
      by_cases m0 : miss < 0
      case pos =>
        have m0d : decide (miss < 0) = true := decide_eq_true m0
        obtain ⟨rfl, rfl, rfl⟩ := hth.bad (by rw [hte]; simp; omega)
        clear hth hte
        go_wp2_with fail
        have hc := rScores_any ga gc gn gs hgnH.out (by omega) V2 rg
        rw [hv1H.out] at hc
        refine hc.mono ?_
        clear hc
        rintro e w' ⟨rfl, rfl⟩
        go_wp2_with fail
        have hc := rScores_any ba bc bn bs hbnH.out (by omega) V2 rb
        rw [hv2H.out] at hc
        refine hc.mono ?_
        clear hc
        rintro e w' ⟨rfl, rfl⟩
        go_wp2_with fail
        go_ret
        exact ⟨rfl, hB⟩
      case neg =>
        have m0d : decide (miss < 0) = false := decide_eq_false m0
        by_cases m1 : 10000 < miss
        case pos =>
          have m1d : decide (10000 < miss) = true := decide_eq_true m1
          obtain ⟨rfl, rfl, rfl⟩ := hth.bad (by rw [hte]; simp; omega)
          clear hth hte
          go_wp2_with fail
          have hc := rScores_any ga gc gn gs hgnH.out (by omega) V2 rg
          rw [hv1H.out] at hc
          refine hc.mono ?_
          clear hc
          rintro e w' ⟨rfl, rfl⟩
          go_wp2_with fail
          have hc := rScores_any ba bc bn bs hbnH.out (by omega) V2 rb
          rw [hv2H.out] at hc
          refine hc.mono ?_
          clear hc
          rintro e w' ⟨rfl, rfl⟩
          go_wp2_with fail
          go_ret
          exact ⟨rfl, hB⟩
        case neg =>
          have m1d : decide (10000 < miss) = false := decide_eq_false m1
          by_cases a0 : alarm < 0
          case pos =>
            have a0d : decide (alarm < 0) = true := decide_eq_true a0
            obtain ⟨rfl, rfl, rfl⟩ := hth.bad (by rw [hte]; simp; omega)
            clear hth hte
            go_wp2_with fail
            have hc := rScores_any ga gc gn gs hgnH.out (by omega) V2 rg
            rw [hv1H.out] at hc
            refine hc.mono ?_
            clear hc
            rintro e w' ⟨rfl, rfl⟩
            go_wp2_with fail
            have hc := rScores_any ba bc bn bs hbnH.out (by omega) V2 rb
            rw [hv2H.out] at hc
            refine hc.mono ?_
            clear hc
            rintro e w' ⟨rfl, rfl⟩
            go_wp2_with fail
            go_ret
            exact ⟨rfl, hB⟩
          case neg =>
            have a0d : decide (alarm < 0) = false := decide_eq_false a0
            by_cases a1 : 10000 < alarm
            case pos =>
              have a1d : decide (10000 < alarm) = true := decide_eq_true a1
              obtain ⟨rfl, rfl, rfl⟩ := hth.bad (by rw [hte]; simp; omega)
              clear hth hte
              go_wp2_with fail
              have hc := rScores_any ga gc gn gs hgnH.out (by omega) V2 rg
              rw [hv1H.out] at hc
              refine hc.mono ?_
              clear hc
              rintro e w' ⟨rfl, rfl⟩
              go_wp2_with fail
              have hc := rScores_any ba bc bn bs hbnH.out (by omega) V2 rb
              rw [hv2H.out] at hc
              refine hc.mono ?_
              clear hc
              rintro e w' ⟨rfl, rfl⟩
              go_wp2_with fail
              go_ret
              exact ⟨rfl, hB⟩
            case neg =>
              have a1d : decide (10000 < alarm) = false := decide_eq_false a1
              have hok : thrB gs bs miss alarm = true := by rw [hte]; simp; omega
              obtain ⟨rfl, hcc, hle⟩ := cheap_plain hth hok other
              obtain ⟨c2, hc2⟩ : ∃ z, costT gs bs miss alarm other = z := ⟨_, rfl⟩
              have hc1H := Lib.hid hcc.symm
              rw [hc1H.out, hc2] at hle
              have hc2H := Lib.hid hc2
              have hg100 := hgnH.out ▸ scoB_len hv1H.out
              have hb100 := hbnH.out ▸ scoB_len hv2H.out
              clear hth hte hok hcc hc2
              have hcd : decide (c ≤ c2) = true := decide_eq_true hle
              have hce : (c == c) = true := by simp
              go_wp2_with fail
              have hc := rScores_any ga gc gn gs hgnH.out (by omega) V2 rg
              rw [hv1H.out] at hc
              refine hc.mono ?_
              clear hc
              rintro e w' ⟨rfl, rfl⟩
              go_wp2_with fail
              have hc := rScores_any ba bc bn bs hbnH.out (by omega) V2 rb
              rw [hv2H.out] at hc
              refine hc.mono ?_
              clear hc
              rintro e w' ⟨rfl, rfl⟩
              go_wp2_with fail
              have hc := lcost_any ga ba gc bc gn bn gs bs hgnH.out hbnH.out hg100 hb100 miss alarm th (by omega) (by omega) (by omega) (by omega) V2 rg rb
              rw [hc1H.out] at hc
              refine hc.mono ?_
              clear hc
              rintro e w' ⟨rfl, rfl⟩
              go_wp2_with fail
              have hc := lcost_any ga ba gc bc gn bn gs bs hgnH.out hbnH.out hg100 hb100 miss alarm other (by omega) (by omega) (by omega) (by omega) V2 rg rb
              rw [hc2H.out] at hc
              refine hc.mono ?_
              clear hc
              rintro e w' ⟨rfl, rfl⟩
              go_wp2_with fail
              go_ret
              exact ⟨rfl, hB⟩

end Go.Proofs.YtbfigbpjoaccdaaGreat

/- The walk of the law JudgeFalls: it returns true, and nothing that lay has turned. -/
import Derived.Test.YtbfigbpjoaccdaaGreatQA21
import Derived.Test.YtbfigbpjoaccdaaGreatQA12
namespace Go.Proofs.YtbfigbpjoaccdaaGreat
open Go Go.RowKit Go.Shelf
set_option linter.unusedVariables false
set_option linter.unusedSimpArgs false

theorem rateS_in {n k j num den : Int} (h : (0 ≤ n ∧ n ≤ 100) ∧ (0 ≤ k ∧ k ≤ n) ∧ (0 ≤ j ∧ j ≤ 256) ∧ limB num den = true) : rateS n k j num den = (fewB n.toNat k.toNat j.toNat num.toNat den.toNat, 0) := if_pos h
theorem rateS_out {n k j num den : Int} (h : ¬ ((0 ≤ n ∧ n ≤ 100) ∧ (0 ≤ k ∧ k ≤ n) ∧ (0 ≤ j ∧ j ≤ 256) ∧ limB num den = true)) : rateS n k j num den = (false, 2) := if_neg h
theorem boundS_in {n k num den : Int} (h : (0 ≤ n ∧ n ≤ 100) ∧ (0 ≤ k ∧ k ≤ n) ∧ limB num den = true) : boundS n k num den = (((boundR n.toNat k.toNat num.toNat den.toNat : Nat) : Int), 0) := if_pos h
theorem limB_lt {num den : Int} (h : limB num den = true) : 0 < num ∧ num < den ∧ den ≤ 1073741824 := by
  simp only [limB, Bool.and_eq_true, decide_eq_true_eq] at h
  exact h.2
theorem falls_b {n k i num den : Int} (h1 : 0 ≤ n ∧ n ≤ 100) (h2 : 0 ≤ k ∧ k ≤ n) (h3 : 0 ≤ i ∧ i ≤ 256) (h4 : limB num den = true) {a : Bool} (ha : fewB n.toNat k.toNat i.toNat num.toNat den.toNat = a) {b : Int} (hb : ((boundR n.toNat k.toNat num.toNat den.toNat : Nat) : Int) = b) :
    0 ≤ b ∧ b ≤ 256 ∧ (i < b → a = false) ∧ (b ≤ i → k < n → a = true) ∧ (k = n → b = 256 ∧ a = false) := by
  obtain ⟨s1, s2, s3⟩ := boundR_spec n.toNat k.toNat num.toNat den.toNat
  have hl := limB_lt h4
  subst ha
  refine ⟨by omega, by omega, fun h => s1 _ (by omega), fun h hk => ?_, fun h => ?_⟩
  · by_cases e : boundR n.toNat k.toNat num.toNat den.toNat < 256
    · exact fewB_rate (show boundR n.toNat k.toNat num.toNat den.toNat ≤ i.toNat by omega) (by omega) (s3 e)
    · rw [show i.toNat = 256 by omega]; exact fewB_last (by omega)
  · have hn : ∀ j, j ≤ 256 → fewB n.toNat k.toNat j num.toNat den.toNat = false := fun j hj => fewB_never (by omega) hj (by omega)
    refine ⟨?_, hn _ (by omega)⟩
    by_cases e : boundR n.toNat k.toNat num.toNat den.toNat < 256
    · have := s3 e; rw [hn _ (by omega)] at this; cases this
    · omega
set_option maxRecDepth 100000 in
set_option maxHeartbeats 16000000 in
theorem law_falls (n k i j num den : Int) (hn : (Lit.int .i64 num).wf = true) (hd : (Lit.int .i64 den).wf = true) (w : World) :
    Calls Tryz.prog 9 #[.int .i64 n, .int .i64 k, .int .i64 i, .int .i64 j, frv num den] w fun e w' => e = .returned (.bool true) ∧ Below w.heap.size w w' := by
  have hB : Below w.heap.size w w := Below.refl _ _
  have hbV1 : Below w.heap.size w (w.alloc (.cells #[.int .i64 num, .int .i64 den] 60)) := jb_al (Below.refl _ w) _
  have k1 := Blk.new w 60 #[.int .i64 num, .int .i64 den]
  obtain ⟨V1, hEV1⟩ : ∃ X, w.alloc (.cells #[.int .i64 num, .int .i64 den] 60) = X := ⟨_, rfl⟩
  rw [hEV1] at hbV1 k1
  replace hB := hB.trans (hbV1.mono hB.size)
  clear hbV1
  have c0 := k1.cell (i := 0) rfl
  have c1 := k1.cell (i := 1) rfl
  go_enter Tryz.func9, Tryz.ntmps9
  go_wp2_with fail
  clear hEV1
  have hc := alive8_any V1
  refine hc.mono ?_
  clear hc
  rintro e V2 ⟨rfl, hb⟩
  clear c0 c1
  replace k1 := k1.below hb k1.lt
  replace hB := hB.trans (hb.mono hB.size)
  clear hb
  have c0 := k1.cell (i := 0) rfl
  have c1 := k1.cell (i := 1) rfl
  by_cases hv : (0 ≤ n ∧ n ≤ 100) ∧ (0 ≤ k ∧ k ≤ n) ∧ (0 ≤ i ∧ i ≤ 256) ∧ limB num den = true
  case neg =>
    have hR := rateS_out hv
    clear hv
    go_wp2_with fail
    have hc := AtMost_any n k i num den hn hd V2
    rw [hR] at hc
    refine hc.mono ?_
    clear hc
    rintro e V3 ⟨rfl, hb⟩
    clear c0 c1
    replace k1 := k1.below hb k1.lt
    replace hB := hB.trans (hb.mono hB.size)
    clear hb
    have c0 := k1.cell (i := 0) rfl
    have c1 := k1.cell (i := 1) rfl
    go_wp2_with fail
    go_ret
    exact ⟨rfl, hB⟩
  case pos =>
    obtain ⟨a, ha⟩ : ∃ a, fewB n.toNat k.toNat i.toNat num.toNat den.toNat = a := ⟨_, rfl⟩
    obtain ⟨b, hbd⟩ : ∃ b : Int, ((boundR n.toNat k.toNat num.toNat den.toNat : Nat) : Int) = b := ⟨_, rfl⟩
    obtain ⟨b0, b1, p1, p2, p3⟩ := falls_b hv.1 hv.2.1 hv.2.2.1 hv.2.2.2 ha hbd
    have hR := rateS_in hv
    rw [ha] at hR
    have hRb := boundS_in ⟨hv.1, hv.2.1, hv.2.2.2⟩
    rw [hbd] at hRb
    have haH := Lib.hid ha
    have hRH := Lib.hid hR
    have hRbH := Lib.hid hRb
    have hvH := Lib.hid hv
    obtain ⟨⟨n0, n1⟩, ⟨k0, k1'⟩, ⟨i0, i1⟩, hl⟩ := hv
    clear ha hR hRb hbd hl
    by_cases hib : i < b
    case pos =>
      by_cases hkn : k = n
      case pos =>
        have hb256 := (p3 hkn).1
        have ha := p1 hib
        have hibd : decide (i < b) = true := decide_eq_true hib
        have hbi : ¬ (b ≤ i) := by omega
        have hbid : decide (b ≤ i) = false := decide_eq_false hbi
        have d0 : ¬ (b < 0) := by omega
        have d0d : decide (b < 0) = false := decide_eq_false d0
        have d1 : ¬ (256 < b) := by omega
        have d1d : decide (256 < b) = false := decide_eq_false d1
        have d1' : ¬ (b > 256) := by omega
        have hknb : (k == n) = true := by simp [hkn]
        have hbn : (b != 256) = false := by simp [hb256]
        have hkl : ¬ (k < n) := by omega
        have hkld : decide (k < n) = false := decide_eq_false hkl
        clear p1 p2 p3 hkn
        obtain rfl : a = false := ha
        go_wp2_with fail
        have hc := AtMost_any n k i num den hn hd V2
        rw [hRH.out] at hc
        refine hc.mono ?_
        clear hc
        rintro e V3 ⟨rfl, hb⟩
        clear c0 c1
        replace k1 := k1.below hb k1.lt
        replace hB := hB.trans (hb.mono hB.size)
        clear hb
        have c0 := k1.cell (i := 0) rfl
        have c1 := k1.cell (i := 1) rfl
        go_wp2_with fail
        have hc := Bound_any n k num den hn hd V3
        rw [hRbH.out] at hc
        refine hc.mono ?_
        clear hc
        rintro e V4 ⟨rfl, hb⟩
        clear c0 c1
        replace k1 := k1.below hb k1.lt
        replace hB := hB.trans (hb.mono hB.size)
        clear hb
        have c0 := k1.cell (i := 0) rfl
        have c1 := k1.cell (i := 1) rfl
        by_cases hj : i ≤ j ∧ j ≤ 256
        case pos =>
          have j1 : i ≤ j := by omega
          have j1d : decide (i ≤ j) = true := decide_eq_true j1
          have j2 : j ≤ 256 := by omega
          have j2d : decide (j ≤ 256) = true := decide_eq_true j2
          obtain ⟨c, hc⟩ : ∃ c, fewB n.toNat k.toNat j.toNat num.toNat den.toNat = c := ⟨_, rfl⟩
          have hRj := rateS_in (n := n) (k := k) (j := j) ⟨hvH.out.1, hvH.out.2.1, ⟨by omega, by omega⟩, hvH.out.2.2.2⟩
          rw [hc] at hRj
          have hRjH := Lib.hid hRj
          have hca : false = true → c = true := fun h => by rw [← hc]; exact fewB_rate (i := i.toNat) (by omega) (by omega) (haH.out.trans h)
          clear hc hRj hj
          go_wp2_with fail
          have hc := AtMost_any n k j num den hn hd V4
          rw [hRjH.out] at hc
          refine hc.mono ?_
          clear hc
          rintro e V5 ⟨rfl, hb⟩
          clear c0 c1
          replace k1 := k1.below hb k1.lt
          replace hB := hB.trans (hb.mono hB.size)
          clear hb
          have c0 := k1.cell (i := 0) rfl
          have c1 := k1.cell (i := 1) rfl

          by_cases hk0 : k = 0
          case pos =>
            have hk0b : (k == 0) = true := by simp [hk0]
            clear hk0
            go_wp2_with fail
            go_ret
            exact ⟨rfl, hB⟩
          case neg =>
            have hk0b : (k == 0) = false := by simpa using hk0
            obtain ⟨d, hdd⟩ : ∃ d, fewB n.toNat (k - 1).toNat i.toNat num.toNat den.toNat = d := ⟨_, rfl⟩
            have hRd := rateS_in (n := n) (k := k - 1) (j := i) ⟨hvH.out.1, ⟨by omega, by omega⟩, hvH.out.2.2.1, hvH.out.2.2.2⟩
            rw [hdd] at hRd
            have hRdH := Lib.hid hRd
            have hda : false = true → d = true := fun h => by rw [← hdd]; exact fewB_less (l := k.toNat) (by omega) (haH.out.trans h)
            clear hdd hRd
            go_wp2_with fail
            have hc := AtMost_any n (k - 1) i num den hn hd V5
            rw [hRdH.out] at hc
            refine hc.mono ?_
            clear hc
            rintro e V6 ⟨rfl, hb⟩
            clear c0 c1
            replace k1 := k1.below hb k1.lt
            replace hB := hB.trans (hb.mono hB.size)
            clear hb
            have c0 := k1.cell (i := 0) rfl
            have c1 := k1.cell (i := 1) rfl

            go_wp2_with fail
            go_ret
            exact ⟨rfl, hB⟩
        case neg =>
          by_cases hj1 : i ≤ j
          case neg =>
            clear hj
            have hj1d : decide (i ≤ j) = false := decide_eq_false hj1
            by_cases hk0 : k = 0
            case pos =>
              have hk0b : (k == 0) = true := by simp [hk0]
              clear hk0
              go_wp2_with fail
              go_ret
              exact ⟨rfl, hB⟩
            case neg =>
              have hk0b : (k == 0) = false := by simpa using hk0
              obtain ⟨d, hdd⟩ : ∃ d, fewB n.toNat (k - 1).toNat i.toNat num.toNat den.toNat = d := ⟨_, rfl⟩
              have hRd := rateS_in (n := n) (k := k - 1) (j := i) ⟨hvH.out.1, ⟨by omega, by omega⟩, hvH.out.2.2.1, hvH.out.2.2.2⟩
              rw [hdd] at hRd
              have hRdH := Lib.hid hRd
              have hda : false = true → d = true := fun h => by rw [← hdd]; exact fewB_less (l := k.toNat) (by omega) (haH.out.trans h)
              clear hdd hRd
              go_wp2_with fail
              have hc := AtMost_any n (k - 1) i num den hn hd V4
              rw [hRdH.out] at hc
              refine hc.mono ?_
              clear hc
              rintro e V5 ⟨rfl, hb⟩
              clear c0 c1
              replace k1 := k1.below hb k1.lt
              replace hB := hB.trans (hb.mono hB.size)
              clear hb
              have c0 := k1.cell (i := 0) rfl
              have c1 := k1.cell (i := 1) rfl

              go_wp2_with fail
              go_ret
              exact ⟨rfl, hB⟩
          case pos =>
            have hj2 : ¬ (j ≤ 256) := by omega
            have hj2d : decide (j ≤ 256) = false := decide_eq_false hj2
            clear hj
            have hj1d : decide (i ≤ j) = true := decide_eq_true hj1
            by_cases hk0 : k = 0
            case pos =>
              have hk0b : (k == 0) = true := by simp [hk0]
              clear hk0
              go_wp2_with fail
              go_ret
              exact ⟨rfl, hB⟩
            case neg =>
              have hk0b : (k == 0) = false := by simpa using hk0
              obtain ⟨d, hdd⟩ : ∃ d, fewB n.toNat (k - 1).toNat i.toNat num.toNat den.toNat = d := ⟨_, rfl⟩
              have hRd := rateS_in (n := n) (k := k - 1) (j := i) ⟨hvH.out.1, ⟨by omega, by omega⟩, hvH.out.2.2.1, hvH.out.2.2.2⟩
              rw [hdd] at hRd
              have hRdH := Lib.hid hRd
              have hda : false = true → d = true := fun h => by rw [← hdd]; exact fewB_less (l := k.toNat) (by omega) (haH.out.trans h)
              clear hdd hRd
              go_wp2_with fail
              have hc := AtMost_any n (k - 1) i num den hn hd V4
              rw [hRdH.out] at hc
              refine hc.mono ?_
              clear hc
              rintro e V5 ⟨rfl, hb⟩
              clear c0 c1
              replace k1 := k1.below hb k1.lt
              replace hB := hB.trans (hb.mono hB.size)
              clear hb
              have c0 := k1.cell (i := 0) rfl
              have c1 := k1.cell (i := 1) rfl

              go_wp2_with fail
              go_ret
              exact ⟨rfl, hB⟩
      case neg =>
        have ha := p1 hib
        have hibd : decide (i < b) = true := decide_eq_true hib
        have hbi : ¬ (b ≤ i) := by omega
        have hbid : decide (b ≤ i) = false := decide_eq_false hbi
        have d0 : ¬ (b < 0) := by omega
        have d0d : decide (b < 0) = false := decide_eq_false d0
        have d1 : ¬ (256 < b) := by omega
        have d1d : decide (256 < b) = false := decide_eq_false d1
        have d1' : ¬ (b > 256) := by omega
        have hknb : (k == n) = false := by simpa using hkn
        have hkl : k < n := by omega
        have hkld : decide (k < n) = true := decide_eq_true hkl
        clear p1 p2 p3
        obtain rfl : a = false := ha
        go_wp2_with fail
        have hc := AtMost_any n k i num den hn hd V2
        rw [hRH.out] at hc
        refine hc.mono ?_
        clear hc
        rintro e V3 ⟨rfl, hb⟩
        clear c0 c1
        replace k1 := k1.below hb k1.lt
        replace hB := hB.trans (hb.mono hB.size)
        clear hb
        have c0 := k1.cell (i := 0) rfl
        have c1 := k1.cell (i := 1) rfl
        go_wp2_with fail
        have hc := Bound_any n k num den hn hd V3
        rw [hRbH.out] at hc
        refine hc.mono ?_
        clear hc
        rintro e V4 ⟨rfl, hb⟩
        clear c0 c1
        replace k1 := k1.below hb k1.lt
        replace hB := hB.trans (hb.mono hB.size)
        clear hb
        have c0 := k1.cell (i := 0) rfl
        have c1 := k1.cell (i := 1) rfl
        by_cases hj : i ≤ j ∧ j ≤ 256
        case pos =>
          have j1 : i ≤ j := by omega
          have j1d : decide (i ≤ j) = true := decide_eq_true j1
          have j2 : j ≤ 256 := by omega
          have j2d : decide (j ≤ 256) = true := decide_eq_true j2
          obtain ⟨c, hc⟩ : ∃ c, fewB n.toNat k.toNat j.toNat num.toNat den.toNat = c := ⟨_, rfl⟩
          have hRj := rateS_in (n := n) (k := k) (j := j) ⟨hvH.out.1, hvH.out.2.1, ⟨by omega, by omega⟩, hvH.out.2.2.2⟩
          rw [hc] at hRj
          have hRjH := Lib.hid hRj
          have hca : false = true → c = true := fun h => by rw [← hc]; exact fewB_rate (i := i.toNat) (by omega) (by omega) (haH.out.trans h)
          clear hc hRj hj
          go_wp2_with fail
          have hc := AtMost_any n k j num den hn hd V4
          rw [hRjH.out] at hc
          refine hc.mono ?_
          clear hc
          rintro e V5 ⟨rfl, hb⟩
          clear c0 c1
          replace k1 := k1.below hb k1.lt
          replace hB := hB.trans (hb.mono hB.size)
          clear hb
          have c0 := k1.cell (i := 0) rfl
          have c1 := k1.cell (i := 1) rfl

          by_cases hk0 : k = 0
          case pos =>
            have hk0b : (k == 0) = true := by simp [hk0]
            clear hk0
            go_wp2_with fail
            go_ret
            exact ⟨rfl, hB⟩
          case neg =>
            have hk0b : (k == 0) = false := by simpa using hk0
            obtain ⟨d, hdd⟩ : ∃ d, fewB n.toNat (k - 1).toNat i.toNat num.toNat den.toNat = d := ⟨_, rfl⟩
            have hRd := rateS_in (n := n) (k := k - 1) (j := i) ⟨hvH.out.1, ⟨by omega, by omega⟩, hvH.out.2.2.1, hvH.out.2.2.2⟩
            rw [hdd] at hRd
            have hRdH := Lib.hid hRd
            have hda : false = true → d = true := fun h => by rw [← hdd]; exact fewB_less (l := k.toNat) (by omega) (haH.out.trans h)
            clear hdd hRd
            go_wp2_with fail
            have hc := AtMost_any n (k - 1) i num den hn hd V5
            rw [hRdH.out] at hc
            refine hc.mono ?_
            clear hc
            rintro e V6 ⟨rfl, hb⟩
            clear c0 c1
            replace k1 := k1.below hb k1.lt
            replace hB := hB.trans (hb.mono hB.size)
            clear hb
            have c0 := k1.cell (i := 0) rfl
            have c1 := k1.cell (i := 1) rfl

            go_wp2_with fail
            go_ret
            exact ⟨rfl, hB⟩
        case neg =>
          by_cases hj1 : i ≤ j
          case neg =>
            clear hj
            have hj1d : decide (i ≤ j) = false := decide_eq_false hj1
            by_cases hk0 : k = 0
            case pos =>
              have hk0b : (k == 0) = true := by simp [hk0]
              clear hk0
              go_wp2_with fail
              go_ret
              exact ⟨rfl, hB⟩
            case neg =>
              have hk0b : (k == 0) = false := by simpa using hk0
              obtain ⟨d, hdd⟩ : ∃ d, fewB n.toNat (k - 1).toNat i.toNat num.toNat den.toNat = d := ⟨_, rfl⟩
              have hRd := rateS_in (n := n) (k := k - 1) (j := i) ⟨hvH.out.1, ⟨by omega, by omega⟩, hvH.out.2.2.1, hvH.out.2.2.2⟩
              rw [hdd] at hRd
              have hRdH := Lib.hid hRd
              have hda : false = true → d = true := fun h => by rw [← hdd]; exact fewB_less (l := k.toNat) (by omega) (haH.out.trans h)
              clear hdd hRd
              go_wp2_with fail
              have hc := AtMost_any n (k - 1) i num den hn hd V4
              rw [hRdH.out] at hc
              refine hc.mono ?_
              clear hc
              rintro e V5 ⟨rfl, hb⟩
              clear c0 c1
              replace k1 := k1.below hb k1.lt
              replace hB := hB.trans (hb.mono hB.size)
              clear hb
              have c0 := k1.cell (i := 0) rfl
              have c1 := k1.cell (i := 1) rfl

              go_wp2_with fail
              go_ret
              exact ⟨rfl, hB⟩
          case pos =>
            have hj2 : ¬ (j ≤ 256) := by omega
            have hj2d : decide (j ≤ 256) = false := decide_eq_false hj2
            clear hj
            have hj1d : decide (i ≤ j) = true := decide_eq_true hj1
            by_cases hk0 : k = 0
            case pos =>
              have hk0b : (k == 0) = true := by simp [hk0]
              clear hk0
              go_wp2_with fail
              go_ret
              exact ⟨rfl, hB⟩
            case neg =>
              have hk0b : (k == 0) = false := by simpa using hk0
              obtain ⟨d, hdd⟩ : ∃ d, fewB n.toNat (k - 1).toNat i.toNat num.toNat den.toNat = d := ⟨_, rfl⟩
              have hRd := rateS_in (n := n) (k := k - 1) (j := i) ⟨hvH.out.1, ⟨by omega, by omega⟩, hvH.out.2.2.1, hvH.out.2.2.2⟩
              rw [hdd] at hRd
              have hRdH := Lib.hid hRd
              have hda : false = true → d = true := fun h => by rw [← hdd]; exact fewB_less (l := k.toNat) (by omega) (haH.out.trans h)
              clear hdd hRd
              go_wp2_with fail
              have hc := AtMost_any n (k - 1) i num den hn hd V4
              rw [hRdH.out] at hc
              refine hc.mono ?_
              clear hc
              rintro e V5 ⟨rfl, hb⟩
              clear c0 c1
              replace k1 := k1.below hb k1.lt
              replace hB := hB.trans (hb.mono hB.size)
              clear hb
              have c0 := k1.cell (i := 0) rfl
              have c1 := k1.cell (i := 1) rfl

              go_wp2_with fail
              go_ret
              exact ⟨rfl, hB⟩
    case neg =>
      by_cases hkn : k = n
      case pos =>
        have hb256 := (p3 hkn).1
        have ha := (p3 hkn).2
        have hibd : decide (i < b) = false := decide_eq_false hib
        have hbi : b ≤ i := by omega
        have hbid : decide (b ≤ i) = true := decide_eq_true hbi
        have d0 : ¬ (b < 0) := by omega
        have d0d : decide (b < 0) = false := decide_eq_false d0
        have d1 : ¬ (256 < b) := by omega
        have d1d : decide (256 < b) = false := decide_eq_false d1
        have d1' : ¬ (b > 256) := by omega
        have hknb : (k == n) = true := by simp [hkn]
        have hbn : (b != 256) = false := by simp [hb256]
        have hkl : ¬ (k < n) := by omega
        have hkld : decide (k < n) = false := decide_eq_false hkl
        clear p1 p2 p3 hkn
        obtain rfl : a = false := ha
        go_wp2_with fail
        have hc := AtMost_any n k i num den hn hd V2
        rw [hRH.out] at hc
        refine hc.mono ?_
        clear hc
        rintro e V3 ⟨rfl, hb⟩
        clear c0 c1
        replace k1 := k1.below hb k1.lt
        replace hB := hB.trans (hb.mono hB.size)
        clear hb
        have c0 := k1.cell (i := 0) rfl
        have c1 := k1.cell (i := 1) rfl
        go_wp2_with fail
        have hc := Bound_any n k num den hn hd V3
        rw [hRbH.out] at hc
        refine hc.mono ?_
        clear hc
        rintro e V4 ⟨rfl, hb⟩
        clear c0 c1
        replace k1 := k1.below hb k1.lt
        replace hB := hB.trans (hb.mono hB.size)
        clear hb
        have c0 := k1.cell (i := 0) rfl
        have c1 := k1.cell (i := 1) rfl
        by_cases hj : i ≤ j ∧ j ≤ 256
        case pos =>
          have j1 : i ≤ j := by omega
          have j1d : decide (i ≤ j) = true := decide_eq_true j1
          have j2 : j ≤ 256 := by omega
          have j2d : decide (j ≤ 256) = true := decide_eq_true j2
          obtain ⟨c, hc⟩ : ∃ c, fewB n.toNat k.toNat j.toNat num.toNat den.toNat = c := ⟨_, rfl⟩
          have hRj := rateS_in (n := n) (k := k) (j := j) ⟨hvH.out.1, hvH.out.2.1, ⟨by omega, by omega⟩, hvH.out.2.2.2⟩
          rw [hc] at hRj
          have hRjH := Lib.hid hRj
          have hca : false = true → c = true := fun h => by rw [← hc]; exact fewB_rate (i := i.toNat) (by omega) (by omega) (haH.out.trans h)
          clear hc hRj hj
          go_wp2_with fail
          have hc := AtMost_any n k j num den hn hd V4
          rw [hRjH.out] at hc
          refine hc.mono ?_
          clear hc
          rintro e V5 ⟨rfl, hb⟩
          clear c0 c1
          replace k1 := k1.below hb k1.lt
          replace hB := hB.trans (hb.mono hB.size)
          clear hb
          have c0 := k1.cell (i := 0) rfl
          have c1 := k1.cell (i := 1) rfl

          by_cases hk0 : k = 0
          case pos =>
            have hk0b : (k == 0) = true := by simp [hk0]
            clear hk0
            go_wp2_with fail
            go_ret
            exact ⟨rfl, hB⟩
          case neg =>
            have hk0b : (k == 0) = false := by simpa using hk0
            obtain ⟨d, hdd⟩ : ∃ d, fewB n.toNat (k - 1).toNat i.toNat num.toNat den.toNat = d := ⟨_, rfl⟩
            have hRd := rateS_in (n := n) (k := k - 1) (j := i) ⟨hvH.out.1, ⟨by omega, by omega⟩, hvH.out.2.2.1, hvH.out.2.2.2⟩
            rw [hdd] at hRd
            have hRdH := Lib.hid hRd
            have hda : false = true → d = true := fun h => by rw [← hdd]; exact fewB_less (l := k.toNat) (by omega) (haH.out.trans h)
            clear hdd hRd
            go_wp2_with fail
            have hc := AtMost_any n (k - 1) i num den hn hd V5
            rw [hRdH.out] at hc
            refine hc.mono ?_
            clear hc
            rintro e V6 ⟨rfl, hb⟩
            clear c0 c1
            replace k1 := k1.below hb k1.lt
            replace hB := hB.trans (hb.mono hB.size)
            clear hb
            have c0 := k1.cell (i := 0) rfl
            have c1 := k1.cell (i := 1) rfl

            go_wp2_with fail
            go_ret
            exact ⟨rfl, hB⟩
        case neg =>
          by_cases hj1 : i ≤ j
          case neg =>
            clear hj
            have hj1d : decide (i ≤ j) = false := decide_eq_false hj1
            by_cases hk0 : k = 0
            case pos =>
              have hk0b : (k == 0) = true := by simp [hk0]
              clear hk0
              go_wp2_with fail
              go_ret
              exact ⟨rfl, hB⟩
            case neg =>
              have hk0b : (k == 0) = false := by simpa using hk0
              obtain ⟨d, hdd⟩ : ∃ d, fewB n.toNat (k - 1).toNat i.toNat num.toNat den.toNat = d := ⟨_, rfl⟩
              have hRd := rateS_in (n := n) (k := k - 1) (j := i) ⟨hvH.out.1, ⟨by omega, by omega⟩, hvH.out.2.2.1, hvH.out.2.2.2⟩
              rw [hdd] at hRd
              have hRdH := Lib.hid hRd
              have hda : false = true → d = true := fun h => by rw [← hdd]; exact fewB_less (l := k.toNat) (by omega) (haH.out.trans h)
              clear hdd hRd
              go_wp2_with fail
              have hc := AtMost_any n (k - 1) i num den hn hd V4
              rw [hRdH.out] at hc
              refine hc.mono ?_
              clear hc
              rintro e V5 ⟨rfl, hb⟩
              clear c0 c1
              replace k1 := k1.below hb k1.lt
              replace hB := hB.trans (hb.mono hB.size)
              clear hb
              have c0 := k1.cell (i := 0) rfl
              have c1 := k1.cell (i := 1) rfl

              go_wp2_with fail
              go_ret
              exact ⟨rfl, hB⟩
          case pos =>
            have hj2 : ¬ (j ≤ 256) := by omega
            have hj2d : decide (j ≤ 256) = false := decide_eq_false hj2
            clear hj
            have hj1d : decide (i ≤ j) = true := decide_eq_true hj1
            by_cases hk0 : k = 0
            case pos =>
              have hk0b : (k == 0) = true := by simp [hk0]
              clear hk0
              go_wp2_with fail
              go_ret
              exact ⟨rfl, hB⟩
            case neg =>
              have hk0b : (k == 0) = false := by simpa using hk0
              obtain ⟨d, hdd⟩ : ∃ d, fewB n.toNat (k - 1).toNat i.toNat num.toNat den.toNat = d := ⟨_, rfl⟩
              have hRd := rateS_in (n := n) (k := k - 1) (j := i) ⟨hvH.out.1, ⟨by omega, by omega⟩, hvH.out.2.2.1, hvH.out.2.2.2⟩
              rw [hdd] at hRd
              have hRdH := Lib.hid hRd
              have hda : false = true → d = true := fun h => by rw [← hdd]; exact fewB_less (l := k.toNat) (by omega) (haH.out.trans h)
              clear hdd hRd
              go_wp2_with fail
              have hc := AtMost_any n (k - 1) i num den hn hd V4
              rw [hRdH.out] at hc
              refine hc.mono ?_
              clear hc
              rintro e V5 ⟨rfl, hb⟩
              clear c0 c1
              replace k1 := k1.below hb k1.lt
              replace hB := hB.trans (hb.mono hB.size)
              clear hb
              have c0 := k1.cell (i := 0) rfl
              have c1 := k1.cell (i := 1) rfl

              go_wp2_with fail
              go_ret
              exact ⟨rfl, hB⟩
      case neg =>
        have ha := p2 (by omega) (by omega)
        have hibd : decide (i < b) = false := decide_eq_false hib
        have hbi : b ≤ i := by omega
        have hbid : decide (b ≤ i) = true := decide_eq_true hbi
        have d0 : ¬ (b < 0) := by omega
        have d0d : decide (b < 0) = false := decide_eq_false d0
        have d1 : ¬ (256 < b) := by omega
        have d1d : decide (256 < b) = false := decide_eq_false d1
        have d1' : ¬ (b > 256) := by omega
        have hknb : (k == n) = false := by simpa using hkn
        have hkl : k < n := by omega
        have hkld : decide (k < n) = true := decide_eq_true hkl
        clear p1 p2 p3
        obtain rfl : a = true := ha
        go_wp2_with fail
        have hc := AtMost_any n k i num den hn hd V2
        rw [hRH.out] at hc
        refine hc.mono ?_
        clear hc
        rintro e V3 ⟨rfl, hb⟩
        clear c0 c1
        replace k1 := k1.below hb k1.lt
        replace hB := hB.trans (hb.mono hB.size)
        clear hb
        have c0 := k1.cell (i := 0) rfl
        have c1 := k1.cell (i := 1) rfl
        go_wp2_with fail
        have hc := Bound_any n k num den hn hd V3
        rw [hRbH.out] at hc
        refine hc.mono ?_
        clear hc
        rintro e V4 ⟨rfl, hb⟩
        clear c0 c1
        replace k1 := k1.below hb k1.lt
        replace hB := hB.trans (hb.mono hB.size)
        clear hb
        have c0 := k1.cell (i := 0) rfl
        have c1 := k1.cell (i := 1) rfl
        by_cases hj : i ≤ j ∧ j ≤ 256
        case pos =>
          have j1 : i ≤ j := by omega
          have j1d : decide (i ≤ j) = true := decide_eq_true j1
          have j2 : j ≤ 256 := by omega
          have j2d : decide (j ≤ 256) = true := decide_eq_true j2
          obtain ⟨c, hc⟩ : ∃ c, fewB n.toNat k.toNat j.toNat num.toNat den.toNat = c := ⟨_, rfl⟩
          have hRj := rateS_in (n := n) (k := k) (j := j) ⟨hvH.out.1, hvH.out.2.1, ⟨by omega, by omega⟩, hvH.out.2.2.2⟩
          rw [hc] at hRj
          have hRjH := Lib.hid hRj
          have hca : true = true → c = true := fun h => by rw [← hc]; exact fewB_rate (i := i.toNat) (by omega) (by omega) (haH.out.trans h)
          clear hc hRj hj
          go_wp2_with fail
          have hc := AtMost_any n k j num den hn hd V4
          rw [hRjH.out] at hc
          refine hc.mono ?_
          clear hc
          rintro e V5 ⟨rfl, hb⟩
          clear c0 c1
          replace k1 := k1.below hb k1.lt
          replace hB := hB.trans (hb.mono hB.size)
          clear hb
          have c0 := k1.cell (i := 0) rfl
          have c1 := k1.cell (i := 1) rfl
          obtain rfl : c = true := by first | exact hca rfl | exact hca trivial | exact hca
          by_cases hk0 : k = 0
          case pos =>
            have hk0b : (k == 0) = true := by simp [hk0]
            clear hk0
            go_wp2_with fail
            go_ret
            exact ⟨rfl, hB⟩
          case neg =>
            have hk0b : (k == 0) = false := by simpa using hk0
            obtain ⟨d, hdd⟩ : ∃ d, fewB n.toNat (k - 1).toNat i.toNat num.toNat den.toNat = d := ⟨_, rfl⟩
            have hRd := rateS_in (n := n) (k := k - 1) (j := i) ⟨hvH.out.1, ⟨by omega, by omega⟩, hvH.out.2.2.1, hvH.out.2.2.2⟩
            rw [hdd] at hRd
            have hRdH := Lib.hid hRd
            have hda : true = true → d = true := fun h => by rw [← hdd]; exact fewB_less (l := k.toNat) (by omega) (haH.out.trans h)
            clear hdd hRd
            go_wp2_with fail
            have hc := AtMost_any n (k - 1) i num den hn hd V5
            rw [hRdH.out] at hc
            refine hc.mono ?_
            clear hc
            rintro e V6 ⟨rfl, hb⟩
            clear c0 c1
            replace k1 := k1.below hb k1.lt
            replace hB := hB.trans (hb.mono hB.size)
            clear hb
            have c0 := k1.cell (i := 0) rfl
            have c1 := k1.cell (i := 1) rfl
            obtain rfl : d = true := by first | exact hda rfl | exact hda trivial | exact hda
            go_wp2_with fail
            go_ret
            exact ⟨rfl, hB⟩
        case neg =>
          by_cases hj1 : i ≤ j
          case neg =>
            clear hj
            have hj1d : decide (i ≤ j) = false := decide_eq_false hj1
            by_cases hk0 : k = 0
            case pos =>
              have hk0b : (k == 0) = true := by simp [hk0]
              clear hk0
              go_wp2_with fail
              go_ret
              exact ⟨rfl, hB⟩
            case neg =>
              have hk0b : (k == 0) = false := by simpa using hk0
              obtain ⟨d, hdd⟩ : ∃ d, fewB n.toNat (k - 1).toNat i.toNat num.toNat den.toNat = d := ⟨_, rfl⟩
              have hRd := rateS_in (n := n) (k := k - 1) (j := i) ⟨hvH.out.1, ⟨by omega, by omega⟩, hvH.out.2.2.1, hvH.out.2.2.2⟩
              rw [hdd] at hRd
              have hRdH := Lib.hid hRd
              have hda : true = true → d = true := fun h => by rw [← hdd]; exact fewB_less (l := k.toNat) (by omega) (haH.out.trans h)
              clear hdd hRd
              go_wp2_with fail
              have hc := AtMost_any n (k - 1) i num den hn hd V4
              rw [hRdH.out] at hc
              refine hc.mono ?_
              clear hc
              rintro e V5 ⟨rfl, hb⟩
              clear c0 c1
              replace k1 := k1.below hb k1.lt
              replace hB := hB.trans (hb.mono hB.size)
              clear hb
              have c0 := k1.cell (i := 0) rfl
              have c1 := k1.cell (i := 1) rfl
              obtain rfl : d = true := by first | exact hda rfl | exact hda trivial | exact hda
              go_wp2_with fail
              go_ret
              exact ⟨rfl, hB⟩
          case pos =>
            have hj2 : ¬ (j ≤ 256) := by omega
            have hj2d : decide (j ≤ 256) = false := decide_eq_false hj2
            clear hj
            have hj1d : decide (i ≤ j) = true := decide_eq_true hj1
            by_cases hk0 : k = 0
            case pos =>
              have hk0b : (k == 0) = true := by simp [hk0]
              clear hk0
              go_wp2_with fail
              go_ret
              exact ⟨rfl, hB⟩
            case neg =>
              have hk0b : (k == 0) = false := by simpa using hk0
              obtain ⟨d, hdd⟩ : ∃ d, fewB n.toNat (k - 1).toNat i.toNat num.toNat den.toNat = d := ⟨_, rfl⟩
              have hRd := rateS_in (n := n) (k := k - 1) (j := i) ⟨hvH.out.1, ⟨by omega, by omega⟩, hvH.out.2.2.1, hvH.out.2.2.2⟩
              rw [hdd] at hRd
              have hRdH := Lib.hid hRd
              have hda : true = true → d = true := fun h => by rw [← hdd]; exact fewB_less (l := k.toNat) (by omega) (haH.out.trans h)
              clear hdd hRd
              go_wp2_with fail
              have hc := AtMost_any n (k - 1) i num den hn hd V4
              rw [hRdH.out] at hc
              refine hc.mono ?_
              clear hc
              rintro e V5 ⟨rfl, hb⟩
              clear c0 c1
              replace k1 := k1.below hb k1.lt
              replace hB := hB.trans (hb.mono hB.size)
              clear hb
              have c0 := k1.cell (i := 0) rfl
              have c1 := k1.cell (i := 1) rfl
              obtain rfl : d = true := by first | exact hda rfl | exact hda trivial | exact hda
              go_wp2_with fail
              go_ret
              exact ⟨rfl, hB⟩

end Go.Proofs.YtbfigbpjoaccdaaGreat

/- Contracts and laws (PsA, PsB, GvL, Twn, PcW). -/
import Derived.Test.YtekiemlniegddaaGreatQH7
import Derived.Test.YtekiemlniegddaaGreatQH18
import Derived.Test.YtekiemlniegddaaGreatQH2
import Derived.Test.YtekiemlniegddaaGreatQH4
import Derived.Test.YtekiemlniegddaaGreatQH16
set_option linter.unusedVariables false
set_option linter.unusedSimpArgs false
namespace Go.Proofs.YtekiemlniegddaaGreat
open Go Go.RowKit Go.Shelf
theorem swithin (n lo hi : Int) (v : Bool) (hv : inR n lo hi = v) (w : World) :
  Calls Tryz.prog 44 #[.int .i64 n, .int .i64 lo, .int .i64 hi] w fun e w' => e = .returned (.bool v) ∧ w = w' := by
 subst hv
 unfold inR
 cases h1 : decide (lo ≤ n) <;> cases h2 : decide (n ≤ hi)
 all_goals
  simp only [decide_eq_true_eq, decide_eq_false_iff_not] at h1 h2
  go_enter Tryz.func44, Tryz.ntmps44
  go_wp2
  go_ret
  exact ⟨ret_bool (by simp; try omega), rfl⟩
set_option maxRecDepth 100000 in
set_option maxHeartbeats 4000000 in
theorem needs_any (s : StepN) (hs : StepIn s) (ka sa : Option Addr) (kc sc : Nat) (w : World) (ht : Rd w.heap.size w ka s.taps) (hbt : RdB w.heap.size w sa s.bits) :
  Calls Tryz.prog 45 #[stepv s ka kc sa sc] w fun e w' => e = .returned (.bool (needB s)) ∧ Below w.heap.size w w' := by
 have hB : Below w.heap.size w w := Below.refl _ _
 have hop := hs.op
 have hhow := hs.how
 have hbdr := hs.bd
 have htl := hs.tl
 have hbl := hs.bl
 obtain ⟨v, hv⟩ : ∃ v, needB s = v := ⟨_, rfl⟩
 rw [hv]
 unfold needB at hv
 obtain ⟨tl, htl0⟩ : ∃ l, s.taps.length = l := ⟨_, rfl⟩
 obtain ⟨bl, hbl1⟩ : ∃ l, s.bits.length = l := ⟨_, rfl⟩
 unfold stepv
 have htlH := Lib.hid htl0
 have hblH := Lib.hid hbl1
 rw [htl0] at htl ⊢
 rw [hbl1] at hbl ⊢
 clear htl0 hbl1
 obtain ⟨V1, hEV1, hbV1, k1⟩ := newB w 76 #[.int .u8 s.op, .int .i64 s.a, .int .i64 s.b, .int .i64 s.pt.mul, .int .i64 s.pt.add, .int .i64 s.pt.div, .int .i64 s.pt.lo, .int .i64 s.pt.hi, .int .u8 s.how, .int .i64 s.kw, .int .i64 s.kh, .slice ka tl kc, .int .u8 s.bd, .int .i64 s.sw, .int .i64 s.sh, .slice sa bl sc]
 replace ht := later_i ht hbV1
 replace hbt := ((hbt.below (Nat.le_refl _) hbV1).mono hbV1.size)
 replace hB := tmB hB hbV1
 clear hbV1
 obtain ⟨m0, m1, m2, m3, m4, m5, m6, m7, m8, m9, m10, m11, m12, m13, m14, m15⟩ := cz16 k1
 by_cases h1 : s.op = 1
 case pos =>
  have f1 : (s.op == 1) = true := by simp [h1]
  rw [if_pos h1] at hv
  have hvH := Lib.hid hv
  clear h1 hv
  go_enter Tryz.func45, Tryz.ntmps45
  go_wp2_with fail
  clear hEV1
  have hc := ValidPoint_any s.pt V1
  rw [hvH.out] at hc
  refine hc.mono ?_
  clear hc
  rintro e V2 ⟨rfl, hb⟩
  clear m0 m1 m2 m3 m4 m5 m6 m7 m8 m9 m10 m11 m12 m13 m14 m15
  replace k1 := k1.below hb k1.lt
  replace ht := later_i ht hb
  replace hbt := ((hbt.below (Nat.le_refl _) hb).mono hb.size)
  replace hB := tmB hB hb
  clear hb
  obtain ⟨m0, m1, m2, m3, m4, m5, m6, m7, m8, m9, m10, m11, m12, m13, m14, m15⟩ := cz16 k1
  go_wp2_with fail
  go_ret
  exact ⟨rfl, hB⟩
 case neg =>
  have f1 : (s.op == 1) = false := by simp [h1]
  rw [if_neg h1] at hv
  clear h1
  by_cases h2 : s.op = 2
  case pos =>
   have f2 : (s.op == 2) = true := by simp [h2]
   rw [if_pos h2] at hv
   have hvH := Lib.hid hv
   clear h2 hv
   by_cases q1 : 1 ≤ s.how
   case neg =>
    have q1d : decide (1 ≤ s.how) = false := by simp [q1]
    have hv2 : v = false := by rw [← hvH.out]; simp; omega
    subst hv2
    go_enter Tryz.func45, Tryz.ntmps45
    go_wp2_with fail
    go_ret
    exact ⟨ret_bool (by simp; try omega), hB⟩
   case pos =>
    have q1d : decide (1 ≤ s.how) = true := by simp [q1]
    by_cases q2 : s.how ≤ 6
    case neg =>
     have q2d : decide (s.how ≤ 6) = false := by simp [q2]
     have hv2 : v = false := by rw [← hvH.out]; simp; omega
     subst hv2
     go_enter Tryz.func45, Tryz.ntmps45
     go_wp2_with fail
     go_ret
     exact ⟨ret_bool (by simp; try omega), hB⟩
    case pos =>
     have q2d : decide (s.how ≤ 6) = true := by simp [q2]
     have hv2 : v = true := by rw [← hvH.out]; simp; omega
     subst hv2
     go_enter Tryz.func45, Tryz.ntmps45
     go_wp2_with fail
     go_ret
     exact ⟨ret_bool (by simp; try omega), hB⟩
  case neg =>
   have f2 : (s.op == 2) = false := by simp [h2]
   rw [if_neg h2] at hv
   clear h2
   by_cases h3 : s.op = 3
   case pos =>
    have f3 : (s.op == 3) = true := by simp [h3]
    rw [if_pos h3] at hv
    have hvH := Lib.hid hv
    clear h3 hv
    obtain ⟨v1, hv1⟩ : ∃ v, kernOk s.kw s.kh s.taps = v := ⟨_, rfl⟩
    have hv2 := hvH.out
    rw [hv1] at hv2
    have hv2H := Lib.hid hv2
    have hv1H := Lib.hid hv1
    clear hv1 hv2 hvH
    go_enter Tryz.func45, Tryz.ntmps45
    go_wp2_with fail
    clear hEV1
    refine (ValidKernel_any s.kw s.kh ka kc tl s.taps htlH v1 hv1H V1 htl ht).mono ?_
    rintro e V2 ⟨rfl, hb⟩
    clear m0 m1 m2 m3 m4 m5 m6 m7 m8 m9 m10 m11 m12 m13 m14 m15
    replace k1 := k1.below hb k1.lt
    replace ht := later_i ht hb
    replace hbt := ((hbt.below (Nat.le_refl _) hb).mono hb.size)
    replace hB := tmB hB hb
    clear hb
    obtain ⟨m0, m1, m2, m3, m4, m5, m6, m7, m8, m9, m10, m11, m12, m13, m14, m15⟩ := cz16 k1
    cases v1 with
    | false =>
     have hv3 : v = false := by rw [← hv2H.out]; rfl
     subst hv3
     go_wp2_with fail
     go_ret
     exact ⟨rfl, hB⟩
    | true =>
     by_cases q1 : 1 ≤ s.bd
     case neg =>
      have q1d : decide (1 ≤ s.bd) = false := by simp [q1]
      have hv3 : v = false := by rw [← hv2H.out]; simp; omega
      subst hv3
      go_wp2_with fail
      go_ret
      exact ⟨ret_bool (by simp; try omega), hB⟩
     case pos =>
      have q1d : decide (1 ≤ s.bd) = true := by simp [q1]
      by_cases q2 : s.bd ≤ 3
      case neg =>
       have q2d : decide (s.bd ≤ 3) = false := by simp [q2]
       have hv3 : v = false := by rw [← hv2H.out]; simp; omega
       subst hv3
       go_wp2_with fail
       go_ret
       exact ⟨ret_bool (by simp; try omega), hB⟩
      case pos =>
       have q2d : decide (s.bd ≤ 3) = true := by simp [q2]
       have hv3 : v = true := by rw [← hv2H.out]; simp; omega
       subst hv3
       go_wp2_with fail
       go_ret
       exact ⟨ret_bool (by simp; try omega), hB⟩
   case neg =>
    have f3 : (s.op == 3) = false := by simp [h3]
    rw [if_neg h3] at hv
    clear h3
    by_cases h4 : s.op = 4
    case pos =>
     have f4 : (s.op == 4) = true := by simp [h4]
     rw [if_pos (.inl h4)] at hv
     have hvH := Lib.hid hv
     clear h4 hv
     go_enter Tryz.func45, Tryz.ntmps45
     go_wp2_with fail
     clear hEV1
     refine (ValidShape_any s.sw s.sh sa sc bl s.bits hblH v hvH V1 hbl hbt).mono ?_
     rintro e V2 ⟨rfl, hb⟩
     clear m0 m1 m2 m3 m4 m5 m6 m7 m8 m9 m10 m11 m12 m13 m14 m15
     replace k1 := k1.below hb k1.lt
     replace ht := later_i ht hb
     replace hbt := ((hbt.below (Nat.le_refl _) hb).mono hb.size)
     replace hB := tmB hB hb
     clear hb
     obtain ⟨m0, m1, m2, m3, m4, m5, m6, m7, m8, m9, m10, m11, m12, m13, m14, m15⟩ := cz16 k1
     go_wp2_with fail
     go_ret
     exact ⟨rfl, hB⟩
    case neg =>
     have f4 : (s.op == 4) = false := by simp [h4]
     by_cases h5 : s.op = 5
     case pos =>
      have f5 : (s.op == 5) = true := by simp [h5]
      rw [if_pos (.inr h5)] at hv
      have hvH := Lib.hid hv
      clear h5 hv
      go_enter Tryz.func45, Tryz.ntmps45
      go_wp2_with fail
      clear hEV1
      refine (ValidShape_any s.sw s.sh sa sc bl s.bits hblH v hvH V1 hbl hbt).mono ?_
      rintro e V2 ⟨rfl, hb⟩
      clear m0 m1 m2 m3 m4 m5 m6 m7 m8 m9 m10 m11 m12 m13 m14 m15
      replace k1 := k1.below hb k1.lt
      replace ht := later_i ht hb
      replace hbt := ((hbt.below (Nat.le_refl _) hb).mono hb.size)
      replace hB := tmB hB hb
      clear hb
      obtain ⟨m0, m1, m2, m3, m4, m5, m6, m7, m8, m9, m10, m11, m12, m13, m14, m15⟩ := cz16 k1
      go_wp2_with fail
      go_ret
      exact ⟨rfl, hB⟩
     case neg =>
      have f5 : (s.op == 5) = false := by simp [h5]
      rw [if_neg (by rintro (h | h); exact h4 h; exact h5 h)] at hv
      clear h4 h5
      subst hv
      go_enter Tryz.func45, Tryz.ntmps45
      go_wp2_with fail
      go_ret
      exact ⟨rfl, hB⟩
theorem refB_is (I : Int) (i : Nat) (s : StepN) : refB I i s = (inR s.a 0 (I + i - 1) && (!decide (s.op = 2) || inR s.b 0 (I + i - 1))) := rfl
set_option maxRecDepth 100000 in
set_option maxHeartbeats 8000000 in
theorem PValid_any (P : PipeN) (a : Option Addr) (n c : Nat) (hn : P.ss.length = n) (hP : PipeIn P) (v : Bool) (hv : pipeB P = v) (w : World) (hr : RdSs w.heap.size w a P.ss) :
  Calls Tryz.prog 13 #[pipev P a n c] w fun e w' => e = .returned (.bool v) ∧ Below w.heap.size w w' := by
 obtain ⟨W, H, I, ss⟩ := P
 have hsz := sizeB_is W H I ss n hn
 obtain ⟨hn0, hst⟩ := hP
 have hnH := Lib.hid hn
 have hvH := Lib.hid hv
 have hstH := Lib.hid hst
 simp only at hnH hvH hstH hr hn0
 rw [hnH.out] at hn0
 have hB : Below w.heap.size w w := Below.refl _ _
 clear hn hv hst
 have tok1 : True := trivial
 have tok2 : True := trivial
 have tok3 : True := trivial
 have tok4 : True := trivial
 have tok5 : True := trivial
 have tok6 : True := trivial
 unfold pipev
 simp only
 obtain ⟨V1, hEV1, hbV1, kp⟩ := newB w 24 #[.int .i64 W, .int .i64 H, .int .i64 I, .slice a n c]
 replace hB := tmB hB hbV1
 clear hbV1
 obtain ⟨m0, m1, m2, m3⟩ := cz4 kp
 cases h1 : inR W 1 16 with
 | false =>
  have hvf : v = false := by rw [← hvH.out]; exact pipeB_size (by rw [hsz, h1]; simp)
  subst hvf
  have h1H := Lib.hid h1
  clear h1 hsz hvH hr hstH hnH
  go_enter Tryz.func13, Tryz.ntmps13
  go_wp2_with (go_at_call 44; have _t := tok1; refine (swithin W 1 16 false h1H.out _).mono ?_; clear _t tok1; rintro e w' ⟨rfl, rfl⟩)
  go_ret
  exact ⟨rfl, hB⟩
 | true =>
 have h1H := Lib.hid h1
 have g0 := h1
 clear h1
 cases h2 : inR H 1 16 with
 | false =>
  have hvf : v = false := by rw [← hvH.out]; exact pipeB_size (by rw [hsz, h1H.out, h2]; simp)
  subst hvf
  have h2H := Lib.hid h2
  clear h2 hsz hvH hr hstH hnH
  go_enter Tryz.func13, Tryz.ntmps13
  go_wp2_with (first
   | (go_at_call 44; have _t := tok1; refine (swithin W 1 16 true h1H.out _).mono ?_; clear _t tok1; rintro e w' ⟨rfl, rfl⟩)
   | (go_at_call 44; have _t := tok2; refine (swithin H 1 16 false h2H.out _).mono ?_; clear _t tok2; rintro e w' ⟨rfl, rfl⟩))
  go_ret
  exact ⟨rfl, hB⟩
 | true =>
 have h2H := Lib.hid h2
 have g1 := h2
 clear h2
 cases h3 : inR I 1 3 with
 | false =>
  have hvf : v = false := by rw [← hvH.out]; exact pipeB_size (by rw [hsz, h1H.out, h2H.out, h3]; simp)
  subst hvf
  have h3H := Lib.hid h3
  clear h3 hsz hvH hr hstH hnH
  go_enter Tryz.func13, Tryz.ntmps13
  go_wp2_with (first
   | (go_at_call 44; have _t := tok1; refine (swithin W 1 16 true h1H.out _).mono ?_; clear _t tok1; rintro e w' ⟨rfl, rfl⟩)
   | (go_at_call 44; have _t := tok2; refine (swithin H 1 16 true h2H.out _).mono ?_; clear _t tok2; rintro e w' ⟨rfl, rfl⟩)
   | (go_at_call 44; have _t := tok3; refine (swithin I 1 3 false h3H.out _).mono ?_; clear _t tok3; rintro e w' ⟨rfl, rfl⟩))
  go_ret
  exact ⟨rfl, hB⟩
 | true =>
 have h3H := Lib.hid h3
 have g2 := h3
 clear h3
 by_cases q1 : 1 ≤ n
 case neg =>
  have hvf : v = false := by rw [← hvH.out]; exact pipeB_size (by rw [hsz, h1H.out, h2H.out, h3H.out]; simp [inR]; omega)
  subst hvf
  have q1d : decide ((n : Int) < 1) = true := by simp; omega
  clear hsz hvH hr hstH hnH
  go_enter Tryz.func13, Tryz.ntmps13
  go_wp2_with (first
   | (go_at_call 44; have _t := tok1; refine (swithin W 1 16 true h1H.out _).mono ?_; clear _t tok1; rintro e w' ⟨rfl, rfl⟩)
   | (go_at_call 44; have _t := tok2; refine (swithin H 1 16 true h2H.out _).mono ?_; clear _t tok2; rintro e w' ⟨rfl, rfl⟩)
   | (go_at_call 44; have _t := tok3; refine (swithin I 1 3 true h3H.out _).mono ?_; clear _t tok3; rintro e w' ⟨rfl, rfl⟩))
  all_goals (go_ret; exact ⟨rfl, hB⟩)
 case pos =>
 have q1d : decide ((n : Int) < 1) = false := by simp; omega
 by_cases q2 : n ≤ 12
 case neg =>
  have hvf : v = false := by rw [← hvH.out]; exact pipeB_size (by rw [hsz, h1H.out, h2H.out, h3H.out]; simp [inR]; omega)
  subst hvf
  have q2d : decide (12 < (n : Int)) = true := by simp; omega
  clear hsz hvH hr hstH hnH
  go_enter Tryz.func13, Tryz.ntmps13
  go_wp2_with (first
   | (go_at_call 44; have _t := tok1; refine (swithin W 1 16 true h1H.out _).mono ?_; clear _t tok1; rintro e w' ⟨rfl, rfl⟩)
   | (go_at_call 44; have _t := tok2; refine (swithin H 1 16 true h2H.out _).mono ?_; clear _t tok2; rintro e w' ⟨rfl, rfl⟩)
   | (go_at_call 44; have _t := tok3; refine (swithin I 1 3 true h3H.out _).mono ?_; clear _t tok3; rintro e w' ⟨rfl, rfl⟩))
  all_goals (go_ret; exact ⟨rfl, hB⟩)
 case pos =>
 have q2d : decide (12 < (n : Int)) = false := by simp; omega
 have hszt : sizeB ⟨W, H, I, ss⟩ = true := by rw [hsz, h1H.out, h2H.out, h3H.out]; simp [inR]; omega
 have hsztH := Lib.hid hszt
 clear hszt hsz
 simp only [inR, Bool.and_eq_true, decide_eq_true_eq] at g0 g1 g2
 go_enter Tryz.func13, Tryz.ntmps13
 go_wp2_with (first
  | (go_at_call 44; have _t := tok1; refine (swithin W 1 16 true h1H.out _).mono ?_; clear _t tok1; rintro e w' ⟨rfl, rfl⟩)
  | (go_at_call 44; have _t := tok2; refine (swithin H 1 16 true h2H.out _).mono ?_; clear _t tok2; rintro e w' ⟨rfl, rfl⟩)
  | (go_at_call 44; have _t := tok3; refine (swithin I 1 3 true h3H.out _).mono ?_; clear _t tok3; rintro e w' ⟨rfl, rfl⟩))
 clear hEV1
 clear m0 m1 m2 m3
 clear h1H h2H h3H
 go_loopw [3] (fun i wr => ∃ k : Nat, k ≤ n ∧ i = .int .i64 (k : Int) ∧ Hid (stepsB I ss k = true) ∧ Below w.heap.size w wr ∧ Blk wr w.heap.size 24 #[.int .i64 W, .int .i64 H, .int .i64 I, .slice a n c]) (fun i _ => n - (intOf i).toNat)
 case atStart => exact ⟨0, Nat.zero_le _, rfl, Lib.hid rfl, hB, kp⟩
 case round =>
  clear hB kp
  obtain ⟨k, hk, rfl, hall, hB, kp⟩ := hrel
  by_cases hlt : k < n
  case neg =>
   have hkn : k = n := by omega
   subst hkn
   have hvt : v = true := by rw [← hvH.out]; unfold pipeB; rw [hsztH.out]; simp only; rw [hnH.out, hall.out]; rfl
   subst hvt
   have m3 := kp.cell (i := 3) rfl
   go_wp2_with fail
   go_ret
   exact ⟨rfl, hB⟩
  case pos =>
   have hkl : k < ss.length := by have := hnH.out; omega
   have hs := hstH.out k hkl
   have hno : (needB (stAt ss k) && refB I k (stAt ss k)) = false → v = false := fun h => by rw [← hvH.out]; exact pipeB_no (P := ⟨W, H, I, ss⟩) hkl h
   have hyes : (needB (stAt ss k) && refB I k (stAt ss k)) = true → stepsB I ss (k + 1) = true := fun h => by rw [stepsB, hall.out, h]; rfl
   obtain ⟨b, o, ka, kc, sa, sc, rfl, hbl, hst⟩ : ∃ b o ka kc sa sc, a = some ⟨b, o, none⟩ ∧ b < w.heap.size ∧ StAt w.heap.size w b (o + k * 16) (stAt ss k) ka kc sa sc := by
    rcases hr with h | ⟨b, o, h1, h2, h3⟩
    ·exfalso; rw [h] at hkl; simp at hkl
    ·obtain ⟨ka, kc, sa, sc, e⟩ := h3 k hkl
     exact ⟨b, o, ka, kc, sa, sc, h1, h2, e⟩
   obtain ⟨s, hse⟩ : ∃ s, stAt ss k = s := ⟨_, rfl⟩
   rw [hse] at hs hno hyes hst
   have hopb := hs.op
   have hnoH := Lib.hid hno
   have hyesH := Lib.hid hyes
   clear hse hno hyes
   obtain ⟨hcell, hta, hbi⟩ := hst
   have c0 : wr.cell? ⟨b, o + k * 16, none⟩ = some (.int .u8 s.op) := (hB.cell (p := ⟨b, o + k * 16, none⟩) hbl).trans (hcell 0 _ rfl)
   have c1 : wr.cell? ⟨b, o + k * 16 + 1, none⟩ = some (.int .i64 s.a) := (hB.cell (p := ⟨b, o + k * 16 + 1, none⟩) hbl).trans (hcell 1 _ rfl)
   have c2 : wr.cell? ⟨b, o + k * 16 + 2, none⟩ = some (.int .i64 s.b) := (hB.cell (p := ⟨b, o + k * 16 + 2, none⟩) hbl).trans (hcell 2 _ rfl)
   have c3 : wr.cell? ⟨b, o + k * 16 + 3, none⟩ = some (.int .i64 s.pt.mul) := (hB.cell (p := ⟨b, o + k * 16 + 3, none⟩) hbl).trans (hcell 3 _ rfl)
   have c4 : wr.cell? ⟨b, o + k * 16 + 4, none⟩ = some (.int .i64 s.pt.add) := (hB.cell (p := ⟨b, o + k * 16 + 4, none⟩) hbl).trans (hcell 4 _ rfl)
   have c5 : wr.cell? ⟨b, o + k * 16 + 5, none⟩ = some (.int .i64 s.pt.div) := (hB.cell (p := ⟨b, o + k * 16 + 5, none⟩) hbl).trans (hcell 5 _ rfl)
   have c6 : wr.cell? ⟨b, o + k * 16 + 6, none⟩ = some (.int .i64 s.pt.lo) := (hB.cell (p := ⟨b, o + k * 16 + 6, none⟩) hbl).trans (hcell 6 _ rfl)
   have c7 : wr.cell? ⟨b, o + k * 16 + 7, none⟩ = some (.int .i64 s.pt.hi) := (hB.cell (p := ⟨b, o + k * 16 + 7, none⟩) hbl).trans (hcell 7 _ rfl)
   have c8 : wr.cell? ⟨b, o + k * 16 + 8, none⟩ = some (.int .u8 s.how) := (hB.cell (p := ⟨b, o + k * 16 + 8, none⟩) hbl).trans (hcell 8 _ rfl)
   have c9 : wr.cell? ⟨b, o + k * 16 + 9, none⟩ = some (.int .i64 s.kw) := (hB.cell (p := ⟨b, o + k * 16 + 9, none⟩) hbl).trans (hcell 9 _ rfl)
   have c10 : wr.cell? ⟨b, o + k * 16 + 10, none⟩ = some (.int .i64 s.kh) := (hB.cell (p := ⟨b, o + k * 16 + 10, none⟩) hbl).trans (hcell 10 _ rfl)
   have c11 : wr.cell? ⟨b, o + k * 16 + 11, none⟩ = some (.slice ka s.taps.length kc) := (hB.cell (p := ⟨b, o + k * 16 + 11, none⟩) hbl).trans (hcell 11 _ rfl)
   have c12 : wr.cell? ⟨b, o + k * 16 + 12, none⟩ = some (.int .u8 s.bd) := (hB.cell (p := ⟨b, o + k * 16 + 12, none⟩) hbl).trans (hcell 12 _ rfl)
   have c13 : wr.cell? ⟨b, o + k * 16 + 13, none⟩ = some (.int .i64 s.sw) := (hB.cell (p := ⟨b, o + k * 16 + 13, none⟩) hbl).trans (hcell 13 _ rfl)
   have c14 : wr.cell? ⟨b, o + k * 16 + 14, none⟩ = some (.int .i64 s.sh) := (hB.cell (p := ⟨b, o + k * 16 + 14, none⟩) hbl).trans (hcell 14 _ rfl)
   have c15 : wr.cell? ⟨b, o + k * 16 + 15, none⟩ = some (.slice sa s.bits.length sc) := (hB.cell (p := ⟨b, o + k * 16 + 15, none⟩) hbl).trans (hcell 15 _ rfl)
   have lp := kp.lt
   have lw := hB.size
   clear hcell
   obtain ⟨m0, m1, m2, m3⟩ := cz4 kp
   have mm0 := m0
   have mm1 := m1
   have mm2 := m2
   have mm3 := m3
   obtain ⟨V11, hEV11, hbV11, ks⟩ := newB wr 76 #[.int .u8 s.op, .int .i64 s.a, .int .i64 s.b, .int .i64 s.pt.mul, .int .i64 s.pt.add, .int .i64 s.pt.div, .int .i64 s.pt.lo, .int .i64 s.pt.hi, .int .u8 s.how, .int .i64 s.kw, .int .i64 s.kh, .slice ka s.taps.length kc, .int .u8 s.bd, .int .i64 s.sw, .int .i64 s.sh, .slice sa s.bits.length sc]
   clear m0 m1 m2 m3
   replace kp := kp.below hbV11 kp.lt
   replace hB := tmB hB hbV11
   clear hbV11
   obtain ⟨m0, m1, m2, m3⟩ := cz4 kp
   obtain ⟨y0, y1, y2, y3, y4, y5, y6, y7, y8, y9, y10, y11, y12, y13, y14, y15⟩ := cz16 ks
   obtain ⟨nb, hnb⟩ : ∃ v, needB s = v := ⟨_, rfl⟩
   have hnbH := Lib.hid hnb
   clear hnb
   have tok1 : True := trivial
   have tok2 : True := trivial
   have tok3 : True := trivial
   have tok4 : True := trivial
   have tok5 : True := trivial
   have tok6 : True := trivial
   have hneed := needs_any s hs ka sa kc sc V11 (later_i hta hB) ((hbi.below (Nat.le_refl _) hB).mono hB.size)
   rw [hnbH.out] at hneed
   have hneedH := Lib.hid hneed
   clear hneed
   cases nb with
   | false =>
    have hvf : v = false := hnoH.out (by rw [hnbH.out]; rfl)
    subst hvf
    go_wp2_with (go_at_call 45; have _t := tok1; refine hneedH.out.mono ?_; clear _t tok1; rintro e w2 ⟨rfl, hb2⟩; have d0 := (ks.below hb2 ks.lt).cell (i := 0) rfl; have d1 := (ks.below hb2 ks.lt).cell (i := 1) rfl; have d2 := (ks.below hb2 ks.lt).cell (i := 2) rfl; have e2 := (kp.below hb2 kp.lt).cell (i := 2) rfl)
    all_goals (go_ret; exact ⟨rfl, hB.trans (hb2.mono hB.size)⟩)
   | true =>
    have hrefE := refB_is I k s
    obtain ⟨ra, hra⟩ : ∃ v, inR s.a 0 (I + (k : Int) - 1) = v := ⟨_, rfl⟩
    obtain ⟨rb, hrb⟩ : ∃ v, inR s.b 0 (I + (k : Int) - 1) = v := ⟨_, rfl⟩
    rw [hra, hrb] at hrefE
    have hraH := Lib.hid hra
    have hrbH := Lib.hid hrb
    have hrefH := Lib.hid hrefE
    clear hra hrb hrefE
    cases ra with
    | false =>
     have hvf : v = false := hnoH.out (by rw [hnbH.out, hrefH.out]; rfl)
     subst hvf
     go_wp2_with (first
      | (go_at_call 45; have _t := tok1; refine hneedH.out.mono ?_; clear _t tok1; rintro e w2 ⟨rfl, hb2⟩; have d0 := (ks.below hb2 ks.lt).cell (i := 0) rfl; have d1 := (ks.below hb2 ks.lt).cell (i := 1) rfl; have d2 := (ks.below hb2 ks.lt).cell (i := 2) rfl; have e2 := (kp.below hb2 kp.lt).cell (i := 2) rfl)
      | (go_at_call 44; have _t := tok2; refine (swithin s.a 0 (I + (k : Int) - 1) false hraH.out _).mono ?_; clear _t tok2; rintro e w3 ⟨rfl, rfl⟩))
     all_goals (go_ret; exact ⟨rfl, hB.trans (hb2.mono hB.size)⟩)
    | true =>
     by_cases h2 : s.op = 2
     case neg =>
      have f2 : (s.op == 2) = false := by simp [h2]
      have hyk := hyesH.out (by rw [hnbH.out, hrefH.out]; simp [h2])
      have hykH := Lib.hid hyk
      clear h2 hyk
      go_wp2_with (first
       | (go_at_call 45; have _t := tok1; refine hneedH.out.mono ?_; clear _t tok1; rintro e w2 ⟨rfl, hb2⟩; have d0 := (ks.below hb2 ks.lt).cell (i := 0) rfl; have d1 := (ks.below hb2 ks.lt).cell (i := 1) rfl; have d2 := (ks.below hb2 ks.lt).cell (i := 2) rfl; have e2 := (kp.below hb2 kp.lt).cell (i := 2) rfl)
       | (go_at_call 44; have _t := tok2; refine (swithin s.a 0 (I + (k : Int) - 1) true hraH.out _).mono ?_; clear _t tok2; rintro e w3 ⟨rfl, rfl⟩))
      go_roundw
      case rel => exact ⟨k + 1, by omega, by go_num, hykH, hB.trans (hb2.mono hB.size), (kp.below hb2 kp.lt)⟩
      case measure => simp [intOf]; omega
     case pos =>
      have f2 : (s.op == 2) = true := by simp [h2]
      cases rb with
      | false =>
       have hvf : v = false := hnoH.out (by rw [hnbH.out, hrefH.out]; simp [h2])
       subst hvf
       clear h2
       go_wp2_with (first
        | (go_at_call 45; have _t := tok1; refine hneedH.out.mono ?_; clear _t tok1; rintro e w2 ⟨rfl, hb2⟩; have d0 := (ks.below hb2 ks.lt).cell (i := 0) rfl; have d1 := (ks.below hb2 ks.lt).cell (i := 1) rfl; have d2 := (ks.below hb2 ks.lt).cell (i := 2) rfl; have e2 := (kp.below hb2 kp.lt).cell (i := 2) rfl)
        | (go_at_call 44; have _t := tok2; refine (swithin s.a 0 (I + (k : Int) - 1) true hraH.out _).mono ?_; clear _t tok2; rintro e w3 ⟨rfl, rfl⟩)
        | (go_at_call 44; have _t := tok3; refine (swithin s.b 0 (I + (k : Int) - 1) false hrbH.out _).mono ?_; clear _t tok3; rintro e w3 ⟨rfl, rfl⟩))
       all_goals (go_ret; exact ⟨rfl, hB.trans (hb2.mono hB.size)⟩)
      | true =>
       have hyk := hyesH.out (by rw [hnbH.out, hrefH.out]; simp)
       have hykH := Lib.hid hyk
       clear h2 hyk
       go_wp2_with (first
        | (go_at_call 45; have _t := tok1; refine hneedH.out.mono ?_; clear _t tok1; rintro e w2 ⟨rfl, hb2⟩; have d0 := (ks.below hb2 ks.lt).cell (i := 0) rfl; have d1 := (ks.below hb2 ks.lt).cell (i := 1) rfl; have d2 := (ks.below hb2 ks.lt).cell (i := 2) rfl; have e2 := (kp.below hb2 kp.lt).cell (i := 2) rfl)
        | (go_at_call 44; have _t := tok2; refine (swithin s.a 0 (I + (k : Int) - 1) true hraH.out _).mono ?_; clear _t tok2; rintro e w3 ⟨rfl, rfl⟩)
        | (go_at_call 44; have _t := tok3; refine (swithin s.b 0 (I + (k : Int) - 1) true hrbH.out _).mono ?_; clear _t tok3; rintro e w3 ⟨rfl, rfl⟩))
       go_roundw
       case rel => exact ⟨k + 1, by omega, by go_num, hykH, hB.trans (hb2.mono hB.size), (kp.below hb2 kp.lt)⟩
       case measure => simp [intOf]; omega
end Go.Proofs.YtekiemlniegddaaGreat
namespace Go.Proofs.YtekiemlniegddaaGreat
open Go Go.RowKit Go.Shelf
/-- One image more is fit. -/
theorem fit_succ {ms : List PicN} {w h : Int} {k : Nat} (hk : k < ms.length) : (ms.take (k + 1)).all (fitP w h) = ((ms.take k).all (fitP w h) && fitP w h (picAt ms k)) := by
 rw [List.take_succ_eq_append_getElem hk, List.all_append]; unfold picAt; rw [List.getElem?_eq_getElem hk]; simp
theorem fit_hit {ms : List PicN} {w h : Int} {k : Nat} (hk : k < ms.length) (hf : fitP w h (picAt ms k) = false) : ms.all (fitP w h) = false := by
 unfold picAt at hf
 rw [List.getElem?_eq_getElem hk] at hf
 exact List.all_eq_false.2 ⟨_, List.getElem_mem hk, by simpa using hf⟩
theorem givenB_is (ms : List PicN) (N w h : Int) : givenB ms N w h = (decide ((ms.length : Int) = N) && ms.all (fitP w h)) := rfl
end Go.Proofs.YtekiemlniegddaaGreat
namespace Go.Proofs.YtekiemlniegddaaGreat
open Go Go.RowKit Go.Shelf
set_option maxRecDepth 100000 in
set_option maxHeartbeats 4000000 in
theorem given3_any (Q : PipeN) (sa : Option Addr) (sn sc : Nat) (ms : List PicN) (a : Option Addr) (c n : Nat) (hn : ms.length = n) (hm : n ≤ 9223372036854775807) (hpl : ∀ i, i < n → (picAt ms i).px.length ≤ 9223372036854775807) (v : Bool) (hv : givenB ms Q.inp Q.w Q.h = v) (w : World) (hr : RdPs w.heap.size w a ms) :
  Calls Tryz.prog 29 #[pipev Q sa sn sc, .slice a n c] w fun e w' => e = .returned (.bool v) ∧ Below w.heap.size w w' := by
 rw [givenB_is, hn] at hv
 obtain ⟨W, hW⟩ : ∃ W, Q.w = W := ⟨_, rfl⟩
 obtain ⟨H, hH⟩ : ∃ H, Q.h = H := ⟨_, rfl⟩
 obtain ⟨N, hN⟩ : ∃ N, Q.inp = N := ⟨_, rfl⟩
 unfold pipev
 rw [hW, hH, hN]
 rw [hW, hH, hN] at hv
 clear hW hH hN
 have hnH := Lib.hid hn
 have hplH := Lib.hid hpl
 have hvH := Lib.hid hv
 obtain ⟨V1, hV1, hbw, kp⟩ := newB w 24 #[.int .i64 W, .int .i64 H, .int .i64 N, .slice sa sn sc]
 have m2 := kp.cell (i := 2) rfl
 clear hn hpl hv
 by_cases hc : (n : Int) = N
 case neg =>
  have f1 : ((n : Int) != N) = true := by simp [hc]
  have hvf : v = false := by rw [← hvH.out]; simp [hc]
  subst hvf
  clear hvH hc
  go_enter Tryz.func29, Tryz.ntmps29
  go_wp2_with fail
  go_ret
  exact ⟨rfl, hbw⟩
 have f1 : ((n : Int) != N) = false := by simp [hc]
 have hcH := Lib.hid hc
 clear hc
 go_enter Tryz.func29, Tryz.ntmps29
 go_wp2_with fail
 clear m2 hV1
 go_loopw [5] (fun i wr => ∃ k : Nat, k ≤ n ∧ i = .int .i64 (k : Int) ∧ Hid ((ms.take k).all (fitP W H) = true) ∧ Below w.heap.size w wr ∧ Blk wr w.heap.size 24 #[.int .i64 W, .int .i64 H, .int .i64 N, .slice sa sn sc]) (fun i _ => n - (intOf i).toNat)
 case atStart => exact ⟨0, Nat.zero_le _, rfl, Lib.hid (by simp), hbw, kp⟩
 case round =>
  clear hbw kp
  obtain ⟨k, hk, rfl, hall, hB, kp⟩ := hrel
  by_cases hlt : k < n
  case neg =>
   have hltd : decide ((k : Int) < (n : Int)) = false := by simp; omega
   have hkn : k = n := by omega
   subst hkn
   have hvt : v = true := by
    have h1 := hall.out
    rw [List.take_of_length_le (by have := hnH.out; omega)] at h1
    rw [← hvH.out, h1]; simp [hcH.out]
   subst hvt
   go_wp2_with fail
   go_ret
   exact ⟨rfl, hB⟩
  case pos =>
   have hltd : decide ((k : Int) < (n : Int)) = true := by simp; omega
   have hlt' : k < ms.length := by have := hnH.out; omega
   obtain ⟨b, o, rfl, hbl, pa, pc, p0, p1, p2, rA, _⟩ := hr.at hlt'
   have c0 := (hB.cell (p := ⟨b, o + k * 3, none⟩) hbl).trans p0
   have c1 := (hB.cell (p := ⟨b, o + k * 3 + 1, none⟩) hbl).trans p1
   have c2 := (hB.cell (p := ⟨b, o + k * 3 + 2, none⟩) hbl).trans p2
   have hbl2 : b < wr.heap.size := by have := hB.size; omega
   have hsucc := fit_succ (w := W) (h := H) hlt'
   rw [hall.out, Bool.true_and] at hsucc
   have hhit := fun h => fit_hit (w := W) (h := H) hlt' h
   have hpk := hplH.out k hlt
   have hfd : fitP W H (picAt ms k) = (vld (picAt ms k).w (picAt ms k).h (picAt ms k).px && (decide ((picAt ms k).w = W) && decide ((picAt ms k).h = H))) := rfl
   obtain ⟨⟨mw, mh, mx⟩, hM⟩ : ∃ M, picAt ms k = M := ⟨_, rfl⟩
   obtain ⟨fv, hfv⟩ : ∃ v, fitP W H (picAt ms k) = v := ⟨_, rfl⟩
   rw [hfv] at hsucc hfd hhit
   rw [hM] at c0 c1 c2 rA hpk hfd
   simp only at c0 c1 c2 rA hpk hfd
   obtain ⟨v0, hv0⟩ : ∃ v, vld mw mh mx = v := ⟨_, rfl⟩
   rw [hv0] at hfd
   obtain ⟨l, hl⟩ : ∃ l, mx.length = l := ⟨_, rfl⟩
   rw [hl] at c2 hpk
   have hcall := fun X (hX : Below wr.heap.size wr X) => Valid_any mw mh pa pc mx l (Lib.hid hl) X hpk (later_i (later_i rA hB) hX)
   rw [hv0] at hcall
   have hcallH := Lib.hid hcall
   have hsuccH := Lib.hid hsucc
   have hhitH := Lib.hid hhit
   have hfdH := Lib.hid hfd
   clear p0 p1 p2 hM hfv rA hcall hsucc hhit hfd hv0 hl
   have hno : fv = false → v = false := fun h => by rw [← hvH.out, hhitH.out h]; simp
   have hnoH := Lib.hid hno
   clear hno
   go_wp2_with fail
   have hS : Below wr.heap.size wr wr.drew ∧ Blk wr.drew w.heap.size 24 #[.int .i64 W, .int .i64 H, .int .i64 N, .slice sa sn sc] := ⟨(Below.refl _ wr).drew, kp.below (Below.refl _ wr).drew kp.lt⟩
   have hB1 := hB.trans ((Below.refl _ wr).drew.mono hB.size)
   clear hB kp
   cases v0 with
   | false =>
    have hvf : v = false := hnoH.out (by rw [hfdH.out]; rfl)
    subst hvf
    refine plain_region (fun W' => Below wr.heap.size wr W' ∧ Blk W' w.heap.size 24 #[.int .i64 W, .int .i64 H, .int .i64 N, .slice sa sn sc]) 26 26 (by kernel_rfl) rfl ?_
    simp only [Array.replicate_succ, Array.replicate_zero, List.push_toArray, List.nil_append, List.cons_append]
    obtain ⟨X0, hXX0⟩ : ∃ X : World, wr.drew = X := ⟨_, rfl⟩
    rw [hXX0] at hS hB1 ⊢
    clear hXX0
    refine tkz 0 rfl hS (fun w' hS' => by go_simp; rfl) ?_
    simp only [nrz]
    refine tkz 1 rfl hS (fun w' hS' => by go_simp; rfl) ?_
    simp only [nrz]
    refine tkz 2 (v := ?av2) rfl hS (fun w' hS' => ?ay2) ?az2
    case ay2 =>
     go_simp
     try go_ints
     first
     | rfl
     | (rw [if_pos (by omega)]; done)
     | rw [if_pos ⟨by omega, by omega⟩]
    simp only [nrz]
    refine tkz 3 (v := ?av3) rfl hS (fun w' hS' => ?ay3) ?az3
    case ay3 =>
     have e0 := (hS'.1.cell (p := ⟨b, o + k * 3, none⟩) hbl2).trans c0
     have e1 := (hS'.1.cell (p := ⟨b, o + k * 3 + 1, none⟩) hbl2).trans c1
     have e2 := (hS'.1.cell (p := ⟨b, o + k * 3 + 2, none⟩) hbl2).trans c2
     have m0 := hS'.2.cell (i := 0) rfl
     have m1 := hS'.2.cell (i := 1) rfl
     clear hS'
     go_simp
     rfl
    simp only [nrz]
    refine step_op 4 (by kernel_rfl) rfl (fun K hK => ?_)
    rw [if_pos (by rfl)]
    go_simp
    refine (hcallH.out X0 hS.1).mono ?_
    rintro e X4 ⟨rfl, hb4⟩
    have hS4 : Below wr.heap.size wr X4 ∧ Blk X4 w.heap.size 24 #[.int .i64 W, .int .i64 H, .int .i64 N, .slice sa sn sc] := ⟨hS.1.trans (hb4.mono hS.1.size), hS.2.below hb4 hS.2.lt⟩
    have hB4 := hB1.trans (hb4.mono hB1.size)
    clear hb4 hB1
    refine hK.out _ _ (fun h => hS4) ?_
    clear hK K
    try simp only [Act.put, nrz]
    refine tkz 5 (v := .bool true) rfl hS4 (fun w' hS' => ?ay5) ?az5
    case ay5 =>
     clear hS'
     go_simp
     try rfl
    simp only [nrz]
    refine tkz 6 (v := .bool true) rfl hS4 (fun w' hS' => ?ay6) ?az6
    case ay6 =>
     clear hS'
     go_simp
     try rfl
    simp only [nrz]
    refine psz 7 rfl hS4 ?_
    simp only [nrz]
    refine psz 8 rfl hS4 ?_
    simp only [nrz]
    refine psz 9 rfl hS4 ?_
    simp only [nrz]
    refine psz 10 rfl hS4 ?_
    simp only [nrz]
    refine psz 11 rfl hS4 ?_
    simp only [nrz]
    refine psz 12 rfl hS4 ?_
    simp only [nrz]
    refine psz 13 rfl hS4 ?_
    simp only [nrz]
    refine psz 14 rfl hS4 ?_
    simp only [nrz]
    refine tkz 15 (v := .bool true) rfl hS4 (fun w' hS' => ?ay15) ?az15
    case ay15 =>
     clear hS'
     go_simp
     try rfl
    simp only [nrz]
    refine tkz 16 (v := .bool true) rfl hS4 (fun w' hS' => ?ay16) ?az16
    case ay16 =>
     clear hS'
     go_simp
     try rfl
    simp only [nrz]
    refine psz 17 rfl hS4 ?_
    simp only [nrz]
    refine psz 18 rfl hS4 ?_
    simp only [nrz]
    refine psz 19 rfl hS4 ?_
    simp only [nrz]
    refine psz 20 rfl hS4 ?_
    simp only [nrz]
    refine psz 21 rfl hS4 ?_
    simp only [nrz]
    refine psz 22 rfl hS4 ?_
    simp only [nrz]
    refine psz 23 rfl hS4 ?_
    simp only [nrz]
    refine psz 24 rfl hS4 ?_
    simp only [nrz]
    refine tkz 25 (v := .bool true) rfl hS4 (fun w' hS' => ?ay25) ?az25
    case ay25 =>
     clear hS'
     go_simp
     try rfl
    simp only [nrz]
    refine done_ops (by kernel_rfl) ?_
    go_wp2_with fail
    go_ret
    exact ⟨rfl, hB4⟩
   | true =>
    by_cases q1 : mw = W
    case neg =>
     have q1d : (mw != W) = true := by simp [q1]
     have hvf : v = false := hnoH.out (by rw [hfdH.out]; simp [q1])
     subst hvf
     clear q1
     refine plain_region (fun W' => Below wr.heap.size wr W' ∧ Blk W' w.heap.size 24 #[.int .i64 W, .int .i64 H, .int .i64 N, .slice sa sn sc]) 26 26 (by kernel_rfl) rfl ?_
     simp only [Array.replicate_succ, Array.replicate_zero, List.push_toArray, List.nil_append, List.cons_append]
     obtain ⟨X0, hXX0⟩ : ∃ X : World, wr.drew = X := ⟨_, rfl⟩
     rw [hXX0] at hS hB1 ⊢
     clear hXX0
     have FA0 := Lib.hid (fun w' (hS' : (fun W' => Below wr.heap.size wr W' ∧ Blk W' w.heap.size 24 #[.int .i64 W, .int .i64 H, .int .i64 N, .slice sa sn sc]) w') => And.intro ((hS'.1.cell (p := ⟨b, o + k * 3, none⟩) hbl2).trans c0) (And.intro ((hS'.1.cell (p := ⟨b, o + k * 3 + 1, none⟩) hbl2).trans c1) (And.intro ((hS'.1.cell (p := ⟨b, o + k * 3 + 2, none⟩) hbl2).trans c2) (And.intro (hS'.2.cell (i := 0) rfl) (hS'.2.cell (i := 1) rfl)))))
     refine tkz 0 rfl hS (fun w' hS' => by go_simp; rfl) ?_
     simp only [nrz]
     refine tkz 1 rfl hS (fun w' hS' => by go_simp; rfl) ?_
     simp only [nrz]
     refine tkz 2 (v := ?bv2) rfl hS (fun w' hS' => ?by2) ?bz2
     case by2 =>
      go_simp
      try go_ints
      first
      | rfl
      | (rw [if_pos (by omega)]; done)
      | rw [if_pos ⟨by omega, by omega⟩]
     simp only [nrz]
     refine tkz 3 rfl hS (fun w' hS' => by obtain ⟨e0, e1, e2, m0, m1⟩ := FA0.out w' hS'; clear hS'; go_simp; rfl) ?_
     simp only [nrz]
     refine step_op 4 (by kernel_rfl) rfl (fun K hK => ?_)
     rw [if_pos (by rfl)]
     go_simp
     refine (hcallH.out X0 hS.1).mono ?_
     rintro e X4 ⟨rfl, hb4⟩
     have hS4 : Below wr.heap.size wr X4 ∧ Blk X4 w.heap.size 24 #[.int .i64 W, .int .i64 H, .int .i64 N, .slice sa sn sc] := ⟨hS.1.trans (hb4.mono hS.1.size), hS.2.below hb4 hS.2.lt⟩
     have hB4 := hB1.trans (hb4.mono hB1.size)
     clear hb4 hB1
     refine hK.out _ _ (fun h => hS4) ?_
     clear hK K
     try simp only [Act.put, nrz]
     refine tkz 5 (v := .bool false) rfl hS4 (fun w' hS' => ?by5) ?bz5
     case by5 =>
      clear hS'
      go_simp
      try rfl
     simp only [nrz]
     refine tkz 6 (v := .bool false) rfl hS4 (fun w' hS' => ?by6) ?bz6
     case by6 =>
      clear hS'
      go_simp
      try rfl
     simp only [nrz]
     refine tkz 7 rfl hS4 (fun w' hS' => by go_simp; rfl) ?_
     simp only [nrz]
     refine tkz 8 rfl hS4 (fun w' hS' => by go_simp; rfl) ?_
     simp only [nrz]
     refine tkz 9 (v := ?bv9) rfl hS4 (fun w' hS' => ?by9) ?bz9
     case by9 =>
      go_simp
      try go_ints
      first
      | rfl
      | (rw [if_pos (by omega)]; done)
      | rw [if_pos ⟨by omega, by omega⟩]
     simp only [nrz]
     refine tkz 10 rfl hS4 (fun w' hS' => by go_simp; rfl) ?_
     simp only [nrz]
     refine tkz 11 rfl hS4 (fun w' hS' => by obtain ⟨e0, e1, e2, m0, m1⟩ := FA0.out w' hS'; clear hS'; go_simp; rfl) ?_
     simp only [nrz]
     refine tkz 12 rfl hS4 (fun w' hS' => by go_simp; rfl) ?_
     simp only [nrz]
     refine tkz 13 rfl hS4 (fun w' hS' => by obtain ⟨e0, e1, e2, m0, m1⟩ := FA0.out w' hS'; clear hS'; go_simp; rfl) ?_
     simp only [nrz]
     refine tkz 14 (v := .bool true) rfl hS4 (fun w' hS' => ?by14) ?bz14
     case by14 =>
      clear hS'
      go_simp
      try rfl
     simp only [nrz]
     refine tkz 15 (v := .bool true) rfl hS4 (fun w' hS' => ?by15) ?bz15
     case by15 =>
      clear hS'
      go_simp
      try rfl
     simp only [nrz]
     refine tkz 16 (v := .bool true) rfl hS4 (fun w' hS' => ?by16) ?bz16
     case by16 =>
      clear hS'
      go_simp
      try rfl
     simp only [nrz]
     refine psz 17 rfl hS4 ?_
     simp only [nrz]
     refine psz 18 rfl hS4 ?_
     simp only [nrz]
     refine psz 19 rfl hS4 ?_
     simp only [nrz]
     refine psz 20 rfl hS4 ?_
     simp only [nrz]
     refine psz 21 rfl hS4 ?_
     simp only [nrz]
     refine psz 22 rfl hS4 ?_
     simp only [nrz]
     refine psz 23 rfl hS4 ?_
     simp only [nrz]
     refine psz 24 rfl hS4 ?_
     simp only [nrz]
     refine tkz 25 (v := .bool true) rfl hS4 (fun w' hS' => ?by25) ?bz25
     case by25 =>
      clear hS'
      go_simp
      try rfl
     simp only [nrz]
     refine done_ops (by kernel_rfl) ?_
     go_wp2_with fail
     go_ret
     exact ⟨rfl, hB4⟩
    case pos =>
     have q1d : (mw != W) = false := by simp [q1]
     by_cases q2 : mh = H
     case neg =>
      have q2d : (mh != H) = true := by simp [q2]
      have hvf : v = false := hnoH.out (by rw [hfdH.out]; simp [q2])
      subst hvf
      clear q1 q2
      refine plain_region (fun W' => Below wr.heap.size wr W' ∧ Blk W' w.heap.size 24 #[.int .i64 W, .int .i64 H, .int .i64 N, .slice sa sn sc]) 26 26 (by kernel_rfl) rfl ?_
      simp only [Array.replicate_succ, Array.replicate_zero, List.push_toArray, List.nil_append, List.cons_append]
      obtain ⟨X0, hXX0⟩ : ∃ X : World, wr.drew = X := ⟨_, rfl⟩
      rw [hXX0] at hS hB1 ⊢
      clear hXX0
      have FA1 := Lib.hid (fun w' (hS' : (fun W' => Below wr.heap.size wr W' ∧ Blk W' w.heap.size 24 #[.int .i64 W, .int .i64 H, .int .i64 N, .slice sa sn sc]) w') => And.intro ((hS'.1.cell (p := ⟨b, o + k * 3, none⟩) hbl2).trans c0) (And.intro ((hS'.1.cell (p := ⟨b, o + k * 3 + 1, none⟩) hbl2).trans c1) (And.intro ((hS'.1.cell (p := ⟨b, o + k * 3 + 2, none⟩) hbl2).trans c2) (And.intro (hS'.2.cell (i := 0) rfl) (hS'.2.cell (i := 1) rfl)))))
      refine tkz 0 rfl hS (fun w' hS' => by go_simp; rfl) ?_
      simp only [nrz]
      refine tkz 1 rfl hS (fun w' hS' => by go_simp; rfl) ?_
      simp only [nrz]
      refine tkz 2 (v := ?cv2) rfl hS (fun w' hS' => ?cy2) ?cz2
      case cy2 =>
       go_simp
       try go_ints
       first
       | rfl
       | (rw [if_pos (by omega)]; done)
       | rw [if_pos ⟨by omega, by omega⟩]
      simp only [nrz]
      refine tkz 3 rfl hS (fun w' hS' => by obtain ⟨e0, e1, e2, m0, m1⟩ := FA1.out w' hS'; clear hS'; go_simp; rfl) ?_
      simp only [nrz]
      refine step_op 4 (by kernel_rfl) rfl (fun K hK => ?_)
      rw [if_pos (by rfl)]
      go_simp
      refine (hcallH.out X0 hS.1).mono ?_
      rintro e X4 ⟨rfl, hb4⟩
      have hS4 : Below wr.heap.size wr X4 ∧ Blk X4 w.heap.size 24 #[.int .i64 W, .int .i64 H, .int .i64 N, .slice sa sn sc] := ⟨hS.1.trans (hb4.mono hS.1.size), hS.2.below hb4 hS.2.lt⟩
      have hB4 := hB1.trans (hb4.mono hB1.size)
      clear hb4 hB1
      refine hK.out _ _ (fun h => hS4) ?_
      clear hK K
      try simp only [Act.put, nrz]
      refine tkz 5 (v := .bool false) rfl hS4 (fun w' hS' => ?cy5) ?cz5
      case cy5 =>
       clear hS'
       go_simp
       try rfl
      simp only [nrz]
      refine tkz 6 (v := .bool false) rfl hS4 (fun w' hS' => ?cy6) ?cz6
      case cy6 =>
       clear hS'
       go_simp
       try rfl
      simp only [nrz]
      refine tkz 7 rfl hS4 (fun w' hS' => by go_simp; rfl) ?_
      simp only [nrz]
      refine tkz 8 rfl hS4 (fun w' hS' => by go_simp; rfl) ?_
      simp only [nrz]
      refine tkz 9 (v := ?cv9) rfl hS4 (fun w' hS' => ?cy9) ?cz9
      case cy9 =>
       go_simp
       try go_ints
       first
       | rfl
       | (rw [if_pos (by omega)]; done)
       | rw [if_pos ⟨by omega, by omega⟩]
      simp only [nrz]
      refine tkz 10 rfl hS4 (fun w' hS' => by go_simp; rfl) ?_
      simp only [nrz]
      refine tkz 11 rfl hS4 (fun w' hS' => by obtain ⟨e0, e1, e2, m0, m1⟩ := FA1.out w' hS'; clear hS'; go_simp; rfl) ?_
      simp only [nrz]
      refine tkz 12 rfl hS4 (fun w' hS' => by go_simp; rfl) ?_
      simp only [nrz]
      refine tkz 13 rfl hS4 (fun w' hS' => by obtain ⟨e0, e1, e2, m0, m1⟩ := FA1.out w' hS'; clear hS'; go_simp; rfl) ?_
      simp only [nrz]
      refine tkz 14 (v := .bool false) rfl hS4 (fun w' hS' => ?cy14) ?cz14
      case cy14 =>
       clear hS'
       go_simp
       try rfl
      simp only [nrz]
      refine tkz 15 (v := .bool false) rfl hS4 (fun w' hS' => ?cy15) ?cz15
      case cy15 =>
       clear hS'
       go_simp
       try rfl
      simp only [nrz]
      refine tkz 16 (v := .bool false) rfl hS4 (fun w' hS' => ?cy16) ?cz16
      case cy16 =>
       clear hS'
       go_simp
       try rfl
      simp only [nrz]
      refine tkz 17 rfl hS4 (fun w' hS' => by go_simp; rfl) ?_
      simp only [nrz]
      refine tkz 18 rfl hS4 (fun w' hS' => by go_simp; rfl) ?_
      simp only [nrz]
      refine tkz 19 (v := ?cv19) rfl hS4 (fun w' hS' => ?cy19) ?cz19
      case cy19 =>
       go_simp
       try go_ints
       first
       | rfl
       | (rw [if_pos (by omega)]; done)
       | rw [if_pos ⟨by omega, by omega⟩]
      simp only [nrz]
      refine tkz 20 rfl hS4 (fun w' hS' => by go_simp; rfl) ?_
      simp only [nrz]
      refine tkz 21 rfl hS4 (fun w' hS' => by obtain ⟨e0, e1, e2, m0, m1⟩ := FA1.out w' hS'; clear hS'; go_simp; rfl) ?_
      simp only [nrz]
      refine tkz 22 rfl hS4 (fun w' hS' => by go_simp; rfl) ?_
      simp only [nrz]
      refine tkz 23 rfl hS4 (fun w' hS' => by obtain ⟨e0, e1, e2, m0, m1⟩ := FA1.out w' hS'; clear hS'; go_simp; rfl) ?_
      simp only [nrz]
      refine tkz 24 (v := .bool true) rfl hS4 (fun w' hS' => ?cy24) ?cz24
      case cy24 =>
       clear hS'
       go_simp
       try rfl
      simp only [nrz]
      refine tkz 25 (v := .bool true) rfl hS4 (fun w' hS' => ?cy25) ?cz25
      case cy25 =>
       clear hS'
       go_simp
       try rfl
      simp only [nrz]
      refine done_ops (by kernel_rfl) ?_
      go_wp2_with fail
      go_ret
      exact ⟨rfl, hB4⟩
     case pos =>
      have q2d : (mh != H) = false := by simp [q2]
      have hft : fv = true := by rw [hfdH.out]; simp [q1, q2]
      have hall2 : Hid ((ms.take (k + 1)).all (fitP W H) = true) := Lib.hid (by rw [hsuccH.out, hft])
      clear q1 q2 hft
      refine plain_region (fun W' => Below wr.heap.size wr W' ∧ Blk W' w.heap.size 24 #[.int .i64 W, .int .i64 H, .int .i64 N, .slice sa sn sc]) 26 26 (by kernel_rfl) rfl ?_
      simp only [Array.replicate_succ, Array.replicate_zero, List.push_toArray, List.nil_append, List.cons_append]
      obtain ⟨X0, hXX0⟩ : ∃ X : World, wr.drew = X := ⟨_, rfl⟩
      rw [hXX0] at hS hB1 ⊢
      clear hXX0
      have FA2 := Lib.hid (fun w' (hS' : (fun W' => Below wr.heap.size wr W' ∧ Blk W' w.heap.size 24 #[.int .i64 W, .int .i64 H, .int .i64 N, .slice sa sn sc]) w') => And.intro ((hS'.1.cell (p := ⟨b, o + k * 3, none⟩) hbl2).trans c0) (And.intro ((hS'.1.cell (p := ⟨b, o + k * 3 + 1, none⟩) hbl2).trans c1) (And.intro ((hS'.1.cell (p := ⟨b, o + k * 3 + 2, none⟩) hbl2).trans c2) (And.intro (hS'.2.cell (i := 0) rfl) (hS'.2.cell (i := 1) rfl)))))
      refine tkz 0 rfl hS (fun w' hS' => by go_simp; rfl) ?_
      simp only [nrz]
      refine tkz 1 rfl hS (fun w' hS' => by go_simp; rfl) ?_
      simp only [nrz]
      refine tkz 2 (v := ?dv2) rfl hS (fun w' hS' => ?dy2) ?dz2
      case dy2 =>
       go_simp
       try go_ints
       first
       | rfl
       | (rw [if_pos (by omega)]; done)
       | rw [if_pos ⟨by omega, by omega⟩]
      simp only [nrz]
      refine tkz 3 rfl hS (fun w' hS' => by obtain ⟨e0, e1, e2, m0, m1⟩ := FA2.out w' hS'; clear hS'; go_simp; rfl) ?_
      simp only [nrz]
      refine step_op 4 (by kernel_rfl) rfl (fun K hK => ?_)
      rw [if_pos (by rfl)]
      go_simp
      refine (hcallH.out X0 hS.1).mono ?_
      rintro e X4 ⟨rfl, hb4⟩
      have hS4 : Below wr.heap.size wr X4 ∧ Blk X4 w.heap.size 24 #[.int .i64 W, .int .i64 H, .int .i64 N, .slice sa sn sc] := ⟨hS.1.trans (hb4.mono hS.1.size), hS.2.below hb4 hS.2.lt⟩
      have hB4 := hB1.trans (hb4.mono hB1.size)
      clear hb4 hB1
      refine hK.out _ _ (fun h => hS4) ?_
      clear hK K
      try simp only [Act.put, nrz]
      refine tkz 5 (v := .bool false) rfl hS4 (fun w' hS' => ?dy5) ?dz5
      case dy5 =>
       clear hS'
       go_simp
       try rfl
      simp only [nrz]
      refine tkz 6 (v := .bool false) rfl hS4 (fun w' hS' => ?dy6) ?dz6
      case dy6 =>
       clear hS'
       go_simp
       try rfl
      simp only [nrz]
      refine tkz 7 rfl hS4 (fun w' hS' => by go_simp; rfl) ?_
      simp only [nrz]
      refine tkz 8 rfl hS4 (fun w' hS' => by go_simp; rfl) ?_
      simp only [nrz]
      refine tkz 9 (v := ?dv9) rfl hS4 (fun w' hS' => ?dy9) ?dz9
      case dy9 =>
       go_simp
       try go_ints
       first
       | rfl
       | (rw [if_pos (by omega)]; done)
       | rw [if_pos ⟨by omega, by omega⟩]
      simp only [nrz]
      refine tkz 10 rfl hS4 (fun w' hS' => by go_simp; rfl) ?_
      simp only [nrz]
      refine tkz 11 rfl hS4 (fun w' hS' => by obtain ⟨e0, e1, e2, m0, m1⟩ := FA2.out w' hS'; clear hS'; go_simp; rfl) ?_
      simp only [nrz]
      refine tkz 12 rfl hS4 (fun w' hS' => by go_simp; rfl) ?_
      simp only [nrz]
      refine tkz 13 rfl hS4 (fun w' hS' => by obtain ⟨e0, e1, e2, m0, m1⟩ := FA2.out w' hS'; clear hS'; go_simp; rfl) ?_
      simp only [nrz]
      refine tkz 14 (v := .bool false) rfl hS4 (fun w' hS' => ?dy14) ?dz14
      case dy14 =>
       clear hS'
       go_simp
       try rfl
      simp only [nrz]
      refine tkz 15 (v := .bool false) rfl hS4 (fun w' hS' => ?dy15) ?dz15
      case dy15 =>
       clear hS'
       go_simp
       try rfl
      simp only [nrz]
      refine tkz 16 (v := .bool false) rfl hS4 (fun w' hS' => ?dy16) ?dz16
      case dy16 =>
       clear hS'
       go_simp
       try rfl
      simp only [nrz]
      refine tkz 17 rfl hS4 (fun w' hS' => by go_simp; rfl) ?_
      simp only [nrz]
      refine tkz 18 rfl hS4 (fun w' hS' => by go_simp; rfl) ?_
      simp only [nrz]
      refine tkz 19 (v := ?dv19) rfl hS4 (fun w' hS' => ?dy19) ?dz19
      case dy19 =>
       go_simp
       try go_ints
       first
       | rfl
       | (rw [if_pos (by omega)]; done)
       | rw [if_pos ⟨by omega, by omega⟩]
      simp only [nrz]
      refine tkz 20 rfl hS4 (fun w' hS' => by go_simp; rfl) ?_
      simp only [nrz]
      refine tkz 21 rfl hS4 (fun w' hS' => by obtain ⟨e0, e1, e2, m0, m1⟩ := FA2.out w' hS'; clear hS'; go_simp; rfl) ?_
      simp only [nrz]
      refine tkz 22 rfl hS4 (fun w' hS' => by go_simp; rfl) ?_
      simp only [nrz]
      refine tkz 23 rfl hS4 (fun w' hS' => by obtain ⟨e0, e1, e2, m0, m1⟩ := FA2.out w' hS'; clear hS'; go_simp; rfl) ?_
      simp only [nrz]
      refine tkz 24 (v := .bool false) rfl hS4 (fun w' hS' => ?dy24) ?dz24
      case dy24 =>
       clear hS'
       go_simp
       try rfl
      simp only [nrz]
      refine tkz 25 (v := .bool false) rfl hS4 (fun w' hS' => ?dy25) ?dz25
      case dy25 =>
       clear hS'
       go_simp
       try rfl
      simp only [nrz]
      refine done_ops (by kernel_rfl) ?_
      have kp4 := hS4.2
      clear hS4
      go_wp2_with fail
      go_roundw
      case rel => exact ⟨k + 1, by omega, by go_num, hall2, hB4, kp4⟩
      case measure => simp [intOf]; omega
end Go.Proofs.YtekiemlniegddaaGreat
namespace Go.Proofs.YtekiemlniegddaaGreat
open Go Go.RowKit Go.Shelf
theorem row_maxP {W : World} {base : Nat} {e : TypeId} {size : Nat} {v : Value} {k : Nat} {xs : List Value} (h : W.ownsRow base e size v k xs) : k ≤ 9223372036854775807 := by
 rcases h.2 with ⟨_, h2⟩ | ⟨g, cap, cur, _, _, _, h3, h4, _⟩
 ·omega
 ·unfold maxLen at h4; omega
end Go.Proofs.YtekiemlniegddaaGreat
namespace Go.Proofs.YtekiemlniegddaaGreat
open Go Go.RowKit Go.Shelf
theorem PicOk.lenN {w h : Int} {A : PicN} (hA : PicOk w h A) : A.px.length = w.toNat * h.toNat := by
 obtain ⟨⟨a, b⟩, ⟨c, d⟩, e, _⟩ := vld_true hA.v
 obtain ⟨p, rfl⟩ : ∃ p : Nat, w = p := ⟨w.toNat, by omega⟩
 obtain ⟨q, rfl⟩ : ∃ q : Nat, h = q := ⟨h.toNat, by omega⟩
 rw [Int.toNat_natCast, Int.toNat_natCast]
 exact_mod_cast e
theorem PicOk.len {w h : Int} {A : PicN} (hA : PicOk w h A) : A.px.length ≤ 256 := by
 obtain ⟨⟨a, b⟩, ⟨c, d⟩, _, _⟩ := vld_true hA.v
 have h1 : w.toNat * h.toNat ≤ 16 * 16 := Nat.mul_le_mul (by omega) (by omega)
 have := hA.lenN
 omega
theorem given_px {L : List PicN} {n w h : Int} (hg : givenB L n w h = true) (i : Nat) : (picAt L i).px.length ≤ 9223372036854775807 := by
 by_cases hi : i < L.length
 ·have := (given_at hg hi).len; omega
 ·unfold picAt
  rw [List.getElem?_eq_none (by omega)]
  exact Nat.zero_le _
theorem mean_pic {P : PipeN} {ms : List PicN} (hP : pipeB P = true) (hg : givenB ms P.inp P.w P.h = true) : PicOk P.w P.h (meanN P ms) := by
 obtain ⟨_, _, h3, h4, _⟩ := pipeB_true hP
 have lk := givenB_len hg
 have h := imN_all hP hg P.ss.length (Nat.le_refl _) (P.inp + P.ss.length - 1) (by omega) (by omega)
 unfold imN at h
 unfold meanN
 rw [show ms.length + P.ss.length - 1 = (P.inp + P.ss.length - 1).toNat by omega]
 exact h
theorem mean_val {P : PipeN} {ms : List PicN} (hP : pipeB P = true) (hg : givenB ms P.inp P.w P.h = true) : meanS P ms = { w := P.w, h := P.h, px := (meanN P ms).px, err := 0 } := by
 obtain ⟨a, b, _⟩ := mean_pic hP hg
 unfold meanS
 rw [if_pos hP, if_pos hg, a, b]
end Go.Proofs.YtekiemlniegddaaGreat

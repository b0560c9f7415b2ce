/- Contracts and laws (PCh, OpP, PFt). -/
import Derived.Deep.Slices
import Derived.Deep.Grids
import Derived.Test.YtekiemlniegddaaQA7
import Derived.Test.YtekiemlniegddaaQA1
import Derived.Test.YtekiemlniegddaaQA3
namespace Go.Proofs.Ytekiemlniegddaa
open Go Go.RowKit Go.Shelf
set_option linter.unusedVariables false
set_option linter.unusedSimpArgs false

theorem pwithin (n lo hi : Int) (v : Bool) (hv : inR n lo hi = v) (w : World) :
    Calls Try.prog 38 #[.int .i64 n, .int .i64 lo, .int .i64 hi] w fun e w' => e = .returned (.bool v) ∧ w = w' := by
  subst hv
  unfold inR
  cases h1 : decide (lo ≤ n) <;> cases h2 : decide (n ≤ hi)
  all_goals
    simp only [decide_eq_true_eq, decide_eq_false_iff_not] at h1 h2
    go_enter Try.func38, Try.ntmps38
    go_wp2
    go_ret
    exact ⟨ret_bool (by simp; try omega), rfl⟩
/-- The value of a pipe. -/
abbrev pipev (P : PipeN) (a : Option Addr) (n c : Nat) : Value := .agg #[.int .i64 P.w, .int .i64 P.h, .int .i64 P.inp, .slice a n c]
/-- What a pipe's numbers are, as they came in. -/
structure PipeIn (P : PipeN) : Prop where
  n : P.ss.length ≤ 9223372036854775807
  st : ∀ i, i < P.ss.length → StepIn (stAt P.ss i)
theorem sizeB_is (W H I : Int) (ss : List StepN) (n : Nat) (hn : ss.length = n) : sizeB ⟨W, H, I, ss⟩ = ((inR W 1 16 && inR H 1 16) && (inR I 1 3 && inR (n : Int) 1 12)) := by
  subst hn
  unfold sizeB inR
  simp only
  congr 3
  · simp; omega
  · simp; omega
theorem stepsB_at {I : Int} {ss : List StepN} : ∀ {m k : Nat}, stepsB I ss m = true → k < m → (needB (stAt ss k) && refB I k (stAt ss k)) = true
  | m + 1, k, h, hk => by
    rw [stepsB, Bool.and_eq_true] at h
    by_cases e : k = m
    · subst e; exact h.2
    · exact stepsB_at h.1 (by omega)
theorem pipeB_no {P : PipeN} {k : Nat} (hk : k < P.ss.length) (h : (needB (stAt P.ss k) && refB P.inp k (stAt P.ss k)) = false) : pipeB P = false := by
  cases hb : pipeB P with
  | false => rfl
  | true =>
    unfold pipeB at hb
    rw [Bool.and_eq_true] at hb
    have := stepsB_at hb.2 hk
    rw [h] at this; cases this
theorem pipeB_size {P : PipeN} (h : sizeB P = false) : pipeB P = false := by unfold pipeB; rw [h]; rfl
theorem refB_ops (I : Int) (i : Nat) (s : StepN) : refB I i s = (opsN s).all (fun x => inR x 0 (I + i - 1)) := by
  unfold refB opsN
  by_cases h2 : s.op = 2
  · by_cases hab : s.a = s.b
    · rw [if_neg (fun h => h.2 hab), hab]; simp [h2]
    · rw [if_pos ⟨h2, hab⟩]; simp [h2]
  · rw [if_neg (fun h => h2 h.1)]; simp [h2]
theorem opsN_len (s : StepN) : 1 ≤ (opsN s).length ∧ (opsN s).length ≤ 2 := by unfold opsN; split <;> simp
theorem all_take {L : List Int} {p : Int → Bool} {j : Nat} (h : ∀ t, t < L.length → p (L[t]?.getD 0) = true) : L.all p = true := by
  rw [List.all_eq_true]
  intro x hx
  obtain ⟨t, ht, rfl⟩ := List.getElem_of_mem hx
  have := h t ht
  rwa [List.getElem?_eq_getElem ht] at this
theorem all_not {L : List Int} {p : Int → Bool} {t : Nat} (ht : t < L.length) (h : p (L[t]?.getD 0) = false) : L.all p = false := by
  rw [List.getElem?_eq_getElem ht] at h
  rw [List.all_eq_false]
  exact ⟨L[t], List.getElem_mem ht, by simpa using h⟩
set_option maxRecDepth 100000 in
set_option maxHeartbeats 8000000 in
theorem PCheck_any (P : PipeN) (a : Option Addr) (n c : Nat) (hn : P.ss.length = n) (hP : PipeIn P) (v : Bool) (hv : pipeB P = v) (w : World) (hr : RdSs w.heap.size w a P.ss) :
    Calls Try.prog 12 #[pipev P a n c] w fun e w' => e = .returned (.int .i64 (if v = true then 0 else 30)) ∧ Below w.heap.size w w' := by
  obtain ⟨W, H, I, ss⟩ := P
  have hsz := sizeB_is W H I ss n hn
  obtain ⟨hn0, hst⟩ := hP
  have hnH := Lib.hid hn
  have hvH := Lib.hid hv
  have hstH := Lib.hid hst
  simp only at hnH hvH hstH hr hn0
  rw [hnH.out] at hn0
  have hB : Below w.heap.size w w := Below.refl _ _
  clear hn hv hst
  have tok1 : True := trivial
  have tok2 : True := trivial
  have tok3 : True := trivial
  have tok4 : True := trivial
  have tok5 : True := trivial
  have tok6 : True := trivial
  unfold pipev
  simp only
  have hbV1 : Below w.heap.size w (w.alloc (.cells #[.int .i64 W, .int .i64 H, .int .i64 I, .slice a n c] 24)) := jb_al (Below.refl _ w) _
  have kp := Blk.new w 24 #[.int .i64 W, .int .i64 H, .int .i64 I, .slice a n c]
  obtain ⟨V1, hEV1⟩ : ∃ X, w.alloc (.cells #[.int .i64 W, .int .i64 H, .int .i64 I, .slice a n c] 24) = X := ⟨_, rfl⟩
  rw [hEV1] at hbV1 kp
  replace hB := hB.trans (hbV1.mono hB.size)
  clear hbV1
  have m0 := kp.cell (i := 0) rfl
  have m1 := kp.cell (i := 1) rfl
  have m2 := kp.cell (i := 2) rfl
  have m3 := kp.cell (i := 3) rfl
  cases h1 : inR W 1 16 with
  | false =>
    have hvf : v = false := by rw [← hvH.out]; exact pipeB_size (by rw [hsz, h1]; simp)
    subst hvf
    have h1H := Lib.hid h1
    clear h1 hsz hvH hr hstH hnH
    go_enter Try.func12, Try.ntmps12
    go_wp2_with (go_at_call 38; have _t := tok1; refine (pwithin W 1 16 false h1H.out _).mono ?_; clear _t tok1; rintro e w' ⟨rfl, rfl⟩)
    go_ret
    exact ⟨rfl, hB⟩
  | true =>
  have h1H := Lib.hid h1
  have g0 := h1
  clear h1
  cases h2 : inR H 1 16 with
  | false =>
    have hvf : v = false := by rw [← hvH.out]; exact pipeB_size (by rw [hsz, h1H.out, h2]; simp)
    subst hvf
    have h2H := Lib.hid h2
    clear h2 hsz hvH hr hstH hnH
    go_enter Try.func12, Try.ntmps12
    go_wp2_with (first
      | (go_at_call 38; have _t := tok1; refine (pwithin W 1 16 true h1H.out _).mono ?_; clear _t tok1; rintro e w' ⟨rfl, rfl⟩)
      | (go_at_call 38; have _t := tok2; refine (pwithin H 1 16 false h2H.out _).mono ?_; clear _t tok2; rintro e w' ⟨rfl, rfl⟩))
    go_ret
    exact ⟨rfl, hB⟩
  | true =>
  have h2H := Lib.hid h2
  have g1 := h2
  clear h2
  cases h3 : inR I 1 3 with
  | false =>
    have hvf : v = false := by rw [← hvH.out]; exact pipeB_size (by rw [hsz, h1H.out, h2H.out, h3]; simp)
    subst hvf
    have h3H := Lib.hid h3
    clear h3 hsz hvH hr hstH hnH
    go_enter Try.func12, Try.ntmps12
    go_wp2_with (first
      | (go_at_call 38; have _t := tok1; refine (pwithin W 1 16 true h1H.out _).mono ?_; clear _t tok1; rintro e w' ⟨rfl, rfl⟩)
      | (go_at_call 38; have _t := tok2; refine (pwithin H 1 16 true h2H.out _).mono ?_; clear _t tok2; rintro e w' ⟨rfl, rfl⟩)
      | (go_at_call 38; have _t := tok3; refine (pwithin I 1 3 false h3H.out _).mono ?_; clear _t tok3; rintro e w' ⟨rfl, rfl⟩))
    go_ret
    exact ⟨rfl, hB⟩
  | true =>
  have h3H := Lib.hid h3
  have g2 := h3
  clear h3
  cases h4 : inR (n : Int) 1 12 with
  | false =>
    have hvf : v = false := by rw [← hvH.out]; exact pipeB_size (by rw [hsz, h1H.out, h2H.out, h3H.out, h4]; simp)
    subst hvf
    have h4H := Lib.hid h4
    clear h4 hsz hvH hr hstH hnH
    go_enter Try.func12, Try.ntmps12
    go_wp2_with (first
      | (go_at_call 38; have _t := tok1; refine (pwithin W 1 16 true h1H.out _).mono ?_; clear _t tok1; rintro e w' ⟨rfl, rfl⟩)
      | (go_at_call 38; have _t := tok2; refine (pwithin H 1 16 true h2H.out _).mono ?_; clear _t tok2; rintro e w' ⟨rfl, rfl⟩)
      | (go_at_call 38; have _t := tok3; refine (pwithin I 1 3 true h3H.out _).mono ?_; clear _t tok3; rintro e w' ⟨rfl, rfl⟩)
      | (go_at_call 38; have _t := tok4; refine (pwithin (n : Int) 1 12 false h4H.out _).mono ?_; clear _t tok4; rintro e w' ⟨rfl, rfl⟩))
    go_ret
    exact ⟨rfl, hB⟩
  | true =>
  have h4H := Lib.hid h4
  have g3 := h4
  clear h4
  have hszt : sizeB ⟨W, H, I, ss⟩ = true := by rw [hsz, h1H.out, h2H.out, h3H.out, h4H.out]; rfl
  have hsztH := Lib.hid hszt
  clear hszt hsz
  simp only [inR, Bool.and_eq_true, decide_eq_true_eq] at g0 g1 g2 g3
  have hd0 : 1 ≤ n ∧ n ≤ 12 := by omega
  have mm0 := m0
  have mm1 := m1
  have mm2 := m2
  have mm3 := m3
  have hbV2 : Below V1.heap.size V1 (V1.alloc (.cells #[.int .i64 0] 3)) := jb_al (Below.refl _ V1) _
  have k0 := Blk.new V1 3 #[.int .i64 0]
  obtain ⟨V2, hEV2⟩ : ∃ X, V1.alloc (.cells #[.int .i64 0] 3) = X := ⟨_, rfl⟩
  rw [hEV2] at hbV2 k0
  clear m0 m1 m2 m3
  replace kp := kp.below hbV2 kp.lt
  replace hB := hB.trans (hbV2.mono hB.size)
  clear hbV2
  have m0 := kp.cell (i := 0) rfl
  have m1 := kp.cell (i := 1) rfl
  have m2 := kp.cell (i := 2) rfl
  have m3 := kp.cell (i := 3) rfl
  have z0 := k0.cell (i := 0) rfl
  have ki := Blk.new V2 29 #[.int .i64 0, .int .i64 0, .slice none 0 0]
  obtain ⟨bki, hxki⟩ : ∃ b, V2.heap.size = b := ⟨_, rfl⟩
  obtain ⟨V2a, hAki⟩ : ∃ X, V2.alloc (.cells #[.int .i64 0, .int .i64 0, .slice none 0 0] 29) = X := ⟨_, rfl⟩
  have hba : Below V2.heap.size V2 V2a := alloc_below hAki
  rw [hAki, hxki] at ki
  have hleki : V2.heap.size ≤ bki := by omega
  have yki0 := ki.cell (i := 0) rfl
  have fyki0 := ki.frozen 0
  have yki1 := ki.cell (i := 1) rfl
  have fyki1 := ki.frozen 1
  have yki2 := ki.cell (i := 2) rfl
  have fyki2 := ki.frozen 2
  have kin := put3_blk ki (.int .i64 1) (.int .i64 1) (.slice (some ⟨V1.heap.size, 0, none⟩) 1 1)
  have hb : Below V2.heap.size V2 (put3 V2a bki (.int .i64 1) (.int .i64 1) (.slice (some ⟨V1.heap.size, 0, none⟩) 1 1)) := hba.trans (put3_below hleki (.int .i64 1) (.int .i64 1) (.slice (some ⟨V1.heap.size, 0, none⟩) 1 1))
  obtain ⟨V3, hPki⟩ : ∃ X, put3 V2a bki (.int .i64 1) (.int .i64 1) (.slice (some ⟨V1.heap.size, 0, none⟩) 1 1) = X := ⟨_, rfl⟩
  rw [hPki] at kin hb
  replace ki := kin
  clear kin hba hleki
  clear m0 m1 m2 m3 z0
  replace kp := kp.below hb kp.lt
  replace k0 := k0.below hb k0.lt
  replace hB := hB.trans (hb.mono hB.size)
  clear hb
  have m0 := kp.cell (i := 0) rfl
  have m1 := kp.cell (i := 1) rfl
  have m2 := kp.cell (i := 2) rfl
  have m3 := kp.cell (i := 3) rfl
  have z0 := k0.cell (i := 0) rfl
  have q0 := ki.cell (i := 0) rfl
  have q1 := ki.cell (i := 1) rfl
  have q2 := ki.cell (i := 2) rfl
  go_enter Try.func12, Try.ntmps12
  go_wp2_with (first
    | (go_at_call 38; have _t := tok1; refine (pwithin W 1 16 true h1H.out _).mono ?_; clear _t tok1; rintro e w' ⟨rfl, rfl⟩)
    | (go_at_call 38; have _t := tok2; refine (pwithin H 1 16 true h2H.out _).mono ?_; clear _t tok2; rintro e w' ⟨rfl, rfl⟩)
    | (go_at_call 38; have _t := tok3; refine (pwithin I 1 3 true h3H.out _).mono ?_; clear _t tok3; rintro e w' ⟨rfl, rfl⟩)
    | (go_at_call 38; have _t := tok4; refine (pwithin (n : Int) 1 12 true h4H.out _).mono ?_; clear _t tok4; rintro e w' ⟨rfl, rfl⟩))
  clear hEV1 hEV2 hAki hxki hPki yki0 yki1 yki2 fyki0 fyki1 fyki2
  clear mm0 mm1 mm2 mm3
  clear m0 m1 m2 m3 z0 q0 q1 q2
  go_loopw [38] (fun i wr => ∃ k : Nat, k ≤ n ∧ i = .int .i64 (k : Int) ∧ Hid (stepsB I ss k = true) ∧ Below w.heap.size w wr ∧ Blk wr w.heap.size 24 #[.int .i64 W, .int .i64 H, .int .i64 I, .slice a n c] ∧ Blk wr (V1.heap.size) 3 #[.int .i64 0] ∧ Blk wr bki 29 #[.int .i64 1, .int .i64 1, .slice (some ⟨V1.heap.size, 0, none⟩) 1 1]) (fun i _ => n - (intOf i).toNat)
  case atStart => exact ⟨0, Nat.zero_le _, rfl, Lib.hid rfl, hB, kp, k0, ki⟩
  case round =>
    clear hB kp k0 ki
    obtain ⟨k, hk, rfl, hall, hB, kp, k0, ki⟩ := hrel
    by_cases hlt : k < n
    case neg =>
      have hkn : k = n := by omega
      subst hkn
      have hvt : v = true := by rw [← hvH.out]; unfold pipeB; rw [hsztH.out]; simp only; rw [hnH.out, hall.out]; rfl
      subst hvt
      go_wp2_with fail
      go_ret
      exact ⟨rfl, hB⟩
    case pos =>
    have hkl : k < ss.length := by have := hnH.out; omega
    have hs := hstH.out k hkl
    have hno : (needB (stAt ss k) && refB I k (stAt ss k)) = false → v = false := fun h => by rw [← hvH.out]; exact pipeB_no (P := ⟨W, H, I, ss⟩) hkl h
    have hyes : (needB (stAt ss k) && refB I k (stAt ss k)) = true → stepsB I ss (k + 1) = true := fun h => by rw [stepsB, hall.out, h]; rfl
    obtain ⟨b, o, ka, kc, sa, sc, rfl, hbl, hst⟩ : ∃ b o ka kc sa sc, a = some ⟨b, o, none⟩ ∧ b < w.heap.size ∧ StAt w.heap.size w b (o + k * 16) (stAt ss k) ka kc sa sc := by
      rcases hr with h | ⟨b, o, h1, h2, h3⟩
      · exfalso; rw [h] at hkl; simp at hkl
      · obtain ⟨ka, kc, sa, sc, e⟩ := h3 k hkl
        exact ⟨b, o, ka, kc, sa, sc, h1, h2, e⟩
    obtain ⟨s, hse⟩ : ∃ s, stAt ss k = s := ⟨_, rfl⟩
    rw [hse] at hs hno hyes hst
    have hseH := Lib.hid hse
    have hnoH := Lib.hid hno
    have hyesH := Lib.hid hyes
    clear hse hno hyes
    obtain ⟨hcell, hta, hbi⟩ := hst
    have c0 : wr.cell? ⟨b, o + k * 16, none⟩ = some (.int .u8 s.op) := (hB.cell (p := ⟨b, o + k * 16, none⟩) hbl).trans (hcell 0 _ rfl)
    have c1 : wr.cell? ⟨b, o + k * 16 + 1, none⟩ = some (.int .i64 s.a) := (hB.cell (p := ⟨b, o + k * 16 + 1, none⟩) hbl).trans (hcell 1 _ rfl)
    have c2 : wr.cell? ⟨b, o + k * 16 + 2, none⟩ = some (.int .i64 s.b) := (hB.cell (p := ⟨b, o + k * 16 + 2, none⟩) hbl).trans (hcell 2 _ rfl)
    have c3 : wr.cell? ⟨b, o + k * 16 + 3, none⟩ = some (.int .i64 s.pt.mul) := (hB.cell (p := ⟨b, o + k * 16 + 3, none⟩) hbl).trans (hcell 3 _ rfl)
    have c4 : wr.cell? ⟨b, o + k * 16 + 4, none⟩ = some (.int .i64 s.pt.add) := (hB.cell (p := ⟨b, o + k * 16 + 4, none⟩) hbl).trans (hcell 4 _ rfl)
    have c5 : wr.cell? ⟨b, o + k * 16 + 5, none⟩ = some (.int .i64 s.pt.div) := (hB.cell (p := ⟨b, o + k * 16 + 5, none⟩) hbl).trans (hcell 5 _ rfl)
    have c6 : wr.cell? ⟨b, o + k * 16 + 6, none⟩ = some (.int .i64 s.pt.lo) := (hB.cell (p := ⟨b, o + k * 16 + 6, none⟩) hbl).trans (hcell 6 _ rfl)
    have c7 : wr.cell? ⟨b, o + k * 16 + 7, none⟩ = some (.int .i64 s.pt.hi) := (hB.cell (p := ⟨b, o + k * 16 + 7, none⟩) hbl).trans (hcell 7 _ rfl)
    have c8 : wr.cell? ⟨b, o + k * 16 + 8, none⟩ = some (.int .u8 s.how) := (hB.cell (p := ⟨b, o + k * 16 + 8, none⟩) hbl).trans (hcell 8 _ rfl)
    have c9 : wr.cell? ⟨b, o + k * 16 + 9, none⟩ = some (.int .i64 s.kw) := (hB.cell (p := ⟨b, o + k * 16 + 9, none⟩) hbl).trans (hcell 9 _ rfl)
    have c10 : wr.cell? ⟨b, o + k * 16 + 10, none⟩ = some (.int .i64 s.kh) := (hB.cell (p := ⟨b, o + k * 16 + 10, none⟩) hbl).trans (hcell 10 _ rfl)
    have c11 : wr.cell? ⟨b, o + k * 16 + 11, none⟩ = some (.slice ka s.taps.length kc) := (hB.cell (p := ⟨b, o + k * 16 + 11, none⟩) hbl).trans (hcell 11 _ rfl)
    have c12 : wr.cell? ⟨b, o + k * 16 + 12, none⟩ = some (.int .u8 s.bd) := (hB.cell (p := ⟨b, o + k * 16 + 12, none⟩) hbl).trans (hcell 12 _ rfl)
    have c13 : wr.cell? ⟨b, o + k * 16 + 13, none⟩ = some (.int .i64 s.sw) := (hB.cell (p := ⟨b, o + k * 16 + 13, none⟩) hbl).trans (hcell 13 _ rfl)
    have c14 : wr.cell? ⟨b, o + k * 16 + 14, none⟩ = some (.int .i64 s.sh) := (hB.cell (p := ⟨b, o + k * 16 + 14, none⟩) hbl).trans (hcell 14 _ rfl)
    have c15 : wr.cell? ⟨b, o + k * 16 + 15, none⟩ = some (.slice sa s.bits.length sc) := (hB.cell (p := ⟨b, o + k * 16 + 15, none⟩) hbl).trans (hcell 15 _ rfl)
    have lp := kp.lt
    have l0 := k0.lt
    have li := ki.lt
    have lw := hB.size
    clear hcell
    have m0 := kp.cell (i := 0) rfl
    have m1 := kp.cell (i := 1) rfl
    have m2 := kp.cell (i := 2) rfl
    have m3 := kp.cell (i := 3) rfl
    have hbV11 : Below wr.heap.size wr (wr.alloc (.cells #[.int .u8 s.op, .int .i64 s.a, .int .i64 s.b, .int .i64 s.pt.mul, .int .i64 s.pt.add, .int .i64 s.pt.div, .int .i64 s.pt.lo, .int .i64 s.pt.hi, .int .u8 s.how, .int .i64 s.kw, .int .i64 s.kh, .slice ka s.taps.length kc, .int .u8 s.bd, .int .i64 s.sw, .int .i64 s.sh, .slice sa s.bits.length sc] 76)) := jb_al (Below.refl _ wr) _
    have ks := Blk.new wr 76 #[.int .u8 s.op, .int .i64 s.a, .int .i64 s.b, .int .i64 s.pt.mul, .int .i64 s.pt.add, .int .i64 s.pt.div, .int .i64 s.pt.lo, .int .i64 s.pt.hi, .int .u8 s.how, .int .i64 s.kw, .int .i64 s.kh, .slice ka s.taps.length kc, .int .u8 s.bd, .int .i64 s.sw, .int .i64 s.sh, .slice sa s.bits.length sc]
    obtain ⟨V11, hEV11⟩ : ∃ X, wr.alloc (.cells #[.int .u8 s.op, .int .i64 s.a, .int .i64 s.b, .int .i64 s.pt.mul, .int .i64 s.pt.add, .int .i64 s.pt.div, .int .i64 s.pt.lo, .int .i64 s.pt.hi, .int .u8 s.how, .int .i64 s.kw, .int .i64 s.kh, .slice ka s.taps.length kc, .int .u8 s.bd, .int .i64 s.sw, .int .i64 s.sh, .slice sa s.bits.length sc] 76) = X := ⟨_, rfl⟩
    rw [hEV11] at hbV11 ks
    clear m0 m1 m2 m3
    replace kp := kp.below hbV11 kp.lt
    replace k0 := k0.below hbV11 k0.lt
    replace ki := ki.below hbV11 ki.lt
    replace hB := hB.trans (hbV11.mono hB.size)
    clear hbV11
    have y0 := ks.cell (i := 0) rfl
    have y1 := ks.cell (i := 1) rfl
    have y2 := ks.cell (i := 2) rfl
    have y3 := ks.cell (i := 3) rfl
    have y4 := ks.cell (i := 4) rfl
    have y5 := ks.cell (i := 5) rfl
    have y6 := ks.cell (i := 6) rfl
    have y7 := ks.cell (i := 7) rfl
    have y8 := ks.cell (i := 8) rfl
    have y9 := ks.cell (i := 9) rfl
    have y10 := ks.cell (i := 10) rfl
    have y11 := ks.cell (i := 11) rfl
    have y12 := ks.cell (i := 12) rfl
    have y13 := ks.cell (i := 13) rfl
    have y14 := ks.cell (i := 14) rfl
    have y15 := ks.cell (i := 15) rfl
    go_wp2_with fail
    clear hEV11
    have hc := operands_any s hs ka sa kc sc V11
    refine hc.mono ?_
    clear hc
    rintro e V12 ⟨pa, pc, rfl, hro, hb⟩
    clear y0 y1 y2 y3 y4 y5 y6 y7 y8 y9 y10 y11 y12 y13 y14 y15
    replace kp := kp.below hb kp.lt
    replace k0 := k0.below hb k0.lt
    replace ki := ki.below hb ki.lt
    replace ks := ks.below hb ks.lt
    replace hB := hB.trans (hb.mono hB.size)
    clear hb
    clear c0 c1 c2 c3 c4 c5 c6 c7 c8 c9 c10 c11 c12 c13 c14 c15
    obtain ⟨ol1, ol2⟩ := opsN_len s
    have hrefE := refB_ops I k s
    obtain ⟨L, hL⟩ : ∃ L, opsN s = L := ⟨_, rfl⟩
    rw [hL] at hro hrefE ol1 ol2 ⊢
    obtain ⟨m, hm⟩ : ∃ m, L.length = m := ⟨_, rfl⟩
    have hmH := Lib.hid hm
    rw [hm] at ol1 ol2 ⊢
    have hrefH := Lib.hid hrefE
    clear hL hm hrefE
    have m0 := kp.cell (i := 0) rfl
    have m1 := kp.cell (i := 1) rfl
    have m2 := kp.cell (i := 2) rfl
    have m3 := kp.cell (i := 3) rfl
    go_wp2_with fail
    go_loop [46] (fun i => ∃ j : Nat, j ≤ m ∧ i = .int .i64 (j : Int) ∧ Hid (∀ t, t < j → inR (L[t]?.getD 0) 0 (I + k - 1) = true)) (fun i => m - (intOf i).toNat)
    case atStart => exact ⟨0, Nat.zero_le _, rfl, Lib.hid (fun t ht => absurd ht (Nat.not_lt_zero _))⟩
    case round =>
      obtain ⟨j, hj, rfl, hops⟩ := hrel
      by_cases hlt2 : j < m
      case pos =>
        have hjL : j < L.length := by have := hmH.out; omega
        rcases hro with h0 | ⟨bo, oo, rfl, hbo, hco⟩
        · exfalso; rw [h0] at hjL; simp at hjL
        have hcj := hco j hjL
        obtain ⟨x, hx⟩ : ∃ x, L[j]?.getD 0 = x := ⟨_, rfl⟩
        rw [hx] at hcj
        have hxH := Lib.hid hx
        clear hx hco
        cases hin : inR x 0 (I + (k : Int) - 1) with
        | false =>
          have hvf : v = false := hnoH.out (by rw [hrefH.out, all_not hjL (by rw [hxH.out]; exact hin)]; simp)
          subst hvf
          have hinH := Lib.hid hin
          clear hin
          have tok1 : True := trivial
          go_wp2_with (go_at_call 38; have _t := tok1; refine (pwithin x 0 (I + (k : Int) - 1) false hinH.out _).mono ?_; clear _t tok1; rintro e w' ⟨rfl, rfl⟩)
          go_ret
          exact ⟨rfl, hB⟩
        | true =>
          have hinH := Lib.hid hin
          clear hin
          have tok1 : True := trivial
          go_wp2_with (go_at_call 38; have _t := tok1; refine (pwithin x 0 (I + (k : Int) - 1) true hinH.out _).mono ?_; clear _t tok1; rintro e w' ⟨rfl, rfl⟩)
          go_round
          case rel =>
            refine ⟨j + 1, by omega, by go_num, Lib.hid fun t ht => ?_⟩
            by_cases e : t = j
            · subst e; rw [hxH.out]; exact hinH.out
            · exact hops.out t (by omega)
          case measure => simp [intOf]; omega
      case neg =>
        have hjm : j = m := by omega
        subst hjm
        have href : refB I k s = true := by rw [hrefH.out]; exact all_take (j := 0) (by rw [hmH.out]; exact hops.out)
        have hrefH2 := Lib.hid href
        clear href hops hrefH hro
        have gg1 := ks.cell (i := 1) rfl
        have gg2 := ks.cell (i := 2) rfl
        have fs0 := fun i => ks.frozen i
        have fs3 := (ks.set 1 (.int .i64 0)).frozen 2
        have hone := app_one s
        obtain ⟨X1, hX1⟩ : ∃ X, (V12.setCell ⟨wr.heap.size, 1, none⟩ (.int .i64 0)).setCell ⟨wr.heap.size, 2, none⟩ (.int .i64 0) = X := ⟨_, rfl⟩
        replace ks : Blk X1 wr.heap.size 76 #[.int .u8 s.op, .int .i64 0, .int .i64 0, .int .i64 s.pt.mul, .int .i64 s.pt.add, .int .i64 s.pt.div, .int .i64 s.pt.lo, .int .i64 s.pt.hi, .int .u8 s.how, .int .i64 s.kw, .int .i64 s.kh, .slice ka s.taps.length kc, .int .u8 s.bd, .int .i64 s.sw, .int .i64 s.sh, .slice sa s.bits.length sc] := by rw [← hX1]; exact (ks.set 1 (.int .i64 0)).set 2 (.int .i64 0)
        replace kp : Blk X1 w.heap.size 24 #[.int .i64 W, .int .i64 H, .int .i64 I, .slice (some ⟨b, o, none⟩) n c] := by rw [← hX1]; exact (kp.other (a := ⟨wr.heap.size, 1, none⟩) (by show w.heap.size ≠ wr.heap.size; omega) _).other (a := ⟨wr.heap.size, 2, none⟩) (by show w.heap.size ≠ wr.heap.size; omega) _
        replace k0 : Blk X1 (V1.heap.size) 3 #[.int .i64 0] := by rw [← hX1]; exact (k0.other (a := ⟨wr.heap.size, 1, none⟩) (by show V1.heap.size ≠ wr.heap.size; omega) _).other (a := ⟨wr.heap.size, 2, none⟩) (by show V1.heap.size ≠ wr.heap.size; omega) _
        replace ki : Blk X1 bki 29 #[.int .i64 1, .int .i64 1, .slice (some ⟨V1.heap.size, 0, none⟩) 1 1] := by rw [← hX1]; exact (ki.other (a := ⟨wr.heap.size, 1, none⟩) (by show bki ≠ wr.heap.size; omega) _).other (a := ⟨wr.heap.size, 2, none⟩) (by show bki ≠ wr.heap.size; omega) _
        replace hB : Below w.heap.size w X1 := by rw [← hX1]; exact (hB.setCell lw _).setCell lw _
        have fs : ∀ i, V12.frozen? ⟨wr.heap.size, i, none⟩ = false := fs0
        have fs1 := fs 1
        have fs2 : (V12.setCell ⟨wr.heap.size, 1, none⟩ (.int .i64 0)).frozen? ⟨wr.heap.size, 2, none⟩ = false := fs3
        clear fs
        have y0 := ks.cell (i := 0) rfl
        have y1 := ks.cell (i := 1) rfl
        have y2 := ks.cell (i := 2) rfl
        have y3 := ks.cell (i := 3) rfl
        have y4 := ks.cell (i := 4) rfl
        have y5 := ks.cell (i := 5) rfl
        have y6 := ks.cell (i := 6) rfl
        have y7 := ks.cell (i := 7) rfl
        have y8 := ks.cell (i := 8) rfl
        have y9 := ks.cell (i := 9) rfl
        have y10 := ks.cell (i := 10) rfl
        have y11 := ks.cell (i := 11) rfl
        have y12 := ks.cell (i := 12) rfl
        have y13 := ks.cell (i := 13) rfl
        have y14 := ks.cell (i := 14) rfl
        have y15 := ks.cell (i := 15) rfl
        have q0 := ki.cell (i := 0) rfl
        have q1 := ki.cell (i := 1) rfl
        have q2 := ki.cell (i := 2) rfl
        have yy0 := y0
        have yy1 := y1
        have yy2 := y2
        have yy3 := y3
        have yy4 := y4
        have yy5 := y5
        have yy6 := y6
        have yy7 := y7
        have yy8 := y8
        have yy9 := y9
        have yy10 := y10
        have yy11 := y11
        have yy12 := y12
        have yy13 := y13
        have yy14 := y14
        have yy15 := y15
        have qq0 := q0
        have qq1 := q1
        have qq2 := q2
        have hbV13 : Below X1.heap.size X1 (X1.alloc (.cells #[.int .i64 1, .int .i64 1, .slice (some ⟨V1.heap.size, 0, none⟩) 1 1] 29)) := jb_al (Below.refl _ X1) _
        have ko := Blk.new X1 29 #[.int .i64 1, .int .i64 1, .slice (some ⟨V1.heap.size, 0, none⟩) 1 1]
        obtain ⟨V13, hEV13⟩ : ∃ X, X1.alloc (.cells #[.int .i64 1, .int .i64 1, .slice (some ⟨V1.heap.size, 0, none⟩) 1 1] 29) = X := ⟨_, rfl⟩
        rw [hEV13] at hbV13 ko
        clear y0 y1 y2 y3 y4 y5 y6 y7 y8 y9 y10 y11 y12 y13 y14 y15 q0 q1 q2
        replace ks := ks.below hbV13 ks.lt
        replace kp := kp.below hbV13 kp.lt
        replace k0 := k0.below hbV13 k0.lt
        replace ki := ki.below hbV13 ki.lt
        replace hB := hB.trans (hbV13.mono hB.size)
        clear hbV13
        have hro : RdPs V13.heap.size V13 (some ⟨X1.heap.size, 0, none⟩) [onePic] := .inr ⟨_, 0, rfl, ko.lt, fun i hi => by
          obtain rfl : i = 0 := by simp at hi; omega
          exact ⟨some ⟨V1.heap.size, 0, none⟩, 1, ko.cell (i := 0) rfl, ko.cell (i := 1) rfl, ko.cell (i := 2) rfl, .inr ⟨_, 0, rfl, k0.lt, fun t ht => by
            have : t < 1 := ht
            obtain rfl : t = 0 := by omega
            exact k0.cell (i := 0) rfl⟩, fun h => by cases h⟩⟩
        obtain ⟨R, hR⟩ : ∃ R, appS { s with a := 0, b := 0 } [onePic] = R := ⟨_, rfl⟩
        rw [hR] at hone
        go_wp2_with fail
        clear hX1 hEV13
        clear yy0 yy1 yy2 yy3 yy4 yy5 yy6 yy7 yy8 yy9 yy10 yy11 yy12 yy13 yy14 yy15 qq0 qq1 qq2 fs1 fs2 gg1 gg2
        have hs0 : StepIn { s with a := 0, b := 0 } := ⟨hs.op, hs.how, hs.bd, hs.tl, hs.bl⟩
        have hc := apply_any { s with a := 0, b := 0 } hs0 ka sa kc sc [onePic] (some ⟨X1.heap.size, 0, none⟩) 1 1 rfl (fun i _ => by cases i with
          | zero => decide
          | succ i => show (picAt [onePic] (i + 1)).px.length ≤ _; simp [picAt]) (show (0 : Int) ≤ 0 by decide) (show (0 : Int) < 1 by decide) (fun _ => ⟨show (0 : Int) ≤ 0 by decide, show (0 : Int) < 1 by decide⟩) V13 hro (later_i hta hB) ((hbi.below (Nat.le_refl _) hB).mono hB.size)
        rw [hR] at hc
        refine hc.mono ?_
        clear hc hro hs0 hR
        obtain ⟨rw0, rh0, rpx, er⟩ := R
        rintro e X5 ⟨⟨vv, rfl, tt, rfl, hrow⟩, hb⟩
        obtain ⟨ra, rc, rfl⟩ := row_slice hrow
        simp only at hone hrow
        obtain ⟨rl, hrl⟩ : ∃ l, rpx.length = l := ⟨_, rfl⟩
        rw [hrl]
        clear hrow hrl
        replace ks := ks.below hb ks.lt
        replace kp := kp.below hb kp.lt
        replace k0 := k0.below hb k0.lt
        replace ki := ki.below hb ki.lt
        replace ko := ko.below hb ko.lt
        replace hB := hB.trans (hb.mono hB.size)
        clear hb
        clear ko ks
        have kr := Blk.new X5 29 #[.int .i64 0, .int .i64 0, .slice none 0 0]
        obtain ⟨bkr, hxkr⟩ : ∃ b, X5.heap.size = b := ⟨_, rfl⟩
        obtain ⟨X5a, hAkr⟩ : ∃ X, X5.alloc (.cells #[.int .i64 0, .int .i64 0, .slice none 0 0] 29) = X := ⟨_, rfl⟩
        have hba : Below X5.heap.size X5 X5a := alloc_below hAkr
        rw [hAkr, hxkr] at kr
        have hlekr : X5.heap.size ≤ bkr := by omega
        have ykr0 := kr.cell (i := 0) rfl
        have fykr0 := kr.frozen 0
        have ykr1 := kr.cell (i := 1) rfl
        have fykr1 := kr.frozen 1
        have ykr2 := kr.cell (i := 2) rfl
        have fykr2 := kr.frozen 2
        have krn := put3_blk kr (.int .i64 rw0) (.int .i64 rh0) (.slice ra rl rc)
        have hb : Below X5.heap.size X5 (put3 X5a bkr (.int .i64 rw0) (.int .i64 rh0) (.slice ra rl rc)) := hba.trans (put3_below hlekr (.int .i64 rw0) (.int .i64 rh0) (.slice ra rl rc))
        obtain ⟨V14, hPkr⟩ : ∃ X, put3 X5a bkr (.int .i64 rw0) (.int .i64 rh0) (.slice ra rl rc) = X := ⟨_, rfl⟩
        rw [hPkr] at krn hb
        replace kr := krn
        clear krn hba hlekr
        replace kp := kp.below hb kp.lt
        replace k0 := k0.below hb k0.lt
        replace ki := ki.below hb ki.lt
        replace hB := hB.trans (hb.mono hB.size)
        clear hb
        cases hnd : needB s with
        | false =>
          have hvf : v = false := hnoH.out (by rw [hnd]; rfl)
          subst hvf
          have he0 : ¬ er = 0 := fun h => by have := hone.1 h; rw [hnd] at this; cases this
          have he : (er != 0) = true := by simpa using he0
          clear hone hnd
          go_wp2_with fail
          go_ret
          exact ⟨rfl, hB⟩
        | true =>
          have he : er = 0 := hone.2 hnd
          subst he
          have hyk := hyesH.out (by rw [hnd, hrefH2.out]; rfl)
          have hykH := Lib.hid hyk
          clear hone hnd hyk
          go_wp2_with fail
          go_roundw
          case rel =>
              exact ⟨k + 1, by omega, by go_num, hykH, hB, kp, k0, ki⟩
          case measure => simp [intOf]; omega

end Go.Proofs.Ytekiemlniegddaa

namespace Go.Proofs.Ytekiemlniegddaa
open Go Go.ChangeShapes Go.WideShapes Go.ChangeAt Go.RowKit Go.Joins Go.Deep
set_option linter.unusedVariables false
set_option linter.unusedSimpArgs false
set_option maxRecDepth 100000

section
variable {H : Type} {enc : TypeId × Value → H}
theorem addr_plainP {a : Addr} {k : Nat} {W : World} {v : Value} (h : W.cell? (a.add k) = some v) (hk : k = 0 := by rfl) : ∃ b o, a = ⟨b, o, none⟩ := by
  subst hk
  obtain ⟨b, o, s⟩ := a
  cases s with
  | none => exact ⟨b, o, rfl⟩
  | some s => simpa [Addr.add] using World.cell?_spot h
theorem add_plainP (b o k : Nat) : (⟨b, o, none⟩ : Addr).add k = ⟨b, o + k, none⟩ := by unfold Addr.add; split <;> simp_all
theorem open_brow {W : World} {fuel : Nat} {v : Value} {y : DataW H × List MemPlace} (h : DataW.trod enc Try.prog W 0 (fun _ => true) true fuel 72 [v] = some y) :
    ∃ (a : Option Addr) (n c : Nat) (bs : List Bool), v = .slice a n c ∧ Hid (bs.length = n) ∧ RdB W.heap.size W a bs ∧ Hid (a = none → n = 0 ∧ c = 0) ∧ n ≤ 9223372036854775807 := by
  rcases open_bools Try.underlying72 Try.underlying4 (by kernel_rfl) h with ⟨h1, h2⟩ | ⟨a, len, cap, B, h1, _, hl, hm, hx, hc⟩
  · obtain rfl : v = .slice none 0 0 := by simpa using h1
    exact ⟨none, 0, 0, [], rfl, Lib.hid rfl, .inl rfl, Lib.hid fun _ => ⟨rfl, rfl⟩, by decide⟩
  · obtain rfl : v = .slice (some a) len cap := by simpa using h1
    refine ⟨some a, len, cap, (List.range len).map B, rfl, Lib.hid (by simp), ?_, Lib.hid (by simp), by unfold maxLen at hm; omega⟩
    by_cases h0 : 0 < len
    · have hc0 := hc 0 (by omega)
      obtain ⟨b, off, fld⟩ := a
      have hb : fld = none := by simpa [Addr.add] using World.cell?_spot hc0
      subst hb
      refine .inr ⟨b, off, rfl, World.block_lt_of_cell? W _ hc0, fun i hi => ?_⟩
      simp only [List.length_map, List.length_range] at hi
      have := hc i (by omega)
      rw [show (⟨b, off, none⟩ : Addr).add i = ⟨b, off + i, none⟩ from by unfold Addr.add; split <;> simp_all] at this
      rw [this]
      simp [hi]
    · left; simp; omega

theorem addr_add_add (a : Addr) (i j : Nat) : (a.add i).add j = a.add (i + j) := by
  obtain ⟨b, o, f⟩ := a
  unfold Addr.add
  by_cases hi : i = 0
  · subst hi; by_cases hj : j = 0 <;> simp [hj]
  · by_cases hj : j = 0
    · subst hj; simp [hi]
    · simp [hi, hj, Nat.add_assoc]
instance : Inhabited StepN := ⟨noStep⟩
instance : Inhabited PicN := ⟨⟨0, 0, []⟩⟩
/-- A slice of ints in a field, its weight not asked. -/
theorem open_rowP {W : World} {fuel : Nat} {v : Value} {y : DataW H × List MemPlace} (h : DataW.trod enc Try.prog W 0 (fun _ => true) true fuel 27 [v] = some y) :
    ∃ (a : Option Addr) (c : Nat) (xs : List Int), v = .slice a xs.length c ∧ Rd W.heap.size W a xs ∧ xs.length ≤ 9223372036854775807 ∧ (a = none → c = 0) := by
  rcases open_ints Try.underlying27 Try.underlying3 (by kernel_rfl) h with ⟨h1, h2⟩ | ⟨a, len, cap, zs, h1, _, hl, hm, hz, hx, hc, hwf⟩
  · obtain rfl : v = .slice none 0 0 := by simpa using h1
    exact ⟨none, 0, [], rfl, .inl rfl, by decide, fun _ => rfl⟩
  · obtain rfl : v = .slice (some a) len cap := by simpa using h1
    simp only [if_true] at hz
    have hlen : (zs.take len).length = len := by simp; omega
    refine ⟨some a, cap, zs.take len, by rw [hlen], ?_, by rw [hlen]; unfold maxLen at hm; omega, fun h => by cases h⟩
    by_cases h0 : 0 < zs.length
    · obtain ⟨b, off, rfl, hcb⟩ := ints_at hc h0
      refine .inr ⟨b, off, rfl, World.block_lt_of_cell? W _ (hcb 0 h0), fun i hi => ?_⟩
      rw [hlen] at hi
      rw [hcb i (by omega)]
      simp only [List.getElem?_take, List.getD]
      rw [if_pos (by omega)]
    · left
      simp; omega
theorem fieldU8 {W : World} {fuel : Nat} {v : Value} {y : DataW H × List MemPlace} (h : DataW.trod enc Try.prog W 0 (fun _ => true) true fuel 5 [v] = some y) : ∃ n, v = .int .u8 n ∧ 0 ≤ n ∧ n ≤ 255 := by
  obtain ⟨n, e, _, w⟩ := DataW.trod_int Try.underlying5 h
  have hx : 0 ≤ n ∧ n ≤ 255 := by simpa [Lit.wf, IntKind.min, IntKind.max, IntKind.signed, IntKind.bits] using w
  exact ⟨n, by simpa using e, hx.1, hx.2⟩
theorem some_ofP {α : Type} {l : List α} {i : Nat} (h : i < l.length) : ∃ x, l[i]? = some x := ⟨_, List.getElem?_eq_getElem h⟩
theorem open_point5 {W : World} {fuel : Nat} {cs : List Value} {y : DataW H × List MemPlace} (hl : cs.length = 5) (h : DataW.trod enc Try.prog W 0 (fun _ => true) true fuel 69 cs = some y) :
    ∃ p : PointN, cs = [.int .i64 p.mul, .int .i64 p.add, .int .i64 p.div, .int .i64 p.lo, .int .i64 p.hi] ∧ ((Lit.int .i64 p.mul).wf = true ∧ (Lit.int .i64 p.add).wf = true ∧ (Lit.int .i64 p.div).wf = true ∧ (Lit.int .i64 p.lo).wf = true ∧ (Lit.int .i64 p.hi).wf = true) := by
  match cs, hl with
  | [c0, c1, c2, c3, c4], _ =>
    obtain ⟨xs, n, _, _, _, hlen, hg⟩ := DataW.trod_struct Try.underlying69 h
    have hlen' : xs.length = 5 := hlen
    obtain ⟨y0, e0⟩ := some_ofP (l := xs) (i := 0) (by omega)
    have g0 : DataW.trod enc Try.prog W 0 (fun _ => true) true n 3 ((([c0, c1, c2, c3, c4] : List Value).drop 0).take (Try.prog.cellsOf 3)) = xs[0]? := hg 0 _ rfl
    rw [e0, show Try.prog.cellsOf 3 = 1 from by kernel_rfl] at g0
    obtain ⟨y1, e1⟩ := some_ofP (l := xs) (i := 1) (by omega)
    have g1 : DataW.trod enc Try.prog W 0 (fun _ => true) true n 3 ((([c0, c1, c2, c3, c4] : List Value).drop 1).take (Try.prog.cellsOf 3)) = xs[1]? := hg 1 _ rfl
    rw [e1, show Try.prog.cellsOf 3 = 1 from by kernel_rfl] at g1
    obtain ⟨y2, e2⟩ := some_ofP (l := xs) (i := 2) (by omega)
    have g2 : DataW.trod enc Try.prog W 0 (fun _ => true) true n 3 ((([c0, c1, c2, c3, c4] : List Value).drop 2).take (Try.prog.cellsOf 3)) = xs[2]? := hg 2 _ rfl
    rw [e2, show Try.prog.cellsOf 3 = 1 from by kernel_rfl] at g2
    obtain ⟨y3, e3⟩ := some_ofP (l := xs) (i := 3) (by omega)
    have g3 : DataW.trod enc Try.prog W 0 (fun _ => true) true n 3 ((([c0, c1, c2, c3, c4] : List Value).drop 3).take (Try.prog.cellsOf 3)) = xs[3]? := hg 3 _ rfl
    rw [e3, show Try.prog.cellsOf 3 = 1 from by kernel_rfl] at g3
    obtain ⟨y4, e4⟩ := some_ofP (l := xs) (i := 4) (by omega)
    have g4 : DataW.trod enc Try.prog W 0 (fun _ => true) true n 3 ((([c0, c1, c2, c3, c4] : List Value).drop 4).take (Try.prog.cellsOf 3)) = xs[4]? := hg 4 _ rfl
    rw [e4, show Try.prog.cellsOf 3 = 1 from by kernel_rfl] at g4
    obtain ⟨x0, rfl, wx0⟩ := field_int g0
    obtain ⟨x1, rfl, wx1⟩ := field_int g1
    obtain ⟨x2, rfl, wx2⟩ := field_int g2
    obtain ⟨x3, rfl, wx3⟩ := field_int g3
    obtain ⟨x4, rfl, wx4⟩ := field_int g4
    exact ⟨⟨x0, x1, x2, x3, x4⟩, rfl, wx0, wx1, wx2, wx3, wx4⟩
theorem open_kernel3 {W : World} {fuel : Nat} {cs : List Value} {y : DataW H × List MemPlace} (hl : cs.length = 3) (h : DataW.trod enc Try.prog W 0 (fun _ => true) true fuel 71 cs = some y) :
    ∃ (w h : Int) (a : Option Addr) (c : Nat) (ts : List Int), cs = [.int .i64 w, .int .i64 h, .slice a ts.length c] ∧ Rd W.heap.size W a ts ∧ ts.length ≤ 9223372036854775807 := by
  match cs, hl with
  | [c0, c1, c2], _ =>
    obtain ⟨xs, n, _, _, _, hlen, hg⟩ := DataW.trod_struct Try.underlying71 h
    have hlen' : xs.length = 3 := hlen
    obtain ⟨y0, e0⟩ := some_ofP (l := xs) (i := 0) (by omega)
    have g0 : DataW.trod enc Try.prog W 0 (fun _ => true) true n 3 ((([c0, c1, c2] : List Value).drop 0).take (Try.prog.cellsOf 3)) = xs[0]? := hg 0 _ rfl
    rw [e0, show Try.prog.cellsOf 3 = 1 from by kernel_rfl] at g0
    obtain ⟨y1, e1⟩ := some_ofP (l := xs) (i := 1) (by omega)
    have g1 : DataW.trod enc Try.prog W 0 (fun _ => true) true n 3 ((([c0, c1, c2] : List Value).drop 1).take (Try.prog.cellsOf 3)) = xs[1]? := hg 1 _ rfl
    rw [e1, show Try.prog.cellsOf 3 = 1 from by kernel_rfl] at g1
    obtain ⟨y2, e2⟩ := some_ofP (l := xs) (i := 2) (by omega)
    have g2 : DataW.trod enc Try.prog W 0 (fun _ => true) true n 27 ((([c0, c1, c2] : List Value).drop 2).take (Try.prog.cellsOf 27)) = xs[2]? := hg 2 _ rfl
    rw [e2, show Try.prog.cellsOf 27 = 1 from by kernel_rfl] at g2
    obtain ⟨x0, rfl, wx0⟩ := field_int g0
    obtain ⟨x1, rfl, wx1⟩ := field_int g1
    obtain ⟨a, c, xs, rfl, hr, hb, _⟩ := open_rowP g2
    exact ⟨x0, x1, a, c, xs, rfl, hr, hb⟩
theorem open_shape3 {W : World} {fuel : Nat} {cs : List Value} {y : DataW H × List MemPlace} (hl : cs.length = 3) (h : DataW.trod enc Try.prog W 0 (fun _ => true) true fuel 74 cs = some y) :
    ∃ (w h : Int) (a : Option Addr) (c : Nat) (bs : List Bool), cs = [.int .i64 w, .int .i64 h, .slice a bs.length c] ∧ RdB W.heap.size W a bs ∧ bs.length ≤ 9223372036854775807 := by
  match cs, hl with
  | [c0, c1, c2], _ =>
    obtain ⟨xs, n, _, _, _, hlen, hg⟩ := DataW.trod_struct Try.underlying74 h
    have hlen' : xs.length = 3 := hlen
    obtain ⟨y0, e0⟩ := some_ofP (l := xs) (i := 0) (by omega)
    have g0 : DataW.trod enc Try.prog W 0 (fun _ => true) true n 3 ((([c0, c1, c2] : List Value).drop 0).take (Try.prog.cellsOf 3)) = xs[0]? := hg 0 _ rfl
    rw [e0, show Try.prog.cellsOf 3 = 1 from by kernel_rfl] at g0
    obtain ⟨y1, e1⟩ := some_ofP (l := xs) (i := 1) (by omega)
    have g1 : DataW.trod enc Try.prog W 0 (fun _ => true) true n 3 ((([c0, c1, c2] : List Value).drop 1).take (Try.prog.cellsOf 3)) = xs[1]? := hg 1 _ rfl
    rw [e1, show Try.prog.cellsOf 3 = 1 from by kernel_rfl] at g1
    obtain ⟨y2, e2⟩ := some_ofP (l := xs) (i := 2) (by omega)
    have g2 : DataW.trod enc Try.prog W 0 (fun _ => true) true n 72 ((([c0, c1, c2] : List Value).drop 2).take (Try.prog.cellsOf 72)) = xs[2]? := hg 2 _ rfl
    rw [e2, show Try.prog.cellsOf 72 = 1 from by kernel_rfl] at g2
    obtain ⟨x0, rfl, wx0⟩ := field_int g0
    obtain ⟨x1, rfl, wx1⟩ := field_int g1
    obtain ⟨a, n', c, bs, rfl, hn, hr, _, hb⟩ := open_brow g2
    exact ⟨x0, x1, a, c, bs, by rw [hn.out], hr, by rw [hn.out]; exact hb⟩
theorem open_step16 {W : World} {fuel : Nat} {cs : List Value} {y : DataW H × List MemPlace} (hl : cs.length = 16) (h : DataW.trod enc Try.prog W 0 (fun _ => true) true fuel 76 cs = some y) :
    ∃ (s : StepN) (ka sa : Option Addr) (kc sc : Nat), cs = stepCells s ka kc sa sc ∧ Rd W.heap.size W ka s.taps ∧ RdB W.heap.size W sa s.bits ∧ StepIn s := by
  match cs, hl with
  | [c0, c1, c2, c3, c4, c5, c6, c7, c8, c9, c10, c11, c12, c13, c14, c15], _ =>
    obtain ⟨xs, n, _, _, _, hlen, hg⟩ := DataW.trod_struct Try.underlying76 h
    have hlen' : xs.length = 8 := hlen
    obtain ⟨y0, e0⟩ := some_ofP (l := xs) (i := 0) (by omega)
    have g0 : DataW.trod enc Try.prog W 0 (fun _ => true) true n 5 ((([c0, c1, c2, c3, c4, c5, c6, c7, c8, c9, c10, c11, c12, c13, c14, c15] : List Value).drop 0).take (Try.prog.cellsOf 5)) = xs[0]? := hg 0 _ rfl
    rw [e0, show Try.prog.cellsOf 5 = 1 from by kernel_rfl] at g0
    obtain ⟨y1, e1⟩ := some_ofP (l := xs) (i := 1) (by omega)
    have g1 : DataW.trod enc Try.prog W 0 (fun _ => true) true n 3 ((([c0, c1, c2, c3, c4, c5, c6, c7, c8, c9, c10, c11, c12, c13, c14, c15] : List Value).drop 1).take (Try.prog.cellsOf 3)) = xs[1]? := hg 1 _ rfl
    rw [e1, show Try.prog.cellsOf 3 = 1 from by kernel_rfl] at g1
    obtain ⟨y2, e2⟩ := some_ofP (l := xs) (i := 2) (by omega)
    have g2 : DataW.trod enc Try.prog W 0 (fun _ => true) true n 3 ((([c0, c1, c2, c3, c4, c5, c6, c7, c8, c9, c10, c11, c12, c13, c14, c15] : List Value).drop 2).take (Try.prog.cellsOf 3)) = xs[2]? := hg 2 _ rfl
    rw [e2, show Try.prog.cellsOf 3 = 1 from by kernel_rfl] at g2
    obtain ⟨y3, e3⟩ := some_ofP (l := xs) (i := 3) (by omega)
    have g3 : DataW.trod enc Try.prog W 0 (fun _ => true) true n 69 ((([c0, c1, c2, c3, c4, c5, c6, c7, c8, c9, c10, c11, c12, c13, c14, c15] : List Value).drop 3).take (Try.prog.cellsOf 69)) = xs[3]? := hg 3 _ rfl
    rw [e3, show Try.prog.cellsOf 69 = 5 from by kernel_rfl] at g3
    obtain ⟨y4, e4⟩ := some_ofP (l := xs) (i := 4) (by omega)
    have g4 : DataW.trod enc Try.prog W 0 (fun _ => true) true n 5 ((([c0, c1, c2, c3, c4, c5, c6, c7, c8, c9, c10, c11, c12, c13, c14, c15] : List Value).drop 8).take (Try.prog.cellsOf 5)) = xs[4]? := hg 4 _ rfl
    rw [e4, show Try.prog.cellsOf 5 = 1 from by kernel_rfl] at g4
    obtain ⟨y5, e5⟩ := some_ofP (l := xs) (i := 5) (by omega)
    have g5 : DataW.trod enc Try.prog W 0 (fun _ => true) true n 71 ((([c0, c1, c2, c3, c4, c5, c6, c7, c8, c9, c10, c11, c12, c13, c14, c15] : List Value).drop 9).take (Try.prog.cellsOf 71)) = xs[5]? := hg 5 _ rfl
    rw [e5, show Try.prog.cellsOf 71 = 3 from by kernel_rfl] at g5
    obtain ⟨y6, e6⟩ := some_ofP (l := xs) (i := 6) (by omega)
    have g6 : DataW.trod enc Try.prog W 0 (fun _ => true) true n 5 ((([c0, c1, c2, c3, c4, c5, c6, c7, c8, c9, c10, c11, c12, c13, c14, c15] : List Value).drop 12).take (Try.prog.cellsOf 5)) = xs[6]? := hg 6 _ rfl
    rw [e6, show Try.prog.cellsOf 5 = 1 from by kernel_rfl] at g6
    obtain ⟨y7, e7⟩ := some_ofP (l := xs) (i := 7) (by omega)
    have g7 : DataW.trod enc Try.prog W 0 (fun _ => true) true n 74 ((([c0, c1, c2, c3, c4, c5, c6, c7, c8, c9, c10, c11, c12, c13, c14, c15] : List Value).drop 13).take (Try.prog.cellsOf 74)) = xs[7]? := hg 7 _ rfl
    rw [e7, show Try.prog.cellsOf 74 = 3 from by kernel_rfl] at g7
    obtain ⟨x0, rfl, b0, b0'⟩ := fieldU8 g0
    obtain ⟨x1, rfl, wx1⟩ := field_int g1
    obtain ⟨x2, rfl, wx2⟩ := field_int g2
    obtain ⟨p, hp, _⟩ := open_point5 rfl g3
    obtain ⟨x8, rfl, b8, b8'⟩ := fieldU8 g4
    obtain ⟨kw, kh, ka, kc, ts, hk, hkr, hkb⟩ := open_kernel3 rfl g5
    obtain ⟨x12, rfl, b12, b12'⟩ := fieldU8 g6
    obtain ⟨sw, sh, sa, sc, bs, hs, hsr, hsb⟩ := open_shape3 rfl g7
    simp only [List.drop_succ_cons, List.drop_zero, List.take_succ_cons, List.take_zero, List.cons.injEq, and_true] at hp hk hs
    obtain ⟨rfl, rfl, rfl, rfl, rfl⟩ := hp
    obtain ⟨rfl, rfl, rfl⟩ := hk
    obtain ⟨rfl, rfl, rfl⟩ := hs
    exact ⟨⟨x0, x1, x2, p, x8, kw, kh, ts, x12, sw, sh, bs⟩, ka, sa, kc, sc, rfl, hkr, hsr, ⟨⟨b0, b0'⟩, ⟨b8, b8'⟩, ⟨b12, b12'⟩, hkb, hsb⟩⟩
/-- A slice of steps in a field. -/
theorem open_steps {W : World} {fuel : Nat} {v : Value} {y : DataW H × List MemPlace} (h : DataW.trod enc Try.prog W 0 (fun _ => true) true fuel 22 [v] = some y) :
    ∃ (a : Option Addr) (c : Nat) (ss : List StepN), v = .slice a ss.length c ∧ RdSs W.heap.size W a ss ∧ ss.length ≤ 9223372036854775807 ∧ ∀ i, i < ss.length → StepIn (stAt ss i) := by
  rcases open_slice Try.underlying22 h with ⟨h1, _⟩ | ⟨a, len, cap, m, n, D, Pl, h1, _, hl, hm, hmm, _, hx⟩
  · obtain rfl : v = .slice none 0 0 := by simpa using h1
    exact ⟨none, 0, [], rfl, .inl rfl, by decide, fun i hi => by simp at hi⟩
  · obtain rfl : v = .slice (some a) len cap := by simpa using h1
    simp only [if_true] at hmm
    subst hmm
    have each : ∀ i, i < m → ∃ q : StepN × (Option Addr × Nat) × (Option Addr × Nat), (∀ j u, (stepCells q.1 q.2.1.1 q.2.1.2 q.2.2.1 q.2.2.2)[j]? = some u → W.cell? (a.add (i * 16 + j)) = some u) ∧ Rd W.heap.size W q.2.1.1 q.1.taps ∧ RdB W.heap.size W q.2.2.1 q.1.bits ∧ StepIn q.1 := fun i hi => by
      obtain ⟨cs', e1, e2⟩ := hx i hi
      rw [show Try.prog.cellsOf 76 = 16 from by kernel_rfl] at e1
      obtain ⟨_, hlen, hc⟩ := World.cells?_some e1
      obtain ⟨s, ka, sa, kc, sc, rfl, f1, f2, f3⟩ := open_step16 hlen e2
      refine ⟨(s, (ka, kc), (sa, sc)), fun j u hj => ?_, f1, f2, f3⟩
      have hj16 : j < 16 := by
        rcases Nat.lt_or_ge j 16 with h | h
        · exact h
        · rw [List.getElem?_eq_none (by simpa [stepCells] using h)] at hj; cases hj
      have := hc j hj16
      rw [addr_add_add] at this
      rw [this]; exact hj
    obtain ⟨q, hq⟩ := choose_lt each
    have hlen : ((List.range len).map fun i => (q i).1).length = len := by simp
    have hat : ∀ i, i < len → stAt ((List.range len).map fun i => (q i).1) i = (q i).1 := fun i hi => by
      unfold stAt
      rw [List.getElem?_map, List.getElem?_range hi]; rfl
    refine ⟨some a, m, (List.range len).map fun i => (q i).1, by rw [hlen], ?_, by rw [hlen]; unfold maxLen at hm; omega, fun i hi => ?_⟩
    · by_cases h0 : 0 < len
      · have e0 := (hq 0 (by omega)).1 0 _ rfl
        obtain ⟨b, o, rfl⟩ := addr_plainP e0
        rw [add_plainP] at e0
        refine .inr ⟨b, o, rfl, World.block_lt_of_cell? W _ e0, fun i hi => ?_⟩
        rw [hlen] at hi
        rw [hat i hi]
        obtain ⟨f1, f2, f3, _⟩ := hq i (by omega)
        refine ⟨(q i).2.1.1, (q i).2.1.2, (q i).2.2.1, (q i).2.2.2, ⟨fun j u hj => ?_, f2, f3⟩⟩
        have := f1 j u hj
        rw [add_plainP, ← Nat.add_assoc] at this
        exact this
      · left
        have : len = 0 := by omega
        subst this; rfl
    · rw [hlen] at hi
      rw [hat i hi]; exact (hq i (by omega)).2.2.2
/-- A pipe. -/
theorem open_pipe {W : World} {base : Nat} {v : Value} {d : DataW H} {p : List MemPlace} (hv : Value.okWide Try.prog W .any base 24 v) (h : DataW.Trod enc Try.prog W 0 (fun _ => true) true 24 v d p) :
    ∃ (P : PipeN) (a : Option Addr) (n c : Nat), v = pipev P a n c ∧ P.ss.length = n ∧ PipeIn P ∧ RdSs W.heap.size W a P.ss := by
  obtain ⟨cs, rfl, hsz⟩ := okWide_struct Try.underlying24 hv
  obtain ⟨l⟩ := cs
  have hsz4 : l.length = 4 := hsz.trans (show Try.prog.cellsOf 24 = 4 from by kernel_rfl)
  match l, hsz4 with
  | [c0, c1, c2, c3], _ =>
    obtain ⟨fuel, hf⟩ := h
    obtain ⟨xs, n, _, _, _, hlen, hg⟩ := DataW.trod_struct Try.underlying24 hf
    have hlen3 : xs.length = 4 := hlen
    obtain ⟨y0, e0⟩ := some_ofP (l := xs) (i := 0) (by omega)
    have g0 : DataW.trod enc Try.prog W 0 (fun _ => true) true n 3 ((([c0, c1, c2, c3] : List Value).drop 0).take (Try.prog.cellsOf 3)) = xs[0]? := hg 0 _ rfl
    rw [e0, show Try.prog.cellsOf 3 = 1 from by kernel_rfl] at g0
    obtain ⟨y1, e1⟩ := some_ofP (l := xs) (i := 1) (by omega)
    have g1 : DataW.trod enc Try.prog W 0 (fun _ => true) true n 3 ((([c0, c1, c2, c3] : List Value).drop 1).take (Try.prog.cellsOf 3)) = xs[1]? := hg 1 _ rfl
    rw [e1, show Try.prog.cellsOf 3 = 1 from by kernel_rfl] at g1
    obtain ⟨y2, e2⟩ := some_ofP (l := xs) (i := 2) (by omega)
    have g2 : DataW.trod enc Try.prog W 0 (fun _ => true) true n 3 ((([c0, c1, c2, c3] : List Value).drop 2).take (Try.prog.cellsOf 3)) = xs[2]? := hg 2 _ rfl
    rw [e2, show Try.prog.cellsOf 3 = 1 from by kernel_rfl] at g2
    obtain ⟨y3, e3⟩ := some_ofP (l := xs) (i := 3) (by omega)
    have g3 : DataW.trod enc Try.prog W 0 (fun _ => true) true n 22 ((([c0, c1, c2, c3] : List Value).drop 3).take (Try.prog.cellsOf 22)) = xs[3]? := hg 3 _ rfl
    rw [e3, show Try.prog.cellsOf 22 = 1 from by kernel_rfl] at g3
    obtain ⟨x0, rfl, _⟩ := field_int g0
    obtain ⟨x1, rfl, _⟩ := field_int g1
    obtain ⟨x2, rfl, _⟩ := field_int g2
    obtain ⟨a, c, ss, rfl, hr, hb, hs⟩ := open_steps g3
    exact ⟨⟨x0, x1, x2, ss⟩, a, ss.length, c, rfl, rfl, ⟨hb, hs⟩, hr⟩
/-- A list of images as a parameter. -/
theorem open_ims {W : World} {base : Nat} {v : Value} {d : DataW H} {p : List MemPlace} (hv : Value.okWide Try.prog W .any base 25 v) (h : DataW.Trod enc Try.prog W 0 (fun _ => true) true 25 v d p) (hwt : ∀ n ∈ d.weights Try.prog 25, n ≤ reachBytes) :
    ∃ (a : Option Addr) (n c : Nat) (ms : List PicN), v = .slice a n c ∧ ms.length = n ∧ RdPs W.heap.size W a ms ∧ n * 40 ≤ 140737488355328 ∧ ∀ i, (picAt ms i).px.length * 8 ≤ 140737488355328 := by
  obtain ⟨a, l, c, rfl⟩ := okWide_slice Try.underlying25 hv
  obtain ⟨fuel, hf⟩ := trod_of h
  rcases open_slice Try.underlying25 hf with ⟨h1, _⟩ | ⟨ad, len, cap, m, n, D, Pl, h1, _, hl, hm, hmm, hx0, hx⟩
  · simp only [List.cons.injEq, and_true] at h1
    cases h1
    exact ⟨none, 0, 0, [], rfl, rfl, .inl rfl, by decide, fun i => by simp [picAt]⟩
  · obtain ⟨rfl, rfl, rfl⟩ : some ad = a ∧ len = l ∧ cap = c := by
      simp only [List.cons.injEq, and_true, Value.slice.injEq] at h1
      exact ⟨h1.1.symm, h1.2.1.symm, h1.2.2.symm⟩
    simp only [if_true] at hmm
    subst hmm
    simp only [Prod.mk.injEq] at hx0
    obtain ⟨rfl, _⟩ := hx0
    have hlen40 : len * 40 ≤ 140737488355328 := by
      have := hwt ((((List.range len).map D).length + ((List.range (m - len)).map fun j => D (len + j)).length) * 40) (by
        simp only [DataW.weights, Try.underlying25]
        rw [show Try.prog.bytesOf 29 = 40 from by kernel_rfl]
        exact List.mem_cons_self)
      rw [List.length_map, List.length_map, List.length_range, List.length_range] at this
      unfold reachBytes at this
      omega
    have each : ∀ i, i < m → ∃ q : PicN × (Option Addr × Nat), (∀ j u, ([.int .i64 q.1.w, .int .i64 q.1.h, .slice q.2.1 q.1.px.length q.2.2] : List Value)[j]? = some u → W.cell? (ad.add (i * 3 + j)) = some u) ∧ Rd W.heap.size W q.2.1 q.1.px ∧ (q.2.1 = none → q.2.2 = 0) ∧ (i < len → q.1.px.length * 8 ≤ 140737488355328) := fun i hi => by
      obtain ⟨cs', e1, e2⟩ := hx i hi
      rw [show Try.prog.cellsOf 29 = 3 from by kernel_rfl] at e1
      obtain ⟨_, hlen, hc⟩ := World.cells?_some e1
      have key : ∀ j u, cs'[j]? = some u → W.cell? (ad.add (i * 3 + j)) = some u := fun j u hj => by
        have hj3 : j < 3 := by
          rcases Nat.lt_or_ge j 3 with h | h
          · exact h
          · rw [List.getElem?_eq_none (by rw [hlen]; exact h)] at hj; cases hj
        have := hc j hj3
        rw [addr_add_add] at this
        rw [this]; exact hj
      match cs', hlen with
      | [c0, c1, c2], _ =>
        obtain ⟨xs, n', _, hD, _, hlen3', hg⟩ := DataW.trod_struct Try.underlying29 e2
        have hlen3 : xs.length = 3 := hlen3'
        obtain ⟨y0, e0'⟩ := some_ofP (l := xs) (i := 0) (by omega)
        have g0 : DataW.trod enc Try.prog W 0 (fun _ => true) true n' 3 ((([c0, c1, c2] : List Value).drop 0).take (Try.prog.cellsOf 3)) = xs[0]? := hg 0 _ rfl
        rw [e0', show Try.prog.cellsOf 3 = 1 from by kernel_rfl] at g0
        obtain ⟨y1, e1'⟩ := some_ofP (l := xs) (i := 1) (by omega)
        have g1 : DataW.trod enc Try.prog W 0 (fun _ => true) true n' 3 ((([c0, c1, c2] : List Value).drop 1).take (Try.prog.cellsOf 3)) = xs[1]? := hg 1 _ rfl
        rw [e1', show Try.prog.cellsOf 3 = 1 from by kernel_rfl] at g1
        obtain ⟨y2, e2'⟩ := some_ofP (l := xs) (i := 2) (by omega)
        have g2 : DataW.trod enc Try.prog W 0 (fun _ => true) true n' 27 ((([c0, c1, c2] : List Value).drop 2).take (Try.prog.cellsOf 27)) = xs[2]? := hg 2 _ rfl
        rw [e2', show Try.prog.cellsOf 27 = 1 from by kernel_rfl] at g2
        obtain ⟨x0, rfl, _⟩ := field_int g0
        obtain ⟨x1, rfl, _⟩ := field_int g1
        by_cases hil : i < len
        · obtain ⟨pa, pn, pc, px, rfl, hpn, hpr, hpz, hpm, _⟩ := open_row g2 (fun k hk => hwt k (by
            simp only [DataW.weights, Try.underlying25]
            refine List.mem_cons_of_mem _ (List.mem_append_left _ (mem_weightsAll (d := D i) (List.mem_map.2 ⟨i, List.mem_range.2 hil, rfl⟩) ?_))
            have hDi : D i = .agg (xs.map Prod.fst) := by first | exact congrArg Prod.fst hD | (simpa using congrArg Prod.fst hD)
            rw [hDi]
            simp only [DataW.weights, Try.underlying29]
            exact DataW.weights_mem_each (j := 2) rfl (by rw [List.getElem?_map, e2']; rfl) k hk))
          refine ⟨(⟨x0, x1, px⟩, (pa, pc)), fun j u hj => ?_, hpr, fun e => (hpz.out e).2, fun _ => by rw [hpn.out]; exact hpm⟩
          rw [show px.length = pn from hpn.out] at hj
          exact key j u hj
        · obtain ⟨pa, pc, px, rfl, hpr, _, hpz⟩ := open_rowP g2
          exact ⟨(⟨x0, x1, px⟩, (pa, pc)), key, hpr, hpz, fun h => absurd h hil⟩
    obtain ⟨q, hq⟩ := choose_lt each
    have hlenq : ((List.range len).map fun i => (q i).1).length = len := by simp
    have hat : ∀ i, i < len → picAt ((List.range len).map fun i => (q i).1) i = (q i).1 := fun i hi => by
      unfold picAt
      rw [List.getElem?_map, List.getElem?_range hi]; rfl
    refine ⟨some ad, len, m, (List.range len).map fun i => (q i).1, rfl, hlenq, ?_, hlen40, fun i => ?_⟩
    · by_cases h0 : 0 < len
      · have e0 := (hq 0 (by omega)).1 0 _ rfl
        obtain ⟨b, o, rfl⟩ := addr_plainP e0
        rw [add_plainP] at e0
        refine .inr ⟨b, o, rfl, World.block_lt_of_cell? W _ e0, fun i hi => ?_⟩
        rw [hlenq] at hi
        rw [hat i hi]
        obtain ⟨f1, f2, f3, _⟩ := hq i (by omega)
        have c0 := f1 0 _ rfl
        have c1 := f1 1 _ rfl
        have c2 := f1 2 _ rfl
        rw [add_plainP, ← Nat.add_assoc] at c0 c1 c2
        exact ⟨(q i).2.1, (q i).2.2, c0, c1, c2, f2, f3⟩
      · left
        have : len = 0 := by omega
        subst this; rfl
    · by_cases hi : i < len
      · rw [hat i hi]; exact (hq i (by omega)).2.2.2 hi
      · unfold picAt; rw [List.getElem?_eq_none (by rw [hlenq]; omega)]; simp
end
end Go.Proofs.Ytekiemlniegddaa

namespace Go.Proofs.Ytekiemlniegddaa
open Go Go.RowKit Go.Shelf
set_option linter.unusedVariables false
set_option linter.unusedSimpArgs false

/-- The image is valid and of the size. -/
def fitP (w h : Int) (m : PicN) : Bool := vld m.w m.h m.px && (decide (m.w = w) && decide (m.h = h))
theorem any_not_all {ms : List PicN} {p : PicN → Bool} : (ms.any fun m => !p m) = !ms.all p := by
  induction ms with
  | nil => rfl
  | cons a l ih => simp [ih, Bool.not_and]
set_option maxRecDepth 100000 in
set_option maxHeartbeats 4000000 in
theorem fit1_any (m : PicN) (pa : Option Addr) (pc n : Nat) (hn : Hid (m.px.length = n)) (W H : Int) (bw bh : Nat) (w : World) (kw : Blk w bw 3 #[.int .i64 W]) (kh : Blk w bh 3 #[.int .i64 H]) (hm : n ≤ 9223372036854775807) (hr : Rd w.heap.size w pa m.px) :
    Calls Try.prog 68 #[imv m.w m.h pa n pc, .pointer (some ⟨bw, 0, none⟩), .pointer (some ⟨bh, 0, none⟩)] w fun e w' => e = .returned (.bool (!fitP W H m)) ∧ Below w.heap.size w w' := by
  have hB : Below w.heap.size w w := Below.refl _ _
  unfold fitP
  obtain ⟨iw, ih, xs⟩ := m
  simp only at hn hr ⊢
  obtain ⟨v0, hv0⟩ : ∃ v, vld iw ih xs = v := ⟨_, rfl⟩
  have hvH := Lib.hid hv0
  rw [hv0]
  clear hv0
  have x0 := kw.cell (i := 0) rfl
  have y0 := kh.cell (i := 0) rfl
  have hbV1 : Below w.heap.size w (w.alloc (.cells #[.int .i64 iw, .int .i64 ih, .slice pa n pc] 29)) := jb_al (Below.refl _ w) _
  have k3 := Blk.new w 29 #[.int .i64 iw, .int .i64 ih, .slice pa n pc]
  obtain ⟨V1, hEV1⟩ : ∃ X, w.alloc (.cells #[.int .i64 iw, .int .i64 ih, .slice pa n pc] 29) = X := ⟨_, rfl⟩
  rw [hEV1] at hbV1 k3
  clear x0 y0
  replace kw := kw.below hbV1 kw.lt
  replace kh := kh.below hbV1 kh.lt
  replace hr := later_i hr hbV1
  replace hB := hB.trans (hbV1.mono hB.size)
  clear hbV1
  have x0 := kw.cell (i := 0) rfl
  have y0 := kh.cell (i := 0) rfl
  have m0 := k3.cell (i := 0) rfl
  have m1 := k3.cell (i := 1) rfl
  have m2 := k3.cell (i := 2) rfl
  go_enter Try.func68, Try.ntmps68
  go_wp2_with fail
  clear hEV1
  have hc := Check_any iw ih pa pc n xs hn v0 hvH.out V1 hm hr
  refine hc.mono ?_
  clear hc
  rintro e V2 ⟨rfl, hb⟩
  clear x0 y0 m0 m1 m2
  replace kw := kw.below hb kw.lt
  replace kh := kh.below hb kh.lt
  replace k3 := k3.below hb k3.lt
  replace hr := later_i hr hb
  replace hB := hB.trans (hb.mono hB.size)
  clear hb
  have x0 := kw.cell (i := 0) rfl
  have y0 := kh.cell (i := 0) rfl
  have m0 := k3.cell (i := 0) rfl
  have m1 := k3.cell (i := 1) rfl
  have m2 := k3.cell (i := 2) rfl
  cases v0 with
  | false =>
    go_wp2_with fail
    go_ret
    exact ⟨ret_bool (by simp), hB⟩
  | true =>
    by_cases e1 : iw = W
    case neg =>
      have f1 : (iw != W) = true := by simp [e1]
      go_wp2_with fail
      go_ret
      exact ⟨ret_bool (by simp [e1]), hB⟩
    case pos =>
      have f1 : (iw != W) = false := by simp [e1]
      by_cases e2 : ih = H
      case neg =>
        have f2 : (ih != H) = true := by simp [e2]
        have e1H := Lib.hid e1
        clear e1
        go_wp2_with fail
        go_ret
        exact ⟨ret_bool (by simp [e1H.out, e2]), hB⟩
      case pos =>
        have f2 : (ih != H) = false := by simp [e2]
        have e1H := Lib.hid e1
        have e2H := Lib.hid e2
        clear e1 e2
        go_wp2_with fail
        go_ret
        exact ⟨ret_bool (by simp [e1H.out, e2H.out]), hB⟩
set_option maxRecDepth 100000 in
set_option maxHeartbeats 4000000 in
theorem IndexP_any (p : PicN → Bool) (fo : Nat) (lb : Array Value) (eg : ∀ args w, (callFunc fo args).run Try.prog w = .ok (.enter fo args) w) (ms : List PicN) (a : Option Addr) (c n : Nat) (hn : ms.length = n) (hm : n ≤ 9223372036854775807) (w : World) (hr : RdPs w.heap.size w a ms)
    (hof : ∀ i, i < n → ∀ (W : World) (pa : Option Addr) (pc : Nat), Below w.heap.size w W → Rd W.heap.size W pa (picAt ms i).px → Calls Try.prog fo (#[imv (picAt ms i).w (picAt ms i).h pa (picAt ms i).px.length pc] ++ lb) W fun e W' => e = .returned (.bool (p (picAt ms i))) ∧ Below W.heap.size W W') :
    Calls Try.prog 103 #[.slice a n c, .func (.func fo) #[] lb] w fun e w' => (∃ k : Int, e = .returned (.int .i64 k) ∧ decide (0 ≤ k) = ms.any p) ∧ Below w.heap.size w w' := by
  have hnH := Lib.hid hn
  have hofH := Lib.hid hof
  clear hn hof
  go_enter Try.func103, Try.ntmps103
  go_wp2
  go_loopw [5, 8] (fun v i wr => ∃ k : Nat, k ≤ n ∧ i = .int .i64 k ∧ Hid ((ms.take k).any p = false) ∧ Below w.heap.size w wr) (fun _ i _ => n - (intOf i).toNat)
  case atStart => exact ⟨0, Nat.zero_le _, rfl, Lib.hid (by simp), Below.refl _ _⟩
  case round =>
    obtain ⟨k, hk, rfl, hall, hB⟩ := hrel
    by_cases hlt : k < n
    · have hlt' : k < ms.length := by have := hnH.out; omega
      obtain ⟨b, o, rfl, hbl, pa, pc, p0, p1, p2, rA, _⟩ := hr.at hlt'
      have c0 := (hB.cell (p := ⟨b, o + k * 3, none⟩) hbl).trans p0
      have c1 := (hB.cell (p := ⟨b, o + k * 3 + 1, none⟩) hbl).trans p1
      have c2 := (hB.cell (p := ⟨b, o + k * 3 + 2, none⟩) hbl).trans p2
      have hcall := hofH.out k hlt wr pa pc hB (later_i rA hB)
      have hpk : (ms.take (k + 1)).any p = ((ms.take k).any p || p (picAt ms k)) := by
        rw [List.take_succ_eq_append_getElem hlt', List.any_append]; unfold picAt; rw [List.getElem?_eq_getElem hlt']; simp
      have hhit : p (picAt ms k) = true → ms.any p = true := fun h => by
        unfold picAt at h; rw [List.getElem?_eq_getElem hlt'] at h
        exact List.any_eq_true.2 ⟨_, List.getElem_mem hlt', h⟩
      obtain ⟨pk, hpe⟩ : ∃ v, p (picAt ms k) = v := ⟨_, rfl⟩
      rw [hpe] at hcall hpk hhit
      rw [hall.out, Bool.false_or] at hpk
      have hpkH := Lib.hid hpk
      have hhitH := Lib.hid hhit
      have hcallH := Lib.hid hcall
      clear p0 p1 p2 hpe hpk hhit rA hcall
      cases pk with
      | true =>
        go_wp2_with (go_at_fn fo; refine hcallH.out.mono ?_; rintro e w2 ⟨rfl, hb2⟩)
        go_ret
        exact ⟨⟨_, rfl, by rw [hhitH.out trivial]; simp⟩, hB.trans (hb2.mono hB.size)⟩
      | false =>
        go_wp2_with (go_at_fn fo; refine hcallH.out.mono ?_; rintro e w2 ⟨rfl, hb2⟩)
        go_roundw
        case rel => exact ⟨k + 1, by omega, by go_num, Lib.hid hpkH.out, hB.trans (hb2.mono hB.size)⟩
        case measure => simp [intOf]; omega
    · go_wp2
      go_ret
      have hall2 := hall.out
      rw [List.take_of_length_le (by have := hnH.out; omega)] at hall2
      exact ⟨⟨_, rfl, by rw [hall2]; rfl⟩, hB⟩
set_option maxRecDepth 100000 in
set_option maxHeartbeats 1000000 in
theorem ContainsP_any (p : PicN → Bool) (fo : Nat) (lb : Array Value) (eg : ∀ args w, (callFunc fo args).run Try.prog w = .ok (.enter fo args) w) (ms : List PicN) (a : Option Addr) (c n : Nat) (hn : ms.length = n) (hm : n ≤ 9223372036854775807) (w : World) (hr : RdPs w.heap.size w a ms)
    (hof : ∀ i, i < n → ∀ (W : World) (pa : Option Addr) (pc : Nat), Below w.heap.size w W → Rd W.heap.size W pa (picAt ms i).px → Calls Try.prog fo (#[imv (picAt ms i).w (picAt ms i).h pa (picAt ms i).px.length pc] ++ lb) W fun e W' => e = .returned (.bool (p (picAt ms i))) ∧ Below W.heap.size W W') :
    Calls Try.prog 67 #[.slice a n c, .func (.func fo) #[] lb] w fun e w' => e = .returned (.bool (ms.any p)) ∧ Below w.heap.size w w' := by
  have hc := IndexP_any p fo lb eg ms a c n hn hm w hr hof
  clear hof eg
  go_enter Try.func67, Try.ntmps67
  go_wp2_with (go_at_call 103; refine hc.mono ?_; rintro e w' ⟨⟨k, rfl, hk⟩, hb⟩)
  all_goals go_ret
  all_goals exact ⟨ret_bool (by rw [← hk]), hb⟩
theorem enters_fit1 : ∀ args w, (callFunc 68 args).run Try.prog w = .ok (.enter 68 args) w := enters_of Try.func68 (by kernel_rfl) rfl
set_option maxRecDepth 100000 in
set_option maxHeartbeats 4000000 in
theorem fit_any (ms : List PicN) (a : Option Addr) (c n : Nat) (hn : ms.length = n) (hm : n ≤ 9223372036854775807) (hpl : ∀ i, i < n → (picAt ms i).px.length ≤ 9223372036854775807) (N W H : Int) (w : World) (hr : RdPs w.heap.size w a ms) :
    Calls Try.prog 31 #[.slice a n c, .int .i64 N, .int .i64 W, .int .i64 H] w fun e w' => e = .returned (.bool (givenB ms N W H)) ∧ Below w.heap.size w w' := by
  have hB : Below w.heap.size w w := Below.refl _ _
  have hnH := Lib.hid hn
  have hplH := Lib.hid hpl
  clear hn hpl
  unfold givenB
  have hbV1 : Below w.heap.size w (w.alloc (.cells #[.int .i64 W] 3)) := jb_al (Below.refl _ w) _
  have kw := Blk.new w 3 #[.int .i64 W]
  obtain ⟨V1, hEV1⟩ : ∃ X, w.alloc (.cells #[.int .i64 W] 3) = X := ⟨_, rfl⟩
  rw [hEV1] at hbV1 kw
  replace hr := hr.later hbV1
  replace hB := hB.trans (hbV1.mono hB.size)
  clear hbV1
  have x0 := kw.cell (i := 0) rfl
  have hbV2 : Below V1.heap.size V1 (V1.alloc (.cells #[.int .i64 H] 3)) := jb_al (Below.refl _ V1) _
  have kh := Blk.new V1 3 #[.int .i64 H]
  obtain ⟨V2, hEV2⟩ : ∃ X, V1.alloc (.cells #[.int .i64 H] 3) = X := ⟨_, rfl⟩
  rw [hEV2] at hbV2 kh
  clear x0
  replace kw := kw.below hbV2 kw.lt
  replace hr := hr.later hbV2
  replace hB := hB.trans (hbV2.mono hB.size)
  clear hbV2
  have x0 := kw.cell (i := 0) rfl
  have y0 := kh.cell (i := 0) rfl
  by_cases hc : (n : Int) = N
  case neg =>
    have f1 : ((n : Int) == N) = false := by simp [hc]
    have hcH := Lib.hid hc
    clear hc
    go_enter Try.func31, Try.ntmps31
    go_wp2_with fail
    go_ret
    exact ⟨ret_bool (by rw [hnH.out]; simp [hcH.out]), hB⟩
  case pos =>
    have f1 : ((n : Int) == N) = true := by simp [hc]
    have hcH := Lib.hid hc
    clear hc
    have hcall := ContainsP_any (fun m => !fitP W H m) 68 #[.pointer (some ⟨w.heap.size, 0, none⟩), .pointer (some ⟨V1.heap.size, 0, none⟩)] enters_fit1 ms a c n hnH.out hm V2 hr (fun i hi X pa pc hb hrd => fit1_any (picAt ms i) pa pc _ (Lib.hid rfl) W H _ _ X (kw.below hb kw.lt) (kh.below hb kh.lt) (hplH.out i hi) hrd)
    go_enter Try.func31, Try.ntmps31
    go_wp2_with (go_at_call 67; refine hcall.mono ?_; rintro e w' ⟨rfl, hb⟩)
    go_ret
    exact ⟨ret_bool (by rw [any_not_all, hnH.out]; simp [hcH.out]; rfl), hB.trans (hb.mono hB.size)⟩

end Go.Proofs.Ytekiemlniegddaa

/- Contracts and laws (PCh, OpP, Flat, MpB, MpF, MpW, PcA). -/
import Derived.Deep.Slices
import Derived.Deep.Grids
import Derived.Maps.OwnOps
import Derived.Maps.OwnSet
import Derived.Test.YtekiemlniegddaaGreatQH4
import Derived.Test.YtekiemlniegddaaGreatQH1
set_option linter.unusedVariables false
set_option linter.unusedSimpArgs false
namespace Go.Proofs.YtekiemlniegddaaGreat
open Go Go.RowKit Go.Shelf
theorem pwithin (n lo hi : Int) (v : Bool) (hv : inR n lo hi = v) (w : World) :
  Calls Tryz.prog 70 #[.int .i64 n, .int .i64 lo, .int .i64 hi] w fun e w' => e = .returned (.bool v) ∧ w = w' := by
 subst hv
 unfold inR
 cases h1 : decide (lo ≤ n) <;> cases h2 : decide (n ≤ hi)
 all_goals
  simp only [decide_eq_true_eq, decide_eq_false_iff_not] at h1 h2
  go_enter Tryz.func70, Tryz.ntmps70
  go_wp2
  go_ret
  exact ⟨ret_bool (by simp; try omega), rfl⟩
/-- The value of a pipe. -/
abbrev pipev (P : PipeN) (a : Option Addr) (n c : Nat) : Value := .agg #[.int .i64 P.w, .int .i64 P.h, .int .i64 P.inp, .slice a n c]
/-- What a pipe's numbers are, as they came in. -/
structure PipeIn (P : PipeN) : Prop where
 n : P.ss.length ≤ 9223372036854775807
 st : ∀ i, i < P.ss.length → StepIn (stAt P.ss i)
theorem sizeB_is (W H I : Int) (ss : List StepN) (n : Nat) (hn : ss.length = n) : sizeB ⟨W, H, I, ss⟩ = ((inR W 1 16 && inR H 1 16) && (inR I 1 3 && inR (n : Int) 1 12)) := by
 subst hn
 unfold sizeB inR
 simp only
 congr 3
 ·simp; omega
 ·simp; omega
theorem stepsB_at {I : Int} {ss : List StepN} : ∀ {m k : Nat}, stepsB I ss m = true → k < m → (needB (stAt ss k) && refB I k (stAt ss k)) = true
 | m + 1, k, h, hk => by
  rw [stepsB, Bool.and_eq_true] at h
  by_cases e : k = m
  ·subst e; exact h.2
  ·exact stepsB_at h.1 (by omega)
theorem pipeB_no {P : PipeN} {k : Nat} (hk : k < P.ss.length) (h : (needB (stAt P.ss k) && refB P.inp k (stAt P.ss k)) = false) : pipeB P = false := by
 cases hb : pipeB P with
 | false => rfl
 | true =>
  unfold pipeB at hb
  rw [Bool.and_eq_true] at hb
  have := stepsB_at hb.2 hk
  rw [h] at this; cases this
theorem pipeB_size {P : PipeN} (h : sizeB P = false) : pipeB P = false := by unfold pipeB; rw [h]; rfl
theorem refB_ops (I : Int) (i : Nat) (s : StepN) : refB I i s = (opsN s).all (fun x => inR x 0 (I + i - 1)) := by
 unfold refB opsN
 by_cases h2 : s.op = 2
 ·by_cases hab : s.a = s.b
  ·rw [if_neg (fun h => h.2 hab), hab]; simp [h2]
  ·rw [if_pos ⟨h2, hab⟩]; simp [h2]
 ·rw [if_neg (fun h => h2 h.1)]; simp [h2]
theorem opsN_len (s : StepN) : 1 ≤ (opsN s).length ∧ (opsN s).length ≤ 2 := by unfold opsN; split <;> simp
theorem all_take {L : List Int} {p : Int → Bool} {j : Nat} (h : ∀ t, t < L.length → p (L[t]?.getD 0) = true) : L.all p = true := by
 rw [List.all_eq_true]
 intro x hx
 obtain ⟨t, ht, rfl⟩ := List.getElem_of_mem hx
 have := h t ht
 rwa [List.getElem?_eq_getElem ht] at this
theorem all_not {L : List Int} {p : Int → Bool} {t : Nat} (ht : t < L.length) (h : p (L[t]?.getD 0) = false) : L.all p = false := by
 rw [List.getElem?_eq_getElem ht] at h
 rw [List.all_eq_false]
 exact ⟨L[t], List.getElem_mem ht, by simpa using h⟩
set_option maxRecDepth 100000 in
set_option maxHeartbeats 8000000 in
theorem PCheck_any (P : PipeN) (a : Option Addr) (n c : Nat) (hn : P.ss.length = n) (hP : PipeIn P) (v : Bool) (hv : pipeB P = v) (w : World) (hr : RdSs w.heap.size w a P.ss) :
  Calls Tryz.prog 41 #[pipev P a n c] w fun e w' => e = .returned (.int .i64 (if v = true then 0 else 30)) ∧ Below w.heap.size w w' := by
 obtain ⟨W, H, I, ss⟩ := P
 have hsz := sizeB_is W H I ss n hn
 obtain ⟨hn0, hst⟩ := hP
 have hnH := Lib.hid hn
 have hvH := Lib.hid hv
 have hstH := Lib.hid hst
 simp only at hnH hvH hstH hr hn0
 rw [hnH.out] at hn0
 have hB : Below w.heap.size w w := Below.refl _ _
 clear hn hv hst
 have tok1 : True := trivial
 have tok2 : True := trivial
 have tok3 : True := trivial
 have tok4 : True := trivial
 have tok5 : True := trivial
 have tok6 : True := trivial
 unfold pipev
 simp only
 obtain ⟨V1, hEV1, hbV1, kp⟩ := newB w 24 #[.int .i64 W, .int .i64 H, .int .i64 I, .slice a n c]
 replace hB := tmB hB hbV1
 clear hbV1
 obtain ⟨m0, m1, m2, m3⟩ := cz4 kp
 cases h1 : inR W 1 16 with
 | false =>
  have hvf : v = false := by rw [← hvH.out]; exact pipeB_size (by rw [hsz, h1]; simp)
  subst hvf
  have h1H := Lib.hid h1
  clear h1 hsz hvH hr hstH hnH
  go_enter Tryz.func41, Tryz.ntmps41
  go_wp2_with (go_at_call 70; have _t := tok1; refine (pwithin W 1 16 false h1H.out _).mono ?_; clear _t tok1; rintro e w' ⟨rfl, rfl⟩)
  go_ret
  exact ⟨rfl, hB⟩
 | true =>
 have h1H := Lib.hid h1
 have g0 := h1
 clear h1
 cases h2 : inR H 1 16 with
 | false =>
  have hvf : v = false := by rw [← hvH.out]; exact pipeB_size (by rw [hsz, h1H.out, h2]; simp)
  subst hvf
  have h2H := Lib.hid h2
  clear h2 hsz hvH hr hstH hnH
  go_enter Tryz.func41, Tryz.ntmps41
  go_wp2_with (first
   | (go_at_call 70; have _t := tok1; refine (pwithin W 1 16 true h1H.out _).mono ?_; clear _t tok1; rintro e w' ⟨rfl, rfl⟩)
   | (go_at_call 70; have _t := tok2; refine (pwithin H 1 16 false h2H.out _).mono ?_; clear _t tok2; rintro e w' ⟨rfl, rfl⟩))
  go_ret
  exact ⟨rfl, hB⟩
 | true =>
 have h2H := Lib.hid h2
 have g1 := h2
 clear h2
 cases h3 : inR I 1 3 with
 | false =>
  have hvf : v = false := by rw [← hvH.out]; exact pipeB_size (by rw [hsz, h1H.out, h2H.out, h3]; simp)
  subst hvf
  have h3H := Lib.hid h3
  clear h3 hsz hvH hr hstH hnH
  go_enter Tryz.func41, Tryz.ntmps41
  go_wp2_with (first
   | (go_at_call 70; have _t := tok1; refine (pwithin W 1 16 true h1H.out _).mono ?_; clear _t tok1; rintro e w' ⟨rfl, rfl⟩)
   | (go_at_call 70; have _t := tok2; refine (pwithin H 1 16 true h2H.out _).mono ?_; clear _t tok2; rintro e w' ⟨rfl, rfl⟩)
   | (go_at_call 70; have _t := tok3; refine (pwithin I 1 3 false h3H.out _).mono ?_; clear _t tok3; rintro e w' ⟨rfl, rfl⟩))
  go_ret
  exact ⟨rfl, hB⟩
 | true =>
 have h3H := Lib.hid h3
 have g2 := h3
 clear h3
 cases h4 : inR (n : Int) 1 12 with
 | false =>
  have hvf : v = false := by rw [← hvH.out]; exact pipeB_size (by rw [hsz, h1H.out, h2H.out, h3H.out, h4]; simp)
  subst hvf
  have h4H := Lib.hid h4
  clear h4 hsz hvH hr hstH hnH
  go_enter Tryz.func41, Tryz.ntmps41
  go_wp2_with (first
   | (go_at_call 70; have _t := tok1; refine (pwithin W 1 16 true h1H.out _).mono ?_; clear _t tok1; rintro e w' ⟨rfl, rfl⟩)
   | (go_at_call 70; have _t := tok2; refine (pwithin H 1 16 true h2H.out _).mono ?_; clear _t tok2; rintro e w' ⟨rfl, rfl⟩)
   | (go_at_call 70; have _t := tok3; refine (pwithin I 1 3 true h3H.out _).mono ?_; clear _t tok3; rintro e w' ⟨rfl, rfl⟩)
   | (go_at_call 70; have _t := tok4; refine (pwithin (n : Int) 1 12 false h4H.out _).mono ?_; clear _t tok4; rintro e w' ⟨rfl, rfl⟩))
  go_ret
  exact ⟨rfl, hB⟩
 | true =>
 have h4H := Lib.hid h4
 have g3 := h4
 clear h4
 have hszt : sizeB ⟨W, H, I, ss⟩ = true := by rw [hsz, h1H.out, h2H.out, h3H.out, h4H.out]; rfl
 have hsztH := Lib.hid hszt
 clear hszt hsz
 simp only [inR, Bool.and_eq_true, decide_eq_true_eq] at g0 g1 g2 g3
 have hd0 : 1 ≤ n ∧ n ≤ 12 := by omega
 have mm0 := m0
 have mm1 := m1
 have mm2 := m2
 have mm3 := m3
 obtain ⟨V2, hEV2, hbV2, k0⟩ := newB V1 3 #[.int .i64 0]
 clear m0 m1 m2 m3
 replace kp := kp.below hbV2 kp.lt
 replace hB := tmB hB hbV2
 clear hbV2
 obtain ⟨m0, m1, m2, m3⟩ := cz4 kp
 have z0 := k0.cell (i := 0) rfl
 have ki := Blk.new V2 32 #[.int .i64 0, .int .i64 0, .slice none 0 0]
 obtain ⟨bki, hxki⟩ : ∃ b, V2.heap.size = b := ⟨_, rfl⟩
 obtain ⟨V2a, hAki⟩ : ∃ X, V2.alloc (.cells #[.int .i64 0, .int .i64 0, .slice none 0 0] 32) = X := ⟨_, rfl⟩
 have hba : Below V2.heap.size V2 V2a := alloc_below hAki
 rw [hAki, hxki] at ki
 have hleki : V2.heap.size ≤ bki := by omega
 have yki0 := ki.cell (i := 0) rfl
 have fyki0 := ki.frozen 0
 have yki1 := ki.cell (i := 1) rfl
 have fyki1 := ki.frozen 1
 have yki2 := ki.cell (i := 2) rfl
 have fyki2 := ki.frozen 2
 have kin := put3_blk ki (.int .i64 1) (.int .i64 1) (.slice (some ⟨V1.heap.size, 0, none⟩) 1 1)
 have hb : Below V2.heap.size V2 (put3 V2a bki (.int .i64 1) (.int .i64 1) (.slice (some ⟨V1.heap.size, 0, none⟩) 1 1)) := hba.trans (put3_below hleki (.int .i64 1) (.int .i64 1) (.slice (some ⟨V1.heap.size, 0, none⟩) 1 1))
 obtain ⟨V3, hPki⟩ : ∃ X, put3 V2a bki (.int .i64 1) (.int .i64 1) (.slice (some ⟨V1.heap.size, 0, none⟩) 1 1) = X := ⟨_, rfl⟩
 rw [hPki] at kin hb
 replace ki := kin
 clear kin hba hleki
 clear m0 m1 m2 m3 z0
 replace kp := kp.below hb kp.lt
 replace k0 := k0.below hb k0.lt
 replace hB := tmB hB hb
 clear hb
 obtain ⟨m0, m1, m2, m3⟩ := cz4 kp
 have z0 := k0.cell (i := 0) rfl
 obtain ⟨q0, q1, q2⟩ := cz3 ki
 go_enter Tryz.func41, Tryz.ntmps41
 go_wp2_with (first
  | (go_at_call 70; have _t := tok1; refine (pwithin W 1 16 true h1H.out _).mono ?_; clear _t tok1; rintro e w' ⟨rfl, rfl⟩)
  | (go_at_call 70; have _t := tok2; refine (pwithin H 1 16 true h2H.out _).mono ?_; clear _t tok2; rintro e w' ⟨rfl, rfl⟩)
  | (go_at_call 70; have _t := tok3; refine (pwithin I 1 3 true h3H.out _).mono ?_; clear _t tok3; rintro e w' ⟨rfl, rfl⟩)
  | (go_at_call 70; have _t := tok4; refine (pwithin (n : Int) 1 12 true h4H.out _).mono ?_; clear _t tok4; rintro e w' ⟨rfl, rfl⟩))
 clear hEV1 hEV2 hAki hxki hPki yki0 yki1 yki2 fyki0 fyki1 fyki2
 clear mm0 mm1 mm2 mm3
 clear m0 m1 m2 m3 z0 q0 q1 q2
 go_loopw [38] (fun i wr => ∃ k : Nat, k ≤ n ∧ i = .int .i64 (k : Int) ∧ Hid (stepsB I ss k = true) ∧ Below w.heap.size w wr ∧ Blk wr w.heap.size 24 #[.int .i64 W, .int .i64 H, .int .i64 I, .slice a n c] ∧ Blk wr (V1.heap.size) 3 #[.int .i64 0] ∧ Blk wr bki 32 #[.int .i64 1, .int .i64 1, .slice (some ⟨V1.heap.size, 0, none⟩) 1 1]) (fun i _ => n - (intOf i).toNat)
 case atStart => exact ⟨0, Nat.zero_le _, rfl, Lib.hid rfl, hB, kp, k0, ki⟩
 case round =>
  clear hB kp k0 ki
  obtain ⟨k, hk, rfl, hall, hB, kp, k0, ki⟩ := hrel
  by_cases hlt : k < n
  case neg =>
   have hkn : k = n := by omega
   subst hkn
   have hvt : v = true := by rw [← hvH.out]; unfold pipeB; rw [hsztH.out]; simp only; rw [hnH.out, hall.out]; rfl
   subst hvt
   go_wp2_with fail
   go_ret
   exact ⟨rfl, hB⟩
  case pos =>
  have hkl : k < ss.length := by have := hnH.out; omega
  have hs := hstH.out k hkl
  have hno : (needB (stAt ss k) && refB I k (stAt ss k)) = false → v = false := fun h => by rw [← hvH.out]; exact pipeB_no (P := ⟨W, H, I, ss⟩) hkl h
  have hyes : (needB (stAt ss k) && refB I k (stAt ss k)) = true → stepsB I ss (k + 1) = true := fun h => by rw [stepsB, hall.out, h]; rfl
  obtain ⟨b, o, ka, kc, sa, sc, rfl, hbl, hst⟩ : ∃ b o ka kc sa sc, a = some ⟨b, o, none⟩ ∧ b < w.heap.size ∧ StAt w.heap.size w b (o + k * 16) (stAt ss k) ka kc sa sc := by
   rcases hr with h | ⟨b, o, h1, h2, h3⟩
   ·exfalso; rw [h] at hkl; simp at hkl
   ·obtain ⟨ka, kc, sa, sc, e⟩ := h3 k hkl
    exact ⟨b, o, ka, kc, sa, sc, h1, h2, e⟩
  obtain ⟨s, hse⟩ : ∃ s, stAt ss k = s := ⟨_, rfl⟩
  rw [hse] at hs hno hyes hst
  have hseH := Lib.hid hse
  have hnoH := Lib.hid hno
  have hyesH := Lib.hid hyes
  clear hse hno hyes
  obtain ⟨hcell, hta, hbi⟩ := hst
  have c0 : wr.cell? ⟨b, o + k * 16, none⟩ = some (.int .u8 s.op) := (hB.cell (p := ⟨b, o + k * 16, none⟩) hbl).trans (hcell 0 _ rfl)
  have c1 : wr.cell? ⟨b, o + k * 16 + 1, none⟩ = some (.int .i64 s.a) := (hB.cell (p := ⟨b, o + k * 16 + 1, none⟩) hbl).trans (hcell 1 _ rfl)
  have c2 : wr.cell? ⟨b, o + k * 16 + 2, none⟩ = some (.int .i64 s.b) := (hB.cell (p := ⟨b, o + k * 16 + 2, none⟩) hbl).trans (hcell 2 _ rfl)
  have c3 : wr.cell? ⟨b, o + k * 16 + 3, none⟩ = some (.int .i64 s.pt.mul) := (hB.cell (p := ⟨b, o + k * 16 + 3, none⟩) hbl).trans (hcell 3 _ rfl)
  have c4 : wr.cell? ⟨b, o + k * 16 + 4, none⟩ = some (.int .i64 s.pt.add) := (hB.cell (p := ⟨b, o + k * 16 + 4, none⟩) hbl).trans (hcell 4 _ rfl)
  have c5 : wr.cell? ⟨b, o + k * 16 + 5, none⟩ = some (.int .i64 s.pt.div) := (hB.cell (p := ⟨b, o + k * 16 + 5, none⟩) hbl).trans (hcell 5 _ rfl)
  have c6 : wr.cell? ⟨b, o + k * 16 + 6, none⟩ = some (.int .i64 s.pt.lo) := (hB.cell (p := ⟨b, o + k * 16 + 6, none⟩) hbl).trans (hcell 6 _ rfl)
  have c7 : wr.cell? ⟨b, o + k * 16 + 7, none⟩ = some (.int .i64 s.pt.hi) := (hB.cell (p := ⟨b, o + k * 16 + 7, none⟩) hbl).trans (hcell 7 _ rfl)
  have c8 : wr.cell? ⟨b, o + k * 16 + 8, none⟩ = some (.int .u8 s.how) := (hB.cell (p := ⟨b, o + k * 16 + 8, none⟩) hbl).trans (hcell 8 _ rfl)
  have c9 : wr.cell? ⟨b, o + k * 16 + 9, none⟩ = some (.int .i64 s.kw) := (hB.cell (p := ⟨b, o + k * 16 + 9, none⟩) hbl).trans (hcell 9 _ rfl)
  have c10 : wr.cell? ⟨b, o + k * 16 + 10, none⟩ = some (.int .i64 s.kh) := (hB.cell (p := ⟨b, o + k * 16 + 10, none⟩) hbl).trans (hcell 10 _ rfl)
  have c11 : wr.cell? ⟨b, o + k * 16 + 11, none⟩ = some (.slice ka s.taps.length kc) := (hB.cell (p := ⟨b, o + k * 16 + 11, none⟩) hbl).trans (hcell 11 _ rfl)
  have c12 : wr.cell? ⟨b, o + k * 16 + 12, none⟩ = some (.int .u8 s.bd) := (hB.cell (p := ⟨b, o + k * 16 + 12, none⟩) hbl).trans (hcell 12 _ rfl)
  have c13 : wr.cell? ⟨b, o + k * 16 + 13, none⟩ = some (.int .i64 s.sw) := (hB.cell (p := ⟨b, o + k * 16 + 13, none⟩) hbl).trans (hcell 13 _ rfl)
  have c14 : wr.cell? ⟨b, o + k * 16 + 14, none⟩ = some (.int .i64 s.sh) := (hB.cell (p := ⟨b, o + k * 16 + 14, none⟩) hbl).trans (hcell 14 _ rfl)
  have c15 : wr.cell? ⟨b, o + k * 16 + 15, none⟩ = some (.slice sa s.bits.length sc) := (hB.cell (p := ⟨b, o + k * 16 + 15, none⟩) hbl).trans (hcell 15 _ rfl)
  have lp := kp.lt
  have l0 := k0.lt
  have li := ki.lt
  have lw := hB.size
  clear hcell
  obtain ⟨m0, m1, m2, m3⟩ := cz4 kp
  obtain ⟨V11, hEV11, hbV11, ks⟩ := newB wr 76 #[.int .u8 s.op, .int .i64 s.a, .int .i64 s.b, .int .i64 s.pt.mul, .int .i64 s.pt.add, .int .i64 s.pt.div, .int .i64 s.pt.lo, .int .i64 s.pt.hi, .int .u8 s.how, .int .i64 s.kw, .int .i64 s.kh, .slice ka s.taps.length kc, .int .u8 s.bd, .int .i64 s.sw, .int .i64 s.sh, .slice sa s.bits.length sc]
  clear m0 m1 m2 m3
  replace kp := kp.below hbV11 kp.lt
  replace k0 := k0.below hbV11 k0.lt
  replace ki := ki.below hbV11 ki.lt
  replace hB := tmB hB hbV11
  clear hbV11
  obtain ⟨y0, y1, y2, y3, y4, y5, y6, y7, y8, y9, y10, y11, y12, y13, y14, y15⟩ := cz16 ks
  go_wp2_with fail
  clear hEV11
  refine (operands_any s hs ka sa kc sc V11).mono ?_
  rintro e V12 ⟨pa, pc, rfl, hro, hb⟩
  clear y0 y1 y2 y3 y4 y5 y6 y7 y8 y9 y10 y11 y12 y13 y14 y15
  replace kp := kp.below hb kp.lt
  replace k0 := k0.below hb k0.lt
  replace ki := ki.below hb ki.lt
  replace ks := ks.below hb ks.lt
  replace hB := tmB hB hb
  clear hb
  clear c0 c1 c2 c3 c4 c5 c6 c7 c8 c9 c10 c11 c12 c13 c14 c15
  obtain ⟨ol1, ol2⟩ := opsN_len s
  have hrefE := refB_ops I k s
  obtain ⟨L, hL⟩ : ∃ L, opsN s = L := ⟨_, rfl⟩
  rw [hL] at hro hrefE ol1 ol2 ⊢
  obtain ⟨m, hm⟩ : ∃ m, L.length = m := ⟨_, rfl⟩
  have hmH := Lib.hid hm
  rw [hm] at ol1 ol2 ⊢
  have hrefH := Lib.hid hrefE
  clear hL hm hrefE
  obtain ⟨m0, m1, m2, m3⟩ := cz4 kp
  go_wp2_with fail
  go_loop [46] (fun i => ∃ j : Nat, j ≤ m ∧ i = .int .i64 (j : Int) ∧ Hid (∀ t, t < j → inR (L[t]?.getD 0) 0 (I + k - 1) = true)) (fun i => m - (intOf i).toNat)
  case atStart => exact ⟨0, Nat.zero_le _, rfl, Lib.hid (fun t ht => absurd ht (Nat.not_lt_zero _))⟩
  case round =>
   obtain ⟨j, hj, rfl, hops⟩ := hrel
   by_cases hlt2 : j < m
   case pos =>
    have hjL : j < L.length := by have := hmH.out; omega
    rcases hro with h0 | ⟨bo, oo, rfl, hbo, hco⟩
    ·exfalso; rw [h0] at hjL; simp at hjL
    have hcj := hco j hjL
    obtain ⟨x, hx⟩ : ∃ x, L[j]?.getD 0 = x := ⟨_, rfl⟩
    rw [hx] at hcj
    have hxH := Lib.hid hx
    clear hx hco
    cases hin : inR x 0 (I + (k : Int) - 1) with
    | false =>
     have hvf : v = false := hnoH.out (by rw [hrefH.out, all_not hjL (by rw [hxH.out]; exact hin)]; simp)
     subst hvf
     have hinH := Lib.hid hin
     clear hin
     have tok1 : True := trivial
     go_wp2_with (go_at_call 70; have _t := tok1; refine (pwithin x 0 (I + (k : Int) - 1) false hinH.out _).mono ?_; clear _t tok1; rintro e w' ⟨rfl, rfl⟩)
     go_ret
     exact ⟨rfl, hB⟩
    | true =>
     have hinH := Lib.hid hin
     clear hin
     have tok1 : True := trivial
     go_wp2_with (go_at_call 70; have _t := tok1; refine (pwithin x 0 (I + (k : Int) - 1) true hinH.out _).mono ?_; clear _t tok1; rintro e w' ⟨rfl, rfl⟩)
     go_round
     case rel =>
      refine ⟨j + 1, by omega, by go_num, Lib.hid fun t ht => ?_⟩
      by_cases e : t = j
      ·subst e; rw [hxH.out]; exact hinH.out
      ·exact hops.out t (by omega)
     case measure => simp [intOf]; omega
   case neg =>
    have hjm : j = m := by omega
    subst hjm
    have href : refB I k s = true := by rw [hrefH.out]; exact all_take (j := 0) (by rw [hmH.out]; exact hops.out)
    have hrefH2 := Lib.hid href
    clear href hops hrefH hro
    have gg1 := ks.cell (i := 1) rfl
    have gg2 := ks.cell (i := 2) rfl
    have fs0 := fun i => ks.frozen i
    have fs3 := (ks.set 1 (.int .i64 0)).frozen 2
    have hone := app_one s
    obtain ⟨X1, hX1⟩ : ∃ X, (V12.setCell ⟨wr.heap.size, 1, none⟩ (.int .i64 0)).setCell ⟨wr.heap.size, 2, none⟩ (.int .i64 0) = X := ⟨_, rfl⟩
    replace ks : Blk X1 wr.heap.size 76 #[.int .u8 s.op, .int .i64 0, .int .i64 0, .int .i64 s.pt.mul, .int .i64 s.pt.add, .int .i64 s.pt.div, .int .i64 s.pt.lo, .int .i64 s.pt.hi, .int .u8 s.how, .int .i64 s.kw, .int .i64 s.kh, .slice ka s.taps.length kc, .int .u8 s.bd, .int .i64 s.sw, .int .i64 s.sh, .slice sa s.bits.length sc] := by rw [← hX1]; exact (ks.set 1 (.int .i64 0)).set 2 (.int .i64 0)
    replace kp : Blk X1 w.heap.size 24 #[.int .i64 W, .int .i64 H, .int .i64 I, .slice (some ⟨b, o, none⟩) n c] := by rw [← hX1]; exact (kp.other (a := ⟨wr.heap.size, 1, none⟩) (by show w.heap.size ≠ wr.heap.size; omega) _).other (a := ⟨wr.heap.size, 2, none⟩) (by show w.heap.size ≠ wr.heap.size; omega) _
    replace k0 : Blk X1 (V1.heap.size) 3 #[.int .i64 0] := by rw [← hX1]; exact (k0.other (a := ⟨wr.heap.size, 1, none⟩) (by show V1.heap.size ≠ wr.heap.size; omega) _).other (a := ⟨wr.heap.size, 2, none⟩) (by show V1.heap.size ≠ wr.heap.size; omega) _
    replace ki : Blk X1 bki 32 #[.int .i64 1, .int .i64 1, .slice (some ⟨V1.heap.size, 0, none⟩) 1 1] := by rw [← hX1]; exact (ki.other (a := ⟨wr.heap.size, 1, none⟩) (by show bki ≠ wr.heap.size; omega) _).other (a := ⟨wr.heap.size, 2, none⟩) (by show bki ≠ wr.heap.size; omega) _
    replace hB : Below w.heap.size w X1 := by rw [← hX1]; exact (hB.setCell lw _).setCell lw _
    have fs : ∀ i, V12.frozen? ⟨wr.heap.size, i, none⟩ = false := fs0
    have fs1 := fs 1
    have fs2 : (V12.setCell ⟨wr.heap.size, 1, none⟩ (.int .i64 0)).frozen? ⟨wr.heap.size, 2, none⟩ = false := fs3
    clear fs
    obtain ⟨y0, y1, y2, y3, y4, y5, y6, y7, y8, y9, y10, y11, y12, y13, y14, y15⟩ := cz16 ks
    obtain ⟨q0, q1, q2⟩ := cz3 ki
    have yy0 := y0
    have yy1 := y1
    have yy2 := y2
    have yy3 := y3
    have yy4 := y4
    have yy5 := y5
    have yy6 := y6
    have yy7 := y7
    have yy8 := y8
    have yy9 := y9
    have yy10 := y10
    have yy11 := y11
    have yy12 := y12
    have yy13 := y13
    have yy14 := y14
    have yy15 := y15
    have qq0 := q0
    have qq1 := q1
    have qq2 := q2
    obtain ⟨V13, hEV13, hbV13, ko⟩ := newB X1 32 #[.int .i64 1, .int .i64 1, .slice (some ⟨V1.heap.size, 0, none⟩) 1 1]
    clear y0 y1 y2 y3 y4 y5 y6 y7 y8 y9 y10 y11 y12 y13 y14 y15 q0 q1 q2
    replace ks := ks.below hbV13 ks.lt
    replace kp := kp.below hbV13 kp.lt
    replace k0 := k0.below hbV13 k0.lt
    replace ki := ki.below hbV13 ki.lt
    replace hB := tmB hB hbV13
    clear hbV13
    have hro : RdPs V13.heap.size V13 (some ⟨X1.heap.size, 0, none⟩) [onePic] := .inr ⟨_, 0, rfl, ko.lt, fun i hi => by
     obtain rfl : i = 0 := by simp at hi; omega
     exact ⟨some ⟨V1.heap.size, 0, none⟩, 1, ko.cell (i := 0) rfl, ko.cell (i := 1) rfl, ko.cell (i := 2) rfl, .inr ⟨_, 0, rfl, k0.lt, fun t ht => by
      have : t < 1 := ht
      obtain rfl : t = 0 := by omega
      exact k0.cell (i := 0) rfl⟩, fun h => by cases h⟩⟩
    obtain ⟨R, hR⟩ : ∃ R, appS { s with a := 0, b := 0 } [onePic] = R := ⟨_, rfl⟩
    rw [hR] at hone
    go_wp2_with fail
    clear hX1 hEV13
    clear yy0 yy1 yy2 yy3 yy4 yy5 yy6 yy7 yy8 yy9 yy10 yy11 yy12 yy13 yy14 yy15 qq0 qq1 qq2 fs1 fs2 gg1 gg2
    have hs0 : StepIn { s with a := 0, b := 0 } := ⟨hs.op, hs.how, hs.bd, hs.tl, hs.bl⟩
    have hc := apply_any { s with a := 0, b := 0 } hs0 ka sa kc sc [onePic] (some ⟨X1.heap.size, 0, none⟩) 1 1 rfl (fun i _ => by cases i with
     | zero => decide
     | succ i => show (picAt [onePic] (i + 1)).px.length ≤ _; simp [picAt]) (show (0 : Int) ≤ 0 by decide) (show (0 : Int) < 1 by decide) (fun _ => ⟨show (0 : Int) ≤ 0 by decide, show (0 : Int) < 1 by decide⟩) V13 hro (later_i hta hB) ((hbi.below (Nat.le_refl _) hB).mono hB.size)
    rw [hR] at hc
    refine hc.mono ?_
    clear hc hro hs0 hR
    obtain ⟨rw0, rh0, rpx, er⟩ := R
    rintro e X5 ⟨⟨vv, rfl, tt, rfl, hrow⟩, hb⟩
    obtain ⟨ra, rc, rfl⟩ := row_slice hrow
    simp only at hone hrow
    obtain ⟨rl, hrl⟩ : ∃ l, rpx.length = l := ⟨_, rfl⟩
    rw [hrl]
    clear hrow hrl
    replace ks := ks.below hb ks.lt
    replace kp := kp.below hb kp.lt
    replace k0 := k0.below hb k0.lt
    replace ki := ki.below hb ki.lt
    replace ko := ko.below hb ko.lt
    replace hB := tmB hB hb
    clear hb
    clear ko ks
    have kr := Blk.new X5 32 #[.int .i64 0, .int .i64 0, .slice none 0 0]
    obtain ⟨bkr, hxkr⟩ : ∃ b, X5.heap.size = b := ⟨_, rfl⟩
    obtain ⟨X5a, hAkr⟩ : ∃ X, X5.alloc (.cells #[.int .i64 0, .int .i64 0, .slice none 0 0] 32) = X := ⟨_, rfl⟩
    have hba : Below X5.heap.size X5 X5a := alloc_below hAkr
    rw [hAkr, hxkr] at kr
    have hlekr : X5.heap.size ≤ bkr := by omega
    have ykr0 := kr.cell (i := 0) rfl
    have fykr0 := kr.frozen 0
    have ykr1 := kr.cell (i := 1) rfl
    have fykr1 := kr.frozen 1
    have ykr2 := kr.cell (i := 2) rfl
    have fykr2 := kr.frozen 2
    have krn := put3_blk kr (.int .i64 rw0) (.int .i64 rh0) (.slice ra rl rc)
    have hb : Below X5.heap.size X5 (put3 X5a bkr (.int .i64 rw0) (.int .i64 rh0) (.slice ra rl rc)) := hba.trans (put3_below hlekr (.int .i64 rw0) (.int .i64 rh0) (.slice ra rl rc))
    obtain ⟨V14, hPkr⟩ : ∃ X, put3 X5a bkr (.int .i64 rw0) (.int .i64 rh0) (.slice ra rl rc) = X := ⟨_, rfl⟩
    rw [hPkr] at krn hb
    replace kr := krn
    clear krn hba hlekr
    replace kp := kp.below hb kp.lt
    replace k0 := k0.below hb k0.lt
    replace ki := ki.below hb ki.lt
    replace hB := tmB hB hb
    clear hb
    cases hnd : needB s with
    | false =>
     have hvf : v = false := hnoH.out (by rw [hnd]; rfl)
     subst hvf
     have he0 : ¬ er = 0 := fun h => by have := hone.1 h; rw [hnd] at this; cases this
     have he : (er != 0) = true := by simpa using he0
     clear hone hnd
     go_wp2_with fail
     go_ret
     exact ⟨rfl, hB⟩
    | true =>
     have he : er = 0 := hone.2 hnd
     subst he
     have hyk := hyesH.out (by rw [hnd, hrefH2.out]; rfl)
     have hykH := Lib.hid hyk
     clear hone hnd hyk
     go_wp2_with fail
     go_roundw
     case rel =>
       exact ⟨k + 1, by omega, by go_num, hykH, hB, kp, k0, ki⟩
     case measure => simp [intOf]; omega
end Go.Proofs.YtekiemlniegddaaGreat
namespace Go.Proofs.YtekiemlniegddaaGreat
open Go Go.ChangeShapes Go.WideShapes Go.ChangeAt Go.RowKit Go.Joins Go.Deep
set_option maxRecDepth 100000
section
variable {H : Type} {enc : TypeId × Value → H}
theorem addr_plainP {a : Addr} {k : Nat} {W : World} {v : Value} (h : W.cell? (a.add k) = some v) (hk : k = 0 := by rfl) : ∃ b o, a = ⟨b, o, none⟩ := by
 subst hk
 obtain ⟨b, o, s⟩ := a
 cases s with
 | none => exact ⟨b, o, rfl⟩
 | some s => simpa [Addr.add] using World.cell?_spot h
theorem add_plainP (b o k : Nat) : (⟨b, o, none⟩ : Addr).add k = ⟨b, o + k, none⟩ := by unfold Addr.add; split <;> simp_all
theorem open_brow {W : World} {fuel : Nat} {v : Value} {y : DataW H × List MemPlace} (h : DataW.trod enc Tryz.prog W 0 (fun _ => true) true fuel 72 [v] = some y) :
  ∃ (a : Option Addr) (n c : Nat) (bs : List Bool), v = .slice a n c ∧ Hid (bs.length = n) ∧ RdB W.heap.size W a bs ∧ Hid (a = none → n = 0 ∧ c = 0) ∧ n ≤ 9223372036854775807 := by
 rcases open_bools Tryz.underlying72 Tryz.underlying4 (by kernel_rfl) h with ⟨h1, h2⟩ | ⟨a, len, cap, B, h1, _, hl, hm, hx, hc⟩
 ·obtain rfl : v = .slice none 0 0 := by simpa using h1
  exact ⟨none, 0, 0, [], rfl, Lib.hid rfl, .inl rfl, Lib.hid fun _ => ⟨rfl, rfl⟩, by decide⟩
 ·obtain rfl : v = .slice (some a) len cap := by simpa using h1
  refine ⟨some a, len, cap, (List.range len).map B, rfl, Lib.hid (by simp), ?_, Lib.hid (by simp), by unfold maxLen at hm; omega⟩
  by_cases h0 : 0 < len
  ·have hc0 := hc 0 (by omega)
   obtain ⟨b, off, fld⟩ := a
   have hb : fld = none := by simpa [Addr.add] using World.cell?_spot hc0
   subst hb
   refine .inr ⟨b, off, rfl, World.block_lt_of_cell? W _ hc0, fun i hi => ?_⟩
   simp only [List.length_map, List.length_range] at hi
   have := hc i (by omega)
   rw [show (⟨b, off, none⟩ : Addr).add i = ⟨b, off + i, none⟩ from by unfold Addr.add; split <;> simp_all] at this
   rw [this]
   simp [hi]
  ·left; simp; omega
theorem addr_add_add (a : Addr) (i j : Nat) : (a.add i).add j = a.add (i + j) := by
 obtain ⟨b, o, f⟩ := a
 unfold Addr.add
 by_cases hi : i = 0
 ·subst hi; by_cases hj : j = 0 <;> simp [hj]
 ·by_cases hj : j = 0
  ·subst hj; simp [hi]
  ·simp [hi, hj, Nat.add_assoc]
instance : Inhabited StepN := ⟨noStep⟩
instance : Inhabited PicN := ⟨⟨0, 0, []⟩⟩
/-- A slice of ints in a field, its weight not asked. -/
theorem open_rowP {W : World} {fuel : Nat} {v : Value} {y : DataW H × List MemPlace} (h : DataW.trod enc Tryz.prog W 0 (fun _ => true) true fuel 30 [v] = some y) :
  ∃ (a : Option Addr) (c : Nat) (xs : List Int), v = .slice a xs.length c ∧ Rd W.heap.size W a xs ∧ xs.length ≤ 9223372036854775807 ∧ (a = none → c = 0) := by
 rcases open_ints Tryz.underlying30 Tryz.underlying3 (by kernel_rfl) h with ⟨h1, h2⟩ | ⟨a, len, cap, zs, h1, _, hl, hm, hz, hx, hc, hwf⟩
 ·obtain rfl : v = .slice none 0 0 := by simpa using h1
  exact ⟨none, 0, [], rfl, .inl rfl, by decide, fun _ => rfl⟩
 ·obtain rfl : v = .slice (some a) len cap := by simpa using h1
  simp only [if_true] at hz
  have hlen : (zs.take len).length = len := by simp; omega
  refine ⟨some a, cap, zs.take len, by rw [hlen], ?_, by rw [hlen]; unfold maxLen at hm; omega, fun h => by cases h⟩
  by_cases h0 : 0 < zs.length
  ·obtain ⟨b, off, rfl, hcb⟩ := ints_at hc h0
   refine .inr ⟨b, off, rfl, World.block_lt_of_cell? W _ (hcb 0 h0), fun i hi => ?_⟩
   rw [hlen] at hi
   rw [hcb i (by omega)]
   simp only [List.getElem?_take, List.getD]
   rw [if_pos (by omega)]
  ·left
   simp; omega
theorem fieldU8 {W : World} {fuel : Nat} {v : Value} {y : DataW H × List MemPlace} (h : DataW.trod enc Tryz.prog W 0 (fun _ => true) true fuel 5 [v] = some y) : ∃ n, v = .int .u8 n ∧ 0 ≤ n ∧ n ≤ 255 := by
 obtain ⟨n, e, _, w⟩ := DataW.trod_int Tryz.underlying5 h
 have hx : 0 ≤ n ∧ n ≤ 255 := by simpa [Lit.wf, IntKind.min, IntKind.max, IntKind.signed, IntKind.bits] using w
 exact ⟨n, by simpa using e, hx.1, hx.2⟩
theorem some_ofP {α : Type} {l : List α} {i : Nat} (h : i < l.length) : ∃ x, l[i]? = some x := ⟨_, List.getElem?_eq_getElem h⟩
theorem open_point5 {W : World} {fuel : Nat} {cs : List Value} {y : DataW H × List MemPlace} (hl : cs.length = 5) (h : DataW.trod enc Tryz.prog W 0 (fun _ => true) true fuel 69 cs = some y) :
  ∃ p : PointN, cs = [.int .i64 p.mul, .int .i64 p.add, .int .i64 p.div, .int .i64 p.lo, .int .i64 p.hi] ∧ ((Lit.int .i64 p.mul).wf = true ∧ (Lit.int .i64 p.add).wf = true ∧ (Lit.int .i64 p.div).wf = true ∧ (Lit.int .i64 p.lo).wf = true ∧ (Lit.int .i64 p.hi).wf = true) := by
 match cs, hl with
 | [c0, c1, c2, c3, c4], _ =>
  obtain ⟨xs, n, _, _, _, hlen, hg⟩ := DataW.trod_struct Tryz.underlying69 h
  have hlen' : xs.length = 5 := hlen
  obtain ⟨y0, e0⟩ := some_ofP (l := xs) (i := 0) (by omega)
  have g0 : DataW.trod enc Tryz.prog W 0 (fun _ => true) true n 3 ((([c0, c1, c2, c3, c4] : List Value).drop 0).take (Tryz.prog.cellsOf 3)) = xs[0]? := hg 0 _ rfl
  rw [e0, show Tryz.prog.cellsOf 3 = 1 from by kernel_rfl] at g0
  obtain ⟨y1, e1⟩ := some_ofP (l := xs) (i := 1) (by omega)
  have g1 : DataW.trod enc Tryz.prog W 0 (fun _ => true) true n 3 ((([c0, c1, c2, c3, c4] : List Value).drop 1).take (Tryz.prog.cellsOf 3)) = xs[1]? := hg 1 _ rfl
  rw [e1, show Tryz.prog.cellsOf 3 = 1 from by kernel_rfl] at g1
  obtain ⟨y2, e2⟩ := some_ofP (l := xs) (i := 2) (by omega)
  have g2 : DataW.trod enc Tryz.prog W 0 (fun _ => true) true n 3 ((([c0, c1, c2, c3, c4] : List Value).drop 2).take (Tryz.prog.cellsOf 3)) = xs[2]? := hg 2 _ rfl
  rw [e2, show Tryz.prog.cellsOf 3 = 1 from by kernel_rfl] at g2
  obtain ⟨y3, e3⟩ := some_ofP (l := xs) (i := 3) (by omega)
  have g3 : DataW.trod enc Tryz.prog W 0 (fun _ => true) true n 3 ((([c0, c1, c2, c3, c4] : List Value).drop 3).take (Tryz.prog.cellsOf 3)) = xs[3]? := hg 3 _ rfl
  rw [e3, show Tryz.prog.cellsOf 3 = 1 from by kernel_rfl] at g3
  obtain ⟨y4, e4⟩ := some_ofP (l := xs) (i := 4) (by omega)
  have g4 : DataW.trod enc Tryz.prog W 0 (fun _ => true) true n 3 ((([c0, c1, c2, c3, c4] : List Value).drop 4).take (Tryz.prog.cellsOf 3)) = xs[4]? := hg 4 _ rfl
  rw [e4, show Tryz.prog.cellsOf 3 = 1 from by kernel_rfl] at g4
  obtain ⟨x0, rfl, wx0⟩ := field_int g0
  obtain ⟨x1, rfl, wx1⟩ := field_int g1
  obtain ⟨x2, rfl, wx2⟩ := field_int g2
  obtain ⟨x3, rfl, wx3⟩ := field_int g3
  obtain ⟨x4, rfl, wx4⟩ := field_int g4
  exact ⟨⟨x0, x1, x2, x3, x4⟩, rfl, wx0, wx1, wx2, wx3, wx4⟩
theorem open_kernel3 {W : World} {fuel : Nat} {cs : List Value} {y : DataW H × List MemPlace} (hl : cs.length = 3) (h : DataW.trod enc Tryz.prog W 0 (fun _ => true) true fuel 71 cs = some y) :
  ∃ (w h : Int) (a : Option Addr) (c : Nat) (ts : List Int), cs = [.int .i64 w, .int .i64 h, .slice a ts.length c] ∧ Rd W.heap.size W a ts ∧ ts.length ≤ 9223372036854775807 := by
 match cs, hl with
 | [c0, c1, c2], _ =>
  obtain ⟨xs, n, _, _, _, hlen, hg⟩ := DataW.trod_struct Tryz.underlying71 h
  have hlen' : xs.length = 3 := hlen
  obtain ⟨y0, e0⟩ := some_ofP (l := xs) (i := 0) (by omega)
  have g0 : DataW.trod enc Tryz.prog W 0 (fun _ => true) true n 3 ((([c0, c1, c2] : List Value).drop 0).take (Tryz.prog.cellsOf 3)) = xs[0]? := hg 0 _ rfl
  rw [e0, show Tryz.prog.cellsOf 3 = 1 from by kernel_rfl] at g0
  obtain ⟨y1, e1⟩ := some_ofP (l := xs) (i := 1) (by omega)
  have g1 : DataW.trod enc Tryz.prog W 0 (fun _ => true) true n 3 ((([c0, c1, c2] : List Value).drop 1).take (Tryz.prog.cellsOf 3)) = xs[1]? := hg 1 _ rfl
  rw [e1, show Tryz.prog.cellsOf 3 = 1 from by kernel_rfl] at g1
  obtain ⟨y2, e2⟩ := some_ofP (l := xs) (i := 2) (by omega)
  have g2 : DataW.trod enc Tryz.prog W 0 (fun _ => true) true n 30 ((([c0, c1, c2] : List Value).drop 2).take (Tryz.prog.cellsOf 30)) = xs[2]? := hg 2 _ rfl
  rw [e2, show Tryz.prog.cellsOf 30 = 1 from by kernel_rfl] at g2
  obtain ⟨x0, rfl, wx0⟩ := field_int g0
  obtain ⟨x1, rfl, wx1⟩ := field_int g1
  obtain ⟨a, c, xs, rfl, hr, hb, _⟩ := open_rowP g2
  exact ⟨x0, x1, a, c, xs, rfl, hr, hb⟩
theorem open_shape3 {W : World} {fuel : Nat} {cs : List Value} {y : DataW H × List MemPlace} (hl : cs.length = 3) (h : DataW.trod enc Tryz.prog W 0 (fun _ => true) true fuel 74 cs = some y) :
  ∃ (w h : Int) (a : Option Addr) (c : Nat) (bs : List Bool), cs = [.int .i64 w, .int .i64 h, .slice a bs.length c] ∧ RdB W.heap.size W a bs ∧ bs.length ≤ 9223372036854775807 := by
 match cs, hl with
 | [c0, c1, c2], _ =>
  obtain ⟨xs, n, _, _, _, hlen, hg⟩ := DataW.trod_struct Tryz.underlying74 h
  have hlen' : xs.length = 3 := hlen
  obtain ⟨y0, e0⟩ := some_ofP (l := xs) (i := 0) (by omega)
  have g0 : DataW.trod enc Tryz.prog W 0 (fun _ => true) true n 3 ((([c0, c1, c2] : List Value).drop 0).take (Tryz.prog.cellsOf 3)) = xs[0]? := hg 0 _ rfl
  rw [e0, show Tryz.prog.cellsOf 3 = 1 from by kernel_rfl] at g0
  obtain ⟨y1, e1⟩ := some_ofP (l := xs) (i := 1) (by omega)
  have g1 : DataW.trod enc Tryz.prog W 0 (fun _ => true) true n 3 ((([c0, c1, c2] : List Value).drop 1).take (Tryz.prog.cellsOf 3)) = xs[1]? := hg 1 _ rfl
  rw [e1, show Tryz.prog.cellsOf 3 = 1 from by kernel_rfl] at g1
  obtain ⟨y2, e2⟩ := some_ofP (l := xs) (i := 2) (by omega)
  have g2 : DataW.trod enc Tryz.prog W 0 (fun _ => true) true n 72 ((([c0, c1, c2] : List Value).drop 2).take (Tryz.prog.cellsOf 72)) = xs[2]? := hg 2 _ rfl
  rw [e2, show Tryz.prog.cellsOf 72 = 1 from by kernel_rfl] at g2
  obtain ⟨x0, rfl, wx0⟩ := field_int g0
  obtain ⟨x1, rfl, wx1⟩ := field_int g1
  obtain ⟨a, n', c, bs, rfl, hn, hr, _, hb⟩ := open_brow g2
  exact ⟨x0, x1, a, c, bs, by rw [hn.out], hr, by rw [hn.out]; exact hb⟩
theorem open_step16 {W : World} {fuel : Nat} {cs : List Value} {y : DataW H × List MemPlace} (hl : cs.length = 16) (h : DataW.trod enc Tryz.prog W 0 (fun _ => true) true fuel 76 cs = some y) :
  ∃ (s : StepN) (ka sa : Option Addr) (kc sc : Nat), cs = stepCells s ka kc sa sc ∧ Rd W.heap.size W ka s.taps ∧ RdB W.heap.size W sa s.bits ∧ StepIn s := by
 match cs, hl with
 | [c0, c1, c2, c3, c4, c5, c6, c7, c8, c9, c10, c11, c12, c13, c14, c15], _ =>
  obtain ⟨xs, n, _, _, _, hlen, hg⟩ := DataW.trod_struct Tryz.underlying76 h
  have hlen' : xs.length = 8 := hlen
  obtain ⟨y0, e0⟩ := some_ofP (l := xs) (i := 0) (by omega)
  have g0 : DataW.trod enc Tryz.prog W 0 (fun _ => true) true n 5 ((([c0, c1, c2, c3, c4, c5, c6, c7, c8, c9, c10, c11, c12, c13, c14, c15] : List Value).drop 0).take (Tryz.prog.cellsOf 5)) = xs[0]? := hg 0 _ rfl
  rw [e0, show Tryz.prog.cellsOf 5 = 1 from by kernel_rfl] at g0
  obtain ⟨y1, e1⟩ := some_ofP (l := xs) (i := 1) (by omega)
  have g1 : DataW.trod enc Tryz.prog W 0 (fun _ => true) true n 3 ((([c0, c1, c2, c3, c4, c5, c6, c7, c8, c9, c10, c11, c12, c13, c14, c15] : List Value).drop 1).take (Tryz.prog.cellsOf 3)) = xs[1]? := hg 1 _ rfl
  rw [e1, show Tryz.prog.cellsOf 3 = 1 from by kernel_rfl] at g1
  obtain ⟨y2, e2⟩ := some_ofP (l := xs) (i := 2) (by omega)
  have g2 : DataW.trod enc Tryz.prog W 0 (fun _ => true) true n 3 ((([c0, c1, c2, c3, c4, c5, c6, c7, c8, c9, c10, c11, c12, c13, c14, c15] : List Value).drop 2).take (Tryz.prog.cellsOf 3)) = xs[2]? := hg 2 _ rfl
  rw [e2, show Tryz.prog.cellsOf 3 = 1 from by kernel_rfl] at g2
  obtain ⟨y3, e3⟩ := some_ofP (l := xs) (i := 3) (by omega)
  have g3 : DataW.trod enc Tryz.prog W 0 (fun _ => true) true n 69 ((([c0, c1, c2, c3, c4, c5, c6, c7, c8, c9, c10, c11, c12, c13, c14, c15] : List Value).drop 3).take (Tryz.prog.cellsOf 69)) = xs[3]? := hg 3 _ rfl
  rw [e3, show Tryz.prog.cellsOf 69 = 5 from by kernel_rfl] at g3
  obtain ⟨y4, e4⟩ := some_ofP (l := xs) (i := 4) (by omega)
  have g4 : DataW.trod enc Tryz.prog W 0 (fun _ => true) true n 5 ((([c0, c1, c2, c3, c4, c5, c6, c7, c8, c9, c10, c11, c12, c13, c14, c15] : List Value).drop 8).take (Tryz.prog.cellsOf 5)) = xs[4]? := hg 4 _ rfl
  rw [e4, show Tryz.prog.cellsOf 5 = 1 from by kernel_rfl] at g4
  obtain ⟨y5, e5⟩ := some_ofP (l := xs) (i := 5) (by omega)
  have g5 : DataW.trod enc Tryz.prog W 0 (fun _ => true) true n 71 ((([c0, c1, c2, c3, c4, c5, c6, c7, c8, c9, c10, c11, c12, c13, c14, c15] : List Value).drop 9).take (Tryz.prog.cellsOf 71)) = xs[5]? := hg 5 _ rfl
  rw [e5, show Tryz.prog.cellsOf 71 = 3 from by kernel_rfl] at g5
  obtain ⟨y6, e6⟩ := some_ofP (l := xs) (i := 6) (by omega)
  have g6 : DataW.trod enc Tryz.prog W 0 (fun _ => true) true n 5 ((([c0, c1, c2, c3, c4, c5, c6, c7, c8, c9, c10, c11, c12, c13, c14, c15] : List Value).drop 12).take (Tryz.prog.cellsOf 5)) = xs[6]? := hg 6 _ rfl
  rw [e6, show Tryz.prog.cellsOf 5 = 1 from by kernel_rfl] at g6
  obtain ⟨y7, e7⟩ := some_ofP (l := xs) (i := 7) (by omega)
  have g7 : DataW.trod enc Tryz.prog W 0 (fun _ => true) true n 74 ((([c0, c1, c2, c3, c4, c5, c6, c7, c8, c9, c10, c11, c12, c13, c14, c15] : List Value).drop 13).take (Tryz.prog.cellsOf 74)) = xs[7]? := hg 7 _ rfl
  rw [e7, show Tryz.prog.cellsOf 74 = 3 from by kernel_rfl] at g7
  obtain ⟨x0, rfl, b0, b0'⟩ := fieldU8 g0
  obtain ⟨x1, rfl, wx1⟩ := field_int g1
  obtain ⟨x2, rfl, wx2⟩ := field_int g2
  obtain ⟨p, hp, _⟩ := open_point5 rfl g3
  obtain ⟨x8, rfl, b8, b8'⟩ := fieldU8 g4
  obtain ⟨kw, kh, ka, kc, ts, hk, hkr, hkb⟩ := open_kernel3 rfl g5
  obtain ⟨x12, rfl, b12, b12'⟩ := fieldU8 g6
  obtain ⟨sw, sh, sa, sc, bs, hs, hsr, hsb⟩ := open_shape3 rfl g7
  simp only [List.drop_succ_cons, List.drop_zero, List.take_succ_cons, List.take_zero, List.cons.injEq, and_true] at hp hk hs
  obtain ⟨rfl, rfl, rfl, rfl, rfl⟩ := hp
  obtain ⟨rfl, rfl, rfl⟩ := hk
  obtain ⟨rfl, rfl, rfl⟩ := hs
  exact ⟨⟨x0, x1, x2, p, x8, kw, kh, ts, x12, sw, sh, bs⟩, ka, sa, kc, sc, rfl, hkr, hsr, ⟨⟨b0, b0'⟩, ⟨b8, b8'⟩, ⟨b12, b12'⟩, hkb, hsb⟩⟩
/-- A slice of steps in a field. -/
theorem open_steps {W : World} {fuel : Nat} {v : Value} {y : DataW H × List MemPlace} (h : DataW.trod enc Tryz.prog W 0 (fun _ => true) true fuel 22 [v] = some y) :
  ∃ (a : Option Addr) (c : Nat) (ss : List StepN), v = .slice a ss.length c ∧ RdSs W.heap.size W a ss ∧ ss.length ≤ 9223372036854775807 ∧ (∀ i, i < ss.length → StepIn (stAt ss i)) ∧ ss.length ≤ c := by
 rcases open_slice Tryz.underlying22 h with ⟨h1, _⟩ | ⟨a, len, cap, m, n, D, Pl, h1, _, hl, hm, hmm, _, hx⟩
 ·obtain rfl : v = .slice none 0 0 := by simpa using h1
  exact ⟨none, 0, [], rfl, .inl rfl, by decide, fun i hi => by simp at hi, Nat.le_refl _⟩
 ·obtain rfl : v = .slice (some a) len cap := by simpa using h1
  simp only [if_true] at hmm
  subst hmm
  have each : ∀ i, i < m → ∃ q : StepN × (Option Addr × Nat) × (Option Addr × Nat), (∀ j u, (stepCells q.1 q.2.1.1 q.2.1.2 q.2.2.1 q.2.2.2)[j]? = some u → W.cell? (a.add (i * 16 + j)) = some u) ∧ Rd W.heap.size W q.2.1.1 q.1.taps ∧ RdB W.heap.size W q.2.2.1 q.1.bits ∧ StepIn q.1 := fun i hi => by
   obtain ⟨cs', e1, e2⟩ := hx i hi
   rw [show Tryz.prog.cellsOf 76 = 16 from by kernel_rfl] at e1
   obtain ⟨_, hlen, hc⟩ := World.cells?_some e1
   obtain ⟨s, ka, sa, kc, sc, rfl, f1, f2, f3⟩ := open_step16 hlen e2
   refine ⟨(s, (ka, kc), (sa, sc)), fun j u hj => ?_, f1, f2, f3⟩
   have hj16 : j < 16 := by
    rcases Nat.lt_or_ge j 16 with h | h
    ·exact h
    ·rw [List.getElem?_eq_none (by simpa [stepCells] using h)] at hj; cases hj
   have := hc j hj16
   rw [addr_add_add] at this
   rw [this]; exact hj
  obtain ⟨q, hq⟩ := choose_lt each
  have hlen : ((List.range len).map fun i => (q i).1).length = len := by simp
  have hat : ∀ i, i < len → stAt ((List.range len).map fun i => (q i).1) i = (q i).1 := fun i hi => by
   unfold stAt
   rw [List.getElem?_map, List.getElem?_range hi]; rfl
  refine ⟨some a, m, (List.range len).map fun i => (q i).1, by rw [hlen], ?_, by rw [hlen]; unfold maxLen at hm; omega, fun i hi => ?_, by rw [hlen]; exact hl⟩
  ·by_cases h0 : 0 < len
   ·have e0 := (hq 0 (by omega)).1 0 _ rfl
    obtain ⟨b, o, rfl⟩ := addr_plainP e0
    rw [add_plainP] at e0
    refine .inr ⟨b, o, rfl, World.block_lt_of_cell? W _ e0, fun i hi => ?_⟩
    rw [hlen] at hi
    rw [hat i hi]
    obtain ⟨f1, f2, f3, _⟩ := hq i (by omega)
    refine ⟨(q i).2.1.1, (q i).2.1.2, (q i).2.2.1, (q i).2.2.2, ⟨fun j u hj => ?_, f2, f3⟩⟩
    have := f1 j u hj
    rw [add_plainP, ← Nat.add_assoc] at this
    exact this
   ·left
    have : len = 0 := by omega
    subst this; rfl
  ·rw [hlen] at hi
   rw [hat i hi]; exact (hq i (by omega)).2.2.2
/-- A pipe. -/
theorem open_pipe {W : World} {base : Nat} {v : Value} {d : DataW H} {p : List MemPlace} (hv : Value.okWide Tryz.prog W .any base 24 v) (h : DataW.Trod enc Tryz.prog W 0 (fun _ => true) true 24 v d p) :
  ∃ (P : PipeN) (a : Option Addr) (n c : Nat), v = pipev P a n c ∧ P.ss.length = n ∧ PipeIn P ∧ RdSs W.heap.size W a P.ss ∧ n ≤ c := by
 obtain ⟨cs, rfl, hsz⟩ := okWide_struct Tryz.underlying24 hv
 obtain ⟨l⟩ := cs
 have hsz4 : l.length = 4 := hsz.trans (show Tryz.prog.cellsOf 24 = 4 from by kernel_rfl)
 match l, hsz4 with
 | [c0, c1, c2, c3], _ =>
  obtain ⟨fuel, hf⟩ := h
  obtain ⟨xs, n, _, _, _, hlen, hg⟩ := DataW.trod_struct Tryz.underlying24 hf
  have hlen3 : xs.length = 4 := hlen
  obtain ⟨y0, e0⟩ := some_ofP (l := xs) (i := 0) (by omega)
  have g0 : DataW.trod enc Tryz.prog W 0 (fun _ => true) true n 3 ((([c0, c1, c2, c3] : List Value).drop 0).take (Tryz.prog.cellsOf 3)) = xs[0]? := hg 0 _ rfl
  rw [e0, show Tryz.prog.cellsOf 3 = 1 from by kernel_rfl] at g0
  obtain ⟨y1, e1⟩ := some_ofP (l := xs) (i := 1) (by omega)
  have g1 : DataW.trod enc Tryz.prog W 0 (fun _ => true) true n 3 ((([c0, c1, c2, c3] : List Value).drop 1).take (Tryz.prog.cellsOf 3)) = xs[1]? := hg 1 _ rfl
  rw [e1, show Tryz.prog.cellsOf 3 = 1 from by kernel_rfl] at g1
  obtain ⟨y2, e2⟩ := some_ofP (l := xs) (i := 2) (by omega)
  have g2 : DataW.trod enc Tryz.prog W 0 (fun _ => true) true n 3 ((([c0, c1, c2, c3] : List Value).drop 2).take (Tryz.prog.cellsOf 3)) = xs[2]? := hg 2 _ rfl
  rw [e2, show Tryz.prog.cellsOf 3 = 1 from by kernel_rfl] at g2
  obtain ⟨y3, e3⟩ := some_ofP (l := xs) (i := 3) (by omega)
  have g3 : DataW.trod enc Tryz.prog W 0 (fun _ => true) true n 22 ((([c0, c1, c2, c3] : List Value).drop 3).take (Tryz.prog.cellsOf 22)) = xs[3]? := hg 3 _ rfl
  rw [e3, show Tryz.prog.cellsOf 22 = 1 from by kernel_rfl] at g3
  obtain ⟨x0, rfl, _⟩ := field_int g0
  obtain ⟨x1, rfl, _⟩ := field_int g1
  obtain ⟨x2, rfl, _⟩ := field_int g2
  obtain ⟨a, c, ss, rfl, hr, hb, hs, hc⟩ := open_steps g3
  exact ⟨⟨x0, x1, x2, ss⟩, a, ss.length, c, rfl, rfl, ⟨hb, hs⟩, hr, hc⟩
/-- A list of images as a parameter. -/
theorem open_ims {W : World} {base : Nat} {v : Value} {d : DataW H} {p : List MemPlace} (hv : Value.okWide Tryz.prog W .any base 58 v) (h : DataW.Trod enc Tryz.prog W 0 (fun _ => true) true 58 v d p) (hwt : ∀ n ∈ d.weights Tryz.prog 58, n ≤ reachBytes) :
  ∃ (a : Option Addr) (n c : Nat) (ms : List PicN), v = .slice a n c ∧ ms.length = n ∧ RdPs W.heap.size W a ms ∧ n * 40 ≤ 140737488355328 ∧ ∀ i, (picAt ms i).px.length * 8 ≤ 140737488355328 := by
 obtain ⟨a, l, c, rfl⟩ := okWide_slice Tryz.underlying58 hv
 obtain ⟨fuel, hf⟩ := trod_of h
 rcases open_slice Tryz.underlying58 hf with ⟨h1, _⟩ | ⟨ad, len, cap, m, n, D, Pl, h1, _, hl, hm, hmm, hx0, hx⟩
 ·simp only [List.cons.injEq, and_true] at h1
  cases h1
  exact ⟨none, 0, 0, [], rfl, rfl, .inl rfl, by decide, fun i => by simp [picAt]⟩
 ·obtain ⟨rfl, rfl, rfl⟩ : some ad = a ∧ len = l ∧ cap = c := by
   simp only [List.cons.injEq, and_true, Value.slice.injEq] at h1
   exact ⟨h1.1.symm, h1.2.1.symm, h1.2.2.symm⟩
  simp only [if_true] at hmm
  subst hmm
  simp only [Prod.mk.injEq] at hx0
  obtain ⟨rfl, _⟩ := hx0
  have hlen40 : len * 40 ≤ 140737488355328 := by
   have := hwt ((((List.range len).map D).length + ((List.range (m - len)).map fun j => D (len + j)).length) * 40) (by
    simp only [DataW.weights, Tryz.underlying58]
    rw [show Tryz.prog.bytesOf 32 = 40 from by kernel_rfl]
    exact List.mem_cons_self)
   rw [List.length_map, List.length_map, List.length_range, List.length_range] at this
   unfold reachBytes at this
   omega
  have each : ∀ i, i < m → ∃ q : PicN × (Option Addr × Nat), (∀ j u, ([.int .i64 q.1.w, .int .i64 q.1.h, .slice q.2.1 q.1.px.length q.2.2] : List Value)[j]? = some u → W.cell? (ad.add (i * 3 + j)) = some u) ∧ Rd W.heap.size W q.2.1 q.1.px ∧ (q.2.1 = none → q.2.2 = 0) ∧ (i < len → q.1.px.length * 8 ≤ 140737488355328) := fun i hi => by
   obtain ⟨cs', e1, e2⟩ := hx i hi
   rw [show Tryz.prog.cellsOf 32 = 3 from by kernel_rfl] at e1
   obtain ⟨_, hlen, hc⟩ := World.cells?_some e1
   have key : ∀ j u, cs'[j]? = some u → W.cell? (ad.add (i * 3 + j)) = some u := fun j u hj => by
    have hj3 : j < 3 := by
     rcases Nat.lt_or_ge j 3 with h | h
     ·exact h
     ·rw [List.getElem?_eq_none (by rw [hlen]; exact h)] at hj; cases hj
    have := hc j hj3
    rw [addr_add_add] at this
    rw [this]; exact hj
   match cs', hlen with
   | [c0, c1, c2], _ =>
    obtain ⟨xs, n', _, hD, _, hlen3', hg⟩ := DataW.trod_struct Tryz.underlying32 e2
    have hlen3 : xs.length = 3 := hlen3'
    obtain ⟨y0, e0'⟩ := some_ofP (l := xs) (i := 0) (by omega)
    have g0 : DataW.trod enc Tryz.prog W 0 (fun _ => true) true n' 3 ((([c0, c1, c2] : List Value).drop 0).take (Tryz.prog.cellsOf 3)) = xs[0]? := hg 0 _ rfl
    rw [e0', show Tryz.prog.cellsOf 3 = 1 from by kernel_rfl] at g0
    obtain ⟨y1, e1'⟩ := some_ofP (l := xs) (i := 1) (by omega)
    have g1 : DataW.trod enc Tryz.prog W 0 (fun _ => true) true n' 3 ((([c0, c1, c2] : List Value).drop 1).take (Tryz.prog.cellsOf 3)) = xs[1]? := hg 1 _ rfl
    rw [e1', show Tryz.prog.cellsOf 3 = 1 from by kernel_rfl] at g1
    obtain ⟨y2, e2'⟩ := some_ofP (l := xs) (i := 2) (by omega)
    have g2 : DataW.trod enc Tryz.prog W 0 (fun _ => true) true n' 30 ((([c0, c1, c2] : List Value).drop 2).take (Tryz.prog.cellsOf 30)) = xs[2]? := hg 2 _ rfl
    rw [e2', show Tryz.prog.cellsOf 30 = 1 from by kernel_rfl] at g2
    obtain ⟨x0, rfl, _⟩ := field_int g0
    obtain ⟨x1, rfl, _⟩ := field_int g1
    by_cases hil : i < len
    ·obtain ⟨pa, pn, pc, px, rfl, hpn, hpr, hpz, hpm, _⟩ := open_row g2 (fun k hk => hwt k (by
      simp only [DataW.weights, Tryz.underlying58]
      refine List.mem_cons_of_mem _ (List.mem_append_left _ (mem_weightsAll (d := D i) (List.mem_map.2 ⟨i, List.mem_range.2 hil, rfl⟩) ?_))
      have hDi : D i = .agg (xs.map Prod.fst) := by first | exact congrArg Prod.fst hD | (simpa using congrArg Prod.fst hD)
      rw [hDi]
      simp only [DataW.weights, Tryz.underlying32]
      exact DataW.weights_mem_each (j := 2) rfl (by rw [List.getElem?_map, e2']; rfl) k hk))
     refine ⟨(⟨x0, x1, px⟩, (pa, pc)), fun j u hj => ?_, hpr, fun e => (hpz.out e).2, fun _ => by rw [hpn.out]; exact hpm⟩
     rw [show px.length = pn from hpn.out] at hj
     exact key j u hj
    ·obtain ⟨pa, pc, px, rfl, hpr, _, hpz⟩ := open_rowP g2
     exact ⟨(⟨x0, x1, px⟩, (pa, pc)), key, hpr, hpz, fun h => absurd h hil⟩
  obtain ⟨q, hq⟩ := choose_lt each
  have hlenq : ((List.range len).map fun i => (q i).1).length = len := by simp
  have hat : ∀ i, i < len → picAt ((List.range len).map fun i => (q i).1) i = (q i).1 := fun i hi => by
   unfold picAt
   rw [List.getElem?_map, List.getElem?_range hi]; rfl
  refine ⟨some ad, len, m, (List.range len).map fun i => (q i).1, rfl, hlenq, ?_, hlen40, fun i => ?_⟩
  ·by_cases h0 : 0 < len
   ·have e0 := (hq 0 (by omega)).1 0 _ rfl
    obtain ⟨b, o, rfl⟩ := addr_plainP e0
    rw [add_plainP] at e0
    refine .inr ⟨b, o, rfl, World.block_lt_of_cell? W _ e0, fun i hi => ?_⟩
    rw [hlenq] at hi
    rw [hat i hi]
    obtain ⟨f1, f2, f3, _⟩ := hq i (by omega)
    have c0 := f1 0 _ rfl
    have c1 := f1 1 _ rfl
    have c2 := f1 2 _ rfl
    rw [add_plainP, ← Nat.add_assoc] at c0 c1 c2
    exact ⟨(q i).2.1, (q i).2.2, c0, c1, c2, f2, f3⟩
   ·left
    have : len = 0 := by omega
    subst this; rfl
  ·by_cases hi : i < len
   ·rw [hat i hi]; exact (hq i (by omega)).2.2.2 hi
   ·unfold picAt; rw [List.getElem?_eq_none (by rw [hlenq]; omega)]; simp
end
end Go.Proofs.YtekiemlniegddaaGreat
namespace Go.Proofs.YtekiemlniegddaaGreat
open Go Go.RowKit Go.Shelf
/-- The cells of n records of S cells each. -/
def flat (S : Nat) (f : Nat → Nat → Value) (n : Nat) : List Value := (List.range (n * S)).map fun j => f (j / S) (j % S)
theorem flat_len (S : Nat) (f : Nat → Nat → Value) (n : Nat) : (flat S f n).length = n * S := by simp [flat]
theorem div_mod_at {S i j : Nat} (hj : j < S) : (i * S + j) / S = i ∧ (i * S + j) % S = j := by
 have hS : 0 < S := by omega
 constructor
 ·rw [Nat.mul_comm, Nat.mul_add_div hS, Nat.div_eq_of_lt hj, Nat.add_zero]
 ·rw [Nat.mul_comm, Nat.mul_add_mod, Nat.mod_eq_of_lt hj]
theorem at_lt {S n i j : Nat} (hi : i < n) (hj : j < S) : i * S + j < n * S := by
 have : (i + 1) * S ≤ n * S := Nat.mul_le_mul_right S hi
 rw [Nat.succ_mul] at this; omega
theorem flat_at {S n i j : Nat} (f : Nat → Nat → Value) (hi : i < n) (hj : j < S) : (flat S f n)[i * S + j]? = some (f i j) := by
 unfold flat
 rw [List.getElem?_map, List.getElem?_range (at_lt hi hj)]
 simp only [Option.map_some]
 rw [(div_mod_at hj).1, (div_mod_at hj).2]
theorem flat_congr {S n : Nat} {f g : Nat → Nat → Value} (h : ∀ i, i < n → ∀ j, j < S → f i j = g i j) : flat S f n = flat S g n := by
 unfold flat
 refine List.map_congr_left fun t ht => ?_
 have ht := List.mem_range.1 ht
 by_cases hS : S = 0
 ·subst hS; omega
 ·exact h _ (Nat.div_lt_of_lt_mul (by rw [Nat.mul_comm]; exact ht)) _ (Nat.mod_lt _ (by omega))
theorem flat_set {S n i j : Nat} (f : Nat → Nat → Value) (hj : j < S) (v : Value) : (flat S f n).set (i * S + j) v = flat S (fun a b => if a = i ∧ b = j then v else f a b) n := by
 refine List.ext_getElem? fun t => ?_
 rw [List.getElem?_set]
 by_cases ht : t < n * S
 ·have e : (flat S f n)[t]? = some (f (t / S) (t % S)) := by unfold flat; rw [List.getElem?_map, List.getElem?_range ht]; rfl
  have e2 : (flat S (fun a b => if a = i ∧ b = j then v else f a b) n)[t]? = some (if t / S = i ∧ t % S = j then v else f (t / S) (t % S)) := by unfold flat; rw [List.getElem?_map, List.getElem?_range ht]; rfl
  rw [e, e2]
  by_cases h : i * S + j = t
  ·subst h
   rw [if_pos rfl, if_pos (by rw [flat_len]; exact ht), if_pos (div_mod_at hj)]
  ·rw [if_neg h, if_neg]
   rintro ⟨rfl, rfl⟩
   exact h (by rw [Nat.mul_comm]; exact Nat.div_add_mod t S)
 ·rw [List.getElem?_eq_none (show (flat S (fun a b => if a = i ∧ b = j then v else f a b) n).length ≤ t by rw [flat_len]; omega)]
  by_cases h : i * S + j = t
  ·rw [if_pos h, if_neg (by rw [flat_len]; omega)]
  ·rw [if_neg h, List.getElem?_eq_none (by rw [flat_len]; omega)]
theorem flat_snoc {S n : Nat} (f : Nat → Nat → Value) (l : List Value) (hl : l.length = S) (h : ∀ j, j < S → l[j]? = some (f n j)) : flat S f n ++ l = flat S f (n + 1) := by
 refine List.ext_getElem? fun t => ?_
 by_cases ht : t < n * S
 ·rw [List.getElem?_append_left (by rw [flat_len]; exact ht)]
  have e1 : t < (n + 1) * S := by rw [Nat.succ_mul]; omega
  unfold flat
  rw [List.getElem?_map, List.getElem?_map, List.getElem?_range ht, List.getElem?_range e1]
 ·rw [List.getElem?_append_right (by rw [flat_len]; omega), flat_len]
  by_cases h2 : t - n * S < S
  ·rw [h _ h2]
   have := flat_at f (show n < n + 1 by omega) h2
   rw [show n * S + (t - n * S) = t by omega] at this
   exact this.symm
  ·rw [List.getElem?_eq_none (by omega), List.getElem?_eq_none (by rw [flat_len, Nat.succ_mul]; omega)]
theorem flat_zero (S : Nat) (f : Nat → Nat → Value) : flat S f 0 = [] := by unfold flat; rw [Nat.zero_mul]; rfl
/-! ### What has turned lies in a set of blocks, or is new -/
/-- Outside of the set the world lies as it lay. -/
structure Trn (S : Nat → Prop) (W W' : World) : Prop where
 os : W'.os = W.os
 tape : W'.tape = W.tape
 output : W'.output = W.output
 size : W.heap.size ≤ W'.heap.size
 block : ∀ k, k < W.heap.size → ¬ S k → W'.heap[k]? = W.heap[k]?
theorem Trn.refl (S : Nat → Prop) (W : World) : Trn S W W := ⟨rfl, rfl, rfl, Nat.le_refl _, fun _ _ _ => rfl⟩
theorem Trn.trans {S : Nat → Prop} {A B C : World} (h : Trn S A B) (k : Trn S B C) : Trn S A C :=
 ⟨k.os.trans h.os, k.tape.trans h.tape, k.output.trans h.output, Nat.le_trans h.size k.size, fun i hi hs => (k.block i (Nat.lt_of_lt_of_le hi h.size) hs).trans (h.block i hi hs)⟩
theorem Trn.mono {S T : Nat → Prop} {A B : World} (h : Trn S A B) (hST : ∀ b, b < A.heap.size → S b → T b) : Trn T A B := ⟨h.os, h.tape, h.output, h.size, fun k hk hT => h.block k hk (fun hs => hT (hST k hk hs))⟩
/-- A set that grows by new blocks alone. -/
theorem Trn.step {S T : Nat → Prop} {A B C : World} (h : Trn S A B) (k : Trn T B C) (hT : ∀ b, T b → S b ∨ A.heap.size ≤ b) : Trn S A C :=
 ⟨k.os.trans h.os, k.tape.trans h.tape, k.output.trans h.output, Nat.le_trans h.size k.size, fun i hi hs => (k.block i (Nat.lt_of_lt_of_le hi h.size) (fun ht => by rcases hT i ht with h1 | h1; exact hs h1; omega)).trans (h.block i hi hs)⟩
theorem Below.trn {n : Nat} {W W' : World} (h : Below n W W') (S : Nat → Prop) (hS : ∀ b, n ≤ b → b < W.heap.size → S b) : Trn S W W' := ⟨h.os, h.tape, h.output, h.size, fun k hk hs => h.block k (by rcases Nat.lt_or_ge k n with h1 | h1; exact h1; exact absurd (hS k h1 hk) hs)⟩
theorem Below.trn0 {W W' : World} (h : Below W.heap.size W W') (S : Nat → Prop) : Trn S W W' := Below.trn h S (fun b h1 h2 => by omega)
theorem Trn.below {S : Nat → Prop} {n : Nat} {W W' : World} (h : Trn S W W') (hn : n ≤ W.heap.size) (hS : ∀ b, b < n → ¬ S b) : Below n W W' := ⟨h.os, h.tape, h.output, h.size, fun k hk => h.block k (by omega) (hS k hk)⟩
theorem grown_trn {W W' : World} {row : Option Nat} (h : W.grownBy W' row) (S : Nat → Prop) (hS : ∀ b, row = some b → S b) : Trn S W W' := ⟨h.os, h.tape, h.output, h.size, fun k hk hs => h.block k hk (fun e => hs (hS k e.symm))⟩
theorem Trn.blk {S : Nat → Prop} {W W' : World} {b : Nat} {t : TypeId} {cs : Array Value} (h : Trn S W W') (hk : Blk W b t cs) (hS : ¬ S b) : Blk W' b t cs := (h.block b hk.lt hS).trans hk
theorem Trn.row {S : Nat → Prop} {W W' : World} {base : Nat} {e : TypeId} {size : Nat} {v : Value} {k : Nat} {xs : List Value} (h : Trn S W W') (hr : W.ownsRow base e size v k xs) (hS : ∀ b, v.ownBlock = some b → ¬ S b) : W'.ownsRow base e size v k xs := by
 refine ⟨hr.1, ?_⟩
 rcases hr.2 with hn | ⟨g, cap, cur, rfl, h1, h2, rest⟩
 ·exact .inl hn
 ·exact .inr ⟨g, cap, cur, rfl, h1, (h.block g (Array.getElem?_eq_some_iff.1 h2).1 (hS g rfl)).trans h2, rest⟩
theorem setCell_trn (W : World) (a : Addr) (u : Value) (S : Nat → Prop) (hS : S a.block) : Trn S W (W.setCell a u) := ⟨rfl, rfl, rfl, by simp [World.setCell], fun k hk hs => Below.heap_setCell _ _ _ _ (fun e => hs (e ▸ hS))⟩
end Go.Proofs.YtekiemlniegddaaGreat
namespace Go.Proofs.YtekiemlniegddaaGreat
open Go Go.Maps
theorem plainElem_bool_inv {H : Type} {P : Program} {e : TypeId} (he : P.underlying e = some .bool) {v : Value} {z : DataW H × List MemPlace} (h : plainElem P e v = some z) : ∃ x, v = .bool x ∧ z = (.lit (.bool x), []) := by
 unfold plainElem at h
 rw [he] at h
 cases v <;> simp at h
 exact ⟨_, rfl, h.symm⟩
theorem lookup_bool {H : Type} {P : Program} {w : World} {t k e : TypeId} {b n : Nat} {D : DataW H} (h : w.ownsMap P k (plainElem P e) b n D) (K : Keyed P k) (ht : P.underlying t = some (.map k e)) (he : P.underlying e = some .bool) (hz : (zeroValue e).run P w = .ok (.bool false) w)
  {key : Value} {kl : Lit} (hkey : keyOf P k key = some kl) : ∃ c, (Instr.lookup t (.map (some b)) key false).run P w = .ok (.bool c) w ∧ D.atKey kl (.lit (.bool false)) = .lit (.bool c) := by
 obtain ⟨v, ps, hrun, hv⟩ := h.lookup K ht hz (plainElem_bool he false) hkey
 obtain ⟨c, rfl, hc⟩ := plainElem_bool_inv he hv
 simp only [Prod.mk.injEq] at hc
 exact ⟨c, hrun, hc.1⟩
end Go.Proofs.YtekiemlniegddaaGreat
namespace Go.Proofs.YtekiemlniegddaaGreat
open Go Go.Maps
/-- How many of the first m keys are there. -/
def cntF (F : Int → Option Lit) : Nat → Nat
 | 0 => 0
 | m + 1 => cntF F m + if (F (m : Int)).isSome = true then 1 else 0
def putF (F : Int → Option Lit) (k : Int) (v : Lit) : Int → Option Lit := fun j => if j = k then some v else F j
def delF (F : Int → Option Lit) (k : Int) : Int → Option Lit := fun j => if j = k then none else F j
theorem cntF_congr {F G : Int → Option Lit} : ∀ {m : Nat}, (∀ j : Nat, j < m → (F (j : Int)).isSome = (G (j : Int)).isSome) → cntF F m = cntF G m
 | 0, _ => rfl
 | m + 1, h => by rw [cntF, cntF, cntF_congr (fun j hj => h j (by omega)), h m (by omega)]
theorem cntF_put (F : Int → Option Lit) (v : Lit) {k : Nat} : ∀ {m : Nat}, k < m → cntF (putF F (k : Int) v) m = if (F (k : Int)).isSome = true then cntF F m else cntF F m + 1
 | m + 1, h => by
  by_cases e : k = m
  ·subst e
   have h1 : cntF (putF F (k : Int) v) k = cntF F k := cntF_congr fun j hj => by unfold putF; rw [if_neg (by omega)]
   rw [cntF, cntF, h1]
   have h2 : (putF F (k : Int) v (k : Int)).isSome = true := by unfold putF; rw [if_pos rfl]; rfl
   rw [if_pos h2]
   split <;> omega
  ·have h1 := cntF_put F v (k := k) (m := m) (by omega)
   have h2 : putF F (k : Int) v (m : Int) = F (m : Int) := by unfold putF; rw [if_neg (by omega)]
   rw [cntF, cntF, h1, h2]
   split <;> split <;> omega
theorem cntF_del (F : Int → Option Lit) {k : Nat} : ∀ {m : Nat}, k < m → cntF (delF F (k : Int)) m + (if (F (k : Int)).isSome = true then 1 else 0) = cntF F m
 | m + 1, h => by
  by_cases e : k = m
  ·subst e
   have h1 : cntF (delF F (k : Int)) k = cntF F k := cntF_congr fun j hj => by unfold delF; rw [if_neg (by omega)]
   rw [cntF, cntF, h1]
   have h2 : (delF F (k : Int) (k : Int)).isSome = false := by unfold delF; rw [if_pos rfl]; rfl
   rw [h2]
   simp
  ·have h1 := cntF_del F (k := k) (m := m) (by omega)
   have h2 : delF F (k : Int) (m : Int) = F (m : Int) := by unfold delF; rw [if_neg (by omega)]
   rw [cntF, cntF, h2]
   omega
abbrev ik (k : Int) : Lit := .int .i64 k
/-- A map's datum, as a function of its keys; all keys are from 0 to m - 1. -/
structure FnM (D : DataW Unit) (F : Int → Option Lit) (m : Nat) : Prop where
 tidy : Tidy D
 here : ∀ k : Int, (Lit.int .i64 k).wf = true → ∀ v, F k = some v → ∀ z, D.atKey (ik k) z = .lit v
 gone : ∀ k : Int, (Lit.int .i64 k).wf = true → F k = none → has D (ik k) = false
 size : size D = cntF F m
theorem ik_key {k : Int} (hk : (Lit.int .i64 k).wf = true) : WideAt.IsKeyLit (ik k) := by
 unfold WideAt.IsKeyLit
 first | exact hk | simp [hk] | trivial
theorem ik_ne {j k : Int} (h : j ≠ k) : ik j ≠ ik k := fun e => by injection e with _ e2; exact h e2
theorem FnM.has {D : DataW Unit} {F : Int → Option Lit} {m : Nat} (h : FnM D F m) {k : Int} (hk : (Lit.int .i64 k).wf = true) : Maps.has D (ik k) = (F k).isSome := by
 cases e : F k with
 | none => exact h.gone k hk e
 | some v => exact has_true_of_atKey (fun z => h.here k hk v e z)
theorem FnM.none_at {D : DataW Unit} {F : Int → Option Lit} {m : Nat} (h : FnM D F m) {k : Int} (hk : (Lit.int .i64 k).wf = true) (e : F k = none) (z : DataW Unit) : D.atKey (ik k) z = z := atKey_of_not_has (h.gone k hk e) z
theorem FnM.empty (m : Nat) : FnM (.map []) (fun _ => none) m where
 tidy := tidy_empty
 here := fun k _ v hv => by cases hv
 gone := fun k _ _ => rfl
 size := by
  have : ∀ m, cntF (fun _ => none) m = 0 := fun m => by
   induction m with
   | zero => rfl
   | succ m ih => rw [cntF, ih]; rfl
  rw [this]; rfl
theorem FnM.put {D : DataW Unit} {F : Int → Option Lit} {m : Nat} (h : FnM D F m) {k : Nat} (hk : (Lit.int .i64 (k : Int)).wf = true) (hm : k < m) (v : Lit) : FnM (D.put (ik (k : Int)) (.lit v)) (putF F (k : Int) v) m where
 tidy := h.tidy.put (ik_key hk) _
 here := fun j hj u hu z => by
  unfold putF at hu
  by_cases e : j = (k : Int)
  ·subst e
   rw [if_pos rfl] at hu
   cases hu
   exact atKey_put_same h.tidy.isMap (ik_key hk) _ _
  ·rw [if_neg e] at hu
   rw [atKey_put_other (ik_ne e)]
   exact h.here j hj u hu z
 gone := fun j hj hu => by
  unfold putF at hu
  by_cases e : j = (k : Int)
  ·rw [if_pos e] at hu; cases hu
  ·rw [if_neg e] at hu
   rw [has_put_other (ik_ne e)]
   exact h.gone j hj hu
 size := by
  rw [size_put h.tidy, h.has hk, h.size, cntF_put F v hm]
theorem FnM.del {D : DataW Unit} {F : Int → Option Lit} {m : Nat} (h : FnM D F m) {k : Nat} (hk : (Lit.int .i64 (k : Int)).wf = true) (hm : k < m) : FnM (D.del (ik (k : Int))) (delF F (k : Int)) m where
 tidy := h.tidy.del _
 here := fun j hj u hu z => by
  unfold delF at hu
  by_cases e : j = (k : Int)
  ·rw [if_pos e] at hu; cases hu
  ·rw [if_neg e] at hu
   rw [atKey_del_other (ik_ne e)]
   exact h.here j hj u hu z
 gone := fun j hj hu => by
  by_cases e : j = (k : Int)
  ·subst e; exact has_del_same
  ·unfold delF at hu
   rw [if_neg e] at hu
   rw [has_del_other (ik_ne e)]
   exact h.gone j hj hu
 size := by
  have h1 := size_del (k := ik (k : Int)) h.tidy
  have h2 := cntF_del F hm
  rw [h.has hk, h.size] at h1
  omega
end Go.Proofs.YtekiemlniegddaaGreat
namespace Go.Proofs.YtekiemlniegddaaGreat
open Go Go.Maps Go.RowKit Go.Shelf
/-- Block b of W is a map of at most n entries that reads as F, keys from 0 to m - 1. -/
def OwnF (P : Program) (K E : TypeId) (W : World) (b n : Nat) (F : Int → Option Lit) (m : Nat) : Prop := ∃ D : DataW Unit, W.ownsMap P K (plainElem P E) b n D ∧ FnM D F m
section
variable {P : Program} {K E : TypeId} {W W' : World} {b n m : Nat} {F : Int → Option Lit}
theorem OwnF.made (P : Program) (K E : TypeId) (w : World) (m : Nat) : OwnF P K E (w.alloc (.map #[] 0)) w.heap.size 0 (fun _ => none) m := ⟨_, World.ownsMap_made w P K _, FnM.empty m⟩
theorem OwnF.mono (h : OwnF P K E W b n F m) {n' : Nat} (hn : n ≤ n') : OwnF P K E W b n' F m := let ⟨D, h1, h2⟩ := h; ⟨D, h1.mono hn, h2⟩
theorem OwnF.lt (h : OwnF P K E W b n F m) : b < W.heap.size := let ⟨_, h1, _⟩ := h; h1.lt
theorem OwnF.kept {row : Option Nat} (h : OwnF P K E W b n F m) (hg : W.grownBy W' row) (hne : some b ≠ row) : OwnF P K E W' b n F m := let ⟨D, h1, h2⟩ := h; ⟨D, h1.kept hg hne, h2⟩
theorem OwnF.below (h : OwnF P K E W b n F m) (hb : Below W.heap.size W W') : OwnF P K E W' b n F m := by
 obtain ⟨D, ⟨es, clock, h1, h2, h3, h4⟩, hF⟩ := h
 exact ⟨D, ⟨es, clock, (hb.block _ (World.ownsMap.lt ⟨es, clock, h1, h2, h3, h4⟩)).trans h1, h2, h3, h4⟩, hF⟩
end
section
variable {P : Program} (w : World) {ops : Array Oper} {rest : List Oper} {o : Oper} {a : Act} {Q : Exit → Act → World → Prop}
theorem put_map (hg : o.guard = none) (mm x v : Operand) (t : TypeId) (hop : o.op = Op.mapUpdate t mm x v) (K E : TypeId) (hK : P.underlying K = some (.int .i64)) (ht : P.underlying t = some (.map K E)) (b n m : Nat) (F : Int → Option Lit) (hm : a.eval mm = .map (some b)) (h : OwnF P K E w b n F m) (hn : n < maxLen)
  (k : Nat) (hk : (Lit.int .i64 (k : Int)).wf = true) (hkm : k < m) (val : Value) (l : Lit) (hx : a.eval x = .int .i64 (k : Int)) (hv : a.eval v = val) (hval : plainElem (H := Unit) P E val = some (.lit l, []))
  (hR : ∀ w', OwnF P K E w' b (n + 1) (putF F (k : Int) l) m → w.grownBy w' (some b) → wpList P ops Q rest (a.put o.dst undef) w') : wpList P ops Q (o :: rest) a w := by
 obtain ⟨D, h1, h2⟩ := h
 exact wpList_mapUpdate_own w hg mm x v t hop K E (int_keyed hK) ht (plainElem P E) b n D hm h1 hn (.int .i64 (k : Int)) val (ik (k : Int)) hx hv (keyOf_int_mk hK hk) (.lit l) [] hval fun w' g1 g2 => hR w' ⟨_, g1, h2.put hk hkm l⟩ g2
theorem del_map (hg : o.guard = none) (mm x : Operand) (t K : TypeId) (hop : o.op = Op.call { callee := Callee.builtin Builtin.delete, args := #[mm, x], argTypes := #[t, K] }) (E : TypeId) (hK : P.underlying K = some (.int .i64)) (ht : P.underlying t = some (.map K E)) (b n m : Nat) (F : Int → Option Lit) (hm : a.eval mm = .map (some b)) (h : OwnF P K E w b n F m)
  (k : Nat) (hk : (Lit.int .i64 (k : Int)).wf = true) (hkm : k < m) (hx : a.eval x = .int .i64 (k : Int)) (hR : ∀ w', OwnF P K E w' b n (delF F (k : Int)) m → w.grownBy w' (some b) → wpList P ops Q rest (a.put o.dst (.tuple #[])) w') : wpList P ops Q (o :: rest) a w := by
 obtain ⟨D, h1, h2⟩ := h
 exact wpList_delete_own w hg mm x t K hop E (int_keyed hK) ht (plainElem P E) b n D hm h1 (.int .i64 (k : Int)) (ik (k : Int)) hx (keyOf_int_mk hK hk) fun w' g1 g2 => hR w' ⟨_, g1, h2.del hk hkm⟩ g2.grown
theorem len_map (hg : o.guard = none) (mm : Operand) (t : TypeId) (hop : o.op = Op.call { callee := Callee.builtin Builtin.len, args := #[mm], argTypes := #[t] }) (K E : TypeId) (ht : P.underlying t = some (.map K E)) (b n m : Nat) (F : Int → Option Lit) (hm : a.eval mm = .map (some b)) (h : OwnF P K E w b n F m)
  (hR : wpList P ops Q rest (a.put o.dst (.int .i64 (cntF F m : Nat))) w) : wpList P ops Q (o :: rest) a w := by
 obtain ⟨D, h1, h2⟩ := h
 refine wpList_len_own w hg mm t hop K E ht (plainElem P E) b n D hm h1 ?_
 rw [h2.size]
 exact hR
end
end Go.Proofs.YtekiemlniegddaaGreat
namespace Go.Proofs.YtekiemlniegddaaGreat
open Go Go.RowKit Go.Shelf
abbrev FnL := Int → Option Lit
/-- The number that stands at a key, or 0. -/
def numF : Option Lit → Int
 | some (.int _ v) => v
 | _ => 0
def truF : Option Lit → Bool
 | some (.bool v) => v
 | _ => false
abbrev ilit (k : Int) : Lit := .int .i64 k
theorem numF_lit (k : Int) : numF (some (ilit k)) = k := rfl
theorem putF_same (F : FnL) (k : Int) (v : Lit) : putF F k v k = some v := by unfold putF; rw [if_pos rfl]
theorem putF_ne (F : FnL) {k j : Int} (v : Lit) (h : j ≠ k) : putF F k v j = F j := by unfold putF; rw [if_neg h]
theorem delF_same (F : FnL) (k : Int) : delF F k k = none := by unfold delF; rw [if_pos rfl]
theorem delF_ne (F : FnL) {k j : Int} (h : j ≠ k) : delF F k j = F j := by unfold delF; rw [if_neg h]
theorem opsN_a (s : StepN) : s.a ∈ opsN s := by unfold opsN; split <;> simp
theorem opsN_cases (s : StepN) : (opsN s = [s.a] ∧ ¬ (s.op = 2 ∧ s.a ≠ s.b)) ∨ (opsN s = [s.a, s.b] ∧ s.op = 2 ∧ s.a ≠ s.b) := by
 unfold opsN
 by_cases h : s.op = 2 ∧ s.a ≠ s.b
 ·rw [if_pos h]; exact .inr ⟨rfl, h.1, h.2⟩
 ·rw [if_neg h]; exact .inl ⟨rfl, h⟩
/-- One more at each key of a list. -/
def incF (F : FnL) (k : Int) : FnL := putF F k (ilit (numF (F k) + 1))
def incL (F : FnL) (l : List Int) : FnL := l.foldl incF F
/-- How often a number stands in a step's list: once or never. -/
def inOps (s : StepN) (m : Int) : Nat := if m ∈ opsN s then 1 else 0
theorem incF_num (F : FnL) (k m : Int) : numF (incF F k m) = numF (F m) + if m = k then 1 else 0 := by
 unfold incF putF
 by_cases h : m = k
 ·subst h; rw [if_pos rfl, if_pos rfl]; rfl
 ·rw [if_neg h, if_neg h]; omega
theorem incL_num (F : FnL) (s : StepN) (m : Int) : numF (incL F (opsN s) m) = numF (F m) + inOps s m := by
 unfold inOps
 rcases opsN_cases s with ⟨e, _⟩ | ⟨e, _, hab⟩
 ·rw [e]; unfold incL; simp only [List.foldl_cons, List.foldl_nil, incF_num, List.mem_singleton]
  by_cases h : m = s.a <;> simp [h]
 ·rw [e]; unfold incL; simp only [List.foldl_cons, List.foldl_nil, incF_num, List.mem_cons, List.not_mem_nil, or_false]
  by_cases h : m = s.a
  ·subst h; simp [hab]
  ·by_cases h2 : m = s.b
   ·subst h2; simp [h]
   ·simp [h, h2]
/-- How many steps use each image. -/
def useF (ss : List StepN) : Nat → FnL
 | 0 => fun _ => none
 | k + 1 => incL (useF ss k) (opsN (stAt ss k))
def cntU (ss : List StepN) (m : Int) : Nat → Nat
 | 0 => 0
 | k + 1 => cntU ss m k + inOps (stAt ss k) m
theorem useF_num (ss : List StepN) (m : Int) : ∀ k, numF (useF ss k m) = cntU ss m k
 | 0 => rfl
 | k + 1 => by rw [useF, incL_num, useF_num ss m k, cntU]; push_cast; rfl
theorem inOps_pos {s : StepN} {m : Int} (h : m ∈ opsN s) : inOps s m = 1 := by unfold inOps; rw [if_pos h]
theorem inOps_le (s : StepN) (m : Int) : inOps s m ≤ 1 := by unfold inOps; split <;> omega
theorem cntU_two {ss : List StepN} {m : Int} {i j : Nat} (hij : i < j) (hi : m ∈ opsN (stAt ss i)) (hj : m ∈ opsN (stAt ss j)) : ∀ {k}, j < k → 2 ≤ cntU ss m k := by
 have one : ∀ {k}, i < k → 1 ≤ cntU ss m k := by
  intro k
  induction k with
  | zero => intro h; omega
  | succ k ih =>
   intro h
   rw [cntU]
   by_cases e : i = k
   ·subst e; rw [inOps_pos hi]; omega
   ·have := ih (by omega); omega
 intro k
 induction k with
 | zero => intro h; omega
 | succ k ih =>
  intro h
  rw [cntU]
  by_cases e : j = k
  ·subst e; rw [inOps_pos hj]; have := one hij; omega
  ·have := ih (by omega); omega
/-- A round: its head and the head's number, the point operations that are carried, the image that results. -/
structure RndN where
 at_ : Nat
 head : StepN
 pts : List PointN
 res : Int
def noRnd : RndN := ⟨0, noStep, [], 0⟩
def rnAt (l : List RndN) (q : Nat) : RndN := l[q]?.getD noRnd
/-- A step is carried. -/
def carB (I : Int) (U : FnL) (s : StepN) : Bool := decide (s.op = 1) && (decide (I ≤ s.a) && decide (numF (U s.a) = 1))
def carR (r : RndN) (p : PointN) (m : Int) : RndN := { r with pts := r.pts ++ [p], res := m }
structure RsN where
 out : List RndN
 of : FnL
def rdsS (I : Int) (U : FnL) (ss : List StepN) : Nat → RsN
  | 0 => ⟨[], fun _ => none⟩
  | k + 1 =>
    if carB I U (stAt ss k) = true then
      ⟨(rdsS I U ss k).out.set (numF ((rdsS I U ss k).of (stAt ss k).a)).toNat (carR (rnAt (rdsS I U ss k).out (numF ((rdsS I U ss k).of (stAt ss k).a)).toNat) (stAt ss k).pt (I + k)),
       putF (delF (rdsS I U ss k).of (stAt ss k).a) (I + k) (ilit (numF ((rdsS I U ss k).of (stAt ss k).a)))⟩
    else ⟨(rdsS I U ss k).out ++ [⟨k, stAt ss k, [], I + k⟩], putF (rdsS I U ss k).of (I + k) (ilit (rdsS I U ss k).out.length)⟩
/-- The rounds of a pipe. -/
def rdsN (I : Int) (ss : List StepN) : List RndN := (rdsS I (useF ss ss.length) ss ss.length).out
theorem rnAt_set {l : List RndN} {q t : Nat} {r : RndN} (hq : q < l.length) : rnAt (l.set q r) t = if t = q then r else rnAt l t := by
 unfold rnAt
 rw [List.getElem?_set]
 by_cases h : q = t
 ·subst h; rw [if_pos rfl, if_pos rfl, if_pos hq]; rfl
 ·rw [if_neg h, if_neg (fun e => h e.symm)]
theorem rnAt_app {l : List RndN} {t : Nat} {r : RndN} (ht : t ≤ l.length) : rnAt (l ++ [r]) t = if t = l.length then r else rnAt l t := by
 unfold rnAt
 by_cases h : t = l.length
 ·subst h; rw [if_pos rfl, List.getElem?_append_right (Nat.le_refl _)]; simp
 ·rw [if_neg h, List.getElem?_append_left (by omega)]
/-- What holds of the rounds of the first k steps. -/
structure RsOk (I : Int) (ss : List StepN) (k : Nat) (R : RsN) : Prop where
 len : R.out.length ≤ k
 back : ∀ m v, R.of m = some v → ∃ q : Nat, q < R.out.length ∧ v = ilit q ∧ (rnAt R.out q).res = m
 there : ∀ q, q < R.out.length → R.of (rnAt R.out q).res = some (ilit q)
 res : ∀ q, q < R.out.length → ∃ j : Nat, j < k ∧ (rnAt R.out q).res = I + j
 head : ∀ q, q < R.out.length → (rnAt R.out q).at_ < k ∧ (rnAt R.out q).head = stAt ss (rnAt R.out q).at_
 all : ∀ j, j < k → (∃ q, q < R.out.length ∧ (rnAt R.out q).res = I + j) ∨ ∃ t, t < k ∧ (stAt ss t).a = I + j ∧ carB I (useF ss ss.length) (stAt ss t) = true
theorem carB_true {I : Int} {U : FnL} {s : StepN} (h : carB I U s = true) : s.op = 1 ∧ I ≤ s.a ∧ numF (U s.a) = 1 := by
 unfold carB at h
 simp only [Bool.and_eq_true, decide_eq_true_eq] at h
 exact ⟨h.1, h.2.1, h.2.2⟩
/-- References of the steps: what a step uses was there. -/
def RefOk (I : Int) (ss : List StepN) : Prop := ∀ i, i < ss.length → ∀ m ∈ opsN (stAt ss i), 0 ≤ m ∧ m < I + i
theorem of_here {I : Int} {ss : List StepN} {k : Nat} {R : RsN} (hR : RsOk I ss k R) (hr : RefOk I ss) (hk : k < ss.length) (hc : carB I (useF ss ss.length) (stAt ss k) = true) :
  ∃ q : Nat, q < R.out.length ∧ R.of (stAt ss k).a = some (ilit q) ∧ (rnAt R.out q).res = (stAt ss k).a := by
 obtain ⟨h1, h2, h3⟩ := carB_true hc
 obtain ⟨h4, h5⟩ := hr k hk _ (opsN_a _)
 rw [useF_num] at h3
 have h3' : cntU ss (stAt ss k).a ss.length = 1 := by omega
 obtain ⟨j, hj⟩ : ∃ j : Nat, (stAt ss k).a = I + j := ⟨((stAt ss k).a - I).toNat, by omega⟩
 rcases hR.all j (by omega) with ⟨q, hq, hqr⟩ | ⟨t, ht, hta, _⟩
 ·exact ⟨q, hq, by rw [hj, ← hqr]; exact hR.there q hq, by rw [hqr, hj]⟩
 ·exfalso
  have hm := opsN_a (stAt ss t)
  rw [hta, ← hj] at hm
  have := cntU_two ht hm (opsN_a (stAt ss k)) (k := ss.length) hk
  omega
theorem rds_ok {I : Int} {ss : List StepN} (hr : RefOk I ss) : ∀ k, k ≤ ss.length → RsOk I ss k (rdsS I (useF ss ss.length) ss k)
 | 0, _ => { len := Nat.le_refl _, back := fun m v h => (by cases h), there := fun q h => absurd h (Nat.not_lt_zero _), res := fun q h => absurd h (Nat.not_lt_zero _), head := fun q h => absurd h (Nat.not_lt_zero _), all := fun j h => absurd h (Nat.not_lt_zero _) }
 | k + 1, hk => by
  have ih := rds_ok hr k (by omega)
  obtain ⟨U, hU⟩ : ∃ U, useF ss ss.length = U := ⟨_, rfl⟩
  rw [rdsS]
  cases hc : carB I (useF ss ss.length) (stAt ss k) with
  | false =>
   rw [if_neg (by simp)]
   obtain ⟨R, hR⟩ : ∃ R, rdsS I (useF ss ss.length) ss k = R := ⟨_, rfl⟩
   rw [hR] at ih ⊢
   have hat := fun t (ht : t ≤ R.out.length) => rnAt_app (r := (⟨k, stAt ss k, [], I + k⟩ : RndN)) ht
   have hfresh : ∀ q, q < R.out.length → (rnAt R.out q).res ≠ I + k := fun q hq e => by obtain ⟨j, hj, he⟩ := ih.res q hq; omega
   refine { len := by simp; have := ih.len; omega, back := fun m v h => ?_, there := fun q h => ?_, res := fun q h => ?_, head := fun q h => ?_, all := fun j h => ?_ }
   ·simp only at h ⊢
    by_cases e : m = I + k
    ·subst e
     rw [putF_same] at h
     cases h
     exact ⟨R.out.length, by simp, rfl, by rw [hat _ (Nat.le_refl _), if_pos rfl]⟩
    ·rw [putF_ne _ _ e] at h
     obtain ⟨q, h1, h2, h3⟩ := ih.back m v h
     exact ⟨q, by simp; omega, h2, by rw [hat _ (by omega), if_neg (by omega)]; exact h3⟩
   ·simp only [List.length_append, List.length_singleton] at h ⊢
    rw [hat _ (by omega)]
    by_cases e : q = R.out.length
    ·subst e; rw [if_pos rfl]; exact putF_same _ _ _
    ·rw [if_neg e, putF_ne _ _ (hfresh q (by omega))]; exact ih.there q (by omega)
   ·simp only [List.length_append, List.length_singleton] at h ⊢
    rw [hat _ (by omega)]
    by_cases e : q = R.out.length
    ·subst e; rw [if_pos rfl]; exact ⟨k, by omega, rfl⟩
    ·rw [if_neg e]; obtain ⟨j, h1, h2⟩ := ih.res q (by omega); exact ⟨j, by omega, h2⟩
   ·simp only [List.length_append, List.length_singleton] at h ⊢
    rw [hat _ (by omega)]
    by_cases e : q = R.out.length
    ·subst e; rw [if_pos rfl]; exact ⟨by simp, rfl⟩
    ·rw [if_neg e]; obtain ⟨h1, h2⟩ := ih.head q (by omega); exact ⟨by omega, h2⟩
   ·by_cases e : j = k
    ·subst e; exact .inl ⟨R.out.length, by simp, by rw [hat _ (Nat.le_refl _), if_pos rfl]⟩
    ·rcases ih.all j (by omega) with ⟨q, h1, h2⟩ | ⟨t, h1, h2⟩
     ·exact .inl ⟨q, by simp; omega, by rw [hat _ (by omega), if_neg (by omega)]; exact h2⟩
     ·exact .inr ⟨t, by omega, h2⟩
  | true =>
   rw [if_pos rfl]
   obtain ⟨q, hq, hof, hres⟩ := of_here ih hr (by omega) hc
   obtain ⟨R, hR⟩ : ∃ R, rdsS I (useF ss ss.length) ss k = R := ⟨_, rfl⟩
   rw [hR] at ih hq hof hres ⊢
   rw [hof]
   have hqn : (numF (some (ilit (q : Int)))).toNat = q := by show ((q : Int)).toNat = q; simp
   rw [hqn]
   have hat := fun t => rnAt_set (t := t) (r := carR (rnAt R.out q) (stAt ss k).pt (I + k)) hq
   have hl : (R.out.set q (carR (rnAt R.out q) (stAt ss k).pt (I + k))).length = R.out.length := by simp
   have hinj : ∀ t, t < R.out.length → (rnAt R.out t).res = (stAt ss k).a → t = q := fun t ht e => by
    have h1 := ih.there t ht
    rw [e, hof] at h1
    injection h1 with h1; injection h1 with _ h1; omega
   have hlt : (stAt ss k).a < I + k := (hr k (by omega) _ (opsN_a _)).2
   have hfresh : ∀ t, t < R.out.length → (rnAt R.out t).res ≠ I + k := fun t ht e => by obtain ⟨j, hj, he⟩ := ih.res t ht; omega
   refine { len := by rw [hl]; have := ih.len; omega, back := fun m v h => ?_, there := fun t h => ?_, res := fun t h => ?_, head := fun t h => ?_, all := fun j h => ?_ }
   ·simp only at h ⊢
    by_cases e : m = I + k
    ·subst e
     rw [putF_same] at h
     cases h
     exact ⟨q, by rw [hl]; exact hq, rfl, by rw [hat, if_pos rfl]; rfl⟩
    ·rw [putF_ne _ _ e] at h
     by_cases e2 : m = (stAt ss k).a
     ·subst e2; rw [delF_same] at h; cases h
     ·rw [delF_ne _ e2] at h
      obtain ⟨t, h1, h2, h3⟩ := ih.back m v h
      refine ⟨t, by rw [hl]; exact h1, h2, ?_⟩
      rw [hat, if_neg (fun e3 => e2 (by rw [← h3, e3, hres]))]
      exact h3
   ·simp only at h ⊢
    rw [hl] at h
    rw [hat]
    by_cases e : t = q
    ·subst e; rw [if_pos rfl]; exact putF_same _ _ _
    ·rw [if_neg e, putF_ne _ _ (hfresh t h), delF_ne _ (fun e2 => e (hinj t h e2))]
     exact ih.there t h
   ·simp only at h ⊢
    rw [hl] at h
    rw [hat]
    by_cases e : t = q
    ·subst e; rw [if_pos rfl]; exact ⟨k, by omega, rfl⟩
    ·rw [if_neg e]; obtain ⟨j, h1, h2⟩ := ih.res t h; exact ⟨j, by omega, h2⟩
   ·simp only at h ⊢
    rw [hl] at h
    rw [hat]
    by_cases e : t = q
    ·subst e; rw [if_pos rfl]; obtain ⟨h1, h2⟩ := ih.head t h; exact ⟨by show (rnAt R.out t).at_ < _; omega, h2⟩
    ·rw [if_neg e]; obtain ⟨h1, h2⟩ := ih.head t h; exact ⟨by omega, h2⟩
   ·simp only
    by_cases e : j = k
    ·subst e; exact .inl ⟨q, by rw [hl]; exact hq, by rw [hat, if_pos rfl]; rfl⟩
    ·rcases ih.all j (by omega) with ⟨t, h1, h2⟩ | ⟨t, h1, h2⟩
     ·by_cases e2 : t = q
      ·refine .inr ⟨k, by omega, ?_, hc⟩
       rw [← hres, ← e2]; exact h2
      ·exact .inl ⟨t, by rw [hl]; exact h1, by rw [hat, if_neg e2]; exact h2⟩
     ·exact .inr ⟨t, by omega, h2⟩
end Go.Proofs.YtekiemlniegddaaGreat

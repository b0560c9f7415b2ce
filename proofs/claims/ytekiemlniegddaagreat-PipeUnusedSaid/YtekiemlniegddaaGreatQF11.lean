/- Contracts and laws (PRr, PRs, PRt, PRu). -/
import Derived.Test.YtekiemlniegddaaGreatQF10
import Derived.Test.YtekiemlniegddaaGreatQF5
import Derived.Test.YtekiemlniegddaaGreatQF9
set_option linter.unusedVariables false
set_option linter.unusedSimpArgs false
namespace Go.Proofs.YtekiemlniegddaaGreat
open Go Go.Maps Go.RowKit Go.Shelf
set_option maxRecDepth 100000 in
set_option maxHeartbeats 4000000 in
theorem operands_own (s : StepN) (hs : StepIn s) (ka sa : Option Addr) (kc sc : Nat) (w : World) :
  Calls Tryz.prog 100 #[stepv s ka kc sa sc] w fun e w' => ∃ b c, e = .returned (.slice (some ⟨b, 0, none⟩) (opsN s).length c) ∧ Blk w' b 3 ((opsN s).map (Value.int .i64)).toArray ∧ w.heap.size ≤ b ∧ Below w.heap.size w w' := by
 have hB : Below w.heap.size w w := Below.refl _ _
 have hop := hs.op
 have hbV1 : Below w.heap.size w (w.alloc (.cells #[.int .u8 s.op, .int .i64 s.a, .int .i64 s.b, .int .i64 s.pt.mul, .int .i64 s.pt.add, .int .i64 s.pt.div, .int .i64 s.pt.lo, .int .i64 s.pt.hi, .int .u8 s.how, .int .i64 s.kw, .int .i64 s.kh, .slice ka s.taps.length kc, .int .u8 s.bd, .int .i64 s.sw, .int .i64 s.sh, .slice sa s.bits.length sc] 76)) := jb_al (Below.refl _ w) _
 have k1 := Blk.new w 76 #[.int .u8 s.op, .int .i64 s.a, .int .i64 s.b, .int .i64 s.pt.mul, .int .i64 s.pt.add, .int .i64 s.pt.div, .int .i64 s.pt.lo, .int .i64 s.pt.hi, .int .u8 s.how, .int .i64 s.kw, .int .i64 s.kh, .slice ka s.taps.length kc, .int .u8 s.bd, .int .i64 s.sw, .int .i64 s.sh, .slice sa s.bits.length sc]
 obtain ⟨V1, hEV1⟩ : ∃ X, w.alloc (.cells #[.int .u8 s.op, .int .i64 s.a, .int .i64 s.b, .int .i64 s.pt.mul, .int .i64 s.pt.add, .int .i64 s.pt.div, .int .i64 s.pt.lo, .int .i64 s.pt.hi, .int .u8 s.how, .int .i64 s.kw, .int .i64 s.kh, .slice ka s.taps.length kc, .int .u8 s.bd, .int .i64 s.sw, .int .i64 s.sh, .slice sa s.bits.length sc] 76) = X := ⟨_, rfl⟩
 rw [hEV1] at hbV1 k1
 replace hB := hB.trans (hbV1.mono hB.size)
 clear hbV1
 obtain ⟨m0, m1, m2, m3, m4, m5, m6, m7, m8, m9, m10, m11, m12, m13, m14, m15⟩ := cz16 k1
 unfold opsN
 by_cases h2 : s.op = 2
 case pos =>
  have e1 : (s.op == 2) = true := by simp [h2]
  by_cases hab : s.a = s.b
  case pos =>
   have e2 : (s.a != s.b) = false := by simp [hab]
   have e3 : (s.a == s.b) = true := by simp [hab]
   rw [if_neg (fun h => h.2 hab)]
   clear h2 hab
   have hbv : Below V1.heap.size V1 (V1.alloc (.cells #[.int .i64 s.a] 3)) := jb_al (Below.refl _ V1) _
   have kv := Blk.new V1 3 #[.int .i64 s.a]
   go_enter Tryz.func100, Tryz.ntmps100
   go_wp2_with fail
   go_ret
   exact ⟨_, _, rfl, kv, hB.size, hB.trans (hbv.mono hB.size)⟩
  case neg =>
   have e2 : (s.a != s.b) = true := by simp [hab]
   have e3 : (s.a == s.b) = false := by simp [hab]
   rw [if_pos ⟨h2, hab⟩]
   clear h2 hab
   have hbv : Below V1.heap.size V1 (V1.alloc (.cells #[.int .i64 s.a, .int .i64 s.b] 3)) := jb_al (Below.refl _ V1) _
   have kv := Blk.new V1 3 #[.int .i64 s.a, .int .i64 s.b]
   go_enter Tryz.func100, Tryz.ntmps100
   go_wp2_with fail
   go_ret
   exact ⟨_, _, rfl, kv, hB.size, hB.trans (hbv.mono hB.size)⟩
 case neg =>
  have e1 : (s.op == 2) = false := by simp [h2]
  rw [if_neg (fun h => h2 h.1)]
  try clear h2
  have hbv : Below V1.heap.size V1 (V1.alloc (.cells #[.int .i64 s.a] 3)) := jb_al (Below.refl _ V1) _
  have kv := Blk.new V1 3 #[.int .i64 s.a]
  go_enter Tryz.func100, Tryz.ntmps100
  go_wp2_with fail
  go_ret
  exact ⟨_, _, rfl, kv, hB.size, hB.trans (hbv.mono hB.size)⟩
theorem ops_cell {W : World} {b : Nat} {L : List Int} (h : Blk W b 3 (L.map (Value.int .i64)).toArray) {j : Nat} (hj : j < L.length) : W.cell? ⟨b, j, none⟩ = some (.int .i64 (L[j]?.getD 0)) := h.cell (by simp [List.getElem?_eq_getElem hj])
theorem sum_le : ∀ (l : List RndN) (q : Nat), q < l.length → (rnAt l q).pts.length + 1 ≤ sumR l
 | [], q, h => by simp at h
 | a :: l, 0, _ => by unfold sumR; simp [rnAt]
 | a :: l, q + 1, h => by
  have := sum_le l q (by simpa using h)
  have e : rnAt (a :: l) (q + 1) = rnAt l q := by simp [rnAt]
  rw [e]
  unfold sumR at this ⊢
  simp only [List.map_cons, List.sum_cons]
  omega
theorem pts_le {I : Int} {ss : List StepN} (hr : RefOk I ss) {k : Nat} (hk : k ≤ ss.length) {q : Nat} (hq : q < (rdsS I (useF ss ss.length) ss k).out.length) : (rnAt (rdsS I (useF ss ss.length) ss k).out q).pts.length ≤ k := by
 have h1 := pts_count hr k hk
 have := sum_le _ q hq
 omega
def loopsC : Code → List Code
 | .loop c => c :: loopsC c
 | .seq a b => loopsC a ++ loopsC b
 | .block _ c => loopsC c
 | .scope c => loopsC c
 | .cond _ a b => loopsC a ++ loopsC b
 | _ => []
noncomputable def loopN (b : Option Code) (k : Nat) : Code := ((b.map loopsC).bind (fun l => l[k]?)).getD .skip
/-- Behind the first loop. -/
def FrX (bp bu : Nat) (A : Act) : Prop := ∃ u : Nat → Value, A = ⟨#[u 0, .pointer (some ⟨bp, 0, none⟩), .slice none 0 0, .map (some bu), u 4, u 5, u 6, u 7, u 8, u 9, u 10, u 11, u 12, u 13, u 14, u 15, u 16, u 17, u 18, u 19, u 20, u 21, u 22, u 23, u 24, u 25, u 26, u 27, u 28, u 29, u 30, u 31, u 32, u 33, u 34, u 35, u 36, u 37, u 38, u 39, u 40, u 41, u 42, u 43, u 44, u 45, u 46, u 47, u 48, u 49, u 50, u 51, u 52, u 53, u 54, u 55, u 56, u 57, u 58, u 59, u 60, u 61, u 62, u 63, u 64, u 65, u 66, u 67, u 68, u 69, u 70, u 71, u 72, u 73, u 74, u 75, u 76, u 77, u 78, u 79, u 80, u 81, u 82, u 83, u 84, u 85, u 86, u 87, u 88, u 89, u 90, u 91, u 92, u 93, u 94, u 95, u 96, u 97, u 98, u 99, u 100, u 101, u 102, u 103, u 104, u 105, u 106], []⟩
set_option maxRecDepth 100000 in
set_option maxHeartbeats 8000000 in
theorem rounds_l1 (In : Nat) (ss : List StepN) (a : Option Addr) (n c : Nat) (hnH : Hid (ss.length = n)) (hn12 : n ≤ 12) (hI : In ≤ 3) (hstH : Hid (∀ i, i < n → StepIn (stAt ss i))) (hr0H : Hid (RefOk (In : Int) ss)) (B0 : Nat) (w : World) (hB0 : B0 ≤ w.heap.size) (hr : RdSs B0 w a ss) (WW HH : Int) (M : Nat) (hMI : (M : Int) = (In : Int) + n) (hM20 : M < 20) (bp bu : Nat) (hbpw : w.heap.size ≤ bp) (hbuw : bp < bu) (V2 : World) (hu : OwnF Tryz.prog 3 3 V2 bu 0 (fun _ => none) M) (kp : Blk V2 bp 24 #[.int .i64 WW, .int .i64 HH, .int .i64 (In : Int), .slice a n c]) (hB : Below w.heap.size w V2) (A0 : Act) (Q0 : Exit → Act → World → Prop) (hA0 : ∃ u : Nat → Value, A0 = ⟨#[u 0, .pointer (some ⟨bp, 0, none⟩), .slice none 0 0, .map (some bu), u 4, u 5, u 6, u 7, u 8, u 9, u 10, u 11, u 12, u 13, u 14, u 15, .slice a n c, .int .i64 (n : Int), .int .i64 ((0 : Nat) : Int), u 19, u 20, u 21, u 22, u 23, u 24, u 25, u 26, u 27, u 28, u 29, u 30, u 31, u 32, u 33, u 34, u 35, u 36, u 37, u 38, u 39, u 40, u 41, u 42, u 43, u 44, u 45, u 46, u 47, u 48, u 49, u 50, u 51, u 52, u 53, u 54, u 55, u 56, u 57, u 58, u 59, u 60, u 61, u 62, u 63, u 64, u 65, u 66, u 67, u 68, u 69, u 70, u 71, u 72, u 73, u 74, u 75, u 76, u 77, u 78, u 79, u 80, u 81, u 82, u 83, u 84, u 85, u 86, u 87, u 88, u 89, u 90, u 91, u 92, u 93, u 94, u 95, u 96, u 97, u 98, u 99, u 100, u 101, u 102, u 103, u 104, u 105, u 106], []⟩)
  (hexit : ∀ (A : Act) (w' : World), FrX bp bu A → OwnF Tryz.prog 3 3 w' bu (2 * n) (useF ss n) M → Blk w' bp 24 #[.int .i64 WW, .int .i64 HH, .int .i64 (In : Int), .slice a n c] → Below w.heap.size w w' → Q0 (.exit 0) A w') :
  Code.wp Tryz.prog (Code.loop (loopN Tryz.f51.body 0)) Q0 A0 V2 := by
 obtain ⟨u, rfl⟩ := hA0
 have hu0 : OwnF Tryz.prog 3 3 V2 bu (2 * 0) (useF ss 0) M := hu
 clear hu
 unfold loopN
 conv => arg 2; arg 1; whnf
 dsimp only
 go_loopw [18] (fun i wr => ∃ k : Nat, k ≤ n ∧ i = .int .i64 (k : Int) ∧ OwnF Tryz.prog 3 3 wr bu (2 * k) (useF ss k) M ∧ Blk wr (bp) 24 #[.int .i64 WW, .int .i64 HH, .int .i64 (In : Int), .slice a n c] ∧ Below w.heap.size w wr) (fun i _ => n - (intOf i).toNat)
 case atStart => exact ⟨0, Nat.zero_le _, rfl, hu0, kp, hB⟩
 case round =>
  clear hu0 kp hB
  obtain ⟨k, hk, rfl, hu, kp, hB⟩ := hrel
  by_cases hlt : k < n
  case pos =>
   have hkl : k < ss.length := by have := hnH.out; omega
   have hs := hstH.out k hlt
   have hltd : decide ((k : Int) < (n : Int)) = true := by simp; omega
   obtain ⟨b, o, ka, kc, sa, sc, rfl, hbl, hst⟩ : ∃ b o ka kc sa sc, a = some ⟨b, o, none⟩ ∧ b < B0 ∧ StAt B0 w b (o + k * 16) (stAt ss k) ka kc sa sc := by
    rcases hr with h | ⟨b, o, h1, h2, h3⟩
    ·exfalso; rw [h] at hkl; simp at hkl
    ·obtain ⟨ka, kc, sa, sc, e⟩ := h3 k hkl
     exact ⟨b, o, ka, kc, sa, sc, h1, h2, e⟩
   have hrefk := hr0H.out k hkl
   have hstep : incL (useF ss k) (opsN (stAt ss k)) = useF ss (k + 1) := rfl
   obtain ⟨s, hse⟩ : ∃ s, stAt ss k = s := ⟨_, rfl⟩
   rw [hse] at hs hst hrefk hstep
   have hseH := Lib.hid hse
   have hrefH := Lib.hid hrefk
   have hstepH := Lib.hid hstep
   clear hse hrefk hstep
   obtain ⟨hcell, hta, hbi⟩ := hst
   have c0 : wr.cell? ⟨b, o + k * 16, none⟩ = some (.int .u8 s.op) := (hB.cell (p := ⟨b, o + k * 16, none⟩) (Nat.lt_of_lt_of_le hbl hB0)).trans (hcell 0 _ rfl)
   have c1 : wr.cell? ⟨b, o + k * 16 + 1, none⟩ = some (.int .i64 s.a) := (hB.cell (p := ⟨b, o + k * 16 + 1, none⟩) (Nat.lt_of_lt_of_le hbl hB0)).trans (hcell 1 _ rfl)
   have c2 : wr.cell? ⟨b, o + k * 16 + 2, none⟩ = some (.int .i64 s.b) := (hB.cell (p := ⟨b, o + k * 16 + 2, none⟩) (Nat.lt_of_lt_of_le hbl hB0)).trans (hcell 2 _ rfl)
   have c3 : wr.cell? ⟨b, o + k * 16 + 3, none⟩ = some (.int .i64 s.pt.mul) := (hB.cell (p := ⟨b, o + k * 16 + 3, none⟩) (Nat.lt_of_lt_of_le hbl hB0)).trans (hcell 3 _ rfl)
   have c4 : wr.cell? ⟨b, o + k * 16 + 4, none⟩ = some (.int .i64 s.pt.add) := (hB.cell (p := ⟨b, o + k * 16 + 4, none⟩) (Nat.lt_of_lt_of_le hbl hB0)).trans (hcell 4 _ rfl)
   have c5 : wr.cell? ⟨b, o + k * 16 + 5, none⟩ = some (.int .i64 s.pt.div) := (hB.cell (p := ⟨b, o + k * 16 + 5, none⟩) (Nat.lt_of_lt_of_le hbl hB0)).trans (hcell 5 _ rfl)
   have c6 : wr.cell? ⟨b, o + k * 16 + 6, none⟩ = some (.int .i64 s.pt.lo) := (hB.cell (p := ⟨b, o + k * 16 + 6, none⟩) (Nat.lt_of_lt_of_le hbl hB0)).trans (hcell 6 _ rfl)
   have c7 : wr.cell? ⟨b, o + k * 16 + 7, none⟩ = some (.int .i64 s.pt.hi) := (hB.cell (p := ⟨b, o + k * 16 + 7, none⟩) (Nat.lt_of_lt_of_le hbl hB0)).trans (hcell 7 _ rfl)
   have c8 : wr.cell? ⟨b, o + k * 16 + 8, none⟩ = some (.int .u8 s.how) := (hB.cell (p := ⟨b, o + k * 16 + 8, none⟩) (Nat.lt_of_lt_of_le hbl hB0)).trans (hcell 8 _ rfl)
   have c9 : wr.cell? ⟨b, o + k * 16 + 9, none⟩ = some (.int .i64 s.kw) := (hB.cell (p := ⟨b, o + k * 16 + 9, none⟩) (Nat.lt_of_lt_of_le hbl hB0)).trans (hcell 9 _ rfl)
   have c10 : wr.cell? ⟨b, o + k * 16 + 10, none⟩ = some (.int .i64 s.kh) := (hB.cell (p := ⟨b, o + k * 16 + 10, none⟩) (Nat.lt_of_lt_of_le hbl hB0)).trans (hcell 10 _ rfl)
   have c11 : wr.cell? ⟨b, o + k * 16 + 11, none⟩ = some (.slice ka s.taps.length kc) := (hB.cell (p := ⟨b, o + k * 16 + 11, none⟩) (Nat.lt_of_lt_of_le hbl hB0)).trans (hcell 11 _ rfl)
   have c12 : wr.cell? ⟨b, o + k * 16 + 12, none⟩ = some (.int .u8 s.bd) := (hB.cell (p := ⟨b, o + k * 16 + 12, none⟩) (Nat.lt_of_lt_of_le hbl hB0)).trans (hcell 12 _ rfl)
   have c13 : wr.cell? ⟨b, o + k * 16 + 13, none⟩ = some (.int .i64 s.sw) := (hB.cell (p := ⟨b, o + k * 16 + 13, none⟩) (Nat.lt_of_lt_of_le hbl hB0)).trans (hcell 13 _ rfl)
   have c14 : wr.cell? ⟨b, o + k * 16 + 14, none⟩ = some (.int .i64 s.sh) := (hB.cell (p := ⟨b, o + k * 16 + 14, none⟩) (Nat.lt_of_lt_of_le hbl hB0)).trans (hcell 14 _ rfl)
   have c15 : wr.cell? ⟨b, o + k * 16 + 15, none⟩ = some (.slice sa s.bits.length sc) := (hB.cell (p := ⟨b, o + k * 16 + 15, none⟩) (Nat.lt_of_lt_of_le hbl hB0)).trans (hcell 15 _ rfl)
   clear hcell
   obtain ⟨m0, m1, m2, m3⟩ := cz4 kp
   have hbV11 : Below wr.heap.size wr (wr.alloc (.cells #[.int .u8 s.op, .int .i64 s.a, .int .i64 s.b, .int .i64 s.pt.mul, .int .i64 s.pt.add, .int .i64 s.pt.div, .int .i64 s.pt.lo, .int .i64 s.pt.hi, .int .u8 s.how, .int .i64 s.kw, .int .i64 s.kh, .slice ka s.taps.length kc, .int .u8 s.bd, .int .i64 s.sw, .int .i64 s.sh, .slice sa s.bits.length sc] 76)) := jb_al (Below.refl _ wr) _
   have ks := Blk.new wr 76 #[.int .u8 s.op, .int .i64 s.a, .int .i64 s.b, .int .i64 s.pt.mul, .int .i64 s.pt.add, .int .i64 s.pt.div, .int .i64 s.pt.lo, .int .i64 s.pt.hi, .int .u8 s.how, .int .i64 s.kw, .int .i64 s.kh, .slice ka s.taps.length kc, .int .u8 s.bd, .int .i64 s.sw, .int .i64 s.sh, .slice sa s.bits.length sc]
   obtain ⟨V11, hEV11⟩ : ∃ X, wr.alloc (.cells #[.int .u8 s.op, .int .i64 s.a, .int .i64 s.b, .int .i64 s.pt.mul, .int .i64 s.pt.add, .int .i64 s.pt.div, .int .i64 s.pt.lo, .int .i64 s.pt.hi, .int .u8 s.how, .int .i64 s.kw, .int .i64 s.kh, .slice ka s.taps.length kc, .int .u8 s.bd, .int .i64 s.sw, .int .i64 s.sh, .slice sa s.bits.length sc] 76) = X := ⟨_, rfl⟩
   rw [hEV11] at hbV11 ks
   clear m0 m1 m2 m3
   replace kp := kp.below hbV11 kp.lt
   replace hu := hu.below hbV11
   replace hB := hB.trans (hbV11.mono hB.size)
   clear hbV11
   obtain ⟨y0, y1, y2, y3, y4, y5, y6, y7, y8, y9, y10, y11, y12, y13, y14, y15⟩ := cz16 ks
   go_wp2_with fail
   clear hEV11
   have hc := operands_own s hs ka sa kc sc V11
   refine hc.mono ?_
   clear hc
   rintro e V12 ⟨bo, oc, rfl, kq, hbo, hb⟩
   clear y0 y1 y2 y3 y4 y5 y6 y7 y8 y9 y10 y11 y12 y13 y14 y15
   replace kp := kp.below hb kp.lt
   replace ks := ks.below hb ks.lt
   replace hu := hu.below hb
   replace hB := hB.trans (hb.mono hB.size)
   clear hb
   clear c0 c1 c2 c3 c4 c5 c6 c7 c8 c9 c10 c11 c12 c13 c14 c15
   clear ks
   obtain ⟨ol1, ol2⟩ := opsN_len s
   obtain ⟨L, hL⟩ : ∃ L, opsN s = L := ⟨_, rfl⟩
   rw [hL] at kq ol1 ol2 hrefH hstepH ⊢
   obtain ⟨m, hm⟩ : ∃ m, L.length = m := ⟨_, rfl⟩
   have hmH := Lib.hid hm
   rw [hm] at ol1 ol2 ⊢
   clear hL hm
   go_wp2_with fail
   clear hltd
   have hu0 : OwnF Tryz.prog 3 3 V12 bu (2 * k + 0) (incL (useF ss k) (L.take 0)) M := hu
   have hbq : bu ≠ bo := fun e => hu.not_cells kq e.symm
   clear hu
   go_loopw [25] (fun i wr => ∃ j : Nat, j ≤ m ∧ i = .int .i64 (j : Int) ∧ OwnF Tryz.prog 3 3 wr bu (2 * k + j) (incL (useF ss k) (L.take j)) M ∧ Blk wr bo 3 (L.map (Value.int .i64)).toArray ∧ Blk wr (bp) 24 #[.int .i64 WW, .int .i64 HH, .int .i64 (In : Int), .slice (some ⟨b, o, none⟩) n c] ∧ Below w.heap.size w wr) (fun i _ => m - (intOf i).toNat)
   case atStart => exact ⟨0, Nat.zero_le _, rfl, hu0, kq, kp, hB⟩
   case round =>
    clear hu0 kq kp hB
    obtain ⟨j, hj, rfl, hu, kq, kp, hB⟩ := hrel
    by_cases hlt2 : j < m
    case pos =>
     have hltd : decide ((j : Int) < (m : Int)) = true := by simp; omega
     have hjL : j < L.length := by have := hmH.out; omega
     have hcj := ops_cell kq hjL
     have hbd := hrefH.out _ (List.getElem_mem hjL)
     have hnx := incL_take (F := useF ss k) hjL
     have hle := incL_le (L.take j) (useF ss k) k (useF_le ss k)
     rw [List.length_take] at hle
     rw [show L[j] = L[j]?.getD 0 by rw [List.getElem?_eq_getElem hjL]; rfl] at hbd
     obtain ⟨x, hx⟩ : ∃ x, L[j]?.getD 0 = x := ⟨_, rfl⟩
     rw [hx] at hcj hbd hnx
     obtain ⟨X, rfl⟩ : ∃ X : Nat, x = (X : Int) := ⟨x.toNat, by omega⟩
     have hlk := hu.run_look Tryz.underlying3 Tryz.underlying101 Tryz.underlying3 (zero_num _) (X : Int) (wf_num ⟨by omega, by omega⟩)
     have hle2 := hle (X : Int)
     clear hle hx
     unfold incF at hnx
     obtain ⟨G, hG⟩ : ∃ G, incL (useF ss k) (L.take j) = G := ⟨_, rfl⟩
     rw [hG] at hu hnx hlk hle2
     obtain ⟨q, hq⟩ : ∃ q, numF (G (X : Int)) = q := ⟨_, rfl⟩
     rw [hq] at hnx hlk hle2
     have hle3 : 0 ≤ q ∧ q ≤ 100 := by omega
     have hnxH := Lib.hid hnx
     clear hG hq hnx hle2
     go_wp2_with (at_mapUpdate; refine OwnF.putw _ rfl _ _ _ _ rfl Tryz.underlying3 Tryz.underlying101 bu rfl hu (by omega) X (by omega) (by omega) _ _ rfl rfl (plainElem_int Tryz.underlying3 (wf_num ⟨by omega, by omega⟩)) ?_; intro w1 hu1 hg1)
     refine ⟨⟨j + 1, by omega, by go_num, by rw [hnxH.out]; exact hu1, kq.kept hg1 (by simp; omega), kp.kept hg1 (by simp; omega), hB.grown hg1 hB.size (fun t e => by injection e with e; omega)⟩, by simp [intOf]; omega⟩
    case neg =>
     have hltd : decide ((j : Int) < (m : Int)) = false := by simp; omega
     have hjm : j = m := by omega
     subst hjm
     have hLt : L.take j = L := List.take_of_length_le (by have := hmH.out; omega)
     rw [hLt, hstepH.out] at hu
     have hu2 := hu.mono (n' := 2 * (k + 1)) (by omega)
     clear hu hLt
     go_wp2_with fail
     go_roundw
     case rel => exact ⟨k + 1, by omega, by go_num, hu2, kp, hB⟩
     case measure => simp [intOf]; omega
  case neg =>
   have hltd : decide ((k : Int) < (n : Int)) = false := by simp; omega
   have hkn : n = k := by omega
   subst hkn
   have hfin := fun A hA => hexit A wr hA hu kp hB
   clear hu kp hB hexit
   go_wp2_with fail
   exact ex_fnQ rfl
/-- Between the rounds of the second loop. -/
def I2 (In : Nat) (ss : List StepN) (a : Option Addr) (n c : Nat) (B0 : Nat) (w : World) (WW HH : Int) (M bp bu bf : Nat) (U : FnL) (A : Act) (wr : World) : Prop :=
 ∃ (k : Nat) (v : Value) (x : Nat → RndA), k ≤ n ∧ RdI B0 w.heap.size wr v (rdsS (In : Int) U ss k).out.length x bf (2 * k) (rdsS (In : Int) U ss k).of bu (2 * n) U M (bp) #[.int .i64 WW, .int .i64 HH, .int .i64 (In : Int), .slice a n c] ∧ Hid (∀ q, q < (rdsS (In : Int) U ss k).out.length → (x q).r = rnAt (rdsS (In : Int) U ss k).out q) ∧ Below w.heap.size w wr ∧ ∃ u : Nat → Value, A = ⟨#[u 0, .pointer (some ⟨bp, 0, none⟩), u 2, .map (some bu), u 4, u 5, u 6, u 7, v, .map (some bf), u 10, u 11, u 12, u 13, u 14, u 15, u 16, u 17, u 18, u 19, u 20, u 21, u 22, u 23, u 24, u 25, u 26, u 27, u 28, u 29, u 30, u 31, u 32, u 33, u 34, u 35, u 36, .slice a n c, .int .i64 (n : Int), .int .i64 ((k : Nat) : Int), u 40, u 41, u 42, u 43, u 44, u 45, u 46, u 47, u 48, u 49, u 50, u 51, u 52, u 53, u 54, u 55, u 56, u 57, u 58, u 59, u 60, u 61, u 62, u 63, u 64, u 65, u 66, u 67, u 68, u 69, u 70, u 71, u 72, u 73, u 74, u 75, u 76, u 77, u 78, u 79, u 80, u 81, u 82, u 83, u 84, u 85, u 86, u 87, u 88, u 89, u 90, u 91, u 92, u 93, u 94, u 95, u 96, u 97, u 98, u 99, u 100, u 101, u 102, u 103, u 104, u 105, u 106], []⟩
def mu2 (n : Nat) (A : Act) (_ : World) : Nat := n - (intOf (A.tmps.getD 39 undef)).toNat
end Go.Proofs.YtekiemlniegddaaGreat
namespace Go.Proofs.YtekiemlniegddaaGreat
open Go Go.Maps Go.RowKit Go.Shelf
set_option maxRecDepth 100000 in
set_option maxHeartbeats 8000000 in
theorem rounds_n1 (In : Nat) (ss : List StepN) (a : Option Addr) (n c : Nat) (hnH : Hid (ss.length = n)) (hn12 : n ≤ 12) (hI : In ≤ 3) (hstH : Hid (∀ i, i < n → StepIn (stAt ss i))) (hr0H : Hid (RefOk (In : Int) ss)) (B0 : Nat) (w : World) (hB0 : B0 ≤ w.heap.size) (hr : RdSs B0 w a ss) (WW HH : Int) (M : Nat) (hMI : (M : Int) = (In : Int) + n) (hM20 : M < 20) (bp bu : Nat) (hbpw : w.heap.size ≤ bp) (hbuw : bp < bu) (U : FnL) (hUH : Hid (useF ss ss.length = U)) (bf : Nat) (hbf : w.heap.size ≤ bf) (k : Nat) (v : Value) (x : Nat → RndA) (hk : k ≤ n) (hlt : k < n) (wr : World) (hri : RdI B0 w.heap.size wr v (rdsS (In : Int) U ss k).out.length x bf (2 * k) (rdsS (In : Int) U ss k).of bu (2 * n) U M (bp) #[.int .i64 WW, .int .i64 HH, .int .i64 (In : Int), .slice a n c]) (hx : Hid (∀ q, q < (rdsS (In : Int) U ss k).out.length → (x q).r = rnAt (rdsS (In : Int) U ss k).out q)) (e1 : ¬ (stAt ss k).op = 1) (u : Nat → Value)    (hB : Below w.heap.size w wr) : Code.wp Tryz.prog (loopN Tryz.f51.body 2) (Exit.then (fun A' w' => I2 In ss a n c B0 w WW HH M bp bu bf U A' w' ∧ mu2 n A' w' < mu2 n ⟨#[u 0, .pointer (some ⟨bp, 0, none⟩), u 2, .map (some bu), u 4, u 5, u 6, u 7, v, .map (some bf), u 10, u 11, u 12, u 13, u 14, u 15, u 16, u 17, u 18, u 19, u 20, u 21, u 22, u 23, u 24, u 25, u 26, u 27, u 28, u 29, u 30, u 31, u 32, u 33, u 34, u 35, u 36, .slice a n c, .int .i64 (n : Int), .int .i64 ((k : Nat) : Int), u 40, u 41, u 42, u 43, u 44, u 45, u 46, u 47, u 48, u 49, u 50, u 51, u 52, u 53, u 54, u 55, u 56, u 57, u 58, u 59, u 60, u 61, u 62, u 63, u 64, u 65, u 66, u 67, u 68, u 69, u 70, u 71, u 72, u 73, u 74, u 75, u 76, u 77, u 78, u 79, u 80, u 81, u 82, u 83, u 84, u 85, u 86, u 87, u 88, u 89, u 90, u 91, u 92, u 93, u 94, u 95, u 96, u 97, u 98, u 99, u 100, u 101, u 102, u 103, u 104, u 105, u 106], []⟩ wr) (fun _ _ _ => False)) ⟨#[u 0, .pointer (some ⟨bp, 0, none⟩), u 2, .map (some bu), u 4, u 5, u 6, u 7, v, .map (some bf), u 10, u 11, u 12, u 13, u 14, u 15, u 16, u 17, u 18, u 19, u 20, u 21, u 22, u 23, u 24, u 25, u 26, u 27, u 28, u 29, u 30, u 31, u 32, u 33, u 34, u 35, u 36, .slice a n c, .int .i64 (n : Int), .int .i64 ((k : Nat) : Int), u 40, u 41, u 42, u 43, u 44, u 45, u 46, u 47, u 48, u 49, u 50, u 51, u 52, u 53, u 54, u 55, u 56, u 57, u 58, u 59, u 60, u 61, u 62, u 63, u 64, u 65, u 66, u 67, u 68, u 69, u 70, u 71, u 72, u 73, u 74, u 75, u 76, u 77, u 78, u 79, u 80, u 81, u 82, u 83, u 84, u 85, u 86, u 87, u 88, u 89, u 90, u 91, u 92, u 93, u 94, u 95, u 96, u 97, u 98, u 99, u 100, u 101, u 102, u 103, u 104, u 105, u 106], []⟩ wr := by
  obtain ⟨i0, hi, hz0, hz1, hz2⟩ := info_partsQ info_rnd
  obtain ⟨j0, gi, gz0, gz1, gz2⟩ := info_partsQ info_pt
  unfold loopN
  conv => arg 2; whnf
  dsimp only
  have hkl : k < ss.length := by have := hnH.out; omega
  have hs := hstH.out k hlt
  have hltd : decide ((k : Int) < (n : Int)) = true := by simp; omega
  obtain ⟨b, o, ka, kc, sa, sc, rfl, hbl, hst⟩ : ∃ b o ka kc sa sc, a = some ⟨b, o, none⟩ ∧ b < B0 ∧ StAt B0 w b (o + k * 16) (stAt ss k) ka kc sa sc := by
    rcases hr with h | ⟨b, o, h1, h2, h3⟩
    · exfalso; rw [h] at hkl; simp at hkl
    · obtain ⟨ka, kc, sa, sc, e⟩ := h3 k hkl
      exact ⟨b, o, ka, kc, sa, sc, h1, h2, e⟩
  have hrefk := hr0H.out k hkl
  have hnext : rdsS (In : Int) U ss (k + 1) = (if carB (In : Int) U (stAt ss k) = true then
        ⟨(rdsS (In : Int) U ss k).out.set (numF ((rdsS (In : Int) U ss k).of (stAt ss k).a)).toNat (carR (rnAt (rdsS (In : Int) U ss k).out (numF ((rdsS (In : Int) U ss k).of (stAt ss k).a)).toNat) (stAt ss k).pt ((In : Int) + k)),
         putF (delF (rdsS (In : Int) U ss k).of (stAt ss k).a) ((In : Int) + k) (ilit (numF ((rdsS (In : Int) U ss k).of (stAt ss k).a)))⟩
      else ⟨(rdsS (In : Int) U ss k).out ++ [⟨k, stAt ss k, [], (In : Int) + k⟩], putF (rdsS (In : Int) U ss k).of ((In : Int) + k) (ilit (rdsS (In : Int) U ss k).out.length)⟩) := rfl
  have hokk := rds_ok hr0H.out k (Nat.le_of_lt hkl)
  rw [hUH.out] at hokk
  have hofq : carB (In : Int) U (stAt ss k) = true → ∃ q : Nat, q < (rdsS (In : Int) U ss k).out.length ∧ (rdsS (In : Int) U ss k).of (stAt ss k).a = some (ilit q) ∧ (rnAt (rdsS (In : Int) U ss k).out q).pts.length ≤ k := fun h => by
    have h2 := of_here (rds_ok hr0H.out k (Nat.le_of_lt hkl)) hr0H.out hkl (by rw [hUH.out]; exact h)
    rw [hUH.out] at h2
    obtain ⟨q, h3, h4, _⟩ := h2
    have h5 := fun hq => pts_le hr0H.out (Nat.le_of_lt hkl) (q := q) hq
    rw [hUH.out] at h5
    exact ⟨q, h3, h4, h5 h3⟩
  have hokH := Lib.hid hokk
  have hlenk := hokk.len
  clear hokk
  obtain ⟨s, hse⟩ : ∃ s, stAt ss k = s := ⟨_, rfl⟩
  rw [hse] at hs hst hrefk hnext hofq e1
  have hseH := Lib.hid hse
  have hrefH := Lib.hid hrefk
  have hnextH := Lib.hid hnext
  clear hse hrefk hnext
  obtain ⟨hcell, hta, hbi⟩ := hst
  obtain ⟨R, hR⟩ : ∃ R, rdsS (In : Int) U ss k = R := ⟨_, rfl⟩
  rw [hR] at hri hx hnextH hokH hlenk hofq
  clear hR
  obtain ⟨N, hN⟩ : ∃ N, R.out.length = N := ⟨_, rfl⟩
  rw [hN] at hri hx hnextH hlenk hofq
  have hofqH := Lib.hid hofq
  clear hofq
  have hNH := Lib.hid hN
  clear hN
  obtain ⟨va, vc, rfl⟩ := hri.rs.slice
  obtain ⟨A, hA⟩ : ∃ A : Nat, s.a = (A : Int) := ⟨s.a.toNat, by have := hrefH.out _ (opsN_a s); omega⟩
  have hAM : A < M := by have := hrefH.out _ (opsN_a s); omega
  have c0 : wr.cell? ⟨b, o + k * 16, none⟩ = some (.int .u8 s.op) := (hB.cell (p := ⟨b, o + k * 16, none⟩) (Nat.lt_of_lt_of_le hbl hB0)).trans (hcell 0 _ rfl)
  have c1 : wr.cell? ⟨b, o + k * 16 + 1, none⟩ = some (.int .i64 s.a) := (hB.cell (p := ⟨b, o + k * 16 + 1, none⟩) (Nat.lt_of_lt_of_le hbl hB0)).trans (hcell 1 _ rfl)
  have c2 : wr.cell? ⟨b, o + k * 16 + 2, none⟩ = some (.int .i64 s.b) := (hB.cell (p := ⟨b, o + k * 16 + 2, none⟩) (Nat.lt_of_lt_of_le hbl hB0)).trans (hcell 2 _ rfl)
  have c3 : wr.cell? ⟨b, o + k * 16 + 3, none⟩ = some (.int .i64 s.pt.mul) := (hB.cell (p := ⟨b, o + k * 16 + 3, none⟩) (Nat.lt_of_lt_of_le hbl hB0)).trans (hcell 3 _ rfl)
  have c4 : wr.cell? ⟨b, o + k * 16 + 4, none⟩ = some (.int .i64 s.pt.add) := (hB.cell (p := ⟨b, o + k * 16 + 4, none⟩) (Nat.lt_of_lt_of_le hbl hB0)).trans (hcell 4 _ rfl)
  have c5 : wr.cell? ⟨b, o + k * 16 + 5, none⟩ = some (.int .i64 s.pt.div) := (hB.cell (p := ⟨b, o + k * 16 + 5, none⟩) (Nat.lt_of_lt_of_le hbl hB0)).trans (hcell 5 _ rfl)
  have c6 : wr.cell? ⟨b, o + k * 16 + 6, none⟩ = some (.int .i64 s.pt.lo) := (hB.cell (p := ⟨b, o + k * 16 + 6, none⟩) (Nat.lt_of_lt_of_le hbl hB0)).trans (hcell 6 _ rfl)
  have c7 : wr.cell? ⟨b, o + k * 16 + 7, none⟩ = some (.int .i64 s.pt.hi) := (hB.cell (p := ⟨b, o + k * 16 + 7, none⟩) (Nat.lt_of_lt_of_le hbl hB0)).trans (hcell 7 _ rfl)
  have c8 : wr.cell? ⟨b, o + k * 16 + 8, none⟩ = some (.int .u8 s.how) := (hB.cell (p := ⟨b, o + k * 16 + 8, none⟩) (Nat.lt_of_lt_of_le hbl hB0)).trans (hcell 8 _ rfl)
  have c9 : wr.cell? ⟨b, o + k * 16 + 9, none⟩ = some (.int .i64 s.kw) := (hB.cell (p := ⟨b, o + k * 16 + 9, none⟩) (Nat.lt_of_lt_of_le hbl hB0)).trans (hcell 9 _ rfl)
  have c10 : wr.cell? ⟨b, o + k * 16 + 10, none⟩ = some (.int .i64 s.kh) := (hB.cell (p := ⟨b, o + k * 16 + 10, none⟩) (Nat.lt_of_lt_of_le hbl hB0)).trans (hcell 10 _ rfl)
  have c11 : wr.cell? ⟨b, o + k * 16 + 11, none⟩ = some (.slice ka s.taps.length kc) := (hB.cell (p := ⟨b, o + k * 16 + 11, none⟩) (Nat.lt_of_lt_of_le hbl hB0)).trans (hcell 11 _ rfl)
  have c12 : wr.cell? ⟨b, o + k * 16 + 12, none⟩ = some (.int .u8 s.bd) := (hB.cell (p := ⟨b, o + k * 16 + 12, none⟩) (Nat.lt_of_lt_of_le hbl hB0)).trans (hcell 12 _ rfl)
  have c13 : wr.cell? ⟨b, o + k * 16 + 13, none⟩ = some (.int .i64 s.sw) := (hB.cell (p := ⟨b, o + k * 16 + 13, none⟩) (Nat.lt_of_lt_of_le hbl hB0)).trans (hcell 13 _ rfl)
  have c14 : wr.cell? ⟨b, o + k * 16 + 14, none⟩ = some (.int .i64 s.sh) := (hB.cell (p := ⟨b, o + k * 16 + 14, none⟩) (Nat.lt_of_lt_of_le hbl hB0)).trans (hcell 14 _ rfl)
  have c15 : wr.cell? ⟨b, o + k * 16 + 15, none⟩ = some (.slice sa s.bits.length sc) := (hB.cell (p := ⟨b, o + k * 16 + 15, none⟩) (Nat.lt_of_lt_of_le hbl hB0)).trans (hcell 15 _ rfl)
  clear hcell
  have kp := hri.kp
  obtain ⟨m0, m1, m2, m3⟩ := cz4 kp
  have hbV51 : Below wr.heap.size wr (wr.alloc (.cells #[.int .u8 s.op, .int .i64 s.a, .int .i64 s.b, .int .i64 s.pt.mul, .int .i64 s.pt.add, .int .i64 s.pt.div, .int .i64 s.pt.lo, .int .i64 s.pt.hi, .int .u8 s.how, .int .i64 s.kw, .int .i64 s.kh, .slice ka s.taps.length kc, .int .u8 s.bd, .int .i64 s.sw, .int .i64 s.sh, .slice sa s.bits.length sc] 76)) := jb_al (Below.refl _ wr) _
  have ks := Blk.new wr 76 #[.int .u8 s.op, .int .i64 s.a, .int .i64 s.b, .int .i64 s.pt.mul, .int .i64 s.pt.add, .int .i64 s.pt.div, .int .i64 s.pt.lo, .int .i64 s.pt.hi, .int .u8 s.how, .int .i64 s.kw, .int .i64 s.kh, .slice ka s.taps.length kc, .int .u8 s.bd, .int .i64 s.sw, .int .i64 s.sh, .slice sa s.bits.length sc]
  obtain ⟨V51, hEV51⟩ : ∃ X, wr.alloc (.cells #[.int .u8 s.op, .int .i64 s.a, .int .i64 s.b, .int .i64 s.pt.mul, .int .i64 s.pt.add, .int .i64 s.pt.div, .int .i64 s.pt.lo, .int .i64 s.pt.hi, .int .u8 s.how, .int .i64 s.kw, .int .i64 s.kh, .slice ka s.taps.length kc, .int .u8 s.bd, .int .i64 s.sw, .int .i64 s.sh, .slice sa s.bits.length sc] 76) = X := ⟨_, rfl⟩
  rw [hEV51] at hbV51 ks
  clear m0 m1 m2 m3
  replace kp := kp.below hbV51 kp.lt
  replace hri := hri.below hbV51
  replace hB := hB.trans (hbV51.mono hB.size)
  clear hbV51
  obtain ⟨m0, m1, m2, m3⟩ := cz4 kp
  obtain ⟨y0, y1, y2, y3, y4, y5, y6, y7, y8, y9, y10, y11, y12, y13, y14, y15⟩ := cz16 ks
  have hopr := hs.op
  have hlk := hri.um.run_look Tryz.underlying3 Tryz.underlying101 Tryz.underlying3 (zero_num _) (A : Int) (wf_num ⟨by omega, by omega⟩)
  obtain ⟨cu, hcu⟩ : ∃ c, numF (U (A : Int)) = c := ⟨_, rfl⟩
  rw [hcu] at hlk
  have hcuH := Lib.hid hcu
  have hAH := Lib.hid hA
  clear hcu
  rw [hA] at y1
  clear hA
  have e1b : (s.op == 1) = false := by simp [e1]
  have hcar : carB (In : Int) U s = false := by unfold carB; rw [decide_eq_false e1]; rfl
  have hcarH := Lib.hid hcar
  clear e1 hcar
  have hksf := hri.fm.not_cells ks
  go_wp2_with (first
    | (at_mapUpdate; refine OwnF.putw _ rfl _ _ _ _ rfl Tryz.underlying3 Tryz.underlying101 bf rfl hri.fm (by omega) (In + k) (by omega) (by omega) _ _ (by first | rfl | (simp; done) | (simp; omega)) rfl (plainElem_int Tryz.underlying3 (wf_num ⟨by omega, by omega⟩)) ?_; intro w1 hv1 hg1))
  have ks1 := ks.kept hg1 (fun e => hksf (by injection e))
  obtain ⟨hri1, hb1⟩ := hri.mapf hv1 hg1
  have hB1 := hB.trans hb1
  clear hri ks hv1 hg1 hb1 hB
  clear y0 y1 y2 y3 y4 y5 y6 y7 y8 y9 y10 y11 y12 y13 y14 y15 hlk hltd
  have hri2 := hri1.below (Below.refl _ w1).drew
  have hB2 := hB1.drew
  have hS : Blk w1.drew (wr.heap.size) 76 #[.int .u8 s.op, .int .i64 s.a, .int .i64 s.b, .int .i64 s.pt.mul, .int .i64 s.pt.add, .int .i64 s.pt.div, .int .i64 s.pt.lo, .int .i64 s.pt.hi, .int .u8 s.how, .int .i64 s.kw, .int .i64 s.kh, .slice ka s.taps.length kc, .int .u8 s.bd, .int .i64 s.sw, .int .i64 s.sh, .slice sa s.bits.length sc] := ks1.below (Below.refl _ w1).drew ks1.lt
  clear hri1 hB1 ks1
  simp only [Act.put]
  refine plain_region (fun W' => Blk W' (wr.heap.size) 76 #[.int .u8 s.op, .int .i64 s.a, .int .i64 s.b, .int .i64 s.pt.mul, .int .i64 s.pt.add, .int .i64 s.pt.div, .int .i64 s.pt.lo, .int .i64 s.pt.hi, .int .u8 s.how, .int .i64 s.kw, .int .i64 s.kh, .slice ka s.taps.length kc, .int .u8 s.bd, .int .i64 s.sw, .int .i64 s.sh, .slice sa s.bits.length sc]) 9 9 (by kernel_rfl) rfl ?_
  simp only [Array.replicate_succ, Array.replicate_zero, List.push_toArray, List.nil_append, List.cons_append]
  obtain ⟨X0, hXX0⟩ : ∃ X : World, w1.drew = X := ⟨_, rfl⟩
  rw [hXX0] at hS hri2 hB2 ⊢
  clear hXX0
  refine tkz 0 rfl hS (fun w' hS' => by go_simp; rfl) ?_
  simp only [nrz]
  refine tkz 1 rfl hS (fun w' hS' => by obtain ⟨y0, y1, y2, y3, y4, y5, y6, y7, y8, y9, y10, y11, y12, y13, y14, y15⟩ := cz16 hS'; clear hS'; go_simp; rfl) ?_
  simp only [nrz]
  refine tkz 2 rfl hS (fun w' hS' => by obtain ⟨y0, y1, y2, y3, y4, y5, y6, y7, y8, y9, y10, y11, y12, y13, y14, y15⟩ := cz16 hS'; clear hS'; go_simp; rfl) ?_
  simp only [nrz]
  refine tkz 4 rfl hS (fun w' hS' => by go_simp; rfl) ?_
  simp only [nrz]
  refine step_op 3 (by kernel_rfl) rfl (fun K hK => ?_)
  rw [if_pos (by rfl)]
  go_simp
  refine (operands_own s hs ka sa kc sc X0).mono ?_
  rintro e X3 ⟨bo, oc, rfl, kq, hbo, hb3⟩
  have hS3 := hS.below hb3 hS.lt
  have hri3 := hri2.below hb3
  have hB3 := hB2.trans (hb3.mono hB2.size)
  have hbow : w.heap.size ≤ bo := Nat.le_trans hB2.size hbo
  clear hri2 hB2 hb3
  refine hK.out _ _ (fun h => hS3) ?_
  clear hK K
  try simp only [Act.put, nrz]
  refine tkz 5 rfl hS3 (fun w' hS' => by go_simp; rfl) ?_
  simp only [nrz]
  refine step_op 6 (by kernel_rfl) rfl (fun K hK => ?_)
  rw [if_pos (by rfl)]
  go_simp
  have hbA := jb_al (Below.refl _ X3) (.cells #[.int .u8 s.op, .int .i64 s.a, .int .i64 s.b, .int .i64 s.pt.mul, .int .i64 s.pt.add, .int .i64 s.pt.div, .int .i64 s.pt.lo, .int .i64 s.pt.hi, .int .u8 s.how, .int .i64 s.kw, .int .i64 s.kh, .slice ka s.taps.length kc, .int .u8 s.bd, .int .i64 s.sw, .int .i64 s.sh, .slice sa s.bits.length sc, .slice none 0 0, .slice (some ⟨bo, 0, none⟩) (opsN s).length oc, .int .i64 ((In : Int) + k)] 111)
  have ky := Blk.new X3 111 #[.int .u8 s.op, .int .i64 s.a, .int .i64 s.b, .int .i64 s.pt.mul, .int .i64 s.pt.add, .int .i64 s.pt.div, .int .i64 s.pt.lo, .int .i64 s.pt.hi, .int .u8 s.how, .int .i64 s.kw, .int .i64 s.kh, .slice ka s.taps.length kc, .int .u8 s.bd, .int .i64 s.sw, .int .i64 s.sh, .slice sa s.bits.length sc, .slice none 0 0, .slice (some ⟨bo, 0, none⟩) (opsN s).length oc, .int .i64 ((In : Int) + k)]
  have hri6 := hri3.below hbA
  have kq6 := kq.below hbA kq.lt
  have hS6 := hS3.below hbA hS3.lt
  have hB6 := hB3.trans (hbA.mono hB3.size)
  obtain ⟨by_, hby⟩ : ∃ b, X3.heap.size = b := ⟨_, rfl⟩
  obtain ⟨X6, hX6⟩ : ∃ X, X3.alloc (.cells #[.int .u8 s.op, .int .i64 s.a, .int .i64 s.b, .int .i64 s.pt.mul, .int .i64 s.pt.add, .int .i64 s.pt.div, .int .i64 s.pt.lo, .int .i64 s.pt.hi, .int .u8 s.how, .int .i64 s.kw, .int .i64 s.kh, .slice ka s.taps.length kc, .int .u8 s.bd, .int .i64 s.sw, .int .i64 s.sh, .slice sa s.bits.length sc, .slice none 0 0, .slice (some ⟨bo, 0, none⟩) (opsN s).length oc, .int .i64 ((In : Int) + k)] 111) = X := ⟨_, rfl⟩
  rw [hX6] at ky hri6 kq6 hS6 hB6 ⊢
  rw [hby] at ky ⊢
  clear hX6 hby hbA hri3 kq hS3 hB3
  refine hK.out _ _ (fun h => hS6) ?_
  clear hK K
  try simp only [Act.put, nrz]
  refine step_op 7 (by kernel_rfl) rfl (fun K hK => ?_)
  refine step_append_atQ rfl (.tmp 97) (.tmp 103) 105 rfl w.heap.size 111 i0 (.agg #[.int .u8 0, .int .i64 0, .int .i64 0, .int .i64 0, .int .i64 0, .int .i64 0, .int .i64 0, .int .i64 0, .int .u8 0, .int .i64 0, .int .i64 0, .slice none 0 0, .int .u8 0, .int .i64 0, .int .i64 0, .slice none 0 0, .slice none 0 0, .slice none 0 0, .int .i64 0]) 19 216 Tryz.underlying105 hi hz0 hz1 hz2 rfl (by decide) (.slice va N vc) N _ rfl hri6.rs.row ⟨by_, 0, none⟩ 1 1 (rndL ⟨⟨k, s, [], (In : Int) + k⟩, ka, kc, sa, sc, .slice none 0 0, bo, oc⟩) rfl rfl (blk_news ky) (rndL_one _ rfl) (by unfold maxLen; omega) (by omega) hB6.size ?_
  intro v' X7 hown7 hg7 hat7
  obtain ⟨hri7, hb7⟩ := hri6.push hown7 hg7 rfl rfl ⟨kq6, hbow⟩ ⟨hta.below hB0 hB6, hbi.below hB0 hB6⟩
  have hB7 := hB6.trans hb7
  have hS7 : Blk X7 (wr.heap.size) 76 #[.int .u8 s.op, .int .i64 s.a, .int .i64 s.b, .int .i64 s.pt.mul, .int .i64 s.pt.add, .int .i64 s.pt.div, .int .i64 s.pt.lo, .int .i64 s.pt.hi, .int .u8 s.how, .int .i64 s.kw, .int .i64 s.kh, .slice ka s.taps.length kc, .int .u8 s.bd, .int .i64 s.sw, .int .i64 s.sh, .slice sa s.bits.length sc] := (grown_trn hg7 (fun c => (Value.slice va N vc).ownBlock = some c) (fun c e => e)).blk hS6 (fun e => hS6.not_row (by decide) hri6.rs.row e.symm)
  clear hown7 hg7 hat7 hb7 hri6 kq6 ky hS6 hB6
  refine hK.out _ _ (fun h => hS7) ?_
  clear hK K
  try simp only [Act.put, nrz]
  refine tkz 8 rfl hS7 (fun w' hS' => by go_simp; rfl) ?_
  simp only [nrz]
  refine done_ops (by kernel_rfl) ?_
  have hnx : rdsS (In : Int) U ss (k + 1) = ⟨R.out ++ [⟨k, s, [], (In : Int) + k⟩], putF R.of ((In : Int) + k) (ilit N)⟩ := by rw [hnextH.out, hcarH.out]; rfl
  have hri8 : RdI B0 w.heap.size X7 v' (rdsS (In : Int) U ss (k + 1)).out.length (fun q => if q = N then ⟨⟨k, s, [], (In : Int) + k⟩, ka, kc, sa, sc, .slice none 0 0, bo, oc⟩ else x q) bf (2 * (k + 1)) (rdsS (In : Int) U ss (k + 1)).of bu (2 * n) U M (bp) #[.int .i64 WW, .int .i64 HH, .int .i64 (In : Int), .slice (some ⟨b, o, none⟩) n c] := by
    rw [hnx]
    simp only [List.length_append, List.length_singleton]
    rw [hNH.out]
    exact hri7.monof (by omega)
  have hx8 : Hid (∀ q, q < (rdsS (In : Int) U ss (k + 1)).out.length → ((fun q => if q = N then ⟨⟨k, s, [], (In : Int) + k⟩, ka, kc, sa, sc, .slice none 0 0, bo, oc⟩ else x q) q : RndA).r = rnAt (rdsS (In : Int) U ss (k + 1)).out q) := Lib.hid (by
    rw [hnx]
    simp only [List.length_append, List.length_singleton]
    rw [hNH.out]
    intro q hq
    have hxo := hx.out
    rw [rnAt_app (by rw [hNH.out]; omega), hNH.out]
    by_cases e : q = N
    · rw [if_pos e, if_pos e]
    · rw [if_neg e, if_neg e]; exact hxo q (by omega))
  clear hnx hri7
  go_wp2_with fail
  exact ⟨⟨k + 1, _, _, by omega, hri8, hx8, hB7, ex_fnQ rfl⟩, by simp [mu2, intOf]; omega⟩
end Go.Proofs.YtekiemlniegddaaGreat
namespace Go.Proofs.YtekiemlniegddaaGreat
open Go Go.Maps Go.RowKit Go.Shelf
set_option maxRecDepth 100000 in
set_option maxHeartbeats 8000000 in
theorem rounds_n2 (In : Nat) (ss : List StepN) (a : Option Addr) (n c : Nat) (hnH : Hid (ss.length = n)) (hn12 : n ≤ 12) (hI : In ≤ 3) (hstH : Hid (∀ i, i < n → StepIn (stAt ss i))) (hr0H : Hid (RefOk (In : Int) ss)) (B0 : Nat) (w : World) (hB0 : B0 ≤ w.heap.size) (hr : RdSs B0 w a ss) (WW HH : Int) (M : Nat) (hMI : (M : Int) = (In : Int) + n) (hM20 : M < 20) (bp bu : Nat) (hbpw : w.heap.size ≤ bp) (hbuw : bp < bu) (U : FnL) (hUH : Hid (useF ss ss.length = U)) (bf : Nat) (hbf : w.heap.size ≤ bf) (k : Nat) (v : Value) (x : Nat → RndA) (hk : k ≤ n) (hlt : k < n) (wr : World) (hri : RdI B0 w.heap.size wr v (rdsS (In : Int) U ss k).out.length x bf (2 * k) (rdsS (In : Int) U ss k).of bu (2 * n) U M (bp) #[.int .i64 WW, .int .i64 HH, .int .i64 (In : Int), .slice a n c]) (hx : Hid (∀ q, q < (rdsS (In : Int) U ss k).out.length → (x q).r = rnAt (rdsS (In : Int) U ss k).out q)) (e1 : (stAt ss k).op = 1) (e2 : ¬ (In : Int) ≤ (stAt ss k).a) (u : Nat → Value)    (hB : Below w.heap.size w wr) : Code.wp Tryz.prog (loopN Tryz.f51.body 2) (Exit.then (fun A' w' => I2 In ss a n c B0 w WW HH M bp bu bf U A' w' ∧ mu2 n A' w' < mu2 n ⟨#[u 0, .pointer (some ⟨bp, 0, none⟩), u 2, .map (some bu), u 4, u 5, u 6, u 7, v, .map (some bf), u 10, u 11, u 12, u 13, u 14, u 15, u 16, u 17, u 18, u 19, u 20, u 21, u 22, u 23, u 24, u 25, u 26, u 27, u 28, u 29, u 30, u 31, u 32, u 33, u 34, u 35, u 36, .slice a n c, .int .i64 (n : Int), .int .i64 ((k : Nat) : Int), u 40, u 41, u 42, u 43, u 44, u 45, u 46, u 47, u 48, u 49, u 50, u 51, u 52, u 53, u 54, u 55, u 56, u 57, u 58, u 59, u 60, u 61, u 62, u 63, u 64, u 65, u 66, u 67, u 68, u 69, u 70, u 71, u 72, u 73, u 74, u 75, u 76, u 77, u 78, u 79, u 80, u 81, u 82, u 83, u 84, u 85, u 86, u 87, u 88, u 89, u 90, u 91, u 92, u 93, u 94, u 95, u 96, u 97, u 98, u 99, u 100, u 101, u 102, u 103, u 104, u 105, u 106], []⟩ wr) (fun _ _ _ => False)) ⟨#[u 0, .pointer (some ⟨bp, 0, none⟩), u 2, .map (some bu), u 4, u 5, u 6, u 7, v, .map (some bf), u 10, u 11, u 12, u 13, u 14, u 15, u 16, u 17, u 18, u 19, u 20, u 21, u 22, u 23, u 24, u 25, u 26, u 27, u 28, u 29, u 30, u 31, u 32, u 33, u 34, u 35, u 36, .slice a n c, .int .i64 (n : Int), .int .i64 ((k : Nat) : Int), u 40, u 41, u 42, u 43, u 44, u 45, u 46, u 47, u 48, u 49, u 50, u 51, u 52, u 53, u 54, u 55, u 56, u 57, u 58, u 59, u 60, u 61, u 62, u 63, u 64, u 65, u 66, u 67, u 68, u 69, u 70, u 71, u 72, u 73, u 74, u 75, u 76, u 77, u 78, u 79, u 80, u 81, u 82, u 83, u 84, u 85, u 86, u 87, u 88, u 89, u 90, u 91, u 92, u 93, u 94, u 95, u 96, u 97, u 98, u 99, u 100, u 101, u 102, u 103, u 104, u 105, u 106], []⟩ wr := by
  obtain ⟨i0, hi, hz0, hz1, hz2⟩ := info_partsQ info_rnd
  obtain ⟨j0, gi, gz0, gz1, gz2⟩ := info_partsQ info_pt
  unfold loopN
  conv => arg 2; whnf
  dsimp only
  have hkl : k < ss.length := by have := hnH.out; omega
  have hs := hstH.out k hlt
  have hltd : decide ((k : Int) < (n : Int)) = true := by simp; omega
  obtain ⟨b, o, ka, kc, sa, sc, rfl, hbl, hst⟩ : ∃ b o ka kc sa sc, a = some ⟨b, o, none⟩ ∧ b < B0 ∧ StAt B0 w b (o + k * 16) (stAt ss k) ka kc sa sc := by
    rcases hr with h | ⟨b, o, h1, h2, h3⟩
    · exfalso; rw [h] at hkl; simp at hkl
    · obtain ⟨ka, kc, sa, sc, e⟩ := h3 k hkl
      exact ⟨b, o, ka, kc, sa, sc, h1, h2, e⟩
  have hrefk := hr0H.out k hkl
  have hnext : rdsS (In : Int) U ss (k + 1) = (if carB (In : Int) U (stAt ss k) = true then
        ⟨(rdsS (In : Int) U ss k).out.set (numF ((rdsS (In : Int) U ss k).of (stAt ss k).a)).toNat (carR (rnAt (rdsS (In : Int) U ss k).out (numF ((rdsS (In : Int) U ss k).of (stAt ss k).a)).toNat) (stAt ss k).pt ((In : Int) + k)),
         putF (delF (rdsS (In : Int) U ss k).of (stAt ss k).a) ((In : Int) + k) (ilit (numF ((rdsS (In : Int) U ss k).of (stAt ss k).a)))⟩
      else ⟨(rdsS (In : Int) U ss k).out ++ [⟨k, stAt ss k, [], (In : Int) + k⟩], putF (rdsS (In : Int) U ss k).of ((In : Int) + k) (ilit (rdsS (In : Int) U ss k).out.length)⟩) := rfl
  have hokk := rds_ok hr0H.out k (Nat.le_of_lt hkl)
  rw [hUH.out] at hokk
  have hofq : carB (In : Int) U (stAt ss k) = true → ∃ q : Nat, q < (rdsS (In : Int) U ss k).out.length ∧ (rdsS (In : Int) U ss k).of (stAt ss k).a = some (ilit q) ∧ (rnAt (rdsS (In : Int) U ss k).out q).pts.length ≤ k := fun h => by
    have h2 := of_here (rds_ok hr0H.out k (Nat.le_of_lt hkl)) hr0H.out hkl (by rw [hUH.out]; exact h)
    rw [hUH.out] at h2
    obtain ⟨q, h3, h4, _⟩ := h2
    have h5 := fun hq => pts_le hr0H.out (Nat.le_of_lt hkl) (q := q) hq
    rw [hUH.out] at h5
    exact ⟨q, h3, h4, h5 h3⟩
  have hokH := Lib.hid hokk
  have hlenk := hokk.len
  clear hokk
  obtain ⟨s, hse⟩ : ∃ s, stAt ss k = s := ⟨_, rfl⟩
  rw [hse] at hs hst hrefk hnext hofq e1 e2
  have hseH := Lib.hid hse
  have hrefH := Lib.hid hrefk
  have hnextH := Lib.hid hnext
  clear hse hrefk hnext
  obtain ⟨hcell, hta, hbi⟩ := hst
  obtain ⟨R, hR⟩ : ∃ R, rdsS (In : Int) U ss k = R := ⟨_, rfl⟩
  rw [hR] at hri hx hnextH hokH hlenk hofq
  clear hR
  obtain ⟨N, hN⟩ : ∃ N, R.out.length = N := ⟨_, rfl⟩
  rw [hN] at hri hx hnextH hlenk hofq
  have hofqH := Lib.hid hofq
  clear hofq
  have hNH := Lib.hid hN
  clear hN
  obtain ⟨va, vc, rfl⟩ := hri.rs.slice
  obtain ⟨A, hA⟩ : ∃ A : Nat, s.a = (A : Int) := ⟨s.a.toNat, by have := hrefH.out _ (opsN_a s); omega⟩
  have hAM : A < M := by have := hrefH.out _ (opsN_a s); omega
  have c0 : wr.cell? ⟨b, o + k * 16, none⟩ = some (.int .u8 s.op) := (hB.cell (p := ⟨b, o + k * 16, none⟩) (Nat.lt_of_lt_of_le hbl hB0)).trans (hcell 0 _ rfl)
  have c1 : wr.cell? ⟨b, o + k * 16 + 1, none⟩ = some (.int .i64 s.a) := (hB.cell (p := ⟨b, o + k * 16 + 1, none⟩) (Nat.lt_of_lt_of_le hbl hB0)).trans (hcell 1 _ rfl)
  have c2 : wr.cell? ⟨b, o + k * 16 + 2, none⟩ = some (.int .i64 s.b) := (hB.cell (p := ⟨b, o + k * 16 + 2, none⟩) (Nat.lt_of_lt_of_le hbl hB0)).trans (hcell 2 _ rfl)
  have c3 : wr.cell? ⟨b, o + k * 16 + 3, none⟩ = some (.int .i64 s.pt.mul) := (hB.cell (p := ⟨b, o + k * 16 + 3, none⟩) (Nat.lt_of_lt_of_le hbl hB0)).trans (hcell 3 _ rfl)
  have c4 : wr.cell? ⟨b, o + k * 16 + 4, none⟩ = some (.int .i64 s.pt.add) := (hB.cell (p := ⟨b, o + k * 16 + 4, none⟩) (Nat.lt_of_lt_of_le hbl hB0)).trans (hcell 4 _ rfl)
  have c5 : wr.cell? ⟨b, o + k * 16 + 5, none⟩ = some (.int .i64 s.pt.div) := (hB.cell (p := ⟨b, o + k * 16 + 5, none⟩) (Nat.lt_of_lt_of_le hbl hB0)).trans (hcell 5 _ rfl)
  have c6 : wr.cell? ⟨b, o + k * 16 + 6, none⟩ = some (.int .i64 s.pt.lo) := (hB.cell (p := ⟨b, o + k * 16 + 6, none⟩) (Nat.lt_of_lt_of_le hbl hB0)).trans (hcell 6 _ rfl)
  have c7 : wr.cell? ⟨b, o + k * 16 + 7, none⟩ = some (.int .i64 s.pt.hi) := (hB.cell (p := ⟨b, o + k * 16 + 7, none⟩) (Nat.lt_of_lt_of_le hbl hB0)).trans (hcell 7 _ rfl)
  have c8 : wr.cell? ⟨b, o + k * 16 + 8, none⟩ = some (.int .u8 s.how) := (hB.cell (p := ⟨b, o + k * 16 + 8, none⟩) (Nat.lt_of_lt_of_le hbl hB0)).trans (hcell 8 _ rfl)
  have c9 : wr.cell? ⟨b, o + k * 16 + 9, none⟩ = some (.int .i64 s.kw) := (hB.cell (p := ⟨b, o + k * 16 + 9, none⟩) (Nat.lt_of_lt_of_le hbl hB0)).trans (hcell 9 _ rfl)
  have c10 : wr.cell? ⟨b, o + k * 16 + 10, none⟩ = some (.int .i64 s.kh) := (hB.cell (p := ⟨b, o + k * 16 + 10, none⟩) (Nat.lt_of_lt_of_le hbl hB0)).trans (hcell 10 _ rfl)
  have c11 : wr.cell? ⟨b, o + k * 16 + 11, none⟩ = some (.slice ka s.taps.length kc) := (hB.cell (p := ⟨b, o + k * 16 + 11, none⟩) (Nat.lt_of_lt_of_le hbl hB0)).trans (hcell 11 _ rfl)
  have c12 : wr.cell? ⟨b, o + k * 16 + 12, none⟩ = some (.int .u8 s.bd) := (hB.cell (p := ⟨b, o + k * 16 + 12, none⟩) (Nat.lt_of_lt_of_le hbl hB0)).trans (hcell 12 _ rfl)
  have c13 : wr.cell? ⟨b, o + k * 16 + 13, none⟩ = some (.int .i64 s.sw) := (hB.cell (p := ⟨b, o + k * 16 + 13, none⟩) (Nat.lt_of_lt_of_le hbl hB0)).trans (hcell 13 _ rfl)
  have c14 : wr.cell? ⟨b, o + k * 16 + 14, none⟩ = some (.int .i64 s.sh) := (hB.cell (p := ⟨b, o + k * 16 + 14, none⟩) (Nat.lt_of_lt_of_le hbl hB0)).trans (hcell 14 _ rfl)
  have c15 : wr.cell? ⟨b, o + k * 16 + 15, none⟩ = some (.slice sa s.bits.length sc) := (hB.cell (p := ⟨b, o + k * 16 + 15, none⟩) (Nat.lt_of_lt_of_le hbl hB0)).trans (hcell 15 _ rfl)
  clear hcell
  have kp := hri.kp
  obtain ⟨m0, m1, m2, m3⟩ := cz4 kp
  have hbV51 : Below wr.heap.size wr (wr.alloc (.cells #[.int .u8 s.op, .int .i64 s.a, .int .i64 s.b, .int .i64 s.pt.mul, .int .i64 s.pt.add, .int .i64 s.pt.div, .int .i64 s.pt.lo, .int .i64 s.pt.hi, .int .u8 s.how, .int .i64 s.kw, .int .i64 s.kh, .slice ka s.taps.length kc, .int .u8 s.bd, .int .i64 s.sw, .int .i64 s.sh, .slice sa s.bits.length sc] 76)) := jb_al (Below.refl _ wr) _
  have ks := Blk.new wr 76 #[.int .u8 s.op, .int .i64 s.a, .int .i64 s.b, .int .i64 s.pt.mul, .int .i64 s.pt.add, .int .i64 s.pt.div, .int .i64 s.pt.lo, .int .i64 s.pt.hi, .int .u8 s.how, .int .i64 s.kw, .int .i64 s.kh, .slice ka s.taps.length kc, .int .u8 s.bd, .int .i64 s.sw, .int .i64 s.sh, .slice sa s.bits.length sc]
  obtain ⟨V51, hEV51⟩ : ∃ X, wr.alloc (.cells #[.int .u8 s.op, .int .i64 s.a, .int .i64 s.b, .int .i64 s.pt.mul, .int .i64 s.pt.add, .int .i64 s.pt.div, .int .i64 s.pt.lo, .int .i64 s.pt.hi, .int .u8 s.how, .int .i64 s.kw, .int .i64 s.kh, .slice ka s.taps.length kc, .int .u8 s.bd, .int .i64 s.sw, .int .i64 s.sh, .slice sa s.bits.length sc] 76) = X := ⟨_, rfl⟩
  rw [hEV51] at hbV51 ks
  clear m0 m1 m2 m3
  replace kp := kp.below hbV51 kp.lt
  replace hri := hri.below hbV51
  replace hB := hB.trans (hbV51.mono hB.size)
  clear hbV51
  obtain ⟨m0, m1, m2, m3⟩ := cz4 kp
  obtain ⟨y0, y1, y2, y3, y4, y5, y6, y7, y8, y9, y10, y11, y12, y13, y14, y15⟩ := cz16 ks
  have hopr := hs.op
  have hlk := hri.um.run_look Tryz.underlying3 Tryz.underlying101 Tryz.underlying3 (zero_num _) (A : Int) (wf_num ⟨by omega, by omega⟩)
  obtain ⟨cu, hcu⟩ : ∃ c, numF (U (A : Int)) = c := ⟨_, rfl⟩
  rw [hcu] at hlk
  have hcuH := Lib.hid hcu
  have hAH := Lib.hid hA
  clear hcu
  rw [hA] at y1
  clear hA
  have e1b : (s.op == 1) = true := by simp [e1]
  have e1H := Lib.hid e1
  clear e1
  rw [hAH.out] at e2
  have e2n : ¬ In ≤ A := by omega
  have e2b : decide (In ≤ A) = false := decide_eq_false e2n
  have hcar : carB (In : Int) U s = false := by unfold carB; rw [hAH.out, decide_eq_false (show ¬ ((In : Int) ≤ (A : Int)) by omega)]; simp
  have hcarH := Lib.hid hcar
  clear e2 hcar
  have hksf := hri.fm.not_cells ks
  go_wp2_with (first
    | (at_mapUpdate; refine OwnF.putw _ rfl _ _ _ _ rfl Tryz.underlying3 Tryz.underlying101 bf rfl hri.fm (by omega) (In + k) (by omega) (by omega) _ _ (by first | rfl | (simp; done) | (simp; omega)) rfl (plainElem_int Tryz.underlying3 (wf_num ⟨by omega, by omega⟩)) ?_; intro w1 hv1 hg1))
  have ks1 := ks.kept hg1 (fun e => hksf (by injection e))
  obtain ⟨hri1, hb1⟩ := hri.mapf hv1 hg1
  have hB1 := hB.trans hb1
  clear hri ks hv1 hg1 hb1 hB
  clear y0 y1 y2 y3 y4 y5 y6 y7 y8 y9 y10 y11 y12 y13 y14 y15 hlk hltd
  have hri2 := hri1.below (Below.refl _ w1).drew
  have hB2 := hB1.drew
  have hS : Blk w1.drew (wr.heap.size) 76 #[.int .u8 s.op, .int .i64 s.a, .int .i64 s.b, .int .i64 s.pt.mul, .int .i64 s.pt.add, .int .i64 s.pt.div, .int .i64 s.pt.lo, .int .i64 s.pt.hi, .int .u8 s.how, .int .i64 s.kw, .int .i64 s.kh, .slice ka s.taps.length kc, .int .u8 s.bd, .int .i64 s.sw, .int .i64 s.sh, .slice sa s.bits.length sc] := ks1.below (Below.refl _ w1).drew ks1.lt
  clear hri1 hB1 ks1
  simp only [Act.put]
  refine plain_region (fun W' => Blk W' (wr.heap.size) 76 #[.int .u8 s.op, .int .i64 s.a, .int .i64 s.b, .int .i64 s.pt.mul, .int .i64 s.pt.add, .int .i64 s.pt.div, .int .i64 s.pt.lo, .int .i64 s.pt.hi, .int .u8 s.how, .int .i64 s.kw, .int .i64 s.kh, .slice ka s.taps.length kc, .int .u8 s.bd, .int .i64 s.sw, .int .i64 s.sh, .slice sa s.bits.length sc]) 9 9 (by kernel_rfl) rfl ?_
  simp only [Array.replicate_succ, Array.replicate_zero, List.push_toArray, List.nil_append, List.cons_append]
  obtain ⟨X0, hXX0⟩ : ∃ X : World, w1.drew = X := ⟨_, rfl⟩
  rw [hXX0] at hS hri2 hB2 ⊢
  clear hXX0
  refine tkz 0 rfl hS (fun w' hS' => by go_simp; rfl) ?_
  simp only [nrz]
  refine tkz 1 rfl hS (fun w' hS' => by obtain ⟨y0, y1, y2, y3, y4, y5, y6, y7, y8, y9, y10, y11, y12, y13, y14, y15⟩ := cz16 hS'; clear hS'; go_simp; rfl) ?_
  simp only [nrz]
  refine tkz 2 rfl hS (fun w' hS' => by obtain ⟨y0, y1, y2, y3, y4, y5, y6, y7, y8, y9, y10, y11, y12, y13, y14, y15⟩ := cz16 hS'; clear hS'; go_simp; rfl) ?_
  simp only [nrz]
  refine tkz 4 rfl hS (fun w' hS' => by go_simp; rfl) ?_
  simp only [nrz]
  refine step_op 3 (by kernel_rfl) rfl (fun K hK => ?_)
  rw [if_pos (by rfl)]
  go_simp
  refine (operands_own s hs ka sa kc sc X0).mono ?_
  rintro e X3 ⟨bo, oc, rfl, kq, hbo, hb3⟩
  have hS3 := hS.below hb3 hS.lt
  have hri3 := hri2.below hb3
  have hB3 := hB2.trans (hb3.mono hB2.size)
  have hbow : w.heap.size ≤ bo := Nat.le_trans hB2.size hbo
  clear hri2 hB2 hb3
  refine hK.out _ _ (fun h => hS3) ?_
  clear hK K
  try simp only [Act.put, nrz]
  refine tkz 5 rfl hS3 (fun w' hS' => by go_simp; rfl) ?_
  simp only [nrz]
  refine step_op 6 (by kernel_rfl) rfl (fun K hK => ?_)
  rw [if_pos (by rfl)]
  go_simp
  have hbA := jb_al (Below.refl _ X3) (.cells #[.int .u8 s.op, .int .i64 s.a, .int .i64 s.b, .int .i64 s.pt.mul, .int .i64 s.pt.add, .int .i64 s.pt.div, .int .i64 s.pt.lo, .int .i64 s.pt.hi, .int .u8 s.how, .int .i64 s.kw, .int .i64 s.kh, .slice ka s.taps.length kc, .int .u8 s.bd, .int .i64 s.sw, .int .i64 s.sh, .slice sa s.bits.length sc, .slice none 0 0, .slice (some ⟨bo, 0, none⟩) (opsN s).length oc, .int .i64 ((In : Int) + k)] 111)
  have ky := Blk.new X3 111 #[.int .u8 s.op, .int .i64 s.a, .int .i64 s.b, .int .i64 s.pt.mul, .int .i64 s.pt.add, .int .i64 s.pt.div, .int .i64 s.pt.lo, .int .i64 s.pt.hi, .int .u8 s.how, .int .i64 s.kw, .int .i64 s.kh, .slice ka s.taps.length kc, .int .u8 s.bd, .int .i64 s.sw, .int .i64 s.sh, .slice sa s.bits.length sc, .slice none 0 0, .slice (some ⟨bo, 0, none⟩) (opsN s).length oc, .int .i64 ((In : Int) + k)]
  have hri6 := hri3.below hbA
  have kq6 := kq.below hbA kq.lt
  have hS6 := hS3.below hbA hS3.lt
  have hB6 := hB3.trans (hbA.mono hB3.size)
  obtain ⟨by_, hby⟩ : ∃ b, X3.heap.size = b := ⟨_, rfl⟩
  obtain ⟨X6, hX6⟩ : ∃ X, X3.alloc (.cells #[.int .u8 s.op, .int .i64 s.a, .int .i64 s.b, .int .i64 s.pt.mul, .int .i64 s.pt.add, .int .i64 s.pt.div, .int .i64 s.pt.lo, .int .i64 s.pt.hi, .int .u8 s.how, .int .i64 s.kw, .int .i64 s.kh, .slice ka s.taps.length kc, .int .u8 s.bd, .int .i64 s.sw, .int .i64 s.sh, .slice sa s.bits.length sc, .slice none 0 0, .slice (some ⟨bo, 0, none⟩) (opsN s).length oc, .int .i64 ((In : Int) + k)] 111) = X := ⟨_, rfl⟩
  rw [hX6] at ky hri6 kq6 hS6 hB6 ⊢
  rw [hby] at ky ⊢
  clear hX6 hby hbA hri3 kq hS3 hB3
  refine hK.out _ _ (fun h => hS6) ?_
  clear hK K
  try simp only [Act.put, nrz]
  refine step_op 7 (by kernel_rfl) rfl (fun K hK => ?_)
  refine step_append_atQ rfl (.tmp 97) (.tmp 103) 105 rfl w.heap.size 111 i0 (.agg #[.int .u8 0, .int .i64 0, .int .i64 0, .int .i64 0, .int .i64 0, .int .i64 0, .int .i64 0, .int .i64 0, .int .u8 0, .int .i64 0, .int .i64 0, .slice none 0 0, .int .u8 0, .int .i64 0, .int .i64 0, .slice none 0 0, .slice none 0 0, .slice none 0 0, .int .i64 0]) 19 216 Tryz.underlying105 hi hz0 hz1 hz2 rfl (by decide) (.slice va N vc) N _ rfl hri6.rs.row ⟨by_, 0, none⟩ 1 1 (rndL ⟨⟨k, s, [], (In : Int) + k⟩, ka, kc, sa, sc, .slice none 0 0, bo, oc⟩) rfl rfl (blk_news ky) (rndL_one _ rfl) (by unfold maxLen; omega) (by omega) hB6.size ?_
  intro v' X7 hown7 hg7 hat7
  obtain ⟨hri7, hb7⟩ := hri6.push hown7 hg7 rfl rfl ⟨kq6, hbow⟩ ⟨hta.below hB0 hB6, hbi.below hB0 hB6⟩
  have hB7 := hB6.trans hb7
  have hS7 : Blk X7 (wr.heap.size) 76 #[.int .u8 s.op, .int .i64 s.a, .int .i64 s.b, .int .i64 s.pt.mul, .int .i64 s.pt.add, .int .i64 s.pt.div, .int .i64 s.pt.lo, .int .i64 s.pt.hi, .int .u8 s.how, .int .i64 s.kw, .int .i64 s.kh, .slice ka s.taps.length kc, .int .u8 s.bd, .int .i64 s.sw, .int .i64 s.sh, .slice sa s.bits.length sc] := (grown_trn hg7 (fun c => (Value.slice va N vc).ownBlock = some c) (fun c e => e)).blk hS6 (fun e => hS6.not_row (by decide) hri6.rs.row e.symm)
  clear hown7 hg7 hat7 hb7 hri6 kq6 ky hS6 hB6
  refine hK.out _ _ (fun h => hS7) ?_
  clear hK K
  try simp only [Act.put, nrz]
  refine tkz 8 rfl hS7 (fun w' hS' => by go_simp; rfl) ?_
  simp only [nrz]
  refine done_ops (by kernel_rfl) ?_
  have hnx : rdsS (In : Int) U ss (k + 1) = ⟨R.out ++ [⟨k, s, [], (In : Int) + k⟩], putF R.of ((In : Int) + k) (ilit N)⟩ := by rw [hnextH.out, hcarH.out]; rfl
  have hri8 : RdI B0 w.heap.size X7 v' (rdsS (In : Int) U ss (k + 1)).out.length (fun q => if q = N then ⟨⟨k, s, [], (In : Int) + k⟩, ka, kc, sa, sc, .slice none 0 0, bo, oc⟩ else x q) bf (2 * (k + 1)) (rdsS (In : Int) U ss (k + 1)).of bu (2 * n) U M (bp) #[.int .i64 WW, .int .i64 HH, .int .i64 (In : Int), .slice (some ⟨b, o, none⟩) n c] := by
    rw [hnx]
    simp only [List.length_append, List.length_singleton]
    rw [hNH.out]
    exact hri7.monof (by omega)
  have hx8 : Hid (∀ q, q < (rdsS (In : Int) U ss (k + 1)).out.length → ((fun q => if q = N then ⟨⟨k, s, [], (In : Int) + k⟩, ka, kc, sa, sc, .slice none 0 0, bo, oc⟩ else x q) q : RndA).r = rnAt (rdsS (In : Int) U ss (k + 1)).out q) := Lib.hid (by
    rw [hnx]
    simp only [List.length_append, List.length_singleton]
    rw [hNH.out]
    intro q hq
    have hxo := hx.out
    rw [rnAt_app (by rw [hNH.out]; omega), hNH.out]
    by_cases e : q = N
    · rw [if_pos e, if_pos e]
    · rw [if_neg e, if_neg e]; exact hxo q (by omega))
  clear hnx hri7
  go_wp2_with fail
  exact ⟨⟨k + 1, _, _, by omega, hri8, hx8, hB7, ex_fnQ rfl⟩, by simp [mu2, intOf]; omega⟩
end Go.Proofs.YtekiemlniegddaaGreat
namespace Go.Proofs.YtekiemlniegddaaGreat
open Go Go.Maps Go.RowKit Go.Shelf
set_option maxRecDepth 100000 in
set_option maxHeartbeats 8000000 in
theorem rounds_n3 (In : Nat) (ss : List StepN) (a : Option Addr) (n c : Nat) (hnH : Hid (ss.length = n)) (hn12 : n ≤ 12) (hI : In ≤ 3) (hstH : Hid (∀ i, i < n → StepIn (stAt ss i))) (hr0H : Hid (RefOk (In : Int) ss)) (B0 : Nat) (w : World) (hB0 : B0 ≤ w.heap.size) (hr : RdSs B0 w a ss) (WW HH : Int) (M : Nat) (hMI : (M : Int) = (In : Int) + n) (hM20 : M < 20) (bp bu : Nat) (hbpw : w.heap.size ≤ bp) (hbuw : bp < bu) (U : FnL) (hUH : Hid (useF ss ss.length = U)) (bf : Nat) (hbf : w.heap.size ≤ bf) (k : Nat) (v : Value) (x : Nat → RndA) (hk : k ≤ n) (hlt : k < n) (wr : World) (hri : RdI B0 w.heap.size wr v (rdsS (In : Int) U ss k).out.length x bf (2 * k) (rdsS (In : Int) U ss k).of bu (2 * n) U M (bp) #[.int .i64 WW, .int .i64 HH, .int .i64 (In : Int), .slice a n c]) (hx : Hid (∀ q, q < (rdsS (In : Int) U ss k).out.length → (x q).r = rnAt (rdsS (In : Int) U ss k).out q)) (e1 : (stAt ss k).op = 1) (e2 : (In : Int) ≤ (stAt ss k).a) (e3 : ¬ numF (U (stAt ss k).a) = 1) (u : Nat → Value)    (hB : Below w.heap.size w wr) : Code.wp Tryz.prog (loopN Tryz.f51.body 2) (Exit.then (fun A' w' => I2 In ss a n c B0 w WW HH M bp bu bf U A' w' ∧ mu2 n A' w' < mu2 n ⟨#[u 0, .pointer (some ⟨bp, 0, none⟩), u 2, .map (some bu), u 4, u 5, u 6, u 7, v, .map (some bf), u 10, u 11, u 12, u 13, u 14, u 15, u 16, u 17, u 18, u 19, u 20, u 21, u 22, u 23, u 24, u 25, u 26, u 27, u 28, u 29, u 30, u 31, u 32, u 33, u 34, u 35, u 36, .slice a n c, .int .i64 (n : Int), .int .i64 ((k : Nat) : Int), u 40, u 41, u 42, u 43, u 44, u 45, u 46, u 47, u 48, u 49, u 50, u 51, u 52, u 53, u 54, u 55, u 56, u 57, u 58, u 59, u 60, u 61, u 62, u 63, u 64, u 65, u 66, u 67, u 68, u 69, u 70, u 71, u 72, u 73, u 74, u 75, u 76, u 77, u 78, u 79, u 80, u 81, u 82, u 83, u 84, u 85, u 86, u 87, u 88, u 89, u 90, u 91, u 92, u 93, u 94, u 95, u 96, u 97, u 98, u 99, u 100, u 101, u 102, u 103, u 104, u 105, u 106], []⟩ wr) (fun _ _ _ => False)) ⟨#[u 0, .pointer (some ⟨bp, 0, none⟩), u 2, .map (some bu), u 4, u 5, u 6, u 7, v, .map (some bf), u 10, u 11, u 12, u 13, u 14, u 15, u 16, u 17, u 18, u 19, u 20, u 21, u 22, u 23, u 24, u 25, u 26, u 27, u 28, u 29, u 30, u 31, u 32, u 33, u 34, u 35, u 36, .slice a n c, .int .i64 (n : Int), .int .i64 ((k : Nat) : Int), u 40, u 41, u 42, u 43, u 44, u 45, u 46, u 47, u 48, u 49, u 50, u 51, u 52, u 53, u 54, u 55, u 56, u 57, u 58, u 59, u 60, u 61, u 62, u 63, u 64, u 65, u 66, u 67, u 68, u 69, u 70, u 71, u 72, u 73, u 74, u 75, u 76, u 77, u 78, u 79, u 80, u 81, u 82, u 83, u 84, u 85, u 86, u 87, u 88, u 89, u 90, u 91, u 92, u 93, u 94, u 95, u 96, u 97, u 98, u 99, u 100, u 101, u 102, u 103, u 104, u 105, u 106], []⟩ wr := by
  obtain ⟨i0, hi, hz0, hz1, hz2⟩ := info_partsQ info_rnd
  obtain ⟨j0, gi, gz0, gz1, gz2⟩ := info_partsQ info_pt
  unfold loopN
  conv => arg 2; whnf
  dsimp only
  have hkl : k < ss.length := by have := hnH.out; omega
  have hs := hstH.out k hlt
  have hltd : decide ((k : Int) < (n : Int)) = true := by simp; omega
  obtain ⟨b, o, ka, kc, sa, sc, rfl, hbl, hst⟩ : ∃ b o ka kc sa sc, a = some ⟨b, o, none⟩ ∧ b < B0 ∧ StAt B0 w b (o + k * 16) (stAt ss k) ka kc sa sc := by
    rcases hr with h | ⟨b, o, h1, h2, h3⟩
    · exfalso; rw [h] at hkl; simp at hkl
    · obtain ⟨ka, kc, sa, sc, e⟩ := h3 k hkl
      exact ⟨b, o, ka, kc, sa, sc, h1, h2, e⟩
  have hrefk := hr0H.out k hkl
  have hnext : rdsS (In : Int) U ss (k + 1) = (if carB (In : Int) U (stAt ss k) = true then
        ⟨(rdsS (In : Int) U ss k).out.set (numF ((rdsS (In : Int) U ss k).of (stAt ss k).a)).toNat (carR (rnAt (rdsS (In : Int) U ss k).out (numF ((rdsS (In : Int) U ss k).of (stAt ss k).a)).toNat) (stAt ss k).pt ((In : Int) + k)),
         putF (delF (rdsS (In : Int) U ss k).of (stAt ss k).a) ((In : Int) + k) (ilit (numF ((rdsS (In : Int) U ss k).of (stAt ss k).a)))⟩
      else ⟨(rdsS (In : Int) U ss k).out ++ [⟨k, stAt ss k, [], (In : Int) + k⟩], putF (rdsS (In : Int) U ss k).of ((In : Int) + k) (ilit (rdsS (In : Int) U ss k).out.length)⟩) := rfl
  have hokk := rds_ok hr0H.out k (Nat.le_of_lt hkl)
  rw [hUH.out] at hokk
  have hofq : carB (In : Int) U (stAt ss k) = true → ∃ q : Nat, q < (rdsS (In : Int) U ss k).out.length ∧ (rdsS (In : Int) U ss k).of (stAt ss k).a = some (ilit q) ∧ (rnAt (rdsS (In : Int) U ss k).out q).pts.length ≤ k := fun h => by
    have h2 := of_here (rds_ok hr0H.out k (Nat.le_of_lt hkl)) hr0H.out hkl (by rw [hUH.out]; exact h)
    rw [hUH.out] at h2
    obtain ⟨q, h3, h4, _⟩ := h2
    have h5 := fun hq => pts_le hr0H.out (Nat.le_of_lt hkl) (q := q) hq
    rw [hUH.out] at h5
    exact ⟨q, h3, h4, h5 h3⟩
  have hokH := Lib.hid hokk
  have hlenk := hokk.len
  clear hokk
  obtain ⟨s, hse⟩ : ∃ s, stAt ss k = s := ⟨_, rfl⟩
  rw [hse] at hs hst hrefk hnext hofq e1 e2 e3
  have hseH := Lib.hid hse
  have hrefH := Lib.hid hrefk
  have hnextH := Lib.hid hnext
  clear hse hrefk hnext
  obtain ⟨hcell, hta, hbi⟩ := hst
  obtain ⟨R, hR⟩ : ∃ R, rdsS (In : Int) U ss k = R := ⟨_, rfl⟩
  rw [hR] at hri hx hnextH hokH hlenk hofq
  clear hR
  obtain ⟨N, hN⟩ : ∃ N, R.out.length = N := ⟨_, rfl⟩
  rw [hN] at hri hx hnextH hlenk hofq
  have hofqH := Lib.hid hofq
  clear hofq
  have hNH := Lib.hid hN
  clear hN
  obtain ⟨va, vc, rfl⟩ := hri.rs.slice
  obtain ⟨A, hA⟩ : ∃ A : Nat, s.a = (A : Int) := ⟨s.a.toNat, by have := hrefH.out _ (opsN_a s); omega⟩
  have hAM : A < M := by have := hrefH.out _ (opsN_a s); omega
  have c0 : wr.cell? ⟨b, o + k * 16, none⟩ = some (.int .u8 s.op) := (hB.cell (p := ⟨b, o + k * 16, none⟩) (Nat.lt_of_lt_of_le hbl hB0)).trans (hcell 0 _ rfl)
  have c1 : wr.cell? ⟨b, o + k * 16 + 1, none⟩ = some (.int .i64 s.a) := (hB.cell (p := ⟨b, o + k * 16 + 1, none⟩) (Nat.lt_of_lt_of_le hbl hB0)).trans (hcell 1 _ rfl)
  have c2 : wr.cell? ⟨b, o + k * 16 + 2, none⟩ = some (.int .i64 s.b) := (hB.cell (p := ⟨b, o + k * 16 + 2, none⟩) (Nat.lt_of_lt_of_le hbl hB0)).trans (hcell 2 _ rfl)
  have c3 : wr.cell? ⟨b, o + k * 16 + 3, none⟩ = some (.int .i64 s.pt.mul) := (hB.cell (p := ⟨b, o + k * 16 + 3, none⟩) (Nat.lt_of_lt_of_le hbl hB0)).trans (hcell 3 _ rfl)
  have c4 : wr.cell? ⟨b, o + k * 16 + 4, none⟩ = some (.int .i64 s.pt.add) := (hB.cell (p := ⟨b, o + k * 16 + 4, none⟩) (Nat.lt_of_lt_of_le hbl hB0)).trans (hcell 4 _ rfl)
  have c5 : wr.cell? ⟨b, o + k * 16 + 5, none⟩ = some (.int .i64 s.pt.div) := (hB.cell (p := ⟨b, o + k * 16 + 5, none⟩) (Nat.lt_of_lt_of_le hbl hB0)).trans (hcell 5 _ rfl)
  have c6 : wr.cell? ⟨b, o + k * 16 + 6, none⟩ = some (.int .i64 s.pt.lo) := (hB.cell (p := ⟨b, o + k * 16 + 6, none⟩) (Nat.lt_of_lt_of_le hbl hB0)).trans (hcell 6 _ rfl)
  have c7 : wr.cell? ⟨b, o + k * 16 + 7, none⟩ = some (.int .i64 s.pt.hi) := (hB.cell (p := ⟨b, o + k * 16 + 7, none⟩) (Nat.lt_of_lt_of_le hbl hB0)).trans (hcell 7 _ rfl)
  have c8 : wr.cell? ⟨b, o + k * 16 + 8, none⟩ = some (.int .u8 s.how) := (hB.cell (p := ⟨b, o + k * 16 + 8, none⟩) (Nat.lt_of_lt_of_le hbl hB0)).trans (hcell 8 _ rfl)
  have c9 : wr.cell? ⟨b, o + k * 16 + 9, none⟩ = some (.int .i64 s.kw) := (hB.cell (p := ⟨b, o + k * 16 + 9, none⟩) (Nat.lt_of_lt_of_le hbl hB0)).trans (hcell 9 _ rfl)
  have c10 : wr.cell? ⟨b, o + k * 16 + 10, none⟩ = some (.int .i64 s.kh) := (hB.cell (p := ⟨b, o + k * 16 + 10, none⟩) (Nat.lt_of_lt_of_le hbl hB0)).trans (hcell 10 _ rfl)
  have c11 : wr.cell? ⟨b, o + k * 16 + 11, none⟩ = some (.slice ka s.taps.length kc) := (hB.cell (p := ⟨b, o + k * 16 + 11, none⟩) (Nat.lt_of_lt_of_le hbl hB0)).trans (hcell 11 _ rfl)
  have c12 : wr.cell? ⟨b, o + k * 16 + 12, none⟩ = some (.int .u8 s.bd) := (hB.cell (p := ⟨b, o + k * 16 + 12, none⟩) (Nat.lt_of_lt_of_le hbl hB0)).trans (hcell 12 _ rfl)
  have c13 : wr.cell? ⟨b, o + k * 16 + 13, none⟩ = some (.int .i64 s.sw) := (hB.cell (p := ⟨b, o + k * 16 + 13, none⟩) (Nat.lt_of_lt_of_le hbl hB0)).trans (hcell 13 _ rfl)
  have c14 : wr.cell? ⟨b, o + k * 16 + 14, none⟩ = some (.int .i64 s.sh) := (hB.cell (p := ⟨b, o + k * 16 + 14, none⟩) (Nat.lt_of_lt_of_le hbl hB0)).trans (hcell 14 _ rfl)
  have c15 : wr.cell? ⟨b, o + k * 16 + 15, none⟩ = some (.slice sa s.bits.length sc) := (hB.cell (p := ⟨b, o + k * 16 + 15, none⟩) (Nat.lt_of_lt_of_le hbl hB0)).trans (hcell 15 _ rfl)
  clear hcell
  have kp := hri.kp
  obtain ⟨m0, m1, m2, m3⟩ := cz4 kp
  have hbV51 : Below wr.heap.size wr (wr.alloc (.cells #[.int .u8 s.op, .int .i64 s.a, .int .i64 s.b, .int .i64 s.pt.mul, .int .i64 s.pt.add, .int .i64 s.pt.div, .int .i64 s.pt.lo, .int .i64 s.pt.hi, .int .u8 s.how, .int .i64 s.kw, .int .i64 s.kh, .slice ka s.taps.length kc, .int .u8 s.bd, .int .i64 s.sw, .int .i64 s.sh, .slice sa s.bits.length sc] 76)) := jb_al (Below.refl _ wr) _
  have ks := Blk.new wr 76 #[.int .u8 s.op, .int .i64 s.a, .int .i64 s.b, .int .i64 s.pt.mul, .int .i64 s.pt.add, .int .i64 s.pt.div, .int .i64 s.pt.lo, .int .i64 s.pt.hi, .int .u8 s.how, .int .i64 s.kw, .int .i64 s.kh, .slice ka s.taps.length kc, .int .u8 s.bd, .int .i64 s.sw, .int .i64 s.sh, .slice sa s.bits.length sc]
  obtain ⟨V51, hEV51⟩ : ∃ X, wr.alloc (.cells #[.int .u8 s.op, .int .i64 s.a, .int .i64 s.b, .int .i64 s.pt.mul, .int .i64 s.pt.add, .int .i64 s.pt.div, .int .i64 s.pt.lo, .int .i64 s.pt.hi, .int .u8 s.how, .int .i64 s.kw, .int .i64 s.kh, .slice ka s.taps.length kc, .int .u8 s.bd, .int .i64 s.sw, .int .i64 s.sh, .slice sa s.bits.length sc] 76) = X := ⟨_, rfl⟩
  rw [hEV51] at hbV51 ks
  clear m0 m1 m2 m3
  replace kp := kp.below hbV51 kp.lt
  replace hri := hri.below hbV51
  replace hB := hB.trans (hbV51.mono hB.size)
  clear hbV51
  obtain ⟨m0, m1, m2, m3⟩ := cz4 kp
  obtain ⟨y0, y1, y2, y3, y4, y5, y6, y7, y8, y9, y10, y11, y12, y13, y14, y15⟩ := cz16 ks
  have hopr := hs.op
  have hlk := hri.um.run_look Tryz.underlying3 Tryz.underlying101 Tryz.underlying3 (zero_num _) (A : Int) (wf_num ⟨by omega, by omega⟩)
  obtain ⟨cu, hcu⟩ : ∃ c, numF (U (A : Int)) = c := ⟨_, rfl⟩
  rw [hcu] at hlk
  have hcuH := Lib.hid hcu
  have hAH := Lib.hid hA
  clear hcu
  rw [hA] at y1
  clear hA
  have e1b : (s.op == 1) = true := by simp [e1]
  have e1H := Lib.hid e1
  clear e1
  rw [hAH.out] at e2 e3
  rw [hcuH.out] at e3
  have e2n : In ≤ A := by omega
  have e2b : decide (In ≤ A) = true := decide_eq_true e2n
  have e3b : (cu == 1) = false := by simp [e3]
  have hcar : carB (In : Int) U s = false := by unfold carB; rw [hAH.out, hcuH.out, decide_eq_false e3]; simp
  have hcarH := Lib.hid hcar
  clear e2 e3 hcar
  have hksf := hri.fm.not_cells ks
  go_wp2_with (first
    | (at_mapUpdate; refine OwnF.putw _ rfl _ _ _ _ rfl Tryz.underlying3 Tryz.underlying101 bf rfl hri.fm (by omega) (In + k) (by omega) (by omega) _ _ (by first | rfl | (simp; done) | (simp; omega)) rfl (plainElem_int Tryz.underlying3 (wf_num ⟨by omega, by omega⟩)) ?_; intro w1 hv1 hg1))
  have ks1 := ks.kept hg1 (fun e => hksf (by injection e))
  obtain ⟨hri1, hb1⟩ := hri.mapf hv1 hg1
  have hB1 := hB.trans hb1
  clear hri ks hv1 hg1 hb1 hB
  clear y0 y1 y2 y3 y4 y5 y6 y7 y8 y9 y10 y11 y12 y13 y14 y15 hlk hltd
  have hri2 := hri1.below (Below.refl _ w1).drew
  have hB2 := hB1.drew
  have hS : Blk w1.drew (wr.heap.size) 76 #[.int .u8 s.op, .int .i64 s.a, .int .i64 s.b, .int .i64 s.pt.mul, .int .i64 s.pt.add, .int .i64 s.pt.div, .int .i64 s.pt.lo, .int .i64 s.pt.hi, .int .u8 s.how, .int .i64 s.kw, .int .i64 s.kh, .slice ka s.taps.length kc, .int .u8 s.bd, .int .i64 s.sw, .int .i64 s.sh, .slice sa s.bits.length sc] := ks1.below (Below.refl _ w1).drew ks1.lt
  clear hri1 hB1 ks1
  simp only [Act.put]
  refine plain_region (fun W' => Blk W' (wr.heap.size) 76 #[.int .u8 s.op, .int .i64 s.a, .int .i64 s.b, .int .i64 s.pt.mul, .int .i64 s.pt.add, .int .i64 s.pt.div, .int .i64 s.pt.lo, .int .i64 s.pt.hi, .int .u8 s.how, .int .i64 s.kw, .int .i64 s.kh, .slice ka s.taps.length kc, .int .u8 s.bd, .int .i64 s.sw, .int .i64 s.sh, .slice sa s.bits.length sc]) 9 9 (by kernel_rfl) rfl ?_
  simp only [Array.replicate_succ, Array.replicate_zero, List.push_toArray, List.nil_append, List.cons_append]
  obtain ⟨X0, hXX0⟩ : ∃ X : World, w1.drew = X := ⟨_, rfl⟩
  rw [hXX0] at hS hri2 hB2 ⊢
  clear hXX0
  refine tkz 0 rfl hS (fun w' hS' => by go_simp; rfl) ?_
  simp only [nrz]
  refine tkz 1 rfl hS (fun w' hS' => by obtain ⟨y0, y1, y2, y3, y4, y5, y6, y7, y8, y9, y10, y11, y12, y13, y14, y15⟩ := cz16 hS'; clear hS'; go_simp; rfl) ?_
  simp only [nrz]
  refine tkz 2 rfl hS (fun w' hS' => by obtain ⟨y0, y1, y2, y3, y4, y5, y6, y7, y8, y9, y10, y11, y12, y13, y14, y15⟩ := cz16 hS'; clear hS'; go_simp; rfl) ?_
  simp only [nrz]
  refine tkz 4 rfl hS (fun w' hS' => by go_simp; rfl) ?_
  simp only [nrz]
  refine step_op 3 (by kernel_rfl) rfl (fun K hK => ?_)
  rw [if_pos (by rfl)]
  go_simp
  refine (operands_own s hs ka sa kc sc X0).mono ?_
  rintro e X3 ⟨bo, oc, rfl, kq, hbo, hb3⟩
  have hS3 := hS.below hb3 hS.lt
  have hri3 := hri2.below hb3
  have hB3 := hB2.trans (hb3.mono hB2.size)
  have hbow : w.heap.size ≤ bo := Nat.le_trans hB2.size hbo
  clear hri2 hB2 hb3
  refine hK.out _ _ (fun h => hS3) ?_
  clear hK K
  try simp only [Act.put, nrz]
  refine tkz 5 rfl hS3 (fun w' hS' => by go_simp; rfl) ?_
  simp only [nrz]
  refine step_op 6 (by kernel_rfl) rfl (fun K hK => ?_)
  rw [if_pos (by rfl)]
  go_simp
  have hbA := jb_al (Below.refl _ X3) (.cells #[.int .u8 s.op, .int .i64 s.a, .int .i64 s.b, .int .i64 s.pt.mul, .int .i64 s.pt.add, .int .i64 s.pt.div, .int .i64 s.pt.lo, .int .i64 s.pt.hi, .int .u8 s.how, .int .i64 s.kw, .int .i64 s.kh, .slice ka s.taps.length kc, .int .u8 s.bd, .int .i64 s.sw, .int .i64 s.sh, .slice sa s.bits.length sc, .slice none 0 0, .slice (some ⟨bo, 0, none⟩) (opsN s).length oc, .int .i64 ((In : Int) + k)] 111)
  have ky := Blk.new X3 111 #[.int .u8 s.op, .int .i64 s.a, .int .i64 s.b, .int .i64 s.pt.mul, .int .i64 s.pt.add, .int .i64 s.pt.div, .int .i64 s.pt.lo, .int .i64 s.pt.hi, .int .u8 s.how, .int .i64 s.kw, .int .i64 s.kh, .slice ka s.taps.length kc, .int .u8 s.bd, .int .i64 s.sw, .int .i64 s.sh, .slice sa s.bits.length sc, .slice none 0 0, .slice (some ⟨bo, 0, none⟩) (opsN s).length oc, .int .i64 ((In : Int) + k)]
  have hri6 := hri3.below hbA
  have kq6 := kq.below hbA kq.lt
  have hS6 := hS3.below hbA hS3.lt
  have hB6 := hB3.trans (hbA.mono hB3.size)
  obtain ⟨by_, hby⟩ : ∃ b, X3.heap.size = b := ⟨_, rfl⟩
  obtain ⟨X6, hX6⟩ : ∃ X, X3.alloc (.cells #[.int .u8 s.op, .int .i64 s.a, .int .i64 s.b, .int .i64 s.pt.mul, .int .i64 s.pt.add, .int .i64 s.pt.div, .int .i64 s.pt.lo, .int .i64 s.pt.hi, .int .u8 s.how, .int .i64 s.kw, .int .i64 s.kh, .slice ka s.taps.length kc, .int .u8 s.bd, .int .i64 s.sw, .int .i64 s.sh, .slice sa s.bits.length sc, .slice none 0 0, .slice (some ⟨bo, 0, none⟩) (opsN s).length oc, .int .i64 ((In : Int) + k)] 111) = X := ⟨_, rfl⟩
  rw [hX6] at ky hri6 kq6 hS6 hB6 ⊢
  rw [hby] at ky ⊢
  clear hX6 hby hbA hri3 kq hS3 hB3
  refine hK.out _ _ (fun h => hS6) ?_
  clear hK K
  try simp only [Act.put, nrz]
  refine step_op 7 (by kernel_rfl) rfl (fun K hK => ?_)
  refine step_append_atQ rfl (.tmp 97) (.tmp 103) 105 rfl w.heap.size 111 i0 (.agg #[.int .u8 0, .int .i64 0, .int .i64 0, .int .i64 0, .int .i64 0, .int .i64 0, .int .i64 0, .int .i64 0, .int .u8 0, .int .i64 0, .int .i64 0, .slice none 0 0, .int .u8 0, .int .i64 0, .int .i64 0, .slice none 0 0, .slice none 0 0, .slice none 0 0, .int .i64 0]) 19 216 Tryz.underlying105 hi hz0 hz1 hz2 rfl (by decide) (.slice va N vc) N _ rfl hri6.rs.row ⟨by_, 0, none⟩ 1 1 (rndL ⟨⟨k, s, [], (In : Int) + k⟩, ka, kc, sa, sc, .slice none 0 0, bo, oc⟩) rfl rfl (blk_news ky) (rndL_one _ rfl) (by unfold maxLen; omega) (by omega) hB6.size ?_
  intro v' X7 hown7 hg7 hat7
  obtain ⟨hri7, hb7⟩ := hri6.push hown7 hg7 rfl rfl ⟨kq6, hbow⟩ ⟨hta.below hB0 hB6, hbi.below hB0 hB6⟩
  have hB7 := hB6.trans hb7
  have hS7 : Blk X7 (wr.heap.size) 76 #[.int .u8 s.op, .int .i64 s.a, .int .i64 s.b, .int .i64 s.pt.mul, .int .i64 s.pt.add, .int .i64 s.pt.div, .int .i64 s.pt.lo, .int .i64 s.pt.hi, .int .u8 s.how, .int .i64 s.kw, .int .i64 s.kh, .slice ka s.taps.length kc, .int .u8 s.bd, .int .i64 s.sw, .int .i64 s.sh, .slice sa s.bits.length sc] := (grown_trn hg7 (fun c => (Value.slice va N vc).ownBlock = some c) (fun c e => e)).blk hS6 (fun e => hS6.not_row (by decide) hri6.rs.row e.symm)
  clear hown7 hg7 hat7 hb7 hri6 kq6 ky hS6 hB6
  refine hK.out _ _ (fun h => hS7) ?_
  clear hK K
  try simp only [Act.put, nrz]
  refine tkz 8 rfl hS7 (fun w' hS' => by go_simp; rfl) ?_
  simp only [nrz]
  refine done_ops (by kernel_rfl) ?_
  have hnx : rdsS (In : Int) U ss (k + 1) = ⟨R.out ++ [⟨k, s, [], (In : Int) + k⟩], putF R.of ((In : Int) + k) (ilit N)⟩ := by rw [hnextH.out, hcarH.out]; rfl
  have hri8 : RdI B0 w.heap.size X7 v' (rdsS (In : Int) U ss (k + 1)).out.length (fun q => if q = N then ⟨⟨k, s, [], (In : Int) + k⟩, ka, kc, sa, sc, .slice none 0 0, bo, oc⟩ else x q) bf (2 * (k + 1)) (rdsS (In : Int) U ss (k + 1)).of bu (2 * n) U M (bp) #[.int .i64 WW, .int .i64 HH, .int .i64 (In : Int), .slice (some ⟨b, o, none⟩) n c] := by
    rw [hnx]
    simp only [List.length_append, List.length_singleton]
    rw [hNH.out]
    exact hri7.monof (by omega)
  have hx8 : Hid (∀ q, q < (rdsS (In : Int) U ss (k + 1)).out.length → ((fun q => if q = N then ⟨⟨k, s, [], (In : Int) + k⟩, ka, kc, sa, sc, .slice none 0 0, bo, oc⟩ else x q) q : RndA).r = rnAt (rdsS (In : Int) U ss (k + 1)).out q) := Lib.hid (by
    rw [hnx]
    simp only [List.length_append, List.length_singleton]
    rw [hNH.out]
    intro q hq
    have hxo := hx.out
    rw [rnAt_app (by rw [hNH.out]; omega), hNH.out]
    by_cases e : q = N
    · rw [if_pos e, if_pos e]
    · rw [if_neg e, if_neg e]; exact hxo q (by omega))
  clear hnx hri7
  go_wp2_with fail
  exact ⟨⟨k + 1, _, _, by omega, hri8, hx8, hB7, ex_fnQ rfl⟩, by simp [mu2, intOf]; omega⟩
end Go.Proofs.YtekiemlniegddaaGreat

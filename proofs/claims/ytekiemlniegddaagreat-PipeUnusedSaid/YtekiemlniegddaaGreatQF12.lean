/- Contracts and laws (PRv, PRw, PUs, PPl, PRo). -/
import Derived.Deep.WholeRow
import Derived.Great.Walk
import Derived.Deep.MidRow
import Derived.Deep.DeepCutAuto
import Derived.Lib.MinMax
import Derived.Test.YtekiemlniegddaaGreatQF11
set_option linter.unusedVariables false
set_option linter.unusedSimpArgs false
namespace Go.Proofs.YtekiemlniegddaaGreat
open Go Go.Maps Go.RowKit Go.Shelf
set_option maxRecDepth 100000 in
set_option maxHeartbeats 8000000 in
theorem rounds_c (In : Nat) (ss : List StepN) (a : Option Addr) (n c : Nat) (hnH : Hid (ss.length = n)) (hn12 : n ≤ 12) (hI : In ≤ 3) (hstH : Hid (∀ i, i < n → StepIn (stAt ss i))) (hr0H : Hid (RefOk (In : Int) ss)) (B0 : Nat) (w : World) (hB0 : B0 ≤ w.heap.size) (hr : RdSs B0 w a ss) (WW HH : Int) (M : Nat) (hMI : (M : Int) = (In : Int) + n) (hM20 : M < 20) (bp bu : Nat) (hbpw : w.heap.size ≤ bp) (hbuw : bp < bu) (U : FnL) (hUH : Hid (useF ss ss.length = U)) (bf : Nat) (hbf : w.heap.size ≤ bf) (k : Nat) (v : Value) (x : Nat → RndA) (hk : k ≤ n) (hlt : k < n) (wr : World) (hri : RdI B0 w.heap.size wr v (rdsS (In : Int) U ss k).out.length x bf (2 * k) (rdsS (In : Int) U ss k).of bu (2 * n) U M (bp) #[.int .i64 WW, .int .i64 HH, .int .i64 (In : Int), .slice a n c]) (hx : Hid (∀ q, q < (rdsS (In : Int) U ss k).out.length → (x q).r = rnAt (rdsS (In : Int) U ss k).out q)) (e1 : (stAt ss k).op = 1) (e2 : (In : Int) ≤ (stAt ss k).a) (e3 : numF (U (stAt ss k).a) = 1) (u : Nat → Value)    (hB : Below w.heap.size w wr) : Code.wp Tryz.prog (loopN Tryz.f51.body 2) (Exit.then (fun A' w' => I2 In ss a n c B0 w WW HH M bp bu bf U A' w' ∧ mu2 n A' w' < mu2 n ⟨#[u 0, .pointer (some ⟨bp, 0, none⟩), u 2, .map (some bu), u 4, u 5, u 6, u 7, v, .map (some bf), u 10, u 11, u 12, u 13, u 14, u 15, u 16, u 17, u 18, u 19, u 20, u 21, u 22, u 23, u 24, u 25, u 26, u 27, u 28, u 29, u 30, u 31, u 32, u 33, u 34, u 35, u 36, .slice a n c, .int .i64 (n : Int), .int .i64 ((k : Nat) : Int), u 40, u 41, u 42, u 43, u 44, u 45, u 46, u 47, u 48, u 49, u 50, u 51, u 52, u 53, u 54, u 55, u 56, u 57, u 58, u 59, u 60, u 61, u 62, u 63, u 64, u 65, u 66, u 67, u 68, u 69, u 70, u 71, u 72, u 73, u 74, u 75, u 76, u 77, u 78, u 79, u 80, u 81, u 82, u 83, u 84, u 85, u 86, u 87, u 88, u 89, u 90, u 91, u 92, u 93, u 94, u 95, u 96, u 97, u 98, u 99, u 100, u 101, u 102, u 103, u 104, u 105, u 106], []⟩ wr) (fun _ _ _ => False)) ⟨#[u 0, .pointer (some ⟨bp, 0, none⟩), u 2, .map (some bu), u 4, u 5, u 6, u 7, v, .map (some bf), u 10, u 11, u 12, u 13, u 14, u 15, u 16, u 17, u 18, u 19, u 20, u 21, u 22, u 23, u 24, u 25, u 26, u 27, u 28, u 29, u 30, u 31, u 32, u 33, u 34, u 35, u 36, .slice a n c, .int .i64 (n : Int), .int .i64 ((k : Nat) : Int), u 40, u 41, u 42, u 43, u 44, u 45, u 46, u 47, u 48, u 49, u 50, u 51, u 52, u 53, u 54, u 55, u 56, u 57, u 58, u 59, u 60, u 61, u 62, u 63, u 64, u 65, u 66, u 67, u 68, u 69, u 70, u 71, u 72, u 73, u 74, u 75, u 76, u 77, u 78, u 79, u 80, u 81, u 82, u 83, u 84, u 85, u 86, u 87, u 88, u 89, u 90, u 91, u 92, u 93, u 94, u 95, u 96, u 97, u 98, u 99, u 100, u 101, u 102, u 103, u 104, u 105, u 106], []⟩ wr := by
  obtain ⟨i0, hi, hz0, hz1, hz2⟩ := info_partsQ info_rnd
  obtain ⟨j0, gi, gz0, gz1, gz2⟩ := info_partsQ info_pt
  unfold loopN
  conv => arg 2; whnf
  dsimp only
  have hkl : k < ss.length := by have := hnH.out; omega
  have hs := hstH.out k hlt
  have hltd : decide ((k : Int) < (n : Int)) = true := by simp; omega
  obtain ⟨b, o, ka, kc, sa, sc, rfl, hbl, hst⟩ : ∃ b o ka kc sa sc, a = some ⟨b, o, none⟩ ∧ b < B0 ∧ StAt B0 w b (o + k * 16) (stAt ss k) ka kc sa sc := by
    rcases hr with h | ⟨b, o, h1, h2, h3⟩
    · exfalso; rw [h] at hkl; simp at hkl
    · obtain ⟨ka, kc, sa, sc, e⟩ := h3 k hkl
      exact ⟨b, o, ka, kc, sa, sc, h1, h2, e⟩
  have hrefk := hr0H.out k hkl
  have hnext : rdsS (In : Int) U ss (k + 1) = (if carB (In : Int) U (stAt ss k) = true then
        ⟨(rdsS (In : Int) U ss k).out.set (numF ((rdsS (In : Int) U ss k).of (stAt ss k).a)).toNat (carR (rnAt (rdsS (In : Int) U ss k).out (numF ((rdsS (In : Int) U ss k).of (stAt ss k).a)).toNat) (stAt ss k).pt ((In : Int) + k)),
         putF (delF (rdsS (In : Int) U ss k).of (stAt ss k).a) ((In : Int) + k) (ilit (numF ((rdsS (In : Int) U ss k).of (stAt ss k).a)))⟩
      else ⟨(rdsS (In : Int) U ss k).out ++ [⟨k, stAt ss k, [], (In : Int) + k⟩], putF (rdsS (In : Int) U ss k).of ((In : Int) + k) (ilit (rdsS (In : Int) U ss k).out.length)⟩) := rfl
  have hokk := rds_ok hr0H.out k (Nat.le_of_lt hkl)
  rw [hUH.out] at hokk
  have hofq : carB (In : Int) U (stAt ss k) = true → ∃ q : Nat, q < (rdsS (In : Int) U ss k).out.length ∧ (rdsS (In : Int) U ss k).of (stAt ss k).a = some (ilit q) ∧ (rnAt (rdsS (In : Int) U ss k).out q).pts.length ≤ k := fun h => by
    have h2 := of_here (rds_ok hr0H.out k (Nat.le_of_lt hkl)) hr0H.out hkl (by rw [hUH.out]; exact h)
    rw [hUH.out] at h2
    obtain ⟨q, h3, h4, _⟩ := h2
    have h5 := fun hq => pts_le hr0H.out (Nat.le_of_lt hkl) (q := q) hq
    rw [hUH.out] at h5
    exact ⟨q, h3, h4, h5 h3⟩
  have hokH := Lib.hid hokk
  have hlenk := hokk.len
  clear hokk
  obtain ⟨s, hse⟩ : ∃ s, stAt ss k = s := ⟨_, rfl⟩
  rw [hse] at hs hst hrefk hnext hofq e1 e2 e3
  have hseH := Lib.hid hse
  have hrefH := Lib.hid hrefk
  have hnextH := Lib.hid hnext
  clear hse hrefk hnext
  obtain ⟨hcell, hta, hbi⟩ := hst
  obtain ⟨R, hR⟩ : ∃ R, rdsS (In : Int) U ss k = R := ⟨_, rfl⟩
  rw [hR] at hri hx hnextH hokH hlenk hofq
  clear hR
  obtain ⟨N, hN⟩ : ∃ N, R.out.length = N := ⟨_, rfl⟩
  rw [hN] at hri hx hnextH hlenk hofq
  have hofqH := Lib.hid hofq
  clear hofq
  have hNH := Lib.hid hN
  clear hN
  obtain ⟨va, vc, rfl⟩ := hri.rs.slice
  obtain ⟨A, hA⟩ : ∃ A : Nat, s.a = (A : Int) := ⟨s.a.toNat, by have := hrefH.out _ (opsN_a s); omega⟩
  have hAM : A < M := by have := hrefH.out _ (opsN_a s); omega
  have c0 : wr.cell? ⟨b, o + k * 16, none⟩ = some (.int .u8 s.op) := (hB.cell (p := ⟨b, o + k * 16, none⟩) (Nat.lt_of_lt_of_le hbl hB0)).trans (hcell 0 _ rfl)
  have c1 : wr.cell? ⟨b, o + k * 16 + 1, none⟩ = some (.int .i64 s.a) := (hB.cell (p := ⟨b, o + k * 16 + 1, none⟩) (Nat.lt_of_lt_of_le hbl hB0)).trans (hcell 1 _ rfl)
  have c2 : wr.cell? ⟨b, o + k * 16 + 2, none⟩ = some (.int .i64 s.b) := (hB.cell (p := ⟨b, o + k * 16 + 2, none⟩) (Nat.lt_of_lt_of_le hbl hB0)).trans (hcell 2 _ rfl)
  have c3 : wr.cell? ⟨b, o + k * 16 + 3, none⟩ = some (.int .i64 s.pt.mul) := (hB.cell (p := ⟨b, o + k * 16 + 3, none⟩) (Nat.lt_of_lt_of_le hbl hB0)).trans (hcell 3 _ rfl)
  have c4 : wr.cell? ⟨b, o + k * 16 + 4, none⟩ = some (.int .i64 s.pt.add) := (hB.cell (p := ⟨b, o + k * 16 + 4, none⟩) (Nat.lt_of_lt_of_le hbl hB0)).trans (hcell 4 _ rfl)
  have c5 : wr.cell? ⟨b, o + k * 16 + 5, none⟩ = some (.int .i64 s.pt.div) := (hB.cell (p := ⟨b, o + k * 16 + 5, none⟩) (Nat.lt_of_lt_of_le hbl hB0)).trans (hcell 5 _ rfl)
  have c6 : wr.cell? ⟨b, o + k * 16 + 6, none⟩ = some (.int .i64 s.pt.lo) := (hB.cell (p := ⟨b, o + k * 16 + 6, none⟩) (Nat.lt_of_lt_of_le hbl hB0)).trans (hcell 6 _ rfl)
  have c7 : wr.cell? ⟨b, o + k * 16 + 7, none⟩ = some (.int .i64 s.pt.hi) := (hB.cell (p := ⟨b, o + k * 16 + 7, none⟩) (Nat.lt_of_lt_of_le hbl hB0)).trans (hcell 7 _ rfl)
  have c8 : wr.cell? ⟨b, o + k * 16 + 8, none⟩ = some (.int .u8 s.how) := (hB.cell (p := ⟨b, o + k * 16 + 8, none⟩) (Nat.lt_of_lt_of_le hbl hB0)).trans (hcell 8 _ rfl)
  have c9 : wr.cell? ⟨b, o + k * 16 + 9, none⟩ = some (.int .i64 s.kw) := (hB.cell (p := ⟨b, o + k * 16 + 9, none⟩) (Nat.lt_of_lt_of_le hbl hB0)).trans (hcell 9 _ rfl)
  have c10 : wr.cell? ⟨b, o + k * 16 + 10, none⟩ = some (.int .i64 s.kh) := (hB.cell (p := ⟨b, o + k * 16 + 10, none⟩) (Nat.lt_of_lt_of_le hbl hB0)).trans (hcell 10 _ rfl)
  have c11 : wr.cell? ⟨b, o + k * 16 + 11, none⟩ = some (.slice ka s.taps.length kc) := (hB.cell (p := ⟨b, o + k * 16 + 11, none⟩) (Nat.lt_of_lt_of_le hbl hB0)).trans (hcell 11 _ rfl)
  have c12 : wr.cell? ⟨b, o + k * 16 + 12, none⟩ = some (.int .u8 s.bd) := (hB.cell (p := ⟨b, o + k * 16 + 12, none⟩) (Nat.lt_of_lt_of_le hbl hB0)).trans (hcell 12 _ rfl)
  have c13 : wr.cell? ⟨b, o + k * 16 + 13, none⟩ = some (.int .i64 s.sw) := (hB.cell (p := ⟨b, o + k * 16 + 13, none⟩) (Nat.lt_of_lt_of_le hbl hB0)).trans (hcell 13 _ rfl)
  have c14 : wr.cell? ⟨b, o + k * 16 + 14, none⟩ = some (.int .i64 s.sh) := (hB.cell (p := ⟨b, o + k * 16 + 14, none⟩) (Nat.lt_of_lt_of_le hbl hB0)).trans (hcell 14 _ rfl)
  have c15 : wr.cell? ⟨b, o + k * 16 + 15, none⟩ = some (.slice sa s.bits.length sc) := (hB.cell (p := ⟨b, o + k * 16 + 15, none⟩) (Nat.lt_of_lt_of_le hbl hB0)).trans (hcell 15 _ rfl)
  clear hcell
  have kp := hri.kp
  obtain ⟨m0, m1, m2, m3⟩ := cz4 kp
  have hbV51 : Below wr.heap.size wr (wr.alloc (.cells #[.int .u8 s.op, .int .i64 s.a, .int .i64 s.b, .int .i64 s.pt.mul, .int .i64 s.pt.add, .int .i64 s.pt.div, .int .i64 s.pt.lo, .int .i64 s.pt.hi, .int .u8 s.how, .int .i64 s.kw, .int .i64 s.kh, .slice ka s.taps.length kc, .int .u8 s.bd, .int .i64 s.sw, .int .i64 s.sh, .slice sa s.bits.length sc] 76)) := jb_al (Below.refl _ wr) _
  have ks := Blk.new wr 76 #[.int .u8 s.op, .int .i64 s.a, .int .i64 s.b, .int .i64 s.pt.mul, .int .i64 s.pt.add, .int .i64 s.pt.div, .int .i64 s.pt.lo, .int .i64 s.pt.hi, .int .u8 s.how, .int .i64 s.kw, .int .i64 s.kh, .slice ka s.taps.length kc, .int .u8 s.bd, .int .i64 s.sw, .int .i64 s.sh, .slice sa s.bits.length sc]
  obtain ⟨V51, hEV51⟩ : ∃ X, wr.alloc (.cells #[.int .u8 s.op, .int .i64 s.a, .int .i64 s.b, .int .i64 s.pt.mul, .int .i64 s.pt.add, .int .i64 s.pt.div, .int .i64 s.pt.lo, .int .i64 s.pt.hi, .int .u8 s.how, .int .i64 s.kw, .int .i64 s.kh, .slice ka s.taps.length kc, .int .u8 s.bd, .int .i64 s.sw, .int .i64 s.sh, .slice sa s.bits.length sc] 76) = X := ⟨_, rfl⟩
  rw [hEV51] at hbV51 ks
  clear m0 m1 m2 m3
  replace kp := kp.below hbV51 kp.lt
  replace hri := hri.below hbV51
  replace hB := hB.trans (hbV51.mono hB.size)
  clear hbV51
  obtain ⟨m0, m1, m2, m3⟩ := cz4 kp
  obtain ⟨y0, y1, y2, y3, y4, y5, y6, y7, y8, y9, y10, y11, y12, y13, y14, y15⟩ := cz16 ks
  have hopr := hs.op
  have hlk := hri.um.run_look Tryz.underlying3 Tryz.underlying101 Tryz.underlying3 (zero_num _) (A : Int) (wf_num ⟨by omega, by omega⟩)
  obtain ⟨cu, hcu⟩ : ∃ c, numF (U (A : Int)) = c := ⟨_, rfl⟩
  rw [hcu] at hlk
  have hcuH := Lib.hid hcu
  have hAH := Lib.hid hA
  clear hcu
  rw [hA] at y1
  clear hA
  have e1b : (s.op == 1) = true := by simp [e1]
  have e1H := Lib.hid e1
  clear e1
  rw [hAH.out] at e2 e3
  rw [hcuH.out] at e3
  have e2n : In ≤ A := by omega
  have e2b : decide (In ≤ A) = true := decide_eq_true e2n
  have e3b : (cu == 1) = true := by simp [e3]
  have hcar : carB (In : Int) U s = true := by unfold carB; rw [e1H.out, hAH.out, hcuH.out, e3, decide_eq_true (show (In : Int) ≤ (A : Int) by omega)]; rfl
  have hcarH := Lib.hid hcar
  clear e2 e3 hcar
  obtain ⟨q, hqN, hqof, hqle⟩ := hofqH.out hcarH.out
  have hxq := hx.out q hqN
  rw [← hxq] at hqle
  clear hxq
  rw [hAH.out] at hqof
  have hlf := hri.fm.run_look Tryz.underlying3 Tryz.underlying101 Tryz.underlying3 (zero_num _) (A : Int) (wf_num ⟨by omega, by omega⟩)
  rw [hqof, numF_lit] at hlf
  have hqofH := Lib.hid hqof
  clear hqof
  have hksf := hri.fm.not_cells ks
  go_wp2_with (first
    | (at_delete; refine OwnF.delw _ rfl _ _ _ rfl Tryz.underlying3 Tryz.underlying101 bf rfl hri.fm A (by omega) (by omega) rfl ?_; intro w1 hv1 hg1))
  have ks1 := ks.kept hg1 (fun e => hksf (by injection e))
  obtain ⟨hri1, hb1⟩ := hri.mapf hv1 hg1
  have hB1 := hB.trans hb1
  clear hri ks hv1 hg1 hb1 hB
  clear y0 y1 y2 y3 y4 y5 y6 y7 y8 y9 y10 y11 y12 y13 y14 y15 hlk hlf hltd
  have hri2 := hri1.below (Below.refl _ w1).drew
  have hB2 := hB1.drew
  have ks2 : Blk w1.drew (wr.heap.size) 76 #[.int .u8 s.op, .int .i64 s.a, .int .i64 s.b, .int .i64 s.pt.mul, .int .i64 s.pt.add, .int .i64 s.pt.div, .int .i64 s.pt.lo, .int .i64 s.pt.hi, .int .u8 s.how, .int .i64 s.kw, .int .i64 s.kh, .slice ka s.taps.length kc, .int .u8 s.bd, .int .i64 s.sw, .int .i64 s.sh, .slice sa s.bits.length sc] := ks1.below (Below.refl _ w1).drew ks1.lt
  clear hri1 hB1 ks1
  obtain ⟨g, gc, hvs, hgB, hgl, hgc⟩ := hri2.rs.cell hqN
  obtain ⟨rfl, _, rfl⟩ : va = some ⟨g, 0, none⟩ ∧ N = N ∧ vc = gc := by injection hvs with e1 e2 e3; exact ⟨e1, rfl, e3⟩
  clear hvs
  obtain ⟨pv, hpv⟩ : ∃ v, (x q).pv = v := ⟨_, rfl⟩
  have hpc : w1.drew.cell? ⟨g, q * 19 + 16, none⟩ = some pv := by rw [← hpv]; exact hgc 16 (by omega)
  have hS : w1.drew.cell? ⟨g, q * 19 + 16, none⟩ = some pv ∧ Blk w1.drew (wr.heap.size) 76 #[.int .u8 s.op, .int .i64 s.a, .int .i64 s.b, .int .i64 s.pt.mul, .int .i64 s.pt.add, .int .i64 s.pt.div, .int .i64 s.pt.lo, .int .i64 s.pt.hi, .int .u8 s.how, .int .i64 s.kw, .int .i64 s.kh, .slice ka s.taps.length kc, .int .u8 s.bd, .int .i64 s.sw, .int .i64 s.sh, .slice sa s.bits.length sc] := ⟨hpc, ks2⟩
  have hgpv : pv.ownBlock ≠ some g := fun e => rows_apart hri2.rs.row (hri2.rs.pts q hqN) rnd_ne_pt rfl (by rw [hpv]; exact e)
  have hpvH := Lib.hid hpv
  clear ks2 hpv hpc hgc
  try simp only [Act.put]
  refine plain_region (fun W' => W'.cell? ⟨g, q * 19 + 16, none⟩ = some pv ∧ Blk W' (wr.heap.size) 76 #[.int .u8 s.op, .int .i64 s.a, .int .i64 s.b, .int .i64 s.pt.mul, .int .i64 s.pt.add, .int .i64 s.pt.div, .int .i64 s.pt.lo, .int .i64 s.pt.hi, .int .u8 s.how, .int .i64 s.kw, .int .i64 s.kh, .slice ka s.taps.length kc, .int .u8 s.bd, .int .i64 s.sw, .int .i64 s.sh, .slice sa s.bits.length sc]) 13 14 (by kernel_rfl) rfl ?_
  simp only [Array.replicate_succ, Array.replicate_zero, List.push_toArray, List.nil_append, List.cons_append]
  obtain ⟨X0, hXX0⟩ : ∃ X : World, w1.drew = X := ⟨_, rfl⟩
  rw [hXX0] at hS hri2 hB2 ⊢
  clear hXX0
  have FA0 := Lib.hid (fun w' (hS' : (fun W' => W'.cell? ⟨g, q * 19 + 16, none⟩ = some pv ∧ Blk W' (wr.heap.size) 76 #[.int .u8 s.op, .int .i64 s.a, .int .i64 s.b, .int .i64 s.pt.mul, .int .i64 s.pt.add, .int .i64 s.pt.div, .int .i64 s.pt.lo, .int .i64 s.pt.hi, .int .u8 s.how, .int .i64 s.kw, .int .i64 s.kh, .slice ka s.taps.length kc, .int .u8 s.bd, .int .i64 s.sw, .int .i64 s.sh, .slice sa s.bits.length sc]) w') => And.intro (hS'.1) (And.intro (hS'.2.cell (i := 3) rfl) (And.intro (hS'.2.cell (i := 4) rfl) (And.intro (hS'.2.cell (i := 5) rfl) (And.intro (hS'.2.cell (i := 6) rfl) (hS'.2.cell (i := 7) rfl))))))
  refine tkz 0 rfl hS (fun w' hS' => by go_simp; rfl) ?_
  simp only [nrz]
  refine tkz 1 rfl hS (fun w' hS' => by go_simp; rfl) ?_
  simp only [nrz]
  refine tkz 2 rfl hS (fun w' hS' => by go_simp; rfl) ?_
  simp only [nrz]
  refine tkz 3 rfl hS (fun w' hS' => by go_simp; rfl) ?_
  simp only [nrz]
  refine tkz 4 (v := ?bv4) rfl hS (fun w' hS' => ?by4) ?bz4
  case by4 =>
    go_simp
    try go_ints
    first
    | rfl
    | (rw [if_pos (by omega)]; done)
    | rw [if_pos ⟨by omega, by omega⟩]
  simp only [nrz]
  refine tkz 5 rfl hS (fun w' hS' => by go_simp; rfl) ?_
  simp only [nrz]
  refine tkz 6 rfl hS (fun w' hS' => by obtain ⟨e1, y3, y4, y5, y6, y7⟩ := FA0.out w' hS'; clear hS'; go_simp; rfl) ?_
  simp only [nrz]
  refine tkz 7 rfl hS (fun w' hS' => by go_simp; rfl) ?_
  simp only [nrz]
  refine tkz 8 rfl hS (fun w' hS' => by obtain ⟨e1, y3, y4, y5, y6, y7⟩ := FA0.out w' hS'; clear hS'; go_simp; rfl) ?_
  simp only [nrz]
  refine step_op 9 (by kernel_rfl) rfl (fun K hK => ?_)
  rw [if_pos (by rfl)]
  go_simp
  have hbA := jb_al (Below.refl _ X0) (.cells #[.int .i64 s.pt.mul, .int .i64 s.pt.add, .int .i64 s.pt.div, .int .i64 s.pt.lo, .int .i64 s.pt.hi] 69)
  have ky := Blk.new X0 69 #[.int .i64 s.pt.mul, .int .i64 s.pt.add, .int .i64 s.pt.div, .int .i64 s.pt.lo, .int .i64 s.pt.hi]
  have hri6 := hri2.below hbA
  have hS6 : (X0.alloc (.cells #[.int .i64 s.pt.mul, .int .i64 s.pt.add, .int .i64 s.pt.div, .int .i64 s.pt.lo, .int .i64 s.pt.hi] 69)).cell? ⟨g, q * 19 + 16, none⟩ = some pv ∧ Blk (X0.alloc (.cells #[.int .i64 s.pt.mul, .int .i64 s.pt.add, .int .i64 s.pt.div, .int .i64 s.pt.lo, .int .i64 s.pt.hi] 69)) (wr.heap.size) 76 #[.int .u8 s.op, .int .i64 s.a, .int .i64 s.b, .int .i64 s.pt.mul, .int .i64 s.pt.add, .int .i64 s.pt.div, .int .i64 s.pt.lo, .int .i64 s.pt.hi, .int .u8 s.how, .int .i64 s.kw, .int .i64 s.kh, .slice ka s.taps.length kc, .int .u8 s.bd, .int .i64 s.sw, .int .i64 s.sh, .slice sa s.bits.length sc] := ⟨cell_old hS.1, hS.2.below hbA hS.2.lt⟩
  have hB6 := hB2.trans (hbA.mono hB2.size)
  obtain ⟨by_, hby⟩ : ∃ b, X0.heap.size = b := ⟨_, rfl⟩
  obtain ⟨X6, hX6⟩ : ∃ X, X0.alloc (.cells #[.int .i64 s.pt.mul, .int .i64 s.pt.add, .int .i64 s.pt.div, .int .i64 s.pt.lo, .int .i64 s.pt.hi] 69) = X := ⟨_, rfl⟩
  rw [hX6] at ky hri6 hS6 hB6 ⊢
  rw [hby] at ky ⊢
  clear hX6 hby hbA hri2 hS hB2
  refine hK.out _ _ (fun h => hS6) ?_
  clear hK K
  try simp only [Act.put, nrz]
  refine step_op 10 (by kernel_rfl) rfl (fun K hK => ?_)
  have hrowp := hri6.rs.pts q hqN
  rw [hpvH.out] at hrowp
  refine step_append_atQ rfl (.tmp 78) (.tmp 81) 109 rfl w.heap.size 69 j0 (.agg #[.int .i64 0, .int .i64 0, .int .i64 0, .int .i64 0, .int .i64 0]) 5 40 Tryz.underlying109 gi gz0 gz1 gz2 rfl (by decide) pv (x q).r.pts.length (ptsC (x q).r.pts) rfl hrowp ⟨by_, 0, none⟩ 1 1 [.int .i64 s.pt.mul, .int .i64 s.pt.add, .int .i64 s.pt.div, .int .i64 s.pt.lo, .int .i64 s.pt.hi] rfl rfl (blk_news ky) (by simp [Value.oneCell']) (by unfold maxLen; omega) (by omega) hB6.size ?_
  intro v' X7 hown7 hg7 hat7
  obtain ⟨pa', pc', rfl⟩ := row_slice hown7
  rw [← hpvH.out] at hg7 hat7
  obtain ⟨hri7, hb7⟩ := hri6.carry hqN (p := s.pt) hown7 hg7 hat7 rfl
  rw [hpvH.out] at hg7 hat7
  have hB7 := hB6.trans hb7
  have hS7 : X7.cell? ⟨g, q * 19 + 16, none⟩ = some pv ∧ Blk X7 (wr.heap.size) 76 #[.int .u8 s.op, .int .i64 s.a, .int .i64 s.b, .int .i64 s.pt.mul, .int .i64 s.pt.add, .int .i64 s.pt.div, .int .i64 s.pt.lo, .int .i64 s.pt.hi, .int .u8 s.how, .int .i64 s.kw, .int .i64 s.kh, .slice ka s.taps.length kc, .int .u8 s.bd, .int .i64 s.sw, .int .i64 s.sh, .slice sa s.bits.length sc] := ⟨hg7.cell hS6.1 (fun e => hgpv e.symm), (grown_trn hg7 (fun c => pv.ownBlock = some c) (fun c e => e)).blk hS6.2 (fun e => by have h2 := hri6.rs.pts q hqN; rw [hpvH.out] at h2; exact hS6.2.not_row (by decide) h2 e.symm)⟩
  have f7 : X7.frozen? ⟨g, q * 19 + 16, none⟩ = false := row_frz ((grown_trn hg7 (fun c => pv.ownBlock = some c) (fun c e => e)).row hri6.rs.row (fun b hb e => by injection hb with hb; subst hb; exact hgpv e)) _
  clear hown7 hg7 hat7 hb7 hri6 ky hS6 hB6 hrowp
  refine hK.out _ _ (fun h => hS7) ?_
  clear hK K
  try simp only [Act.put, nrz]
  refine step_op 11 (by kernel_rfl) rfl (fun K hK => ?_)
  rw [if_pos (by rfl)]
  go_simp
  try rw [if_pos (by omega)]
  refine hK.out _ _ (fun h => hS7) ?_
  clear hK K
  try simp only [Act.put, nrz]
  refine tkz 12 rfl hS7 (fun w' hS' => by go_simp; rfl) ?_
  simp only [nrz]
  refine step_op 13 (by kernel_rfl) rfl (fun K hK => ?_)
  have e1 := hS7.1
  rw [if_pos (by rfl)]
  go_simp
  clear e1 f7
  refine hK.out _ _ (fun h => absurd h (by omega)) ?_
  clear hK K
  try simp only [Act.put, nrz]
  refine done_ops (by kernel_rfl) ?_
  have hvb : X7.cell? ⟨g, q * 19 + 18, none⟩ = X7.cell? ⟨g, q * 19 + 18, none⟩ := rfl
  clear hvb hS7
  obtain ⟨X8, hX8⟩ : ∃ X, X7.setCell ⟨g, q * 19 + 16, none⟩ (Value.slice pa' ((x q).r.pts.length + 1) pc') = X := ⟨_, rfl⟩
  rw [hX8] at hri7 hB7 ⊢
  obtain ⟨y, hy⟩ : ∃ y : Nat → RndA, (fun t => if t = q then { x q with pv := Value.slice pa' ((x q).r.pts.length + 1) pc', r := { (x q).r with pts := (x q).r.pts ++ [s.pt] } } else x t) = y := ⟨_, rfl⟩
  rw [hy] at hri7
  have hyH := Lib.hid hy
  clear hX8 hy
  have e18 := row_cellAt hri7.rs.row (q * 19 + 18) (flat_at (fun q j => rndCell (y q) j) hqN (by omega : 18 < 19))
  have f18 := row_frz hri7.rs.row (q * 19 + 18)
  obtain ⟨hri8, hb8⟩ := hri7.setres (q := q) ((In : Int) + (k : Int)) rfl
  have hB8 := hB7.trans hb8
  obtain ⟨X9, hX9⟩ : ∃ X, X8.setCell ⟨g, q * 19 + 18, none⟩ (.int .i64 ((In : Int) + (k : Int))) = X := ⟨_, rfl⟩
  rw [hX9] at hri8 hB8
  clear hb8
  go_wp2_with (first
    | (at_mapUpdate; refine OwnF.putw _ rfl _ _ _ _ rfl Tryz.underlying3 Tryz.underlying101 bf rfl hri8.fm (by omega) (In + k) (by omega) (by omega) _ _ (by first | rfl | (simp; done) | (simp; omega)) rfl (plainElem_int Tryz.underlying3 (wf_num ⟨by omega, by omega⟩)) ?_; intro w3 hv3 hg3))
  obtain ⟨hri9, hb9⟩ := hri8.mapf hv3 hg3
  have hB9 := hB8.trans hb9
  clear hX9 e18 f18 hri8 hb9 hv3 hg3 hri7
  have hnx : rdsS (In : Int) U ss (k + 1) = ⟨R.out.set q (carR (rnAt R.out q) s.pt ((In : Int) + k)), putF (delF R.of (A : Int)) ((In : Int) + k) (ilit q)⟩ := by rw [hnextH.out, hcarH.out, if_pos rfl, hAH.out, hqofH.out, numF_lit, Int.toNat_natCast]
  have hri10 : RdI B0 w.heap.size w3 (.slice (some ⟨g, 0, none⟩) N vc) (rdsS (In : Int) U ss (k + 1)).out.length (fun t => if t = q then { y q with r := { (y q).r with res := (In : Int) + (k : Int) } } else y t) bf (2 * (k + 1)) (rdsS (In : Int) U ss (k + 1)).of bu (2 * n) U M bp #[.int .i64 WW, .int .i64 HH, .int .i64 (In : Int), .slice (some ⟨b, o, none⟩) n c] := by
    rw [hnx]
    simp only [List.length_set]
    rw [hNH.out]
    exact hri9.monof (by omega)
  have hx10 : Hid (∀ t, t < (rdsS (In : Int) U ss (k + 1)).out.length → ((fun t => if t = q then { y q with r := { (y q).r with res := (In : Int) + (k : Int) } } else y t) t : RndA).r = rnAt (rdsS (In : Int) U ss (k + 1)).out t) := Lib.hid (by
    rw [hnx]
    simp only [List.length_set]
    rw [hNH.out]
    intro t ht
    have hxo := hx.out
    rw [rnAt_set (by rw [hNH.out]; exact hqN)]
    by_cases e : t = q
    · subst e
      rw [if_pos rfl, if_pos rfl, ← hyH.out]
      simp only [if_true]
      rw [hxo t hqN]; rfl
    · rw [if_neg e, if_neg e, ← hyH.out]
      simp only [if_neg e]
      exact hxo t (by omega))
  clear hnx hri9
  go_wp2_with fail
  exact ⟨⟨k + 1, _, _, by omega, hri10, hx10, hB9, ex_fnQ rfl⟩, by simp [mu2, intOf]; omega⟩
end Go.Proofs.YtekiemlniegddaaGreat
namespace Go.Proofs.YtekiemlniegddaaGreat
open Go Go.Maps Go.RowKit Go.Shelf
theorem then_weak {K : Act → World → Prop} {Q : Exit → Act → World → Prop} : ∀ e a w, Exit.then K (fun _ _ _ => False) e a w → Exit.then K Q e a w := by
 intro e a w h
 cases e <;> first | exact h | exact h.elim
set_option maxRecDepth 100000 in
set_option maxHeartbeats 8000000 in
theorem rounds_any (P : PipeN) (a : Option Addr) (n c : Nat) (hn : P.ss.length = n) (hn12 : n ≤ 12) (hI : 0 ≤ P.inp ∧ P.inp ≤ 3) (hst : ∀ i, i < n → StepIn (stAt P.ss i)) (hr0 : RefOk P.inp P.ss) (B0 : Nat) (w : World) (hB0 : B0 ≤ w.heap.size) (hr : RdSs B0 w a P.ss) :
  Calls Tryz.prog 51 #[pipev P a n c] w fun e w' => ∃ v x, e = .returned v ∧ OwnRs B0 w.heap.size w' v (rdsN P.inp P.ss).length x ∧ (∀ q, q < (rdsN P.inp P.ss).length → (x q).r = rnAt (rdsN P.inp P.ss) q) ∧ Below w.heap.size w w' := by
 obtain ⟨WW, HH, I, ss⟩ := P
 unfold pipev
 simp only at hn hI hst hr0 hr ⊢
 obtain ⟨M, hM⟩ : ∃ M : Nat, I.toNat + n = M := ⟨_, rfl⟩
 have hMI : (M : Int) = I + n := by omega
 have hM20 : M < 20 := by omega
 have hB : Below w.heap.size w w := Below.refl _ _
 have hnH := Lib.hid hn
 have hstH := Lib.hid hst
 have hr0H := Lib.hid hr0
 have hmm := @run_makeMap Tryz.prog
 clear hn hst hr0 hM
 obtain ⟨In, rfl⟩ : ∃ In : Nat, I = (In : Int) := ⟨I.toNat, by omega⟩
 have hI3 : In ≤ 3 := by omega
 obtain ⟨U, hU⟩ : ∃ U, useF ss ss.length = U := ⟨_, rfl⟩
 have hUH := Lib.hid hU
 obtain ⟨Rs, hRs⟩ : ∃ Rs, rdsN (In : Int) ss = Rs := ⟨_, rfl⟩
 rw [hRs]
 have hRsH := Lib.hid hRs
 clear hU hRs
 have hbV1 : Below w.heap.size w (w.alloc (.cells #[.int .i64 WW, .int .i64 HH, .int .i64 (In : Int), .slice a n c] 24)) := jb_al (Below.refl _ w) _
 have kp := Blk.new w 24 #[.int .i64 WW, .int .i64 HH, .int .i64 (In : Int), .slice a n c]
 obtain ⟨V1, hEV1⟩ : ∃ X, w.alloc (.cells #[.int .i64 WW, .int .i64 HH, .int .i64 (In : Int), .slice a n c] 24) = X := ⟨_, rfl⟩
 rw [hEV1] at hbV1 kp
 replace hB := hB.trans (hbV1.mono hB.size)
 clear hbV1
 obtain ⟨m0, m1, m2, m3⟩ := cz4 kp
 have hu := OwnF.made Tryz.prog 3 3 V1 M
 have hbm : Below V1.heap.size V1 (V1.alloc (.map #[] 0)) := jb_al (Below.refl _ V1) _
 obtain ⟨bu, hbu⟩ : ∃ b, V1.heap.size = b := ⟨_, rfl⟩
 obtain ⟨V2, hEV2⟩ : ∃ X, V1.alloc (.map #[] 0) = X := ⟨_, rfl⟩
 rw [hEV2] at hbm hu
 rw [hbu] at hu
 have hbuw : w.heap.size < bu := by rw [← hbu]; exact kp.lt
 clear m0 m1 m2 m3
 replace kp := kp.below hbm kp.lt
 replace hB := hB.trans (hbm.mono hB.size)
 clear hbm
 obtain ⟨m0, m1, m2, m3⟩ := cz4 kp
 go_enter Tryz.func51, Tryz.ntmps51
 go_wp2_with fail
 clear hEV1 hEV2 hbu
 clear m0 m1 m2 m3
 clear hmm
 refine rounds_l1 In ss a n c hnH hn12 hI3 hstH hr0H B0 w hB0 hr WW HH M hMI hM20 (w.heap.size) bu (Nat.le_refl _) hbuw V2 hu kp hB _ _ (ex_fnQ rfl) ?_
 clear hu kp hB
 rintro A wr ⟨u, rfl⟩ hu kp hB
 dsimp only
 have hmm := @run_makeMap Tryz.prog
 obtain ⟨m0, m1, m2, m3⟩ := cz4 kp
 have hv := OwnF.made Tryz.prog 3 3 wr M
 have hbm : Below wr.heap.size wr (wr.alloc (.map #[] 0)) := jb_al (Below.refl _ wr) _
 obtain ⟨bf, hbf⟩ : ∃ b, wr.heap.size = b := ⟨_, rfl⟩
 obtain ⟨V3, hEV3⟩ : ∃ X, wr.alloc (.map #[] 0) = X := ⟨_, rfl⟩
 rw [hEV3] at hbm hv
 rw [hbf] at hv
 have hbfw : w.heap.size ≤ bf := by rw [← hbf]; exact hB.size
 have hbuf : bu < bf := by rw [← hbf]; exact hu.lt
 clear m0 m1 m2 m3
 replace kp := kp.below hbm kp.lt
 replace hu := hu.below hbm
 replace hB := hB.trans (hbm.mono hB.size)
 clear hbm
 obtain ⟨m0, m1, m2, m3⟩ := cz4 kp
 go_wp2_with fail
 clear hEV3 hbf
 clear m0 m1 m2 m3
 clear hmm
 have hUn : useF ss n = U := by rw [← hUH.out, hnH.out]
 rw [hUn] at hu
 clear hUn
 have hrs := OwnRs.nil B0 w.heap.size V3 (fun _ => ⟨noRnd, none, 0, none, 0, .slice none 0 0, 0, 0⟩)
 have hri : RdI B0 w.heap.size V3 (.slice none 0 0) 0 (fun _ => ⟨noRnd, none, 0, none, 0, .slice none 0 0, 0, 0⟩) bf 0 (fun _ => none) bu (2 * n) U M (w.heap.size) #[.int .i64 WW, .int .i64 HH, .int .i64 (In : Int), .slice a n c] := ⟨hrs, hv, hu, kp, ⟨hB0, Nat.le_refl _, by omega, by omega, by omega⟩⟩
 clear hrs hv hu kp
 refine wp_loop (I2 In ss a n c B0 w WW HH M (w.heap.size) bu bf U) (mu2 n) ⟨0, _, _, Nat.zero_le _, hri, Lib.hid (fun q h => absurd h (Nat.not_lt_zero _)), hB, ex_fnQ rfl⟩ (fun A wr hI2 => ?_)
 clear hri hB u
 obtain ⟨k, v, x, hk, hri, hx, hB, u, rfl⟩ := hI2
 by_cases hlt : k < n
 case pos =>
  by_cases e1 : (stAt ss k).op = 1
  case neg => exact wp_mono (rounds_n1 In ss a n c hnH hn12 hI3 hstH hr0H B0 w hB0 hr WW HH M hMI hM20 (w.heap.size) bu (Nat.le_refl _) hbuw U hUH bf hbfw k v x hk hlt wr hri hx e1 u hB) then_weak
  case pos =>
  by_cases e2 : (In : Int) ≤ (stAt ss k).a
  case neg => exact wp_mono (rounds_n2 In ss a n c hnH hn12 hI3 hstH hr0H B0 w hB0 hr WW HH M hMI hM20 (w.heap.size) bu (Nat.le_refl _) hbuw U hUH bf hbfw k v x hk hlt wr hri hx e1 e2 u hB) then_weak
  case pos =>
  by_cases e3 : numF (U (stAt ss k).a) = 1
  case neg => exact wp_mono (rounds_n3 In ss a n c hnH hn12 hI3 hstH hr0H B0 w hB0 hr WW HH M hMI hM20 (w.heap.size) bu (Nat.le_refl _) hbuw U hUH bf hbfw k v x hk hlt wr hri hx e1 e2 e3 u hB) then_weak
  case pos => exact wp_mono (rounds_c In ss a n c hnH hn12 hI3 hstH hr0H B0 w hB0 hr WW HH M hMI hM20 (w.heap.size) bu (Nat.le_refl _) hbuw U hUH bf hbfw k v x hk hlt wr hri hx e1 e2 e3 u hB) then_weak
 case neg =>
  have hltd : decide ((k : Int) < (n : Int)) = false := by simp; omega
  have hkn : n = k := by omega
  subst hkn
  dsimp only
  have hlen : (rdsS (In : Int) U ss n).out = Rs := by rw [← hRsH.out, ← hUH.out]; unfold rdsN; rw [hnH.out]
  rw [hlen] at hri hx
  have hlenH := Lib.hid hlen
  clear hlen
  go_wp2_with fail
  go_ret
  exact ⟨v, x, rfl, hri.rs, hx.out, hB⟩
end Go.Proofs.YtekiemlniegddaaGreat
namespace Go.Proofs.YtekiemlniegddaaGreat
open Go Go.Maps Go.RowKit Go.Shelf
theorem lefF_le (last : Int) (rs : List RndN) (k : Nat) (m : Int) : 0 ≤ numF (lefF last rs k m) ∧ numF (lefF last rs k m) ≤ 1 + (k : Int) := by
 rw [lefF_num]
 have h1 : isL last m ≤ 1 := by unfold isL; split <;> omega
 have : ∀ k, cntR rs m k ≤ k := fun k => by
  induction k with
  | zero => exact Nat.le_refl _
  | succ k ih => rw [cntR]; have := inOps_le (rnAt rs k).head m; omega
 have := this k
 omega
/-- A round, opened. -/
theorem OwnRs.opn {B0 B : Nat} {W : World} {v : Value} {n : Nat} {x : Nat → RndA} (h : OwnRs B0 B W v n x) {q : Nat} (hq : q < n) :
  ∃ g c s ka kc sa sc pa np pc ub uc L m rz, v = .slice (some ⟨g, 0, none⟩) n c ∧ B ≤ g ∧ g < W.heap.size ∧ (x q).r.head = s ∧ opsN s = L ∧ L.length = m ∧ (x q).r.res = rz ∧ (x q).r.pts.length = np ∧ Blk W ub 3 (L.map (Value.int .i64)).toArray ∧
   W.ownsRow B 69 5 (.slice pa np pc) np (ptsC (x q).r.pts) ∧ (B ≤ ub ∧ (x q).pv = .slice pa np pc ∧ (x q).ub = ub ∧ (x q).ka = ka ∧ (x q).sa = sa) ∧ ∀ (j : Nat) (u : Value), ([.int .u8 s.op, .int .i64 s.a, .int .i64 s.b, .int .i64 s.pt.mul, .int .i64 s.pt.add, .int .i64 s.pt.div, .int .i64 s.pt.lo, .int .i64 s.pt.hi, .int .u8 s.how, .int .i64 s.kw, .int .i64 s.kh, .slice ka s.taps.length kc, .int .u8 s.bd, .int .i64 s.sw, .int .i64 s.sh, .slice sa s.bits.length sc, .slice pa np pc, .slice (some ⟨ub, 0, none⟩) m uc, .int .i64 rz] : List Value)[j]? = some u → W.cell? ⟨g, q * 19 + j, none⟩ = some u := by
 obtain ⟨g, c, h1, h2, h3, h4⟩ := h.cell hq
 obtain ⟨pa, pc, hpv⟩ := row_slice (h.pts q hq)
 have h5 := h.pts q hq
 rw [hpv] at h5
 refine ⟨g, c, _, (x q).ka, (x q).kc, (x q).sa, (x q).sc, pa, _, pc, (x q).ub, (x q).uc, _, _, _, h1, h2, h3, rfl, rfl, rfl, rfl, rfl, (h.uses q hq).1, h5, ⟨(h.uses q hq).2, hpv, rfl, rfl, rfl⟩, fun j u hu => ?_⟩
 have hj : j < 19 := by
  rcases Nat.lt_or_ge j 19 with h | h
  ·exact h
  ·rw [List.getElem?_eq_none (by exact h)] at hu; cases hu
 have h6 := h4 j hj
 rw [h6, ← hu]
 have h7 := rndL_at (x q) hj
 rw [← h7]
 unfold rndL
 rw [hpv]
set_option maxRecDepth 100000 in
set_option maxHeartbeats 8000000 in
theorem uses_any (P : PipeN) (a : Option Addr) (n c : Nat) (hn : P.ss.length = n) (hn12 : 1 ≤ n ∧ n ≤ 12) (hI : 0 ≤ P.inp ∧ P.inp ≤ 3) (rs : List RndN) (N : Nat) (hlen : rs.length = N) (hN : N ≤ 12) (x : Nat → RndA) (v : Value) (hx : ∀ q, q < N → (x q).r = rnAt rs q) (hkeys : ∀ q, q < N → ∀ m ∈ opsN (rnAt rs q).head, 0 ≤ m ∧ m < P.inp + n) (B0 B : Nat) (w : World) (hB0 : B0 ≤ w.heap.size) (hrs : OwnRs B0 B w v N x) :
  Calls Tryz.prog 50 #[pipev P a n c, v] w fun e w' => ∃ b, e = .returned (.map (some b)) ∧ w.heap.size ≤ b ∧ OwnF Tryz.prog 3 3 w' b 40 (lefF (P.inp + n - 1) rs N) (P.inp.toNat + n) ∧ Below w.heap.size w w' := by
 obtain ⟨WW, HH, I, ss⟩ := P
 unfold pipev
 simp only at hn hI hkeys ⊢
 have hB : Below w.heap.size w w := Below.refl _ _
 have hnH := Lib.hid hn
 have hxH := Lib.hid hx
 have hkH := Lib.hid hkeys
 have hlH := Lib.hid hlen
 have hmm := @run_makeMap Tryz.prog
 clear hn hx hkeys hlen
 obtain ⟨In, rfl⟩ : ∃ In : Nat, I = (In : Int) := ⟨I.toNat, by omega⟩
 obtain ⟨M, hM⟩ : ∃ M : Nat, In + n = M := ⟨_, rfl⟩
 have hMH := Lib.hid hM
 have hM20 : M < 20 := by omega
 have hn1M : In + n - 1 < M := by omega
 have hlast : ((In + n - 1 : Nat) : Int) = (In : Int) + n - 1 := by omega
 have hlastH := Lib.hid hlast
 clear hlast
 obtain ⟨va, vc, rfl⟩ := hrs.slice
 rw [show (In : Int).toNat + n = M by omega]
 clear hM
 have hbV1 : Below w.heap.size w (w.alloc (.cells #[.int .i64 WW, .int .i64 HH, .int .i64 (In : Int), .slice a n c] 24)) := jb_al (Below.refl _ w) _
 have kp := Blk.new w 24 #[.int .i64 WW, .int .i64 HH, .int .i64 (In : Int), .slice a n c]
 obtain ⟨V1, hEV1⟩ : ∃ X, w.alloc (.cells #[.int .i64 WW, .int .i64 HH, .int .i64 (In : Int), .slice a n c] 24) = X := ⟨_, rfl⟩
 rw [hEV1] at hbV1 kp
 replace hrs := hrs.below hbV1 (Nat.le_trans hB0 hB.size)
 replace hB := hB.trans (hbV1.mono hB.size)
 clear hbV1
 obtain ⟨m0, m1, m2, m3⟩ := cz4 kp
 have hu := OwnF.made Tryz.prog 3 3 V1 M
 have hbm : Below V1.heap.size V1 (V1.alloc (.map #[] 0)) := jb_al (Below.refl _ V1) _
 obtain ⟨bu, hbu⟩ : ∃ b, V1.heap.size = b := ⟨_, rfl⟩
 obtain ⟨V2, hEV2⟩ : ∃ X, V1.alloc (.map #[] 0) = X := ⟨_, rfl⟩
 rw [hEV2] at hbm hu
 rw [hbu] at hu
 have hbuw : w.heap.size < bu := by rw [← hbu]; exact kp.lt
 clear m0 m1 m2 m3
 replace kp := kp.below hbm kp.lt
 replace hrs := hrs.below hbm (Nat.le_trans hB0 hB.size)
 replace hB := hB.trans (hbm.mono hB.size)
 clear hbm
 obtain ⟨m0, m1, m2, m3⟩ := cz4 kp
 obtain ⟨w1, hput, hu1, hg1⟩ := hu.run_put Tryz.underlying3 Tryz.underlying101 (by omega) ((In : Int) + n - 1) (by omega) (by omega) (.int .i64 1) _ (plainElem_int Tryz.underlying3 (wf_num ⟨by omega, by omega⟩))
 go_enter Tryz.func50, Tryz.ntmps50
 go_wp2_with fail
 clear hEV1 hEV2 hbu
 clear m0 m1 m2 m3
 have hrs1 := hrs.map hu hg1 (Nat.le_trans hB0 hB.size) (by omega)
 have kp1 := kp.kept hg1 (by simp; omega)
 have hB1 := hB.grown hg1 hB.size (fun t e => by injection e with e; omega)
 have hu2 : OwnF Tryz.prog 3 3 w1 bu (1 + 2 * 0) (lefF ((In : Int) + n - 1) rs 0) M := hu1
 clear hrs kp hB hg1 hu1 hu hmm hput
 go_loopw [21] (fun i wr => ∃ k : Nat, k ≤ N ∧ i = .int .i64 (k : Int) ∧ OwnF Tryz.prog 3 3 wr bu (1 + 2 * k) (lefF ((In : Int) + n - 1) rs k) M ∧ OwnRs B0 B wr (.slice va N vc) N x ∧ Below w.heap.size w wr) (fun i _ => N - (intOf i).toNat)
 case atStart => exact ⟨0, Nat.zero_le _, rfl, hu2, hrs1, hB1⟩
 case round =>
  clear hu2 hrs1 hB1 kp1
  obtain ⟨k, hk, rfl, hu, hrs, hB⟩ := hrel
  by_cases hlt : k < N
  case neg =>
   have hltd : decide ((k : Int) < (N : Int)) = false := by simp; omega
   have hkn : N = k := by omega
   subst hkn
   have hu2 := hu.mono (n' := 40) (by omega)
   clear hu
   go_wp2_with fail
   go_ret
   exact ⟨bu, rfl, by omega, hu2, hB⟩
  case pos =>
   have hltd : decide ((k : Int) < (N : Int)) = true := by simp; omega
   obtain ⟨g, gc, s, ka, kc, sa, sc, pa, np, pc, ub, uc, L, m, rz, hvs, hgB, hgl, hs, hL, hm, hrz, hnp, kq, hpr, hxe, hgc⟩ := hrs.opn hlt
   obtain ⟨rfl, _, rfl⟩ : va = some ⟨g, 0, none⟩ ∧ N = N ∧ vc = gc := by injection hvs with e1 e2 e3; exact ⟨e1, rfl, e3⟩
   clear hvs hpr hxe
   have hstep : incL (lefF ((In : Int) + n - 1) rs k) (opsN (rnAt rs k).head) = lefF ((In : Int) + n - 1) rs (k + 1) := rfl
   have hxk := hxH.out k hlt
   have hky := hkH.out k hlt
   rw [← hxk, hs, hL] at hstep hky
   obtain ⟨ol1, ol2⟩ := opsN_len s
   rw [hL, hm] at ol1 ol2
   have hol : 1 ≤ m ∧ m ≤ 2 := by omega
   have hstepH := Lib.hid hstep
   have hkyH := Lib.hid hky
   have hmH := Lib.hid hm
   clear hs hL hm hrz hnp hstep hky hxk ol1 ol2
   have hbV11 : Below wr.heap.size wr (wr.alloc (.cells #[.int .u8 s.op, .int .i64 s.a, .int .i64 s.b, .int .i64 s.pt.mul, .int .i64 s.pt.add, .int .i64 s.pt.div, .int .i64 s.pt.lo, .int .i64 s.pt.hi, .int .u8 s.how, .int .i64 s.kw, .int .i64 s.kh, .slice ka s.taps.length kc, .int .u8 s.bd, .int .i64 s.sw, .int .i64 s.sh, .slice sa s.bits.length sc, .slice pa np pc, .slice (some ⟨ub, 0, none⟩) m uc, .int .i64 rz] 111)) := jb_al (Below.refl _ wr) _
   have ks := Blk.new wr 111 #[.int .u8 s.op, .int .i64 s.a, .int .i64 s.b, .int .i64 s.pt.mul, .int .i64 s.pt.add, .int .i64 s.pt.div, .int .i64 s.pt.lo, .int .i64 s.pt.hi, .int .u8 s.how, .int .i64 s.kw, .int .i64 s.kh, .slice ka s.taps.length kc, .int .u8 s.bd, .int .i64 s.sw, .int .i64 s.sh, .slice sa s.bits.length sc, .slice pa np pc, .slice (some ⟨ub, 0, none⟩) m uc, .int .i64 rz]
   obtain ⟨V11, hEV11⟩ : ∃ X, wr.alloc (.cells #[.int .u8 s.op, .int .i64 s.a, .int .i64 s.b, .int .i64 s.pt.mul, .int .i64 s.pt.add, .int .i64 s.pt.div, .int .i64 s.pt.lo, .int .i64 s.pt.hi, .int .u8 s.how, .int .i64 s.kw, .int .i64 s.kh, .slice ka s.taps.length kc, .int .u8 s.bd, .int .i64 s.sw, .int .i64 s.sh, .slice sa s.bits.length sc, .slice pa np pc, .slice (some ⟨ub, 0, none⟩) m uc, .int .i64 rz] 111) = X := ⟨_, rfl⟩
   rw [hEV11] at hbV11 ks
   replace hu := hu.below hbV11
   replace hrs := hrs.below hbV11 (Nat.le_trans hB0 hB.size)
   replace kq := kq.below hbV11 kq.lt
   replace hB := hB.trans (hbV11.mono hB.size)
   clear hbV11
   go_upto_region 4 with fail
   refine wp_region_lit ?_
   refine Go.Great.wpList_runTo rfl _ rfl (.pointer (some ⟨g, k * 19, none⟩)) wr (by
    go_simp
    all_goals try go_ints
    all_goals first
     | rfl
     | (rw [if_pos (by omega)]; done)
     | rw [if_pos ⟨by omega, by omega⟩]) ?_
   refine wpList_load_mid rfl 111 _ rfl g (k * 19) rfl [.int .u8 s.op, .int .i64 s.a, .int .i64 s.b, .int .i64 s.pt.mul, .int .i64 s.pt.add, .int .i64 s.pt.div, .int .i64 s.pt.lo, .int .i64 s.pt.hi, .int .u8 s.how, .int .i64 s.kw, .int .i64 s.kh, .slice ka s.taps.length kc, .int .u8 s.bd, .int .i64 s.sw, .int .i64 s.sh, .slice sa s.bits.length sc, .slice pa np pc, .slice (some ⟨ub, 0, none⟩) m uc, .int .i64 rz] _ hgc Tryz.underlying111 rfl (by kernel_rfl) ?_
   refine Go.Great.wpList_allocTo rfl _ rfl (.pointer (some ⟨wr.heap.size, 0, none⟩)) (.cells #[.int .u8 0, .int .i64 0, .int .i64 0, .int .i64 0, .int .i64 0, .int .i64 0, .int .i64 0, .int .i64 0, .int .u8 0, .int .i64 0, .int .i64 0, .slice none 0 0, .int .u8 0, .int .i64 0, .int .i64 0, .slice none 0 0, .slice none 0 0, .slice none 0 0, .int .i64 0] 111) (by kernel_rfl) ?_
   refine wpList_store_row rfl 111 _ _ rfl wr.heap.size #[.int .u8 s.op, .int .i64 s.a, .int .i64 s.b, .int .i64 s.pt.mul, .int .i64 s.pt.add, .int .i64 s.pt.div, .int .i64 s.pt.lo, .int .i64 s.pt.hi, .int .u8 s.how, .int .i64 s.kw, .int .i64 s.kh, .slice ka s.taps.length kc, .int .u8 s.bd, .int .i64 s.sw, .int .i64 s.sh, .slice sa s.bits.length sc, .slice pa np pc, .slice (some ⟨ub, 0, none⟩) m uc, .int .i64 rz] rfl rfl 111 #[.int .u8 0, .int .i64 0, .int .i64 0, .int .i64 0, .int .i64 0, .int .i64 0, .int .i64 0, .int .i64 0, .int .u8 0, .int .i64 0, .int .i64 0, .slice none 0 0, .int .u8 0, .int .i64 0, .int .i64 0, .slice none 0 0, .slice none 0 0, .slice none 0 0, .int .i64 0] (heap_alloc_last wr _) (by kernel_rfl) rfl (by simp [Value.oneCell']) ?_
   rw [World.setRow_alloc_new]
   refine wpList_nil ?_
   rw [hEV11]
   clear hEV11
   rename_i Q' K hK
   refine hK _ _ ?_
   clear hK K
   have y17 := ks.cell (i := 17) rfl
   go_wp2_with fail
   clear y17 ks hltd
   have hu0 : OwnF Tryz.prog 3 3 V11 bu (1 + 2 * k + 0) (incL (lefF ((In : Int) + n - 1) rs k) (L.take 0)) M := hu
   clear hu
   have hubN := kq.lt
   go_loopw [28] (fun i wr => ∃ j : Nat, j ≤ m ∧ i = .int .i64 (j : Int) ∧ OwnF Tryz.prog 3 3 wr bu (1 + 2 * k + j) (incL (lefF ((In : Int) + n - 1) rs k) (L.take j)) M ∧ Blk wr ub 3 (L.map (Value.int .i64)).toArray ∧ OwnRs B0 B wr (.slice (some ⟨g, 0, none⟩) N vc) N x ∧ Below w.heap.size w wr) (fun i _ => m - (intOf i).toNat)
   case atStart => exact ⟨0, Nat.zero_le _, rfl, hu0, kq, hrs, hB⟩
   case round =>
    clear hu0 kq hrs hB hubN
    obtain ⟨j, hj, rfl, hu, kq, hrs, hB⟩ := hrel
    by_cases hlt2 : j < m
    case pos =>
     have hltd : decide ((j : Int) < (m : Int)) = true := by simp; omega
     have hjL : j < L.length := by have := hmH.out; omega
     have hcj := ops_cell kq hjL
     have hbd := hkyH.out _ (List.getElem_mem hjL)
     have hnx := incL_take (F := lefF ((In : Int) + n - 1) rs k) hjL
     have hle := incL_le (L.take j) (lefF ((In : Int) + n - 1) rs k) (1 + k) (lefF_le _ rs k)
     rw [List.length_take] at hle
     rw [show L[j] = L[j]?.getD 0 by rw [List.getElem?_eq_getElem hjL]; rfl] at hbd
     have hMo := hMH.out
     obtain ⟨x', hx'⟩ : ∃ x, L[j]?.getD 0 = x := ⟨_, rfl⟩
     rw [hx'] at hcj hbd hnx
     obtain ⟨X, rfl⟩ : ∃ X : Nat, x' = (X : Int) := ⟨x'.toNat, by omega⟩
     have hXM : X < M := by omega
     clear hMo
     have hlk := hu.run_look Tryz.underlying3 Tryz.underlying101 Tryz.underlying3 (zero_num _) (X : Int) (wf_num ⟨by omega, by omega⟩)
     have hle2 := hle (X : Int)
     clear hle hx'
     unfold incF at hnx
     obtain ⟨G, hG⟩ : ∃ G, incL (lefF ((In : Int) + n - 1) rs k) (L.take j) = G := ⟨_, rfl⟩
     rw [hG] at hu hnx hlk hle2
     obtain ⟨q, hq⟩ : ∃ q, numF (G (X : Int)) = q := ⟨_, rfl⟩
     rw [hq] at hnx hlk hle2
     have hle3 : 0 ≤ q ∧ q ≤ 100 := by omega
     have hnxH := Lib.hid hnx
     have hbq := hu.not_cells kq
     clear hG hq hnx hle2
     go_wp2_with (at_mapUpdate; refine OwnF.putw _ rfl _ _ _ _ rfl Tryz.underlying3 Tryz.underlying101 bu rfl hu (by omega) X (by omega) (by omega) _ _ rfl rfl (plainElem_int Tryz.underlying3 (wf_num ⟨by omega, by omega⟩)) ?_; intro w1 hu1 hg1)
     refine ⟨⟨j + 1, by omega, by go_num, by rw [hnxH.out]; exact hu1, kq.kept hg1 (fun e => hbq (by injection e)), hrs.map hu hg1 (Nat.le_trans hB0 hB.size) (by omega), hB.grown hg1 hB.size (fun t e => by injection e with e; omega)⟩, by simp [intOf]; omega⟩
    case neg =>
     have hltd : decide ((j : Int) < (m : Int)) = false := by simp; omega
     have hjm : j = m := by omega
     subst hjm
     have hLt : L.take j = L := List.take_of_length_le (by have := hmH.out; omega)
     rw [hLt, hstepH.out] at hu
     have hu2 := hu.mono (n' := 1 + 2 * (k + 1)) (by omega)
     clear hu hLt
     go_wp2_with fail
     go_roundw
     case rel => exact ⟨k + 1, by omega, by go_num, hu2, hrs, hB⟩
     case measure => simp [intOf]; omega
end Go.Proofs.YtekiemlniegddaaGreat
namespace Go.Proofs.YtekiemlniegddaaGreat
open Go Go.Maps Go.RowKit Go.Shelf
theorem useL_take {s : PlS} {l : List Int} {j : Nat} (hj : j < l.length) : useL s (l.take (j + 1)) = useOne (useL s (l.take j)) (l[j]?.getD 0) := by
 unfold useL
 rw [List.take_succ_eq_append_getElem hj, List.foldl_append, List.getElem?_eq_getElem hj]; rfl
theorem useL_bd (l : List Int) : ∀ (s : PlS) (A C : Int), (∀ m, A ≤ numF (s.left m) ∧ numF (s.left m) ≤ C) → ∀ m, A - l.length ≤ numF ((useL s l).left m) ∧ numF ((useL s l).left m) ≤ C := by
 induction l with
 | nil => intro s A C h m; have := h m; show A - ((0 : Nat) : Int) ≤ numF (s.left m) ∧ numF (s.left m) ≤ C; omega
 | cons a l ih =>
  intro s A C h m
  have h2 := ih (useOne s a) (A - 1) C (fun m => by rw [useOne_left]; have := h m; split <;> omega) m
  show A - ((l.length + 1 : Nat) : Int) ≤ numF ((useL (useOne s a) l).left m) ∧ numF ((useL (useOne s a) l).left m) ≤ C
  omega
theorem cntR_le (rs : List RndN) (m : Int) : ∀ k, cntR rs m k ≤ k
 | 0 => Nat.le_refl _
 | k + 1 => by rw [cntR]; have := cntR_le rs m k; have := inOps_le (rnAt rs k).head m; omega
theorem plS_bd (I : Nat) (last : Int) (rs : List RndN) (k : Nat) (hk : k ≤ rs.length) (m : Int) : 0 ≤ numF ((plS I last rs k).left m) ∧ numF ((plS I last rs k).left m) ≤ 1 + (rs.length : Int) := by
 rw [plS_left]
 have h1 : isL last m ≤ 1 := by unfold isL; split <;> omega
 have h2 := cntR_mono rs m hk
 have h3 := cntR_le rs m rs.length
 omega
theorem blk_rng {W : World} {b : Nat} {t : TypeId} {cs : Array Value} (h : Blk W b t cs) : W.rangeAt b 0 cs.toList := fun j u hu => by
 rw [Nat.zero_add]; exact h.cell (by simpa using hu)
theorem wpList_callAnyQ {P : Program} {ops : Array Oper} {rest : List Oper} {o : Oper} {a : Act} {w : World} {Q : Exit → Act → World → Prop} (hg : o.guard = none) (d : Option Tmp) (hd : o.dst = d)
  (f : FuncId) (args : Array Value) (hrun : (execOp a.eval o).run P w = .ok (.enter f args) w) (R : Ending → World → Prop) (hc : Calls P f args w R)
  (h : ∀ e w', R e w' → ∃ v, e = .returned v ∧ wpList P ops Q rest (a.put d v) w') : wpList P ops Q (o :: rest) a w := by
 subst hd
 refine wpList_plain hg fun K hK => ?_
 unfold Oper.wp
 rw [hrun, Oper.upon_enter]
 refine hc.mono fun e w2 hh => ?_
 obtain ⟨v, rfl, h2⟩ := h e w2 hh
 exact hK _ _ h2
/-- What a function that 'plan' calls must do, round by round. -/
structure PlanDo (fo : Nat) (lb : Array Value) (In : Nat) (last : Int) (rs : List RndN) (N M B0 : Nat) (J : Nat → (Nat → Prop) → World → Prop) : Prop where
 frame : ∀ k S W W', J k S W → Trn (fun b => ¬ S b) W W' → J k S W'
 own : ∀ k S W, J k S W → ∀ b, S b → B0 ≤ b ∧ b < W.heap.size
 run : ∀ k S W (y : RndA) (ky : Nat) (bl : Nat), k < N → J k S W → y.r = rnAt rs k → Rd B0 W y.ka y.r.head.taps → RdB B0 W y.sa y.r.head.bits → W.ownsRow B0 69 5 y.pv y.r.pts.length (ptsC y.r.pts) → (∀ b, y.pv.ownBlock = some b → ¬ S b) →
  OwnF Tryz.prog 3 4 W bl ky (livN In last rs k) M → ¬ S bl → B0 ≤ W.heap.size →
  Calls Tryz.prog fo (#[rndv y, .map (some bl)] ++ lb) W fun e W' => (∃ vv, e = .returned vv) ∧ ∃ S', J (k + 1) S' W' ∧ Trn S W W' ∧ ∀ b, S' b → S b ∨ W.heap.size ≤ b
set_option maxRecDepth 100000 in
set_option maxHeartbeats 8000000 in
theorem plan_any (P : PipeN) (a : Option Addr) (n c : Nat) (hn : P.ss.length = n) (hn12 : 1 ≤ n ∧ n ≤ 12) (hI : 0 ≤ P.inp ∧ P.inp ≤ 3) (hst : ∀ i, i < n → StepIn (stAt P.ss i)) (hr0 : RefOk P.inp P.ss) (B0 : Nat) (w : World) (hB0 : B0 ≤ w.heap.size) (hr : RdSs B0 w a P.ss)
  (fo : Nat) (lb : Array Value) (eg : ∀ args w, (callFunc fo args).run Tryz.prog w = .ok (.enter fo args) w) (J : Nat → (Nat → Prop) → World → Prop) (last : Int) (hlast : last = P.inp + n - 1) (hdo : PlanDo fo lb P.inp.toNat (P.inp + n - 1) (rdsN P.inp P.ss) (rdsN P.inp P.ss).length (P.inp.toNat + n) B0 J) (S0 : Nat → Prop) (hJ : J 0 S0 w) :
  Calls Tryz.prog 53 #[pipev P a n c, .func (.func fo) #[] lb] w fun e w' => (∃ vv, e = .returned vv) ∧ ∃ S', J (rdsN P.inp P.ss).length S' w' ∧ Trn S0 w w' ∧ ∀ b, S' b → S0 b ∨ w.heap.size ≤ b := by
 obtain ⟨WW, HH, I, ss⟩ := P
 unfold pipev
 simp only at hn hI hst hr0 hr hdo hlast ⊢
 have hB : Below w.heap.size w w := Below.refl _ _
 have hnH := Lib.hid hn
 have hkeys : ∀ q, q < (rdsN I ss).length → ∀ m ∈ opsN (rnAt (rdsN I ss) q).head, 0 ≤ m ∧ m < I + n := fun q hq m hm => by
  have h1 := (rdsN_ok hr0).head q hq
  have h2 : (rnAt (rdsN I ss) q).head = stAt ss (rnAt (rdsN I ss) q).at_ := h1.2
  rw [h2] at hm
  have h3 := hr0 _ h1.1 m hm
  have h4 := h1.1
  rw [hn] at h4
  omega
 have hresb : ∀ q, q < (rdsN I ss).length → 0 ≤ (rnAt (rdsN I ss) q).res ∧ (rnAt (rdsN I ss) q).res < I + n := fun q hq => by
  have := res_bd hr0 hq
  rw [hn] at this
  omega
 have hNle : (rdsN I ss).length ≤ n := by have h := (rdsN_ok hr0).len; have h2 : (rdsN I ss).length ≤ ss.length := h; omega
 have hrnd := fun W h1 h2 => rounds_any ⟨WW, HH, I, ss⟩ a n c hn (by omega) hI hst hr0 B0 W h1 h2
 have huse := fun x v hx B W h1 h2 => uses_any ⟨WW, HH, I, ss⟩ a n c hn hn12 hI (rdsN I ss) _ rfl (by omega) x v hx hkeys B0 B W h1 h2
 unfold pipev at hrnd huse
 simp only at hrnd huse
 have hrndH := Lib.hid hrnd
 have hstH := Lib.hid hst
 obtain ⟨In, rfl⟩ : ∃ In : Nat, I = (In : Int) := ⟨I.toNat, by omega⟩
 obtain ⟨M, hM⟩ : ∃ M : Nat, In + n = M := ⟨_, rfl⟩
 have hMI : (M : Int) = (In : Int) + n := by omega
 have hM20 : M < 20 := by omega
 rw [show (In : Int).toNat + n = M by omega] at huse hdo
 rw [show (In : Int).toNat = In by omega] at hdo
 obtain ⟨last, hlastE⟩ : ∃ l, (In : Int) + n - 1 = l := ⟨_, rfl⟩
 rw [hlastE] at huse hdo
 obtain ⟨rs, hrs0⟩ : ∃ rs, rdsN (In : Int) ss = rs := ⟨_, rfl⟩
 rw [hrs0] at huse hdo hkeys hresb hNle hrndH ⊢
 obtain ⟨N, hN⟩ : ∃ N, rs.length = N := ⟨_, rfl⟩
 have hNH := Lib.hid hN
 rw [hN] at huse hdo hkeys hresb hNle hrndH ⊢
 have huseH := Lib.hid huse
 have hdoH := Lib.hid hdo
 have hkH := Lib.hid hkeys
 have hresH := Lib.hid hresb
 have hmm := @run_makeMap Tryz.prog
 have hSw := hdo.own 0 S0 w hJ
 have hSwH := Lib.hid hSw
 have hJH := Lib.hid hJ
 clear hn hst hr0 hkeys hresb hrnd huse hdo hM hlastE hrs0 hN hlast hJ hSw
 have hbV1 : Below w.heap.size w (w.alloc (.cells #[.int .i64 WW, .int .i64 HH, .int .i64 (In : Int), .slice a n c] 24)) := jb_al (Below.refl _ w) _
 have kp := Blk.new w 24 #[.int .i64 WW, .int .i64 HH, .int .i64 (In : Int), .slice a n c]
 obtain ⟨V1, hEV1⟩ : ∃ X, w.alloc (.cells #[.int .i64 WW, .int .i64 HH, .int .i64 (In : Int), .slice a n c] 24) = X := ⟨_, rfl⟩
 rw [hEV1] at hbV1 kp
 replace hr := hr.below hB0 (Below.mono hbV1 (by omega))
 replace hB := hB.trans (hbV1.mono hB.size)
 clear hbV1
 obtain ⟨m0, m1, m2, m3⟩ := cz4 kp
 go_enter Tryz.func53, Tryz.ntmps53
 have hle1 := hB.size
 go_wp2_with fail
 clear hEV1
 have hc := hrndH.out V1 (by omega) hr
 refine hc.mono ?_
 clear hc
 rintro e V2 ⟨v, x, rfl, hrs, hx, hb⟩
 have hle2 := hb.size
 clear m0 m1 m2 m3
 replace kp := kp.below hb kp.lt
 replace hB := hB.trans (hb.mono hB.size)
 clear hb
 clear hr
 have hb9 : w.heap.size ≤ V2.heap.size := hB.size
 have hxH := Lib.hid hx
 clear hx hrndH
 obtain ⟨BR, hBR⟩ : ∃ b, V1.heap.size = b := ⟨_, rfl⟩
 rw [hBR] at hrs hle2
 have hBRw : w.heap.size ≤ BR := by omega
 clear hBR
 obtain ⟨m0, m1, m2, m3⟩ := cz4 kp
 go_wp2_with fail
 have hc := huseH.out x v hxH.out BR V2 (by omega) hrs
 refine hc.mono ?_
 clear hc
 rintro e V3 ⟨bL, rfl, hbL, hL, hb⟩
 clear m0 m1 m2 m3
 replace kp := kp.below hb kp.lt
 replace hrs := hrs.below hb (by omega)
 replace hB := hB.trans (hb.mono hB.size)
 clear hb
 clear huseH
 obtain ⟨F0, hF0⟩ : ∃ F, lefF last rs N = F := ⟨_, rfl⟩
 rw [hF0] at hL
 have hF0H := Lib.hid hF0
 clear hF0
 have hl0 := OwnF.made Tryz.prog 3 4 V3 M
 have hbm : Below V3.heap.size V3 (V3.alloc (.map #[] 0)) := jb_al (Below.refl _ V3) _
 obtain ⟨bl, hbl⟩ : ∃ b, V3.heap.size = b := ⟨_, rfl⟩
 obtain ⟨V7, hEV7⟩ : ∃ X, V3.alloc (.map #[] 0) = X := ⟨_, rfl⟩
 rw [hEV7] at hbm hl0
 rw [hbl] at hl0
 have hblL : bL < bl := by rw [← hbl]; exact hL.lt
 replace kp := kp.below hbm kp.lt
 replace hrs := hrs.below hbm (by omega)
 replace hL := hL.below hbm
 replace hB := hB.trans (hbm.mono hB.size)
 clear hbm
 obtain ⟨m0, m1, m2, m3⟩ := cz4 kp
 go_wp2_with fail
 clear hEV7 hbl
 clear m0 m1 m2 m3
 clear hmm
 have hl0' : OwnF Tryz.prog 3 4 V7 bl 0 (livI F0 0) M := hl0
 clear hl0 kp
 go_loopw [20] (fun i wr => ∃ k : Nat, k ≤ In ∧ i = .int .i64 (k : Int) ∧ OwnF Tryz.prog 3 4 wr bl k (livI F0 k) M ∧ OwnF Tryz.prog 3 3 wr bL 40 F0 M ∧ OwnRs B0 BR wr v N x ∧ Below w.heap.size w wr) (fun i _ => In - (intOf i).toNat)
 case atStart => exact ⟨0, Nat.zero_le _, rfl, hl0', hL, hrs, hB⟩
 case round =>
  clear hl0' hL hrs hB
  obtain ⟨k, hk, rfl, hl, hL, hrs, hB⟩ := hrel
  by_cases hlt : k < In
  case pos =>
   have hltd : decide ((k : Int) < (In : Int)) = true := by simp; omega
   have hlk := hL.run_look Tryz.underlying3 Tryz.underlying101 Tryz.underlying3 (zero_num _) (k : Int) (wf_num ⟨by omega, by omega⟩)
   have hstep : livI F0 (k + 1) = if 0 < numF (F0 (k : Int)) then putF (livI F0 k) (k : Int) (.bool true) else livI F0 k := rfl
   obtain ⟨q, hq⟩ : ∃ q, numF (F0 (k : Int)) = q := ⟨_, rfl⟩
   rw [hq] at hlk hstep
   have hstepH := Lib.hid hstep
   clear hq hstep
   have hsz := hB.size
   by_cases h0 : 0 < q
   case pos =>
    have h0d : decide (0 < q) = true := decide_eq_true h0
    go_wp2_with (at_mapUpdate; refine OwnF.putw _ rfl _ _ _ _ rfl Tryz.underlying3 Tryz.underlying112 bl rfl hl (by omega) k (by omega) (by omega) _ _ rfl rfl (plainElem_bool Tryz.underlying4 true) ?_; intro w1 hl1 hg1)
    exact ⟨⟨k + 1, by omega, by go_num, by rw [hstepH.out, if_pos h0]; exact hl1, hL.kept hg1 (by simp; omega), hrs.map hl hg1 (by omega) (by omega), hB.grown hg1 hB.size (fun t e => by injection e with e; omega)⟩, by simp [intOf]; omega⟩
   case neg =>
    have h0d : decide (0 < q) = false := decide_eq_false h0
    have hl1 := hl.mono (n' := k + 1) (by omega)
    rw [show livI F0 k = livI F0 (k + 1) by rw [hstepH.out, if_neg h0]] at hl1
    clear hl
    go_wp2_with fail
    go_roundw
    case rel => exact ⟨k + 1, by omega, by go_num, hl1, hL, hrs, hB⟩
    case measure => simp [intOf]; omega
  case neg =>
   have hltd : decide ((k : Int) < (In : Int)) = false := by simp; omega
   have hkI : In = k := by omega
   subst hkI
   have e1 : (plS In last rs 0).left = F0 := by show lefF last rs rs.length = F0; rw [hNH.out]; exact hF0H.out
   have e2 : (plS In last rs 0).live = livI F0 In := by show livI (lefF last rs rs.length) In = _; rw [hNH.out, hF0H.out]
   obtain ⟨C, hC⟩ : ∃ C, wr.heap.size = C := ⟨_, rfl⟩
   have hsz := hB.size
   have hvC : ∀ b, v.ownBlock = some b → BR ≤ b ∧ b < C := fun b hb => by rw [← hC]; exact hrs.row.lt b hb
   have hpC : ∀ q, q < N → (∀ b, (x q).pv.ownBlock = some b → BR ≤ b ∧ b < C) ∧ BR ≤ (x q).ub ∧ (x q).ub < C := fun q hq => by
    rw [← hC]
    exact ⟨fun b hb => (hrs.pts q hq).lt b hb, (hrs.uses q hq).2, (hrs.uses q hq).1.lt⟩
   have hvCH := Lib.hid hvC
   have hpCH := Lib.hid hpC
   have hbLC : bL < C := by rw [← hC]; exact hL.lt
   have hblC : bl < C := by rw [← hC]; exact hl.lt
   have hJ0 := hdoH.out.frame 0 S0 w wr hJH.out (Below.trn hB (fun b => ¬ S0 b) (fun b hb _ hs => by have := (hSwH.out b hs).2; omega))
   have hT0 : Trn S0 w wr := Below.trn0 hB S0
   have hSC : Hid (∀ b, S0 b → b < w.heap.size ∨ C ≤ b) := Lib.hid (fun b hb => .inl (hSwH.out b hb).2)
   have hSS : Hid (∀ b, S0 b → S0 b ∨ w.heap.size ≤ b) := Lib.hid (fun b hb => .inl hb)
   have hszz : Hid (B0 ≤ wr.heap.size ∧ C ≤ wr.heap.size) := Lib.hid ⟨by omega, by omega⟩
   have hl9 : OwnF Tryz.prog 3 4 wr bl (4 + 0) (plS In last rs 0).live M := by rw [e2]; exact hl.mono (by omega)
   have hL9 : OwnF Tryz.prog 3 3 wr bL (40 + 2 * 0) (plS In last rs 0).left M := by rw [e1]; exact hL
   obtain ⟨va, vc, rfl⟩ := hrs.slice
   clear hlt hk hl hL hB e1 e2 hvC hpC hC hsz
   go_wp2_with fail
   clear hltd
   go_loopw [32] (fun i wr => ∃ (k : Nat) (S : Nat → Prop), k ≤ N ∧ i = .int .i64 (k : Int) ∧ J k S wr ∧ Hid (∀ b, S b → b < w.heap.size ∨ C ≤ b) ∧ Hid (∀ b, S b → S0 b ∨ w.heap.size ≤ b) ∧ OwnF Tryz.prog 3 4 wr bl (4 + k) (plS In last rs k).live M ∧ OwnF Tryz.prog 3 3 wr bL (40 + 2 * k) (plS In last rs k).left M ∧ OwnRs B0 BR wr (.slice va N vc) N x ∧ Trn S0 w wr ∧ Hid (B0 ≤ wr.heap.size ∧ C ≤ wr.heap.size)) (fun i _ => N - (intOf i).toNat)
   case atStart => exact ⟨0, S0, Nat.zero_le _, rfl, hJ0, hSC, hSS, hl9, hL9, hrs, hT0, hszz⟩
   case round =>
    clear hJ0 hSC hSS hl9 hL9 hrs hT0 hszz
    obtain ⟨k, S, hk, rfl, hJ, hSC, hSS, hl, hL, hrs, hT, hszz⟩ := hrel
    by_cases hlt : k < N
    case neg =>
     have hltd : decide ((k : Int) < (N : Int)) = false := by simp; omega
     have hkn : N = k := by omega
     subst hkn
     go_wp2_with fail
     go_end0
     exact ⟨⟨_, rfl⟩, S, hJ, hT, hSS.out⟩
    case pos =>
     have hltd : decide ((k : Int) < (N : Int)) = true := by simp; omega
     obtain ⟨hs1, hs2⟩ := hszz.out
     obtain ⟨g, gc, s, ka, kc, sa, sc, pa, np, pc, ub, uc, L, m, rz, hvs, hgB, hgl, hs, hL', hm, hrz, hnp, kq, hpr, hxe, hgc⟩ := hrs.opn hlt
     obtain ⟨rfl, _, rfl⟩ : va = some ⟨g, 0, none⟩ ∧ N = N ∧ vc = gc := by injection hvs with e1 e2 e3; exact ⟨e1, rfl, e3⟩
     clear hvs
     have hxk := hxH.out k hlt
     have hyr : (⟨(rnAt rs k).at_, s, (rnAt rs k).pts, rz⟩ : RndN) = rnAt rs k := by rw [← hs, ← hrz, hxk]
     rw [hxk] at hs hrz hnp hpr
     have hrb := hresH.out k hlt
     rw [hrz] at hrb
     obtain ⟨Z, rfl⟩ : ∃ Z : Nat, rz = (Z : Int) := ⟨rz.toNat, by omega⟩
     have hZM : Z < M := by omega
     clear hrb
     have hkk := hkH.out k hlt
     rw [hs, hL'] at hkk
     obtain ⟨ol1, ol2⟩ := opsN_len s
     rw [hL', hm] at ol1 ol2
     have hol : 1 ≤ m ∧ m ≤ 2 := by omega
     have hkkH := Lib.hid hkk
     have hmH := Lib.hid hm
     have hyrH := Lib.hid hyr
     have hsH := Lib.hid hs
     have hrzH := Lib.hid hrz
     have hnpH := Lib.hid hnp
     have hLH := Lib.hid hL'
     obtain ⟨hta, hbi⟩ := hrs.taps k hlt
     obtain ⟨hubB, hpv, hube, hkae, hsae⟩ := hxe
     rw [hkae, hxk, hs] at hta
     rw [hsae, hxk, hs] at hbi
     have hpC := hpCH.out k hlt
     rw [hpv, hube] at hpC
     obtain ⟨hpC1, _, hubC⟩ := hpC
     have hbw : ∀ b, BR ≤ b → b < C → ¬ S b := fun b h1 h2 h3 => by have := hSC.out b h3; omega
     have hSwr := hdoH.out.own k S wr hJ
     have hubS := hbw ub hubB hubC
     have hbLS := hbw bL (by omega) hbLC
     have hblS := hbw bl (by omega) hblC
     have hpS : ∀ b, (Value.slice pa np pc).ownBlock = some b → ¬ S b := fun b hb => hbw b (hpC1 b hb).1 (hpC1 b hb).2
     have hfrz := hdoH.out.frame k S
     have hrowS : Hid (∀ b, S b → B0 ≤ b) := Lib.hid (fun b hb => (hSwr b hb).1)
     have hbsS : ¬ S wr.heap.size := fun h => by have := (hSwr _ h).2; omega
     clear hs hL' hm hrz hnp hkk ol1 ol2 hyr hpv hube hkae hsae hpC1 hSwr hxk
     have hb1 : Below wr.heap.size wr (wr.alloc (.cells #[.int .u8 s.op, .int .i64 s.a, .int .i64 s.b, .int .i64 s.pt.mul, .int .i64 s.pt.add, .int .i64 s.pt.div, .int .i64 s.pt.lo, .int .i64 s.pt.hi, .int .u8 s.how, .int .i64 s.kw, .int .i64 s.kh, .slice ka s.taps.length kc, .int .u8 s.bd, .int .i64 s.sw, .int .i64 s.sh, .slice sa s.bits.length sc, .slice pa np pc, .slice (some ⟨ub, 0, none⟩) m uc, .int .i64 (Z : Int)] 111)) := jb_al (Below.refl _ wr) _
     have ks := Blk.new wr 111 #[.int .u8 s.op, .int .i64 s.a, .int .i64 s.b, .int .i64 s.pt.mul, .int .i64 s.pt.add, .int .i64 s.pt.div, .int .i64 s.pt.lo, .int .i64 s.pt.hi, .int .u8 s.how, .int .i64 s.kw, .int .i64 s.kh, .slice ka s.taps.length kc, .int .u8 s.bd, .int .i64 s.sw, .int .i64 s.sh, .slice sa s.bits.length sc, .slice pa np pc, .slice (some ⟨ub, 0, none⟩) m uc, .int .i64 (Z : Int)]
     obtain ⟨bs, hbs⟩ : ∃ b, wr.heap.size = b := ⟨_, rfl⟩
     obtain ⟨V11, hEV11⟩ : ∃ X, wr.alloc (.cells #[.int .u8 s.op, .int .i64 s.a, .int .i64 s.b, .int .i64 s.pt.mul, .int .i64 s.pt.add, .int .i64 s.pt.div, .int .i64 s.pt.lo, .int .i64 s.pt.hi, .int .u8 s.how, .int .i64 s.kw, .int .i64 s.kh, .slice ka s.taps.length kc, .int .u8 s.bd, .int .i64 s.sw, .int .i64 s.sh, .slice sa s.bits.length sc, .slice pa np pc, .slice (some ⟨ub, 0, none⟩) m uc, .int .i64 (Z : Int)] 111) = X := ⟨_, rfl⟩
     rw [hEV11] at ks hb1
     rw [hbs] at ks hbsS
     have hJ1 := hfrz wr V11 hJ (Below.trn0 hb1 _)
     have hl1 := hl.below hb1
     have hL1 := hL.below hb1
     have hrs1 := hrs.below hb1 hs1
     have hta1 := hta.below (B' := wr.heap.size) hs1 hb1
     have hbi1 := hbi.below (B' := wr.heap.size) hs1 hb1
     have hpr1 := row_below hpr hb1
     have kq1 := kq.below hb1 kq.lt
     have hT1 := hT.trans (Below.trn0 hb1 S0)
     have hsz1 := hb1.size
     clear hJ hl hL hrs hta hbi hpr kq hT hb1
     go_upto_region 12 with fail
     refine wp_region_lit ?_
     refine Go.Great.wpList_runTo rfl _ rfl (.pointer (some ⟨g, k * 19, none⟩)) wr (by
      go_simp
      all_goals try go_ints
      all_goals first
       | rfl
       | (rw [if_pos (by omega)]; done)
       | rw [if_pos ⟨by omega, by omega⟩]) ?_
     refine wpList_load_mid rfl 111 _ rfl g (k * 19) rfl [.int .u8 s.op, .int .i64 s.a, .int .i64 s.b, .int .i64 s.pt.mul, .int .i64 s.pt.add, .int .i64 s.pt.div, .int .i64 s.pt.lo, .int .i64 s.pt.hi, .int .u8 s.how, .int .i64 s.kw, .int .i64 s.kh, .slice ka s.taps.length kc, .int .u8 s.bd, .int .i64 s.sw, .int .i64 s.sh, .slice sa s.bits.length sc, .slice pa np pc, .slice (some ⟨ub, 0, none⟩) m uc, .int .i64 (Z : Int)] _ hgc Tryz.underlying111 rfl (by kernel_rfl) ?_
     refine Go.Great.wpList_allocTo rfl _ rfl (.pointer (some ⟨wr.heap.size, 0, none⟩)) (.cells #[.int .u8 0, .int .i64 0, .int .i64 0, .int .i64 0, .int .i64 0, .int .i64 0, .int .i64 0, .int .i64 0, .int .u8 0, .int .i64 0, .int .i64 0, .slice none 0 0, .int .u8 0, .int .i64 0, .int .i64 0, .slice none 0 0, .slice none 0 0, .slice none 0 0, .int .i64 0] 111) (by kernel_rfl) ?_
     refine wpList_store_row rfl 111 _ _ rfl wr.heap.size #[.int .u8 s.op, .int .i64 s.a, .int .i64 s.b, .int .i64 s.pt.mul, .int .i64 s.pt.add, .int .i64 s.pt.div, .int .i64 s.pt.lo, .int .i64 s.pt.hi, .int .u8 s.how, .int .i64 s.kw, .int .i64 s.kh, .slice ka s.taps.length kc, .int .u8 s.bd, .int .i64 s.sw, .int .i64 s.sh, .slice sa s.bits.length sc, .slice pa np pc, .slice (some ⟨ub, 0, none⟩) m uc, .int .i64 (Z : Int)] rfl rfl 111 #[.int .u8 0, .int .i64 0, .int .i64 0, .int .i64 0, .int .i64 0, .int .i64 0, .int .i64 0, .int .i64 0, .int .u8 0, .int .i64 0, .int .i64 0, .slice none 0 0, .int .u8 0, .int .i64 0, .int .i64 0, .slice none 0 0, .slice none 0 0, .slice none 0 0, .int .i64 0] (heap_alloc_last wr _) (by kernel_rfl) rfl (by simp [Value.oneCell']) ?_
     rw [World.setRow_alloc_new]
     refine wpList_nil ?_
     rw [hEV11]
     clear hEV11
     rename_i Q' K hK
     refine hK _ _ ?_
     clear hK K
     rw [hbs]
     have y18 := ks.cell (i := 18) rfl
     go_upto_region 14 with (at_mapUpdate; refine OwnF.putw _ rfl _ _ _ _ rfl Tryz.underlying3 Tryz.underlying112 bl rfl hl1 (by omega) Z (by omega) (by omega) _ _ rfl rfl (plainElem_bool Tryz.underlying4 true) ?_; intro w1 hl2 hg1)
     have ks2 := ks.kept hg1 (fun e => hl1.not_cells ks (by injection e))
     have kq2 := kq1.kept hg1 (fun e => hl1.not_cells kq1 (by injection e))
     have hL2 := hL1.kept hg1 (by simp; omega)
     have hrs2 := hrs1.map hl1 hg1 (by omega) (by omega)
     have hbl1 := (Below.refl B0 V11).grown hg1 (by omega) (fun t e => by injection e with e; omega)
     have hta2 := hta1.below (Nat.le_refl _) hbl1
     have hbi2 := hbi1.below (Nat.le_refl _) hbl1
     have hpr2 := (grown_trn hg1 (fun c => c = bl) (fun c e => by injection e with e; exact e.symm)).row hpr1 (fun c hc e => by subst e; exact hl1.not_row hpr1 hc)
     have hJ2 := hfrz V11 w1 hJ1 (grown_trn hg1 (fun b => ¬ S b) (fun c e h => by injection e with e; subst e; exact hblS h))
     have hT2 := hT1.step (grown_trn hg1 (fun c => c = bl) (fun c e => by injection e with e; exact e.symm)) (fun b e => .inr (by omega))
     have hsz2 := hg1.size
     have hlv : livN In last rs k = putF (plS In last rs k).live (Z : Int) (.bool true) := by unfold livN; rw [hrzH.out]
     have hpr3 : w1.ownsRow B0 69 5 (.slice pa np pc) (rnAt rs k).pts.length (ptsC (rnAt rs k).pts) := by rw [hnpH.out]; exact jrow_weaken hpr2 (by omega)
     have hc := hdoH.out.run k S w1 ⟨⟨(rnAt rs k).at_, s, (rnAt rs k).pts, (Z : Int)⟩, ka, kc, sa, sc, .slice pa np pc, ub, uc⟩ _ bl hlt hJ2 hyrH.out hta2 hbi2 hpr3 hpS (by rw [hlv]; exact hl2) hblS (by omega)
     unfold rndv at hc
     dsimp only at hc
     rw [hLH.out, hmH.out] at hc
     have hcH := Lib.hid hc
     clear hc y18 hl1 hL1 hrs1 hta1 hbi1 hpr1 kq1 hJ1 hT1 hta2 hbi2 hpr2 hpr3 ks
     try simp only [Act.put]
     refine wp_region_lit ?_
     refine Go.Great.wpList_runTo rfl _ rfl (.func (.func fo) #[] lb) w1 rfl ?_
     simp only [Act.put, nrz]
     refine wpList_load_mid rfl 111 _ rfl bs 0 rfl [.int .u8 s.op, .int .i64 s.a, .int .i64 s.b, .int .i64 s.pt.mul, .int .i64 s.pt.add, .int .i64 s.pt.div, .int .i64 s.pt.lo, .int .i64 s.pt.hi, .int .u8 s.how, .int .i64 s.kw, .int .i64 s.kh, .slice ka s.taps.length kc, .int .u8 s.bd, .int .i64 s.sw, .int .i64 s.sh, .slice sa s.bits.length sc, .slice pa np pc, .slice (some ⟨ub, 0, none⟩) m uc, .int .i64 (Z : Int)] _ (blk_rng ks2) Tryz.underlying111 rfl (by kernel_rfl) ?_
     simp only [Act.put, nrz]
     refine Go.Great.wpList_runTo rfl _ rfl (.map (some bl)) w1 rfl ?_
     simp only [Act.put, nrz]
     go_upto_region 15 with (go_at_fn fo; refine hcH.out.mono ?_; rintro e w2 ⟨⟨vv, rfl⟩, S', hJ', hT', hS'⟩)
     clear hcH
     have hl3 := hl2.trn hT' hblS
     have hL3 := hL2.trn hT' hbLS
     have ks3 := hT'.blk ks2 hbsS
     have kq3 := hT'.blk kq2 hubS
     have hrs3 := hrs2.trn hT' (by omega) (fun b hb h => by have := hrowS.out b h; omega) (fun b hb => hbw b (hvCH.out b hb).1 (hvCH.out b hb).2) (fun q hq => ⟨fun b hb => hbw b ((hpCH.out q hq).1 b hb).1 ((hpCH.out q hq).1 b hb).2, hbw _ (hpCH.out q hq).2.1 (hpCH.out q hq).2.2⟩)
     have hT3 := hT2.step hT' hSS.out
     have hsz3 := hT'.size
     have hSC3 : Hid (∀ b, S' b → b < w.heap.size ∨ C ≤ b) := Lib.hid (fun b hb => by
      rcases hS' b hb with h | h
      ·exact hSC.out b h
      ·right; omega)
     have hSS3 : Hid (∀ b, S' b → S0 b ∨ w.heap.size ≤ b) := Lib.hid (fun b hb => by
      rcases hS' b hb with h | h
      ·exact hSS.out b h
      ·right; omega)
     have hbLS3 : ¬ S' bL := fun h => by have := hSC3.out bL h; omega
     have hblS3 : ¬ S' bl := fun h => by have := hSC3.out bl h; omega
     obtain ⟨s0, hs0⟩ : ∃ s0 : PlS, s0 = ⟨(plS In last rs k).left, putF (plS In last rs k).live (Z : Int) (.bool true)⟩ := ⟨_, rfl⟩
     have hs0l : s0.left = (plS In last rs k).left := by rw [hs0]
     have hs0v : s0.live = putF (plS In last rs k).live (Z : Int) (.bool true) := by rw [hs0]
     have hbd : ∀ m, 0 ≤ numF (s0.left m) ∧ numF (s0.left m) ≤ 1 + (N : Int) := fun m => by
      rw [hs0l]
      have h1 := hNH.out
      have h2 := plS_bd In last rs k (by omega) m
      rw [h1] at h2
      exact h2
     have hnext : plS In last rs (k + 1) = ⟨(useL s0 L).left, if numF ((useL s0 L).left (Z : Int)) = 0 then delF (useL s0 L).live (Z : Int) else (useL s0 L).live⟩ := by
      show (let s1 := useL ⟨(plS In last rs k).left, putF (plS In last rs k).live (rnAt rs k).res (.bool true)⟩ (opsN (rnAt rs k).head); (⟨s1.left, if numF (s1.left (rnAt rs k).res) = 0 then delF s1.live (rnAt rs k).res else s1.live⟩ : PlS)) = _
      rw [hrzH.out, hsH.out, hLH.out, ← hs0]
     have hnextH := Lib.hid hnext
     have hbdH := Lib.hid hbd
     rw [← hs0l] at hL3
     rw [← hs0v] at hl3
     clear hnext hbd hs0 hs0l hs0v hlv hl2 hL2 ks2 kq2 hrs2 hT' hT2 hSS hSC hS' hg1 hbl1 hJ2 hgc hbw hpS hfrz
     have y17 := ks3.cell (i := 17) rfl
     try simp only [Act.put]
     go_wp2_with fail
     clear y17
     have hL4 : OwnF Tryz.prog 3 3 w2 bL (40 + 2 * k + 0) (useL s0 (L.take 0)).left M := hL3
     have hl4 : OwnF Tryz.prog 3 4 w2 bl (5 + k) (useL s0 (L.take 0)).live M := hl3.mono (by omega)
     have hT4 : Trn (fun b => b = bL ∨ b = bl) w2 w2 := Trn.refl _ _
     have hbLbs := hL3.not_cells ks3
     have hblbs := hl3.not_cells ks3
     have hbLub := hL3.not_cells kq3
     have hblub := hl3.not_cells kq3
     clear hL3 hl3 hltd
     go_loopw [46] (fun i wr => ∃ j : Nat, j ≤ m ∧ i = .int .i64 (j : Int) ∧ OwnF Tryz.prog 3 3 wr bL (40 + 2 * k + j) (useL s0 (L.take j)).left M ∧ OwnF Tryz.prog 3 4 wr bl (5 + k) (useL s0 (L.take j)).live M ∧ Blk wr ub 3 (L.map (Value.int .i64)).toArray ∧ Blk wr bs 111 #[.int .u8 s.op, .int .i64 s.a, .int .i64 s.b, .int .i64 s.pt.mul, .int .i64 s.pt.add, .int .i64 s.pt.div, .int .i64 s.pt.lo, .int .i64 s.pt.hi, .int .u8 s.how, .int .i64 s.kw, .int .i64 s.kh, .slice ka s.taps.length kc, .int .u8 s.bd, .int .i64 s.sw, .int .i64 s.sh, .slice sa s.bits.length sc, .slice pa np pc, .slice (some ⟨ub, 0, none⟩) m uc, .int .i64 (Z : Int)] ∧ OwnRs B0 BR wr (.slice (some ⟨g, 0, none⟩) N vc) N x ∧ Trn (fun b => b = bL ∨ b = bl) w2 wr) (fun i _ => m - (intOf i).toNat)
     case atStart => exact ⟨0, Nat.zero_le _, rfl, hL4, hl4, kq3, ks3, hrs3, hT4⟩
     case round =>
      clear hL4 hl4 kq3 ks3 hrs3 hT4
      obtain ⟨j, hj, rfl, hL, hl, kq, ks, hrs, hT4⟩ := hrel
      have hsz4 := hT4.size
      by_cases hlt2 : j < m
      case pos =>
       have hltd : decide ((j : Int) < (m : Int)) = true := by simp; omega
       have hjL : j < L.length := by have := hmH.out; omega
       have hcj := ops_cell kq hjL
       have hbdx := hkkH.out _ (List.getElem_mem hjL)
       have hnx := useL_take (s := s0) hjL
       have hle := useL_bd (L.take j) s0 0 (1 + N) hbdH.out
       rw [List.length_take] at hle
       rw [show L[j] = L[j]?.getD 0 by rw [List.getElem?_eq_getElem hjL]; rfl] at hbdx
       obtain ⟨x', hx'⟩ : ∃ x, L[j]?.getD 0 = x := ⟨_, rfl⟩
       rw [hx'] at hcj hbdx hnx
       obtain ⟨X, rfl⟩ : ∃ X : Nat, x' = (X : Int) := ⟨x'.toNat, by omega⟩
       have hXM : X < M := by omega
       have hlk := hL.run_look Tryz.underlying3 Tryz.underlying101 Tryz.underlying3 (zero_num _) (X : Int) (wf_num ⟨by omega, by omega⟩)
       have hle2 := hle (X : Int)
       clear hle hx' hbdx
       unfold useOne at hnx
       obtain ⟨s1, hs1⟩ : ∃ s, useL s0 (L.take j) = s := ⟨_, rfl⟩
       rw [hs1] at hL hl hnx hlk hle2
       obtain ⟨q, hq⟩ : ∃ q, numF (s1.left (X : Int)) = q := ⟨_, rfl⟩
       rw [hq] at hnx hlk hle2
       have hle3 : -3 ≤ q ∧ q ≤ 100 := by omega
       have hnxH := Lib.hid hnx
       clear hs1 hq hnx hle2
       have hbLl : bL ≠ bl := by omega
       by_cases hq1 : q - 1 = 0
       case neg =>
        have hq1d : (q - 1 == 0) = false := by simp; omega
        have hq1H := Lib.hid hq1
        clear hq1
        go_wp2_with (at_mapUpdate; refine OwnF.putw _ rfl _ _ _ _ rfl Tryz.underlying3 Tryz.underlying101 bL rfl hL (by omega) X (by omega) (by omega) _ _ rfl rfl (plainElem_int Tryz.underlying3 (wf_num ⟨by omega, by omega⟩)) ?_; intro w3 hL5 hg3; have hlk3 := hL5.run_look Tryz.underlying3 Tryz.underlying101 Tryz.underlying3 (zero_num _) (X : Int) (wf_num ⟨by omega, by omega⟩); rw [putF_same, numF_lit] at hlk3)
        exact ⟨⟨j + 1, by omega, by go_num, by rw [hnxH.out]; exact hL5, by rw [hnxH.out, if_neg hq1H.out]; exact hl.kept hg3 (by simp; omega), kq.kept hg3 (by simp; exact hbLub), ks.kept hg3 (by simp; exact hbLbs), hrs.map hL hg3 (by omega) (by omega), hT4.trans (grown_trn hg3 _ (fun c e => .inl (by injection e with e; exact e.symm)))⟩, by simp [intOf]; omega⟩
       case pos =>
        have hq1d : (q - 1 == 0) = true := by simp; omega
        have hq1H := Lib.hid hq1
        clear hq1
        go_wp2_with (first
         | (at_mapUpdate; refine OwnF.putw _ rfl _ _ _ _ rfl Tryz.underlying3 Tryz.underlying101 bL rfl hL (by omega) X (by omega) (by omega) _ _ rfl rfl (plainElem_int Tryz.underlying3 (wf_num ⟨by omega, by omega⟩)) ?_; intro w3 hL5 hg3; have hlk3 := hL5.run_look Tryz.underlying3 Tryz.underlying101 Tryz.underlying3 (zero_num _) (X : Int) (wf_num ⟨by omega, by omega⟩); rw [putF_same, numF_lit] at hlk3; have hl5 := hl.kept hg3 (by simp; omega))
         | (at_delete; refine OwnF.delw _ rfl _ _ _ rfl Tryz.underlying3 Tryz.underlying112 bl rfl hl5 X (by omega) (by omega) rfl ?_; intro w4 hl6 hg4))
        exact ⟨⟨j + 1, by omega, by go_num, by rw [hnxH.out]; exact hL5.kept hg4 (by simp; omega), by rw [hnxH.out, if_pos hq1H.out]; exact hl6, (kq.kept hg3 (by simp; exact hbLub)).kept hg4 (by simp; exact hblub), (ks.kept hg3 (by simp; exact hbLbs)).kept hg4 (by simp; exact hblbs), (hrs.map hL hg3 (by omega) (by omega)).map hl5 hg4 (by have := hg3.size; omega) (by omega), (hT4.trans (grown_trn hg3 _ (fun c e => .inl (by injection e with e; exact e.symm)))).trans (grown_trn hg4 _ (fun c e => .inr (by injection e with e; exact e.symm)))⟩, by simp [intOf]; omega⟩
      case neg =>
       have hltd : decide ((j : Int) < (m : Int)) = false := by simp; omega
       have hjm : j = m := by omega
       subst hjm
       have hLt : L.take j = L := List.take_of_length_le (by have := hmH.out; omega)
       rw [hLt] at hL hl
       clear hLt
       have hle := useL_bd L s0 0 (1 + N) hbdH.out (Z : Int)
       have hlk := hL.run_look Tryz.underlying3 Tryz.underlying101 Tryz.underlying3 (zero_num _) (Z : Int) (wf_num ⟨by omega, by omega⟩)
       obtain ⟨q, hq⟩ : ∃ q, numF ((useL s0 L).left (Z : Int)) = q := ⟨_, rfl⟩
       rw [hq] at hlk
       have hqH := Lib.hid hq
       clear hq hle
       have y18 := ks.cell (i := 18) rfl
       have hJ4 := hdoH.out.frame (k + 1) S' w2 wr hJ' (hT4.mono (fun b _ h hs => by rcases h with h | h; subst h; exact hbLS3 hs; subst h; exact hblS3 hs))
       have hT5 := hT3.step hT4 (fun b h => .inr (by omega))
       have hL6 := hL.mono (n' := 40 + 2 * (k + 1)) (by omega)
       have hl7 := hl.mono (n' := 4 + (k + 1)) (by omega)
       by_cases hq0 : q = 0
       case neg =>
        have hq0d : (q == 0) = false := by simp [hq0]
        have hq0H := Lib.hid hq0
        clear hq0 hl hL
        rw [show (useL s0 L).live = (plS In last rs (k + 1)).live by rw [hnextH.out, hqH.out, if_neg hq0H.out]] at hl7
        rw [show (useL s0 L).left = (plS In last rs (k + 1)).left by rw [hnextH.out]] at hL6
        go_wp2_with fail
        go_roundw
        case rel => exact ⟨k + 1, S', by omega, by go_num, hJ4, hSC3, hSS3, hl7, hL6, hrs, hT5, Lib.hid ⟨by omega, by omega⟩⟩
        case measure => simp [intOf]; omega
       case pos =>
        have hq0d : (q == 0) = true := by simp [hq0]
        have hq0H := Lib.hid hq0
        clear hq0 hl
        go_wp2_with (at_delete; refine OwnF.delw _ rfl _ _ _ rfl Tryz.underlying3 Tryz.underlying112 bl rfl hl7 Z (by omega) (by omega) rfl ?_; intro w4 hl8 hg4)
        rw [show delF (useL s0 L).live (Z : Int) = (plS In last rs (k + 1)).live by rw [hnextH.out, hqH.out, if_pos hq0H.out]] at hl8
        have hL8 := hL6.kept hg4 (by simp; omega)
        rw [show (useL s0 L).left = (plS In last rs (k + 1)).left by rw [hnextH.out]] at hL8
        have hk4 := grown_trn hg4 (fun c => c = bl) (fun c e => by injection e with e; exact e.symm)
        exact ⟨⟨k + 1, S', by omega, by go_num, hdoH.out.frame (k + 1) S' wr w4 hJ4 (hk4.mono (fun b _ h hs => by subst h; exact hblS3 hs)), hSC3, hSS3, hl8, hL8, hrs.map hl7 hg4 (by omega) (by omega), hT5.step hk4 (fun b h => .inr (by omega)), Lib.hid ⟨by have := hg4.size; omega, by have := hg4.size; omega⟩⟩, by simp [intOf]; omega⟩
end Go.Proofs.YtekiemlniegddaaGreat
namespace Go.Proofs.YtekiemlniegddaaGreat
open Go Go.Maps Go.RowKit Go.Shelf
theorem cntF_le (F : FnL) : ∀ m, cntF F m ≤ m
 | 0 => Nat.le_refl _
 | m + 1 => by rw [cntF]; have := cntF_le F m; split <;> omega
theorem mostN_le (I : Nat) (last : Int) (rs : List RndN) (m : Nat) : ∀ k, mostN I last rs m k ≤ m
 | 0 => Nat.zero_le _
 | k + 1 => by rw [mostN]; have := mostN_le I last rs m k; have := cntF_le (livN I last rs k) m; omega
set_option maxRecDepth 100000 in
set_option maxHeartbeats 4000000 in
theorem room1_any (y : RndA) (bl ky bm M q : Nat) (F : FnL) (w : World) (hl : OwnF Tryz.prog 3 4 w bl ky F M) (kb : Blk w bm 3 #[.int .i64 (q : Int)]) :
  Calls Tryz.prog 106 #[rndv y, .map (some bl), .pointer (some ⟨bm, 0, none⟩)] w fun e w' => (∃ vv, e = .returned vv) ∧ Blk w' bm 3 #[.int .i64 ((max q (cntF F M) : Nat) : Int)] ∧ Trn (fun b => b = bm) w w' := by
 have hB : Below w.heap.size w w := Below.refl _ _
 obtain ⟨⟨at_, s, pts, rz⟩, ka, kc, sa, sc, pv, ub, uc⟩ := y
 unfold rndv
 dsimp only
 obtain ⟨m, hm⟩ : ∃ m, (opsN s).length = m := ⟨_, rfl⟩
 rw [hm]
 clear hm
 have hmx : ∀ a b : Nat, max (a : Int) (b : Int) = ((max a b : Nat) : Int) := fun a b => by omega
 have hmm := hmx q (cntF F M)
 obtain ⟨D, hD⟩ : ∃ D, max q (cntF F M) = D := ⟨_, rfl⟩
 rw [hD] at hmm ⊢
 obtain ⟨E, hE⟩ : ∃ E, cntF F M = E := ⟨_, rfl⟩
 rw [hE] at hmm
 have hEH := Lib.hid hE
 clear hE hD hmx
 have hbV1 : Below w.heap.size w (w.alloc (.cells #[.int .u8 s.op, .int .i64 s.a, .int .i64 s.b, .int .i64 s.pt.mul, .int .i64 s.pt.add, .int .i64 s.pt.div, .int .i64 s.pt.lo, .int .i64 s.pt.hi, .int .u8 s.how, .int .i64 s.kw, .int .i64 s.kh, .slice ka s.taps.length kc, .int .u8 s.bd, .int .i64 s.sw, .int .i64 s.sh, .slice sa s.bits.length sc, pv, .slice (some ⟨ub, 0, none⟩) m uc, .int .i64 rz] 111)) := jb_al (Below.refl _ w) _
 have ks := Blk.new w 111 #[.int .u8 s.op, .int .i64 s.a, .int .i64 s.b, .int .i64 s.pt.mul, .int .i64 s.pt.add, .int .i64 s.pt.div, .int .i64 s.pt.lo, .int .i64 s.pt.hi, .int .u8 s.how, .int .i64 s.kw, .int .i64 s.kh, .slice ka s.taps.length kc, .int .u8 s.bd, .int .i64 s.sw, .int .i64 s.sh, .slice sa s.bits.length sc, pv, .slice (some ⟨ub, 0, none⟩) m uc, .int .i64 rz]
 obtain ⟨V1, hEV1⟩ : ∃ X, w.alloc (.cells #[.int .u8 s.op, .int .i64 s.a, .int .i64 s.b, .int .i64 s.pt.mul, .int .i64 s.pt.add, .int .i64 s.pt.div, .int .i64 s.pt.lo, .int .i64 s.pt.hi, .int .u8 s.how, .int .i64 s.kw, .int .i64 s.kh, .slice ka s.taps.length kc, .int .u8 s.bd, .int .i64 s.sw, .int .i64 s.sh, .slice sa s.bits.length sc, pv, .slice (some ⟨ub, 0, none⟩) m uc, .int .i64 rz] 111) = X := ⟨_, rfl⟩
 rw [hEV1] at hbV1 ks
 replace kb := kb.below hbV1 kb.lt
 replace hl := hl.below hbV1
 replace hB := hB.trans (hbV1.mono hB.size)
 clear hbV1
 clear ks
 have hbl := kb.lt
 have z0 := kb.cell (i := 0) rfl
 have fz0 := kb.frozen 0
 go_enter Tryz.func106, Tryz.ntmps106
 go_wp2_with (at_len; refine len_map _ rfl _ _ rfl 3 4 Tryz.underlying112 bl ky M F rfl hl ?_; rw [hEH.out])
 go_end0
 have ks2 := kb.set 0 (.int .i64 (D : Int))
 exact ⟨⟨_, rfl⟩, ks2, (Trn.mono (Below.trn0 hB (fun b => b = bm)) (fun _ _ h => h)).trans (setCell_trn _ _ _ (fun b => b = bm) rfl)⟩
theorem room1_do (In : Nat) (last : Int) (rs : List RndN) (N M B0 bm : Nat) (hbm : B0 ≤ bm) :
  PlanDo 106 #[.pointer (some ⟨bm, 0, none⟩)] In last rs N M B0 (fun k S W => S = (fun b => b = bm) ∧ Blk W bm 3 #[.int .i64 (mostN In last rs M k : Nat)]) where
 frame := fun k S W W' h ht => ⟨h.1, by
  obtain ⟨rfl, h2⟩ := h
  exact ht.blk h2 (fun h => h rfl)⟩
 own := fun k S W h b hb => by
  obtain ⟨rfl, h2⟩ := h
  have : b = bm := hb
  subst this
  exact ⟨hbm, h2.lt⟩
 run := fun k S W y ky bl hk h hy _ _ _ _ hl hbl _ => by
  obtain ⟨rfl, h2⟩ := h
  refine (room1_any y bl ky bm M _ _ W hl h2).mono ?_
  rintro e W' ⟨h3, h4, h5⟩
  exact ⟨h3, _, ⟨rfl, h4⟩, h5, fun b hb => .inl hb⟩
theorem enters_room1 : ∀ args w, (callFunc 106 args).run Tryz.prog w = .ok (.enter 106 args) w := enters_of Tryz.func106 (by kernel_rfl) rfl
set_option maxRecDepth 100000 in
set_option maxHeartbeats 4000000 in
theorem room_any (P : PipeN) (a : Option Addr) (n c : Nat) (hn : P.ss.length = n) (hP : pipeB P = true) (hst : ∀ i, i < n → StepIn (stAt P.ss i)) (w : World) (hr : RdSs w.heap.size w a P.ss) :
  Calls Tryz.prog 49 #[pipev P a n c] w fun e w' => e = .returned (.int .i64 (roomP P)) ∧ Below w.heap.size w w' := by
 have hr0 := refOk_of hP
 obtain ⟨hw1, hh1, hI1, hn1, _⟩ := pipeB_true hP
 rw [hn] at hn1
 have hpl := fun W B0 h1 h2 fo lb eg J hdo S0 hJ => plan_any P a n c hn hn1 (by omega) hst hr0 B0 W h1 h2 fo lb eg J _ rfl hdo S0 hJ
 have hmost : roomP P = (mostN P.inp.toNat (P.inp + n - 1) (rdsN P.inp P.ss) (P.inp.toNat + n) (rdsN P.inp P.ss).length : Int) * P.w * P.h := by unfold roomP mostP lastI; rw [hn]
 rw [hmost]
 have hle := mostN_le P.inp.toNat (P.inp + n - 1) (rdsN P.inp P.ss) (P.inp.toNat + n) (rdsN P.inp P.ss).length
 have hplH := Lib.hid hpl
 clear hpl hmost hn hst hr0 hP
 obtain ⟨WW, HH, I, ss⟩ := P
 unfold pipev
 simp only at hplH hle hr hw1 hh1 hI1 ⊢
 unfold pipev at hplH
 simp only at hplH
 have hB : Below w.heap.size w w := Below.refl _ _
 have hr0 := hr
 obtain ⟨q, hq⟩ : ∃ q, mostN I.toNat (I + ↑n - 1) (rdsN I ss) (I.toNat + n) (rdsN I ss).length = q := ⟨_, rfl⟩
 rw [hq] at hle ⊢
 have hqH := Lib.hid hq
 clear hq
 have hq1 : q ≤ 15 := by omega
 have hm1 := prod_bd (a := (q : Int)) (x := WW) (m := 15) (n := 16) (by omega) (by omega) (by omega) (by omega) (by omega)
 obtain ⟨p, hp⟩ : ∃ p, (q : Int) * WW = p := ⟨_, rfl⟩
 rw [hp] at hm1 ⊢
 simp only [Int.reduceMul] at hm1
 have hm2 := prod_bd (a := p) (x := HH) (m := 240) (n := 16) (by omega) (by omega) (by omega) (by omega) (by omega)
 obtain ⟨r, hrr⟩ : ∃ r, p * HH = r := ⟨_, rfl⟩
 rw [hrr] at hm2 ⊢
 simp only [Int.reduceMul] at hm2
 have hbV1 : Below w.heap.size w (w.alloc (.cells #[.int .i64 WW, .int .i64 HH, .int .i64 I, .slice a n c] 24)) := jb_al (Below.refl _ w) _
 have kp := Blk.new w 24 #[.int .i64 WW, .int .i64 HH, .int .i64 I, .slice a n c]
 obtain ⟨V1, hEV1⟩ : ∃ X, w.alloc (.cells #[.int .i64 WW, .int .i64 HH, .int .i64 I, .slice a n c] 24) = X := ⟨_, rfl⟩
 rw [hEV1] at hbV1 kp
 replace hr := hr.later hbV1
 replace hB := hB.trans (hbV1.mono hB.size)
 clear hbV1
 obtain ⟨m0, m1, m2, m3⟩ := cz4 kp
 have hkl := kp.lt
 have hbV2 : Below V1.heap.size V1 (V1.alloc (.cells #[.int .i64 0] 3)) := jb_al (Below.refl _ V1) _
 have kb := Blk.new V1 3 #[.int .i64 0]
 obtain ⟨V2, hEV2⟩ : ∃ X, V1.alloc (.cells #[.int .i64 0] 3) = X := ⟨_, rfl⟩
 rw [hEV2] at hbV2 kb
 clear m0 m1 m2 m3
 replace kp := kp.below hbV2 kp.lt
 replace hr := hr.later hbV2
 replace hB := hB.trans (hbV2.mono hB.size)
 clear hbV2
 obtain ⟨m0, m1, m2, m3⟩ := cz4 kp
 have z0 := kb.cell (i := 0) rfl
 have z0 := kb.cell (i := 0) rfl
 have fz0 := kb.frozen 0
 have hne : w.heap.size ≠ V1.heap.size := by omega
 have hbmw : w.heap.size ≤ V1.heap.size := by omega
 obtain ⟨V3, hV3⟩ : ∃ X, V2.setCell ⟨V1.heap.size, 0, none⟩ (.int .i64 0) = X := ⟨_, rfl⟩
 have kb3 : Blk V3 (V1.heap.size) 3 #[.int .i64 0] := by rw [← hV3]; exact kb.set 0 _
 have kp3 : Blk V3 w.heap.size 24 #[.int .i64 WW, .int .i64 HH, .int .i64 I, .slice a n c] := by rw [← hV3]; exact kp.other hne _
 have hB3 : Below w.heap.size w V3 := by rw [← hV3]; exact hB.setCell hbmw _
 clear kp
 obtain ⟨p0, p1, p2, p3⟩ := cz4 kp3
 go_enter Tryz.func49, Tryz.ntmps49
 go_wp2_with (go_at_call 53; refine (hplH.out _ w.heap.size hB3.size (hr0.below (Nat.le_refl _) hB3) _ _ enters_room1 _ (room1_do _ _ _ _ _ _ (V1.heap.size) hbmw) _ ⟨rfl, kb3⟩).mono ?_; rintro e w2 ⟨⟨vv, rfl⟩, S', ⟨rfl, hk⟩, hT, _⟩; rw [hqH.out] at hk; have kp4 := hT.blk kp3 hne; have q0 := kp4.cell (i := 0) rfl; have q1 := kp4.cell (i := 1) rfl; have q2 := hk.cell (i := 0) rfl; have hB4 := hB3.trans (hT.below hB3.size (fun b hb e => by subst e; omega)))
 go_ret
 exact ⟨rfl, hB4⟩
set_option maxRecDepth 100000 in
set_option maxHeartbeats 4000000 in
theorem Room_any (P : PipeN) (a : Option Addr) (n c : Nat) (hn : P.ss.length = n) (hP : PipeIn P) (w : World) (hr : RdSs w.heap.size w a P.ss) :
  Calls Tryz.prog 27 #[pipev P a n c] w fun e w' => e = .returned (.tuple #[.int .i64 (if pipeB P = true then roomP P else 0), .int .i64 (if pipeB P = true then 0 else 30)]) ∧ Below w.heap.size w w' := by
 obtain ⟨v, hv⟩ : ∃ v, pipeB P = v := ⟨_, rfl⟩
 have hck := fun W h => PCheck_any P a n c hn hP v hv W h
 have hrm := fun hp W h => room_any P a n c hn hp (fun i hi => hP.st i (by omega)) W h
 rw [hv] at hrm ⊢
 obtain ⟨R, hR⟩ : ∃ R, roomP P = R := ⟨_, rfl⟩
 rw [hR] at hrm ⊢
 have hckH := Lib.hid hck
 have hrmH := Lib.hid hrm
 clear hck hrm hv hn hP hR
 obtain ⟨WW, HH, I, ss⟩ := P
 unfold pipev
 unfold pipev at hckH hrmH
 simp only at hckH hrmH hr ⊢
 have hB : Below w.heap.size w w := Below.refl _ _
 have hbV1 : Below w.heap.size w (w.alloc (.cells #[.int .i64 WW, .int .i64 HH, .int .i64 I, .slice a n c] 24)) := jb_al (Below.refl _ w) _
 have kp := Blk.new w 24 #[.int .i64 WW, .int .i64 HH, .int .i64 I, .slice a n c]
 obtain ⟨V1, hEV1⟩ : ∃ X, w.alloc (.cells #[.int .i64 WW, .int .i64 HH, .int .i64 I, .slice a n c] 24) = X := ⟨_, rfl⟩
 rw [hEV1] at hbV1 kp
 replace hr := hr.later hbV1
 replace hB := hB.trans (hbV1.mono hB.size)
 clear hbV1
 obtain ⟨m0, m1, m2, m3⟩ := cz4 kp
 go_enter Tryz.func27, Tryz.ntmps27
 go_wp2_with fail
 clear hEV1
 have hc := hckH.out V1 hr
 refine hc.mono ?_
 clear hc
 rintro e V2 ⟨rfl, hb⟩
 clear m0 m1 m2 m3
 replace kp := kp.below hb kp.lt
 replace hr := hr.later hb
 replace hB := hB.trans (hb.mono hB.size)
 clear hb
 obtain ⟨m0, m1, m2, m3⟩ := cz4 kp
 cases v with
 | false =>
  go_wp2_with fail
  exact bodyPost_ret (v := .tuple #[.int .i64 0, .int .i64 30]) (by simp [results, Tryz.results27, go_sem]) rfl ⟨rfl, hB⟩
 | true =>
 go_wp2_with fail
 have hc := hrmH.out (by first | trivial | rfl) V2 hr
 refine hc.mono ?_
 clear hc
 rintro e V3 ⟨rfl, hb⟩
 clear m0 m1 m2 m3
 replace kp := kp.below hb kp.lt
 replace hr := hr.later hb
 replace hB := hB.trans (hb.mono hB.size)
 clear hb
 obtain ⟨m0, m1, m2, m3⟩ := cz4 kp
 go_wp2_with fail
 exact bodyPost_ret (v := .tuple #[.int .i64 R, .int .i64 0]) (by simp [results, Tryz.results27, go_sem]) rfl ⟨rfl, hB⟩
set_option maxRecDepth 100000 in
set_option maxHeartbeats 4000000 in
theorem groups_any (P : PipeN) (a : Option Addr) (n c : Nat) (hw : 1 ≤ P.w ∧ P.w ≤ 16) (hh : 1 ≤ P.h ∧ P.h ≤ 16) (lanes : Int) (hl : 1 ≤ lanes ∧ lanes ≤ 16) (w : World) :
  Calls Tryz.prog 102 #[pipev P a n c, .int .i64 lanes] w fun e w' => e = .returned (.int .i64 (grpsN P.w P.h lanes)) ∧ Below w.heap.size w w' := by
 have hB : Below w.heap.size w w := Below.refl _ _
 obtain ⟨WW, HH, I, ss⟩ := P
 unfold pipev
 simp only at hw hh ⊢
 unfold grpsN
 have hm1 := prod_bd (a := WW) (x := HH) (m := 16) (n := 16) (by omega) (by omega) (by omega) (by omega) (by omega)
 have hm0 := Int.mul_le_mul hw.1 hh.1 (by omega) (by omega)
 obtain ⟨p, hp⟩ : ∃ p, WW * HH = p := ⟨_, rfl⟩
 rw [hp] at hm1 hm0 ⊢
 simp only [Int.reduceMul] at hm1 hm0
 have hq : (p + lanes - 1).tdiv lanes = (p + lanes - 1) / lanes := Int.tdiv_eq_ediv_of_nonneg (by omega)
 have hq1 : 0 ≤ (p + lanes - 1) / lanes := Int.ediv_nonneg (by omega) (by omega)
 have hq2 : (p + lanes - 1) / lanes ≤ p + lanes - 1 := Int.ediv_le_self _ (by omega)
 obtain ⟨q, hqq⟩ : ∃ q, (p + lanes - 1) / lanes = q := ⟨_, rfl⟩
 rw [hqq] at hq hq1 hq2 ⊢
 clear hqq
 have hz : (lanes == 0) = false := by simp; omega
 have hz2 : ¬ lanes = 0 := by omega
 have hbV1 : Below w.heap.size w (w.alloc (.cells #[.int .i64 WW, .int .i64 HH, .int .i64 I, .slice a n c] 24)) := jb_al (Below.refl _ w) _
 have kp := Blk.new w 24 #[.int .i64 WW, .int .i64 HH, .int .i64 I, .slice a n c]
 obtain ⟨V1, hEV1⟩ : ∃ X, w.alloc (.cells #[.int .i64 WW, .int .i64 HH, .int .i64 I, .slice a n c] 24) = X := ⟨_, rfl⟩
 rw [hEV1] at hbV1 kp
 replace hB := hB.trans (hbV1.mono hB.size)
 clear hbV1
 obtain ⟨m0, m1, m2, m3⟩ := cz4 kp
 go_enter Tryz.func102, Tryz.ntmps102
 go_wp2_with fail
 go_ret
 exact ⟨rfl, hB⟩
end Go.Proofs.YtekiemlniegddaaGreat

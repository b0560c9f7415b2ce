/- Contracts and laws (PRs, PRt, PRu, PRv, PRw, PUs). -/
import Derived.Deep.WholeRow
import Derived.Great.Walk
import Derived.Deep.MidRow
import Derived.Deep.DeepCutAuto
import Derived.Test.YtekiemlniegddaaGreatQM10
set_option linter.unusedVariables false
set_option linter.unusedSimpArgs false
namespace Go.Proofs.YtekiemlniegddaaGreat
open Go Go.Maps Go.RowKit Go.Shelf
set_option maxRecDepth 100000 in
set_option maxHeartbeats 8000000 in
theorem rounds_n1 (In : Nat) (ss : List StepN) (a : Option Addr) (n c : Nat) (hnH : Hid (ss.length = n)) (hn12 : n ≤ 12) (hI : In ≤ 3) (hstH : Hid (∀ i, i < n → StepIn (stAt ss i))) (hr0H : Hid (RefOk (In : Int) ss)) (B0 : Nat) (w : World) (hB0 : B0 ≤ w.heap.size) (hr : RdSs B0 w a ss) (WW HH : Int) (M : Nat) (hMI : (M : Int) = (In : Int) + n) (hM20 : M < 20) (bp bu : Nat) (hbpw : w.heap.size ≤ bp) (hbuw : bp < bu) (U : FnL) (hUH : Hid (useF ss ss.length = U)) (bf : Nat) (hbf : w.heap.size ≤ bf) (k : Nat) (v : Value) (x : Nat → RndA) (hk : k ≤ n) (hlt : k < n) (wr : World) (hri : RdI B0 w.heap.size wr v (rdsS (In : Int) U ss k).out.length x bf (2 * k) (rdsS (In : Int) U ss k).of bu (2 * n) U M (bp) #[.int .i64 WW, .int .i64 HH, .int .i64 (In : Int), .slice a n c]) (hx : Hid (∀ q, q < (rdsS (In : Int) U ss k).out.length → (x q).r = rnAt (rdsS (In : Int) U ss k).out q)) (e1 : ¬ (stAt ss k).op = 1) (u : Nat → Value)    (hB : Below w.heap.size w wr) : Code.wp Tryz.prog (loopN Tryz.f51.body 2) (Exit.then (fun A' w' => I2 In ss a n c B0 w WW HH M bp bu bf U A' w' ∧ mu2 n A' w' < mu2 n ⟨#[u 0, .pointer (some ⟨bp, 0, none⟩), u 2, .map (some bu), u 4, u 5, u 6, u 7, v, .map (some bf), u 10, u 11, u 12, u 13, u 14, u 15, u 16, u 17, u 18, u 19, u 20, u 21, u 22, u 23, u 24, u 25, u 26, u 27, u 28, u 29, u 30, u 31, u 32, u 33, u 34, u 35, u 36, .slice a n c, .int .i64 (n : Int), .int .i64 ((k : Nat) : Int), u 40, u 41, u 42, u 43, u 44, u 45, u 46, u 47, u 48, u 49, u 50, u 51, u 52, u 53, u 54, u 55, u 56, u 57, u 58, u 59, u 60, u 61, u 62, u 63, u 64, u 65, u 66, u 67, u 68, u 69, u 70, u 71, u 72, u 73, u 74, u 75, u 76, u 77, u 78, u 79, u 80, u 81, u 82, u 83, u 84, u 85, u 86, u 87, u 88, u 89, u 90, u 91, u 92, u 93, u 94, u 95, u 96, u 97, u 98, u 99, u 100, u 101, u 102, u 103, u 104, u 105, u 106], []⟩ wr) (fun _ _ _ => False)) ⟨#[u 0, .pointer (some ⟨bp, 0, none⟩), u 2, .map (some bu), u 4, u 5, u 6, u 7, v, .map (some bf), u 10, u 11, u 12, u 13, u 14, u 15, u 16, u 17, u 18, u 19, u 20, u 21, u 22, u 23, u 24, u 25, u 26, u 27, u 28, u 29, u 30, u 31, u 32, u 33, u 34, u 35, u 36, .slice a n c, .int .i64 (n : Int), .int .i64 ((k : Nat) : Int), u 40, u 41, u 42, u 43, u 44, u 45, u 46, u 47, u 48, u 49, u 50, u 51, u 52, u 53, u 54, u 55, u 56, u 57, u 58, u 59, u 60, u 61, u 62, u 63, u 64, u 65, u 66, u 67, u 68, u 69, u 70, u 71, u 72, u 73, u 74, u 75, u 76, u 77, u 78, u 79, u 80, u 81, u 82, u 83, u 84, u 85, u 86, u 87, u 88, u 89, u 90, u 91, u 92, u 93, u 94, u 95, u 96, u 97, u 98, u 99, u 100, u 101, u 102, u 103, u 104, u 105, u 106], []⟩ wr := by
  obtain ⟨i0, hi, hz0, hz1, hz2⟩ := info_partsQ info_rnd
  obtain ⟨j0, gi, gz0, gz1, gz2⟩ := info_partsQ info_pt
  unfold loopN
  conv => arg 2; whnf
  dsimp only
  have hkl : k < ss.length := by have := hnH.out; omega
  have hs := hstH.out k hlt
  have hltd : decide ((k : Int) < (n : Int)) = true := by simp; omega
  obtain ⟨b, o, ka, kc, sa, sc, rfl, hbl, hst⟩ : ∃ b o ka kc sa sc, a = some ⟨b, o, none⟩ ∧ b < B0 ∧ StAt B0 w b (o + k * 16) (stAt ss k) ka kc sa sc := by
    rcases hr with h | ⟨b, o, h1, h2, h3⟩
    · exfalso; rw [h] at hkl; simp at hkl
    · obtain ⟨ka, kc, sa, sc, e⟩ := h3 k hkl
      exact ⟨b, o, ka, kc, sa, sc, h1, h2, e⟩
  have hrefk := hr0H.out k hkl
  have hnext : rdsS (In : Int) U ss (k + 1) = (if carB (In : Int) U (stAt ss k) = true then
        ⟨(rdsS (In : Int) U ss k).out.set (numF ((rdsS (In : Int) U ss k).of (stAt ss k).a)).toNat (carR (rnAt (rdsS (In : Int) U ss k).out (numF ((rdsS (In : Int) U ss k).of (stAt ss k).a)).toNat) (stAt ss k).pt ((In : Int) + k)),
         putF (delF (rdsS (In : Int) U ss k).of (stAt ss k).a) ((In : Int) + k) (ilit (numF ((rdsS (In : Int) U ss k).of (stAt ss k).a)))⟩
      else ⟨(rdsS (In : Int) U ss k).out ++ [⟨k, stAt ss k, [], (In : Int) + k⟩], putF (rdsS (In : Int) U ss k).of ((In : Int) + k) (ilit (rdsS (In : Int) U ss k).out.length)⟩) := rfl
  have hokk := rds_ok hr0H.out k (Nat.le_of_lt hkl)
  rw [hUH.out] at hokk
  have hofq : carB (In : Int) U (stAt ss k) = true → ∃ q : Nat, q < (rdsS (In : Int) U ss k).out.length ∧ (rdsS (In : Int) U ss k).of (stAt ss k).a = some (ilit q) ∧ (rnAt (rdsS (In : Int) U ss k).out q).pts.length ≤ k := fun h => by
    have h2 := of_here (rds_ok hr0H.out k (Nat.le_of_lt hkl)) hr0H.out hkl (by rw [hUH.out]; exact h)
    rw [hUH.out] at h2
    obtain ⟨q, h3, h4, _⟩ := h2
    have h5 := fun hq => pts_le hr0H.out (Nat.le_of_lt hkl) (q := q) hq
    rw [hUH.out] at h5
    exact ⟨q, h3, h4, h5 h3⟩
  have hokH := Lib.hid hokk
  have hlenk := hokk.len
  clear hokk
  obtain ⟨s, hse⟩ : ∃ s, stAt ss k = s := ⟨_, rfl⟩
  rw [hse] at hs hst hrefk hnext hofq e1
  have hseH := Lib.hid hse
  have hrefH := Lib.hid hrefk
  have hnextH := Lib.hid hnext
  clear hse hrefk hnext
  obtain ⟨hcell, hta, hbi⟩ := hst
  obtain ⟨R, hR⟩ : ∃ R, rdsS (In : Int) U ss k = R := ⟨_, rfl⟩
  rw [hR] at hri hx hnextH hokH hlenk hofq
  clear hR
  obtain ⟨N, hN⟩ : ∃ N, R.out.length = N := ⟨_, rfl⟩
  rw [hN] at hri hx hnextH hlenk hofq
  have hofqH := Lib.hid hofq
  clear hofq
  have hNH := Lib.hid hN
  clear hN
  obtain ⟨va, vc, rfl⟩ := hri.rs.slice
  obtain ⟨A, hA⟩ : ∃ A : Nat, s.a = (A : Int) := ⟨s.a.toNat, by have := hrefH.out _ (opsN_a s); omega⟩
  have hAM : A < M := by have := hrefH.out _ (opsN_a s); omega
  have c0 : wr.cell? ⟨b, o + k * 16, none⟩ = some (.int .u8 s.op) := (hB.cell (p := ⟨b, o + k * 16, none⟩) (Nat.lt_of_lt_of_le hbl hB0)).trans (hcell 0 _ rfl)
  have c1 : wr.cell? ⟨b, o + k * 16 + 1, none⟩ = some (.int .i64 s.a) := (hB.cell (p := ⟨b, o + k * 16 + 1, none⟩) (Nat.lt_of_lt_of_le hbl hB0)).trans (hcell 1 _ rfl)
  have c2 : wr.cell? ⟨b, o + k * 16 + 2, none⟩ = some (.int .i64 s.b) := (hB.cell (p := ⟨b, o + k * 16 + 2, none⟩) (Nat.lt_of_lt_of_le hbl hB0)).trans (hcell 2 _ rfl)
  have c3 : wr.cell? ⟨b, o + k * 16 + 3, none⟩ = some (.int .i64 s.pt.mul) := (hB.cell (p := ⟨b, o + k * 16 + 3, none⟩) (Nat.lt_of_lt_of_le hbl hB0)).trans (hcell 3 _ rfl)
  have c4 : wr.cell? ⟨b, o + k * 16 + 4, none⟩ = some (.int .i64 s.pt.add) := (hB.cell (p := ⟨b, o + k * 16 + 4, none⟩) (Nat.lt_of_lt_of_le hbl hB0)).trans (hcell 4 _ rfl)
  have c5 : wr.cell? ⟨b, o + k * 16 + 5, none⟩ = some (.int .i64 s.pt.div) := (hB.cell (p := ⟨b, o + k * 16 + 5, none⟩) (Nat.lt_of_lt_of_le hbl hB0)).trans (hcell 5 _ rfl)
  have c6 : wr.cell? ⟨b, o + k * 16 + 6, none⟩ = some (.int .i64 s.pt.lo) := (hB.cell (p := ⟨b, o + k * 16 + 6, none⟩) (Nat.lt_of_lt_of_le hbl hB0)).trans (hcell 6 _ rfl)
  have c7 : wr.cell? ⟨b, o + k * 16 + 7, none⟩ = some (.int .i64 s.pt.hi) := (hB.cell (p := ⟨b, o + k * 16 + 7, none⟩) (Nat.lt_of_lt_of_le hbl hB0)).trans (hcell 7 _ rfl)
  have c8 : wr.cell? ⟨b, o + k * 16 + 8, none⟩ = some (.int .u8 s.how) := (hB.cell (p := ⟨b, o + k * 16 + 8, none⟩) (Nat.lt_of_lt_of_le hbl hB0)).trans (hcell 8 _ rfl)
  have c9 : wr.cell? ⟨b, o + k * 16 + 9, none⟩ = some (.int .i64 s.kw) := (hB.cell (p := ⟨b, o + k * 16 + 9, none⟩) (Nat.lt_of_lt_of_le hbl hB0)).trans (hcell 9 _ rfl)
  have c10 : wr.cell? ⟨b, o + k * 16 + 10, none⟩ = some (.int .i64 s.kh) := (hB.cell (p := ⟨b, o + k * 16 + 10, none⟩) (Nat.lt_of_lt_of_le hbl hB0)).trans (hcell 10 _ rfl)
  have c11 : wr.cell? ⟨b, o + k * 16 + 11, none⟩ = some (.slice ka s.taps.length kc) := (hB.cell (p := ⟨b, o + k * 16 + 11, none⟩) (Nat.lt_of_lt_of_le hbl hB0)).trans (hcell 11 _ rfl)
  have c12 : wr.cell? ⟨b, o + k * 16 + 12, none⟩ = some (.int .u8 s.bd) := (hB.cell (p := ⟨b, o + k * 16 + 12, none⟩) (Nat.lt_of_lt_of_le hbl hB0)).trans (hcell 12 _ rfl)
  have c13 : wr.cell? ⟨b, o + k * 16 + 13, none⟩ = some (.int .i64 s.sw) := (hB.cell (p := ⟨b, o + k * 16 + 13, none⟩) (Nat.lt_of_lt_of_le hbl hB0)).trans (hcell 13 _ rfl)
  have c14 : wr.cell? ⟨b, o + k * 16 + 14, none⟩ = some (.int .i64 s.sh) := (hB.cell (p := ⟨b, o + k * 16 + 14, none⟩) (Nat.lt_of_lt_of_le hbl hB0)).trans (hcell 14 _ rfl)
  have c15 : wr.cell? ⟨b, o + k * 16 + 15, none⟩ = some (.slice sa s.bits.length sc) := (hB.cell (p := ⟨b, o + k * 16 + 15, none⟩) (Nat.lt_of_lt_of_le hbl hB0)).trans (hcell 15 _ rfl)
  clear hcell
  have kp := hri.kp
  obtain ⟨m0, m1, m2, m3⟩ := cz4 kp
  obtain ⟨V51, hEV51, hbV51, ks⟩ := newB wr 76 #[.int .u8 s.op, .int .i64 s.a, .int .i64 s.b, .int .i64 s.pt.mul, .int .i64 s.pt.add, .int .i64 s.pt.div, .int .i64 s.pt.lo, .int .i64 s.pt.hi, .int .u8 s.how, .int .i64 s.kw, .int .i64 s.kh, .slice ka s.taps.length kc, .int .u8 s.bd, .int .i64 s.sw, .int .i64 s.sh, .slice sa s.bits.length sc]
  clear m0 m1 m2 m3
  replace kp := kp.below hbV51 kp.lt
  replace hri := hri.below hbV51
  replace hB := tmB hB hbV51
  clear hbV51
  obtain ⟨m0, m1, m2, m3⟩ := cz4 kp
  obtain ⟨y0, y1, y2, y3, y4, y5, y6, y7, y8, y9, y10, y11, y12, y13, y14, y15⟩ := cz16 ks
  have hopr := hs.op
  have hlk := hri.um.run_look Tryz.underlying3 Tryz.underlying101 Tryz.underlying3 (zero_num _) (A : Int) (wf_num ⟨by omega, by omega⟩)
  obtain ⟨cu, hcu⟩ : ∃ c, numF (U (A : Int)) = c := ⟨_, rfl⟩
  rw [hcu] at hlk
  have hcuH := Lib.hid hcu
  have hAH := Lib.hid hA
  clear hcu
  rw [hA] at y1
  clear hA
  have e1b : (s.op == 1) = false := by simp [e1]
  have hcar : carB (In : Int) U s = false := by unfold carB; rw [decide_eq_false e1]; rfl
  have hcarH := Lib.hid hcar
  clear e1 hcar
  have hksf := hri.fm.not_cells ks
  go_wp2_with (first
    | (at_mapUpdate; refine OwnF.putw _ rfl _ _ _ _ rfl Tryz.underlying3 Tryz.underlying101 bf rfl hri.fm (by omega) (In + k) (by omega) (by omega) _ _ (by first | rfl | (simp; done) | (simp; omega)) rfl (plainElem_int Tryz.underlying3 (wf_num ⟨by omega, by omega⟩)) ?_; intro w1 hv1 hg1))
  have ks1 := ks.kept hg1 (fun e => hksf (by injection e))
  obtain ⟨hri1, hb1⟩ := hri.mapf hv1 hg1
  have hB1 := hB.trans hb1
  clear hri ks hv1 hg1 hb1 hB
  clear y0 y1 y2 y3 y4 y5 y6 y7 y8 y9 y10 y11 y12 y13 y14 y15 hlk hltd
  have hri2 := hri1.below (Below.refl _ w1).drew
  have hB2 := hB1.drew
  have hS : Blk w1.drew (wr.heap.size) 76 #[.int .u8 s.op, .int .i64 s.a, .int .i64 s.b, .int .i64 s.pt.mul, .int .i64 s.pt.add, .int .i64 s.pt.div, .int .i64 s.pt.lo, .int .i64 s.pt.hi, .int .u8 s.how, .int .i64 s.kw, .int .i64 s.kh, .slice ka s.taps.length kc, .int .u8 s.bd, .int .i64 s.sw, .int .i64 s.sh, .slice sa s.bits.length sc] := ks1.below (Below.refl _ w1).drew ks1.lt
  clear hri1 hB1 ks1
  simp only [Act.put]
  refine plain_region (fun W' => Blk W' (wr.heap.size) 76 #[.int .u8 s.op, .int .i64 s.a, .int .i64 s.b, .int .i64 s.pt.mul, .int .i64 s.pt.add, .int .i64 s.pt.div, .int .i64 s.pt.lo, .int .i64 s.pt.hi, .int .u8 s.how, .int .i64 s.kw, .int .i64 s.kh, .slice ka s.taps.length kc, .int .u8 s.bd, .int .i64 s.sw, .int .i64 s.sh, .slice sa s.bits.length sc]) 9 9 (by kernel_rfl) rfl ?_
  simp only [Array.replicate_succ, Array.replicate_zero, List.push_toArray, List.nil_append, List.cons_append]
  obtain ⟨X0, hXX0⟩ : ∃ X : World, w1.drew = X := ⟨_, rfl⟩
  rw [hXX0] at hS hri2 hB2 ⊢
  clear hXX0
  refine tkz 0 rfl hS (fun w' hS' => by go_simp; rfl) ?_
  simp only [nrz]
  refine tkz 1 rfl hS (fun w' hS' => by obtain ⟨y0, y1, y2, y3, y4, y5, y6, y7, y8, y9, y10, y11, y12, y13, y14, y15⟩ := cz16 hS'; clear hS'; go_simp; rfl) ?_
  simp only [nrz]
  refine tkz 2 rfl hS (fun w' hS' => by obtain ⟨y0, y1, y2, y3, y4, y5, y6, y7, y8, y9, y10, y11, y12, y13, y14, y15⟩ := cz16 hS'; clear hS'; go_simp; rfl) ?_
  simp only [nrz]
  refine tkz 4 rfl hS (fun w' hS' => by go_simp; rfl) ?_
  simp only [nrz]
  refine step_op 3 (by kernel_rfl) rfl (fun K hK => ?_)
  rw [if_pos (by rfl)]
  go_simp
  refine (operands_own s hs ka sa kc sc X0).mono ?_
  rintro e X3 ⟨bo, oc, rfl, kq, hbo, hb3⟩
  have hS3 := hS.below hb3 hS.lt
  have hri3 := hri2.below hb3
  have hB3 := hB2.trans (hb3.mono hB2.size)
  have hbow : w.heap.size ≤ bo := Nat.le_trans hB2.size hbo
  clear hri2 hB2 hb3
  refine hK.out _ _ (fun h => hS3) ?_
  clear hK K
  try simp only [Act.put, nrz]
  refine tkz 5 rfl hS3 (fun w' hS' => by go_simp; rfl) ?_
  simp only [nrz]
  refine step_op 6 (by kernel_rfl) rfl (fun K hK => ?_)
  rw [if_pos (by rfl)]
  go_simp
  have hbA := jb_al (Below.refl _ X3) (.cells #[.int .u8 s.op, .int .i64 s.a, .int .i64 s.b, .int .i64 s.pt.mul, .int .i64 s.pt.add, .int .i64 s.pt.div, .int .i64 s.pt.lo, .int .i64 s.pt.hi, .int .u8 s.how, .int .i64 s.kw, .int .i64 s.kh, .slice ka s.taps.length kc, .int .u8 s.bd, .int .i64 s.sw, .int .i64 s.sh, .slice sa s.bits.length sc, .slice none 0 0, .slice (some ⟨bo, 0, none⟩) (opsN s).length oc, .int .i64 ((In : Int) + k)] 111)
  have ky := Blk.new X3 111 #[.int .u8 s.op, .int .i64 s.a, .int .i64 s.b, .int .i64 s.pt.mul, .int .i64 s.pt.add, .int .i64 s.pt.div, .int .i64 s.pt.lo, .int .i64 s.pt.hi, .int .u8 s.how, .int .i64 s.kw, .int .i64 s.kh, .slice ka s.taps.length kc, .int .u8 s.bd, .int .i64 s.sw, .int .i64 s.sh, .slice sa s.bits.length sc, .slice none 0 0, .slice (some ⟨bo, 0, none⟩) (opsN s).length oc, .int .i64 ((In : Int) + k)]
  have hri6 := hri3.below hbA
  have kq6 := kq.below hbA kq.lt
  have hS6 := hS3.below hbA hS3.lt
  have hB6 := hB3.trans (hbA.mono hB3.size)
  obtain ⟨by_, hby⟩ : ∃ b, X3.heap.size = b := ⟨_, rfl⟩
  obtain ⟨X6, hX6⟩ : ∃ X, X3.alloc (.cells #[.int .u8 s.op, .int .i64 s.a, .int .i64 s.b, .int .i64 s.pt.mul, .int .i64 s.pt.add, .int .i64 s.pt.div, .int .i64 s.pt.lo, .int .i64 s.pt.hi, .int .u8 s.how, .int .i64 s.kw, .int .i64 s.kh, .slice ka s.taps.length kc, .int .u8 s.bd, .int .i64 s.sw, .int .i64 s.sh, .slice sa s.bits.length sc, .slice none 0 0, .slice (some ⟨bo, 0, none⟩) (opsN s).length oc, .int .i64 ((In : Int) + k)] 111) = X := ⟨_, rfl⟩
  rw [hX6] at ky hri6 kq6 hS6 hB6 ⊢
  rw [hby] at ky ⊢
  clear hX6 hby hbA hri3 kq hS3 hB3
  refine hK.out _ _ (fun h => hS6) ?_
  clear hK K
  try simp only [Act.put, nrz]
  refine step_op 7 (by kernel_rfl) rfl (fun K hK => ?_)
  refine step_append_atQ rfl (.tmp 97) (.tmp 103) 105 rfl w.heap.size 111 i0 (.agg #[.int .u8 0, .int .i64 0, .int .i64 0, .int .i64 0, .int .i64 0, .int .i64 0, .int .i64 0, .int .i64 0, .int .u8 0, .int .i64 0, .int .i64 0, .slice none 0 0, .int .u8 0, .int .i64 0, .int .i64 0, .slice none 0 0, .slice none 0 0, .slice none 0 0, .int .i64 0]) 19 216 Tryz.underlying105 hi hz0 hz1 hz2 rfl (by decide) (.slice va N vc) N _ rfl hri6.rs.row ⟨by_, 0, none⟩ 1 1 (rndL ⟨⟨k, s, [], (In : Int) + k⟩, ka, kc, sa, sc, .slice none 0 0, bo, oc⟩) rfl rfl (blk_news ky) (rndL_one _ rfl) (by unfold maxLen; omega) (by omega) hB6.size ?_
  intro v' X7 hown7 hg7 hat7
  obtain ⟨hri7, hb7⟩ := hri6.push hown7 hg7 rfl rfl ⟨kq6, hbow⟩ ⟨hta.below hB0 hB6, hbi.below hB0 hB6⟩
  have hB7 := hB6.trans hb7
  have hS7 : Blk X7 (wr.heap.size) 76 #[.int .u8 s.op, .int .i64 s.a, .int .i64 s.b, .int .i64 s.pt.mul, .int .i64 s.pt.add, .int .i64 s.pt.div, .int .i64 s.pt.lo, .int .i64 s.pt.hi, .int .u8 s.how, .int .i64 s.kw, .int .i64 s.kh, .slice ka s.taps.length kc, .int .u8 s.bd, .int .i64 s.sw, .int .i64 s.sh, .slice sa s.bits.length sc] := (grown_trn hg7 (fun c => (Value.slice va N vc).ownBlock = some c) (fun c e => e)).blk hS6 (fun e => hS6.not_row (by decide) hri6.rs.row e.symm)
  clear hown7 hg7 hat7 hb7 hri6 kq6 ky hS6 hB6
  refine hK.out _ _ (fun h => hS7) ?_
  clear hK K
  try simp only [Act.put, nrz]
  refine tkz 8 rfl hS7 (fun w' hS' => by go_simp; rfl) ?_
  simp only [nrz]
  refine done_ops (by kernel_rfl) ?_
  have hnx : rdsS (In : Int) U ss (k + 1) = ⟨R.out ++ [⟨k, s, [], (In : Int) + k⟩], putF R.of ((In : Int) + k) (ilit N)⟩ := by rw [hnextH.out, hcarH.out]; rfl
  have hri8 : RdI B0 w.heap.size X7 v' (rdsS (In : Int) U ss (k + 1)).out.length (fun q => if q = N then ⟨⟨k, s, [], (In : Int) + k⟩, ka, kc, sa, sc, .slice none 0 0, bo, oc⟩ else x q) bf (2 * (k + 1)) (rdsS (In : Int) U ss (k + 1)).of bu (2 * n) U M (bp) #[.int .i64 WW, .int .i64 HH, .int .i64 (In : Int), .slice (some ⟨b, o, none⟩) n c] := by
    rw [hnx]
    simp only [List.length_append, List.length_singleton]
    rw [hNH.out]
    exact hri7.monof (by omega)
  have hx8 : Hid (∀ q, q < (rdsS (In : Int) U ss (k + 1)).out.length → ((fun q => if q = N then ⟨⟨k, s, [], (In : Int) + k⟩, ka, kc, sa, sc, .slice none 0 0, bo, oc⟩ else x q) q : RndA).r = rnAt (rdsS (In : Int) U ss (k + 1)).out q) := Lib.hid (by
    rw [hnx]
    simp only [List.length_append, List.length_singleton]
    rw [hNH.out]
    intro q hq
    have hxo := hx.out
    rw [rnAt_app (by rw [hNH.out]; omega), hNH.out]
    by_cases e : q = N
    · rw [if_pos e, if_pos e]
    · rw [if_neg e, if_neg e]; exact hxo q (by omega))
  clear hnx hri7
  go_wp2_with fail
  exact ⟨⟨k + 1, _, _, by omega, hri8, hx8, hB7, ex_fnQ rfl⟩, by simp [mu2, intOf]; omega⟩
end Go.Proofs.YtekiemlniegddaaGreat
namespace Go.Proofs.YtekiemlniegddaaGreat
open Go Go.Maps Go.RowKit Go.Shelf
set_option maxRecDepth 100000 in
set_option maxHeartbeats 8000000 in
theorem rounds_n2 (In : Nat) (ss : List StepN) (a : Option Addr) (n c : Nat) (hnH : Hid (ss.length = n)) (hn12 : n ≤ 12) (hI : In ≤ 3) (hstH : Hid (∀ i, i < n → StepIn (stAt ss i))) (hr0H : Hid (RefOk (In : Int) ss)) (B0 : Nat) (w : World) (hB0 : B0 ≤ w.heap.size) (hr : RdSs B0 w a ss) (WW HH : Int) (M : Nat) (hMI : (M : Int) = (In : Int) + n) (hM20 : M < 20) (bp bu : Nat) (hbpw : w.heap.size ≤ bp) (hbuw : bp < bu) (U : FnL) (hUH : Hid (useF ss ss.length = U)) (bf : Nat) (hbf : w.heap.size ≤ bf) (k : Nat) (v : Value) (x : Nat → RndA) (hk : k ≤ n) (hlt : k < n) (wr : World) (hri : RdI B0 w.heap.size wr v (rdsS (In : Int) U ss k).out.length x bf (2 * k) (rdsS (In : Int) U ss k).of bu (2 * n) U M (bp) #[.int .i64 WW, .int .i64 HH, .int .i64 (In : Int), .slice a n c]) (hx : Hid (∀ q, q < (rdsS (In : Int) U ss k).out.length → (x q).r = rnAt (rdsS (In : Int) U ss k).out q)) (e1 : (stAt ss k).op = 1) (e2 : ¬ (In : Int) ≤ (stAt ss k).a) (u : Nat → Value)    (hB : Below w.heap.size w wr) : Code.wp Tryz.prog (loopN Tryz.f51.body 2) (Exit.then (fun A' w' => I2 In ss a n c B0 w WW HH M bp bu bf U A' w' ∧ mu2 n A' w' < mu2 n ⟨#[u 0, .pointer (some ⟨bp, 0, none⟩), u 2, .map (some bu), u 4, u 5, u 6, u 7, v, .map (some bf), u 10, u 11, u 12, u 13, u 14, u 15, u 16, u 17, u 18, u 19, u 20, u 21, u 22, u 23, u 24, u 25, u 26, u 27, u 28, u 29, u 30, u 31, u 32, u 33, u 34, u 35, u 36, .slice a n c, .int .i64 (n : Int), .int .i64 ((k : Nat) : Int), u 40, u 41, u 42, u 43, u 44, u 45, u 46, u 47, u 48, u 49, u 50, u 51, u 52, u 53, u 54, u 55, u 56, u 57, u 58, u 59, u 60, u 61, u 62, u 63, u 64, u 65, u 66, u 67, u 68, u 69, u 70, u 71, u 72, u 73, u 74, u 75, u 76, u 77, u 78, u 79, u 80, u 81, u 82, u 83, u 84, u 85, u 86, u 87, u 88, u 89, u 90, u 91, u 92, u 93, u 94, u 95, u 96, u 97, u 98, u 99, u 100, u 101, u 102, u 103, u 104, u 105, u 106], []⟩ wr) (fun _ _ _ => False)) ⟨#[u 0, .pointer (some ⟨bp, 0, none⟩), u 2, .map (some bu), u 4, u 5, u 6, u 7, v, .map (some bf), u 10, u 11, u 12, u 13, u 14, u 15, u 16, u 17, u 18, u 19, u 20, u 21, u 22, u 23, u 24, u 25, u 26, u 27, u 28, u 29, u 30, u 31, u 32, u 33, u 34, u 35, u 36, .slice a n c, .int .i64 (n : Int), .int .i64 ((k : Nat) : Int), u 40, u 41, u 42, u 43, u 44, u 45, u 46, u 47, u 48, u 49, u 50, u 51, u 52, u 53, u 54, u 55, u 56, u 57, u 58, u 59, u 60, u 61, u 62, u 63, u 64, u 65, u 66, u 67, u 68, u 69, u 70, u 71, u 72, u 73, u 74, u 75, u 76, u 77, u 78, u 79, u 80, u 81, u 82, u 83, u 84, u 85, u 86, u 87, u 88, u 89, u 90, u 91, u 92, u 93, u 94, u 95, u 96, u 97, u 98, u 99, u 100, u 101, u 102, u 103, u 104, u 105, u 106], []⟩ wr := by
  obtain ⟨i0, hi, hz0, hz1, hz2⟩ := info_partsQ info_rnd
  obtain ⟨j0, gi, gz0, gz1, gz2⟩ := info_partsQ info_pt
  unfold loopN
  conv => arg 2; whnf
  dsimp only
  have hkl : k < ss.length := by have := hnH.out; omega
  have hs := hstH.out k hlt
  have hltd : decide ((k : Int) < (n : Int)) = true := by simp; omega
  obtain ⟨b, o, ka, kc, sa, sc, rfl, hbl, hst⟩ : ∃ b o ka kc sa sc, a = some ⟨b, o, none⟩ ∧ b < B0 ∧ StAt B0 w b (o + k * 16) (stAt ss k) ka kc sa sc := by
    rcases hr with h | ⟨b, o, h1, h2, h3⟩
    · exfalso; rw [h] at hkl; simp at hkl
    · obtain ⟨ka, kc, sa, sc, e⟩ := h3 k hkl
      exact ⟨b, o, ka, kc, sa, sc, h1, h2, e⟩
  have hrefk := hr0H.out k hkl
  have hnext : rdsS (In : Int) U ss (k + 1) = (if carB (In : Int) U (stAt ss k) = true then
        ⟨(rdsS (In : Int) U ss k).out.set (numF ((rdsS (In : Int) U ss k).of (stAt ss k).a)).toNat (carR (rnAt (rdsS (In : Int) U ss k).out (numF ((rdsS (In : Int) U ss k).of (stAt ss k).a)).toNat) (stAt ss k).pt ((In : Int) + k)),
         putF (delF (rdsS (In : Int) U ss k).of (stAt ss k).a) ((In : Int) + k) (ilit (numF ((rdsS (In : Int) U ss k).of (stAt ss k).a)))⟩
      else ⟨(rdsS (In : Int) U ss k).out ++ [⟨k, stAt ss k, [], (In : Int) + k⟩], putF (rdsS (In : Int) U ss k).of ((In : Int) + k) (ilit (rdsS (In : Int) U ss k).out.length)⟩) := rfl
  have hokk := rds_ok hr0H.out k (Nat.le_of_lt hkl)
  rw [hUH.out] at hokk
  have hofq : carB (In : Int) U (stAt ss k) = true → ∃ q : Nat, q < (rdsS (In : Int) U ss k).out.length ∧ (rdsS (In : Int) U ss k).of (stAt ss k).a = some (ilit q) ∧ (rnAt (rdsS (In : Int) U ss k).out q).pts.length ≤ k := fun h => by
    have h2 := of_here (rds_ok hr0H.out k (Nat.le_of_lt hkl)) hr0H.out hkl (by rw [hUH.out]; exact h)
    rw [hUH.out] at h2
    obtain ⟨q, h3, h4, _⟩ := h2
    have h5 := fun hq => pts_le hr0H.out (Nat.le_of_lt hkl) (q := q) hq
    rw [hUH.out] at h5
    exact ⟨q, h3, h4, h5 h3⟩
  have hokH := Lib.hid hokk
  have hlenk := hokk.len
  clear hokk
  obtain ⟨s, hse⟩ : ∃ s, stAt ss k = s := ⟨_, rfl⟩
  rw [hse] at hs hst hrefk hnext hofq e1 e2
  have hseH := Lib.hid hse
  have hrefH := Lib.hid hrefk
  have hnextH := Lib.hid hnext
  clear hse hrefk hnext
  obtain ⟨hcell, hta, hbi⟩ := hst
  obtain ⟨R, hR⟩ : ∃ R, rdsS (In : Int) U ss k = R := ⟨_, rfl⟩
  rw [hR] at hri hx hnextH hokH hlenk hofq
  clear hR
  obtain ⟨N, hN⟩ : ∃ N, R.out.length = N := ⟨_, rfl⟩
  rw [hN] at hri hx hnextH hlenk hofq
  have hofqH := Lib.hid hofq
  clear hofq
  have hNH := Lib.hid hN
  clear hN
  obtain ⟨va, vc, rfl⟩ := hri.rs.slice
  obtain ⟨A, hA⟩ : ∃ A : Nat, s.a = (A : Int) := ⟨s.a.toNat, by have := hrefH.out _ (opsN_a s); omega⟩
  have hAM : A < M := by have := hrefH.out _ (opsN_a s); omega
  have c0 : wr.cell? ⟨b, o + k * 16, none⟩ = some (.int .u8 s.op) := (hB.cell (p := ⟨b, o + k * 16, none⟩) (Nat.lt_of_lt_of_le hbl hB0)).trans (hcell 0 _ rfl)
  have c1 : wr.cell? ⟨b, o + k * 16 + 1, none⟩ = some (.int .i64 s.a) := (hB.cell (p := ⟨b, o + k * 16 + 1, none⟩) (Nat.lt_of_lt_of_le hbl hB0)).trans (hcell 1 _ rfl)
  have c2 : wr.cell? ⟨b, o + k * 16 + 2, none⟩ = some (.int .i64 s.b) := (hB.cell (p := ⟨b, o + k * 16 + 2, none⟩) (Nat.lt_of_lt_of_le hbl hB0)).trans (hcell 2 _ rfl)
  have c3 : wr.cell? ⟨b, o + k * 16 + 3, none⟩ = some (.int .i64 s.pt.mul) := (hB.cell (p := ⟨b, o + k * 16 + 3, none⟩) (Nat.lt_of_lt_of_le hbl hB0)).trans (hcell 3 _ rfl)
  have c4 : wr.cell? ⟨b, o + k * 16 + 4, none⟩ = some (.int .i64 s.pt.add) := (hB.cell (p := ⟨b, o + k * 16 + 4, none⟩) (Nat.lt_of_lt_of_le hbl hB0)).trans (hcell 4 _ rfl)
  have c5 : wr.cell? ⟨b, o + k * 16 + 5, none⟩ = some (.int .i64 s.pt.div) := (hB.cell (p := ⟨b, o + k * 16 + 5, none⟩) (Nat.lt_of_lt_of_le hbl hB0)).trans (hcell 5 _ rfl)
  have c6 : wr.cell? ⟨b, o + k * 16 + 6, none⟩ = some (.int .i64 s.pt.lo) := (hB.cell (p := ⟨b, o + k * 16 + 6, none⟩) (Nat.lt_of_lt_of_le hbl hB0)).trans (hcell 6 _ rfl)
  have c7 : wr.cell? ⟨b, o + k * 16 + 7, none⟩ = some (.int .i64 s.pt.hi) := (hB.cell (p := ⟨b, o + k * 16 + 7, none⟩) (Nat.lt_of_lt_of_le hbl hB0)).trans (hcell 7 _ rfl)
  have c8 : wr.cell? ⟨b, o + k * 16 + 8, none⟩ = some (.int .u8 s.how) := (hB.cell (p := ⟨b, o + k * 16 + 8, none⟩) (Nat.lt_of_lt_of_le hbl hB0)).trans (hcell 8 _ rfl)
  have c9 : wr.cell? ⟨b, o + k * 16 + 9, none⟩ = some (.int .i64 s.kw) := (hB.cell (p := ⟨b, o + k * 16 + 9, none⟩) (Nat.lt_of_lt_of_le hbl hB0)).trans (hcell 9 _ rfl)
  have c10 : wr.cell? ⟨b, o + k * 16 + 10, none⟩ = some (.int .i64 s.kh) := (hB.cell (p := ⟨b, o + k * 16 + 10, none⟩) (Nat.lt_of_lt_of_le hbl hB0)).trans (hcell 10 _ rfl)
  have c11 : wr.cell? ⟨b, o + k * 16 + 11, none⟩ = some (.slice ka s.taps.length kc) := (hB.cell (p := ⟨b, o + k * 16 + 11, none⟩) (Nat.lt_of_lt_of_le hbl hB0)).trans (hcell 11 _ rfl)
  have c12 : wr.cell? ⟨b, o + k * 16 + 12, none⟩ = some (.int .u8 s.bd) := (hB.cell (p := ⟨b, o + k * 16 + 12, none⟩) (Nat.lt_of_lt_of_le hbl hB0)).trans (hcell 12 _ rfl)
  have c13 : wr.cell? ⟨b, o + k * 16 + 13, none⟩ = some (.int .i64 s.sw) := (hB.cell (p := ⟨b, o + k * 16 + 13, none⟩) (Nat.lt_of_lt_of_le hbl hB0)).trans (hcell 13 _ rfl)
  have c14 : wr.cell? ⟨b, o + k * 16 + 14, none⟩ = some (.int .i64 s.sh) := (hB.cell (p := ⟨b, o + k * 16 + 14, none⟩) (Nat.lt_of_lt_of_le hbl hB0)).trans (hcell 14 _ rfl)
  have c15 : wr.cell? ⟨b, o + k * 16 + 15, none⟩ = some (.slice sa s.bits.length sc) := (hB.cell (p := ⟨b, o + k * 16 + 15, none⟩) (Nat.lt_of_lt_of_le hbl hB0)).trans (hcell 15 _ rfl)
  clear hcell
  have kp := hri.kp
  obtain ⟨m0, m1, m2, m3⟩ := cz4 kp
  obtain ⟨V51, hEV51, hbV51, ks⟩ := newB wr 76 #[.int .u8 s.op, .int .i64 s.a, .int .i64 s.b, .int .i64 s.pt.mul, .int .i64 s.pt.add, .int .i64 s.pt.div, .int .i64 s.pt.lo, .int .i64 s.pt.hi, .int .u8 s.how, .int .i64 s.kw, .int .i64 s.kh, .slice ka s.taps.length kc, .int .u8 s.bd, .int .i64 s.sw, .int .i64 s.sh, .slice sa s.bits.length sc]
  clear m0 m1 m2 m3
  replace kp := kp.below hbV51 kp.lt
  replace hri := hri.below hbV51
  replace hB := tmB hB hbV51
  clear hbV51
  obtain ⟨m0, m1, m2, m3⟩ := cz4 kp
  obtain ⟨y0, y1, y2, y3, y4, y5, y6, y7, y8, y9, y10, y11, y12, y13, y14, y15⟩ := cz16 ks
  have hopr := hs.op
  have hlk := hri.um.run_look Tryz.underlying3 Tryz.underlying101 Tryz.underlying3 (zero_num _) (A : Int) (wf_num ⟨by omega, by omega⟩)
  obtain ⟨cu, hcu⟩ : ∃ c, numF (U (A : Int)) = c := ⟨_, rfl⟩
  rw [hcu] at hlk
  have hcuH := Lib.hid hcu
  have hAH := Lib.hid hA
  clear hcu
  rw [hA] at y1
  clear hA
  have e1b : (s.op == 1) = true := by simp [e1]
  have e1H := Lib.hid e1
  clear e1
  rw [hAH.out] at e2
  have e2n : ¬ In ≤ A := by omega
  have e2b : decide (In ≤ A) = false := decide_eq_false e2n
  have hcar : carB (In : Int) U s = false := by unfold carB; rw [hAH.out, decide_eq_false (show ¬ ((In : Int) ≤ (A : Int)) by omega)]; simp
  have hcarH := Lib.hid hcar
  clear e2 hcar
  have hksf := hri.fm.not_cells ks
  go_wp2_with (first
    | (at_mapUpdate; refine OwnF.putw _ rfl _ _ _ _ rfl Tryz.underlying3 Tryz.underlying101 bf rfl hri.fm (by omega) (In + k) (by omega) (by omega) _ _ (by first | rfl | (simp; done) | (simp; omega)) rfl (plainElem_int Tryz.underlying3 (wf_num ⟨by omega, by omega⟩)) ?_; intro w1 hv1 hg1))
  have ks1 := ks.kept hg1 (fun e => hksf (by injection e))
  obtain ⟨hri1, hb1⟩ := hri.mapf hv1 hg1
  have hB1 := hB.trans hb1
  clear hri ks hv1 hg1 hb1 hB
  clear y0 y1 y2 y3 y4 y5 y6 y7 y8 y9 y10 y11 y12 y13 y14 y15 hlk hltd
  have hri2 := hri1.below (Below.refl _ w1).drew
  have hB2 := hB1.drew
  have hS : Blk w1.drew (wr.heap.size) 76 #[.int .u8 s.op, .int .i64 s.a, .int .i64 s.b, .int .i64 s.pt.mul, .int .i64 s.pt.add, .int .i64 s.pt.div, .int .i64 s.pt.lo, .int .i64 s.pt.hi, .int .u8 s.how, .int .i64 s.kw, .int .i64 s.kh, .slice ka s.taps.length kc, .int .u8 s.bd, .int .i64 s.sw, .int .i64 s.sh, .slice sa s.bits.length sc] := ks1.below (Below.refl _ w1).drew ks1.lt
  clear hri1 hB1 ks1
  simp only [Act.put]
  refine plain_region (fun W' => Blk W' (wr.heap.size) 76 #[.int .u8 s.op, .int .i64 s.a, .int .i64 s.b, .int .i64 s.pt.mul, .int .i64 s.pt.add, .int .i64 s.pt.div, .int .i64 s.pt.lo, .int .i64 s.pt.hi, .int .u8 s.how, .int .i64 s.kw, .int .i64 s.kh, .slice ka s.taps.length kc, .int .u8 s.bd, .int .i64 s.sw, .int .i64 s.sh, .slice sa s.bits.length sc]) 9 9 (by kernel_rfl) rfl ?_
  simp only [Array.replicate_succ, Array.replicate_zero, List.push_toArray, List.nil_append, List.cons_append]
  obtain ⟨X0, hXX0⟩ : ∃ X : World, w1.drew = X := ⟨_, rfl⟩
  rw [hXX0] at hS hri2 hB2 ⊢
  clear hXX0
  refine tkz 0 rfl hS (fun w' hS' => by go_simp; rfl) ?_
  simp only [nrz]
  refine tkz 1 rfl hS (fun w' hS' => by obtain ⟨y0, y1, y2, y3, y4, y5, y6, y7, y8, y9, y10, y11, y12, y13, y14, y15⟩ := cz16 hS'; clear hS'; go_simp; rfl) ?_
  simp only [nrz]
  refine tkz 2 rfl hS (fun w' hS' => by obtain ⟨y0, y1, y2, y3, y4, y5, y6, y7, y8, y9, y10, y11, y12, y13, y14, y15⟩ := cz16 hS'; clear hS'; go_simp; rfl) ?_
  simp only [nrz]
  refine tkz 4 rfl hS (fun w' hS' => by go_simp; rfl) ?_
  simp only [nrz]
  refine step_op 3 (by kernel_rfl) rfl (fun K hK => ?_)
  rw [if_pos (by rfl)]
  go_simp
  refine (operands_own s hs ka sa kc sc X0).mono ?_
  rintro e X3 ⟨bo, oc, rfl, kq, hbo, hb3⟩
  have hS3 := hS.below hb3 hS.lt
  have hri3 := hri2.below hb3
  have hB3 := hB2.trans (hb3.mono hB2.size)
  have hbow : w.heap.size ≤ bo := Nat.le_trans hB2.size hbo
  clear hri2 hB2 hb3
  refine hK.out _ _ (fun h => hS3) ?_
  clear hK K
  try simp only [Act.put, nrz]
  refine tkz 5 rfl hS3 (fun w' hS' => by go_simp; rfl) ?_
  simp only [nrz]
  refine step_op 6 (by kernel_rfl) rfl (fun K hK => ?_)
  rw [if_pos (by rfl)]
  go_simp
  have hbA := jb_al (Below.refl _ X3) (.cells #[.int .u8 s.op, .int .i64 s.a, .int .i64 s.b, .int .i64 s.pt.mul, .int .i64 s.pt.add, .int .i64 s.pt.div, .int .i64 s.pt.lo, .int .i64 s.pt.hi, .int .u8 s.how, .int .i64 s.kw, .int .i64 s.kh, .slice ka s.taps.length kc, .int .u8 s.bd, .int .i64 s.sw, .int .i64 s.sh, .slice sa s.bits.length sc, .slice none 0 0, .slice (some ⟨bo, 0, none⟩) (opsN s).length oc, .int .i64 ((In : Int) + k)] 111)
  have ky := Blk.new X3 111 #[.int .u8 s.op, .int .i64 s.a, .int .i64 s.b, .int .i64 s.pt.mul, .int .i64 s.pt.add, .int .i64 s.pt.div, .int .i64 s.pt.lo, .int .i64 s.pt.hi, .int .u8 s.how, .int .i64 s.kw, .int .i64 s.kh, .slice ka s.taps.length kc, .int .u8 s.bd, .int .i64 s.sw, .int .i64 s.sh, .slice sa s.bits.length sc, .slice none 0 0, .slice (some ⟨bo, 0, none⟩) (opsN s).length oc, .int .i64 ((In : Int) + k)]
  have hri6 := hri3.below hbA
  have kq6 := kq.below hbA kq.lt
  have hS6 := hS3.below hbA hS3.lt
  have hB6 := hB3.trans (hbA.mono hB3.size)
  obtain ⟨by_, hby⟩ : ∃ b, X3.heap.size = b := ⟨_, rfl⟩
  obtain ⟨X6, hX6⟩ : ∃ X, X3.alloc (.cells #[.int .u8 s.op, .int .i64 s.a, .int .i64 s.b, .int .i64 s.pt.mul, .int .i64 s.pt.add, .int .i64 s.pt.div, .int .i64 s.pt.lo, .int .i64 s.pt.hi, .int .u8 s.how, .int .i64 s.kw, .int .i64 s.kh, .slice ka s.taps.length kc, .int .u8 s.bd, .int .i64 s.sw, .int .i64 s.sh, .slice sa s.bits.length sc, .slice none 0 0, .slice (some ⟨bo, 0, none⟩) (opsN s).length oc, .int .i64 ((In : Int) + k)] 111) = X := ⟨_, rfl⟩
  rw [hX6] at ky hri6 kq6 hS6 hB6 ⊢
  rw [hby] at ky ⊢
  clear hX6 hby hbA hri3 kq hS3 hB3
  refine hK.out _ _ (fun h => hS6) ?_
  clear hK K
  try simp only [Act.put, nrz]
  refine step_op 7 (by kernel_rfl) rfl (fun K hK => ?_)
  refine step_append_atQ rfl (.tmp 97) (.tmp 103) 105 rfl w.heap.size 111 i0 (.agg #[.int .u8 0, .int .i64 0, .int .i64 0, .int .i64 0, .int .i64 0, .int .i64 0, .int .i64 0, .int .i64 0, .int .u8 0, .int .i64 0, .int .i64 0, .slice none 0 0, .int .u8 0, .int .i64 0, .int .i64 0, .slice none 0 0, .slice none 0 0, .slice none 0 0, .int .i64 0]) 19 216 Tryz.underlying105 hi hz0 hz1 hz2 rfl (by decide) (.slice va N vc) N _ rfl hri6.rs.row ⟨by_, 0, none⟩ 1 1 (rndL ⟨⟨k, s, [], (In : Int) + k⟩, ka, kc, sa, sc, .slice none 0 0, bo, oc⟩) rfl rfl (blk_news ky) (rndL_one _ rfl) (by unfold maxLen; omega) (by omega) hB6.size ?_
  intro v' X7 hown7 hg7 hat7
  obtain ⟨hri7, hb7⟩ := hri6.push hown7 hg7 rfl rfl ⟨kq6, hbow⟩ ⟨hta.below hB0 hB6, hbi.below hB0 hB6⟩
  have hB7 := hB6.trans hb7
  have hS7 : Blk X7 (wr.heap.size) 76 #[.int .u8 s.op, .int .i64 s.a, .int .i64 s.b, .int .i64 s.pt.mul, .int .i64 s.pt.add, .int .i64 s.pt.div, .int .i64 s.pt.lo, .int .i64 s.pt.hi, .int .u8 s.how, .int .i64 s.kw, .int .i64 s.kh, .slice ka s.taps.length kc, .int .u8 s.bd, .int .i64 s.sw, .int .i64 s.sh, .slice sa s.bits.length sc] := (grown_trn hg7 (fun c => (Value.slice va N vc).ownBlock = some c) (fun c e => e)).blk hS6 (fun e => hS6.not_row (by decide) hri6.rs.row e.symm)
  clear hown7 hg7 hat7 hb7 hri6 kq6 ky hS6 hB6
  refine hK.out _ _ (fun h => hS7) ?_
  clear hK K
  try simp only [Act.put, nrz]
  refine tkz 8 rfl hS7 (fun w' hS' => by go_simp; rfl) ?_
  simp only [nrz]
  refine done_ops (by kernel_rfl) ?_
  have hnx : rdsS (In : Int) U ss (k + 1) = ⟨R.out ++ [⟨k, s, [], (In : Int) + k⟩], putF R.of ((In : Int) + k) (ilit N)⟩ := by rw [hnextH.out, hcarH.out]; rfl
  have hri8 : RdI B0 w.heap.size X7 v' (rdsS (In : Int) U ss (k + 1)).out.length (fun q => if q = N then ⟨⟨k, s, [], (In : Int) + k⟩, ka, kc, sa, sc, .slice none 0 0, bo, oc⟩ else x q) bf (2 * (k + 1)) (rdsS (In : Int) U ss (k + 1)).of bu (2 * n) U M (bp) #[.int .i64 WW, .int .i64 HH, .int .i64 (In : Int), .slice (some ⟨b, o, none⟩) n c] := by
    rw [hnx]
    simp only [List.length_append, List.length_singleton]
    rw [hNH.out]
    exact hri7.monof (by omega)
  have hx8 : Hid (∀ q, q < (rdsS (In : Int) U ss (k + 1)).out.length → ((fun q => if q = N then ⟨⟨k, s, [], (In : Int) + k⟩, ka, kc, sa, sc, .slice none 0 0, bo, oc⟩ else x q) q : RndA).r = rnAt (rdsS (In : Int) U ss (k + 1)).out q) := Lib.hid (by
    rw [hnx]
    simp only [List.length_append, List.length_singleton]
    rw [hNH.out]
    intro q hq
    have hxo := hx.out
    rw [rnAt_app (by rw [hNH.out]; omega), hNH.out]
    by_cases e : q = N
    · rw [if_pos e, if_pos e]
    · rw [if_neg e, if_neg e]; exact hxo q (by omega))
  clear hnx hri7
  go_wp2_with fail
  exact ⟨⟨k + 1, _, _, by omega, hri8, hx8, hB7, ex_fnQ rfl⟩, by simp [mu2, intOf]; omega⟩
end Go.Proofs.YtekiemlniegddaaGreat
namespace Go.Proofs.YtekiemlniegddaaGreat
open Go Go.Maps Go.RowKit Go.Shelf
set_option maxRecDepth 100000 in
set_option maxHeartbeats 8000000 in
theorem rounds_n3 (In : Nat) (ss : List StepN) (a : Option Addr) (n c : Nat) (hnH : Hid (ss.length = n)) (hn12 : n ≤ 12) (hI : In ≤ 3) (hstH : Hid (∀ i, i < n → StepIn (stAt ss i))) (hr0H : Hid (RefOk (In : Int) ss)) (B0 : Nat) (w : World) (hB0 : B0 ≤ w.heap.size) (hr : RdSs B0 w a ss) (WW HH : Int) (M : Nat) (hMI : (M : Int) = (In : Int) + n) (hM20 : M < 20) (bp bu : Nat) (hbpw : w.heap.size ≤ bp) (hbuw : bp < bu) (U : FnL) (hUH : Hid (useF ss ss.length = U)) (bf : Nat) (hbf : w.heap.size ≤ bf) (k : Nat) (v : Value) (x : Nat → RndA) (hk : k ≤ n) (hlt : k < n) (wr : World) (hri : RdI B0 w.heap.size wr v (rdsS (In : Int) U ss k).out.length x bf (2 * k) (rdsS (In : Int) U ss k).of bu (2 * n) U M (bp) #[.int .i64 WW, .int .i64 HH, .int .i64 (In : Int), .slice a n c]) (hx : Hid (∀ q, q < (rdsS (In : Int) U ss k).out.length → (x q).r = rnAt (rdsS (In : Int) U ss k).out q)) (e1 : (stAt ss k).op = 1) (e2 : (In : Int) ≤ (stAt ss k).a) (e3 : ¬ numF (U (stAt ss k).a) = 1) (u : Nat → Value)    (hB : Below w.heap.size w wr) : Code.wp Tryz.prog (loopN Tryz.f51.body 2) (Exit.then (fun A' w' => I2 In ss a n c B0 w WW HH M bp bu bf U A' w' ∧ mu2 n A' w' < mu2 n ⟨#[u 0, .pointer (some ⟨bp, 0, none⟩), u 2, .map (some bu), u 4, u 5, u 6, u 7, v, .map (some bf), u 10, u 11, u 12, u 13, u 14, u 15, u 16, u 17, u 18, u 19, u 20, u 21, u 22, u 23, u 24, u 25, u 26, u 27, u 28, u 29, u 30, u 31, u 32, u 33, u 34, u 35, u 36, .slice a n c, .int .i64 (n : Int), .int .i64 ((k : Nat) : Int), u 40, u 41, u 42, u 43, u 44, u 45, u 46, u 47, u 48, u 49, u 50, u 51, u 52, u 53, u 54, u 55, u 56, u 57, u 58, u 59, u 60, u 61, u 62, u 63, u 64, u 65, u 66, u 67, u 68, u 69, u 70, u 71, u 72, u 73, u 74, u 75, u 76, u 77, u 78, u 79, u 80, u 81, u 82, u 83, u 84, u 85, u 86, u 87, u 88, u 89, u 90, u 91, u 92, u 93, u 94, u 95, u 96, u 97, u 98, u 99, u 100, u 101, u 102, u 103, u 104, u 105, u 106], []⟩ wr) (fun _ _ _ => False)) ⟨#[u 0, .pointer (some ⟨bp, 0, none⟩), u 2, .map (some bu), u 4, u 5, u 6, u 7, v, .map (some bf), u 10, u 11, u 12, u 13, u 14, u 15, u 16, u 17, u 18, u 19, u 20, u 21, u 22, u 23, u 24, u 25, u 26, u 27, u 28, u 29, u 30, u 31, u 32, u 33, u 34, u 35, u 36, .slice a n c, .int .i64 (n : Int), .int .i64 ((k : Nat) : Int), u 40, u 41, u 42, u 43, u 44, u 45, u 46, u 47, u 48, u 49, u 50, u 51, u 52, u 53, u 54, u 55, u 56, u 57, u 58, u 59, u 60, u 61, u 62, u 63, u 64, u 65, u 66, u 67, u 68, u 69, u 70, u 71, u 72, u 73, u 74, u 75, u 76, u 77, u 78, u 79, u 80, u 81, u 82, u 83, u 84, u 85, u 86, u 87, u 88, u 89, u 90, u 91, u 92, u 93, u 94, u 95, u 96, u 97, u 98, u 99, u 100, u 101, u 102, u 103, u 104, u 105, u 106], []⟩ wr := by
  obtain ⟨i0, hi, hz0, hz1, hz2⟩ := info_partsQ info_rnd
  obtain ⟨j0, gi, gz0, gz1, gz2⟩ := info_partsQ info_pt
  unfold loopN
  conv => arg 2; whnf
  dsimp only
  have hkl : k < ss.length := by have := hnH.out; omega
  have hs := hstH.out k hlt
  have hltd : decide ((k : Int) < (n : Int)) = true := by simp; omega
  obtain ⟨b, o, ka, kc, sa, sc, rfl, hbl, hst⟩ : ∃ b o ka kc sa sc, a = some ⟨b, o, none⟩ ∧ b < B0 ∧ StAt B0 w b (o + k * 16) (stAt ss k) ka kc sa sc := by
    rcases hr with h | ⟨b, o, h1, h2, h3⟩
    · exfalso; rw [h] at hkl; simp at hkl
    · obtain ⟨ka, kc, sa, sc, e⟩ := h3 k hkl
      exact ⟨b, o, ka, kc, sa, sc, h1, h2, e⟩
  have hrefk := hr0H.out k hkl
  have hnext : rdsS (In : Int) U ss (k + 1) = (if carB (In : Int) U (stAt ss k) = true then
        ⟨(rdsS (In : Int) U ss k).out.set (numF ((rdsS (In : Int) U ss k).of (stAt ss k).a)).toNat (carR (rnAt (rdsS (In : Int) U ss k).out (numF ((rdsS (In : Int) U ss k).of (stAt ss k).a)).toNat) (stAt ss k).pt ((In : Int) + k)),
         putF (delF (rdsS (In : Int) U ss k).of (stAt ss k).a) ((In : Int) + k) (ilit (numF ((rdsS (In : Int) U ss k).of (stAt ss k).a)))⟩
      else ⟨(rdsS (In : Int) U ss k).out ++ [⟨k, stAt ss k, [], (In : Int) + k⟩], putF (rdsS (In : Int) U ss k).of ((In : Int) + k) (ilit (rdsS (In : Int) U ss k).out.length)⟩) := rfl
  have hokk := rds_ok hr0H.out k (Nat.le_of_lt hkl)
  rw [hUH.out] at hokk
  have hofq : carB (In : Int) U (stAt ss k) = true → ∃ q : Nat, q < (rdsS (In : Int) U ss k).out.length ∧ (rdsS (In : Int) U ss k).of (stAt ss k).a = some (ilit q) ∧ (rnAt (rdsS (In : Int) U ss k).out q).pts.length ≤ k := fun h => by
    have h2 := of_here (rds_ok hr0H.out k (Nat.le_of_lt hkl)) hr0H.out hkl (by rw [hUH.out]; exact h)
    rw [hUH.out] at h2
    obtain ⟨q, h3, h4, _⟩ := h2
    have h5 := fun hq => pts_le hr0H.out (Nat.le_of_lt hkl) (q := q) hq
    rw [hUH.out] at h5
    exact ⟨q, h3, h4, h5 h3⟩
  have hokH := Lib.hid hokk
  have hlenk := hokk.len
  clear hokk
  obtain ⟨s, hse⟩ : ∃ s, stAt ss k = s := ⟨_, rfl⟩
  rw [hse] at hs hst hrefk hnext hofq e1 e2 e3
  have hseH := Lib.hid hse
  have hrefH := Lib.hid hrefk
  have hnextH := Lib.hid hnext
  clear hse hrefk hnext
  obtain ⟨hcell, hta, hbi⟩ := hst
  obtain ⟨R, hR⟩ : ∃ R, rdsS (In : Int) U ss k = R := ⟨_, rfl⟩
  rw [hR] at hri hx hnextH hokH hlenk hofq
  clear hR
  obtain ⟨N, hN⟩ : ∃ N, R.out.length = N := ⟨_, rfl⟩
  rw [hN] at hri hx hnextH hlenk hofq
  have hofqH := Lib.hid hofq
  clear hofq
  have hNH := Lib.hid hN
  clear hN
  obtain ⟨va, vc, rfl⟩ := hri.rs.slice
  obtain ⟨A, hA⟩ : ∃ A : Nat, s.a = (A : Int) := ⟨s.a.toNat, by have := hrefH.out _ (opsN_a s); omega⟩
  have hAM : A < M := by have := hrefH.out _ (opsN_a s); omega
  have c0 : wr.cell? ⟨b, o + k * 16, none⟩ = some (.int .u8 s.op) := (hB.cell (p := ⟨b, o + k * 16, none⟩) (Nat.lt_of_lt_of_le hbl hB0)).trans (hcell 0 _ rfl)
  have c1 : wr.cell? ⟨b, o + k * 16 + 1, none⟩ = some (.int .i64 s.a) := (hB.cell (p := ⟨b, o + k * 16 + 1, none⟩) (Nat.lt_of_lt_of_le hbl hB0)).trans (hcell 1 _ rfl)
  have c2 : wr.cell? ⟨b, o + k * 16 + 2, none⟩ = some (.int .i64 s.b) := (hB.cell (p := ⟨b, o + k * 16 + 2, none⟩) (Nat.lt_of_lt_of_le hbl hB0)).trans (hcell 2 _ rfl)
  have c3 : wr.cell? ⟨b, o + k * 16 + 3, none⟩ = some (.int .i64 s.pt.mul) := (hB.cell (p := ⟨b, o + k * 16 + 3, none⟩) (Nat.lt_of_lt_of_le hbl hB0)).trans (hcell 3 _ rfl)
  have c4 : wr.cell? ⟨b, o + k * 16 + 4, none⟩ = some (.int .i64 s.pt.add) := (hB.cell (p := ⟨b, o + k * 16 + 4, none⟩) (Nat.lt_of_lt_of_le hbl hB0)).trans (hcell 4 _ rfl)
  have c5 : wr.cell? ⟨b, o + k * 16 + 5, none⟩ = some (.int .i64 s.pt.div) := (hB.cell (p := ⟨b, o + k * 16 + 5, none⟩) (Nat.lt_of_lt_of_le hbl hB0)).trans (hcell 5 _ rfl)
  have c6 : wr.cell? ⟨b, o + k * 16 + 6, none⟩ = some (.int .i64 s.pt.lo) := (hB.cell (p := ⟨b, o + k * 16 + 6, none⟩) (Nat.lt_of_lt_of_le hbl hB0)).trans (hcell 6 _ rfl)
  have c7 : wr.cell? ⟨b, o + k * 16 + 7, none⟩ = some (.int .i64 s.pt.hi) := (hB.cell (p := ⟨b, o + k * 16 + 7, none⟩) (Nat.lt_of_lt_of_le hbl hB0)).trans (hcell 7 _ rfl)
  have c8 : wr.cell? ⟨b, o + k * 16 + 8, none⟩ = some (.int .u8 s.how) := (hB.cell (p := ⟨b, o + k * 16 + 8, none⟩) (Nat.lt_of_lt_of_le hbl hB0)).trans (hcell 8 _ rfl)
  have c9 : wr.cell? ⟨b, o + k * 16 + 9, none⟩ = some (.int .i64 s.kw) := (hB.cell (p := ⟨b, o + k * 16 + 9, none⟩) (Nat.lt_of_lt_of_le hbl hB0)).trans (hcell 9 _ rfl)
  have c10 : wr.cell? ⟨b, o + k * 16 + 10, none⟩ = some (.int .i64 s.kh) := (hB.cell (p := ⟨b, o + k * 16 + 10, none⟩) (Nat.lt_of_lt_of_le hbl hB0)).trans (hcell 10 _ rfl)
  have c11 : wr.cell? ⟨b, o + k * 16 + 11, none⟩ = some (.slice ka s.taps.length kc) := (hB.cell (p := ⟨b, o + k * 16 + 11, none⟩) (Nat.lt_of_lt_of_le hbl hB0)).trans (hcell 11 _ rfl)
  have c12 : wr.cell? ⟨b, o + k * 16 + 12, none⟩ = some (.int .u8 s.bd) := (hB.cell (p := ⟨b, o + k * 16 + 12, none⟩) (Nat.lt_of_lt_of_le hbl hB0)).trans (hcell 12 _ rfl)
  have c13 : wr.cell? ⟨b, o + k * 16 + 13, none⟩ = some (.int .i64 s.sw) := (hB.cell (p := ⟨b, o + k * 16 + 13, none⟩) (Nat.lt_of_lt_of_le hbl hB0)).trans (hcell 13 _ rfl)
  have c14 : wr.cell? ⟨b, o + k * 16 + 14, none⟩ = some (.int .i64 s.sh) := (hB.cell (p := ⟨b, o + k * 16 + 14, none⟩) (Nat.lt_of_lt_of_le hbl hB0)).trans (hcell 14 _ rfl)
  have c15 : wr.cell? ⟨b, o + k * 16 + 15, none⟩ = some (.slice sa s.bits.length sc) := (hB.cell (p := ⟨b, o + k * 16 + 15, none⟩) (Nat.lt_of_lt_of_le hbl hB0)).trans (hcell 15 _ rfl)
  clear hcell
  have kp := hri.kp
  obtain ⟨m0, m1, m2, m3⟩ := cz4 kp
  obtain ⟨V51, hEV51, hbV51, ks⟩ := newB wr 76 #[.int .u8 s.op, .int .i64 s.a, .int .i64 s.b, .int .i64 s.pt.mul, .int .i64 s.pt.add, .int .i64 s.pt.div, .int .i64 s.pt.lo, .int .i64 s.pt.hi, .int .u8 s.how, .int .i64 s.kw, .int .i64 s.kh, .slice ka s.taps.length kc, .int .u8 s.bd, .int .i64 s.sw, .int .i64 s.sh, .slice sa s.bits.length sc]
  clear m0 m1 m2 m3
  replace kp := kp.below hbV51 kp.lt
  replace hri := hri.below hbV51
  replace hB := tmB hB hbV51
  clear hbV51
  obtain ⟨m0, m1, m2, m3⟩ := cz4 kp
  obtain ⟨y0, y1, y2, y3, y4, y5, y6, y7, y8, y9, y10, y11, y12, y13, y14, y15⟩ := cz16 ks
  have hopr := hs.op
  have hlk := hri.um.run_look Tryz.underlying3 Tryz.underlying101 Tryz.underlying3 (zero_num _) (A : Int) (wf_num ⟨by omega, by omega⟩)
  obtain ⟨cu, hcu⟩ : ∃ c, numF (U (A : Int)) = c := ⟨_, rfl⟩
  rw [hcu] at hlk
  have hcuH := Lib.hid hcu
  have hAH := Lib.hid hA
  clear hcu
  rw [hA] at y1
  clear hA
  have e1b : (s.op == 1) = true := by simp [e1]
  have e1H := Lib.hid e1
  clear e1
  rw [hAH.out] at e2 e3
  rw [hcuH.out] at e3
  have e2n : In ≤ A := by omega
  have e2b : decide (In ≤ A) = true := decide_eq_true e2n
  have e3b : (cu == 1) = false := by simp [e3]
  have hcar : carB (In : Int) U s = false := by unfold carB; rw [hAH.out, hcuH.out, decide_eq_false e3]; simp
  have hcarH := Lib.hid hcar
  clear e2 e3 hcar
  have hksf := hri.fm.not_cells ks
  go_wp2_with (first
    | (at_mapUpdate; refine OwnF.putw _ rfl _ _ _ _ rfl Tryz.underlying3 Tryz.underlying101 bf rfl hri.fm (by omega) (In + k) (by omega) (by omega) _ _ (by first | rfl | (simp; done) | (simp; omega)) rfl (plainElem_int Tryz.underlying3 (wf_num ⟨by omega, by omega⟩)) ?_; intro w1 hv1 hg1))
  have ks1 := ks.kept hg1 (fun e => hksf (by injection e))
  obtain ⟨hri1, hb1⟩ := hri.mapf hv1 hg1
  have hB1 := hB.trans hb1
  clear hri ks hv1 hg1 hb1 hB
  clear y0 y1 y2 y3 y4 y5 y6 y7 y8 y9 y10 y11 y12 y13 y14 y15 hlk hltd
  have hri2 := hri1.below (Below.refl _ w1).drew
  have hB2 := hB1.drew
  have hS : Blk w1.drew (wr.heap.size) 76 #[.int .u8 s.op, .int .i64 s.a, .int .i64 s.b, .int .i64 s.pt.mul, .int .i64 s.pt.add, .int .i64 s.pt.div, .int .i64 s.pt.lo, .int .i64 s.pt.hi, .int .u8 s.how, .int .i64 s.kw, .int .i64 s.kh, .slice ka s.taps.length kc, .int .u8 s.bd, .int .i64 s.sw, .int .i64 s.sh, .slice sa s.bits.length sc] := ks1.below (Below.refl _ w1).drew ks1.lt
  clear hri1 hB1 ks1
  simp only [Act.put]
  refine plain_region (fun W' => Blk W' (wr.heap.size) 76 #[.int .u8 s.op, .int .i64 s.a, .int .i64 s.b, .int .i64 s.pt.mul, .int .i64 s.pt.add, .int .i64 s.pt.div, .int .i64 s.pt.lo, .int .i64 s.pt.hi, .int .u8 s.how, .int .i64 s.kw, .int .i64 s.kh, .slice ka s.taps.length kc, .int .u8 s.bd, .int .i64 s.sw, .int .i64 s.sh, .slice sa s.bits.length sc]) 9 9 (by kernel_rfl) rfl ?_
  simp only [Array.replicate_succ, Array.replicate_zero, List.push_toArray, List.nil_append, List.cons_append]
  obtain ⟨X0, hXX0⟩ : ∃ X : World, w1.drew = X := ⟨_, rfl⟩
  rw [hXX0] at hS hri2 hB2 ⊢
  clear hXX0
  refine tkz 0 rfl hS (fun w' hS' => by go_simp; rfl) ?_
  simp only [nrz]
  refine tkz 1 rfl hS (fun w' hS' => by obtain ⟨y0, y1, y2, y3, y4, y5, y6, y7, y8, y9, y10, y11, y12, y13, y14, y15⟩ := cz16 hS'; clear hS'; go_simp; rfl) ?_
  simp only [nrz]
  refine tkz 2 rfl hS (fun w' hS' => by obtain ⟨y0, y1, y2, y3, y4, y5, y6, y7, y8, y9, y10, y11, y12, y13, y14, y15⟩ := cz16 hS'; clear hS'; go_simp; rfl) ?_
  simp only [nrz]
  refine tkz 4 rfl hS (fun w' hS' => by go_simp; rfl) ?_
  simp only [nrz]
  refine step_op 3 (by kernel_rfl) rfl (fun K hK => ?_)
  rw [if_pos (by rfl)]
  go_simp
  refine (operands_own s hs ka sa kc sc X0).mono ?_
  rintro e X3 ⟨bo, oc, rfl, kq, hbo, hb3⟩
  have hS3 := hS.below hb3 hS.lt
  have hri3 := hri2.below hb3
  have hB3 := hB2.trans (hb3.mono hB2.size)
  have hbow : w.heap.size ≤ bo := Nat.le_trans hB2.size hbo
  clear hri2 hB2 hb3
  refine hK.out _ _ (fun h => hS3) ?_
  clear hK K
  try simp only [Act.put, nrz]
  refine tkz 5 rfl hS3 (fun w' hS' => by go_simp; rfl) ?_
  simp only [nrz]
  refine step_op 6 (by kernel_rfl) rfl (fun K hK => ?_)
  rw [if_pos (by rfl)]
  go_simp
  have hbA := jb_al (Below.refl _ X3) (.cells #[.int .u8 s.op, .int .i64 s.a, .int .i64 s.b, .int .i64 s.pt.mul, .int .i64 s.pt.add, .int .i64 s.pt.div, .int .i64 s.pt.lo, .int .i64 s.pt.hi, .int .u8 s.how, .int .i64 s.kw, .int .i64 s.kh, .slice ka s.taps.length kc, .int .u8 s.bd, .int .i64 s.sw, .int .i64 s.sh, .slice sa s.bits.length sc, .slice none 0 0, .slice (some ⟨bo, 0, none⟩) (opsN s).length oc, .int .i64 ((In : Int) + k)] 111)
  have ky := Blk.new X3 111 #[.int .u8 s.op, .int .i64 s.a, .int .i64 s.b, .int .i64 s.pt.mul, .int .i64 s.pt.add, .int .i64 s.pt.div, .int .i64 s.pt.lo, .int .i64 s.pt.hi, .int .u8 s.how, .int .i64 s.kw, .int .i64 s.kh, .slice ka s.taps.length kc, .int .u8 s.bd, .int .i64 s.sw, .int .i64 s.sh, .slice sa s.bits.length sc, .slice none 0 0, .slice (some ⟨bo, 0, none⟩) (opsN s).length oc, .int .i64 ((In : Int) + k)]
  have hri6 := hri3.below hbA
  have kq6 := kq.below hbA kq.lt
  have hS6 := hS3.below hbA hS3.lt
  have hB6 := hB3.trans (hbA.mono hB3.size)
  obtain ⟨by_, hby⟩ : ∃ b, X3.heap.size = b := ⟨_, rfl⟩
  obtain ⟨X6, hX6⟩ : ∃ X, X3.alloc (.cells #[.int .u8 s.op, .int .i64 s.a, .int .i64 s.b, .int .i64 s.pt.mul, .int .i64 s.pt.add, .int .i64 s.pt.div, .int .i64 s.pt.lo, .int .i64 s.pt.hi, .int .u8 s.how, .int .i64 s.kw, .int .i64 s.kh, .slice ka s.taps.length kc, .int .u8 s.bd, .int .i64 s.sw, .int .i64 s.sh, .slice sa s.bits.length sc, .slice none 0 0, .slice (some ⟨bo, 0, none⟩) (opsN s).length oc, .int .i64 ((In : Int) + k)] 111) = X := ⟨_, rfl⟩
  rw [hX6] at ky hri6 kq6 hS6 hB6 ⊢
  rw [hby] at ky ⊢
  clear hX6 hby hbA hri3 kq hS3 hB3
  refine hK.out _ _ (fun h => hS6) ?_
  clear hK K
  try simp only [Act.put, nrz]
  refine step_op 7 (by kernel_rfl) rfl (fun K hK => ?_)
  refine step_append_atQ rfl (.tmp 97) (.tmp 103) 105 rfl w.heap.size 111 i0 (.agg #[.int .u8 0, .int .i64 0, .int .i64 0, .int .i64 0, .int .i64 0, .int .i64 0, .int .i64 0, .int .i64 0, .int .u8 0, .int .i64 0, .int .i64 0, .slice none 0 0, .int .u8 0, .int .i64 0, .int .i64 0, .slice none 0 0, .slice none 0 0, .slice none 0 0, .int .i64 0]) 19 216 Tryz.underlying105 hi hz0 hz1 hz2 rfl (by decide) (.slice va N vc) N _ rfl hri6.rs.row ⟨by_, 0, none⟩ 1 1 (rndL ⟨⟨k, s, [], (In : Int) + k⟩, ka, kc, sa, sc, .slice none 0 0, bo, oc⟩) rfl rfl (blk_news ky) (rndL_one _ rfl) (by unfold maxLen; omega) (by omega) hB6.size ?_
  intro v' X7 hown7 hg7 hat7
  obtain ⟨hri7, hb7⟩ := hri6.push hown7 hg7 rfl rfl ⟨kq6, hbow⟩ ⟨hta.below hB0 hB6, hbi.below hB0 hB6⟩
  have hB7 := hB6.trans hb7
  have hS7 : Blk X7 (wr.heap.size) 76 #[.int .u8 s.op, .int .i64 s.a, .int .i64 s.b, .int .i64 s.pt.mul, .int .i64 s.pt.add, .int .i64 s.pt.div, .int .i64 s.pt.lo, .int .i64 s.pt.hi, .int .u8 s.how, .int .i64 s.kw, .int .i64 s.kh, .slice ka s.taps.length kc, .int .u8 s.bd, .int .i64 s.sw, .int .i64 s.sh, .slice sa s.bits.length sc] := (grown_trn hg7 (fun c => (Value.slice va N vc).ownBlock = some c) (fun c e => e)).blk hS6 (fun e => hS6.not_row (by decide) hri6.rs.row e.symm)
  clear hown7 hg7 hat7 hb7 hri6 kq6 ky hS6 hB6
  refine hK.out _ _ (fun h => hS7) ?_
  clear hK K
  try simp only [Act.put, nrz]
  refine tkz 8 rfl hS7 (fun w' hS' => by go_simp; rfl) ?_
  simp only [nrz]
  refine done_ops (by kernel_rfl) ?_
  have hnx : rdsS (In : Int) U ss (k + 1) = ⟨R.out ++ [⟨k, s, [], (In : Int) + k⟩], putF R.of ((In : Int) + k) (ilit N)⟩ := by rw [hnextH.out, hcarH.out]; rfl
  have hri8 : RdI B0 w.heap.size X7 v' (rdsS (In : Int) U ss (k + 1)).out.length (fun q => if q = N then ⟨⟨k, s, [], (In : Int) + k⟩, ka, kc, sa, sc, .slice none 0 0, bo, oc⟩ else x q) bf (2 * (k + 1)) (rdsS (In : Int) U ss (k + 1)).of bu (2 * n) U M (bp) #[.int .i64 WW, .int .i64 HH, .int .i64 (In : Int), .slice (some ⟨b, o, none⟩) n c] := by
    rw [hnx]
    simp only [List.length_append, List.length_singleton]
    rw [hNH.out]
    exact hri7.monof (by omega)
  have hx8 : Hid (∀ q, q < (rdsS (In : Int) U ss (k + 1)).out.length → ((fun q => if q = N then ⟨⟨k, s, [], (In : Int) + k⟩, ka, kc, sa, sc, .slice none 0 0, bo, oc⟩ else x q) q : RndA).r = rnAt (rdsS (In : Int) U ss (k + 1)).out q) := Lib.hid (by
    rw [hnx]
    simp only [List.length_append, List.length_singleton]
    rw [hNH.out]
    intro q hq
    have hxo := hx.out
    rw [rnAt_app (by rw [hNH.out]; omega), hNH.out]
    by_cases e : q = N
    · rw [if_pos e, if_pos e]
    · rw [if_neg e, if_neg e]; exact hxo q (by omega))
  clear hnx hri7
  go_wp2_with fail
  exact ⟨⟨k + 1, _, _, by omega, hri8, hx8, hB7, ex_fnQ rfl⟩, by simp [mu2, intOf]; omega⟩
end Go.Proofs.YtekiemlniegddaaGreat
namespace Go.Proofs.YtekiemlniegddaaGreat
open Go Go.Maps Go.RowKit Go.Shelf
set_option maxRecDepth 100000 in
set_option maxHeartbeats 8000000 in
theorem rounds_c (In : Nat) (ss : List StepN) (a : Option Addr) (n c : Nat) (hnH : Hid (ss.length = n)) (hn12 : n ≤ 12) (hI : In ≤ 3) (hstH : Hid (∀ i, i < n → StepIn (stAt ss i))) (hr0H : Hid (RefOk (In : Int) ss)) (B0 : Nat) (w : World) (hB0 : B0 ≤ w.heap.size) (hr : RdSs B0 w a ss) (WW HH : Int) (M : Nat) (hMI : (M : Int) = (In : Int) + n) (hM20 : M < 20) (bp bu : Nat) (hbpw : w.heap.size ≤ bp) (hbuw : bp < bu) (U : FnL) (hUH : Hid (useF ss ss.length = U)) (bf : Nat) (hbf : w.heap.size ≤ bf) (k : Nat) (v : Value) (x : Nat → RndA) (hk : k ≤ n) (hlt : k < n) (wr : World) (hri : RdI B0 w.heap.size wr v (rdsS (In : Int) U ss k).out.length x bf (2 * k) (rdsS (In : Int) U ss k).of bu (2 * n) U M (bp) #[.int .i64 WW, .int .i64 HH, .int .i64 (In : Int), .slice a n c]) (hx : Hid (∀ q, q < (rdsS (In : Int) U ss k).out.length → (x q).r = rnAt (rdsS (In : Int) U ss k).out q)) (e1 : (stAt ss k).op = 1) (e2 : (In : Int) ≤ (stAt ss k).a) (e3 : numF (U (stAt ss k).a) = 1) (u : Nat → Value)    (hB : Below w.heap.size w wr) : Code.wp Tryz.prog (loopN Tryz.f51.body 2) (Exit.then (fun A' w' => I2 In ss a n c B0 w WW HH M bp bu bf U A' w' ∧ mu2 n A' w' < mu2 n ⟨#[u 0, .pointer (some ⟨bp, 0, none⟩), u 2, .map (some bu), u 4, u 5, u 6, u 7, v, .map (some bf), u 10, u 11, u 12, u 13, u 14, u 15, u 16, u 17, u 18, u 19, u 20, u 21, u 22, u 23, u 24, u 25, u 26, u 27, u 28, u 29, u 30, u 31, u 32, u 33, u 34, u 35, u 36, .slice a n c, .int .i64 (n : Int), .int .i64 ((k : Nat) : Int), u 40, u 41, u 42, u 43, u 44, u 45, u 46, u 47, u 48, u 49, u 50, u 51, u 52, u 53, u 54, u 55, u 56, u 57, u 58, u 59, u 60, u 61, u 62, u 63, u 64, u 65, u 66, u 67, u 68, u 69, u 70, u 71, u 72, u 73, u 74, u 75, u 76, u 77, u 78, u 79, u 80, u 81, u 82, u 83, u 84, u 85, u 86, u 87, u 88, u 89, u 90, u 91, u 92, u 93, u 94, u 95, u 96, u 97, u 98, u 99, u 100, u 101, u 102, u 103, u 104, u 105, u 106], []⟩ wr) (fun _ _ _ => False)) ⟨#[u 0, .pointer (some ⟨bp, 0, none⟩), u 2, .map (some bu), u 4, u 5, u 6, u 7, v, .map (some bf), u 10, u 11, u 12, u 13, u 14, u 15, u 16, u 17, u 18, u 19, u 20, u 21, u 22, u 23, u 24, u 25, u 26, u 27, u 28, u 29, u 30, u 31, u 32, u 33, u 34, u 35, u 36, .slice a n c, .int .i64 (n : Int), .int .i64 ((k : Nat) : Int), u 40, u 41, u 42, u 43, u 44, u 45, u 46, u 47, u 48, u 49, u 50, u 51, u 52, u 53, u 54, u 55, u 56, u 57, u 58, u 59, u 60, u 61, u 62, u 63, u 64, u 65, u 66, u 67, u 68, u 69, u 70, u 71, u 72, u 73, u 74, u 75, u 76, u 77, u 78, u 79, u 80, u 81, u 82, u 83, u 84, u 85, u 86, u 87, u 88, u 89, u 90, u 91, u 92, u 93, u 94, u 95, u 96, u 97, u 98, u 99, u 100, u 101, u 102, u 103, u 104, u 105, u 106], []⟩ wr := by
  obtain ⟨i0, hi, hz0, hz1, hz2⟩ := info_partsQ info_rnd
  obtain ⟨j0, gi, gz0, gz1, gz2⟩ := info_partsQ info_pt
  unfold loopN
  conv => arg 2; whnf
  dsimp only
  have hkl : k < ss.length := by have := hnH.out; omega
  have hs := hstH.out k hlt
  have hltd : decide ((k : Int) < (n : Int)) = true := by simp; omega
  obtain ⟨b, o, ka, kc, sa, sc, rfl, hbl, hst⟩ : ∃ b o ka kc sa sc, a = some ⟨b, o, none⟩ ∧ b < B0 ∧ StAt B0 w b (o + k * 16) (stAt ss k) ka kc sa sc := by
    rcases hr with h | ⟨b, o, h1, h2, h3⟩
    · exfalso; rw [h] at hkl; simp at hkl
    · obtain ⟨ka, kc, sa, sc, e⟩ := h3 k hkl
      exact ⟨b, o, ka, kc, sa, sc, h1, h2, e⟩
  have hrefk := hr0H.out k hkl
  have hnext : rdsS (In : Int) U ss (k + 1) = (if carB (In : Int) U (stAt ss k) = true then
        ⟨(rdsS (In : Int) U ss k).out.set (numF ((rdsS (In : Int) U ss k).of (stAt ss k).a)).toNat (carR (rnAt (rdsS (In : Int) U ss k).out (numF ((rdsS (In : Int) U ss k).of (stAt ss k).a)).toNat) (stAt ss k).pt ((In : Int) + k)),
         putF (delF (rdsS (In : Int) U ss k).of (stAt ss k).a) ((In : Int) + k) (ilit (numF ((rdsS (In : Int) U ss k).of (stAt ss k).a)))⟩
      else ⟨(rdsS (In : Int) U ss k).out ++ [⟨k, stAt ss k, [], (In : Int) + k⟩], putF (rdsS (In : Int) U ss k).of ((In : Int) + k) (ilit (rdsS (In : Int) U ss k).out.length)⟩) := rfl
  have hokk := rds_ok hr0H.out k (Nat.le_of_lt hkl)
  rw [hUH.out] at hokk
  have hofq : carB (In : Int) U (stAt ss k) = true → ∃ q : Nat, q < (rdsS (In : Int) U ss k).out.length ∧ (rdsS (In : Int) U ss k).of (stAt ss k).a = some (ilit q) ∧ (rnAt (rdsS (In : Int) U ss k).out q).pts.length ≤ k := fun h => by
    have h2 := of_here (rds_ok hr0H.out k (Nat.le_of_lt hkl)) hr0H.out hkl (by rw [hUH.out]; exact h)
    rw [hUH.out] at h2
    obtain ⟨q, h3, h4, _⟩ := h2
    have h5 := fun hq => pts_le hr0H.out (Nat.le_of_lt hkl) (q := q) hq
    rw [hUH.out] at h5
    exact ⟨q, h3, h4, h5 h3⟩
  have hokH := Lib.hid hokk
  have hlenk := hokk.len
  clear hokk
  obtain ⟨s, hse⟩ : ∃ s, stAt ss k = s := ⟨_, rfl⟩
  rw [hse] at hs hst hrefk hnext hofq e1 e2 e3
  have hseH := Lib.hid hse
  have hrefH := Lib.hid hrefk
  have hnextH := Lib.hid hnext
  clear hse hrefk hnext
  obtain ⟨hcell, hta, hbi⟩ := hst
  obtain ⟨R, hR⟩ : ∃ R, rdsS (In : Int) U ss k = R := ⟨_, rfl⟩
  rw [hR] at hri hx hnextH hokH hlenk hofq
  clear hR
  obtain ⟨N, hN⟩ : ∃ N, R.out.length = N := ⟨_, rfl⟩
  rw [hN] at hri hx hnextH hlenk hofq
  have hofqH := Lib.hid hofq
  clear hofq
  have hNH := Lib.hid hN
  clear hN
  obtain ⟨va, vc, rfl⟩ := hri.rs.slice
  obtain ⟨A, hA⟩ : ∃ A : Nat, s.a = (A : Int) := ⟨s.a.toNat, by have := hrefH.out _ (opsN_a s); omega⟩
  have hAM : A < M := by have := hrefH.out _ (opsN_a s); omega
  have c0 : wr.cell? ⟨b, o + k * 16, none⟩ = some (.int .u8 s.op) := (hB.cell (p := ⟨b, o + k * 16, none⟩) (Nat.lt_of_lt_of_le hbl hB0)).trans (hcell 0 _ rfl)
  have c1 : wr.cell? ⟨b, o + k * 16 + 1, none⟩ = some (.int .i64 s.a) := (hB.cell (p := ⟨b, o + k * 16 + 1, none⟩) (Nat.lt_of_lt_of_le hbl hB0)).trans (hcell 1 _ rfl)
  have c2 : wr.cell? ⟨b, o + k * 16 + 2, none⟩ = some (.int .i64 s.b) := (hB.cell (p := ⟨b, o + k * 16 + 2, none⟩) (Nat.lt_of_lt_of_le hbl hB0)).trans (hcell 2 _ rfl)
  have c3 : wr.cell? ⟨b, o + k * 16 + 3, none⟩ = some (.int .i64 s.pt.mul) := (hB.cell (p := ⟨b, o + k * 16 + 3, none⟩) (Nat.lt_of_lt_of_le hbl hB0)).trans (hcell 3 _ rfl)
  have c4 : wr.cell? ⟨b, o + k * 16 + 4, none⟩ = some (.int .i64 s.pt.add) := (hB.cell (p := ⟨b, o + k * 16 + 4, none⟩) (Nat.lt_of_lt_of_le hbl hB0)).trans (hcell 4 _ rfl)
  have c5 : wr.cell? ⟨b, o + k * 16 + 5, none⟩ = some (.int .i64 s.pt.div) := (hB.cell (p := ⟨b, o + k * 16 + 5, none⟩) (Nat.lt_of_lt_of_le hbl hB0)).trans (hcell 5 _ rfl)
  have c6 : wr.cell? ⟨b, o + k * 16 + 6, none⟩ = some (.int .i64 s.pt.lo) := (hB.cell (p := ⟨b, o + k * 16 + 6, none⟩) (Nat.lt_of_lt_of_le hbl hB0)).trans (hcell 6 _ rfl)
  have c7 : wr.cell? ⟨b, o + k * 16 + 7, none⟩ = some (.int .i64 s.pt.hi) := (hB.cell (p := ⟨b, o + k * 16 + 7, none⟩) (Nat.lt_of_lt_of_le hbl hB0)).trans (hcell 7 _ rfl)
  have c8 : wr.cell? ⟨b, o + k * 16 + 8, none⟩ = some (.int .u8 s.how) := (hB.cell (p := ⟨b, o + k * 16 + 8, none⟩) (Nat.lt_of_lt_of_le hbl hB0)).trans (hcell 8 _ rfl)
  have c9 : wr.cell? ⟨b, o + k * 16 + 9, none⟩ = some (.int .i64 s.kw) := (hB.cell (p := ⟨b, o + k * 16 + 9, none⟩) (Nat.lt_of_lt_of_le hbl hB0)).trans (hcell 9 _ rfl)
  have c10 : wr.cell? ⟨b, o + k * 16 + 10, none⟩ = some (.int .i64 s.kh) := (hB.cell (p := ⟨b, o + k * 16 + 10, none⟩) (Nat.lt_of_lt_of_le hbl hB0)).trans (hcell 10 _ rfl)
  have c11 : wr.cell? ⟨b, o + k * 16 + 11, none⟩ = some (.slice ka s.taps.length kc) := (hB.cell (p := ⟨b, o + k * 16 + 11, none⟩) (Nat.lt_of_lt_of_le hbl hB0)).trans (hcell 11 _ rfl)
  have c12 : wr.cell? ⟨b, o + k * 16 + 12, none⟩ = some (.int .u8 s.bd) := (hB.cell (p := ⟨b, o + k * 16 + 12, none⟩) (Nat.lt_of_lt_of_le hbl hB0)).trans (hcell 12 _ rfl)
  have c13 : wr.cell? ⟨b, o + k * 16 + 13, none⟩ = some (.int .i64 s.sw) := (hB.cell (p := ⟨b, o + k * 16 + 13, none⟩) (Nat.lt_of_lt_of_le hbl hB0)).trans (hcell 13 _ rfl)
  have c14 : wr.cell? ⟨b, o + k * 16 + 14, none⟩ = some (.int .i64 s.sh) := (hB.cell (p := ⟨b, o + k * 16 + 14, none⟩) (Nat.lt_of_lt_of_le hbl hB0)).trans (hcell 14 _ rfl)
  have c15 : wr.cell? ⟨b, o + k * 16 + 15, none⟩ = some (.slice sa s.bits.length sc) := (hB.cell (p := ⟨b, o + k * 16 + 15, none⟩) (Nat.lt_of_lt_of_le hbl hB0)).trans (hcell 15 _ rfl)
  clear hcell
  have kp := hri.kp
  obtain ⟨m0, m1, m2, m3⟩ := cz4 kp
  obtain ⟨V51, hEV51, hbV51, ks⟩ := newB wr 76 #[.int .u8 s.op, .int .i64 s.a, .int .i64 s.b, .int .i64 s.pt.mul, .int .i64 s.pt.add, .int .i64 s.pt.div, .int .i64 s.pt.lo, .int .i64 s.pt.hi, .int .u8 s.how, .int .i64 s.kw, .int .i64 s.kh, .slice ka s.taps.length kc, .int .u8 s.bd, .int .i64 s.sw, .int .i64 s.sh, .slice sa s.bits.length sc]
  clear m0 m1 m2 m3
  replace kp := kp.below hbV51 kp.lt
  replace hri := hri.below hbV51
  replace hB := tmB hB hbV51
  clear hbV51
  obtain ⟨m0, m1, m2, m3⟩ := cz4 kp
  obtain ⟨y0, y1, y2, y3, y4, y5, y6, y7, y8, y9, y10, y11, y12, y13, y14, y15⟩ := cz16 ks
  have hopr := hs.op
  have hlk := hri.um.run_look Tryz.underlying3 Tryz.underlying101 Tryz.underlying3 (zero_num _) (A : Int) (wf_num ⟨by omega, by omega⟩)
  obtain ⟨cu, hcu⟩ : ∃ c, numF (U (A : Int)) = c := ⟨_, rfl⟩
  rw [hcu] at hlk
  have hcuH := Lib.hid hcu
  have hAH := Lib.hid hA
  clear hcu
  rw [hA] at y1
  clear hA
  have e1b : (s.op == 1) = true := by simp [e1]
  have e1H := Lib.hid e1
  clear e1
  rw [hAH.out] at e2 e3
  rw [hcuH.out] at e3
  have e2n : In ≤ A := by omega
  have e2b : decide (In ≤ A) = true := decide_eq_true e2n
  have e3b : (cu == 1) = true := by simp [e3]
  have hcar : carB (In : Int) U s = true := by unfold carB; rw [e1H.out, hAH.out, hcuH.out, e3, decide_eq_true (show (In : Int) ≤ (A : Int) by omega)]; rfl
  have hcarH := Lib.hid hcar
  clear e2 e3 hcar
  obtain ⟨q, hqN, hqof, hqle⟩ := hofqH.out hcarH.out
  have hxq := hx.out q hqN
  rw [← hxq] at hqle
  clear hxq
  rw [hAH.out] at hqof
  have hlf := hri.fm.run_look Tryz.underlying3 Tryz.underlying101 Tryz.underlying3 (zero_num _) (A : Int) (wf_num ⟨by omega, by omega⟩)
  rw [hqof, numF_lit] at hlf
  have hqofH := Lib.hid hqof
  clear hqof
  have hksf := hri.fm.not_cells ks
  go_wp2_with (first
    | (at_delete; refine OwnF.delw _ rfl _ _ _ rfl Tryz.underlying3 Tryz.underlying101 bf rfl hri.fm A (by omega) (by omega) rfl ?_; intro w1 hv1 hg1))
  have ks1 := ks.kept hg1 (fun e => hksf (by injection e))
  obtain ⟨hri1, hb1⟩ := hri.mapf hv1 hg1
  have hB1 := hB.trans hb1
  clear hri ks hv1 hg1 hb1 hB
  clear y0 y1 y2 y3 y4 y5 y6 y7 y8 y9 y10 y11 y12 y13 y14 y15 hlk hlf hltd
  have hri2 := hri1.below (Below.refl _ w1).drew
  have hB2 := hB1.drew
  have ks2 : Blk w1.drew (wr.heap.size) 76 #[.int .u8 s.op, .int .i64 s.a, .int .i64 s.b, .int .i64 s.pt.mul, .int .i64 s.pt.add, .int .i64 s.pt.div, .int .i64 s.pt.lo, .int .i64 s.pt.hi, .int .u8 s.how, .int .i64 s.kw, .int .i64 s.kh, .slice ka s.taps.length kc, .int .u8 s.bd, .int .i64 s.sw, .int .i64 s.sh, .slice sa s.bits.length sc] := ks1.below (Below.refl _ w1).drew ks1.lt
  clear hri1 hB1 ks1
  obtain ⟨g, gc, hvs, hgB, hgl, hgc⟩ := hri2.rs.cell hqN
  obtain ⟨rfl, _, rfl⟩ : va = some ⟨g, 0, none⟩ ∧ N = N ∧ vc = gc := by injection hvs with e1 e2 e3; exact ⟨e1, rfl, e3⟩
  clear hvs
  obtain ⟨pv, hpv⟩ : ∃ v, (x q).pv = v := ⟨_, rfl⟩
  have hpc : w1.drew.cell? ⟨g, q * 19 + 16, none⟩ = some pv := by rw [← hpv]; exact hgc 16 (by omega)
  have hS : w1.drew.cell? ⟨g, q * 19 + 16, none⟩ = some pv ∧ Blk w1.drew (wr.heap.size) 76 #[.int .u8 s.op, .int .i64 s.a, .int .i64 s.b, .int .i64 s.pt.mul, .int .i64 s.pt.add, .int .i64 s.pt.div, .int .i64 s.pt.lo, .int .i64 s.pt.hi, .int .u8 s.how, .int .i64 s.kw, .int .i64 s.kh, .slice ka s.taps.length kc, .int .u8 s.bd, .int .i64 s.sw, .int .i64 s.sh, .slice sa s.bits.length sc] := ⟨hpc, ks2⟩
  have hgpv : pv.ownBlock ≠ some g := fun e => rows_apart hri2.rs.row (hri2.rs.pts q hqN) rnd_ne_pt rfl (by rw [hpv]; exact e)
  have hpvH := Lib.hid hpv
  clear ks2 hpv hpc hgc
  try simp only [Act.put]
  refine plain_region (fun W' => W'.cell? ⟨g, q * 19 + 16, none⟩ = some pv ∧ Blk W' (wr.heap.size) 76 #[.int .u8 s.op, .int .i64 s.a, .int .i64 s.b, .int .i64 s.pt.mul, .int .i64 s.pt.add, .int .i64 s.pt.div, .int .i64 s.pt.lo, .int .i64 s.pt.hi, .int .u8 s.how, .int .i64 s.kw, .int .i64 s.kh, .slice ka s.taps.length kc, .int .u8 s.bd, .int .i64 s.sw, .int .i64 s.sh, .slice sa s.bits.length sc]) 13 14 (by kernel_rfl) rfl ?_
  simp only [Array.replicate_succ, Array.replicate_zero, List.push_toArray, List.nil_append, List.cons_append]
  obtain ⟨X0, hXX0⟩ : ∃ X : World, w1.drew = X := ⟨_, rfl⟩
  rw [hXX0] at hS hri2 hB2 ⊢
  clear hXX0
  have FA0 := Lib.hid (fun w' (hS' : (fun W' => W'.cell? ⟨g, q * 19 + 16, none⟩ = some pv ∧ Blk W' (wr.heap.size) 76 #[.int .u8 s.op, .int .i64 s.a, .int .i64 s.b, .int .i64 s.pt.mul, .int .i64 s.pt.add, .int .i64 s.pt.div, .int .i64 s.pt.lo, .int .i64 s.pt.hi, .int .u8 s.how, .int .i64 s.kw, .int .i64 s.kh, .slice ka s.taps.length kc, .int .u8 s.bd, .int .i64 s.sw, .int .i64 s.sh, .slice sa s.bits.length sc]) w') => And.intro (hS'.1) (And.intro (hS'.2.cell (i := 3) rfl) (And.intro (hS'.2.cell (i := 4) rfl) (And.intro (hS'.2.cell (i := 5) rfl) (And.intro (hS'.2.cell (i := 6) rfl) (hS'.2.cell (i := 7) rfl))))))
  refine tkz 0 rfl hS (fun w' hS' => by go_simp; rfl) ?_
  simp only [nrz]
  refine tkz 1 rfl hS (fun w' hS' => by go_simp; rfl) ?_
  simp only [nrz]
  refine tkz 2 rfl hS (fun w' hS' => by go_simp; rfl) ?_
  simp only [nrz]
  refine tkz 3 rfl hS (fun w' hS' => by go_simp; rfl) ?_
  simp only [nrz]
  refine tkz 4 (v := ?bv4) rfl hS (fun w' hS' => ?by4) ?bz4
  case by4 =>
    go_simp
    try go_ints
    first
    | rfl
    | (rw [if_pos (by omega)]; done)
    | rw [if_pos ⟨by omega, by omega⟩]
  simp only [nrz]
  refine tkz 5 rfl hS (fun w' hS' => by go_simp; rfl) ?_
  simp only [nrz]
  refine tkz 6 rfl hS (fun w' hS' => by obtain ⟨e1, y3, y4, y5, y6, y7⟩ := FA0.out w' hS'; clear hS'; go_simp; rfl) ?_
  simp only [nrz]
  refine tkz 7 rfl hS (fun w' hS' => by go_simp; rfl) ?_
  simp only [nrz]
  refine tkz 8 rfl hS (fun w' hS' => by obtain ⟨e1, y3, y4, y5, y6, y7⟩ := FA0.out w' hS'; clear hS'; go_simp; rfl) ?_
  simp only [nrz]
  refine step_op 9 (by kernel_rfl) rfl (fun K hK => ?_)
  rw [if_pos (by rfl)]
  go_simp
  have hbA := jb_al (Below.refl _ X0) (.cells #[.int .i64 s.pt.mul, .int .i64 s.pt.add, .int .i64 s.pt.div, .int .i64 s.pt.lo, .int .i64 s.pt.hi] 69)
  have ky := Blk.new X0 69 #[.int .i64 s.pt.mul, .int .i64 s.pt.add, .int .i64 s.pt.div, .int .i64 s.pt.lo, .int .i64 s.pt.hi]
  have hri6 := hri2.below hbA
  have hS6 : (X0.alloc (.cells #[.int .i64 s.pt.mul, .int .i64 s.pt.add, .int .i64 s.pt.div, .int .i64 s.pt.lo, .int .i64 s.pt.hi] 69)).cell? ⟨g, q * 19 + 16, none⟩ = some pv ∧ Blk (X0.alloc (.cells #[.int .i64 s.pt.mul, .int .i64 s.pt.add, .int .i64 s.pt.div, .int .i64 s.pt.lo, .int .i64 s.pt.hi] 69)) (wr.heap.size) 76 #[.int .u8 s.op, .int .i64 s.a, .int .i64 s.b, .int .i64 s.pt.mul, .int .i64 s.pt.add, .int .i64 s.pt.div, .int .i64 s.pt.lo, .int .i64 s.pt.hi, .int .u8 s.how, .int .i64 s.kw, .int .i64 s.kh, .slice ka s.taps.length kc, .int .u8 s.bd, .int .i64 s.sw, .int .i64 s.sh, .slice sa s.bits.length sc] := ⟨cell_old hS.1, hS.2.below hbA hS.2.lt⟩
  have hB6 := hB2.trans (hbA.mono hB2.size)
  obtain ⟨by_, hby⟩ : ∃ b, X0.heap.size = b := ⟨_, rfl⟩
  obtain ⟨X6, hX6⟩ : ∃ X, X0.alloc (.cells #[.int .i64 s.pt.mul, .int .i64 s.pt.add, .int .i64 s.pt.div, .int .i64 s.pt.lo, .int .i64 s.pt.hi] 69) = X := ⟨_, rfl⟩
  rw [hX6] at ky hri6 hS6 hB6 ⊢
  rw [hby] at ky ⊢
  clear hX6 hby hbA hri2 hS hB2
  refine hK.out _ _ (fun h => hS6) ?_
  clear hK K
  try simp only [Act.put, nrz]
  refine step_op 10 (by kernel_rfl) rfl (fun K hK => ?_)
  have hrowp := hri6.rs.pts q hqN
  rw [hpvH.out] at hrowp
  refine step_append_atQ rfl (.tmp 78) (.tmp 81) 109 rfl w.heap.size 69 j0 (.agg #[.int .i64 0, .int .i64 0, .int .i64 0, .int .i64 0, .int .i64 0]) 5 40 Tryz.underlying109 gi gz0 gz1 gz2 rfl (by decide) pv (x q).r.pts.length (ptsC (x q).r.pts) rfl hrowp ⟨by_, 0, none⟩ 1 1 [.int .i64 s.pt.mul, .int .i64 s.pt.add, .int .i64 s.pt.div, .int .i64 s.pt.lo, .int .i64 s.pt.hi] rfl rfl (blk_news ky) (by simp [Value.oneCell']) (by unfold maxLen; omega) (by omega) hB6.size ?_
  intro v' X7 hown7 hg7 hat7
  obtain ⟨pa', pc', rfl⟩ := row_slice hown7
  rw [← hpvH.out] at hg7 hat7
  obtain ⟨hri7, hb7⟩ := hri6.carry hqN (p := s.pt) hown7 hg7 hat7 rfl
  rw [hpvH.out] at hg7 hat7
  have hB7 := hB6.trans hb7
  have hS7 : X7.cell? ⟨g, q * 19 + 16, none⟩ = some pv ∧ Blk X7 (wr.heap.size) 76 #[.int .u8 s.op, .int .i64 s.a, .int .i64 s.b, .int .i64 s.pt.mul, .int .i64 s.pt.add, .int .i64 s.pt.div, .int .i64 s.pt.lo, .int .i64 s.pt.hi, .int .u8 s.how, .int .i64 s.kw, .int .i64 s.kh, .slice ka s.taps.length kc, .int .u8 s.bd, .int .i64 s.sw, .int .i64 s.sh, .slice sa s.bits.length sc] := ⟨hg7.cell hS6.1 (fun e => hgpv e.symm), (grown_trn hg7 (fun c => pv.ownBlock = some c) (fun c e => e)).blk hS6.2 (fun e => by have h2 := hri6.rs.pts q hqN; rw [hpvH.out] at h2; exact hS6.2.not_row (by decide) h2 e.symm)⟩
  have f7 : X7.frozen? ⟨g, q * 19 + 16, none⟩ = false := row_frz ((grown_trn hg7 (fun c => pv.ownBlock = some c) (fun c e => e)).row hri6.rs.row (fun b hb e => by injection hb with hb; subst hb; exact hgpv e)) _
  clear hown7 hg7 hat7 hb7 hri6 ky hS6 hB6 hrowp
  refine hK.out _ _ (fun h => hS7) ?_
  clear hK K
  try simp only [Act.put, nrz]
  refine step_op 11 (by kernel_rfl) rfl (fun K hK => ?_)
  rw [if_pos (by rfl)]
  go_simp
  try rw [if_pos (by omega)]
  refine hK.out _ _ (fun h => hS7) ?_
  clear hK K
  try simp only [Act.put, nrz]
  refine tkz 12 rfl hS7 (fun w' hS' => by go_simp; rfl) ?_
  simp only [nrz]
  refine step_op 13 (by kernel_rfl) rfl (fun K hK => ?_)
  have e1 := hS7.1
  rw [if_pos (by rfl)]
  go_simp
  clear e1 f7
  refine hK.out _ _ (fun h => absurd h (by omega)) ?_
  clear hK K
  try simp only [Act.put, nrz]
  refine done_ops (by kernel_rfl) ?_
  have hvb : X7.cell? ⟨g, q * 19 + 18, none⟩ = X7.cell? ⟨g, q * 19 + 18, none⟩ := rfl
  clear hvb hS7
  obtain ⟨X8, hX8⟩ : ∃ X, X7.setCell ⟨g, q * 19 + 16, none⟩ (Value.slice pa' ((x q).r.pts.length + 1) pc') = X := ⟨_, rfl⟩
  rw [hX8] at hri7 hB7 ⊢
  obtain ⟨y, hy⟩ : ∃ y : Nat → RndA, (fun t => if t = q then { x q with pv := Value.slice pa' ((x q).r.pts.length + 1) pc', r := { (x q).r with pts := (x q).r.pts ++ [s.pt] } } else x t) = y := ⟨_, rfl⟩
  rw [hy] at hri7
  have hyH := Lib.hid hy
  clear hX8 hy
  have e18 := row_cellAt hri7.rs.row (q * 19 + 18) (flat_at (fun q j => rndCell (y q) j) hqN (by omega : 18 < 19))
  have f18 := row_frz hri7.rs.row (q * 19 + 18)
  obtain ⟨hri8, hb8⟩ := hri7.setres (q := q) ((In : Int) + (k : Int)) rfl
  have hB8 := hB7.trans hb8
  obtain ⟨X9, hX9⟩ : ∃ X, X8.setCell ⟨g, q * 19 + 18, none⟩ (.int .i64 ((In : Int) + (k : Int))) = X := ⟨_, rfl⟩
  rw [hX9] at hri8 hB8
  clear hb8
  go_wp2_with (first
    | (at_mapUpdate; refine OwnF.putw _ rfl _ _ _ _ rfl Tryz.underlying3 Tryz.underlying101 bf rfl hri8.fm (by omega) (In + k) (by omega) (by omega) _ _ (by first | rfl | (simp; done) | (simp; omega)) rfl (plainElem_int Tryz.underlying3 (wf_num ⟨by omega, by omega⟩)) ?_; intro w3 hv3 hg3))
  obtain ⟨hri9, hb9⟩ := hri8.mapf hv3 hg3
  have hB9 := hB8.trans hb9
  clear hX9 e18 f18 hri8 hb9 hv3 hg3 hri7
  have hnx : rdsS (In : Int) U ss (k + 1) = ⟨R.out.set q (carR (rnAt R.out q) s.pt ((In : Int) + k)), putF (delF R.of (A : Int)) ((In : Int) + k) (ilit q)⟩ := by rw [hnextH.out, hcarH.out, if_pos rfl, hAH.out, hqofH.out, numF_lit, Int.toNat_natCast]
  have hri10 : RdI B0 w.heap.size w3 (.slice (some ⟨g, 0, none⟩) N vc) (rdsS (In : Int) U ss (k + 1)).out.length (fun t => if t = q then { y q with r := { (y q).r with res := (In : Int) + (k : Int) } } else y t) bf (2 * (k + 1)) (rdsS (In : Int) U ss (k + 1)).of bu (2 * n) U M bp #[.int .i64 WW, .int .i64 HH, .int .i64 (In : Int), .slice (some ⟨b, o, none⟩) n c] := by
    rw [hnx]
    simp only [List.length_set]
    rw [hNH.out]
    exact hri9.monof (by omega)
  have hx10 : Hid (∀ t, t < (rdsS (In : Int) U ss (k + 1)).out.length → ((fun t => if t = q then { y q with r := { (y q).r with res := (In : Int) + (k : Int) } } else y t) t : RndA).r = rnAt (rdsS (In : Int) U ss (k + 1)).out t) := Lib.hid (by
    rw [hnx]
    simp only [List.length_set]
    rw [hNH.out]
    intro t ht
    have hxo := hx.out
    rw [rnAt_set (by rw [hNH.out]; exact hqN)]
    by_cases e : t = q
    · subst e
      rw [if_pos rfl, if_pos rfl, ← hyH.out]
      simp only [if_true]
      rw [hxo t hqN]; rfl
    · rw [if_neg e, if_neg e, ← hyH.out]
      simp only [if_neg e]
      exact hxo t (by omega))
  clear hnx hri9
  go_wp2_with fail
  exact ⟨⟨k + 1, _, _, by omega, hri10, hx10, hB9, ex_fnQ rfl⟩, by simp [mu2, intOf]; omega⟩
end Go.Proofs.YtekiemlniegddaaGreat
namespace Go.Proofs.YtekiemlniegddaaGreat
open Go Go.Maps Go.RowKit Go.Shelf
theorem then_weak {K : Act → World → Prop} {Q : Exit → Act → World → Prop} : ∀ e a w, Exit.then K (fun _ _ _ => False) e a w → Exit.then K Q e a w := by
 intro e a w h
 cases e <;> first | exact h | exact h.elim
set_option maxRecDepth 100000 in
set_option maxHeartbeats 8000000 in
theorem rounds_any (P : PipeN) (a : Option Addr) (n c : Nat) (hn : P.ss.length = n) (hn12 : n ≤ 12) (hI : 0 ≤ P.inp ∧ P.inp ≤ 3) (hst : ∀ i, i < n → StepIn (stAt P.ss i)) (hr0 : RefOk P.inp P.ss) (B0 : Nat) (w : World) (hB0 : B0 ≤ w.heap.size) (hr : RdSs B0 w a P.ss) :
  Calls Tryz.prog 51 #[pipev P a n c] w fun e w' => ∃ v x, e = .returned v ∧ OwnRs B0 w.heap.size w' v (rdsN P.inp P.ss).length x ∧ (∀ q, q < (rdsN P.inp P.ss).length → (x q).r = rnAt (rdsN P.inp P.ss) q) ∧ Below w.heap.size w w' := by
 obtain ⟨WW, HH, I, ss⟩ := P
 unfold pipev
 simp only at hn hI hst hr0 hr ⊢
 obtain ⟨M, hM⟩ : ∃ M : Nat, I.toNat + n = M := ⟨_, rfl⟩
 have hMI : (M : Int) = I + n := by omega
 have hM20 : M < 20 := by omega
 have hB : Below w.heap.size w w := Below.refl _ _
 have hnH := Lib.hid hn
 have hstH := Lib.hid hst
 have hr0H := Lib.hid hr0
 have hmm := @run_makeMap Tryz.prog
 clear hn hst hr0 hM
 obtain ⟨In, rfl⟩ : ∃ In : Nat, I = (In : Int) := ⟨I.toNat, by omega⟩
 have hI3 : In ≤ 3 := by omega
 obtain ⟨U, hU⟩ : ∃ U, useF ss ss.length = U := ⟨_, rfl⟩
 have hUH := Lib.hid hU
 obtain ⟨Rs, hRs⟩ : ∃ Rs, rdsN (In : Int) ss = Rs := ⟨_, rfl⟩
 rw [hRs]
 have hRsH := Lib.hid hRs
 clear hU hRs
 obtain ⟨V1, hEV1, hbV1, kp⟩ := newB w 24 #[.int .i64 WW, .int .i64 HH, .int .i64 (In : Int), .slice a n c]
 replace hB := tmB hB hbV1
 clear hbV1
 obtain ⟨m0, m1, m2, m3⟩ := cz4 kp
 have hu := OwnF.made Tryz.prog 3 3 V1 M
 have hbm : Below V1.heap.size V1 (V1.alloc (.map #[] 0)) := jb_al (Below.refl _ V1) _
 obtain ⟨bu, hbu⟩ : ∃ b, V1.heap.size = b := ⟨_, rfl⟩
 obtain ⟨V2, hEV2⟩ : ∃ X, V1.alloc (.map #[] 0) = X := ⟨_, rfl⟩
 rw [hEV2] at hbm hu
 rw [hbu] at hu
 have hbuw : w.heap.size < bu := by rw [← hbu]; exact kp.lt
 clear m0 m1 m2 m3
 replace kp := kp.below hbm kp.lt
 replace hB := tmB hB hbm
 clear hbm
 obtain ⟨m0, m1, m2, m3⟩ := cz4 kp
 go_enter Tryz.func51, Tryz.ntmps51
 go_wp2_with fail
 clear hEV1 hEV2 hbu
 clear m0 m1 m2 m3
 clear hmm
 refine rounds_l1 In ss a n c hnH hn12 hI3 hstH hr0H B0 w hB0 hr WW HH M hMI hM20 (w.heap.size) bu (Nat.le_refl _) hbuw V2 hu kp hB _ _ (ex_fnQ rfl) ?_
 clear hu kp hB
 rintro A wr ⟨u, rfl⟩ hu kp hB
 dsimp only
 have hmm := @run_makeMap Tryz.prog
 obtain ⟨m0, m1, m2, m3⟩ := cz4 kp
 have hv := OwnF.made Tryz.prog 3 3 wr M
 have hbm : Below wr.heap.size wr (wr.alloc (.map #[] 0)) := jb_al (Below.refl _ wr) _
 obtain ⟨bf, hbf⟩ : ∃ b, wr.heap.size = b := ⟨_, rfl⟩
 obtain ⟨V3, hEV3⟩ : ∃ X, wr.alloc (.map #[] 0) = X := ⟨_, rfl⟩
 rw [hEV3] at hbm hv
 rw [hbf] at hv
 have hbfw : w.heap.size ≤ bf := by rw [← hbf]; exact hB.size
 have hbuf : bu < bf := by rw [← hbf]; exact hu.lt
 clear m0 m1 m2 m3
 replace kp := kp.below hbm kp.lt
 replace hu := hu.below hbm
 replace hB := tmB hB hbm
 clear hbm
 obtain ⟨m0, m1, m2, m3⟩ := cz4 kp
 go_wp2_with fail
 clear hEV3 hbf
 clear m0 m1 m2 m3
 clear hmm
 have hUn : useF ss n = U := by rw [← hUH.out, hnH.out]
 rw [hUn] at hu
 clear hUn
 have hrs := OwnRs.nil B0 w.heap.size V3 (fun _ => ⟨noRnd, none, 0, none, 0, .slice none 0 0, 0, 0⟩)
 have hri : RdI B0 w.heap.size V3 (.slice none 0 0) 0 (fun _ => ⟨noRnd, none, 0, none, 0, .slice none 0 0, 0, 0⟩) bf 0 (fun _ => none) bu (2 * n) U M (w.heap.size) #[.int .i64 WW, .int .i64 HH, .int .i64 (In : Int), .slice a n c] := ⟨hrs, hv, hu, kp, ⟨hB0, Nat.le_refl _, by omega, by omega, by omega⟩⟩
 clear hrs hv hu kp
 refine wp_loop (I2 In ss a n c B0 w WW HH M (w.heap.size) bu bf U) (mu2 n) ⟨0, _, _, Nat.zero_le _, hri, Lib.hid (fun q h => absurd h (Nat.not_lt_zero _)), hB, ex_fnQ rfl⟩ (fun A wr hI2 => ?_)
 clear hri hB u
 obtain ⟨k, v, x, hk, hri, hx, hB, u, rfl⟩ := hI2
 by_cases hlt : k < n
 case pos =>
  by_cases e1 : (stAt ss k).op = 1
  case neg => exact wp_mono (rounds_n1 In ss a n c hnH hn12 hI3 hstH hr0H B0 w hB0 hr WW HH M hMI hM20 (w.heap.size) bu (Nat.le_refl _) hbuw U hUH bf hbfw k v x hk hlt wr hri hx e1 u hB) then_weak
  case pos =>
  by_cases e2 : (In : Int) ≤ (stAt ss k).a
  case neg => exact wp_mono (rounds_n2 In ss a n c hnH hn12 hI3 hstH hr0H B0 w hB0 hr WW HH M hMI hM20 (w.heap.size) bu (Nat.le_refl _) hbuw U hUH bf hbfw k v x hk hlt wr hri hx e1 e2 u hB) then_weak
  case pos =>
  by_cases e3 : numF (U (stAt ss k).a) = 1
  case neg => exact wp_mono (rounds_n3 In ss a n c hnH hn12 hI3 hstH hr0H B0 w hB0 hr WW HH M hMI hM20 (w.heap.size) bu (Nat.le_refl _) hbuw U hUH bf hbfw k v x hk hlt wr hri hx e1 e2 e3 u hB) then_weak
  case pos => exact wp_mono (rounds_c In ss a n c hnH hn12 hI3 hstH hr0H B0 w hB0 hr WW HH M hMI hM20 (w.heap.size) bu (Nat.le_refl _) hbuw U hUH bf hbfw k v x hk hlt wr hri hx e1 e2 e3 u hB) then_weak
 case neg =>
  have hltd : decide ((k : Int) < (n : Int)) = false := by simp; omega
  have hkn : n = k := by omega
  subst hkn
  dsimp only
  have hlen : (rdsS (In : Int) U ss n).out = Rs := by rw [← hRsH.out, ← hUH.out]; unfold rdsN; rw [hnH.out]
  rw [hlen] at hri hx
  have hlenH := Lib.hid hlen
  clear hlen
  go_wp2_with fail
  go_ret
  exact ⟨v, x, rfl, hri.rs, hx.out, hB⟩
end Go.Proofs.YtekiemlniegddaaGreat
namespace Go.Proofs.YtekiemlniegddaaGreat
open Go Go.Maps Go.RowKit Go.Shelf
theorem lefF_le (last : Int) (rs : List RndN) (k : Nat) (m : Int) : 0 ≤ numF (lefF last rs k m) ∧ numF (lefF last rs k m) ≤ 1 + (k : Int) := by
 rw [lefF_num]
 have h1 : isL last m ≤ 1 := by unfold isL; split <;> omega
 have : ∀ k, cntR rs m k ≤ k := fun k => by
  induction k with
  | zero => exact Nat.le_refl _
  | succ k ih => rw [cntR]; have := inOps_le (rnAt rs k).head m; omega
 have := this k
 omega
/-- A round, opened. -/
theorem OwnRs.opn {B0 B : Nat} {W : World} {v : Value} {n : Nat} {x : Nat → RndA} (h : OwnRs B0 B W v n x) {q : Nat} (hq : q < n) :
  ∃ g c s ka kc sa sc pa np pc ub uc L m rz, v = .slice (some ⟨g, 0, none⟩) n c ∧ B ≤ g ∧ g < W.heap.size ∧ (x q).r.head = s ∧ opsN s = L ∧ L.length = m ∧ (x q).r.res = rz ∧ (x q).r.pts.length = np ∧ Blk W ub 3 (L.map (Value.int .i64)).toArray ∧
   W.ownsRow B 69 5 (.slice pa np pc) np (ptsC (x q).r.pts) ∧ (B ≤ ub ∧ (x q).pv = .slice pa np pc ∧ (x q).ub = ub ∧ (x q).ka = ka ∧ (x q).sa = sa) ∧ ∀ (j : Nat) (u : Value), ([.int .u8 s.op, .int .i64 s.a, .int .i64 s.b, .int .i64 s.pt.mul, .int .i64 s.pt.add, .int .i64 s.pt.div, .int .i64 s.pt.lo, .int .i64 s.pt.hi, .int .u8 s.how, .int .i64 s.kw, .int .i64 s.kh, .slice ka s.taps.length kc, .int .u8 s.bd, .int .i64 s.sw, .int .i64 s.sh, .slice sa s.bits.length sc, .slice pa np pc, .slice (some ⟨ub, 0, none⟩) m uc, .int .i64 rz] : List Value)[j]? = some u → W.cell? ⟨g, q * 19 + j, none⟩ = some u := by
 obtain ⟨g, c, h1, h2, h3, h4⟩ := h.cell hq
 obtain ⟨pa, pc, hpv⟩ := row_slice (h.pts q hq)
 have h5 := h.pts q hq
 rw [hpv] at h5
 refine ⟨g, c, _, (x q).ka, (x q).kc, (x q).sa, (x q).sc, pa, _, pc, (x q).ub, (x q).uc, _, _, _, h1, h2, h3, rfl, rfl, rfl, rfl, rfl, (h.uses q hq).1, h5, ⟨(h.uses q hq).2, hpv, rfl, rfl, rfl⟩, fun j u hu => ?_⟩
 have hj : j < 19 := by
  rcases Nat.lt_or_ge j 19 with h | h
  ·exact h
  ·rw [List.getElem?_eq_none (by exact h)] at hu; cases hu
 have h6 := h4 j hj
 rw [h6, ← hu]
 have h7 := rndL_at (x q) hj
 rw [← h7]
 unfold rndL
 rw [hpv]
set_option maxRecDepth 100000 in
set_option maxHeartbeats 8000000 in
theorem uses_any (P : PipeN) (a : Option Addr) (n c : Nat) (hn : P.ss.length = n) (hn12 : 1 ≤ n ∧ n ≤ 12) (hI : 0 ≤ P.inp ∧ P.inp ≤ 3) (rs : List RndN) (N : Nat) (hlen : rs.length = N) (hN : N ≤ 12) (x : Nat → RndA) (v : Value) (hx : ∀ q, q < N → (x q).r = rnAt rs q) (hkeys : ∀ q, q < N → ∀ m ∈ opsN (rnAt rs q).head, 0 ≤ m ∧ m < P.inp + n) (B0 B : Nat) (w : World) (hB0 : B0 ≤ w.heap.size) (hrs : OwnRs B0 B w v N x) :
  Calls Tryz.prog 50 #[pipev P a n c, v] w fun e w' => ∃ b, e = .returned (.map (some b)) ∧ w.heap.size ≤ b ∧ OwnF Tryz.prog 3 3 w' b 40 (lefF (P.inp + n - 1) rs N) (P.inp.toNat + n) ∧ Below w.heap.size w w' := by
 obtain ⟨WW, HH, I, ss⟩ := P
 unfold pipev
 simp only at hn hI hkeys ⊢
 have hB : Below w.heap.size w w := Below.refl _ _
 have hnH := Lib.hid hn
 have hxH := Lib.hid hx
 have hkH := Lib.hid hkeys
 have hlH := Lib.hid hlen
 have hmm := @run_makeMap Tryz.prog
 clear hn hx hkeys hlen
 obtain ⟨In, rfl⟩ : ∃ In : Nat, I = (In : Int) := ⟨I.toNat, by omega⟩
 obtain ⟨M, hM⟩ : ∃ M : Nat, In + n = M := ⟨_, rfl⟩
 have hMH := Lib.hid hM
 have hM20 : M < 20 := by omega
 have hn1M : In + n - 1 < M := by omega
 have hlast : ((In + n - 1 : Nat) : Int) = (In : Int) + n - 1 := by omega
 have hlastH := Lib.hid hlast
 clear hlast
 obtain ⟨va, vc, rfl⟩ := hrs.slice
 rw [show (In : Int).toNat + n = M by omega]
 clear hM
 obtain ⟨V1, hEV1, hbV1, kp⟩ := newB w 24 #[.int .i64 WW, .int .i64 HH, .int .i64 (In : Int), .slice a n c]
 replace hrs := hrs.below hbV1 (Nat.le_trans hB0 hB.size)
 replace hB := tmB hB hbV1
 clear hbV1
 obtain ⟨m0, m1, m2, m3⟩ := cz4 kp
 have hu := OwnF.made Tryz.prog 3 3 V1 M
 have hbm : Below V1.heap.size V1 (V1.alloc (.map #[] 0)) := jb_al (Below.refl _ V1) _
 obtain ⟨bu, hbu⟩ : ∃ b, V1.heap.size = b := ⟨_, rfl⟩
 obtain ⟨V2, hEV2⟩ : ∃ X, V1.alloc (.map #[] 0) = X := ⟨_, rfl⟩
 rw [hEV2] at hbm hu
 rw [hbu] at hu
 have hbuw : w.heap.size < bu := by rw [← hbu]; exact kp.lt
 clear m0 m1 m2 m3
 replace kp := kp.below hbm kp.lt
 replace hrs := hrs.below hbm (Nat.le_trans hB0 hB.size)
 replace hB := tmB hB hbm
 clear hbm
 obtain ⟨m0, m1, m2, m3⟩ := cz4 kp
 obtain ⟨w1, hput, hu1, hg1⟩ := hu.run_put Tryz.underlying3 Tryz.underlying101 (by omega) ((In : Int) + n - 1) (by omega) (by omega) (.int .i64 1) _ (plainElem_int Tryz.underlying3 (wf_num ⟨by omega, by omega⟩))
 go_enter Tryz.func50, Tryz.ntmps50
 go_wp2_with fail
 clear hEV1 hEV2 hbu
 clear m0 m1 m2 m3
 have hrs1 := hrs.map hu hg1 (Nat.le_trans hB0 hB.size) (by omega)
 have kp1 := kp.kept hg1 (by simp; omega)
 have hB1 := hB.grown hg1 hB.size (fun t e => by injection e with e; omega)
 have hu2 : OwnF Tryz.prog 3 3 w1 bu (1 + 2 * 0) (lefF ((In : Int) + n - 1) rs 0) M := hu1
 clear hrs kp hB hg1 hu1 hu hmm hput
 go_loopw [21] (fun i wr => ∃ k : Nat, k ≤ N ∧ i = .int .i64 (k : Int) ∧ OwnF Tryz.prog 3 3 wr bu (1 + 2 * k) (lefF ((In : Int) + n - 1) rs k) M ∧ OwnRs B0 B wr (.slice va N vc) N x ∧ Below w.heap.size w wr) (fun i _ => N - (intOf i).toNat)
 case atStart => exact ⟨0, Nat.zero_le _, rfl, hu2, hrs1, hB1⟩
 case round =>
  clear hu2 hrs1 hB1 kp1
  obtain ⟨k, hk, rfl, hu, hrs, hB⟩ := hrel
  by_cases hlt : k < N
  case neg =>
   have hltd : decide ((k : Int) < (N : Int)) = false := by simp; omega
   have hkn : N = k := by omega
   subst hkn
   have hu2 := hu.mono (n' := 40) (by omega)
   clear hu
   go_wp2_with fail
   go_ret
   exact ⟨bu, rfl, by omega, hu2, hB⟩
  case pos =>
   have hltd : decide ((k : Int) < (N : Int)) = true := by simp; omega
   obtain ⟨g, gc, s, ka, kc, sa, sc, pa, np, pc, ub, uc, L, m, rz, hvs, hgB, hgl, hs, hL, hm, hrz, hnp, kq, hpr, hxe, hgc⟩ := hrs.opn hlt
   obtain ⟨rfl, _, rfl⟩ : va = some ⟨g, 0, none⟩ ∧ N = N ∧ vc = gc := by injection hvs with e1 e2 e3; exact ⟨e1, rfl, e3⟩
   clear hvs hpr hxe
   have hstep : incL (lefF ((In : Int) + n - 1) rs k) (opsN (rnAt rs k).head) = lefF ((In : Int) + n - 1) rs (k + 1) := rfl
   have hxk := hxH.out k hlt
   have hky := hkH.out k hlt
   rw [← hxk, hs, hL] at hstep hky
   obtain ⟨ol1, ol2⟩ := opsN_len s
   rw [hL, hm] at ol1 ol2
   have hol : 1 ≤ m ∧ m ≤ 2 := by omega
   have hstepH := Lib.hid hstep
   have hkyH := Lib.hid hky
   have hmH := Lib.hid hm
   clear hs hL hm hrz hnp hstep hky hxk ol1 ol2
   obtain ⟨V11, hEV11, hbV11, ks⟩ := newB wr 111 #[.int .u8 s.op, .int .i64 s.a, .int .i64 s.b, .int .i64 s.pt.mul, .int .i64 s.pt.add, .int .i64 s.pt.div, .int .i64 s.pt.lo, .int .i64 s.pt.hi, .int .u8 s.how, .int .i64 s.kw, .int .i64 s.kh, .slice ka s.taps.length kc, .int .u8 s.bd, .int .i64 s.sw, .int .i64 s.sh, .slice sa s.bits.length sc, .slice pa np pc, .slice (some ⟨ub, 0, none⟩) m uc, .int .i64 rz]
   replace hu := hu.below hbV11
   replace hrs := hrs.below hbV11 (Nat.le_trans hB0 hB.size)
   replace kq := kq.below hbV11 kq.lt
   replace hB := tmB hB hbV11
   clear hbV11
   go_upto_region 4 with fail
   refine wp_region_lit ?_
   refine Go.Great.wpList_runTo rfl _ rfl (.pointer (some ⟨g, k * 19, none⟩)) wr (by
    go_simp
    all_goals try go_ints
    all_goals first
     | rfl
     | (rw [if_pos (by omega)]; done)
     | rw [if_pos ⟨by omega, by omega⟩]) ?_
   refine wpList_load_mid rfl 111 _ rfl g (k * 19) rfl [.int .u8 s.op, .int .i64 s.a, .int .i64 s.b, .int .i64 s.pt.mul, .int .i64 s.pt.add, .int .i64 s.pt.div, .int .i64 s.pt.lo, .int .i64 s.pt.hi, .int .u8 s.how, .int .i64 s.kw, .int .i64 s.kh, .slice ka s.taps.length kc, .int .u8 s.bd, .int .i64 s.sw, .int .i64 s.sh, .slice sa s.bits.length sc, .slice pa np pc, .slice (some ⟨ub, 0, none⟩) m uc, .int .i64 rz] _ hgc Tryz.underlying111 rfl (by kernel_rfl) ?_
   refine Go.Great.wpList_allocTo rfl _ rfl (.pointer (some ⟨wr.heap.size, 0, none⟩)) (.cells #[.int .u8 0, .int .i64 0, .int .i64 0, .int .i64 0, .int .i64 0, .int .i64 0, .int .i64 0, .int .i64 0, .int .u8 0, .int .i64 0, .int .i64 0, .slice none 0 0, .int .u8 0, .int .i64 0, .int .i64 0, .slice none 0 0, .slice none 0 0, .slice none 0 0, .int .i64 0] 111) (by kernel_rfl) ?_
   refine wpList_store_row rfl 111 _ _ rfl wr.heap.size #[.int .u8 s.op, .int .i64 s.a, .int .i64 s.b, .int .i64 s.pt.mul, .int .i64 s.pt.add, .int .i64 s.pt.div, .int .i64 s.pt.lo, .int .i64 s.pt.hi, .int .u8 s.how, .int .i64 s.kw, .int .i64 s.kh, .slice ka s.taps.length kc, .int .u8 s.bd, .int .i64 s.sw, .int .i64 s.sh, .slice sa s.bits.length sc, .slice pa np pc, .slice (some ⟨ub, 0, none⟩) m uc, .int .i64 rz] rfl rfl 111 #[.int .u8 0, .int .i64 0, .int .i64 0, .int .i64 0, .int .i64 0, .int .i64 0, .int .i64 0, .int .i64 0, .int .u8 0, .int .i64 0, .int .i64 0, .slice none 0 0, .int .u8 0, .int .i64 0, .int .i64 0, .slice none 0 0, .slice none 0 0, .slice none 0 0, .int .i64 0] (heap_alloc_last wr _) (by kernel_rfl) rfl (by simp [Value.oneCell']) ?_
   rw [World.setRow_alloc_new]
   refine wpList_nil ?_
   rw [hEV11]
   clear hEV11
   rename_i Q' K hK
   refine hK _ _ ?_
   clear hK K
   have y17 := ks.cell (i := 17) rfl
   go_wp2_with fail
   clear y17 ks hltd
   have hu0 : OwnF Tryz.prog 3 3 V11 bu (1 + 2 * k + 0) (incL (lefF ((In : Int) + n - 1) rs k) (L.take 0)) M := hu
   clear hu
   have hubN := kq.lt
   go_loopw [28] (fun i wr => ∃ j : Nat, j ≤ m ∧ i = .int .i64 (j : Int) ∧ OwnF Tryz.prog 3 3 wr bu (1 + 2 * k + j) (incL (lefF ((In : Int) + n - 1) rs k) (L.take j)) M ∧ Blk wr ub 3 (L.map (Value.int .i64)).toArray ∧ OwnRs B0 B wr (.slice (some ⟨g, 0, none⟩) N vc) N x ∧ Below w.heap.size w wr) (fun i _ => m - (intOf i).toNat)
   case atStart => exact ⟨0, Nat.zero_le _, rfl, hu0, kq, hrs, hB⟩
   case round =>
    clear hu0 kq hrs hB hubN
    obtain ⟨j, hj, rfl, hu, kq, hrs, hB⟩ := hrel
    by_cases hlt2 : j < m
    case pos =>
     have hltd : decide ((j : Int) < (m : Int)) = true := by simp; omega
     have hjL : j < L.length := by have := hmH.out; omega
     have hcj := ops_cell kq hjL
     have hbd := hkyH.out _ (List.getElem_mem hjL)
     have hnx := incL_take (F := lefF ((In : Int) + n - 1) rs k) hjL
     have hle := incL_le (L.take j) (lefF ((In : Int) + n - 1) rs k) (1 + k) (lefF_le _ rs k)
     rw [List.length_take] at hle
     rw [show L[j] = L[j]?.getD 0 by rw [List.getElem?_eq_getElem hjL]; rfl] at hbd
     have hMo := hMH.out
     obtain ⟨x', hx'⟩ : ∃ x, L[j]?.getD 0 = x := ⟨_, rfl⟩
     rw [hx'] at hcj hbd hnx
     obtain ⟨X, rfl⟩ : ∃ X : Nat, x' = (X : Int) := ⟨x'.toNat, by omega⟩
     have hXM : X < M := by omega
     clear hMo
     have hlk := hu.run_look Tryz.underlying3 Tryz.underlying101 Tryz.underlying3 (zero_num _) (X : Int) (wf_num ⟨by omega, by omega⟩)
     have hle2 := hle (X : Int)
     clear hle hx'
     unfold incF at hnx
     obtain ⟨G, hG⟩ : ∃ G, incL (lefF ((In : Int) + n - 1) rs k) (L.take j) = G := ⟨_, rfl⟩
     rw [hG] at hu hnx hlk hle2
     obtain ⟨q, hq⟩ : ∃ q, numF (G (X : Int)) = q := ⟨_, rfl⟩
     rw [hq] at hnx hlk hle2
     have hle3 : 0 ≤ q ∧ q ≤ 100 := by omega
     have hnxH := Lib.hid hnx
     have hbq := hu.not_cells kq
     clear hG hq hnx hle2
     go_wp2_with (at_mapUpdate; refine OwnF.putw _ rfl _ _ _ _ rfl Tryz.underlying3 Tryz.underlying101 bu rfl hu (by omega) X (by omega) (by omega) _ _ rfl rfl (plainElem_int Tryz.underlying3 (wf_num ⟨by omega, by omega⟩)) ?_; intro w1 hu1 hg1)
     refine ⟨⟨j + 1, by omega, by go_num, by rw [hnxH.out]; exact hu1, kq.kept hg1 (fun e => hbq (by injection e)), hrs.map hu hg1 (Nat.le_trans hB0 hB.size) (by omega), hB.grown hg1 hB.size (fun t e => by injection e with e; omega)⟩, by simp [intOf]; omega⟩
    case neg =>
     have hltd : decide ((j : Int) < (m : Int)) = false := by simp; omega
     have hjm : j = m := by omega
     subst hjm
     have hLt : L.take j = L := List.take_of_length_le (by have := hmH.out; omega)
     rw [hLt, hstepH.out] at hu
     have hu2 := hu.mono (n' := 1 + 2 * (k + 1)) (by omega)
     clear hu hLt
     go_wp2_with fail
     go_roundw
     case rel => exact ⟨k + 1, by omega, by go_num, hu2, hrs, hB⟩
     case measure => simp [intOf]; omega
end Go.Proofs.YtekiemlniegddaaGreat

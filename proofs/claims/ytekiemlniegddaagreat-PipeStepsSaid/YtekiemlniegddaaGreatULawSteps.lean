/- PipeSteps returns true for every pipe and images. -/
import Derived.Deep.DeepCutAuto
import Derived.Deep.LoopGhost
import Derived.Deep.CutBlock
import Derived.Test.YtekiemlniegddaaGreatQH18
import Derived.Test.YtekiemlniegddaaGreatQH19
import Derived.Test.YtekiemlniegddaaGreatUPcS
import Derived.Test.YtekiemlniegddaaGreatQH7
namespace Go.Proofs.YtekiemlniegddaaGreat
open Go Go.Maps Go.RowKit Go.Shelf
set_option linter.unusedVariables false
set_option linter.unusedSimpArgs false

theorem RdSs.take {B : Nat} {W : World} {a : Option Addr} {ss : List StepN} (h : RdSs B W a ss) {i : Nat} (hi : i ≤ ss.length) : RdSs B W a (ss.take i) := by
 rcases h with h | ⟨b, o, h1, h2, h3⟩
 ·left; rw [h]; simp
 ·right
  refine ⟨b, o, h1, h2, fun j hj => ?_⟩
  rw [List.length_take] at hj
  rw [stAt_take ss (by omega)]
  exact h3 j (by omega)
theorem PipeIn.beg {P : PipeN} (h : PipeIn P) {i : Nat} (hi : i ≤ P.ss.length) : PipeIn (begP P i) := by
 have hl : (P.ss.take i).length = i := by rw [List.length_take]; omega
 refine ⟨?_, fun j hj => ?_⟩
 ·show (P.ss.take i).length ≤ _
  have := h.1
  omega
 ·have hj2 : j < (P.ss.take i).length := hj
  show StepIn (stAt (P.ss.take i) j)
  rw [stAt_take P.ss (by omega)]
  exact h.2 j (by omega)
set_option maxRecDepth 100000 in
set_option maxHeartbeats 8000000 in
theorem law_steps (Q : PipeN) (a : Option Addr) (n c : Nat) (hn : Q.ss.length = n) (hQ : PipeIn Q) (hc : n ≤ c) (ms : List PicN) (la : Option Addr) (q lc : Nat) (hm : ms.length = q) (hmm : q ≤ 9223372036854775807) (hpl : ∀ i, (picAt ms i).px.length ≤ 9223372036854775807) (w : World) (hr : RdSs w.heap.size w a Q.ss) (hrl : RdPs w.heap.size w la ms) :
  Calls Tryz.prog 5 #[pipev Q a n c, .slice la q lc] w fun e w' => e = .returned (.bool true) ∧ Below w.heap.size w w' := by
 have hB : Below w.heap.size w w := Below.refl _ _
 obtain ⟨pb, hpb⟩ : ∃ q, pipeB Q = q := ⟨_, rfl⟩
 have hvl := fun W h => PValid_any Q a n c hn hQ pb hpb W h
 unfold pipev at hvl
 have hvlH := Lib.hid hvl
 have hpbH := Lib.hid hpb
 clear hvl hpb
 obtain ⟨gb, hgb⟩ : ∃ q, givenB ms Q.inp Q.w Q.h = q := ⟨_, rfl⟩
 have hgv := fun W h => given3_any Q a n c ms la lc q hm hmm (fun i _ => hpl i) gb hgb W h
 unfold pipev at hgv
 have hgvH := Lib.hid hgv
 have hgbH := Lib.hid hgb
 clear hgv hgb
 have hmn := fun (k : Nat) (hk : k < Q.ss.length) W h1 h2 => Mean_any (begP Q (k + 1)) a (k + 1) c (by show (Q.ss.take (k + 1)).length = _; rw [List.length_take]; omega) (hQ.beg hk) ms la q lc hm hmm hpl W h1 h2
 unfold pipev at hmn
 have hmnH := Lib.hid hmn
 have hmH := Lib.hid hm
 have hplH := Lib.hid hpl
 have hQH := Lib.hid hQ
 have hnH := Lib.hid hn
 have hr0 := hr
 have hrl0 := hrl
 clear hmn hQ hn hm hpl
 unfold pipev
 obtain ⟨V1, hEV1, hbV1, kp⟩ := newB w 24 #[.int .i64 Q.w, .int .i64 Q.h, .int .i64 Q.inp, .slice a n c]
 replace hr := hr.later hbV1
 replace hrl := hrl.bm hbV1
 replace hB := tmB hB hbV1
 clear hbV1
 obtain ⟨p0, p1, p2, p3⟩ := cz4 kp
 go_enter Tryz.func5, Tryz.ntmps5
 go_wp2_with fail
 clear hEV1
 refine (alive3_any V1).mono ?_
 rintro e V2 ⟨rfl, hb⟩
 clear p0 p1 p2 p3
 replace kp := kp.below hb kp.lt
 replace hr := hr.later hb
 replace hrl := hrl.bm hb
 replace hB := tmB hB hb
 clear hb
 obtain ⟨p0, p1, p2, p3⟩ := cz4 kp
 go_wp2_with fail
 refine (hvlH.out V2 hr).mono ?_
 rintro e V3 ⟨rfl, hb⟩
 clear p0 p1 p2 p3
 replace kp := kp.below hb kp.lt
 replace hr := hr.later hb
 replace hrl := hrl.bm hb
 replace hB := tmB hB hb
 clear hb
 obtain ⟨p0, p1, p2, p3⟩ := cz4 kp
 cases pb with
 | false =>
  go_wp2_with fail
  go_ret
  exact ⟨rfl, hB⟩
 | true =>
 go_wp2_with fail
 refine (hgvH.out V3 hrl).mono ?_
 rintro e V4 ⟨rfl, hb⟩
 clear p0 p1 p2 p3
 replace kp := kp.below hb kp.lt
 replace hr := hr.later hb
 replace hrl := hrl.bm hb
 replace hB := tmB hB hb
 clear hb
 obtain ⟨p0, p1, p2, p3⟩ := cz4 kp
 cases gb with
 | false =>
  go_wp2_with fail
  go_ret
  exact ⟨rfl, hB⟩
 | true =>
 obtain ⟨_, _, hI, hn12, hall⟩ := pipeB_true hpbH.out
 rw [hnH.out] at hn12
 have hallH := Lib.hid hall
 have hq : (q : Int) = Q.inp := by have := givenB_len hgbH.out; rw [hmH.out] at this; exact this
 have hq1 : 1 ≤ q := by omega
 have hq3 : q ≤ 3 := by omega
 have hqH := Lib.hid hq
 clear hq hall
 obtain ⟨i0, gi, gz0, gz1, gz2⟩ := info_parts info_pic
 obtain ⟨l, hl1, hl2, hl3⟩ := hrl0.pics
 have hll : l.length = q := by rw [← hmH.out, ← hl1, List.length_map]
 have own1 := World.ownsRow_made (e := 32) (size := 3) (base := V4.heap.size) V4 #[] 0 (Nat.le_refl _) (by decide) rfl
 obtain ⟨VE, hEVE⟩ : ∃ X, V4.alloc (.cells #[] 32) = X := ⟨_, rfl⟩
 have hbE : Below V4.heap.size V4 VE := alloc_below hEVE
 rw [hEVE] at own1
 have hnews : NewsAt VE la q (flatC l) := by
  rcases hl2 with h | ⟨b, o, h1, h2, h3⟩
  ·exfalso; have := hmH.out; rw [h] at this; simp at this; omega
  ·rw [h1]; exact pics_news (fun j u hu => ((hB.trans (hbE.mono hB.size)).cell (p := ⟨b, o + j, none⟩) h2).trans (h3 j u hu)) q
 have hnewsH := Lib.hid hnews
 have own1H := Lib.hid own1
 have hlenH := Lib.hid (show (flatC l).length = q * 3 by rw [flatC_length, hll])
 have hl1H := Lib.hid hl1
 have hllH := Lib.hid hll
 have hl3H := Lib.hid hl3
 obtain ⟨B0, hB0e⟩ : ∃ b, V4.heap.size = b := ⟨_, rfl⟩
 have hB0H := Lib.hid hB0e
 have hVE : B0 ≤ VE.heap.size := by rw [← hB0e]; exact hbE.size
 rw [hB0e] at own1H
 have hpB : w.heap.size < B0 := hB0e ▸ kp.lt
 clear hnews own1 hl1 hl2 hl3 hll
 go_wp2_with (at_builtin; refine wpList_append_anyS rfl _ _ 58 rfl B0 32 i0 (.agg #[.int .i64 0, .int .i64 0, .slice none 0 0]) 3 40 Tryz.underlying58 gi gz0 gz1 gz2 rfl (by decide) (.slice (some ⟨B0, 0, none⟩) 0 0) 0 [] rfl own1H.out la q lc (flatC l) rfl hlenH.out hnewsH.out (flatC_one l) (by unfold maxLen; omega) (by omega) hVE ?_; intro v2 W2 own2 hg2 hat2)
 rw [Nat.zero_add, List.nil_append] at own2
 rw [← hB0e] at hg2
 have hb : Below V4.heap.size V4 W2 := hbE.trans ((Below.refl _ VE).grown hg2 hbE.size (fun k e => by have := (own1H.out.lt k (by rw [← hB0e]; exact e)).1; omega))
 rw [hB0e] at hg2
 have hB0w : w.heap.size ≤ B0 := by rw [← hB0e]; exact hB.size
 have hown : OwnA B0 W2 v2 l := by
  refine ⟨by rw [hllH.out]; exact own2, fun x hx => ?_⟩
  obtain ⟨f1, f2⟩ := hl3H.out x hx
  have hBw := hB.size
  have hk : ∀ q, (∃ p, q = some p ∧ w.heap.size ≤ p) → x.p.px = [] ∨ ∀ ad, x.a = some ad → q ≠ some ad.block := by
   rintro q ⟨p, rfl, hp⟩
   rcases f1 with hn | ⟨b, o, h1, h2, _⟩
   ·exact .inl hn
   ·right; intro ad had he
    rw [h1] at had; cases had
    simp at he; omega
  refine ⟨(f1.below (Nat.le_refl _) (hB.trans (hb.mono hB.size))).mono (by have := hb.size; omega), f2, hk _ ?_⟩
  rcases hat2 with e | e
  ·exact ⟨_, e, hB0w⟩
  ·exact ⟨_, e, by have := (own1H.out.lt _ rfl).1; omega⟩
 have hlo : B0 ≤ W2.heap.size := by have := hb.size; omega
 clear own2 hg2 hat2 own1H hnewsH hlenH hl3H hEVE hbE hVE hllH
 clear p0 p1 p2 p3
 replace kp := kp.below hb kp.lt
 replace hr := hr.later hb
 replace hrl := hrl.bm hb
 replace hB := tmB hB hb
 clear hb hB0e hB0H
 have hownH := Lib.hid (show ∃ l : List PicA, OwnA B0 W2 v2 l ∧ l.map PicA.p = afterN Q.ss ms 0 from ⟨l, hown, hl1H.out⟩)
 clear hown hl1H hrl hr
 go_wp2_with fail
 go_loopg [6, 7] n (fun g v i wr => ∃ k : Nat, k + g = n ∧ i = .int .i64 (k : Int) ∧ Hid (∃ l : List PicA, OwnA B0 wr v l ∧ l.map PicA.p = afterN Q.ss ms k) ∧ B0 ≤ wr.heap.size ∧ Below w.heap.size w wr ∧ Blk wr w.heap.size 24 #[.int .i64 Q.w, .int .i64 Q.h, .int .i64 Q.inp, .slice a n c])
 case atStart => exact ⟨0, by omega, rfl, hownH, hlo, hB, kp⟩
 case round =>
  clear hB kp hownH hlo
  obtain ⟨k, hk, rfl, hH, hlo, hB, kp⟩ := hrel
  obtain ⟨l, hown, hlm⟩ := hH.out
  have hll : l.length = q + k := by rw [← hmH.out, ← afterN_length Q.ss ms k, ← hlm, List.length_map]
  obtain ⟨va, vc, rfl⟩ := row_slice hown.row
  rw [hll]
  by_cases hlt : k < n
  case neg =>
   have hkn : n = k := by omega
   subst hkn
   have p3 := kp.cell (i := 3) rfl
   go_wp2_with fail
   go_ret
   exact ⟨rfl, hB⟩
  case pos =>
   have hks : k < Q.ss.length := by rw [hnH.out]; exact hlt
   have hsin := hQH.out.2 k hks
   obtain ⟨xx, hR, hcv, hnx, hra, hrb⟩ := step_form hpbH.out hgbH.out hks
   have hmk := hmnH.out k hks
   rw [hcv] at hmk
   rw [hmH.out] at hra hrb
   obtain ⟨sb, so, ka, kc, sa, sc, rfl, hbl, hst2⟩ : ∃ b o ka kc sa sc, a = some ⟨b, o, none⟩ ∧ b < w.heap.size ∧ StAt w.heap.size w b (o + k * 16) (stAt Q.ss k) ka kc sa sc := by
    rcases hr0 with h | ⟨b, o, h1, h2, h3⟩
    ·exfalso; rw [h] at hks; simp at hks
    ·obtain ⟨ka, kc, sa, sc, e⟩ := h3 k hks
     exact ⟨b, o, ka, kc, sa, sc, h1, h2, e⟩
   have hpx := afterN_px hplH.out Q.ss k
   have hpr : RdPs wr.heap.size wr va (afterN Q.ss ms k) := by
    obtain ⟨a', c', e1, e2⟩ := hown.ps.slice
    simp only [Value.slice.injEq] at e1
    obtain ⟨rfl, _, rfl⟩ := e1
    rw [hlm] at e2; exact e2
   obtain ⟨s, hse⟩ : ∃ s, stAt Q.ss k = s := ⟨_, rfl⟩
   obtain ⟨M, hM⟩ : ∃ M, afterN Q.ss ms k = M := ⟨_, rfl⟩
   have hMl : M.length = q + k := by rw [← hM, afterN_length, hmH.out]
   rw [hse] at hR hra hrb hst2 hsin
   rw [hM] at hR hnx hlm hpx hpr
   obtain ⟨A, hA⟩ : ∃ A : Nat, s.a = (A : Int) := ⟨s.a.toNat, by omega⟩
   have hAn : A < q + k := by omega
   have hrdA := fun (i : Nat) (hi : i < q + k) => hpr.at (i := i) (by rw [hMl]; exact hi)
   obtain ⟨b, o, hab, hbl0, pa, pc, y0, y1, y2, rA, _⟩ := hrdA A hAn
   subst hab
   unfold appS at hR
   rw [show s.a.toNat = A by omega] at hR
   obtain ⟨⟨mw, mh, mx⟩, hMA⟩ : ∃ M', picAt M A = M' := ⟨_, rfl⟩
   have hxl : mx.length ≤ 9223372036854775807 := by have := hpx A; rw [hMA] at this; exact this
   rw [hMA] at y0 y1 y2 rA hR
   simp only at y0 y1 y2 rA hR
   obtain ⟨l1, hl⟩ : ∃ l, mx.length = l := ⟨_, rfl⟩
   rw [hl] at y2 hxl
   obtain ⟨tl, htl0⟩ : ∃ l, s.taps.length = l := ⟨_, rfl⟩
   obtain ⟨bl, hbl1⟩ : ∃ l, s.bits.length = l := ⟨_, rfl⟩
   obtain ⟨xl, hxl1⟩ : ∃ l, xx.length = l := ⟨_, rfl⟩
   obtain ⟨hcell, ht, hbt⟩ := hst2
   have hsH := Lib.hid hsin
   have htl := hsin.tl
   have hbll := hsin.bl
   have c0 := (hB.cell (p := ⟨sb, so + k * 16, none⟩) hbl).trans (hcell 0 _ rfl)
   have c1 := (hB.cell (p := ⟨sb, so + k * 16 + 1, none⟩) hbl).trans (hcell 1 _ rfl)
   have c2 := (hB.cell (p := ⟨sb, so + k * 16 + 2, none⟩) hbl).trans (hcell 2 _ rfl)
   have c3 := (hB.cell (p := ⟨sb, so + k * 16 + 3, none⟩) hbl).trans (hcell 3 _ rfl)
   have c4 := (hB.cell (p := ⟨sb, so + k * 16 + 4, none⟩) hbl).trans (hcell 4 _ rfl)
   have c5 := (hB.cell (p := ⟨sb, so + k * 16 + 5, none⟩) hbl).trans (hcell 5 _ rfl)
   have c6 := (hB.cell (p := ⟨sb, so + k * 16 + 6, none⟩) hbl).trans (hcell 6 _ rfl)
   have c7 := (hB.cell (p := ⟨sb, so + k * 16 + 7, none⟩) hbl).trans (hcell 7 _ rfl)
   have c8 := (hB.cell (p := ⟨sb, so + k * 16 + 8, none⟩) hbl).trans (hcell 8 _ rfl)
   have c9 := (hB.cell (p := ⟨sb, so + k * 16 + 9, none⟩) hbl).trans (hcell 9 _ rfl)
   have c10 := (hB.cell (p := ⟨sb, so + k * 16 + 10, none⟩) hbl).trans (hcell 10 _ rfl)
   have c11 := (hB.cell (p := ⟨sb, so + k * 16 + 11, none⟩) hbl).trans (hcell 11 _ rfl)
   have c12 := (hB.cell (p := ⟨sb, so + k * 16 + 12, none⟩) hbl).trans (hcell 12 _ rfl)
   have c13 := (hB.cell (p := ⟨sb, so + k * 16 + 13, none⟩) hbl).trans (hcell 13 _ rfl)
   have c14 := (hB.cell (p := ⟨sb, so + k * 16 + 14, none⟩) hbl).trans (hcell 14 _ rfl)
   have c15 := (hB.cell (p := ⟨sb, so + k * 16 + 15, none⟩) hbl).trans (hcell 15 _ rfl)
   clear hcell hsin
   have d0 : wr.cell? ⟨sb, so + k * 16, none⟩ = some (.int .u8 s.op) := c0
   have d1 : wr.cell? ⟨sb, so + k * 16 + 1, none⟩ = some (.int .i64 s.a) := c1
   have d2 : wr.cell? ⟨sb, so + k * 16 + 2, none⟩ = some (.int .i64 s.b) := c2
   have d3 : wr.cell? ⟨sb, so + k * 16 + 3, none⟩ = some (.int .i64 s.pt.mul) := c3
   have d4 : wr.cell? ⟨sb, so + k * 16 + 4, none⟩ = some (.int .i64 s.pt.add) := c4
   have d5 : wr.cell? ⟨sb, so + k * 16 + 5, none⟩ = some (.int .i64 s.pt.div) := c5
   have d6 : wr.cell? ⟨sb, so + k * 16 + 6, none⟩ = some (.int .i64 s.pt.lo) := c6
   have d7 : wr.cell? ⟨sb, so + k * 16 + 7, none⟩ = some (.int .i64 s.pt.hi) := c7
   have d8 : wr.cell? ⟨sb, so + k * 16 + 8, none⟩ = some (.int .u8 s.how) := c8
   have d9 : wr.cell? ⟨sb, so + k * 16 + 9, none⟩ = some (.int .i64 s.kw) := c9
   have d10 : wr.cell? ⟨sb, so + k * 16 + 10, none⟩ = some (.int .i64 s.kh) := c10
   have d11 : wr.cell? ⟨sb, so + k * 16 + 11, none⟩ = some (.slice ka s.taps.length kc) := c11
   have d12 : wr.cell? ⟨sb, so + k * 16 + 12, none⟩ = some (.int .u8 s.bd) := c12
   have d13 : wr.cell? ⟨sb, so + k * 16 + 13, none⟩ = some (.int .i64 s.sw) := c13
   have d14 : wr.cell? ⟨sb, so + k * 16 + 14, none⟩ = some (.int .i64 s.sh) := c14
   have d15 : wr.cell? ⟨sb, so + k * 16 + 15, none⟩ = some (.slice sa s.bits.length sc) := c15
   clear c0 c1 c2 c3 c4 c5 c6 c7 c8 c9 c10 c11 c12 c13 c14 c15
   obtain ⟨D0, hD0⟩ : ∃ D : Int, s.b = D := ⟨_, rfl⟩
   rw [hA] at d1
   rw [hD0] at d2 hrb hR
   rw [htl0] at d11 htl
   rw [hbl1] at d15 hbll
   have hlH := Lib.hid hl
   have htlH := Lib.hid htl0
   have hblH := Lib.hid hbl1
   have hxlH := Lib.hid hxl1
   have hR0 := Lib.hid hR
   have hnxH := Lib.hid hnx
   have hlmH := Lib.hid hlm
   have hpxH := Lib.hid hpx
   have hllH := Lib.hid hll
   have hMlH := Lib.hid hMl
   have hrbH := Lib.hid hrb
   have hmkH := Lib.hid hmk
   have hrdJ : ∀ x ∈ l, RdX (Value.ownBlock (.slice (some ⟨b, o, none⟩) (q + k) vc)) wr x.a x.c x.p.px := by have := hown.rd; rw [hll] at this; exact this
   have hrdH := Lib.hid hrdJ
   have hrow0 : wr.ownsRow B0 32 3 (.slice (some ⟨b, o, none⟩) (q + k) vc) (q + k) (flatC l) := by have := hown.row; rw [hll] at this; exact this
   have hvl : ∀ b', (Value.slice (some ⟨b, o, none⟩) (q + k) vc).ownBlock = some b' → b' < wr.heap.size := fun b' e => (hrow0.lt b' e).2
   have hr : RdSs wr.heap.size wr (some ⟨sb, so, none⟩) Q.ss := hr0.later hB
   have hrl : RdPs wr.heap.size wr la ms := (hrl0.below (Nat.le_refl _) hB).mono hB.size
   replace ht := later_i ht hB
   replace hbt := (hbt.below (Nat.le_refl _) hB).mono hB.size
   have hbB := hbl0
   clear hR hnx hlm hpx hll hMl hrb hmk hrdJ hown hH hcv hra hse hM hA hMA hl htl0 hbl1 hxl1 hD0 hrdA
   have hBw : Below wr.heap.size wr wr := Below.refl _ _
   obtain ⟨p0, p1, p2, p3⟩ := cz4 kp
   have w_p3 := p3
   obtain ⟨V61, hEV61, hbV61, kb⟩ := newB wr 76 #[.int .u8 s.op, .int .i64 (A : Int), .int .i64 D0, .int .i64 s.pt.mul, .int .i64 s.pt.add, .int .i64 s.pt.div, .int .i64 s.pt.lo, .int .i64 s.pt.hi, .int .u8 s.how, .int .i64 s.kw, .int .i64 s.kh, .slice ka tl kc, .int .u8 s.bd, .int .i64 s.sw, .int .i64 s.sh, .slice sa bl sc]
   clear p0 p1 p2 p3
   replace kp := kp.below hbV61 kp.lt
   replace hBw := hBw.trans (hbV61.mono hBw.size)
   replace hr := hr.later hbV61
   replace hrl := hrl.bm hbV61
   replace hpr := hpr.bm hbV61
   replace ht := later_i ht hbV61
   replace hbt := ((hbt.below (Nat.le_refl _) hbV61).mono hbV61.size)
   replace rA := later_i rA hbV61
   replace hrow0 := row_below hrow0 hbV61
   replace hB := tmB hB hbV61
   clear hbV61
   obtain ⟨p0, p1, p2, p3⟩ := cz4 kp
   obtain ⟨m0, m1, m2, m3, m4, m5, m6, m7, m8, m9, m10, m11, m12, m13, m14, m15⟩ := cz16 kb
   obtain ⟨Vq, hEVq, hbVq, kq⟩ := newB V61 24 #[.int .i64 Q.w, .int .i64 Q.h, .int .i64 Q.inp, .slice (some ⟨sb, so, none⟩) n c]
   have r3 := (kp.below hbVq kp.lt).cell (i := 3) rfl
   have x3 := kq.cell (i := 3) rfl
   have fx3 := kq.frozen 3
   have kq3 := kq.set 3 (.slice (some ⟨sb, so, none⟩) (k + 1) c)
   have hb3 : Below V61.heap.size V61 (Vq.setCell ⟨V61.heap.size, 3, none⟩ (.slice (some ⟨sb, so, none⟩) (k + 1) c)) := hbVq.setCell (p := ⟨V61.heap.size, 3, none⟩) (Nat.le_refl _) _
   obtain ⟨V3, hEV3⟩ : ∃ X, Vq.setCell ⟨V61.heap.size, 3, none⟩ (.slice (some ⟨sb, so, none⟩) (k + 1) c) = X := ⟨_, rfl⟩
   rw [hEV3] at kq3 hb3
   have kq2 : Blk V3 V61.heap.size 24 #[.int .i64 Q.w, .int .i64 Q.h, .int .i64 Q.inp, .slice (some ⟨sb, so, none⟩) (k + 1) c] := kq3
   clear kq3 kq hbVq
   replace kp := kp.below hb3 kp.lt
   replace kb := kb.below hb3 kb.lt
   replace hBw := hBw.trans (hb3.mono hBw.size)
   replace hr := hr.later hb3
   replace hrl := hrl.bm hb3
   replace hpr := hpr.bm hb3
   replace ht := later_i ht hb3
   replace hbt := ((hbt.below (Nat.le_refl _) hb3).mono hb3.size)
   replace rA := later_i rA hb3
   replace hrow0 := row_below hrow0 hb3
   replace hB := tmB hB hb3
   clear hb3
   obtain ⟨w0, w1, w2, w3⟩ := cz4 kq2
   have hw3 := hBw.size
   have hkc : k + 1 ≤ c := by omega
   go_wp2_with fail
   clear hEV61 hEVq hEV3 r3 x3 fx3
   clear w0 w1 w2 w3 w_p3
   clear p0 p1 p2 p3 m0 m1 m2 m3 m4 m5 m6 m7 m8 m9 m10 m11 m12 m13 m14 m15
   have hks' : k + 1 ≤ Q.ss.length := by rw [hnH.out]; omega
   refine (hmkH.out V3 (hr.take hks') hrl).mono ?_
   rintro e V62 ⟨⟨vv, rfl, tt, rfl, hrow⟩, hb⟩
   replace kp := kp.below hb kp.lt
   replace kb := kb.below hb kb.lt
   replace kq2 := kq2.below hb kq2.lt
   replace hBw := hBw.trans (hb.mono hBw.size)
   replace hr := hr.later hb
   replace hrl := hrl.bm hb
   replace hpr := hpr.bm hb
   replace ht := later_i ht hb
   replace hbt := ((hbt.below (Nat.le_refl _) hb).mono hb.size)
   replace rA := later_i rA hb
   replace hrow0 := row_below hrow0 hb
   replace hB := tmB hB hb
   clear hb
   obtain ⟨xa, xc, rfl⟩ := row_slice hrow
   simp only at hrow
   simp only
   rw [hxlH.out] at hrow ⊢
   have rp := rowI_rd hxlH.out hrow
   have hmlx : xl ≤ 9223372036854775807 := row_maxP hrow
   clear hks' hkc
   clear kq2
   obtain ⟨V63, hEV63, hbV63, km⟩ := newB V62 32 #[.int .i64 Q.w, .int .i64 Q.h, .slice xa xl xc]
   replace kp := kp.below hbV63 kp.lt
   replace kb := kb.below hbV63 kb.lt
   replace hBw := hBw.trans (hbV63.mono hBw.size)
   replace hr := hr.later hbV63
   replace hrl := hrl.bm hbV63
   replace hpr := hpr.bm hbV63
   replace ht := later_i ht hbV63
   replace hbt := ((hbt.below (Nat.le_refl _) hbV63).mono hbV63.size)
   replace rA := later_i rA hbV63
   replace rp := later_i rp hbV63
   replace hrow0 := row_below hrow0 hbV63
   replace hrow := row_below hrow hbV63
   replace hB := tmB hB hbV63
   clear hbV63
   obtain ⟨Vz, hEVz, hbVz, kz⟩ := newB V63 32 #[.int .i64 0, .int .i64 0, .slice none 0 0]
   obtain ⟨bz, hbz0⟩ : ∃ b, V63.heap.size = b := ⟨_, rfl⟩
   have hbzE := hbz0
   rw [hbz0] at kz
   have hbz : Below V63.heap.size V63 Vz := hbVz
   clear hbVz
   have hw0 := hBw.size
   have hbV : b < V63.heap.size := by omega
   have t0 := (kb.below hbz kb.lt).cell (i := 0) rfl
   go_upto_block 2 with fail
   clear t0 hEVz
   clear hEV63
   have y0' := (hBw.cell (p := ⟨b, o + A * 3, none⟩) hbB).trans y0
   have y1' := (hBw.cell (p := ⟨b, o + A * 3 + 1, none⟩) hbB).trans y1
   have y2' := (hBw.cell (p := ⟨b, o + A * 3 + 2, none⟩) hbB).trans y2
   replace y0 := y0'
   replace y1 := y1'
   replace y2 := y2'
   clear y0' y1' y2' d0 d1 d2 d3 d4 d5 d6 d7 d8 d9 d10 d11 d12 d13 d14 d15
   go_cut [13] (fun s13 wx => s13 = .int .i64 0 ∧ ∃ (ga : Option Addr) (gc : Nat), Blk wx bz 32 #[.int .i64 Q.w, .int .i64 Q.h, .slice ga xl gc] ∧ wx.ownsRow V63.heap.size 3 1 (.slice ga xl gc) xl (xx.map (Value.int .i64)) ∧ Below V63.heap.size V63 wx)
   case first =>
    by_cases h1 : s.op = 1
    case pos =>
     have f1 : (s.op == 1) = true := by simp [h1]
     have hRH := hR0.out
     rw [if_pos h1] at hRH
     replace hRH := Lib.hid hRH
     clear h1
     go_wp2_with fail
     have hS : Below V63.heap.size V63 Vz.drew := hbz.drew
     replace kz := kz.below (Below.refl _ Vz).drew kz.lt
     refine plain_region (fun W' => Below V63.heap.size V63 W') 13 13 (by kernel_rfl) rfl ?_
     simp only [Array.replicate_succ, Array.replicate_zero, List.push_toArray, List.nil_append, List.cons_append]
     obtain ⟨X0, hXX0⟩ : ∃ X : World, Vz.drew = X := ⟨_, rfl⟩
     rw [hXX0] at hS kz ⊢
     clear hXX0
     have FA0 := Lib.hid (fun w' (hS' : (fun W' => Below V63.heap.size V63 W') w') => And.intro ((kb.below hS' kb.lt).cell (i := 1) rfl) (And.intro ((kb.below hS' kb.lt).cell (i := 3) rfl) (And.intro ((kb.below hS' kb.lt).cell (i := 4) rfl) (And.intro ((kb.below hS' kb.lt).cell (i := 5) rfl) (And.intro ((kb.below hS' kb.lt).cell (i := 6) rfl) (And.intro ((kb.below hS' kb.lt).cell (i := 7) rfl) (And.intro ((hS'.cell (p := ⟨b, o + A * 3, none⟩) hbV).trans y0) (And.intro ((hS'.cell (p := ⟨b, o + A * 3 + 1, none⟩) hbV).trans y1) ((hS'.cell (p := ⟨b, o + A * 3 + 2, none⟩) hbV).trans y2)))))))))
     refine tkz 0 rfl hS (fun w' hS' => by go_simp; rfl) ?_
     simp only [nrz]
     refine tkz 1 rfl hS (fun w' hS' => by go_simp; rfl) ?_
     simp only [nrz]
     refine tkz 2 rfl hS (fun w' hS' => by obtain ⟨fm1, fm3, fm4, fm5, fm6, fm7, fy0, fy1, fy2⟩ := FA0.out w' hS'; clear hS'; go_simp; rfl) ?_
     simp only [nrz]
     refine tkz 3 (v := ?r16v3) rfl hS (fun w' hS' => ?r16y3) ?r16z3
     case r16y3 =>
      go_simp
      try go_ints
      first
      | rfl
      | (rw [if_pos (by omega)]; done)
      | rw [if_pos ⟨by omega, by omega⟩]
     simp only [nrz]
     refine tkz 4 rfl hS (fun w' hS' => by obtain ⟨fm1, fm3, fm4, fm5, fm6, fm7, fy0, fy1, fy2⟩ := FA0.out w' hS'; clear hS'; go_simp; rfl) ?_
     simp only [nrz]
     refine tkz 5 rfl hS (fun w' hS' => by go_simp; rfl) ?_
     simp only [nrz]
     refine tkz 6 rfl hS (fun w' hS' => by obtain ⟨fm1, fm3, fm4, fm5, fm6, fm7, fy0, fy1, fy2⟩ := FA0.out w' hS'; clear hS'; go_simp; rfl) ?_
     simp only [nrz]
     refine step_op 7 (by kernel_rfl) rfl (fun K hK => ?_)
     rw [if_pos (by rfl)]
     go_simp
     have hc := Point_any mw mh pa pc l1 mx hlH s.pt X0 hxl (later_i rA hS)
     rw [hRH.out] at hc
     refine hc.mono ?_
     clear hc
     rintro e X1 ⟨⟨v, rfl, t1, rfl, hrow⟩, hb⟩
     obtain ⟨ga, gc, rfl⟩ := row_slice hrow
     simp only at hrow
     simp only
     rw [hxlH.out] at hrow ⊢
     have hrowb := jrow_weaken hrow (show V63.heap.size ≤ X0.heap.size from hS.size)
     have hS1 : Below V63.heap.size V63 X1 := hS.trans (hb.mono hS.size)
     replace kz := kz.below hb kz.lt
     clear hb hrow
     refine hK.out _ _ (fun h => hS1) ?_
     clear hK K
     try simp only [Act.put, nrz]
     refine tkz 8 rfl hS1 (fun w' hS' => by go_simp; rfl) ?_
     simp only [nrz]
     refine tkz 9 rfl hS1 (fun w' hS' => by go_simp; rfl) ?_
     simp only [nrz]
     refine tkz 10 rfl hS1 (fun w' hS' => by go_simp; rfl) ?_
     simp only [nrz]
     refine step_op 11 (by kernel_rfl) rfl (fun K hK => ?_)
     obtain ⟨g0, g1, g2⟩ := cz3 kz
     have fg0 := kz.frozen 0
     have fg1 := kz.frozen 1
     have fg2 := kz.frozen 2
     rw [if_pos (by rfl)]
     go_simp
     have hS2 := hS1.trans (put3_below (B := bz) (by omega) (.int .i64 Q.w) (.int .i64 Q.h) (.slice ga xl gc))
     refine hK.out _ _ (fun h => hS2) ?_
     clear hK K
     try simp only [Act.put, nrz]
     refine tkz 12 rfl hS2 (fun w' hS' => by go_simp; rfl) ?_
     simp only [nrz]
     refine done_ops (by kernel_rfl) ?_
     go_wp2_with fail
     go_meet
     exact ⟨rfl, ga, gc, put3_blk kz _ _ _, row_put3b hrowb (kz.not_row (by decide) hrowb) _ _ _, hS2⟩
    case neg =>
     have f1 : (s.op == 1) = false := by simp [h1]
     have hR0' := hR0.out
     rw [if_neg h1] at hR0'
     replace hR0 := Lib.hid hR0'
     clear hR0' h1
     by_cases h2 : s.op = 2
     case pos =>
      have f2 : (s.op == 2) = true := by simp [h2]
      have hRH := hR0.out
      rw [if_pos h2] at hRH
      replace hRH := Lib.hid hRH
      obtain ⟨hb1, hb2⟩ := hrbH.out h2
      clear h2
      obtain ⟨D, rfl⟩ : ∃ D : Nat, D0 = (D : Int) := ⟨D0.toNat, by omega⟩
      have hDn : D < q + k := by omega
      obtain ⟨b', o', hbb, _, pb, pd, z0, z1, z2, rD, _⟩ := hpr.at (i := D) (by rw [hMlH.out]; exact hDn)
      simp only [Option.some.injEq, Addr.mk.injEq, and_true] at hbb
      obtain ⟨rfl, rfl⟩ := hbb
      replace hRH := hRH.out
      rw [Int.toNat_natCast] at hRH
      obtain ⟨⟨nw, nh, nx⟩, hM2⟩ : ∃ M', picAt M D = M' := ⟨_, rfl⟩
      have hyl : nx.length ≤ 9223372036854775807 := by have := hpxH.out D; rw [hM2] at this; exact this
      rw [hM2] at z0 z1 z2 rD hRH
      simp only at z0 z1 z2 rD hRH
      obtain ⟨l2, hl'⟩ : ∃ l, nx.length = l := ⟨_, rfl⟩
      rw [hl'] at z2 hyl
      have hlH' := Lib.hid hl'
      clear hl' hM2
      replace hRH := Lib.hid hRH
      go_wp2_with fail
      have hS : Below V63.heap.size V63 Vz.drew := hbz.drew
      replace kz := kz.below (Below.refl _ Vz).drew kz.lt
      refine plain_region (fun W' => Below V63.heap.size V63 W') 18 18 (by kernel_rfl) rfl ?_
      simp only [Array.replicate_succ, Array.replicate_zero, List.push_toArray, List.nil_append, List.cons_append]
      obtain ⟨X0, hXX0⟩ : ∃ X : World, Vz.drew = X := ⟨_, rfl⟩
      rw [hXX0] at hS kz ⊢
      clear hXX0
      have FA1 := Lib.hid (fun w' (hS' : (fun W' => Below V63.heap.size V63 W') w') => And.intro ((kb.below hS' kb.lt).cell (i := 1) rfl) (And.intro ((kb.below hS' kb.lt).cell (i := 2) rfl) (And.intro ((kb.below hS' kb.lt).cell (i := 8) rfl) (And.intro ((hS'.cell (p := ⟨b, o + A * 3, none⟩) hbV).trans y0) (And.intro ((hS'.cell (p := ⟨b, o + A * 3 + 1, none⟩) hbV).trans y1) (And.intro ((hS'.cell (p := ⟨b, o + A * 3 + 2, none⟩) hbV).trans y2) (And.intro ((hS'.cell (p := ⟨b, o + D * 3, none⟩) hbV).trans z0) (And.intro ((hS'.cell (p := ⟨b, o + D * 3 + 1, none⟩) hbV).trans z1) ((hS'.cell (p := ⟨b, o + D * 3 + 2, none⟩) hbV).trans z2)))))))))
      refine tkz 0 rfl hS (fun w' hS' => by go_simp; rfl) ?_
      simp only [nrz]
      refine tkz 1 rfl hS (fun w' hS' => by go_simp; rfl) ?_
      simp only [nrz]
      refine tkz 2 rfl hS (fun w' hS' => by obtain ⟨fm1, fm2, fm8, fy0, fy1, fy2, fq0, fq1, fq2⟩ := FA1.out w' hS'; clear hS'; go_simp; rfl) ?_
      simp only [nrz]
      refine tkz 3 (v := ?r18v3) rfl hS (fun w' hS' => ?r18y3) ?r18z3
      case r18y3 =>
       go_simp
       try go_ints
       first
       | rfl
       | (rw [if_pos (by omega)]; done)
       | rw [if_pos ⟨by omega, by omega⟩]
      simp only [nrz]
      refine tkz 4 rfl hS (fun w' hS' => by obtain ⟨fm1, fm2, fm8, fy0, fy1, fy2, fq0, fq1, fq2⟩ := FA1.out w' hS'; clear hS'; go_simp; rfl) ?_
      simp only [nrz]
      refine tkz 5 rfl hS (fun w' hS' => by go_simp; rfl) ?_
      simp only [nrz]
      refine tkz 6 rfl hS (fun w' hS' => by go_simp; rfl) ?_
      simp only [nrz]
      refine tkz 7 rfl hS (fun w' hS' => by obtain ⟨fm1, fm2, fm8, fy0, fy1, fy2, fq0, fq1, fq2⟩ := FA1.out w' hS'; clear hS'; go_simp; rfl) ?_
      simp only [nrz]
      refine tkz 8 (v := ?r18v8) rfl hS (fun w' hS' => ?r18y8) ?r18z8
      case r18y8 =>
       go_simp
       try go_ints
       first
       | rfl
       | (rw [if_pos (by omega)]; done)
       | rw [if_pos ⟨by omega, by omega⟩]
      simp only [nrz]
      refine tkz 9 rfl hS (fun w' hS' => by obtain ⟨fm1, fm2, fm8, fy0, fy1, fy2, fq0, fq1, fq2⟩ := FA1.out w' hS'; clear hS'; go_simp; rfl) ?_
      simp only [nrz]
      refine tkz 10 rfl hS (fun w' hS' => by go_simp; rfl) ?_
      simp only [nrz]
      refine tkz 11 rfl hS (fun w' hS' => by obtain ⟨fm1, fm2, fm8, fy0, fy1, fy2, fq0, fq1, fq2⟩ := FA1.out w' hS'; clear hS'; go_simp; rfl) ?_
      simp only [nrz]
      refine step_op 12 (by kernel_rfl) rfl (fun K hK => ?_)
      rw [if_pos (by rfl)]
      go_simp
      have hc := Zip_any mw mh pa pc l1 mx hlH nw nh pb pd l2 nx hlH' s.how hsH.out.how.1 hsH.out.how.2 X0 hxl hyl (later_i rA hS) (later_i rD hS)
      rw [hRH.out] at hc
      refine hc.mono ?_
      clear hc
      rintro e X1 ⟨⟨v, rfl, t1, rfl, hrow⟩, hb⟩
      obtain ⟨ga, gc, rfl⟩ := row_slice hrow
      simp only at hrow
      simp only
      rw [hxlH.out] at hrow ⊢
      have hrowb := jrow_weaken hrow (show V63.heap.size ≤ X0.heap.size from hS.size)
      have hS1 : Below V63.heap.size V63 X1 := hS.trans (hb.mono hS.size)
      replace kz := kz.below hb kz.lt
      clear hb hrow
      refine hK.out _ _ (fun h => hS1) ?_
      clear hK K
      try simp only [Act.put, nrz]
      refine tkz 13 rfl hS1 (fun w' hS' => by go_simp; rfl) ?_
      simp only [nrz]
      refine tkz 14 rfl hS1 (fun w' hS' => by go_simp; rfl) ?_
      simp only [nrz]
      refine tkz 15 rfl hS1 (fun w' hS' => by go_simp; rfl) ?_
      simp only [nrz]
      refine step_op 16 (by kernel_rfl) rfl (fun K hK => ?_)
      obtain ⟨g0, g1, g2⟩ := cz3 kz
      have fg0 := kz.frozen 0
      have fg1 := kz.frozen 1
      have fg2 := kz.frozen 2
      rw [if_pos (by rfl)]
      go_simp
      have hS2 := hS1.trans (put3_below (B := bz) (by omega) (.int .i64 Q.w) (.int .i64 Q.h) (.slice ga xl gc))
      refine hK.out _ _ (fun h => hS2) ?_
      clear hK K
      try simp only [Act.put, nrz]
      refine tkz 17 rfl hS2 (fun w' hS' => by go_simp; rfl) ?_
      simp only [nrz]
      refine done_ops (by kernel_rfl) ?_
      go_wp2_with fail
      go_meet
      exact ⟨rfl, ga, gc, put3_blk kz _ _ _, row_put3b hrowb (kz.not_row (by decide) hrowb) _ _ _, hS2⟩
     case neg =>
      have f2 : (s.op == 2) = false := by simp [h2]
      have hR0' := hR0.out
      rw [if_neg h2] at hR0'
      replace hR0 := Lib.hid hR0'
      clear hR0' h2
      by_cases h3 : s.op = 3
      case pos =>
       have f3 : (s.op == 3) = true := by simp [h3]
       have hRH := hR0.out
       rw [if_pos h3] at hRH
       replace hRH := Lib.hid hRH
       clear h3
       go_wp2_with fail
       have hS : Below V63.heap.size V63 Vz.drew := hbz.drew
       replace kz := kz.below (Below.refl _ Vz).drew kz.lt
       refine plain_region (fun W' => Below V63.heap.size V63 W') 15 15 (by kernel_rfl) rfl ?_
       simp only [Array.replicate_succ, Array.replicate_zero, List.push_toArray, List.nil_append, List.cons_append]
       obtain ⟨X0, hXX0⟩ : ∃ X : World, Vz.drew = X := ⟨_, rfl⟩
       rw [hXX0] at hS kz ⊢
       clear hXX0
       have FA2 := Lib.hid (fun w' (hS' : (fun W' => Below V63.heap.size V63 W') w') => And.intro ((kb.below hS' kb.lt).cell (i := 1) rfl) (And.intro ((kb.below hS' kb.lt).cell (i := 9) rfl) (And.intro ((kb.below hS' kb.lt).cell (i := 10) rfl) (And.intro ((kb.below hS' kb.lt).cell (i := 11) rfl) (And.intro ((kb.below hS' kb.lt).cell (i := 12) rfl) (And.intro ((hS'.cell (p := ⟨b, o + A * 3, none⟩) hbV).trans y0) (And.intro ((hS'.cell (p := ⟨b, o + A * 3 + 1, none⟩) hbV).trans y1) ((hS'.cell (p := ⟨b, o + A * 3 + 2, none⟩) hbV).trans y2))))))))
       refine tkz 0 rfl hS (fun w' hS' => by go_simp; rfl) ?_
       simp only [nrz]
       refine tkz 1 rfl hS (fun w' hS' => by go_simp; rfl) ?_
       simp only [nrz]
       refine tkz 2 rfl hS (fun w' hS' => by obtain ⟨fm1, fm9, fm10, fm11, fm12, fy0, fy1, fy2⟩ := FA2.out w' hS'; clear hS'; go_simp; rfl) ?_
       simp only [nrz]
       refine tkz 3 (v := ?r20v3) rfl hS (fun w' hS' => ?r20y3) ?r20z3
       case r20y3 =>
        go_simp
        try go_ints
        first
        | rfl
        | (rw [if_pos (by omega)]; done)
        | rw [if_pos ⟨by omega, by omega⟩]
       simp only [nrz]
       refine tkz 4 rfl hS (fun w' hS' => by obtain ⟨fm1, fm9, fm10, fm11, fm12, fy0, fy1, fy2⟩ := FA2.out w' hS'; clear hS'; go_simp; rfl) ?_
       simp only [nrz]
       refine tkz 5 rfl hS (fun w' hS' => by go_simp; rfl) ?_
       simp only [nrz]
       refine tkz 6 rfl hS (fun w' hS' => by obtain ⟨fm1, fm9, fm10, fm11, fm12, fy0, fy1, fy2⟩ := FA2.out w' hS'; clear hS'; go_simp; rfl) ?_
       simp only [nrz]
       refine tkz 7 rfl hS (fun w' hS' => by go_simp; rfl) ?_
       simp only [nrz]
       refine tkz 8 rfl hS (fun w' hS' => by obtain ⟨fm1, fm9, fm10, fm11, fm12, fy0, fy1, fy2⟩ := FA2.out w' hS'; clear hS'; go_simp; rfl) ?_
       simp only [nrz]
       refine step_op 9 (by kernel_rfl) rfl (fun K hK => ?_)
       rw [if_pos (by rfl)]
       go_simp
       have hc := Convolve_any mw mh pa pc l1 mx hlH s.kw s.kh ka kc tl s.taps htlH s.bd hsH.out.bd.1 hsH.out.bd.2 X0 hxl (later_i rA hS) htl (later_i ht hS)
       rw [hRH.out] at hc
       refine hc.mono ?_
       clear hc
       rintro e X1 ⟨⟨v, rfl, t1, rfl, hrow⟩, hb⟩
       obtain ⟨ga, gc, rfl⟩ := row_slice hrow
       simp only at hrow
       simp only
       rw [hxlH.out] at hrow ⊢
       have hrowb := jrow_weaken hrow (show V63.heap.size ≤ X0.heap.size from hS.size)
       have hS1 : Below V63.heap.size V63 X1 := hS.trans (hb.mono hS.size)
       replace kz := kz.below hb kz.lt
       clear hb hrow
       refine hK.out _ _ (fun h => hS1) ?_
       clear hK K
       try simp only [Act.put, nrz]
       refine tkz 10 rfl hS1 (fun w' hS' => by go_simp; rfl) ?_
       simp only [nrz]
       refine tkz 11 rfl hS1 (fun w' hS' => by go_simp; rfl) ?_
       simp only [nrz]
       refine tkz 12 rfl hS1 (fun w' hS' => by go_simp; rfl) ?_
       simp only [nrz]
       refine step_op 13 (by kernel_rfl) rfl (fun K hK => ?_)
       obtain ⟨g0, g1, g2⟩ := cz3 kz
       have fg0 := kz.frozen 0
       have fg1 := kz.frozen 1
       have fg2 := kz.frozen 2
       rw [if_pos (by rfl)]
       go_simp
       have hS2 := hS1.trans (put3_below (B := bz) (by omega) (.int .i64 Q.w) (.int .i64 Q.h) (.slice ga xl gc))
       refine hK.out _ _ (fun h => hS2) ?_
       clear hK K
       try simp only [Act.put, nrz]
       refine tkz 14 rfl hS2 (fun w' hS' => by go_simp; rfl) ?_
       simp only [nrz]
       refine done_ops (by kernel_rfl) ?_
       go_wp2_with fail
       go_meet
       exact ⟨rfl, ga, gc, put3_blk kz _ _ _, row_put3b hrowb (kz.not_row (by decide) hrowb) _ _ _, hS2⟩
      case neg =>
       have f3 : (s.op == 3) = false := by simp [h3]
       have hR0' := hR0.out
       rw [if_neg h3] at hR0'
       replace hR0 := Lib.hid hR0'
       clear hR0' h3
       by_cases h4 : s.op = 4
       case pos =>
        have f4 : (s.op == 4) = true := by simp [h4]
        have hRH := hR0.out
        rw [if_pos h4] at hRH
        replace hRH := Lib.hid hRH
        clear h4
        go_wp2_with fail
        have hS : Below V63.heap.size V63 Vz.drew := hbz.drew
        replace kz := kz.below (Below.refl _ Vz).drew kz.lt
        refine plain_region (fun W' => Below V63.heap.size V63 W') 13 13 (by kernel_rfl) rfl ?_
        simp only [Array.replicate_succ, Array.replicate_zero, List.push_toArray, List.nil_append, List.cons_append]
        obtain ⟨X0, hXX0⟩ : ∃ X : World, Vz.drew = X := ⟨_, rfl⟩
        rw [hXX0] at hS kz ⊢
        clear hXX0
        have FA3 := Lib.hid (fun w' (hS' : (fun W' => Below V63.heap.size V63 W') w') => And.intro ((kb.below hS' kb.lt).cell (i := 1) rfl) (And.intro ((kb.below hS' kb.lt).cell (i := 13) rfl) (And.intro ((kb.below hS' kb.lt).cell (i := 14) rfl) (And.intro ((kb.below hS' kb.lt).cell (i := 15) rfl) (And.intro ((hS'.cell (p := ⟨b, o + A * 3, none⟩) hbV).trans y0) (And.intro ((hS'.cell (p := ⟨b, o + A * 3 + 1, none⟩) hbV).trans y1) ((hS'.cell (p := ⟨b, o + A * 3 + 2, none⟩) hbV).trans y2)))))))
        refine tkz 0 rfl hS (fun w' hS' => by go_simp; rfl) ?_
        simp only [nrz]
        refine tkz 1 rfl hS (fun w' hS' => by go_simp; rfl) ?_
        simp only [nrz]
        refine tkz 2 rfl hS (fun w' hS' => by obtain ⟨fm1, fm13, fm14, fm15, fy0, fy1, fy2⟩ := FA3.out w' hS'; clear hS'; go_simp; rfl) ?_
        simp only [nrz]
        refine tkz 3 (v := ?r22v3) rfl hS (fun w' hS' => ?r22y3) ?r22z3
        case r22y3 =>
         go_simp
         try go_ints
         first
         | rfl
         | (rw [if_pos (by omega)]; done)
         | rw [if_pos ⟨by omega, by omega⟩]
        simp only [nrz]
        refine tkz 4 rfl hS (fun w' hS' => by obtain ⟨fm1, fm13, fm14, fm15, fy0, fy1, fy2⟩ := FA3.out w' hS'; clear hS'; go_simp; rfl) ?_
        simp only [nrz]
        refine tkz 5 rfl hS (fun w' hS' => by go_simp; rfl) ?_
        simp only [nrz]
        refine tkz 6 rfl hS (fun w' hS' => by obtain ⟨fm1, fm13, fm14, fm15, fy0, fy1, fy2⟩ := FA3.out w' hS'; clear hS'; go_simp; rfl) ?_
        simp only [nrz]
        refine step_op 7 (by kernel_rfl) rfl (fun K hK => ?_)
        rw [if_pos (by rfl)]
        go_simp
        have hc := Dilate_any mw mh pa pc l1 mx hlH s.sw s.sh sa sc bl s.bits hblH X0 hxl (later_i rA hS) hbll ((hbt.below (Nat.le_refl _) hS).mono hS.size)
        rw [hRH.out] at hc
        refine hc.mono ?_
        clear hc
        rintro e X1 ⟨⟨v, rfl, t1, rfl, hrow⟩, hb⟩
        obtain ⟨ga, gc, rfl⟩ := row_slice hrow
        simp only at hrow
        simp only
        rw [hxlH.out] at hrow ⊢
        have hrowb := jrow_weaken hrow (show V63.heap.size ≤ X0.heap.size from hS.size)
        have hS1 : Below V63.heap.size V63 X1 := hS.trans (hb.mono hS.size)
        replace kz := kz.below hb kz.lt
        clear hb hrow
        refine hK.out _ _ (fun h => hS1) ?_
        clear hK K
        try simp only [Act.put, nrz]
        refine tkz 8 rfl hS1 (fun w' hS' => by go_simp; rfl) ?_
        simp only [nrz]
        refine tkz 9 rfl hS1 (fun w' hS' => by go_simp; rfl) ?_
        simp only [nrz]
        refine tkz 10 rfl hS1 (fun w' hS' => by go_simp; rfl) ?_
        simp only [nrz]
        refine step_op 11 (by kernel_rfl) rfl (fun K hK => ?_)
        obtain ⟨g0, g1, g2⟩ := cz3 kz
        have fg0 := kz.frozen 0
        have fg1 := kz.frozen 1
        have fg2 := kz.frozen 2
        rw [if_pos (by rfl)]
        go_simp
        have hS2 := hS1.trans (put3_below (B := bz) (by omega) (.int .i64 Q.w) (.int .i64 Q.h) (.slice ga xl gc))
        refine hK.out _ _ (fun h => hS2) ?_
        clear hK K
        try simp only [Act.put, nrz]
        refine tkz 12 rfl hS2 (fun w' hS' => by go_simp; rfl) ?_
        simp only [nrz]
        refine done_ops (by kernel_rfl) ?_
        go_wp2_with fail
        go_meet
        exact ⟨rfl, ga, gc, put3_blk kz _ _ _, row_put3b hrowb (kz.not_row (by decide) hrowb) _ _ _, hS2⟩
       case neg =>
        have f4 : (s.op == 4) = false := by simp [h4]
        have hR0' := hR0.out
        rw [if_neg h4] at hR0'
        replace hR0 := Lib.hid hR0'
        clear hR0' h4
        by_cases h5 : s.op = 5
        case pos =>
         have f5 : (s.op == 5) = true := by simp [h5]
         have hRH := hR0.out
         rw [if_pos h5] at hRH
         replace hRH := Lib.hid hRH
         clear h5
         go_wp2_with fail
         have hS : Below V63.heap.size V63 Vz.drew := hbz.drew
         replace kz := kz.below (Below.refl _ Vz).drew kz.lt
         refine plain_region (fun W' => Below V63.heap.size V63 W') 13 13 (by kernel_rfl) rfl ?_
         simp only [Array.replicate_succ, Array.replicate_zero, List.push_toArray, List.nil_append, List.cons_append]
         obtain ⟨X0, hXX0⟩ : ∃ X : World, Vz.drew = X := ⟨_, rfl⟩
         rw [hXX0] at hS kz ⊢
         clear hXX0
         have FA4 := Lib.hid (fun w' (hS' : (fun W' => Below V63.heap.size V63 W') w') => And.intro ((kb.below hS' kb.lt).cell (i := 1) rfl) (And.intro ((kb.below hS' kb.lt).cell (i := 13) rfl) (And.intro ((kb.below hS' kb.lt).cell (i := 14) rfl) (And.intro ((kb.below hS' kb.lt).cell (i := 15) rfl) (And.intro ((hS'.cell (p := ⟨b, o + A * 3, none⟩) hbV).trans y0) (And.intro ((hS'.cell (p := ⟨b, o + A * 3 + 1, none⟩) hbV).trans y1) ((hS'.cell (p := ⟨b, o + A * 3 + 2, none⟩) hbV).trans y2)))))))
         refine tkz 0 rfl hS (fun w' hS' => by go_simp; rfl) ?_
         simp only [nrz]
         refine tkz 1 rfl hS (fun w' hS' => by go_simp; rfl) ?_
         simp only [nrz]
         refine tkz 2 rfl hS (fun w' hS' => by obtain ⟨fm1, fm13, fm14, fm15, fy0, fy1, fy2⟩ := FA4.out w' hS'; clear hS'; go_simp; rfl) ?_
         simp only [nrz]
         refine tkz 3 (v := ?r24v3) rfl hS (fun w' hS' => ?r24y3) ?r24z3
         case r24y3 =>
          go_simp
          try go_ints
          first
          | rfl
          | (rw [if_pos (by omega)]; done)
          | rw [if_pos ⟨by omega, by omega⟩]
         simp only [nrz]
         refine tkz 4 rfl hS (fun w' hS' => by obtain ⟨fm1, fm13, fm14, fm15, fy0, fy1, fy2⟩ := FA4.out w' hS'; clear hS'; go_simp; rfl) ?_
         simp only [nrz]
         refine tkz 5 rfl hS (fun w' hS' => by go_simp; rfl) ?_
         simp only [nrz]
         refine tkz 6 rfl hS (fun w' hS' => by obtain ⟨fm1, fm13, fm14, fm15, fy0, fy1, fy2⟩ := FA4.out w' hS'; clear hS'; go_simp; rfl) ?_
         simp only [nrz]
         refine step_op 7 (by kernel_rfl) rfl (fun K hK => ?_)
         rw [if_pos (by rfl)]
         go_simp
         have hc := Erode_any mw mh pa pc l1 mx hlH s.sw s.sh sa sc bl s.bits hblH X0 hxl (later_i rA hS) hbll ((hbt.below (Nat.le_refl _) hS).mono hS.size)
         rw [hRH.out] at hc
         refine hc.mono ?_
         clear hc
         rintro e X1 ⟨⟨v, rfl, t1, rfl, hrow⟩, hb⟩
         obtain ⟨ga, gc, rfl⟩ := row_slice hrow
         simp only at hrow
         simp only
         rw [hxlH.out] at hrow ⊢
         have hrowb := jrow_weaken hrow (show V63.heap.size ≤ X0.heap.size from hS.size)
         have hS1 : Below V63.heap.size V63 X1 := hS.trans (hb.mono hS.size)
         replace kz := kz.below hb kz.lt
         clear hb hrow
         refine hK.out _ _ (fun h => hS1) ?_
         clear hK K
         try simp only [Act.put, nrz]
         refine tkz 8 rfl hS1 (fun w' hS' => by go_simp; rfl) ?_
         simp only [nrz]
         refine tkz 9 rfl hS1 (fun w' hS' => by go_simp; rfl) ?_
         simp only [nrz]
         refine tkz 10 rfl hS1 (fun w' hS' => by go_simp; rfl) ?_
         simp only [nrz]
         refine step_op 11 (by kernel_rfl) rfl (fun K hK => ?_)
         obtain ⟨g0, g1, g2⟩ := cz3 kz
         have fg0 := kz.frozen 0
         have fg1 := kz.frozen 1
         have fg2 := kz.frozen 2
         rw [if_pos (by rfl)]
         go_simp
         have hS2 := hS1.trans (put3_below (B := bz) (by omega) (.int .i64 Q.w) (.int .i64 Q.h) (.slice ga xl gc))
         refine hK.out _ _ (fun h => hS2) ?_
         clear hK K
         try simp only [Act.put, nrz]
         refine tkz 12 rfl hS2 (fun w' hS' => by go_simp; rfl) ?_
         simp only [nrz]
         refine done_ops (by kernel_rfl) ?_
         go_wp2_with fail
         go_meet
         exact ⟨rfl, ga, gc, put3_blk kz _ _ _, row_put3b hrowb (kz.not_row (by decide) hrowb) _ _ _, hS2⟩
        case neg =>
         have f5 : (s.op == 5) = false := by simp [h5]
         have hR0' := hR0.out
         rw [if_neg h5] at hR0'
         replace hR0 := Lib.hid hR0'
         clear hR0' h5
         exact absurd (congrArg ImR.err hR0.out) (by show ¬ (30 : Int) = 0; decide)
   case rest =>
   obtain ⟨rfl, ga, gc, kz2, hrg, hb⟩ := hcut
   have rg := rowI_rd hxlH.out hrg
   clear y0 y1 y2 kz
   clear hbz hbz0 hbV hw0
   clear hr hrl hpr ht hbt rA kb
   replace kp := kp.below hb kp.lt
   replace km := km.below hb km.lt
   replace hBw := hBw.trans (hb.mono hBw.size)
   replace rp := later_i rp hb
   replace hrow0 := row_below hrow0 hb
   replace hrow := row_below hrow hb
   replace hB := tmB hB hb
   clear hb
   obtain ⟨m0, m1, m2⟩ := cz3 km
   obtain ⟨g0, g1, g2⟩ := cz3 kz2
   go_wp2_with fail
   refine (Same_eq Q.w Q.h xa ga xc gc xl xx hxlH wc hmlx rp rg).mono ?_
   rintro e V64 ⟨rfl, hb⟩
   clear m0 m1 m2 g0 g1 g2
   replace kp := kp.below hb kp.lt
   replace km := km.below hb km.lt
   replace kz2 := kz2.below hb kz2.lt
   replace hBw := hBw.trans (hb.mono hBw.size)
   replace rp := later_i rp hb
   replace rg := later_i rg hb
   replace hrow0 := row_below hrow0 hb
   replace hrow := row_below hrow hb
   replace hB := tmB hB hb
   clear hb
   clear kz2 rg rp
   obtain ⟨m0, m1, m2⟩ := cz3 km
   have hfar : xx = [] ∨ ∀ ad, xa = some ad → (Value.slice (some ⟨b, o, none⟩) (q + k) vc).ownBlock ≠ some ad.block := by
    right
    rintro ad rfl e
    have e1 := (hrow.lt ad.block rfl).1
    have e2 := hvl _ e
    omega
   have hfarH := Lib.hid hfar
   clear hfar
   have n0 := m0
   have n1 := m1
   have n2 := m2
   obtain ⟨V65, hEV65, hbV65, kb⟩ := newB V64 32 #[.int .i64 Q.w, .int .i64 Q.h, .slice xa xl xc]
   clear m0 m1 m2
   replace kp := kp.below hbV65 kp.lt
   replace km := km.below hbV65 km.lt
   replace hBw := hBw.trans (hbV65.mono hBw.size)
   replace hrow0 := row_below hrow0 hbV65
   replace hrow := row_below hrow hbV65
   replace hB := tmB hB hbV65
   clear hbV65
   go_wp2_with (at_builtin; refine wpList_append_anyS rfl _ _ 58 rfl B0 32 i0 (.agg #[.int .i64 0, .int .i64 0, .slice none 0 0]) 3 40 Tryz.underlying58 gi gz0 gz1 gz2 rfl (by decide) (.slice (some ⟨b, o, none⟩) (q + k) vc) (q + k) (flatC l) rfl hrow0 (some ⟨_, 0, none⟩) 1 1 (picCells ⟨⟨Q.w, Q.h, xx⟩, xa, xc⟩) rfl rfl (by rw [show picCells ⟨⟨Q.w, Q.h, xx⟩, xa, xc⟩ = [.int .i64 Q.w, .int .i64 Q.h, .slice xa xl xc] by show [_, _, Value.slice xa xx.length xc] = _; rw [hxlH.out]]; exact NewsAt.blk kb 1) (flatC_one [⟨⟨Q.w, Q.h, xx⟩, xa, xc⟩]) (by unfold maxLen; omega) (by omega) (by have := hBw.size; omega) ?_; intro v7 W7 own7 hg7 hat7)
   clear hEV65
   clear n0 n1 n2
   have hBf : Below w.heap.size w W7 := hB.grown hg7 hB.size (fun b e => by have := (hrow0.lt b e).1; omega)
   have kp7 := kp.kept hg7 (fun e => by have := (hrow0.lt _ e.symm).1; omega)
   have hlo7 : B0 ≤ W7.heap.size := by have := hBw.size; have := hg7.size; omega
   have hnew := OwnA.push (B := B0) (x := ⟨⟨Q.w, Q.h, xx⟩, xa, xc⟩) (fun y hy => by have e := hrdH.out y hy; exact ⟨later_i e.1 hBw, e.2⟩) (row_rd' hxlH.out hrow) (fun e => by subst e; exact (row_nil hrow).2) hfarH.out (by have hll2 := hllH.out; rw [hll2]; exact own7) hg7 hat7
   have hfin : ∃ l : List PicA, OwnA B0 W7 v7 l ∧ l.map PicA.p = afterN Q.ss ms (k + 1) := by
    refine ⟨_, hnew, ?_⟩
    rw [List.map_append, hlmH.out, hnxH.out]
    rfl
   have hfinH := Lib.hid hfin
   clear hfin hnew hrow hrow0 own7 hg7 hat7 kb km hB hBw kp
   go_roundg (n - (k + 1))
   case measure => omega
   case rel => exact ⟨k + 1, by omega, by go_num, hfinH, hlo7, hBf, kp7⟩

end Go.Proofs.YtekiemlniegddaaGreat

/- Contracts and laws (PsC, Twn). -/
import Derived.Test.YtekiemlniegddaaQA11
import Derived.Test.YtekiemlniegddaaQA2
namespace Go.Proofs.Ytekiemlniegddaa
open Go Go.RowKit Go.Shelf
set_option linter.unusedVariables false
set_option linter.unusedSimpArgs false

set_option maxRecDepth 100000 in
set_option maxHeartbeats 8000000 in
theorem Meant_any (P : PipeN) (a : Option Addr) (n c : Nat) (hn : P.ss.length = n) (hP : PipeIn P) (ms : List PicN) (la : Option Addr) (q lc : Nat) (hm : ms.length = q) (hpl : ∀ i, (picAt ms i).px.length ≤ 9223372036854775807) (hv : pipeB P = true) (hgv : givenB ms P.inp P.w P.h = true) (w : World) (hr : RdSs w.heap.size w a P.ss) (hrl : RdPs w.heap.size w la ms) :
    Calls Try.prog 36 #[pipev P a n c, .slice la q lc] w (RetPic w.heap.size (meanN P ms) w) := by
  obtain ⟨W, H, I, ss⟩ := P
  obtain ⟨hn0, hst⟩ := hP
  have hv1H := Lib.hid hgv
  have hnH := Lib.hid hn
  have hstH := Lib.hid hst
  have hplH := Lib.hid hpl
  have hmH := Lib.hid hm
  have hB : Below w.heap.size w w := Below.refl _ _
  obtain ⟨⟨w1, w2⟩, ⟨h1, h2⟩, ⟨i1, i2⟩, ⟨l1, l2⟩, hall⟩ := pipeB_true hv
  simp only at hnH hstH hr hn0 w1 w2 h1 h2 i1 i2 l1 l2 hall
  rw [hnH.out] at hn0 l1 l2 hall
  have hallH := Lib.hid hall
  have hq : (q : Int) = I := by have := givenB_len hv1H.out; rw [hmH.out] at this; exact this
  have hq1 : 1 ≤ q := by omega
  have hq3 : q ≤ 3 := by omega
  have hqH := Lib.hid hq
  have hApH := Lib.hid (fun k => (afterN_length ss ms k).trans (by rw [hmH.out]))
  have hr0 := hr
  have hrl0 := hrl
  obtain ⟨i0, gi, gz0, gz1, gz2⟩ := info_parts info_pic
  obtain ⟨R, hR⟩ : ∃ R, meanN ⟨W, H, I, ss⟩ ms = R := ⟨_, rfl⟩
  rw [hR]
  have hRH := Lib.hid hR
  clear hn hst hpl hm hv hgv hall hq hR
  unfold pipev
  simp only
  have hbV1 : Below w.heap.size w (w.alloc (.cells #[.int .i64 W, .int .i64 H, .int .i64 I, .slice a n c] 24)) := jb_al (Below.refl _ w) _
  have kp := Blk.new w 24 #[.int .i64 W, .int .i64 H, .int .i64 I, .slice a n c]
  obtain ⟨V1, hEV1⟩ : ∃ X, w.alloc (.cells #[.int .i64 W, .int .i64 H, .int .i64 I, .slice a n c] 24) = X := ⟨_, rfl⟩
  rw [hEV1] at hbV1 kp
  replace hB := hB.trans (hbV1.mono hB.size)
  clear hbV1
  have m0 := kp.cell (i := 0) rfl
  have m1 := kp.cell (i := 1) rfl
  have m2 := kp.cell (i := 2) rfl
  have m3 := kp.cell (i := 3) rfl
  have hle4 := hB.size
  have hbV2 : Below V1.heap.size V1 (V1.alloc (.cells #[.int .i64 0, .int .i64 0, .slice none 0 0] 29)) := jb_al (Below.refl _ V1) _
  have k4 := Blk.new V1 29 #[.int .i64 0, .int .i64 0, .slice none 0 0]
  obtain ⟨V2, hEV2⟩ : ∃ X, V1.alloc (.cells #[.int .i64 0, .int .i64 0, .slice none 0 0] 29) = X := ⟨_, rfl⟩
  rw [hEV2] at hbV2 k4
  clear m0 m1 m2 m3
  replace kp := kp.below hbV2 kp.lt
  replace hB := hB.trans (hbV2.mono hB.size)
  clear hbV2
  have m0 := kp.cell (i := 0) rfl
  have m1 := kp.cell (i := 1) rfl
  have m2 := kp.cell (i := 2) rfl
  have m3 := kp.cell (i := 3) rfl
  have z0 := k4.cell (i := 0) rfl
  have fz0 := k4.frozen 0
  have z1 := k4.cell (i := 1) rfl
  have fz1 := k4.frozen 1
  have z2 := k4.cell (i := 2) rfl
  have fz2 := k4.frozen 2
  have hle5 := hB.size
  have hl4b := k4.lt
  have hbV3 : Below V2.heap.size V2 (V2.alloc (.cells #[] 29)) := jb_al (Below.refl _ V2) _
  have k5 := Blk.new V2 29 #[]
  obtain ⟨V3, hEV3⟩ : ∃ X, V2.alloc (.cells #[] 29) = X := ⟨_, rfl⟩
  rw [hEV3] at hbV3 k5
  clear m0 m1 m2 m3 z0 z1 z2 fz0 fz1 fz2
  replace kp := kp.below hbV3 kp.lt
  replace k4 := k4.below hbV3 k4.lt
  replace hB := hB.trans (hbV3.mono hB.size)
  clear hbV3
  have hbV := hB.size
  obtain ⟨l, hl1, hl2, hl3⟩ := hrl0.pics
  have hll : l.length = q := by rw [← hmH.out, ← hl1, List.length_map]
  have own1 := World.ownsRow_made (e := 29) (size := 3) (base := V2.heap.size) (V2) #[] 0 (Nat.le_refl _) (by decide) rfl
  rw [hEV3] at own1
  have hnews : NewsAt V3 la q (flatC l) := by
    rcases hl2 with h | ⟨b, o, h1, h2, h3⟩
    · exfalso; have := hmH.out; rw [h] at this; simp at this; omega
    · rw [h1]; exact pics_news (fun j u hu => (hB.cell (p := ⟨b, o + j, none⟩) h2).trans (h3 j u hu)) q
  have hnewsH := Lib.hid hnews
  have own1H := Lib.hid own1
  have hlenH := Lib.hid (show (flatC l).length = q * 3 by rw [flatC_length, hll])
  have hl1H := Lib.hid hl1
  have hllH := Lib.hid hll
  have hl3H := Lib.hid hl3
  clear hnews own1 hl1 hl2 hl3 hll hrl
  go_enter Try.func36, Try.ntmps36
  go_wp2_with (at_builtin; refine wpList_append_anyS rfl _ _ 25 rfl V2.heap.size 29 i0 (.agg #[.int .i64 0, .int .i64 0, .slice none 0 0]) 3 40 Try.underlying25 gi gz0 gz1 gz2 rfl (by decide) (.slice (some ⟨V2.heap.size, 0, none⟩) 0 0) 0 [] rfl own1H.out la q lc (flatC l) rfl hlenH.out hnewsH.out (flatC_one l) (by unfold maxLen; omega) (by omega) (Nat.le_of_lt k5.lt) ?_; intro v2 W2 own2 hg2 hat2)
  clear hEV1 hEV2 hEV3
  rw [Nat.zero_add, List.nil_append] at own2
  obtain ⟨B0, hB0e⟩ : ∃ B0, V2.heap.size = B0 := ⟨_, rfl⟩
  have hB2 := hB.grown hg2 hB.size (fun k e => by have := (own1H.out.lt k e).1; omega)
  have kp2 := kp.kept hg2 (fun e => by have := (own1H.out.lt _ e.symm).1; omega)
  have k42 := k4.kept hg2 (fun e => by have := (own1H.out.lt _ e.symm).1; omega)
  have hown : OwnA B0 W2 v2 l := by
    refine ⟨by rw [hllH.out, ← hB0e]; exact own2, fun x hx => ?_⟩
    obtain ⟨f1, f2⟩ := hl3H.out x hx
    have hk : ∀ q, (∃ p, q = some p ∧ w.heap.size ≤ p) → x.p.px = [] ∨ ∀ ad, x.a = some ad → q ≠ some ad.block := by
      rintro q ⟨p, rfl, hp⟩
      rcases f1 with hn | ⟨b, o, h1, h2, _⟩
      · exact .inl hn
      · right; intro ad had he
        rw [h1] at had; cases had
        simp at he; omega
    refine ⟨(f1.below (Nat.le_refl _) hB2).mono hB2.size, f2, hk _ ?_⟩
    rcases hat2 with e | e
    · exact ⟨_, e, by omega⟩
    · exact ⟨_, e, hbV⟩
  have hB0l : B0 ≤ W2.heap.size := by have := hg2.size; have := k5.lt; omega
  rw [hB0e] at hl4b
  clear hB0e
  clear own2 hg2 hat2 hB kp k4 k5 own1H hnewsH hlenH hllH hl3H
  go_wp2_with fail
  have hownH := Lib.hid (show ∃ l : List PicA, OwnA B0 W2 v2 l ∧ l.map PicA.p = afterN ss ms 0 ∧ (0 = 0 ∨ ∃ l' x, l = l' ++ [x] ∧ W2.ownsRow w.heap.size 3 1 (.slice x.a x.p.px.length x.c) x.p.px.length (x.p.px.map (Value.int .i64))) from ⟨l, hown, hl1H.out, .inl rfl⟩)
  clear hown hl1H
  go_loopw [5, 6] (fun v i wr => ∃ k : Nat, k ≤ n ∧ i = .int .i64 (k : Int) ∧ Hid (∃ l : List PicA, OwnA B0 wr v l ∧ l.map PicA.p = afterN ss ms k ∧ (k = 0 ∨ ∃ l' x, l = l' ++ [x] ∧ wr.ownsRow w.heap.size 3 1 (.slice x.a x.p.px.length x.c) x.p.px.length (x.p.px.map (Value.int .i64)))) ∧ B0 ≤ wr.heap.size ∧ Below w.heap.size w wr ∧ Blk wr w.heap.size 24 #[.int .i64 W, .int .i64 H, .int .i64 I, .slice a n c] ∧ Blk wr (V1.heap.size) 29 #[.int .i64 0, .int .i64 0, .slice none 0 0]) (fun _ i _ => n - (intOf i).toNat)
  case atStart => exact ⟨0, Nat.zero_le _, rfl, hownH, hB0l, hB2, kp2, k42⟩
  case round =>
    clear hB2 kp2 k42 hownH hB0l
    obtain ⟨k, hk, rfl, hH, hB0l, hB, kp, k4⟩ := hrel
    obtain ⟨l, hown, hlm, hlast⟩ := hH.out
    have hll : l.length = q + k := by rw [← hApH.out k, ← hlm, List.length_map]
    obtain ⟨va, vc, rfl⟩ := row_slice hown.row
    have hrow0 : wr.ownsRow B0 29 3 (.slice va (q + k) vc) (q + k) (flatC l) := by have := hown.row; rw [hll] at this; exact this
    have m0 := kp.cell (i := 0) rfl
    have m3 := kp.cell (i := 3) rfl
    rw [hll]
    by_cases hlt : k < n
    case neg =>
      have hkn : k = n := by omega
      subst hkn
      rcases hlast with h0 | ⟨l', x, hlx, hrow⟩
      · omega
      have hl' : l'.length = q + k - 1 := by
        have := congrArg List.length hlx
        rw [hll, List.length_append, List.length_singleton] at this
        omega
      have hx1 : meanN ⟨W, H, I, ss⟩ ms = x.p := by
        unfold meanN
        simp only
        rw [hnH.out, hmH.out, ← hlm, hlx, List.map_append]
        simp only [List.map_cons, List.map_nil]
        rw [picAt_snoc, if_neg (by rw [List.length_map]; omega), if_pos (by rw [List.length_map]; omega)]
      have hR2 : R = x.p := by rw [← hRH.out]; exact hx1
      subst hR2
      obtain ⟨xp, xa, xc⟩ := x
      obtain ⟨xw, xh, xx⟩ := xp
      have hxa := flatC_at l (q + k - 1) ⟨⟨xw, xh, xx⟩, xa, xc⟩ (by rw [hlx, List.getElem?_append_right (by omega), hl']; simp)
      obtain ⟨g, rfl⟩ := row_someP hrow0 (by omega)
      have hc := fun j (hj : j < 3) => (hrow0.cellAt ((q + k - 1) * 3 + j) (by omega)).trans (hxa j hj)
      have c0 := hc 0 (by omega)
      have c1 := hc 1 (by omega)
      have c2 := hc 2 (by omega)
      simp only [picCells, Nat.add_zero, List.getElem?_cons_zero, List.getElem?_cons_succ] at c0 c1 c2
      have hgt : (q : Int) + (k : Int) - 1 = ((q + k - 1 : Nat) : Int) := by omega
      obtain ⟨t, ht⟩ : ∃ t, q + k - 1 = t := ⟨_, rfl⟩
      rw [ht] at c0 c1 c2 hgt
      have htl : t < q + k := by omega
      have ks0 := k4.frozen 0
      have z0 := k4.cell (i := 0) rfl
      have z1 := k4.cell (i := 1) rfl
      have z2 := k4.cell (i := 2) rfl
      have ks1 := k4.frozen 1
      have ks2 := k4.frozen 2
      have kf := put3_blk k4 (.int .i64 xw) (.int .i64 xh) (.slice xa xx.length xc)
      have hbw : Below w.heap.size wr (put3 wr (V1.heap.size) (.int .i64 xw) (.int .i64 xh) (.slice xa xx.length xc)) := put3_below hle4 _ _ _
      have hbf := hB.trans hbw
      simp only at hrow ⊢
      have rowf := row_put3b hrow (k4.not_row (by decide) hrow) (.int .i64 xw) (.int .i64 xh) (.slice xa xx.length xc)
      have g0 := kf.cell (i := 0) rfl
      have g1 := kf.cell (i := 1) rfl
      have g2 := kf.cell (i := 2) rfl
      clear hH hown hrow0 hc hlm hlx hl' hxa hrow kp k4 hx1 hbw
      go_wp2_with fail
      exact bodyPost_ret (v := imv xw xh xa xx.length xc) (by simp [results, Try.results36, go_sem, g0, g1, g2]) rfl ⟨⟨_, rfl, _, rfl, rowf⟩, hbf⟩
    case pos =>
      have hkl : k < ss.length := by have := hnH.out; omega
      have hs := hstH.out k hkl
      have hst := stepsB_at hallH.out hlt
      obtain ⟨b, o, ka, kc, sa, sc, rfl, hbl, hst2⟩ : ∃ b o ka kc sa sc, a = some ⟨b, o, none⟩ ∧ b < w.heap.size ∧ StAt w.heap.size w b (o + k * 16) (stAt ss k) ka kc sa sc := by
        rcases hr0 with h | ⟨b, o, h1, h2, h3⟩
        · exfalso; rw [h] at hkl; simp at hkl
        · obtain ⟨ka, kc, sa, sc, e⟩ := h3 k hkl
          exact ⟨b, o, ka, kc, sa, sc, h1, h2, e⟩
      have hnx : afterN ss ms (k + 1) = afterN ss ms k ++ [resN (appS (stAt ss k) (afterN ss ms k))] := rfl
      have hlenk := hApH.out k
      have hpx := afterN_px hplH.out ss k
      have hpr : RdPs wr.heap.size wr va (afterN ss ms k) := by
        obtain ⟨a', c', e1, e2⟩ := hown.ps.slice
        simp only [Value.slice.injEq] at e1
        obtain ⟨rfl, _, rfl⟩ := e1
        rw [hlm] at e2; exact e2
      obtain ⟨s, hse⟩ : ∃ s, stAt ss k = s := ⟨_, rfl⟩
      obtain ⟨M, hM⟩ : ∃ M, afterN ss ms k = M := ⟨_, rfl⟩
      rw [hse] at hs hst hst2 hnx
      rw [hM] at hnx hlenk hpx hpr hlm
      rw [Bool.and_eq_true] at hst
      obtain ⟨hra, hrb⟩ := refB_true hst.2
      have hnxH := Lib.hid hnx
      have hlmH := Lib.hid hlm
      have hpxH := Lib.hid hpx
      have hrdH := Lib.hid hown.rd
      have hllH := Lib.hid hll
      clear hse hM hnx hlm hpx hst hH hlast hown
      obtain ⟨hcell, hta, hbi⟩ := hst2
      have c0 : wr.cell? ⟨b, o + k * 16, none⟩ = some (.int .u8 s.op) := (hB.cell (p := ⟨b, o + k * 16, none⟩) hbl).trans (hcell 0 _ rfl)
      have c1 : wr.cell? ⟨b, o + k * 16 + 1, none⟩ = some (.int .i64 s.a) := (hB.cell (p := ⟨b, o + k * 16 + 1, none⟩) hbl).trans (hcell 1 _ rfl)
      have c2 : wr.cell? ⟨b, o + k * 16 + 2, none⟩ = some (.int .i64 s.b) := (hB.cell (p := ⟨b, o + k * 16 + 2, none⟩) hbl).trans (hcell 2 _ rfl)
      have c3 : wr.cell? ⟨b, o + k * 16 + 3, none⟩ = some (.int .i64 s.pt.mul) := (hB.cell (p := ⟨b, o + k * 16 + 3, none⟩) hbl).trans (hcell 3 _ rfl)
      have c4 : wr.cell? ⟨b, o + k * 16 + 4, none⟩ = some (.int .i64 s.pt.add) := (hB.cell (p := ⟨b, o + k * 16 + 4, none⟩) hbl).trans (hcell 4 _ rfl)
      have c5 : wr.cell? ⟨b, o + k * 16 + 5, none⟩ = some (.int .i64 s.pt.div) := (hB.cell (p := ⟨b, o + k * 16 + 5, none⟩) hbl).trans (hcell 5 _ rfl)
      have c6 : wr.cell? ⟨b, o + k * 16 + 6, none⟩ = some (.int .i64 s.pt.lo) := (hB.cell (p := ⟨b, o + k * 16 + 6, none⟩) hbl).trans (hcell 6 _ rfl)
      have c7 : wr.cell? ⟨b, o + k * 16 + 7, none⟩ = some (.int .i64 s.pt.hi) := (hB.cell (p := ⟨b, o + k * 16 + 7, none⟩) hbl).trans (hcell 7 _ rfl)
      have c8 : wr.cell? ⟨b, o + k * 16 + 8, none⟩ = some (.int .u8 s.how) := (hB.cell (p := ⟨b, o + k * 16 + 8, none⟩) hbl).trans (hcell 8 _ rfl)
      have c9 : wr.cell? ⟨b, o + k * 16 + 9, none⟩ = some (.int .i64 s.kw) := (hB.cell (p := ⟨b, o + k * 16 + 9, none⟩) hbl).trans (hcell 9 _ rfl)
      have c10 : wr.cell? ⟨b, o + k * 16 + 10, none⟩ = some (.int .i64 s.kh) := (hB.cell (p := ⟨b, o + k * 16 + 10, none⟩) hbl).trans (hcell 10 _ rfl)
      have c11 : wr.cell? ⟨b, o + k * 16 + 11, none⟩ = some (.slice ka s.taps.length kc) := (hB.cell (p := ⟨b, o + k * 16 + 11, none⟩) hbl).trans (hcell 11 _ rfl)
      have c12 : wr.cell? ⟨b, o + k * 16 + 12, none⟩ = some (.int .u8 s.bd) := (hB.cell (p := ⟨b, o + k * 16 + 12, none⟩) hbl).trans (hcell 12 _ rfl)
      have c13 : wr.cell? ⟨b, o + k * 16 + 13, none⟩ = some (.int .i64 s.sw) := (hB.cell (p := ⟨b, o + k * 16 + 13, none⟩) hbl).trans (hcell 13 _ rfl)
      have c14 : wr.cell? ⟨b, o + k * 16 + 14, none⟩ = some (.int .i64 s.sh) := (hB.cell (p := ⟨b, o + k * 16 + 14, none⟩) hbl).trans (hcell 14 _ rfl)
      have c15 : wr.cell? ⟨b, o + k * 16 + 15, none⟩ = some (.slice sa s.bits.length sc) := (hB.cell (p := ⟨b, o + k * 16 + 15, none⟩) hbl).trans (hcell 15 _ rfl)
      have lp := kp.lt
      have l4 := k4.lt
      have lw := hB.size
      clear hcell
      have hrdJ : ∀ x ∈ l, RdX (Value.ownBlock (.slice va (q + k) vc)) wr x.a x.c x.p.px := by have := hrdH.out; rw [hll] at this; exact this
      have hrdJH := Lib.hid hrdJ
      clear hrdJ hrdH hll
      have hvl : ∀ b, (Value.slice va (q + k) vc).ownBlock = some b → b < wr.heap.size := fun b e => (hrow0.lt b e).2
      have hBw : Below wr.heap.size wr wr := Below.refl _ _
      go_wp2_with fail
      have hc := stepped_any s hs ka sa kc sc M va vc (q + k) hlenk (fun i _ => hpxH.out i) hra.1 (by have := hqH.out; omega) (fun h => ⟨(hrb h).1, by have := (hrb h).2; have := hqH.out; omega⟩) wr hpr (later_i hta hB) ((hbi.below (Nat.le_refl _) hB).mono hB.size)
      refine hc.mono ?_
      clear hc
      rintro e V21 ⟨⟨vv2, rfl, tt, rfl, hrow⟩, hb⟩
      replace kp := kp.below hb kp.lt
      replace k4 := k4.below hb k4.lt
      replace hpr := hpr.later hb
      replace hBw := hBw.trans (hb.mono hBw.size)
      replace hrow0 := row_below hrow0 hb
      replace hB := hB.trans (hb.mono hB.size)
      clear hb
      clear c0 c1 c2 c3 c4 c5 c6 c7 c8 c9 c10 c11 c12 c13 c14 c15 m0 m3
      obtain ⟨X, hX⟩ : ∃ X, resN (appS s M) = X := ⟨_, rfl⟩
      rw [hX] at hrow ⊢
      have hXH := Lib.hid hX
      clear hX
      obtain ⟨xw, xh, xx⟩ := X
      obtain ⟨xa, xc, rfl⟩ := row_slice hrow
      simp only at hrow
      have hfar : xx = [] ∨ ∀ ad, xa = some ad → (Value.slice va (q + k) vc).ownBlock ≠ some ad.block := by
        right
        rintro ad rfl e
        have e1 := (hrow.lt ad.block rfl).1
        have e2 := hvl _ e
        omega
      have hfarH := Lib.hid hfar
      clear hfar
      obtain ⟨xl, hxl⟩ : ∃ l, xx.length = l := ⟨_, rfl⟩
      have hxlH := Lib.hid hxl
      simp only
      rw [hxl] at hrow ⊢
      clear hxl
      have hbV22 : Below V21.heap.size V21 (V21.alloc (.cells #[.int .i64 xw, .int .i64 xh, .slice xa xl xc] 29)) := jb_al (Below.refl _ V21) _
      have kb := Blk.new V21 29 #[.int .i64 xw, .int .i64 xh, .slice xa xl xc]
      obtain ⟨V22, hEV22⟩ : ∃ X, V21.alloc (.cells #[.int .i64 xw, .int .i64 xh, .slice xa xl xc] 29) = X := ⟨_, rfl⟩
      rw [hEV22] at hbV22 kb
      replace kp := kp.below hbV22 kp.lt
      replace k4 := k4.below hbV22 k4.lt
      replace hpr := hpr.later hbV22
      replace hBw := hBw.trans (hbV22.mono hBw.size)
      replace hrow0 := row_below hrow0 hbV22
      replace hrow := row_below hrow hbV22
      replace hB := hB.trans (hbV22.mono hB.size)
      clear hbV22
      go_wp2_with (at_builtin; refine wpList_append_anyS rfl _ _ 25 rfl B0 29 i0 (.agg #[.int .i64 0, .int .i64 0, .slice none 0 0]) 3 40 Try.underlying25 gi gz0 gz1 gz2 rfl (by decide) (.slice va (q + k) vc) (q + k) (flatC l) rfl hrow0 (some ⟨_, 0, none⟩) 1 1 (picCells ⟨⟨xw, xh, xx⟩, xa, xc⟩) rfl rfl (by rw [show picCells ⟨⟨xw, xh, xx⟩, xa, xc⟩ = [.int .i64 xw, .int .i64 xh, .slice xa xl xc] by show [_, _, Value.slice xa xx.length xc] = _; rw [hxlH.out]]; exact NewsAt.blk kb 1) (flatC_one [⟨⟨xw, xh, xx⟩, xa, xc⟩]) (by unfold maxLen; omega) (by omega) (by have := hBw.size; omega) ?_; intro v7 W7 own7 hg7 hat7)
      have hBf : Below w.heap.size w W7 := hB.grown hg7 hB.size (fun b e => by have := (hrow0.lt b e).1; omega)
      have kp7 := kp.kept hg7 (fun e => by have := (hrow0.lt _ e.symm).1; omega)
      have k47 := k4.kept hg7 (fun e => by have := (hrow0.lt _ e.symm).1; omega)
      have hB07 : B0 ≤ W7.heap.size := by have := hBw.size; have := hg7.size; omega
      have hnew := OwnA.push (B := B0) (x := ⟨⟨xw, xh, xx⟩, xa, xc⟩) (fun y hy => by have e := hrdJH.out y hy; exact ⟨later_i e.1 hBw, e.2⟩) (row_rd' hxlH.out hrow) (fun e => by subst e; exact (row_nil hrow).2) hfarH.out (by have hll2 := hllH.out; rw [hll2]; exact own7) hg7 hat7
      have hrow7 : W7.ownsRow w.heap.size 3 1 (.slice xa xx.length xc) xx.length (xx.map (Value.int .i64)) := by
        rw [hxlH.out]
        refine jrow_weaken (hrow.kept hg7 ?_) (by omega)
        cases xa with
        | none => exact .inl rfl
        | some ad =>
          right
          intro e
          have e1 := (hrow.lt ad.block rfl).1
          have e2 := hvl _ e.symm
          omega
      have hfin : ∃ l : List PicA, OwnA B0 W7 v7 l ∧ l.map PicA.p = afterN ss ms (k + 1) ∧ (k + 1 = 0 ∨ ∃ l' x, l = l' ++ [x] ∧ W7.ownsRow w.heap.size 3 1 (.slice x.a x.p.px.length x.c) x.p.px.length (x.p.px.map (Value.int .i64))) := by
        refine ⟨_, hnew, ?_, .inr ⟨l, _, rfl, hrow7⟩⟩
        rw [List.map_append, hlmH.out, hnxH.out, hXH.out]
        rfl
      have hfinH := Lib.hid hfin
      clear hfin hnew hrow7 hrow hrow0 own7 hg7 hat7 kb hB kp k4 hpr hBw
      go_roundw
      case rel => exact ⟨k + 1, by omega, by go_num, hfinH, hB07, hBf, kp7, k47⟩
      case measure => simp [intOf]; omega
set_option maxRecDepth 100000 in
set_option maxHeartbeats 4000000 in
theorem rMean_any (P : PipeN) (a : Option Addr) (n c : Nat) (hn : P.ss.length = n) (hP : PipeIn P) (ms : List PicN) (la : Option Addr) (q lc : Nat) (hm : ms.length = q) (hmm : q ≤ 9223372036854775807) (hpl : ∀ i, (picAt ms i).px.length ≤ 9223372036854775807) (w : World) (hr : RdSs w.heap.size w a P.ss) (hrl : RdPs w.heap.size w la ms) :
    Calls Try.prog 10 #[pipev P a n c, .slice la q lc] w (RetIm w.heap.size (meanS P ms) w) := by
  have hnH := Lib.hid hn
  have hplH := Lib.hid hpl
  have hmH := Lib.hid hm
  have hPH := Lib.hid hP
  have hB : Below w.heap.size w w := Below.refl _ _
  obtain ⟨R, hR⟩ : ∃ R, meanS P ms = R := ⟨_, rfl⟩
  have hRH := Lib.hid hR
  rw [hR]
  clear hn hpl hm hR hP
  unfold pipev
  have hbV1 : Below w.heap.size w (w.alloc (.cells #[.int .i64 P.w, .int .i64 P.h, .int .i64 P.inp, .slice a n c] 24)) := jb_al (Below.refl _ w) _
  have kp := Blk.new w 24 #[.int .i64 P.w, .int .i64 P.h, .int .i64 P.inp, .slice a n c]
  obtain ⟨V1, hEV1⟩ : ∃ X, w.alloc (.cells #[.int .i64 P.w, .int .i64 P.h, .int .i64 P.inp, .slice a n c] 24) = X := ⟨_, rfl⟩
  rw [hEV1] at hbV1 kp
  replace hr := hr.later hbV1
  replace hrl := hrl.later hbV1
  replace hB := hB.trans (hbV1.mono hB.size)
  clear hbV1
  have m0 := kp.cell (i := 0) rfl
  have m1 := kp.cell (i := 1) rfl
  have m2 := kp.cell (i := 2) rfl
  have m3 := kp.cell (i := 3) rfl
  have hle4 := hB.size
  have hbV2 : Below V1.heap.size V1 (V1.alloc (.cells #[.int .i64 0, .int .i64 0, .slice none 0 0] 29)) := jb_al (Below.refl _ V1) _
  have k4 := Blk.new V1 29 #[.int .i64 0, .int .i64 0, .slice none 0 0]
  obtain ⟨V2, hEV2⟩ : ∃ X, V1.alloc (.cells #[.int .i64 0, .int .i64 0, .slice none 0 0] 29) = X := ⟨_, rfl⟩
  rw [hEV2] at hbV2 k4
  clear m0 m1 m2 m3
  replace kp := kp.below hbV2 kp.lt
  replace hr := hr.later hbV2
  replace hrl := hrl.later hbV2
  replace hB := hB.trans (hbV2.mono hB.size)
  clear hbV2
  have m0 := kp.cell (i := 0) rfl
  have m1 := kp.cell (i := 1) rfl
  have m2 := kp.cell (i := 2) rfl
  have m3 := kp.cell (i := 3) rfl
  have z0 := k4.cell (i := 0) rfl
  have fz0 := k4.frozen 0
  have z1 := k4.cell (i := 1) rfl
  have fz1 := k4.frozen 1
  have z2 := k4.cell (i := 2) rfl
  have fz2 := k4.frozen 2
  go_enter Try.func10, Try.ntmps10
  obtain ⟨v0, hv0⟩ : ∃ v, pipeB P = v := ⟨_, rfl⟩
  have hv0H := Lib.hid hv0
  clear hv0
  go_wp2_with fail
  clear hEV1 hEV2
  have hc := PValid_any P a n c hnH.out hPH.out v0 hv0H.out V2 hr
  refine hc.mono ?_
  clear hc
  rintro e V3 ⟨rfl, hb⟩
  clear m0 m1 m2 m3 z0 z1 z2 fz0 fz1 fz2
  replace kp := kp.below hb kp.lt
  replace k4 := k4.below hb k4.lt
  replace hr := hr.later hb
  replace hrl := hrl.later hb
  replace hB := hB.trans (hb.mono hB.size)
  clear hb
  have m0 := kp.cell (i := 0) rfl
  have m1 := kp.cell (i := 1) rfl
  have m2 := kp.cell (i := 2) rfl
  have m3 := kp.cell (i := 3) rfl
  have z0 := k4.cell (i := 0) rfl
  have fz0 := k4.frozen 0
  have z1 := k4.cell (i := 1) rfl
  have fz1 := k4.frozen 1
  have z2 := k4.cell (i := 2) rfl
  have fz2 := k4.frozen 2
  cases v0 with
  | false =>
    have hR2 : R = noIm 30 := by rw [← hRH.out]; unfold meanS; rw [hv0H.out]; rfl
    subst hR2
    have kf := put3_blk k4 (.int .i64 0) (.int .i64 0) (.slice none 0 0)
    have hbf : Below w.heap.size w (put3 V3 (V1.heap.size) (.int .i64 0) (.int .i64 0) (.slice none 0 0)) := hB.trans (put3_below hle4 _ _ _)
    have g0 := kf.cell (i := 0) rfl
    have g1 := kf.cell (i := 1) rfl
    have g2 := kf.cell (i := 2) rfl
    go_wp2_with fail
    exact bodyPost_ret (v := .tuple #[imv 0 0 none 0 0, .int .i64 30]) (by simp [results, Try.results10, go_sem, g0, g1, g2]) rfl ⟨⟨_, rfl, _, rfl, World.ownsRow_nil _ _ _ _⟩, hbf⟩
  | true =>
  obtain ⟨v1, hv1⟩ : ∃ v, givenB ms P.inp P.w P.h = v := ⟨_, rfl⟩
  have hv1H := Lib.hid hv1
  clear hv1
  go_wp2_with fail
  have hc := rgiven_any ms la lc q hmH.out hmm (fun i _ => hplH.out i) P.inp P.w P.h v1 hv1H.out V3 hrl
  refine hc.mono ?_
  clear hc
  rintro e V4 ⟨rfl, hb⟩
  clear m0 m1 m2 m3 z0 z1 z2 fz0 fz1 fz2
  replace kp := kp.below hb kp.lt
  replace k4 := k4.below hb k4.lt
  replace hr := hr.later hb
  replace hrl := hrl.later hb
  replace hB := hB.trans (hb.mono hB.size)
  clear hb
  have m0 := kp.cell (i := 0) rfl
  have m1 := kp.cell (i := 1) rfl
  have m2 := kp.cell (i := 2) rfl
  have m3 := kp.cell (i := 3) rfl
  have z0 := k4.cell (i := 0) rfl
  have fz0 := k4.frozen 0
  have z1 := k4.cell (i := 1) rfl
  have fz1 := k4.frozen 1
  have z2 := k4.cell (i := 2) rfl
  have fz2 := k4.frozen 2
  cases v1 with
  | false =>
    have hR2 : R = noIm 2 := by rw [← hRH.out]; unfold meanS; rw [hv0H.out]; simp only [if_true]; rw [hv1H.out]; rfl
    subst hR2
    have kf := put3_blk k4 (.int .i64 0) (.int .i64 0) (.slice none 0 0)
    have hbf : Below w.heap.size w (put3 V4 (V1.heap.size) (.int .i64 0) (.int .i64 0) (.slice none 0 0)) := hB.trans (put3_below hle4 _ _ _)
    have g0 := kf.cell (i := 0) rfl
    have g1 := kf.cell (i := 1) rfl
    have g2 := kf.cell (i := 2) rfl
    go_wp2_with fail
    exact bodyPost_ret (v := .tuple #[imv 0 0 none 0 0, .int .i64 2]) (by simp [results, Try.results10, go_sem, g0, g1, g2]) rfl ⟨⟨_, rfl, _, rfl, World.ownsRow_nil _ _ _ _⟩, hbf⟩
  | true =>
  have hR2 : R = { w := (meanN P ms).w, h := (meanN P ms).h, px := (meanN P ms).px, err := 0 } := by rw [← hRH.out]; unfold meanS; rw [hv0H.out]; simp only [if_true]; rw [hv1H.out]; rfl
  clear hRH
  have hsz0 := hB.size
  go_wp2_with fail
  have hc := Meant_any P a n c hnH.out hPH.out ms la q lc hmH.out hplH.out hv0H.out hv1H.out V4 hr hrl
  refine hc.mono ?_
  clear hc
  rintro e V5 ⟨⟨vv, rfl, tt, rfl, hrow⟩, hb⟩
  clear m0 m1 m2 m3 z0 z1 z2 fz0 fz1 fz2
  replace kp := kp.below hb kp.lt
  replace k4 := k4.below hb k4.lt
  replace hr := hr.later hb
  replace hrl := hrl.later hb
  replace hB := hB.trans (hb.mono hB.size)
  clear hb
  have m0 := kp.cell (i := 0) rfl
  have m1 := kp.cell (i := 1) rfl
  have m2 := kp.cell (i := 2) rfl
  have m3 := kp.cell (i := 3) rfl
  have z0 := k4.cell (i := 0) rfl
  have fz0 := k4.frozen 0
  have z1 := k4.cell (i := 1) rfl
  have fz1 := k4.frozen 1
  have z2 := k4.cell (i := 2) rfl
  have fz2 := k4.frozen 2
  obtain ⟨⟨xw, xh, xx⟩, hX⟩ : ∃ X, meanN P ms = X := ⟨_, rfl⟩
  rw [hX] at hrow hR2 ⊢
  subst hR2
  clear hX
  obtain ⟨xa, xc, rfl⟩ := row_slice hrow
  simp only at hrow ⊢
  replace hrow := jrow_weaken hrow hsz0
  have kf := put3_blk k4 (.int .i64 xw) (.int .i64 xh) (.slice xa xx.length xc)
  have rowf := row_put3b hrow (k4.not_row (by decide) hrow) (.int .i64 xw) (.int .i64 xh) (.slice xa xx.length xc)
  have hbf : Below w.heap.size w (put3 V5 (V1.heap.size) (.int .i64 xw) (.int .i64 xh) (.slice xa xx.length xc)) := hB.trans (put3_below hle4 _ _ _)
  have g0 := kf.cell (i := 0) rfl
  have g1 := kf.cell (i := 1) rfl
  have g2 := kf.cell (i := 2) rfl
  clear hrow
  go_wp2_with fail
  exact bodyPost_ret (v := .tuple #[imv xw xh xa xx.length xc, .int .i64 0]) (by simp [results, Try.results10, go_sem, g0, g1, g2]) rfl ⟨⟨_, rfl, _, rfl, rowf⟩, hbf⟩

end Go.Proofs.Ytekiemlniegddaa

namespace Go.Proofs.Ytekiemlniegddaa
open Go Go.RowKit Go.Shelf
set_option linter.unusedVariables false
set_option linter.unusedSimpArgs false

theorem row_maxP {W : World} {base : Nat} {e : TypeId} {size : Nat} {v : Value} {k : Nat} {xs : List Value} (h : W.ownsRow base e size v k xs) : k ≤ 9223372036854775807 := by
  rcases h.2 with ⟨_, h2⟩ | ⟨g, cap, cur, _, _, _, h3, h4, _⟩
  · omega
  · unfold maxLen at h4; omega

set_option maxRecDepth 100000 in
set_option maxHeartbeats 8000000 in
set_option maxHeartbeats 1000000 in
theorem spoil3_any (iw ih : Int) (a : Option Addr) (c n : Nat) (xs : List Int) (B : Nat) (w : World) (hm : n ≤ 9223372036854775807) (hB : B ≤ w.heap.size) (hrow : w.ownsRow B 3 1 (.slice a n c) n (xs.map (Value.int .i64))) :
    Calls Try.prog 14 #[imv iw ih a n c] w fun e w' => (∃ v, e = .returned v) ∧ w.grownBy w' (Value.ownBlock (.slice a n c)) := by
  have k0 := Blk.new w 29 #[.int .i64 iw, .int .i64 ih, .slice a n c]
  have hrow0 := hrow.alloc (.cells #[.int .i64 iw, .int .i64 ih, .slice a n c] 29)
  have hB0 : w.grownBy (w.alloc (.cells #[.int .i64 iw, .int .i64 ih, .slice a n c] 29)) (Value.ownBlock (.slice a n c)) := World.grownBy_alloc _ _ _
  go_enter Try.func14, Try.ntmps14
  go_wp2
  go_loopw [2] (fun i wr => ∃ (k : Nat) (ys : List Int), k ≤ n ∧ i = .int .i64 k ∧ Blk wr w.heap.size 29 #[.int .i64 iw, .int .i64 ih, .slice a n c] ∧ wr.ownsRow B 3 1 (.slice a n c) n (ys.map (Value.int .i64)) ∧ Hid (w.grownBy wr (Value.ownBlock (.slice a n c)))) (fun i _ => n - (intOf i).toNat)
  case atStart => exact ⟨0, xs, Nat.zero_le _, rfl, k0, hrow0, Lib.hid hB0⟩
  case round =>
    obtain ⟨k, ys, hk, rfl, k1, hr1, hB1⟩ := hrel
    clear k0 hrow0 hB0
    have c2 := k1.cell (i := 2) rfl
    by_cases hlt : k < n
    · have hlen := hr1.1
      rw [List.length_map, Nat.mul_one] at hlen
      rcases hr1.2 with ⟨h1, h2⟩ | ⟨g, cap, cur, h1, hg, _⟩
      · omega
      simp only [Value.slice.injEq] at h1
      obtain ⟨rfl, _, rfl⟩ := h1
      have hcell := hr1.cellAt k (by omega)
      have hfr := hr1.frozenAt k
      obtain ⟨y, hy⟩ : ∃ y, ys[k]? = some y := ⟨ys[k], List.getElem?_eq_getElem (by omega)⟩
      rw [List.getElem?_map, hy] at hcell
      simp only [Option.map_some] at hcell
      have hst := fun z => (hr1.stored k (.int .i64 z)).1
      simp only [map_set_int] at hst
      have hstH := Lib.hid hst
      have hne := k1.not_row (by decide) hr1
      have hneH := Lib.hid hne
      clear hst hne hlen hy
      go_wp2_with fail
      go_roundw
      case rel => exact ⟨k + 1, _, by omega, by go_num, k1.other (fun e => hneH.out (by simp [Value.ownBlock, e])) _, hstH.out _, Lib.hid (grown_trans hB1.out ((hr1.stored k _).2))⟩
      case measure => simp [intOf]; omega
    · go_wp2
      go_end0
      exact ⟨⟨_, rfl⟩, hB1.out⟩

set_option maxRecDepth 100000 in
set_option maxHeartbeats 4000000 in
theorem twins_any (ms : List PicN) (a : Option Addr) (c n : Nat) (hn : ms.length = n) (hm : n * 40 ≤ 140737488355328) (hpl : ∀ i, (picAt ms i).px.length * 8 ≤ 140737488355328) (w : World) (hr : RdPs w.heap.size w a ms) :
    Calls Try.prog 8 #[.slice a n c] w fun e w' => ∃ a' c', e = .returned (.slice a' n c') ∧ RdPs w'.heap.size w' a' ms ∧ Below w.heap.size w w' := by
  obtain ⟨i0, gi, gz0, gz1, gz2⟩ := info_parts info_pic
  have hnH := Lib.hid hn
  have hplH := Lib.hid hpl
  clear hn hpl
  have hownH := Lib.hid (show ∃ l : List PicA, OwnA w.heap.size w (.slice none 0 0) l ∧ l.map PicA.p = ms.take 0 from ⟨[], ⟨World.ownsRow_nil _ _ _ _, fun x hx => by cases hx⟩, rfl⟩)
  go_enter Try.func8, Try.ntmps8
  go_wp2
  go_loopw [3, 4] (fun v i wr => ∃ k : Nat, k ≤ n ∧ i = .int .i64 (k : Int) ∧ Hid (∃ l : List PicA, OwnA w.heap.size wr v l ∧ l.map PicA.p = ms.take k) ∧ Below w.heap.size w wr) (fun _ i _ => n - (intOf i).toNat)
  case atStart => exact ⟨0, Nat.zero_le _, rfl, Lib.hid ⟨[], ⟨World.ownsRow_nil _ _ _ _, fun x hx => by cases hx⟩, rfl⟩, Below.refl _ _⟩
  case round =>
    clear hownH
    obtain ⟨k, hk, rfl, hH, hB⟩ := hrel
    obtain ⟨l, hown, hlm⟩ := hH.out
    have hll : l.length = k := by have := congrArg List.length hlm; rw [List.length_map, List.length_take, hnH.out] at this; omega
    obtain ⟨va, vc, rfl⟩ := row_slice hown.row
    by_cases hlt : k < n
    case neg =>
      have hkn : k = n := by omega
      subst hkn
      have hfin : RdPs wr.heap.size wr va ms := by
        obtain ⟨a', c', e1, e2⟩ := hown.ps.slice
        simp only [Value.slice.injEq] at e1
        obtain ⟨rfl, _, rfl⟩ := e1
        rw [hlm, List.take_of_length_le (by rw [hnH.out]; exact Nat.le_refl _)] at e2; exact e2
      rw [hll]
      clear hown hlm hH hll
      go_wp2_with fail
      go_ret
      exact ⟨va, vc, rfl, hfin, hB⟩
    case pos =>
      have hlt' : k < ms.length := by have := hnH.out; omega
      obtain ⟨b, o, rfl, hbl, pa, pc, p0, p1, p2, rA, hz⟩ := hr.at hlt'
      have c0 := (hB.cell (p := ⟨b, o + k * 3, none⟩) hbl).trans p0
      have c1 := (hB.cell (p := ⟨b, o + k * 3 + 1, none⟩) hbl).trans p1
      have c2 := (hB.cell (p := ⟨b, o + k * 3 + 2, none⟩) hbl).trans p2
      have hpk := hplH.out k
      have htk : ms.take (k + 1) = ms.take k ++ [picAt ms k] := by
        rw [List.take_succ_eq_append_getElem hlt']; unfold picAt; rw [List.getElem?_eq_getElem hlt']; rfl
      obtain ⟨⟨mw, mh, mx⟩, hM⟩ : ∃ M, picAt ms k = M := ⟨_, rfl⟩
      rw [hM] at c0 c1 c2 rA hpk htk
      simp only at c0 c1 c2 rA hpk hz
      have hnil : pa = none → mx.length = 0 ∧ pc = 0 := by
        intro e
        refine ⟨?_, hz e⟩
        rcases rA with h | ⟨b', o', h1, _⟩
        · rw [h]; rfl
        · rw [e] at h1; cases h1
      obtain ⟨xl, hl⟩ : ∃ l, mx.length = l := ⟨_, rfl⟩
      rw [hl] at c2 hpk hnil
      have hxlH := Lib.hid hl
      have hnilH := Lib.hid hnil
      have htkH := Lib.hid htk
      have hlmH := Lib.hid hlm
      have hllH := Lib.hid hll
      have hrdH := Lib.hid hown.rd
      have hrow0 : wr.ownsRow w.heap.size 29 3 (.slice va k vc) k (flatC l) := by have := hown.row; rw [hll] at this; exact this
      clear p0 p1 p2 hM hz hnil hl htk hlm hown hH
      rw [hll]
      clear hll
      have hBw : Below wr.heap.size wr wr := Below.refl _ _
      have hvl : ∀ b, (Value.slice va k vc).ownBlock = some b → b < wr.heap.size := fun b e => (hrow0.lt b e).2
      have hsz1 := hBw.size
      go_wp2_with fail
      have hc := Twin_any mw mh pa pc xl mx hxlH wr hpk (later_i rA hB) hnilH
      refine hc.mono ?_
      clear hc
      rintro e V21 ⟨vv, rfl, ⟨tt, rfl, hrow⟩, hb⟩
      replace hBw := hBw.trans (hb.mono hBw.size)
      replace hrow0 := row_below hrow0 hb
      replace hB := hB.trans (hb.mono hB.size)
      clear hb
      obtain ⟨xa, xc, rfl⟩ := row_slice hrow
      rw [hxlH.out] at hrow ⊢
      have hfar : mx = [] ∨ ∀ ad, xa = some ad → (Value.slice va k vc).ownBlock ≠ some ad.block := by
        right
        rintro ad rfl e
        have e1 := (hrow.lt ad.block rfl).1
        have e2 := hvl _ e
        omega
      have hfarH := Lib.hid hfar
      clear hfar c0 c1 c2
      have hbV22 : Below V21.heap.size V21 (V21.alloc (.cells #[.int .i64 mw, .int .i64 mh, .slice xa xl xc] 29)) := jb_al (Below.refl _ V21) _
      have kb := Blk.new V21 29 #[.int .i64 mw, .int .i64 mh, .slice xa xl xc]
      obtain ⟨V22, hEV22⟩ : ∃ X, V21.alloc (.cells #[.int .i64 mw, .int .i64 mh, .slice xa xl xc] 29) = X := ⟨_, rfl⟩
      rw [hEV22] at hbV22 kb
      replace hBw := hBw.trans (hbV22.mono hBw.size)
      replace hrow0 := row_below hrow0 hbV22
      replace hrow := row_below hrow hbV22
      replace hB := hB.trans (hbV22.mono hB.size)
      clear hbV22
      go_wp2_with (at_builtin; refine wpList_append_anyS rfl _ _ 25 rfl w.heap.size 29 i0 (.agg #[.int .i64 0, .int .i64 0, .slice none 0 0]) 3 40 Try.underlying25 gi gz0 gz1 gz2 rfl (by decide) (.slice va k vc) k (flatC l) rfl hrow0 (some ⟨_, 0, none⟩) 1 1 (picCells ⟨⟨mw, mh, mx⟩, xa, xc⟩) rfl rfl (by rw [show picCells ⟨⟨mw, mh, mx⟩, xa, xc⟩ = [.int .i64 mw, .int .i64 mh, .slice xa xl xc] by show [_, _, Value.slice xa mx.length xc] = _; rw [hxlH.out]]; exact NewsAt.blk kb 1) (flatC_one [⟨⟨mw, mh, mx⟩, xa, xc⟩]) (by unfold maxLen; omega) (by omega) hB.size ?_; intro v7 W7 own7 hg7 hat7)
      have hBf : Below w.heap.size w W7 := hB.grown hg7 hB.size (fun b e => by have := (hrow0.lt b e).1; omega)
      have hrdJ : ∀ x ∈ l, RdX (Value.ownBlock (.slice va k vc)) wr x.a x.c x.p.px := by have := hrdH.out; rw [hllH.out] at this; exact this
      have hnew := OwnA.push (B := w.heap.size) (x := ⟨⟨mw, mh, mx⟩, xa, xc⟩) (fun y hy => by have e := hrdJ y hy; exact ⟨later_i e.1 hBw, e.2⟩) (row_rd' hxlH.out hrow) (fun e => by subst e; exact (row_nil hrow).2) hfarH.out (by have hll2 := hllH.out; rw [hll2]; exact own7) hg7 hat7
      have hfin : ∃ l : List PicA, OwnA w.heap.size W7 v7 l ∧ l.map PicA.p = ms.take (k + 1) := by
        refine ⟨_, hnew, ?_⟩
        rw [List.map_append, hlmH.out, htkH.out]
        rfl
      have hfinH := Lib.hid hfin
      clear hfin hnew hrow hrow0 own7 hg7 hat7 kb hB hBw hrdJ
      go_roundw
      case rel => exact ⟨k + 1, by omega, by go_num, hfinH, hBf⟩
      case measure => simp [intOf]; omega
set_option maxRecDepth 100000 in
set_option maxHeartbeats 4000000 in
theorem same3_any (ms : List PicN) (a a2 : Option Addr) (c c2 n : Nat) (hn : ms.length = n) (hm : n ≤ 9223372036854775807) (hpl : ∀ i, (picAt ms i).px.length ≤ 9223372036854775807) (w : World) (hr : RdPs w.heap.size w a ms) (hr2 : RdPs w.heap.size w a2 ms) :
    Calls Try.prog 15 #[.slice a n c, .slice a2 n c2] w fun e w' => e = .returned (.bool true) ∧ Below w.heap.size w w' := by
  have hnH := Lib.hid hn
  have hplH := Lib.hid hpl
  clear hn hpl
  go_enter Try.func15, Try.ntmps15
  go_wp2
  go_loopw [5] (fun i wr => ∃ k : Nat, k ≤ n ∧ i = .int .i64 (k : Int) ∧ Below w.heap.size w wr) (fun i _ => n - (intOf i).toNat)
  case atStart => exact ⟨0, Nat.zero_le _, rfl, Below.refl _ _⟩
  case round =>
    obtain ⟨k, hk, rfl, hB⟩ := hrel
    by_cases hlt : k < n
    case neg =>
      go_wp2_with fail
      go_ret
      exact ⟨rfl, hB⟩
    case pos =>
      have hlt' : k < ms.length := by have := hnH.out; omega
      obtain ⟨b, o, rfl, hbl, pa, pc, p0, p1, p2, rA, _⟩ := hr.at hlt'
      obtain ⟨b2, o2, rfl, hbl2, qa, qc, q0, q1, q2, rQ, _⟩ := hr2.at hlt'
      have c0 := (hB.cell (p := ⟨b, o + k * 3, none⟩) hbl).trans p0
      have c1 := (hB.cell (p := ⟨b, o + k * 3 + 1, none⟩) hbl).trans p1
      have c2 := (hB.cell (p := ⟨b, o + k * 3 + 2, none⟩) hbl).trans p2
      have e0 := (hB.cell (p := ⟨b2, o2 + k * 3, none⟩) hbl2).trans q0
      have e1 := (hB.cell (p := ⟨b2, o2 + k * 3 + 1, none⟩) hbl2).trans q1
      have e2 := (hB.cell (p := ⟨b2, o2 + k * 3 + 2, none⟩) hbl2).trans q2
      replace rA := later_i rA hB
      replace rQ := later_i rQ hB
      have hb1 : b < wr.heap.size := by have := hB.size; omega
      have hb2 : b2 < wr.heap.size := by have := hB.size; omega
      have hpk := hplH.out k
      obtain ⟨⟨mw, mh, mx⟩, hM⟩ : ∃ M, picAt ms k = M := ⟨_, rfl⟩
      rw [hM] at c0 c1 c2 e0 e1 e2 rA rQ hpk
      simp only at c0 c1 c2 e0 e1 e2 rA rQ hpk
      obtain ⟨xl, hl⟩ : ∃ l, mx.length = l := ⟨_, rfl⟩
      rw [hl] at c2 e2 hpk
      have hxlH := Lib.hid hl
      clear p0 p1 p2 q0 q1 q2 hM hl
      have hS : Below wr.heap.size wr wr.drew := (Below.refl _ _).drew
      go_wp2_with fail
      refine plain_region (fun W' => Below wr.heap.size wr W') 10 10 (by kernel_rfl) rfl ?_
      simp only [Array.replicate_succ, Array.replicate_zero, List.push_toArray, List.nil_append, List.cons_append]
      obtain ⟨X0, hXX0⟩ : ∃ X : World, wr.drew = X := ⟨_, rfl⟩
      rw [hXX0] at hS ⊢
      clear hXX0
      refine take_op 0 (v := ?rv0) rfl (by kernel_rfl) (fun _ _ _ h => h) (by rfl) hS (fun w' hS' => ?ry0) ?rz0
      case ry0 =>
        go_simp
        rfl
      simp only [List.setIfInBounds_toArray, List.set_cons_zero, List.set_cons_succ]
      refine take_op 1 (v := ?rv1) rfl (by kernel_rfl) (fun _ _ _ h => h) (by rfl) hS (fun w' hS' => ?ry1) ?rz1
      case ry1 =>
        go_simp
        rfl
      simp only [List.setIfInBounds_toArray, List.set_cons_zero, List.set_cons_succ]
      refine take_op 2 (v := ?rv2) rfl (by kernel_rfl) (fun _ _ _ h => h) (by rfl) hS (fun w' hS' => ?ry2) ?rz2
      case ry2 =>
        go_simp
        try go_ints
        first
        | rfl
        | (rw [if_pos (by omega)]; done)
        | rw [if_pos ⟨by omega, by omega⟩]
      simp only [List.setIfInBounds_toArray, List.set_cons_zero, List.set_cons_succ]
      refine take_op 3 (v := ?rv3) rfl (by kernel_rfl) (fun _ _ _ h => h) (by rfl) hS (fun w' hS' => ?ry3) ?rz3
      case ry3 =>
        have d0 := (hS'.cell (p := ⟨b, o + k * 3, none⟩) hb1).trans c0
        have g0 := (hS'.cell (p := ⟨b2, o2 + k * 3, none⟩) hb2).trans e0
        have d1 := (hS'.cell (p := ⟨b, o + k * 3 + 1, none⟩) hb1).trans c1
        have g1 := (hS'.cell (p := ⟨b2, o2 + k * 3 + 1, none⟩) hb2).trans e1
        have d2 := (hS'.cell (p := ⟨b, o + k * 3 + 2, none⟩) hb1).trans c2
        have g2 := (hS'.cell (p := ⟨b2, o2 + k * 3 + 2, none⟩) hb2).trans e2
        clear hS'
        go_simp
        rfl
      simp only [List.setIfInBounds_toArray, List.set_cons_zero, List.set_cons_succ]
      refine take_op 4 (v := ?rv4) rfl (by kernel_rfl) (fun _ _ _ h => h) (by rfl) hS (fun w' hS' => ?ry4) ?rz4
      case ry4 =>
        go_simp
        rfl
      simp only [List.setIfInBounds_toArray, List.set_cons_zero, List.set_cons_succ]
      refine take_op 5 (v := ?rv5) rfl (by kernel_rfl) (fun _ _ _ h => h) (by rfl) hS (fun w' hS' => ?ry5) ?rz5
      case ry5 =>
        go_simp
        rfl
      simp only [List.setIfInBounds_toArray, List.set_cons_zero, List.set_cons_succ]
      refine take_op 6 (v := ?rv6) rfl (by kernel_rfl) (fun _ _ _ h => h) (by rfl) hS (fun w' hS' => ?ry6) ?rz6
      case ry6 =>
        go_simp
        try go_ints
        first
        | rfl
        | (rw [if_pos (by omega)]; done)
        | rw [if_pos ⟨by omega, by omega⟩]
      simp only [List.setIfInBounds_toArray, List.set_cons_zero, List.set_cons_succ]
      refine take_op 7 (v := ?rv7) rfl (by kernel_rfl) (fun _ _ _ h => h) (by rfl) hS (fun w' hS' => ?ry7) ?rz7
      case ry7 =>
        have d0 := (hS'.cell (p := ⟨b, o + k * 3, none⟩) hb1).trans c0
        have g0 := (hS'.cell (p := ⟨b2, o2 + k * 3, none⟩) hb2).trans e0
        have d1 := (hS'.cell (p := ⟨b, o + k * 3 + 1, none⟩) hb1).trans c1
        have g1 := (hS'.cell (p := ⟨b2, o2 + k * 3 + 1, none⟩) hb2).trans e1
        have d2 := (hS'.cell (p := ⟨b, o + k * 3 + 2, none⟩) hb1).trans c2
        have g2 := (hS'.cell (p := ⟨b2, o2 + k * 3 + 2, none⟩) hb2).trans e2
        clear hS'
        go_simp
        rfl
      simp only [List.setIfInBounds_toArray, List.set_cons_zero, List.set_cons_succ]
      refine step_op 8 (by kernel_rfl) rfl (fun K hK => ?_)
      rw [if_pos (by rfl)]
      go_simp
      refine (Same_eq mw mh pa qa pc qc xl mx hxlH X0 hpk (later_i rA hS) (later_i rQ hS)).mono ?_
      rintro e X1 ⟨rfl, hb⟩
      have hS1 : Below wr.heap.size wr X1 := hS.trans (hb.mono hS.size)
      clear hb
      refine hK.out _ _ (fun h => hS1) ?_
      clear hK K
      try simp only [Act.put, List.setIfInBounds_toArray, List.set_cons_zero, List.set_cons_succ]
      refine take_op 9 (v := ?rv9) rfl (by kernel_rfl) (fun _ _ _ h => h) (by rfl) hS1 (fun w' hS' => ?ry9) ?rz9
      case ry9 =>
        go_simp
        try go_ints
        rfl
      simp only [List.setIfInBounds_toArray, List.set_cons_zero, List.set_cons_succ]
      refine done_ops (by kernel_rfl) ?_
      have hBf := hB.trans (hS1.mono hB.size)
      clear hS hS1
      go_wp2_with fail
      go_roundw
      case rel => exact ⟨k + 1, by omega, by go_num, hBf⟩
      case measure => simp [intOf]; omega

end Go.Proofs.Ytekiemlniegddaa

/- PipeUnused returns true for every pipe, machine and two lists of images. -/
import Derived.Test.YtekiemlniegddaaGreatUW18
namespace Go.Proofs.YtekiemlniegddaaGreat
open Go Go.Maps Go.RowKit Go.Shelf
set_option linter.unusedVariables false
set_option linter.unusedSimpArgs false
theorem cmpE_zero {P : PipeN} {v : VecN} (h : cmpE P v = 0) : pipeB P = true ∧ vecB v = true ∧ roomP P ≤ v.mem ∧ cmpR P v = cmpC P v := by
 have h0 := h
 unfold cmpE at h
 by_cases h1 : pipeB P = true
 ·rw [if_pos h1] at h
  by_cases h2 : vecB v = true
  ·rw [if_pos h2] at h
   by_cases h3 : v.mem < roomP P
   ·rw [if_pos h3] at h; omega
   ·exact ⟨h1, h2, by omega, by unfold cmpR; rw [if_pos h0]⟩
  ·rw [if_neg h2] at h; omega
 ·rw [if_neg h1] at h; omega
theorem ran_mean {P : PipeN} {v : VecN} (h : cmpE P v = 0) {ms : List PicN} (hg : givenB ms P.inp P.w P.h = true) : runS v (cmpR P v) ms = meanS P ms := by
 obtain ⟨h1, h2, h3, h4⟩ := cmpE_zero h
 rw [h4]
 exact cmp_mean h1 h2 h3 hg
theorem ran_chk {P : PipeN} {v : VecN} (h : cmpE P v = 0) : chkS v (cmpR P v) = 0 ∧ (((cmpR P v).ins.length : Nat) : Int) = lenP P v.lanes := by
 obtain ⟨h1, h2, h3, h4⟩ := cmpE_zero h
 rw [h4]
 exact cmp_valid h1 h2 h3
theorem mean_form {P : PipeN} {ms : List PicN} (hP : pipeB P = true) (hg : givenB ms P.inp P.w P.h = true) : ∃ W H px, meanS P ms = ⟨W, H, px, 0⟩ := by
 unfold meanS
 rw [if_pos hP, if_pos hg]
 exact ⟨_, _, _, rfl⟩
def usesB (s : StepN) (m : Int) : Bool := decide (s.a = m) || (decide (s.op = 2) && decide (s.b = m))
theorem usesB_of {s : StepN} {m : Int} (h : m ∈ opsN s) : usesB s m = true := by
 unfold usesB
 unfold opsN at h
 split at h <;> simp_all <;> omega
def usdB (ss : List StepN) (m : Int) : Nat → Bool
 | 0 => false
 | k + 1 => usdB ss m k || usesB (stAt ss k) m
theorem usdB_of {ss : List StepN} {m : Int} {i : Nat} (h : m ∈ opsN (stAt ss i)) : ∀ {k : Nat}, i < k → usdB ss m k = true
 | 0, hk => absurd hk (Nat.not_lt_zero _)
 | k + 1, hk => by
  rw [usdB]
  by_cases e : i = k
  ·subst e; rw [usesB_of h, Bool.or_true]
  ·rw [usdB_of h (show i < k by omega), Bool.true_or]
def mixN (ss : List StepN) (ks ls : List PicN) : Nat → List PicN
 | 0 => ls
 | n + 1 => if usdB ss (n : Int) ss.length = true then (mixN ss ks ls n).set n (picAt ks n) else mixN ss ks ls n
theorem mixN_len (ss : List StepN) (ks ls : List PicN) : ∀ n, (mixN ss ks ls n).length = ls.length
 | 0 => rfl
 | n + 1 => by
  rw [mixN]
  split
  ·rw [List.length_set, mixN_len ss ks ls n]
  ·exact mixN_len ss ks ls n
theorem picAt_set {l : List PicN} {n : Nat} {x : PicN} (h : n < l.length) (i : Nat) : picAt (l.set n x) i = if i = n then x else picAt l i := by
 unfold picAt
 rw [List.getElem?_set]
 by_cases e : n = i
 ·subst e; rw [if_pos rfl, if_pos rfl, if_pos h]; rfl
 ·rw [if_neg e, if_neg (fun h => e h.symm)]
theorem mixN_at (ss : List StepN) (ks ls : List PicN) (i : Nat) : ∀ n, n ≤ ls.length → picAt (mixN ss ks ls n) i = if i < n ∧ usdB ss (i : Int) ss.length = true then picAt ks i else picAt ls i
 | 0, _ => by rw [mixN, if_neg (by omega)]
 | n + 1, hn => by
  have ih := mixN_at ss ks ls i n (by omega)
  have hl := mixN_len ss ks ls n
  rw [mixN]
  by_cases hu : usdB ss (n : Int) ss.length = true
  ·rw [if_pos hu, picAt_set (by omega)]
   by_cases e : i = n
   ·subst e; rw [if_pos rfl, if_pos ⟨by omega, hu⟩]
   ·rw [if_neg e, ih]; simp only [show i < n + 1 ↔ i < n by omega]
  ·rw [if_neg hu, ih]
   by_cases e : i = n
   ·subst e; simp [hu]
   ·simp only [show i < n + 1 ↔ i < n by omega]
theorem appS_congr {s : StepN} {ms ns : List PicN} (ha : picAt ms s.a.toNat = picAt ns s.a.toNat) (hb : s.op = 2 → picAt ms s.b.toNat = picAt ns s.b.toNat) : appS s ms = appS s ns := by
 unfold appS
 rw [ha]
 by_cases h1 : s.op = 1
 ·rw [if_pos h1, if_pos h1]
 rw [if_neg h1, if_neg h1]
 by_cases h2 : s.op = 2
 ·rw [if_pos h2, if_pos h2, hb h2]
 rw [if_neg h2, if_neg h2]
theorem opsN_b {s : StepN} (h : s.op = 2) : s.b ∈ opsN s := by
 rcases opsN_cases s with ⟨e, h2⟩ | ⟨e, _, _⟩
 ·by_cases hab : s.a = s.b
  ·rw [e, hab]; simp
  ·exact absurd ⟨h, hab⟩ h2
 ·rw [e]; simp
theorem after_agree {I : Int} {ss : List StepN} (hr : RefOk I ss) (hI : 0 ≤ I) {ms ns : List PicN} (h1 : ms.length = I.toNat) (h2 : ns.length = I.toNat) (hu : ∀ i : Nat, i < I.toNat → usdB ss (i : Int) ss.length = true → picAt ms i = picAt ns i) :
  ∀ k, k ≤ ss.length → ∀ i : Nat, (i < I.toNat → usdB ss (i : Int) ss.length = true) → i < I.toNat + k → picAt (afterN ss ms k) i = picAt (afterN ss ns k) i
 | 0, _, i, h, hi => hu i (by omega) (h (by omega))
 | k + 1, hk, i, h, hi => by
  have ih := after_agree hr hI h1 h2 hu k (by omega)
  have l1 := afterN_length ss ms k
  have l2 := afterN_length ss ns k
  rw [afterN, afterN, picAt_snoc, picAt_snoc]
  by_cases e : i < I.toNat + k
  ·rw [if_pos (by omega), if_pos (by omega)]; exact ih i h e
  ·rw [if_neg (by omega), if_pos (by omega), if_neg (by omega), if_pos (by omega)]
   have key : ∀ m ∈ opsN (stAt ss k), picAt (afterN ss ms k) m.toNat = picAt (afterN ss ns k) m.toNat := fun m hm => by
    have hb := hr k (by omega) m hm
    refine ih m.toNat (fun _ => ?_) (by omega)
    rw [Int.toNat_of_nonneg hb.1]
    exact usdB_of hm (by omega)
   rw [appS_congr (key _ (opsN_a _)) (fun h => key _ (opsN_b h))]
theorem unused_mean {P : PipeN} (hP : pipeB P = true) {ks ls : List PicN} (hk : givenB ks P.inp P.w P.h = true) (hl : givenB ls P.inp P.w P.h = true) :
  givenB (mixN P.ss ks ls P.inp.toNat) P.inp P.w P.h = true ∧ meanS P (mixN P.ss ks ls P.inp.toNat) = meanS P ks := by
 obtain ⟨_, _, hi, hn, _⟩ := pipeB_true hP
 have lk := givenB_len hk
 have ll := givenB_len hl
 have lm := mixN_len P.ss ks ls P.inp.toNat
 have hat := fun i => mixN_at P.ss ks ls i P.inp.toNat (by omega)
 have hg : givenB (mixN P.ss ks ls P.inp.toNat) P.inp P.w P.h = true := by
  unfold givenB at hk hl ⊢
  rw [Bool.and_eq_true, List.all_eq_true] at hk hl ⊢
  refine ⟨by rw [lm]; exact hl.1, fun x hx => ?_⟩
  obtain ⟨i, hi2, rfl⟩ := List.mem_iff_getElem.1 hx
  have e : (mixN P.ss ks ls P.inp.toNat)[i] = picAt (mixN P.ss ks ls P.inp.toNat) i := by unfold picAt; rw [List.getElem?_eq_getElem hi2]; rfl
  rw [e, hat]
  split
  ·have e2 : picAt ks i = ks[i]'(by omega) := by unfold picAt; rw [List.getElem?_eq_getElem (by omega)]; rfl
   rw [e2]; exact hk.2 _ (List.getElem_mem _)
  ·have e2 : picAt ls i = ls[i]'(by omega) := by unfold picAt; rw [List.getElem?_eq_getElem (by omega)]; rfl
   rw [e2]; exact hl.2 _ (List.getElem_mem _)
 refine ⟨hg, ?_⟩
 have hm : meanN P (mixN P.ss ks ls P.inp.toNat) = meanN P ks := by
  unfold meanN
  rw [lm, show ls.length = ks.length by omega]
  exact after_agree (refOk_of hP) (by omega) (by omega) (by omega) (fun i h1 h2 => by rw [hat, if_pos ⟨h1, h2⟩]) _ (Nat.le_refl _) _ (fun h => by omega) (by omega)
 unfold meanS
 rw [if_pos hP, if_pos hP, if_pos hg, if_pos hk, hm]
theorem flatC_set : ∀ (l : List PicA) (n : Nat) (x : PicA), n < l.length → flatC (l.set n x) = (((flatC l).set (n * 3) (.int .i64 x.p.w)).set (n * 3 + 1) (.int .i64 x.p.h)).set (n * 3 + 2) (.slice x.a x.p.px.length x.c)
 | [], n, x, h => by simp at h
 | y :: l, 0, x, _ => by simp [flatC, picCells]
 | y :: l, n + 1, x, h => by
  have ih := flatC_set l n x (by simpa using h)
  rw [List.set_cons_succ]
  show picCells y ++ flatC (l.set n x) = _
  rw [ih]
  show _ = ((((picCells y ++ flatC l).set ((n + 1) * 3) _).set ((n + 1) * 3 + 1) _).set ((n + 1) * 3 + 2) _)
  have hl : (picCells y).length = 3 := rfl
  rw [List.set_append_right _ _ (by omega), List.set_append_right _ _ (by omega), List.set_append_right _ _ (by omega), hl]
  rw [show (n + 1) * 3 - 3 = n * 3 by omega, show (n + 1) * 3 + 1 - 3 = n * 3 + 1 by omega, show (n + 1) * 3 + 2 - 3 = n * 3 + 2 by omega]
theorem OwnA.put {B : Nat} {W : World} {g q cap n : Nat} {l : List PicA} {x : PicA} (h : OwnA B W (.slice (some ⟨g, 0, none⟩) q cap) l) (hq : l.length = q) (hn : n < q) (hx : Rd W.heap.size W x.a x.p.px) (hxc : x.a = none → x.c = 0) (hx2 : x.p.px = [] ∨ ∀ ad, x.a = some ad → some g ≠ some ad.block) :
  OwnA B (((W.setCell ⟨g, n * 3, none⟩ (.int .i64 x.p.w)).setCell ⟨g, n * 3 + 1, none⟩ (.int .i64 x.p.h)).setCell ⟨g, n * 3 + 2, none⟩ (.slice x.a x.p.px.length x.c)) (.slice (some ⟨g, 0, none⟩) q cap) (l.set n x) ∧
   W.grownBy (((W.setCell ⟨g, n * 3, none⟩ (.int .i64 x.p.w)).setCell ⟨g, n * 3 + 1, none⟩ (.int .i64 x.p.h)).setCell ⟨g, n * 3 + 2, none⟩ (.slice x.a x.p.px.length x.c)) (some g) := by
 have hr := h.row
 rw [hq] at hr
 have s1 := hr.stored (n * 3) (.int .i64 x.p.w)
 have s2 := s1.1.stored (n * 3 + 1) (.int .i64 x.p.h)
 have s3 := s2.1.stored (n * 3 + 2) (.slice x.a x.p.px.length x.c)
 have hg := (s1.2.trans s2.2).trans s3.2
 refine ⟨⟨?_, fun y hy => ?_⟩, hg⟩
 ·rw [List.length_set, hq, flatC_set l n x (by omega)]
  exact s3.1
 ·have key : ∀ a c xs, RdX (Value.ownBlock (.slice (some ⟨g, 0, none⟩) q cap)) W a c xs → RdX (Value.ownBlock (.slice (some ⟨g, 0, none⟩) q cap)) (((W.setCell ⟨g, n * 3, none⟩ (.int .i64 x.p.w)).setCell ⟨g, n * 3 + 1, none⟩ (.int .i64 x.p.h)).setCell ⟨g, n * 3 + 2, none⟩ (.slice x.a x.p.px.length x.c)) a c xs := fun a c xs h => ⟨Rd.rowed h.1 h.2.2 hg, h.2.1, h.2.2⟩
  rcases List.mem_or_eq_of_mem_set hy with hy | rfl
  ·exact key _ _ _ (h.rd y hy)
  ·exact key _ _ _ ⟨hx, hxc, hx2⟩
set_option maxRecDepth 100000 in
set_option maxHeartbeats 8000000 in
theorem law_unused (Q : PipeN) (a : Option Addr) (n c : Nat) (hn : Q.ss.length = n) (hQ : PipeIn Q) (v : VecN) (ks : List PicN) (ka : Option Addr) (qk kc : Nat) (hmk : ks.length = qk) (jy : qk ≤ 9223372036854775807) (jt : ∀ i, (picAt ks i).px.length ≤ 9223372036854775807) (ms : List PicN) (la : Option Addr) (q lc : Nat) (hm : ms.length = q) (hmm : q ≤ 9223372036854775807) (hpl : ∀ i, (picAt ms i).px.length ≤ 9223372036854775807) (w : World) (hr : RdSs w.heap.size w a Q.ss) (hrk : RdPs w.heap.size w ka ks) (hrl : RdPs w.heap.size w la ms) :
  Calls Tryz.prog 8 #[pipev Q a n c, vecv v, .slice ka qk kc, .slice la q lc] w fun e w' => e = .returned (.bool true) ∧ Below w.heap.size w w' := by
 have hB : Below w.heap.size w w := Below.refl _ _
 obtain ⟨pb, hpb⟩ : ∃ q, pipeB Q = q := ⟨_, rfl⟩
 have hvl := fun W h => PValid_any Q a n c hn hQ pb hpb W h
 unfold pipev at hvl
 have yq := Lib.hid hvl
 have ju := Lib.hid hpb
 clear hvl hpb
 obtain ⟨gbk, hgb⟩ : ∃ q, givenB ks Q.inp Q.w Q.h = q := ⟨_, rfl⟩
 have hgv := fun W h => given3_any Q a n c ks ka kc qk hmk jy (fun i _ => jt i) gbk hgb W h
 unfold pipev at hgv
 have jz := Lib.hid hgv
 have jh := Lib.hid hgb
 clear hgv hgb
 obtain ⟨gb, hgb⟩ : ∃ q, givenB ms Q.inp Q.w Q.h = q := ⟨_, rfl⟩
 have hgv := fun W h => given3_any Q a n c ms la lc q hm hmm (fun i _ => hpl i) gb hgb W h
 unfold pipev at hgv
 have yr := Lib.hid hgv
 have ya := Lib.hid hgb
 clear hgv hgb
 have hcp := fun W h => Compile_any Q hQ v a n c hn W h
 have hci := cmpR_in Q v
 obtain ⟨E1, hE⟩ : ∃ E, cmpE Q v = E := ⟨_, rfl⟩
 obtain ⟨C1, hC⟩ : ∃ R, cmpR Q v = R := ⟨_, rfl⟩
 rw [hE, hC] at hcp
 rw [hC] at hci
 unfold RetCo codev at hcp
 unfold pipev vecv at hcp
 have yb := Lib.hid hcp
 have yc := Lib.hid hci
 have yd := Lib.hid hE
 have ye := Lib.hid hC
 clear hcp hci hE hC
 have hrx := fun (X : List PicN) (xa' : Option Addr) (xq xcap : Nat) (e1 : X.length = xq) (e2 : xq ≤ 9223372036854775807) (e3 : ∀ i, (picAt X i).px.length ≤ 9223372036854775807) W ia ic xa xc h1 h2 h3 => Run_any v C1 ia xa ic xc yc.out X xa' xq xcap e1 e2 e3 W h1 h2 h3
 unfold vecv codev at hrx
 have jv := Lib.hid hrx
 have hmH := Lib.hid hm
 have jn := Lib.hid hmk
 have ys := Lib.hid hpl
 have jp := Lib.hid jt
 have hQH := Lib.hid hQ
 have hnH := Lib.hid hn
 clear hrx hQ hn hm hpl hmk jt
 unfold pipev vecv
 obtain ⟨V1, yt, yf, kp⟩ := newB w 24 #[.int .i64 Q.w, .int .i64 Q.h, .int .i64 Q.inp, .slice a n c]
 replace hB := tmB hB yf
 clear yf
 obtain ⟨p0, p1, p2, p3⟩ := cz4 kp
 obtain ⟨V2, yu, jw, kv⟩ := newB V1 26 #[.int .i64 v.lanes, .int .i64 v.regs, .int .i64 v.mem]
 clear p0 p1 p2 p3
 replace kp := kp.below jw kp.lt
 replace hB := tmB hB jw
 clear jw
 obtain ⟨p0, p1, p2, p3⟩ := cz4 kp
 obtain ⟨v0, v1, v2⟩ := cz3 kv
 go_enter Tryz.func8, Tryz.ntmps8
 go_wp2_with fail
 clear yt yu
 refine (alive3_any V2).mono ?_
 rintro e V3 ⟨rfl, hb⟩
 clear p0 p1 p2 p3 v0 v1 v2
 replace kp := kp.below hb kp.lt
 replace kv := kv.below hb kv.lt
 replace hB := tmB hB hb
 clear hb
 obtain ⟨p0, p1, p2, p3⟩ := cz4 kp
 obtain ⟨v0, v1, v2⟩ := cz3 kv
 go_wp2_with fail
 refine (yq.out V3 (hr.later hB)).mono ?_
 rintro e V4 ⟨rfl, hb⟩
 clear p0 p1 p2 p3 v0 v1 v2
 replace kp := kp.below hb kp.lt
 replace kv := kv.below hb kv.lt
 replace hB := tmB hB hb
 clear hb
 obtain ⟨p0, p1, p2, p3⟩ := cz4 kp
 obtain ⟨v0, v1, v2⟩ := cz3 kv
 cases pb with
 | false =>
  go_wp2_with fail
  go_ret
  exact ⟨rfl, hB⟩
 | true =>
 go_wp2_with fail
 refine (jz.out V4 (hrk.bm hB)).mono ?_
 rintro e V5 ⟨rfl, hb⟩
 clear p0 p1 p2 p3 v0 v1 v2
 replace kp := kp.below hb kp.lt
 replace kv := kv.below hb kv.lt
 replace hB := tmB hB hb
 clear hb
 obtain ⟨p0, p1, p2, p3⟩ := cz4 kp
 obtain ⟨v0, v1, v2⟩ := cz3 kv
 cases gbk with
 | false =>
  go_wp2_with fail
  go_ret
  exact ⟨rfl, hB⟩
 | true =>
 go_wp2_with fail
 refine (yr.out V5 (hrl.bm hB)).mono ?_
 rintro e V6 ⟨rfl, hb⟩
 clear p0 p1 p2 p3 v0 v1 v2
 replace kp := kp.below hb kp.lt
 replace kv := kv.below hb kv.lt
 replace hB := tmB hB hb
 clear hb
 obtain ⟨p0, p1, p2, p3⟩ := cz4 kp
 obtain ⟨v0, v1, v2⟩ := cz3 kv
 cases gb with
 | false =>
  go_wp2_with fail
  go_ret
  exact ⟨rfl, hB⟩
 | true =>
 obtain ⟨_, _, hI, yv, _⟩ := pipeB_true ju.out
 rw [hnH.out] at yv
 have hq : (q : Int) = Q.inp := by have := givenB_len ya.out; rw [hmH.out] at this; exact this
 have hqk : (qk : Int) = Q.inp := by have := givenB_len jh.out; rw [jn.out] at this; exact this
 have hq1 : 1 ≤ q := by omega
 have hq3 : q ≤ 3 := by omega
 have hqH := Lib.hid hq
 have yw := Lib.hid hqk
 clear hq hqk
 obtain ⟨i0, gi, gz0, gz1, gz2⟩ := info_parts info_pic
 obtain ⟨l, hl1, hl2, hl3⟩ := hrl.pics
 have hll : l.length = q := by rw [← hmH.out, ← hl1, List.length_map]
 have own1 := World.ownsRow_made (e := 32) (size := 3) (base := V6.heap.size) V6 #[] 0 (Nat.le_refl _) (by decide) rfl
 obtain ⟨VE, jx⟩ : ∃ X, V6.alloc (.cells #[] 32) = X := ⟨_, rfl⟩
 have hbE : Below V6.heap.size V6 VE := alloc_below jx
 rw [jx] at own1
 have jq : NewsAt VE la q (flatC l) := by
  rcases hl2 with h | ⟨b, o, h1, h2, h3⟩
  ·exfalso; have := hmH.out; rw [h] at this; simp at this; omega
  ·rw [h1]; exact pics_news (fun j u hu => ((hB.trans (hbE.mono hB.size)).cell (p := ⟨b, o + j, none⟩) h2).trans (h3 j u hu)) q
 have jk := Lib.hid jq
 have own1H := Lib.hid own1
 have jr := Lib.hid (show (flatC l).length = q * 3 by rw [flatC_length, hll])
 have yg := Lib.hid hl1
 have yh := Lib.hid hll
 have yi := Lib.hid hl3
 obtain ⟨B0, jg⟩ : ∃ b, V6.heap.size = b := ⟨_, rfl⟩
 have hB0H := Lib.hid jg
 have hVE : B0 ≤ VE.heap.size := by rw [← jg]; exact hbE.size
 rw [jg] at own1H
 have hpB : w.heap.size < B0 := jg ▸ kp.lt
 have hvB : V1.heap.size < B0 := jg ▸ kv.lt
 clear jq own1 hl1 hl2 hl3 hll
 go_wp2_with (at_builtin; refine wpList_append_anyS rfl _ _ 58 rfl B0 32 i0 (.agg #[.int .i64 0, .int .i64 0, .slice none 0 0]) 3 40 Tryz.underlying58 gi gz0 gz1 gz2 rfl (by decide) (.slice (some ⟨B0, 0, none⟩) 0 0) 0 [] rfl own1H.out la q lc (flatC l) rfl jr.out jk.out (flatC_one l) (by unfold maxLen; omega) (by omega) hVE ?_; intro v2 W2 own2 hg2 yj)
 rw [Nat.zero_add, List.nil_append] at own2
 rw [← jg] at hg2
 have hb : Below V6.heap.size V6 W2 := hbE.trans ((Below.refl _ VE).grown hg2 hbE.size (fun k e => by have := (own1H.out.lt k (by rw [← jg]; exact e)).1; omega))
 rw [jg] at hg2
 have yx : w.heap.size ≤ B0 := by rw [← jg]; exact hB.size
 have jc : OwnA B0 W2 v2 l := by
  refine ⟨by rw [yh.out]; exact own2, fun x hx => ?_⟩
  obtain ⟨f1, f2⟩ := yi.out x hx
  have hBw := hB.size
  have hk : ∀ q, (∃ p, q = some p ∧ w.heap.size ≤ p) → x.p.px = [] ∨ ∀ ad, x.a = some ad → q ≠ some ad.block := by
   rintro q ⟨p, rfl, hp⟩
   rcases f1 with hn | ⟨b, o, h1, h2, _⟩
   ·exact .inl hn
   ·right; intro ad had he
    rw [h1] at had; cases had
    simp at he; omega
  refine ⟨(f1.below (Nat.le_refl _) (hB.trans (hb.mono hB.size))).mono (by have := hb.size; omega), f2, hk _ ?_⟩
  rcases yj with e | e
  ·exact ⟨_, e, yx⟩
  ·exact ⟨_, e, by have := (own1H.out.lt _ rfl).1; omega⟩
 obtain ⟨va, cap, rfl⟩ := row_slice own2
 obtain ⟨g, rfl⟩ := row_someP own2 (by omega)
 have hgB : B0 ≤ g := (own2.lt g rfl).1
 clear own2 hg2 yj own1H jk jr yi jx hbE hVE
 clear p0 p1 p2 p3 v0 v1 v2
 replace kp := kp.below hb kp.lt
 replace kv := kv.below hb kv.lt
 replace hB := tmB hB hb
 clear hb jg
 have jo : B0 ≤ W2.heap.size := by
  have h1 := jc.row.lt g rfl
  omega
 have jd := Lib.hid (show ∃ l : List PicA, OwnA B0 W2 (.slice (some ⟨g, 0, none⟩) q cap) l ∧ l.map PicA.p = mixN Q.ss ks ms 0 from ⟨l, jc, yg.out⟩)
 clear jc yg yh
 go_loopw [11] (fun i wr => ∃ k : Nat, k ≤ q ∧ i = .int .i64 (k : Int) ∧ Hid (∃ l : List PicA, OwnA B0 wr (.slice (some ⟨g, 0, none⟩) q cap) l ∧ l.map PicA.p = mixN Q.ss ks ms k) ∧ B0 ≤ wr.heap.size ∧ Below w.heap.size w wr ∧ Blk wr w.heap.size 24 #[.int .i64 Q.w, .int .i64 Q.h, .int .i64 Q.inp, .slice a n c] ∧ Blk wr V1.heap.size 26 #[.int .i64 v.lanes, .int .i64 v.regs, .int .i64 v.mem]) (fun i _ => q - (intOf i).toNat)
 case atStart => exact ⟨0, Nat.zero_le _, rfl, jd, jo, hB, kp, kv⟩
 case round =>
  clear jd jo hB kp kv
  obtain ⟨k, hk, rfl, hH, jo, hB, kp, kv⟩ := hrel
  obtain ⟨l, jc, hlm⟩ := hH.out
  clear hH
  have hll : l.length = q := by rw [← hmH.out, ← mixN_len Q.ss ks ms k, ← hlm, List.length_map]
  by_cases hlt : k < q
  case neg =>
   have hkn : q = k := by omega
   subst hkn
   obtain ⟨p0, p1, p2, p3⟩ := cz4 kp
   obtain ⟨v0, v1, v2⟩ := cz3 kv
   have jl : ¬ ((q : Int) < Q.inp) := by have := hqH.out; omega
   have jm : decide ((q : Int) < Q.inp) = false := decide_eq_false jl
   obtain ⟨X, hX⟩ : ∃ X, mixN Q.ss ks ms q = X := ⟨_, rfl⟩
   have hXe : mixN Q.ss ks ms Q.inp.toNat = X := by rw [← hX]; congr 1; have := hqH.out; omega
   have hXl : X.length = q := by rw [← hX, mixN_len]; exact hmH.out
   have hXp : ∀ i, (picAt X i).px.length ≤ 9223372036854775807 := by
    intro i
    rw [← hX, mixN_at Q.ss ks ms i q (by rw [hmH.out]; omega)]
    split
    ·exact jp.out i
    ·exact ys.out i
   obtain ⟨hXg, hXm⟩ := unused_mean ju.out jh.out ya.out
   rw [hXe] at hXg hXm
   have hpr : RdPs wr.heap.size wr (some ⟨g, 0, none⟩) X := by
    obtain ⟨a', c', e1, e2⟩ := jc.ps.slice
    simp only [Value.slice.injEq] at e1
    obtain ⟨rfl, _, rfl⟩ := e1
    rw [hlm, hX] at e2; exact e2
   have hrx := jv.out X (some ⟨g, 0, none⟩) q cap hXl (by omega) hXp
   have yk := Lib.hid (jv.out ks ka qk kc jn.out jy jp.out)
   have yy := Lib.hid hXg
   have yz := Lib.hid hXm
   have js := Lib.hid hrx
   clear hX hXe hXl hXp hXg hXm hrx jc hlm hll hlt jv
   go_wp2_with fail
   clear jl jm
   refine (yb.out wr (hr.later hB)).mono ?_
   rintro e V21 ⟨i1, j1, x1a, x1c, rfl, ri1, rx1, hb⟩
   clear p0 p1 p2 p3 v0 v1 v2
   replace kp := kp.below hb kp.lt
   replace kv := kv.below hb kv.lt
   replace hpr := hpr.bm hb
   replace hB := tmB hB hb
   clear hb
   obtain ⟨p0, p1, p2, p3⟩ := cz4 kp
   obtain ⟨v0, v1, v2⟩ := cz3 kv
   obtain ⟨V22, yl, je, kc1⟩ := newB V21 43 #[.int .i64 C1.w, .int .i64 C1.h, .slice i1 C1.inp.length j1, .int .i64 C1.out, .slice x1a C1.ins.length x1c]
   clear p0 p1 p2 p3 v0 v1 v2
   replace kp := kp.below je kp.lt
   replace kv := kv.below je kv.lt
   replace hpr := hpr.bm je
   replace ri1 := later_i ri1 je
   replace rx1 := (rx1.below (Nat.le_refl _) je).mono je.size
   replace hB := tmB hB je
   clear je
   obtain ⟨p0, p1, p2, p3⟩ := cz4 kp
   obtain ⟨v0, v1, v2⟩ := cz3 kv
   obtain ⟨c1z0, c1z1, c1z2, c1z3, c1z4⟩ := cz5 kc1
   by_cases hz1 : E1 = 0
   case neg =>
    have hz1b : (E1 != 0) = true := by simp [hz1]
    clear hz1
    go_wp2_with fail
    go_ret
    exact ⟨rfl, hB⟩
   case pos =>
   subst hz1
   obtain ⟨MW, MH, MP, hM⟩ := mean_form ju.out jh.out
   have hr1 := ran_mean yd.out jh.out
   have hr2 := ran_mean yd.out yy.out
   rw [ye.out, hM] at hr1
   rw [ye.out, yz.out, hM] at hr2
   have g1 := yk.out
   have g2 := js.out
   rw [hr1] at g1
   rw [hr2] at g2
   have g1H := Lib.hid g1
   have g2H := Lib.hid g2
   clear g1 g2 hr1 hr2 hM yk js
   go_wp2_with fail
   clear yl
   refine (g1H.out V22 i1 j1 x1a x1c ri1 rx1 (hrk.bm hB)).mono ?_
   rintro e V23 ⟨⟨vv1, rfl, ⟨uu1, rfl, h1⟩⟩, hb⟩
   clear p0 p1 p2 p3 v0 v1 v2 c1z0 c1z1 c1z2 c1z3 c1z4
   replace kp := kp.below hb kp.lt
   replace kv := kv.below hb kv.lt
   replace kc1 := kc1.below hb kc1.lt
   replace hpr := hpr.bm hb
   replace ri1 := later_i ri1 hb
   replace rx1 := (rx1.below (Nat.le_refl _) hb).mono hb.size
   replace hB := tmB hB hb
   clear hb
   dsimp only at h1 ⊢
   obtain ⟨p1a, p1c, rfl⟩ := row_slice h1
   have rp1 := rowI_rd rfl h1
   have za := row_maxP h1
   clear h1
   obtain ⟨p0, p1, p2, p3⟩ := cz4 kp
   obtain ⟨v0, v1, v2⟩ := cz3 kv
   obtain ⟨c1z0, c1z1, c1z2, c1z3, c1z4⟩ := cz5 kc1
   obtain ⟨V24, ym, jb, kI1⟩ := newB V23 32 #[.int .i64 MW, .int .i64 MH, .slice p1a MP.length p1c]
   clear p0 p1 p2 p3 v0 v1 v2 c1z0 c1z1 c1z2 c1z3 c1z4
   replace kp := kp.below jb kp.lt
   replace kv := kv.below jb kv.lt
   replace kc1 := kc1.below jb kc1.lt
   replace hpr := hpr.bm jb
   replace ri1 := later_i ri1 jb
   replace rx1 := (rx1.below (Nat.le_refl _) jb).mono jb.size
   replace rp1 := later_i rp1 jb
   replace hB := tmB hB jb
   clear jb
   obtain ⟨p0, p1, p2, p3⟩ := cz4 kp
   obtain ⟨v0, v1, v2⟩ := cz3 kv
   obtain ⟨c1z0, c1z1, c1z2, c1z3, c1z4⟩ := cz5 kc1
   obtain ⟨i1z0, i1z1, i1z2⟩ := cz3 kI1
   go_wp2_with fail
   clear ym
   refine (g2H.out V24 i1 j1 x1a x1c ri1 rx1 hpr).mono ?_
   rintro e V25 ⟨⟨vv2, rfl, ⟨uu2, rfl, h1⟩⟩, hb⟩
   clear p0 p1 p2 p3 v0 v1 v2 c1z0 c1z1 c1z2 c1z3 c1z4 i1z0 i1z1 i1z2
   replace kp := kp.below hb kp.lt
   replace kv := kv.below hb kv.lt
   replace kc1 := kc1.below hb kc1.lt
   replace kI1 := kI1.below hb kI1.lt
   replace hpr := hpr.bm hb
   replace ri1 := later_i ri1 hb
   replace rx1 := (rx1.below (Nat.le_refl _) hb).mono hb.size
   replace rp1 := later_i rp1 hb
   replace hB := tmB hB hb
   clear hb
   dsimp only at h1 ⊢
   obtain ⟨p2a, p2c, rfl⟩ := row_slice h1
   have rp2 := rowI_rd rfl h1
   have hml2 := row_maxP h1
   clear h1
   obtain ⟨p0, p1, p2, p3⟩ := cz4 kp
   obtain ⟨v0, v1, v2⟩ := cz3 kv
   obtain ⟨c1z0, c1z1, c1z2, c1z3, c1z4⟩ := cz5 kc1
   obtain ⟨i1z0, i1z1, i1z2⟩ := cz3 kI1
   obtain ⟨V26, yn, ja, kI2⟩ := newB V25 32 #[.int .i64 MW, .int .i64 MH, .slice p2a MP.length p2c]
   clear p0 p1 p2 p3 v0 v1 v2 c1z0 c1z1 c1z2 c1z3 c1z4 i1z0 i1z1 i1z2
   replace kp := kp.below ja kp.lt
   replace kv := kv.below ja kv.lt
   replace kc1 := kc1.below ja kc1.lt
   replace kI1 := kI1.below ja kI1.lt
   replace hpr := hpr.bm ja
   replace ri1 := later_i ri1 ja
   replace rx1 := (rx1.below (Nat.le_refl _) ja).mono ja.size
   replace rp1 := later_i rp1 ja
   replace rp2 := later_i rp2 ja
   replace hB := tmB hB ja
   clear ja
   obtain ⟨p0, p1, p2, p3⟩ := cz4 kp
   obtain ⟨v0, v1, v2⟩ := cz3 kv
   obtain ⟨c1z0, c1z1, c1z2, c1z3, c1z4⟩ := cz5 kc1
   obtain ⟨i1z0, i1z1, i1z2⟩ := cz3 kI1
   obtain ⟨i2z0, i2z1, i2z2⟩ := cz3 kI2
   go_wp2_with fail
   clear yn
   refine (Same_eq MW MH p1a p2a p1c p2c MP.length MP (Lib.hid rfl) V26 za rp1 rp2).mono ?_
   rintro e V27 ⟨rfl, hb⟩
   replace hB := tmB hB hb
   go_wp2_with fail
   go_ret
   exact ⟨rfl, hB⟩
  case pos =>
   obtain ⟨p0, p1, p2, p3⟩ := cz4 kp
   obtain ⟨v0, v1, v2⟩ := cz3 kv
   have jl : (k : Int) < Q.inp := by have := hqH.out; omega
   have jm : decide ((k : Int) < Q.inp) = true := decide_eq_true jl
   go_wp2_with fail
   clear jl jm p0 p1 p2 p3 v0 v1 v2
   have jd := Lib.hid (And.intro jc hlm)
   clear jc hlm
   go_loop [12, 13] (fun u i => ∃ j : Nat, j ≤ n ∧ i = .int .i64 (j : Int) ∧ u = .bool (usdB Q.ss (k : Int) j)) (fun _ i => n - (intOf i).toNat)
   case atStart => exact ⟨0, Nat.zero_le _, rfl, rfl⟩
   case round =>
    obtain ⟨j, hj, rfl, rfl⟩ := hrel
    have p3 := kp.cell (i := 3) rfl
    by_cases hjn : j < n
    case neg =>
     have zb : n = j := by omega
     subst zb
     obtain ⟨jc, hlm⟩ := jd.out
     obtain ⟨ub, hub⟩ : ∃ u, usdB Q.ss (k : Int) n = u := ⟨_, rfl⟩
     have hmx : mixN Q.ss ks ms (k + 1) = if usdB Q.ss (k : Int) n = true then (mixN Q.ss ks ms k).set k (picAt ks k) else mixN Q.ss ks ms k := by rw [mixN, hnH.out]
     rw [hub] at hmx ⊢
     clear hub jd hjn hj
     cases ub with
     | false =>
      rw [if_neg (by decide)] at hmx
      have jd := Lib.hid (show ∃ l : List PicA, OwnA B0 wr (.slice (some ⟨g, 0, none⟩) q cap) l ∧ l.map PicA.p = mixN Q.ss ks ms (k + 1) from ⟨l, jc, by rw [hmx]; exact hlm⟩)
      clear jc hlm hmx
      go_wp2_with fail
      go_roundw
      case rel => exact ⟨k + 1, hlt, rfl, jd, jo, hB, kp, kv⟩
      case measure => simp only [intOf]; omega
     | true =>
      rw [if_pos rfl] at hmx
      have hkq : k < qk := by have := hqH.out; have := yw.out; omega
      rcases hrk with h | ⟨kb, ko, rfl, hkb, hkc⟩
      ·exfalso; have := jn.out; rw [h] at this; simp at this; omega
      replace hkc := hkc k (by rw [jn.out]; exact hkq)
      obtain ⟨xa, xc, x0, x1, x2, hxr, hxc⟩ := hkc
      replace x0 := (hB.cell (p := ⟨kb, ko + k * 3, none⟩) hkb).trans x0
      replace x1 := (hB.cell (p := ⟨kb, ko + k * 3 + 1, none⟩) hkb).trans x1
      replace x2 := (hB.cell (p := ⟨kb, ko + k * 3 + 2, none⟩) hkb).trans x2
      obtain ⟨X, hX⟩ : ∃ X, picAt ks k = X := ⟨_, rfl⟩
      rw [hX] at x0 x1 x2 hxr hmx
      clear hX
      obtain ⟨xw, xh, xx⟩ := X
      simp only at x0 x1 x2 hxr
      have hx2 : xx = [] ∨ ∀ ad, xa = some ad → some g ≠ some ad.block := by
       rcases hxr with hn | ⟨b, o, h1, h2, _⟩
       ·exact .inl hn
       ·right; intro ad had he
        rw [h1] at had; cases had
        simp only [Option.some.injEq] at he
        omega
      obtain ⟨ji, hg⟩ := OwnA.put (x := ⟨⟨xw, xh, xx⟩, xa, xc⟩) jc hll hlt ((hxr.below (Nat.le_refl _) hB).mono hB.size) hxc hx2
      have jf : wr.ownsRow B0 32 3 (.slice (some ⟨g, 0, none⟩) q cap) q (flatC l) := by have := jc.row; rw [hll] at this; exact this
      have yo : (flatC l).length = q * 3 := by rw [flatC_length, hll]
      obtain ⟨z0, y0⟩ : ∃ z, wr.cell? ⟨g, k * 3, none⟩ = some z := ⟨_, (jf.cellAt (k * 3) (by omega)).trans (List.getElem?_eq_getElem (by omega))⟩
      obtain ⟨z1, y1⟩ : ∃ z, wr.cell? ⟨g, k * 3 + 1, none⟩ = some z := ⟨_, (jf.cellAt (k * 3 + 1) (by omega)).trans (List.getElem?_eq_getElem (by omega))⟩
      obtain ⟨z2, y2⟩ : ∃ z, wr.cell? ⟨g, k * 3 + 2, none⟩ = some z := ⟨_, (jf.cellAt (k * 3 + 2) (by omega)).trans (List.getElem?_eq_getElem (by omega))⟩
      have fy0 := jf.frozenAt (k * 3)
      have fy1 := jf.frozenAt (k * 3 + 1)
      have fy2 := jf.frozenAt (k * 3 + 2)
      obtain ⟨WS, hWS⟩ : ∃ X, (((wr.setCell ⟨g, k * 3, none⟩ (.int .i64 xw)).setCell ⟨g, k * 3 + 1, none⟩ (.int .i64 xh)).setCell ⟨g, k * 3 + 2, none⟩ (.slice xa xx.length xc)) = X := ⟨_, rfl⟩
      simp only at ji hg
      rw [hWS] at ji hg
      have hB2 := hB.grown hg hB.size (fun k e => by injection e with e; omega)
      have kp2 := kp.kept hg (fun e => by injection e with e; omega)
      have kv2 := kv.kept hg (fun e => by injection e with e; omega)
      have zc : B0 ≤ WS.heap.size := by have := hg.size; omega
      have jd := Lib.hid (show ∃ l : List PicA, OwnA B0 WS (.slice (some ⟨g, 0, none⟩) q cap) l ∧ l.map PicA.p = mixN Q.ss ks ms (k + 1) from ⟨_, ji, by rw [hmx, List.map_set, hlm]⟩)
      clear jc ji hlm hmx jf yo hg hx2 hxr hxc kp kv hB
      go_wp2_with fail
      try simp only [hWS]
      go_roundw
      case rel => exact ⟨k + 1, hlt, rfl, jd, zc, hB2, kp2, kv2⟩
      case measure => simp only [intOf]; omega
    case pos =>
     have hks : j < Q.ss.length := by rw [hnH.out]; exact hjn
     rcases hr with h | ⟨b, o, rfl, hbl, h3⟩
     ·exfalso; rw [h] at hks; simp at hks
     obtain ⟨ak, kc, sa, sc, yp⟩ := h3 j hks
     clear h3
     have hnx : usdB Q.ss (k : Int) (j + 1) = (usdB Q.ss (k : Int) j || usesB (stAt Q.ss j) (k : Int)) := rfl
     obtain ⟨s, hse⟩ : ∃ s, stAt Q.ss j = s := ⟨_, rfl⟩
     rw [hse] at yp hnx
     clear hse
     unfold usesB at hnx
     obtain ⟨jj, hta, hbi⟩ := yp
     have c0 : wr.cell? ⟨b, o + j * 16, none⟩ = some (.int .u8 s.op) := (hB.cell (p := ⟨b, o + j * 16, none⟩) hbl).trans (jj 0 _ rfl)
     have c1 : wr.cell? ⟨b, o + j * 16 + 1, none⟩ = some (.int .i64 s.a) := (hB.cell (p := ⟨b, o + j * 16 + 1, none⟩) hbl).trans (jj 1 _ rfl)
     have c2 : wr.cell? ⟨b, o + j * 16 + 2, none⟩ = some (.int .i64 s.b) := (hB.cell (p := ⟨b, o + j * 16 + 2, none⟩) hbl).trans (jj 2 _ rfl)
     clear jj hta hbi hks
     obtain ⟨ub, hub⟩ : ∃ u, usdB Q.ss (k : Int) j = u := ⟨_, rfl⟩
     rw [hub] at hnx ⊢
     clear hub
     cases ub with
     | true =>
      simp only [Bool.true_or] at hnx
      go_wp2_with fail
      go_round
      case rel => exact ⟨j + 1, hjn, rfl, by rw [hnx]⟩
      case measure => simp only [intOf]; omega
     | false =>
      by_cases h1 : s.a = (k : Int)
      case pos =>
       have h1d : decide (s.a = (k : Int)) = true := decide_eq_true h1
       simp only [h1d, Bool.true_or, Bool.or_true] at hnx
       go_wp2_with fail
       go_round
       case rel => exact ⟨j + 1, hjn, rfl, by rw [hnx]⟩
       case measure => simp only [intOf]; omega
      case neg =>
      have h1d : decide (s.a = (k : Int)) = false := decide_eq_false h1
      by_cases h2 : s.op = 2
      case neg =>
       have h2d : decide (s.op = 2) = false := decide_eq_false h2
       simp only [h1d, h2d, Bool.false_or, Bool.false_and] at hnx
       go_wp2_with fail
       go_round
       case rel => exact ⟨j + 1, hjn, rfl, by rw [hnx]; simp [h1]⟩
       case measure => simp only [intOf]; omega
      case pos =>
      have h2d : decide (s.op = 2) = true := decide_eq_true h2
      by_cases h3 : s.b = (k : Int)
      case pos =>
       have h3d : decide (s.b = (k : Int)) = true := decide_eq_true h3
       simp only [h1d, h2d, h3d, Bool.false_or, Bool.true_and] at hnx
       go_wp2_with fail
       go_round
       case rel => exact ⟨j + 1, hjn, rfl, by rw [hnx]⟩
       case measure => simp only [intOf]; omega
      case neg =>
       have h3d : decide (s.b = (k : Int)) = false := decide_eq_false h3
       simp only [h1d, h2d, h3d, Bool.false_or, Bool.true_and] at hnx
       go_wp2_with fail
       go_round
       case rel => exact ⟨j + 1, hjn, rfl, by rw [hnx]; first | (simp [h1, h2, h3]; done) | (simp [h1]; exact h3)⟩
       case measure => simp only [intOf]; omega

end Go.Proofs.YtekiemlniegddaaGreat

/- Contracts and laws (PcG, PcH, PcI, PRr, PRs). -/
import Derived.Test.YtekiemlniegddaaGreatQH7
import Derived.Test.YtekiemlniegddaaGreatQH6
import Derived.Test.YtekiemlniegddaaGreatQH5
set_option linter.unusedVariables false
set_option linter.unusedSimpArgs false
namespace Go.Proofs.YtekiemlniegddaaGreat
open Go Go.RowKit Go.Shelf
theorem stepsB_all {inp : Int} {ss : List StepN} : ∀ {m k : Nat}, stepsB inp ss m = true → k < m → needB (stAt ss k) = true ∧ refB inp k (stAt ss k) = true
 | m + 1, k, h, hk => by
  rw [stepsB, Bool.and_eq_true] at h
  by_cases e : k = m
  ·subst e; rw [Bool.and_eq_true] at h; exact h.2
  ·exact stepsB_all h.1 (by omega)
theorem refOk_of {P : PipeN} (hP : pipeB P = true) : RefOk P.inp P.ss := fun i hi m hm => by
 obtain ⟨_, _, _, _, hall⟩ := pipeB_true hP
 obtain ⟨h1, h2⟩ := refB_true (stepsB_all hall hi).2
 rcases opsN_cases (stAt P.ss i) with ⟨e, _⟩ | ⟨e, hop, _⟩
 ·rw [e, List.mem_singleton] at hm; subst hm; omega
 ·rw [e] at hm
  simp only [List.mem_cons, List.not_mem_nil, or_false] at hm
  have := h2 hop
  rcases hm with rfl | rfl <;> omega
theorem afterN_app (ss : List StepN) (ms : List PicN) {k : Nat} : ∀ {j i : Nat}, k ≤ j → i < ms.length + k → picAt (afterN ss ms j) i = picAt (afterN ss ms k) i
  | 0, i, hk, hi => by obtain rfl : k = 0 := by omega
                       rfl
  | j + 1, i, hk, hi => by
    by_cases e : k = j + 1
    · subst e; rfl
    · rw [afterN, picAt_snoc, if_pos (by rw [afterN_length]; omega)]
      exact afterN_app ss ms (by omega) hi
/-- The image of a number. -/
def imN (P : PipeN) (ms : List PicN) (m : Int) : PicN := picAt (afterN P.ss ms P.ss.length) m.toNat
section
variable {P : PipeN} {ms : List PicN}
theorem imN_in (hi : ms.length = P.inp.toNat) {m : Nat} (hm : m < P.inp.toNat) : imN P ms (m : Int) = picAt ms m := by
 unfold imN
 rw [Int.toNat_natCast, afterN_app P.ss ms (k := 0) (Nat.zero_le _) (by omega)]; rfl
theorem imN_step (hP : pipeB P = true) (hi : ms.length = P.inp.toNat) {k : Nat} (hk : k < P.ss.length) : imN P ms (P.inp + k) = resN (appS (stAt P.ss k) (afterN P.ss ms k)) := by
 obtain ⟨_, _, h3, _, _⟩ := pipeB_true hP
 unfold imN
 rw [show (P.inp + (k : Int)).toNat = ms.length + k by omega, afterN_app P.ss ms (k := k + 1) (by omega) (by omega), afterN, picAt_snoc, if_neg (by rw [afterN_length]; omega), if_pos (by rw [afterN_length])]
theorem imN_op (hP : pipeB P = true) (hi : ms.length = P.inp.toNat) {k : Nat} (hk : k < P.ss.length) {m : Int} (h0 : 0 ≤ m) (hm : m < P.inp + k) : picAt (afterN P.ss ms k) m.toNat = imN P ms m := by
 obtain ⟨_, _, h3, _, _⟩ := pipeB_true hP
 unfold imN
 exact (afterN_app P.ss ms (k := k) (j := P.ss.length) (by omega) (by omega)).symm
theorem given_at {ms : List PicN} {n w h : Int} (hg : givenB ms n w h = true) {i : Nat} (hi : i < ms.length) : PicOk w h (picAt ms i) := by
 unfold givenB at hg
 rw [Bool.and_eq_true, List.all_eq_true] at hg
 have := hg.2 (ms[i]) (List.getElem_mem hi)
 simp only [Bool.and_eq_true, decide_eq_true_eq] at this
 unfold picAt
 rw [List.getElem?_eq_getElem hi]
 simp only [Option.getD_some]
 exact ⟨this.2.1, this.2.2, by rw [← this.2.1, ← this.2.2]; exact this.1⟩
/-- All images are valid; what a step makes. -/
theorem imN_all (hP : pipeB P = true) (hg : givenB ms P.inp P.w P.h = true) : ∀ k, k ≤ P.ss.length → ∀ m : Int, 0 ≤ m → m < P.inp + k → PicOk P.w P.h (imN P ms m)
 | 0, _, m, h0, hm => by
  obtain ⟨_, _, h3, _, _⟩ := pipeB_true hP
  have hl := givenB_len hg
  obtain ⟨t, rfl⟩ : ∃ t : Nat, m = (t : Int) := ⟨m.toNat, by omega⟩
  rw [imN_in (by omega) (by omega)]
  exact given_at hg (by omega)
 | k + 1, hk, m, h0, hm => by
  by_cases e : m < P.inp + k
  ·exact imN_all hP hg k (by omega) m h0 e
  ·obtain ⟨⟨w1, w2⟩, ⟨h1, h2⟩, h3, _, hall⟩ := pipeB_true hP
   have hl := givenB_len hg
   obtain rfl : m = P.inp + k := by omega
   obtain ⟨n1, n2⟩ := stepsB_all hall (show k < P.ss.length by omega)
   obtain ⟨r1, r2⟩ := refB_true n2
   rw [imN_step hP (by omega) (by omega)]
   have hA : PicOk P.w P.h (picAt (afterN P.ss ms k) (stAt P.ss k).a.toNat) := by rw [imN_op hP (by omega) (by omega) r1.1 (by omega)]; exact imN_all hP hg k (by omega) _ r1.1 (by omega)
   have hB : (stAt P.ss k).op = 2 → PicOk P.w P.h (picAt (afterN P.ss ms k) (stAt P.ss k).b.toNat) := fun h => by
    have := r2 h
    rw [imN_op hP (by omega) (by omega) this.1 (by omega)]; exact imN_all hP hg k (by omega) _ this.1 (by omega)
   rw [appS_ok n1 hA hB]
   exact PicOk.img ⟨w1, w2⟩ ⟨h1, h2⟩ _
theorem imN_val (hP : pipeB P = true) (hg : givenB ms P.inp P.w P.h = true) {k : Nat} (hk : k < P.ss.length) :
  imN P ms (P.inp + k) = ⟨P.w, P.h, img P.w.toNat P.h.toNat (stepG (stAt P.ss k) (imN P ms (stAt P.ss k).a) (imN P ms (stAt P.ss k).b) P.w P.h)⟩ := by
 obtain ⟨⟨w1, w2⟩, ⟨h1, h2⟩, h3, _, hall⟩ := pipeB_true hP
 have hl := givenB_len hg
 obtain ⟨n1, n2⟩ := stepsB_all hall hk
 obtain ⟨r1, r2⟩ := refB_true n2
 rw [imN_step hP (by omega) hk]
 have eA := imN_op (P := P) (ms := ms) hP (by omega) hk r1.1 (show (stAt P.ss k).a < P.inp + k by omega)
 have hA : PicOk P.w P.h (picAt (afterN P.ss ms k) (stAt P.ss k).a.toNat) := by rw [eA]; exact imN_all hP hg k (by omega) _ r1.1 (by omega)
 by_cases h2 : (stAt P.ss k).op = 2
 ·have b := r2 h2
  have eB := imN_op (P := P) (ms := ms) hP (by omega) hk b.1 (show (stAt P.ss k).b < P.inp + k by omega)
  have hB : PicOk P.w P.h (picAt (afterN P.ss ms k) (stAt P.ss k).b.toNat) := by rw [eB]; exact imN_all hP hg k (by omega) _ b.1 (by omega)
  rw [appS_ok n1 hA (fun _ => hB), eA, eB]; rfl
 ·rw [appS_ok n1 hA (fun h => absurd h h2), eA]
  have : stepG (stAt P.ss k) (imN P ms (stAt P.ss k).a) (picAt (afterN P.ss ms k) (stAt P.ss k).b.toNat) P.w P.h = stepG (stAt P.ss k) (imN P ms (stAt P.ss k).a) (imN P ms (stAt P.ss k).b) P.w P.h := by
   unfold stepG; rw [if_neg h2, if_neg h2]
  rw [this]; rfl
/-- The image that a round leaves is its head's, with the points that are carried. -/
theorem rds_chain (hP : pipeB P = true) (hg : givenB ms P.inp P.w P.h = true) : ∀ k, k ≤ P.ss.length → ∀ q, q < (rdsS P.inp (useF P.ss P.ss.length) P.ss k).out.length →
  imN P ms (rnAt (rdsS P.inp (useF P.ss P.ss.length) P.ss k).out q).res = ptsN (imN P ms (P.inp + (rnAt (rdsS P.inp (useF P.ss P.ss.length) P.ss k).out q).at_)) (rnAt (rdsS P.inp (useF P.ss P.ss.length) P.ss k).out q).pts ∧ ∀ p ∈ (rnAt (rdsS P.inp (useF P.ss P.ss.length) P.ss k).out q).pts, p.ok = true
 | 0, _, q, hq => absurd hq (Nat.not_lt_zero _)
 | k + 1, hk, q, hq => by
  have hr := refOk_of hP
  have ih := rds_chain hP hg k (by omega)
  have ok1 := rds_ok hr k (by omega)
  rw [rdsS] at hq ⊢
  cases hc : carB P.inp (useF P.ss P.ss.length) (stAt P.ss k) with
  | false =>
   rw [hc] at hq
   rw [if_neg (by simp)] at hq ⊢
   obtain ⟨R, hR⟩ : ∃ R, rdsS P.inp (useF P.ss P.ss.length) P.ss k = R := ⟨_, rfl⟩
   rw [hR] at ih ok1 hq ⊢
   simp only [List.length_append, List.length_singleton] at hq ⊢
   rw [rnAt_app (by omega)]
   by_cases e : q = R.out.length
   ·rw [if_pos e]; exact ⟨rfl, fun p hp => by cases hp⟩
   ·rw [if_neg e]; exact ih q (by omega)
  | true =>
   rw [hc] at hq
   rw [if_pos rfl] at hq ⊢
   obtain ⟨t, ht, hof, hres⟩ := of_here ok1 hr (by omega) hc
   obtain ⟨R, hR⟩ : ∃ R, rdsS P.inp (useF P.ss P.ss.length) P.ss k = R := ⟨_, rfl⟩
   rw [hR] at ih ok1 hq ht hof hres ⊢
   rw [hof] at hq ⊢
   have htn : (numF (some (ilit (t : Int)))).toNat = t := by show ((t : Int)).toNat = t; simp
   rw [htn] at hq ⊢
   simp only [List.length_set] at hq ⊢
   rw [rnAt_set ht]
   by_cases e : q = t
   ·rw [if_pos e]
    obtain ⟨c1, c2⟩ := ih t ht
    obtain ⟨⟨w1, w2⟩, ⟨h1, h2⟩, h3, _, hall⟩ := pipeB_true hP
    obtain ⟨n1, n2⟩ := stepsB_all hall (show k < P.ss.length by omega)
    obtain ⟨r1, r2⟩ := refB_true n2
    have hop := (carB_true hc).1
    have hptok : (stAt P.ss k).pt.ok = true := by unfold needB at n1; rwa [if_pos hop] at n1
    have hA : PicOk P.w P.h (imN P ms (stAt P.ss k).a) := imN_all hP hg k (by omega) _ r1.1 (by omega)
    have key : imN P ms (P.inp + (k : Int)) = resN (pointS (imN P ms (stAt P.ss k).a).w (imN P ms (stAt P.ss k).a).h (imN P ms (stAt P.ss k).a).px (stAt P.ss k).pt) := by
     rw [imN_val hP hg (by omega), point_ok ⟨w1, w2⟩ ⟨h1, h2⟩ hA hptok]
     unfold stepG; rw [if_pos hop]
    refine ⟨?_, fun p hp => ?_⟩
    ·show imN P ms (P.inp + (k : Int)) = ptsN (imN P ms (P.inp + (rnAt R.out t).at_)) ((rnAt R.out t).pts ++ [(stAt P.ss k).pt])
     rw [ptsN_snoc, ← c1, hres, key]
    ·rcases List.mem_append.1 (show p ∈ (rnAt R.out t).pts ++ [(stAt P.ss k).pt] from hp) with hp | hp
     ·exact c2 p hp
     ·rw [List.mem_singleton.1 hp]; exact hptok
   ·rw [if_neg e]; exact ih q hq
end
/-- What holds of a compiler before a round. -/
structure CmpOk (P : PipeN) (ms : List PicN) (n : Nat) (k : Nat) (C : CmN) (mem : Nat → Int) : Prop where
 al : ∃ fs, AllocOk (mostP P) n (P.inp.toNat + P.ss.length) C.at_ fs ∧ C.free = freeL n fs
 av : ∀ m, (C.at_ m).isSome = true → availN P.inp (rdsN P.inp P.ss) k m
 lv : ∀ m, (plS P.inp.toNat (lastI P) (rdsN P.inp P.ss) k).live m = some (.bool true) → (C.at_ m).isSome = true
 mem : ∀ m, (plS P.inp.toNat (lastI P) (rdsN P.inp P.ss) k).live m = some (.bool true) → AtImg mem (numF (C.at_ m)) (imN P ms m).px n
theorem place_apart {a b n : Nat} (h : a ≠ b) : (a : Int) * n + n ≤ (b : Int) * n ∨ (b : Int) * n + n ≤ (a : Int) * n := by
 rcases Nat.lt_or_gt_of_ne h with h | h
 ·left
  have := Nat.mul_le_mul_right n (show a + 1 ≤ b by omega)
  rw [Nat.add_mul, Nat.one_mul] at this
  exact_mod_cast this
 ·right
  have := Nat.mul_le_mul_right n (show b + 1 ≤ a by omega)
  rw [Nat.add_mul, Nat.one_mul] at this
  exact_mod_cast this
theorem most_le (I : Nat) (last : Int) (rs : List RndN) (m : Nat) : ∀ {k R : Nat}, k < R → cntF (livN I last rs k) m ≤ mostN I last rs m R
 | k, R + 1, h => by
  rw [mostN]
  by_cases e : k = R
  ·subst e; omega
  ·have := most_le I last rs m (k := k) (R := R) (by omega); omega
theorem avail_bd {P : PipeN} (hP : pipeB P = true) {k : Nat} (hk : k ≤ (rdsN P.inp P.ss).length) {m : Int} (h : availN P.inp (rdsN P.inp P.ss) k m) : 0 ≤ m ∧ m < P.inp + P.ss.length := by
 obtain ⟨_, _, h3, _, _⟩ := pipeB_true hP
 rcases h with h | ⟨q, hq, rfl⟩
 ·omega
 ·have := res_bd (refOk_of hP) (q := q) (by omega); omega
/-- Behind a round. -/
theorem cmp_round {P : PipeN} {ms : List PicN} (hP : pipeB P = true) (hg : givenB ms P.inp P.w P.h = true) {n : Nat} (hn : (n : Int) = P.w * P.h) {lanes : Int} (hl : 1 ≤ lanes) {k : Nat} (hk : k < (rdsN P.inp P.ss).length) {C : CmN} {M : MacN} (hC : CmpOk P ms n k C M.mem) :
  ∃ code', (rndC P lanes (livN P.inp.toNat (lastI P) (rdsN P.inp P.ss) k) (rnAt (rdsN P.inp P.ss) k) C).code = C.code ++ code' ∧ CmpOk P ms n (k + 1) (rndC P lanes (livN P.inp.toNat (lastI P) (rdsN P.inp P.ss) k) (rnAt (rdsN P.inp P.ss) k) C) (runM lanes.toNat code' M).mem ∧
   ∃ F to, code' = roundC P.w P.h lanes.toNat F (rnAt (rdsN P.inp P.ss) k) to (grpsN P.w P.h lanes).toNat ∧ (∃ t : Nat, t < mostP P ∧ to = (t : Int) * n) ∧ ∀ m ∈ opsN (rnAt (rdsN P.inp P.ss) k).head, ∃ t : Nat, t < mostP P ∧ numF (F m) = (t : Int) * n := by
 obtain ⟨⟨w1, w2⟩, ⟨h1, h2⟩, ⟨i1, i2⟩, ⟨l1, l2⟩, hall⟩ := pipeB_true hP
 have hr := refOk_of hP
 have hn0 : 0 < n := by have := Int.mul_pos (show 0 < P.w by omega) (show 0 < P.h by omega); omega
 obtain ⟨rs, hrs⟩ : ∃ rs, rdsN P.inp P.ss = rs := ⟨_, rfl⟩
 have hIn : ((P.inp.toNat : Nat) : Int) = P.inp := Int.toNat_of_nonneg (by omega)
 have hnot := res_not_ops hr
 have hres := res_bd hr hk
 have hinj := fun q (hq : q < (rdsN P.inp P.ss).length) => res_inj hr hq hk
 have hthere := fun m hm => head_there hr hk (m := m) hm
 have hhead := (rdsN_ok hr).head k hk
 have hchain := rds_chain hP hg P.ss.length (Nat.le_refl _) k hk
 have hlive := fun m => plS_live (I := P.inp.toNat) (last := lastI P) hnot m k (by omega)
 have hlive2 := fun m => plS_live (I := P.inp.toNat) (last := lastI P) hnot m (k + 1) (by omega)
 have hleft := fun m => plS_left P.inp.toNat (lastI P) (rdsN P.inp P.ss) m k
 have hleft2 := fun m => plS_left P.inp.toNat (lastI P) (rdsN P.inp P.ss) m (k + 1)
 have hmost : cntF (livN P.inp.toNat (lastI P) (rdsN P.inp P.ss) k) (P.inp.toNat + P.ss.length) ≤ mostP P := most_le _ _ _ _ hk
 have hmono := fun m => cntR_mono (rdsN P.inp P.ss) m (a := k + 1) (b := (rdsN P.inp P.ss).length) hk
 have hbd := fun m hm => avail_bd hP (k := k) (by omega) (m := m) hm
 change imN P ms (rnAt (rdsN P.inp P.ss) k).res = ptsN (imN P ms (P.inp + (rnAt (rdsN P.inp P.ss) k).at_)) (rnAt (rdsN P.inp P.ss) k).pts ∧ ∀ p ∈ (rnAt (rdsN P.inp P.ss) k).pts, p.ok = true at hchain
 change (rnAt (rdsN P.inp P.ss) k).at_ < P.ss.length ∧ (rnAt (rdsN P.inp P.ss) k).head = stAt P.ss (rnAt (rdsN P.inp P.ss) k).at_ at hhead
 obtain ⟨⟨fs, hal, hfree⟩, hav, hlv, hmem⟩ := hC
 rw [hIn] at hlive hlive2
 rw [hrs] at hk hnot hres hinj hthere hhead hchain hlive hlive2 hleft hleft2 hmost hmono hbd hav hlv hmem ⊢
 obtain ⟨r, hrr⟩ : ∃ r, rnAt rs k = r := ⟨_, rfl⟩
 have hnotk := hnot k hk
 rw [hrr] at hres hinj hthere hhead hchain hnotk ⊢
 obtain ⟨LN, hLN⟩ : ∃ L, livN P.inp.toNat (lastI P) rs k = L := ⟨_, rfl⟩
 have hLNat : ∀ m, LN m = if m = r.res then some (.bool true) else (plS P.inp.toNat (lastI P) rs k).live m := fun m => by
  rw [← hLN]; unfold livN; rw [hrr]; rfl
 rw [hLN] at hmost ⊢
 obtain ⟨T, hT⟩ : ∃ T : Nat, r.res = (T : Int) := ⟨r.res.toNat, by omega⟩
 have hTK : T < P.inp.toNat + P.ss.length := by omega
 -- the sweep
 obtain ⟨fs1, s1, s2, s3, s4⟩ := sweep_ok hn0 (live := LN) hal hfree (P.inp.toNat + P.ss.length) (Nat.le_refl _)
 have hresF : C.at_ r.res = none := by
  cases hh : C.at_ r.res with
  | none => rfl
  | some x =>
   exfalso
   rcases hav r.res (by rw [hh]; rfl) with h | ⟨q, hq, e⟩
   ·omega
   ·have := hinj q (by omega) e; omega
 obtain ⟨S, hS⟩ : ∃ S, sweepN LN C (P.inp.toNat + P.ss.length) = S := ⟨_, rfl⟩
 rw [hS] at s1 s2 s3 s4
 have hSdom : ∀ m, (S.at_ m).isSome = true → truF (LN m) = true ∧ S.at_ m = C.at_ m := fun m hm => by
  rw [s4 m] at hm
  by_cases e : 0 ≤ m ∧ m < ((P.inp.toNat + P.ss.length : Nat) : Int) ∧ truF (LN m) = false
  ·rw [if_pos e] at hm; cases hm
  ·have := s4 m
   rw [if_neg e] at this hm
   refine ⟨?_, this⟩
   have b := hbd m (hav m hm)
   cases ht : truF (LN m) with
   | true => rfl
   | false => exact absurd ⟨b.1, by push_cast; omega, ht⟩ e
 have hSres : S.at_ (T : Int) = none := by
  cases hh : S.at_ (T : Int) with
  | none => rfl
  | some x =>
   have := (hSdom (T : Int) (by rw [hh]; rfl)).2
   rw [← hT, hresF, hT, hh] at this; cases this
 have hfs : fs1 ≠ [] := by
  intro e
  have hc := s1.cnt
  rw [e, List.length_nil] at hc
  have := cntF_lt (A := S.at_) (B := LN) (K := P.inp.toNat + P.ss.length) (fun j hj h => by
   have := (hSdom _ h).1
   cases hh : LN (j : Int) with
   | none => rw [hh] at this; cases this
   | some x => rfl) ⟨T, hTK, hSres, by rw [hLNat, ← hT, if_pos rfl]; rfl⟩
  omega
 obtain ⟨fs2, t, p1, p2, p3, p4, p5, p6⟩ := place_ok hn0 s1 s2 hfs hTK hSres
 refine ⟨roundC P.w P.h lanes.toNat (placeN S r.res).at_ r (lastN S) (grpsN P.w P.h lanes).toNat, ?_, ?_⟩
 ·unfold rndC
  simp only [hS]
  show S.code ++ _ = _
  rw [s3]
 obtain ⟨D, hD⟩ : ∃ D, placeN S r.res = D := ⟨_, rfl⟩
 have hD2 : placeN S (T : Int) = D := by rw [← hT]; exact hD
 rw [hD2] at p3 p4 p5
 have hrd : rndC P lanes LN r C = ⟨D.at_, D.free, D.code ++ roundC P.w P.h lanes.toNat D.at_ r (lastN S) (grpsN P.w P.h lanes).toNat⟩ := by unfold rndC; simp only [hS, hD]
 rw [hrd, hD, p2]
 -- where the head's images are
 have hopd : ∀ m ∈ opsN r.head, ∃ tm : Nat, tm < mostP P ∧ D.at_ m = some (ilit ((tm : Int) * n)) ∧ tm ≠ t ∧ AtImg M.mem (numF (D.at_ m)) (imN P ms m).px n ∧ PicOk P.w P.h (imN P ms m) := fun m hm => by
  obtain ⟨a1, a2⟩ := hthere m hm
  have hmr : m ≠ r.res := fun e => hnotk (e ▸ hm)
  have hi := inOps_pos hm
  have hav1 : availN P.inp rs k m := a2.elim (fun h => .inl ⟨a1, h⟩) .inr
  have h1' := hleft m
  have h3' := hmono m
  have hstep : cntR rs m (k + 1) = cntR rs m k + inOps (rnAt rs k).head m := rfl
  rw [hrr, hi] at hstep
  have hli : (plS P.inp.toNat (lastI P) rs k).live m = some (.bool true) := by
   rcases hlive m with ⟨e, _⟩ | ⟨_, e⟩
   ·exact e
   ·exact absurd ⟨hav1, by omega⟩ e
  have hCm := hlv m hli
  have b := hbd m hav1
  have hLm : truF (LN m) = true := by rw [hLNat, if_neg hmr, hli]; rfl
  have hSm : S.at_ m = C.at_ m := by rw [s4 m, if_neg (by rw [hLm]; simp)]
  have hDm : D.at_ m = C.at_ m := by rw [p5, putF_ne _ _ (by rw [← hT]; exact hmr), hSm]
  obtain ⟨x, hx⟩ := Option.isSome_iff_exists.1 hCm
  obtain ⟨tm, g1, g2, g3, g4⟩ := hal.at_ _ _ hx
  subst g2
  refine ⟨tm, g1, by rw [hDm, hx], fun e => ?_, by rw [hDm]; exact hmem m hli, imN_all hP hg P.ss.length (Nat.le_refl _) m a1 b.2⟩
  subst e
  exact p6 m _ (by rw [hSm, hx]) rfl
 have hneed := (stepsB_all hall hhead.1).1
 rw [← hhead.2] at hneed
 obtain ⟨ta, ga1, ga2, ga3, ga4, ga5⟩ := hopd _ (opsN_a r.head)
 have hopB : r.head.op = 2 → r.head.b ∈ opsN r.head := fun h => by
  rcases opsN_cases r.head with ⟨e, h2⟩ | ⟨e, _, _⟩
  ·have : r.head.a = r.head.b := by
    by_cases hab : r.head.a = r.head.b
    ·exact hab
    ·exact absurd ⟨h, hab⟩ h2
   rw [e, this]; simp
  ·rw [e]; simp
 have hval := imN_val hP hg hhead.1
 rw [← hhead.2] at hval
 have hrun := round_run (lanes := lanes.toNat) ⟨w1, w2⟩ ⟨h1, h2⟩ hn (by omega) (r := r) (A := imN P ms r.head.a) (B := imN P ms r.head.b) hneed hchain.2 ga5 (fun h => (hopd _ (hopB h)).choose_spec.2.2.2.2) (F := D.at_) (to := (t : Int) * n) (Int.mul_nonneg (by omega) (by omega))
  (by rw [ga2]; exact place_apart ga3) (fun h => by obtain ⟨tb, gb1, gb2, gb3, _⟩ := hopd _ (hopB h); rw [gb2]; exact place_apart gb3) (M := M) ga4 (fun h => by obtain ⟨tb, gb1, gb2, gb3, gb4, _⟩ := hopd _ (hopB h); exact gb4) (im := imN P ms r.res) (by rw [hchain.1, hval])
  (grpsN P.w P.h lanes).toNat
 obtain ⟨M', hM'⟩ : ∃ M', runM lanes.toNat (roundC P.w P.h lanes.toNat D.at_ r ((t : Int) * n) (grpsN P.w P.h lanes).toNat) M = M' := ⟨_, rfl⟩
 rw [hM'] at hrun ⊢
 have hgr : (n : Int) ≤ ((grpsN P.w P.h lanes).toNat * lanes.toNat : Nat) := by
  unfold grpsN
  rw [← hn]
  have e1 := Int.emod_lt_of_pos ((n : Int) + lanes - 1) (show 0 < lanes by omega)
  have e2 := Int.mul_ediv_add_emod ((n : Int) + lanes - 1) lanes
  have e3 : 0 ≤ ((n : Int) + lanes - 1) / lanes := Int.ediv_nonneg (by omega) (by omega)
  push_cast
  rw [Int.toNat_of_nonneg e3, Int.toNat_of_nonneg (show 0 ≤ lanes by omega), Int.mul_comm]
  omega
 have hin : ∀ i : Nat, i < n → M'.mem (((t : Int) * n).toNat + i) = px (imN P ms r.res).px (i : Int) := fun i hi => by
  have h0 : 0 ≤ (t : Int) * n := Int.mul_nonneg (by omega) (by omega)
  rw [hrun, if_pos (by omega)]
  congr 1
  omega
 have hout : ∀ {p : Int} {xs : List Int}, (p + n ≤ (t : Int) * n ∨ (t : Int) * n + n ≤ p) → AtImg M.mem p xs n → AtImg M'.mem p xs n := fun hd ha => ⟨ha.nn, fun i hi => by rw [hrun, if_neg (by have := ha.nn; omega)]; exact ha.val i hi⟩
 have hav' : ∀ m, availN P.inp rs k m → availN P.inp rs (k + 1) m := fun m h => h.imp id (fun ⟨q, hq, e⟩ => ⟨q, by omega, e⟩)
 refine ⟨⟨⟨fs2, p3, p4⟩, fun m hm => ?_, fun m hm => ?_, fun m hm => ?_⟩, D.at_, _, rfl, ⟨t, p1, rfl⟩, fun m hm => by obtain ⟨tm, g1, g2, _⟩ := hopd m hm; exact ⟨tm, g1, by rw [g2]; rfl⟩⟩
 ·rw [hrs]
  simp only at hm
  by_cases e : m = r.res
  ·exact .inr ⟨k, by omega, by rw [hrr, e]⟩
  ·rw [p5, putF_ne _ _ (by rw [← hT]; exact e)] at hm
   exact hav' m (hav m (by rw [← (hSdom m hm).2]; exact hm))
 ·rw [hrs] at hm
  simp only
  by_cases e : m = r.res
  ·rw [p5, e, hT, putF_same]; rfl
  ·rcases hlive2 m with ⟨_, a1, a2⟩ | ⟨a1, _⟩
   ·have hav1 : availN P.inp rs k m := a1.imp id (fun ⟨q, hq, e2⟩ => by
     by_cases e3 : q = k
     ·subst e3; rw [hrr] at e2; exact absurd e2.symm e
     ·exact ⟨q, by omega, e2⟩)
    have x1 := hleft m
    have x2 := hleft2 m
    have hstep : cntR rs m (k + 1) = cntR rs m k + inOps (rnAt rs k).head m := rfl
    have hli : (plS P.inp.toNat (lastI P) rs k).live m = some (.bool true) := by
     rcases hlive m with ⟨e2, _⟩ | ⟨_, e2⟩
     ·exact e2
     ·exact absurd ⟨hav1, by omega⟩ e2
    have hLm : truF (LN m) = true := by rw [hLNat, if_neg e, hli]; rfl
    rw [p5, putF_ne _ _ (by rw [← hT]; exact e), s4 m, if_neg (by rw [hLm]; simp)]
    exact hlv m hli
   ·rw [a1] at hm; cases hm
 ·rw [hrs] at hm
  simp only
  by_cases e : m = r.res
  ·rw [p5, e, hT, putF_same, ← hT]
   exact ⟨Int.mul_nonneg (by omega) (by omega), hin⟩
  ·rcases hlive2 m with ⟨_, a1, a2⟩ | ⟨a1, _⟩
   ·have hav1 : availN P.inp rs k m := a1.imp id (fun ⟨q, hq, e2⟩ => by
     by_cases e3 : q = k
     ·subst e3; rw [hrr] at e2; exact absurd e2.symm e
     ·exact ⟨q, by omega, e2⟩)
    have x1 := hleft m
    have x2 := hleft2 m
    have hstep : cntR rs m (k + 1) = cntR rs m k + inOps (rnAt rs k).head m := rfl
    have hli : (plS P.inp.toNat (lastI P) rs k).live m = some (.bool true) := by
     rcases hlive m with ⟨e2, _⟩ | ⟨_, e2⟩
     ·exact e2
     ·exact absurd ⟨hav1, by omega⟩ e2
    have hLm : truF (LN m) = true := by rw [hLNat, if_neg e, hli]; rfl
    have hSm : S.at_ m = C.at_ m := by rw [s4 m, if_neg (by rw [hLm]; simp)]
    rw [p5, putF_ne _ _ (by rw [← hT]; exact e), hSm]
    obtain ⟨x, hx⟩ := Option.isSome_iff_exists.1 (hlv m hli)
    obtain ⟨tm, g1, g2, g3, g4⟩ := hal.at_ _ _ hx
    subst g2
    have hne : tm ≠ t := fun e3 => by subst e3; exact p6 m _ (by rw [hSm, hx]) rfl
    refine hout ?_ (hmem m hli)
    rw [hx]; exact place_apart hne
   ·rw [a1] at hm; cases hm
end Go.Proofs.YtekiemlniegddaaGreat
namespace Go.Proofs.YtekiemlniegddaaGreat
open Go Go.RowKit Go.Shelf
theorem memN_app (ats : List Int) (x : Int) (ms : List PicN) : ∀ k, k ≤ ats.length → memN (ats ++ [x]) ms k = memN ats ms k
 | 0, _ => rfl
 | k + 1, h => by rw [memN, memN, memN_app ats x ms k (by omega), List.getElem?_append_left (by omega)]
theorem inp_len (left : FnL) (C : CmN) : ∀ k, (inpN left C k).inp.length = k
 | 0 => rfl
 | k + 1 => by
  rw [inpN]
  split <;> simp [inp_len left C k]
/-- What holds of the compiler while the given images get their places. -/
structure InpOk (P : PipeN) (ms : List PicN) (n : Nat) (left : FnL) (k : Nat) (S : InC) : Prop where
 al : ∃ fs, AllocOk (mostP P) n (P.inp.toNat + P.ss.length) S.c.at_ fs ∧ S.c.free = freeL n fs
 code : S.c.code = []
 dom : ∀ m, (S.c.at_ m).isSome = true ↔ ∃ i : Nat, i < k ∧ m = (i : Int) ∧ 0 < numF (left (i : Int))
 ad : ∀ x ∈ S.inp, x = -1 ∨ ∃ t : Nat, t < mostP P ∧ x = (t : Int) * n
 mem : ∀ i : Nat, i < k → 0 < numF (left (i : Int)) → AtImg (memN S.inp ms k) (numF (S.c.at_ (i : Int))) (picAt ms i).px n
theorem inp_ok {P : PipeN} {ms : List PicN} (hP : pipeB P = true) (hg : givenB ms P.inp P.w P.h = true) {n : Nat} (hn : (n : Int) = P.w * P.h) :
  ∀ k, k ≤ P.inp.toNat → InpOk P ms n (lefF (lastI P) (rdsN P.inp P.ss) (rdsN P.inp P.ss).length) k (inpN (lefF (lastI P) (rdsN P.inp P.ss) (rdsN P.inp P.ss).length) ⟨fun _ => none, freeN (P.w * P.h) (mostP P), []⟩ k)
 | 0, _ => ⟨⟨_, alloc_zero _ _ _, by show freeN (P.w * P.h) (mostP P) = _; rw [← hn]; exact freeN_is n _⟩, rfl, fun m => ⟨fun h => (by cases h), fun ⟨i, h, _⟩ => (by omega)⟩, fun x hx => (by cases hx), fun i h => (by omega)⟩
 | k + 1, hk => by
  have ih := inp_ok hP hg hn k (by omega)
  obtain ⟨⟨w1, w2⟩, ⟨h1, h2⟩, ⟨i1, i2⟩, ⟨l1, l2⟩, hall⟩ := pipeB_true hP
  have hn0 : 0 < n := by have := Int.mul_pos (show 0 < P.w by omega) (show 0 < P.h by omega); omega
  have hr := refOk_of hP
  have hlen := inp_len (lefF (lastI P) (rdsN P.inp P.ss) (rdsN P.inp P.ss).length) ⟨fun _ => none, freeN (P.w * P.h) (mostP P), []⟩ k
  obtain ⟨q0, hq0, _⟩ := last_there hr (show 0 < P.ss.length by omega)
  have hres0 := res_bd hr (q := 0) (by omega)
  have hliv : ∀ m, (livN P.inp.toNat (lastI P) (rdsN P.inp P.ss) 0) m = if m = (rnAt (rdsN P.inp P.ss) 0).res then some (.bool true) else if 0 ≤ m ∧ m < P.inp.toNat ∧ 0 < numF (lefF (lastI P) (rdsN P.inp P.ss) (rdsN P.inp P.ss).length m) then some (.bool true) else none := fun m => by
   unfold livN putF; rw [plS]; simp only; rw [livI_at]
  have hmost : cntF (livN P.inp.toNat (lastI P) (rdsN P.inp P.ss) 0) (P.inp.toNat + P.ss.length) ≤ mostP P := most_le _ _ _ _ (by omega)
  obtain ⟨left, hleft⟩ : ∃ L, lefF (lastI P) (rdsN P.inp P.ss) (rdsN P.inp P.ss).length = L := ⟨_, rfl⟩
  rw [hleft] at ih hlen hliv ⊢
  obtain ⟨S, hS⟩ : ∃ S, inpN left ⟨fun _ => none, freeN (P.w * P.h) (mostP P), []⟩ k = S := ⟨_, rfl⟩
  rw [inpN]
  rw [hS] at ih hlen ⊢
  obtain ⟨⟨fs, a1, a2⟩, c1, d1, e1, m1⟩ := ih
  have hpic := fun i (hi : i < P.inp.toNat) => given_at hg (i := i) (by have := givenB_len hg; omega)
  have hpl : ∀ i, i < P.inp.toNat → (picAt ms i).px.length = n := fun i hi => by
   have := (vld_true (hpic i hi).v).2.2.1
   omega
  by_cases hz : numF (left (k : Int)) = 0
  ·rw [if_pos hz]
   refine ⟨⟨fs, a1, a2⟩, c1, fun m => ?_, fun x hx => ?_, fun i hi hp => ?_⟩
   ·simp only; rw [d1]
    constructor
    ·rintro ⟨i, h, r⟩; exact ⟨i, by omega, r⟩
    ·rintro ⟨i, h, r1, r2⟩
     by_cases e : i = k
     ·subst e; omega
     ·exact ⟨i, by omega, r1, r2⟩
   ·rcases List.mem_append.1 hx with hx | hx
    ·exact e1 x hx
    ·exact .inl (List.mem_singleton.1 hx)
   ·have hik : i < k := by
     rcases Nat.lt_or_ge i k with h | h
     ·exact h
     ·obtain rfl : i = k := by omega
      omega
    have := m1 i hik hp
    refine ⟨this.nn, fun j hj => ?_⟩
    show memN (S.inp ++ [-1]) ms (k + 1) _ = _
    rw [memN, memN_app _ _ _ _ (by omega), List.getElem?_append_right (by omega), hlen]
    unfold putImg
    rw [if_neg (by simp)]
    exact this.val j hj
  ·have hz' : 0 < numF (left (k : Int)) := by
    have := lefF_num (lastI P) (rdsN P.inp P.ss) (k : Int) (rdsN P.inp P.ss).length
    rw [hleft] at this
    omega
   rw [if_neg hz]
   have hnone : S.c.at_ (k : Int) = none := by
    cases hh : S.c.at_ (k : Int) with
    | none => rfl
    | some x =>
     obtain ⟨i, g1, g2, _⟩ := (d1 (k : Int)).1 (by rw [hh]; rfl)
     omega
   have hfs : fs ≠ [] := by
    intro e
    have hc := a1.cnt
    rw [e, List.length_nil] at hc
    have := cntF_lt (A := S.c.at_) (B := livN P.inp.toNat (lastI P) (rdsN P.inp P.ss) 0) (K := P.inp.toNat + P.ss.length) (fun j hj h => by
     obtain ⟨i, g1, g2, g3⟩ := (d1 _).1 h
     rw [hliv]
     by_cases e1 : (j : Int) = (rnAt (rdsN P.inp P.ss) 0).res
     ·rw [if_pos e1]; rfl
     ·rw [if_neg e1, if_pos ⟨by omega, by omega, by rw [g2]; exact g3⟩]; rfl) ⟨k, by omega, hnone, by
      rw [hliv]
      by_cases e1 : (k : Int) = (rnAt (rdsN P.inp P.ss) 0).res
      ·rw [if_pos e1]; rfl
      ·rw [if_neg e1, if_pos ⟨by omega, by omega, hz'⟩]; rfl⟩
    omega
   obtain ⟨fs2, t, p1, p2, p3, p4, p5, p6⟩ := place_ok hn0 a1 a2 hfs (show k < P.inp.toNat + P.ss.length by omega) hnone
   refine ⟨⟨fs2, p3, p4⟩, c1, fun m => ?_, fun x hx => ?_, fun i hi hp => ?_⟩
   ·simp only
    rw [p5]
    by_cases e : m = (k : Int)
    ·subst e; rw [putF_same]; exact ⟨fun _ => ⟨k, by omega, rfl, hz'⟩, fun _ => rfl⟩
    ·rw [putF_ne _ _ e, d1]
     constructor
     ·rintro ⟨i, h, r⟩; exact ⟨i, by omega, r⟩
     ·rintro ⟨i, h, r1, r2⟩
      by_cases e2 : i = k
      ·subst e2; exact absurd r1 e
      ·exact ⟨i, by omega, r1, r2⟩
   ·rcases List.mem_append.1 hx with hx | hx
    ·exact e1 x hx
    ·rw [List.mem_singleton.1 hx]; exact .inr ⟨t, p1, p2⟩
   ·show AtImg (memN (S.inp ++ [lastN S.c]) ms (k + 1)) _ _ _
    rw [memN, memN_app _ _ _ _ (by omega), List.getElem?_append_right (by omega), hlen]
    simp only [Nat.sub_self, List.getElem?_cons_zero, Option.getD_some]
    rw [p2, p5]
    have h0 : 0 ≤ (t : Int) * n := Int.mul_nonneg (by omega) (by omega)
    by_cases e : i = k
    ·subst e
     rw [putF_same]
     refine ⟨h0, fun j hj => ?_⟩
     unfold putImg
     show (if 0 ≤ (t : Int) * n ∧ (t : Int) * n ≤ ((((t : Int) * n).toNat + j : Nat) : Int) ∧ ((((t : Int) * n).toNat + j : Nat) : Int) < (t : Int) * n + (picAt ms i).px.length then _ else _) = _
     rw [hpl i (by omega), if_pos (by omega)]
     congr 1
     show ((((t : Int) * n).toNat + j : Nat) : Int) - (t : Int) * n = j
     omega
    ·rw [putF_ne _ _ (by omega)]
     have hm := m1 i (by omega) hp
     obtain ⟨x, hx⟩ := Option.isSome_iff_exists.1 ((d1 (i : Int)).2 ⟨i, by omega, rfl, hp⟩)
     obtain ⟨ti, g1, g2, _⟩ := a1.at_ _ _ hx
     subst g2
     have hne : ti ≠ t := fun e3 => by subst e3; exact p6 _ _ hx rfl
     have hap := place_apart (n := n) hne
     rw [hx] at hm ⊢
     refine ⟨hm.nn, fun j hj => ?_⟩
     unfold putImg
     rw [hpl k (by omega), if_neg]
     ·exact hm.val j hj
     ·show ¬ (0 ≤ (t : Int) * n ∧ (t : Int) * n ≤ ((((ti : Int) * n).toNat + j : Nat) : Int) ∧ ((((ti : Int) * n).toNat + j : Nat) : Int) < (t : Int) * n + n)
      have : 0 ≤ (ti : Int) * n := Int.mul_nonneg (by omega) (by omega)
      omega
/-- Before the first round. -/
theorem cmp_start {P : PipeN} {ms : List PicN} (hP : pipeB P = true) (hg : givenB ms P.inp P.w P.h = true) {n : Nat} (hn : (n : Int) = P.w * P.h) :
  CmpOk P ms n 0 (cmp0 P (mostP P)).c (memN (cmp0 P (mostP P)).inp ms P.inp.toNat) ∧ (cmp0 P (mostP P)).c.code = [] ∧ (∀ x ∈ (cmp0 P (mostP P)).inp, x = -1 ∨ ∃ t : Nat, t < mostP P ∧ x = (t : Int) * n) ∧ (cmp0 P (mostP P)).inp.length = P.inp.toNat := by
 obtain ⟨al, code, dom, ad, mem⟩ := inp_ok hP hg hn P.inp.toNat (Nat.le_refl _)
 obtain ⟨_, _, ⟨i1, i2⟩, _, _⟩ := pipeB_true hP
 have hl := givenB_len hg
 have hlive : ∀ m, (plS P.inp.toNat (lastI P) (rdsN P.inp P.ss) 0).live m = if 0 ≤ m ∧ m < P.inp.toNat ∧ 0 < numF (lefF (lastI P) (rdsN P.inp P.ss) (rdsN P.inp P.ss).length m) then some (.bool true) else none := fun m => by rw [plS]; simp only; rw [livI_at]
 refine ⟨⟨al, fun m hm => ?_, fun m hm => ?_, fun m hm => ?_⟩, code, ad, inp_len _ _ _⟩
 ·obtain ⟨i, h1, h2, h3⟩ := (dom m).1 hm
  exact .inl ⟨by omega, by omega⟩
 ·rw [hlive] at hm
  split at hm
  ·rename_i h
   exact (dom m).2 ⟨m.toNat, by omega, by omega, by rw [show ((m.toNat : Nat) : Int) = m by omega]; exact h.2.2⟩
  ·cases hm
 ·rw [hlive] at hm
  split at hm
  ·rename_i h
   obtain ⟨i, rfl⟩ : ∃ i : Nat, m = (i : Int) := ⟨m.toNat, by omega⟩
   rw [imN_in (by omega) (by omega)]
   exact mem i (by omega) h.2.2
  ·cases hm
/-- Before any round, and behind the last one. -/
theorem cmp_all {P : PipeN} {ms : List PicN} (hP : pipeB P = true) (hg : givenB ms P.inp P.w P.h = true) {n : Nat} (hn : (n : Int) = P.w * P.h) {lanes : Int} (hl : 1 ≤ lanes) :
  ∀ k, k ≤ (rdsN P.inp P.ss).length → CmpOk P ms n k (cmpS P lanes k) (runM lanes.toNat (cmpS P lanes k).code ⟨fun _ _ => 0, memN (cmp0 P (mostP P)).inp ms P.inp.toNat⟩).mem
 | 0, _ => by
  obtain ⟨h1, h2, _⟩ := cmp_start hP hg hn
  rw [cmpS, h2, runM_nil]; exact h1
 | k + 1, hk => by
  have ih := cmp_all hP hg hn hl k (by omega)
  obtain ⟨code', h1, h2, _⟩ := cmp_round hP hg hn hl (show k < (rdsN P.inp P.ss).length by omega) ih
  rw [cmpS, h1, runM_app]
  exact h2
theorem outN_px {M : MacN} {p : Int} {xs : List Int} {n : Nat} (h : AtImg M.mem p xs n) (hl : xs.length = n) : outN M p n = xs := by
 subst hl
 unfold outN
 refine List.ext_getElem (by simp) fun i h1 h2 => ?_
 simp only [List.getElem_map, List.getElem_range]
 rw [h.val i h2]
 unfold px; rw [Int.toNat_natCast, List.getElem?_eq_getElem h2]; rfl
/-- The result of the code's run. -/
theorem cmp_result {P : PipeN} {ms : List PicN} (hP : pipeB P = true) (hg : givenB ms P.inp P.w P.h = true) {lanes : Int} (hl : 1 ≤ lanes) :
  (∃ t : Nat, t < mostP P ∧ numF ((cmpS P lanes (rdsN P.inp P.ss).length).at_ (lastI P)) = (t : Int) * (P.w.toNat * P.h.toNat : Nat)) ∧
  outN (runM lanes.toNat (cmpS P lanes (rdsN P.inp P.ss).length).code ⟨fun _ _ => 0, memN (cmp0 P (mostP P)).inp ms P.inp.toNat⟩) (numF ((cmpS P lanes (rdsN P.inp P.ss).length).at_ (lastI P))) (P.w.toNat * P.h.toNat) = (meanN P ms).px := by
 obtain ⟨⟨w1, w2⟩, ⟨h1, h2⟩, ⟨i1, i2⟩, ⟨l1, l2⟩, hall⟩ := pipeB_true hP
 have hn : ((P.w.toNat * P.h.toNat : Nat) : Int) = P.w * P.h := by push_cast; rw [Int.toNat_of_nonneg (by omega), Int.toNat_of_nonneg (by omega)]
 have hl' := givenB_len hg
 have hr := refOk_of hP
 have hC := cmp_all hP hg hn hl (rdsN P.inp P.ss).length (Nat.le_refl _)
 obtain ⟨q, hq, hqr⟩ := last_there hr (show 0 < P.ss.length by omega)
 have hli : (plS P.inp.toNat (lastI P) (rdsN P.inp P.ss) (rdsN P.inp P.ss).length).live (lastI P) = some (.bool true) := by
  have hlf := plS_left P.inp.toNat (lastI P) (rdsN P.inp P.ss) (lastI P) (rdsN P.inp P.ss).length
  have hone : isL (lastI P) (lastI P) = 1 := by unfold isL; rw [if_pos rfl]
  rcases plS_live (I := P.inp.toNat) (last := lastI P) (res_not_ops hr) (lastI P) (rdsN P.inp P.ss).length (Nat.le_refl _) with ⟨e, _⟩ | ⟨_, e⟩
  ·exact e
  ·exact absurd ⟨.inr ⟨q, hq, by rw [hqr]; rfl⟩, by omega⟩ e
 have hm := hC.mem _ hli
 obtain ⟨fs, a1, _⟩ := hC.al
 obtain ⟨x, hx⟩ := Option.isSome_iff_exists.1 (hC.lv _ hli)
 obtain ⟨t, g1, g2, _⟩ := a1.at_ _ _ hx
 have hmean : meanN P ms = imN P ms (lastI P) := by
  unfold meanN imN lastI
  congr 1
  omega
 have hpic := imN_all hP hg P.ss.length (Nat.le_refl _) (lastI P) (by unfold lastI; omega) (by unfold lastI; omega)
 have hlen : (imN P ms (lastI P)).px.length = P.w.toNat * P.h.toNat := by have := (vld_true hpic.v).2.2.1; omega
 exact ⟨⟨t, g1, by rw [hx, g2]; rfl⟩, by rw [hmean]; exact outN_px hm hlen⟩
end Go.Proofs.YtekiemlniegddaaGreat
namespace Go.Proofs.YtekiemlniegddaaGreat
open Go Go.RowKit Go.Shelf
/-- A machine's numbers, for the code of images of a size. -/
structure VecOk (v : VecN) (w h : Int) (n mx : Nat) : Prop where
 l : 1 ≤ v.lanes ∧ v.lanes ≤ 16
 r : 2 ≤ v.regs ∧ v.regs ≤ 16
 we : 1 ≤ w ∧ w ≤ 16
 he : 1 ≤ h ∧ h ≤ 16
 ne : (n : Int) = w * h
 m : (mx : Int) * n ≤ v.mem
section
variable {v : VecN} {w h : Int} {n mx : Nat}
theorem place_in (hv : VecOk v w h n mx) {t : Nat} (ht : t < mx) : 0 ≤ (t : Int) * n ∧ (t : Int) * n + n ≤ v.mem := by
 have h1 := Nat.mul_le_mul_right n (show t + 1 ≤ mx by omega)
 rw [Nat.add_mul, Nat.one_mul] at h1
 have h2 : (t : Int) * n + n ≤ (mx : Int) * n := by exact_mod_cast h1
 have := hv.m
 exact ⟨Int.mul_nonneg (by omega) (by omega), by omega⟩
theorem adr_ok (hv : VecOk v w h n mx) (g : Nat) {p : Int} (hp : 0 ≤ p ∧ p + n ≤ v.mem) (dx dy bd : Int) : adrB v (adrN w h v.lanes.toNat g p dx dy bd) = true := by
 have hm : 0 < v.mem := by have h1 := hv.ne; have := Int.mul_pos (show 0 < w by have := hv.we; omega) (show 0 < h by have := hv.he; omega); omega
 unfold adrB adrN
 rw [Bool.and_eq_true, List.all_eq_true]
 refine ⟨by rw [List.length_map, List.length_range, decide_eq_true_eq]; have := hv.l; omega, fun x hx => ?_⟩
 obtain ⟨j, _, rfl⟩ := List.mem_map.1 hx
 rw [inR_true]
 unfold adrAt
 have hb := cell_bd (w := w) (h := h) (x := ((g * v.lanes.toNat + j : Nat) : Int) % w + dx) (y := ((g * v.lanes.toNat + j : Nat) : Int) / w + dy) (bd := bd) hv.we.1 hv.he.1
 have := hv.ne
 split
 ·split <;> omega
 ·omega
theorem insL_ok (hv : VecOk v w h n mx) (g : Nat) {d p : Int} (hd : d = 0 ∨ d = 1) (hp : 0 ≤ p ∧ p + n ≤ v.mem) (dx dy bd : Int) {val : Int} (hval : -2147483648 ≤ val ∧ val ≤ 2147483648) : insB v (insL w h v.lanes.toNat g d p dx dy val bd) = true := by
 have hr := hv.r
 show (if (1 : Int) = 1 then inR d 0 (v.regs - 1) && (inR val (-2147483648) 2147483648 && adrB v (adrN w h v.lanes.toNat g p dx dy bd)) else _) = true
 rw [if_pos rfl, adr_ok hv g hp]
 simp only [Bool.and_true, Bool.and_eq_true, inR_true]
 omega
theorem insS_ok (hv : VecOk v w h n mx) (g : Nat) {p : Int} (hp : 0 ≤ p ∧ p + n ≤ v.mem) : insB v (insS w h v.lanes.toNat g p) = true := by
 have hr := hv.r
 show (if (2 : Int) = 1 then _ else if (2 : Int) = 2 then inR 0 0 (v.regs - 1) && adrB v (adrN w h v.lanes.toNat g p 0 0 0) else _) = true
 rw [if_neg (by decide), if_pos rfl, adr_ok hv g hp]
 simp only [Bool.and_true, inR_true]
 omega
theorem insP_ok (hv : VecOk v w h n mx) {p : PointN} (hp : p.ok = true) : insB v (insP p) = true := by
 have hr := hv.r
 unfold insB insP
 simp only [show ¬ (4 : Int) = 1 by decide, show ¬ (4 : Int) = 2 by decide, show ¬ (4 : Int) = 3 by decide, if_false, if_true, hp, Bool.and_true, Bool.and_eq_true, inR_true]
 omega
theorem insZ_ok (hv : VecOk v w h n mx) {how : Int} (hh : 1 ≤ how ∧ how ≤ 6) : insB v (insZ how) = true := by
 have hr := hv.r
 unfold insB insZ
 simp only [show ¬ (5 : Int) = 1 by decide, show ¬ (5 : Int) = 2 by decide, show ¬ (5 : Int) = 3 by decide, show ¬ (5 : Int) = 4 by decide, if_false, if_true, Bool.and_eq_true, inR_true]
 omega
theorem insA_ok (hv : VecOk v w h n mx) {x : Int} (hx : -65536 ≤ x ∧ x ≤ 65536) : insB v (insA x) = true := by
 have hr := hv.r
 unfold insB insA
 simp only [show ¬ (6 : Int) = 1 by decide, show ¬ (6 : Int) = 2 by decide, show ¬ (6 : Int) = 3 by decide, show ¬ (6 : Int) = 4 by decide, show ¬ (6 : Int) = 5 by decide, if_false, if_true, Bool.and_eq_true, inR_true]
 omega
theorem insC_ok (hv : VecOk v w h n mx) : insB v insC = true := by
 have hr := hv.r
 unfold insB insC
 simp only [show ¬ (3 : Int) = 1 by decide, show ¬ (3 : Int) = 2 by decide, if_false, if_true, Bool.and_eq_true, inR_true]
 omega
theorem taps_ok (hv : VecOk v w h n mx) (g : Nat) {p : Int} (hp : 0 ≤ p ∧ p + n ≤ v.mem) {s : StepN} (ht : allIn (-65536) 65536 s.taps = true) : ∀ k, ∀ x ∈ tapsC w h v.lanes.toNat g p s k, insB v x = true
 | 0, x, hx => by cases hx
 | k + 1, x, hx => by
  rw [tapsC] at hx
  rcases List.mem_append.1 hx with hx | hx
  ·exact taps_ok hv g hp ht k x hx
  ·have hb := px_bdB (B := 65536) (by decide) ht (k : Int)
   rw [← getD_px] at hb
   split at hx
   ·cases hx
   ·simp only [List.mem_cons, List.not_mem_nil, or_false] at hx
    rcases hx with rfl | rfl
    ·exact insL_ok hv g (.inr rfl) hp _ _ _ (by omega)
    ·exact insA_ok hv hb
theorem bits_ok (hv : VecOk v w h n mx) (g : Nat) {p : Int} (hp : 0 ≤ p ∧ p + n ≤ v.mem) (s : StepN) : ∀ k, ∀ x ∈ bitsC w h v.lanes.toNat g p s k, insB v x = true
 | 0, x, hx => by cases hx
 | k + 1, x, hx => by
  rw [bitsC] at hx
  have hval : -2147483648 ≤ valC s ∧ valC s ≤ 2147483648 := by unfold valC; split <;> omega
  rcases List.mem_append.1 hx with hx | hx
  ·exact bits_ok hv g hp s k x hx
  ·split at hx
   ·cases hx
   split at hx
   ·simp only [List.mem_cons, List.not_mem_nil, or_false] at hx
    subst hx
    exact insL_ok hv g (.inl rfl) hp _ _ _ hval
   ·simp only [List.mem_cons, List.not_mem_nil, or_false] at hx
    rcases hx with rfl | rfl
    ·exact insL_ok hv g (.inr rfl) hp _ _ _ hval
    ·exact insZ_ok hv (by unfold howC; split <;> omega)
theorem head_ok (hv : VecOk v w h n mx) (g : Nat) {F : FnL} {s : StepN} (hs : needB s = true) (hp : ∀ m ∈ opsN s, 0 ≤ numF (F m) ∧ numF (F m) + n ≤ v.mem) : ∀ x ∈ headC w h v.lanes.toNat g F s, insB v x = true := by
 intro x hx
 have ha := hp _ (opsN_a s)
 unfold needB at hs
 unfold headC at hx
 by_cases h1 : s.op = 1
 ·rw [if_pos h1] at hs hx
  simp only [List.mem_cons, List.not_mem_nil, or_false] at hx
  rcases hx with rfl | rfl
  ·exact insL_ok hv g (.inl rfl) ha _ _ _ (by omega)
  ·exact insP_ok hv hs
 rw [if_neg h1] at hs hx
 by_cases h2 : s.op = 2
 ·rw [if_pos h2] at hs hx
  rw [decide_eq_true_eq] at hs
  have hb : 0 ≤ numF (F s.b) ∧ numF (F s.b) + n ≤ v.mem := by
   by_cases hab : s.a = s.b
   ·rw [← hab]; exact ha
   ·exact hp _ (by unfold opsN; rw [if_pos ⟨h2, hab⟩]; simp)
  simp only [List.mem_cons, List.not_mem_nil, or_false] at hx
  rcases hx with rfl | rfl | rfl
  ·exact insL_ok hv g (.inl rfl) ha _ _ _ (by omega)
  ·exact insL_ok hv g (.inr rfl) hb _ _ _ (by omega)
  ·exact insZ_ok hv hs
 rw [if_neg h2] at hs hx
 by_cases h3 : s.op = 3
 ·rw [if_pos h3] at hs hx
  rw [Bool.and_eq_true] at hs
  rcases List.mem_cons.1 hx with rfl | hx
  ·exact insC_ok hv
  ·exact taps_ok hv g ha (kern_facts hs.1).2.2.2.2 _ x hx
 rw [if_neg h3] at hx
 exact bits_ok hv g ha s _ x hx
theorem round_ok (hv : VecOk v w h n mx) {F : FnL} {r : RndN} {to : Int} (hs : needB r.head = true) (hps : ∀ p ∈ r.pts, p.ok = true) (hp : ∀ m ∈ opsN r.head, 0 ≤ numF (F m) ∧ numF (F m) + n ≤ v.mem) (hto : 0 ≤ to ∧ to + n ≤ v.mem) :
  ∀ k, ∀ x ∈ roundC w h v.lanes.toNat F r to k, insB v x = true
 | 0, x, hx => by cases hx
 | k + 1, x, hx => by
  rw [roundC] at hx
  rcases List.mem_append.1 hx with hx | hx
  ·exact round_ok hv hs hps hp hto k x hx
  ·unfold groupC at hx
   rcases List.mem_append.1 hx with hx | hx
   ·rcases List.mem_append.1 hx with hx | hx
    ·exact head_ok hv k hs hp x hx
    ·obtain ⟨p, hpp, rfl⟩ := List.mem_map.1 hx
     exact insP_ok hv (hps p hpp)
   ·rw [List.mem_singleton.1 hx]; exact insS_ok hv k hto
end
/-! ### Lengths -/
def nzN (l : List Int) : Nat → Nat
 | 0 => 0
 | k + 1 => nzN l k + if l[k]?.getD 0 = 0 then 0 else 1
def trN (l : List Bool) : Nat → Nat
 | 0 => 0
 | k + 1 => trN l k + if l[k]?.getD false = true then 1 else 0
/-- What a head adds to the length. -/
def headL (s : StepN) : Nat := if s.op = 1 then 3 else if s.op = 2 then 4 else if s.op = 3 then 2 + 2 * nzN s.taps s.taps.length else 2 * trN s.bits s.bits.length
def lenR (rs : List RndN) : Nat → Nat
 | 0 => 0
 | k + 1 => lenR rs k + ((rnAt rs k).pts.length + headL (rnAt rs k).head)
def lenP (P : PipeN) (lanes : Int) : Int := (lenR (rdsN P.inp P.ss) (rdsN P.inp P.ss).length : Int) * grpsN P.w P.h lanes
theorem taps_len (w h : Int) (lanes g : Nat) (p : Int) (s : StepN) : ∀ k, (tapsC w h lanes g p s k).length = 2 * nzN s.taps k
 | 0 => rfl
 | k + 1 => by
  rw [tapsC, List.length_append, taps_len w h lanes g p s k, nzN]
  split <;> simp <;> omega
theorem bits_len (w h : Int) (lanes g : Nat) (p : Int) (s : StepN) : ∀ k, (bitsC w h lanes g p s k).length + (if noBit s k = true then 0 else 1) = 2 * trN s.bits k ∧ (noBit s k = true → trN s.bits k = 0)
 | 0 => by simp [bitsC, noBit, trN]
 | k + 1 => by
  obtain ⟨i1, i2⟩ := bits_len w h lanes g p s k
  have hb : bitAt s k = s.bits[k]?.getD false := rfl
  rw [bitsC, List.length_append, trN, show noBit s (k + 1) = (noBit s k && !bitAt s k) from rfl]
  cases hbit : bitAt s k with
  | false =>
   rw [hbit] at hb
   rw [if_pos rfl, ← hb]
   simp only [Bool.not_false, Bool.and_true, Bool.false_eq_true, if_false, Nat.add_zero, List.length_nil]
   exact ⟨i1, i2⟩
  | true =>
   rw [hbit] at hb
   rw [if_neg (by simp), ← hb]
   simp only [Bool.not_true, Bool.and_false, Bool.false_eq_true, if_false, if_true]
   refine ⟨?_, fun h => by cases h⟩
   cases hnb : noBit s k with
   | true => rw [hnb] at i1; have := i2 hnb; simp at *; omega
   | false => rw [hnb] at i1; simp at *; omega
theorem tr_pos (l : List Bool) : ∀ k, k ≤ l.length → trN l k = 0 → (l.take k).any (fun x => decide (true = x)) = false
 | 0, _, _ => by simp
 | k + 1, hk, h => by
  rw [trN] at h
  rw [List.take_succ_eq_append_getElem (by omega : k < l.length), List.any_append, tr_pos l k (by omega) (by omega)]
  rw [List.getElem?_eq_getElem (by omega)] at h
  cases hx : l[k] with
  | false => simp
  | true => rw [hx] at h; simp at h
theorem group_len {w h : Int} {lanes g : Nat} {F : FnL} {r : RndN} {to : Int} (hs : needB r.head = true) : (groupC w h lanes g F r to).length = r.pts.length + headL r.head := by
 unfold groupC headC headL
 unfold needB at hs
 rw [List.length_append, List.length_append, List.length_map, List.length_singleton]
 by_cases h1 : r.head.op = 1
 ·rw [if_pos h1, if_pos h1]; simp; omega
 rw [if_neg h1] at hs
 rw [if_neg h1, if_neg h1]
 by_cases h2 : r.head.op = 2
 ·rw [if_pos h2, if_pos h2]; simp; omega
 rw [if_neg h2] at hs
 rw [if_neg h2, if_neg h2]
 by_cases h3 : r.head.op = 3
 ·rw [if_pos h3, if_pos h3, List.length_cons, taps_len]; omega
 rw [if_neg h3] at hs
 rw [if_neg h3, if_neg h3]
 obtain ⟨b1, b2⟩ := bits_len w h lanes g (numF (F r.head.a)) r.head r.head.bits.length
 have hsh : shapeOk r.head.sw r.head.sh r.head.bits = true := by
  by_cases h45 : r.head.op = 4 ∨ r.head.op = 5
  ·rw [if_pos h45] at hs; exact hs
  ·rw [if_neg h45] at hs; cases hs
 have hany := (shape_facts hsh).2.2.2.2
 have hne : trN r.head.bits r.head.bits.length ≠ 0 := fun e => by
  have := tr_pos r.head.bits _ (Nat.le_refl _) e
  rw [List.take_length, hany] at this; cases this
 have hnb : noBit r.head r.head.bits.length = false := by
  cases hh : noBit r.head r.head.bits.length with
  | false => rfl
  | true => exact absurd (b2 hh) hne
 rw [hnb] at b1
 simp at b1
 omega
theorem round_len {w h : Int} {lanes : Nat} {F : FnL} {r : RndN} {to : Int} (hs : needB r.head = true) : ∀ k, (roundC w h lanes F r to k).length = (r.pts.length + headL r.head) * k
 | 0 => rfl
 | k + 1 => by rw [roundC, List.length_append, round_len hs k, group_len hs, Nat.mul_succ]
/-- Images of zeros. -/
def zeroPics (P : PipeN) : List PicN := List.replicate P.inp.toNat ⟨P.w, P.h, img P.w.toNat P.h.toNat (fun _ _ => 0)⟩
theorem zero_given {P : PipeN} (hP : pipeB P = true) : givenB (zeroPics P) P.inp P.w P.h = true := by
 obtain ⟨hw, hh, hi, _, _⟩ := pipeB_true hP
 unfold givenB zeroPics
 rw [Bool.and_eq_true, decide_eq_true_eq, List.all_eq_true]
 refine ⟨by simp; omega, fun m hm => ?_⟩
 obtain ⟨_, rfl⟩ := List.mem_replicate.1 hm
 simp [img_vld hw hh]
/-- All compiled instructions are valid; how many there are. -/
theorem cmp_code {P : PipeN} (hP : pipeB P = true) {v : VecN} (hv : VecOk v P.w P.h (P.w.toNat * P.h.toNat) (mostP P)) :
  ∀ k, k ≤ (rdsN P.inp P.ss).length → (∀ x ∈ (cmpS P v.lanes k).code, insB v x = true) ∧ (cmpS P v.lanes k).code.length = lenR (rdsN P.inp P.ss) k * (grpsN P.w P.h v.lanes).toNat
 | 0, _ => by
  obtain ⟨_, h2, _⟩ := cmp_start hP (zero_given hP) hv.ne
  rw [cmpS, h2]
  exact ⟨fun x hx => (by cases hx), by simp [lenR]⟩
 | k + 1, hk => by
  obtain ⟨i1, i2⟩ := cmp_code hP hv k (by omega)
  have hC := cmp_all hP (zero_given hP) hv.ne hv.l.1 k (by omega)
  obtain ⟨code', h1, _, F, to, rfl, ⟨t, ht, rfl⟩, hop⟩ := cmp_round hP (zero_given hP) hv.ne hv.l.1 (show k < (rdsN P.inp P.ss).length by omega) hC
  obtain ⟨_, _, _, _, hall⟩ := pipeB_true hP
  have hhead := (rdsN_ok (refOk_of hP)).head k (by unfold rdsN at hk; omega)
  change (rnAt (rdsN P.inp P.ss) k).at_ < P.ss.length ∧ (rnAt (rdsN P.inp P.ss) k).head = stAt P.ss (rnAt (rdsN P.inp P.ss) k).at_ at hhead
  have hneed := (stepsB_all hall hhead.1).1
  rw [← hhead.2] at hneed
  have hchain := (rds_chain hP (zero_given hP) P.ss.length (Nat.le_refl _) k (by unfold rdsN at hk; omega)).2
  change ∀ p ∈ (rnAt (rdsN P.inp P.ss) k).pts, p.ok = true at hchain
  rw [cmpS, h1]
  refine ⟨fun x hx => ?_, ?_⟩
  ·rcases List.mem_append.1 hx with hx | hx
   ·exact i1 x hx
   ·exact round_ok hv hneed hchain (fun m hm => by obtain ⟨tm, g1, g2⟩ := hop m hm; rw [g2]; exact place_in hv g1) (place_in hv ht) _ x hx
  ·rw [List.length_append, i2, round_len hneed, lenR]; exact (Nat.add_mul _ _ _).symm
theorem nz_le (l : List Int) : ∀ k, nzN l k ≤ k
 | 0 => Nat.le_refl _
 | k + 1 => by have := nz_le l k; rw [nzN]; split <;> omega
theorem tr_le (l : List Bool) : ∀ k, trN l k ≤ k
 | 0 => Nat.le_refl _
 | k + 1 => by have := tr_le l k; rw [trN]; split <;> omega
theorem headL_le {s : StepN} (hs : needB s = true) : headL s ≤ 52 := by
 unfold needB at hs
 unfold headL
 by_cases h1 : s.op = 1
 ·rw [if_pos h1]; omega
 rw [if_neg h1] at hs ⊢
 by_cases h2 : s.op = 2
 ·rw [if_pos h2]; omega
 rw [if_neg h2] at hs ⊢
 by_cases h3 : s.op = 3
 ·rw [if_pos h3] at hs ⊢
  rw [Bool.and_eq_true] at hs
  have := (kern_facts hs.1).2.2.2.1
  have := nz_le s.taps s.taps.length
  omega
 rw [if_neg h3] at hs ⊢
 have hsh : shapeOk s.sw s.sh s.bits = true := by
  by_cases h45 : s.op = 4 ∨ s.op = 5
  ·rw [if_pos h45] at hs; exact hs
  ·rw [if_neg h45] at hs; cases hs
 have := (shape_facts hsh).2.2.2.1
 have := tr_le s.bits s.bits.length
 omega
def sumR (l : List RndN) : Nat := (l.map fun r => r.pts.length + 1).sum
/-- Points and heads together are the steps. -/
theorem pts_count {I : Int} {ss : List StepN} (hr : RefOk I ss) : ∀ k, k ≤ ss.length → sumR (rdsS I (useF ss ss.length) ss k).out = k
 | 0, _ => rfl
 | k + 1, hk => by
  have ih := pts_count hr k (by omega)
  have ok1 := rds_ok hr k (by omega)
  rw [rdsS]
  cases hc : carB I (useF ss ss.length) (stAt ss k) with
  | false =>
   rw [if_neg (by simp)]
   simp only
   unfold sumR at ih ⊢
   rw [List.map_append, List.sum_append, ih]; simp
  | true =>
   rw [if_pos rfl]
   obtain ⟨t, ht, hof, hres⟩ := of_here ok1 hr (by omega) hc
   rw [hof]
   have htn : (numF (some (ilit (t : Int)))).toNat = t := by show ((t : Int)).toNat = t; simp
   rw [htn]
   obtain ⟨l, hl⟩ : ∃ l, (rdsS I (useF ss ss.length) ss k).out = l := ⟨_, rfl⟩
   rw [hl] at ih ht ⊢
   simp only
   unfold sumR at ih ⊢
   have key : ∀ (l : List RndN) (t : Nat), t < l.length → ((l.set t (carR (rnAt l t) (stAt ss k).pt (I + k))).map fun r => r.pts.length + 1).sum = (l.map fun r => r.pts.length + 1).sum + 1 := by
    intro l
    induction l with
    | nil => intro t h; simp at h
    | cons a l ih =>
     intro t h
     cases t with
     | zero => simp [rnAt, carR]; omega
     | succ t =>
      have := ih t (by simpa using h)
      simp only [List.set_cons_succ, List.map_cons, List.sum_cons]
      have e : rnAt (a :: l) (t + 1) = rnAt l t := by simp [rnAt]
      rw [e, this]; omega
   rw [key l t ht, ih]
theorem lenR_le {P : PipeN} (hP : pipeB P = true) : lenR (rdsN P.inp P.ss) (rdsN P.inp P.ss).length ≤ 52 * P.ss.length := by
 obtain ⟨_, _, _, _, hall⟩ := pipeB_true hP
 have hr := refOk_of hP
 have h1 := pts_count hr P.ss.length (Nat.le_refl _)
 change sumR (rdsN P.inp P.ss) = _ at h1
 unfold sumR at h1
 have hneed : ∀ q, q < (rdsN P.inp P.ss).length → needB (rnAt (rdsN P.inp P.ss) q).head = true := fun q hq => by
  have hhead := (rdsN_ok hr).head q hq
  change (rnAt (rdsN P.inp P.ss) q).at_ < P.ss.length ∧ (rnAt (rdsN P.inp P.ss) q).head = stAt P.ss (rnAt (rdsN P.inp P.ss) q).at_ at hhead
  rw [hhead.2]; exact (stepsB_all hall hhead.1).1
 obtain ⟨rs, hrs⟩ : ∃ rs, rdsN P.inp P.ss = rs := ⟨_, rfl⟩
 rw [hrs] at h1 hneed ⊢
 rw [← h1]
 suffices key : ∀ k, k ≤ rs.length → lenR rs k ≤ 52 * ((rs.take k).map fun r => r.pts.length + 1).sum by
  have := key rs.length (Nat.le_refl _)
  rwa [List.take_length] at this
 intro k
 induction k with
 | zero => intro _; simp [lenR]
 | succ k ih =>
  intro hk
  have := ih (by omega)
  have hb := headL_le (hneed k (by omega))
  have e : rnAt rs k = rs[k] := by unfold rnAt; rw [List.getElem?_eq_getElem (by omega)]; rfl
  rw [lenR, List.take_succ_eq_append_getElem (by omega : k < rs.length), List.map_append, List.sum_append]
  simp only [List.map_cons, List.map_nil, List.sum_cons, List.sum_nil]
  rw [e] at hb ⊢
  omega
theorem grps_le {w h lanes : Int} (hw : 1 ≤ w ∧ w ≤ 16) (hh : 1 ≤ h ∧ h ≤ 16) (hl : 1 ≤ lanes ∧ lanes ≤ 16) : 0 ≤ grpsN w h lanes ∧ grpsN w h lanes ≤ 256 := by
 have h1 := prod_bd (a := w) (x := h) (m := 16) (n := 16) (by omega) (by omega) (by omega) (by omega) (by omega)
 have h0 := Int.mul_pos (show 0 < w by omega) (show 0 < h by omega)
 unfold grpsN
 refine ⟨Int.ediv_nonneg (by omega) (by omega), ?_⟩
 have : (w * h + lanes - 1) / lanes < 257 := Int.ediv_lt_of_lt_mul (by omega) (by
  have : w * h ≤ 256 := by omega
  have := Int.mul_le_mul_of_nonneg_left hl.1 (show (0 : Int) ≤ 257 by omega)
  omega)
 omega
/-- The compiled code is valid, and as long as Length says. -/
theorem cmp_valid {P : PipeN} (hP : pipeB P = true) {v : VecN} (hvec : vecB v = true) (hroom : roomP P ≤ v.mem) : chkS v (cmpC P v) = 0 ∧ ((cmpC P v).ins.length : Int) = lenP P v.lanes := by
 have hP' := hP
 obtain ⟨hw, hh, hi, ⟨l1, l2⟩, hall⟩ := pipeB_true hP
 unfold vecB at hvec
 simp only [Bool.and_eq_true, inR_true] at hvec
 have hn : ((P.w.toNat * P.h.toNat : Nat) : Int) = P.w * P.h := by push_cast; rw [Int.toNat_of_nonneg (by omega), Int.toNat_of_nonneg (by omega)]
 have hv : VecOk v P.w P.h (P.w.toNat * P.h.toNat) (mostP P) := ⟨hvec.1, hvec.2.1, hw, hh, hn, by rw [hn, ← Int.mul_assoc]; exact hroom⟩
 obtain ⟨c1, c2⟩ := cmp_code hP hv (rdsN P.inp P.ss).length (Nat.le_refl _)
 obtain ⟨_, _, s3, s4⟩ := cmp_start hP (zero_given hP) hn
 obtain ⟨⟨t, t1, t2⟩, _⟩ := cmp_result hP (zero_given hP) hvec.1.1
 have hlen := lenR_le hP
 have hgr := grps_le hw hh hvec.1
 have hcl : (cmpS P v.lanes (rdsN P.inp P.ss).length).code.length ≤ 200000 := by
  rw [c2]
  have := Nat.mul_le_mul (show lenR (rdsN P.inp P.ss) (rdsN P.inp P.ss).length ≤ 52 * 12 by omega) (show (grpsN P.w P.h v.lanes).toNat ≤ 256 by omega)
  omega
 refine ⟨?_, ?_⟩
 ·have hb : codeB v (cmpC P v) = true := by
   unfold codeB cmpC
   simp only [Bool.and_eq_true, inR_true, decide_eq_true_eq, List.all_eq_true]
   have hp := place_in hv t1
   rw [← t2] at hp
   refine ⟨⟨hw, hh⟩, by omega, hcl, by omega, fun x hx => ?_, c1⟩
   rcases s3 x hx with e | ⟨u, u1, u2⟩
   ·simp [e]
   ·have := place_in hv u1
    simp only [Bool.or_eq_true, decide_eq_true_eq, inR_true]
    right
    rw [u2]; omega
  have hvb : vecB v = true := by unfold vecB; simp only [Bool.and_eq_true, inR_true]; exact hvec
  unfold chkS
  rw [if_pos hvb, if_pos hb]
 ·show ((cmpS P v.lanes (rdsN P.inp P.ss).length).code.length : Int) = _
  rw [c2]
  unfold lenP
  push_cast
  rw [Int.toNat_of_nonneg hgr.1]
/-- THE STAGE'S THEOREM, in plain numbers: the code that is compiled gives the meaning. -/
theorem cmp_mean {P : PipeN} (hP : pipeB P = true) {v : VecN} (hvec : vecB v = true) (hroom : roomP P ≤ v.mem) {ms : List PicN} (hg : givenB ms P.inp P.w P.h = true) : runS v (cmpC P v) ms = meanS P ms := by
 obtain ⟨hc, _⟩ := cmp_valid hP hvec hroom
 unfold vecB at hvec
 simp only [Bool.and_eq_true, inR_true] at hvec
 obtain ⟨hw, hh, hi, hl, _⟩ := pipeB_true hP
 obtain ⟨_, _, s3, s4⟩ := cmp_start (ms := ms) hP hg (n := P.w.toNat * P.h.toNat) (by push_cast; rw [Int.toNat_of_nonneg (by omega), Int.toNat_of_nonneg (by omega)])
 obtain ⟨_, r2⟩ := cmp_result hP hg hvec.1.1
 have hin : ((cmpC P v).inp.length : Int) = P.inp := by show ((cmp0 P (mostP P)).inp.length : Int) = _; omega
 have hmean : (meanN P ms).w = P.w ∧ (meanN P ms).h = P.h := by
  have hl' := givenB_len hg
  have : meanN P ms = imN P ms (lastI P) := by
   unfold meanN imN lastI
   congr 1
   omega
  rw [this]
  have hpic := imN_all hP hg P.ss.length (Nat.le_refl _) (lastI P) (by unfold lastI; omega) (by unfold lastI; omega)
  exact ⟨hpic.we, hpic.he⟩
 unfold runS meanS
 rw [if_pos hc, hin, show (cmpC P v).w = P.w from rfl, show (cmpC P v).h = P.h from rfl, if_pos hg, if_pos hP, if_pos hg, hmean.1, hmean.2]
 congr 1
 have : mac0 (cmpC P v) ms = ⟨fun _ _ => 0, memN (cmp0 P (mostP P)).inp ms P.inp.toNat⟩ := by
  unfold mac0
  show (⟨_, memN (cmp0 P (mostP P)).inp ms (cmp0 P (mostP P)).inp.length⟩ : MacN) = _
  rw [s4]
 rw [this]
 exact r2
end Go.Proofs.YtekiemlniegddaaGreat
namespace Go.Proofs.YtekiemlniegddaaGreat
open Go Go.Maps Go.RowKit Go.Shelf
set_option maxRecDepth 100000 in
set_option maxHeartbeats 4000000 in
theorem operands_own (s : StepN) (hs : StepIn s) (ka sa : Option Addr) (kc sc : Nat) (w : World) :
  Calls Tryz.prog 100 #[stepv s ka kc sa sc] w fun e w' => ∃ b c, e = .returned (.slice (some ⟨b, 0, none⟩) (opsN s).length c) ∧ Blk w' b 3 ((opsN s).map (Value.int .i64)).toArray ∧ w.heap.size ≤ b ∧ Below w.heap.size w w' := by
 have hB : Below w.heap.size w w := Below.refl _ _
 have hop := hs.op
 obtain ⟨V1, hEV1, hbV1, k1⟩ := newB w 76 #[.int .u8 s.op, .int .i64 s.a, .int .i64 s.b, .int .i64 s.pt.mul, .int .i64 s.pt.add, .int .i64 s.pt.div, .int .i64 s.pt.lo, .int .i64 s.pt.hi, .int .u8 s.how, .int .i64 s.kw, .int .i64 s.kh, .slice ka s.taps.length kc, .int .u8 s.bd, .int .i64 s.sw, .int .i64 s.sh, .slice sa s.bits.length sc]
 replace hB := tmB hB hbV1
 clear hbV1
 obtain ⟨m0, m1, m2, m3, m4, m5, m6, m7, m8, m9, m10, m11, m12, m13, m14, m15⟩ := cz16 k1
 unfold opsN
 by_cases h2 : s.op = 2
 case pos =>
  have e1 : (s.op == 2) = true := by simp [h2]
  by_cases hab : s.a = s.b
  case pos =>
   have e2 : (s.a != s.b) = false := by simp [hab]
   have e3 : (s.a == s.b) = true := by simp [hab]
   rw [if_neg (fun h => h.2 hab)]
   clear h2 hab
   have hbv : Below V1.heap.size V1 (V1.alloc (.cells #[.int .i64 s.a] 3)) := jb_al (Below.refl _ V1) _
   have kv := Blk.new V1 3 #[.int .i64 s.a]
   go_enter Tryz.func100, Tryz.ntmps100
   go_wp2_with fail
   go_ret
   exact ⟨_, _, rfl, kv, hB.size, hB.trans (hbv.mono hB.size)⟩
  case neg =>
   have e2 : (s.a != s.b) = true := by simp [hab]
   have e3 : (s.a == s.b) = false := by simp [hab]
   rw [if_pos ⟨h2, hab⟩]
   clear h2 hab
   have hbv : Below V1.heap.size V1 (V1.alloc (.cells #[.int .i64 s.a, .int .i64 s.b] 3)) := jb_al (Below.refl _ V1) _
   have kv := Blk.new V1 3 #[.int .i64 s.a, .int .i64 s.b]
   go_enter Tryz.func100, Tryz.ntmps100
   go_wp2_with fail
   go_ret
   exact ⟨_, _, rfl, kv, hB.size, hB.trans (hbv.mono hB.size)⟩
 case neg =>
  have e1 : (s.op == 2) = false := by simp [h2]
  rw [if_neg (fun h => h2 h.1)]
  try clear h2
  have hbv : Below V1.heap.size V1 (V1.alloc (.cells #[.int .i64 s.a] 3)) := jb_al (Below.refl _ V1) _
  have kv := Blk.new V1 3 #[.int .i64 s.a]
  go_enter Tryz.func100, Tryz.ntmps100
  go_wp2_with fail
  go_ret
  exact ⟨_, _, rfl, kv, hB.size, hB.trans (hbv.mono hB.size)⟩
theorem ops_cell {W : World} {b : Nat} {L : List Int} (h : Blk W b 3 (L.map (Value.int .i64)).toArray) {j : Nat} (hj : j < L.length) : W.cell? ⟨b, j, none⟩ = some (.int .i64 (L[j]?.getD 0)) := h.cell (by simp [List.getElem?_eq_getElem hj])
theorem sum_le : ∀ (l : List RndN) (q : Nat), q < l.length → (rnAt l q).pts.length + 1 ≤ sumR l
 | [], q, h => by simp at h
 | a :: l, 0, _ => by unfold sumR; simp [rnAt]
 | a :: l, q + 1, h => by
  have := sum_le l q (by simpa using h)
  have e : rnAt (a :: l) (q + 1) = rnAt l q := by simp [rnAt]
  rw [e]
  unfold sumR at this ⊢
  simp only [List.map_cons, List.sum_cons]
  omega
theorem pts_le {I : Int} {ss : List StepN} (hr : RefOk I ss) {k : Nat} (hk : k ≤ ss.length) {q : Nat} (hq : q < (rdsS I (useF ss ss.length) ss k).out.length) : (rnAt (rdsS I (useF ss ss.length) ss k).out q).pts.length ≤ k := by
 have h1 := pts_count hr k hk
 have := sum_le _ q hq
 omega
def loopsC : Code → List Code
 | .loop c => c :: loopsC c
 | .seq a b => loopsC a ++ loopsC b
 | .block _ c => loopsC c
 | .scope c => loopsC c
 | .cond _ a b => loopsC a ++ loopsC b
 | _ => []
noncomputable def loopN (b : Option Code) (k : Nat) : Code := ((b.map loopsC).bind (fun l => l[k]?)).getD .skip
/-- Behind the first loop. -/
def FrX (bp bu : Nat) (A : Act) : Prop := ∃ u : Nat → Value, A = ⟨#[u 0, .pointer (some ⟨bp, 0, none⟩), .slice none 0 0, .map (some bu), u 4, u 5, u 6, u 7, u 8, u 9, u 10, u 11, u 12, u 13, u 14, u 15, u 16, u 17, u 18, u 19, u 20, u 21, u 22, u 23, u 24, u 25, u 26, u 27, u 28, u 29, u 30, u 31, u 32, u 33, u 34, u 35, u 36, u 37, u 38, u 39, u 40, u 41, u 42, u 43, u 44, u 45, u 46, u 47, u 48, u 49, u 50, u 51, u 52, u 53, u 54, u 55, u 56, u 57, u 58, u 59, u 60, u 61, u 62, u 63, u 64, u 65, u 66, u 67, u 68, u 69, u 70, u 71, u 72, u 73, u 74, u 75, u 76, u 77, u 78, u 79, u 80, u 81, u 82, u 83, u 84, u 85, u 86, u 87, u 88, u 89, u 90, u 91, u 92, u 93, u 94, u 95, u 96, u 97, u 98, u 99, u 100, u 101, u 102, u 103, u 104, u 105, u 106], []⟩
set_option maxRecDepth 100000 in
set_option maxHeartbeats 8000000 in
theorem rounds_l1 (In : Nat) (ss : List StepN) (a : Option Addr) (n c : Nat) (hnH : Hid (ss.length = n)) (hn12 : n ≤ 12) (hI : In ≤ 3) (hstH : Hid (∀ i, i < n → StepIn (stAt ss i))) (hr0H : Hid (RefOk (In : Int) ss)) (B0 : Nat) (w : World) (hB0 : B0 ≤ w.heap.size) (hr : RdSs B0 w a ss) (WW HH : Int) (M : Nat) (hMI : (M : Int) = (In : Int) + n) (hM20 : M < 20) (bp bu : Nat) (hbpw : w.heap.size ≤ bp) (hbuw : bp < bu) (V2 : World) (hu : OwnF Tryz.prog 3 3 V2 bu 0 (fun _ => none) M) (kp : Blk V2 bp 24 #[.int .i64 WW, .int .i64 HH, .int .i64 (In : Int), .slice a n c]) (hB : Below w.heap.size w V2) (A0 : Act) (Q0 : Exit → Act → World → Prop) (hA0 : ∃ u : Nat → Value, A0 = ⟨#[u 0, .pointer (some ⟨bp, 0, none⟩), .slice none 0 0, .map (some bu), u 4, u 5, u 6, u 7, u 8, u 9, u 10, u 11, u 12, u 13, u 14, u 15, .slice a n c, .int .i64 (n : Int), .int .i64 ((0 : Nat) : Int), u 19, u 20, u 21, u 22, u 23, u 24, u 25, u 26, u 27, u 28, u 29, u 30, u 31, u 32, u 33, u 34, u 35, u 36, u 37, u 38, u 39, u 40, u 41, u 42, u 43, u 44, u 45, u 46, u 47, u 48, u 49, u 50, u 51, u 52, u 53, u 54, u 55, u 56, u 57, u 58, u 59, u 60, u 61, u 62, u 63, u 64, u 65, u 66, u 67, u 68, u 69, u 70, u 71, u 72, u 73, u 74, u 75, u 76, u 77, u 78, u 79, u 80, u 81, u 82, u 83, u 84, u 85, u 86, u 87, u 88, u 89, u 90, u 91, u 92, u 93, u 94, u 95, u 96, u 97, u 98, u 99, u 100, u 101, u 102, u 103, u 104, u 105, u 106], []⟩)
  (hexit : ∀ (A : Act) (w' : World), FrX bp bu A → OwnF Tryz.prog 3 3 w' bu (2 * n) (useF ss n) M → Blk w' bp 24 #[.int .i64 WW, .int .i64 HH, .int .i64 (In : Int), .slice a n c] → Below w.heap.size w w' → Q0 (.exit 0) A w') :
  Code.wp Tryz.prog (Code.loop (loopN Tryz.f51.body 0)) Q0 A0 V2 := by
 obtain ⟨u, rfl⟩ := hA0
 have hu0 : OwnF Tryz.prog 3 3 V2 bu (2 * 0) (useF ss 0) M := hu
 clear hu
 unfold loopN
 conv => arg 2; arg 1; whnf
 dsimp only
 go_loopw [18] (fun i wr => ∃ k : Nat, k ≤ n ∧ i = .int .i64 (k : Int) ∧ OwnF Tryz.prog 3 3 wr bu (2 * k) (useF ss k) M ∧ Blk wr (bp) 24 #[.int .i64 WW, .int .i64 HH, .int .i64 (In : Int), .slice a n c] ∧ Below w.heap.size w wr) (fun i _ => n - (intOf i).toNat)
 case atStart => exact ⟨0, Nat.zero_le _, rfl, hu0, kp, hB⟩
 case round =>
  clear hu0 kp hB
  obtain ⟨k, hk, rfl, hu, kp, hB⟩ := hrel
  by_cases hlt : k < n
  case pos =>
   have hkl : k < ss.length := by have := hnH.out; omega
   have hs := hstH.out k hlt
   have hltd : decide ((k : Int) < (n : Int)) = true := by simp; omega
   obtain ⟨b, o, ka, kc, sa, sc, rfl, hbl, hst⟩ : ∃ b o ka kc sa sc, a = some ⟨b, o, none⟩ ∧ b < B0 ∧ StAt B0 w b (o + k * 16) (stAt ss k) ka kc sa sc := by
    rcases hr with h | ⟨b, o, h1, h2, h3⟩
    ·exfalso; rw [h] at hkl; simp at hkl
    ·obtain ⟨ka, kc, sa, sc, e⟩ := h3 k hkl
     exact ⟨b, o, ka, kc, sa, sc, h1, h2, e⟩
   have hrefk := hr0H.out k hkl
   have hstep : incL (useF ss k) (opsN (stAt ss k)) = useF ss (k + 1) := rfl
   obtain ⟨s, hse⟩ : ∃ s, stAt ss k = s := ⟨_, rfl⟩
   rw [hse] at hs hst hrefk hstep
   have hseH := Lib.hid hse
   have hrefH := Lib.hid hrefk
   have hstepH := Lib.hid hstep
   clear hse hrefk hstep
   obtain ⟨hcell, hta, hbi⟩ := hst
   have c0 : wr.cell? ⟨b, o + k * 16, none⟩ = some (.int .u8 s.op) := (hB.cell (p := ⟨b, o + k * 16, none⟩) (Nat.lt_of_lt_of_le hbl hB0)).trans (hcell 0 _ rfl)
   have c1 : wr.cell? ⟨b, o + k * 16 + 1, none⟩ = some (.int .i64 s.a) := (hB.cell (p := ⟨b, o + k * 16 + 1, none⟩) (Nat.lt_of_lt_of_le hbl hB0)).trans (hcell 1 _ rfl)
   have c2 : wr.cell? ⟨b, o + k * 16 + 2, none⟩ = some (.int .i64 s.b) := (hB.cell (p := ⟨b, o + k * 16 + 2, none⟩) (Nat.lt_of_lt_of_le hbl hB0)).trans (hcell 2 _ rfl)
   have c3 : wr.cell? ⟨b, o + k * 16 + 3, none⟩ = some (.int .i64 s.pt.mul) := (hB.cell (p := ⟨b, o + k * 16 + 3, none⟩) (Nat.lt_of_lt_of_le hbl hB0)).trans (hcell 3 _ rfl)
   have c4 : wr.cell? ⟨b, o + k * 16 + 4, none⟩ = some (.int .i64 s.pt.add) := (hB.cell (p := ⟨b, o + k * 16 + 4, none⟩) (Nat.lt_of_lt_of_le hbl hB0)).trans (hcell 4 _ rfl)
   have c5 : wr.cell? ⟨b, o + k * 16 + 5, none⟩ = some (.int .i64 s.pt.div) := (hB.cell (p := ⟨b, o + k * 16 + 5, none⟩) (Nat.lt_of_lt_of_le hbl hB0)).trans (hcell 5 _ rfl)
   have c6 : wr.cell? ⟨b, o + k * 16 + 6, none⟩ = some (.int .i64 s.pt.lo) := (hB.cell (p := ⟨b, o + k * 16 + 6, none⟩) (Nat.lt_of_lt_of_le hbl hB0)).trans (hcell 6 _ rfl)
   have c7 : wr.cell? ⟨b, o + k * 16 + 7, none⟩ = some (.int .i64 s.pt.hi) := (hB.cell (p := ⟨b, o + k * 16 + 7, none⟩) (Nat.lt_of_lt_of_le hbl hB0)).trans (hcell 7 _ rfl)
   have c8 : wr.cell? ⟨b, o + k * 16 + 8, none⟩ = some (.int .u8 s.how) := (hB.cell (p := ⟨b, o + k * 16 + 8, none⟩) (Nat.lt_of_lt_of_le hbl hB0)).trans (hcell 8 _ rfl)
   have c9 : wr.cell? ⟨b, o + k * 16 + 9, none⟩ = some (.int .i64 s.kw) := (hB.cell (p := ⟨b, o + k * 16 + 9, none⟩) (Nat.lt_of_lt_of_le hbl hB0)).trans (hcell 9 _ rfl)
   have c10 : wr.cell? ⟨b, o + k * 16 + 10, none⟩ = some (.int .i64 s.kh) := (hB.cell (p := ⟨b, o + k * 16 + 10, none⟩) (Nat.lt_of_lt_of_le hbl hB0)).trans (hcell 10 _ rfl)
   have c11 : wr.cell? ⟨b, o + k * 16 + 11, none⟩ = some (.slice ka s.taps.length kc) := (hB.cell (p := ⟨b, o + k * 16 + 11, none⟩) (Nat.lt_of_lt_of_le hbl hB0)).trans (hcell 11 _ rfl)
   have c12 : wr.cell? ⟨b, o + k * 16 + 12, none⟩ = some (.int .u8 s.bd) := (hB.cell (p := ⟨b, o + k * 16 + 12, none⟩) (Nat.lt_of_lt_of_le hbl hB0)).trans (hcell 12 _ rfl)
   have c13 : wr.cell? ⟨b, o + k * 16 + 13, none⟩ = some (.int .i64 s.sw) := (hB.cell (p := ⟨b, o + k * 16 + 13, none⟩) (Nat.lt_of_lt_of_le hbl hB0)).trans (hcell 13 _ rfl)
   have c14 : wr.cell? ⟨b, o + k * 16 + 14, none⟩ = some (.int .i64 s.sh) := (hB.cell (p := ⟨b, o + k * 16 + 14, none⟩) (Nat.lt_of_lt_of_le hbl hB0)).trans (hcell 14 _ rfl)
   have c15 : wr.cell? ⟨b, o + k * 16 + 15, none⟩ = some (.slice sa s.bits.length sc) := (hB.cell (p := ⟨b, o + k * 16 + 15, none⟩) (Nat.lt_of_lt_of_le hbl hB0)).trans (hcell 15 _ rfl)
   clear hcell
   obtain ⟨m0, m1, m2, m3⟩ := cz4 kp
   obtain ⟨V11, hEV11, hbV11, ks⟩ := newB wr 76 #[.int .u8 s.op, .int .i64 s.a, .int .i64 s.b, .int .i64 s.pt.mul, .int .i64 s.pt.add, .int .i64 s.pt.div, .int .i64 s.pt.lo, .int .i64 s.pt.hi, .int .u8 s.how, .int .i64 s.kw, .int .i64 s.kh, .slice ka s.taps.length kc, .int .u8 s.bd, .int .i64 s.sw, .int .i64 s.sh, .slice sa s.bits.length sc]
   clear m0 m1 m2 m3
   replace kp := kp.below hbV11 kp.lt
   replace hu := hu.below hbV11
   replace hB := tmB hB hbV11
   clear hbV11
   obtain ⟨y0, y1, y2, y3, y4, y5, y6, y7, y8, y9, y10, y11, y12, y13, y14, y15⟩ := cz16 ks
   go_wp2_with fail
   clear hEV11
   refine (operands_own s hs ka sa kc sc V11).mono ?_
   rintro e V12 ⟨bo, oc, rfl, kq, hbo, hb⟩
   clear y0 y1 y2 y3 y4 y5 y6 y7 y8 y9 y10 y11 y12 y13 y14 y15
   replace kp := kp.below hb kp.lt
   replace ks := ks.below hb ks.lt
   replace hu := hu.below hb
   replace hB := tmB hB hb
   clear hb
   clear c0 c1 c2 c3 c4 c5 c6 c7 c8 c9 c10 c11 c12 c13 c14 c15
   clear ks
   obtain ⟨ol1, ol2⟩ := opsN_len s
   obtain ⟨L, hL⟩ : ∃ L, opsN s = L := ⟨_, rfl⟩
   rw [hL] at kq ol1 ol2 hrefH hstepH ⊢
   obtain ⟨m, hm⟩ : ∃ m, L.length = m := ⟨_, rfl⟩
   have hmH := Lib.hid hm
   rw [hm] at ol1 ol2 ⊢
   clear hL hm
   go_wp2_with fail
   clear hltd
   have hu0 : OwnF Tryz.prog 3 3 V12 bu (2 * k + 0) (incL (useF ss k) (L.take 0)) M := hu
   have hbq : bu ≠ bo := fun e => hu.not_cells kq e.symm
   clear hu
   go_loopw [25] (fun i wr => ∃ j : Nat, j ≤ m ∧ i = .int .i64 (j : Int) ∧ OwnF Tryz.prog 3 3 wr bu (2 * k + j) (incL (useF ss k) (L.take j)) M ∧ Blk wr bo 3 (L.map (Value.int .i64)).toArray ∧ Blk wr (bp) 24 #[.int .i64 WW, .int .i64 HH, .int .i64 (In : Int), .slice (some ⟨b, o, none⟩) n c] ∧ Below w.heap.size w wr) (fun i _ => m - (intOf i).toNat)
   case atStart => exact ⟨0, Nat.zero_le _, rfl, hu0, kq, kp, hB⟩
   case round =>
    clear hu0 kq kp hB
    obtain ⟨j, hj, rfl, hu, kq, kp, hB⟩ := hrel
    by_cases hlt2 : j < m
    case pos =>
     have hltd : decide ((j : Int) < (m : Int)) = true := by simp; omega
     have hjL : j < L.length := by have := hmH.out; omega
     have hcj := ops_cell kq hjL
     have hbd := hrefH.out _ (List.getElem_mem hjL)
     have hnx := incL_take (F := useF ss k) hjL
     have hle := incL_le (L.take j) (useF ss k) k (useF_le ss k)
     rw [List.length_take] at hle
     rw [show L[j] = L[j]?.getD 0 by rw [List.getElem?_eq_getElem hjL]; rfl] at hbd
     obtain ⟨x, hx⟩ : ∃ x, L[j]?.getD 0 = x := ⟨_, rfl⟩
     rw [hx] at hcj hbd hnx
     obtain ⟨X, rfl⟩ : ∃ X : Nat, x = (X : Int) := ⟨x.toNat, by omega⟩
     have hlk := hu.run_look Tryz.underlying3 Tryz.underlying101 Tryz.underlying3 (zero_num _) (X : Int) (wf_num ⟨by omega, by omega⟩)
     have hle2 := hle (X : Int)
     clear hle hx
     unfold incF at hnx
     obtain ⟨G, hG⟩ : ∃ G, incL (useF ss k) (L.take j) = G := ⟨_, rfl⟩
     rw [hG] at hu hnx hlk hle2
     obtain ⟨q, hq⟩ : ∃ q, numF (G (X : Int)) = q := ⟨_, rfl⟩
     rw [hq] at hnx hlk hle2
     have hle3 : 0 ≤ q ∧ q ≤ 100 := by omega
     have hnxH := Lib.hid hnx
     clear hG hq hnx hle2
     go_wp2_with (at_mapUpdate; refine OwnF.putw _ rfl _ _ _ _ rfl Tryz.underlying3 Tryz.underlying101 bu rfl hu (by omega) X (by omega) (by omega) _ _ rfl rfl (plainElem_int Tryz.underlying3 (wf_num ⟨by omega, by omega⟩)) ?_; intro w1 hu1 hg1)
     refine ⟨⟨j + 1, by omega, by go_num, by rw [hnxH.out]; exact hu1, kq.kept hg1 (by simp; omega), kp.kept hg1 (by simp; omega), hB.grown hg1 hB.size (fun t e => by injection e with e; omega)⟩, by simp [intOf]; omega⟩
    case neg =>
     have hltd : decide ((j : Int) < (m : Int)) = false := by simp; omega
     have hjm : j = m := by omega
     subst hjm
     have hLt : L.take j = L := List.take_of_length_le (by have := hmH.out; omega)
     rw [hLt, hstepH.out] at hu
     have hu2 := hu.mono (n' := 2 * (k + 1)) (by omega)
     clear hu hLt
     go_wp2_with fail
     go_roundw
     case rel => exact ⟨k + 1, by omega, by go_num, hu2, kp, hB⟩
     case measure => simp [intOf]; omega
  case neg =>
   have hltd : decide ((k : Int) < (n : Int)) = false := by simp; omega
   have hkn : n = k := by omega
   subst hkn
   have hfin := fun A hA => hexit A wr hA hu kp hB
   clear hu kp hB hexit
   go_wp2_with fail
   exact ex_fnQ rfl
/-- Between the rounds of the second loop. -/
def I2 (In : Nat) (ss : List StepN) (a : Option Addr) (n c : Nat) (B0 : Nat) (w : World) (WW HH : Int) (M bp bu bf : Nat) (U : FnL) (A : Act) (wr : World) : Prop :=
 ∃ (k : Nat) (v : Value) (x : Nat → RndA), k ≤ n ∧ RdI B0 w.heap.size wr v (rdsS (In : Int) U ss k).out.length x bf (2 * k) (rdsS (In : Int) U ss k).of bu (2 * n) U M (bp) #[.int .i64 WW, .int .i64 HH, .int .i64 (In : Int), .slice a n c] ∧ Hid (∀ q, q < (rdsS (In : Int) U ss k).out.length → (x q).r = rnAt (rdsS (In : Int) U ss k).out q) ∧ Below w.heap.size w wr ∧ ∃ u : Nat → Value, A = ⟨#[u 0, .pointer (some ⟨bp, 0, none⟩), u 2, .map (some bu), u 4, u 5, u 6, u 7, v, .map (some bf), u 10, u 11, u 12, u 13, u 14, u 15, u 16, u 17, u 18, u 19, u 20, u 21, u 22, u 23, u 24, u 25, u 26, u 27, u 28, u 29, u 30, u 31, u 32, u 33, u 34, u 35, u 36, .slice a n c, .int .i64 (n : Int), .int .i64 ((k : Nat) : Int), u 40, u 41, u 42, u 43, u 44, u 45, u 46, u 47, u 48, u 49, u 50, u 51, u 52, u 53, u 54, u 55, u 56, u 57, u 58, u 59, u 60, u 61, u 62, u 63, u 64, u 65, u 66, u 67, u 68, u 69, u 70, u 71, u 72, u 73, u 74, u 75, u 76, u 77, u 78, u 79, u 80, u 81, u 82, u 83, u 84, u 85, u 86, u 87, u 88, u 89, u 90, u 91, u 92, u 93, u 94, u 95, u 96, u 97, u 98, u 99, u 100, u 101, u 102, u 103, u 104, u 105, u 106], []⟩
def mu2 (n : Nat) (A : Act) (_ : World) : Nat := n - (intOf (A.tmps.getD 39 undef)).toNat
end Go.Proofs.YtekiemlniegddaaGreat
namespace Go.Proofs.YtekiemlniegddaaGreat
open Go Go.Maps Go.RowKit Go.Shelf
set_option maxRecDepth 100000 in
set_option maxHeartbeats 8000000 in
theorem rounds_n1 (In : Nat) (ss : List StepN) (a : Option Addr) (n c : Nat) (hnH : Hid (ss.length = n)) (hn12 : n ≤ 12) (hI : In ≤ 3) (hstH : Hid (∀ i, i < n → StepIn (stAt ss i))) (hr0H : Hid (RefOk (In : Int) ss)) (B0 : Nat) (w : World) (hB0 : B0 ≤ w.heap.size) (hr : RdSs B0 w a ss) (WW HH : Int) (M : Nat) (hMI : (M : Int) = (In : Int) + n) (hM20 : M < 20) (bp bu : Nat) (hbpw : w.heap.size ≤ bp) (hbuw : bp < bu) (U : FnL) (hUH : Hid (useF ss ss.length = U)) (bf : Nat) (hbf : w.heap.size ≤ bf) (k : Nat) (v : Value) (x : Nat → RndA) (hk : k ≤ n) (hlt : k < n) (wr : World) (hri : RdI B0 w.heap.size wr v (rdsS (In : Int) U ss k).out.length x bf (2 * k) (rdsS (In : Int) U ss k).of bu (2 * n) U M (bp) #[.int .i64 WW, .int .i64 HH, .int .i64 (In : Int), .slice a n c]) (hx : Hid (∀ q, q < (rdsS (In : Int) U ss k).out.length → (x q).r = rnAt (rdsS (In : Int) U ss k).out q)) (e1 : ¬ (stAt ss k).op = 1) (u : Nat → Value)    (hB : Below w.heap.size w wr) : Code.wp Tryz.prog (loopN Tryz.f51.body 2) (Exit.then (fun A' w' => I2 In ss a n c B0 w WW HH M bp bu bf U A' w' ∧ mu2 n A' w' < mu2 n ⟨#[u 0, .pointer (some ⟨bp, 0, none⟩), u 2, .map (some bu), u 4, u 5, u 6, u 7, v, .map (some bf), u 10, u 11, u 12, u 13, u 14, u 15, u 16, u 17, u 18, u 19, u 20, u 21, u 22, u 23, u 24, u 25, u 26, u 27, u 28, u 29, u 30, u 31, u 32, u 33, u 34, u 35, u 36, .slice a n c, .int .i64 (n : Int), .int .i64 ((k : Nat) : Int), u 40, u 41, u 42, u 43, u 44, u 45, u 46, u 47, u 48, u 49, u 50, u 51, u 52, u 53, u 54, u 55, u 56, u 57, u 58, u 59, u 60, u 61, u 62, u 63, u 64, u 65, u 66, u 67, u 68, u 69, u 70, u 71, u 72, u 73, u 74, u 75, u 76, u 77, u 78, u 79, u 80, u 81, u 82, u 83, u 84, u 85, u 86, u 87, u 88, u 89, u 90, u 91, u 92, u 93, u 94, u 95, u 96, u 97, u 98, u 99, u 100, u 101, u 102, u 103, u 104, u 105, u 106], []⟩ wr) (fun _ _ _ => False)) ⟨#[u 0, .pointer (some ⟨bp, 0, none⟩), u 2, .map (some bu), u 4, u 5, u 6, u 7, v, .map (some bf), u 10, u 11, u 12, u 13, u 14, u 15, u 16, u 17, u 18, u 19, u 20, u 21, u 22, u 23, u 24, u 25, u 26, u 27, u 28, u 29, u 30, u 31, u 32, u 33, u 34, u 35, u 36, .slice a n c, .int .i64 (n : Int), .int .i64 ((k : Nat) : Int), u 40, u 41, u 42, u 43, u 44, u 45, u 46, u 47, u 48, u 49, u 50, u 51, u 52, u 53, u 54, u 55, u 56, u 57, u 58, u 59, u 60, u 61, u 62, u 63, u 64, u 65, u 66, u 67, u 68, u 69, u 70, u 71, u 72, u 73, u 74, u 75, u 76, u 77, u 78, u 79, u 80, u 81, u 82, u 83, u 84, u 85, u 86, u 87, u 88, u 89, u 90, u 91, u 92, u 93, u 94, u 95, u 96, u 97, u 98, u 99, u 100, u 101, u 102, u 103, u 104, u 105, u 106], []⟩ wr := by
  obtain ⟨i0, hi, hz0, hz1, hz2⟩ := info_partsQ info_rnd
  obtain ⟨j0, gi, gz0, gz1, gz2⟩ := info_partsQ info_pt
  unfold loopN
  conv => arg 2; whnf
  dsimp only
  have hkl : k < ss.length := by have := hnH.out; omega
  have hs := hstH.out k hlt
  have hltd : decide ((k : Int) < (n : Int)) = true := by simp; omega
  obtain ⟨b, o, ka, kc, sa, sc, rfl, hbl, hst⟩ : ∃ b o ka kc sa sc, a = some ⟨b, o, none⟩ ∧ b < B0 ∧ StAt B0 w b (o + k * 16) (stAt ss k) ka kc sa sc := by
    rcases hr with h | ⟨b, o, h1, h2, h3⟩
    · exfalso; rw [h] at hkl; simp at hkl
    · obtain ⟨ka, kc, sa, sc, e⟩ := h3 k hkl
      exact ⟨b, o, ka, kc, sa, sc, h1, h2, e⟩
  have hrefk := hr0H.out k hkl
  have hnext : rdsS (In : Int) U ss (k + 1) = (if carB (In : Int) U (stAt ss k) = true then
        ⟨(rdsS (In : Int) U ss k).out.set (numF ((rdsS (In : Int) U ss k).of (stAt ss k).a)).toNat (carR (rnAt (rdsS (In : Int) U ss k).out (numF ((rdsS (In : Int) U ss k).of (stAt ss k).a)).toNat) (stAt ss k).pt ((In : Int) + k)),
         putF (delF (rdsS (In : Int) U ss k).of (stAt ss k).a) ((In : Int) + k) (ilit (numF ((rdsS (In : Int) U ss k).of (stAt ss k).a)))⟩
      else ⟨(rdsS (In : Int) U ss k).out ++ [⟨k, stAt ss k, [], (In : Int) + k⟩], putF (rdsS (In : Int) U ss k).of ((In : Int) + k) (ilit (rdsS (In : Int) U ss k).out.length)⟩) := rfl
  have hokk := rds_ok hr0H.out k (Nat.le_of_lt hkl)
  rw [hUH.out] at hokk
  have hofq : carB (In : Int) U (stAt ss k) = true → ∃ q : Nat, q < (rdsS (In : Int) U ss k).out.length ∧ (rdsS (In : Int) U ss k).of (stAt ss k).a = some (ilit q) ∧ (rnAt (rdsS (In : Int) U ss k).out q).pts.length ≤ k := fun h => by
    have h2 := of_here (rds_ok hr0H.out k (Nat.le_of_lt hkl)) hr0H.out hkl (by rw [hUH.out]; exact h)
    rw [hUH.out] at h2
    obtain ⟨q, h3, h4, _⟩ := h2
    have h5 := fun hq => pts_le hr0H.out (Nat.le_of_lt hkl) (q := q) hq
    rw [hUH.out] at h5
    exact ⟨q, h3, h4, h5 h3⟩
  have hokH := Lib.hid hokk
  have hlenk := hokk.len
  clear hokk
  obtain ⟨s, hse⟩ : ∃ s, stAt ss k = s := ⟨_, rfl⟩
  rw [hse] at hs hst hrefk hnext hofq e1
  have hseH := Lib.hid hse
  have hrefH := Lib.hid hrefk
  have hnextH := Lib.hid hnext
  clear hse hrefk hnext
  obtain ⟨hcell, hta, hbi⟩ := hst
  obtain ⟨R, hR⟩ : ∃ R, rdsS (In : Int) U ss k = R := ⟨_, rfl⟩
  rw [hR] at hri hx hnextH hokH hlenk hofq
  clear hR
  obtain ⟨N, hN⟩ : ∃ N, R.out.length = N := ⟨_, rfl⟩
  rw [hN] at hri hx hnextH hlenk hofq
  have hofqH := Lib.hid hofq
  clear hofq
  have hNH := Lib.hid hN
  clear hN
  obtain ⟨va, vc, rfl⟩ := hri.rs.slice
  obtain ⟨A, hA⟩ : ∃ A : Nat, s.a = (A : Int) := ⟨s.a.toNat, by have := hrefH.out _ (opsN_a s); omega⟩
  have hAM : A < M := by have := hrefH.out _ (opsN_a s); omega
  have c0 : wr.cell? ⟨b, o + k * 16, none⟩ = some (.int .u8 s.op) := (hB.cell (p := ⟨b, o + k * 16, none⟩) (Nat.lt_of_lt_of_le hbl hB0)).trans (hcell 0 _ rfl)
  have c1 : wr.cell? ⟨b, o + k * 16 + 1, none⟩ = some (.int .i64 s.a) := (hB.cell (p := ⟨b, o + k * 16 + 1, none⟩) (Nat.lt_of_lt_of_le hbl hB0)).trans (hcell 1 _ rfl)
  have c2 : wr.cell? ⟨b, o + k * 16 + 2, none⟩ = some (.int .i64 s.b) := (hB.cell (p := ⟨b, o + k * 16 + 2, none⟩) (Nat.lt_of_lt_of_le hbl hB0)).trans (hcell 2 _ rfl)
  have c3 : wr.cell? ⟨b, o + k * 16 + 3, none⟩ = some (.int .i64 s.pt.mul) := (hB.cell (p := ⟨b, o + k * 16 + 3, none⟩) (Nat.lt_of_lt_of_le hbl hB0)).trans (hcell 3 _ rfl)
  have c4 : wr.cell? ⟨b, o + k * 16 + 4, none⟩ = some (.int .i64 s.pt.add) := (hB.cell (p := ⟨b, o + k * 16 + 4, none⟩) (Nat.lt_of_lt_of_le hbl hB0)).trans (hcell 4 _ rfl)
  have c5 : wr.cell? ⟨b, o + k * 16 + 5, none⟩ = some (.int .i64 s.pt.div) := (hB.cell (p := ⟨b, o + k * 16 + 5, none⟩) (Nat.lt_of_lt_of_le hbl hB0)).trans (hcell 5 _ rfl)
  have c6 : wr.cell? ⟨b, o + k * 16 + 6, none⟩ = some (.int .i64 s.pt.lo) := (hB.cell (p := ⟨b, o + k * 16 + 6, none⟩) (Nat.lt_of_lt_of_le hbl hB0)).trans (hcell 6 _ rfl)
  have c7 : wr.cell? ⟨b, o + k * 16 + 7, none⟩ = some (.int .i64 s.pt.hi) := (hB.cell (p := ⟨b, o + k * 16 + 7, none⟩) (Nat.lt_of_lt_of_le hbl hB0)).trans (hcell 7 _ rfl)
  have c8 : wr.cell? ⟨b, o + k * 16 + 8, none⟩ = some (.int .u8 s.how) := (hB.cell (p := ⟨b, o + k * 16 + 8, none⟩) (Nat.lt_of_lt_of_le hbl hB0)).trans (hcell 8 _ rfl)
  have c9 : wr.cell? ⟨b, o + k * 16 + 9, none⟩ = some (.int .i64 s.kw) := (hB.cell (p := ⟨b, o + k * 16 + 9, none⟩) (Nat.lt_of_lt_of_le hbl hB0)).trans (hcell 9 _ rfl)
  have c10 : wr.cell? ⟨b, o + k * 16 + 10, none⟩ = some (.int .i64 s.kh) := (hB.cell (p := ⟨b, o + k * 16 + 10, none⟩) (Nat.lt_of_lt_of_le hbl hB0)).trans (hcell 10 _ rfl)
  have c11 : wr.cell? ⟨b, o + k * 16 + 11, none⟩ = some (.slice ka s.taps.length kc) := (hB.cell (p := ⟨b, o + k * 16 + 11, none⟩) (Nat.lt_of_lt_of_le hbl hB0)).trans (hcell 11 _ rfl)
  have c12 : wr.cell? ⟨b, o + k * 16 + 12, none⟩ = some (.int .u8 s.bd) := (hB.cell (p := ⟨b, o + k * 16 + 12, none⟩) (Nat.lt_of_lt_of_le hbl hB0)).trans (hcell 12 _ rfl)
  have c13 : wr.cell? ⟨b, o + k * 16 + 13, none⟩ = some (.int .i64 s.sw) := (hB.cell (p := ⟨b, o + k * 16 + 13, none⟩) (Nat.lt_of_lt_of_le hbl hB0)).trans (hcell 13 _ rfl)
  have c14 : wr.cell? ⟨b, o + k * 16 + 14, none⟩ = some (.int .i64 s.sh) := (hB.cell (p := ⟨b, o + k * 16 + 14, none⟩) (Nat.lt_of_lt_of_le hbl hB0)).trans (hcell 14 _ rfl)
  have c15 : wr.cell? ⟨b, o + k * 16 + 15, none⟩ = some (.slice sa s.bits.length sc) := (hB.cell (p := ⟨b, o + k * 16 + 15, none⟩) (Nat.lt_of_lt_of_le hbl hB0)).trans (hcell 15 _ rfl)
  clear hcell
  have kp := hri.kp
  obtain ⟨m0, m1, m2, m3⟩ := cz4 kp
  obtain ⟨V51, hEV51, hbV51, ks⟩ := newB wr 76 #[.int .u8 s.op, .int .i64 s.a, .int .i64 s.b, .int .i64 s.pt.mul, .int .i64 s.pt.add, .int .i64 s.pt.div, .int .i64 s.pt.lo, .int .i64 s.pt.hi, .int .u8 s.how, .int .i64 s.kw, .int .i64 s.kh, .slice ka s.taps.length kc, .int .u8 s.bd, .int .i64 s.sw, .int .i64 s.sh, .slice sa s.bits.length sc]
  clear m0 m1 m2 m3
  replace kp := kp.below hbV51 kp.lt
  replace hri := hri.below hbV51
  replace hB := tmB hB hbV51
  clear hbV51
  obtain ⟨m0, m1, m2, m3⟩ := cz4 kp
  obtain ⟨y0, y1, y2, y3, y4, y5, y6, y7, y8, y9, y10, y11, y12, y13, y14, y15⟩ := cz16 ks
  have hopr := hs.op
  have hlk := hri.um.run_look Tryz.underlying3 Tryz.underlying101 Tryz.underlying3 (zero_num _) (A : Int) (wf_num ⟨by omega, by omega⟩)
  obtain ⟨cu, hcu⟩ : ∃ c, numF (U (A : Int)) = c := ⟨_, rfl⟩
  rw [hcu] at hlk
  have hcuH := Lib.hid hcu
  have hAH := Lib.hid hA
  clear hcu
  rw [hA] at y1
  clear hA
  have e1b : (s.op == 1) = false := by simp [e1]
  have hcar : carB (In : Int) U s = false := by unfold carB; rw [decide_eq_false e1]; rfl
  have hcarH := Lib.hid hcar
  clear e1 hcar
  have hksf := hri.fm.not_cells ks
  go_wp2_with (first
    | (at_mapUpdate; refine OwnF.putw _ rfl _ _ _ _ rfl Tryz.underlying3 Tryz.underlying101 bf rfl hri.fm (by omega) (In + k) (by omega) (by omega) _ _ (by first | rfl | (simp; done) | (simp; omega)) rfl (plainElem_int Tryz.underlying3 (wf_num ⟨by omega, by omega⟩)) ?_; intro w1 hv1 hg1))
  have ks1 := ks.kept hg1 (fun e => hksf (by injection e))
  obtain ⟨hri1, hb1⟩ := hri.mapf hv1 hg1
  have hB1 := hB.trans hb1
  clear hri ks hv1 hg1 hb1 hB
  clear y0 y1 y2 y3 y4 y5 y6 y7 y8 y9 y10 y11 y12 y13 y14 y15 hlk hltd
  have hri2 := hri1.below (Below.refl _ w1).drew
  have hB2 := hB1.drew
  have hS : Blk w1.drew (wr.heap.size) 76 #[.int .u8 s.op, .int .i64 s.a, .int .i64 s.b, .int .i64 s.pt.mul, .int .i64 s.pt.add, .int .i64 s.pt.div, .int .i64 s.pt.lo, .int .i64 s.pt.hi, .int .u8 s.how, .int .i64 s.kw, .int .i64 s.kh, .slice ka s.taps.length kc, .int .u8 s.bd, .int .i64 s.sw, .int .i64 s.sh, .slice sa s.bits.length sc] := ks1.below (Below.refl _ w1).drew ks1.lt
  clear hri1 hB1 ks1
  simp only [Act.put]
  refine plain_region (fun W' => Blk W' (wr.heap.size) 76 #[.int .u8 s.op, .int .i64 s.a, .int .i64 s.b, .int .i64 s.pt.mul, .int .i64 s.pt.add, .int .i64 s.pt.div, .int .i64 s.pt.lo, .int .i64 s.pt.hi, .int .u8 s.how, .int .i64 s.kw, .int .i64 s.kh, .slice ka s.taps.length kc, .int .u8 s.bd, .int .i64 s.sw, .int .i64 s.sh, .slice sa s.bits.length sc]) 9 9 (by kernel_rfl) rfl ?_
  simp only [Array.replicate_succ, Array.replicate_zero, List.push_toArray, List.nil_append, List.cons_append]
  obtain ⟨X0, hXX0⟩ : ∃ X : World, w1.drew = X := ⟨_, rfl⟩
  rw [hXX0] at hS hri2 hB2 ⊢
  clear hXX0
  refine tkz 0 rfl hS (fun w' hS' => by go_simp; rfl) ?_
  simp only [nrz]
  refine tkz 1 rfl hS (fun w' hS' => by obtain ⟨y0, y1, y2, y3, y4, y5, y6, y7, y8, y9, y10, y11, y12, y13, y14, y15⟩ := cz16 hS'; clear hS'; go_simp; rfl) ?_
  simp only [nrz]
  refine tkz 2 rfl hS (fun w' hS' => by obtain ⟨y0, y1, y2, y3, y4, y5, y6, y7, y8, y9, y10, y11, y12, y13, y14, y15⟩ := cz16 hS'; clear hS'; go_simp; rfl) ?_
  simp only [nrz]
  refine tkz 4 rfl hS (fun w' hS' => by go_simp; rfl) ?_
  simp only [nrz]
  refine step_op 3 (by kernel_rfl) rfl (fun K hK => ?_)
  rw [if_pos (by rfl)]
  go_simp
  refine (operands_own s hs ka sa kc sc X0).mono ?_
  rintro e X3 ⟨bo, oc, rfl, kq, hbo, hb3⟩
  have hS3 := hS.below hb3 hS.lt
  have hri3 := hri2.below hb3
  have hB3 := hB2.trans (hb3.mono hB2.size)
  have hbow : w.heap.size ≤ bo := Nat.le_trans hB2.size hbo
  clear hri2 hB2 hb3
  refine hK.out _ _ (fun h => hS3) ?_
  clear hK K
  try simp only [Act.put, nrz]
  refine tkz 5 rfl hS3 (fun w' hS' => by go_simp; rfl) ?_
  simp only [nrz]
  refine step_op 6 (by kernel_rfl) rfl (fun K hK => ?_)
  rw [if_pos (by rfl)]
  go_simp
  have hbA := jb_al (Below.refl _ X3) (.cells #[.int .u8 s.op, .int .i64 s.a, .int .i64 s.b, .int .i64 s.pt.mul, .int .i64 s.pt.add, .int .i64 s.pt.div, .int .i64 s.pt.lo, .int .i64 s.pt.hi, .int .u8 s.how, .int .i64 s.kw, .int .i64 s.kh, .slice ka s.taps.length kc, .int .u8 s.bd, .int .i64 s.sw, .int .i64 s.sh, .slice sa s.bits.length sc, .slice none 0 0, .slice (some ⟨bo, 0, none⟩) (opsN s).length oc, .int .i64 ((In : Int) + k)] 111)
  have ky := Blk.new X3 111 #[.int .u8 s.op, .int .i64 s.a, .int .i64 s.b, .int .i64 s.pt.mul, .int .i64 s.pt.add, .int .i64 s.pt.div, .int .i64 s.pt.lo, .int .i64 s.pt.hi, .int .u8 s.how, .int .i64 s.kw, .int .i64 s.kh, .slice ka s.taps.length kc, .int .u8 s.bd, .int .i64 s.sw, .int .i64 s.sh, .slice sa s.bits.length sc, .slice none 0 0, .slice (some ⟨bo, 0, none⟩) (opsN s).length oc, .int .i64 ((In : Int) + k)]
  have hri6 := hri3.below hbA
  have kq6 := kq.below hbA kq.lt
  have hS6 := hS3.below hbA hS3.lt
  have hB6 := hB3.trans (hbA.mono hB3.size)
  obtain ⟨by_, hby⟩ : ∃ b, X3.heap.size = b := ⟨_, rfl⟩
  obtain ⟨X6, hX6⟩ : ∃ X, X3.alloc (.cells #[.int .u8 s.op, .int .i64 s.a, .int .i64 s.b, .int .i64 s.pt.mul, .int .i64 s.pt.add, .int .i64 s.pt.div, .int .i64 s.pt.lo, .int .i64 s.pt.hi, .int .u8 s.how, .int .i64 s.kw, .int .i64 s.kh, .slice ka s.taps.length kc, .int .u8 s.bd, .int .i64 s.sw, .int .i64 s.sh, .slice sa s.bits.length sc, .slice none 0 0, .slice (some ⟨bo, 0, none⟩) (opsN s).length oc, .int .i64 ((In : Int) + k)] 111) = X := ⟨_, rfl⟩
  rw [hX6] at ky hri6 kq6 hS6 hB6 ⊢
  rw [hby] at ky ⊢
  clear hX6 hby hbA hri3 kq hS3 hB3
  refine hK.out _ _ (fun h => hS6) ?_
  clear hK K
  try simp only [Act.put, nrz]
  refine step_op 7 (by kernel_rfl) rfl (fun K hK => ?_)
  refine step_append_atQ rfl (.tmp 97) (.tmp 103) 105 rfl w.heap.size 111 i0 (.agg #[.int .u8 0, .int .i64 0, .int .i64 0, .int .i64 0, .int .i64 0, .int .i64 0, .int .i64 0, .int .i64 0, .int .u8 0, .int .i64 0, .int .i64 0, .slice none 0 0, .int .u8 0, .int .i64 0, .int .i64 0, .slice none 0 0, .slice none 0 0, .slice none 0 0, .int .i64 0]) 19 216 Tryz.underlying105 hi hz0 hz1 hz2 rfl (by decide) (.slice va N vc) N _ rfl hri6.rs.row ⟨by_, 0, none⟩ 1 1 (rndL ⟨⟨k, s, [], (In : Int) + k⟩, ka, kc, sa, sc, .slice none 0 0, bo, oc⟩) rfl rfl (blk_news ky) (rndL_one _ rfl) (by unfold maxLen; omega) (by omega) hB6.size ?_
  intro v' X7 hown7 hg7 hat7
  obtain ⟨hri7, hb7⟩ := hri6.push hown7 hg7 rfl rfl ⟨kq6, hbow⟩ ⟨hta.below hB0 hB6, hbi.below hB0 hB6⟩
  have hB7 := hB6.trans hb7
  have hS7 : Blk X7 (wr.heap.size) 76 #[.int .u8 s.op, .int .i64 s.a, .int .i64 s.b, .int .i64 s.pt.mul, .int .i64 s.pt.add, .int .i64 s.pt.div, .int .i64 s.pt.lo, .int .i64 s.pt.hi, .int .u8 s.how, .int .i64 s.kw, .int .i64 s.kh, .slice ka s.taps.length kc, .int .u8 s.bd, .int .i64 s.sw, .int .i64 s.sh, .slice sa s.bits.length sc] := (grown_trn hg7 (fun c => (Value.slice va N vc).ownBlock = some c) (fun c e => e)).blk hS6 (fun e => hS6.not_row (by decide) hri6.rs.row e.symm)
  clear hown7 hg7 hat7 hb7 hri6 kq6 ky hS6 hB6
  refine hK.out _ _ (fun h => hS7) ?_
  clear hK K
  try simp only [Act.put, nrz]
  refine tkz 8 rfl hS7 (fun w' hS' => by go_simp; rfl) ?_
  simp only [nrz]
  refine done_ops (by kernel_rfl) ?_
  have hnx : rdsS (In : Int) U ss (k + 1) = ⟨R.out ++ [⟨k, s, [], (In : Int) + k⟩], putF R.of ((In : Int) + k) (ilit N)⟩ := by rw [hnextH.out, hcarH.out]; rfl
  have hri8 : RdI B0 w.heap.size X7 v' (rdsS (In : Int) U ss (k + 1)).out.length (fun q => if q = N then ⟨⟨k, s, [], (In : Int) + k⟩, ka, kc, sa, sc, .slice none 0 0, bo, oc⟩ else x q) bf (2 * (k + 1)) (rdsS (In : Int) U ss (k + 1)).of bu (2 * n) U M (bp) #[.int .i64 WW, .int .i64 HH, .int .i64 (In : Int), .slice (some ⟨b, o, none⟩) n c] := by
    rw [hnx]
    simp only [List.length_append, List.length_singleton]
    rw [hNH.out]
    exact hri7.monof (by omega)
  have hx8 : Hid (∀ q, q < (rdsS (In : Int) U ss (k + 1)).out.length → ((fun q => if q = N then ⟨⟨k, s, [], (In : Int) + k⟩, ka, kc, sa, sc, .slice none 0 0, bo, oc⟩ else x q) q : RndA).r = rnAt (rdsS (In : Int) U ss (k + 1)).out q) := Lib.hid (by
    rw [hnx]
    simp only [List.length_append, List.length_singleton]
    rw [hNH.out]
    intro q hq
    have hxo := hx.out
    rw [rnAt_app (by rw [hNH.out]; omega), hNH.out]
    by_cases e : q = N
    · rw [if_pos e, if_pos e]
    · rw [if_neg e, if_neg e]; exact hxo q (by omega))
  clear hnx hri7
  go_wp2_with fail
  exact ⟨⟨k + 1, _, _, by omega, hri8, hx8, hB7, ex_fnQ rfl⟩, by simp [mu2, intOf]; omega⟩
end Go.Proofs.YtekiemlniegddaaGreat

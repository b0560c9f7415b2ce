/- Contracts and laws (PcB, PRm, PcC, PcD). -/
import Derived.Test.YtekiemlniegddaaGreatQH5
import Derived.Test.YtekiemlniegddaaGreatQH4
set_option linter.unusedVariables false
set_option linter.unusedSimpArgs false
namespace Go.Proofs.YtekiemlniegddaaGreat
open Go Go.RowKit Go.Shelf
/-- More that holds of the rounds of the first k steps: heads in order, none of them carried, results behind heads, each head there. -/
structure RsOk2 (I : Int) (ss : List StepN) (k : Nat) (R : RsN) : Prop where
 mono : ∀ q t, q < t → t < R.out.length → (rnAt R.out q).at_ < (rnAt R.out t).at_
 up : ∀ q, q < R.out.length → I + ((rnAt R.out q).at_ : Int) ≤ (rnAt R.out q).res
 nocar : ∀ q, q < R.out.length → carB I (useF ss ss.length) (stAt ss (rnAt R.out q).at_) = false
 full : ∀ j, j < k → carB I (useF ss ss.length) (stAt ss j) = false → ∃ q, q < R.out.length ∧ (rnAt R.out q).at_ = j
theorem rds_ok2 {I : Int} {ss : List StepN} (hr : RefOk I ss) : ∀ k, k ≤ ss.length → RsOk2 I ss k (rdsS I (useF ss ss.length) ss k)
 | 0, _ => { mono := fun q t _ h => absurd h (Nat.not_lt_zero _), up := fun q h => absurd h (Nat.not_lt_zero _), nocar := fun q h => absurd h (Nat.not_lt_zero _), full := fun j h => absurd h (Nat.not_lt_zero _) }
 | k + 1, hk => by
  have ih := rds_ok2 hr k (by omega)
  have ih1 := rds_ok hr k (by omega)
  rw [rdsS]
  cases hc : carB I (useF ss ss.length) (stAt ss k) with
  | false =>
   rw [if_neg (by simp)]
   obtain ⟨R, hR⟩ : ∃ R, rdsS I (useF ss ss.length) ss k = R := ⟨_, rfl⟩
   rw [hR] at ih ih1 ⊢
   have hat := fun t (ht : t ≤ R.out.length) => rnAt_app (r := (⟨k, stAt ss k, [], I + k⟩ : RndN)) ht
   refine { mono := fun q t hqt h => ?_, up := fun q h => ?_, nocar := fun q h => ?_, full := fun j h hj => ?_ }
   ·simp only [List.length_append, List.length_singleton] at h ⊢
    rw [hat _ (by omega), hat _ (by omega), if_neg (by omega : q ≠ R.out.length)]
    by_cases e : t = R.out.length
    ·rw [if_pos e]; exact (ih1.head q (by omega)).1
    ·rw [if_neg e]; exact ih.mono q t hqt (by omega)
   ·simp only [List.length_append, List.length_singleton] at h ⊢
    rw [hat _ (by omega)]
    by_cases e : q = R.out.length
    ·rw [if_pos e]; exact Int.le_refl _
    ·rw [if_neg e]; exact ih.up q (by omega)
   ·simp only [List.length_append, List.length_singleton] at h ⊢
    rw [hat _ (by omega)]
    by_cases e : q = R.out.length
    ·rw [if_pos e]; exact hc
    ·rw [if_neg e]; exact ih.nocar q (by omega)
   ·simp only [List.length_append, List.length_singleton]
    by_cases e : j = k
    ·subst e; exact ⟨R.out.length, by omega, by rw [hat _ (Nat.le_refl _), if_pos rfl]⟩
    ·obtain ⟨q, h1, h2⟩ := ih.full j (by omega) hj
     exact ⟨q, by omega, by rw [hat _ (by omega), if_neg (by omega)]; exact h2⟩
  | true =>
   rw [if_pos rfl]
   obtain ⟨q, hq, hof, hres⟩ := of_here ih1 hr (by omega) hc
   obtain ⟨R, hR⟩ : ∃ R, rdsS I (useF ss ss.length) ss k = R := ⟨_, rfl⟩
   rw [hR] at ih ih1 hq hof hres ⊢
   rw [hof]
   have hqn : (numF (some (ilit (q : Int)))).toNat = q := by show ((q : Int)).toNat = q; simp
   rw [hqn]
   have hat := fun t => rnAt_set (t := t) (r := carR (rnAt R.out q) (stAt ss k).pt (I + k)) hq
   have hat2 : ∀ t, (rnAt (R.out.set q (carR (rnAt R.out q) (stAt ss k).pt (I + k))) t).at_ = (rnAt R.out t).at_ := fun t => by
    rw [hat]; by_cases e : t = q
    ·rw [if_pos e, e]; rfl
    ·rw [if_neg e]
   have hl : (R.out.set q (carR (rnAt R.out q) (stAt ss k).pt (I + k))).length = R.out.length := by simp
   have hlt : (stAt ss k).a < I + k := (hr k (by omega) _ (opsN_a _)).2
   refine { mono := fun a t hat' h => ?_, up := fun t h => ?_, nocar := fun t h => ?_, full := fun j h hj => ?_ }
   ·simp only at h ⊢
    rw [hl] at h
    rw [hat2, hat2]; exact ih.mono a t hat' h
   ·simp only at h ⊢
    rw [hl] at h
    rw [hat2, hat]
    by_cases e : t = q
    ·rw [if_pos e]; show _ ≤ I + (k : Int); have := (ih1.head t h).1; omega
    ·rw [if_neg e]; exact ih.up t h
   ·simp only at h ⊢
    rw [hl] at h
    rw [hat2]; exact ih.nocar t h
   ·simp only
    rw [hl]
    by_cases e : j = k
    ·subst e; rw [hc] at hj; cases hj
    ·obtain ⟨t, h1, h2⟩ := ih.full j (by omega) hj
     exact ⟨t, h1, by rw [hat2]; exact h2⟩
/-- What the rounds of a pipe are like. -/
theorem rdsN_ok {I : Int} {ss : List StepN} (hr : RefOk I ss) : RsOk I ss ss.length (rdsS I (useF ss ss.length) ss ss.length) := rds_ok hr _ (Nat.le_refl _)
theorem rdsN_ok2 {I : Int} {ss : List StepN} (hr : RefOk I ss) : RsOk2 I ss ss.length (rdsS I (useF ss ss.length) ss ss.length) := rds_ok2 hr _ (Nat.le_refl _)
/-- What a head uses is given, or the result of an earlier round. -/
theorem head_there {I : Int} {ss : List StepN} (hr : RefOk I ss) {k : Nat} (hk : k < (rdsN I ss).length) {m : Int} (hm : m ∈ opsN (rnAt (rdsN I ss) k).head) :
  0 ≤ m ∧ (m < I ∨ ∃ q, q < k ∧ (rnAt (rdsN I ss) q).res = m) := by
 have h1 := rdsN_ok hr
 have h2 := rdsN_ok2 hr
 obtain ⟨hh1, hh2⟩ := h1.head k hk
 unfold rdsN at hm ⊢
 unfold rdsN at hk
 obtain ⟨R, hR⟩ : ∃ R, rdsS I (useF ss ss.length) ss ss.length = R := ⟨_, rfl⟩
 rw [hR] at h1 h2 hh1 hh2 hm hk ⊢
 rw [hh2] at hm
 obtain ⟨r1, r2⟩ := hr _ hh1 m hm
 refine ⟨r1, ?_⟩
 by_cases hI : m < I
 ·exact .inl hI
 right
 obtain ⟨j, rfl⟩ : ∃ j : Nat, m = I + j := ⟨(m - I).toNat, by omega⟩
 rcases h1.all j (by omega) with ⟨q, hq, hqr⟩ | ⟨t, ht, hta, htc⟩
 ·refine ⟨q, ?_, hqr⟩
  have hu := h2.up q hq
  rcases Nat.lt_trichotomy q k with h | h | h
  ·exact h
  ·subst h; omega
  ·have := h2.mono k q h hq; omega
 ·exfalso
  have hne : t ≠ (rnAt R.out k).at_ := fun e => by have := h2.nocar k hk; rw [← e, htc] at this; cases this
  have hmt := opsN_a (stAt ss t)
  rw [hta] at hmt
  have h3 := (carB_true htc).2.2
  rw [useF_num, hta] at h3
  rcases Nat.lt_or_gt_of_ne hne with h | h
  ·have := cntU_two h hmt hm (k := ss.length) hh1; omega
  ·have := cntU_two h hm hmt (k := ss.length) ht; omega
/-- The last image is the result of a round. -/
theorem last_there {I : Int} {ss : List StepN} (hr : RefOk I ss) (h0 : 0 < ss.length) : ∃ q, q < (rdsN I ss).length ∧ (rnAt (rdsN I ss) q).res = I + ss.length - 1 := by
 have h1 := rdsN_ok hr
 unfold rdsN
 obtain ⟨R, hR⟩ : ∃ R, rdsS I (useF ss ss.length) ss ss.length = R := ⟨_, rfl⟩
 rw [hR] at h1 ⊢
 rcases h1.all (ss.length - 1) (by omega) with ⟨q, hq, hqr⟩ | ⟨t, ht, hta, htc⟩
 ·exact ⟨q, hq, by rw [hqr]; omega⟩
 ·have := (hr t ht _ (opsN_a _)).2; omega
theorem res_inj {I : Int} {ss : List StepN} (hr : RefOk I ss) {q t : Nat} (hq : q < (rdsN I ss).length) (ht : t < (rdsN I ss).length) (h : (rnAt (rdsN I ss) q).res = (rnAt (rdsN I ss) t).res) : q = t := by
 have h1 := rdsN_ok hr
 have a1 := h1.there q hq
 have a2 := h1.there t ht
 unfold rdsN at h
 rw [h, a2] at a1
 injection a1 with a1; injection a1 with _ a1; omega
theorem res_bd {I : Int} {ss : List StepN} (hr : RefOk I ss) {q : Nat} (hq : q < (rdsN I ss).length) : I ≤ (rnAt (rdsN I ss) q).res ∧ (rnAt (rdsN I ss) q).res < I + ss.length := by
 obtain ⟨j, h1, h2⟩ := (rdsN_ok hr).res q hq
 unfold rdsN
 omega
/-- How often each image is used by heads, and by the end. -/
def lefF (last : Int) (rs : List RndN) : Nat → FnL
 | 0 => putF (fun _ => none) last (ilit 1)
 | k + 1 => incL (lefF last rs k) (opsN (rnAt rs k).head)
def cntR (rs : List RndN) (m : Int) : Nat → Nat
 | 0 => 0
 | k + 1 => cntR rs m k + inOps (rnAt rs k).head m
def isL (last m : Int) : Nat := if m = last then 1 else 0
theorem lefF_num (last : Int) (rs : List RndN) (m : Int) : ∀ k, numF (lefF last rs k m) = isL last m + cntR rs m k
 | 0 => by
  unfold lefF isL putF
  by_cases h : m = last
  ·rw [if_pos h, if_pos h]; rfl
  ·rw [if_neg h, if_neg h]; rfl
 | k + 1 => by rw [lefF, incL_num, lefF_num last rs m k, cntR]; push_cast; omega
def livI (left : FnL) : Nat → FnL
 | 0 => fun _ => none
 | k + 1 => if 0 < numF (left (k : Int)) then putF (livI left k) (k : Int) (.bool true) else livI left k
theorem livI_at (left : FnL) (m : Int) : ∀ k, livI left k m = if 0 ≤ m ∧ m < k ∧ 0 < numF (left m) then some (.bool true) else none
 | 0 => by rw [livI, if_neg (by omega)]
 | k + 1 => by
  rw [livI]
  by_cases h : 0 < numF (left (k : Int))
  ·rw [if_pos h]
   by_cases e : m = (k : Int)
   ·subst e; rw [putF_same, if_pos ⟨by omega, by omega, h⟩]
   ·rw [putF_ne _ _ e, livI_at left m k]
    by_cases h2 : 0 ≤ m ∧ m < k ∧ 0 < numF (left m)
    ·rw [if_pos h2, if_pos ⟨h2.1, by omega, h2.2.2⟩]
    ·rw [if_neg h2, if_neg (fun h3 => h2 ⟨h3.1, by omega, h3.2.2⟩)]
  ·rw [if_neg h, livI_at left m k]
   by_cases h2 : 0 ≤ m ∧ m < k ∧ 0 < numF (left m)
   ·rw [if_pos h2, if_pos ⟨h2.1, by omega, h2.2.2⟩]
   ·rw [if_neg h2, if_neg]
    rintro ⟨h3, h4, h5⟩
    by_cases e : m = (k : Int)
    ·subst e; exact h h5
    ·exact h2 ⟨h3, by omega, h5⟩
structure PlS where
 left : FnL
 live : FnL
def useOne (s : PlS) (n : Int) : PlS := ⟨putF s.left n (ilit (numF (s.left n) - 1)), if numF (s.left n) - 1 = 0 then delF s.live n else s.live⟩
def useL (s : PlS) (l : List Int) : PlS := l.foldl useOne s
/-- What is left, and in use, before a round. -/
def plS (I : Nat) (last : Int) (rs : List RndN) : Nat → PlS
 | 0 => ⟨lefF last rs rs.length, livI (lefF last rs rs.length) I⟩
 | k + 1 =>
  let s1 := useL ⟨(plS I last rs k).left, putF (plS I last rs k).live (rnAt rs k).res (.bool true)⟩ (opsN (rnAt rs k).head)
  ⟨s1.left, if numF (s1.left (rnAt rs k).res) = 0 then delF s1.live (rnAt rs k).res else s1.live⟩
/-- What is in use in a round. -/
def livN (I : Nat) (last : Int) (rs : List RndN) (k : Nat) : FnL := putF (plS I last rs k).live (rnAt rs k).res (.bool true)
def mostN (I : Nat) (last : Int) (rs : List RndN) (m : Nat) : Nat → Nat
 | 0 => 0
 | k + 1 => max (mostN I last rs m k) (cntF (livN I last rs k) m)
theorem useOne_left (s : PlS) (n m : Int) : numF ((useOne s n).left m) = numF (s.left m) - if m = n then 1 else 0 := by
 unfold useOne
 simp only
 unfold putF
 by_cases h : m = n
 ·subst h; rw [if_pos rfl, if_pos rfl]; rfl
 ·rw [if_neg h, if_neg h]; omega
theorem useOne_live (s : PlS) (n m : Int) : (useOne s n).live m = if m = n ∧ numF (s.left m) = 1 then none else s.live m := by
 unfold useOne
 simp only
 by_cases h : m = n
 ·subst h
  by_cases h1 : numF (s.left m) = 1
  ·rw [if_pos (show numF (s.left m) - 1 = 0 by omega), if_pos ⟨rfl, h1⟩, delF_same]
  ·rw [if_neg (show ¬ (numF (s.left m) - 1 = 0) by omega), if_neg (fun (h2 : m = m ∧ numF (s.left m) = 1) => h1 h2.2)]
 ·rw [if_neg (fun (h2 : m = n ∧ numF (s.left m) = 1) => h h2.1)]
  by_cases h3 : numF (s.left n) - 1 = 0
  ·rw [if_pos h3, delF_ne _ h]
  ·rw [if_neg h3]
theorem useL_left (s : PlS) (t : StepN) (m : Int) : numF ((useL s (opsN t)).left m) = numF (s.left m) - inOps t m := by
 unfold inOps
 rcases opsN_cases t with ⟨e, _⟩ | ⟨e, _, hab⟩
 ·rw [e]; unfold useL; simp only [List.foldl_cons, List.foldl_nil, useOne_left, List.mem_singleton]
  by_cases h : m = t.a <;> simp [h]
 ·rw [e]; unfold useL; simp only [List.foldl_cons, List.foldl_nil, useOne_left, List.mem_cons, List.not_mem_nil, or_false]
  by_cases h : m = t.a
  ·subst h; simp [hab]
  ·by_cases h2 : m = t.b
   ·subst h2; simp [h]
   ·simp [h, h2]
theorem useL_live (s : PlS) (t : StepN) (m : Int) : (useL s (opsN t)).live m = if m ∈ opsN t ∧ numF (s.left m) = 1 then none else s.live m := by
 rcases opsN_cases t with ⟨e, _⟩ | ⟨e, _, hab⟩
 ·rw [e]; unfold useL; simp only [List.foldl_cons, List.foldl_nil, useOne_live, List.mem_singleton]
 ·rw [e]; unfold useL; simp only [List.foldl_cons, List.foldl_nil, useOne_live, useOne_left, List.mem_cons, List.not_mem_nil, or_false]
  by_cases h : m = t.a
  ·subst h
   by_cases h3 : numF (s.left t.a) = 1 <;> simp [h3, hab]
  ·by_cases h2 : m = t.b
   ·subst h2; by_cases h3 : numF (s.left t.b) = 1 <;> simp [h3, h]
   ·simp [h, h2]
/-- An image is there before round k: given, or the result of an earlier round. -/
def availN (I : Int) (rs : List RndN) (k : Nat) (m : Int) : Prop := (0 ≤ m ∧ m < I) ∨ ∃ q, q < k ∧ (rnAt rs q).res = m
theorem plS_left (I : Nat) (last : Int) (rs : List RndN) (m : Int) : ∀ k, numF ((plS I last rs k).left m) = isL last m + cntR rs m rs.length - cntR rs m k
 | 0 => by rw [plS]; simp only; rw [lefF_num, cntR]; omega
 | k + 1 => by
  rw [plS]
  simp only
  rw [useL_left]
  simp only
  rw [plS_left I last rs m k, cntR]
  push_cast
  omega
theorem cntR_mono (rs : List RndN) (m : Int) {a : Nat} : ∀ {b : Nat}, a ≤ b → cntR rs m a ≤ cntR rs m b
  | 0, h => by obtain rfl : a = 0 := by omega
               exact Nat.le_refl _
  | b + 1, h => by
    by_cases e : a = b + 1
    · subst e; exact Nat.le_refl _
    · have := cntR_mono rs m (a := a) (b := b) (by omega); rw [cntR]; omega
theorem plS_live {I : Nat} {last : Int} {rs : List RndN} (hres : ∀ k, k < rs.length → (rnAt rs k).res ∉ opsN (rnAt rs k).head) (m : Int) :
  ∀ k, k ≤ rs.length → ((plS I last rs k).live m = some (.bool true) ∧ availN I rs k m ∧ 0 < numF ((plS I last rs k).left m)) ∨ ((plS I last rs k).live m = none ∧ ¬ (availN I rs k m ∧ 0 < numF ((plS I last rs k).left m)))
 | 0, _ => by
  rw [plS]
  simp only
  rw [livI_at]
  by_cases h : 0 ≤ m ∧ m < I ∧ 0 < numF (lefF last rs rs.length m)
  ·rw [if_pos h]; exact .inl ⟨rfl, .inl ⟨h.1, h.2.1⟩, h.2.2⟩
  ·rw [if_neg h]
   refine .inr ⟨rfl, ?_⟩
   rintro ⟨h1 | ⟨q, hq, _⟩, h2⟩
   ·exact h ⟨h1.1, h1.2, h2⟩
   ·omega
 | k + 1, hk => by
  have ih := plS_live (I := I) (last := last) hres m k (by omega)
  have hl := plS_left I last rs m k
  have hl2 := plS_left I last rs m (k + 1)
  have hmono := cntR_mono rs m (a := k + 1) (b := rs.length) hk
  have hnot := hres k (by omega)
  have hstep : cntR rs m (k + 1) = cntR rs m k + inOps (rnAt rs k).head m := rfl
  have hav : availN I rs (k + 1) m ↔ availN I rs k m ∨ (rnAt rs k).res = m := by
   unfold availN
   constructor
   ·rintro (h | ⟨q, hq, e⟩)
    ·exact .inl (.inl h)
    ·by_cases e2 : q = k
     ·subst e2; exact .inr e
     ·exact .inl (.inr ⟨q, by omega, e⟩)
   ·rintro ((h | ⟨q, hq, e⟩) | e)
    ·exact .inl h
    ·exact .inr ⟨q, by omega, e⟩
    ·exact .inr ⟨k, by omega, e⟩
  obtain ⟨s, hs⟩ : ∃ s, plS I last rs k = s := ⟨_, rfl⟩
  obtain ⟨r, hrr⟩ : ∃ r, rnAt rs k = r := ⟨_, rfl⟩
  rw [plS] at hl2 ⊢
  simp only at hl2 ⊢
  rw [hs] at ih hl hl2 ⊢
  rw [hrr] at hnot hstep hav hl2 ⊢
  have h2 := useL_left ⟨s.left, putF s.live r.res (.bool true)⟩ r.head m
  have h3 := useL_live ⟨s.left, putF s.live r.res (.bool true)⟩ r.head m
  obtain ⟨s1, hs1⟩ : ∃ s1, useL ⟨s.left, putF s.live r.res (.bool true)⟩ (opsN r.head) = s1 := ⟨_, rfl⟩
  rw [hs1] at h2 h3 hl2 ⊢
  simp only at h2 h3
  by_cases e : m = r.res
  ·subst e
   have hi : inOps r.head r.res = 0 := by unfold inOps; rw [if_neg hnot]
   rw [if_neg (fun h => hnot h.1), putF_same] at h3
   by_cases h0 : numF (s1.left r.res) = 0
   ·rw [if_pos h0, delF_same]; right; exact ⟨rfl, fun h => by omega⟩
   ·rw [if_neg h0, h3]
    left
    refine ⟨rfl, hav.2 (.inr rfl), ?_⟩
    omega
  ·rw [putF_ne _ _ e] at h3
   have hrest : (if numF (s1.left r.res) = 0 then delF s1.live r.res else s1.live) m = s1.live m := by
    split
    ·rw [delF_ne _ e]
    ·rfl
   rw [hrest, h3]
   have hav' : availN I rs (k + 1) m ↔ availN I rs k m := by rw [hav]; exact ⟨fun h => h.elim id (fun h => absurd h.symm e), .inl⟩
   by_cases hm : m ∈ opsN r.head
   ·have hi := inOps_pos hm
    by_cases h1 : numF (s.left m) = 1
    ·rw [if_pos ⟨hm, h1⟩]; right; exact ⟨rfl, fun h => by omega⟩
    ·rw [if_neg (fun h => h1 h.2)]
     rcases ih with ⟨i1, i2, i3⟩ | ⟨i1, i2⟩
     ·left; exact ⟨i1, hav'.2 i2, by omega⟩
     ·right; exact ⟨i1, fun h => i2 ⟨hav'.1 h.1, by omega⟩⟩
   ·have hi : inOps r.head m = 0 := by unfold inOps; rw [if_neg hm]
    rw [if_neg (fun h => hm h.1)]
    rcases ih with ⟨i1, i2, i3⟩ | ⟨i1, i2⟩
    ·left; exact ⟨i1, hav'.2 i2, by omega⟩
    ·right; exact ⟨i1, fun h => i2 ⟨hav'.1 h.1, by omega⟩⟩
theorem res_not_ops {I : Int} {ss : List StepN} (hr : RefOk I ss) : ∀ k, k < (rdsN I ss).length → (rnAt (rdsN I ss) k).res ∉ opsN (rnAt (rdsN I ss) k).head := by
 intro k hk h
 have h1 := (rdsN_ok hr).head k hk
 have h2 := (rdsN_ok2 hr).up k hk
 unfold rdsN at h
 rw [h1.2] at h
 have := (hr _ h1.1 _ h).2
 omega
end Go.Proofs.YtekiemlniegddaaGreat
namespace Go.Proofs.YtekiemlniegddaaGreat
open Go Go.Maps Go.RowKit Go.Shelf
theorem OwnF.trn {P : Program} {K E : TypeId} {n m : Nat} {F : Int → Option Lit} {S : Nat → Prop} {W W' : World} {b : Nat} (h : OwnF P K E W b n F m) (ht : Trn S W W') (hS : ¬ S b) : OwnF P K E W' b n F m := by
 obtain ⟨D, ⟨es, clock, h1, h2, h3, h4⟩, hF⟩ := h
 exact ⟨D, ⟨es, clock, (ht.block _ (World.ownsMap.lt ⟨es, clock, h1, h2, h3, h4⟩) hS).trans h1, h2, h3, h4⟩, hF⟩
theorem OwnF.not_cells {P : Program} {K E : TypeId} {n m : Nat} {F : Int → Option Lit} {W : World} {b : Nat} (h : OwnF P K E W b n F m) {c : Nat} {t : TypeId} {cs : Array Value} (hk : W.heap[c]? = some (.cells cs t (0, 0))) : c ≠ b := by
 rintro rfl
 obtain ⟨D, ⟨es, clock, h1, _⟩, _⟩ := h
 rw [h1] at hk; cases hk
theorem OwnF.not_row {P : Program} {K E : TypeId} {n m : Nat} {F : Int → Option Lit} {W : World} {b : Nat} (h : OwnF P K E W b n F m) {base size k : Nat} {e : TypeId} {v : Value} {xs : List Value} (hr : W.ownsRow base e size v k xs) : v.ownBlock ≠ some b := by
 rcases hr.2 with ⟨rfl, _⟩ | ⟨g, cap, cur, rfl, _, hgb, _⟩
 ·intro e; cases e
 ·intro e
  obtain rfl : g = b := by simpa [Value.ownBlock] using e
  exact h.not_cells hgb rfl
/-- The cells of a point operation. -/
def ptCell (p : PointN) : Nat → Value := fun j => ([.int .i64 p.mul, .int .i64 p.add, .int .i64 p.div, .int .i64 p.lo, .int .i64 p.hi] : List Value)[j]?.getD .nilFunc
def ptAt (l : List PointN) (i : Nat) : PointN := l[i]?.getD noPt0
 where noPt0 : PointN := ⟨0, 0, 0, 0, 0⟩
def ptsC (l : List PointN) : List Value := flat 5 (fun i j => ptCell (ptAt l i) j) l.length
theorem ptAt_app (l : List PointN) (p : PointN) {i : Nat} (h : i ≤ l.length) : ptAt (l ++ [p]) i = if i = l.length then p else ptAt l i := by
 unfold ptAt
 by_cases e : i = l.length
 ·subst e; rw [if_pos rfl, List.getElem?_append_right (Nat.le_refl _)]; simp
 ·rw [if_neg e, List.getElem?_append_left (by omega)]
theorem ptsC_snoc (l : List PointN) (p : PointN) : ptsC l ++ [.int .i64 p.mul, .int .i64 p.add, .int .i64 p.div, .int .i64 p.lo, .int .i64 p.hi] = ptsC (l ++ [p]) := by
 unfold ptsC
 rw [List.length_append, List.length_singleton]
 rw [flat_congr (S := 5) (n := l.length) (g := fun i j => ptCell (ptAt (l ++ [p]) i) j) (fun i hi j _ => by rw [ptAt_app l p (by omega), if_neg (by omega)])]
 refine flat_snoc _ _ rfl fun j hj => ?_
 rw [ptAt_app l p (Nat.le_refl _), if_pos rfl]
 match j, hj with
 | 0, _ => rfl
 | 1, _ => rfl
 | 2, _ => rfl
 | 3, _ => rfl
 | 4, _ => rfl
/-- A round in memory. -/
structure RndA where
 r : RndN
 ka : Option Addr
 kc : Nat
 sa : Option Addr
 sc : Nat
 pv : Value
 ub : Nat
 uc : Nat
def rndL (x : RndA) : List Value :=
 [.int .u8 x.r.head.op, .int .i64 x.r.head.a, .int .i64 x.r.head.b, .int .i64 x.r.head.pt.mul, .int .i64 x.r.head.pt.add, .int .i64 x.r.head.pt.div, .int .i64 x.r.head.pt.lo, .int .i64 x.r.head.pt.hi, .int .u8 x.r.head.how, .int .i64 x.r.head.kw, .int .i64 x.r.head.kh, .slice x.ka x.r.head.taps.length x.kc, .int .u8 x.r.head.bd, .int .i64 x.r.head.sw, .int .i64 x.r.head.sh, .slice x.sa x.r.head.bits.length x.sc, x.pv, .slice (some ⟨x.ub, 0, none⟩) (opsN x.r.head).length x.uc, .int .i64 x.r.res]
abbrev rndv (x : RndA) : Value := .agg #[.int .u8 x.r.head.op, .int .i64 x.r.head.a, .int .i64 x.r.head.b, .int .i64 x.r.head.pt.mul, .int .i64 x.r.head.pt.add, .int .i64 x.r.head.pt.div, .int .i64 x.r.head.pt.lo, .int .i64 x.r.head.pt.hi, .int .u8 x.r.head.how, .int .i64 x.r.head.kw, .int .i64 x.r.head.kh, .slice x.ka x.r.head.taps.length x.kc, .int .u8 x.r.head.bd, .int .i64 x.r.head.sw, .int .i64 x.r.head.sh, .slice x.sa x.r.head.bits.length x.sc, x.pv, .slice (some ⟨x.ub, 0, none⟩) (opsN x.r.head).length x.uc, .int .i64 x.r.res]
def rndCell (x : RndA) : Nat → Value := fun j => (rndL x)[j]?.getD .nilFunc
theorem rndL_len (x : RndA) : (rndL x).length = 19 := rfl
theorem rndL_at (x : RndA) {j : Nat} (hj : j < 19) : (rndL x)[j]? = some (rndCell x j) := by
 unfold rndCell
 rw [List.getElem?_eq_getElem (by rw [rndL_len]; exact hj)]; rfl
/-- The call's own rounds. B0: where the steps' lists lie. -/
structure OwnRs (B0 B : Nat) (W : World) (v : Value) (n : Nat) (x : Nat → RndA) : Prop where
 row : W.ownsRow B 111 19 v n (flat 19 (fun q j => rndCell (x q) j) n)
 pts : ∀ q, q < n → W.ownsRow B 69 5 (x q).pv (x q).r.pts.length (ptsC (x q).r.pts)
 sep : ∀ q t, q < n → t < n → q ≠ t → (x q).pv.ownBlock = none ∨ (x q).pv.ownBlock ≠ (x t).pv.ownBlock
 uses : ∀ q, q < n → Blk W (x q).ub 3 ((opsN (x q).r.head).map (Value.int .i64)).toArray ∧ B ≤ (x q).ub
 taps : ∀ q, q < n → Rd B0 W (x q).ka (x q).r.head.taps ∧ RdB B0 W (x q).sa (x q).r.head.bits
theorem rnd_ne_pt : (111 : TypeId) ≠ 69 := by decide
theorem int_ne_pt : (3 : TypeId) ≠ 69 := by decide
theorem int_ne_rnd : (3 : TypeId) ≠ 111 := by decide
section
variable {B0 B : Nat} {W W' : World} {v : Value} {n : Nat} {x : Nat → RndA}
/-- What has turned lies apart from the rounds. -/
theorem OwnRs.trn {S : Nat → Prop} (h : OwnRs B0 B W v n x) (ht : Trn S W W') (hB : B0 ≤ W.heap.size) (h0 : ∀ b, b < B0 → ¬ S b) (h1 : ∀ b, v.ownBlock = some b → ¬ S b) (h2 : ∀ q, q < n → (∀ b, (x q).pv.ownBlock = some b → ¬ S b) ∧ ¬ S (x q).ub) : OwnRs B0 B W' v n x where
 row := ht.row h.row h1
 pts := fun q hq => ht.row (h.pts q hq) (h2 q hq).1
 sep := h.sep
 uses := fun q hq => ⟨ht.blk (h.uses q hq).1 (h2 q hq).2, (h.uses q hq).2⟩
 taps := fun q hq => ⟨(h.taps q hq).1.below (Nat.le_refl _) (ht.below hB h0), (h.taps q hq).2.below (Nat.le_refl _) (ht.below hB h0)⟩
theorem OwnRs.below (h : OwnRs B0 B W v n x) (hb : Below W.heap.size W W') (hB : B0 ≤ W.heap.size) : OwnRs B0 B W' v n x :=
 h.trn (Below.trn0 hb fun _ => False) hB (fun _ _ h => h) (fun _ _ h => h) (fun _ _ => ⟨fun _ _ h => h, fun h => h⟩)
theorem OwnRs.map {P : Program} {K E : TypeId} {k m b : Nat} {F : Int → Option Lit} (h : OwnRs B0 B W v n x) (hm : OwnF P K E W b k F m) (hg : W.grownBy W' (some b)) (hB : B0 ≤ W.heap.size) (hb : B0 ≤ b) : OwnRs B0 B W' v n x := by
 refine h.trn (grown_trn hg (fun c => c = b) (fun c e => by injection e with e; exact e.symm)) hB (fun c hc e => by omega) (fun c hc e => ?_) (fun q hq => ⟨fun c hc e => ?_, fun e => ?_⟩)
 ·subst e; exact hm.not_row h.row hc
 ·subst e; exact hm.not_row (h.pts q hq) hc
 ·exact hm.not_cells (h.uses q hq).1 e
theorem OwnRs.nil (B0 B : Nat) (W : World) (x : Nat → RndA) : OwnRs B0 B W (.slice none 0 0) 0 x :=
 ⟨by rw [flat_zero]; exact World.ownsRow_nil _ _ _ _, fun q h => absurd h (Nat.not_lt_zero _), fun q t h => absurd h (Nat.not_lt_zero _), fun q h => absurd h (Nat.not_lt_zero _), fun q h => absurd h (Nat.not_lt_zero _)⟩
theorem row_cellAt {base : Nat} {e : TypeId} {size g k c : Nat} {xs : List Value} (h : W.ownsRow base e size (.slice (some ⟨g, 0, none⟩) k c) k xs) (j : Nat) {u : Value} (hu : xs[j]? = some u) : W.cell? ⟨g, j, none⟩ = some u := by
 have := h.cells (g := g) rfl j u hu
 rwa [addr_add, Nat.zero_add] at this
theorem OwnRs.cell (h : OwnRs B0 B W v n x) {q : Nat} (hq : q < n) : ∃ g c, v = .slice (some ⟨g, 0, none⟩) n c ∧ B ≤ g ∧ g < W.heap.size ∧ ∀ j, j < 19 → W.cell? ⟨g, q * 19 + j, none⟩ = some (rndCell (x q) j) := by
 rcases h.row.2 with ⟨_, h0⟩ | ⟨g, cap, cur, rfl, hb, hg, _⟩
 ·omega
 ·exact ⟨g, cap, rfl, hb, (Array.getElem?_eq_some_iff.1 hg).1, fun j hj => row_cellAt h.row _ (flat_at _ hq hj)⟩
theorem OwnRs.slice (h : OwnRs B0 B W v n x) : ∃ a c, v = .slice a n c := by
 rcases h.row.2 with ⟨rfl, rfl⟩ | ⟨g, cap, cur, rfl, _⟩
 ·exact ⟨none, 0, rfl⟩
 ·exact ⟨_, _, rfl⟩
/-- Distinct types make distinct rows. -/
theorem rows_apart {B1 B2 : Nat} {e1 e2 : TypeId} {s1 s2 k1 k2 : Nat} {v1 v2 : Value} {xs ys : List Value} (h1 : W.ownsRow B1 e1 s1 v1 k1 xs) (h2 : W.ownsRow B2 e2 s2 v2 k2 ys) (he : e1 ≠ e2) {b : Nat} (a1 : v1.ownBlock = some b) (a2 : v2.ownBlock = some b) : False := by
 rcases h1.2 with ⟨rfl, _⟩ | ⟨g, cap, cur, rfl, _, hg, _⟩
 ·cases a1
 rcases h2.2 with ⟨rfl, _⟩ | ⟨g', cap', cur', rfl, _, hg', _⟩
 ·cases a2
 obtain rfl : g = b := by simpa [Value.ownBlock] using a1
 obtain rfl : g' = g := by simpa [Value.ownBlock] using a2
 rw [hg] at hg'; injection hg' with hg'; injection hg' with _ hg' _; exact he hg'
/-- One round more. -/
theorem OwnRs.push {v' : Value} {y : RndA} (h : OwnRs B0 B W v n x) (hrow : W'.ownsRow B 111 19 v' (n + 1) (flat 19 (fun q j => rndCell (x q) j) n ++ rndL y)) (hg : W.grownBy W' v.ownBlock) (hy : y.pv = .slice none 0 0) (hyp : y.r.pts = [])
  (hu : Blk W y.ub 3 ((opsN y.r.head).map (Value.int .i64)).toArray ∧ B ≤ y.ub) (ht : Rd B0 W y.ka y.r.head.taps ∧ RdB B0 W y.sa y.r.head.bits) (hB : B0 ≤ W.heap.size) (hB0 : B0 ≤ B) : OwnRs B0 B W' v' (n + 1) (fun q => if q = n then y else x q) := by
 have key := grown_trn hg (fun c => v.ownBlock = some c) (fun c e => e)
 have hlow : ∀ b, b < B0 → ¬ v.ownBlock = some b := fun b hb e => by have := (h.row.lt b e).1; omega
 refine { row := ?_, pts := fun q hq => ?_, sep := fun q t hq ht' hne => ?_, uses := fun q hq => ?_, taps := fun q hq => ?_ }
 ·rw [← flat_snoc (fun q j => rndCell (if q = n then y else x q) j) (rndL y) (rndL_len y) (fun j hj => by rw [if_pos rfl]; exact rndL_at y hj)]
  rw [flat_congr (S := 19) (n := n) (f := fun q j => rndCell (if q = n then y else x q) j) (g := fun q j => rndCell (x q) j) (fun i hi j _ => by rw [if_neg (by omega)])]
  exact hrow
 ·by_cases e : q = n
  ·simp only [e, if_true]; rw [hy, hyp]; exact World.ownsRow_nil _ _ _ _
  ·simp only [if_neg e]; exact key.row (h.pts q (by omega)) (fun b hb e2 => rows_apart h.row (h.pts q (by omega)) rnd_ne_pt e2 hb)
 ·by_cases e : q = n
  ·simp only [e, if_true]; rw [hy]; exact .inl rfl
  ·simp only [if_neg e]
   by_cases e2 : t = n
   ·simp only [e2, if_true]; rw [hy]
    cases hv : (x q).pv.ownBlock with
    | none => exact .inl rfl
    | some b => right; intro h; cases h
   ·simp only [if_neg e2]; exact h.sep q t (by omega) (by omega) hne
 ·by_cases e : q = n
  ·simp only [e, if_true]; exact ⟨key.blk hu.1 (fun e2 => hu.1.not_row int_ne_rnd h.row e2.symm), hu.2⟩
  ·simp only [if_neg e]; obtain ⟨a, b⟩ := h.uses q (by omega); exact ⟨key.blk a (fun e2 => a.not_row int_ne_rnd h.row e2.symm), b⟩
 ·by_cases e : q = n
  ·simp only [e, if_true]; exact ⟨ht.1.below (Nat.le_refl _) (key.below hB hlow), ht.2.below (Nat.le_refl _) (key.below hB hlow)⟩
  ·simp only [if_neg e]; obtain ⟨a, b⟩ := h.taps q (by omega); exact ⟨a.below (Nat.le_refl _) (key.below hB hlow), b.below (Nat.le_refl _) (key.below hB hlow)⟩
end
theorem OwnF.run_look {P : Program} {K E t : TypeId} {n m : Nat} {F : Int → Option Lit} {w : World} {b : Nat} (h : OwnF P K E w b n F m) (hK : P.underlying K = some (.int .i64)) (ht : P.underlying t = some (.map K E)) (hE : P.underlying E = some (.int .i64)) (hz : (zeroValue E).run P w = .ok (.int .i64 0) w) (k : Int) (hk : (Lit.int .i64 k).wf = true) :
  (Instr.lookup t (.map (some b)) (.int .i64 k) false).run P w = .ok (.int .i64 (numF (F k))) w := by
 obtain ⟨D, h1, h2⟩ := h
 obtain ⟨c, hrun, hat, hwc⟩ := h1.lookup_int (int_keyed hK) ht hE hz (keyOf_int_mk hK hk)
 have e : numF (F k) = c := by
  cases hF : F k with
  | none => rw [h2.none_at hk hF] at hat; injection hat with e1; injection e1 with _ e2
  | some v => rw [h2.here k hk v hF] at hat; injection hat with e1; subst e1; rfl
 rw [hrun, e]
theorem OwnF.run_lookb {P : Program} {K E t : TypeId} {n m : Nat} {F : Int → Option Lit} {w : World} {b : Nat} (h : OwnF P K E w b n F m) (hK : P.underlying K = some (.int .i64)) (ht : P.underlying t = some (.map K E)) (hE : P.underlying E = some .bool) (hz : (zeroValue E).run P w = .ok (.bool false) w) (k : Int) (hk : (Lit.int .i64 k).wf = true) :
  (Instr.lookup t (.map (some b)) (.int .i64 k) false).run P w = .ok (.bool (truF (F k))) w := by
 obtain ⟨D, h1, h2⟩ := h
 obtain ⟨c, hrun, hat⟩ := lookup_bool h1 (int_keyed hK) ht hE hz (keyOf_int_mk hK hk)
 have e : truF (F k) = c := by
  cases hF : F k with
  | none => rw [h2.none_at hk hF] at hat; injection hat with e1; injection e1 with e2
  | some v => rw [h2.here k hk v hF] at hat; injection hat with e1; subst e1; rfl
 rw [hrun, e]
theorem wf_num {k : Int} (h : -9223372036854775808 ≤ k ∧ k ≤ 9223372036854775807) : (Lit.int .i64 k).wf = true := WalkArith.wf_i64 h
theorem OwnF.putw {P : Program} {K E : TypeId} {n m : Nat} {F : Int → Option Lit} (w : World) {ops : Array Oper} {rest : List Oper} {o : Oper} {a : Act} {Q : Exit → Act → World → Prop} (hg : o.guard = none) (mm x v : Operand) (t : TypeId) (hop : o.op = Op.mapUpdate t mm x v) (hK : P.underlying K = some (.int .i64)) (ht : P.underlying t = some (.map K E)) (b : Nat) (hm : a.eval mm = .map (some b)) (h : OwnF P K E w b n F m) (hn : n < 100)
  (k : Nat) (hkm : k < m) (hm0 : m < 100) (val : Value) (l : Lit) (hx : a.eval x = .int .i64 (k : Int)) (hv : a.eval v = val) (hval : plainElem (H := Unit) P E val = some (.lit l, []))
  (hR : ∀ w', OwnF P K E w' b (n + 1) (putF F (k : Int) l) m → w.grownBy w' (some b) → wpList P ops Q rest (a.put o.dst undef) w') : wpList P ops Q (o :: rest) a w :=
 put_map w hg mm x v t hop K E hK ht b n m F hm h (by unfold maxLen; omega) k (wf_num ⟨by omega, by omega⟩) hkm val l hx hv hval hR
theorem OwnF.delw {P : Program} {K E : TypeId} {n m : Nat} {F : Int → Option Lit} (w : World) {ops : Array Oper} {rest : List Oper} {o : Oper} {a : Act} {Q : Exit → Act → World → Prop} (hg : o.guard = none) (mm x : Operand) (t : TypeId) (hop : o.op = Op.call { callee := Callee.builtin Builtin.delete, args := #[mm, x], argTypes := #[t, K] }) (hK : P.underlying K = some (.int .i64)) (ht : P.underlying t = some (.map K E)) (b : Nat) (hm : a.eval mm = .map (some b)) (h : OwnF P K E w b n F m)
  (k : Nat) (hkm : k < m) (hm0 : m < 100) (hx : a.eval x = .int .i64 (k : Int)) (hR : ∀ w', OwnF P K E w' b n (delF F (k : Int)) m → w.grownBy w' (some b) → wpList P ops Q rest (a.put o.dst (.tuple #[])) w') : wpList P ops Q (o :: rest) a w :=
 del_map w hg mm x t K hop E hK ht b n m F hm h k (wf_num ⟨by omega, by omega⟩) hkm hx hR
theorem step_append_atQ {P : Program} {ops : Array Oper} {o : Oper} {a : Act} {w : World} {K : Act → World → Prop} {Q : Exit → Act → World → Prop} {E : Prop}
  (hg : o.guard = none) (s x : Operand) (t : TypeId) (hop : o.op = Op.call { callee := Callee.builtin Builtin.append, args := #[s, x], argTypes := #[t, t] })
  (base : Nat) (e : TypeId) (i : TypeInfo) (z : Value) (size bytes : Nat) (h1 : P.underlying t = some (.slice e)) (h2 : P.info? e = some i) (h3 : i.zero = some z) (h4 : i.size = size) (h5 : i.bytes = bytes) (h6 : z.cells.size = size) (h7 : 0 < size)
  (v : Value) (k : Nat) (xs : List Value) (hs : a.eval s = v) (hown : w.ownsRow base e size v k xs) (ad : Addr) (m c : Nat) (news : List Value) (hx : a.eval x = .slice (some ad) m c) (hn : news.length = m * size)
  (hc : ∀ j u, news[j]? = some u → w.cell? (ad.add j) = some u) (h1c : ∀ u ∈ news, u.oneCell' = true) (b1 : k + m ≤ maxLen) (b2 : (k + m) * bytes ≤ 140737488355328) (b3 : base ≤ w.heap.size)
  (hK : ∀ v' w', w'.ownsRow base e size v' (k + m) (xs ++ news) → w.grownBy w' v.ownBlock → (v'.ownBlock = v.ownBlock ∨ v'.ownBlock = some w.heap.size) → K (a.put o.dst v') w') :
  if Region.wanted o (yielded ops a.tmps) = true then Oper.wp P o a w K Q else E := by
 have hw : Region.wanted o (yielded ops a.tmps) = true := by simp [Region.wanted, hg]
 rw [if_pos hw]
 obtain ⟨v', w', hrun, r1, r2, r3, r4⟩ := run_append_own_at (P := P) w base t o.type e i z size bytes h1 h2 h3 h4 h5 h6 h7 v k xs hown ad m c news hn hc h1c b1 b2 b3
 unfold Oper.wp
 simp [execOp, hop, resolve, invoke, builtin, hs, hx, hrun, Result.andThen]
 exact hK v' w' r1 r2 r4
theorem info_rnd : (Tryz.prog.info? 111).map (fun i => (i.zero, i.size, i.bytes)) = some (some (.agg #[.int .u8 0, .int .i64 0, .int .i64 0, .int .i64 0, .int .i64 0, .int .i64 0, .int .i64 0, .int .i64 0, .int .u8 0, .int .i64 0, .int .i64 0, .slice none 0 0, .int .u8 0, .int .i64 0, .int .i64 0, .slice none 0 0, .slice none 0 0, .slice none 0 0, .int .i64 0]), 19, 216) := by kernel_rfl
theorem info_pt : (Tryz.prog.info? 69).map (fun i => (i.zero, i.size, i.bytes)) = some (some (.agg #[.int .i64 0, .int .i64 0, .int .i64 0, .int .i64 0, .int .i64 0]), 5, 40) := by kernel_rfl
theorem zero_num (w : World) : (zeroValue 3).run Tryz.prog w = .ok (.int .i64 0) w := by kernel_rfl
theorem zero_boo (w : World) : (zeroValue 4).run Tryz.prog w = .ok (.bool false) w := by kernel_rfl
/-- Numbers at the keys stay small. -/
theorem incL_le (l : List Int) : ∀ (F : FnL) (N : Int), (∀ m, 0 ≤ numF (F m) ∧ numF (F m) ≤ N) → ∀ m, 0 ≤ numF (incL F l m) ∧ numF (incL F l m) ≤ N + l.length := by
 induction l with
 | nil => intro F N h m; show 0 ≤ numF (F m) ∧ numF (F m) ≤ N + ((0 : Nat) : Int); have := h m; omega
 | cons a l ih =>
  intro F N h m
  have h2 := ih (incF F a) (N + 1) (fun m => by rw [incF_num]; have := h m; split <;> omega) m
  show 0 ≤ numF (incL (incF F a) l m) ∧ numF (incL (incF F a) l m) ≤ N + ((l.length + 1 : Nat) : Int)
  omega
theorem incL_take {F : FnL} {l : List Int} {j : Nat} (hj : j < l.length) : incL F (l.take (j + 1)) = incF (incL F (l.take j)) (l[j]?.getD 0) := by
 unfold incL
 rw [List.take_succ_eq_append_getElem hj, List.foldl_append, List.getElem?_eq_getElem hj]; rfl
theorem useF_le (ss : List StepN) (k : Nat) (m : Int) : 0 ≤ numF (useF ss k m) ∧ numF (useF ss k m) ≤ (k : Int) := by
 rw [useF_num]
 have : ∀ k, cntU ss m k ≤ k := fun k => by
  induction k with
  | zero => exact Nat.le_refl _
  | succ k ih => rw [cntU]; have := inOps_le (stAt ss k) m; omega
 have := this k
 omega
theorem blk_news {W : World} {b : Nat} {t : TypeId} {cs : Array Value} (h : Blk W b t cs) : ∀ j u, cs.toList[j]? = some u → W.cell? ((⟨b, 0, none⟩ : Addr).add j) = some u := fun j u hu => by
 rw [addr_add, Nat.zero_add]; exact h.cell (by simpa using hu)
section
variable {B0 B : Nat} {W W' : World} {v : Value} {n : Nat} {x : Nat → RndA}
/-- A point operation is carried: its round's row of points grows, the record's slice is written. -/
theorem OwnRs.carry (h : OwnRs B0 B W v n x) {q : Nat} (hq : q < n) {pv' : Value} {p : PointN} (hrow : W'.ownsRow B 69 5 pv' ((x q).r.pts.length + 1) (ptsC (x q).r.pts ++ [.int .i64 p.mul, .int .i64 p.add, .int .i64 p.div, .int .i64 p.lo, .int .i64 p.hi])) (hg : W.grownBy W' (x q).pv.ownBlock)
  (hat : pv'.ownBlock = (x q).pv.ownBlock ∨ pv'.ownBlock = some W.heap.size) {g c : Nat} (hv : v = .slice (some ⟨g, 0, none⟩) n c) (hB : B0 ≤ W.heap.size) (hB0 : B0 ≤ B) :
  OwnRs B0 B (W'.setCell ⟨g, q * 19 + 16, none⟩ pv') v n (fun t => if t = q then { x q with pv := pv', r := { (x q).r with pts := (x q).r.pts ++ [p] } } else x t) := by
 have key := grown_trn hg (fun c => (x q).pv.ownBlock = some c) (fun c e => e)
 have hlow : ∀ b, b < B0 → ¬ (x q).pv.ownBlock = some b := fun b hb e => by have := ((h.pts q hq).lt b e).1; omega
 have hrow' : W'.ownsRow B 111 19 v n (flat 19 (fun q j => rndCell (x q) j) n) := key.row h.row (fun b hb e => rows_apart h.row (h.pts q hq) rnd_ne_pt hb e)
 subst hv
 have hst := hrow'.stored (q * 19 + 16) pv'
 rw [flat_set _ (by omega : 16 < 19)] at hst
 have hgb : g < W.heap.size := (h.row.lt g rfl).2
 have hgB : B ≤ g := (h.row.lt g rfl).1
 have key2 := grown_trn hst.2 (fun c => c = g) (fun c e => by injection e with e; exact e.symm)
 have hlow2 : ∀ b, b < B0 → ¬ b = g := fun b hb e => by omega
 have hpg : ∀ b, pv'.ownBlock = some b → ¬ b = g := fun b hb e => rows_apart hrow' hrow rnd_ne_pt (by subst e; rfl) hb
 refine { row := ?_, pts := fun t ht => ?_, sep := fun s t hs ht hne => ?_, uses := fun t ht => ?_, taps := fun t ht => ?_ }
 ·refine (flat_congr (S := 19) (n := n) fun i hi j hj => ?_) ▸ hst.1
  by_cases e : i = q
  ·subst e
   rw [if_pos rfl]
   by_cases e2 : j = 16
   ·subst e2; rw [if_pos ⟨rfl, rfl⟩]; rfl
   ·rw [if_neg (fun hh => e2 hh.2)]
    have : j < 16 ∨ j = 17 ∨ j = 18 := by omega
    unfold rndCell
    rcases this with hj2 | rfl | rfl
    ·have := (show j = 0 ∨ j = 1 ∨ j = 2 ∨ j = 3 ∨ j = 4 ∨ j = 5 ∨ j = 6 ∨ j = 7 ∨ j = 8 ∨ j = 9 ∨ j = 10 ∨ j = 11 ∨ j = 12 ∨ j = 13 ∨ j = 14 ∨ j = 15 by omega)
     rcases this with rfl | rfl | rfl | rfl | rfl | rfl | rfl | rfl | rfl | rfl | rfl | rfl | rfl | rfl | rfl | rfl <;> rfl
    ·rfl
    ·rfl
  ·rw [if_neg e, if_neg (fun hh => e hh.1)]
 ·by_cases e : t = q
  ·subst e
   simp only [if_true]
   rw [List.length_append, List.length_singleton, ← ptsC_snoc]
   exact key2.row hrow (fun b hb e => hpg b hb e)
  ·simp only [if_neg e]
   refine key2.row (key.row (h.pts t ht) (fun b hb e2 => ?_)) (fun b hb e2 => ?_)
   ·rcases h.sep q t hq ht (fun e3 => e e3.symm) with h1 | h1
    ·rw [h1] at e2; cases e2
    ·exact h1 (e2.trans hb.symm)
   ·exact rows_apart h.row (h.pts t ht) rnd_ne_pt (by rw [e2]; rfl) hb
 ·by_cases e : s = q
  ·subst e
   simp only [if_true, if_neg (show ¬ t = s from fun e => hne e.symm)]
   rcases hat with h1 | h1
   ·rw [h1]; exact h.sep s t hs ht hne
   ·right; rw [h1]; intro e2; have := ((h.pts t ht).lt _ e2.symm).2; omega
  ·by_cases e2 : t = q
   ·subst e2
    simp only [if_true, if_neg e]
    rcases hat with h1 | h1
    ·rw [h1]; exact h.sep s t hs ht hne
    ·right; rw [h1]; intro e2; have := ((h.pts s hs).lt _ e2).2; omega
   ·simp only [if_neg e, if_neg e2]; exact h.sep s t hs ht hne
 ·by_cases e : t = q
  ·subst e
   simp only [if_true]
   obtain ⟨a, b⟩ := h.uses t ht
   exact ⟨key2.blk (key.blk a (fun e2 => a.not_row int_ne_pt (h.pts t ht) e2.symm)) (fun e2 => a.not_row int_ne_rnd h.row (by rw [e2]; rfl)), b⟩
  ·simp only [if_neg e]
   obtain ⟨a, b⟩ := h.uses t ht
   exact ⟨key2.blk (key.blk a (fun e2 => a.not_row int_ne_pt (h.pts q hq) e2.symm)) (fun e2 => a.not_row int_ne_rnd h.row (by rw [e2]; rfl)), b⟩
 ·have hb1 := key.below hB hlow
  have hb2 := key2.below (Nat.le_trans hB key.size) hlow2
  by_cases e : t = q
  ·subst e; simp only [if_true]; obtain ⟨a, b⟩ := h.taps t ht; exact ⟨(a.below (Nat.le_refl _) hb1).below (Nat.le_refl _) hb2, (b.below (Nat.le_refl _) hb1).below (Nat.le_refl _) hb2⟩
  ·simp only [if_neg e]; obtain ⟨a, b⟩ := h.taps t ht; exact ⟨(a.below (Nat.le_refl _) hb1).below (Nat.le_refl _) hb2, (b.below (Nat.le_refl _) hb1).below (Nat.le_refl _) hb2⟩
/-- The record's result is written. -/
theorem OwnRs.setres (h : OwnRs B0 B W v n x) {q : Nat} (r : Int) {g c : Nat} (hv : v = .slice (some ⟨g, 0, none⟩) n c) (hB : B0 ≤ W.heap.size) (hB0 : B0 ≤ B) :
  OwnRs B0 B (W.setCell ⟨g, q * 19 + 18, none⟩ (.int .i64 r)) v n (fun t => if t = q then { x q with r := { (x q).r with res := r } } else x t) := by
 subst hv
 have hst := h.row.stored (q * 19 + 18) (.int .i64 r)
 rw [flat_set _ (by omega : 18 < 19)] at hst
 have hgB : B ≤ g := (h.row.lt g rfl).1
 have key2 := grown_trn hst.2 (fun c => c = g) (fun c e => by injection e with e; exact e.symm)
 have hlow2 : ∀ b, b < B0 → ¬ b = g := fun b hb e => by omega
 have hb2 := key2.below hB hlow2
 have hf : ∀ t, (if t = q then { x q with r := { (x q).r with res := r } } else x t).pv = (x t).pv ∧ (if t = q then { x q with r := { (x q).r with res := r } } else x t).r.pts = (x t).r.pts ∧ (if t = q then { x q with r := { (x q).r with res := r } } else x t).r.head = (x t).r.head ∧ (if t = q then { x q with r := { (x q).r with res := r } } else x t).ub = (x t).ub ∧ (if t = q then { x q with r := { (x q).r with res := r } } else x t).ka = (x t).ka ∧ (if t = q then { x q with r := { (x q).r with res := r } } else x t).sa = (x t).sa := fun t => by
  by_cases e : t = q
  ·subst e; rw [if_pos rfl]; exact ⟨rfl, rfl, rfl, rfl, rfl, rfl⟩
  ·rw [if_neg e]; exact ⟨rfl, rfl, rfl, rfl, rfl, rfl⟩
 refine { row := ?_, pts := fun t ht => ?_, sep := fun s t hs ht hne => ?_, uses := fun t ht => ?_, taps := fun t ht => ?_ }
 ·refine (flat_congr (S := 19) (n := n) fun i hi j hj => ?_) ▸ hst.1
  by_cases e : i = q
  ·subst e
   rw [if_pos rfl]
   by_cases e2 : j = 18
   ·subst e2; rw [if_pos ⟨rfl, rfl⟩]; rfl
   ·rw [if_neg (fun hh => e2 hh.2)]
    unfold rndCell
    have := (show j = 0 ∨ j = 1 ∨ j = 2 ∨ j = 3 ∨ j = 4 ∨ j = 5 ∨ j = 6 ∨ j = 7 ∨ j = 8 ∨ j = 9 ∨ j = 10 ∨ j = 11 ∨ j = 12 ∨ j = 13 ∨ j = 14 ∨ j = 15 ∨ j = 16 ∨ j = 17 by omega)
    rcases this with rfl | rfl | rfl | rfl | rfl | rfl | rfl | rfl | rfl | rfl | rfl | rfl | rfl | rfl | rfl | rfl | rfl | rfl <;> rfl
  ·rw [if_neg e, if_neg (fun hh => e hh.1)]
 ·obtain ⟨e1, e2, _⟩ := hf t
  simp only [e1, e2]
  exact key2.row (h.pts t ht) (fun b hb e => rows_apart h.row (h.pts t ht) rnd_ne_pt (by rw [e]; rfl) hb)
 ·simp only [(hf s).1, (hf t).1]; exact h.sep s t hs ht hne
 ·obtain ⟨_, _, e3, e4, _⟩ := hf t
  simp only [e3, e4]
  obtain ⟨a, b⟩ := h.uses t ht
  exact ⟨key2.blk a (fun e2 => a.not_row int_ne_rnd h.row (by rw [e2]; rfl)), b⟩
 ·obtain ⟨_, _, e3, _, e5, e6⟩ := hf t
  simp only [e3, e5, e6]
  obtain ⟨a, b⟩ := h.taps t ht
  exact ⟨a.below (Nat.le_refl _) hb2, b.below (Nat.le_refl _) hb2⟩
end
/-- What stands at the work on the rounds: the rounds, the map of the rounds, the map of the users, the pipe. -/
structure RdI (B0 B : Nat) (W : World) (v : Value) (N : Nat) (x : Nat → RndA) (bf kf : Nat) (F : FnL) (bu ku : Nat) (U : FnL) (M bp : Nat) (C : Array Value) : Prop where
 rs : OwnRs B0 B W v N x
 fm : OwnF Tryz.prog 3 3 W bf kf F M
 um : OwnF Tryz.prog 3 3 W bu ku U M
 kp : Blk W bp 24 C
 lo : B0 ≤ B ∧ B ≤ bp ∧ B ≤ bu ∧ B ≤ bf ∧ bu ≠ bf
theorem int_ne_pipe : (24 : TypeId) ≠ 111 := by decide
theorem pipe_ne_pt : (24 : TypeId) ≠ 69 := by decide
section
variable {B0 B : Nat} {W W' : World} {v : Value} {N : Nat} {x : Nat → RndA} {bf kf : Nat} {F : FnL} {bu ku : Nat} {U : FnL} {M bp : Nat} {C : Array Value}
theorem RdI.below (h : RdI B0 B W v N x bf kf F bu ku U M bp C) (hb : Below W.heap.size W W') : RdI B0 B W' v N x bf kf F bu ku U M bp C :=
 ⟨h.rs.below hb (by have := h.kp.lt; have := h.lo; omega), h.fm.below hb, h.um.below hb, h.kp.below hb h.kp.lt, h.lo⟩
theorem RdI.mapf (h : RdI B0 B W v N x bf kf F bu ku U M bp C) {kf' : Nat} {F' : FnL} (hf : OwnF Tryz.prog 3 3 W' bf kf' F' M) (hg : W.grownBy W' (some bf)) : RdI B0 B W' v N x bf kf' F' bu ku U M bp C ∧ Below B W W' := by
 obtain ⟨l1, l2, l3, l4, l5⟩ := h.lo
 have hk := h.kp.lt
 exact ⟨⟨h.rs.map h.fm hg (by omega) (by omega), hf, h.um.kept hg (fun e => l5 (by injection e)), h.kp.kept hg (fun e => (h.fm.not_cells h.kp) (by injection e)), h.lo⟩, (Below.refl B W).grown hg (by omega) (fun k e => by injection e with e; omega)⟩
theorem RdI.push (h : RdI B0 B W v N x bf kf F bu ku U M bp C) {v' : Value} {y : RndA} (hrow : W'.ownsRow B 111 19 v' (N + 1) (flat 19 (fun q j => rndCell (x q) j) N ++ rndL y)) (hg : W.grownBy W' v.ownBlock) (hy : y.pv = .slice none 0 0) (hyp : y.r.pts = [])
  (hu : Blk W y.ub 3 ((opsN y.r.head).map (Value.int .i64)).toArray ∧ B ≤ y.ub) (ht : Rd B0 W y.ka y.r.head.taps ∧ RdB B0 W y.sa y.r.head.bits) : RdI B0 B W' v' (N + 1) (fun q => if q = N then y else x q) bf kf F bu ku U M bp C ∧ Below B W W' := by
 obtain ⟨l1, l2, l3, l4, l5⟩ := h.lo
 have hk := h.kp.lt
 have key := grown_trn hg (fun c => v.ownBlock = some c) (fun c e => e)
 exact ⟨⟨h.rs.push hrow hg hy hyp hu ht (by omega) l1, h.fm.trn key (h.fm.not_row h.rs.row), h.um.trn key (h.um.not_row h.rs.row), key.blk h.kp (fun e => h.kp.not_row int_ne_pipe h.rs.row e.symm), h.lo⟩, below_of_row h.rs.row hg (Nat.le_refl _) (by omega)⟩
theorem RdI.carry (h : RdI B0 B W v N x bf kf F bu ku U M bp C) {q : Nat} (hq : q < N) {pv' : Value} {p : PointN} (hrow : W'.ownsRow B 69 5 pv' ((x q).r.pts.length + 1) (ptsC (x q).r.pts ++ [.int .i64 p.mul, .int .i64 p.add, .int .i64 p.div, .int .i64 p.lo, .int .i64 p.hi])) (hg : W.grownBy W' (x q).pv.ownBlock)
  (hat : pv'.ownBlock = (x q).pv.ownBlock ∨ pv'.ownBlock = some W.heap.size) {g c : Nat} (hv : v = .slice (some ⟨g, 0, none⟩) N c) :
  RdI B0 B (W'.setCell ⟨g, q * 19 + 16, none⟩ pv') v N (fun t => if t = q then { x q with pv := pv', r := { (x q).r with pts := (x q).r.pts ++ [p] } } else x t) bf kf F bu ku U M bp C ∧ Below B W (W'.setCell ⟨g, q * 19 + 16, none⟩ pv') := by
 obtain ⟨l1, l2, l3, l4, l5⟩ := h.lo
 have hk := h.kp.lt
 have hrs := h.rs.carry hq hrow hg hat hv (by omega) l1
 have key := grown_trn hg (fun c => (x q).pv.ownBlock = some c) (fun c e => e)
 have key2 := setCell_trn W' ⟨g, q * 19 + 16, none⟩ pv' (fun c => c = g) rfl
 have hvb : v.ownBlock = some g := by rw [hv]; rfl
 have f1 := h.fm.trn key (h.fm.not_row (h.rs.pts q hq))
 have u1 := h.um.trn key (h.um.not_row (h.rs.pts q hq))
 have k1 := key.blk h.kp (fun e => h.kp.not_row pipe_ne_pt (h.rs.pts q hq) e.symm)
 have b1 := below_of_row (h.rs.pts q hq) hg (Nat.le_refl B) (by omega)
 have hgB : B ≤ g := (h.rs.row.lt g hvb).1
 exact ⟨⟨hrs, f1.trn key2 (fun e => h.fm.not_row h.rs.row (e ▸ hvb)), u1.trn key2 (fun e => h.um.not_row h.rs.row (e ▸ hvb)), key2.blk k1 (fun e => h.kp.not_row int_ne_pipe h.rs.row (by rw [e, hvb])), h.lo⟩, b1.setCell hgB _⟩
theorem RdI.setres (h : RdI B0 B W v N x bf kf F bu ku U M bp C) {q : Nat} (r : Int) {g c : Nat} (hv : v = .slice (some ⟨g, 0, none⟩) N c) :
  RdI B0 B (W.setCell ⟨g, q * 19 + 18, none⟩ (.int .i64 r)) v N (fun t => if t = q then { x q with r := { (x q).r with res := r } } else x t) bf kf F bu ku U M bp C ∧ Below B W (W.setCell ⟨g, q * 19 + 18, none⟩ (.int .i64 r)) := by
 obtain ⟨l1, l2, l3, l4, l5⟩ := h.lo
 have hk := h.kp.lt
 have key2 := setCell_trn W ⟨g, q * 19 + 18, none⟩ (.int .i64 r) (fun c => c = g) rfl
 have hvb : v.ownBlock = some g := by rw [hv]; rfl
 have hgB : B ≤ g := (h.rs.row.lt g hvb).1
 exact ⟨⟨h.rs.setres r hv (by omega) l1, h.fm.trn key2 (fun e => h.fm.not_row h.rs.row (e ▸ hvb)), h.um.trn key2 (fun e => h.um.not_row h.rs.row (e ▸ hvb)), key2.blk h.kp (fun e => h.kp.not_row int_ne_pipe h.rs.row (by rw [e, hvb])), h.lo⟩, (Below.refl B W).setCell hgB _⟩
end
theorem RdI.monof {B0 B : Nat} {W : World} {v : Value} {N : Nat} {x : Nat → RndA} {bf kf : Nat} {F : FnL} {bu ku : Nat} {U : FnL} {M bp : Nat} {C : Array Value} (h : RdI B0 B W v N x bf kf F bu ku U M bp C) {kf' : Nat} (hk : kf ≤ kf') : RdI B0 B W v N x bf kf' F bu ku U M bp C := ⟨h.rs, h.fm.mono hk, h.um, h.kp, h.lo⟩
theorem rndL_one (x : RndA) (h : x.pv.oneCell' = true) : ∀ u ∈ rndL x, u.oneCell' = true := by
 intro u hu
 unfold rndL at hu
 simp only [List.mem_cons, List.not_mem_nil, or_false] at hu
 rcases hu with rfl | rfl | rfl | rfl | rfl | rfl | rfl | rfl | rfl | rfl | rfl | rfl | rfl | rfl | rfl | rfl | rfl | rfl | rfl <;> first | rfl | exact h
theorem info_partsQ {o : Option TypeInfo} {z : Value} {n b : Nat} (h : o.map (fun i => (i.zero, i.size, i.bytes)) = some (some z, n, b)) : ∃ i, o = some i ∧ i.zero = some z ∧ i.size = n ∧ i.bytes = b := by
 cases o with
 | none => cases h
 | some i => simp only [Option.map_some, Option.some.injEq, Prod.mk.injEq] at h; exact ⟨i, rfl, h.1, h.2.1, h.2.2⟩
theorem row_frz {W : World} {base : Nat} {e : TypeId} {size g n c k : Nat} {xs : List Value} (h : W.ownsRow base e size (.slice (some ⟨g, 0, none⟩) n c) k xs) (j : Nat) : W.frozen? ⟨g, j, none⟩ = false := by
 rcases h.2 with ⟨h0, _⟩ | ⟨g', cap, cur, h0, hb, hg, _⟩
 ·cases h0
 ·simp only [Value.slice.injEq, Option.some.injEq, Addr.mk.injEq, and_true, true_and] at h0
  simp [World.frozen?, h0.1, hg]
/-- A frame's values by their numbers. -/
theorem ex_fnQ {A : Act} {f : (Nat → Value) → Act} (h : A = f (fun i => A.tmps.getD i undef)) : ∃ u, A = f u := ⟨_, h⟩
theorem OwnF.run_put {P : Program} {K E t : TypeId} {n m : Nat} {F : Int → Option Lit} {w : World} {b : Nat} (h : OwnF P K E w b n F m) (hK : P.underlying K = some (.int .i64)) (ht : P.underlying t = some (.map K E)) (hn : n < 100) (k : Int) (hk : 0 ≤ k ∧ k < m) (hm0 : m < 100) (val : Value) (l : Lit) (hval : plainElem (H := Unit) P E val = some (.lit l, [])) :
  ∃ w', (Instr.mapUpdate t (.map (some b)) (.int .i64 k) val).run P w = .ok () w' ∧ OwnF P K E w' b (n + 1) (putF F k l) m ∧ w.grownBy w' (some b) := by
 obtain ⟨X, rfl⟩ : ∃ X : Nat, k = (X : Int) := ⟨k.toNat, by omega⟩
 obtain ⟨D, h1, h2⟩ := h
 obtain ⟨w', hrun, r1, r2⟩ := h1.update (int_keyed hK) ht (by unfold maxLen; omega) (keyOf_int_mk hK (wf_num (k := (X : Int)) ⟨by omega, by omega⟩)) hval
 exact ⟨w', hrun, ⟨_, r1, h2.put (k := X) (wf_num (k := (X : Int)) ⟨by omega, by omega⟩) (by omega) l⟩, r2⟩
end Go.Proofs.YtekiemlniegddaaGreat
namespace Go.Proofs.YtekiemlniegddaaGreat
open Go Go.RowKit Go.Shelf
structure InsN where
 op : Int
 d : Int
 a : Int
 b : Int
 val : Int
 pt : PointN
 how : Int
 ad : List Int
def noPt : PointN := ⟨0, 0, 0, 0, 0⟩
structure VecN where
 lanes : Int
 regs : Int
 mem : Int
structure CodeN where
 w : Int
 h : Int
 inp : List Int
 out : Int
 ins : List InsN
def vecB (v : VecN) : Bool := inR v.lanes 1 16 && (inR v.regs 2 16 && inR v.mem 1 8192)
/-- An address, or -1, for each lane. -/
def adrB (v : VecN) (l : List Int) : Bool := decide ((l.length : Int) = v.lanes) && l.all (fun x => inR x (-1) (v.mem - 1))
/-- An instruction is valid. -/
def insB (v : VecN) (x : InsN) : Bool :=
 if x.op = 1 then inR x.d 0 (v.regs - 1) && (inR x.val (-2147483648) 2147483648 && adrB v x.ad)
 else if x.op = 2 then inR x.a 0 (v.regs - 1) && adrB v x.ad
 else if x.op = 3 then inR x.d 0 (v.regs - 1) && inR x.val (-2147483648) 2147483648
 else if x.op = 4 then inR x.d 0 (v.regs - 1) && (inR x.a 0 (v.regs - 1) && x.pt.ok)
 else if x.op = 5 then inR x.d 0 (v.regs - 1) && (inR x.a 0 (v.regs - 1) && (inR x.b 0 (v.regs - 1) && inR x.how 1 6))
 else if x.op = 6 then inR x.d 0 (v.regs - 1) && (inR x.a 0 (v.regs - 1) && inR x.val (-65536) 65536)
 else false
def codeB (v : VecN) (c : CodeN) : Bool :=
 (inR c.w 1 16 && inR c.h 1 16) && (decide (c.inp.length ≤ 3) && (decide (c.ins.length ≤ 200000) && (inR c.out 0 (v.mem - c.w * c.h) && (c.inp.all (fun x => decide (x = -1) || inR x 0 (v.mem - c.w * c.h)) && c.ins.all (insB v)))))
def chkS (v : VecN) (c : CodeN) : Int := if vecB v = true then (if codeB v c = true then 0 else 32) else 31
structure MacN where
 regs : Nat → Nat → Int
 mem : Nat → Int
def pix (v : Int) : Int := clamp v (-2147483648) 2147483648
def wide (v : Int) : Int := clamp v (-1152921504606846976) 1152921504606846976
def setR (M : MacN) (d : Nat) (f : Nat → Int) : MacN := ⟨fun r => if r = d then f else M.regs r, M.mem⟩
/-- The values of some lanes are stored. -/
def stoM (ad : Nat → Int) (v : Nat → Int) (mem : Nat → Int) : Nat → Nat → Int
 | 0 => mem
 | k + 1 => fun i => if 0 ≤ ad k ∧ (i : Int) = ad k then v k else stoM ad v mem k i
def adOf (x : InsN) (j : Nat) : Int := x.ad[j]?.getD 0
/-- What an instruction does. -/
def stepM (lanes : Nat) (x : InsN) (M : MacN) : MacN :=
 if x.op = 1 then setR M x.d.toNat (fun j => if 0 ≤ adOf x j then M.mem (adOf x j).toNat else x.val)
 else if x.op = 2 then ⟨M.regs, stoM (adOf x) (fun j => pix (M.regs x.a.toNat j)) M.mem lanes⟩
 else if x.op = 3 then setR M x.d.toNat (fun _ => x.val)
 else if x.op = 4 then setR M x.d.toNat (fun j => pix (pointF x.pt (pix (M.regs x.a.toNat j))))
 else if x.op = 5 then setR M x.d.toNat (fun j => pix (zipF x.how (pix (M.regs x.a.toNat j)) (pix (M.regs x.b.toNat j))))
 else if x.op = 6 then setR M x.d.toNat (fun j => wide (M.regs x.d.toNat j + x.val * pix (M.regs x.a.toNat j)))
 else M
def runM (lanes : Nat) (l : List InsN) (M : MacN) : MacN := l.foldl (fun M x => stepM lanes x M) M
theorem runM_app (lanes : Nat) (l k : List InsN) (M : MacN) : runM lanes (l ++ k) M = runM lanes k (runM lanes l M) := by unfold runM; rw [List.foldl_append]
theorem runM_cons (lanes : Nat) (x : InsN) (l : List InsN) (M : MacN) : runM lanes (x :: l) M = runM lanes l (stepM lanes x M) := rfl
theorem runM_nil (lanes : Nat) (M : MacN) : runM lanes [] M = M := rfl
/-- Memory behind the images that are placed: image i at ats i, if that is an address. -/
def putImg (at_ : Int) (xs : List Int) (mem : Nat → Int) : Nat → Int := fun i => if 0 ≤ at_ ∧ at_ ≤ (i : Int) ∧ (i : Int) < at_ + xs.length then px xs ((i : Int) - at_) else mem i
def memN (ats : List Int) (ms : List PicN) : Nat → Nat → Int
 | 0 => fun _ => 0
 | k + 1 => putImg (ats[k]?.getD 0) (picAt ms k).px (memN ats ms k)
def mac0 (c : CodeN) (ms : List PicN) : MacN := ⟨fun _ _ => 0, memN c.inp ms c.inp.length⟩
def outN (M : MacN) (from_ : Int) (n : Nat) : List Int := (List.range n).map fun i => M.mem (from_.toNat + i)
def runS (v : VecN) (c : CodeN) (ms : List PicN) : ImR :=
 if chkS v c = 0 then (if givenB ms c.inp.length c.w c.h = true then { w := c.w, h := c.h, px := outN (runM v.lanes.toNat c.ins (mac0 c ms)) c.out (c.w.toNat * c.h.toNat), err := 0 } else noIm 2) else noIm (chkS v c)
/-- Where a place lies beyond the border. -/
def cellX (bd n x : Int) : Int := if bd = 2 then clamp x 0 (n - 1) else if bd = 3 then x % n else x
def cellN (w h x y bd : Int) : Int := if (inR (cellX bd w x) 0 (w - 1) && inR (cellX bd h y) 0 (h - 1)) = true then cellX bd h y * w + cellX bd w x else -1
def adrAt (w h : Int) (lanes g : Nat) (place dx dy bd : Int) (j : Nat) : Int :=
 if ((g * lanes + j : Nat) : Int) < w * h then
  (if 0 ≤ cellN w h (((g * lanes + j : Nat) : Int) % w + dx) (((g * lanes + j : Nat) : Int) / w + dy) bd then place + cellN w h (((g * lanes + j : Nat) : Int) % w + dx) (((g * lanes + j : Nat) : Int) / w + dy) bd else -1)
 else -1
def adrN (w h : Int) (lanes g : Nat) (place dx dy bd : Int) : List Int := (List.range lanes).map (adrAt w h lanes g place dx dy bd)
section
variable (w h : Int) (lanes g : Nat)
def insL (d place dx dy val bd : Int) : InsN := ⟨1, d, 0, 0, val, noPt, 0, adrN w h lanes g place dx dy bd⟩
def insZ (how : Int) : InsN := ⟨5, 0, 0, 1, 0, noPt, how, []⟩
def insP (p : PointN) : InsN := ⟨4, 0, 0, 0, 0, p, 0, []⟩
def insA (tap : Int) : InsN := ⟨6, 0, 1, 0, tap, noPt, 0, []⟩
def insC : InsN := ⟨3, 0, 0, 0, 0, noPt, 0, []⟩
def insS (place : Int) : InsN := ⟨2, 0, 0, 0, 0, noPt, 0, adrN w h lanes g place 0 0 0⟩
/-- The instructions of the first k taps. -/
def tapsC (p : Int) (s : StepN) : Nat → List InsN
 | 0 => []
 | k + 1 => tapsC p s k ++ (if s.taps[k]?.getD 0 = 0 then [] else [insL w h lanes g 1 p (s.kw / 2 - (k : Int) % s.kw) (s.kh / 2 - (k : Int) / s.kw) 0 s.bd, insA (s.taps[k]?.getD 0)])
def bitAt (s : StepN) (k : Nat) : Bool := s.bits[k]?.getD false
def noBit (s : StepN) : Nat → Bool
 | 0 => true
 | k + 1 => noBit s k && !bitAt s k
def sgnC (s : StepN) : Int := if s.op = 4 then -1 else 1
def valC (s : StepN) : Int := if s.op = 4 then -2147483648 else 2147483648
def howC (s : StepN) : Int := if s.op = 4 then 4 else 3
def bitsC (p : Int) (s : StepN) : Nat → List InsN
 | 0 => []
 | k + 1 => bitsC p s k ++ (if bitAt s k = false then [] else
   if noBit s k = true then [insL w h lanes g 0 p (sgnC s * ((k : Int) % s.sw - s.sw / 2)) (sgnC s * ((k : Int) / s.sw - s.sh / 2)) (valC s) 0]
   else [insL w h lanes g 1 p (sgnC s * ((k : Int) % s.sw - s.sw / 2)) (sgnC s * ((k : Int) / s.sw - s.sh / 2)) (valC s) 0, insZ (howC s)])
def headC (at_ : FnL) (s : StepN) : List InsN :=
 if s.op = 1 then [insL w h lanes g 0 (numF (at_ s.a)) 0 0 0 0, insP s.pt]
 else if s.op = 2 then [insL w h lanes g 0 (numF (at_ s.a)) 0 0 0 0, insL w h lanes g 1 (numF (at_ s.b)) 0 0 0 0, insZ s.how]
 else if s.op = 3 then insC :: tapsC w h lanes g (numF (at_ s.a)) s s.taps.length
 else bitsC w h lanes g (numF (at_ s.a)) s s.bits.length
def groupC (at_ : FnL) (r : RndN) (to : Int) : List InsN := headC w h lanes g at_ r.head ++ r.pts.map insP ++ [insS w h lanes g to]
end
def roundC (w h : Int) (lanes : Nat) (at_ : FnL) (r : RndN) (to : Int) : Nat → List InsN
 | 0 => []
 | g + 1 => roundC w h lanes at_ r to g ++ groupC w h lanes g at_ r to
def grpsN (w h lanes : Int) : Int := (w * h + lanes - 1) / lanes
/-- A compiler at work. -/
structure CmN where
 at_ : FnL
 free : List Int
 code : List InsN
/-- Places of images that are not in use are free again. -/
def sweepN (live : FnL) (C : CmN) : Nat → CmN
 | 0 => C
 | m + 1 => if ((sweepN live C m).at_ (m : Int)).isSome = true ∧ truF (live (m : Int)) = false then ⟨delF (sweepN live C m).at_ (m : Int), (sweepN live C m).free ++ [numF ((sweepN live C m).at_ (m : Int))], (sweepN live C m).code⟩ else sweepN live C m
def lastN (C : CmN) : Int := C.free[C.free.length - 1]?.getD 0
def placeN (C : CmN) (m : Int) : CmN := ⟨putF C.at_ m (ilit (lastN C)), C.free.take (C.free.length - 1), C.code⟩
def freeN (n : Int) : Nat → List Int
 | 0 => []
 | k + 1 => (k : Int) * n :: freeN n k
structure InC where
 c : CmN
 inp : List Int
def inpN (left : FnL) (C : CmN) : Nat → InC
 | 0 => ⟨C, []⟩
 | k + 1 => if numF (left (k : Int)) = 0 then ⟨(inpN left C k).c, (inpN left C k).inp ++ [-1]⟩ else ⟨placeN (inpN left C k).c (k : Int), (inpN left C k).inp ++ [lastN (inpN left C k).c]⟩
def rndC (P : PipeN) (lanes : Int) (live : FnL) (r : RndN) (C : CmN) : CmN :=
 let S := sweepN live C (P.inp.toNat + P.ss.length)
 let D := placeN S r.res
 ⟨D.at_, D.free, D.code ++ roundC P.w P.h lanes.toNat D.at_ r (lastN S) (grpsN P.w P.h lanes).toNat⟩
def lastI (P : PipeN) : Int := P.inp + P.ss.length - 1
def cmp0 (P : PipeN) (most : Nat) : InC := inpN (lefF (lastI P) (rdsN P.inp P.ss) (rdsN P.inp P.ss).length) ⟨fun _ => none, freeN (P.w * P.h) most, []⟩ P.inp.toNat
def mostP (P : PipeN) : Nat := mostN P.inp.toNat (lastI P) (rdsN P.inp P.ss) (P.inp.toNat + P.ss.length) (rdsN P.inp P.ss).length
def cmpS (P : PipeN) (lanes : Int) : Nat → CmN
 | 0 => (cmp0 P (mostP P)).c
 | k + 1 => rndC P lanes (livN P.inp.toNat (lastI P) (rdsN P.inp P.ss) k) (rnAt (rdsN P.inp P.ss) k) (cmpS P lanes k)
def cmpC (P : PipeN) (v : VecN) : CodeN :=
 let C := cmpS P v.lanes (rdsN P.inp P.ss).length
 ⟨P.w, P.h, (cmp0 P (mostP P)).inp, numF (C.at_ (lastI P)), C.code⟩
def roomP (P : PipeN) : Int := (mostP P : Int) * P.w * P.h
end Go.Proofs.YtekiemlniegddaaGreat
namespace Go.Proofs.YtekiemlniegddaaGreat
open Go Go.RowKit Go.Shelf
/-- An image's values stand in memory from a place on. -/
structure AtImg (mem : Nat → Int) (p : Int) (xs : List Int) (n : Nat) : Prop where
 nn : 0 ≤ p
 val : ∀ i : Nat, i < n → mem (p.toNat + i) = px xs (i : Int)
theorem range_getD {f : Nat → Int} {n j : Nat} (h : j < n) : ((List.range n).map f)[j]?.getD 0 = f j := by
 rw [List.getElem?_map, List.getElem?_range h]; rfl
theorem adrN_at (w h : Int) {lanes : Nat} (g : Nat) (p dx dy bd : Int) {j : Nat} (hj : j < lanes) : (adrN w h lanes g p dx dy bd)[j]?.getD 0 = adrAt w h lanes g p dx dy bd j := range_getD hj
theorem cell_cases (w h x y bd : Int) : ((inR (cellX bd w x) 0 (w - 1) && inR (cellX bd h y) 0 (h - 1)) = true ∧ cellN w h x y bd = cellX bd h y * w + cellX bd w x ∧ 0 ≤ cellX bd w x ∧ cellX bd w x ≤ w - 1 ∧ 0 ≤ cellX bd h y ∧ cellX bd h y ≤ h - 1) ∨
  ((inR (cellX bd w x) 0 (w - 1) && inR (cellX bd h y) 0 (h - 1)) = false ∧ cellN w h x y bd = -1) := by
 unfold cellN
 cases hc : inR (cellX bd w x) 0 (w - 1) && inR (cellX bd h y) 0 (h - 1) with
 | true =>
  rw [if_pos rfl]
  simp only [Bool.and_eq_true, inR_true] at hc
  exact .inl ⟨rfl, rfl, hc.1.1, hc.1.2, hc.2.1, hc.2.2⟩
 | false => rw [if_neg (by simp)]; exact .inr ⟨rfl, rfl⟩
theorem cell_bd {w h x y bd : Int} (hw : 1 ≤ w) (hh : 1 ≤ h) : -1 ≤ cellN w h x y bd ∧ cellN w h x y bd < w * h := by
 have hwh : 0 < w * h := Int.mul_pos (by omega) (by omega)
 rcases cell_cases w h x y bd with ⟨_, e, a1, a2, a3, a4⟩ | ⟨_, e⟩
 ·have h1 := in_idx (iw := w) (ih := h) (u := cellX bd w x) (v := cellX bd h y) (n := (w * h).toNat) hw (by omega) a1 a2 a3 a4
  rw [e]; omega
 ·rw [e]; omega
/-- What is loaded from an image for the pixel i with an offset. -/
def ldV (w h : Int) (xs : List Int) (i : Nat) (dx dy val bd : Int) : Int :=
 if 0 ≤ cellN w h ((i : Int) % w + dx) ((i : Int) / w + dy) bd then px xs (cellN w h ((i : Int) % w + dx) ((i : Int) / w + dy) bd) else val
section
variable {w h : Int} {lanes g j n : Nat} {M : MacN}
theorem insL_other {d p dx dy val bd : Int} {r : Nat} (hr : r ≠ d.toNat) : (stepM lanes (insL w h lanes g d p dx dy val bd) M).regs r = M.regs r := by
 show (if r = d.toNat then _ else M.regs r) = _
 rw [if_neg hr]
theorem insL_at (hw : 1 ≤ w) (hh : 1 ≤ h) (hn : (n : Int) = w * h) (hj : j < lanes) (hi : g * lanes + j < n) {d p dx dy val bd : Int} {xs : List Int} (hm : AtImg M.mem p xs n) {r : Nat} (hr : r = d.toNat) :
  (stepM lanes (insL w h lanes g d p dx dy val bd) M).regs r j = ldV w h xs (g * lanes + j) dx dy val bd := by
 subst hr
 show (if d.toNat = d.toNat then (fun j => if 0 ≤ adOf _ j then M.mem (adOf _ j).toNat else val) else M.regs d.toNat) j = _
 rw [if_pos rfl]
 have he : adOf (insL w h lanes g d p dx dy val bd) j = adrAt w h lanes g p dx dy bd j := adrN_at w h g p dx dy bd hj
 show (if 0 ≤ adOf (insL w h lanes g d p dx dy val bd) j then M.mem (adOf (insL w h lanes g d p dx dy val bd) j).toNat else val) = _
 rw [he]
 have hcond : ((g * lanes + j : Nat) : Int) < w * h := by rw [← hn]; exact Int.ofNat_lt.2 hi
 unfold adrAt ldV
 simp only [if_pos hcond]
 have hb := cell_bd (w := w) (h := h) (x := ((g * lanes + j : Nat) : Int) % w + dx) (y := ((g * lanes + j : Nat) : Int) / w + dy) (bd := bd) hw hh
 obtain ⟨c, hc⟩ : ∃ c, cellN w h (((g * lanes + j : Nat) : Int) % w + dx) (((g * lanes + j : Nat) : Int) / w + dy) bd = c := ⟨_, rfl⟩
 rw [hc] at hb ⊢
 by_cases h0 : 0 ≤ c
 ·have hp := hm.nn
  rw [if_pos h0, if_pos h0, if_pos (show 0 ≤ p + c by omega)]
  have := hm.val c.toNat (by omega)
  rw [show (p + c).toNat = p.toNat + c.toNat by omega, this]
  rw [Int.toNat_of_nonneg h0]
 ·rw [if_neg h0, if_neg h0, if_neg (show ¬ (0 : Int) ≤ -1 by decide)]
end
theorem ldV_zero {w h : Int} {xs : List Int} {i n : Nat} (hw : 1 ≤ w) (hh : 1 ≤ h) (hn : (n : Int) = w * h) (hi : i < n) (val : Int) : ldV w h xs i 0 0 val 0 = px xs (i : Int) := by
 have h1 := Int.emod_nonneg (i : Int) (show w ≠ 0 by omega)
 have h2 := Int.emod_lt_of_pos (i : Int) (show 0 < w by omega)
 have h3 : 0 ≤ (i : Int) / w := Int.ediv_nonneg (by omega) (by omega)
 have h4 : (i : Int) / w < h := Int.ediv_lt_of_lt_mul (by omega) (by rw [Int.mul_comm]; omega)
 have h5 : (i : Int) / w * w + (i : Int) % w = i := by rw [Int.mul_comm]; exact Int.mul_ediv_add_emod _ _
 have hc : cellN w h ((i : Int) % w + 0) ((i : Int) / w + 0) 0 = i := by
  rw [Int.add_zero, Int.add_zero]
  unfold cellN cellX
  simp only [show ¬ (0 : Int) = 2 by decide, show ¬ (0 : Int) = 3 by decide, if_false]
  rw [if_pos (by simp only [Bool.and_eq_true, inR_true]; omega)]
  exact h5
 unfold ldV
 rw [hc, if_pos (by omega)]
/-- A load for a convolution: what lies beyond the border. -/
theorem ldV_bey {w h : Int} {xs : List Int} {i : Nat} (hw : 1 ≤ w) (hh : 1 ≤ h) (dx dy bd : Int) (hb : 1 ≤ bd ∧ bd ≤ 3) : ldV w h xs i dx dy 0 bd = beyF bd w h xs ((i : Int) % w + dx) ((i : Int) / w + dy) := by
 obtain ⟨X, hX⟩ : ∃ X, (i : Int) % w + dx = X := ⟨_, rfl⟩
 obtain ⟨Y, hY⟩ : ∃ Y, (i : Int) / w + dy = Y := ⟨_, rfl⟩
 unfold ldV
 rw [hX, hY]
 rcases (show bd = 1 ∨ bd = 2 ∨ bd = 3 by omega) with rfl | rfl | rfl
 ·have hx : cellX 1 w X = X := by unfold cellX; rfl
  have hy : cellX 1 h Y = Y := by unfold cellX; rfl
  rcases cell_cases w h X Y 1 with ⟨hin, e, a1, a2, a3, a4⟩ | ⟨hin, e⟩
  ·rw [hx, hy] at hin e
   rw [hx] at a1; rw [hy] at a3
   have := Int.mul_nonneg a3 (show 0 ≤ w by omega)
   rw [e, if_pos (by omega), beyF_in hin]
  ·rw [hx, hy] at hin
   rw [e, if_neg (by omega), beyF_out1 hin]
 ·have hx : cellX 2 w X = clamp X 0 (w - 1) := by unfold cellX; rfl
  have hy : cellX 2 h Y = clamp Y 0 (h - 1) := by unfold cellX; rfl
  have hx1 : 0 ≤ clamp X 0 (w - 1) ∧ clamp X 0 (w - 1) ≤ w - 1 := by unfold clamp; omega
  have hy1 : 0 ≤ clamp Y 0 (h - 1) ∧ clamp Y 0 (h - 1) ≤ h - 1 := by unfold clamp; omega
  rcases cell_cases w h X Y 2 with ⟨hin, e, a1, a2, a3, a4⟩ | ⟨hin, e⟩
  ·rw [hx, hy] at e
   have := Int.mul_nonneg hy1.1 (show 0 ≤ w by omega)
   rw [e, if_pos (by omega), beyF_2]
  ·rw [hx, hy] at hin
   simp [inR, hx1.1, hx1.2, hy1.1, hy1.2] at hin
 ·have hx : cellX 3 w X = X % w := by unfold cellX; rfl
  have hy : cellX 3 h Y = Y % h := by unfold cellX; rfl
  have hx1 : 0 ≤ X % w ∧ X % w ≤ w - 1 := ⟨Int.emod_nonneg _ (by omega), by have := Int.emod_lt_of_pos X (show 0 < w by omega); omega⟩
  have hy1 : 0 ≤ Y % h ∧ Y % h ≤ h - 1 := ⟨Int.emod_nonneg _ (by omega), by have := Int.emod_lt_of_pos Y (show 0 < h by omega); omega⟩
  rcases cell_cases w h X Y 3 with ⟨hin, e, a1, a2, a3, a4⟩ | ⟨hin, e⟩
  ·rw [hx, hy] at e
   have := Int.mul_nonneg hy1.1 (show 0 ≤ w by omega)
   rw [e, if_pos (by omega), beyF_3]
  ·rw [hx, hy] at hin
   have hT : (inR (X % w) 0 (w - 1) && inR (Y % h) 0 (h - 1)) = true := by simp only [Bool.and_eq_true, inR_true]; exact ⟨hx1, hy1⟩
   rw [hT] at hin; cases hin
/-- A load for a shape. -/
theorem ldV_mor {w h : Int} {xs : List Int} {i : Nat} (hw : 1 ≤ w) (dx dy val : Int) : ldV w h xs i dx dy val 0 = if (inR ((i : Int) % w + dx) 0 (w - 1) && inR ((i : Int) / w + dy) 0 (h - 1)) = true then px xs (((i : Int) / w + dy) * w + ((i : Int) % w + dx)) else val := by
 obtain ⟨X, hX⟩ : ∃ X, (i : Int) % w + dx = X := ⟨_, rfl⟩
 obtain ⟨Y, hY⟩ : ∃ Y, (i : Int) / w + dy = Y := ⟨_, rfl⟩
 unfold ldV
 rw [hX, hY]
 have hx : cellX 0 w X = X := by unfold cellX; rfl
 have hy : cellX 0 h Y = Y := by unfold cellX; rfl
 rcases cell_cases w h X Y 0 with ⟨hin, e, a1, a2, a3, a4⟩ | ⟨hin, e⟩
 ·rw [hx, hy] at hin e
  rw [hx] at a1; rw [hy] at a3
  have := Int.mul_nonneg a3 (show 0 ≤ w by omega)
  rw [e, if_pos (by omega), if_pos hin]
 ·rw [hx, hy] at hin
  rw [e, if_neg (by omega), if_neg (by rw [hin]; simp)]
theorem pix_id {v : Int} (h1 : -2147483648 ≤ v) (h2 : v ≤ 2147483648) : pix v = v := clamp_id h1 h2
theorem pix_bd (v : Int) : -2147483648 ≤ pix v ∧ pix v ≤ 2147483648 := clamp_bd v
theorem pix_pix (v : Int) : pix (pix v) = pix v := clamp_clamp v
theorem wide_id {v : Int} (h1 : -1152921504606846976 ≤ v) (h2 : v ≤ 1152921504606846976) : wide v = v := by unfold wide clamp; omega
theorem getD_px (l : List Int) (k : Nat) : l[k]?.getD 0 = px l (k : Int) := by unfold px; rw [Int.toNat_natCast]
section
variable {w h : Int} {lanes g j n : Nat}
/-- The taps. -/
theorem taps_run (hw : 1 ≤ w) (hh : 1 ≤ h) (hn : (n : Int) = w * h) (hj : j < lanes) (hi : g * lanes + j < n) {p : Int} {xs : List Int} {s : StepN} {kw kh : Nat} (hkw : s.kw = kw) (hkh : s.kh = kh)
  (hx : allIn (-2147483648) 2147483648 xs = true) (ht : allIn (-65536) 65536 s.taps = true) (hb : 1 ≤ s.bd ∧ s.bd ≤ 3) (hlen : s.taps.length ≤ 25) :
  ∀ (k : Nat) (M : MacN), k ≤ s.taps.length → AtImg M.mem p xs n → M.regs 0 j = 0 → 
   (runM lanes (tapsC w h lanes g p s k) M).mem = M.mem ∧ (runM lanes (tapsC w h lanes g p s k) M).regs 0 j = sumTo (convT s.bd w h xs kw kh s.taps (((g * lanes + j : Nat) : Int) % w) (((g * lanes + j : Nat) : Int) / w)) k ∧
   -(140737488355328 * k) ≤ sumTo (convT s.bd w h xs kw kh s.taps (((g * lanes + j : Nat) : Int) % w) (((g * lanes + j : Nat) : Int) / w)) k ∧ sumTo (convT s.bd w h xs kw kh s.taps (((g * lanes + j : Nat) : Int) % w) (((g * lanes + j : Nat) : Int) / w)) k ≤ 140737488355328 * k
 | 0, M, _, hm, h0 => ⟨rfl, h0, by simp [sumTo], by simp [sumTo]⟩
 | k + 1, M, hk, hm, h0 => by
  obtain ⟨i1, i2, i3, i4⟩ := taps_run hw hh hn hj hi hkw hkh hx ht hb hlen k M (by omega) hm h0
  have hcb := convT_bd hx ht s.bd w h kw kh (((g * lanes + j : Nat) : Int) % w) (((g * lanes + j : Nat) : Int) / w) k
  obtain ⟨f, hf⟩ : ∃ f, convT s.bd w h xs kw kh s.taps (((g * lanes + j : Nat) : Int) % w) (((g * lanes + j : Nat) : Int) / w) = f := ⟨_, rfl⟩
  have hfk : f k = px s.taps k * beyF s.bd w h xs (((g * lanes + j : Nat) : Int) % w + ((kw / 2 : Nat) : Int) - ((k % kw : Nat) : Int)) (((g * lanes + j : Nat) : Int) / w + ((kh / 2 : Nat) : Int) - ((k / kw : Nat) : Int)) := by rw [← hf]; rfl
  rw [hf] at hcb i2 i3 i4 ⊢
  obtain ⟨M1, hM1⟩ : ∃ M1, runM lanes (tapsC w h lanes g p s k) M = M1 := ⟨_, rfl⟩
  rw [tapsC, runM_app, hM1]
  rw [hM1] at i1 i2
  have hk1 : ((k + 1 : Nat) : Int) = (k : Int) + 1 := by push_cast; rfl
  have hsum : sumTo f (k + 1) = sumTo f k + f k := rfl
  have hbd : -(140737488355328 * ((k + 1 : Nat) : Int)) ≤ sumTo f (k + 1) ∧ sumTo f (k + 1) ≤ 140737488355328 * ((k + 1 : Nat) : Int) := by rw [hsum, hk1]; omega
  rw [getD_px]
  by_cases h1 : px s.taps (k : Int) = 0
  ·rw [if_pos h1, runM_nil]
   refine ⟨i1, ?_, hbd.1, hbd.2⟩
   rw [hsum, hfk, h1, i2]; omega
  ·rw [if_neg h1, runM_cons, runM_cons, runM_nil]
   refine ⟨by show (stepM lanes (insA _) (stepM lanes (insL _ _ _ _ _ _ _ _ _ _) M1)).mem = _; exact i1, ?_, hbd.1, hbd.2⟩
   show wide ((stepM lanes (insL w h lanes g 1 p (s.kw / 2 - (k : Int) % s.kw) (s.kh / 2 - (k : Int) / s.kw) 0 s.bd) M1).regs (0 : Int).toNat j + px s.taps k * pix ((stepM lanes (insL w h lanes g 1 p (s.kw / 2 - (k : Int) % s.kw) (s.kh / 2 - (k : Int) / s.kw) 0 s.bd) M1).regs (1 : Int).toNat j)) = _
   rw [insL_at hw hh hn hj hi (by rw [i1]; exact hm) rfl, insL_other (by decide)]
   show wide (M1.regs 0 j + _) = _
   rw [i2, ldV_bey hw hh _ _ _ hb]
   have e1 : ((g * lanes + j : Nat) : Int) % w + (s.kw / 2 - (k : Int) % s.kw) = ((g * lanes + j : Nat) : Int) % w + ((kw / 2 : Nat) : Int) - ((k % kw : Nat) : Int) := by rw [hkw]; push_cast; omega
   have e2 : ((g * lanes + j : Nat) : Int) / w + (s.kh / 2 - (k : Int) / s.kw) = ((g * lanes + j : Nat) : Int) / w + ((kh / 2 : Nat) : Int) - ((k / kw : Nat) : Int) := by rw [hkw, hkh]; push_cast; omega
   rw [e1, e2]
   have hbb := beyF_bd hx s.bd w h (((g * lanes + j : Nat) : Int) % w + ((kw / 2 : Nat) : Int) - ((k % kw : Nat) : Int)) (((g * lanes + j : Nat) : Int) / w + ((kh / 2 : Nat) : Int) - ((k / kw : Nat) : Int))
   rw [pix_id hbb.1 hbb.2, ← hfk, ← hsum]
   exact wide_id (by omega) (by omega)
/-- The entries of a shape. -/
theorem bits_run (hw : 1 ≤ w) (hh : 1 ≤ h) (hn : (n : Int) = w * h) (hj : j < lanes) (hi : g * lanes + j < n) {p : Int} {xs : List Int} {s : StepN} {sw sh : Nat} (hsw : s.sw = sw) (hsh : s.sh = sh) {mx : Bool} (hop : mx = true ∧ s.op = 4 ∨ mx = false ∧ s.op = 5)
    (hx : allIn (-2147483648) 2147483648 xs = true) :
    ∀ (k : Nat) (M : MacN), AtImg M.mem p xs n → 
      (runM lanes (bitsC w h lanes g p s k) M).mem = M.mem ∧
      (noBit s k = true ∧ morTo mx (morOk (morSg mx) w h sw sh s.bits (((g * lanes + j : Nat) : Int) % w) (((g * lanes + j : Nat) : Int) / w)) (morVal (morSg mx) w xs sw sh (((g * lanes + j : Nat) : Int) % w) (((g * lanes + j : Nat) : Int) / w)) k = valC s ∨
       noBit s k = false ∧ (runM lanes (bitsC w h lanes g p s k) M).regs 0 j = morTo mx (morOk (morSg mx) w h sw sh s.bits (((g * lanes + j : Nat) : Int) % w) (((g * lanes + j : Nat) : Int) / w)) (morVal (morSg mx) w xs sw sh (((g * lanes + j : Nat) : Int) % w) (((g * lanes + j : Nat) : Int) / w)) k)
  | 0, M, hm => by
    refine ⟨rfl, .inl ⟨rfl, ?_⟩⟩
    unfold valC
    rcases hop with ⟨rfl, h4⟩ | ⟨rfl, h5⟩
    · rw [if_pos h4]; rfl
    · rw [if_neg (by omega)]; rfl
  | k + 1, M, hm => by
    obtain ⟨i1, i2⟩ := bits_run hw hh hn hj hi hsw hsh hop hx k M hm
    obtain ⟨X, hX⟩ : ∃ X, ((g * lanes + j : Nat) : Int) % w = X := ⟨_, rfl⟩
    obtain ⟨Y, hY⟩ : ∃ Y, ((g * lanes + j : Nat) : Int) / w = Y := ⟨_, rfl⟩
    rw [hX, hY] at i2 ⊢
    have hbd := mor_bd (mx := mx) (ok := morOk (morSg mx) w h sw sh s.bits X Y) (val := morVal (morSg mx) w xs sw sh X Y) (fun _ => px_bd hx _) k
    obtain ⟨T, hT⟩ : ∃ T, morTo mx (morOk (morSg mx) w h sw sh s.bits X Y) (morVal (morSg mx) w xs sw sh X Y) k = T := ⟨_, rfl⟩
    have hstep : morTo mx (morOk (morSg mx) w h sw sh s.bits X Y) (morVal (morSg mx) w xs sw sh X Y) (k + 1) = if morOk (morSg mx) w h sw sh s.bits X Y k = true then (if mx = true then max T (morVal (morSg mx) w xs sw sh X Y k) else min T (morVal (morSg mx) w xs sw sh X Y k)) else T := by rw [← hT]; rfl
    rw [hT] at i2 hbd
    rw [hstep]
    obtain ⟨M1, hM1⟩ : ∃ M1, runM lanes (bitsC w h lanes g p s k) M = M1 := ⟨_, rfl⟩
    rw [bitsC, runM_app, hM1]
    rw [hM1] at i1 i2
    have hok : morOk (morSg mx) w h sw sh s.bits X Y k = (bitAt s k && (inR (morU (morSg mx) sw X k) 0 (w - 1) && inR (morV (morSg mx) sw sh Y k) 0 (h - 1))) := rfl
    have hsg : morSg mx = sgnC s := by
      unfold morSg sgnC
      rcases hop with ⟨rfl, h4⟩ | ⟨rfl, h5⟩
      · rw [if_pos rfl, if_pos h4]
      · rw [if_neg (by simp), if_neg (by omega)]
    have hu : X + sgnC s * ((k : Int) % s.sw - s.sw / 2) = morU (morSg mx) sw X k := by unfold morU; rw [hsg, hsw]; push_cast; rfl
    have hv : Y + sgnC s * ((k : Int) / s.sw - s.sh / 2) = morV (morSg mx) sw sh Y k := by unfold morV; rw [hsg, hsw, hsh]; push_cast; rfl
    have hvb := px_bd hx (morV (morSg mx) sw sh Y k * w + morU (morSg mx) sw X k)
    have hvd : morVal (morSg mx) w xs sw sh X Y k = px xs (morV (morSg mx) sw sh Y k * w + morU (morSg mx) sw X k) := rfl
    cases hbit : bitAt s k with
    | false =>
      rw [if_pos rfl, runM_nil]
      rw [hok, hbit]
      simp only [Bool.false_and, Bool.false_eq_true, if_false]
      refine ⟨i1, ?_⟩
      rcases i2 with ⟨e1, e2⟩ | ⟨e1, e2⟩
      · exact .inl ⟨by unfold noBit; rw [e1, hbit]; rfl, e2⟩
      · exact .inr ⟨by unfold noBit; rw [e1]; rfl, e2⟩
    | true =>
      have hnb : noBit s (k + 1) = false := by unfold noBit; rw [hbit]; simp
      rw [if_neg (by simp)]
      have hld : ∀ r : Nat, ∀ d : Int, r = d.toNat → (stepM lanes (insL w h lanes g d p (sgnC s * ((k : Int) % s.sw - s.sw / 2)) (sgnC s * ((k : Int) / s.sw - s.sh / 2)) (valC s) 0) M1).regs r j = if morOk (morSg mx) w h sw sh s.bits X Y k = true then morVal (morSg mx) w xs sw sh X Y k else valC s := by
        intro r d hr
        rw [insL_at hw hh hn hj hi (by rw [i1]; exact hm) hr, ldV_mor hw, hX, hY, hu, hv, hok, hbit, hvd]
        simp only [Bool.true_and]
      rcases i2 with ⟨e1, e2⟩ | ⟨e1, e2⟩
      · rw [if_pos e1, runM_cons, runM_nil]
        refine ⟨i1, .inr ⟨hnb, ?_⟩⟩
        rw [hld 0 0 rfl, hvd, e2]
        unfold valC
        rcases hop with ⟨rfl, h4⟩ | ⟨rfl, h5⟩
        · rw [if_pos h4]
          by_cases hm1 : morOk (morSg true) w h sw sh s.bits X Y k = true
          · simp only [if_pos hm1, if_true]; omega
          · simp only [if_neg hm1]
        · rw [if_neg (show ¬ s.op = 4 by omega)]
          by_cases hm1 : morOk (morSg false) w h sw sh s.bits X Y k = true
          · simp only [if_pos hm1, Bool.false_eq_true, if_false]; omega
          · simp only [if_neg hm1]
      · rw [if_neg (by rw [e1]; simp), runM_cons, runM_cons, runM_nil]
        refine ⟨i1, .inr ⟨hnb, ?_⟩⟩
        show pix (zipF (howC s) (pix ((stepM lanes (insL w h lanes g 1 p (sgnC s * ((k : Int) % s.sw - s.sw / 2)) (sgnC s * ((k : Int) / s.sw - s.sh / 2)) (valC s) 0) M1).regs (0 : Int).toNat j)) (pix ((stepM lanes (insL w h lanes g 1 p (sgnC s * ((k : Int) % s.sw - s.sw / 2)) (sgnC s * ((k : Int) / s.sw - s.sh / 2)) (valC s) 0) M1).regs (1 : Int).toNat j))) = _
        rw [hld (1 : Int).toNat 1 rfl, insL_other (by decide)]
        show pix (zipF (howC s) (pix (M1.regs 0 j)) _) = _
        rw [e2, pix_id hbd.1 hbd.2]
        have hvc : -2147483648 ≤ valC s ∧ valC s ≤ 2147483648 := by unfold valC; split <;> omega
        have hpv : pix (if morOk (morSg mx) w h sw sh s.bits X Y k = true then morVal (morSg mx) w xs sw sh X Y k else valC s) = (if morOk (morSg mx) w h sw sh s.bits X Y k = true then morVal (morSg mx) w xs sw sh X Y k else valC s) := by
          split
          · rw [hvd]; exact pix_id hvb.1 hvb.2
          · exact pix_id hvc.1 hvc.2
        rw [hpv]
        rw [← hvd] at hvb
        unfold zipF howC
        rcases hop with ⟨rfl, h4⟩ | ⟨rfl, h5⟩
        · rw [if_pos h4]
          simp only [show ¬ (4 : Int) = 1 by decide, show ¬ (4 : Int) = 2 by decide, show ¬ (4 : Int) = 3 by decide, if_false, if_true]
          have : valC s = -2147483648 := by unfold valC; rw [if_pos h4]
          rw [this]
          by_cases hm1 : morOk (morSg true) w h sw sh s.bits X Y k = true
          · simp only [if_pos hm1]; exact pix_id (by omega) (by omega)
          · simp only [if_neg hm1]; rw [pix_id (by omega) (by omega)]; omega
        · simp only [if_neg (show ¬ s.op = 4 by omega)]
          simp only [show ¬ (3 : Int) = 1 by decide, show ¬ (3 : Int) = 2 by decide, if_false, if_true, Bool.false_eq_true]
          have : valC s = 2147483648 := by unfold valC; rw [if_neg (by omega)]
          rw [this]
          by_cases hm1 : morOk (morSg false) w h sw sh s.bits X Y k = true
          · simp only [if_pos hm1, Bool.false_eq_true, if_false]; exact pix_id (by omega) (by omega)
          · simp only [if_neg hm1]; rw [pix_id (by omega) (by omega)]; omega
end
end Go.Proofs.YtekiemlniegddaaGreat

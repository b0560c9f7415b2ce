/- Contracts and laws (PcA, PcB, PcC, PcD, PFt). -/
import Derived.Test.YtekiemlniegddaaGreatQM4
import Derived.Test.YtekiemlniegddaaGreatQM2
set_option linter.unusedVariables false
set_option linter.unusedSimpArgs false
namespace Go.Proofs.YtekiemlniegddaaGreat
open Go Go.RowKit Go.Shelf
abbrev FnL := Int → Option Lit
/-- The number that stands at a key, or 0. -/
def numF : Option Lit → Int
 | some (.int _ v) => v
 | _ => 0
def truF : Option Lit → Bool
 | some (.bool v) => v
 | _ => false
abbrev ilit (k : Int) : Lit := .int .i64 k
theorem numF_lit (k : Int) : numF (some (ilit k)) = k := rfl
theorem putF_same (F : FnL) (k : Int) (v : Lit) : putF F k v k = some v := by unfold putF; rw [if_pos rfl]
theorem putF_ne (F : FnL) {k j : Int} (v : Lit) (h : j ≠ k) : putF F k v j = F j := by unfold putF; rw [if_neg h]
theorem delF_same (F : FnL) (k : Int) : delF F k k = none := by unfold delF; rw [if_pos rfl]
theorem delF_ne (F : FnL) {k j : Int} (h : j ≠ k) : delF F k j = F j := by unfold delF; rw [if_neg h]
theorem opsN_a (s : StepN) : s.a ∈ opsN s := by unfold opsN; split <;> simp
theorem opsN_cases (s : StepN) : (opsN s = [s.a] ∧ ¬ (s.op = 2 ∧ s.a ≠ s.b)) ∨ (opsN s = [s.a, s.b] ∧ s.op = 2 ∧ s.a ≠ s.b) := by
 unfold opsN
 by_cases h : s.op = 2 ∧ s.a ≠ s.b
 ·rw [if_pos h]; exact .inr ⟨rfl, h.1, h.2⟩
 ·rw [if_neg h]; exact .inl ⟨rfl, h⟩
/-- One more at each key of a list. -/
def incF (F : FnL) (k : Int) : FnL := putF F k (ilit (numF (F k) + 1))
def incL (F : FnL) (l : List Int) : FnL := l.foldl incF F
/-- How often a number stands in a step's list: once or never. -/
def inOps (s : StepN) (m : Int) : Nat := if m ∈ opsN s then 1 else 0
theorem incF_num (F : FnL) (k m : Int) : numF (incF F k m) = numF (F m) + if m = k then 1 else 0 := by
 unfold incF putF
 by_cases h : m = k
 ·subst h; rw [if_pos rfl, if_pos rfl]; rfl
 ·rw [if_neg h, if_neg h]; omega
theorem incL_num (F : FnL) (s : StepN) (m : Int) : numF (incL F (opsN s) m) = numF (F m) + inOps s m := by
 unfold inOps
 rcases opsN_cases s with ⟨e, _⟩ | ⟨e, _, hab⟩
 ·rw [e]; unfold incL; simp only [List.foldl_cons, List.foldl_nil, incF_num, List.mem_singleton]
  by_cases h : m = s.a <;> simp [h]
 ·rw [e]; unfold incL; simp only [List.foldl_cons, List.foldl_nil, incF_num, List.mem_cons, List.not_mem_nil, or_false]
  by_cases h : m = s.a
  ·subst h; simp [hab]
  ·by_cases h2 : m = s.b
   ·subst h2; simp [h]
   ·simp [h, h2]
/-- How many steps use each image. -/
def useF (ss : List StepN) : Nat → FnL
 | 0 => fun _ => none
 | k + 1 => incL (useF ss k) (opsN (stAt ss k))
def cntU (ss : List StepN) (m : Int) : Nat → Nat
 | 0 => 0
 | k + 1 => cntU ss m k + inOps (stAt ss k) m
theorem useF_num (ss : List StepN) (m : Int) : ∀ k, numF (useF ss k m) = cntU ss m k
 | 0 => rfl
 | k + 1 => by rw [useF, incL_num, useF_num ss m k, cntU]; push_cast; rfl
theorem inOps_pos {s : StepN} {m : Int} (h : m ∈ opsN s) : inOps s m = 1 := by unfold inOps; rw [if_pos h]
theorem inOps_le (s : StepN) (m : Int) : inOps s m ≤ 1 := by unfold inOps; split <;> omega
theorem cntU_two {ss : List StepN} {m : Int} {i j : Nat} (hij : i < j) (hi : m ∈ opsN (stAt ss i)) (hj : m ∈ opsN (stAt ss j)) : ∀ {k}, j < k → 2 ≤ cntU ss m k := by
 have one : ∀ {k}, i < k → 1 ≤ cntU ss m k := by
  intro k
  induction k with
  | zero => intro h; omega
  | succ k ih =>
   intro h
   rw [cntU]
   by_cases e : i = k
   ·subst e; rw [inOps_pos hi]; omega
   ·have := ih (by omega); omega
 intro k
 induction k with
 | zero => intro h; omega
 | succ k ih =>
  intro h
  rw [cntU]
  by_cases e : j = k
  ·subst e; rw [inOps_pos hj]; have := one hij; omega
  ·have := ih (by omega); omega
/-- A round: its head and the head's number, the point operations that are carried, the image that results. -/
structure RndN where
 at_ : Nat
 head : StepN
 pts : List PointN
 res : Int
def noRnd : RndN := ⟨0, noStep, [], 0⟩
def rnAt (l : List RndN) (q : Nat) : RndN := l[q]?.getD noRnd
/-- A step is carried. -/
def carB (I : Int) (U : FnL) (s : StepN) : Bool := decide (s.op = 1) && (decide (I ≤ s.a) && decide (numF (U s.a) = 1))
def carR (r : RndN) (p : PointN) (m : Int) : RndN := { r with pts := r.pts ++ [p], res := m }
structure RsN where
 out : List RndN
 of : FnL
def rdsS (I : Int) (U : FnL) (ss : List StepN) : Nat → RsN
  | 0 => ⟨[], fun _ => none⟩
  | k + 1 =>
    if carB I U (stAt ss k) = true then
      ⟨(rdsS I U ss k).out.set (numF ((rdsS I U ss k).of (stAt ss k).a)).toNat (carR (rnAt (rdsS I U ss k).out (numF ((rdsS I U ss k).of (stAt ss k).a)).toNat) (stAt ss k).pt (I + k)),
       putF (delF (rdsS I U ss k).of (stAt ss k).a) (I + k) (ilit (numF ((rdsS I U ss k).of (stAt ss k).a)))⟩
    else ⟨(rdsS I U ss k).out ++ [⟨k, stAt ss k, [], I + k⟩], putF (rdsS I U ss k).of (I + k) (ilit (rdsS I U ss k).out.length)⟩
/-- The rounds of a pipe. -/
def rdsN (I : Int) (ss : List StepN) : List RndN := (rdsS I (useF ss ss.length) ss ss.length).out
theorem rnAt_set {l : List RndN} {q t : Nat} {r : RndN} (hq : q < l.length) : rnAt (l.set q r) t = if t = q then r else rnAt l t := by
 unfold rnAt
 rw [List.getElem?_set]
 by_cases h : q = t
 ·subst h; rw [if_pos rfl, if_pos rfl, if_pos hq]; rfl
 ·rw [if_neg h, if_neg (fun e => h e.symm)]
theorem rnAt_app {l : List RndN} {t : Nat} {r : RndN} (ht : t ≤ l.length) : rnAt (l ++ [r]) t = if t = l.length then r else rnAt l t := by
 unfold rnAt
 by_cases h : t = l.length
 ·subst h; rw [if_pos rfl, List.getElem?_append_right (Nat.le_refl _)]; simp
 ·rw [if_neg h, List.getElem?_append_left (by omega)]
/-- What holds of the rounds of the first k steps. -/
structure RsOk (I : Int) (ss : List StepN) (k : Nat) (R : RsN) : Prop where
 len : R.out.length ≤ k
 back : ∀ m v, R.of m = some v → ∃ q : Nat, q < R.out.length ∧ v = ilit q ∧ (rnAt R.out q).res = m
 there : ∀ q, q < R.out.length → R.of (rnAt R.out q).res = some (ilit q)
 res : ∀ q, q < R.out.length → ∃ j : Nat, j < k ∧ (rnAt R.out q).res = I + j
 head : ∀ q, q < R.out.length → (rnAt R.out q).at_ < k ∧ (rnAt R.out q).head = stAt ss (rnAt R.out q).at_
 all : ∀ j, j < k → (∃ q, q < R.out.length ∧ (rnAt R.out q).res = I + j) ∨ ∃ t, t < k ∧ (stAt ss t).a = I + j ∧ carB I (useF ss ss.length) (stAt ss t) = true
theorem carB_true {I : Int} {U : FnL} {s : StepN} (h : carB I U s = true) : s.op = 1 ∧ I ≤ s.a ∧ numF (U s.a) = 1 := by
 unfold carB at h
 simp only [Bool.and_eq_true, decide_eq_true_eq] at h
 exact ⟨h.1, h.2.1, h.2.2⟩
/-- References of the steps: what a step uses was there. -/
def RefOk (I : Int) (ss : List StepN) : Prop := ∀ i, i < ss.length → ∀ m ∈ opsN (stAt ss i), 0 ≤ m ∧ m < I + i
theorem of_here {I : Int} {ss : List StepN} {k : Nat} {R : RsN} (hR : RsOk I ss k R) (hr : RefOk I ss) (hk : k < ss.length) (hc : carB I (useF ss ss.length) (stAt ss k) = true) :
  ∃ q : Nat, q < R.out.length ∧ R.of (stAt ss k).a = some (ilit q) ∧ (rnAt R.out q).res = (stAt ss k).a := by
 obtain ⟨h1, h2, h3⟩ := carB_true hc
 obtain ⟨h4, h5⟩ := hr k hk _ (opsN_a _)
 rw [useF_num] at h3
 have h3' : cntU ss (stAt ss k).a ss.length = 1 := by omega
 obtain ⟨j, hj⟩ : ∃ j : Nat, (stAt ss k).a = I + j := ⟨((stAt ss k).a - I).toNat, by omega⟩
 rcases hR.all j (by omega) with ⟨q, hq, hqr⟩ | ⟨t, ht, hta, _⟩
 ·exact ⟨q, hq, by rw [hj, ← hqr]; exact hR.there q hq, by rw [hqr, hj]⟩
 ·exfalso
  have hm := opsN_a (stAt ss t)
  rw [hta, ← hj] at hm
  have := cntU_two ht hm (opsN_a (stAt ss k)) (k := ss.length) hk
  omega
theorem rds_ok {I : Int} {ss : List StepN} (hr : RefOk I ss) : ∀ k, k ≤ ss.length → RsOk I ss k (rdsS I (useF ss ss.length) ss k)
 | 0, _ => { len := Nat.le_refl _, back := fun m v h => (by cases h), there := fun q h => absurd h (Nat.not_lt_zero _), res := fun q h => absurd h (Nat.not_lt_zero _), head := fun q h => absurd h (Nat.not_lt_zero _), all := fun j h => absurd h (Nat.not_lt_zero _) }
 | k + 1, hk => by
  have ih := rds_ok hr k (by omega)
  obtain ⟨U, hU⟩ : ∃ U, useF ss ss.length = U := ⟨_, rfl⟩
  rw [rdsS]
  cases hc : carB I (useF ss ss.length) (stAt ss k) with
  | false =>
   rw [if_neg (by simp)]
   obtain ⟨R, hR⟩ : ∃ R, rdsS I (useF ss ss.length) ss k = R := ⟨_, rfl⟩
   rw [hR] at ih ⊢
   have hat := fun t (ht : t ≤ R.out.length) => rnAt_app (r := (⟨k, stAt ss k, [], I + k⟩ : RndN)) ht
   have hfresh : ∀ q, q < R.out.length → (rnAt R.out q).res ≠ I + k := fun q hq e => by obtain ⟨j, hj, he⟩ := ih.res q hq; omega
   refine { len := by simp; have := ih.len; omega, back := fun m v h => ?_, there := fun q h => ?_, res := fun q h => ?_, head := fun q h => ?_, all := fun j h => ?_ }
   ·simp only at h ⊢
    by_cases e : m = I + k
    ·subst e
     rw [putF_same] at h
     cases h
     exact ⟨R.out.length, by simp, rfl, by rw [hat _ (Nat.le_refl _), if_pos rfl]⟩
    ·rw [putF_ne _ _ e] at h
     obtain ⟨q, h1, h2, h3⟩ := ih.back m v h
     exact ⟨q, by simp; omega, h2, by rw [hat _ (by omega), if_neg (by omega)]; exact h3⟩
   ·simp only [List.length_append, List.length_singleton] at h ⊢
    rw [hat _ (by omega)]
    by_cases e : q = R.out.length
    ·subst e; rw [if_pos rfl]; exact putF_same _ _ _
    ·rw [if_neg e, putF_ne _ _ (hfresh q (by omega))]; exact ih.there q (by omega)
   ·simp only [List.length_append, List.length_singleton] at h ⊢
    rw [hat _ (by omega)]
    by_cases e : q = R.out.length
    ·subst e; rw [if_pos rfl]; exact ⟨k, by omega, rfl⟩
    ·rw [if_neg e]; obtain ⟨j, h1, h2⟩ := ih.res q (by omega); exact ⟨j, by omega, h2⟩
   ·simp only [List.length_append, List.length_singleton] at h ⊢
    rw [hat _ (by omega)]
    by_cases e : q = R.out.length
    ·subst e; rw [if_pos rfl]; exact ⟨by simp, rfl⟩
    ·rw [if_neg e]; obtain ⟨h1, h2⟩ := ih.head q (by omega); exact ⟨by omega, h2⟩
   ·by_cases e : j = k
    ·subst e; exact .inl ⟨R.out.length, by simp, by rw [hat _ (Nat.le_refl _), if_pos rfl]⟩
    ·rcases ih.all j (by omega) with ⟨q, h1, h2⟩ | ⟨t, h1, h2⟩
     ·exact .inl ⟨q, by simp; omega, by rw [hat _ (by omega), if_neg (by omega)]; exact h2⟩
     ·exact .inr ⟨t, by omega, h2⟩
  | true =>
   rw [if_pos rfl]
   obtain ⟨q, hq, hof, hres⟩ := of_here ih hr (by omega) hc
   obtain ⟨R, hR⟩ : ∃ R, rdsS I (useF ss ss.length) ss k = R := ⟨_, rfl⟩
   rw [hR] at ih hq hof hres ⊢
   rw [hof]
   have hqn : (numF (some (ilit (q : Int)))).toNat = q := by show ((q : Int)).toNat = q; simp
   rw [hqn]
   have hat := fun t => rnAt_set (t := t) (r := carR (rnAt R.out q) (stAt ss k).pt (I + k)) hq
   have hl : (R.out.set q (carR (rnAt R.out q) (stAt ss k).pt (I + k))).length = R.out.length := by simp
   have hinj : ∀ t, t < R.out.length → (rnAt R.out t).res = (stAt ss k).a → t = q := fun t ht e => by
    have h1 := ih.there t ht
    rw [e, hof] at h1
    injection h1 with h1; injection h1 with _ h1; omega
   have hlt : (stAt ss k).a < I + k := (hr k (by omega) _ (opsN_a _)).2
   have hfresh : ∀ t, t < R.out.length → (rnAt R.out t).res ≠ I + k := fun t ht e => by obtain ⟨j, hj, he⟩ := ih.res t ht; omega
   refine { len := by rw [hl]; have := ih.len; omega, back := fun m v h => ?_, there := fun t h => ?_, res := fun t h => ?_, head := fun t h => ?_, all := fun j h => ?_ }
   ·simp only at h ⊢
    by_cases e : m = I + k
    ·subst e
     rw [putF_same] at h
     cases h
     exact ⟨q, by rw [hl]; exact hq, rfl, by rw [hat, if_pos rfl]; rfl⟩
    ·rw [putF_ne _ _ e] at h
     by_cases e2 : m = (stAt ss k).a
     ·subst e2; rw [delF_same] at h; cases h
     ·rw [delF_ne _ e2] at h
      obtain ⟨t, h1, h2, h3⟩ := ih.back m v h
      refine ⟨t, by rw [hl]; exact h1, h2, ?_⟩
      rw [hat, if_neg (fun e3 => e2 (by rw [← h3, e3, hres]))]
      exact h3
   ·simp only at h ⊢
    rw [hl] at h
    rw [hat]
    by_cases e : t = q
    ·subst e; rw [if_pos rfl]; exact putF_same _ _ _
    ·rw [if_neg e, putF_ne _ _ (hfresh t h), delF_ne _ (fun e2 => e (hinj t h e2))]
     exact ih.there t h
   ·simp only at h ⊢
    rw [hl] at h
    rw [hat]
    by_cases e : t = q
    ·subst e; rw [if_pos rfl]; exact ⟨k, by omega, rfl⟩
    ·rw [if_neg e]; obtain ⟨j, h1, h2⟩ := ih.res t h; exact ⟨j, by omega, h2⟩
   ·simp only at h ⊢
    rw [hl] at h
    rw [hat]
    by_cases e : t = q
    ·subst e; rw [if_pos rfl]; obtain ⟨h1, h2⟩ := ih.head t h; exact ⟨by show (rnAt R.out t).at_ < _; omega, h2⟩
    ·rw [if_neg e]; obtain ⟨h1, h2⟩ := ih.head t h; exact ⟨by omega, h2⟩
   ·simp only
    by_cases e : j = k
    ·subst e; exact .inl ⟨q, by rw [hl]; exact hq, by rw [hat, if_pos rfl]; rfl⟩
    ·rcases ih.all j (by omega) with ⟨t, h1, h2⟩ | ⟨t, h1, h2⟩
     ·by_cases e2 : t = q
      ·refine .inr ⟨k, by omega, ?_, hc⟩
       rw [← hres, ← e2]; exact h2
      ·exact .inl ⟨t, by rw [hl]; exact h1, by rw [hat, if_neg e2]; exact h2⟩
     ·exact .inr ⟨t, by omega, h2⟩
end Go.Proofs.YtekiemlniegddaaGreat
namespace Go.Proofs.YtekiemlniegddaaGreat
open Go Go.RowKit Go.Shelf
/-- More that holds of the rounds of the first k steps: heads in order, none of them carried, results behind heads, each head there. -/
structure RsOk2 (I : Int) (ss : List StepN) (k : Nat) (R : RsN) : Prop where
 mono : ∀ q t, q < t → t < R.out.length → (rnAt R.out q).at_ < (rnAt R.out t).at_
 up : ∀ q, q < R.out.length → I + ((rnAt R.out q).at_ : Int) ≤ (rnAt R.out q).res
 nocar : ∀ q, q < R.out.length → carB I (useF ss ss.length) (stAt ss (rnAt R.out q).at_) = false
 full : ∀ j, j < k → carB I (useF ss ss.length) (stAt ss j) = false → ∃ q, q < R.out.length ∧ (rnAt R.out q).at_ = j
theorem rds_ok2 {I : Int} {ss : List StepN} (hr : RefOk I ss) : ∀ k, k ≤ ss.length → RsOk2 I ss k (rdsS I (useF ss ss.length) ss k)
 | 0, _ => { mono := fun q t _ h => absurd h (Nat.not_lt_zero _), up := fun q h => absurd h (Nat.not_lt_zero _), nocar := fun q h => absurd h (Nat.not_lt_zero _), full := fun j h => absurd h (Nat.not_lt_zero _) }
 | k + 1, hk => by
  have ih := rds_ok2 hr k (by omega)
  have ih1 := rds_ok hr k (by omega)
  rw [rdsS]
  cases hc : carB I (useF ss ss.length) (stAt ss k) with
  | false =>
   rw [if_neg (by simp)]
   obtain ⟨R, hR⟩ : ∃ R, rdsS I (useF ss ss.length) ss k = R := ⟨_, rfl⟩
   rw [hR] at ih ih1 ⊢
   have hat := fun t (ht : t ≤ R.out.length) => rnAt_app (r := (⟨k, stAt ss k, [], I + k⟩ : RndN)) ht
   refine { mono := fun q t hqt h => ?_, up := fun q h => ?_, nocar := fun q h => ?_, full := fun j h hj => ?_ }
   ·simp only [List.length_append, List.length_singleton] at h ⊢
    rw [hat _ (by omega), hat _ (by omega), if_neg (by omega : q ≠ R.out.length)]
    by_cases e : t = R.out.length
    ·rw [if_pos e]; exact (ih1.head q (by omega)).1
    ·rw [if_neg e]; exact ih.mono q t hqt (by omega)
   ·simp only [List.length_append, List.length_singleton] at h ⊢
    rw [hat _ (by omega)]
    by_cases e : q = R.out.length
    ·rw [if_pos e]; exact Int.le_refl _
    ·rw [if_neg e]; exact ih.up q (by omega)
   ·simp only [List.length_append, List.length_singleton] at h ⊢
    rw [hat _ (by omega)]
    by_cases e : q = R.out.length
    ·rw [if_pos e]; exact hc
    ·rw [if_neg e]; exact ih.nocar q (by omega)
   ·simp only [List.length_append, List.length_singleton]
    by_cases e : j = k
    ·subst e; exact ⟨R.out.length, by omega, by rw [hat _ (Nat.le_refl _), if_pos rfl]⟩
    ·obtain ⟨q, h1, h2⟩ := ih.full j (by omega) hj
     exact ⟨q, by omega, by rw [hat _ (by omega), if_neg (by omega)]; exact h2⟩
  | true =>
   rw [if_pos rfl]
   obtain ⟨q, hq, hof, hres⟩ := of_here ih1 hr (by omega) hc
   obtain ⟨R, hR⟩ : ∃ R, rdsS I (useF ss ss.length) ss k = R := ⟨_, rfl⟩
   rw [hR] at ih ih1 hq hof hres ⊢
   rw [hof]
   have hqn : (numF (some (ilit (q : Int)))).toNat = q := by show ((q : Int)).toNat = q; simp
   rw [hqn]
   have hat := fun t => rnAt_set (t := t) (r := carR (rnAt R.out q) (stAt ss k).pt (I + k)) hq
   have hat2 : ∀ t, (rnAt (R.out.set q (carR (rnAt R.out q) (stAt ss k).pt (I + k))) t).at_ = (rnAt R.out t).at_ := fun t => by
    rw [hat]; by_cases e : t = q
    ·rw [if_pos e, e]; rfl
    ·rw [if_neg e]
   have hl : (R.out.set q (carR (rnAt R.out q) (stAt ss k).pt (I + k))).length = R.out.length := by simp
   have hlt : (stAt ss k).a < I + k := (hr k (by omega) _ (opsN_a _)).2
   refine { mono := fun a t hat' h => ?_, up := fun t h => ?_, nocar := fun t h => ?_, full := fun j h hj => ?_ }
   ·simp only at h ⊢
    rw [hl] at h
    rw [hat2, hat2]; exact ih.mono a t hat' h
   ·simp only at h ⊢
    rw [hl] at h
    rw [hat2, hat]
    by_cases e : t = q
    ·rw [if_pos e]; show _ ≤ I + (k : Int); have := (ih1.head t h).1; omega
    ·rw [if_neg e]; exact ih.up t h
   ·simp only at h ⊢
    rw [hl] at h
    rw [hat2]; exact ih.nocar t h
   ·simp only
    rw [hl]
    by_cases e : j = k
    ·subst e; rw [hc] at hj; cases hj
    ·obtain ⟨t, h1, h2⟩ := ih.full j (by omega) hj
     exact ⟨t, h1, by rw [hat2]; exact h2⟩
/-- What the rounds of a pipe are like. -/
theorem rdsN_ok {I : Int} {ss : List StepN} (hr : RefOk I ss) : RsOk I ss ss.length (rdsS I (useF ss ss.length) ss ss.length) := rds_ok hr _ (Nat.le_refl _)
theorem rdsN_ok2 {I : Int} {ss : List StepN} (hr : RefOk I ss) : RsOk2 I ss ss.length (rdsS I (useF ss ss.length) ss ss.length) := rds_ok2 hr _ (Nat.le_refl _)
/-- What a head uses is given, or the result of an earlier round. -/
theorem head_there {I : Int} {ss : List StepN} (hr : RefOk I ss) {k : Nat} (hk : k < (rdsN I ss).length) {m : Int} (hm : m ∈ opsN (rnAt (rdsN I ss) k).head) :
  0 ≤ m ∧ (m < I ∨ ∃ q, q < k ∧ (rnAt (rdsN I ss) q).res = m) := by
 have h1 := rdsN_ok hr
 have h2 := rdsN_ok2 hr
 obtain ⟨hh1, hh2⟩ := h1.head k hk
 unfold rdsN at hm ⊢
 unfold rdsN at hk
 obtain ⟨R, hR⟩ : ∃ R, rdsS I (useF ss ss.length) ss ss.length = R := ⟨_, rfl⟩
 rw [hR] at h1 h2 hh1 hh2 hm hk ⊢
 rw [hh2] at hm
 obtain ⟨r1, r2⟩ := hr _ hh1 m hm
 refine ⟨r1, ?_⟩
 by_cases hI : m < I
 ·exact .inl hI
 right
 obtain ⟨j, rfl⟩ : ∃ j : Nat, m = I + j := ⟨(m - I).toNat, by omega⟩
 rcases h1.all j (by omega) with ⟨q, hq, hqr⟩ | ⟨t, ht, hta, htc⟩
 ·refine ⟨q, ?_, hqr⟩
  have hu := h2.up q hq
  rcases Nat.lt_trichotomy q k with h | h | h
  ·exact h
  ·subst h; omega
  ·have := h2.mono k q h hq; omega
 ·exfalso
  have hne : t ≠ (rnAt R.out k).at_ := fun e => by have := h2.nocar k hk; rw [← e, htc] at this; cases this
  have hmt := opsN_a (stAt ss t)
  rw [hta] at hmt
  have h3 := (carB_true htc).2.2
  rw [useF_num, hta] at h3
  rcases Nat.lt_or_gt_of_ne hne with h | h
  ·have := cntU_two h hmt hm (k := ss.length) hh1; omega
  ·have := cntU_two h hm hmt (k := ss.length) ht; omega
/-- The last image is the result of a round. -/
theorem last_there {I : Int} {ss : List StepN} (hr : RefOk I ss) (h0 : 0 < ss.length) : ∃ q, q < (rdsN I ss).length ∧ (rnAt (rdsN I ss) q).res = I + ss.length - 1 := by
 have h1 := rdsN_ok hr
 unfold rdsN
 obtain ⟨R, hR⟩ : ∃ R, rdsS I (useF ss ss.length) ss ss.length = R := ⟨_, rfl⟩
 rw [hR] at h1 ⊢
 rcases h1.all (ss.length - 1) (by omega) with ⟨q, hq, hqr⟩ | ⟨t, ht, hta, htc⟩
 ·exact ⟨q, hq, by rw [hqr]; omega⟩
 ·have := (hr t ht _ (opsN_a _)).2; omega
theorem res_inj {I : Int} {ss : List StepN} (hr : RefOk I ss) {q t : Nat} (hq : q < (rdsN I ss).length) (ht : t < (rdsN I ss).length) (h : (rnAt (rdsN I ss) q).res = (rnAt (rdsN I ss) t).res) : q = t := by
 have h1 := rdsN_ok hr
 have a1 := h1.there q hq
 have a2 := h1.there t ht
 unfold rdsN at h
 rw [h, a2] at a1
 injection a1 with a1; injection a1 with _ a1; omega
theorem res_bd {I : Int} {ss : List StepN} (hr : RefOk I ss) {q : Nat} (hq : q < (rdsN I ss).length) : I ≤ (rnAt (rdsN I ss) q).res ∧ (rnAt (rdsN I ss) q).res < I + ss.length := by
 obtain ⟨j, h1, h2⟩ := (rdsN_ok hr).res q hq
 unfold rdsN
 omega
/-- How often each image is used by heads, and by the end. -/
def lefF (last : Int) (rs : List RndN) : Nat → FnL
 | 0 => putF (fun _ => none) last (ilit 1)
 | k + 1 => incL (lefF last rs k) (opsN (rnAt rs k).head)
def cntR (rs : List RndN) (m : Int) : Nat → Nat
 | 0 => 0
 | k + 1 => cntR rs m k + inOps (rnAt rs k).head m
def isL (last m : Int) : Nat := if m = last then 1 else 0
theorem lefF_num (last : Int) (rs : List RndN) (m : Int) : ∀ k, numF (lefF last rs k m) = isL last m + cntR rs m k
 | 0 => by
  unfold lefF isL putF
  by_cases h : m = last
  ·rw [if_pos h, if_pos h]; rfl
  ·rw [if_neg h, if_neg h]; rfl
 | k + 1 => by rw [lefF, incL_num, lefF_num last rs m k, cntR]; push_cast; omega
def livI (left : FnL) : Nat → FnL
 | 0 => fun _ => none
 | k + 1 => if 0 < numF (left (k : Int)) then putF (livI left k) (k : Int) (.bool true) else livI left k
theorem livI_at (left : FnL) (m : Int) : ∀ k, livI left k m = if 0 ≤ m ∧ m < k ∧ 0 < numF (left m) then some (.bool true) else none
 | 0 => by rw [livI, if_neg (by omega)]
 | k + 1 => by
  rw [livI]
  by_cases h : 0 < numF (left (k : Int))
  ·rw [if_pos h]
   by_cases e : m = (k : Int)
   ·subst e; rw [putF_same, if_pos ⟨by omega, by omega, h⟩]
   ·rw [putF_ne _ _ e, livI_at left m k]
    by_cases h2 : 0 ≤ m ∧ m < k ∧ 0 < numF (left m)
    ·rw [if_pos h2, if_pos ⟨h2.1, by omega, h2.2.2⟩]
    ·rw [if_neg h2, if_neg (fun h3 => h2 ⟨h3.1, by omega, h3.2.2⟩)]
  ·rw [if_neg h, livI_at left m k]
   by_cases h2 : 0 ≤ m ∧ m < k ∧ 0 < numF (left m)
   ·rw [if_pos h2, if_pos ⟨h2.1, by omega, h2.2.2⟩]
   ·rw [if_neg h2, if_neg]
    rintro ⟨h3, h4, h5⟩
    by_cases e : m = (k : Int)
    ·subst e; exact h h5
    ·exact h2 ⟨h3, by omega, h5⟩
structure PlS where
 left : FnL
 live : FnL
def useOne (s : PlS) (n : Int) : PlS := ⟨putF s.left n (ilit (numF (s.left n) - 1)), if numF (s.left n) - 1 = 0 then delF s.live n else s.live⟩
def useL (s : PlS) (l : List Int) : PlS := l.foldl useOne s
/-- What is left, and in use, before a round. -/
def plS (I : Nat) (last : Int) (rs : List RndN) : Nat → PlS
 | 0 => ⟨lefF last rs rs.length, livI (lefF last rs rs.length) I⟩
 | k + 1 =>
  let s1 := useL ⟨(plS I last rs k).left, putF (plS I last rs k).live (rnAt rs k).res (.bool true)⟩ (opsN (rnAt rs k).head)
  ⟨s1.left, if numF (s1.left (rnAt rs k).res) = 0 then delF s1.live (rnAt rs k).res else s1.live⟩
/-- What is in use in a round. -/
def livN (I : Nat) (last : Int) (rs : List RndN) (k : Nat) : FnL := putF (plS I last rs k).live (rnAt rs k).res (.bool true)
def mostN (I : Nat) (last : Int) (rs : List RndN) (m : Nat) : Nat → Nat
 | 0 => 0
 | k + 1 => max (mostN I last rs m k) (cntF (livN I last rs k) m)
theorem useOne_left (s : PlS) (n m : Int) : numF ((useOne s n).left m) = numF (s.left m) - if m = n then 1 else 0 := by
 unfold useOne
 simp only
 unfold putF
 by_cases h : m = n
 ·subst h; rw [if_pos rfl, if_pos rfl]; rfl
 ·rw [if_neg h, if_neg h]; omega
theorem useOne_live (s : PlS) (n m : Int) : (useOne s n).live m = if m = n ∧ numF (s.left m) = 1 then none else s.live m := by
 unfold useOne
 simp only
 by_cases h : m = n
 ·subst h
  by_cases h1 : numF (s.left m) = 1
  ·rw [if_pos (show numF (s.left m) - 1 = 0 by omega), if_pos ⟨rfl, h1⟩, delF_same]
  ·rw [if_neg (show ¬ (numF (s.left m) - 1 = 0) by omega), if_neg (fun (h2 : m = m ∧ numF (s.left m) = 1) => h1 h2.2)]
 ·rw [if_neg (fun (h2 : m = n ∧ numF (s.left m) = 1) => h h2.1)]
  by_cases h3 : numF (s.left n) - 1 = 0
  ·rw [if_pos h3, delF_ne _ h]
  ·rw [if_neg h3]
theorem useL_left (s : PlS) (t : StepN) (m : Int) : numF ((useL s (opsN t)).left m) = numF (s.left m) - inOps t m := by
 unfold inOps
 rcases opsN_cases t with ⟨e, _⟩ | ⟨e, _, hab⟩
 ·rw [e]; unfold useL; simp only [List.foldl_cons, List.foldl_nil, useOne_left, List.mem_singleton]
  by_cases h : m = t.a <;> simp [h]
 ·rw [e]; unfold useL; simp only [List.foldl_cons, List.foldl_nil, useOne_left, List.mem_cons, List.not_mem_nil, or_false]
  by_cases h : m = t.a
  ·subst h; simp [hab]
  ·by_cases h2 : m = t.b
   ·subst h2; simp [h]
   ·simp [h, h2]
theorem useL_live (s : PlS) (t : StepN) (m : Int) : (useL s (opsN t)).live m = if m ∈ opsN t ∧ numF (s.left m) = 1 then none else s.live m := by
 rcases opsN_cases t with ⟨e, _⟩ | ⟨e, _, hab⟩
 ·rw [e]; unfold useL; simp only [List.foldl_cons, List.foldl_nil, useOne_live, List.mem_singleton]
 ·rw [e]; unfold useL; simp only [List.foldl_cons, List.foldl_nil, useOne_live, useOne_left, List.mem_cons, List.not_mem_nil, or_false]
  by_cases h : m = t.a
  ·subst h
   by_cases h3 : numF (s.left t.a) = 1 <;> simp [h3, hab]
  ·by_cases h2 : m = t.b
   ·subst h2; by_cases h3 : numF (s.left t.b) = 1 <;> simp [h3, h]
   ·simp [h, h2]
/-- An image is there before round k: given, or the result of an earlier round. -/
def availN (I : Int) (rs : List RndN) (k : Nat) (m : Int) : Prop := (0 ≤ m ∧ m < I) ∨ ∃ q, q < k ∧ (rnAt rs q).res = m
theorem plS_left (I : Nat) (last : Int) (rs : List RndN) (m : Int) : ∀ k, numF ((plS I last rs k).left m) = isL last m + cntR rs m rs.length - cntR rs m k
 | 0 => by rw [plS]; simp only; rw [lefF_num, cntR]; omega
 | k + 1 => by
  rw [plS]
  simp only
  rw [useL_left]
  simp only
  rw [plS_left I last rs m k, cntR]
  push_cast
  omega
theorem cntR_mono (rs : List RndN) (m : Int) {a : Nat} : ∀ {b : Nat}, a ≤ b → cntR rs m a ≤ cntR rs m b
  | 0, h => by obtain rfl : a = 0 := by omega
               exact Nat.le_refl _
  | b + 1, h => by
    by_cases e : a = b + 1
    · subst e; exact Nat.le_refl _
    · have := cntR_mono rs m (a := a) (b := b) (by omega); rw [cntR]; omega
theorem plS_live {I : Nat} {last : Int} {rs : List RndN} (hres : ∀ k, k < rs.length → (rnAt rs k).res ∉ opsN (rnAt rs k).head) (m : Int) :
  ∀ k, k ≤ rs.length → ((plS I last rs k).live m = some (.bool true) ∧ availN I rs k m ∧ 0 < numF ((plS I last rs k).left m)) ∨ ((plS I last rs k).live m = none ∧ ¬ (availN I rs k m ∧ 0 < numF ((plS I last rs k).left m)))
 | 0, _ => by
  rw [plS]
  simp only
  rw [livI_at]
  by_cases h : 0 ≤ m ∧ m < I ∧ 0 < numF (lefF last rs rs.length m)
  ·rw [if_pos h]; exact .inl ⟨rfl, .inl ⟨h.1, h.2.1⟩, h.2.2⟩
  ·rw [if_neg h]
   refine .inr ⟨rfl, ?_⟩
   rintro ⟨h1 | ⟨q, hq, _⟩, h2⟩
   ·exact h ⟨h1.1, h1.2, h2⟩
   ·omega
 | k + 1, hk => by
  have ih := plS_live (I := I) (last := last) hres m k (by omega)
  have hl := plS_left I last rs m k
  have hl2 := plS_left I last rs m (k + 1)
  have hmono := cntR_mono rs m (a := k + 1) (b := rs.length) hk
  have hnot := hres k (by omega)
  have hstep : cntR rs m (k + 1) = cntR rs m k + inOps (rnAt rs k).head m := rfl
  have hav : availN I rs (k + 1) m ↔ availN I rs k m ∨ (rnAt rs k).res = m := by
   unfold availN
   constructor
   ·rintro (h | ⟨q, hq, e⟩)
    ·exact .inl (.inl h)
    ·by_cases e2 : q = k
     ·subst e2; exact .inr e
     ·exact .inl (.inr ⟨q, by omega, e⟩)
   ·rintro ((h | ⟨q, hq, e⟩) | e)
    ·exact .inl h
    ·exact .inr ⟨q, by omega, e⟩
    ·exact .inr ⟨k, by omega, e⟩
  obtain ⟨s, hs⟩ : ∃ s, plS I last rs k = s := ⟨_, rfl⟩
  obtain ⟨r, hrr⟩ : ∃ r, rnAt rs k = r := ⟨_, rfl⟩
  rw [plS] at hl2 ⊢
  simp only at hl2 ⊢
  rw [hs] at ih hl hl2 ⊢
  rw [hrr] at hnot hstep hav hl2 ⊢
  have h2 := useL_left ⟨s.left, putF s.live r.res (.bool true)⟩ r.head m
  have h3 := useL_live ⟨s.left, putF s.live r.res (.bool true)⟩ r.head m
  obtain ⟨s1, hs1⟩ : ∃ s1, useL ⟨s.left, putF s.live r.res (.bool true)⟩ (opsN r.head) = s1 := ⟨_, rfl⟩
  rw [hs1] at h2 h3 hl2 ⊢
  simp only at h2 h3
  by_cases e : m = r.res
  ·subst e
   have hi : inOps r.head r.res = 0 := by unfold inOps; rw [if_neg hnot]
   rw [if_neg (fun h => hnot h.1), putF_same] at h3
   by_cases h0 : numF (s1.left r.res) = 0
   ·rw [if_pos h0, delF_same]; right; exact ⟨rfl, fun h => by omega⟩
   ·rw [if_neg h0, h3]
    left
    refine ⟨rfl, hav.2 (.inr rfl), ?_⟩
    omega
  ·rw [putF_ne _ _ e] at h3
   have hrest : (if numF (s1.left r.res) = 0 then delF s1.live r.res else s1.live) m = s1.live m := by
    split
    ·rw [delF_ne _ e]
    ·rfl
   rw [hrest, h3]
   have hav' : availN I rs (k + 1) m ↔ availN I rs k m := by rw [hav]; exact ⟨fun h => h.elim id (fun h => absurd h.symm e), .inl⟩
   by_cases hm : m ∈ opsN r.head
   ·have hi := inOps_pos hm
    by_cases h1 : numF (s.left m) = 1
    ·rw [if_pos ⟨hm, h1⟩]; right; exact ⟨rfl, fun h => by omega⟩
    ·rw [if_neg (fun h => h1 h.2)]
     rcases ih with ⟨i1, i2, i3⟩ | ⟨i1, i2⟩
     ·left; exact ⟨i1, hav'.2 i2, by omega⟩
     ·right; exact ⟨i1, fun h => i2 ⟨hav'.1 h.1, by omega⟩⟩
   ·have hi : inOps r.head m = 0 := by unfold inOps; rw [if_neg hm]
    rw [if_neg (fun h => hm h.1)]
    rcases ih with ⟨i1, i2, i3⟩ | ⟨i1, i2⟩
    ·left; exact ⟨i1, hav'.2 i2, by omega⟩
    ·right; exact ⟨i1, fun h => i2 ⟨hav'.1 h.1, by omega⟩⟩
theorem res_not_ops {I : Int} {ss : List StepN} (hr : RefOk I ss) : ∀ k, k < (rdsN I ss).length → (rnAt (rdsN I ss) k).res ∉ opsN (rnAt (rdsN I ss) k).head := by
 intro k hk h
 have h1 := (rdsN_ok hr).head k hk
 have h2 := (rdsN_ok2 hr).up k hk
 unfold rdsN at h
 rw [h1.2] at h
 have := (hr _ h1.1 _ h).2
 omega
end Go.Proofs.YtekiemlniegddaaGreat
namespace Go.Proofs.YtekiemlniegddaaGreat
open Go Go.RowKit Go.Shelf
structure InsN where
 op : Int
 d : Int
 a : Int
 b : Int
 val : Int
 pt : PointN
 how : Int
 ad : List Int
def noPt : PointN := ⟨0, 0, 0, 0, 0⟩
structure VecN where
 lanes : Int
 regs : Int
 mem : Int
structure CodeN where
 w : Int
 h : Int
 inp : List Int
 out : Int
 ins : List InsN
def vecB (v : VecN) : Bool := inR v.lanes 1 16 && (inR v.regs 2 16 && inR v.mem 1 8192)
/-- An address, or -1, for each lane. -/
def adrB (v : VecN) (l : List Int) : Bool := decide ((l.length : Int) = v.lanes) && l.all (fun x => inR x (-1) (v.mem - 1))
/-- An instruction is valid. -/
def insB (v : VecN) (x : InsN) : Bool :=
 if x.op = 1 then inR x.d 0 (v.regs - 1) && (inR x.val (-2147483648) 2147483648 && adrB v x.ad)
 else if x.op = 2 then inR x.a 0 (v.regs - 1) && adrB v x.ad
 else if x.op = 3 then inR x.d 0 (v.regs - 1) && inR x.val (-2147483648) 2147483648
 else if x.op = 4 then inR x.d 0 (v.regs - 1) && (inR x.a 0 (v.regs - 1) && x.pt.ok)
 else if x.op = 5 then inR x.d 0 (v.regs - 1) && (inR x.a 0 (v.regs - 1) && (inR x.b 0 (v.regs - 1) && inR x.how 1 6))
 else if x.op = 6 then inR x.d 0 (v.regs - 1) && (inR x.a 0 (v.regs - 1) && inR x.val (-65536) 65536)
 else false
def codeB (v : VecN) (c : CodeN) : Bool :=
 (inR c.w 1 16 && inR c.h 1 16) && (decide (c.inp.length ≤ 3) && (decide (c.ins.length ≤ 200000) && (inR c.out 0 (v.mem - c.w * c.h) && (c.inp.all (fun x => decide (x = -1) || inR x 0 (v.mem - c.w * c.h)) && c.ins.all (insB v)))))
def chkS (v : VecN) (c : CodeN) : Int := if vecB v = true then (if codeB v c = true then 0 else 32) else 31
structure MacN where
 regs : Nat → Nat → Int
 mem : Nat → Int
def pix (v : Int) : Int := clamp v (-2147483648) 2147483648
def wide (v : Int) : Int := clamp v (-1152921504606846976) 1152921504606846976
def setR (M : MacN) (d : Nat) (f : Nat → Int) : MacN := ⟨fun r => if r = d then f else M.regs r, M.mem⟩
/-- The values of some lanes are stored. -/
def stoM (ad : Nat → Int) (v : Nat → Int) (mem : Nat → Int) : Nat → Nat → Int
 | 0 => mem
 | k + 1 => fun i => if 0 ≤ ad k ∧ (i : Int) = ad k then v k else stoM ad v mem k i
def adOf (x : InsN) (j : Nat) : Int := x.ad[j]?.getD 0
/-- What an instruction does. -/
def stepM (lanes : Nat) (x : InsN) (M : MacN) : MacN :=
 if x.op = 1 then setR M x.d.toNat (fun j => if 0 ≤ adOf x j then M.mem (adOf x j).toNat else x.val)
 else if x.op = 2 then ⟨M.regs, stoM (adOf x) (fun j => pix (M.regs x.a.toNat j)) M.mem lanes⟩
 else if x.op = 3 then setR M x.d.toNat (fun _ => x.val)
 else if x.op = 4 then setR M x.d.toNat (fun j => pix (pointF x.pt (pix (M.regs x.a.toNat j))))
 else if x.op = 5 then setR M x.d.toNat (fun j => pix (zipF x.how (pix (M.regs x.a.toNat j)) (pix (M.regs x.b.toNat j))))
 else if x.op = 6 then setR M x.d.toNat (fun j => wide (M.regs x.d.toNat j + x.val * pix (M.regs x.a.toNat j)))
 else M
def runM (lanes : Nat) (l : List InsN) (M : MacN) : MacN := l.foldl (fun M x => stepM lanes x M) M
theorem runM_app (lanes : Nat) (l k : List InsN) (M : MacN) : runM lanes (l ++ k) M = runM lanes k (runM lanes l M) := by unfold runM; rw [List.foldl_append]
theorem runM_cons (lanes : Nat) (x : InsN) (l : List InsN) (M : MacN) : runM lanes (x :: l) M = runM lanes l (stepM lanes x M) := rfl
theorem runM_nil (lanes : Nat) (M : MacN) : runM lanes [] M = M := rfl
/-- Memory behind the images that are placed: image i at ats i, if that is an address. -/
def putImg (at_ : Int) (xs : List Int) (mem : Nat → Int) : Nat → Int := fun i => if 0 ≤ at_ ∧ at_ ≤ (i : Int) ∧ (i : Int) < at_ + xs.length then px xs ((i : Int) - at_) else mem i
def memN (ats : List Int) (ms : List PicN) : Nat → Nat → Int
 | 0 => fun _ => 0
 | k + 1 => putImg (ats[k]?.getD 0) (picAt ms k).px (memN ats ms k)
def mac0 (c : CodeN) (ms : List PicN) : MacN := ⟨fun _ _ => 0, memN c.inp ms c.inp.length⟩
def outN (M : MacN) (from_ : Int) (n : Nat) : List Int := (List.range n).map fun i => M.mem (from_.toNat + i)
def runS (v : VecN) (c : CodeN) (ms : List PicN) : ImR :=
 if chkS v c = 0 then (if givenB ms c.inp.length c.w c.h = true then { w := c.w, h := c.h, px := outN (runM v.lanes.toNat c.ins (mac0 c ms)) c.out (c.w.toNat * c.h.toNat), err := 0 } else noIm 2) else noIm (chkS v c)
/-- Where a place lies beyond the border. -/
def cellX (bd n x : Int) : Int := if bd = 2 then clamp x 0 (n - 1) else if bd = 3 then x % n else x
def cellN (w h x y bd : Int) : Int := if (inR (cellX bd w x) 0 (w - 1) && inR (cellX bd h y) 0 (h - 1)) = true then cellX bd h y * w + cellX bd w x else -1
def adrAt (w h : Int) (lanes g : Nat) (place dx dy bd : Int) (j : Nat) : Int :=
 if ((g * lanes + j : Nat) : Int) < w * h then
  (if 0 ≤ cellN w h (((g * lanes + j : Nat) : Int) % w + dx) (((g * lanes + j : Nat) : Int) / w + dy) bd then place + cellN w h (((g * lanes + j : Nat) : Int) % w + dx) (((g * lanes + j : Nat) : Int) / w + dy) bd else -1)
 else -1
def adrN (w h : Int) (lanes g : Nat) (place dx dy bd : Int) : List Int := (List.range lanes).map (adrAt w h lanes g place dx dy bd)
section
variable (w h : Int) (lanes g : Nat)
def insL (d place dx dy val bd : Int) : InsN := ⟨1, d, 0, 0, val, noPt, 0, adrN w h lanes g place dx dy bd⟩
def insZ (how : Int) : InsN := ⟨5, 0, 0, 1, 0, noPt, how, []⟩
def insP (p : PointN) : InsN := ⟨4, 0, 0, 0, 0, p, 0, []⟩
def insA (tap : Int) : InsN := ⟨6, 0, 1, 0, tap, noPt, 0, []⟩
def insC : InsN := ⟨3, 0, 0, 0, 0, noPt, 0, []⟩
def insS (place : Int) : InsN := ⟨2, 0, 0, 0, 0, noPt, 0, adrN w h lanes g place 0 0 0⟩
/-- The instructions of the first k taps. -/
def tapsC (p : Int) (s : StepN) : Nat → List InsN
 | 0 => []
 | k + 1 => tapsC p s k ++ (if s.taps[k]?.getD 0 = 0 then [] else [insL w h lanes g 1 p (s.kw / 2 - (k : Int) % s.kw) (s.kh / 2 - (k : Int) / s.kw) 0 s.bd, insA (s.taps[k]?.getD 0)])
def bitAt (s : StepN) (k : Nat) : Bool := s.bits[k]?.getD false
def noBit (s : StepN) : Nat → Bool
 | 0 => true
 | k + 1 => noBit s k && !bitAt s k
def sgnC (s : StepN) : Int := if s.op = 4 then -1 else 1
def valC (s : StepN) : Int := if s.op = 4 then -2147483648 else 2147483648
def howC (s : StepN) : Int := if s.op = 4 then 4 else 3
def bitsC (p : Int) (s : StepN) : Nat → List InsN
 | 0 => []
 | k + 1 => bitsC p s k ++ (if bitAt s k = false then [] else
   if noBit s k = true then [insL w h lanes g 0 p (sgnC s * ((k : Int) % s.sw - s.sw / 2)) (sgnC s * ((k : Int) / s.sw - s.sh / 2)) (valC s) 0]
   else [insL w h lanes g 1 p (sgnC s * ((k : Int) % s.sw - s.sw / 2)) (sgnC s * ((k : Int) / s.sw - s.sh / 2)) (valC s) 0, insZ (howC s)])
def headC (at_ : FnL) (s : StepN) : List InsN :=
 if s.op = 1 then [insL w h lanes g 0 (numF (at_ s.a)) 0 0 0 0, insP s.pt]
 else if s.op = 2 then [insL w h lanes g 0 (numF (at_ s.a)) 0 0 0 0, insL w h lanes g 1 (numF (at_ s.b)) 0 0 0 0, insZ s.how]
 else if s.op = 3 then insC :: tapsC w h lanes g (numF (at_ s.a)) s s.taps.length
 else bitsC w h lanes g (numF (at_ s.a)) s s.bits.length
def groupC (at_ : FnL) (r : RndN) (to : Int) : List InsN := headC w h lanes g at_ r.head ++ r.pts.map insP ++ [insS w h lanes g to]
end
def roundC (w h : Int) (lanes : Nat) (at_ : FnL) (r : RndN) (to : Int) : Nat → List InsN
 | 0 => []
 | g + 1 => roundC w h lanes at_ r to g ++ groupC w h lanes g at_ r to
def grpsN (w h lanes : Int) : Int := (w * h + lanes - 1) / lanes
/-- A compiler at work. -/
structure CmN where
 at_ : FnL
 free : List Int
 code : List InsN
/-- Places of images that are not in use are free again. -/
def sweepN (live : FnL) (C : CmN) : Nat → CmN
 | 0 => C
 | m + 1 => if ((sweepN live C m).at_ (m : Int)).isSome = true ∧ truF (live (m : Int)) = false then ⟨delF (sweepN live C m).at_ (m : Int), (sweepN live C m).free ++ [numF ((sweepN live C m).at_ (m : Int))], (sweepN live C m).code⟩ else sweepN live C m
def lastN (C : CmN) : Int := C.free[C.free.length - 1]?.getD 0
def placeN (C : CmN) (m : Int) : CmN := ⟨putF C.at_ m (ilit (lastN C)), C.free.take (C.free.length - 1), C.code⟩
def freeN (n : Int) : Nat → List Int
 | 0 => []
 | k + 1 => (k : Int) * n :: freeN n k
structure InC where
 c : CmN
 inp : List Int
def inpN (left : FnL) (C : CmN) : Nat → InC
 | 0 => ⟨C, []⟩
 | k + 1 => if numF (left (k : Int)) = 0 then ⟨(inpN left C k).c, (inpN left C k).inp ++ [-1]⟩ else ⟨placeN (inpN left C k).c (k : Int), (inpN left C k).inp ++ [lastN (inpN left C k).c]⟩
def rndC (P : PipeN) (lanes : Int) (live : FnL) (r : RndN) (C : CmN) : CmN :=
 let S := sweepN live C (P.inp.toNat + P.ss.length)
 let D := placeN S r.res
 ⟨D.at_, D.free, D.code ++ roundC P.w P.h lanes.toNat D.at_ r (lastN S) (grpsN P.w P.h lanes).toNat⟩
def lastI (P : PipeN) : Int := P.inp + P.ss.length - 1
def cmp0 (P : PipeN) (most : Nat) : InC := inpN (lefF (lastI P) (rdsN P.inp P.ss) (rdsN P.inp P.ss).length) ⟨fun _ => none, freeN (P.w * P.h) most, []⟩ P.inp.toNat
def mostP (P : PipeN) : Nat := mostN P.inp.toNat (lastI P) (rdsN P.inp P.ss) (P.inp.toNat + P.ss.length) (rdsN P.inp P.ss).length
def cmpS (P : PipeN) (lanes : Int) : Nat → CmN
 | 0 => (cmp0 P (mostP P)).c
 | k + 1 => rndC P lanes (livN P.inp.toNat (lastI P) (rdsN P.inp P.ss) k) (rnAt (rdsN P.inp P.ss) k) (cmpS P lanes k)
def cmpC (P : PipeN) (v : VecN) : CodeN :=
 let C := cmpS P v.lanes (rdsN P.inp P.ss).length
 ⟨P.w, P.h, (cmp0 P (mostP P)).inp, numF (C.at_ (lastI P)), C.code⟩
def roomP (P : PipeN) : Int := (mostP P : Int) * P.w * P.h
end Go.Proofs.YtekiemlniegddaaGreat
namespace Go.Proofs.YtekiemlniegddaaGreat
open Go Go.RowKit Go.Shelf
/-- An image's values stand in memory from a place on. -/
structure AtImg (mem : Nat → Int) (p : Int) (xs : List Int) (n : Nat) : Prop where
 nn : 0 ≤ p
 val : ∀ i : Nat, i < n → mem (p.toNat + i) = px xs (i : Int)
theorem range_getD {f : Nat → Int} {n j : Nat} (h : j < n) : ((List.range n).map f)[j]?.getD 0 = f j := by
 rw [List.getElem?_map, List.getElem?_range h]; rfl
theorem adrN_at (w h : Int) {lanes : Nat} (g : Nat) (p dx dy bd : Int) {j : Nat} (hj : j < lanes) : (adrN w h lanes g p dx dy bd)[j]?.getD 0 = adrAt w h lanes g p dx dy bd j := range_getD hj
theorem cell_cases (w h x y bd : Int) : ((inR (cellX bd w x) 0 (w - 1) && inR (cellX bd h y) 0 (h - 1)) = true ∧ cellN w h x y bd = cellX bd h y * w + cellX bd w x ∧ 0 ≤ cellX bd w x ∧ cellX bd w x ≤ w - 1 ∧ 0 ≤ cellX bd h y ∧ cellX bd h y ≤ h - 1) ∨
  ((inR (cellX bd w x) 0 (w - 1) && inR (cellX bd h y) 0 (h - 1)) = false ∧ cellN w h x y bd = -1) := by
 unfold cellN
 cases hc : inR (cellX bd w x) 0 (w - 1) && inR (cellX bd h y) 0 (h - 1) with
 | true =>
  rw [if_pos rfl]
  simp only [Bool.and_eq_true, inR_true] at hc
  exact .inl ⟨rfl, rfl, hc.1.1, hc.1.2, hc.2.1, hc.2.2⟩
 | false => rw [if_neg (by simp)]; exact .inr ⟨rfl, rfl⟩
theorem cell_bd {w h x y bd : Int} (hw : 1 ≤ w) (hh : 1 ≤ h) : -1 ≤ cellN w h x y bd ∧ cellN w h x y bd < w * h := by
 have hwh : 0 < w * h := Int.mul_pos (by omega) (by omega)
 rcases cell_cases w h x y bd with ⟨_, e, a1, a2, a3, a4⟩ | ⟨_, e⟩
 ·have h1 := in_idx (iw := w) (ih := h) (u := cellX bd w x) (v := cellX bd h y) (n := (w * h).toNat) hw (by omega) a1 a2 a3 a4
  rw [e]; omega
 ·rw [e]; omega
/-- What is loaded from an image for the pixel i with an offset. -/
def ldV (w h : Int) (xs : List Int) (i : Nat) (dx dy val bd : Int) : Int :=
 if 0 ≤ cellN w h ((i : Int) % w + dx) ((i : Int) / w + dy) bd then px xs (cellN w h ((i : Int) % w + dx) ((i : Int) / w + dy) bd) else val
section
variable {w h : Int} {lanes g j n : Nat} {M : MacN}
theorem insL_other {d p dx dy val bd : Int} {r : Nat} (hr : r ≠ d.toNat) : (stepM lanes (insL w h lanes g d p dx dy val bd) M).regs r = M.regs r := by
 show (if r = d.toNat then _ else M.regs r) = _
 rw [if_neg hr]
theorem insL_at (hw : 1 ≤ w) (hh : 1 ≤ h) (hn : (n : Int) = w * h) (hj : j < lanes) (hi : g * lanes + j < n) {d p dx dy val bd : Int} {xs : List Int} (hm : AtImg M.mem p xs n) {r : Nat} (hr : r = d.toNat) :
  (stepM lanes (insL w h lanes g d p dx dy val bd) M).regs r j = ldV w h xs (g * lanes + j) dx dy val bd := by
 subst hr
 show (if d.toNat = d.toNat then (fun j => if 0 ≤ adOf _ j then M.mem (adOf _ j).toNat else val) else M.regs d.toNat) j = _
 rw [if_pos rfl]
 have he : adOf (insL w h lanes g d p dx dy val bd) j = adrAt w h lanes g p dx dy bd j := adrN_at w h g p dx dy bd hj
 show (if 0 ≤ adOf (insL w h lanes g d p dx dy val bd) j then M.mem (adOf (insL w h lanes g d p dx dy val bd) j).toNat else val) = _
 rw [he]
 have hcond : ((g * lanes + j : Nat) : Int) < w * h := by rw [← hn]; exact Int.ofNat_lt.2 hi
 unfold adrAt ldV
 simp only [if_pos hcond]
 have hb := cell_bd (w := w) (h := h) (x := ((g * lanes + j : Nat) : Int) % w + dx) (y := ((g * lanes + j : Nat) : Int) / w + dy) (bd := bd) hw hh
 obtain ⟨c, hc⟩ : ∃ c, cellN w h (((g * lanes + j : Nat) : Int) % w + dx) (((g * lanes + j : Nat) : Int) / w + dy) bd = c := ⟨_, rfl⟩
 rw [hc] at hb ⊢
 by_cases h0 : 0 ≤ c
 ·have hp := hm.nn
  rw [if_pos h0, if_pos h0, if_pos (show 0 ≤ p + c by omega)]
  have := hm.val c.toNat (by omega)
  rw [show (p + c).toNat = p.toNat + c.toNat by omega, this]
  rw [Int.toNat_of_nonneg h0]
 ·rw [if_neg h0, if_neg h0, if_neg (show ¬ (0 : Int) ≤ -1 by decide)]
end
theorem ldV_zero {w h : Int} {xs : List Int} {i n : Nat} (hw : 1 ≤ w) (hh : 1 ≤ h) (hn : (n : Int) = w * h) (hi : i < n) (val : Int) : ldV w h xs i 0 0 val 0 = px xs (i : Int) := by
 have h1 := Int.emod_nonneg (i : Int) (show w ≠ 0 by omega)
 have h2 := Int.emod_lt_of_pos (i : Int) (show 0 < w by omega)
 have h3 : 0 ≤ (i : Int) / w := Int.ediv_nonneg (by omega) (by omega)
 have h4 : (i : Int) / w < h := Int.ediv_lt_of_lt_mul (by omega) (by rw [Int.mul_comm]; omega)
 have h5 : (i : Int) / w * w + (i : Int) % w = i := by rw [Int.mul_comm]; exact Int.mul_ediv_add_emod _ _
 have hc : cellN w h ((i : Int) % w + 0) ((i : Int) / w + 0) 0 = i := by
  rw [Int.add_zero, Int.add_zero]
  unfold cellN cellX
  simp only [show ¬ (0 : Int) = 2 by decide, show ¬ (0 : Int) = 3 by decide, if_false]
  rw [if_pos (by simp only [Bool.and_eq_true, inR_true]; omega)]
  exact h5
 unfold ldV
 rw [hc, if_pos (by omega)]
/-- A load for a convolution: what lies beyond the border. -/
theorem ldV_bey {w h : Int} {xs : List Int} {i : Nat} (hw : 1 ≤ w) (hh : 1 ≤ h) (dx dy bd : Int) (hb : 1 ≤ bd ∧ bd ≤ 3) : ldV w h xs i dx dy 0 bd = beyF bd w h xs ((i : Int) % w + dx) ((i : Int) / w + dy) := by
 obtain ⟨X, hX⟩ : ∃ X, (i : Int) % w + dx = X := ⟨_, rfl⟩
 obtain ⟨Y, hY⟩ : ∃ Y, (i : Int) / w + dy = Y := ⟨_, rfl⟩
 unfold ldV
 rw [hX, hY]
 rcases (show bd = 1 ∨ bd = 2 ∨ bd = 3 by omega) with rfl | rfl | rfl
 ·have hx : cellX 1 w X = X := by unfold cellX; rfl
  have hy : cellX 1 h Y = Y := by unfold cellX; rfl
  rcases cell_cases w h X Y 1 with ⟨hin, e, a1, a2, a3, a4⟩ | ⟨hin, e⟩
  ·rw [hx, hy] at hin e
   rw [hx] at a1; rw [hy] at a3
   have := Int.mul_nonneg a3 (show 0 ≤ w by omega)
   rw [e, if_pos (by omega), beyF_in hin]
  ·rw [hx, hy] at hin
   rw [e, if_neg (by omega), beyF_out1 hin]
 ·have hx : cellX 2 w X = clamp X 0 (w - 1) := by unfold cellX; rfl
  have hy : cellX 2 h Y = clamp Y 0 (h - 1) := by unfold cellX; rfl
  have hx1 : 0 ≤ clamp X 0 (w - 1) ∧ clamp X 0 (w - 1) ≤ w - 1 := by unfold clamp; omega
  have hy1 : 0 ≤ clamp Y 0 (h - 1) ∧ clamp Y 0 (h - 1) ≤ h - 1 := by unfold clamp; omega
  rcases cell_cases w h X Y 2 with ⟨hin, e, a1, a2, a3, a4⟩ | ⟨hin, e⟩
  ·rw [hx, hy] at e
   have := Int.mul_nonneg hy1.1 (show 0 ≤ w by omega)
   rw [e, if_pos (by omega), beyF_2]
  ·rw [hx, hy] at hin
   simp [inR, hx1.1, hx1.2, hy1.1, hy1.2] at hin
 ·have hx : cellX 3 w X = X % w := by unfold cellX; rfl
  have hy : cellX 3 h Y = Y % h := by unfold cellX; rfl
  have hx1 : 0 ≤ X % w ∧ X % w ≤ w - 1 := ⟨Int.emod_nonneg _ (by omega), by have := Int.emod_lt_of_pos X (show 0 < w by omega); omega⟩
  have hy1 : 0 ≤ Y % h ∧ Y % h ≤ h - 1 := ⟨Int.emod_nonneg _ (by omega), by have := Int.emod_lt_of_pos Y (show 0 < h by omega); omega⟩
  rcases cell_cases w h X Y 3 with ⟨hin, e, a1, a2, a3, a4⟩ | ⟨hin, e⟩
  ·rw [hx, hy] at e
   have := Int.mul_nonneg hy1.1 (show 0 ≤ w by omega)
   rw [e, if_pos (by omega), beyF_3]
  ·rw [hx, hy] at hin
   have hT : (inR (X % w) 0 (w - 1) && inR (Y % h) 0 (h - 1)) = true := by simp only [Bool.and_eq_true, inR_true]; exact ⟨hx1, hy1⟩
   rw [hT] at hin; cases hin
/-- A load for a shape. -/
theorem ldV_mor {w h : Int} {xs : List Int} {i : Nat} (hw : 1 ≤ w) (dx dy val : Int) : ldV w h xs i dx dy val 0 = if (inR ((i : Int) % w + dx) 0 (w - 1) && inR ((i : Int) / w + dy) 0 (h - 1)) = true then px xs (((i : Int) / w + dy) * w + ((i : Int) % w + dx)) else val := by
 obtain ⟨X, hX⟩ : ∃ X, (i : Int) % w + dx = X := ⟨_, rfl⟩
 obtain ⟨Y, hY⟩ : ∃ Y, (i : Int) / w + dy = Y := ⟨_, rfl⟩
 unfold ldV
 rw [hX, hY]
 have hx : cellX 0 w X = X := by unfold cellX; rfl
 have hy : cellX 0 h Y = Y := by unfold cellX; rfl
 rcases cell_cases w h X Y 0 with ⟨hin, e, a1, a2, a3, a4⟩ | ⟨hin, e⟩
 ·rw [hx, hy] at hin e
  rw [hx] at a1; rw [hy] at a3
  have := Int.mul_nonneg a3 (show 0 ≤ w by omega)
  rw [e, if_pos (by omega), if_pos hin]
 ·rw [hx, hy] at hin
  rw [e, if_neg (by omega), if_neg (by rw [hin]; simp)]
theorem pix_id {v : Int} (h1 : -2147483648 ≤ v) (h2 : v ≤ 2147483648) : pix v = v := clamp_id h1 h2
theorem pix_bd (v : Int) : -2147483648 ≤ pix v ∧ pix v ≤ 2147483648 := clamp_bd v
theorem pix_pix (v : Int) : pix (pix v) = pix v := clamp_clamp v
theorem wide_id {v : Int} (h1 : -1152921504606846976 ≤ v) (h2 : v ≤ 1152921504606846976) : wide v = v := by unfold wide clamp; omega
theorem getD_px (l : List Int) (k : Nat) : l[k]?.getD 0 = px l (k : Int) := by unfold px; rw [Int.toNat_natCast]
section
variable {w h : Int} {lanes g j n : Nat}
/-- The taps. -/
theorem taps_run (hw : 1 ≤ w) (hh : 1 ≤ h) (hn : (n : Int) = w * h) (hj : j < lanes) (hi : g * lanes + j < n) {p : Int} {xs : List Int} {s : StepN} {kw kh : Nat} (hkw : s.kw = kw) (hkh : s.kh = kh)
  (hx : allIn (-2147483648) 2147483648 xs = true) (ht : allIn (-65536) 65536 s.taps = true) (hb : 1 ≤ s.bd ∧ s.bd ≤ 3) (hlen : s.taps.length ≤ 25) :
  ∀ (k : Nat) (M : MacN), k ≤ s.taps.length → AtImg M.mem p xs n → M.regs 0 j = 0 → 
   (runM lanes (tapsC w h lanes g p s k) M).mem = M.mem ∧ (runM lanes (tapsC w h lanes g p s k) M).regs 0 j = sumTo (convT s.bd w h xs kw kh s.taps (((g * lanes + j : Nat) : Int) % w) (((g * lanes + j : Nat) : Int) / w)) k ∧
   -(140737488355328 * k) ≤ sumTo (convT s.bd w h xs kw kh s.taps (((g * lanes + j : Nat) : Int) % w) (((g * lanes + j : Nat) : Int) / w)) k ∧ sumTo (convT s.bd w h xs kw kh s.taps (((g * lanes + j : Nat) : Int) % w) (((g * lanes + j : Nat) : Int) / w)) k ≤ 140737488355328 * k
 | 0, M, _, hm, h0 => ⟨rfl, h0, by simp [sumTo], by simp [sumTo]⟩
 | k + 1, M, hk, hm, h0 => by
  obtain ⟨i1, i2, i3, i4⟩ := taps_run hw hh hn hj hi hkw hkh hx ht hb hlen k M (by omega) hm h0
  have hcb := convT_bd hx ht s.bd w h kw kh (((g * lanes + j : Nat) : Int) % w) (((g * lanes + j : Nat) : Int) / w) k
  obtain ⟨f, hf⟩ : ∃ f, convT s.bd w h xs kw kh s.taps (((g * lanes + j : Nat) : Int) % w) (((g * lanes + j : Nat) : Int) / w) = f := ⟨_, rfl⟩
  have hfk : f k = px s.taps k * beyF s.bd w h xs (((g * lanes + j : Nat) : Int) % w + ((kw / 2 : Nat) : Int) - ((k % kw : Nat) : Int)) (((g * lanes + j : Nat) : Int) / w + ((kh / 2 : Nat) : Int) - ((k / kw : Nat) : Int)) := by rw [← hf]; rfl
  rw [hf] at hcb i2 i3 i4 ⊢
  obtain ⟨M1, hM1⟩ : ∃ M1, runM lanes (tapsC w h lanes g p s k) M = M1 := ⟨_, rfl⟩
  rw [tapsC, runM_app, hM1]
  rw [hM1] at i1 i2
  have hk1 : ((k + 1 : Nat) : Int) = (k : Int) + 1 := by push_cast; rfl
  have hsum : sumTo f (k + 1) = sumTo f k + f k := rfl
  have hbd : -(140737488355328 * ((k + 1 : Nat) : Int)) ≤ sumTo f (k + 1) ∧ sumTo f (k + 1) ≤ 140737488355328 * ((k + 1 : Nat) : Int) := by rw [hsum, hk1]; omega
  rw [getD_px]
  by_cases h1 : px s.taps (k : Int) = 0
  ·rw [if_pos h1, runM_nil]
   refine ⟨i1, ?_, hbd.1, hbd.2⟩
   rw [hsum, hfk, h1, i2]; omega
  ·rw [if_neg h1, runM_cons, runM_cons, runM_nil]
   refine ⟨by show (stepM lanes (insA _) (stepM lanes (insL _ _ _ _ _ _ _ _ _ _) M1)).mem = _; exact i1, ?_, hbd.1, hbd.2⟩
   show wide ((stepM lanes (insL w h lanes g 1 p (s.kw / 2 - (k : Int) % s.kw) (s.kh / 2 - (k : Int) / s.kw) 0 s.bd) M1).regs (0 : Int).toNat j + px s.taps k * pix ((stepM lanes (insL w h lanes g 1 p (s.kw / 2 - (k : Int) % s.kw) (s.kh / 2 - (k : Int) / s.kw) 0 s.bd) M1).regs (1 : Int).toNat j)) = _
   rw [insL_at hw hh hn hj hi (by rw [i1]; exact hm) rfl, insL_other (by decide)]
   show wide (M1.regs 0 j + _) = _
   rw [i2, ldV_bey hw hh _ _ _ hb]
   have e1 : ((g * lanes + j : Nat) : Int) % w + (s.kw / 2 - (k : Int) % s.kw) = ((g * lanes + j : Nat) : Int) % w + ((kw / 2 : Nat) : Int) - ((k % kw : Nat) : Int) := by rw [hkw]; push_cast; omega
   have e2 : ((g * lanes + j : Nat) : Int) / w + (s.kh / 2 - (k : Int) / s.kw) = ((g * lanes + j : Nat) : Int) / w + ((kh / 2 : Nat) : Int) - ((k / kw : Nat) : Int) := by rw [hkw, hkh]; push_cast; omega
   rw [e1, e2]
   have hbb := beyF_bd hx s.bd w h (((g * lanes + j : Nat) : Int) % w + ((kw / 2 : Nat) : Int) - ((k % kw : Nat) : Int)) (((g * lanes + j : Nat) : Int) / w + ((kh / 2 : Nat) : Int) - ((k / kw : Nat) : Int))
   rw [pix_id hbb.1 hbb.2, ← hfk, ← hsum]
   exact wide_id (by omega) (by omega)
/-- The entries of a shape. -/
theorem bits_run (hw : 1 ≤ w) (hh : 1 ≤ h) (hn : (n : Int) = w * h) (hj : j < lanes) (hi : g * lanes + j < n) {p : Int} {xs : List Int} {s : StepN} {sw sh : Nat} (hsw : s.sw = sw) (hsh : s.sh = sh) {mx : Bool} (hop : mx = true ∧ s.op = 4 ∨ mx = false ∧ s.op = 5)
    (hx : allIn (-2147483648) 2147483648 xs = true) :
    ∀ (k : Nat) (M : MacN), AtImg M.mem p xs n → 
      (runM lanes (bitsC w h lanes g p s k) M).mem = M.mem ∧
      (noBit s k = true ∧ morTo mx (morOk (morSg mx) w h sw sh s.bits (((g * lanes + j : Nat) : Int) % w) (((g * lanes + j : Nat) : Int) / w)) (morVal (morSg mx) w xs sw sh (((g * lanes + j : Nat) : Int) % w) (((g * lanes + j : Nat) : Int) / w)) k = valC s ∨
       noBit s k = false ∧ (runM lanes (bitsC w h lanes g p s k) M).regs 0 j = morTo mx (morOk (morSg mx) w h sw sh s.bits (((g * lanes + j : Nat) : Int) % w) (((g * lanes + j : Nat) : Int) / w)) (morVal (morSg mx) w xs sw sh (((g * lanes + j : Nat) : Int) % w) (((g * lanes + j : Nat) : Int) / w)) k)
  | 0, M, hm => by
    refine ⟨rfl, .inl ⟨rfl, ?_⟩⟩
    unfold valC
    rcases hop with ⟨rfl, h4⟩ | ⟨rfl, h5⟩
    · rw [if_pos h4]; rfl
    · rw [if_neg (by omega)]; rfl
  | k + 1, M, hm => by
    obtain ⟨i1, i2⟩ := bits_run hw hh hn hj hi hsw hsh hop hx k M hm
    obtain ⟨X, hX⟩ : ∃ X, ((g * lanes + j : Nat) : Int) % w = X := ⟨_, rfl⟩
    obtain ⟨Y, hY⟩ : ∃ Y, ((g * lanes + j : Nat) : Int) / w = Y := ⟨_, rfl⟩
    rw [hX, hY] at i2 ⊢
    have hbd := mor_bd (mx := mx) (ok := morOk (morSg mx) w h sw sh s.bits X Y) (val := morVal (morSg mx) w xs sw sh X Y) (fun _ => px_bd hx _) k
    obtain ⟨T, hT⟩ : ∃ T, morTo mx (morOk (morSg mx) w h sw sh s.bits X Y) (morVal (morSg mx) w xs sw sh X Y) k = T := ⟨_, rfl⟩
    have hstep : morTo mx (morOk (morSg mx) w h sw sh s.bits X Y) (morVal (morSg mx) w xs sw sh X Y) (k + 1) = if morOk (morSg mx) w h sw sh s.bits X Y k = true then (if mx = true then max T (morVal (morSg mx) w xs sw sh X Y k) else min T (morVal (morSg mx) w xs sw sh X Y k)) else T := by rw [← hT]; rfl
    rw [hT] at i2 hbd
    rw [hstep]
    obtain ⟨M1, hM1⟩ : ∃ M1, runM lanes (bitsC w h lanes g p s k) M = M1 := ⟨_, rfl⟩
    rw [bitsC, runM_app, hM1]
    rw [hM1] at i1 i2
    have hok : morOk (morSg mx) w h sw sh s.bits X Y k = (bitAt s k && (inR (morU (morSg mx) sw X k) 0 (w - 1) && inR (morV (morSg mx) sw sh Y k) 0 (h - 1))) := rfl
    have hsg : morSg mx = sgnC s := by
      unfold morSg sgnC
      rcases hop with ⟨rfl, h4⟩ | ⟨rfl, h5⟩
      · rw [if_pos rfl, if_pos h4]
      · rw [if_neg (by simp), if_neg (by omega)]
    have hu : X + sgnC s * ((k : Int) % s.sw - s.sw / 2) = morU (morSg mx) sw X k := by unfold morU; rw [hsg, hsw]; push_cast; rfl
    have hv : Y + sgnC s * ((k : Int) / s.sw - s.sh / 2) = morV (morSg mx) sw sh Y k := by unfold morV; rw [hsg, hsw, hsh]; push_cast; rfl
    have hvb := px_bd hx (morV (morSg mx) sw sh Y k * w + morU (morSg mx) sw X k)
    have hvd : morVal (morSg mx) w xs sw sh X Y k = px xs (morV (morSg mx) sw sh Y k * w + morU (morSg mx) sw X k) := rfl
    cases hbit : bitAt s k with
    | false =>
      rw [if_pos rfl, runM_nil]
      rw [hok, hbit]
      simp only [Bool.false_and, Bool.false_eq_true, if_false]
      refine ⟨i1, ?_⟩
      rcases i2 with ⟨e1, e2⟩ | ⟨e1, e2⟩
      · exact .inl ⟨by unfold noBit; rw [e1, hbit]; rfl, e2⟩
      · exact .inr ⟨by unfold noBit; rw [e1]; rfl, e2⟩
    | true =>
      have hnb : noBit s (k + 1) = false := by unfold noBit; rw [hbit]; simp
      rw [if_neg (by simp)]
      have hld : ∀ r : Nat, ∀ d : Int, r = d.toNat → (stepM lanes (insL w h lanes g d p (sgnC s * ((k : Int) % s.sw - s.sw / 2)) (sgnC s * ((k : Int) / s.sw - s.sh / 2)) (valC s) 0) M1).regs r j = if morOk (morSg mx) w h sw sh s.bits X Y k = true then morVal (morSg mx) w xs sw sh X Y k else valC s := by
        intro r d hr
        rw [insL_at hw hh hn hj hi (by rw [i1]; exact hm) hr, ldV_mor hw, hX, hY, hu, hv, hok, hbit, hvd]
        simp only [Bool.true_and]
      rcases i2 with ⟨e1, e2⟩ | ⟨e1, e2⟩
      · rw [if_pos e1, runM_cons, runM_nil]
        refine ⟨i1, .inr ⟨hnb, ?_⟩⟩
        rw [hld 0 0 rfl, hvd, e2]
        unfold valC
        rcases hop with ⟨rfl, h4⟩ | ⟨rfl, h5⟩
        · rw [if_pos h4]
          by_cases hm1 : morOk (morSg true) w h sw sh s.bits X Y k = true
          · simp only [if_pos hm1, if_true]; omega
          · simp only [if_neg hm1]
        · rw [if_neg (show ¬ s.op = 4 by omega)]
          by_cases hm1 : morOk (morSg false) w h sw sh s.bits X Y k = true
          · simp only [if_pos hm1, Bool.false_eq_true, if_false]; omega
          · simp only [if_neg hm1]
      · rw [if_neg (by rw [e1]; simp), runM_cons, runM_cons, runM_nil]
        refine ⟨i1, .inr ⟨hnb, ?_⟩⟩
        show pix (zipF (howC s) (pix ((stepM lanes (insL w h lanes g 1 p (sgnC s * ((k : Int) % s.sw - s.sw / 2)) (sgnC s * ((k : Int) / s.sw - s.sh / 2)) (valC s) 0) M1).regs (0 : Int).toNat j)) (pix ((stepM lanes (insL w h lanes g 1 p (sgnC s * ((k : Int) % s.sw - s.sw / 2)) (sgnC s * ((k : Int) / s.sw - s.sh / 2)) (valC s) 0) M1).regs (1 : Int).toNat j))) = _
        rw [hld (1 : Int).toNat 1 rfl, insL_other (by decide)]
        show pix (zipF (howC s) (pix (M1.regs 0 j)) _) = _
        rw [e2, pix_id hbd.1 hbd.2]
        have hvc : -2147483648 ≤ valC s ∧ valC s ≤ 2147483648 := by unfold valC; split <;> omega
        have hpv : pix (if morOk (morSg mx) w h sw sh s.bits X Y k = true then morVal (morSg mx) w xs sw sh X Y k else valC s) = (if morOk (morSg mx) w h sw sh s.bits X Y k = true then morVal (morSg mx) w xs sw sh X Y k else valC s) := by
          split
          · rw [hvd]; exact pix_id hvb.1 hvb.2
          · exact pix_id hvc.1 hvc.2
        rw [hpv]
        rw [← hvd] at hvb
        unfold zipF howC
        rcases hop with ⟨rfl, h4⟩ | ⟨rfl, h5⟩
        · rw [if_pos h4]
          simp only [show ¬ (4 : Int) = 1 by decide, show ¬ (4 : Int) = 2 by decide, show ¬ (4 : Int) = 3 by decide, if_false, if_true]
          have : valC s = -2147483648 := by unfold valC; rw [if_pos h4]
          rw [this]
          by_cases hm1 : morOk (morSg true) w h sw sh s.bits X Y k = true
          · simp only [if_pos hm1]; exact pix_id (by omega) (by omega)
          · simp only [if_neg hm1]; rw [pix_id (by omega) (by omega)]; omega
        · simp only [if_neg (show ¬ s.op = 4 by omega)]
          simp only [show ¬ (3 : Int) = 1 by decide, show ¬ (3 : Int) = 2 by decide, if_false, if_true, Bool.false_eq_true]
          have : valC s = 2147483648 := by unfold valC; rw [if_neg (by omega)]
          rw [this]
          by_cases hm1 : morOk (morSg false) w h sw sh s.bits X Y k = true
          · simp only [if_pos hm1, Bool.false_eq_true, if_false]; exact pix_id (by omega) (by omega)
          · simp only [if_neg hm1]; rw [pix_id (by omega) (by omega)]; omega
end
end Go.Proofs.YtekiemlniegddaaGreat
namespace Go.Proofs.YtekiemlniegddaaGreat
open Go Go.RowKit Go.Shelf
/-- The image is valid and of the size. -/
def fitP (w h : Int) (m : PicN) : Bool := vld m.w m.h m.px && (decide (m.w = w) && decide (m.h = h))
theorem any_not_all {ms : List PicN} {p : PicN → Bool} : (ms.any fun m => !p m) = !ms.all p := by
 induction ms with
 | nil => rfl
 | cons a l ih => simp [ih, Bool.not_and]
set_option maxRecDepth 100000 in
set_option maxHeartbeats 4000000 in
theorem fit1_any (m : PicN) (pa : Option Addr) (pc n : Nat) (hn : Hid (m.px.length = n)) (W H : Int) (bw bh : Nat) (w : World) (kw : Blk w bw 3 #[.int .i64 W]) (kh : Blk w bh 3 #[.int .i64 H]) (hm : n ≤ 9223372036854775807) (hr : Rd w.heap.size w pa m.px) :
  Calls Tryz.prog 129 #[imv m.w m.h pa n pc, .pointer (some ⟨bw, 0, none⟩), .pointer (some ⟨bh, 0, none⟩)] w fun e w' => e = .returned (.bool (!fitP W H m)) ∧ Below w.heap.size w w' := by
 have hB : Below w.heap.size w w := Below.refl _ _
 unfold fitP
 obtain ⟨iw, ih, xs⟩ := m
 simp only at hn hr ⊢
 obtain ⟨v0, hv0⟩ : ∃ v, vld iw ih xs = v := ⟨_, rfl⟩
 have hvH := Lib.hid hv0
 rw [hv0]
 clear hv0
 have x0 := kw.cell (i := 0) rfl
 have y0 := kh.cell (i := 0) rfl
 obtain ⟨V1, hEV1, hbV1, k3⟩ := newB w 32 #[.int .i64 iw, .int .i64 ih, .slice pa n pc]
 clear x0 y0
 replace kw := kw.below hbV1 kw.lt
 replace kh := kh.below hbV1 kh.lt
 replace hr := later_i hr hbV1
 replace hB := tmB hB hbV1
 clear hbV1
 have x0 := kw.cell (i := 0) rfl
 have y0 := kh.cell (i := 0) rfl
 obtain ⟨m0, m1, m2⟩ := cz3 k3
 go_enter Tryz.func129, Tryz.ntmps129
 go_wp2_with fail
 clear hEV1
 refine (Check_any iw ih pa pc n xs hn v0 hvH.out V1 hm hr).mono ?_
 rintro e V2 ⟨rfl, hb⟩
 clear x0 y0 m0 m1 m2
 replace kw := kw.below hb kw.lt
 replace kh := kh.below hb kh.lt
 replace k3 := k3.below hb k3.lt
 replace hr := later_i hr hb
 replace hB := tmB hB hb
 clear hb
 have x0 := kw.cell (i := 0) rfl
 have y0 := kh.cell (i := 0) rfl
 obtain ⟨m0, m1, m2⟩ := cz3 k3
 cases v0 with
 | false =>
  go_wp2_with fail
  go_ret
  exact ⟨ret_bool (by simp), hB⟩
 | true =>
  by_cases e1 : iw = W
  case neg =>
   have f1 : (iw != W) = true := by simp [e1]
   go_wp2_with fail
   go_ret
   exact ⟨ret_bool (by simp [e1]), hB⟩
  case pos =>
   have f1 : (iw != W) = false := by simp [e1]
   by_cases e2 : ih = H
   case neg =>
    have f2 : (ih != H) = true := by simp [e2]
    have e1H := Lib.hid e1
    clear e1
    go_wp2_with fail
    go_ret
    exact ⟨ret_bool (by simp [e1H.out, e2]), hB⟩
   case pos =>
    have f2 : (ih != H) = false := by simp [e2]
    have e1H := Lib.hid e1
    have e2H := Lib.hid e2
    clear e1 e2
    go_wp2_with fail
    go_ret
    exact ⟨ret_bool (by simp [e1H.out, e2H.out]), hB⟩
set_option maxRecDepth 100000 in
set_option maxHeartbeats 4000000 in
theorem IndexP_any (p : PicN → Bool) (fo : Nat) (lb : Array Value) (eg : ∀ args w, (callFunc fo args).run Tryz.prog w = .ok (.enter fo args) w) (ms : List PicN) (a : Option Addr) (c n : Nat) (hn : ms.length = n) (hm : n ≤ 9223372036854775807) (w : World) (hr : RdPs w.heap.size w a ms)
  (hof : ∀ i, i < n → ∀ (W : World) (pa : Option Addr) (pc : Nat), Below w.heap.size w W → Rd W.heap.size W pa (picAt ms i).px → Calls Tryz.prog fo (#[imv (picAt ms i).w (picAt ms i).h pa (picAt ms i).px.length pc] ++ lb) W fun e W' => e = .returned (.bool (p (picAt ms i))) ∧ Below W.heap.size W W') :
  Calls Tryz.prog 152 #[.slice a n c, .func (.func fo) #[] lb] w fun e w' => (∃ k : Int, e = .returned (.int .i64 k) ∧ decide (0 ≤ k) = ms.any p) ∧ Below w.heap.size w w' := by
 have hnH := Lib.hid hn
 have hofH := Lib.hid hof
 clear hn hof
 go_enter Tryz.func152, Tryz.ntmps152
 go_wp2
 go_loopw [5, 8] (fun v i wr => ∃ k : Nat, k ≤ n ∧ i = .int .i64 k ∧ Hid ((ms.take k).any p = false) ∧ Below w.heap.size w wr) (fun _ i _ => n - (intOf i).toNat)
 case atStart => exact ⟨0, Nat.zero_le _, rfl, Lib.hid (by simp), Below.refl _ _⟩
 case round =>
  obtain ⟨k, hk, rfl, hall, hB⟩ := hrel
  by_cases hlt : k < n
  ·have hlt' : k < ms.length := by have := hnH.out; omega
   obtain ⟨b, o, rfl, hbl, pa, pc, p0, p1, p2, rA, _⟩ := hr.at hlt'
   have c0 := (hB.cell (p := ⟨b, o + k * 3, none⟩) hbl).trans p0
   have c1 := (hB.cell (p := ⟨b, o + k * 3 + 1, none⟩) hbl).trans p1
   have c2 := (hB.cell (p := ⟨b, o + k * 3 + 2, none⟩) hbl).trans p2
   have hcall := hofH.out k hlt wr pa pc hB (later_i rA hB)
   have hpk : (ms.take (k + 1)).any p = ((ms.take k).any p || p (picAt ms k)) := by
    rw [List.take_succ_eq_append_getElem hlt', List.any_append]; unfold picAt; rw [List.getElem?_eq_getElem hlt']; simp
   have hhit : p (picAt ms k) = true → ms.any p = true := fun h => by
    unfold picAt at h; rw [List.getElem?_eq_getElem hlt'] at h
    exact List.any_eq_true.2 ⟨_, List.getElem_mem hlt', h⟩
   obtain ⟨pk, hpe⟩ : ∃ v, p (picAt ms k) = v := ⟨_, rfl⟩
   rw [hpe] at hcall hpk hhit
   rw [hall.out, Bool.false_or] at hpk
   have hpkH := Lib.hid hpk
   have hhitH := Lib.hid hhit
   have hcallH := Lib.hid hcall
   clear p0 p1 p2 hpe hpk hhit rA hcall
   cases pk with
   | true =>
    go_wp2_with (go_at_fn fo; refine hcallH.out.mono ?_; rintro e w2 ⟨rfl, hb2⟩)
    go_ret
    exact ⟨⟨_, rfl, by rw [hhitH.out trivial]; simp⟩, hB.trans (hb2.mono hB.size)⟩
   | false =>
    go_wp2_with (go_at_fn fo; refine hcallH.out.mono ?_; rintro e w2 ⟨rfl, hb2⟩)
    go_roundw
    case rel => exact ⟨k + 1, by omega, by go_num, Lib.hid hpkH.out, hB.trans (hb2.mono hB.size)⟩
    case measure => simp [intOf]; omega
  ·go_wp2
   go_ret
   have hall2 := hall.out
   rw [List.take_of_length_le (by have := hnH.out; omega)] at hall2
   exact ⟨⟨_, rfl, by rw [hall2]; rfl⟩, hB⟩
set_option maxRecDepth 100000 in
set_option maxHeartbeats 1000000 in
theorem ContainsP_any (p : PicN → Bool) (fo : Nat) (lb : Array Value) (eg : ∀ args w, (callFunc fo args).run Tryz.prog w = .ok (.enter fo args) w) (ms : List PicN) (a : Option Addr) (c n : Nat) (hn : ms.length = n) (hm : n ≤ 9223372036854775807) (w : World) (hr : RdPs w.heap.size w a ms)
  (hof : ∀ i, i < n → ∀ (W : World) (pa : Option Addr) (pc : Nat), Below w.heap.size w W → Rd W.heap.size W pa (picAt ms i).px → Calls Tryz.prog fo (#[imv (picAt ms i).w (picAt ms i).h pa (picAt ms i).px.length pc] ++ lb) W fun e W' => e = .returned (.bool (p (picAt ms i))) ∧ Below W.heap.size W W') :
  Calls Tryz.prog 128 #[.slice a n c, .func (.func fo) #[] lb] w fun e w' => e = .returned (.bool (ms.any p)) ∧ Below w.heap.size w w' := by
 have hc := IndexP_any p fo lb eg ms a c n hn hm w hr hof
 clear hof eg
 go_enter Tryz.func128, Tryz.ntmps128
 go_wp2_with (go_at_call 152; refine hc.mono ?_; rintro e w' ⟨⟨k, rfl, hk⟩, hb⟩)
 all_goals go_ret
 all_goals exact ⟨ret_bool (by rw [← hk]), hb⟩
theorem enters_fit1 : ∀ args w, (callFunc 129 args).run Tryz.prog w = .ok (.enter 129 args) w := enters_of Tryz.func129 (by kernel_rfl) rfl
set_option maxRecDepth 100000 in
set_option maxHeartbeats 4000000 in
theorem fit_any (ms : List PicN) (a : Option Addr) (c n : Nat) (hn : ms.length = n) (hm : n ≤ 9223372036854775807) (hpl : ∀ i, i < n → (picAt ms i).px.length ≤ 9223372036854775807) (N W H : Int) (w : World) (hr : RdPs w.heap.size w a ms) :
  Calls Tryz.prog 77 #[.slice a n c, .int .i64 N, .int .i64 W, .int .i64 H] w fun e w' => e = .returned (.bool (givenB ms N W H)) ∧ Below w.heap.size w w' := by
 have hB : Below w.heap.size w w := Below.refl _ _
 have hnH := Lib.hid hn
 have hplH := Lib.hid hpl
 clear hn hpl
 unfold givenB
 obtain ⟨V1, hEV1, hbV1, kw⟩ := newB w 3 #[.int .i64 W]
 replace hr := hr.later hbV1
 replace hB := tmB hB hbV1
 clear hbV1
 have x0 := kw.cell (i := 0) rfl
 obtain ⟨V2, hEV2, hbV2, kh⟩ := newB V1 3 #[.int .i64 H]
 clear x0
 replace kw := kw.below hbV2 kw.lt
 replace hr := hr.later hbV2
 replace hB := tmB hB hbV2
 clear hbV2
 have x0 := kw.cell (i := 0) rfl
 have y0 := kh.cell (i := 0) rfl
 by_cases hc : (n : Int) = N
 case neg =>
  have f1 : ((n : Int) == N) = false := by simp [hc]
  have hcH := Lib.hid hc
  clear hc
  go_enter Tryz.func77, Tryz.ntmps77
  go_wp2_with fail
  go_ret
  exact ⟨ret_bool (by rw [hnH.out]; simp [hcH.out]), hB⟩
 case pos =>
  have f1 : ((n : Int) == N) = true := by simp [hc]
  have hcH := Lib.hid hc
  clear hc
  have hcall := ContainsP_any (fun m => !fitP W H m) 129 #[.pointer (some ⟨w.heap.size, 0, none⟩), .pointer (some ⟨V1.heap.size, 0, none⟩)] enters_fit1 ms a c n hnH.out hm V2 hr (fun i hi X pa pc hb hrd => fit1_any (picAt ms i) pa pc _ (Lib.hid rfl) W H _ _ X (kw.below hb kw.lt) (kh.below hb kh.lt) (hplH.out i hi) hrd)
  go_enter Tryz.func77, Tryz.ntmps77
  go_wp2_with (go_at_call 128; refine hcall.mono ?_; rintro e w' ⟨rfl, hb⟩)
  go_ret
  exact ⟨ret_bool (by rw [any_not_all, hnH.out]; simp [hcH.out]; rfl), hB.trans (hb.mono hB.size)⟩
end Go.Proofs.YtekiemlniegddaaGreat

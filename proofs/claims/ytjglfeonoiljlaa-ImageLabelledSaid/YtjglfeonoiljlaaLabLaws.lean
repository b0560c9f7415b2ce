/- What the numbers of parts are: equal exactly for pixels that hang together, in the order of the first pixels; what becomes of them if one part goes away. Plain: no program in sight. -/
import Derived.Test.YtjglfeonoiljlaaLab
namespace Go.Proofs.Ytjglfeonoiljlaa
set_option linter.unusedVariables false
set_option linter.unusedSimpArgs false

/-- Pixels that hang together, along neighbours whose values are not 0. -/
inductive Conn (N pw : Nat) (e : Bool) (nz : Nat → Bool) (i : Nat) : Nat → Prop
  | base : i < N → nz i = true → Conn N pw e nz i i
  | step {k l : Nat} : Conn N pw e nz i k → l < N → nearB pw e k l = true → nz l = true → Conn N pw e nz i l

section
variable {N pw : Nat} {e : Bool} {nz : Nat → Bool}

theorem Conn.right {i k : Nat} (h : Conn N pw e nz i k) : k < N ∧ nz k = true := by
  cases h with
  | base h1 h2 => exact ⟨h1, h2⟩
  | step _ h1 _ h2 => exact ⟨h1, h2⟩
theorem Conn.left {i k : Nat} (h : Conn N pw e nz i k) : i < N ∧ nz i = true := by
  induction h with
  | base h1 h2 => exact ⟨h1, h2⟩
  | step _ _ _ _ ih => exact ih
theorem Conn.trans {i k l : Nat} (h : Conn N pw e nz i k) (h2 : Conn N pw e nz k l) : Conn N pw e nz i l := by
  induction h2 with
  | base _ _ => exact h
  | step _ h1 h2 h3 ih => exact ih.step h1 h2 h3
theorem Conn.symm {i k : Nat} (h : Conn N pw e nz i k) : Conn N pw e nz k i := by
  induction h with
  | base h1 h2 => exact .base h1 h2
  | step h0 h1 h2 h3 ih => exact ((Conn.base h1 h3).step h0.right.1 (by rw [nearB_comm]; exact h2) h0.right.2).trans ih
theorem Conn.near {k l : Nat} (hk : k < N) (hz : nz k = true) (hl : l < N) (hn : nearB pw e k l = true) (hzl : nz l = true) : Conn N pw e nz k l := (Conn.base hk hz).step hl hn hzl
theorem Conn.eight {i k : Nat} (h : Conn N pw false nz i k) : Conn N pw true nz i k := by
  induction h with
  | base h1 h2 => exact .base h1 h2
  | step _ h1 h2 h3 ih => exact ih.step h1 (by rw [nearB_four] at h2; simp [nearB, h2]) h3
end

/-- The number of pixel k when the first i pixels have been seen, and how many parts there are then. -/
noncomputable def lb (N pw : Nat) (e : Bool) (nz : Nat → Bool) (i k : Nat) : Int := px (labTo N pw e nz i).1 k
noncomputable def ln (N pw : Nat) (e : Bool) (nz : Nat → Bool) (i : Nat) : Nat := (labTo N pw e nz i).2

section
variable {N pw : Nat} {e : Bool} {nz : Nat → Bool}

theorem lb_zero (k : Nat) : lb N pw e nz 0 k = 0 := by
  unfold lb labTo
  rw [px_nat, List.getElem?_replicate]
  split <;> rfl
theorem ln_zero : ln N pw e nz 0 = 0 := rfl
theorem lb_bd (i k : Nat) : 0 ≤ lb N pw e nz i k ∧ lb N pw e nz i k ≤ (ln N pw e nz i : Int) := labTo_bd i k
theorem lb_skip {i : Nat} (h : ¬ (nz i = true ∧ lb N pw e nz i i = 0)) : (∀ k, lb N pw e nz (i + 1) k = lb N pw e nz i k) ∧ ln N pw e nz (i + 1) = ln N pw e nz i := by
  have h' : ¬ (nz i = true ∧ px (labTo N pw e nz i).1 i = 0) := h
  have : labTo N pw e nz (i + 1) = labTo N pw e nz i := by rw [labTo, if_neg h']
  unfold lb ln
  rw [this]
  exact ⟨fun _ => rfl, rfl⟩
theorem lb_new {i : Nat} (hz : nz i = true) (h0 : lb N pw e nz i i = 0) : ln N pw e nz (i + 1) = ln N pw e nz i + 1 ∧
    ∀ k, k < N → (Reach N pw e nz (fun j => lb N pw e nz i j) i k → lb N pw e nz (i + 1) k = ((ln N pw e nz i + 1 : Nat) : Int)) ∧ (¬ Reach N pw e nz (fun j => lb N pw e nz i j) i k → lb N pw e nz (i + 1) k = lb N pw e nz i k) := by
  have : labTo N pw e nz (i + 1) = (labFill N pw e nz (labTo N pw e nz i).1 (((labTo N pw e nz i).2 + 1 : Nat) : Int) i, (labTo N pw e nz i).2 + 1) := by rw [labTo, if_pos ⟨hz, h0⟩]
  refine ⟨by unfold ln; rw [this], fun k hk => ?_⟩
  have hp : lb N pw e nz (i + 1) k = px (labFill N pw e nz (labTo N pw e nz i).1 (((labTo N pw e nz i).2 + 1 : Nat) : Int) i) k := by unfold lb; rw [this]
  rw [hp]
  unfold labFill
  rw [px_map_range _ hk]
  constructor
  · intro hr
    exact if_pos hr
  · intro hr
    exact if_neg hr

/-- What is known of the numbers when the first i pixels have been seen. -/
structure LabInv (N pw : Nat) (e : Bool) (nz : Nat → Bool) (i : Nat) : Prop where
  has : ∀ k, k < N → (lb N pw e nz i k ≠ 0 ↔ ∃ j, j < i ∧ Conn N pw e nz j k)
  same : ∀ k l, k < N → l < N → lb N pw e nz i k ≠ 0 → (lb N pw e nz i l = lb N pw e nz i k ↔ Conn N pw e nz k l)

theorem LabInv.reach {i : Nat} (h : LabInv N pw e nz i) (hi : i < N) (hz : nz i = true) (h0 : lb N pw e nz i i = 0) (k : Nat) : Reach N pw e nz (fun j => lb N pw e nz i j) i k ↔ Conn N pw e nz i k := by
  constructor
  · intro hr
    induction hr with
    | base => exact .base hi hz
    | step _ h1 h2 h3 _ ih => exact ih.step h1 h2 h3
  · intro hc
    induction hc with
    | base _ _ => exact .base
    | step hc h1 h2 h3 ih =>
      refine ih.step h1 h2 h3 (Classical.byContradiction fun hne => ?_)
      obtain ⟨j, hj, hjl⟩ := (h.has _ h1).1 hne
      exact (h.has i hi).2 ⟨j, hj, hjl.trans (hc.step h1 h2 h3).symm⟩ h0

theorem labInv : ∀ (i : Nat), i ≤ N → LabInv N pw e nz i
  | 0, _ => ⟨fun k _ => ⟨fun h => (h (lb_zero k)).elim, fun ⟨j, hj, _⟩ => by omega⟩, fun k l _ _ h => (h (lb_zero k)).elim⟩
  | i + 1, hi => by
    have ih := labInv i (by omega)
    by_cases hc : nz i = true ∧ lb N pw e nz i i = 0
    · obtain ⟨hz, h0⟩ := hc
      obtain ⟨hn, hk⟩ := lb_new hz h0
      have hpos : ((ln N pw e nz i + 1 : Nat) : Int) ≠ 0 := by omega
      have key : ∀ k, k < N → (Conn N pw e nz i k → lb N pw e nz (i + 1) k = ((ln N pw e nz i + 1 : Nat) : Int)) ∧ (¬ Conn N pw e nz i k → lb N pw e nz (i + 1) k = lb N pw e nz i k) := fun k hkN =>
        ⟨fun h => (hk k hkN).1 ((ih.reach (by omega) hz h0 k).2 h), fun h => (hk k hkN).2 fun hr => h ((ih.reach (by omega) hz h0 k).1 hr)⟩
      constructor
      · intro k hkN
        by_cases hck : Conn N pw e nz i k
        · rw [(key k hkN).1 hck]
          exact ⟨fun _ => ⟨i, by omega, hck⟩, fun _ => hpos⟩
        · rw [(key k hkN).2 hck, ih.has k hkN]
          constructor
          · rintro ⟨j, hj, h⟩; exact ⟨j, by omega, h⟩
          · rintro ⟨j, hj, h⟩
            by_cases e : j = i
            · subst e; exact (hck h).elim
            · exact ⟨j, by omega, h⟩
      · intro k l hkN hlN hne
        have bl := lb_bd (N := N) (pw := pw) (e := e) (nz := nz) i l
        have bk := lb_bd (N := N) (pw := pw) (e := e) (nz := nz) i k
        by_cases hck : Conn N pw e nz i k
        · rw [(key k hkN).1 hck]
          by_cases hcl : Conn N pw e nz i l
          · rw [(key l hlN).1 hcl]
            exact ⟨fun _ => hck.symm.trans hcl, fun _ => rfl⟩
          · rw [(key l hlN).2 hcl]
            exact ⟨fun h => by omega, fun h => (hcl (hck.trans h)).elim⟩
        · rw [(key k hkN).2 hck] at hne ⊢
          by_cases hcl : Conn N pw e nz i l
          · rw [(key l hlN).1 hcl]
            exact ⟨fun h => by omega, fun h => (hck (hcl.trans h.symm)).elim⟩
          · rw [(key l hlN).2 hcl]
            exact ih.same k l hkN hlN hne
    · obtain ⟨hk, hn⟩ := lb_skip hc
      constructor
      · intro k hkN
        rw [hk, ih.has k hkN]
        constructor
        · rintro ⟨j, hj, h⟩; exact ⟨j, by omega, h⟩
        · rintro ⟨j, hj, h⟩
          by_cases e : j = i
          · subst e
            have hne : lb N pw _ nz j j ≠ 0 := fun h0 => hc ⟨h.left.2, h0⟩
            obtain ⟨j', hj', h'⟩ := (ih.has j (by omega)).1 hne
            exact ⟨j', hj', h'.trans h⟩
          · exact ⟨j, by omega, h⟩
      · intro k l hkN hlN
        rw [hk, hk]
        exact ih.same k l hkN hlN

/-- A number once given stays. -/
theorem lb_stay {i k : Nat} (hi : i ≤ N) (hk : k < N) (h : lb N pw e nz i k ≠ 0) : ∀ d, i + d ≤ N → lb N pw e nz (i + d) k = lb N pw e nz i k
  | 0, _ => rfl
  | d + 1, hd => by
    have ih := lb_stay hi hk h d (by omega)
    rw [← ih]
    show lb N pw e nz (i + d + 1) k = _
    by_cases hc : nz (i + d) = true ∧ lb N pw e nz (i + d) (i + d) = 0
    · obtain ⟨hz, h0⟩ := hc
      obtain ⟨_, hkk⟩ := lb_new hz h0
      refine (hkk k hk).2 fun hr => ?_
      have inv := labInv (N := N) (pw := pw) (e := e) (nz := nz) (i + d) (by omega)
      have hcn := (inv.reach (by omega) hz h0 k).1 hr
      rw [← ih] at h
      obtain ⟨j, hj, hjk⟩ := (inv.has k hk).1 h
      exact (inv.has (i + d) (by omega)).2 ⟨j, hj, hjk.trans hcn.symm⟩ h0
    · exact (lb_skip hc).1 k

/-- The final number of a pixel, and how many parts there are in all. -/
noncomputable def fin (N pw : Nat) (e : Bool) (nz : Nat → Bool) (k : Nat) : Int := lb N pw e nz N k

theorem fin_of {i k : Nat} (hi : i ≤ N) (hk : k < N) (h : lb N pw e nz i k ≠ 0) : fin N pw e nz k = lb N pw e nz i k := by
  have := lb_stay hi hk h (N - i) (by omega)
  rwa [show i + (N - i) = N by omega] at this
theorem fin_ne {k : Nat} (hk : k < N) : fin N pw e nz k ≠ 0 ↔ nz k = true := by
  unfold fin
  rw [(labInv N (Nat.le_refl _)).has k hk]
  exact ⟨fun ⟨_, _, h⟩ => h.right.2, fun h => ⟨k, hk, .base hk h⟩⟩
theorem fin_zero {k : Nat} (hk : k < N) : fin N pw e nz k = 0 ↔ nz k = false := by
  have := fin_ne (pw := pw) (e := e) (nz := nz) hk
  constructor
  · intro h
    cases hz : nz k with
    | false => rfl
    | true => exact (this.2 hz h).elim
  · intro h
    exact Classical.byContradiction fun hne => by rw [this.1 hne] at h; cases h
theorem fin_same {k l : Nat} (hk : k < N) (hl : l < N) (hne : fin N pw e nz k ≠ 0) : fin N pw e nz l = fin N pw e nz k ↔ Conn N pw e nz k l := (labInv N (Nat.le_refl _)).same k l hk hl hne
theorem fin_bd (k : Nat) : 0 ≤ fin N pw e nz k ∧ fin N pw e nz k ≤ (ln N pw e nz N : Int) := lb_bd N k
/-- The number of pixel i is known as soon as it has been seen. -/
theorem fin_at {i : Nat} (hi : i < N) : fin N pw e nz i = lb N pw e nz (i + 1) i := by
  have inv := labInv (N := N) (pw := pw) (e := e) (nz := nz) (i + 1) (by omega)
  cases hz : nz i with
  | true => exact fin_of (by omega) hi ((inv.has i hi).2 ⟨i, by omega, .base hi hz⟩)
  | false =>
    rw [(fin_zero hi).2 hz]
    refine (Classical.byContradiction fun hne => ?_ : lb N pw e nz (i + 1) i = 0).symm
    obtain ⟨j, _, h⟩ := (inv.has i hi).1 hne
    rw [h.right.2] at hz; cases hz
/-- How many parts there are after one more pixel: the greatest number so far. -/
theorem ln_max {i : Nat} (hi : i < N) : (ln N pw e nz (i + 1) : Int) = max (ln N pw e nz i : Int) (fin N pw e nz i) ∧ fin N pw e nz i ≤ (ln N pw e nz i : Int) + 1 := by
  have hb := lb_bd (N := N) (pw := pw) (e := e) (nz := nz) (i + 1) i
  rw [fin_at hi]
  by_cases hc : nz i = true ∧ lb N pw e nz i i = 0
  · obtain ⟨hn, hk⟩ := lb_new hc.1 hc.2
    rw [(hk i hi).1 .base, hn]
    omega
  · rw [(lb_skip hc).2] at hb ⊢
    omega
theorem ln_mono {i : Nat} (hi : i < N) : ln N pw e nz i ≤ ln N pw e nz (i + 1) ∧ ln N pw e nz (i + 1) ≤ ln N pw e nz i + 1 := by
  have := ln_max (pw := pw) (e := e) (nz := nz) hi
  omega

/-- Neighbours have equal numbers, if both have any. -/
theorem fin_near {k l : Nat} (hk : k < N) (hl : l < N) (h : nearB pw e k l = true) (hkz : fin N pw e nz k ≠ 0) (hlz : fin N pw e nz l ≠ 0) : fin N pw e nz l = fin N pw e nz k :=
  (fin_same hk hl hkz).2 (.near hk ((fin_ne hk).1 hkz) hl h ((fin_ne hl).1 hlz))
end

section
variable {N pw : Nat} {nz : Nat → Bool}
/-- Each part in the sense of eight consists of whole parts in the sense of four. -/
theorem fin_eight {k l : Nat} (hk : k < N) (hl : l < N) (hne : fin N pw false nz k ≠ 0) (h : fin N pw false nz l = fin N pw false nz k) : fin N pw true nz l = fin N pw true nz k :=
  (fin_same hk hl ((fin_ne hk).2 ((fin_ne hk).1 hne))).2 ((fin_same hk hl hne).1 h).eight
theorem ln_eight : ∀ (i : Nat), i ≤ N → ln N pw true nz i ≤ ln N pw false nz i
  | 0, _ => Nat.le_refl _
  | i + 1, hi => by
    have ih := ln_eight i (by omega)
    by_cases hc : nz i = true ∧ lb N pw true nz i i = 0
    · have h4 : lb N pw false nz i i = 0 := Classical.byContradiction fun hne => by
        obtain ⟨j, hj, h⟩ := ((labInv i (by omega)).has i (by omega)).1 hne
        exact ((labInv i (by omega)).has i (by omega)).2 ⟨j, hj, h.eight⟩ hc.2
      rw [(lb_new hc.1 hc.2).1, (lb_new hc.1 h4).1]
      omega
    · rw [(lb_skip hc).2]
      have := (ln_mono (pw := pw) (e := false) (nz := nz) (show i < N by omega)).1
      omega
end

/-! ### One part goes away -/

/-- The numbers after one of them has gone. -/
def less (p v : Int) : Int := if v = p then 0 else if p < v then v - 1 else v
theorem less_zero {p : Int} (hp : 1 ≤ p) : less p 0 = 0 := by unfold less; split <;> (try split) <;> omega
theorem less_pos {p v : Int} (hp : 1 ≤ p) (hv : 0 ≤ v) (h0 : v ≠ 0) (hne : v ≠ p) : less p v ≠ 0 := by unfold less; split <;> (try split) <;> omega

section
variable {N pw : Nat} {e : Bool} {nz : Nat → Bool}
/-- The pixels that are left. -/
noncomputable def leftNz (N pw : Nat) (e : Bool) (nz : Nat → Bool) (p : Int) (k : Nat) : Bool := nz k && decide (fin N pw e nz k ≠ p)

theorem lb_less {p : Int} (hp : 1 ≤ p) : ∀ (i : Nat), i ≤ N →
    (∀ k, k < N → lb N pw e (leftNz N pw e nz p) i k = less p (lb N pw e nz i k)) ∧ (ln N pw e (leftNz N pw e nz p) i : Int) = if p ≤ (ln N pw e nz i : Int) then (ln N pw e nz i : Int) - 1 else ln N pw e nz i
  | 0, _ => ⟨fun k _ => by rw [lb_zero, lb_zero, less_zero hp], by rw [ln_zero, ln_zero]; split <;> omega⟩
  | i + 1, hi => by
    obtain ⟨ihb, ihn⟩ := lb_less hp i (by omega)
    have hi' : i < N := by omega
    have bi := lb_bd (N := N) (pw := pw) (e := e) (nz := nz) i i
    by_cases hc : nz i = true ∧ lb N pw e nz i i = 0
    · obtain ⟨hz, h0⟩ := hc
      obtain ⟨hn, hk⟩ := lb_new hz h0
      have inv := labInv (N := N) (pw := pw) (e := e) (nz := nz) i (by omega)
      have hfi : fin N pw e nz i = ((ln N pw e nz i + 1 : Nat) : Int) := by rw [fin_at hi', (hk i hi').1 .base]
      by_cases hpn : ((ln N pw e nz i + 1 : Nat) : Int) = p
      · have hl : leftNz N pw e nz p i = false := by unfold leftNz; rw [hfi]; simp [hpn]
        obtain ⟨sb, sn⟩ := lb_skip (N := N) (pw := pw) (e := e) (nz := leftNz N pw e nz p) (i := i) (by rw [hl]; simp)
        refine ⟨fun k hkN => ?_, ?_⟩
        · rw [sb, ihb k hkN]
          by_cases hr : Reach N pw e nz (fun j => lb N pw e nz i j) i k
          · rw [(hk k hkN).1 hr]
            have : lb N pw e nz i k = 0 := Classical.byContradiction fun hne => by
              obtain ⟨j, hj, h⟩ := (inv.has k hkN).1 hne
              exact (inv.has i hi').2 ⟨j, hj, h.trans ((inv.reach hi' hz h0 k).1 hr).symm⟩ h0
            rw [this, less_zero hp, hpn]
            unfold less
            rw [if_pos rfl]
          · rw [(hk k hkN).2 hr]
        · rw [sn, ihn, hn, if_neg (by omega), if_pos (by omega)]
          omega
      · have hl : leftNz N pw e nz p i = true := by unfold leftNz; rw [hfi, hz, decide_eq_true hpn]; rfl
        have h0' : lb N pw e (leftNz N pw e nz p) i i = 0 := by rw [ihb i hi', h0, less_zero hp]
        obtain ⟨hn', hk'⟩ := lb_new hl h0'
        have hnum : ((ln N pw e (leftNz N pw e nz p) i + 1 : Nat) : Int) = less p ((ln N pw e nz i + 1 : Nat) : Int) := by
          unfold less
          rw [if_neg hpn, Int.natCast_add, ihn]
          by_cases hle : p ≤ (ln N pw e nz i : Int)
          · rw [if_pos hle, if_pos (by omega)]; omega
          · rw [if_neg hle, if_neg (by omega)]; omega
        have hreach : ∀ k, Reach N pw e (leftNz N pw e nz p) (fun j => lb N pw e (leftNz N pw e nz p) i j) i k ↔ Reach N pw e nz (fun j => lb N pw e nz i j) i k := by
          intro k
          constructor
          · intro hr
            induction hr with
            | base => exact .base
            | @step j l h1 h2 h3 h4 h5 ih =>
              have h4' := h4
              unfold leftNz at h4'
              rw [Bool.and_eq_true, decide_eq_true_eq] at h4'
              refine ih.step h2 h3 h4'.1 (Classical.byContradiction fun hne => ?_)
              have hne' : lb N pw e nz i l ≠ 0 := hne
              have hf := fin_of (by omega) h2 hne'
              have h5' : lb N pw e (leftNz N pw e nz p) i l = 0 := h5
              rw [ihb l h2] at h5'
              exact less_pos hp (lb_bd i _).1 hne' (by rw [← hf]; exact h4'.2) h5'
          · intro hr
            induction hr with
            | base => exact .base
            | @step j l h1 h2 h3 h4 h5 ih =>
              have h5' : lb N pw e nz i l = 0 := h5
              have hr2 := h1.step h2 h3 h4 h5
              have hfl : fin N pw e nz l = ((ln N pw e nz i + 1 : Nat) : Int) := by
                have h6 := (hk l h2).1 hr2
                rw [fin_of (i := i + 1) (by omega) h2 (by rw [h6]; omega), h6]
              refine ih.step h2 h3 ?_ ?_
              · unfold leftNz; rw [h4, hfl, decide_eq_true hpn]; rfl
              · show lb N pw e (leftNz N pw e nz p) i l = 0
                rw [ihb l h2, h5', less_zero hp]
        refine ⟨fun k hkN => ?_, ?_⟩
        · by_cases hr : Reach N pw e nz (fun j => lb N pw e nz i j) i k
          · rw [(hk k hkN).1 hr, (hk' k hkN).1 ((hreach k).2 hr), hnum]
          · rw [(hk k hkN).2 hr, (hk' k hkN).2 fun h => hr ((hreach k).1 h), ihb k hkN]
        · rw [hn', hn, Int.natCast_add, ihn]
          by_cases hle : p ≤ (ln N pw e nz i : Int)
          · rw [if_pos hle, if_pos (by omega)]; omega
          · rw [if_neg hle, if_neg (by omega)]; omega
    · obtain ⟨sb, sn⟩ := lb_skip hc
      have hc' : ¬ (leftNz N pw e nz p i = true ∧ lb N pw e (leftNz N pw e nz p) i i = 0) := by
        rintro ⟨h1, h2⟩
        unfold leftNz at h1
        rw [Bool.and_eq_true, decide_eq_true_eq] at h1
        rw [ihb i hi'] at h2
        have hne : lb N pw e nz i i ≠ 0 := fun h => hc ⟨h1.1, h⟩
        exact less_pos hp bi.1 hne (by rw [← fin_of (by omega) hi' hne]; exact h1.2) h2
      obtain ⟨sb', sn'⟩ := lb_skip hc'
      exact ⟨fun k hkN => by rw [sb', sb, ihb k hkN], by rw [sn', sn, ihn]⟩
end

end Go.Proofs.Ytjglfeonoiljlaa

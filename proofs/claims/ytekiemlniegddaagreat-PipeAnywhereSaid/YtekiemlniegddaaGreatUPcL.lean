/- Code on a machine with more of everything. Plain laws. -/
import Derived.Test.YtekiemlniegddaaGreatQF15
import Derived.Test.YtekiemlniegddaaGreatQF18
namespace Go.Proofs.YtekiemlniegddaaGreat
open Go Go.RowKit Go.Shelf
set_option linter.unusedVariables false
set_option linter.unusedSimpArgs false

theorem inR_up {n lo hi hi' : Int} (h : inR n lo hi = true) (hh : hi ≤ hi') : inR n lo hi' = true := by
 rw [inR_true] at h ⊢
 omega
section
variable {v u : VecN}
theorem adrB_up (hl : u.lanes = v.lanes) (hm : v.mem ≤ u.mem) {l : List Int} (h : adrB v l = true) : adrB u l = true := by
 unfold adrB at h ⊢
 rw [Bool.and_eq_true, List.all_eq_true] at h ⊢
 rw [hl]
 exact ⟨h.1, fun x hx => inR_up (h.2 x hx) (by omega)⟩
theorem insB_up (hl : u.lanes = v.lanes) (hr : v.regs ≤ u.regs) (hm : v.mem ≤ u.mem) {x : InsN} (h : insB v x = true) : insB u x = true := by
 have r : ∀ {n : Int}, inR n 0 (v.regs - 1) = true → inR n 0 (u.regs - 1) = true := fun h => inR_up h (by omega)
 unfold insB at h ⊢
 by_cases h1 : x.op = 1
 ·rw [if_pos h1] at h ⊢
  simp only [Bool.and_eq_true] at h ⊢
  exact ⟨r h.1, h.2.1, adrB_up hl hm h.2.2⟩
 rw [if_neg h1] at h ⊢
 by_cases h2 : x.op = 2
 ·rw [if_pos h2] at h ⊢
  simp only [Bool.and_eq_true] at h ⊢
  exact ⟨r h.1, adrB_up hl hm h.2⟩
 rw [if_neg h2] at h ⊢
 by_cases h3 : x.op = 3
 ·rw [if_pos h3] at h ⊢
  simp only [Bool.and_eq_true] at h ⊢
  exact ⟨r h.1, h.2⟩
 rw [if_neg h3] at h ⊢
 by_cases h4 : x.op = 4
 ·rw [if_pos h4] at h ⊢
  simp only [Bool.and_eq_true] at h ⊢
  exact ⟨r h.1, r h.2.1, h.2.2⟩
 rw [if_neg h4] at h ⊢
 by_cases h5 : x.op = 5
 ·rw [if_pos h5] at h ⊢
  simp only [Bool.and_eq_true] at h ⊢
  exact ⟨r h.1, r h.2.1, r h.2.2.1, h.2.2.2⟩
 rw [if_neg h5] at h ⊢
 by_cases h6 : x.op = 6
 ·rw [if_pos h6] at h ⊢
  simp only [Bool.and_eq_true] at h ⊢
  exact ⟨r h.1, r h.2.1, h.2.2⟩
 rw [if_neg h6] at h
 cases h
theorem codeB_up (hl : u.lanes = v.lanes) (hr : v.regs ≤ u.regs) (hm : v.mem ≤ u.mem) {c : CodeN} (h : codeB v c = true) : codeB u c = true := by
 unfold codeB at h ⊢
 simp only [Bool.and_eq_true, List.all_eq_true, Bool.or_eq_true] at h ⊢
 obtain ⟨h1, h2, h3, h4, h5, h6⟩ := h
 exact ⟨h1, h2, h3, inR_up h4 (by omega), fun x hx => (h5 x hx).imp id (fun h => inR_up h (by omega)), fun x hx => insB_up hl hr hm (h6 x hx)⟩
theorem chk_parts {c : CodeN} (h : chkS v c = 0) : vecB v = true ∧ codeB v c = true := by
 unfold chkS at h
 by_cases h1 : vecB v = true
 ·rw [if_pos h1] at h
  by_cases h2 : codeB v c = true
  ·exact ⟨h1, h2⟩
  ·rw [if_neg h2] at h; omega
 ·rw [if_neg h1] at h; omega
/-- A machine with more of everything runs the code alike. -/
theorem run_up (hu : vecB u = true) (hl : u.lanes = v.lanes) (hr : v.regs ≤ u.regs) (hm : v.mem ≤ u.mem) {c : CodeN} (h : chkS v c = 0) (ms : List PicN) : runS u c ms = runS v c ms := by
 obtain ⟨h1, h2⟩ := chk_parts h
 have h3 : chkS u c = 0 := by unfold chkS; rw [if_pos hu, if_pos (codeB_up hl hr hm h2)]
 unfold runS
 rw [if_pos h, if_pos h3, hl]
end
theorem cmpE_zero {P : PipeN} {v : VecN} (h : cmpE P v = 0) : pipeB P = true ∧ vecB v = true ∧ roomP P ≤ v.mem ∧ cmpR P v = cmpC P v := by
 have h0 := h
 unfold cmpE at h
 by_cases h1 : pipeB P = true
 ·rw [if_pos h1] at h
  by_cases h2 : vecB v = true
  ·rw [if_pos h2] at h
   by_cases h3 : v.mem < roomP P
   ·rw [if_pos h3] at h; omega
   ·exact ⟨h1, h2, by omega, by unfold cmpR; rw [if_pos h0]⟩
  ·rw [if_neg h2] at h; omega
 ·rw [if_neg h1] at h; omega
/-- The code that is compiled, run on its machine, gives the meaning. -/
theorem ran_mean {P : PipeN} {v : VecN} (h : cmpE P v = 0) {ms : List PicN} (hg : givenB ms P.inp P.w P.h = true) : runS v (cmpR P v) ms = meanS P ms := by
 obtain ⟨h1, h2, h3, h4⟩ := cmpE_zero h
 rw [h4]
 exact cmp_mean h1 h2 h3 hg
theorem ran_chk {P : PipeN} {v : VecN} (h : cmpE P v = 0) : chkS v (cmpR P v) = 0 ∧ (((cmpR P v).ins.length : Nat) : Int) = lenP P v.lanes := by
 obtain ⟨h1, h2, h3, h4⟩ := cmpE_zero h
 rw [h4]
 exact cmp_valid h1 h2 h3
theorem ran_more {P : PipeN} {v u : VecN} (h : cmpE P v = 0) (hu : cmpE P u = 0) {ms : List PicN} (hg : givenB ms P.inp P.w P.h = true) : runS ⟨v.lanes, max v.regs u.regs, max v.mem u.mem⟩ (cmpR P v) ms = meanS P ms := by
 obtain ⟨_, h2, _, _⟩ := cmpE_zero h
 obtain ⟨_, g2, _, _⟩ := cmpE_zero hu
 rw [run_up (v := v) (u := ⟨v.lanes, max v.regs u.regs, max v.mem u.mem⟩) ?_ rfl (by show v.regs ≤ max v.regs u.regs; omega) (by show v.mem ≤ max v.mem u.mem; omega) (ran_chk h).1, ran_mean h hg]
 have a := vecB_facts h2
 have b := vecB_facts g2
 unfold vecB
 simp only [Bool.and_eq_true, inR_true]
 omega
end Go.Proofs.YtekiemlniegddaaGreat

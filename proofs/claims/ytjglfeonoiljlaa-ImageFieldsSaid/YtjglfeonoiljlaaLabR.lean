/- The search for a part by going over all pairs until nothing turns, by lists. No program in sight. -/
import Derived.Test.YtjglfeonoiljlaaLab
namespace Go.Proofs.Ytjglfeonoiljlaa
set_option linter.unusedVariables false
set_option linter.unusedSimpArgs false

/-- Within one round over all pairs: L2 at its beginning, L now, 'ch' tells a turn; the pixels below k are done, and of k's those below l. -/
structure RS (N pw : Nat) (e : Bool) (nz : Nat → Bool) (i : Nat) (L0 : List Int) (n : Nat) (L2 : List Int) (k l : Nat) (ch : Bool) (L : List Int) : Prop where
  len : L.length = N
  fill : Fill N pw e nz (fun j => px L0 j) ((n + 1 : Nat) : Int) i (fun j => px L j) (fun _ => True)
  zle : zer L + (if ch = true then 1 else 0) ≤ zer L2
  same : ch = false → L = L2
  closed : ch = false → ∀ j, j < k → nz j = true → px L2 j = 0 → ∀ m, m < N → px L2 m = ((n + 1 : Nat) : Int) → nearB pw e j m = false
  part : ch = false → nz k = true → px L2 k = 0 → ∀ m, m < l → px L2 m = ((n + 1 : Nat) : Int) → nearB pw e k m = false

variable {N pw : Nat} {e : Bool} {nz : Nat → Bool} {i : Nat} {L0 : List Int} {n : Nat} {L2 : List Int} {k l : Nat} {ch : Bool} {L : List Int}

theorem RS.begin (hl : L2.length = N) (hf : Fill N pw e nz (fun j => px L0 j) ((n + 1 : Nat) : Int) i (fun j => px L2 j) (fun _ => True)) : RS N pw e nz i L0 n L2 0 0 false L2 :=
  ⟨hl, hf, by simp, fun _ => rfl, fun _ j hj => by omega, fun _ _ _ m hm => by omega⟩
theorem RS.pass (h : RS N pw e nz i L0 n L2 k l ch L) (hn : ch = false → nz k = true → px L2 k = 0 → px L2 l = ((n + 1 : Nat) : Int) → nearB pw e k l = false) : RS N pw e nz i L0 n L2 k (l + 1) ch L :=
  ⟨h.len, h.fill, h.zle, h.same, h.closed, fun hc hz h0 m hm hv => by
    by_cases e : m = l
    · subst e; exact hn hc hz h0 hv
    · exact h.part hc hz h0 m (by omega) hv⟩
theorem RS.set (h : RS N pw e nz i L0 n L2 k l ch L) (hl : labTo N pw e nz i = (L0, n)) (hkN : k < N) (hlN : l < N) (hz : nz k = true) (h0 : px L k = 0) (hv : px L l = ((n + 1 : Nat) : Int)) (hkl : nearB pw e k l = true) :
    RS N pw e nz i L0 n L2 k (l + 1) true (L.set k ((n + 1 : Nat) : Int)) := by
  have hkL : k < L.length := by rw [h.len]; exact hkN
  have hs := zer_set L k ((n + 1 : Nat) : Int) hkL h0 (by omega)
  refine ⟨by rw [List.length_set]; exact h.len, ?_, ?_, fun hc => (Bool.noConfusion hc), fun hc => (Bool.noConfusion hc), fun hc => (Bool.noConfusion hc)⟩
  · exact h.fill.step (fun t _ => lab_new hl t) (by omega) hlN hkN hv (by rw [nearB_comm]; exact hkl) hz h0 _ (fun t ht => by rw [px_set _ hkL, if_neg ht]) (by rw [px_set _ hkL, if_pos rfl]) _ (fun _ => id) trivial
  · have := h.zle
    rw [if_pos rfl]
    split at this <;> omega
theorem RS.next (h : RS N pw e nz i L0 n L2 k l ch L) (hx : l = N ∨ nz k = false ∨ px L k ≠ 0) : RS N pw e nz i L0 n L2 (k + 1) 0 ch L :=
  ⟨h.len, h.fill, h.zle, h.same, fun hc j hj hz h0 m hm hv => by
    by_cases ej : j = k
    · subst ej
      rcases hx with hx | hx | hx
      · exact h.part hc hz h0 m (by omega) hv
      · rw [hx] at hz; cases hz
      · rw [h.same hc] at hx; exact (hx h0).elim
    · exact h.closed hc j (by omega) hz h0 m hm hv, fun _ _ _ m hm => by omega⟩
theorem RS.finish (h : RS N pw e nz i L0 n L2 N l false L) : Fill N pw e nz (fun j => px L0 j) ((n + 1 : Nat) : Int) i (fun j => px L j) (fun _ => False) where
  start := h.fill.start
  out := h.fill.out
  done k hk hv _ m hm hkm hz h0 := by
    have hs := h.same rfl
    rw [hs] at hv h0
    have := h.closed rfl m hm hz h0 k hk hv
    rw [nearB_comm, hkm] at this
    cases this

theorem fill_start (h : labTo N pw e nz i = (L0, n)) (hi : i < N) (h0 : px L0 i = 0) : Fill N pw e nz (fun j => px L0 j) ((n + 1 : Nat) : Int) i (fun j => px (L0.set i ((n + 1 : Nat) : Int)) j) (fun _ => True) :=
  (LD.begin h hi h0).fill.skip fun _ _ => trivial

end Go.Proofs.Ytjglfeonoiljlaa

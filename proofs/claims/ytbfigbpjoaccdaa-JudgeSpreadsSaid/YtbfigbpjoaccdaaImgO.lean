/- The contract of integral: all sums above and to the left, in new memory. -/
import Derived.Test.YtbfigbpjoaccdaaImgN
namespace Go.Proofs.Ytbfigbpjoaccdaa
open Go Go.RowKit Go.Shelf
set_option linter.unusedVariables false
set_option linter.unusedSimpArgs false

attribute [local go_sem] Oper.semAt_some

/-- A slice made at full length, in fenced code. -/
theorem wpListIn_make_full {F : Fence} {n : Nat} {P : Program} (w : World) {ops : Array Oper} {rest : List Oper} {o : Oper} {a : Act} {Q : Exit → Act → World → Prop}
    (hg : o.guard = none) (l c : Operand) (t : TypeId) (hop : o.op = Op.makeSlice t l c)
    (base : Nat) (e : TypeId) (i : TypeInfo) (z : Value) (size : Nat) (h1 : P.underlying t = some (.slice e)) (h2 : P.info? e = some i) (h3 : i.zero = some z) (h4 : i.size = size)
    (kl kc : IntKind) (L C : Int) (m : Nat) (hl : a.eval l = .int kl L) (hc : a.eval c = .int kc C) (hL : L = (m : Int)) (hC : C = (m : Int)) (b2 : i.bytes * m ≤ 281474976710656) (b3 : m ≤ maxLen) (b4 : base ≤ w.heap.size)
    (hK : ∀ w', w'.ownsRow base e size (.slice (some ⟨w.heap.size, 0, none⟩) m m) m (madeCells z.cells (m * size)).toList → w.grownBy w' none → wpListIn F n P ops Q rest (a.put o.dst (.slice (some ⟨w.heap.size, 0, none⟩) m m)) w') :
    wpListIn F n P ops Q (o :: rest) a w := by
  refine wpListIn_plain hg fun K hK' => ?_
  obtain ⟨w', hrun, r1, r2⟩ := run_make_full (P := P) w base t e i z size h1 h2 h3 h4 kl kc m b2 b3 b4
  subst hL
  subst hC
  unfold Oper.wpIn
  refine ⟨?_, ?_⟩
  · simp [Oper.about, hop]
  · rw [Oper.semAt_plain F _ _ (by rw [hop]; intro c hc'; cases hc')]
    simp [execOp, hop, hl, hc, hrun, Result.andThen]
    exact hK' _ _ (hK w' r1 r2)

theorem px_some {L : List Int} {j : Nat} {v : Int} (h : L[j]? = some v) {i : Int} (hi : i.toNat = j) : px L i = v := by unfold px; rw [hi, h]; rfl

/-- One round: the list of all sums grows by one. -/
theorem integ_round (pw ph : Nat) (h2 : pw ≤ 16) (h4 : ph ≤ 16) {g : Nat → Nat → Int} (hb : ∀ u v, -2147483648 ≤ g u v ∧ g u v ≤ 2147483648) {k X Y : Nat} (hk : k < pw * ph) (hX : k % pw = X) (hY : k / pw = Y) {L : List Int} (hL : L = integ pw ph g k) {v : Int} (hv : g X Y = v) :
    L.set ((Y + 1) * (pw + 1) + X + 1) (wrap64 (wrap64 (wrap64 (v + px L (((Y : Int) + 1) * ((pw : Int) + 1) + X)) + px L (((Y : Int) + 1) * ((pw : Int) + 1) + X + 1 - ((pw : Int) + 1))) - px L (((((Y : Int) + 1) * ((pw : Int) + 1) + X + 1 - ((pw : Int) + 1)).toNat - 1 : Nat)))) = integ pw ph g (k + 1) := by
  have hp0 : 0 < pw := Nat.pos_of_ne_zero (by rintro rfl; simp at hk)
  have hx : X < pw := by rw [← hX]; exact Nat.mod_lt _ hp0
  have hy : Y < ph := by rw [← hY]; exact Nat.div_lt_of_lt_mul hk
  have hsp := idx_split pw k
  rw [hX, hY] at hsp
  have e0 : ((Y : Int) + 1) * ((pw : Int) + 1) = (((Y + 1) * (pw + 1) : Nat) : Int) := by simp
  have e1 : (Y + 1) * (pw + 1) = Y * (pw + 1) + (pw + 1) := by rw [Nat.add_mul, Nat.one_mul]
  have a1 := integ_at pw ph g k (x := X) (y := Y + 1) (by omega) (by omega) (by
    rcases Nat.eq_zero_or_pos X with h | h
    · exact .inl h
    · exact .inr (.inr (by rw [Nat.add_sub_cancel]; omega)))
  have a2 := integ_at pw ph g k (x := X + 1) (y := Y) (by omega) (by omega) (by
    rcases Nat.eq_zero_or_pos Y with h | h
    · exact .inr (.inl h)
    · refine .inr (.inr ?_)
      have : (Y - 1) * pw + pw = Y * pw := by
        have := Nat.add_mul (Y - 1) 1 pw
        rw [Nat.sub_add_cancel h, Nat.one_mul] at this
        omega
      rw [Nat.add_sub_cancel]; omega)
  have a3 := integ_at pw ph g k (x := X) (y := Y) (by omega) (by omega) (by
    rcases Nat.eq_zero_or_pos Y with h | h
    · exact .inr (.inl h)
    · rcases Nat.eq_zero_or_pos X with h' | h'
      · exact .inl h'
      refine .inr (.inr ?_)
      have : (Y - 1) * pw + pw = Y * pw := by
        have := Nat.add_mul (Y - 1) 1 pw
        rw [Nat.sub_add_cancel h, Nat.one_mul] at this
        omega
      omega)
  rw [← hL] at a1 a2 a3
  rw [px_some a1 (by rw [e0]; omega), px_some a2 (by rw [e0]; omega), px_some a3 (by rw [e0]; omega)]
  have b1 := gridTo_bd hb (x := X) (y := Y + 1) (by omega) (by omega)
  have b2 := gridTo_bd hb (x := X + 1) (y := Y) (by omega) (by omega)
  have b3 := gridTo_bd hb (x := X) (y := Y) (by omega) (by omega)
  have b4 := hb X Y
  rw [hv] at b4
  have hn := gridTo_next g X Y
  rw [hv] at hn
  rw [IntWalk.wrap64_in (v + _) ⟨by omega, by omega⟩, IntWalk.wrap64_in (v + gridTo g X (Y + 1) + _) ⟨by omega, by omega⟩, IntWalk.wrap64_in _ ⟨by omega, by omega⟩, hn, hL, ← integ_set pw ph g k hk, hX, hY]
  rfl

end Go.Proofs.Ytbfigbpjoaccdaa

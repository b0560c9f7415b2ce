/- A slice of numbers that may begin within its row: what it holds; 'append' of one number to it; its tail; all but its last. -/
import Derived.Test.YtjglfeonoiljlaaNb
namespace Go.Proofs.Ytjglfeonoiljlaa
open Go Go.RowKit Go.Shelf
set_option linter.unusedVariables false
set_option linter.unusedSimpArgs false

/-- The value v is a slice of the numbers xs in a row of its own, from block 'base' on. -/
def QRow (base : Nat) (W : World) (v : Value) (xs : List Int) : Prop :=
  (v = .slice none 0 0 ∧ xs = []) ∨
  ∃ g off cap cur, v = .slice (some ⟨g, off, none⟩) xs.length cap ∧ base ≤ g ∧ W.heap[g]? = some (.cells cur 3 (0, 0)) ∧ xs.length ≤ cap ∧ cap ≤ maxLen ∧ off + cap ≤ cur.size ∧ ∀ (j : Nat) (x : Int), xs[j]? = some x → cur[off + j]? = some (.int .i64 x)

theorem QRow.nil (base : Nat) (W : World) : QRow base W (.slice none 0 0) [] := .inl ⟨rfl, rfl⟩

theorem QRow.kept {base : Nat} {W W' : World} {v : Value} {xs : List Int} {row : Option Nat} (h : QRow base W v xs) (hg : W.grownBy W' row) (hne : ∀ g, v.ownBlock = some g → row ≠ some g) : QRow base W' v xs := by
  rcases h with h | ⟨g, off, cap, cur, rfl, h1, h2, h3⟩
  · exact .inl h
  · exact .inr ⟨g, off, cap, cur, rfl, h1, (hg.block g (Array.getElem?_eq_some_iff.1 h2).1 (fun e => hne g rfl e.symm)).trans h2, h3⟩
theorem QRow.alloc {base : Nat} {W : World} {v : Value} {xs : List Int} (h : QRow base W v xs) (o : Obj) : QRow base (W.alloc o) v xs := h.kept (World.grownBy_alloc W o none) (fun _ _ e => by cases e)
theorem QRow.cells {base : Nat} {W : World} {v : Value} {xs : List Int} (h : QRow base W v xs) {g : Nat} (hv : v.ownBlock = some g) : base ≤ g ∧ ∃ cur, W.heap[g]? = some (.cells cur 3 (0, 0)) := by
  rcases h with ⟨rfl, _⟩ | ⟨g', off, cap, cur, rfl, h1, h2, _⟩
  · simp [Value.ownBlock] at hv
  · simp [Value.ownBlock] at hv; subst hv; exact ⟨h1, cur, h2⟩
theorem QRow.keeps {base : Nat} {W W' : World} {v : Value} {xs : List Int} {row : Option Nat} (h : QRow base W v xs) (hg : W.grownBy W' row) (hr : ∀ r, row = some r → ∃ o : Obj, W.heap[r]? = some o ∧ o.isCells = false) : QRow base W' v xs := by
  refine h.kept hg fun g hv e => ?_
  obtain ⟨_, cur, hc⟩ := h.cells hv
  obtain ⟨o, ho, hn⟩ := hr g e
  rw [hc] at ho; cases ho; cases hn
theorem QRow.of_owns {base : Nat} {W : World} {v : Value} {xs : List Int} (h : W.ownsRow base 3 1 v xs.length (xs.map (Value.int .i64))) : QRow base W v xs := by
  rcases h.2 with ⟨h1, h2⟩ | ⟨g, cap, cur, rfl, h1, h2, h3, h4, h5, h6⟩
  · exact .inl ⟨h1, List.eq_nil_of_length_eq_zero h2⟩
  · refine .inr ⟨g, 0, cap, cur, rfl, h1, h2, h3, h4, by omega, fun j x hj => ?_⟩
    have hlt : j < xs.length := (List.getElem?_eq_some_iff.1 hj).1
    have e : (cur.toList.take (xs.length * 1))[j]? = some (.int .i64 x) := by rw [h6, List.getElem?_map, hj]; rfl
    rw [List.getElem?_take, if_pos (by omega)] at e
    simpa using e

theorem QRow.head {base : Nat} {W : World} {v : Value} {x : Int} {xs : List Int} (h : QRow base W v (x :: xs)) :
    ∃ g off cap, v = .slice (some ⟨g, off, none⟩) (xs.length + 1) cap ∧ xs.length + 1 ≤ cap ∧ cap ≤ maxLen ∧ W.cell? ⟨g, off, none⟩ = some (.int .i64 x) ∧ base ≤ g ∧
      QRow base W (.slice (some (if cap = 1 then ⟨g, off, none⟩ else ⟨g, off + 1, none⟩)) xs.length (cap - 1)) xs := by
  rcases h with ⟨_, h⟩ | ⟨g, off, cap, cur, rfl, h1, h2, h3, h4, h5, h6⟩
  · cases h
  · simp only [List.length_cons] at h3
    refine ⟨g, off, cap, by simp, h3, h4, ?_, h1, ?_⟩
    · have := h6 0 x (by simp)
      simp [World.cell?, h2]
      simpa using this
    · by_cases hc : cap = 1
      · subst hc
        have hx : xs = [] := List.eq_nil_of_length_eq_zero (by omega)
        subst hx
        exact .inr ⟨g, off, 0, cur, by simp, h1, h2, by simp, by unfold maxLen; omega, by omega, fun j x hj => by simp at hj⟩
      · refine .inr ⟨g, off + 1, cap - 1, cur, by rw [if_neg hc], h1, h2, by omega, by omega, by omega, fun j y hj => ?_⟩
        have := h6 (j + 1) y (by simpa using hj)
        rw [show off + 1 + j = off + (j + 1) by omega]; exact this

theorem QRow.last {base : Nat} {W : World} {v : Value} {x : Int} {xs : List Int} (h : QRow base W v (xs ++ [x])) :
    ∃ g off cap, v = .slice (some ⟨g, off, none⟩) (xs.length + 1) cap ∧ xs.length + 1 ≤ cap ∧ cap ≤ maxLen ∧ W.cell? ⟨g, off + xs.length, none⟩ = some (.int .i64 x) ∧ base ≤ g ∧
      QRow base W (.slice (some ⟨g, off, none⟩) xs.length cap) xs := by
  rcases h with ⟨_, h⟩ | ⟨g, off, cap, cur, rfl, h1, h2, h3, h4, h5, h6⟩
  · simp at h
  · simp only [List.length_append, List.length_cons, List.length_nil, Nat.zero_add] at h3
    refine ⟨g, off, cap, by simp, h3, h4, ?_, h1, .inr ⟨g, off, cap, cur, rfl, h1, h2, by omega, h4, h5, fun j y hj => h6 j y ?_⟩⟩
    · have := h6 xs.length x (by simp)
      simp [World.cell?, h2]
      simpa using this
    · have hlt : j < xs.length := (List.getElem?_eq_some_iff.1 hj).1
      rw [List.getElem?_append_left hlt]; exact hj

theorem cells_one {w : World} {ad : Addr} {y : Int} (hc : w.cell? ad = some (.int .i64 y)) : ∀ (j : Nat) (u : Value), [Value.int .i64 y][j]? = some u → w.cell? (ad.add j) = some u := by
  intro j u hj
  match j, hj with
  | 0, hj => simp at hj; subst hj; rw [show ad.add 0 = ad by cases ad; simp [Addr.add]]; exact hc
  | j + 1, hj => simp at hj

theorem q_run (base : Nat) (w : World) (ty : TypeId) (v : Value) (xs : List Int) (hown : QRow base w v xs) (ad : Addr) (c : Nat) (y : Int) (hc : w.cell? ad = some (.int .i64 y)) (hlen : xs.length < 1000000) (hb : base ≤ w.heap.size) :
    ∃ v' w', (Builtin.append_ #[22, 22] ty #[v, .slice (some ad) 1 c]).run Try.prog w = .ok v' w' ∧ QRow base w' v' (xs ++ [y]) ∧ w.grownBy w' v.ownBlock ∧ (v'.ownBlock = v.ownBlock ∨ ∃ g, v'.ownBlock = some g ∧ w.heap.size ≤ g) := by
  obtain ⟨i0, hi, hz0, hz1, hz2⟩ := info_parts info_int
  have h1 : ∀ u ∈ [Value.int .i64 y], u.oneCell' = true := by simp [Value.oneCell']
  have hmap : xs.map (Value.int .i64) ++ [Value.int .i64 y] = (xs ++ [y]).map (Value.int .i64) := by simp
  rcases hown with ⟨rfl, rfl⟩ | ⟨g, off, cap, cur, rfl, b1, b2, b3, b4, b5, b6⟩
  · obtain ⟨v', w', hr, h2, h3, h4, h5⟩ := run_append_own_at (P := Try.prog) w base 22 ty 3 i0 (.int .i64 0) 1 8 Try.underlying22 hi hz0 hz1 hz2 rfl (by decide) (.slice none 0 0) 0 [] (World.ownsRow_nil _ _ _ _) ad 1 c [.int .i64 y] rfl (cells_one hc) h1 (by unfold maxLen; omega) (by omega) hb
    exact ⟨v', w', hr, .of_owns h2, h3, h5.imp id fun e => ⟨_, e, Nat.le_refl _⟩⟩
  · by_cases hroom : xs.length + 1 ≤ cap
    · have hr := run_append_room_cells (P := Try.prog) w 22 ty 3 i0 Try.underlying22 hi g off xs.length cap ad 1 c [.int .i64 y] (by rw [hz1]; rfl) (cells_one hc) h1 hroom
        (fun j hj => by rw [hz1]; simp at hj; subst hj; simp [World.cell?, b2]; omega) (fun j hj => by simp [World.frozen?, b2])
      rw [hz1] at hr
      have hg : w.grownBy (w.setCell ⟨g, off + xs.length * 1, none⟩ (.int .i64 y)) (some g) := ⟨rfl, rfl, rfl, by simp [World.setCell], fun k _ hk => heap_setCell_other w _ k _ (fun e => hk (by rw [e]))⟩
      refine ⟨_, _, hr, .inr ⟨g, off, cap, cur.setIfInBounds (off + xs.length * 1) (.int .i64 y), by simp, b1, ?_, by simp; omega, b4, by simp; omega, fun j x hj => ?_⟩, hg, .inl rfl⟩
      · exact heap_setCell_same w g _ cur _ _ b2
      · by_cases hj2 : j < xs.length
        · rw [List.getElem?_append_left hj2] at hj
          rw [Array.getElem?_setIfInBounds_ne (by omega)]
          exact b6 j x hj
        · have hjl : j = xs.length := by
            have := (List.getElem?_eq_some_iff.1 hj).1
            simp at this; omega
          subst hjl
          simp at hj
          subst hj
          rw [Nat.mul_one, Array.getElem?_setIfInBounds_self_of_lt (by omega)]
    · obtain ⟨v', w', hr, h2, h3⟩ := run_append_arg_grows (P := Try.prog) w 22 ty 3 i0 (.int .i64 0) 1 8 Try.underlying22 hi hz0 hz1 hz2 rfl (by decide) ⟨g, off, none⟩ xs.length cap (xs.map (Value.int .i64)) (by simp) (fun j u hj => by
        rw [List.getElem?_map] at hj
        obtain ⟨x, hx, rfl⟩ := Option.map_eq_some_iff.1 hj
        rw [Addr.add_lit]
        simp [World.cell?, b2, b6 j x hx]) ad 1 c [.int .i64 y] rfl (cells_one hc) (by omega) (by unfold maxLen; omega) (by omega)
      rw [hmap] at h2
      have h2' : w'.ownsRow w.heap.size 3 1 v' (xs ++ [y]).length ((xs ++ [y]).map (Value.int .i64)) := by rw [List.length_append]; exact h2
      rcases QRow.of_owns h2' with ⟨e1, e2⟩ | ⟨g', off', cap', cur', e1, e2, e3⟩
      · simp at e2
      · exact ⟨v', w', hr, .inr ⟨g', off', cap', cur', e1, Nat.le_trans hb e2, e3⟩, ⟨h3.os, h3.tape, h3.output, h3.size, fun k hk _ => h3.block k hk (by simp)⟩, .inr ⟨g', by rw [e1]; rfl, e2⟩⟩

/-- The operation within a walk. -/
theorem q_append {F : Fence} {n : Nat} {w : World} {ops : Array Oper} {rest : List Oper} {o : Oper} {a : Act} {Q : Exit → Act → World → Prop} (hgd : o.guard = none) (s x : Operand)
    (ho : o.op = .call { callee := .builtin .append, args := #[s, x], argTypes := #[22, 22] }) (base : Nat) (v : Value) (xs : List Int) (hs : a.eval s = v) (hown : QRow base w v xs) (ad : Addr) (c : Nat) (y : Int)
    (hx : a.eval x = .slice (some ad) 1 c) (hc : w.cell? ad = some (.int .i64 y)) (hlen : xs.length < 1000000) (hb : base ≤ w.heap.size)
    (h : ∀ v' w', QRow base w' v' (xs ++ [y]) → w.grownBy w' v.ownBlock → (v'.ownBlock = v.ownBlock ∨ ∃ g, v'.ownBlock = some g ∧ w.heap.size ≤ g) → wpListIn F n Try.prog ops Q rest (a.put o.dst v') w') :
    wpListIn F n Try.prog ops Q (o :: rest) a w := by
  refine wpListIn_plain hgd fun K hK => ?_
  obtain ⟨v', w', hr, h2, h3, h4⟩ := q_run base w o.type v xs hown ad c y hc hlen hb
  unfold Oper.wpIn
  refine ⟨by simp [Oper.about, ho, resolve, Target.leads, Sem.run_pure], ?_⟩
  rw [Oper.semAt_plain F _ _ (by rw [ho]; intro c hc'; cases hc')]
  simp [execOp, ho, resolve, invoke, builtin, hs, hx, hr, Result.andThen]
  exact hK _ _ (h v' w' h2 h3 h4)

end Go.Proofs.Ytjglfeonoiljlaa

/- append of what can be read, nil or not; rows and blocks that grow. -/
import Derived.Test.YtbfigbpjoaccdaaJB
import Derived.Maps.AppendAt
namespace Go.Proofs.Ytbfigbpjoaccdaa
open Go Go.RowKit Go.Shelf
set_option linter.unusedVariables false
set_option linter.unusedSimpArgs false

/-! ### append of what can be read, nil or not -/

theorem run_append_none0 {P : Program} {w : World} (base : Nat) (t ty e : TypeId) (i : TypeInfo) (size : Nat) (ht : P.underlying t = some (.slice e)) (hi : P.info? e = some i)
    (v : Value) (n : Nat) (xs : List Value) (hown : w.ownsRow base e size v n xs) (c : Nat) : (Builtin.append_ #[t, t] ty #[v, .slice none 0 c]).run P w = .ok v w := by
  rcases hown.2 with ⟨rfl, rfl⟩ | ⟨g, cap, cur, rfl, _, _, hnc, _⟩
  · simp [Builtin.append_, run_underlying ht, sizeOf, typeInfo, hi, Builtin.lenOf, Builtin.firstCells]
  · simp [Builtin.append_, run_underlying ht, sizeOf, typeInfo, hi, Builtin.lenOf, Builtin.firstCells, hnc, storeCells]

theorem grownBy_self (w : World) (row : Option Nat) : w.grownBy w row := ⟨rfl, rfl, rfl, Nat.le_refl _, fun _ _ _ => rfl⟩

/-- What stands at an address that may be none. -/
def NewsAt (W : World) (a : Option Addr) (m : Nat) (news : List Value) : Prop := (a = none ∧ m = 0) ∨ ∃ ad, a = some ad ∧ ∀ j u, news[j]? = some u → W.cell? (ad.add j) = some u

theorem wpList_append_any {P : Program} {w : World} {ops : Array Oper} {rest : List Oper} {o : Oper} {act : Act} {Q : Exit → Act → World → Prop} (hgd : o.guard = none) (s x : Operand) (t : TypeId)
    (ho : o.op = .call { callee := .builtin .append, args := #[s, x], argTypes := #[t, t] })
    (base : Nat) (e : TypeId) (i : TypeInfo) (z : Value) (bytes : Nat) (ht : P.underlying t = some (.slice e)) (hi : P.info? e = some i) (hz : i.zero = some z)
    (hsize : i.size = 1) (hby : i.bytes = bytes) (hzs : z.cells.size = 1)
    (v : Value) (n : Nat) (xs : List Value) (hs : act.eval s = v) (hown : w.ownsRow base e 1 v n xs)
    (a : Option Addr) (m c : Nat) (news : List Value) (hx : act.eval x = .slice a m c) (hl : news.length = m) (hnews : NewsAt w a m news) (h1 : ∀ u ∈ news, u.oneCell' = true)
    (h63 : n + m ≤ maxLen) (hbytes : (n + m) * bytes ≤ 140737488355328) (hbase : base ≤ w.heap.size)
    (h : ∀ v' w', w'.ownsRow base e 1 v' (n + m) (xs ++ news) → w.grownBy w' v.ownBlock → (v'.ownBlock = v.ownBlock ∨ v'.ownBlock = some w.heap.size) → wpList P ops Q rest (act.put o.dst v') w') :
    wpList P ops Q (o :: rest) act w := by
  rcases hnews with ⟨rfl, rfl⟩ | ⟨ad, rfl, hc⟩
  · obtain rfl : news = [] := List.eq_nil_of_length_eq_zero hl
    refine wpList_plain hgd fun K hK => ?_
    have hrun := run_append_none0 (P := P) (w := w) base t o.type e i 1 ht hi v n xs hown c
    unfold Oper.wp
    simp [execOp, ho, resolve, invoke, builtin, hs, hx, hrun, Result.andThen]
    exact hK _ _ (h v w (by simpa using hown) (grownBy_self _ _) (.inl rfl))
  · exact wpList_append_own_at w hgd s x t ho base e i z 1 bytes ht hi hz hsize hby hzs (by decide) v n xs hs hown ad m c news hx (by omega) hc h1 h63 hbytes hbase (fun v' w' g1 g2 g3 g4 => h v' w' g1 g2 g4)

theorem addr_add (b o j : Nat) : (⟨b, o, none⟩ : Addr).add j = ⟨b, o + j, none⟩ := by unfold Addr.add; split <;> simp_all
theorem RdN.news {B : Nat} {W : World} {a : Option Addr} {xs : List Nat} {m : Nat} (h : RdN B W a xs) (hm : xs.length = m) : NewsAt W a m (xs.map vu8) := by
  subst hm
  cases a with
  | none =>
    rcases h with h | ⟨b, o, h1, _⟩
    · subst h; exact .inl ⟨rfl, rfl⟩
    · cases h1
  | some ad =>
    refine .inr ⟨ad, rfl, fun j u hu => ?_⟩
    rcases h with h | ⟨b, o, h1, h2, h3⟩
    · subst h; simp at hu
    · simp only [Option.some.injEq] at h1
      subst h1
      have hj : j < xs.length := by
        rcases Nat.lt_or_ge j xs.length with h | h
        · exact h
        · rw [List.getElem?_eq_none (by simpa using h)] at hu; cases hu
      rw [addr_add, h3 j hj]
      simp [hj, vu8] at hu ⊢
      exact hu
theorem vu8_one (xs : List Nat) : ∀ u ∈ xs.map vu8, u.oneCell' = true := fun u hu => by
  obtain ⟨x, _, rfl⟩ := List.mem_map.1 hu
  rfl
theorem Rd.news {B : Nat} {W : World} {a : Option Addr} {xs : List Int} {m : Nat} (h : Rd B W a xs) (hm : xs.length = m) : NewsAt W a m (xs.map (Value.int .i64)) := by
  subst hm
  cases a with
  | none =>
    rcases h with h | ⟨b, o, h1, _⟩
    · subst h; exact .inl ⟨rfl, rfl⟩
    · cases h1
  | some ad =>
    refine .inr ⟨ad, rfl, fun j u hu => ?_⟩
    rcases h with h | ⟨b, o, h1, h2, h3⟩
    · subst h; simp at hu
    · simp only [Option.some.injEq] at h1
      subst h1
      have hj : j < xs.length := by
        rcases Nat.lt_or_ge j xs.length with h | h
        · exact h
        · rw [List.getElem?_eq_none (by simpa using h)] at hu; cases hu
      rw [addr_add, h3 j hj]
      simp [hj] at hu ⊢
      exact hu
theorem vint_one (xs : List Int) : ∀ u ∈ xs.map (Value.int .i64), u.oneCell' = true := fun u hu => by
  obtain ⟨x, _, rfl⟩ := List.mem_map.1 hu
  rfl
theorem NewsAt.below {W W' : World} {B : Nat} {a : Option Addr} {m : Nat} {news : List Value} (h : NewsAt W a m news) (hb : Below B W W') (ha : ∀ ad, a = some ad → ad.block < B) : NewsAt W' a m news := by
  rcases h with h | ⟨ad, rfl, h2⟩
  · exact .inl h
  · exact .inr ⟨ad, rfl, fun j u hu => by
      rw [hb.cell (by have := ha ad rfl; unfold Addr.add; split <;> exact this)]
      exact h2 j u hu⟩

theorem grownBy_new {w w' : World} {o : Obj} (h : (w.alloc o).grownBy w' (some w.heap.size)) : w.grownBy w' none :=
  ⟨h.os, h.tape, h.output, Nat.le_trans (by simp) h.size, fun k hk _ => (h.block k (by simp; omega) (by simp; omega)).trans (heap_alloc_old w o k hk)⟩
theorem row_none {W W' : World} {base : Nat} {e : TypeId} {size : Nat} {v : Value} {n : Nat} {xs : List Value} (h : W.ownsRow base e size v n xs) (hg : W.grownBy W' none) : W'.ownsRow base e size v n xs := h.kept hg (by cases hv : v.ownBlock <;> simp)

end Go.Proofs.Ytbfigbpjoaccdaa

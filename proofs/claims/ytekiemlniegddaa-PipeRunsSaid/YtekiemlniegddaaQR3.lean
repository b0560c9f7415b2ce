/- Contracts and laws (Ap, PpO, PCh, OpP, PcA, PcC, PcD, PFt, PMn, PcM). -/
import Derived.Maps.AppendAt
import Derived.Deep.Slices
import Derived.Deep.Grids
import Derived.Maps.OwnOps
import Derived.Maps.OwnSet
import Derived.Test.YtekiemlniegddaaQR1
import Derived.Test.YtekiemlniegddaaQR2
set_option linter.unusedVariables false
set_option linter.unusedSimpArgs false
namespace Go.Proofs.Ytekiemlniegddaa
open Go Go.RowKit Go.Shelf
/-! ### append of what can be read, nil or not -/
theorem run_append_none0 {P : Program} {w : World} (base : Nat) (t ty e : TypeId) (i : TypeInfo) (size : Nat) (ht : P.underlying t = some (.slice e)) (hi : P.info? e = some i)
  (v : Value) (n : Nat) (xs : List Value) (hown : w.ownsRow base e size v n xs) (c : Nat) : (Builtin.append_ #[t, t] ty #[v, .slice none 0 c]).run P w = .ok v w := by
 rcases hown.2 with ⟨rfl, rfl⟩ | ⟨g, cap, cur, rfl, _, _, hnc, _⟩
 ·simp [Builtin.append_, run_underlying ht, sizeOf, typeInfo, hi, Builtin.lenOf, Builtin.firstCells]
 ·simp [Builtin.append_, run_underlying ht, sizeOf, typeInfo, hi, Builtin.lenOf, Builtin.firstCells, hnc, storeCells]
theorem grownBy_self (w : World) (row : Option Nat) : w.grownBy w row := ⟨rfl, rfl, rfl, Nat.le_refl _, fun _ _ _ => rfl⟩
/-- What stands at an address that may be none. -/
def NewsAt (W : World) (a : Option Addr) (m : Nat) (news : List Value) : Prop := (a = none ∧ m = 0) ∨ ∃ ad, a = some ad ∧ ∀ j u, news[j]? = some u → W.cell? (ad.add j) = some u
theorem addr_add (b o j : Nat) : (⟨b, o, none⟩ : Addr).add j = ⟨b, o + j, none⟩ := by unfold Addr.add; split <;> simp_all
theorem Rd.news {B : Nat} {W : World} {a : Option Addr} {xs : List Int} {m : Nat} (h : Rd B W a xs) (hm : xs.length = m) : NewsAt W a m (xs.map (Value.int .i64)) := by
 subst hm
 cases a with
 | none =>
  rcases h with h | ⟨b, o, h1, _⟩
  ·subst h; exact .inl ⟨rfl, rfl⟩
  ·cases h1
 | some ad =>
  refine .inr ⟨ad, rfl, fun j u hu => ?_⟩
  rcases h with h | ⟨b, o, h1, h2, h3⟩
  ·subst h; simp at hu
  ·simp only [Option.some.injEq] at h1
   subst h1
   have hj : j < xs.length := by
    rcases Nat.lt_or_ge j xs.length with h | h
    ·exact h
    ·rw [List.getElem?_eq_none (by simpa using h)] at hu; cases hu
   rw [addr_add, h3 j hj]
   simp [hj] at hu ⊢
   exact hu
theorem vint_one (xs : List Int) : ∀ u ∈ xs.map (Value.int .i64), u.oneCell' = true := fun u hu => by
 obtain ⟨x, _, rfl⟩ := List.mem_map.1 hu
 rfl
theorem NewsAt.below {W W' : World} {B : Nat} {a : Option Addr} {m : Nat} {news : List Value} (h : NewsAt W a m news) (hb : Below B W W') (ha : ∀ ad, a = some ad → ad.block < B) : NewsAt W' a m news := by
 rcases h with h | ⟨ad, rfl, h2⟩
 ·exact .inl h
 ·exact .inr ⟨ad, rfl, fun j u hu => by
   rw [hb.cell (by have := ha ad rfl; unfold Addr.add; split <;> exact this)]
   exact h2 j u hu⟩
end Go.Proofs.Ytekiemlniegddaa
namespace Go.Proofs.Ytekiemlniegddaa
open Go Go.RowKit Go.Shelf
/-- A picture in memory. -/
structure PicA where
 p : PicN
 a : Option Addr
 c : Nat
def picCells (x : PicA) : List Value := [.int .i64 x.p.w, .int .i64 x.p.h, .slice x.a x.p.px.length x.c]
def flatC : List PicA → List Value
 | [] => []
 | x :: l => picCells x ++ flatC l
theorem flatC_append : ∀ l k : List PicA, flatC (l ++ k) = flatC l ++ flatC k
 | [], k => rfl
 | x :: l, k => by show picCells x ++ flatC (l ++ k) = picCells x ++ flatC l ++ flatC k; rw [flatC_append l k, List.append_assoc]
theorem flatC_one : ∀ (l : List PicA), ∀ u ∈ flatC l, u.oneCell' = true
 | [], u, h => by cases h
 | x :: l, u, h => by
  rcases List.mem_append.1 (show u ∈ picCells x ++ flatC l from h) with h | h
  ·simp only [picCells, List.mem_cons, List.not_mem_nil, or_false] at h
   rcases h with rfl | rfl | rfl <;> rfl
  ·exact flatC_one l u h
theorem flatC_at : ∀ (l : List PicA) (i : Nat) (x : PicA), l[i]? = some x → ∀ j, j < 3 → (flatC l)[i * 3 + j]? = (picCells x)[j]?
 | [], i, x, h, j, hj => by simp at h
 | y :: l, 0, x, h, j, hj => by
  simp only [List.getElem?_cons_zero, Option.some.injEq] at h
  subst h
  show (picCells y ++ flatC l)[0 * 3 + j]? = _
  rw [List.getElem?_append_left (by show 0 * 3 + j < 3; omega)]
  simp
 | y :: l, i + 1, x, h, j, hj => by
  simp only [List.getElem?_cons_succ] at h
  show (picCells y ++ flatC l)[(i + 1) * 3 + j]? = _
  rw [List.getElem?_append_right (by show 3 ≤ (i + 1) * 3 + j; omega)]
  rw [show (i + 1) * 3 + j - (picCells y).length = i * 3 + j by show (i + 1) * 3 + j - 3 = _; omega]
  exact flatC_at l i x h j hj
/-- The slice at 'a' reads as 'xs', outside of the block 'K'. -/
def RdX (K : Option Nat) (W : World) (a : Option Addr) (c : Nat) (xs : List Int) : Prop := Rd W.heap.size W a xs ∧ (a = none → c = 0) ∧ (xs = [] ∨ ∀ ad, a = some ad → K ≠ some ad.block)
/-- The call's own list of images. -/
def OwnPs (B : Nat) (W : World) (v : Value) (ms : List PicN) : Prop :=
 ∃ l : List PicA, l.map PicA.p = ms ∧ W.ownsRow B 29 3 v l.length (flatC l) ∧ ∀ x ∈ l, RdX v.ownBlock W x.a x.c x.p.px
theorem Rd.rowed {W W' : World} {K : Option Nat} {a : Option Addr} {xs : List Int} (h : Rd W.heap.size W a xs) (hx : xs = [] ∨ ∀ ad, a = some ad → K ≠ some ad.block) (hg : W.grownBy W' K) : Rd W'.heap.size W' a xs := by
 rcases h with h | ⟨b, o, h1, h2, h3⟩
 ·exact .inl h
 ·rcases hx with hx | hx
  ·exact .inl hx
  ·refine .inr ⟨b, o, h1, Nat.lt_of_lt_of_le h2 hg.size, fun i hi => ?_⟩
   rw [World.cell?_of_block (w := W) (hg.block b h2 (fun e => hx _ h1 e.symm))]
   exact h3 i hi
theorem OwnPs.slice {B : Nat} {W : World} {v : Value} {ms : List PicN} (h : OwnPs B W v ms) : ∃ a c, v = .slice a ms.length c ∧ RdPs W.heap.size W a ms := by
 obtain ⟨l, rfl, h2, h3⟩ := h
 obtain ⟨a, c, rfl⟩ := row_slice h2
 refine ⟨a, c, by rw [List.length_map], ?_⟩
 rcases Nat.eq_zero_or_pos l.length with h0 | h0
 ·left; rw [List.eq_nil_of_length_eq_zero h0]; rfl
 right
 rcases h2.2 with ⟨_, he⟩ | ⟨g, cap, cur, he, _⟩
 ·omega
 simp only [Value.slice.injEq] at he
 obtain ⟨rfl, _, rfl⟩ := he
 refine ⟨g, 0, rfl, (h2.lt g rfl).2, fun i hi => ?_⟩
 rw [List.length_map] at hi
 have hx := List.getElem?_eq_getElem hi
 obtain ⟨x, hxe⟩ : ∃ x, l[i] = x := ⟨_, rfl⟩
 rw [hxe] at hx
 have hm : x ∈ l := hxe ▸ List.getElem_mem hi
 have hp : picAt (l.map PicA.p) i = x.p := by unfold picAt; rw [List.getElem?_map, hx]; rfl
 rw [hp]
 have hc := fun j (hj : j < 3) => (h2.cellAt (i * 3 + j) (by omega)).trans (flatC_at l i x hx j hj)
 refine ⟨x.a, x.c, ?_, ?_, ?_, (h3 x hm).1, (h3 x hm).2.1⟩
 ·rw [show 0 + i * 3 = i * 3 + 0 by omega, hc 0 (by omega)]; rfl
 ·rw [show 0 + i * 3 + 1 = i * 3 + 1 by omega, hc 1 (by omega)]; rfl
 ·rw [show 0 + i * 3 + 2 = i * 3 + 2 by omega, hc 2 (by omega)]; rfl
end Go.Proofs.Ytekiemlniegddaa
namespace Go.Proofs.Ytekiemlniegddaa
open Go Go.RowKit Go.Shelf
theorem pwithin (n lo hi : Int) (v : Bool) (hv : inR n lo hi = v) (w : World) :
  Calls Try.prog 38 #[.int .i64 n, .int .i64 lo, .int .i64 hi] w fun e w' => e = .returned (.bool v) ∧ w = w' := by
 subst hv
 unfold inR
 cases h1 : decide (lo ≤ n) <;> cases h2 : decide (n ≤ hi)
 all_goals
  simp only [decide_eq_true_eq, decide_eq_false_iff_not] at h1 h2
  go_enter Try.func38, Try.ntmps38
  go_wp2
  go_ret
  exact ⟨ret_bool (by simp; try omega), rfl⟩
end Go.Proofs.Ytekiemlniegddaa
namespace Go.Proofs.Ytekiemlniegddaa
open Go Go.ChangeShapes Go.WideShapes Go.ChangeAt Go.RowKit Go.Joins Go.Deep
set_option maxRecDepth 100000
section
variable {H : Type} {enc : TypeId × Value → H}
theorem addr_plainP {a : Addr} {k : Nat} {W : World} {v : Value} (h : W.cell? (a.add k) = some v) (hk : k = 0 := by rfl) : ∃ b o, a = ⟨b, o, none⟩ := by
 subst hk
 obtain ⟨b, o, s⟩ := a
 cases s with
 | none => exact ⟨b, o, rfl⟩
 | some s => simpa [Addr.add] using World.cell?_spot h
theorem add_plainP (b o k : Nat) : (⟨b, o, none⟩ : Addr).add k = ⟨b, o + k, none⟩ := by unfold Addr.add; split <;> simp_all
theorem addr_add_add (a : Addr) (i j : Nat) : (a.add i).add j = a.add (i + j) := by
 obtain ⟨b, o, f⟩ := a
 unfold Addr.add
 by_cases hi : i = 0
 ·subst hi; by_cases hj : j = 0 <;> simp [hj]
 ·by_cases hj : j = 0
  ·subst hj; simp [hi]
  ·simp [hi, hj, Nat.add_assoc]
instance : Inhabited StepN := ⟨noStep⟩
instance : Inhabited PicN := ⟨⟨0, 0, []⟩⟩
/-- A slice of ints in a field, its weight not asked. -/
theorem open_rowP {W : World} {fuel : Nat} {v : Value} {y : DataW H × List MemPlace} (h : DataW.trod enc Try.prog W 0 (fun _ => true) true fuel 27 [v] = some y) :
  ∃ (a : Option Addr) (c : Nat) (xs : List Int), v = .slice a xs.length c ∧ Rd W.heap.size W a xs ∧ xs.length ≤ 9223372036854775807 ∧ (a = none → c = 0) := by
 rcases open_ints Try.underlying27 Try.underlying3 (by kernel_rfl) h with ⟨h1, h2⟩ | ⟨a, len, cap, zs, h1, _, hl, hm, hz, hx, hc, hwf⟩
 ·obtain rfl : v = .slice none 0 0 := by simpa using h1
  exact ⟨none, 0, [], rfl, .inl rfl, by decide, fun _ => rfl⟩
 ·obtain rfl : v = .slice (some a) len cap := by simpa using h1
  simp only [if_true] at hz
  have hlen : (zs.take len).length = len := by simp; omega
  refine ⟨some a, cap, zs.take len, by rw [hlen], ?_, by rw [hlen]; unfold maxLen at hm; omega, fun h => by cases h⟩
  by_cases h0 : 0 < zs.length
  ·obtain ⟨b, off, rfl, hcb⟩ := ints_at hc h0
   refine .inr ⟨b, off, rfl, World.block_lt_of_cell? W _ (hcb 0 h0), fun i hi => ?_⟩
   rw [hlen] at hi
   rw [hcb i (by omega)]
   simp only [List.getElem?_take, List.getD]
   rw [if_pos (by omega)]
  ·left
   simp; omega
theorem fieldU8 {W : World} {fuel : Nat} {v : Value} {y : DataW H × List MemPlace} (h : DataW.trod enc Try.prog W 0 (fun _ => true) true fuel 5 [v] = some y) : ∃ n, v = .int .u8 n ∧ 0 ≤ n ∧ n ≤ 255 := by
 obtain ⟨n, e, _, w⟩ := DataW.trod_int Try.underlying5 h
 have hx : 0 ≤ n ∧ n ≤ 255 := by simpa [Lit.wf, IntKind.min, IntKind.max, IntKind.signed, IntKind.bits] using w
 exact ⟨n, by simpa using e, hx.1, hx.2⟩
theorem some_ofP {α : Type} {l : List α} {i : Nat} (h : i < l.length) : ∃ x, l[i]? = some x := ⟨_, List.getElem?_eq_getElem h⟩
theorem open_point5 {W : World} {fuel : Nat} {cs : List Value} {y : DataW H × List MemPlace} (hl : cs.length = 5) (h : DataW.trod enc Try.prog W 0 (fun _ => true) true fuel 69 cs = some y) :
  ∃ p : PointN, cs = [.int .i64 p.mul, .int .i64 p.add, .int .i64 p.div, .int .i64 p.lo, .int .i64 p.hi] ∧ ((Lit.int .i64 p.mul).wf = true ∧ (Lit.int .i64 p.add).wf = true ∧ (Lit.int .i64 p.div).wf = true ∧ (Lit.int .i64 p.lo).wf = true ∧ (Lit.int .i64 p.hi).wf = true) := by
 match cs, hl with
 | [c0, c1, c2, c3, c4], _ =>
  obtain ⟨xs, n, _, _, _, hlen, hg⟩ := DataW.trod_struct Try.underlying69 h
  have hlen' : xs.length = 5 := hlen
  obtain ⟨y0, e0⟩ := some_ofP (l := xs) (i := 0) (by omega)
  have g0 : DataW.trod enc Try.prog W 0 (fun _ => true) true n 3 ((([c0, c1, c2, c3, c4] : List Value).drop 0).take (Try.prog.cellsOf 3)) = xs[0]? := hg 0 _ rfl
  rw [e0, show Try.prog.cellsOf 3 = 1 from by kernel_rfl] at g0
  obtain ⟨y1, e1⟩ := some_ofP (l := xs) (i := 1) (by omega)
  have g1 : DataW.trod enc Try.prog W 0 (fun _ => true) true n 3 ((([c0, c1, c2, c3, c4] : List Value).drop 1).take (Try.prog.cellsOf 3)) = xs[1]? := hg 1 _ rfl
  rw [e1, show Try.prog.cellsOf 3 = 1 from by kernel_rfl] at g1
  obtain ⟨y2, e2⟩ := some_ofP (l := xs) (i := 2) (by omega)
  have g2 : DataW.trod enc Try.prog W 0 (fun _ => true) true n 3 ((([c0, c1, c2, c3, c4] : List Value).drop 2).take (Try.prog.cellsOf 3)) = xs[2]? := hg 2 _ rfl
  rw [e2, show Try.prog.cellsOf 3 = 1 from by kernel_rfl] at g2
  obtain ⟨y3, e3⟩ := some_ofP (l := xs) (i := 3) (by omega)
  have g3 : DataW.trod enc Try.prog W 0 (fun _ => true) true n 3 ((([c0, c1, c2, c3, c4] : List Value).drop 3).take (Try.prog.cellsOf 3)) = xs[3]? := hg 3 _ rfl
  rw [e3, show Try.prog.cellsOf 3 = 1 from by kernel_rfl] at g3
  obtain ⟨y4, e4⟩ := some_ofP (l := xs) (i := 4) (by omega)
  have g4 : DataW.trod enc Try.prog W 0 (fun _ => true) true n 3 ((([c0, c1, c2, c3, c4] : List Value).drop 4).take (Try.prog.cellsOf 3)) = xs[4]? := hg 4 _ rfl
  rw [e4, show Try.prog.cellsOf 3 = 1 from by kernel_rfl] at g4
  obtain ⟨x0, rfl, wx0⟩ := field_int g0
  obtain ⟨x1, rfl, wx1⟩ := field_int g1
  obtain ⟨x2, rfl, wx2⟩ := field_int g2
  obtain ⟨x3, rfl, wx3⟩ := field_int g3
  obtain ⟨x4, rfl, wx4⟩ := field_int g4
  exact ⟨⟨x0, x1, x2, x3, x4⟩, rfl, wx0, wx1, wx2, wx3, wx4⟩
/-- A list of images as a parameter. -/
theorem open_ims {W : World} {base : Nat} {v : Value} {d : DataW H} {p : List MemPlace} (hv : Value.okWide Try.prog W .any base 25 v) (h : DataW.Trod enc Try.prog W 0 (fun _ => true) true 25 v d p) (hwt : ∀ n ∈ d.weights Try.prog 25, n ≤ reachBytes) :
  ∃ (a : Option Addr) (n c : Nat) (ms : List PicN), v = .slice a n c ∧ ms.length = n ∧ RdPs W.heap.size W a ms ∧ n * 40 ≤ 140737488355328 ∧ ∀ i, (picAt ms i).px.length * 8 ≤ 140737488355328 := by
 obtain ⟨a, l, c, rfl⟩ := okWide_slice Try.underlying25 hv
 obtain ⟨fuel, hf⟩ := trod_of h
 rcases open_slice Try.underlying25 hf with ⟨h1, _⟩ | ⟨ad, len, cap, m, n, D, Pl, h1, _, hl, hm, hmm, hx0, hx⟩
 ·simp only [List.cons.injEq, and_true] at h1
  cases h1
  exact ⟨none, 0, 0, [], rfl, rfl, .inl rfl, by decide, fun i => by simp [picAt]⟩
 ·obtain ⟨rfl, rfl, rfl⟩ : some ad = a ∧ len = l ∧ cap = c := by
   simp only [List.cons.injEq, and_true, Value.slice.injEq] at h1
   exact ⟨h1.1.symm, h1.2.1.symm, h1.2.2.symm⟩
  simp only [if_true] at hmm
  subst hmm
  simp only [Prod.mk.injEq] at hx0
  obtain ⟨rfl, _⟩ := hx0
  have hlen40 : len * 40 ≤ 140737488355328 := by
   have := hwt ((((List.range len).map D).length + ((List.range (m - len)).map fun j => D (len + j)).length) * 40) (by
    simp only [DataW.weights, Try.underlying25]
    rw [show Try.prog.bytesOf 29 = 40 from by kernel_rfl]
    exact List.mem_cons_self)
   rw [List.length_map, List.length_map, List.length_range, List.length_range] at this
   unfold reachBytes at this
   omega
  have each : ∀ i, i < m → ∃ q : PicN × (Option Addr × Nat), (∀ j u, ([.int .i64 q.1.w, .int .i64 q.1.h, .slice q.2.1 q.1.px.length q.2.2] : List Value)[j]? = some u → W.cell? (ad.add (i * 3 + j)) = some u) ∧ Rd W.heap.size W q.2.1 q.1.px ∧ (q.2.1 = none → q.2.2 = 0) ∧ (i < len → q.1.px.length * 8 ≤ 140737488355328) := fun i hi => by
   obtain ⟨cs', e1, e2⟩ := hx i hi
   rw [show Try.prog.cellsOf 29 = 3 from by kernel_rfl] at e1
   obtain ⟨_, hlen, hc⟩ := World.cells?_some e1
   have key : ∀ j u, cs'[j]? = some u → W.cell? (ad.add (i * 3 + j)) = some u := fun j u hj => by
    have hj3 : j < 3 := by
     rcases Nat.lt_or_ge j 3 with h | h
     ·exact h
     ·rw [List.getElem?_eq_none (by rw [hlen]; exact h)] at hj; cases hj
    have := hc j hj3
    rw [addr_add_add] at this
    rw [this]; exact hj
   match cs', hlen with
   | [c0, c1, c2], _ =>
    obtain ⟨xs, n', _, hD, _, hlen3', hg⟩ := DataW.trod_struct Try.underlying29 e2
    have hlen3 : xs.length = 3 := hlen3'
    obtain ⟨y0, e0'⟩ := some_ofP (l := xs) (i := 0) (by omega)
    have g0 : DataW.trod enc Try.prog W 0 (fun _ => true) true n' 3 ((([c0, c1, c2] : List Value).drop 0).take (Try.prog.cellsOf 3)) = xs[0]? := hg 0 _ rfl
    rw [e0', show Try.prog.cellsOf 3 = 1 from by kernel_rfl] at g0
    obtain ⟨y1, e1'⟩ := some_ofP (l := xs) (i := 1) (by omega)
    have g1 : DataW.trod enc Try.prog W 0 (fun _ => true) true n' 3 ((([c0, c1, c2] : List Value).drop 1).take (Try.prog.cellsOf 3)) = xs[1]? := hg 1 _ rfl
    rw [e1', show Try.prog.cellsOf 3 = 1 from by kernel_rfl] at g1
    obtain ⟨y2, e2'⟩ := some_ofP (l := xs) (i := 2) (by omega)
    have g2 : DataW.trod enc Try.prog W 0 (fun _ => true) true n' 27 ((([c0, c1, c2] : List Value).drop 2).take (Try.prog.cellsOf 27)) = xs[2]? := hg 2 _ rfl
    rw [e2', show Try.prog.cellsOf 27 = 1 from by kernel_rfl] at g2
    obtain ⟨x0, rfl, _⟩ := field_int g0
    obtain ⟨x1, rfl, _⟩ := field_int g1
    by_cases hil : i < len
    ·obtain ⟨pa, pn, pc, px, rfl, hpn, hpr, hpz, hpm, _⟩ := open_row g2 (fun k hk => hwt k (by
      simp only [DataW.weights, Try.underlying25]
      refine List.mem_cons_of_mem _ (List.mem_append_left _ (mem_weightsAll (d := D i) (List.mem_map.2 ⟨i, List.mem_range.2 hil, rfl⟩) ?_))
      have hDi : D i = .agg (xs.map Prod.fst) := by first | exact congrArg Prod.fst hD | (simpa using congrArg Prod.fst hD)
      rw [hDi]
      simp only [DataW.weights, Try.underlying29]
      exact DataW.weights_mem_each (j := 2) rfl (by rw [List.getElem?_map, e2']; rfl) k hk))
     refine ⟨(⟨x0, x1, px⟩, (pa, pc)), fun j u hj => ?_, hpr, fun e => (hpz.out e).2, fun _ => by rw [hpn.out]; exact hpm⟩
     rw [show px.length = pn from hpn.out] at hj
     exact key j u hj
    ·obtain ⟨pa, pc, px, rfl, hpr, _, hpz⟩ := open_rowP g2
     exact ⟨(⟨x0, x1, px⟩, (pa, pc)), key, hpr, hpz, fun h => absurd h hil⟩
  obtain ⟨q, hq⟩ := choose_lt each
  have hlenq : ((List.range len).map fun i => (q i).1).length = len := by simp
  have hat : ∀ i, i < len → picAt ((List.range len).map fun i => (q i).1) i = (q i).1 := fun i hi => by
   unfold picAt
   rw [List.getElem?_map, List.getElem?_range hi]; rfl
  refine ⟨some ad, len, m, (List.range len).map fun i => (q i).1, rfl, hlenq, ?_, hlen40, fun i => ?_⟩
  ·by_cases h0 : 0 < len
   ·have e0 := (hq 0 (by omega)).1 0 _ rfl
    obtain ⟨b, o, rfl⟩ := addr_plainP e0
    rw [add_plainP] at e0
    refine .inr ⟨b, o, rfl, World.block_lt_of_cell? W _ e0, fun i hi => ?_⟩
    rw [hlenq] at hi
    rw [hat i hi]
    obtain ⟨f1, f2, f3, _⟩ := hq i (by omega)
    have c0 := f1 0 _ rfl
    have c1 := f1 1 _ rfl
    have c2 := f1 2 _ rfl
    rw [add_plainP, ← Nat.add_assoc] at c0 c1 c2
    exact ⟨(q i).2.1, (q i).2.2, c0, c1, c2, f2, f3⟩
   ·left
    have : len = 0 := by omega
    subst this; rfl
  ·by_cases hi : i < len
   ·rw [hat i hi]; exact (hq i (by omega)).2.2.2 hi
   ·unfold picAt; rw [List.getElem?_eq_none (by rw [hlenq]; omega)]; simp
end
end Go.Proofs.Ytekiemlniegddaa
namespace Go.Proofs.Ytekiemlniegddaa
open Go Go.RowKit Go.Shelf
abbrev FnL := Int → Option Lit
end Go.Proofs.Ytekiemlniegddaa
namespace Go.Proofs.Ytekiemlniegddaa
open Go Go.RowKit Go.Shelf
structure InsN where
 op : Int
 d : Int
 a : Int
 b : Int
 val : Int
 pt : PointN
 how : Int
 ad : List Int
def noPt : PointN := ⟨0, 0, 0, 0, 0⟩
structure VecN where
 lanes : Int
 regs : Int
 mem : Int
structure CodeN where
 w : Int
 h : Int
 inp : List Int
 out : Int
 ins : List InsN
def vecB (v : VecN) : Bool := inR v.lanes 1 16 && (inR v.regs 2 16 && inR v.mem 1 8192)
/-- An address, or -1, for each lane. -/
def adrB (v : VecN) (l : List Int) : Bool := decide ((l.length : Int) = v.lanes) && l.all (fun x => inR x (-1) (v.mem - 1))
/-- An instruction is valid. -/
def insB (v : VecN) (x : InsN) : Bool :=
 if x.op = 1 then inR x.d 0 (v.regs - 1) && (inR x.val (-2147483648) 2147483648 && adrB v x.ad)
 else if x.op = 2 then inR x.a 0 (v.regs - 1) && adrB v x.ad
 else if x.op = 3 then inR x.d 0 (v.regs - 1) && inR x.val (-2147483648) 2147483648
 else if x.op = 4 then inR x.d 0 (v.regs - 1) && (inR x.a 0 (v.regs - 1) && x.pt.ok)
 else if x.op = 5 then inR x.d 0 (v.regs - 1) && (inR x.a 0 (v.regs - 1) && (inR x.b 0 (v.regs - 1) && inR x.how 1 6))
 else if x.op = 6 then inR x.d 0 (v.regs - 1) && (inR x.a 0 (v.regs - 1) && inR x.val (-65536) 65536)
 else false
def codeB (v : VecN) (c : CodeN) : Bool :=
 (inR c.w 1 16 && inR c.h 1 16) && (decide (c.inp.length ≤ 3) && (decide (c.ins.length ≤ 200000) && (inR c.out 0 (v.mem - c.w * c.h) && (c.inp.all (fun x => decide (x = -1) || inR x 0 (v.mem - c.w * c.h)) && c.ins.all (insB v)))))
def chkS (v : VecN) (c : CodeN) : Int := if vecB v = true then (if codeB v c = true then 0 else 32) else 31
structure MacN where
 regs : Nat → Nat → Int
 mem : Nat → Int
def pix (v : Int) : Int := clamp v (-2147483648) 2147483648
def wide (v : Int) : Int := clamp v (-1152921504606846976) 1152921504606846976
def setR (M : MacN) (d : Nat) (f : Nat → Int) : MacN := ⟨fun r => if r = d then f else M.regs r, M.mem⟩
/-- The values of some lanes are stored. -/
def stoM (ad : Nat → Int) (v : Nat → Int) (mem : Nat → Int) : Nat → Nat → Int
 | 0 => mem
 | k + 1 => fun i => if 0 ≤ ad k ∧ (i : Int) = ad k then v k else stoM ad v mem k i
def adOf (x : InsN) (j : Nat) : Int := x.ad[j]?.getD 0
/-- What an instruction does. -/
def stepM (lanes : Nat) (x : InsN) (M : MacN) : MacN :=
 if x.op = 1 then setR M x.d.toNat (fun j => if 0 ≤ adOf x j then M.mem (adOf x j).toNat else x.val)
 else if x.op = 2 then ⟨M.regs, stoM (adOf x) (fun j => pix (M.regs x.a.toNat j)) M.mem lanes⟩
 else if x.op = 3 then setR M x.d.toNat (fun _ => x.val)
 else if x.op = 4 then setR M x.d.toNat (fun j => pix (pointF x.pt (pix (M.regs x.a.toNat j))))
 else if x.op = 5 then setR M x.d.toNat (fun j => pix (zipF x.how (pix (M.regs x.a.toNat j)) (pix (M.regs x.b.toNat j))))
 else if x.op = 6 then setR M x.d.toNat (fun j => wide (M.regs x.d.toNat j + x.val * pix (M.regs x.a.toNat j)))
 else M
def runM (lanes : Nat) (l : List InsN) (M : MacN) : MacN := l.foldl (fun M x => stepM lanes x M) M
theorem runM_app (lanes : Nat) (l k : List InsN) (M : MacN) : runM lanes (l ++ k) M = runM lanes k (runM lanes l M) := by unfold runM; rw [List.foldl_append]
theorem runM_cons (lanes : Nat) (x : InsN) (l : List InsN) (M : MacN) : runM lanes (x :: l) M = runM lanes l (stepM lanes x M) := rfl
theorem runM_nil (lanes : Nat) (M : MacN) : runM lanes [] M = M := rfl
/-- Memory behind the images that are placed: image i at ats i, if that is an address. -/
def putImg (at_ : Int) (xs : List Int) (mem : Nat → Int) : Nat → Int := fun i => if 0 ≤ at_ ∧ at_ ≤ (i : Int) ∧ (i : Int) < at_ + xs.length then px xs ((i : Int) - at_) else mem i
def memN (ats : List Int) (ms : List PicN) : Nat → Nat → Int
 | 0 => fun _ => 0
 | k + 1 => putImg (ats[k]?.getD 0) (picAt ms k).px (memN ats ms k)
def mac0 (c : CodeN) (ms : List PicN) : MacN := ⟨fun _ _ => 0, memN c.inp ms c.inp.length⟩
def outN (M : MacN) (from_ : Int) (n : Nat) : List Int := (List.range n).map fun i => M.mem (from_.toNat + i)
def runS (v : VecN) (c : CodeN) (ms : List PicN) : ImR :=
 if chkS v c = 0 then (if givenB ms c.inp.length c.w c.h = true then { w := c.w, h := c.h, px := outN (runM v.lanes.toNat c.ins (mac0 c ms)) c.out (c.w.toNat * c.h.toNat), err := 0 } else noIm 2) else noIm (chkS v c)
section
variable (w h : Int) (lanes g : Nat)
end
end Go.Proofs.Ytekiemlniegddaa
namespace Go.Proofs.Ytekiemlniegddaa
open Go Go.RowKit Go.Shelf
section
variable {w h : Int} {lanes g j n : Nat} {M : MacN}
end
theorem pix_bd (v : Int) : -2147483648 ≤ pix v ∧ pix v ≤ 2147483648 := clamp_bd v
section
variable {w h : Int} {lanes g j n : Nat}
end
end Go.Proofs.Ytekiemlniegddaa
namespace Go.Proofs.Ytekiemlniegddaa
open Go Go.RowKit Go.Shelf
/-- The image is valid and of the size. -/
def fitP (w h : Int) (m : PicN) : Bool := vld m.w m.h m.px && (decide (m.w = w) && decide (m.h = h))
theorem any_not_all {ms : List PicN} {p : PicN → Bool} : (ms.any fun m => !p m) = !ms.all p := by
 induction ms with
 | nil => rfl
 | cons a l ih => simp [ih, Bool.not_and]
set_option maxRecDepth 100000 in
set_option maxHeartbeats 4000000 in
theorem fit1_any (m : PicN) (pa : Option Addr) (pc n : Nat) (hn : Hid (m.px.length = n)) (W H : Int) (bw bh : Nat) (w : World) (kw : Blk w bw 3 #[.int .i64 W]) (kh : Blk w bh 3 #[.int .i64 H]) (hm : n ≤ 9223372036854775807) (hr : Rd w.heap.size w pa m.px) :
  Calls Try.prog 68 #[imv m.w m.h pa n pc, .pointer (some ⟨bw, 0, none⟩), .pointer (some ⟨bh, 0, none⟩)] w fun e w' => e = .returned (.bool (!fitP W H m)) ∧ Below w.heap.size w w' := by
 have hB : Below w.heap.size w w := Below.refl _ _
 unfold fitP
 obtain ⟨iw, ih, xs⟩ := m
 simp only at hn hr ⊢
 obtain ⟨v0, hv0⟩ : ∃ v, vld iw ih xs = v := ⟨_, rfl⟩
 have hvH := Lib.hid hv0
 rw [hv0]
 clear hv0
 have x0 := kw.cell (i := 0) rfl
 have y0 := kh.cell (i := 0) rfl
 obtain ⟨V1, hEV1, hbV1, k3⟩ := newB w 29 #[.int .i64 iw, .int .i64 ih, .slice pa n pc]
 clear x0 y0
 replace kw := kw.below hbV1 kw.lt
 replace kh := kh.below hbV1 kh.lt
 replace hr := later_i hr hbV1
 replace hB := tmB hB hbV1
 clear hbV1
 have x0 := kw.cell (i := 0) rfl
 have y0 := kh.cell (i := 0) rfl
 obtain ⟨m0, m1, m2⟩ := cz3 k3
 go_enter Try.func68, Try.ntmps68
 go_wp2_with fail
 clear hEV1
 refine (Check_any iw ih pa pc n xs hn v0 hvH.out V1 hm hr).mono ?_
 rintro e V2 ⟨rfl, hb⟩
 clear x0 y0 m0 m1 m2
 replace kw := kw.below hb kw.lt
 replace kh := kh.below hb kh.lt
 replace k3 := k3.below hb k3.lt
 replace hr := later_i hr hb
 replace hB := tmB hB hb
 clear hb
 have x0 := kw.cell (i := 0) rfl
 have y0 := kh.cell (i := 0) rfl
 obtain ⟨m0, m1, m2⟩ := cz3 k3
 cases v0 with
 | false =>
  go_wp2_with fail
  go_ret
  exact ⟨ret_bool (by simp), hB⟩
 | true =>
  by_cases e1 : iw = W
  case neg =>
   have f1 : (iw != W) = true := by simp [e1]
   go_wp2_with fail
   go_ret
   exact ⟨ret_bool (by simp [e1]), hB⟩
  case pos =>
   have f1 : (iw != W) = false := by simp [e1]
   by_cases e2 : ih = H
   case neg =>
    have f2 : (ih != H) = true := by simp [e2]
    have e1H := Lib.hid e1
    clear e1
    go_wp2_with fail
    go_ret
    exact ⟨ret_bool (by simp [e1H.out, e2]), hB⟩
   case pos =>
    have f2 : (ih != H) = false := by simp [e2]
    have e1H := Lib.hid e1
    have e2H := Lib.hid e2
    clear e1 e2
    go_wp2_with fail
    go_ret
    exact ⟨ret_bool (by simp [e1H.out, e2H.out]), hB⟩
set_option maxRecDepth 100000 in
set_option maxHeartbeats 4000000 in
theorem IndexP_any (p : PicN → Bool) (fo : Nat) (lb : Array Value) (eg : ∀ args w, (callFunc fo args).run Try.prog w = .ok (.enter fo args) w) (ms : List PicN) (a : Option Addr) (c n : Nat) (hn : ms.length = n) (hm : n ≤ 9223372036854775807) (w : World) (hr : RdPs w.heap.size w a ms)
  (hof : ∀ i, i < n → ∀ (W : World) (pa : Option Addr) (pc : Nat), Below w.heap.size w W → Rd W.heap.size W pa (picAt ms i).px → Calls Try.prog fo (#[imv (picAt ms i).w (picAt ms i).h pa (picAt ms i).px.length pc] ++ lb) W fun e W' => e = .returned (.bool (p (picAt ms i))) ∧ Below W.heap.size W W') :
  Calls Try.prog 103 #[.slice a n c, .func (.func fo) #[] lb] w fun e w' => (∃ k : Int, e = .returned (.int .i64 k) ∧ decide (0 ≤ k) = ms.any p) ∧ Below w.heap.size w w' := by
 have hnH := Lib.hid hn
 have hofH := Lib.hid hof
 clear hn hof
 go_enter Try.func103, Try.ntmps103
 go_wp2
 go_loopw [5, 8] (fun v i wr => ∃ k : Nat, k ≤ n ∧ i = .int .i64 k ∧ Hid ((ms.take k).any p = false) ∧ Below w.heap.size w wr) (fun _ i _ => n - (intOf i).toNat)
 case atStart => exact ⟨0, Nat.zero_le _, rfl, Lib.hid (by simp), Below.refl _ _⟩
 case round =>
  obtain ⟨k, hk, rfl, hall, hB⟩ := hrel
  by_cases hlt : k < n
  ·have hlt' : k < ms.length := by have := hnH.out; omega
   obtain ⟨b, o, rfl, hbl, pa, pc, p0, p1, p2, rA, _⟩ := hr.at hlt'
   have c0 := (hB.cell (p := ⟨b, o + k * 3, none⟩) hbl).trans p0
   have c1 := (hB.cell (p := ⟨b, o + k * 3 + 1, none⟩) hbl).trans p1
   have c2 := (hB.cell (p := ⟨b, o + k * 3 + 2, none⟩) hbl).trans p2
   have hcall := hofH.out k hlt wr pa pc hB (later_i rA hB)
   have hpk : (ms.take (k + 1)).any p = ((ms.take k).any p || p (picAt ms k)) := by
    rw [List.take_succ_eq_append_getElem hlt', List.any_append]; unfold picAt; rw [List.getElem?_eq_getElem hlt']; simp
   have hhit : p (picAt ms k) = true → ms.any p = true := fun h => by
    unfold picAt at h; rw [List.getElem?_eq_getElem hlt'] at h
    exact List.any_eq_true.2 ⟨_, List.getElem_mem hlt', h⟩
   obtain ⟨pk, hpe⟩ : ∃ v, p (picAt ms k) = v := ⟨_, rfl⟩
   rw [hpe] at hcall hpk hhit
   rw [hall.out, Bool.false_or] at hpk
   have hpkH := Lib.hid hpk
   have hhitH := Lib.hid hhit
   have hcallH := Lib.hid hcall
   clear p0 p1 p2 hpe hpk hhit rA hcall
   cases pk with
   | true =>
    go_wp2_with (go_at_fn fo; refine hcallH.out.mono ?_; rintro e w2 ⟨rfl, hb2⟩)
    go_ret
    exact ⟨⟨_, rfl, by rw [hhitH.out trivial]; simp⟩, hB.trans (hb2.mono hB.size)⟩
   | false =>
    go_wp2_with (go_at_fn fo; refine hcallH.out.mono ?_; rintro e w2 ⟨rfl, hb2⟩)
    go_roundw
    case rel => exact ⟨k + 1, by omega, by go_num, Lib.hid hpkH.out, hB.trans (hb2.mono hB.size)⟩
    case measure => simp [intOf]; omega
  ·go_wp2
   go_ret
   have hall2 := hall.out
   rw [List.take_of_length_le (by have := hnH.out; omega)] at hall2
   exact ⟨⟨_, rfl, by rw [hall2]; rfl⟩, hB⟩
set_option maxRecDepth 100000 in
set_option maxHeartbeats 1000000 in
theorem ContainsP_any (p : PicN → Bool) (fo : Nat) (lb : Array Value) (eg : ∀ args w, (callFunc fo args).run Try.prog w = .ok (.enter fo args) w) (ms : List PicN) (a : Option Addr) (c n : Nat) (hn : ms.length = n) (hm : n ≤ 9223372036854775807) (w : World) (hr : RdPs w.heap.size w a ms)
  (hof : ∀ i, i < n → ∀ (W : World) (pa : Option Addr) (pc : Nat), Below w.heap.size w W → Rd W.heap.size W pa (picAt ms i).px → Calls Try.prog fo (#[imv (picAt ms i).w (picAt ms i).h pa (picAt ms i).px.length pc] ++ lb) W fun e W' => e = .returned (.bool (p (picAt ms i))) ∧ Below W.heap.size W W') :
  Calls Try.prog 67 #[.slice a n c, .func (.func fo) #[] lb] w fun e w' => e = .returned (.bool (ms.any p)) ∧ Below w.heap.size w w' := by
 have hc := IndexP_any p fo lb eg ms a c n hn hm w hr hof
 clear hof eg
 go_enter Try.func67, Try.ntmps67
 go_wp2_with (go_at_call 103; refine hc.mono ?_; rintro e w' ⟨⟨k, rfl, hk⟩, hb⟩)
 all_goals go_ret
 all_goals exact ⟨ret_bool (by rw [← hk]), hb⟩
theorem enters_fit1 : ∀ args w, (callFunc 68 args).run Try.prog w = .ok (.enter 68 args) w := enters_of Try.func68 (by kernel_rfl) rfl
set_option maxRecDepth 100000 in
set_option maxHeartbeats 4000000 in
theorem fit_any (ms : List PicN) (a : Option Addr) (c n : Nat) (hn : ms.length = n) (hm : n ≤ 9223372036854775807) (hpl : ∀ i, i < n → (picAt ms i).px.length ≤ 9223372036854775807) (N W H : Int) (w : World) (hr : RdPs w.heap.size w a ms) :
  Calls Try.prog 31 #[.slice a n c, .int .i64 N, .int .i64 W, .int .i64 H] w fun e w' => e = .returned (.bool (givenB ms N W H)) ∧ Below w.heap.size w w' := by
 have hB : Below w.heap.size w w := Below.refl _ _
 have hnH := Lib.hid hn
 have hplH := Lib.hid hpl
 clear hn hpl
 unfold givenB
 obtain ⟨V1, hEV1, hbV1, kw⟩ := newB w 3 #[.int .i64 W]
 replace hr := hr.later hbV1
 replace hB := tmB hB hbV1
 clear hbV1
 have x0 := kw.cell (i := 0) rfl
 obtain ⟨V2, hEV2, hbV2, kh⟩ := newB V1 3 #[.int .i64 H]
 clear x0
 replace kw := kw.below hbV2 kw.lt
 replace hr := hr.later hbV2
 replace hB := tmB hB hbV2
 clear hbV2
 have x0 := kw.cell (i := 0) rfl
 have y0 := kh.cell (i := 0) rfl
 by_cases hc : (n : Int) = N
 case neg =>
  have f1 : ((n : Int) == N) = false := by simp [hc]
  have hcH := Lib.hid hc
  clear hc
  go_enter Try.func31, Try.ntmps31
  go_wp2_with fail
  go_ret
  exact ⟨ret_bool (by rw [hnH.out]; simp [hcH.out]), hB⟩
 case pos =>
  have f1 : ((n : Int) == N) = true := by simp [hc]
  have hcH := Lib.hid hc
  clear hc
  have hcall := ContainsP_any (fun m => !fitP W H m) 68 #[.pointer (some ⟨w.heap.size, 0, none⟩), .pointer (some ⟨V1.heap.size, 0, none⟩)] enters_fit1 ms a c n hnH.out hm V2 hr (fun i hi X pa pc hb hrd => fit1_any (picAt ms i) pa pc _ (Lib.hid rfl) W H _ _ X (kw.below hb kw.lt) (kh.below hb kh.lt) (hplH.out i hi) hrd)
  go_enter Try.func31, Try.ntmps31
  go_wp2_with (go_at_call 67; refine hcall.mono ?_; rintro e w' ⟨rfl, hb⟩)
  go_ret
  exact ⟨ret_bool (by rw [any_not_all, hnH.out]; simp [hcH.out]; rfl), hB.trans (hb.mono hB.size)⟩
end Go.Proofs.Ytekiemlniegddaa
namespace Go.Proofs.Ytekiemlniegddaa
open Go Go.RowKit Go.Shelf
theorem info_pic : (Try.prog.info? 29).map (fun i => (i.zero, i.size, i.bytes)) = some (some (.agg #[.int .i64 0, .int .i64 0, .slice none 0 0]), 3, 40) := by kernel_rfl
theorem wpList_append_anyS {P : Program} {w : World} {ops : Array Oper} {rest : List Oper} {o : Oper} {act : Act} {Q : Exit → Act → World → Prop} (hgd : o.guard = none) (s x : Operand) (t : TypeId)
  (ho : o.op = .call { callee := .builtin .append, args := #[s, x], argTypes := #[t, t] })
  (base : Nat) (e : TypeId) (i : TypeInfo) (z : Value) (size bytes : Nat) (ht : P.underlying t = some (.slice e)) (hi : P.info? e = some i) (hz : i.zero = some z)
  (hsize : i.size = size) (hby : i.bytes = bytes) (hzs : z.cells.size = size) (hsz : 0 < size)
  (v : Value) (n : Nat) (xs : List Value) (hs : act.eval s = v) (hown : w.ownsRow base e size v n xs)
  (a : Option Addr) (m c : Nat) (news : List Value) (hx : act.eval x = .slice a m c) (hl : news.length = m * size) (hnews : NewsAt w a m news) (h1 : ∀ u ∈ news, u.oneCell' = true)
  (h63 : n + m ≤ maxLen) (hbytes : (n + m) * bytes ≤ 140737488355328) (hbase : base ≤ w.heap.size)
  (h : ∀ v' w', w'.ownsRow base e size v' (n + m) (xs ++ news) → w.grownBy w' v.ownBlock → (v'.ownBlock = v.ownBlock ∨ v'.ownBlock = some w.heap.size) → wpList P ops Q rest (act.put o.dst v') w') :
  wpList P ops Q (o :: rest) act w := by
 rcases hnews with ⟨rfl, rfl⟩ | ⟨ad, rfl, hc⟩
 ·obtain rfl : news = [] := List.eq_nil_of_length_eq_zero (by omega)
  refine wpList_plain hgd fun K hK => ?_
  have hrun := run_append_none0 (P := P) (w := w) base t o.type e i size ht hi v n xs hown c
  unfold Oper.wp
  simp [execOp, ho, resolve, invoke, builtin, hs, hx, hrun, Result.andThen]
  exact hK _ _ (h v w (by simpa using hown) (grownBy_self _ _) (.inl rfl))
 ·exact wpList_append_own_at w hgd s x t ho base e i z size bytes ht hi hz hsize hby hzs hsz v n xs hs hown ad m c news hx (by omega) hc h1 h63 hbytes hbase (fun v' w' g1 g2 g3 g4 => h v' w' g1 g2 g4)
/-- The block's cells, as what an append takes. -/
theorem NewsAt.blk {W : World} {b : Nat} {t : TypeId} {cs : Array Value} (k : Blk W b t cs) (m : Nat) : NewsAt W (some ⟨b, 0, none⟩) m cs.toList := .inr ⟨_, rfl, fun j u hu => by
 rw [addr_add, Nat.zero_add]
 exact k.cell (by rw [← Array.getElem?_toList]; exact hu)⟩
theorem givenB_len {ms : List PicN} {n w h : Int} (hg : givenB ms n w h = true) : (ms.length : Int) = n := by
 unfold givenB at hg
 rw [Bool.and_eq_true, decide_eq_true_eq] at hg
 exact hg.1
theorem row_someP {W : World} {base : Nat} {e : TypeId} {size : Nat} {a : Option Addr} {n c : Nat} {xs : List Value} (h : W.ownsRow base e size (.slice a n c) n xs) (hn : 0 < n) : ∃ g, a = some ⟨g, 0, none⟩ := by
 rcases h.2 with ⟨h1, h2⟩ | ⟨g, cap, cur, h1, _⟩
 ·omega
 ·simp only [Value.slice.injEq, true_and] at h1
  exact ⟨g, h1.1⟩
/-- Own images: a list in memory, its last one (if any has come) a row of its own. -/
structure OwnA (B : Nat) (W : World) (v : Value) (l : List PicA) : Prop where
 row : W.ownsRow B 29 3 v l.length (flatC l)
 rd : ∀ x ∈ l, RdX v.ownBlock W x.a x.c x.p.px
theorem OwnA.ps {B : Nat} {W : World} {v : Value} {l : List PicA} (h : OwnA B W v l) : OwnPs B W v (l.map PicA.p) := ⟨l, rfl, h.row, h.rd⟩
theorem OwnA.push {B : Nat} {W W' : World} {v v' : Value} {l : List PicA} {x : PicA} (h3 : ∀ x ∈ l, RdX v.ownBlock W x.a x.c x.p.px)
  (hx : Rd W.heap.size W x.a x.p.px) (hxc : x.a = none → x.c = 0) (hx2 : x.p.px = [] ∨ ∀ ad, x.a = some ad → v.ownBlock ≠ some ad.block)
  (hrow : W'.ownsRow B 29 3 v' (l.length + 1) (flatC l ++ picCells x)) (hg : W.grownBy W' v.ownBlock) (hat : v'.ownBlock = v.ownBlock ∨ v'.ownBlock = some W.heap.size) :
  OwnA B W' v' (l ++ [x]) := by
 have key : ∀ a c xs, RdX v.ownBlock W a c xs → RdX v'.ownBlock W' a c xs := fun a c xs h => by
  refine ⟨Rd.rowed h.1 h.2.2 hg, h.2.1, ?_⟩
  rcases hat with e | e
  ·rw [e]; exact h.2.2
  ·rw [e]
   rcases h.1 with hn | ⟨b, o, h1, h2, _⟩
   ·exact .inl hn
   ·right; intro ad had he; rw [h1] at had; cases had; simp at he; omega
 refine ⟨?_, fun y hy => ?_⟩
 ·rw [List.length_append, List.length_singleton, flatC_append]
  show W'.ownsRow B _ 3 v' (l.length + 1) (flatC l ++ (picCells x ++ []))
  rw [List.append_nil]; exact hrow
 ·rcases List.mem_append.1 hy with hy | hy
  ·exact key _ _ _ (h3 y hy)
  ·rw [List.mem_singleton.1 hy]; exact key _ _ _ ⟨hx, hxc, hx2⟩
end Go.Proofs.Ytekiemlniegddaa
namespace Go.Proofs.Ytekiemlniegddaa
open Go Go.RowKit Go.Shelf
/-- The cells of an instruction. -/
def insCells (x : InsN) (a : Option Addr) (c : Nat) : List Value :=
 [.int .u8 x.op, .int .i64 x.d, .int .i64 x.a, .int .i64 x.b, .int .i64 x.val, .int .i64 x.pt.mul, .int .i64 x.pt.add, .int .i64 x.pt.div, .int .i64 x.pt.lo, .int .i64 x.pt.hi, .int .u8 x.how, .slice a x.ad.length c]
abbrev insv (x : InsN) (a : Option Addr) (c : Nat) : Value := .agg #[.int .u8 x.op, .int .i64 x.d, .int .i64 x.a, .int .i64 x.b, .int .i64 x.val, .int .i64 x.pt.mul, .int .i64 x.pt.add, .int .i64 x.pt.div, .int .i64 x.pt.lo, .int .i64 x.pt.hi, .int .u8 x.how, .slice a x.ad.length c]
/-- What an instruction's numbers are, as they came in. -/
structure InsIn (x : InsN) : Prop where
 op : 0 ≤ x.op ∧ x.op ≤ 255
 how : 0 ≤ x.how ∧ x.how ≤ 255
 al : x.ad.length ≤ 9223372036854775807
def noIns : InsN := ⟨0, 0, 0, 0, 0, noPt, 0, []⟩
def insAt (l : List InsN) (i : Nat) : InsN := l[i]?.getD noIns
structure InAt (B : Nat) (W : World) (b o : Nat) (x : InsN) (a : Option Addr) (c : Nat) : Prop where
 cell : ∀ j v, (insCells x a c)[j]? = some v → W.cell? ⟨b, o + j, none⟩ = some v
 ad : Rd B W a x.ad
theorem InAt.below {B B' : Nat} {W W' : World} {b o : Nat} {x : InsN} {a : Option Addr} {c : Nat} (h : InAt B W b o x a c) (hbB : b < B') (hB : B ≤ B') (hb : Below B' W W') : InAt B W' b o x a c :=
 ⟨fun j v hv => (hb.cell (p := ⟨b, o + j, none⟩) hbB).trans (h.cell j v hv), h.ad.below hB hb⟩
/-- The slice at 'a' reads as the instructions 'xs'. -/
def RdCs (B : Nat) (W : World) (a : Option Addr) (xs : List InsN) : Prop :=
 xs = [] ∨ ∃ b o, a = some ⟨b, o, none⟩ ∧ b < B ∧ ∀ i, i < xs.length → ∃ ia ic, InAt B W b (o + i * 12) (insAt xs i) ia ic
theorem RdCs.below {B B' : Nat} {W W' : World} {a : Option Addr} {xs : List InsN} (h : RdCs B W a xs) (hB : B ≤ B') (hb : Below B' W W') : RdCs B W' a xs := by
 rcases h with h | ⟨b, o, h1, h2, h3⟩
 ·exact .inl h
 ·refine .inr ⟨b, o, h1, h2, fun i hi => ?_⟩
  obtain ⟨ia, ic, e⟩ := h3 i hi
  exact ⟨ia, ic, e.below (by omega) hB hb⟩
theorem RdCs.mono {B B' : Nat} {W : World} {a : Option Addr} {xs : List InsN} (h : RdCs B W a xs) (hB : B ≤ B') : RdCs B' W a xs := by
 rcases h with h | ⟨b, o, h1, h2, h3⟩
 ·exact .inl h
 ·refine .inr ⟨b, o, h1, by omega, fun i hi => ?_⟩
  obtain ⟨ia, ic, e⟩ := h3 i hi
  exact ⟨ia, ic, e.cell, e.ad.mono hB⟩
theorem RdCs.later {W W' : World} {a : Option Addr} {xs : List InsN} (h : RdCs W.heap.size W a xs) (hb : Below W.heap.size W W') : RdCs W'.heap.size W' a xs := (h.below (Nat.le_refl _) hb).mono hb.size
def intL (n : Nat) (f : Nat → Int) : List Value := (List.range n).map fun j => .int .i64 (f j)
theorem intL_len (n : Nat) (f : Nat → Int) : (intL n f).length = n := by simp [intL]
theorem intL_at {n j : Nat} {f : Nat → Int} (h : j < n) : (intL n f)[j]? = some (.int .i64 (f j)) := by unfold intL; rw [List.getElem?_map, List.getElem?_range h]; rfl
theorem intL_set {n j : Nat} {f : Nat → Int} (v : Int) : (intL n f).set j (.int .i64 v) = intL n (fun i => if i = j then v else f i) := by
 refine List.ext_getElem? fun i => ?_
 rw [List.getElem?_set]
 by_cases h : i < n
 ·rw [intL_at h]
  by_cases e : j = i
  ·subst e; rw [if_pos rfl, if_pos (by rw [intL_len]; exact h), intL_at h]; simp
  ·rw [if_neg e, intL_at h, if_neg (fun e2 => e e2.symm)]
 ·rw [List.getElem?_eq_none (show (intL n (fun i => if i = j then v else f i)).length ≤ i by rw [intL_len]; omega)]
  by_cases e : j = i
  ·rw [if_pos e, if_neg (by rw [intL_len]; omega)]
  ·rw [if_neg e, List.getElem?_eq_none (by rw [intL_len]; omega)]
theorem intL_congr {n : Nat} {f g : Nat → Int} (h : ∀ j, j < n → f j = g j) : intL n f = intL n g := by
 unfold intL; exact List.map_congr_left fun j hj => by rw [h j (List.mem_range.1 hj)]
theorem intL_map (n : Nat) (f : Nat → Int) : ((List.range n).map f).map (Value.int .i64) = intL n f := by unfold intL; rw [List.map_map]; rfl
abbrev srow (g n c : Nat) : Value := .slice (some ⟨g, 0, none⟩) n c
def rowsL (R lanes : Nat) (G C : Nat → Nat) : List Value := (List.range R).map fun r => srow (G r) lanes (C r)
theorem rowsL_at {R lanes r : Nat} {G C : Nat → Nat} (h : r < R) : (rowsL R lanes G C)[r]? = some (srow (G r) lanes (C r)) := by unfold rowsL; rw [List.getElem?_map, List.getElem?_range h]; rfl
theorem rowsL_len (R lanes : Nat) (G C : Nat → Nat) : (rowsL R lanes G C).length = R := by simp [rowsL]
theorem rowsL_set {R lanes d : Nat} {G C : Nat → Nat} (g c : Nat) : (rowsL R lanes G C).set d (srow g lanes c) = rowsL R lanes (fun r => if r = d then g else G r) (fun r => if r = d then c else C r) := by
 refine List.ext_getElem? fun i => ?_
 rw [List.getElem?_set]
 by_cases h : i < R
 ·rw [rowsL_at h]
  by_cases e : d = i
  ·subst e; rw [if_pos rfl, if_pos (by rw [rowsL_len]; exact h), rowsL_at h]; simp
  ·rw [if_neg e, rowsL_at h, if_neg (fun e2 => e e2.symm), if_neg (fun e2 => e e2.symm)]
 ·rw [List.getElem?_eq_none (show (rowsL R lanes (fun r => if r = d then g else G r) (fun r => if r = d then c else C r)).length ≤ i by rw [rowsL_len]; omega)]
  by_cases e : d = i
  ·rw [if_pos e, if_neg (by rw [rowsL_len]; omega)]
  ·rw [if_neg e, List.getElem?_eq_none (by rw [rowsL_len]; omega)]
/-- The table of the operations: it lies behind the machine, at the block that C tells of behind the registers (if it is there). -/
abbrev tabC : Array Value := #[.bool false, .bool false, .bool false, .bool false, .int .i64 0, .nilFunc, .bool true, .bool false, .bool false, .bool true, .int .i64 2147483648, .func (.func 78) #[] #[], .bool false, .bool true, .bool false, .bool true, .int .i64 0, .func (.func 79) #[] #[], .bool true, .bool false, .bool false, .bool false, .int .i64 2147483648, .func (.func 80) #[] #[], .bool true, .bool true, .bool false, .bool false, .int .i64 0, .func (.func 81) #[] #[], .bool true, .bool true, .bool true, .bool false, .int .i64 0, .func (.func 82) #[] #[], .bool true, .bool true, .bool false, .bool false, .int .i64 65536, .func (.func 83) #[] #[]]
/-- A machine at work, in memory: its block, the row of its registers, each register's row, its memory's row. -/
structure MacAt (B : Nat) (W : World) (bm lanes R N : Nat) (M : MacN) (gr gm cr cm : Nat) (G C : Nat → Nat) : Prop where
 m : Blk W bm 88 #[.int .i64 (lanes : Int), srow gr R cr, srow gm N cm]
 rr : W.ownsRow B 27 1 (srow gr R cr) R (rowsL R lanes G C)
 rg : ∀ r, r < R → W.ownsRow B 3 1 (srow (G r) lanes (C r)) lanes (intL lanes (M.regs r))
 mm : W.ownsRow B 3 1 (srow gm N cm) N (intL N M.mem)
 inj : ∀ r s, r < R → s < R → G r = G s → r = s
 ne : ∀ r, r < R → G r ≠ gm
 hb : B ≤ bm
 gs : C R ≠ 0 → Blk W (C R) 92 tabC
theorem MacAt.later {B : Nat} {W W' : World} {bm lanes R N : Nat} {M : MacN} {gr gm cr cm : Nat} {G C : Nat → Nat} (h : MacAt B W bm lanes R N M gr gm cr cm G C) (hb : Below W.heap.size W W') : MacAt B W' bm lanes R N M gr gm cr cm G C :=
 ⟨h.m.below hb h.m.lt, row_below h.rr hb, fun r hr => row_below (h.rg r hr) hb, row_below h.mm hb, h.inj, h.ne, h.hb, fun h0 => (h.gs h0).below hb (h.gs h0).lt⟩
theorem srow_block {W : World} {B : Nat} {e : TypeId} {size g n c k : Nat} {xs : List Value} (h : W.ownsRow B e size (srow g n c) k xs) : ∃ cur, W.heap[g]? = some (.cells cur e (0, 0)) := by
 rcases h.2 with ⟨h1, _⟩ | ⟨g', cap, cur, h1, _, h2, _⟩
 ·cases h1
 ·simp only [Value.slice.injEq, Option.some.injEq, Addr.mk.injEq, and_true] at h1
  exact ⟨cur, by rw [h1.1]; exact h2⟩
theorem rows_ne {W : World} {B1 B2 : Nat} {e1 e2 : TypeId} {s1 s2 g1 g2 n1 n2 c1 c2 k1 k2 : Nat} {xs ys : List Value} (h1 : W.ownsRow B1 e1 s1 (srow g1 n1 c1) k1 xs) (h2 : W.ownsRow B2 e2 s2 (srow g2 n2 c2) k2 ys) (he : e1 ≠ e2) : g1 ≠ g2 := by
 rintro rfl
 obtain ⟨cu, hc⟩ := srow_block h1
 obtain ⟨cv, hd⟩ := srow_block h2
 rw [hc] at hd
 injection hd with hd
 injection hd with _ hd _
 exact he hd
theorem some_ne {a b : Nat} (h : a ≠ b) : some a ≠ some b := fun e => h (by injection e)
theorem MacAt.setReg {B : Nat} {W : World} {bm lanes R N : Nat} {M : MacN} {gr gm cr cm : Nat} {G C : Nat → Nat} (h : MacAt B W bm lanes R N M gr gm cr cm G C) {d j : Nat} (hd : d < R) (v : Int) (hB : B ≤ W.heap.size) :
  MacAt B (W.setCell ⟨G d, j, none⟩ (.int .i64 v)) bm lanes R N ⟨fun r => if r = d then (fun i => if i = j then v else M.regs d i) else M.regs r, M.mem⟩ gr gm cr cm G C ∧ Below B W (W.setCell ⟨G d, j, none⟩ (.int .i64 v)) := by
 have hst := (h.rg d hd).stored j (.int .i64 v)
 have hg := hst.2
 have hlow := (h.rg d hd).lt (G d) rfl
 have hne := h.m.not_row (by decide) (h.rg d hd)
 refine ⟨⟨h.m.kept hg hne, row_setCell h.rr (a := ⟨G d, j, none⟩) (some_ne (rows_ne (h.rg d hd) h.rr (by decide))) _, fun r hr => ?_, row_setCell h.mm (a := ⟨G d, j, none⟩) (some_ne (h.ne d hd)) _, h.inj, h.ne, h.hb, fun h0 => (h.gs h0).kept hg ((h.gs h0).not_row (by decide) (h.rg d hd))⟩, ?_⟩
 ·by_cases e : r = d
  ·subst e
   have := hst.1
   rw [intL_set] at this
   simpa using this
  ·simp only [if_neg e]
   exact row_setCell (h.rg r hr) (a := ⟨G d, j, none⟩) (some_ne (fun e2 => e (h.inj d r hd hr e2).symm)) _
 ·exact below_of_row (n := B) (h.rg d hd) hg (Nat.le_refl _) hB
theorem MacAt.setMem {B : Nat} {W : World} {bm lanes R N : Nat} {M : MacN} {gr gm cr cm : Nat} {G C : Nat → Nat} (h : MacAt B W bm lanes R N M gr gm cr cm G C) (i : Nat) (v : Int) (hB : B ≤ W.heap.size) :
  MacAt B (W.setCell ⟨gm, i, none⟩ (.int .i64 v)) bm lanes R N ⟨M.regs, fun k => if k = i then v else M.mem k⟩ gr gm cr cm G C ∧ Below B W (W.setCell ⟨gm, i, none⟩ (.int .i64 v)) := by
 have hst := h.mm.stored i (.int .i64 v)
 have hg := hst.2
 have hne := h.m.not_row (by decide) h.mm
 refine ⟨⟨h.m.kept hg hne, row_setCell h.rr (a := ⟨gm, i, none⟩) (some_ne (rows_ne h.mm h.rr (by decide))) _, fun r hr => row_setCell (h.rg r hr) (a := ⟨gm, i, none⟩) (some_ne (fun e => h.ne r hr e.symm)) _, ?_, h.inj, h.ne, h.hb, fun h0 => (h.gs h0).kept hg ((h.gs h0).not_row (by decide) h.mm)⟩, ?_⟩
 ·have := hst.1
  rw [intL_set] at this
  exact this
 ·exact below_of_row (n := B) h.mm hg (Nat.le_refl _) hB
/-- A register's row is another one. -/
theorem MacAt.repl {B : Nat} {W : World} {bm lanes R N : Nat} {M : MacN} {gr gm cr cm : Nat} {G C : Nat → Nat} (h : MacAt B W bm lanes R N M gr gm cr cm G C) {d : Nat} (hd : d < R) {g c : Nat} {f : Nat → Int} (hrow : W.ownsRow B 3 1 (srow g lanes c) lanes (intL lanes f))
  (h1 : ∀ r, r < R → G r ≠ g) (h2 : g ≠ gm) (hB : B ≤ W.heap.size) :
  MacAt B (W.setCell ⟨gr, d, none⟩ (srow g lanes c)) bm lanes R N ⟨fun r => if r = d then f else M.regs r, M.mem⟩ gr gm cr cm (fun r => if r = d then g else G r) (fun r => if r = d then c else C r) ∧ Below B W (W.setCell ⟨gr, d, none⟩ (srow g lanes c)) := by
 have hst := h.rr.stored d (srow g lanes c)
 have hg := hst.2
 have hne := h.m.not_row (by decide) h.rr
 refine ⟨⟨h.m.kept hg hne, ?_, fun r hr => ?_, row_setCell h.mm (a := ⟨gr, d, none⟩) (some_ne (rows_ne h.rr h.mm (by decide))) _, fun r s hr hs e => ?_, fun r hr => ?_, h.hb, ?gs⟩, ?_⟩
 case gs =>
  show (if R = d then c else C R) ≠ 0 → Blk _ (if R = d then c else C R) _ _
  rw [if_neg (by omega)]
  exact fun h0 => (h.gs h0).kept hg ((h.gs h0).not_row (by decide) h.rr)
 ·have := hst.1
  rw [rowsL_set] at this
  exact this
 ·by_cases e : r = d
  ·subst e
   simp only [if_pos rfl]
   exact row_setCell hrow (a := ⟨gr, r, none⟩) (some_ne (rows_ne h.rr hrow (by decide))) _
  ·simp only [if_neg e]
   exact row_setCell (h.rg r hr) (a := ⟨gr, d, none⟩) (some_ne (rows_ne h.rr (h.rg r hr) (by decide))) _
 ·by_cases e1 : r = d
  ·by_cases e2 : s = d
   ·omega
   ·rw [if_pos e1, if_neg e2] at e; exact absurd e.symm (h1 s hs)
  ·by_cases e2 : s = d
   ·rw [if_neg e1, if_pos e2] at e; exact absurd e (h1 r hr)
   ·rw [if_neg e1, if_neg e2] at e; exact h.inj r s hr hs e
 ·by_cases e : r = d
  ·rw [if_pos e]; exact h2
  ·rw [if_neg e]; exact h.ne r hr
 ·exact below_of_row (n := B) h.rr hg (Nat.le_refl _) hB
/-- What the machine's lines read. -/
theorem MacAt.cells {B : Nat} {W : World} {bm lanes R N : Nat} {M : MacN} {gr gm cr cm : Nat} {G C : Nat → Nat} (h : MacAt B W bm lanes R N M gr gm cr cm G C) :
  W.cell? ⟨bm, 0, none⟩ = some (.int .i64 (lanes : Int)) ∧ W.cell? ⟨bm, 1, none⟩ = some (srow gr R cr) ∧ W.cell? ⟨bm, 2, none⟩ = some (srow gm N cm) ∧ (∀ r, r < R → W.cell? ⟨gr, r, none⟩ = some (srow (G r) lanes (C r))) ∧
  (∀ r j, r < R → j < lanes → W.cell? ⟨G r, j, none⟩ = some (.int .i64 (M.regs r j))) ∧ (∀ i, i < N → W.cell? ⟨gm, i, none⟩ = some (.int .i64 (M.mem i))) :=
 ⟨h.m.cell (i := 0) rfl, h.m.cell (i := 1) rfl, h.m.cell (i := 2) rfl, fun r hr => (h.rr.cellAt r (by omega)).trans (rowsL_at hr), fun r j hr hj => ((h.rg r hr).cellAt j (by omega)).trans (intL_at hj), fun i hi => (h.mm.cellAt i (by omega)).trans (intL_at hi)⟩
theorem MacAt.frozen {B : Nat} {W : World} {bm lanes R N : Nat} {M : MacN} {gr gm cr cm : Nat} {G C : Nat → Nat} (h : MacAt B W bm lanes R N M gr gm cr cm G C) :
  (∀ r j, r < R → W.frozen? ⟨G r, j, none⟩ = false) ∧ (∀ i, W.frozen? ⟨gm, i, none⟩ = false) ∧ (∀ r, W.frozen? ⟨gr, r, none⟩ = false) :=
 ⟨fun r j hr => (h.rg r hr).frozenAt j, fun i => h.mm.frozenAt i, fun r => h.rr.frozenAt r⟩
theorem MacAt.caps {B : Nat} {W : World} {bm lanes R N : Nat} {M : MacN} {gr gm cr cm : Nat} {G C : Nat → Nat} (h : MacAt B W bm lanes R N M gr gm cr cm G C) : R ≤ cr ∧ N ≤ cm ∧ ∀ r, r < R → lanes ≤ C r := by
 have cap : ∀ {e : TypeId} {g n c : Nat} {xs : List Value}, W.ownsRow B e 1 (srow g n c) n xs → n ≤ c := fun h => by
  rcases h.2 with ⟨h1, _⟩ | ⟨g', cap, cur, h1, _, _, h3, _⟩
  ·cases h1
  ·simp only [Value.slice.injEq, Option.some.injEq, Addr.mk.injEq, and_true] at h1
   omega
 exact ⟨cap h.rr, cap h.mm, fun r hr => cap (h.rg r hr)⟩
/-- The machine's world is another one, with the same numbers. -/
theorem MacAt.congr {B : Nat} {W : World} {bm lanes R N : Nat} {M M' : MacN} {gr gm cr cm : Nat} {G C : Nat → Nat} (h : MacAt B W bm lanes R N M gr gm cr cm G C) (h1 : ∀ r j, r < R → j < lanes → M.regs r j = M'.regs r j) (h2 : ∀ i, i < N → M.mem i = M'.mem i) : MacAt B W bm lanes R N M' gr gm cr cm G C :=
 ⟨h.m, h.rr, fun r hr => by rw [← intL_congr (fun j hj => h1 r j hr hj)]; exact h.rg r hr, by rw [← intL_congr (fun i hi => h2 i hi)]; exact h.mm, h.inj, h.ne, h.hb, h.gs⟩
end Go.Proofs.Ytekiemlniegddaa

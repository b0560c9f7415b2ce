/- Contracts and laws (Net, NetB, ND, Cn, Cr, Cam, SpL, SpP, JS, PAp, Ap, PpO). -/
import Derived.Lib.Hide
import Derived.Shelf.Bits.Mul64
import Derived.Laws.CopyOwn
import Derived.Lib.MinMax
import Derived.Maps.AppendAt
import Derived.Test.YtekiemlniegddaaQA1
import Derived.Test.YtekiemlniegddaaQA3
import Derived.Test.YtekiemlniegddaaQA4
import Derived.Test.YtekiemlniegddaaQA6
import Derived.Test.YtekiemlniegddaaQA2
namespace Go.Proofs.Ytekiemlniegddaa
set_option linter.unusedVariables false
set_option linter.unusedSimpArgs false

/-- A layer: for each of its numbers the weights of those before it, and a bias. -/
structure LayN where
  ws : List (List Int)
  bs : List Int
def loAt (l : List (Int × Int)) (j : Nat) : Int := (l[j]?.getD (0, 0)).1
def hiAt (l : List (Int × Int)) (j : Nat) : Int := (l[j]?.getD (0, 0)).2
/-- Numbers are within bounds; bounds are within bounds. -/
structure InB (l : List (Int × Int)) (x : List Int) : Prop where
  len : l.length = x.length
  bd : ∀ j, j < l.length → loAt l j ≤ x[j]?.getD 0 ∧ x[j]?.getD 0 ≤ hiAt l j
/-! ### Verdicts and certificates -/

def widthB (l : List (Int × Int)) (i : Nat) : Int := hiAt l i - loAt l i
def wideTo (l : List (Int × Int)) : Nat → Nat
  | 0 => 0
  | i + 1 => if widthB l (wideTo l i) < widthB l i then i else wideTo l i
def wideB (l : List (Int × Int)) : Nat := wideTo l l.length
def midB (l : List (Int × Int)) : Int := (loAt l (wideB l) + hiAt l (wideB l)).tdiv 2
def leftB (l : List (Int × Int)) : List (Int × Int) := l.set (wideB l) (loAt l (wideB l), midB l)
def rightB (l : List (Int × Int)) : List (Int × Int) := l.set (wideB l) (midB l + 1, hiAt l (wideB l))
variable {Ls : List LayN} {low high : Int}
theorem set_at (l : List (Int × Int)) (i : Nat) (v : Int × Int) {j : Nat} (hj : j < l.length) : loAt (l.set i v) j = (if j = i then v.1 else loAt l j) ∧ hiAt (l.set i v) j = (if j = i then v.2 else hiAt l j) := by
  unfold loAt hiAt
  by_cases e : j = i
  · subst e
    rw [if_pos rfl, if_pos rfl, List.getElem?_set_self hj]
    exact ⟨rfl, rfl⟩
  · rw [if_neg e, if_neg e, List.getElem?_set_ne (fun h => e h.symm)]
    exact ⟨rfl, rfl⟩
theorem InB.split {l : List (Int × Int)} {x : List Int} (h : InB l x) : InB (leftB l) x ∨ InB (rightB l) x := by
  by_cases hc : x[wideB l]?.getD 0 ≤ midB l
  · refine .inl ⟨by unfold leftB; rw [List.length_set]; exact h.len, fun j hj => ?_⟩
    unfold leftB at hj ⊢
    rw [List.length_set] at hj
    obtain ⟨e1, e2⟩ := set_at l (wideB l) (loAt l (wideB l), midB l) hj
    rw [e1, e2]
    have hb := h.bd j hj
    by_cases e : j = wideB l
    · subst e; rw [if_pos rfl, if_pos rfl]; exact ⟨hb.1, hc⟩
    · rw [if_neg e, if_neg e]; exact hb
  · refine .inr ⟨by unfold rightB; rw [List.length_set]; exact h.len, fun j hj => ?_⟩
    unfold rightB at hj ⊢
    rw [List.length_set] at hj
    obtain ⟨e1, e2⟩ := set_at l (wideB l) (midB l + 1, hiAt l (wideB l)) hj
    rw [e1, e2]
    have hb := h.bd j hj
    by_cases e : j = wideB l
    · subst e; rw [if_pos rfl, if_pos rfl]; exact ⟨by show midB l + 1 ≤ _; omega, hb.2⟩
    · rw [if_neg e, if_neg e]; exact hb
end Go.Proofs.Ytekiemlniegddaa

namespace Go.Proofs.Ytekiemlniegddaa
set_option linter.unusedVariables false
set_option linter.unusedSimpArgs false

def allTo (p : Nat → Bool) : Nat → Bool
  | 0 => true
  | n + 1 => allTo p n && p n
theorem allTo_succ {p : Nat → Bool} {n : Nat} (h : allTo p n = true) (h1 : p n = true) : allTo p (n + 1) = true := by simp only [allTo, h, h1, Bool.and_self]

theorem allIn_of {lo hi : Int} {xs : List Int} (h : ∀ k, k < xs.length → lo ≤ xs[k]?.getD 0 ∧ xs[k]?.getD 0 ≤ hi) : allIn lo hi xs = true := by
  simp only [allIn, List.all_eq_true, Bool.and_eq_true, decide_eq_true_eq]
  intro x hx
  obtain ⟨k, hk, rfl⟩ := List.getElem_of_mem hx
  have := h k hk
  rwa [List.getElem?_eq_getElem hk] at this

def nIn (lo hi x : Int) : Bool := decide (lo ≤ x) && decide (x ≤ hi)
theorem nIn_true {lo hi x : Int} : nIn lo hi x = true ↔ lo ≤ x ∧ x ≤ hi := by simp [nIn]
def layAt (Ls : List LayN) (i : Nat) : LayN := Ls[i]?.getD ⟨[], []⟩
def wRowOk (b : Nat) (r : List Int) : Bool := decide (r.length = b) && allIn (-1000) 1000 r
/-- A layer is valid for so many numbers before it. -/
def lyOk (b : Nat) (L : LayN) : Bool :=
  decide (1 ≤ L.bs.length) && decide (L.bs.length ≤ 8) && decide (L.ws.length = L.bs.length) && allIn (-1000000) 1000000 L.bs && allTo (fun r => wRowOk b (L.ws[r]?.getD [])) L.ws.length
/-! ### The numbers behind each layer -/

/-! ### How large they are -/

end Go.Proofs.Ytekiemlniegddaa

namespace Go.Proofs.Ytekiemlniegddaa
open Go Go.RowKit Go.Shelf
set_option linter.unusedVariables false
set_option linter.unusedSimpArgs false

/-- The slice at 'a' reads as the slices of ints 'xss', in blocks below 'B'. -/
def RdW (B : Nat) (W : World) (a : Option Addr) (xss : List (List Int)) : Prop :=
  xss = [] ∨ ∃ b o, a = some ⟨b, o, none⟩ ∧ b < B ∧ ∀ i, i < xss.length → ∃ a' c', W.cell? ⟨b, o + i, none⟩ = some (.slice a' (xss[i]?.getD []).length c') ∧ Rd B W a' (xss[i]?.getD [])
theorem RdW.below {B B' : Nat} {W W' : World} {a : Option Addr} {xss : List (List Int)} (h : RdW B W a xss) (hB : B ≤ B') (hb : Below B' W W') : RdW B W' a xss := by
  rcases h with h | ⟨b, o, h1, h2, h3⟩
  · exact .inl h
  · refine .inr ⟨b, o, h1, h2, fun i hi => ?_⟩
    obtain ⟨a', c', h4, h5⟩ := h3 i hi
    exact ⟨a', c', (hb.cell (p := ⟨b, o + i, none⟩) (by show b < B'; omega)).trans h4, h5.below hB hb⟩
theorem RdW.mono {B B' : Nat} {W : World} {a : Option Addr} {xss : List (List Int)} (h : RdW B W a xss) (hB : B ≤ B') : RdW B' W a xss := by
  rcases h with h | ⟨b, o, h1, h2, h3⟩
  · exact .inl h
  · refine .inr ⟨b, o, h1, by omega, fun i hi => ?_⟩
    obtain ⟨a', c', h4, h5⟩ := h3 i hi
    exact ⟨a', c', h4, h5.mono hB⟩
theorem RdW.at {B : Nat} {W : World} {a : Option Addr} {xss : List (List Int)} (h : RdW B W a xss) {i : Nat} (hi : i < xss.length) :
    ∃ b o, a = some ⟨b, o, none⟩ ∧ b < B ∧ ∃ a' c', W.cell? ⟨b, o + i, none⟩ = some (.slice a' (xss[i]?.getD []).length c') ∧ Rd B W a' (xss[i]?.getD []) := by
  rcases h with h | ⟨b, o, h1, h2, h3⟩
  · subst h; simp at hi
  · exact ⟨b, o, h1, h2, h3 i hi⟩

/-- The slice at 'a' reads as the layers 'Ls', in blocks below 'B'. -/
def RdLs (B : Nat) (W : World) (a : Option Addr) (Ls : List LayN) : Prop :=
  Ls = [] ∨ ∃ b o, a = some ⟨b, o, none⟩ ∧ b < B ∧ ∀ i, i < Ls.length → ∃ wa wc ba bc, W.cell? ⟨b, o + i * 2, none⟩ = some (.slice wa (layAt Ls i).ws.length wc) ∧ W.cell? ⟨b, o + i * 2 + 1, none⟩ = some (.slice ba (layAt Ls i).bs.length bc) ∧
    RdW B W wa (layAt Ls i).ws ∧ Rd B W ba (layAt Ls i).bs
theorem RdLs.below {B B' : Nat} {W W' : World} {a : Option Addr} {Ls : List LayN} (h : RdLs B W a Ls) (hB : B ≤ B') (hb : Below B' W W') : RdLs B W' a Ls := by
  rcases h with h | ⟨b, o, h1, h2, h3⟩
  · exact .inl h
  · refine .inr ⟨b, o, h1, h2, fun i hi => ?_⟩
    obtain ⟨wa, wc, ba, bc, h4, h5, h6, h7⟩ := h3 i hi
    exact ⟨wa, wc, ba, bc, (hb.cell (p := ⟨b, o + i * 2, none⟩) (by show b < B'; omega)).trans h4, (hb.cell (p := ⟨b, o + i * 2 + 1, none⟩) (by show b < B'; omega)).trans h5, h6.below hB hb, h7.below hB hb⟩
theorem RdLs.mono {B B' : Nat} {W : World} {a : Option Addr} {Ls : List LayN} (h : RdLs B W a Ls) (hB : B ≤ B') : RdLs B' W a Ls := by
  rcases h with h | ⟨b, o, h1, h2, h3⟩
  · exact .inl h
  · refine .inr ⟨b, o, h1, by omega, fun i hi => ?_⟩
    obtain ⟨wa, wc, ba, bc, h4, h5, h6, h7⟩ := h3 i hi
    exact ⟨wa, wc, ba, bc, h4, h5, h6.mono hB, h7.mono hB⟩
theorem RdLs.at {B : Nat} {W : World} {a : Option Addr} {Ls : List LayN} (h : RdLs B W a Ls) {i : Nat} (hi : i < Ls.length) :
    ∃ b o, a = some ⟨b, o, none⟩ ∧ b < B ∧ ∃ wa wc ba bc, W.cell? ⟨b, o + i * 2, none⟩ = some (.slice wa (layAt Ls i).ws.length wc) ∧ W.cell? ⟨b, o + i * 2 + 1, none⟩ = some (.slice ba (layAt Ls i).bs.length bc) ∧
      RdW B W wa (layAt Ls i).ws ∧ Rd B W ba (layAt Ls i).bs := by
  rcases h with h | ⟨b, o, h1, h2, h3⟩
  · subst h; simp at hi
  · exact ⟨b, o, h1, h2, h3 i hi⟩

/-- What is read later. -/
theorem later_i {W W' : World} {a : Option Addr} {xs : List Int} (h : Rd W.heap.size W a xs) (hb : Below W.heap.size W W') : Rd W'.heap.size W' a xs := (h.below (Nat.le_refl _) hb).mono hb.size
end Go.Proofs.Ytekiemlniegddaa

namespace Go.Proofs.Ytekiemlniegddaa
open Go Go.RowKit Go.Shelf
set_option linter.unusedVariables false
set_option linter.unusedSimpArgs false

theorem lyOk_yes {b : Nat} {L : LayN} (h1 : nIn 1 8 (L.bs.length : Int) = true) (h2 : L.ws.length = L.bs.length) (h3 : allIn (-1000000) 1000000 L.bs = true) (h4 : allTo (fun r => wRowOk b (L.ws[r]?.getD [])) L.ws.length = true) : lyOk b L = true := by
  have := nIn_true.1 h1
  simp only [lyOk, h3, h4, decide_eq_true h2, decide_eq_true (show 1 ≤ L.bs.length by omega), decide_eq_true (show L.bs.length ≤ 8 by omega), Bool.and_self]

end Go.Proofs.Ytekiemlniegddaa

namespace Go.Proofs.Ytekiemlniegddaa
open Go Go.RowKit Go.Shelf
set_option linter.unusedVariables false
set_option linter.unusedSimpArgs false

/-- Row by row, as the specification goes. -/
structure LyTo (b : Nat) (L : LayN) (k : Nat) : Prop where
  bs : ∀ i, i < k → nIn (-1000000) 1000000 (L.bs[i]?.getD 0) = true
  row : ∀ i, i < k → wRowOk b (L.ws[i]?.getD []) = true
theorem LyTo.zero (b : Nat) (L : LayN) : LyTo b L 0 := ⟨fun i h => absurd h (Nat.not_lt_zero _), fun i h => absurd h (Nat.not_lt_zero _)⟩
theorem LyTo.all {b : Nat} {L : LayN} (h : LyTo b L L.bs.length) (h1 : 1 ≤ L.bs.length) (h8 : L.bs.length ≤ 8) (h2 : L.ws.length = L.bs.length) : lyOk b L = true := by
  refine lyOk_yes (nIn_true.2 (by omega)) h2 (allIn_of fun k hk => nIn_true.1 (h.bs k hk)) ?_
  rw [h2]
  have : ∀ n, n ≤ L.bs.length → allTo (fun r => wRowOk b (L.ws[r]?.getD [])) n = true := fun n => by
    induction n with
    | zero => intro _; rfl
    | succ n ih => intro hn; exact allTo_succ (ih (by omega)) (h.row n (by omega))
  exact this _ (Nat.le_refl _)

end Go.Proofs.Ytekiemlniegddaa

namespace Go.Proofs.Ytekiemlniegddaa
open Go Go.RowKit Go.Shelf
set_option linter.unusedVariables false
set_option linter.unusedSimpArgs false

/-- An image, by what it reads as. -/
structure ImN where
  w : Int
  h : Int
  px : List Int
def imAt (ms : List ImN) (i : Nat) : ImN := ms[i]?.getD ⟨0, 0, []⟩
/-- The slice at 'a' reads as the images 'ms', in blocks below 'B'. -/
def RdIs (B : Nat) (W : World) (a : Option Addr) (ms : List ImN) : Prop :=
  ms = [] ∨ ∃ b o, a = some ⟨b, o, none⟩ ∧ b < B ∧ ∀ i, i < ms.length → ∃ pa pc, W.cell? ⟨b, o + i * 3, none⟩ = some (.int .i64 (imAt ms i).w) ∧ W.cell? ⟨b, o + i * 3 + 1, none⟩ = some (.int .i64 (imAt ms i).h) ∧
    W.cell? ⟨b, o + i * 3 + 2, none⟩ = some (.slice pa (imAt ms i).px.length pc) ∧ Rd B W pa (imAt ms i).px
theorem RdIs.below {B B' : Nat} {W W' : World} {a : Option Addr} {ms : List ImN} (h : RdIs B W a ms) (hB : B ≤ B') (hb : Below B' W W') : RdIs B W' a ms := by
  rcases h with h | ⟨b, o, h1, h2, h3⟩
  · exact .inl h
  · refine .inr ⟨b, o, h1, h2, fun i hi => ?_⟩
    obtain ⟨pa, pc, h4, h5, h6, h7⟩ := h3 i hi
    exact ⟨pa, pc, (hb.cell (p := ⟨b, o + i * 3, none⟩) (by show b < B'; omega)).trans h4, (hb.cell (p := ⟨b, o + i * 3 + 1, none⟩) (by show b < B'; omega)).trans h5, (hb.cell (p := ⟨b, o + i * 3 + 2, none⟩) (by show b < B'; omega)).trans h6, h7.below hB hb⟩
theorem RdIs.mono {B B' : Nat} {W : World} {a : Option Addr} {ms : List ImN} (h : RdIs B W a ms) (hB : B ≤ B') : RdIs B' W a ms := by
  rcases h with h | ⟨b, o, h1, h2, h3⟩
  · exact .inl h
  · refine .inr ⟨b, o, h1, by omega, fun i hi => ?_⟩
    obtain ⟨pa, pc, h4, h5, h6, h7⟩ := h3 i hi
    exact ⟨pa, pc, h4, h5, h6, h7.mono hB⟩
theorem RdIs.at {B : Nat} {W : World} {a : Option Addr} {ms : List ImN} (h : RdIs B W a ms) {i : Nat} (hi : i < ms.length) :
    ∃ b o, a = some ⟨b, o, none⟩ ∧ b < B ∧ ∃ pa pc, W.cell? ⟨b, o + i * 3, none⟩ = some (.int .i64 (imAt ms i).w) ∧ W.cell? ⟨b, o + i * 3 + 1, none⟩ = some (.int .i64 (imAt ms i).h) ∧
      W.cell? ⟨b, o + i * 3 + 2, none⟩ = some (.slice pa (imAt ms i).px.length pc) ∧ Rd B W pa (imAt ms i).px := by
  rcases h with h | ⟨b, o, h1, h2, h3⟩
  · subst h; simp at hi
  · exact ⟨b, o, h1, h2, h3 i hi⟩
end Go.Proofs.Ytekiemlniegddaa

namespace Go.Proofs.Ytekiemlniegddaa
open Go
set_option linter.unusedVariables false
set_option linter.unusedSimpArgs false

/-- A change, by what it reads as. -/
structure ChgN where
  s : Int
  gl : Int
  gh : Int
  off : Int
  noi : Int
abbrev ChgN.val (c : ChgN) : Value := .agg #[.int .i64 c.s, .int .i64 c.gl, .int .i64 c.gh, .int .i64 c.off, .int .i64 c.noi]
end Go.Proofs.Ytekiemlniegddaa

namespace Go.Proofs.Ytekiemlniegddaa
open Go Go.RowKit Go.Shelf
set_option linter.unusedVariables false
set_option linter.unusedSimpArgs false

theorem put3_grow2 (W : World) (B : Nat) (x y z : Value) : W.grownBy (put3 W B x y z) (some B) :=
  ⟨rfl, rfl, rfl, (put3_below (n := 0) (Nat.zero_le _) x y z).size, fun k _ hk => (put3_below_block W B k (fun e => hk (by rw [e])) x y z)⟩
end Go.Proofs.Ytekiemlniegddaa

namespace Go.Proofs.Ytekiemlniegddaa
open Go Go.RowKit Go.Shelf
set_option linter.unusedVariables false
set_option linter.unusedSimpArgs false

theorem jrow_weaken {W : World} {base base' : Nat} {e : TypeId} {size : Nat} {v : Value} {k : Nat} {xs : List Value} (h : W.ownsRow base e size v k xs) (hb : base' ≤ base) : W.ownsRow base' e size v k xs := by
  refine ⟨h.1, ?_⟩
  rcases h.2 with h1 | ⟨g, cap, cur, h1, h2, h3⟩
  · exact .inl h1
  · exact .inr ⟨g, cap, cur, h1, Nat.le_trans hb h2, h3⟩

end Go.Proofs.Ytekiemlniegddaa

namespace Go.Proofs.Ytekiemlniegddaa
open Go Go.RowKit Go.Shelf
set_option linter.unusedVariables false
set_option linter.unusedSimpArgs false

/-- The value of a step. -/
abbrev stepv (s : StepN) (ka : Option Addr) (kc : Nat) (sa : Option Addr) (sc : Nat) : Value := .agg #[.int .u8 s.op, .int .i64 s.a, .int .i64 s.b, .int .i64 s.pt.mul, .int .i64 s.pt.add, .int .i64 s.pt.div, .int .i64 s.pt.lo, .int .i64 s.pt.hi, .int .u8 s.how, .int .i64 s.kw, .int .i64 s.kh, .slice ka s.taps.length kc, .int .u8 s.bd, .int .i64 s.sw, .int .i64 s.sh, .slice sa s.bits.length sc]
/-- What a step's numbers are, as they came in. -/
structure StepIn (s : StepN) : Prop where
  op : 0 ≤ s.op ∧ s.op ≤ 255
  how : 0 ≤ s.how ∧ s.how ≤ 255
  bd : 0 ≤ s.bd ∧ s.bd ≤ 255
  tl : s.taps.length ≤ 9223372036854775807
  bl : s.bits.length ≤ 9223372036854775807
theorem row_put3b {W : World} {base : Nat} {e : TypeId} {size : Nat} {v : Value} {k : Nat} {xs : List Value} (h : W.ownsRow base e size v k xs) {B : Nat} (hne : some B ≠ v.ownBlock) (x y z : Value) : (put3 W B x y z).ownsRow base e size v k xs :=
  row_setCell (row_setCell (row_setCell h (a := ⟨B, 0, none⟩) hne x) (a := ⟨B, 1, none⟩) hne y) (a := ⟨B, 2, none⟩) hne z
set_option maxRecDepth 100000 in
set_option maxHeartbeats 4000000 in
theorem operands_any (s : StepN) (hs : StepIn s) (ka sa : Option Addr) (kc sc : Nat) (w : World) :
    Calls Try.prog 39 #[stepv s ka kc sa sc] w fun e w' => ∃ a c, e = .returned (.slice a (opsN s).length c) ∧ Rd w'.heap.size w' a (opsN s) ∧ Below w.heap.size w w' := by
  have hB : Below w.heap.size w w := Below.refl _ _
  have hop := hs.op
  have hbV1 : Below w.heap.size w (w.alloc (.cells #[.int .u8 s.op, .int .i64 s.a, .int .i64 s.b, .int .i64 s.pt.mul, .int .i64 s.pt.add, .int .i64 s.pt.div, .int .i64 s.pt.lo, .int .i64 s.pt.hi, .int .u8 s.how, .int .i64 s.kw, .int .i64 s.kh, .slice ka s.taps.length kc, .int .u8 s.bd, .int .i64 s.sw, .int .i64 s.sh, .slice sa s.bits.length sc] 76)) := jb_al (Below.refl _ w) _
  have k1 := Blk.new w 76 #[.int .u8 s.op, .int .i64 s.a, .int .i64 s.b, .int .i64 s.pt.mul, .int .i64 s.pt.add, .int .i64 s.pt.div, .int .i64 s.pt.lo, .int .i64 s.pt.hi, .int .u8 s.how, .int .i64 s.kw, .int .i64 s.kh, .slice ka s.taps.length kc, .int .u8 s.bd, .int .i64 s.sw, .int .i64 s.sh, .slice sa s.bits.length sc]
  obtain ⟨V1, hEV1⟩ : ∃ X, w.alloc (.cells #[.int .u8 s.op, .int .i64 s.a, .int .i64 s.b, .int .i64 s.pt.mul, .int .i64 s.pt.add, .int .i64 s.pt.div, .int .i64 s.pt.lo, .int .i64 s.pt.hi, .int .u8 s.how, .int .i64 s.kw, .int .i64 s.kh, .slice ka s.taps.length kc, .int .u8 s.bd, .int .i64 s.sw, .int .i64 s.sh, .slice sa s.bits.length sc] 76) = X := ⟨_, rfl⟩
  rw [hEV1] at hbV1 k1
  replace hB := hB.trans (hbV1.mono hB.size)
  clear hbV1
  have m0 := k1.cell (i := 0) rfl
  have m1 := k1.cell (i := 1) rfl
  have m2 := k1.cell (i := 2) rfl
  have m3 := k1.cell (i := 3) rfl
  have m4 := k1.cell (i := 4) rfl
  have m5 := k1.cell (i := 5) rfl
  have m6 := k1.cell (i := 6) rfl
  have m7 := k1.cell (i := 7) rfl
  have m8 := k1.cell (i := 8) rfl
  have m9 := k1.cell (i := 9) rfl
  have m10 := k1.cell (i := 10) rfl
  have m11 := k1.cell (i := 11) rfl
  have m12 := k1.cell (i := 12) rfl
  have m13 := k1.cell (i := 13) rfl
  have m14 := k1.cell (i := 14) rfl
  have m15 := k1.cell (i := 15) rfl
  unfold opsN
  by_cases h2 : s.op = 2
  case pos =>
    have e1 : (s.op == 2) = true := by simp [h2]
    by_cases hab : s.a = s.b
    case pos =>
      have e2 : (s.a != s.b) = false := by simp [hab]
      have e3 : (s.a == s.b) = true := by simp [hab]
      rw [if_neg (fun h => h.2 hab)]
      clear h2 hab
      have hbv : Below V1.heap.size V1 (V1.alloc (.cells #[.int .i64 s.a] 3)) := jb_al (Below.refl _ V1) _
      have kv := Blk.new V1 3 #[.int .i64 s.a]
      go_enter Try.func39, Try.ntmps39
      go_wp2_with fail
      go_ret
      exact ⟨_, _, rfl, .inr ⟨_, 0, rfl, kv.lt, fun i hi => by
        have hi2 : i < 1 := hi
        obtain rfl : i = 0 := by omega
        exact kv.cell (i := 0) rfl⟩, hB.trans (hbv.mono hB.size)⟩
    case neg =>
      have e2 : (s.a != s.b) = true := by simp [hab]
      have e3 : (s.a == s.b) = false := by simp [hab]
      rw [if_pos ⟨h2, hab⟩]
      clear h2 hab
      have hbv : Below V1.heap.size V1 (V1.alloc (.cells #[.int .i64 s.a, .int .i64 s.b] 3)) := jb_al (Below.refl _ V1) _
      have kv := Blk.new V1 3 #[.int .i64 s.a, .int .i64 s.b]
      go_enter Try.func39, Try.ntmps39
      go_wp2_with fail
      go_ret
      exact ⟨_, _, rfl, .inr ⟨_, 0, rfl, kv.lt, fun i hi => by
        have hi2 : i < 2 := hi
        rcases (show i = 0 ∨ i = 1 by omega) with rfl | rfl
        · exact kv.cell (i := 0) rfl
        · exact kv.cell (i := 1) rfl⟩, hB.trans (hbv.mono hB.size)⟩
  case neg =>
    have e1 : (s.op == 2) = false := by simp [h2]
    rw [if_neg (fun h => h2 h.1)]
    try clear h2
    have hbv : Below V1.heap.size V1 (V1.alloc (.cells #[.int .i64 s.a] 3)) := jb_al (Below.refl _ V1) _
    have kv := Blk.new V1 3 #[.int .i64 s.a]
    go_enter Try.func39, Try.ntmps39
    go_wp2_with fail
    go_ret
    exact ⟨_, _, rfl, .inr ⟨_, 0, rfl, kv.lt, fun i hi => by
      have hi2 : i < 1 := hi
      obtain rfl : i = 0 := by omega
      exact kv.cell (i := 0) rfl⟩, hB.trans (hbv.mono hB.size)⟩
set_option maxRecDepth 100000 in
set_option maxHeartbeats 8000000 in
theorem apply_any (s : StepN) (hs : StepIn s) (ka sa : Option Addr) (kc sc : Nat) (ms : List PicN) (a : Option Addr) (c n : Nat) (hn : ms.length = n) (hpl : ∀ i, i < n → (picAt ms i).px.length ≤ 9223372036854775807) (hA0 : 0 ≤ s.a) (hA1 : s.a < n) (hBb : s.op = 2 → 0 ≤ s.b ∧ s.b < n)
    (w : World) (hr : RdPs w.heap.size w a ms) (ht : Rd w.heap.size w ka s.taps) (hbt : RdB w.heap.size w sa s.bits) :
    Calls Try.prog 33 #[stepv s ka kc sa sc, .slice a n c] w (RetIm w.heap.size (appS s ms) w) := by
  have hB : Below w.heap.size w w := Below.refl _ _
  have hop := hs.op
  have hhow := hs.how
  have hbdr := hs.bd
  have htl := hs.tl
  have hbl := hs.bl
  obtain ⟨A, hA⟩ : ∃ A : Nat, s.a = (A : Int) := ⟨s.a.toNat, by omega⟩
  have hAn : A < n := by omega
  have hrdA := fun (i : Nat) (hi : i < n) => hr.at (i := i) (by rw [hn]; exact hi)
  have hplH := Lib.hid hpl
  obtain ⟨b, o, hab, hbl0, pa, pc, p0, p1, p2, rA, _⟩ := hrdA A hAn
  obtain ⟨R, hR⟩ : ∃ R, appS s ms = R := ⟨_, rfl⟩
  rw [hR]
  unfold appS at hR
  rw [show s.a.toNat = A by omega] at hR
  obtain ⟨⟨mw, mh, mx⟩, hM⟩ : ∃ M, picAt ms A = M := ⟨_, rfl⟩
  rw [hM] at p0 p1 p2 rA hR
  have hxl : mx.length ≤ 9223372036854775807 := by have := hpl A hAn; rw [hM] at this; exact this
  simp only at p0 p1 p2 rA hR
  obtain ⟨l, hl⟩ : ∃ l, mx.length = l := ⟨_, rfl⟩
  rw [hl] at p2 hxl
  obtain ⟨tl, htl0⟩ : ∃ l, s.taps.length = l := ⟨_, rfl⟩
  obtain ⟨bl, hbl1⟩ : ∃ l, s.bits.length = l := ⟨_, rfl⟩
  subst hab
  unfold stepv
  have hlH := Lib.hid hl
  have htlH := Lib.hid htl0
  have hblH := Lib.hid hbl1
  rw [htl0] at htl ⊢
  rw [hbl1] at hbl ⊢
  clear hpl hl htl0 hbl1 hM
  rw [hA]
  obtain ⟨D0, hD0⟩ : ∃ D : Int, s.b = D := ⟨_, rfl⟩
  rw [hD0] at hBb hR ⊢
  clear hD0
  have hbV1 : Below w.heap.size w (w.alloc (.cells #[.int .u8 s.op, .int .i64 (A : Int), .int .i64 D0, .int .i64 s.pt.mul, .int .i64 s.pt.add, .int .i64 s.pt.div, .int .i64 s.pt.lo, .int .i64 s.pt.hi, .int .u8 s.how, .int .i64 s.kw, .int .i64 s.kh, .slice ka tl kc, .int .u8 s.bd, .int .i64 s.sw, .int .i64 s.sh, .slice sa bl sc] 76)) := jb_al (Below.refl _ w) _
  have k2 := Blk.new w 76 #[.int .u8 s.op, .int .i64 (A : Int), .int .i64 D0, .int .i64 s.pt.mul, .int .i64 s.pt.add, .int .i64 s.pt.div, .int .i64 s.pt.lo, .int .i64 s.pt.hi, .int .u8 s.how, .int .i64 s.kw, .int .i64 s.kh, .slice ka tl kc, .int .u8 s.bd, .int .i64 s.sw, .int .i64 s.sh, .slice sa bl sc]
  obtain ⟨V1, hEV1⟩ : ∃ X, w.alloc (.cells #[.int .u8 s.op, .int .i64 (A : Int), .int .i64 D0, .int .i64 s.pt.mul, .int .i64 s.pt.add, .int .i64 s.pt.div, .int .i64 s.pt.lo, .int .i64 s.pt.hi, .int .u8 s.how, .int .i64 s.kw, .int .i64 s.kh, .slice ka tl kc, .int .u8 s.bd, .int .i64 s.sw, .int .i64 s.sh, .slice sa bl sc] 76) = X := ⟨_, rfl⟩
  rw [hEV1] at hbV1 k2
  replace hr := hr.later hbV1
  replace rA := later_i rA hbV1
  replace ht := later_i ht hbV1
  replace hbt := ((hbt.below (Nat.le_refl _) hbV1).mono hbV1.size)
  replace hB := hB.trans (hbV1.mono hB.size)
  clear hbV1
  have m0 := k2.cell (i := 0) rfl
  have m1 := k2.cell (i := 1) rfl
  have m2 := k2.cell (i := 2) rfl
  have m3 := k2.cell (i := 3) rfl
  have m4 := k2.cell (i := 4) rfl
  have m5 := k2.cell (i := 5) rfl
  have m6 := k2.cell (i := 6) rfl
  have m7 := k2.cell (i := 7) rfl
  have m8 := k2.cell (i := 8) rfl
  have m9 := k2.cell (i := 9) rfl
  have m10 := k2.cell (i := 10) rfl
  have m11 := k2.cell (i := 11) rfl
  have m12 := k2.cell (i := 12) rfl
  have m13 := k2.cell (i := 13) rfl
  have m14 := k2.cell (i := 14) rfl
  have m15 := k2.cell (i := 15) rfl
  have hle4 := hB.size
  have hbV2 : Below V1.heap.size V1 (V1.alloc (.cells #[.int .i64 0, .int .i64 0, .slice none 0 0] 29)) := jb_al (Below.refl _ V1) _
  have k4 := Blk.new V1 29 #[.int .i64 0, .int .i64 0, .slice none 0 0]
  obtain ⟨V2, hEV2⟩ : ∃ X, V1.alloc (.cells #[.int .i64 0, .int .i64 0, .slice none 0 0] 29) = X := ⟨_, rfl⟩
  rw [hEV2] at hbV2 k4
  clear m0 m1 m2 m3 m4 m5 m6 m7 m8 m9 m10 m11 m12 m13 m14 m15
  replace k2 := k2.below hbV2 k2.lt
  replace hr := hr.later hbV2
  replace rA := later_i rA hbV2
  replace ht := later_i ht hbV2
  replace hbt := ((hbt.below (Nat.le_refl _) hbV2).mono hbV2.size)
  replace hB := hB.trans (hbV2.mono hB.size)
  clear hbV2
  have m0 := k2.cell (i := 0) rfl
  have m1 := k2.cell (i := 1) rfl
  have m2 := k2.cell (i := 2) rfl
  have m3 := k2.cell (i := 3) rfl
  have m4 := k2.cell (i := 4) rfl
  have m5 := k2.cell (i := 5) rfl
  have m6 := k2.cell (i := 6) rfl
  have m7 := k2.cell (i := 7) rfl
  have m8 := k2.cell (i := 8) rfl
  have m9 := k2.cell (i := 9) rfl
  have m10 := k2.cell (i := 10) rfl
  have m11 := k2.cell (i := 11) rfl
  have m12 := k2.cell (i := 12) rfl
  have m13 := k2.cell (i := 13) rfl
  have m14 := k2.cell (i := 14) rfl
  have m15 := k2.cell (i := 15) rfl
  have z0 := k4.cell (i := 0) rfl
  have fz0 := k4.frozen 0
  have z1 := k4.cell (i := 1) rfl
  have fz1 := k4.frozen 1
  have z2 := k4.cell (i := 2) rfl
  have fz2 := k4.frozen 2
  have l2 := k2.lt
  have l4 := k4.lt
  have hbV : b < V2.heap.size := by have := hB.size; omega
  have y0 := (hB.cell (p := ⟨b, o + A * 3, none⟩) hbl0).trans p0
  have y1 := (hB.cell (p := ⟨b, o + A * 3 + 1, none⟩) hbl0).trans p1
  have y2 := (hB.cell (p := ⟨b, o + A * 3 + 2, none⟩) hbl0).trans p2

  by_cases h1 : s.op = 1
  case pos =>
    have f1 : (s.op == 1) = true := by simp [h1]
    rw [if_pos h1] at hR
    clear h1
    go_enter Try.func33, Try.ntmps33
    have hS : Below V2.heap.size V2 V2.drew := (Below.refl _ _).drew
    go_wp2_with fail
    refine plain_region (fun W' => Below V2.heap.size V2 W') 10 12 (by kernel_rfl) rfl ?_
    simp only [Array.replicate_succ, Array.replicate_zero, List.push_toArray, List.nil_append, List.cons_append]
    obtain ⟨X0, hXX0⟩ : ∃ X : World, V2.drew = X := ⟨_, rfl⟩
    rw [hXX0] at hS ⊢
    clear hXX0
    refine take_op 0 (v := ?r3v0) rfl (by kernel_rfl) (fun _ _ _ h => h) (by rfl) hS (fun w' hS' => ?r3y0) ?r3z0
    case r3y0 =>
      go_simp
      rfl
    simp only [List.setIfInBounds_toArray, List.set_cons_zero, List.set_cons_succ]
    refine take_op 1 (v := ?r3v1) rfl (by kernel_rfl) (fun _ _ _ h => h) (by rfl) hS (fun w' hS' => ?r3y1) ?r3z1
    case r3y1 =>
      go_simp
      rfl
    simp only [List.setIfInBounds_toArray, List.set_cons_zero, List.set_cons_succ]
    refine take_op 2 (v := ?r3v2) rfl (by kernel_rfl) (fun _ _ _ h => h) (by rfl) hS (fun w' hS' => ?r3y2) ?r3z2
    case r3y2 =>
      have fm0 := (k2.below hS' l2).cell (i := 0) rfl
      have fm1 := (k2.below hS' l2).cell (i := 1) rfl
      have fm2 := (k2.below hS' l2).cell (i := 2) rfl
      have fm3 := (k2.below hS' l2).cell (i := 3) rfl
      have fm4 := (k2.below hS' l2).cell (i := 4) rfl
      have fm5 := (k2.below hS' l2).cell (i := 5) rfl
      have fm6 := (k2.below hS' l2).cell (i := 6) rfl
      have fm7 := (k2.below hS' l2).cell (i := 7) rfl
      have fm8 := (k2.below hS' l2).cell (i := 8) rfl
      have fm9 := (k2.below hS' l2).cell (i := 9) rfl
      have fm10 := (k2.below hS' l2).cell (i := 10) rfl
      have fm11 := (k2.below hS' l2).cell (i := 11) rfl
      have fm12 := (k2.below hS' l2).cell (i := 12) rfl
      have fm13 := (k2.below hS' l2).cell (i := 13) rfl
      have fm14 := (k2.below hS' l2).cell (i := 14) rfl
      have fm15 := (k2.below hS' l2).cell (i := 15) rfl
      have fy0 := (hS'.cell (p := ⟨b, o + A * 3, none⟩) hbV).trans y0
      have fy1 := (hS'.cell (p := ⟨b, o + A * 3 + 1, none⟩) hbV).trans y1
      have fy2 := (hS'.cell (p := ⟨b, o + A * 3 + 2, none⟩) hbV).trans y2
      clear hS'
      go_simp
      rfl
    simp only [List.setIfInBounds_toArray, List.set_cons_zero, List.set_cons_succ]
    refine take_op 3 (v := ?r3v3) rfl (by kernel_rfl) (fun _ _ _ h => h) (by rfl) hS (fun w' hS' => ?r3y3) ?r3z3
    case r3y3 =>
      go_simp
      try go_ints
      first
      | rfl
      | (rw [if_pos (by omega)]; done)
      | rw [if_pos ⟨by omega, by omega⟩]
    simp only [List.setIfInBounds_toArray, List.set_cons_zero, List.set_cons_succ]
    refine take_op 4 (v := ?r3v4) rfl (by kernel_rfl) (fun _ _ _ h => h) (by rfl) hS (fun w' hS' => ?r3y4) ?r3z4
    case r3y4 =>
      have fm0 := (k2.below hS' l2).cell (i := 0) rfl
      have fm1 := (k2.below hS' l2).cell (i := 1) rfl
      have fm2 := (k2.below hS' l2).cell (i := 2) rfl
      have fm3 := (k2.below hS' l2).cell (i := 3) rfl
      have fm4 := (k2.below hS' l2).cell (i := 4) rfl
      have fm5 := (k2.below hS' l2).cell (i := 5) rfl
      have fm6 := (k2.below hS' l2).cell (i := 6) rfl
      have fm7 := (k2.below hS' l2).cell (i := 7) rfl
      have fm8 := (k2.below hS' l2).cell (i := 8) rfl
      have fm9 := (k2.below hS' l2).cell (i := 9) rfl
      have fm10 := (k2.below hS' l2).cell (i := 10) rfl
      have fm11 := (k2.below hS' l2).cell (i := 11) rfl
      have fm12 := (k2.below hS' l2).cell (i := 12) rfl
      have fm13 := (k2.below hS' l2).cell (i := 13) rfl
      have fm14 := (k2.below hS' l2).cell (i := 14) rfl
      have fm15 := (k2.below hS' l2).cell (i := 15) rfl
      have fy0 := (hS'.cell (p := ⟨b, o + A * 3, none⟩) hbV).trans y0
      have fy1 := (hS'.cell (p := ⟨b, o + A * 3 + 1, none⟩) hbV).trans y1
      have fy2 := (hS'.cell (p := ⟨b, o + A * 3 + 2, none⟩) hbV).trans y2
      clear hS'
      go_simp
      rfl
    simp only [List.setIfInBounds_toArray, List.set_cons_zero, List.set_cons_succ]
    refine take_op 5 (v := ?r3v5) rfl (by kernel_rfl) (fun _ _ _ h => h) (by rfl) hS (fun w' hS' => ?r3y5) ?r3z5
    case r3y5 =>
      go_simp
      rfl
    simp only [List.setIfInBounds_toArray, List.set_cons_zero, List.set_cons_succ]
    refine take_op 6 (v := ?r3v6) rfl (by kernel_rfl) (fun _ _ _ h => h) (by rfl) hS (fun w' hS' => ?r3y6) ?r3z6
    case r3y6 =>
      have fm0 := (k2.below hS' l2).cell (i := 0) rfl
      have fm1 := (k2.below hS' l2).cell (i := 1) rfl
      have fm2 := (k2.below hS' l2).cell (i := 2) rfl
      have fm3 := (k2.below hS' l2).cell (i := 3) rfl
      have fm4 := (k2.below hS' l2).cell (i := 4) rfl
      have fm5 := (k2.below hS' l2).cell (i := 5) rfl
      have fm6 := (k2.below hS' l2).cell (i := 6) rfl
      have fm7 := (k2.below hS' l2).cell (i := 7) rfl
      have fm8 := (k2.below hS' l2).cell (i := 8) rfl
      have fm9 := (k2.below hS' l2).cell (i := 9) rfl
      have fm10 := (k2.below hS' l2).cell (i := 10) rfl
      have fm11 := (k2.below hS' l2).cell (i := 11) rfl
      have fm12 := (k2.below hS' l2).cell (i := 12) rfl
      have fm13 := (k2.below hS' l2).cell (i := 13) rfl
      have fm14 := (k2.below hS' l2).cell (i := 14) rfl
      have fm15 := (k2.below hS' l2).cell (i := 15) rfl
      have fy0 := (hS'.cell (p := ⟨b, o + A * 3, none⟩) hbV).trans y0
      have fy1 := (hS'.cell (p := ⟨b, o + A * 3 + 1, none⟩) hbV).trans y1
      have fy2 := (hS'.cell (p := ⟨b, o + A * 3 + 2, none⟩) hbV).trans y2
      clear hS'
      go_simp
      rfl
    simp only [List.setIfInBounds_toArray, List.set_cons_zero, List.set_cons_succ]
    refine step_op 7 (by kernel_rfl) rfl (fun K hK => ?_)
    rw [if_pos (by rfl)]
    go_simp
    have hc := Point_any mw mh pa pc l mx hlH s.pt X0 hxl (later_i rA hS)
    unfold RetIm at hc
    rw [hR] at hc
    refine hc.mono ?_
    clear hc
    rintro e X1 ⟨⟨v, rfl, t1, rfl, hrow⟩, hb⟩
    obtain ⟨qa, qc, rfl⟩ := row_slice hrow
    have hrowb := jrow_weaken hrow (show w.heap.size ≤ X0.heap.size by have := hS.size; have := hB.size; omega)
    have hS1 : Below V2.heap.size V2 X1 := hS.trans (hb.mono hS.size)
    clear hb hrow
    refine hK.out _ _ (fun h => hS1) ?_
    clear hK K
    try simp only [Act.put, List.setIfInBounds_toArray, List.set_cons_zero, List.set_cons_succ]
    refine take_op 8 (v := ?r3v8) rfl (by kernel_rfl) (fun _ _ _ h => h) (by rfl) hS1 (fun w' hS' => ?r3y8) ?r3z8
    case r3y8 =>
      go_simp
      rfl
    simp only [List.setIfInBounds_toArray, List.set_cons_zero, List.set_cons_succ]
    refine take_op 9 (v := ?r3v9) rfl (by kernel_rfl) (fun _ _ _ h => h) (by rfl) hS1 (fun w' hS' => ?r3y9) ?r3z9
    case r3y9 =>
      go_simp
      rfl
    simp only [List.setIfInBounds_toArray, List.set_cons_zero, List.set_cons_succ]
    refine step_op 10 (by kernel_rfl) rfl (fun K hK => ?_)
    have kz := k4.below hS1 l4
    have z0 := kz.cell (i := 0) rfl
    have z1 := kz.cell (i := 1) rfl
    have z2 := kz.cell (i := 2) rfl
    have fz0 := kz.frozen 0
    have fz1 := kz.frozen 1
    have fz2 := kz.frozen 2
    rw [if_pos (by rfl)]
    go_simp
    refine hK.out _ _ (fun h => absurd h (by omega)) ?_
    clear hK K
    try simp only [Act.put, List.setIfInBounds_toArray, List.set_cons_zero, List.set_cons_succ]
    refine step_op 11 (by kernel_rfl) rfl (fun K hK => ?_)
    rw [if_pos (by rfl)]
    go_simp
    refine hK.out _ _ (fun h => absurd h (by omega)) ?_
    clear hK K
    try simp only [Act.put, List.setIfInBounds_toArray, List.set_cons_zero, List.set_cons_succ]
    refine done_ops (by kernel_rfl) ?_
    have kf := put3_blk kz (.int .i64 R.w) (.int .i64 R.h) (.slice qa R.px.length qc)
    have rowf := row_put3b hrowb (kz.not_row (by decide) hrowb) (.int .i64 R.w) (.int .i64 R.h) (.slice qa R.px.length qc)
    have hbf : Below w.heap.size w (put3 X1 (V1.heap.size) (.int .i64 R.w) (.int .i64 R.h) (.slice qa R.px.length qc)) := (hB.trans (hS1.mono hB.size)).trans (put3_below hle4 _ _ _)
    have g0 := kf.cell (i := 0) rfl
    have g1 := kf.cell (i := 1) rfl
    have g2 := kf.cell (i := 2) rfl
    go_wp2_with fail
    exact bodyPost_ret (v := .tuple #[imv R.w R.h qa R.px.length qc, .int .i64 R.err]) (by simp [results, Try.results33, go_sem, g0, g1, g2]) rfl ⟨⟨_, rfl, _, rfl, rowf⟩, hbf⟩
  case neg =>
    have f1 : (s.op == 1) = false := by simp [h1]
    rw [if_neg h1] at hR
    clear h1
    by_cases h2 : s.op = 2
    case pos =>
      have f2 : (s.op == 2) = true := by simp [h2]
      rw [if_pos h2] at hR
      obtain ⟨hb1, hb2⟩ := hBb h2
      clear h2
      obtain ⟨D, rfl⟩ : ∃ D : Nat, D0 = (D : Int) := ⟨D0.toNat, by omega⟩
      have hDn : D < n := by omega
      obtain ⟨b', o', hbb, _, pb, pd, t0, t1, t2, rD, _⟩ := hrdA D hDn
      simp only [Option.some.injEq, Addr.mk.injEq, and_true] at hbb
      obtain ⟨rfl, rfl⟩ := hbb
      rw [Int.toNat_natCast] at hR
      obtain ⟨⟨nw, nh, nx⟩, hM2⟩ : ∃ M, picAt ms D = M := ⟨_, rfl⟩
      rw [hM2] at t0 t1 t2 rD hR
      have hyl : nx.length ≤ 9223372036854775807 := by have := hplH.out D hDn; rw [hM2] at this; exact this
      simp only at t0 t1 t2 rD hR
      obtain ⟨l', hl'⟩ : ∃ l, nx.length = l := ⟨_, rfl⟩
      rw [hl'] at t2 hyl
      have hlH' := Lib.hid hl'
      have y0' := (hB.cell (p := ⟨b, o + D * 3, none⟩) hbl0).trans t0
      have y1' := (hB.cell (p := ⟨b, o + D * 3 + 1, none⟩) hbl0).trans t1
      have y2' := (hB.cell (p := ⟨b, o + D * 3 + 2, none⟩) hbl0).trans t2
      replace rD := later_i rD hB
      clear hl' hM2
      go_enter Try.func33, Try.ntmps33
      have hS : Below V2.heap.size V2 V2.drew := (Below.refl _ _).drew
      go_wp2_with fail
      refine plain_region (fun W' => Below V2.heap.size V2 W') 15 17 (by kernel_rfl) rfl ?_
      simp only [Array.replicate_succ, Array.replicate_zero, List.push_toArray, List.nil_append, List.cons_append]
      obtain ⟨X0, hXX0⟩ : ∃ X : World, V2.drew = X := ⟨_, rfl⟩
      rw [hXX0] at hS ⊢
      clear hXX0
      refine take_op 0 (v := ?r5v0) rfl (by kernel_rfl) (fun _ _ _ h => h) (by rfl) hS (fun w' hS' => ?r5y0) ?r5z0
      case r5y0 =>
        go_simp
        rfl
      simp only [List.setIfInBounds_toArray, List.set_cons_zero, List.set_cons_succ]
      refine take_op 1 (v := ?r5v1) rfl (by kernel_rfl) (fun _ _ _ h => h) (by rfl) hS (fun w' hS' => ?r5y1) ?r5z1
      case r5y1 =>
        go_simp
        rfl
      simp only [List.setIfInBounds_toArray, List.set_cons_zero, List.set_cons_succ]
      refine take_op 2 (v := ?r5v2) rfl (by kernel_rfl) (fun _ _ _ h => h) (by rfl) hS (fun w' hS' => ?r5y2) ?r5z2
      case r5y2 =>
        have fm0 := (k2.below hS' l2).cell (i := 0) rfl
        have fm1 := (k2.below hS' l2).cell (i := 1) rfl
        have fm2 := (k2.below hS' l2).cell (i := 2) rfl
        have fm3 := (k2.below hS' l2).cell (i := 3) rfl
        have fm4 := (k2.below hS' l2).cell (i := 4) rfl
        have fm5 := (k2.below hS' l2).cell (i := 5) rfl
        have fm6 := (k2.below hS' l2).cell (i := 6) rfl
        have fm7 := (k2.below hS' l2).cell (i := 7) rfl
        have fm8 := (k2.below hS' l2).cell (i := 8) rfl
        have fm9 := (k2.below hS' l2).cell (i := 9) rfl
        have fm10 := (k2.below hS' l2).cell (i := 10) rfl
        have fm11 := (k2.below hS' l2).cell (i := 11) rfl
        have fm12 := (k2.below hS' l2).cell (i := 12) rfl
        have fm13 := (k2.below hS' l2).cell (i := 13) rfl
        have fm14 := (k2.below hS' l2).cell (i := 14) rfl
        have fm15 := (k2.below hS' l2).cell (i := 15) rfl
        have fy0 := (hS'.cell (p := ⟨b, o + A * 3, none⟩) hbV).trans y0
        have fy1 := (hS'.cell (p := ⟨b, o + A * 3 + 1, none⟩) hbV).trans y1
        have fy2 := (hS'.cell (p := ⟨b, o + A * 3 + 2, none⟩) hbV).trans y2
        have fq0 := (hS'.cell (p := ⟨b, o + D * 3, none⟩) hbV).trans y0'
        have fq1 := (hS'.cell (p := ⟨b, o + D * 3 + 1, none⟩) hbV).trans y1'
        have fq2 := (hS'.cell (p := ⟨b, o + D * 3 + 2, none⟩) hbV).trans y2'
        clear hS'
        go_simp
        rfl
      simp only [List.setIfInBounds_toArray, List.set_cons_zero, List.set_cons_succ]
      refine take_op 3 (v := ?r5v3) rfl (by kernel_rfl) (fun _ _ _ h => h) (by rfl) hS (fun w' hS' => ?r5y3) ?r5z3
      case r5y3 =>
        go_simp
        try go_ints
        first
        | rfl
        | (rw [if_pos (by omega)]; done)
        | rw [if_pos ⟨by omega, by omega⟩]
      simp only [List.setIfInBounds_toArray, List.set_cons_zero, List.set_cons_succ]
      refine take_op 4 (v := ?r5v4) rfl (by kernel_rfl) (fun _ _ _ h => h) (by rfl) hS (fun w' hS' => ?r5y4) ?r5z4
      case r5y4 =>
        have fm0 := (k2.below hS' l2).cell (i := 0) rfl
        have fm1 := (k2.below hS' l2).cell (i := 1) rfl
        have fm2 := (k2.below hS' l2).cell (i := 2) rfl
        have fm3 := (k2.below hS' l2).cell (i := 3) rfl
        have fm4 := (k2.below hS' l2).cell (i := 4) rfl
        have fm5 := (k2.below hS' l2).cell (i := 5) rfl
        have fm6 := (k2.below hS' l2).cell (i := 6) rfl
        have fm7 := (k2.below hS' l2).cell (i := 7) rfl
        have fm8 := (k2.below hS' l2).cell (i := 8) rfl
        have fm9 := (k2.below hS' l2).cell (i := 9) rfl
        have fm10 := (k2.below hS' l2).cell (i := 10) rfl
        have fm11 := (k2.below hS' l2).cell (i := 11) rfl
        have fm12 := (k2.below hS' l2).cell (i := 12) rfl
        have fm13 := (k2.below hS' l2).cell (i := 13) rfl
        have fm14 := (k2.below hS' l2).cell (i := 14) rfl
        have fm15 := (k2.below hS' l2).cell (i := 15) rfl
        have fy0 := (hS'.cell (p := ⟨b, o + A * 3, none⟩) hbV).trans y0
        have fy1 := (hS'.cell (p := ⟨b, o + A * 3 + 1, none⟩) hbV).trans y1
        have fy2 := (hS'.cell (p := ⟨b, o + A * 3 + 2, none⟩) hbV).trans y2
        have fq0 := (hS'.cell (p := ⟨b, o + D * 3, none⟩) hbV).trans y0'
        have fq1 := (hS'.cell (p := ⟨b, o + D * 3 + 1, none⟩) hbV).trans y1'
        have fq2 := (hS'.cell (p := ⟨b, o + D * 3 + 2, none⟩) hbV).trans y2'
        clear hS'
        go_simp
        rfl
      simp only [List.setIfInBounds_toArray, List.set_cons_zero, List.set_cons_succ]
      refine take_op 5 (v := ?r5v5) rfl (by kernel_rfl) (fun _ _ _ h => h) (by rfl) hS (fun w' hS' => ?r5y5) ?r5z5
      case r5y5 =>
        go_simp
        rfl
      simp only [List.setIfInBounds_toArray, List.set_cons_zero, List.set_cons_succ]
      refine take_op 6 (v := ?r5v6) rfl (by kernel_rfl) (fun _ _ _ h => h) (by rfl) hS (fun w' hS' => ?r5y6) ?r5z6
      case r5y6 =>
        go_simp
        rfl
      simp only [List.setIfInBounds_toArray, List.set_cons_zero, List.set_cons_succ]
      refine take_op 7 (v := ?r5v7) rfl (by kernel_rfl) (fun _ _ _ h => h) (by rfl) hS (fun w' hS' => ?r5y7) ?r5z7
      case r5y7 =>
        have fm0 := (k2.below hS' l2).cell (i := 0) rfl
        have fm1 := (k2.below hS' l2).cell (i := 1) rfl
        have fm2 := (k2.below hS' l2).cell (i := 2) rfl
        have fm3 := (k2.below hS' l2).cell (i := 3) rfl
        have fm4 := (k2.below hS' l2).cell (i := 4) rfl
        have fm5 := (k2.below hS' l2).cell (i := 5) rfl
        have fm6 := (k2.below hS' l2).cell (i := 6) rfl
        have fm7 := (k2.below hS' l2).cell (i := 7) rfl
        have fm8 := (k2.below hS' l2).cell (i := 8) rfl
        have fm9 := (k2.below hS' l2).cell (i := 9) rfl
        have fm10 := (k2.below hS' l2).cell (i := 10) rfl
        have fm11 := (k2.below hS' l2).cell (i := 11) rfl
        have fm12 := (k2.below hS' l2).cell (i := 12) rfl
        have fm13 := (k2.below hS' l2).cell (i := 13) rfl
        have fm14 := (k2.below hS' l2).cell (i := 14) rfl
        have fm15 := (k2.below hS' l2).cell (i := 15) rfl
        have fy0 := (hS'.cell (p := ⟨b, o + A * 3, none⟩) hbV).trans y0
        have fy1 := (hS'.cell (p := ⟨b, o + A * 3 + 1, none⟩) hbV).trans y1
        have fy2 := (hS'.cell (p := ⟨b, o + A * 3 + 2, none⟩) hbV).trans y2
        have fq0 := (hS'.cell (p := ⟨b, o + D * 3, none⟩) hbV).trans y0'
        have fq1 := (hS'.cell (p := ⟨b, o + D * 3 + 1, none⟩) hbV).trans y1'
        have fq2 := (hS'.cell (p := ⟨b, o + D * 3 + 2, none⟩) hbV).trans y2'
        clear hS'
        go_simp
        rfl
      simp only [List.setIfInBounds_toArray, List.set_cons_zero, List.set_cons_succ]
      refine take_op 8 (v := ?r5v8) rfl (by kernel_rfl) (fun _ _ _ h => h) (by rfl) hS (fun w' hS' => ?r5y8) ?r5z8
      case r5y8 =>
        go_simp
        try go_ints
        first
        | rfl
        | (rw [if_pos (by omega)]; done)
        | rw [if_pos ⟨by omega, by omega⟩]
      simp only [List.setIfInBounds_toArray, List.set_cons_zero, List.set_cons_succ]
      refine take_op 9 (v := ?r5v9) rfl (by kernel_rfl) (fun _ _ _ h => h) (by rfl) hS (fun w' hS' => ?r5y9) ?r5z9
      case r5y9 =>
        have fm0 := (k2.below hS' l2).cell (i := 0) rfl
        have fm1 := (k2.below hS' l2).cell (i := 1) rfl
        have fm2 := (k2.below hS' l2).cell (i := 2) rfl
        have fm3 := (k2.below hS' l2).cell (i := 3) rfl
        have fm4 := (k2.below hS' l2).cell (i := 4) rfl
        have fm5 := (k2.below hS' l2).cell (i := 5) rfl
        have fm6 := (k2.below hS' l2).cell (i := 6) rfl
        have fm7 := (k2.below hS' l2).cell (i := 7) rfl
        have fm8 := (k2.below hS' l2).cell (i := 8) rfl
        have fm9 := (k2.below hS' l2).cell (i := 9) rfl
        have fm10 := (k2.below hS' l2).cell (i := 10) rfl
        have fm11 := (k2.below hS' l2).cell (i := 11) rfl
        have fm12 := (k2.below hS' l2).cell (i := 12) rfl
        have fm13 := (k2.below hS' l2).cell (i := 13) rfl
        have fm14 := (k2.below hS' l2).cell (i := 14) rfl
        have fm15 := (k2.below hS' l2).cell (i := 15) rfl
        have fy0 := (hS'.cell (p := ⟨b, o + A * 3, none⟩) hbV).trans y0
        have fy1 := (hS'.cell (p := ⟨b, o + A * 3 + 1, none⟩) hbV).trans y1
        have fy2 := (hS'.cell (p := ⟨b, o + A * 3 + 2, none⟩) hbV).trans y2
        have fq0 := (hS'.cell (p := ⟨b, o + D * 3, none⟩) hbV).trans y0'
        have fq1 := (hS'.cell (p := ⟨b, o + D * 3 + 1, none⟩) hbV).trans y1'
        have fq2 := (hS'.cell (p := ⟨b, o + D * 3 + 2, none⟩) hbV).trans y2'
        clear hS'
        go_simp
        rfl
      simp only [List.setIfInBounds_toArray, List.set_cons_zero, List.set_cons_succ]
      refine take_op 10 (v := ?r5v10) rfl (by kernel_rfl) (fun _ _ _ h => h) (by rfl) hS (fun w' hS' => ?r5y10) ?r5z10
      case r5y10 =>
        go_simp
        rfl
      simp only [List.setIfInBounds_toArray, List.set_cons_zero, List.set_cons_succ]
      refine take_op 11 (v := ?r5v11) rfl (by kernel_rfl) (fun _ _ _ h => h) (by rfl) hS (fun w' hS' => ?r5y11) ?r5z11
      case r5y11 =>
        have fm0 := (k2.below hS' l2).cell (i := 0) rfl
        have fm1 := (k2.below hS' l2).cell (i := 1) rfl
        have fm2 := (k2.below hS' l2).cell (i := 2) rfl
        have fm3 := (k2.below hS' l2).cell (i := 3) rfl
        have fm4 := (k2.below hS' l2).cell (i := 4) rfl
        have fm5 := (k2.below hS' l2).cell (i := 5) rfl
        have fm6 := (k2.below hS' l2).cell (i := 6) rfl
        have fm7 := (k2.below hS' l2).cell (i := 7) rfl
        have fm8 := (k2.below hS' l2).cell (i := 8) rfl
        have fm9 := (k2.below hS' l2).cell (i := 9) rfl
        have fm10 := (k2.below hS' l2).cell (i := 10) rfl
        have fm11 := (k2.below hS' l2).cell (i := 11) rfl
        have fm12 := (k2.below hS' l2).cell (i := 12) rfl
        have fm13 := (k2.below hS' l2).cell (i := 13) rfl
        have fm14 := (k2.below hS' l2).cell (i := 14) rfl
        have fm15 := (k2.below hS' l2).cell (i := 15) rfl
        have fy0 := (hS'.cell (p := ⟨b, o + A * 3, none⟩) hbV).trans y0
        have fy1 := (hS'.cell (p := ⟨b, o + A * 3 + 1, none⟩) hbV).trans y1
        have fy2 := (hS'.cell (p := ⟨b, o + A * 3 + 2, none⟩) hbV).trans y2
        have fq0 := (hS'.cell (p := ⟨b, o + D * 3, none⟩) hbV).trans y0'
        have fq1 := (hS'.cell (p := ⟨b, o + D * 3 + 1, none⟩) hbV).trans y1'
        have fq2 := (hS'.cell (p := ⟨b, o + D * 3 + 2, none⟩) hbV).trans y2'
        clear hS'
        go_simp
        rfl
      simp only [List.setIfInBounds_toArray, List.set_cons_zero, List.set_cons_succ]
      refine step_op 12 (by kernel_rfl) rfl (fun K hK => ?_)
      rw [if_pos (by rfl)]
      go_simp
      have hc := Zip_any mw mh pa pc l mx hlH nw nh pb pd l' nx hlH' s.how hhow.1 hhow.2 X0 hxl hyl (later_i rA hS) (later_i rD hS)
      unfold RetIm at hc
      rw [hR] at hc
      refine hc.mono ?_
      clear hc
      rintro e X1 ⟨⟨v, rfl, t1, rfl, hrow⟩, hb⟩
      obtain ⟨qa, qc, rfl⟩ := row_slice hrow
      have hrowb := jrow_weaken hrow (show w.heap.size ≤ X0.heap.size by have := hS.size; have := hB.size; omega)
      have hS1 : Below V2.heap.size V2 X1 := hS.trans (hb.mono hS.size)
      clear hb hrow
      refine hK.out _ _ (fun h => hS1) ?_
      clear hK K
      try simp only [Act.put, List.setIfInBounds_toArray, List.set_cons_zero, List.set_cons_succ]
      refine take_op 13 (v := ?r5v13) rfl (by kernel_rfl) (fun _ _ _ h => h) (by rfl) hS1 (fun w' hS' => ?r5y13) ?r5z13
      case r5y13 =>
        go_simp
        rfl
      simp only [List.setIfInBounds_toArray, List.set_cons_zero, List.set_cons_succ]
      refine take_op 14 (v := ?r5v14) rfl (by kernel_rfl) (fun _ _ _ h => h) (by rfl) hS1 (fun w' hS' => ?r5y14) ?r5z14
      case r5y14 =>
        go_simp
        rfl
      simp only [List.setIfInBounds_toArray, List.set_cons_zero, List.set_cons_succ]
      refine step_op 15 (by kernel_rfl) rfl (fun K hK => ?_)
      have kz := k4.below hS1 l4
      have z0 := kz.cell (i := 0) rfl
      have z1 := kz.cell (i := 1) rfl
      have z2 := kz.cell (i := 2) rfl
      have fz0 := kz.frozen 0
      have fz1 := kz.frozen 1
      have fz2 := kz.frozen 2
      rw [if_pos (by rfl)]
      go_simp
      refine hK.out _ _ (fun h => absurd h (by omega)) ?_
      clear hK K
      try simp only [Act.put, List.setIfInBounds_toArray, List.set_cons_zero, List.set_cons_succ]
      refine step_op 16 (by kernel_rfl) rfl (fun K hK => ?_)
      rw [if_pos (by rfl)]
      go_simp
      refine hK.out _ _ (fun h => absurd h (by omega)) ?_
      clear hK K
      try simp only [Act.put, List.setIfInBounds_toArray, List.set_cons_zero, List.set_cons_succ]
      refine done_ops (by kernel_rfl) ?_
      have kf := put3_blk kz (.int .i64 R.w) (.int .i64 R.h) (.slice qa R.px.length qc)
      have rowf := row_put3b hrowb (kz.not_row (by decide) hrowb) (.int .i64 R.w) (.int .i64 R.h) (.slice qa R.px.length qc)
      have hbf : Below w.heap.size w (put3 X1 (V1.heap.size) (.int .i64 R.w) (.int .i64 R.h) (.slice qa R.px.length qc)) := (hB.trans (hS1.mono hB.size)).trans (put3_below hle4 _ _ _)
      have g0 := kf.cell (i := 0) rfl
      have g1 := kf.cell (i := 1) rfl
      have g2 := kf.cell (i := 2) rfl
      go_wp2_with fail
      exact bodyPost_ret (v := .tuple #[imv R.w R.h qa R.px.length qc, .int .i64 R.err]) (by simp [results, Try.results33, go_sem, g0, g1, g2]) rfl ⟨⟨_, rfl, _, rfl, rowf⟩, hbf⟩
    case neg =>
      have f2 : (s.op == 2) = false := by simp [h2]
      rw [if_neg h2] at hR
      clear h2
      by_cases h3 : s.op = 3
      case pos =>
        have f3 : (s.op == 3) = true := by simp [h3]
        rw [if_pos h3] at hR
        clear h3
        go_enter Try.func33, Try.ntmps33
        have hS : Below V2.heap.size V2 V2.drew := (Below.refl _ _).drew
        go_wp2_with fail
        refine plain_region (fun W' => Below V2.heap.size V2 W') 12 14 (by kernel_rfl) rfl ?_
        simp only [Array.replicate_succ, Array.replicate_zero, List.push_toArray, List.nil_append, List.cons_append]
        obtain ⟨X0, hXX0⟩ : ∃ X : World, V2.drew = X := ⟨_, rfl⟩
        rw [hXX0] at hS ⊢
        clear hXX0
        refine take_op 0 (v := ?r7v0) rfl (by kernel_rfl) (fun _ _ _ h => h) (by rfl) hS (fun w' hS' => ?r7y0) ?r7z0
        case r7y0 =>
          go_simp
          rfl
        simp only [List.setIfInBounds_toArray, List.set_cons_zero, List.set_cons_succ]
        refine take_op 1 (v := ?r7v1) rfl (by kernel_rfl) (fun _ _ _ h => h) (by rfl) hS (fun w' hS' => ?r7y1) ?r7z1
        case r7y1 =>
          go_simp
          rfl
        simp only [List.setIfInBounds_toArray, List.set_cons_zero, List.set_cons_succ]
        refine take_op 2 (v := ?r7v2) rfl (by kernel_rfl) (fun _ _ _ h => h) (by rfl) hS (fun w' hS' => ?r7y2) ?r7z2
        case r7y2 =>
          have fm0 := (k2.below hS' l2).cell (i := 0) rfl
          have fm1 := (k2.below hS' l2).cell (i := 1) rfl
          have fm2 := (k2.below hS' l2).cell (i := 2) rfl
          have fm3 := (k2.below hS' l2).cell (i := 3) rfl
          have fm4 := (k2.below hS' l2).cell (i := 4) rfl
          have fm5 := (k2.below hS' l2).cell (i := 5) rfl
          have fm6 := (k2.below hS' l2).cell (i := 6) rfl
          have fm7 := (k2.below hS' l2).cell (i := 7) rfl
          have fm8 := (k2.below hS' l2).cell (i := 8) rfl
          have fm9 := (k2.below hS' l2).cell (i := 9) rfl
          have fm10 := (k2.below hS' l2).cell (i := 10) rfl
          have fm11 := (k2.below hS' l2).cell (i := 11) rfl
          have fm12 := (k2.below hS' l2).cell (i := 12) rfl
          have fm13 := (k2.below hS' l2).cell (i := 13) rfl
          have fm14 := (k2.below hS' l2).cell (i := 14) rfl
          have fm15 := (k2.below hS' l2).cell (i := 15) rfl
          have fy0 := (hS'.cell (p := ⟨b, o + A * 3, none⟩) hbV).trans y0
          have fy1 := (hS'.cell (p := ⟨b, o + A * 3 + 1, none⟩) hbV).trans y1
          have fy2 := (hS'.cell (p := ⟨b, o + A * 3 + 2, none⟩) hbV).trans y2
          clear hS'
          go_simp
          rfl
        simp only [List.setIfInBounds_toArray, List.set_cons_zero, List.set_cons_succ]
        refine take_op 3 (v := ?r7v3) rfl (by kernel_rfl) (fun _ _ _ h => h) (by rfl) hS (fun w' hS' => ?r7y3) ?r7z3
        case r7y3 =>
          go_simp
          try go_ints
          first
          | rfl
          | (rw [if_pos (by omega)]; done)
          | rw [if_pos ⟨by omega, by omega⟩]
        simp only [List.setIfInBounds_toArray, List.set_cons_zero, List.set_cons_succ]
        refine take_op 4 (v := ?r7v4) rfl (by kernel_rfl) (fun _ _ _ h => h) (by rfl) hS (fun w' hS' => ?r7y4) ?r7z4
        case r7y4 =>
          have fm0 := (k2.below hS' l2).cell (i := 0) rfl
          have fm1 := (k2.below hS' l2).cell (i := 1) rfl
          have fm2 := (k2.below hS' l2).cell (i := 2) rfl
          have fm3 := (k2.below hS' l2).cell (i := 3) rfl
          have fm4 := (k2.below hS' l2).cell (i := 4) rfl
          have fm5 := (k2.below hS' l2).cell (i := 5) rfl
          have fm6 := (k2.below hS' l2).cell (i := 6) rfl
          have fm7 := (k2.below hS' l2).cell (i := 7) rfl
          have fm8 := (k2.below hS' l2).cell (i := 8) rfl
          have fm9 := (k2.below hS' l2).cell (i := 9) rfl
          have fm10 := (k2.below hS' l2).cell (i := 10) rfl
          have fm11 := (k2.below hS' l2).cell (i := 11) rfl
          have fm12 := (k2.below hS' l2).cell (i := 12) rfl
          have fm13 := (k2.below hS' l2).cell (i := 13) rfl
          have fm14 := (k2.below hS' l2).cell (i := 14) rfl
          have fm15 := (k2.below hS' l2).cell (i := 15) rfl
          have fy0 := (hS'.cell (p := ⟨b, o + A * 3, none⟩) hbV).trans y0
          have fy1 := (hS'.cell (p := ⟨b, o + A * 3 + 1, none⟩) hbV).trans y1
          have fy2 := (hS'.cell (p := ⟨b, o + A * 3 + 2, none⟩) hbV).trans y2
          clear hS'
          go_simp
          rfl
        simp only [List.setIfInBounds_toArray, List.set_cons_zero, List.set_cons_succ]
        refine take_op 5 (v := ?r7v5) rfl (by kernel_rfl) (fun _ _ _ h => h) (by rfl) hS (fun w' hS' => ?r7y5) ?r7z5
        case r7y5 =>
          go_simp
          rfl
        simp only [List.setIfInBounds_toArray, List.set_cons_zero, List.set_cons_succ]
        refine take_op 6 (v := ?r7v6) rfl (by kernel_rfl) (fun _ _ _ h => h) (by rfl) hS (fun w' hS' => ?r7y6) ?r7z6
        case r7y6 =>
          have fm0 := (k2.below hS' l2).cell (i := 0) rfl
          have fm1 := (k2.below hS' l2).cell (i := 1) rfl
          have fm2 := (k2.below hS' l2).cell (i := 2) rfl
          have fm3 := (k2.below hS' l2).cell (i := 3) rfl
          have fm4 := (k2.below hS' l2).cell (i := 4) rfl
          have fm5 := (k2.below hS' l2).cell (i := 5) rfl
          have fm6 := (k2.below hS' l2).cell (i := 6) rfl
          have fm7 := (k2.below hS' l2).cell (i := 7) rfl
          have fm8 := (k2.below hS' l2).cell (i := 8) rfl
          have fm9 := (k2.below hS' l2).cell (i := 9) rfl
          have fm10 := (k2.below hS' l2).cell (i := 10) rfl
          have fm11 := (k2.below hS' l2).cell (i := 11) rfl
          have fm12 := (k2.below hS' l2).cell (i := 12) rfl
          have fm13 := (k2.below hS' l2).cell (i := 13) rfl
          have fm14 := (k2.below hS' l2).cell (i := 14) rfl
          have fm15 := (k2.below hS' l2).cell (i := 15) rfl
          have fy0 := (hS'.cell (p := ⟨b, o + A * 3, none⟩) hbV).trans y0
          have fy1 := (hS'.cell (p := ⟨b, o + A * 3 + 1, none⟩) hbV).trans y1
          have fy2 := (hS'.cell (p := ⟨b, o + A * 3 + 2, none⟩) hbV).trans y2
          clear hS'
          go_simp
          rfl
        simp only [List.setIfInBounds_toArray, List.set_cons_zero, List.set_cons_succ]
        refine take_op 7 (v := ?r7v7) rfl (by kernel_rfl) (fun _ _ _ h => h) (by rfl) hS (fun w' hS' => ?r7y7) ?r7z7
        case r7y7 =>
          go_simp
          rfl
        simp only [List.setIfInBounds_toArray, List.set_cons_zero, List.set_cons_succ]
        refine take_op 8 (v := ?r7v8) rfl (by kernel_rfl) (fun _ _ _ h => h) (by rfl) hS (fun w' hS' => ?r7y8) ?r7z8
        case r7y8 =>
          have fm0 := (k2.below hS' l2).cell (i := 0) rfl
          have fm1 := (k2.below hS' l2).cell (i := 1) rfl
          have fm2 := (k2.below hS' l2).cell (i := 2) rfl
          have fm3 := (k2.below hS' l2).cell (i := 3) rfl
          have fm4 := (k2.below hS' l2).cell (i := 4) rfl
          have fm5 := (k2.below hS' l2).cell (i := 5) rfl
          have fm6 := (k2.below hS' l2).cell (i := 6) rfl
          have fm7 := (k2.below hS' l2).cell (i := 7) rfl
          have fm8 := (k2.below hS' l2).cell (i := 8) rfl
          have fm9 := (k2.below hS' l2).cell (i := 9) rfl
          have fm10 := (k2.below hS' l2).cell (i := 10) rfl
          have fm11 := (k2.below hS' l2).cell (i := 11) rfl
          have fm12 := (k2.below hS' l2).cell (i := 12) rfl
          have fm13 := (k2.below hS' l2).cell (i := 13) rfl
          have fm14 := (k2.below hS' l2).cell (i := 14) rfl
          have fm15 := (k2.below hS' l2).cell (i := 15) rfl
          have fy0 := (hS'.cell (p := ⟨b, o + A * 3, none⟩) hbV).trans y0
          have fy1 := (hS'.cell (p := ⟨b, o + A * 3 + 1, none⟩) hbV).trans y1
          have fy2 := (hS'.cell (p := ⟨b, o + A * 3 + 2, none⟩) hbV).trans y2
          clear hS'
          go_simp
          rfl
        simp only [List.setIfInBounds_toArray, List.set_cons_zero, List.set_cons_succ]
        refine step_op 9 (by kernel_rfl) rfl (fun K hK => ?_)
        rw [if_pos (by rfl)]
        go_simp
        have hc := Convolve_any mw mh pa pc l mx hlH s.kw s.kh ka kc tl s.taps htlH s.bd hbdr.1 hbdr.2 X0 hxl (later_i rA hS) htl (later_i ht hS)
        unfold RetIm at hc
        rw [hR] at hc
        refine hc.mono ?_
        clear hc
        rintro e X1 ⟨⟨v, rfl, t1, rfl, hrow⟩, hb⟩
        obtain ⟨qa, qc, rfl⟩ := row_slice hrow
        have hrowb := jrow_weaken hrow (show w.heap.size ≤ X0.heap.size by have := hS.size; have := hB.size; omega)
        have hS1 : Below V2.heap.size V2 X1 := hS.trans (hb.mono hS.size)
        clear hb hrow
        refine hK.out _ _ (fun h => hS1) ?_
        clear hK K
        try simp only [Act.put, List.setIfInBounds_toArray, List.set_cons_zero, List.set_cons_succ]
        refine take_op 10 (v := ?r7v10) rfl (by kernel_rfl) (fun _ _ _ h => h) (by rfl) hS1 (fun w' hS' => ?r7y10) ?r7z10
        case r7y10 =>
          go_simp
          rfl
        simp only [List.setIfInBounds_toArray, List.set_cons_zero, List.set_cons_succ]
        refine take_op 11 (v := ?r7v11) rfl (by kernel_rfl) (fun _ _ _ h => h) (by rfl) hS1 (fun w' hS' => ?r7y11) ?r7z11
        case r7y11 =>
          go_simp
          rfl
        simp only [List.setIfInBounds_toArray, List.set_cons_zero, List.set_cons_succ]
        refine step_op 12 (by kernel_rfl) rfl (fun K hK => ?_)
        have kz := k4.below hS1 l4
        have z0 := kz.cell (i := 0) rfl
        have z1 := kz.cell (i := 1) rfl
        have z2 := kz.cell (i := 2) rfl
        have fz0 := kz.frozen 0
        have fz1 := kz.frozen 1
        have fz2 := kz.frozen 2
        rw [if_pos (by rfl)]
        go_simp
        refine hK.out _ _ (fun h => absurd h (by omega)) ?_
        clear hK K
        try simp only [Act.put, List.setIfInBounds_toArray, List.set_cons_zero, List.set_cons_succ]
        refine step_op 13 (by kernel_rfl) rfl (fun K hK => ?_)
        rw [if_pos (by rfl)]
        go_simp
        refine hK.out _ _ (fun h => absurd h (by omega)) ?_
        clear hK K
        try simp only [Act.put, List.setIfInBounds_toArray, List.set_cons_zero, List.set_cons_succ]
        refine done_ops (by kernel_rfl) ?_
        have kf := put3_blk kz (.int .i64 R.w) (.int .i64 R.h) (.slice qa R.px.length qc)
        have rowf := row_put3b hrowb (kz.not_row (by decide) hrowb) (.int .i64 R.w) (.int .i64 R.h) (.slice qa R.px.length qc)
        have hbf : Below w.heap.size w (put3 X1 (V1.heap.size) (.int .i64 R.w) (.int .i64 R.h) (.slice qa R.px.length qc)) := (hB.trans (hS1.mono hB.size)).trans (put3_below hle4 _ _ _)
        have g0 := kf.cell (i := 0) rfl
        have g1 := kf.cell (i := 1) rfl
        have g2 := kf.cell (i := 2) rfl
        go_wp2_with fail
        exact bodyPost_ret (v := .tuple #[imv R.w R.h qa R.px.length qc, .int .i64 R.err]) (by simp [results, Try.results33, go_sem, g0, g1, g2]) rfl ⟨⟨_, rfl, _, rfl, rowf⟩, hbf⟩
      case neg =>
        have f3 : (s.op == 3) = false := by simp [h3]
        rw [if_neg h3] at hR
        clear h3
        by_cases h4 : s.op = 4
        case pos =>
          have f4 : (s.op == 4) = true := by simp [h4]
          rw [if_pos h4] at hR
          clear h4
          go_enter Try.func33, Try.ntmps33
          have hS : Below V2.heap.size V2 V2.drew := (Below.refl _ _).drew
          go_wp2_with fail
          refine plain_region (fun W' => Below V2.heap.size V2 W') 10 12 (by kernel_rfl) rfl ?_
          simp only [Array.replicate_succ, Array.replicate_zero, List.push_toArray, List.nil_append, List.cons_append]
          obtain ⟨X0, hXX0⟩ : ∃ X : World, V2.drew = X := ⟨_, rfl⟩
          rw [hXX0] at hS ⊢
          clear hXX0
          refine take_op 0 (v := ?r9v0) rfl (by kernel_rfl) (fun _ _ _ h => h) (by rfl) hS (fun w' hS' => ?r9y0) ?r9z0
          case r9y0 =>
            go_simp
            rfl
          simp only [List.setIfInBounds_toArray, List.set_cons_zero, List.set_cons_succ]
          refine take_op 1 (v := ?r9v1) rfl (by kernel_rfl) (fun _ _ _ h => h) (by rfl) hS (fun w' hS' => ?r9y1) ?r9z1
          case r9y1 =>
            go_simp
            rfl
          simp only [List.setIfInBounds_toArray, List.set_cons_zero, List.set_cons_succ]
          refine take_op 2 (v := ?r9v2) rfl (by kernel_rfl) (fun _ _ _ h => h) (by rfl) hS (fun w' hS' => ?r9y2) ?r9z2
          case r9y2 =>
            have fm0 := (k2.below hS' l2).cell (i := 0) rfl
            have fm1 := (k2.below hS' l2).cell (i := 1) rfl
            have fm2 := (k2.below hS' l2).cell (i := 2) rfl
            have fm3 := (k2.below hS' l2).cell (i := 3) rfl
            have fm4 := (k2.below hS' l2).cell (i := 4) rfl
            have fm5 := (k2.below hS' l2).cell (i := 5) rfl
            have fm6 := (k2.below hS' l2).cell (i := 6) rfl
            have fm7 := (k2.below hS' l2).cell (i := 7) rfl
            have fm8 := (k2.below hS' l2).cell (i := 8) rfl
            have fm9 := (k2.below hS' l2).cell (i := 9) rfl
            have fm10 := (k2.below hS' l2).cell (i := 10) rfl
            have fm11 := (k2.below hS' l2).cell (i := 11) rfl
            have fm12 := (k2.below hS' l2).cell (i := 12) rfl
            have fm13 := (k2.below hS' l2).cell (i := 13) rfl
            have fm14 := (k2.below hS' l2).cell (i := 14) rfl
            have fm15 := (k2.below hS' l2).cell (i := 15) rfl
            have fy0 := (hS'.cell (p := ⟨b, o + A * 3, none⟩) hbV).trans y0
            have fy1 := (hS'.cell (p := ⟨b, o + A * 3 + 1, none⟩) hbV).trans y1
            have fy2 := (hS'.cell (p := ⟨b, o + A * 3 + 2, none⟩) hbV).trans y2
            clear hS'
            go_simp
            rfl
          simp only [List.setIfInBounds_toArray, List.set_cons_zero, List.set_cons_succ]
          refine take_op 3 (v := ?r9v3) rfl (by kernel_rfl) (fun _ _ _ h => h) (by rfl) hS (fun w' hS' => ?r9y3) ?r9z3
          case r9y3 =>
            go_simp
            try go_ints
            first
            | rfl
            | (rw [if_pos (by omega)]; done)
            | rw [if_pos ⟨by omega, by omega⟩]
          simp only [List.setIfInBounds_toArray, List.set_cons_zero, List.set_cons_succ]
          refine take_op 4 (v := ?r9v4) rfl (by kernel_rfl) (fun _ _ _ h => h) (by rfl) hS (fun w' hS' => ?r9y4) ?r9z4
          case r9y4 =>
            have fm0 := (k2.below hS' l2).cell (i := 0) rfl
            have fm1 := (k2.below hS' l2).cell (i := 1) rfl
            have fm2 := (k2.below hS' l2).cell (i := 2) rfl
            have fm3 := (k2.below hS' l2).cell (i := 3) rfl
            have fm4 := (k2.below hS' l2).cell (i := 4) rfl
            have fm5 := (k2.below hS' l2).cell (i := 5) rfl
            have fm6 := (k2.below hS' l2).cell (i := 6) rfl
            have fm7 := (k2.below hS' l2).cell (i := 7) rfl
            have fm8 := (k2.below hS' l2).cell (i := 8) rfl
            have fm9 := (k2.below hS' l2).cell (i := 9) rfl
            have fm10 := (k2.below hS' l2).cell (i := 10) rfl
            have fm11 := (k2.below hS' l2).cell (i := 11) rfl
            have fm12 := (k2.below hS' l2).cell (i := 12) rfl
            have fm13 := (k2.below hS' l2).cell (i := 13) rfl
            have fm14 := (k2.below hS' l2).cell (i := 14) rfl
            have fm15 := (k2.below hS' l2).cell (i := 15) rfl
            have fy0 := (hS'.cell (p := ⟨b, o + A * 3, none⟩) hbV).trans y0
            have fy1 := (hS'.cell (p := ⟨b, o + A * 3 + 1, none⟩) hbV).trans y1
            have fy2 := (hS'.cell (p := ⟨b, o + A * 3 + 2, none⟩) hbV).trans y2
            clear hS'
            go_simp
            rfl
          simp only [List.setIfInBounds_toArray, List.set_cons_zero, List.set_cons_succ]
          refine take_op 5 (v := ?r9v5) rfl (by kernel_rfl) (fun _ _ _ h => h) (by rfl) hS (fun w' hS' => ?r9y5) ?r9z5
          case r9y5 =>
            go_simp
            rfl
          simp only [List.setIfInBounds_toArray, List.set_cons_zero, List.set_cons_succ]
          refine take_op 6 (v := ?r9v6) rfl (by kernel_rfl) (fun _ _ _ h => h) (by rfl) hS (fun w' hS' => ?r9y6) ?r9z6
          case r9y6 =>
            have fm0 := (k2.below hS' l2).cell (i := 0) rfl
            have fm1 := (k2.below hS' l2).cell (i := 1) rfl
            have fm2 := (k2.below hS' l2).cell (i := 2) rfl
            have fm3 := (k2.below hS' l2).cell (i := 3) rfl
            have fm4 := (k2.below hS' l2).cell (i := 4) rfl
            have fm5 := (k2.below hS' l2).cell (i := 5) rfl
            have fm6 := (k2.below hS' l2).cell (i := 6) rfl
            have fm7 := (k2.below hS' l2).cell (i := 7) rfl
            have fm8 := (k2.below hS' l2).cell (i := 8) rfl
            have fm9 := (k2.below hS' l2).cell (i := 9) rfl
            have fm10 := (k2.below hS' l2).cell (i := 10) rfl
            have fm11 := (k2.below hS' l2).cell (i := 11) rfl
            have fm12 := (k2.below hS' l2).cell (i := 12) rfl
            have fm13 := (k2.below hS' l2).cell (i := 13) rfl
            have fm14 := (k2.below hS' l2).cell (i := 14) rfl
            have fm15 := (k2.below hS' l2).cell (i := 15) rfl
            have fy0 := (hS'.cell (p := ⟨b, o + A * 3, none⟩) hbV).trans y0
            have fy1 := (hS'.cell (p := ⟨b, o + A * 3 + 1, none⟩) hbV).trans y1
            have fy2 := (hS'.cell (p := ⟨b, o + A * 3 + 2, none⟩) hbV).trans y2
            clear hS'
            go_simp
            rfl
          simp only [List.setIfInBounds_toArray, List.set_cons_zero, List.set_cons_succ]
          refine step_op 7 (by kernel_rfl) rfl (fun K hK => ?_)
          rw [if_pos (by rfl)]
          go_simp
          have hc := Dilate_any mw mh pa pc l mx hlH s.sw s.sh sa sc bl s.bits hblH X0 hxl (later_i rA hS) hbl ((hbt.below (Nat.le_refl _) hS).mono hS.size)
          unfold RetIm at hc
          rw [hR] at hc
          refine hc.mono ?_
          clear hc
          rintro e X1 ⟨⟨v, rfl, t1, rfl, hrow⟩, hb⟩
          obtain ⟨qa, qc, rfl⟩ := row_slice hrow
          have hrowb := jrow_weaken hrow (show w.heap.size ≤ X0.heap.size by have := hS.size; have := hB.size; omega)
          have hS1 : Below V2.heap.size V2 X1 := hS.trans (hb.mono hS.size)
          clear hb hrow
          refine hK.out _ _ (fun h => hS1) ?_
          clear hK K
          try simp only [Act.put, List.setIfInBounds_toArray, List.set_cons_zero, List.set_cons_succ]
          refine take_op 8 (v := ?r9v8) rfl (by kernel_rfl) (fun _ _ _ h => h) (by rfl) hS1 (fun w' hS' => ?r9y8) ?r9z8
          case r9y8 =>
            go_simp
            rfl
          simp only [List.setIfInBounds_toArray, List.set_cons_zero, List.set_cons_succ]
          refine take_op 9 (v := ?r9v9) rfl (by kernel_rfl) (fun _ _ _ h => h) (by rfl) hS1 (fun w' hS' => ?r9y9) ?r9z9
          case r9y9 =>
            go_simp
            rfl
          simp only [List.setIfInBounds_toArray, List.set_cons_zero, List.set_cons_succ]
          refine step_op 10 (by kernel_rfl) rfl (fun K hK => ?_)
          have kz := k4.below hS1 l4
          have z0 := kz.cell (i := 0) rfl
          have z1 := kz.cell (i := 1) rfl
          have z2 := kz.cell (i := 2) rfl
          have fz0 := kz.frozen 0
          have fz1 := kz.frozen 1
          have fz2 := kz.frozen 2
          rw [if_pos (by rfl)]
          go_simp
          refine hK.out _ _ (fun h => absurd h (by omega)) ?_
          clear hK K
          try simp only [Act.put, List.setIfInBounds_toArray, List.set_cons_zero, List.set_cons_succ]
          refine step_op 11 (by kernel_rfl) rfl (fun K hK => ?_)
          rw [if_pos (by rfl)]
          go_simp
          refine hK.out _ _ (fun h => absurd h (by omega)) ?_
          clear hK K
          try simp only [Act.put, List.setIfInBounds_toArray, List.set_cons_zero, List.set_cons_succ]
          refine done_ops (by kernel_rfl) ?_
          have kf := put3_blk kz (.int .i64 R.w) (.int .i64 R.h) (.slice qa R.px.length qc)
          have rowf := row_put3b hrowb (kz.not_row (by decide) hrowb) (.int .i64 R.w) (.int .i64 R.h) (.slice qa R.px.length qc)
          have hbf : Below w.heap.size w (put3 X1 (V1.heap.size) (.int .i64 R.w) (.int .i64 R.h) (.slice qa R.px.length qc)) := (hB.trans (hS1.mono hB.size)).trans (put3_below hle4 _ _ _)
          have g0 := kf.cell (i := 0) rfl
          have g1 := kf.cell (i := 1) rfl
          have g2 := kf.cell (i := 2) rfl
          go_wp2_with fail
          exact bodyPost_ret (v := .tuple #[imv R.w R.h qa R.px.length qc, .int .i64 R.err]) (by simp [results, Try.results33, go_sem, g0, g1, g2]) rfl ⟨⟨_, rfl, _, rfl, rowf⟩, hbf⟩
        case neg =>
          have f4 : (s.op == 4) = false := by simp [h4]
          rw [if_neg h4] at hR
          clear h4
          by_cases h5 : s.op = 5
          case pos =>
            have f5 : (s.op == 5) = true := by simp [h5]
            rw [if_pos h5] at hR
            clear h5
            go_enter Try.func33, Try.ntmps33
            have hS : Below V2.heap.size V2 V2.drew := (Below.refl _ _).drew
            go_wp2_with fail
            refine plain_region (fun W' => Below V2.heap.size V2 W') 10 12 (by kernel_rfl) rfl ?_
            simp only [Array.replicate_succ, Array.replicate_zero, List.push_toArray, List.nil_append, List.cons_append]
            obtain ⟨X0, hXX0⟩ : ∃ X : World, V2.drew = X := ⟨_, rfl⟩
            rw [hXX0] at hS ⊢
            clear hXX0
            refine take_op 0 (v := ?r11v0) rfl (by kernel_rfl) (fun _ _ _ h => h) (by rfl) hS (fun w' hS' => ?r11y0) ?r11z0
            case r11y0 =>
              go_simp
              rfl
            simp only [List.setIfInBounds_toArray, List.set_cons_zero, List.set_cons_succ]
            refine take_op 1 (v := ?r11v1) rfl (by kernel_rfl) (fun _ _ _ h => h) (by rfl) hS (fun w' hS' => ?r11y1) ?r11z1
            case r11y1 =>
              go_simp
              rfl
            simp only [List.setIfInBounds_toArray, List.set_cons_zero, List.set_cons_succ]
            refine take_op 2 (v := ?r11v2) rfl (by kernel_rfl) (fun _ _ _ h => h) (by rfl) hS (fun w' hS' => ?r11y2) ?r11z2
            case r11y2 =>
              have fm0 := (k2.below hS' l2).cell (i := 0) rfl
              have fm1 := (k2.below hS' l2).cell (i := 1) rfl
              have fm2 := (k2.below hS' l2).cell (i := 2) rfl
              have fm3 := (k2.below hS' l2).cell (i := 3) rfl
              have fm4 := (k2.below hS' l2).cell (i := 4) rfl
              have fm5 := (k2.below hS' l2).cell (i := 5) rfl
              have fm6 := (k2.below hS' l2).cell (i := 6) rfl
              have fm7 := (k2.below hS' l2).cell (i := 7) rfl
              have fm8 := (k2.below hS' l2).cell (i := 8) rfl
              have fm9 := (k2.below hS' l2).cell (i := 9) rfl
              have fm10 := (k2.below hS' l2).cell (i := 10) rfl
              have fm11 := (k2.below hS' l2).cell (i := 11) rfl
              have fm12 := (k2.below hS' l2).cell (i := 12) rfl
              have fm13 := (k2.below hS' l2).cell (i := 13) rfl
              have fm14 := (k2.below hS' l2).cell (i := 14) rfl
              have fm15 := (k2.below hS' l2).cell (i := 15) rfl
              have fy0 := (hS'.cell (p := ⟨b, o + A * 3, none⟩) hbV).trans y0
              have fy1 := (hS'.cell (p := ⟨b, o + A * 3 + 1, none⟩) hbV).trans y1
              have fy2 := (hS'.cell (p := ⟨b, o + A * 3 + 2, none⟩) hbV).trans y2
              clear hS'
              go_simp
              rfl
            simp only [List.setIfInBounds_toArray, List.set_cons_zero, List.set_cons_succ]
            refine take_op 3 (v := ?r11v3) rfl (by kernel_rfl) (fun _ _ _ h => h) (by rfl) hS (fun w' hS' => ?r11y3) ?r11z3
            case r11y3 =>
              go_simp
              try go_ints
              first
              | rfl
              | (rw [if_pos (by omega)]; done)
              | rw [if_pos ⟨by omega, by omega⟩]
            simp only [List.setIfInBounds_toArray, List.set_cons_zero, List.set_cons_succ]
            refine take_op 4 (v := ?r11v4) rfl (by kernel_rfl) (fun _ _ _ h => h) (by rfl) hS (fun w' hS' => ?r11y4) ?r11z4
            case r11y4 =>
              have fm0 := (k2.below hS' l2).cell (i := 0) rfl
              have fm1 := (k2.below hS' l2).cell (i := 1) rfl
              have fm2 := (k2.below hS' l2).cell (i := 2) rfl
              have fm3 := (k2.below hS' l2).cell (i := 3) rfl
              have fm4 := (k2.below hS' l2).cell (i := 4) rfl
              have fm5 := (k2.below hS' l2).cell (i := 5) rfl
              have fm6 := (k2.below hS' l2).cell (i := 6) rfl
              have fm7 := (k2.below hS' l2).cell (i := 7) rfl
              have fm8 := (k2.below hS' l2).cell (i := 8) rfl
              have fm9 := (k2.below hS' l2).cell (i := 9) rfl
              have fm10 := (k2.below hS' l2).cell (i := 10) rfl
              have fm11 := (k2.below hS' l2).cell (i := 11) rfl
              have fm12 := (k2.below hS' l2).cell (i := 12) rfl
              have fm13 := (k2.below hS' l2).cell (i := 13) rfl
              have fm14 := (k2.below hS' l2).cell (i := 14) rfl
              have fm15 := (k2.below hS' l2).cell (i := 15) rfl
              have fy0 := (hS'.cell (p := ⟨b, o + A * 3, none⟩) hbV).trans y0
              have fy1 := (hS'.cell (p := ⟨b, o + A * 3 + 1, none⟩) hbV).trans y1
              have fy2 := (hS'.cell (p := ⟨b, o + A * 3 + 2, none⟩) hbV).trans y2
              clear hS'
              go_simp
              rfl
            simp only [List.setIfInBounds_toArray, List.set_cons_zero, List.set_cons_succ]
            refine take_op 5 (v := ?r11v5) rfl (by kernel_rfl) (fun _ _ _ h => h) (by rfl) hS (fun w' hS' => ?r11y5) ?r11z5
            case r11y5 =>
              go_simp
              rfl
            simp only [List.setIfInBounds_toArray, List.set_cons_zero, List.set_cons_succ]
            refine take_op 6 (v := ?r11v6) rfl (by kernel_rfl) (fun _ _ _ h => h) (by rfl) hS (fun w' hS' => ?r11y6) ?r11z6
            case r11y6 =>
              have fm0 := (k2.below hS' l2).cell (i := 0) rfl
              have fm1 := (k2.below hS' l2).cell (i := 1) rfl
              have fm2 := (k2.below hS' l2).cell (i := 2) rfl
              have fm3 := (k2.below hS' l2).cell (i := 3) rfl
              have fm4 := (k2.below hS' l2).cell (i := 4) rfl
              have fm5 := (k2.below hS' l2).cell (i := 5) rfl
              have fm6 := (k2.below hS' l2).cell (i := 6) rfl
              have fm7 := (k2.below hS' l2).cell (i := 7) rfl
              have fm8 := (k2.below hS' l2).cell (i := 8) rfl
              have fm9 := (k2.below hS' l2).cell (i := 9) rfl
              have fm10 := (k2.below hS' l2).cell (i := 10) rfl
              have fm11 := (k2.below hS' l2).cell (i := 11) rfl
              have fm12 := (k2.below hS' l2).cell (i := 12) rfl
              have fm13 := (k2.below hS' l2).cell (i := 13) rfl
              have fm14 := (k2.below hS' l2).cell (i := 14) rfl
              have fm15 := (k2.below hS' l2).cell (i := 15) rfl
              have fy0 := (hS'.cell (p := ⟨b, o + A * 3, none⟩) hbV).trans y0
              have fy1 := (hS'.cell (p := ⟨b, o + A * 3 + 1, none⟩) hbV).trans y1
              have fy2 := (hS'.cell (p := ⟨b, o + A * 3 + 2, none⟩) hbV).trans y2
              clear hS'
              go_simp
              rfl
            simp only [List.setIfInBounds_toArray, List.set_cons_zero, List.set_cons_succ]
            refine step_op 7 (by kernel_rfl) rfl (fun K hK => ?_)
            rw [if_pos (by rfl)]
            go_simp
            have hc := Erode_any mw mh pa pc l mx hlH s.sw s.sh sa sc bl s.bits hblH X0 hxl (later_i rA hS) hbl ((hbt.below (Nat.le_refl _) hS).mono hS.size)
            unfold RetIm at hc
            rw [hR] at hc
            refine hc.mono ?_
            clear hc
            rintro e X1 ⟨⟨v, rfl, t1, rfl, hrow⟩, hb⟩
            obtain ⟨qa, qc, rfl⟩ := row_slice hrow
            have hrowb := jrow_weaken hrow (show w.heap.size ≤ X0.heap.size by have := hS.size; have := hB.size; omega)
            have hS1 : Below V2.heap.size V2 X1 := hS.trans (hb.mono hS.size)
            clear hb hrow
            refine hK.out _ _ (fun h => hS1) ?_
            clear hK K
            try simp only [Act.put, List.setIfInBounds_toArray, List.set_cons_zero, List.set_cons_succ]
            refine take_op 8 (v := ?r11v8) rfl (by kernel_rfl) (fun _ _ _ h => h) (by rfl) hS1 (fun w' hS' => ?r11y8) ?r11z8
            case r11y8 =>
              go_simp
              rfl
            simp only [List.setIfInBounds_toArray, List.set_cons_zero, List.set_cons_succ]
            refine take_op 9 (v := ?r11v9) rfl (by kernel_rfl) (fun _ _ _ h => h) (by rfl) hS1 (fun w' hS' => ?r11y9) ?r11z9
            case r11y9 =>
              go_simp
              rfl
            simp only [List.setIfInBounds_toArray, List.set_cons_zero, List.set_cons_succ]
            refine step_op 10 (by kernel_rfl) rfl (fun K hK => ?_)
            have kz := k4.below hS1 l4
            have z0 := kz.cell (i := 0) rfl
            have z1 := kz.cell (i := 1) rfl
            have z2 := kz.cell (i := 2) rfl
            have fz0 := kz.frozen 0
            have fz1 := kz.frozen 1
            have fz2 := kz.frozen 2
            rw [if_pos (by rfl)]
            go_simp
            refine hK.out _ _ (fun h => absurd h (by omega)) ?_
            clear hK K
            try simp only [Act.put, List.setIfInBounds_toArray, List.set_cons_zero, List.set_cons_succ]
            refine step_op 11 (by kernel_rfl) rfl (fun K hK => ?_)
            rw [if_pos (by rfl)]
            go_simp
            refine hK.out _ _ (fun h => absurd h (by omega)) ?_
            clear hK K
            try simp only [Act.put, List.setIfInBounds_toArray, List.set_cons_zero, List.set_cons_succ]
            refine done_ops (by kernel_rfl) ?_
            have kf := put3_blk kz (.int .i64 R.w) (.int .i64 R.h) (.slice qa R.px.length qc)
            have rowf := row_put3b hrowb (kz.not_row (by decide) hrowb) (.int .i64 R.w) (.int .i64 R.h) (.slice qa R.px.length qc)
            have hbf : Below w.heap.size w (put3 X1 (V1.heap.size) (.int .i64 R.w) (.int .i64 R.h) (.slice qa R.px.length qc)) := (hB.trans (hS1.mono hB.size)).trans (put3_below hle4 _ _ _)
            have g0 := kf.cell (i := 0) rfl
            have g1 := kf.cell (i := 1) rfl
            have g2 := kf.cell (i := 2) rfl
            go_wp2_with fail
            exact bodyPost_ret (v := .tuple #[imv R.w R.h qa R.px.length qc, .int .i64 R.err]) (by simp [results, Try.results33, go_sem, g0, g1, g2]) rfl ⟨⟨_, rfl, _, rfl, rowf⟩, hbf⟩
          case neg =>
            have f5 : (s.op == 5) = false := by simp [h5]
            rw [if_neg h5] at hR
            clear h5
            subst hR
            have q0 := k4.frozen 0
            have kf := put3_blk k4 (.int .i64 0) (.int .i64 0) (.slice none 0 0)
            have hbf : Below w.heap.size w (put3 V2 (V1.heap.size) (.int .i64 0) (.int .i64 0) (.slice none 0 0)) := hB.trans (put3_below hle4 _ _ _)
            have g0 := kf.cell (i := 0) rfl
            have g1 := kf.cell (i := 1) rfl
            have g2 := kf.cell (i := 2) rfl
            go_enter Try.func33, Try.ntmps33
            go_wp2_with fail
            exact bodyPost_ret (v := .tuple #[imv 0 0 none 0 0, .int .i64 30]) (by simp [results, Try.results33, go_sem, g0, g1, g2]) rfl ⟨⟨_, rfl, _, rfl, World.ownsRow_nil _ _ _ _⟩, hbf⟩

end Go.Proofs.Ytekiemlniegddaa

namespace Go.Proofs.Ytekiemlniegddaa
open Go Go.RowKit Go.Shelf
set_option linter.unusedVariables false
set_option linter.unusedSimpArgs false

/-! ### append of what can be read, nil or not -/

theorem run_append_none0 {P : Program} {w : World} (base : Nat) (t ty e : TypeId) (i : TypeInfo) (size : Nat) (ht : P.underlying t = some (.slice e)) (hi : P.info? e = some i)
    (v : Value) (n : Nat) (xs : List Value) (hown : w.ownsRow base e size v n xs) (c : Nat) : (Builtin.append_ #[t, t] ty #[v, .slice none 0 c]).run P w = .ok v w := by
  rcases hown.2 with ⟨rfl, rfl⟩ | ⟨g, cap, cur, rfl, _, _, hnc, _⟩
  · simp [Builtin.append_, run_underlying ht, sizeOf, typeInfo, hi, Builtin.lenOf, Builtin.firstCells]
  · simp [Builtin.append_, run_underlying ht, sizeOf, typeInfo, hi, Builtin.lenOf, Builtin.firstCells, hnc, storeCells]

theorem grownBy_self (w : World) (row : Option Nat) : w.grownBy w row := ⟨rfl, rfl, rfl, Nat.le_refl _, fun _ _ _ => rfl⟩

/-- What stands at an address that may be none. -/
def NewsAt (W : World) (a : Option Addr) (m : Nat) (news : List Value) : Prop := (a = none ∧ m = 0) ∨ ∃ ad, a = some ad ∧ ∀ j u, news[j]? = some u → W.cell? (ad.add j) = some u

theorem addr_add (b o j : Nat) : (⟨b, o, none⟩ : Addr).add j = ⟨b, o + j, none⟩ := by unfold Addr.add; split <;> simp_all
theorem RdN.news {B : Nat} {W : World} {a : Option Addr} {xs : List Nat} {m : Nat} (h : RdN B W a xs) (hm : xs.length = m) : NewsAt W a m (xs.map vu8) := by
  subst hm
  cases a with
  | none =>
    rcases h with h | ⟨b, o, h1, _⟩
    · subst h; exact .inl ⟨rfl, rfl⟩
    · cases h1
  | some ad =>
    refine .inr ⟨ad, rfl, fun j u hu => ?_⟩
    rcases h with h | ⟨b, o, h1, h2, h3⟩
    · subst h; simp at hu
    · simp only [Option.some.injEq] at h1
      subst h1
      have hj : j < xs.length := by
        rcases Nat.lt_or_ge j xs.length with h | h
        · exact h
        · rw [List.getElem?_eq_none (by simpa using h)] at hu; cases hu
      rw [addr_add, h3 j hj]
      simp [hj, vu8] at hu ⊢
      exact hu
theorem Rd.news {B : Nat} {W : World} {a : Option Addr} {xs : List Int} {m : Nat} (h : Rd B W a xs) (hm : xs.length = m) : NewsAt W a m (xs.map (Value.int .i64)) := by
  subst hm
  cases a with
  | none =>
    rcases h with h | ⟨b, o, h1, _⟩
    · subst h; exact .inl ⟨rfl, rfl⟩
    · cases h1
  | some ad =>
    refine .inr ⟨ad, rfl, fun j u hu => ?_⟩
    rcases h with h | ⟨b, o, h1, h2, h3⟩
    · subst h; simp at hu
    · simp only [Option.some.injEq] at h1
      subst h1
      have hj : j < xs.length := by
        rcases Nat.lt_or_ge j xs.length with h | h
        · exact h
        · rw [List.getElem?_eq_none (by simpa using h)] at hu; cases hu
      rw [addr_add, h3 j hj]
      simp [hj] at hu ⊢
      exact hu
theorem NewsAt.below {W W' : World} {B : Nat} {a : Option Addr} {m : Nat} {news : List Value} (h : NewsAt W a m news) (hb : Below B W W') (ha : ∀ ad, a = some ad → ad.block < B) : NewsAt W' a m news := by
  rcases h with h | ⟨ad, rfl, h2⟩
  · exact .inl h
  · exact .inr ⟨ad, rfl, fun j u hu => by
      rw [hb.cell (by have := ha ad rfl; unfold Addr.add; split <;> exact this)]
      exact h2 j u hu⟩

end Go.Proofs.Ytekiemlniegddaa

namespace Go.Proofs.Ytekiemlniegddaa
open Go Go.RowKit Go.Shelf
set_option linter.unusedVariables false
set_option linter.unusedSimpArgs false

/-- A picture in memory. -/
structure PicA where
  p : PicN
  a : Option Addr
  c : Nat
def picCells (x : PicA) : List Value := [.int .i64 x.p.w, .int .i64 x.p.h, .slice x.a x.p.px.length x.c]
def flatC : List PicA → List Value
  | [] => []
  | x :: l => picCells x ++ flatC l
theorem flatC_append : ∀ l k : List PicA, flatC (l ++ k) = flatC l ++ flatC k
  | [], k => rfl
  | x :: l, k => by show picCells x ++ flatC (l ++ k) = picCells x ++ flatC l ++ flatC k; rw [flatC_append l k, List.append_assoc]
theorem flatC_length : ∀ l : List PicA, (flatC l).length = l.length * 3
  | [] => rfl
  | x :: l => by show (picCells x ++ flatC l).length = _; rw [List.length_append, flatC_length l, List.length_cons]; show 3 + _ = _; omega
theorem flatC_one : ∀ (l : List PicA), ∀ u ∈ flatC l, u.oneCell' = true
  | [], u, h => by cases h
  | x :: l, u, h => by
    rcases List.mem_append.1 (show u ∈ picCells x ++ flatC l from h) with h | h
    · simp only [picCells, List.mem_cons, List.not_mem_nil, or_false] at h
      rcases h with rfl | rfl | rfl <;> rfl
    · exact flatC_one l u h
theorem flatC_at : ∀ (l : List PicA) (i : Nat) (x : PicA), l[i]? = some x → ∀ j, j < 3 → (flatC l)[i * 3 + j]? = (picCells x)[j]?
  | [], i, x, h, j, hj => by simp at h
  | y :: l, 0, x, h, j, hj => by
    simp only [List.getElem?_cons_zero, Option.some.injEq] at h
    subst h
    show (picCells y ++ flatC l)[0 * 3 + j]? = _
    rw [List.getElem?_append_left (by show 0 * 3 + j < 3; omega)]
    simp
  | y :: l, i + 1, x, h, j, hj => by
    simp only [List.getElem?_cons_succ] at h
    show (picCells y ++ flatC l)[(i + 1) * 3 + j]? = _
    rw [List.getElem?_append_right (by show 3 ≤ (i + 1) * 3 + j; omega)]
    rw [show (i + 1) * 3 + j - (picCells y).length = i * 3 + j by show (i + 1) * 3 + j - 3 = _; omega]
    exact flatC_at l i x h j hj
/-- The slice at 'a' reads as 'xs', outside of the block 'K'. -/
def RdX (K : Option Nat) (W : World) (a : Option Addr) (c : Nat) (xs : List Int) : Prop := Rd W.heap.size W a xs ∧ (a = none → c = 0) ∧ (xs = [] ∨ ∀ ad, a = some ad → K ≠ some ad.block)
/-- The call's own list of images. -/
def OwnPs (B : Nat) (W : World) (v : Value) (ms : List PicN) : Prop :=
  ∃ l : List PicA, l.map PicA.p = ms ∧ W.ownsRow B 29 3 v l.length (flatC l) ∧ ∀ x ∈ l, RdX v.ownBlock W x.a x.c x.p.px
theorem OwnPs.later {B : Nat} {W W' : World} {v : Value} {ms : List PicN} (h : OwnPs B W v ms) (hb : Below W.heap.size W W') : OwnPs B W' v ms := by
  obtain ⟨l, h1, h2, h3⟩ := h
  exact ⟨l, h1, row_below h2 hb, fun x hx => ⟨later_i (h3 x hx).1 hb, (h3 x hx).2⟩⟩
theorem OwnPs.weaken {B B' : Nat} {W : World} {v : Value} {ms : List PicN} (h : OwnPs B W v ms) (hB : B' ≤ B) : OwnPs B' W v ms := by
  obtain ⟨l, h1, h2, h3⟩ := h
  exact ⟨l, h1, jrow_weaken h2 hB, h3⟩
theorem Rd.rowed {W W' : World} {K : Option Nat} {a : Option Addr} {xs : List Int} (h : Rd W.heap.size W a xs) (hx : xs = [] ∨ ∀ ad, a = some ad → K ≠ some ad.block) (hg : W.grownBy W' K) : Rd W'.heap.size W' a xs := by
  rcases h with h | ⟨b, o, h1, h2, h3⟩
  · exact .inl h
  · rcases hx with hx | hx
    · exact .inl hx
    · refine .inr ⟨b, o, h1, Nat.lt_of_lt_of_le h2 hg.size, fun i hi => ?_⟩
      rw [World.cell?_of_block (w := W) (hg.block b h2 (fun e => hx _ h1 e.symm))]
      exact h3 i hi
theorem OwnPs.nil (B : Nat) (W : World) : OwnPs B W (.slice none 0 0) [] := ⟨[], rfl, World.ownsRow_nil _ _ _ _, fun x hx => by cases hx⟩
theorem OwnPs.slice {B : Nat} {W : World} {v : Value} {ms : List PicN} (h : OwnPs B W v ms) : ∃ a c, v = .slice a ms.length c ∧ RdPs W.heap.size W a ms := by
  obtain ⟨l, rfl, h2, h3⟩ := h
  obtain ⟨a, c, rfl⟩ := row_slice h2
  refine ⟨a, c, by rw [List.length_map], ?_⟩
  rcases Nat.eq_zero_or_pos l.length with h0 | h0
  · left; rw [List.eq_nil_of_length_eq_zero h0]; rfl
  right
  rcases h2.2 with ⟨_, he⟩ | ⟨g, cap, cur, he, _⟩
  · omega
  simp only [Value.slice.injEq] at he
  obtain ⟨rfl, _, rfl⟩ := he
  refine ⟨g, 0, rfl, (h2.lt g rfl).2, fun i hi => ?_⟩
  rw [List.length_map] at hi
  have hx := List.getElem?_eq_getElem hi
  obtain ⟨x, hxe⟩ : ∃ x, l[i] = x := ⟨_, rfl⟩
  rw [hxe] at hx
  have hm : x ∈ l := hxe ▸ List.getElem_mem hi
  have hp : picAt (l.map PicA.p) i = x.p := by unfold picAt; rw [List.getElem?_map, hx]; rfl
  rw [hp]
  have hc := fun j (hj : j < 3) => (h2.cellAt (i * 3 + j) (by omega)).trans (flatC_at l i x hx j hj)
  refine ⟨x.a, x.c, ?_, ?_, ?_, (h3 x hm).1, (h3 x hm).2.1⟩
  · rw [show 0 + i * 3 = i * 3 + 0 by omega, hc 0 (by omega)]; rfl
  · rw [show 0 + i * 3 + 1 = i * 3 + 1 by omega, hc 1 (by omega)]; rfl
  · rw [show 0 + i * 3 + 2 = i * 3 + 2 by omega, hc 2 (by omega)]; rfl
/-- One image more. -/
theorem OwnPs.push {B : Nat} {W W' : World} {v v' : Value} {l : List PicA} {x : PicA} (h3 : ∀ x ∈ l, RdX v.ownBlock W x.a x.c x.p.px)
    (hx : Rd W.heap.size W x.a x.p.px) (hxc : x.a = none → x.c = 0) (hx2 : x.p.px = [] ∨ ∀ ad, x.a = some ad → v.ownBlock ≠ some ad.block)
    (hrow : W'.ownsRow B 29 3 v' (l.length + 1) (flatC l ++ picCells x)) (hg : W.grownBy W' v.ownBlock) (hat : v'.ownBlock = v.ownBlock ∨ v'.ownBlock = some W.heap.size) :
    OwnPs B W' v' (l.map PicA.p ++ [x.p]) := by
  have key : ∀ a c xs, RdX v.ownBlock W a c xs → RdX v'.ownBlock W' a c xs := fun a c xs h => by
    refine ⟨Rd.rowed h.1 h.2.2 hg, h.2.1, ?_⟩
    rcases hat with e | e
    · rw [e]; exact h.2.2
    · rw [e]
      rcases h.1 with hn | ⟨b, o, h1, h2, _⟩
      · exact .inl hn
      · right; intro ad had he; rw [h1] at had; cases had; simp at he; omega
  refine ⟨l ++ [x], by simp, ?_, fun y hy => ?_⟩
  · rw [List.length_append, List.length_singleton, flatC_append]
    show W'.ownsRow B _ 3 v' (l.length + 1) (flatC l ++ (picCells x ++ []))
    rw [List.append_nil]; exact hrow
  · rcases List.mem_append.1 hy with hy | hy
    · exact key _ _ _ (h3 y hy)
    · rw [List.mem_singleton.1 hy]; exact key _ _ _ ⟨hx, hxc, hx2⟩
/-- What can be read has its pictures in memory. -/
theorem RdPs.pics {B : Nat} {W : World} {a : Option Addr} {ms : List PicN} (h : RdPs B W a ms) :
    ∃ l : List PicA, l.map PicA.p = ms ∧ (ms = [] ∨ ∃ b o, a = some ⟨b, o, none⟩ ∧ b < B ∧ ∀ j u, (flatC l)[j]? = some u → W.cell? ⟨b, o + j, none⟩ = some u) ∧ ∀ x ∈ l, Rd B W x.a x.p.px ∧ (x.a = none → x.c = 0) := by
  rcases h with h | ⟨b, o, h1, h2, h3⟩
  · subst h; exact ⟨[], rfl, .inl rfl, fun x hx => by cases hx⟩
  · suffices hk : ∀ k, k ≤ ms.length → ∃ l : List PicA, l.map PicA.p = ms.take k ∧ (∀ j u, (flatC l)[j]? = some u → W.cell? ⟨b, o + j, none⟩ = some u) ∧ ∀ x ∈ l, Rd B W x.a x.p.px ∧ (x.a = none → x.c = 0) by
      obtain ⟨l, e1, e2, e3⟩ := hk ms.length (Nat.le_refl _)
      rw [List.take_length] at e1
      exact ⟨l, e1, .inr ⟨b, o, h1, h2, e2⟩, e3⟩
    intro k
    induction k with
    | zero => exact fun _ => ⟨[], rfl, fun j u hu => by simp [flatC] at hu, fun x hx => by cases hx⟩
    | succ k ih =>
      intro hk
      obtain ⟨l, e1, e2, e3⟩ := ih (by omega)
      obtain ⟨pa, pc, f1, f2, f3, f4, f5⟩ := h3 k (by omega)
      have hl : l.length = k := by have := congrArg List.length e1; rw [List.length_map, List.length_take] at this; omega
      refine ⟨l ++ [⟨picAt ms k, pa, pc⟩], ?_, fun j u hu => ?_, fun x hx => ?_⟩
      · rw [List.map_append, e1, List.take_succ_eq_append_getElem (by omega : k < ms.length)]
        congr 1
        show [picAt ms k] = _
        unfold picAt; rw [List.getElem?_eq_getElem (by omega)]; rfl
      · rw [flatC_append] at hu
        rcases Nat.lt_or_ge j (flatC l).length with hj | hj
        · rw [List.getElem?_append_left hj] at hu; exact e2 j u hu
        · rw [List.getElem?_append_right hj] at hu
          rw [flatC_length, hl] at hj hu
          obtain ⟨t, rfl⟩ : ∃ t, j = k * 3 + t := ⟨j - k * 3, by omega⟩
          rw [show k * 3 + t - k * 3 = t by omega] at hu
          show W.cell? ⟨b, o + (k * 3 + t), none⟩ = some u
          rw [← Nat.add_assoc]
          match t, hu with
          | 0, hu => simp [flatC, picCells] at hu; rw [← hu]; exact f1
          | 1, hu => simp [flatC, picCells] at hu; rw [← hu]; exact f2
          | 2, hu => simp [flatC, picCells] at hu; rw [← hu]; exact f3
          | t + 3, hu => simp [flatC, picCells] at hu
      · rcases List.mem_append.1 hx with hx | hx
        · exact e3 x hx
        · rw [List.mem_singleton.1 hx]; exact ⟨f4, f5⟩
/-- Behind append of all images of a list onto an empty row. -/
theorem OwnPs.all {B K : Nat} {W W' : World} {v v' : Value} {l : List PicA} (hl : ∀ x ∈ l, Rd K W x.a x.p.px ∧ (x.a = none → x.c = 0)) (hK : K ≤ W.heap.size) (hv : ∀ k, v.ownBlock = some k → K ≤ k)
    (hrow : W'.ownsRow B 29 3 v' l.length (flatC l)) (hg : W.grownBy W' v.ownBlock) (hat : v'.ownBlock = v.ownBlock ∨ v'.ownBlock = some W.heap.size) : OwnPs B W' v' (l.map PicA.p) := by
  refine ⟨l, rfl, hrow, fun x hx => ?_⟩
  obtain ⟨e1, e2⟩ := hl x hx
  have hk : ∀ q, q = v.ownBlock ∨ q = some W.heap.size → x.p.px = [] ∨ ∀ ad, x.a = some ad → q ≠ some ad.block := by
    intro q hq
    rcases e1 with hn | ⟨b, o, h1, h2, _⟩
    · exact .inl hn
    · right; intro ad had he
      rw [h1] at had; cases had
      rcases hq with hq | hq
      · have := hv b (hq ▸ he); omega
      · rw [hq] at he; simp at he; omega
  exact ⟨Rd.rowed (e1.mono hK) (hk _ (.inl rfl)) hg, e2, hk _ hat⟩
end Go.Proofs.Ytekiemlniegddaa

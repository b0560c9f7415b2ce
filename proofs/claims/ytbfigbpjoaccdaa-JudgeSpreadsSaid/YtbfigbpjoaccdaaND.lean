/- Networks in memory: slices of slices of ints, layers; ranges of one and of two numbers. -/
import Derived.Test.YtbfigbpjoaccdaaJB
import Derived.Test.YtbfigbpjoaccdaaNetB
namespace Go.Proofs.Ytbfigbpjoaccdaa
open Go Go.RowKit Go.Shelf
set_option linter.unusedVariables false
set_option linter.unusedSimpArgs false

/-- The slice at 'a' reads as the slices of ints 'xss', in blocks below 'B'. -/
def RdW (B : Nat) (W : World) (a : Option Addr) (xss : List (List Int)) : Prop :=
  xss = [] ∨ ∃ b o, a = some ⟨b, o, none⟩ ∧ b < B ∧ ∀ i, i < xss.length → ∃ a' c', W.cell? ⟨b, o + i, none⟩ = some (.slice a' (xss[i]?.getD []).length c') ∧ Rd B W a' (xss[i]?.getD [])
theorem RdW.below {B B' : Nat} {W W' : World} {a : Option Addr} {xss : List (List Int)} (h : RdW B W a xss) (hB : B ≤ B') (hb : Below B' W W') : RdW B W' a xss := by
  rcases h with h | ⟨b, o, h1, h2, h3⟩
  · exact .inl h
  · refine .inr ⟨b, o, h1, h2, fun i hi => ?_⟩
    obtain ⟨a', c', h4, h5⟩ := h3 i hi
    exact ⟨a', c', (hb.cell (p := ⟨b, o + i, none⟩) (by show b < B'; omega)).trans h4, h5.below hB hb⟩
theorem RdW.mono {B B' : Nat} {W : World} {a : Option Addr} {xss : List (List Int)} (h : RdW B W a xss) (hB : B ≤ B') : RdW B' W a xss := by
  rcases h with h | ⟨b, o, h1, h2, h3⟩
  · exact .inl h
  · refine .inr ⟨b, o, h1, by omega, fun i hi => ?_⟩
    obtain ⟨a', c', h4, h5⟩ := h3 i hi
    exact ⟨a', c', h4, h5.mono hB⟩
theorem RdW.at {B : Nat} {W : World} {a : Option Addr} {xss : List (List Int)} (h : RdW B W a xss) {i : Nat} (hi : i < xss.length) :
    ∃ b o, a = some ⟨b, o, none⟩ ∧ b < B ∧ ∃ a' c', W.cell? ⟨b, o + i, none⟩ = some (.slice a' (xss[i]?.getD []).length c') ∧ Rd B W a' (xss[i]?.getD []) := by
  rcases h with h | ⟨b, o, h1, h2, h3⟩
  · subst h; simp at hi
  · exact ⟨b, o, h1, h2, h3 i hi⟩

/-- The slice at 'a' reads as the layers 'Ls', in blocks below 'B'. -/
def RdLs (B : Nat) (W : World) (a : Option Addr) (Ls : List LayN) : Prop :=
  Ls = [] ∨ ∃ b o, a = some ⟨b, o, none⟩ ∧ b < B ∧ ∀ i, i < Ls.length → ∃ wa wc ba bc, W.cell? ⟨b, o + i * 2, none⟩ = some (.slice wa (layAt Ls i).ws.length wc) ∧ W.cell? ⟨b, o + i * 2 + 1, none⟩ = some (.slice ba (layAt Ls i).bs.length bc) ∧
    RdW B W wa (layAt Ls i).ws ∧ Rd B W ba (layAt Ls i).bs
theorem RdLs.below {B B' : Nat} {W W' : World} {a : Option Addr} {Ls : List LayN} (h : RdLs B W a Ls) (hB : B ≤ B') (hb : Below B' W W') : RdLs B W' a Ls := by
  rcases h with h | ⟨b, o, h1, h2, h3⟩
  · exact .inl h
  · refine .inr ⟨b, o, h1, h2, fun i hi => ?_⟩
    obtain ⟨wa, wc, ba, bc, h4, h5, h6, h7⟩ := h3 i hi
    exact ⟨wa, wc, ba, bc, (hb.cell (p := ⟨b, o + i * 2, none⟩) (by show b < B'; omega)).trans h4, (hb.cell (p := ⟨b, o + i * 2 + 1, none⟩) (by show b < B'; omega)).trans h5, h6.below hB hb, h7.below hB hb⟩
theorem RdLs.mono {B B' : Nat} {W : World} {a : Option Addr} {Ls : List LayN} (h : RdLs B W a Ls) (hB : B ≤ B') : RdLs B' W a Ls := by
  rcases h with h | ⟨b, o, h1, h2, h3⟩
  · exact .inl h
  · refine .inr ⟨b, o, h1, by omega, fun i hi => ?_⟩
    obtain ⟨wa, wc, ba, bc, h4, h5, h6, h7⟩ := h3 i hi
    exact ⟨wa, wc, ba, bc, h4, h5, h6.mono hB, h7.mono hB⟩
theorem RdLs.at {B : Nat} {W : World} {a : Option Addr} {Ls : List LayN} (h : RdLs B W a Ls) {i : Nat} (hi : i < Ls.length) :
    ∃ b o, a = some ⟨b, o, none⟩ ∧ b < B ∧ ∃ wa wc ba bc, W.cell? ⟨b, o + i * 2, none⟩ = some (.slice wa (layAt Ls i).ws.length wc) ∧ W.cell? ⟨b, o + i * 2 + 1, none⟩ = some (.slice ba (layAt Ls i).bs.length bc) ∧
      RdW B W wa (layAt Ls i).ws ∧ Rd B W ba (layAt Ls i).bs := by
  rcases h with h | ⟨b, o, h1, h2, h3⟩
  · subst h; simp at hi
  · exact ⟨b, o, h1, h2, h3 i hi⟩

/-- What is read later. -/
theorem later_i {W W' : World} {a : Option Addr} {xs : List Int} (h : Rd W.heap.size W a xs) (hb : Below W.heap.size W W') : Rd W'.heap.size W' a xs := (h.below (Nat.le_refl _) hb).mono hb.size
theorem later_w {W W' : World} {a : Option Addr} {xs : List (List Int)} (h : RdW W.heap.size W a xs) (hb : Below W.heap.size W W') : RdW W'.heap.size W' a xs := (h.below (Nat.le_refl _) hb).mono hb.size
theorem later_l {W W' : World} {a : Option Addr} {xs : List LayN} (h : RdLs W.heap.size W a xs) (hb : Below W.heap.size W W') : RdLs W'.heap.size W' a xs := (h.below (Nat.le_refl _) hb).mono hb.size

/-- A network's value. -/
abbrev netv (N : NetN) (a : Option Addr) (n c : Nat) : Value := .agg #[.int .i64 N.w, .int .i64 N.h, .int .i64 N.gx, .int .i64 N.gy, .slice a n c, .int .i64 N.low, .int .i64 N.high]
/-- No slice of a network is longer than any can be. -/
structure NetSz (N : NetN) : Prop where
  n : N.Ls.length ≤ 9223372036854775807
  ly : ∀ i, (layAt N.Ls i).ws.length ≤ 9223372036854775807 ∧ (layAt N.Ls i).bs.length ≤ 9223372036854775807
  row : ∀ i k : Nat, ((layAt N.Ls i).ws[k]?.getD []).length ≤ 9223372036854775807

theorem jw1 (lo hi x : Int) (v : Bool) (hv : nIn lo hi x = v) (b o c : Nat) (w : World) (h : w.cell? ⟨b, o, none⟩ = some (.int .i64 x)) :
    Calls Try.prog 23 #[.int .i64 lo, .int .i64 hi, .slice (some ⟨b, o, none⟩) 1 c] w fun e w' => e = .returned (.bool v) ∧ w = w' := by
  subst hv
  have h' := jwithin_any lo hi (some ⟨b, o, none⟩) c [x] w (by simp) (.inr ⟨b, o, rfl, World.block_lt_of_cell? w _ h, fun i hi => by
    have : i = 0 := by simp at hi; omega
    subst this; exact h⟩)
  simpa [allIn, nIn] using h'
theorem jw2 (lo hi x y : Int) (v : Bool) (hv : (nIn lo hi x && nIn lo hi y) = v) (b o c : Nat) (w : World) (h : w.cell? ⟨b, o, none⟩ = some (.int .i64 x)) (h1 : w.cell? ⟨b, o + 1, none⟩ = some (.int .i64 y)) :
    Calls Try.prog 23 #[.int .i64 lo, .int .i64 hi, .slice (some ⟨b, o, none⟩) 2 c] w fun e w' => e = .returned (.bool v) ∧ w = w' := by
  subst hv
  have h' := jwithin_any lo hi (some ⟨b, o, none⟩) c [x, y] w (by simp) (.inr ⟨b, o, rfl, World.block_lt_of_cell? w _ h, fun i hi => by
    have : i = 0 ∨ i = 1 := by simp at hi; omega
    rcases this with rfl | rfl
    · exact h
    · exact h1⟩)
  simpa [allIn, nIn] using h'
theorem jwn (lo hi : Int) (v : Bool) (xs : List Int) (hv : allIn lo hi xs = v) (a : Option Addr) (c n : Nat) (hn : xs.length = n) (hl : n ≤ 9223372036854775807) (w : World) (hr : Rd w.heap.size w a xs) :
    Calls Try.prog 23 #[.int .i64 lo, .int .i64 hi, .slice a n c] w fun e w' => e = .returned (.bool v) ∧ w = w' := by
  subst hv
  subst hn
  exact jwithin_any lo hi a c xs w hl hr

end Go.Proofs.Ytbfigbpjoaccdaa

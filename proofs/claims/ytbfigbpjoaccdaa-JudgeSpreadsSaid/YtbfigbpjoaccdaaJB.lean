/- Base of the judge texts: slices of bytes and slices of such slices that read as lists; ranges. -/
import Derived.Test.YtbfigbpjoaccdaaBase
import Derived.Test.YtbfigbpjoaccdaaProg
namespace Go.Proofs.Ytbfigbpjoaccdaa
open Go Go.RowKit Go.Shelf
set_option linter.unusedVariables false
set_option linter.unusedSimpArgs false

theorem jinfo_int : (Try.prog.info? 3).map (fun i => (i.zero, i.size, i.bytes)) = some (some (.int .i64 0), 1, 8) := by kernel_rfl
theorem jinfo_u8 : (Try.prog.info? 5).map (fun i => (i.zero, i.size, i.bytes)) = some (some (.int .u8 0), 1, 1) := by kernel_rfl

theorem jb_al {a w : World} (h : Below a.heap.size a w) (o : Obj) : Below a.heap.size a (w.alloc o) := h.alloc h.size o

/-- A byte. -/
def vu8 (x : Nat) : Value := .int .u8 (x : Int)

/-- The slice at 'a' reads as the bytes 'xs', in blocks below 'B'. -/
def RdN (B : Nat) (W : World) (a : Option Addr) (xs : List Nat) : Prop :=
  xs = [] ∨ ∃ b o, a = some ⟨b, o, none⟩ ∧ b < B ∧ ∀ i, i < xs.length → W.cell? ⟨b, o + i, none⟩ = some (.int .u8 ((xs[i]?.getD 0 : Nat) : Int))

theorem RdN.below {B B' : Nat} {W W' : World} {a : Option Addr} {xs : List Nat} (h : RdN B W a xs) (hB : B ≤ B') (hb : Below B' W W') : RdN B W' a xs := by
  rcases h with h | ⟨b, o, h1, h2, h3⟩
  · exact .inl h
  · exact .inr ⟨b, o, h1, h2, fun i hi => (hb.cell (p := ⟨b, o + i, none⟩) (by show b < B'; omega)).trans (h3 i hi)⟩
theorem RdN.mono {B B' : Nat} {W : World} {a : Option Addr} {xs : List Nat} (h : RdN B W a xs) (hB : B ≤ B') : RdN B' W a xs := by
  rcases h with h | ⟨b, o, h1, h2, h3⟩
  · exact .inl h
  · exact .inr ⟨b, o, h1, by omega, h3⟩

/-- The slice at 'a' reads as the slices of bytes 'xss', in blocks below 'B'. -/
def RdL (B : Nat) (W : World) (a : Option Addr) (xss : List (List Nat)) : Prop :=
  xss = [] ∨ ∃ b o, a = some ⟨b, o, none⟩ ∧ b < B ∧ ∀ i xs, xss[i]? = some xs → ∃ a' c', W.cell? ⟨b, o + i, none⟩ = some (.slice a' xs.length c') ∧ RdN B W a' xs

theorem RdL.below {B B' : Nat} {W W' : World} {a : Option Addr} {xss : List (List Nat)} (h : RdL B W a xss) (hB : B ≤ B') (hb : Below B' W W') : RdL B W' a xss := by
  rcases h with h | ⟨b, o, h1, h2, h3⟩
  · exact .inl h
  · refine .inr ⟨b, o, h1, h2, fun i xs hi => ?_⟩
    obtain ⟨a', c', h4, h5⟩ := h3 i xs hi
    exact ⟨a', c', (hb.cell (p := ⟨b, o + i, none⟩) (by show b < B'; omega)).trans h4, h5.below hB hb⟩
theorem RdL.mono {B B' : Nat} {W : World} {a : Option Addr} {xss : List (List Nat)} (h : RdL B W a xss) (hB : B ≤ B') : RdL B' W a xss := by
  rcases h with h | ⟨b, o, h1, h2, h3⟩
  · exact .inl h
  · refine .inr ⟨b, o, h1, by omega, fun i xs hi => ?_⟩
    obtain ⟨a', c', h4, h5⟩ := h3 i xs hi
    exact ⟨a', c', h4, h5.mono hB⟩
theorem RdL.at {B : Nat} {W : World} {a : Option Addr} {xss : List (List Nat)} (h : RdL B W a xss) {i : Nat} {xs : List Nat} (hi : xss[i]? = some xs) :
    ∃ b o, a = some ⟨b, o, none⟩ ∧ b < B ∧ ∃ a' c', W.cell? ⟨b, o + i, none⟩ = some (.slice a' xs.length c') ∧ RdN B W a' xs := by
  rcases h with h | ⟨b, o, h1, h2, h3⟩
  · subst h; simp at hi
  · exact ⟨b, o, h1, h2, h3 i xs hi⟩

/-- What a row of bytes holds can be read. -/
theorem rowN_rd {W : World} {base : Nat} {a : Option Addr} {c n : Nat} {xs : List Nat} (hn : xs.length = n) (h : W.ownsRow base 5 1 (.slice a n c) n (xs.map vu8)) : RdN W.heap.size W a xs := by
  subst hn
  rcases h.2 with ⟨h1, h2⟩ | ⟨g, cap, cur, h1, _, hg, _⟩
  · exact .inl (List.eq_nil_of_length_eq_zero h2)
  · simp only [Value.slice.injEq, true_and] at h1
    obtain ⟨rfl, rfl⟩ := h1
    refine .inr ⟨g, 0, rfl, (Array.getElem?_eq_some_iff.1 hg).1, fun i hi => ?_⟩
    have := h.cellAt i (by omega)
    rw [Nat.zero_add, this]
    simp [hi, vu8]

/-- What a row of integers holds can be read. -/
theorem rowI_rd {W : World} {base : Nat} {a : Option Addr} {c n : Nat} {xs : List Int} (hn : xs.length = n) (h : W.ownsRow base 3 1 (.slice a n c) n (xs.map (Value.int .i64))) : Rd W.heap.size W a xs := by
  subst hn
  rcases h.2 with ⟨h1, h2⟩ | ⟨g, cap, cur, h1, _, hg, _⟩
  · exact .inl (List.eq_nil_of_length_eq_zero h2)
  · simp only [Value.slice.injEq, true_and] at h1
    obtain ⟨rfl, rfl⟩ := h1
    refine .inr ⟨g, 0, rfl, (Array.getElem?_eq_some_iff.1 hg).1, fun i hi => ?_⟩
    have := h.cellAt i (by omega)
    rw [Nat.zero_add, this]
    simp [hi]

theorem jrow_slice {W : World} {base : Nat} {e : TypeId} {size : Nat} {v : Value} {k : Nat} {xs : List Value} (h : W.ownsRow base e size v k xs) : ∃ a c, v = .slice a k c := by
  rcases h.2 with ⟨h1, h2⟩ | ⟨g, cap, cur, h1, _⟩
  · exact ⟨none, 0, by rw [h1, h2]⟩
  · exact ⟨_, _, h1⟩

theorem jmade_int (n : Nat) : (madeCells (Value.int .i64 0).cells (n * 1)).toList = (List.replicate n (0 : Int)).map (Value.int .i64) := by
  rw [Nat.mul_one]
  refine List.ext_getElem (by simp [size_madeCells]) fun i h1 h2 => ?_
  simp [madeCells, Value.cells, Nat.mod_one]
theorem jmade_u8 (n : Nat) : (madeCells (Value.int .u8 0).cells (n * 1)).toList = (List.replicate n (0 : Nat)).map vu8 := by
  rw [Nat.mul_one]
  refine List.ext_getElem (by simp [size_madeCells]) fun i h1 h2 => ?_
  simp [madeCells, Value.cells, Nat.mod_one, vu8]

theorem map_set_u8 (ys : List Nat) (k z : Nat) : (ys.map vu8).set k (.int .u8 (z : Int)) = (ys.set k z).map vu8 := by rw [List.map_set]; rfl
theorem map_set_i (ys : List Int) (k : Nat) (z : Int) : (ys.map (Value.int .i64)).set k (.int .i64 z) = (ys.set k z).map (Value.int .i64) := by rw [List.map_set]

set_option maxHeartbeats 400000 in
theorem jwithin_any (lo hi : Int) (a : Option Addr) (c : Nat) (xs : List Int) (w : World) (hl : xs.length ≤ 9223372036854775807) (hr : Rd w.heap.size w a xs) :
    Calls Try.prog 23 #[.int .i64 lo, .int .i64 hi, .slice a xs.length c] w fun e w' => e = .returned (.bool (allIn lo hi xs)) ∧ w = w' := by
  obtain ⟨n, hn⟩ : ∃ n, xs.length = n := ⟨_, rfl⟩
  rw [hn] at hl ⊢
  have hnH := Lib.hid hn
  clear hn
  go_enter Try.func23, Try.ntmps23
  go_wp2
  go_loop [8, 11] (fun v i => ∃ k : Nat, k ≤ n ∧ i = .int .i64 k ∧ allIn lo hi (xs.take k) = true) (fun _ i => n - (intOf i).toNat)
  case atStart => exact ⟨0, Nat.zero_le _, rfl, by simp [allIn]⟩
  case round =>
    obtain ⟨k, hk, rfl, hall⟩ := hrel
    by_cases hlt : k < n
    · rcases hr with h0 | ⟨b, o, rfl, hb, hc⟩
      · exfalso; have := hnH.out; rw [h0] at this; simp at this; omega
      have hlt' : k < xs.length := by have := hnH.out; omega
      have hcell := hc k hlt'
      clear hc
      obtain ⟨x, hx⟩ : ∃ x, xs[k]?.getD 0 = x := ⟨_, rfl⟩
      rw [hx] at hcell
      have hs1 : x < lo ∨ hi < x → allIn lo hi xs = false := fun h => allIn_false hlt' (by rw [hx]; exact h)
      have hs2 : lo ≤ x → x ≤ hi → allIn lo hi (xs.take (k + 1)) = true := fun h1 h2 => allIn_succ hlt' hall (by rw [hx]; exact h1) (by rw [hx]; exact h2)
      have hs1H := Lib.hid hs1
      have hs2H := Lib.hid hs2
      clear hx hlt' hs1 hs2
      by_cases h1 : x < lo
      · go_wp2
        go_ret
        exact ⟨ret_bool (hs1H.out (.inl h1)).symm, rfl⟩
      · by_cases h2 : hi < x
        · go_wp2
          go_ret
          exact ⟨ret_bool (hs1H.out (.inr h2)).symm, rfl⟩
        · go_wp2
          go_round
          case rel => exact ⟨k + 1, by omega, by go_num, hs2H.out (by omega) (by omega)⟩
          case measure => simp [intOf]; omega
    · go_wp2
      go_ret
      exact ⟨ret_bool (by rw [List.take_of_length_le (by have := hnH.out; omega)] at hall; exact hall.symm), rfl⟩

end Go.Proofs.Ytbfigbpjoaccdaa

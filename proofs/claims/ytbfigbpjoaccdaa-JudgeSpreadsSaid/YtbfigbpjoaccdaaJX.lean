/- The library's functions that the judge calls: IndexFunc and ContainsFunc of bytes, Equal, Mul, Repeat of one element. -/
import Derived.Test.YtbfigbpjoaccdaaJB
import Derived.Shelf.Bits.Mul64
import Derived.Laws.CopyOwn
namespace Go.Proofs.Ytbfigbpjoaccdaa
open Go Go.RowKit Go.Shelf
set_option linter.unusedVariables false
set_option linter.unusedSimpArgs false

/-- Some label is greater than 2. -/
def bigN (xs : List Nat) : Bool := xs.any fun x => decide (2 < x)
theorem bigN_hit {xs : List Nat} {k : Nat} (hk : k < xs.length) (h : 2 < xs[k]?.getD 0) : bigN xs = true := by
  rw [List.getElem?_eq_getElem hk] at h
  simp only [bigN, List.any_eq_true, decide_eq_true_eq]
  exact ⟨_, List.getElem_mem hk, h⟩
theorem bigN_succ {xs : List Nat} {k : Nat} (hk : k < xs.length) (hb : bigN (xs.take k) = false) (h : ¬ 2 < xs[k]?.getD 0) : bigN (xs.take (k + 1)) = false := by
  rw [List.getElem?_eq_getElem hk] at h
  simp only [Option.getD_some] at h
  rw [List.take_succ_eq_append_getElem hk]
  simp only [bigN, List.any_append] at hb ⊢
  rw [hb]
  simp
  omega
theorem bigN_le {xs : List Nat} (h : bigN xs = false) (k : Nat) : (xs[k]?).getD 0 ≤ 2 := by
  rcases Nat.lt_or_ge k xs.length with hk | hk
  · rw [List.getElem?_eq_getElem hk]
    have := List.any_eq_false.1 h xs[k] (List.getElem_mem hk)
    simp only [decide_eq_true_eq] at this
    simp only [Option.getD_some]
    omega
  · rw [List.getElem?_eq_none hk]; exact Nat.zero_le 2

/-! ### Mul -/

set_option maxHeartbeats 1000000 in
theorem Mul64_any (x y : Nat) (hx : x < 18446744073709551616) (hy : y < 18446744073709551616) (w : World) :
    Calls Try.prog 65 #[.int .u64 x, .int .u64 y] w fun e w' => e = .returned (.tuple #[.int .u64 ((x * y / 18446744073709551616 : Nat) : Int), .int .u64 ((x * y % 18446744073709551616 : Nat) : Int)]) ∧ w' = w := by
  obtain ⟨bd, bt, bw, hhi⟩ := Lib.mul64_hi x y hx hy
  have ba := Lib.half_mul_le (a := x / 4294967296) (b := y / 4294967296) (by omega) (by omega)
  have bb := Lib.half_mul_le (a := x / 4294967296) (b := y % 4294967296) (by omega) (by omega)
  have bc := Lib.half_mul_le (a := x % 4294967296) (b := y / 4294967296) (by omega) (by omega)
  have ba' : x / 4294967296 * (y / 4294967296) < 18446744073709551616 := by omega
  have bb' : x / 4294967296 * (y % 4294967296) < 18446744073709551616 := by omega
  have bc' : x % 4294967296 * (y / 4294967296) < 18446744073709551616 := by omega
  have bh1 : x / 4294967296 * (y / 4294967296) + (x / 4294967296 * (y % 4294967296) + x % 4294967296 * (y % 4294967296) / 4294967296) / 4294967296 < 18446744073709551616 := by omega
  have bh : x / 4294967296 * (y / 4294967296) + (x / 4294967296 * (y % 4294967296) + x % 4294967296 * (y % 4294967296) / 4294967296) / 4294967296 + ((x / 4294967296 * (y % 4294967296) + x % 4294967296 * (y % 4294967296) / 4294967296) % 4294967296 + x % 4294967296 * (y / 4294967296)) / 4294967296 < 18446744073709551616 := by omega
  go_enter Try.func65, Try.ntmps65
  go_wp2
  simp only [Mul64.maskN x hx, Mul64.maskN y hy, Mul64.divN, Mul64.mulN, Mul64.addN, Mul64.wrapN _ bd, Mul64.wrapN _ bb', Mul64.wrapN _ bt, Mul64.maskN _ bt, Mul64.wrapN _ bc', Mul64.wrapN _ bw, Mul64.wrapN _ ba', Mul64.wrapN _ bh1, Mul64.wrapN _ bh, Mul64.wrapM (x * y)]
  rw [hhi]
  go_ret2
  exact ⟨rfl, rfl⟩

theorem Mul_any (x y : Nat) (hx : x < 18446744073709551616) (hy : y < 18446744073709551616) (w : World) :
    Calls Try.prog 45 #[.int .u64 x, .int .u64 y] w fun e w' => e = .returned (.tuple #[.int .u64 ((x * y / 18446744073709551616 : Nat) : Int), .int .u64 ((x * y % 18446744073709551616 : Nat) : Int)]) ∧ w' = w := by
  go_enter Try.func45, Try.ntmps45
  go_wp2_with (go_at_call 65; refine (Mul64_any x y hx hy _).mono ?_; rintro e w' ⟨rfl, rfl⟩)
  go_ret2
  exact ⟨rfl, rfl⟩

theorem row_whole {W : World} {base g n : Nat} {e : TypeId} {xs : List Value} (h : W.ownsRow base e 1 (.slice (some ⟨g, 0, none⟩) n n) n xs) : W.heap[g]? = some (.cells xs.toArray e (0, 0)) := by
  rcases h.2 with ⟨h1, _⟩ | ⟨g', cap, cur, h1, _, h2, _, _, h4, h5⟩
  · cases h1
  · simp only [Value.slice.injEq, Option.some.injEq, Addr.mk.injEq, and_true, true_and] at h1
    obtain ⟨rfl, rfl⟩ := h1
    rw [List.take_of_length_le (by simp; omega)] at h5
    rw [h2, ← h5]
/-- k times v, then zeros, n in all. -/
def fillV (v z : Value) (n k : Nat) : List Value := List.replicate k v ++ List.replicate (n - k) z
theorem fillV_length {v z : Value} {n k : Nat} (h : k ≤ n) : (fillV v z n k).length = n := by simp [fillV]; omega
theorem fillV_grow {v z : Value} {n k m : Nat} (h : k + m ≤ n) : splice (fillV v z n k) k (List.replicate m v) = fillV v z n (k + m) := by
  unfold splice fillV
  rw [List.take_append_of_le_length (by simp), List.take_of_length_le (by simp), List.drop_append, List.drop_eq_nil_of_le (by simp)]
  simp only [List.length_replicate, List.nil_append, List.drop_replicate]
  rw [← List.append_assoc, List.replicate_append_replicate]
  congr 2
  omega
theorem fillV_all {v z : Value} {n : Nat} : fillV v z n n = List.replicate n v := by simp [fillV]
theorem fillV_get {v z : Value} {n k j : Nat} (h : j < k) : (fillV v z n k)[j]? = some v := by
  unfold fillV
  rw [List.getElem?_append_left (by simp; omega), List.getElem?_replicate]
  simp [h]

end Go.Proofs.Ytbfigbpjoaccdaa

/- Contracts and laws (Lg, Lm). -/
import Derived.Test.YtbdnjhnlfpfhcaaGreatQE2
import Derived.Test.YtbdnjhnlfpfhcaaGreatQE8
import Derived.Test.YtbdnjhnlfpfhcaaGreatQE12
namespace Go.Proofs.YtbdnjhnlfpfhcaaGreat
open Go Go.RowKit Go.Shelf
set_option linter.unusedVariables false
set_option linter.unusedSimpArgs false

theorem two64_pos : 0 < two64 := by decide
theorem jinfo_u64 : (Tryz.prog.info? 70).map (fun i => (i.zero, i.size, i.bytes)) = some (some (.int .u64 0), 1, 8) := by kernel_rfl
def vu64 (x : Nat) : Value := .int .u64 (x : Int)

/-- The slice at 'a' reads as the words 'xs', in blocks below 'B'. -/
def RdWd (B : Nat) (W : World) (a : Option Addr) (xs : List Nat) : Prop :=
  xs = [] ∨ ∃ b o, a = some ⟨b, o, none⟩ ∧ b < B ∧ ∀ i, i < xs.length → W.cell? ⟨b, o + i, none⟩ = some (.int .u64 ((xs[i]?.getD 0 : Nat) : Int))
theorem RdWd.below {B B' : Nat} {W W' : World} {a : Option Addr} {xs : List Nat} (h : RdWd B W a xs) (hB : B ≤ B') (hb : Below B' W W') : RdWd B W' a xs := by
  rcases h with h | ⟨b, o, h1, h2, h3⟩
  · exact .inl h
  · exact .inr ⟨b, o, h1, h2, fun i hi => (hb.cell (p := ⟨b, o + i, none⟩) (by show b < B'; omega)).trans (h3 i hi)⟩
theorem RdWd.mono {B B' : Nat} {W : World} {a : Option Addr} {xs : List Nat} (h : RdWd B W a xs) (hB : B ≤ B') : RdWd B' W a xs := by
  rcases h with h | ⟨b, o, h1, h2, h3⟩
  · exact .inl h
  · exact .inr ⟨b, o, h1, by omega, h3⟩
theorem RdWd.later {W W' : World} {a : Option Addr} {xs : List Nat} (h : RdWd W.heap.size W a xs) (hb : Below W.heap.size W W') : RdWd W'.heap.size W' a xs := (h.below (Nat.le_refl _) hb).mono hb.size
theorem RdWd.at {B : Nat} {W : World} {a : Option Addr} {xs : List Nat} (h : RdWd B W a xs) {i : Nat} (hi : i < xs.length) : ∃ b o, a = some ⟨b, o, none⟩ ∧ b < B ∧ W.cell? ⟨b, o + i, none⟩ = some (.int .u64 ((xs[i]?.getD 0 : Nat) : Int)) := by
  rcases h with h | ⟨b, o, h1, h2, h3⟩
  · subst h; simp at hi
  · exact ⟨b, o, h1, h2, h3 i hi⟩
theorem RdWd.take {B : Nat} {W : World} {a : Option Addr} {xs : List Nat} (h : RdWd B W a xs) (k : Nat) : RdWd B W a (xs.take k) := by
  rcases h with h | ⟨b, o, h1, h2, h3⟩
  · subst h; exact .inl (by simp)
  · refine .inr ⟨b, o, h1, h2, fun i hi => ?_⟩
    rw [List.length_take] at hi
    rw [h3 i (by omega), List.getElem?_take, if_pos (by omega)]
theorem rowW_rd {W : World} {base : Nat} {a : Option Addr} {c n : Nat} {xs : List Nat} (hn : xs.length = n) (h : W.ownsRow base 70 1 (.slice a n c) n (xs.map vu64)) : RdWd W.heap.size W a xs := by
  subst hn
  rcases h.2 with ⟨h1, h2⟩ | ⟨g, cap, cur, h1, _, hg, _⟩
  · exact .inl (List.eq_nil_of_length_eq_zero h2)
  · simp only [Value.slice.injEq, true_and] at h1
    obtain ⟨rfl, rfl⟩ := h1
    refine .inr ⟨g, 0, rfl, (Array.getElem?_eq_some_iff.1 hg).1, fun i hi => ?_⟩
    have := h.cellAt i (by omega)
    rw [Nat.zero_add, this]
    simp [hi, vu64]
theorem jmade_u64 (n : Nat) : (madeCells (Value.int .u64 0).cells (n * 1)).toList = (List.replicate n (0 : Nat)).map vu64 := by
  rw [Nat.mul_one]
  refine List.ext_getElem (by simp [size_madeCells]) fun i h1 h2 => ?_
  simp [madeCells, Value.cells, Nat.mod_one, vu64]
theorem map_set_u64 (ys : List Nat) (k z : Nat) : (ys.map vu64).set k (.int .u64 (z : Int)) = (ys.set k z).map vu64 := by rw [List.map_set]; rfl

/-- A number of the program, in memory. -/
structure LgR (W : World) (a : Option Addr) (ys : List Nat) (V : Nat) : Prop where
  rd : RdWd W.heap.size W a ys
  words : wordsB two64 ys
  trim : trimmed ys
  val : valB two64 ys = V
theorem LgR.later {W W' : World} {a : Option Addr} {ys : List Nat} {V : Nat} (h : LgR W a ys V) (hb : Below W.heap.size W W') : LgR W' a ys V := ⟨h.rd.later hb, h.words, h.trim, h.val⟩
/-- A number is returned, of at most L words. -/
def RetLg (w : World) (V L : Nat) (e : Ending) (w' : World) : Prop := ∃ ys a c, e = .returned (.slice a ys.length c) ∧ LgR w' a ys V ∧ ys.length ≤ L ∧ Below w.heap.size w w'

/-- A number is returned in new memory. -/
def RetLgF (w : World) (V L : Nat) (e : Ending) (w' : World) : Prop := ∃ ys a c, e = .returned (.slice a ys.length c) ∧ LgR w' a ys V ∧ ys.length ≤ L ∧ Below w.heap.size w w' ∧ ∀ ad, a = some ad → w.heap.size ≤ ad.block ∧ ad.block < w'.heap.size
theorem RetLgF.ret {w : World} {V L : Nat} {e : Ending} {w' : World} (h : RetLgF w V L e w') : RetLg w V L e w' := by
  obtain ⟨ys, a, c, h1, h2, h3, h4, _⟩ := h
  exact ⟨ys, a, c, h1, h2, h3, h4⟩

/-! ### Zeros at the end -/

def trimN (xs : List Nat) : Nat → Nat
  | 0 => 0
  | k + 1 => if xs[k]?.getD 0 = 0 then trimN xs k else k + 1
theorem trimN_le (xs : List Nat) : ∀ k, trimN xs k ≤ k
  | 0 => Nat.le_refl _
  | k + 1 => by rw [trimN]; have := trimN_le xs k; split <;> omega
theorem trimN_val (B : Nat) (xs : List Nat) : ∀ k, valB B (xs.take (trimN xs k)) = valB B (xs.take k)
  | 0 => rfl
  | k + 1 => by
    rw [trimN]
    by_cases h : xs[k]?.getD 0 = 0
    · rw [if_pos h, trimN_val B xs k, valB_take_more, h, Nat.mul_zero, Nat.add_zero]
    · rw [if_neg h]
theorem trimN_last (xs : List Nat) : ∀ k, ∀ i, i + 1 = trimN xs k → xs[i]?.getD 0 ≠ 0
  | 0, i, h => by rw [trimN] at h; omega
  | k + 1, i, h => by
    rw [trimN] at h
    by_cases hk : xs[k]?.getD 0 = 0
    · rw [if_pos hk] at h; exact trimN_last xs k i h
    · rw [if_neg hk] at h
      obtain rfl : i = k := by omega
      exact hk
theorem trim_trimmed (xs : List Nat) : trimmed (xs.take (trimN xs xs.length)) := by
  intro i hi
  rw [List.length_take, Nat.min_eq_left (trimN_le _ _)] at hi
  rw [List.getElem?_take, if_pos (by omega)]
  exact trimN_last xs xs.length i hi

set_option maxHeartbeats 1000000 in
theorem trim_any (a : Option Addr) (c n : Nat) (xs : List Nat) (hn : xs.length = n) (hm : n ≤ c) (hc : c ≤ 100000) (w : World) (hr : RdWd w.heap.size w a xs) :
    Calls Tryz.prog 84 #[.slice a n c] w fun e w' => e = .returned (.slice a (trimN xs n) c) ∧ w = w' := by
  have hnH := Lib.hid hn
  clear hn
  go_enter Tryz.func84, Tryz.ntmps84
  go_wp2
  go_loop [0] (fun s => ∃ k : Nat, k ≤ n ∧ s = .slice a k c ∧ Hid (trimN xs k = trimN xs n)) (fun s => match s with | .slice _ k _ => k | _ => 0)
  case atStart => exact ⟨n, Nat.le_refl _, rfl, Lib.hid rfl⟩
  case round =>
    obtain ⟨k, hk, rfl, ht⟩ := hrel
    rcases k with _ | k
    · have ht0 := Lib.hid (show 0 = trimN xs n from ht.out)
      go_wp2_with fail
      go_ret
      rw [← ht0.out]
      exact ⟨rfl, rfl⟩
    · obtain ⟨b, o, rfl, hb, hcell⟩ := hr.at (i := k) (by have := hnH.out; omega)
      obtain ⟨x, hx⟩ : ∃ x, xs[k]?.getD 0 = x := ⟨_, rfl⟩
      rw [hx] at hcell
      have ht1 := ht.out
      rw [trimN, hx] at ht1
      have ht1H := Lib.hid ht1
      clear ht ht1 hx
      by_cases e : x = 0
      · subst e
        rw [if_pos rfl] at ht1H
        go_wp2_with fail
        go_round
        case rel => exact ⟨k, by omega, rfl, ht1H⟩
        case measure => simp
      · rw [if_neg e] at ht1H
        have e1 : ((x : Int) == 0) = false := by simp; omega
        have e2 : ¬ (x : Int) = 0 := by omega
        go_wp2_with fail
        go_ret
        rw [← ht1H.out]
        exact ⟨rfl, rfl⟩

theorem trim_retF {W w : World} {base : Nat} {g n : Nat} {os : List Nat} {V L : Nat} (hB : Below w.heap.size w W) (hn : os.length = n) (hrow : W.ownsRow base 70 1 (.slice (some ⟨g, 0, none⟩) n n) n (os.map vu64)) (hw : wordsB two64 os) (hv : valB two64 os = V) (hL : n ≤ L) (hg : w.heap.size ≤ g) :
    RetLgF w V L (.returned (.slice (some ⟨g, 0, none⟩) (trimN os n) n)) W := by
  subst hn
  have h1 := trimN_le os os.length
  refine ⟨os.take (trimN os os.length), some ⟨g, 0, none⟩, os.length, ?_, ⟨(rowW_rd rfl hrow).take _, wordsB_take hw _, trim_trimmed os, ?_⟩, by rw [List.length_take]; omega, hB, fun ad e => by cases e; exact ⟨hg, (hrow.lt g rfl).2⟩⟩
  · rw [List.length_take, Nat.min_eq_left h1]
  · rw [trimN_val, List.take_length]; exact hv
theorem trim_ret {W w : World} {base : Nat} {g n : Nat} {os : List Nat} {V L : Nat} (hB : Below w.heap.size w W) (hn : os.length = n) (hrow : W.ownsRow base 70 1 (.slice (some ⟨g, 0, none⟩) n n) n (os.map vu64)) (hw : wordsB two64 os) (hv : valB two64 os = V) (hL : n ≤ L) :
    RetLg w V L (.returned (.slice (some ⟨g, 0, none⟩) (trimN os n) n)) W := by
  subst hn
  have h1 := trimN_le os os.length
  refine ⟨os.take (trimN os os.length), some ⟨g, 0, none⟩, os.length, ?_, ⟨(rowW_rd rfl hrow).take _, wordsB_take hw _, trim_trimmed os, ?_⟩, by rw [List.length_take]; omega, hB⟩
  · rw [List.length_take, Nat.min_eq_left h1]
  · rw [trimN_val, List.take_length]; exact hv

/-! ### Products -/

set_option maxRecDepth 100000 in
set_option maxHeartbeats 1000000 in
theorem times_any (a : Option Addr) (c n : Nat) (xs : List Nat) (V : Nat) (m : Nat) (hn : xs.length = n) (hl : n ≤ 10000) (hm : m < two64) (w : World) (hr : LgR w a xs V) :
    Calls Tryz.prog 56 #[.slice a n c, .int .u64 (m : Int)] w (RetLg w (V * m) (n + 1)) := by
  obtain ⟨i0, hi, hz0, hz1, hz2⟩ := info_parts jinfo_u64
  have hnH := Lib.hid hn
  have hmH := Lib.hid hm
  have hrH := Lib.hid hr
  have hzH := Lib.hid (jmade_u64 (n + 1))
  have hstart := TimesB.start two64_pos m xs
  rw [hn] at hstart
  have hstH := Lib.hid hstart
  clear hn hm hr hstart
  go_enter Tryz.func56, Tryz.ntmps56
  go_wp2_with (at_make; refine wpList_make_full _ rfl _ _ 118 rfl w.heap.size 70 i0 (.int .u64 0) 1 Tryz.underlying118 hi hz0 hz1 .i64 .i64 ((n : Int) + 1) ((n : Int) + 1) (n + 1) rfl rfl (by simp) (by simp) (by rw [hz2]; omega) (by unfold maxLen; omega) (by simp) ?_; intro w1 hown hg)
  rw [hzH.out] at hown
  have hB1 : Below w.heap.size w w1 := (Below.refl _ w).grown hg (Nat.le_refl _) (fun k e => by cases e)
  obtain ⟨G, hG⟩ : ∃ G, w.heap.size = G := ⟨_, rfl⟩
  have hG0 := Lib.hid hG
  rw [hG] at hown hB1 ⊢
  clear hg hzH hG
  go_loopw [17] (fun i wr => ∃ (k : Nat) (os : List Nat), k ≤ n ∧ i = .int .i64 (k : Int) ∧ TimesB two64 m xs k os ∧ wr.ownsRow G 70 1 (.slice (some ⟨G, 0, none⟩) (n + 1) (n + 1)) (n + 1) (os.map vu64) ∧ Below G w wr) (fun i _ => n - (intOf i).toNat)
  case atStart => exact ⟨0, _, Nat.zero_le _, rfl, hstH.out, hown, hB1⟩
  case round =>
    clear hown hB1
    obtain ⟨k, os, hk, rfl, ht, hrow, hB⟩ := hrel
    have htH := Lib.hid ht
    have hrowH := Lib.hid hrow
    have hol := ht.len
    rw [hnH.out] at hol
    by_cases hlt : k < n
    · obtain ⟨b, o, rfl, hb, hcell⟩ := hrH.out.rd.at (i := k) (by have := hnH.out; omega)
      have hb' : b < G := by rw [← hG0.out]; exact hb
      have hc1 := (hB.cell (p := ⟨b, o + k, none⟩) hb').trans hcell
      obtain ⟨x, hx⟩ : ∃ x, xs[k]?.getD 0 = x := ⟨_, rfl⟩
      have hxb : x < two64 := by rw [← hx]; exact wordsB_get two64_pos hrH.out.words k
      rw [hx] at hc1
      obtain ⟨h, hh⟩ : ∃ h, x * m / two64 = h := ⟨_, rfl⟩
      obtain ⟨lo, hlo⟩ : ∃ lo, x * m % two64 = lo := ⟨_, rfl⟩
      obtain ⟨y, hy⟩ : ∃ y, os[k]?.getD 0 = y := ⟨_, rfl⟩
      have hyb : y < two64 := by rw [← hy]; exact wordsB_get two64_pos ht.words k
      obtain ⟨s, hs⟩ : ∃ s, (y + lo) % two64 = s := ⟨_, rfl⟩
      obtain ⟨cy, hcy⟩ : ∃ cy, (y + lo) / two64 = cy := ⟨_, rfl⟩
      have hmul : x * m = h * two64 + lo := by rw [← hh, ← hlo, Nat.mul_comm (x * m / two64)]; exact (Nat.div_add_mod _ _).symm
      have hsum : y + lo = cy * two64 + s := by rw [← hcy, ← hs, Nat.mul_comm ((y + lo) / two64)]; exact (Nat.div_add_mod _ _).symm
      have hsb : s < two64 := by rw [← hs]; exact Nat.mod_lt _ two64_pos
      have hfit := half_fits hxb hmH.out hyb hmul hsum
      have hnext := ht.step two64_pos (by rw [hnH.out]; exact hlt) hx hmul (by rw [hy]; exact hsum) hsb hfit
      obtain ⟨z, hz⟩ : ∃ z, h + cy = z := ⟨_, rfl⟩
      rw [hz] at hnext hfit
      have hmulc := fun (W : World) => Mul64_any x m (by have := hxb; exact this) (by have := hmH.out; exact this) W
      rw [show x * m / 18446744073709551616 = h from hh, show x * m % 18446744073709551616 = lo from hlo] at hmulc
      have hadd : ∀ W, (callFunc 83 #[.int .u64 (y : Int), .int .u64 (lo : Int), .int .u64 0]).run Tryz.prog W = .ok (.value (.tuple #[.int .u64 (s : Int), .int .u64 (cy : Int)])) W := fun W => by
        have := run_add_any y lo 0 (by omega) W
        rw [Nat.add_zero, show (y + lo) % 18446744073709551616 = s from hs, show (y + lo) / 18446744073709551616 = cy from hcy] at this
        exact this
      have hwrap : IntKind.u64.wrap ((h : Int) + (cy : Int)) = (z : Int) := by
        have : z < 18446744073709551616 := hfit
        rw [IntKind.wrap_u64]; omega
      have ho := hrow.cellAt k (by omega)
      rw [List.getElem?_map, List.getElem?_eq_getElem (by omega)] at ho
      have hye : os[k]'(by omega) = y := by rw [← hy, List.getElem?_eq_getElem (by omega)]; rfl
      simp only [Option.map_some, hye, vu64] at ho
      have hfr := hrow.frozenAt k
      have hfr1 := hrow.frozenAt (k + 1)
      have ho1 := hrow.cellAt (k + 1) (by omega)
      rw [List.getElem?_map, List.getElem?_eq_getElem (by omega)] at ho1
      obtain ⟨y1, hy1⟩ : ∃ y1, os[k + 1]'(by omega) = y1 := ⟨_, rfl⟩
      simp only [Option.map_some, hy1, vu64] at ho1
      have hst := ((hrow.stored k (.int .u64 (s : Int))).1.stored (k + 1) (.int .u64 (z : Int))).1
      rw [map_set_u64, map_set_u64] at hst
      have hstH := Lib.hid hst
      have hnextH := Lib.hid hnext
      have hmulcH := Lib.hid hmulc
      have hBB : ∀ v v', Below G w ((wr.setCell ⟨G, k, none⟩ v).setCell ⟨G, k + 1, none⟩ v') := fun v v' => (hB.setCell (p := ⟨G, k, none⟩) (Nat.le_refl _) _).setCell (p := ⟨G, k + 1, none⟩) (Nat.le_refl _) _
      have hBBH := Lib.hid hBB
      clear hx hxb hh hlo hy hyb hs hcy hmul hsum hsb hfit hnext hz hmulc hye hy1 hst hBB htH ht hcell hrow hrowH
      go_wp2_with (go_at_call 85; refine (hmulcH.out _).mono ?_; rintro e w2 ⟨rfl, rfl⟩)
      go_roundw
      case rel => exact ⟨k + 1, _, by omega, by go_num, hnextH.out, hstH.out, hBBH.out _ _⟩
      case measure => simp [intOf]; omega
    · have hkn : k = n := by omega
      subst hkn
      have hr0 := rowW_rd (by omega) hrow
      have htr := trim_any (some ⟨G, 0, none⟩) (k + 1) (k + 1) os (by omega) (Nat.le_refl _) (by omega) wr hr0
      have hval : valB two64 os = V * m := by
        have := ht.val
        rw [show k = xs.length from hnH.out.symm, List.take_length, hrH.out.val] at this
        exact this
      have hfin := trim_ret (w := w) (V := V * m) (L := k + 1) (by rw [hG0.out]; exact hB) (by omega) hrow ht.words hval (Nat.le_refl _)
      have htrH := Lib.hid htr
      have hfinH := Lib.hid hfin
      clear ht htH hrow hrowH htr hfin hval hr0
      go_wp2_with (go_at_call 84; refine htrH.out.mono ?_; rintro e w2 ⟨rfl, rfl⟩)
      go_ret
      exact hfinH.out

/-! ### Sums -/

/-- What has been laid down of a sum. -/
structure AddB (B : Nat) (x y : List Nat) (i : Nat) (o : List Nat) (c : Nat) : Prop where
  len : o.length = x.length + 1
  words : wordsB B o
  carry : c ≤ 1
  val : valB B o + B ^ i * c = valB B (x.take i) + valB B (y.take i)
  rest : ∀ j, i ≤ j → o[j]?.getD 0 = 0
theorem AddB.start {B : Nat} (hB : 0 < B) (x y : List Nat) : AddB B x y 0 (List.replicate (x.length + 1) 0) 0 where
  len := by simp
  words := wordsB_zeros hB _
  carry := by omega
  val := by rw [valB_zeros]; simp [valB]
  rest j _ := by rw [List.getElem?_replicate]; split <;> rfl
theorem AddB.step {B : Nat} {x y : List Nat} {i : Nat} {o : List Nat} {c : Nat} (h : AddB B x y i o c) (hB : 0 < B) (hi : i < x.length) {s c' : Nat} (hsum : x[i]?.getD 0 + y[i]?.getD 0 + c = c' * B + s) (hs : s < B) (hc : c' ≤ 1) : AddB B x y (i + 1) (o.set i s) c' where
  len := by rw [List.length_set]; exact h.len
  words := wordsB_set h.words hs
  carry := hc
  val := by
    have h1 := valB_set B o i s (by rw [h.len]; omega)
    rw [h.rest i (Nat.le_refl _), Nat.mul_zero, Nat.add_zero] at h1
    rw [h1, valB_take_more, valB_take_more]
    have h2 := h.val
    have e1 := congrArg (B ^ i * ·) hsum
    simp only [Nat.mul_add] at e1
    rw [Nat.pow_succ]
    have e2 : B ^ i * (c' * B) = B ^ i * B * c' := by rw [Nat.mul_comm c' B, Nat.mul_assoc]
    omega
  rest j hj := by rw [List.getElem?_set_ne (by omega)]; exact h.rest j (by omega)
theorem AddB.done {B : Nat} {x y : List Nat} {o : List Nat} {c : Nat} (h : AddB B x y x.length o c) (hB : 1 < B) (hxy : y.length ≤ x.length) : wordsB B (o.set x.length c) ∧ valB B (o.set x.length c) = valB B x + valB B y := by
  refine ⟨wordsB_set h.words (by have := h.carry; omega), ?_⟩
  have h1 := valB_set B o x.length c (by rw [h.len]; omega)
  rw [h.rest x.length (Nat.le_refl _), Nat.mul_zero, Nat.add_zero] at h1
  have h2 := h.val
  rw [List.take_length, List.take_of_length_le hxy] at h2
  omega
theorem sum_fits {B x y c : Nat} (hx : x < B) (hy : y < B) (hc : c ≤ 1) : (x + y + c) / B ≤ 1 := by
  have h : (x + y + c) / B < 2 := Nat.div_lt_of_lt_mul (by omega)
  omega

set_option maxRecDepth 100000 in
set_option maxHeartbeats 2000000 in
theorem plus_any (a a2 : Option Addr) (c c2 n n2 : Nat) (xs ys : List Nat) (V V2 : Nat) (hn : xs.length = n) (hn2 : ys.length = n2) (hl : n ≤ 10000) (hl2 : n2 ≤ 10000) (w : World) (hr : LgR w a xs V) (hr2 : LgR w a2 ys V2) :
    Calls Tryz.prog 54 #[.slice a n c, .slice a2 n2 c2] w (RetLgF w (V + V2) (max n n2 + 1)) := by
  obtain ⟨i0, hi, hz0, hz1, hz2⟩ := info_parts jinfo_u64
  have hnH := Lib.hid hn
  have hn2H := Lib.hid hn2
  have hrH := Lib.hid hr
  have hr2H := Lib.hid hr2
  have hz1H := Lib.hid (jmade_u64 (n + 1))
  have hz2H := Lib.hid (jmade_u64 (n2 + 1))
  have hs1 := AddB.start two64_pos xs ys
  have hs2 := AddB.start two64_pos ys xs
  rw [hn] at hs1
  rw [hn2] at hs2
  have hs1H := Lib.hid hs1
  have hs2H := Lib.hid hs2
  clear hn hn2 hr hr2 hs1 hs2
  by_cases hsw : n < n2
  · have hV : V + V2 = V2 + V := Nat.add_comm _ _
    rw [hV]
    clear hV
    go_enter Tryz.func54, Tryz.ntmps54
    go_wp2_with (at_make; refine wpList_make_full _ rfl _ _ 118 rfl w.heap.size 70 i0 (.int .u64 0) 1 Tryz.underlying118 hi hz0 hz1 .i64 .i64 ((n2 : Int) + 1) ((n2 : Int) + 1) (n2 + 1) rfl rfl (by simp) (by simp) (by rw [hz2]; omega) (by unfold maxLen; omega) (by simp) ?_; intro w1 hown hg)
    rw [hz2H.out] at hown
    have hB1 : Below w.heap.size w w1 := (Below.refl _ w).grown hg (Nat.le_refl _) (fun k e => by cases e)
    obtain ⟨G, hG⟩ : ∃ G, w.heap.size = G := ⟨_, rfl⟩
    have hG0 := Lib.hid hG
    rw [hG] at hown hB1 ⊢
    clear hg hz1H hz2H hG
    go_loopw [6, 23] (fun cv i wr => ∃ (k : Nat) (os : List Nat) (cy : Nat), k ≤ n2 ∧ i = .int .i64 (k : Int) ∧ cv = .int .u64 (cy : Int) ∧ AddB two64 ys xs k os cy ∧ wr.ownsRow G 70 1 (.slice (some ⟨G, 0, none⟩) (n2 + 1) (n2 + 1)) (n2 + 1) (os.map vu64) ∧ Below G w wr) (fun _ i _ => n2 - (intOf i).toNat)
    case atStart => exact ⟨0, _, 0, Nat.zero_le _, rfl, rfl, hs2H.out, hown, hB1⟩
    case round =>
      clear hown hB1 hs1H hs2H
      obtain ⟨k, os, cy, hk, rfl, rfl, ht, hrow, hB⟩ := hrel
      have hol := ht.len
      rw [hn2H.out] at hol
      by_cases hlt : k < n2
      · obtain ⟨b, o, hao, hb, hcell⟩ := hr2H.out.rd.at (i := k) (by have := hn2H.out; omega)
        have hb' : b < G := by rw [← hG0.out]; exact hb
        have hc1 := (hB.cell (p := ⟨b, o + k, none⟩) hb').trans hcell
        obtain ⟨x, hx⟩ : ∃ x, ys[k]?.getD 0 = x := ⟨_, rfl⟩
        have hxb : x < two64 := by rw [← hx]; exact wordsB_get two64_pos hr2H.out.words k
        rw [hx] at hc1
        obtain ⟨y, hy⟩ : ∃ y, xs[k]?.getD 0 = y := ⟨_, rfl⟩
        have hyb : y < two64 := by rw [← hy]; exact wordsB_get two64_pos hrH.out.words k
        obtain ⟨s, hs⟩ : ∃ s, (x + y + cy) % two64 = s := ⟨_, rfl⟩
        obtain ⟨c3, hc3⟩ : ∃ c3, (x + y + cy) / two64 = c3 := ⟨_, rfl⟩
        have hsum : x + y + cy = c3 * two64 + s := by rw [← hc3, ← hs, Nat.mul_comm ((x + y + cy) / two64)]; exact (Nat.div_add_mod _ _).symm
        have hsb : s < two64 := by rw [← hs]; exact Nat.mod_lt _ two64_pos
        have hc3b : c3 ≤ 1 := by rw [← hc3]; exact sum_fits hxb hyb ht.carry
        have hcyb := ht.carry
        have hnext := ht.step two64_pos (by rw [hn2H.out]; exact hlt) (by rw [hx, hy]; exact hsum) hsb hc3b
        have hadd : ∀ W, (callFunc 83 #[.int .u64 (x : Int), .int .u64 (y : Int), .int .u64 (cy : Int)]).run Tryz.prog W = .ok (.value (.tuple #[.int .u64 (s : Int), .int .u64 (c3 : Int)])) W := fun W => by
          have := run_add_any x y cy hcyb W
          rw [show (x + y + cy) % 18446744073709551616 = s from hs, show (x + y + cy) / 18446744073709551616 = c3 from hc3] at this
          exact this
        have ho := hrow.cellAt k (by omega)
        rw [List.getElem?_map, List.getElem?_eq_getElem (by omega)] at ho
        obtain ⟨y0, hy0⟩ : ∃ y0, os[k]'(by omega) = y0 := ⟨_, rfl⟩
        simp only [Option.map_some, hy0, vu64] at ho
        have hfr := hrow.frozenAt k
        have hst := (hrow.stored k (.int .u64 (s : Int))).1
        rw [map_set_u64] at hst
        have hstH := Lib.hid hst
        have hnextH := Lib.hid hnext
        have hBBH := Lib.hid (fun v => hB.setCell (p := ⟨G, k, none⟩) (Nat.le_refl _) v)
        by_cases hkb : k < n
        · obtain ⟨b2, o2, hao2, hb2, hcell2⟩ := hrH.out.rd.at (i := k) (by have := hnH.out; omega)
          have hb2' : b2 < G := by rw [← hG0.out]; exact hb2
          have hc2 := (hB.cell (p := ⟨b2, o2 + k, none⟩) hb2').trans hcell2
          rw [hy] at hc2
          subst hao hao2
          clear hx hxb hy hyb hs hc3 hsum hsb hc3b hcyb hnext hy0 hst ht hcell hcell2 hrow
          go_wp2_with fail
          go_roundw
          case rel => exact ⟨k + 1, _, c3, by omega, by go_num, rfl, hnextH.out, hstH.out, hBBH.out _⟩
          case measure => simp [intOf]; omega
        · have hy00 : y = 0 := by rw [← hy, List.getElem?_eq_none (by have := hnH.out; omega)]; rfl
          have hy0H := Lib.hid hy00
          subst hao
          subst hy00
          have hadd0 : ∀ W, (callFunc 83 #[.int .u64 (x : Int), .int .u64 0, .int .u64 (cy : Int)]).run Tryz.prog W = .ok (.value (.tuple #[.int .u64 (s : Int), .int .u64 (c3 : Int)])) W := fun W => hadd W
          clear hadd
          clear hx hxb hy hyb hs hc3 hsum hsb hc3b hcyb hnext hy0 hst ht hcell hrow
          go_wp2_with fail
          go_roundw
          case rel => exact ⟨k + 1, _, c3, by omega, by go_num, rfl, hnextH.out, hstH.out, hBBH.out _⟩
          case measure => simp [intOf]; omega
      · have hkn : k = n2 := by omega
        subst hkn
        have hxl := hn2H.out
        have hd := (show AddB two64 ys xs ys.length os cy by rw [hxl]; exact ht).done (by decide) (by have := hnH.out; omega)
        rw [hxl, hr2H.out.val, hrH.out.val] at hd
        have ho := hrow.cellAt k (by omega)
        rw [List.getElem?_map, List.getElem?_eq_getElem (by omega)] at ho
        obtain ⟨y0, hy0⟩ : ∃ y0, os[k]'(by omega) = y0 := ⟨_, rfl⟩
        simp only [Option.map_some, hy0, vu64] at ho
        have hfr := hrow.frozenAt k
        have hst := (hrow.stored k (.int .u64 (cy : Int))).1
        rw [map_set_u64] at hst
        have hB2 := hB.setCell (p := ⟨G, k, none⟩) (Nat.le_refl _) (.int .u64 (cy : Int))
        have hr0 := rowW_rd (by rw [List.length_set]; omega) hst
        have htr := trim_any (some ⟨G, 0, none⟩) (k + 1) (k + 1) (os.set k cy) (by rw [List.length_set]; omega) (Nat.le_refl _) (by omega) _ hr0
        have hfin := trim_retF (w := w) (V := V2 + V) (L := max n k + 1) (by rw [hG0.out]; exact hB2) (by rw [List.length_set]; omega) hst hd.1 hd.2 (by omega) (by rw [hG0.out]; exact Nat.le_refl _)
        have htrH := Lib.hid htr
        have hfinH := Lib.hid hfin
        clear ht hrow htr hfin hr0 hst hd hB2 hxl hy0
        go_wp2_with (go_at_call 84; refine htrH.out.mono ?_; rintro e w2 ⟨rfl, rfl⟩)
        go_ret
        exact hfinH.out
  · have hV : V + V2 = V + V2 := rfl
    rw [hV]
    clear hV
    go_enter Tryz.func54, Tryz.ntmps54
    go_wp2_with (at_make; refine wpList_make_full _ rfl _ _ 118 rfl w.heap.size 70 i0 (.int .u64 0) 1 Tryz.underlying118 hi hz0 hz1 .i64 .i64 ((n : Int) + 1) ((n : Int) + 1) (n + 1) rfl rfl (by simp) (by simp) (by rw [hz2]; omega) (by unfold maxLen; omega) (by simp) ?_; intro w1 hown hg)
    rw [hz1H.out] at hown
    have hB1 : Below w.heap.size w w1 := (Below.refl _ w).grown hg (Nat.le_refl _) (fun k e => by cases e)
    obtain ⟨G, hG⟩ : ∃ G, w.heap.size = G := ⟨_, rfl⟩
    have hG0 := Lib.hid hG
    rw [hG] at hown hB1 ⊢
    clear hg hz1H hz2H hG
    go_loopw [6, 23] (fun cv i wr => ∃ (k : Nat) (os : List Nat) (cy : Nat), k ≤ n ∧ i = .int .i64 (k : Int) ∧ cv = .int .u64 (cy : Int) ∧ AddB two64 xs ys k os cy ∧ wr.ownsRow G 70 1 (.slice (some ⟨G, 0, none⟩) (n + 1) (n + 1)) (n + 1) (os.map vu64) ∧ Below G w wr) (fun _ i _ => n - (intOf i).toNat)
    case atStart => exact ⟨0, _, 0, Nat.zero_le _, rfl, rfl, hs1H.out, hown, hB1⟩
    case round =>
      clear hown hB1 hs1H hs2H
      obtain ⟨k, os, cy, hk, rfl, rfl, ht, hrow, hB⟩ := hrel
      have hol := ht.len
      rw [hnH.out] at hol
      by_cases hlt : k < n
      · obtain ⟨b, o, hao, hb, hcell⟩ := hrH.out.rd.at (i := k) (by have := hnH.out; omega)
        have hb' : b < G := by rw [← hG0.out]; exact hb
        have hc1 := (hB.cell (p := ⟨b, o + k, none⟩) hb').trans hcell
        obtain ⟨x, hx⟩ : ∃ x, xs[k]?.getD 0 = x := ⟨_, rfl⟩
        have hxb : x < two64 := by rw [← hx]; exact wordsB_get two64_pos hrH.out.words k
        rw [hx] at hc1
        obtain ⟨y, hy⟩ : ∃ y, ys[k]?.getD 0 = y := ⟨_, rfl⟩
        have hyb : y < two64 := by rw [← hy]; exact wordsB_get two64_pos hr2H.out.words k
        obtain ⟨s, hs⟩ : ∃ s, (x + y + cy) % two64 = s := ⟨_, rfl⟩
        obtain ⟨c3, hc3⟩ : ∃ c3, (x + y + cy) / two64 = c3 := ⟨_, rfl⟩
        have hsum : x + y + cy = c3 * two64 + s := by rw [← hc3, ← hs, Nat.mul_comm ((x + y + cy) / two64)]; exact (Nat.div_add_mod _ _).symm
        have hsb : s < two64 := by rw [← hs]; exact Nat.mod_lt _ two64_pos
        have hc3b : c3 ≤ 1 := by rw [← hc3]; exact sum_fits hxb hyb ht.carry
        have hcyb := ht.carry
        have hnext := ht.step two64_pos (by rw [hnH.out]; exact hlt) (by rw [hx, hy]; exact hsum) hsb hc3b
        have hadd : ∀ W, (callFunc 83 #[.int .u64 (x : Int), .int .u64 (y : Int), .int .u64 (cy : Int)]).run Tryz.prog W = .ok (.value (.tuple #[.int .u64 (s : Int), .int .u64 (c3 : Int)])) W := fun W => by
          have := run_add_any x y cy hcyb W
          rw [show (x + y + cy) % 18446744073709551616 = s from hs, show (x + y + cy) / 18446744073709551616 = c3 from hc3] at this
          exact this
        have ho := hrow.cellAt k (by omega)
        rw [List.getElem?_map, List.getElem?_eq_getElem (by omega)] at ho
        obtain ⟨y0, hy0⟩ : ∃ y0, os[k]'(by omega) = y0 := ⟨_, rfl⟩
        simp only [Option.map_some, hy0, vu64] at ho
        have hfr := hrow.frozenAt k
        have hst := (hrow.stored k (.int .u64 (s : Int))).1
        rw [map_set_u64] at hst
        have hstH := Lib.hid hst
        have hnextH := Lib.hid hnext
        have hBBH := Lib.hid (fun v => hB.setCell (p := ⟨G, k, none⟩) (Nat.le_refl _) v)
        by_cases hkb : k < n2
        · obtain ⟨b2, o2, hao2, hb2, hcell2⟩ := hr2H.out.rd.at (i := k) (by have := hn2H.out; omega)
          have hb2' : b2 < G := by rw [← hG0.out]; exact hb2
          have hc2 := (hB.cell (p := ⟨b2, o2 + k, none⟩) hb2').trans hcell2
          rw [hy] at hc2
          subst hao hao2
          clear hx hxb hy hyb hs hc3 hsum hsb hc3b hcyb hnext hy0 hst ht hcell hcell2 hrow
          go_wp2_with fail
          go_roundw
          case rel => exact ⟨k + 1, _, c3, by omega, by go_num, rfl, hnextH.out, hstH.out, hBBH.out _⟩
          case measure => simp [intOf]; omega
        · have hy00 : y = 0 := by rw [← hy, List.getElem?_eq_none (by have := hn2H.out; omega)]; rfl
          have hy0H := Lib.hid hy00
          subst hao
          subst hy00
          have hadd0 : ∀ W, (callFunc 83 #[.int .u64 (x : Int), .int .u64 0, .int .u64 (cy : Int)]).run Tryz.prog W = .ok (.value (.tuple #[.int .u64 (s : Int), .int .u64 (c3 : Int)])) W := fun W => hadd W
          clear hadd
          clear hx hxb hy hyb hs hc3 hsum hsb hc3b hcyb hnext hy0 hst ht hcell hrow
          go_wp2_with fail
          go_roundw
          case rel => exact ⟨k + 1, _, c3, by omega, by go_num, rfl, hnextH.out, hstH.out, hBBH.out _⟩
          case measure => simp [intOf]; omega
      · have hkn : k = n := by omega
        subst hkn
        have hxl := hnH.out
        have hd := (show AddB two64 xs ys xs.length os cy by rw [hxl]; exact ht).done (by decide) (by have := hn2H.out; omega)
        rw [hxl, hrH.out.val, hr2H.out.val] at hd
        have ho := hrow.cellAt k (by omega)
        rw [List.getElem?_map, List.getElem?_eq_getElem (by omega)] at ho
        obtain ⟨y0, hy0⟩ : ∃ y0, os[k]'(by omega) = y0 := ⟨_, rfl⟩
        simp only [Option.map_some, hy0, vu64] at ho
        have hfr := hrow.frozenAt k
        have hst := (hrow.stored k (.int .u64 (cy : Int))).1
        rw [map_set_u64] at hst
        have hB2 := hB.setCell (p := ⟨G, k, none⟩) (Nat.le_refl _) (.int .u64 (cy : Int))
        have hr0 := rowW_rd (by rw [List.length_set]; omega) hst
        have htr := trim_any (some ⟨G, 0, none⟩) (k + 1) (k + 1) (os.set k cy) (by rw [List.length_set]; omega) (Nat.le_refl _) (by omega) _ hr0
        have hfin := trim_retF (w := w) (V := V + V2) (L := max k n2 + 1) (by rw [hG0.out]; exact hB2) (by rw [List.length_set]; omega) hst hd.1 hd.2 (by omega) (by rw [hG0.out]; exact Nat.le_refl _)
        have htrH := Lib.hid htr
        have hfinH := Lib.hid hfin
        clear ht hrow htr hfin hr0 hst hd hB2 hxl hy0
        go_wp2_with (go_at_call 84; refine htrH.out.mono ?_; rintro e w2 ⟨rfl, rfl⟩)
        go_ret
        exact hfinH.out

/-! ### Powers -/

set_option maxRecDepth 100000 in
set_option maxHeartbeats 2000000 in
theorem power_any (a : Option Addr) (c n : Nat) (xs : List Nat) (V : Nat) (m k : Nat) (hn : xs.length = n) (hl : n + k ≤ 10000) (hm : m < two64) (w : World) (hr : LgR w a xs V) :
    Calls Tryz.prog 55 #[.slice a n c, .int .u64 (m : Int), .int .i64 (k : Int)] w (RetLg w (V * m ^ k) (n + k)) := by
  have hnH := Lib.hid hn
  have hmH := Lib.hid hm
  have hrH := Lib.hid hr
  clear hn hm hr
  go_enter Tryz.func55, Tryz.ntmps55
  go_wp2_with fail
  go_loopw [0, 9] (fun s i wr => ∃ (j : Nat) (ys : List Nat) (a : Option Addr) (l c : Nat), j ≤ k ∧ i = .int .i64 (j : Int) ∧ s = .slice a l c ∧ Hid (ys.length = l) ∧ l ≤ n + j ∧ Hid (LgR wr a ys (V * m ^ j)) ∧ Below w.heap.size w wr) (fun _ i _ => k - (intOf i).toNat)
  case atStart => exact ⟨0, xs, a, n, c, Nat.zero_le _, rfl, rfl, hnH, by omega, Lib.hid (by rw [Nat.pow_zero, Nat.mul_one]; exact hrH.out), Below.refl _ _⟩
  case round =>
    obtain ⟨j, ys, a1, l, c1, hj, rfl, rfl, hyl, hln, hrj, hB⟩ := hrel
    by_cases hlt : j < k
    · have ht := times_any a1 c1 l ys (V * m ^ j) m hyl.out (by omega) hmH.out wr hrj.out
      have htH := Lib.hid ht
      clear ht
      go_wp2_with (go_at_call 56; refine htH.out.mono ?_; rintro e w2 ⟨zs, a2, c2, rfl, hr2, hl2, hb2⟩)
      obtain ⟨l2, hl2'⟩ : ∃ l, zs.length = l := ⟨_, rfl⟩
      rw [hl2'] at hl2 ⊢
      have hl2H := Lib.hid hl2'
      clear hl2'
      go_wp2_with fail
      go_roundw
      case rel => exact ⟨j + 1, zs, a2, l2, c2, by omega, by go_num, rfl, hl2H, by omega, Lib.hid (by rw [Nat.pow_succ, ← Nat.mul_assoc]; exact hr2), hB.trans (hb2.mono hB.size)⟩
      case measure => simp [intOf]; omega
    · have hjk : j = k := by omega
      subst hjk
      go_wp2_with fail
      go_ret
      exact ⟨ys, a1, c1, by rw [hyl.out]; rfl, hrj.out, by rw [hyl.out]; omega, hB⟩

end Go.Proofs.YtbdnjhnlfpfhcaaGreat

namespace Go.Proofs.YtbdnjhnlfpfhcaaGreat
open Go Go.RowKit Go.Shelf
set_option linter.unusedVariables false
set_option linter.unusedSimpArgs false

attribute [local go_sem] Oper.semAt_some

/-- What yield is handed in round p: the index from the end, and the word. -/
def encB (xs : List Nat) (n : Nat) (p : Fin n) : Array Value := #[.int .i64 ((n - 1 - p.val : Nat) : Int), .int .u64 ((xs[n - 1 - p.val]?.getD 0 : Nat) : Int)]

/-- All below K lies as it lay. -/
def KpB (K : Nat) (A B : World) : Prop := ∀ k, k < K → B.heap[k]? = A.heap[k]?
theorem KpB.trans {K : Nat} {A B C : World} (h1 : KpB K A B) (h2 : KpB K B C) : KpB K A C := fun k hk => (h2 k hk).trans (h1 k hk)
theorem KpB.cell {K : Nat} {A B : World} (h : KpB K A B) {b i : Nat} (hb : b < K) : B.cell? ⟨b, i, none⟩ = A.cell? ⟨b, i, none⟩ := World.cell?_of_block (h b hb)

theorem Backward_any (a : Option Addr) (n c : Nat) (w : World) :
    Calls Tryz.prog 86 #[.slice a n c] w fun e w' => e = .returned (.func (.func 107) #[] #[.pointer (some ⟨w.heap.size, 0, none⟩)]) ∧ w.alloc (.cells #[.slice a n c] 118) = w' := by
  go_enter Tryz.func86, Tryz.ntmps86
  go_wp2
  go_ret
  exact ⟨rfl, rfl⟩

set_option maxRecDepth 100000 in
set_option maxHeartbeats 1000000 in
theorem back1_in (F : Fence) (n : Nat) (hF : F.fn 107) (hro : F.round = none) (hn : 1 ≤ n) (l bx K0 : Nat) (xs : List Nat) (m : Nat) (a : Option Addr) (c : Nat) (hxl : xs.length = m) (hm : m ≤ 100000) (J Jx : List (Fin m) → World → Prop)
    (hY : ∀ pre x W, J pre W → pre.length < m → YieldAt F (n - 1) Tryz.prog l (encB xs m x) W fun e W' =>
      (e = .returned (.bool true) ∧ J (pre ++ [x]) W' ∧ KpB K0 W W') ∨ (e = .returned (.bool false) ∧ Jx (pre ++ [x]) W'))
    (W : World) (hbx : bx < K0) (hcb : W.cell? ⟨bx, 0, none⟩ = some (.slice a m c)) (hrd : RdWd K0 W a xs) (h0 : J [] W) :
    CallsIn F n Tryz.prog 107 #[.func (.yield l) #[] #[], .pointer (some ⟨bx, 0, none⟩)] W fun e W' => (∃ v, e = .returned v) ∧
      ((∃ ys : List (Fin m), ys.map Fin.val = List.range m ∧ J ys W') ∨ (∃ pre : List (Fin m), pre.map Fin.val = List.range pre.length ∧ Jx pre W')) := by
  have hxlH := Lib.hid hxl
  have hrdH := Lib.hid hrd
  have hcbH := Lib.hid hcb
  clear hxl hrd
  refine callsIn_of_wp Tryz.func107 rfl hF ?_ hro
  simp only [Tryz.ntmps107, List.size_toArray, List.length_cons, List.length_nil, Nat.reduceAdd, Nat.reduceSub, Array.replicate_succ, Array.replicate_zero, List.push_toArray, List.append_toArray, List.nil_append, List.cons_append]
  gi_wp2
  clear hcb
  gi_loopw [3, 7, 8, 9, 10, 11, 12, 13, 14, 15, 16, 17, 18] (fun i _ _ _ _ _ _ _ _ _ _ _ _ wr => ∃ (p : Nat) (pre : List (Fin m)), p ≤ m ∧ Hid (i = .int .i64 ((m : Int) - 1 - p)) ∧ Hid (pre.map Fin.val = List.range p) ∧ J pre wr ∧ KpB K0 W wr)
    (fun i _ _ _ _ _ _ _ _ _ _ _ _ _ => (intOf i + 1).toNat)
  case atStart =>
    exact ⟨0, [], by omega, Lib.hid (by simp), Lib.hid (by simp), h0, fun k hk => rfl⟩
  case round =>
    obtain ⟨p, pre, hp, hi, hpre, hJ, hK⟩ := hrel
    by_cases hlt : p < m
    · obtain ⟨j, hj⟩ : ∃ j, m - 1 - p = j := ⟨_, rfl⟩
      have hi2 := hi.out
      rw [show (m : Int) - 1 - p = (j : Int) by omega] at hi2
      subst hi2
      have hjm : j < m := by omega
      obtain ⟨b, o, rfl, hb, hcell⟩ := hrdH.out.at (i := j) (by have := hxlH.out; omega)
      have c1 := (hK.cell (b := bx) (i := 0) hbx).trans hcbH.out
      have c2 := (hK.cell (b := b) (i := o + j) hb).trans hcell
      have hlen : pre.length < m := by
        have := congrArg List.length hpre.out
        simp at this; omega
      obtain ⟨fn, tmps, assign, body, hyy, hR⟩ := hY pre ⟨p, hlt⟩ wr hJ hlen
      unfold encB at hyy
      simp only [hj] at hyy
      obtain ⟨x, hx⟩ : ∃ x, xs[j]?.getD 0 = x := ⟨_, rfl⟩
      rw [hx] at hyy c2
      have hjH := Lib.hid hj
      clear hj hx hcell hi
      gi_wp2
      refine hR.mono ?_
      rintro e W3 (⟨rfl, hJ3, hk3⟩ | ⟨rfl, hJx3⟩)
      · gi_wp2
        go_roundw
        case rel => exact ⟨p + 1, pre ++ [⟨p, hlt⟩], by omega, Lib.hid (by have := hjH.out; congr 1; omega), Lib.hid (by rw [List.map_append, hpre.out, List.range_succ]; rfl), hJ3, hK.trans hk3⟩
        case measure => simp [intOf] <;> omega
      · gi_wp2
        refine bodyPost_ret (results_none rfl _ _ _) rfl ?_
        refine ⟨⟨_, rfl⟩, .inr ⟨pre ++ [⟨p, hlt⟩], ?_, hJx3⟩⟩
        have hl := congrArg List.length hpre.out
        simp at hl
        rw [List.map_append, hpre.out, List.length_append, hl]
        simp [List.range_succ]
    · have hi2 := hi.out
      rw [show (m : Int) - 1 - p = -1 by omega] at hi2
      subst hi2
      clear hi
      gi_wp2
      go_end0
      refine ⟨⟨_, rfl⟩, .inl ⟨pre, ?_, hJ⟩⟩
      have : p = m := by omega
      rw [hpre.out, this]

/-- In all these rounds the words were the same. -/
def AgreeB (xs ys : List Nat) (m : Nat) (pre : List (Fin m)) : Prop := ∀ x ∈ pre, xs[m - 1 - x.val]?.getD 0 = ys[m - 1 - x.val]?.getD 0
/-- In the last one of these rounds they were not, and the result has been laid down. -/
def DiffB (xs ys : List Nat) (m : Nat) (pre : List (Fin m)) (W : World) (b : Nat) : Prop :=
  ∃ pre' x, pre = pre' ++ [x] ∧ AgreeB xs ys m pre' ∧ xs[m - 1 - x.val]?.getD 0 ≠ ys[m - 1 - x.val]?.getD 0 ∧ Blk W b 4 #[.bool (decide (xs[m - 1 - x.val]?.getD 0 < ys[m - 1 - x.val]?.getD 0))]
theorem DiffB.kept {xs ys : List Nat} {m : Nat} {pre : List (Fin m)} {W W' : World} {b : Nat} {row : Option Nat} (h : DiffB xs ys m pre W b) (hg : W.grownBy W' row) (hr : ∀ r, row = some r → ∃ o : Obj, W.heap[r]? = some o ∧ o.isCells = false) : DiffB xs ys m pre W' b := by
  obtain ⟨pre', x, h1, h2, h3, h4⟩ := h
  exact ⟨pre', x, h1, h2, h3, blk_keeps h4 hg hr⟩
theorem decide_cast (x y : Nat) : decide ((x : Int) < (y : Int)) = decide (x < y) := by simp
theorem back_stopsK (F : Fence) (n : Nat) (hF : F.fn 107) (hro : F.round = none) (hn : 1 ≤ n) (bx K0 : Nat) (xs : List Nat) (m : Nat) (a : Option Addr) (c : Nat) (hxl : xs.length = m) (hm : m ≤ 100000) (w : World) (hK0 : K0 ≤ w.heap.size) (hbx : bx < K0) (hcb : w.cell? ⟨bx, 0, none⟩ = some (.slice a m c)) (hrd : RdWd K0 w a xs) :
    SeqStopsK F n Tryz.prog 107 #[.pointer (some ⟨bx, 0, none⟩)] (encB xs m) (KpB K0) (fun ys => ys.map Fin.val = List.range m) (fun pre => pre.map Fin.val = List.range pre.length) m w := fun l J Jx W hW _ _ hY h0 =>
  back1_in F n hF hro hn l bx K0 xs m a c hxl hm J Jx hY W hbx ((hW.cell (p := ⟨bx, 0, none⟩) (by show bx < _; omega)).trans hcb) (hrd.below (Nat.le_refl _) (hW.mono hK0)) h0

set_option maxRecDepth 100000 in
set_option maxHeartbeats 2000000 in
theorem atMost_ne (a a2 : Option Addr) (c c2 n n2 : Nat) (v : Bool) (hv : decide (n < n2) = v) (hne : n ≠ n2) (w : World) :
    Calls Tryz.prog 57 #[.slice a n c, .slice a2 n2 c2] w fun e w' => e = .returned (.bool v) ∧ Below w.heap.size w w' := by
  have hvH := Lib.hid hv
  have h1 : ((n : Int) != (n2 : Int)) = true := by simp; omega
  have h2 : ((n : Int) == (n2 : Int)) = false := by simp; omega
  have h3 : ¬ (n : Int) = n2 := by omega
  clear hv
  go_enter Tryz.func57, Tryz.ntmps57
  go_wp2_with fail
  refine bodyPost_ret (v := .bool v) (by simp [results, Tryz.results57, go_sem, hvH.out]) rfl ⟨rfl, ?_⟩
  exact jwd_al (jwd_al (Below.refl _ _) _) _

set_option maxRecDepth 100000 in
set_option maxHeartbeats 2000000 in
theorem atMost_eq (a a2 : Option Addr) (c c2 m : Nat) (xs ys : List Nat) (V V2 : Nat) (hx : xs.length = m) (hy : ys.length = m) (hm : m ≤ 100000) (w : World) (hr : LgR w a xs V) (hr2 : LgR w a2 ys V2) :
    Calls Tryz.prog 57 #[.slice a m c, .slice a2 m c2] w fun e w' => e = .returned (.bool (decide (V ≤ V2))) ∧ Below w.heap.size w w' := by
  have hxH := Lib.hid hx
  have hyH := Lib.hid hy
  have hrH := Lib.hid hr
  have hr2H := Lib.hid hr2
  clear hx hy hr hr2
  refine (callsIn_wide (n := 10)).1 ?_
  refine callsIn_of_wp_marks Tryz.func57 rfl trivial ?_
  simp only [Tryz.ntmps57, List.size_toArray, List.length_cons, List.length_nil, Nat.reduceAdd, Nat.reduceSub, Array.replicate_succ, Array.replicate_zero, List.push_toArray, List.append_toArray, List.nil_append, List.cons_append]
  gi_wp2_with fail
  refine ⟨trivial, (callsIn_wide.2 (Backward_any _ _ _ _)).mono ?_⟩
  rintro e w' ⟨rfl, rfl⟩
  gi_wp2_with fail
  have kb := ((Blk.new w 118 #[.slice a2 m c2]).alloc (.cells #[.bool false] 4)).alloc (.cells #[.slice a m c] 118)
  have kr := by simpa only [World.size_alloc] using (Blk.new (w.alloc (.cells #[.slice a2 m c2] 118)) 4 #[.bool false]).alloc (.cells #[.slice a m c] 118)
  have ka := by simpa only [World.size_alloc] using Blk.new ((w.alloc (.cells #[.slice a2 m c2] 118)).alloc (.cells #[.bool false] 4)) 118 #[.slice a m c]
  have hB := jwd_al (jwd_al (jwd_al (Below.refl _ w) (.cells #[.slice a2 m c2] 118)) (.cells #[.bool false] 4)) (.cells #[.slice a m c] 118)
  have hsz : (((w.alloc (.cells #[.slice a2 m c2] 118)).alloc (.cells #[.bool false] 4)).alloc (.cells #[.slice a m c] 118)).heap.size = w.heap.size + 3 := by simp
  obtain ⟨W0, hW0⟩ : ∃ W0, ((w.alloc (.cells #[.slice a2 m c2] 118)).alloc (.cells #[.bool false] 4)).alloc (.cells #[.slice a m c] 118) = W0 := ⟨_, rfl⟩
  rw [hW0] at kb kr ka hB hsz ⊢
  clear hW0
  refine wpIn_rangeFunc_ownG (n := 10) rfl (by omega) (gf := 107) (lb := #[.pointer (some ⟨w.heap.size + 1 + 1, 0, none⟩)]) rfl trivial (enters_of Tryz.func107 (by kernel_rfl) rfl)
    (Kp := KpB (w.heap.size + 3))
    (back_stopsK Fence.wide 9 trivial rfl (by omega) (w.heap.size + 1 + 1) (w.heap.size + 3) xs m a c hxH.out hm W0 (by omega) (by omega) (ka.cell rfl) ((hrH.out.rd.below (Nat.le_refl _) hB).mono (by omega))) (fun h k => h.trans k) (fun W l o o' hl _ _ _ k hk => World.putObj_heap_other (by omega)) (Below.refl _ _) (fun _ => rfl)
    (fun pre W => ((Blk W w.heap.size 118 #[.slice a2 m c2] ∧ Blk W (w.heap.size + 1) 4 #[.bool false]) ∧ AgreeB xs ys m pre) ∧ Below w.heap.size w W)
    (fun c pre W => (c = .ret ∧ DiffB xs ys m pre W (w.heap.size + 1)) ∧ Below w.heap.size w W)
    (OwnFrom.and (fun s A B row hs hg hr => ⟨⟨blk_keeps hs.1.1 hg (fun r e => (hr r e).2), blk_keeps hs.1.2 hg (fun r e => (hr r e).2)⟩, hs.2⟩) (ownFrom_below (Nat.le_refl _) (by omega)))
    (fun c => OwnFrom.and (fun s A B row hs hg hr => ⟨hs.1, hs.2.kept hg (fun r e => (hr r e).2)⟩) (ownFrom_below (Nat.le_refl _) (by omega)))
    ⟨⟨⟨kb, kr⟩, fun x hx => by simp at hx⟩, hB⟩
    (fun x => { tmps := #[.slice a m c, .slice a2 m c2, undef, .pointer (some ⟨w.heap.size, 0, none⟩), .pointer (some ⟨w.heap.size + 1, 0, none⟩), .int .i64 ((m - 1 - x.val : Nat) : Int), .int .u64 ((xs[m - 1 - x.val]?.getD 0 : Nat) : Int), .slice a m c, .int .i64 (m : Int), .slice a2 m c2, .int .i64 (m : Int), .bool false, undef, undef, undef, undef, undef, .slice a m c, .func (.func 107) #[] #[.pointer (some ⟨w.heap.size + 1 + 1, 0, none⟩)], .int .i64 ((m - 1 - x.val : Nat) : Int), .int .u64 ((xs[m - 1 - x.val]?.getD 0 : Nat) : Int), undef, undef, undef, undef, undef, undef, undef, undef, undef, undef, undef, undef], defers := [] }) ?assign ?body ?done ?stop
  case assign =>
    intro l x W K hK
    simp only [encB]
    gi_wp2
    exact hK
  case body =>
    rintro l pre ⟨p, hp⟩ W ⟨⟨⟨kb1, kr1⟩, hag⟩, hB1⟩ hlt
    dsimp only
    obtain ⟨j, hj⟩ : ∃ j, m - 1 - p = j := ⟨_, rfl⟩
    rw [hj]
    obtain ⟨b, o, rfl, hb, hcell⟩ := hr2H.out.rd.at (i := j) (by have := hyH.out; omega)
    have c2 := (hB1.cell (p := ⟨b, o + j, none⟩) hb).trans hcell
    have c0 := kb1.cell (i := 0) rfl
    have r0 := kr1.cell (i := 0) rfl
    have f0 := kr1.frozen 0
    obtain ⟨x, hx⟩ : ∃ x, xs[j]?.getD 0 = x := ⟨_, rfl⟩
    obtain ⟨y, hy⟩ : ∃ y, ys[j]?.getD 0 = y := ⟨_, rfl⟩
    have hxy : AgreeB xs ys m pre → x = y → AgreeB xs ys m (pre ++ [⟨p, hp⟩]) := fun h e z hz => by
      rcases List.mem_append.1 hz with h1 | h1
      · exact h z h1
      · simp at h1; subst h1
        show xs[m - 1 - p]?.getD 0 = _
        rw [hj, hx, hy]; exact e
    have hdf : AgreeB xs ys m pre → x ≠ y → ∀ W', Blk W' (w.heap.size + 1) 4 #[.bool (decide (x < y))] → DiffB xs ys m (pre ++ [⟨p, hp⟩]) W' (w.heap.size + 1) := fun h e W' hk =>
      ⟨pre, ⟨p, hp⟩, rfl, h, by show xs[m - 1 - p]?.getD 0 ≠ _; rw [hj, hx, hy]; exact e, by show Blk W' _ _ #[.bool (decide (xs[m - 1 - p]?.getD 0 < ys[m - 1 - p]?.getD 0))]; rw [hj, hx, hy]; exact hk⟩
    rw [hx]
    rw [hy] at c2
    have hxyH := Lib.hid hxy
    have hdfH := Lib.hid hdf
    have hjm : j < m := by omega
    clear hx hy hxy hdf hj hcell hlt
    by_cases e : x = y
    · have hnew := Lib.hid (hxyH.out hag e)
      subst e
      clear hxyH hdfH
      gi_wp2_with fail
      exact ⟨KeepsFrom.refl _ _, fun k hk => rfl, ⟨⟨kb1, kr1⟩, hnew.out⟩, hB1⟩
    · have e1 : ((x : Int) != (y : Int)) = true := by simp; omega
      have e2 : ((x : Int) == (y : Int)) = false := by simp; omega
      have e3 : ¬ (x : Int) = (y : Int) := by omega
      gi_wp2_with fail
      have kr2 := kr1.set 0 (.bool (decide (x < y)))
      have hB2 := hB1.setCell (p := ⟨w.heap.size + 1, 0, none⟩) (by simp) (.bool (decide (x < y)))
      have hd := decide_cast x y
      refine ⟨(KeepsOthers.setCell _ _ _).from _, ⟨rfl, hdfH.out hag e _ ?_⟩, ?_⟩
      · simpa using kr2
      · simpa using hB2
  case done =>
    rintro D ys' W hD hys ⟨⟨⟨kb1, kr1⟩, hag⟩, hB1⟩ hK
    have hle : decide (V ≤ V2) = true := by
      have hall : ∀ j : Nat, xs[j]?.getD 0 = ys[j]?.getD 0 := fun j => by
        by_cases hj : j < m
        · have hmem : m - 1 - j ∈ ys'.map Fin.val := by rw [hys]; exact List.mem_range.2 (by omega)
          obtain ⟨x, hx, hxv⟩ := List.mem_map.1 hmem
          have := hag x hx
          rw [hxv, show m - 1 - (m - 1 - j) = j by omega] at this
          exact this
        · rw [List.getElem?_eq_none (by have := hxH.out; omega), List.getElem?_eq_none (by have := hyH.out; omega)]
      have := val_same (B := two64) xs ys hall
      rw [hrH.out.val, hr2H.out.val] at this
      simp; omega
    have hleH := Lib.hid hle
    have c0 := kr1.cell (i := 0) rfl
    have f0 := kr1.frozen 0
    clear hle hag hys
    gi_wp2
    have hKf : (W.setCell ⟨w.heap.size + 1, 0, none⟩ (.bool true)).heap[D]? = some (.deferred (some [])) := (Below.heap_setCell _ _ _ _ (fun e => by simp at e; omega)).trans hK
    have kf := (kr1.set 0 (.bool true)).putObj (l := D) (by omega) (.deferred none)
    have g0 := kf.cell (i := 0) (v := .bool true) (by simp)
    refine ⟨by simp, .inl ⟨_, _, rfl, run_takeDeferred hKf, ?_⟩⟩
    refine ⟨.bool true, by simp [results, Tryz.results57, go_sem, g0], ret_b hleH.out.symm, ?_⟩
    exact (hB1.setCell (p := ⟨w.heap.size + 1, 0, none⟩) (by simp) _).trans (belowK_b (w := w) (Nat.le_refl _) _ D _ _ (by omega) hKf rfl rfl)
  case stop =>
    rintro D c pre W hD hpre ⟨⟨rfl, pre', x, rfl, hag, hne, kr1⟩, hB1⟩ hK
    obtain ⟨j, hj⟩ : ∃ j, m - 1 - x.val = j := ⟨_, rfl⟩
    rw [hj] at hne kr1
    have hxv : x.val = pre'.length ∧ pre'.map Fin.val = List.range pre'.length := by
      rw [List.map_append, List.length_append] at hpre
      simp only [List.map_cons, List.map_nil, List.length_cons, List.length_nil, Nat.zero_add, List.range_succ] at hpre
      have h1 := List.append_inj hpre (by simp)
      exact ⟨by simpa using h1.2, h1.1⟩
    have hup : ∀ i : Nat, j < i → xs[i]?.getD 0 = ys[i]?.getD 0 := fun i hi => by
      by_cases him : i < m
      · have hmem : m - 1 - i ∈ pre'.map Fin.val := by rw [hxv.2]; exact List.mem_range.2 (by have := x.isLt; omega)
        obtain ⟨z, hz, hzv⟩ := List.mem_map.1 hmem
        have := hag z hz
        rw [hzv, show m - 1 - (m - 1 - i) = i by omega] at this
        exact this
      · rw [List.getElem?_eq_none (by have := hxH.out; omega), List.getElem?_eq_none (by have := hyH.out; omega)]
    have hval : decide (xs[j]?.getD 0 < ys[j]?.getD 0) = decide (V ≤ V2) := by
      by_cases hlt : xs[j]?.getD 0 < ys[j]?.getD 0
      · have := val_order two64_pos hrH.out.words hr2H.out.words hup hlt
        rw [hrH.out.val, hr2H.out.val] at this
        rw [show decide (V ≤ V2) = true by simp; omega]
        simp [hlt]
      · have := val_order two64_pos hr2H.out.words hrH.out.words (fun i hi => (hup i hi).symm) (i := j) (by omega)
        rw [hrH.out.val, hr2H.out.val] at this
        rw [show decide (V ≤ V2) = false by simp; omega]
        simp; omega
    rw [hval] at kr1
    clear hval hup hxv hne hag hpre hj
    gi_wp2
    have kf := kr1.putObj (l := D) (by omega) (.deferred none)
    have g0 := kf.cell (i := 0) (v := .bool (decide (V ≤ V2))) (by simp)
    refine ⟨by simp, .inl ⟨_, _, rfl, run_takeDeferred hK, ?_⟩⟩
    refine ⟨.bool (decide (V ≤ V2)), by simp [results, Tryz.results57, go_sem, g0], rfl, ?_⟩
    exact hB1.trans (belowK_b (w := w) (Nat.le_refl _) _ D _ _ (by omega) hK rfl rfl)

/-- The program's comparison. -/
theorem atMost_any (a a2 : Option Addr) (c c2 n n2 : Nat) (xs ys : List Nat) (V V2 : Nat) (v : Bool) (hv : decide (V ≤ V2) = v) (hx : xs.length = n) (hy : ys.length = n2) (hm : n ≤ 100000) (w : World) (hr : LgR w a xs V) (hr2 : LgR w a2 ys V2) :
    Calls Tryz.prog 57 #[.slice a n c, .slice a2 n2 c2] w fun e w' => e = .returned (.bool v) ∧ Below w.heap.size w w' := by
  subst hv
  by_cases e : n = n2
  · subst e
    exact atMost_eq a a2 c c2 n xs ys V V2 hx hy hm w hr hr2
  · refine atMost_ne a a2 c c2 n n2 _ ?_ e w
    by_cases hlt : n < n2
    · have := val_short two64_pos hr.words hr2.trim (by omega)
      rw [hr.val, hr2.val] at this
      simp [hlt]; omega
    · have := val_short two64_pos hr2.words hr.trim (by omega)
      rw [hr.val, hr2.val] at this
      simp [hlt]; omega

end Go.Proofs.YtbdnjhnlfpfhcaaGreat

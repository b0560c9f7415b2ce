/- The specification's long numbers: digits to the base 2^30, products, sums, comparison. -/
import Derived.Test.YtaejdgjfnoefjaaJB
import Derived.Test.YtaejdgjfnoefjaaLong
import Derived.Test.YtaejdgjfnoefjaaWd
import Derived.Test.YtaejdgjfnoefjaaJS
import Derived.Lib.MinMax
namespace Go.Proofs.Ytaejdgjfnoefjaa
open Go Go.RowKit Go.Shelf
set_option linter.unusedVariables false
set_option linter.unusedSimpArgs false

def b30 : Nat := 1073741824
theorem b30_eq : b30 = 1073741824 := rfl
theorem b30_pos : 0 < b30 := by decide
def ints (ds : List Nat) : List Int := ds.map fun d : Nat => (d : Int)
theorem ints_length (ds : List Nat) : (ints ds).length = ds.length := by simp [ints]
theorem ints_get (ds : List Nat) (i : Nat) : (ints ds)[i]?.getD 0 = ((ds[i]?.getD 0 : Nat) : Int) := by
  unfold ints
  rw [List.getElem?_map]
  cases ds[i]? <;> simp

/-- A number of the specification, in memory. -/
structure LdR (W : World) (a : Option Addr) (ds : List Nat) (V : Nat) : Prop where
  rd : Rd W.heap.size W a (ints ds)
  words : wordsB b30 ds
  val : valB b30 ds = V
theorem LdR.later {W W' : World} {a : Option Addr} {ds : List Nat} {V : Nat} (h : LdR W a ds V) (hb : Below W.heap.size W W') : LdR W' a ds V := ⟨(h.rd.below (Nat.le_refl _) hb).mono hb.size, h.words, h.val⟩
def RetLd (w : World) (V L : Nat) (e : Ending) (w' : World) : Prop := ∃ ds a c, e = .returned (.slice a ds.length c) ∧ LdR w' a ds V ∧ ds.length ≤ L ∧ Below w.heap.size w w'

def RetLdF (w : World) (V L : Nat) (e : Ending) (w' : World) : Prop := ∃ ds a c, e = .returned (.slice a ds.length c) ∧ LdR w' a ds V ∧ ds.length ≤ L ∧ Below w.heap.size w w' ∧ ∀ ad, a = some ad → w.heap.size ≤ ad.block ∧ ad.block < w'.heap.size
theorem slice_own {a : Option Addr} {n c : Nat} {ad : Addr} (h : a = some ad) : (Value.slice a n c).ownBlock = some ad.block := by subst h; rfl

set_option maxHeartbeats 1000000 in
theorem digit_any (a : Option Addr) (c n : Nat) (ds : List Nat) (hn : ds.length = n) (i d : Nat) (hd : ds[i]?.getD 0 = d) (w : World) (hm : n ≤ 100000) (hr : Rd w.heap.size w a (ints ds)) :
    Calls Try.prog 118 #[.slice a n c, .int .i64 (i : Int)] w fun e w' => e = .returned (.int .i64 (d : Int)) ∧ w = w' := by
  have hnH := Lib.hid hn
  have hdH := Lib.hid hd
  clear hn hd
  by_cases hlt : i < n
  · rcases hr with h0 | ⟨b, o, rfl, hb, hc⟩
    · exfalso; have := hnH.out; rw [← ints_length, h0] at this; simp at this; omega
    have hcell := hc i (by rw [ints_length]; have := hnH.out; omega)
    rw [ints_get, hdH.out] at hcell
    clear hc
    go_enter Try.func118, Try.ntmps118
    go_wp2_with fail
    go_ret
    exact ⟨rfl, rfl⟩
  · have hd0 : d = 0 := by rw [← hdH.out, List.getElem?_eq_none (by have := hnH.out; omega)]; rfl
    have hd0H := Lib.hid hd0
    clear hd0 hr
    go_enter Try.func118, Try.ntmps118
    go_wp2_with fail
    go_ret
    rw [hd0H.out]
    exact ⟨rfl, rfl⟩

/-! ### Products -/

/-- What has been laid down of a product. -/
structure MulD (ds : List Nat) (n k : Nat) (os : List Nat) (cy : Nat) : Prop where
  len : os.length = k
  words : wordsB b30 os
  carry : cy < b30
  val : valB b30 os + b30 ^ k * cy = valB b30 (ds.take k) * n
  over : k ≤ ds.length ∨ (k = ds.length + 1 ∧ cy = 0)
theorem MulD.start (ds : List Nat) (n : Nat) : MulD ds n 0 [] 0 := ⟨rfl, fun x hx => by simp at hx, by decide, by simp [valB], .inl (Nat.zero_le _)⟩
theorem MulD.step {ds : List Nat} {n k : Nat} {os : List Nat} {cy : Nat} (h : MulD ds n k os cy) (hn : n ≤ b30) (hds : wordsB b30 ds) (hgo : k < ds.length ∨ 0 < cy) {d x s c' : Nat} (hd : ds[k]?.getD 0 = d) (hx : d * n + cy = x) (hs : x % b30 = s) (hc : x / b30 = c') : MulD ds n (k + 1) (os ++ [s]) c' := by
  have hdb : d < b30 := by rw [← hd]; exact wordsB_get b30_pos hds k
  have hcy := h.carry
  have hxe : x = b30 * c' + s := by rw [← hs, ← hc]; exact (Nat.div_add_mod _ _).symm
  have hsb : s < b30 := by rw [← hs]; exact Nat.mod_lt _ b30_pos
  have hxb : x < b30 * b30 := by
    have h1 : d * n ≤ (b30 - 1) * b30 := Nat.mul_le_mul (by omega) hn
    have h2 : (b30 - 1) * b30 + b30 = b30 * b30 := by decide
    omega
  have hcb : c' < b30 := by rw [← hc]; exact Nat.div_lt_of_lt_mul hxb
  refine ⟨by simp [h.len], fun y hy => ?_, hcb, ?_, ?_⟩
  · rcases List.mem_append.1 hy with h1 | h1
    · exact h.words y h1
    · simp at h1; subst h1; exact hsb
  · rw [valB_snoc, h.len, valB_take_more, hd, Nat.add_mul, ← h.val, Nat.mul_assoc]
    have e1 := congrArg (b30 ^ k * ·) hx
    simp only [Nat.mul_add] at e1
    rw [hxe, Nat.mul_add] at e1
    rw [Nat.pow_succ, Nat.mul_assoc (b30 ^ k) b30 c']
    omega
  · by_cases hk : k < ds.length
    · exact .inl (by omega)
    · rcases h.over with h1 | ⟨h1, h2⟩
      · refine .inr ⟨by omega, ?_⟩
        have hd0 : d = 0 := by rw [← hd, List.getElem?_eq_none (by omega)]; rfl
        rw [hd0, Nat.zero_mul, Nat.zero_add] at hx
        rw [← hc, ← hx]
        exact Nat.div_eq_of_lt hcy
      · omega
theorem MulD.done {ds : List Nat} {n k : Nat} {os : List Nat} (h : MulD ds n k os 0) (hk : ds.length ≤ k) : valB b30 os = valB b30 ds * n := by
  have := h.val
  rw [Nat.mul_zero, Nat.add_zero, List.take_of_length_le hk] at this
  exact this

theorem ints_snoc (os : List Nat) (s : Nat) : (ints os).map (Value.int .i64) ++ [.int .i64 (s : Int)] = (ints (os ++ [s])).map (Value.int .i64) := by simp [ints]

set_option maxRecDepth 100000 in
set_option maxHeartbeats 2000000 in
theorem Scaled_any (a : Option Addr) (c l : Nat) (ds : List Nat) (V n : Nat) (hl : ds.length = l) (hlb : l ≤ 10000) (hn : n ≤ 1073741824) (w : World) (hr : LdR w a ds V) :
    Calls Try.prog 85 #[.slice a l c, .int .i64 (n : Int)] w (RetLd w (V * n) (l + 1)) := by
  obtain ⟨i0, hi, hz0, hz1, hz2⟩ := info_parts jinfo_int
  have hlH := Lib.hid hl
  have hrH := Lib.hid hr
  have hst := Lib.hid (MulD.start ds n)
  clear hl hr
  go_enter Try.func85, Try.ntmps85
  go_wp2
  go_loopw [5, 6, 7] (fun v cv i wr => ∃ (k : Nat) (os : List Nat) (cy : Nat), k ≤ l + 1 ∧ i = .int .i64 (k : Int) ∧ cv = .int .i64 (cy : Int) ∧ Hid (MulD ds n k os cy) ∧ cy ≤ 1073741823 ∧ wr.ownsRow w.heap.size 3 1 v k ((ints os).map (Value.int .i64)) ∧ Below w.heap.size w wr) (fun _ _ i _ => l + 2 - (intOf i).toNat)
  case atStart => exact ⟨0, [], 0, by omega, rfl, rfl, hst, by omega, World.ownsRow_nil _ _ _ _, Below.refl _ _⟩
  case round =>
    clear hst
    obtain ⟨k, os, cy, hk, rfl, rfl, hM, hcyb, rowm, hB⟩ := hrel
    obtain ⟨d, hd⟩ : ∃ d, ds[k]?.getD 0 = d := ⟨_, rfl⟩
    have hdb : d < b30 := by rw [← hd]; exact wordsB_get b30_pos hrH.out.words k
    have hdb' : d ≤ 1073741823 := by rw [b30_eq] at hdb; omega
    have hrw := hrH.out.later hB
    have hdc := digit_any a c l ds hlH.out k d hd wr (by omega) hrw.rd
    obtain ⟨p, hp⟩ : ∃ p, d * n = p := ⟨_, rfl⟩
    have hpb : p ≤ 1152921504606846976 := by
      rw [← hp]
      exact Nat.le_trans (Nat.mul_le_mul hdb' hn) (by decide)
    obtain ⟨x, hx⟩ : ∃ x, p + cy = x := ⟨_, rfl⟩
    obtain ⟨s, hs⟩ : ∃ s, x % b30 = s := ⟨_, rfl⟩
    obtain ⟨c3, hc3⟩ : ∃ c3, x / b30 = c3 := ⟨_, rfl⟩
    have hpi : (d : Int) * (n : Int) = (p : Int) := by rw [← hp]; simp
    have hxi : (p : Int) + (cy : Int) = (x : Int) := by omega
    have hm1 : (x : Int) % 1073741824 = (s : Int) := by rw [← hs, b30_eq]; omega
    have hm2 : (x : Int) / 1073741824 = (c3 : Int) := by rw [← hc3, b30_eq]; omega
    have hm3 : Int.tmod (x : Int) 1073741824 = (s : Int) := by rw [Int.tmod_eq_emod_of_nonneg (by omega)]; exact hm1
    have hm4 : Int.tdiv (x : Int) 1073741824 = (c3 : Int) := by rw [Int.tdiv_eq_ediv_of_nonneg (by omega)]; exact hm2
    have hxb : x ≤ 2000000000000000000 := by omega
    have hnext := fun hgo => hM.out.step (by rw [b30_eq]; exact hn) hrH.out.words hgo hd (by rw [hp]; exact hx) hs hc3
    have hnextH := Lib.hid hnext
    have hdcH := Lib.hid hdc
    have hsn := Lib.hid (ints_snoc os s)
    have hlk := hM.out.over
    rw [hlH.out] at hlk
    have hown1 := rowm.alloc (.cells #[.int .i64 (s : Int)] 3)
    have hB1 := jb_al hB (.cells #[.int .i64 (s : Int)] 3)
    have hown1H := Lib.hid hown1
    have hB1H := Lib.hid hB1
    clear hd hdb hdb' hp hx hs hc3 hnext hdc hown1 hB1 hrw
    by_cases hgo : k < l ∨ 0 < cy
    · have hMn := hnextH.out (by rw [hlH.out]; exact hgo)
      have hMnH := Lib.hid hMn
      have hcn := hMn.carry
      rw [b30_eq] at hcn
      have hov := hMn.over
      rw [hlH.out] at hov
      clear hMn hnextH
      by_cases hlt : k < l
      · clear hgo
        go_wp2_with (first
          | (go_at_call 118; refine hdcH.out.mono ?_; rintro e w2 ⟨rfl, rfl⟩)
          | (at_builtin; refine wpList_append_own _ rfl _ _ 153 rfl w.heap.size 3 i0 (.int .i64 0) 1 8 Try.underlying153 hi hz0 hz1 hz2 rfl (by decide) _ k ((ints os).map (Value.int .i64)) rfl hown1H.out ⟨wr.heap.size, 0, none⟩ 1 1 [.int .i64 (s : Int)] rfl rfl (cell_one_new _ _ _) (by simp [Value.oneCell']) (by unfold maxLen; omega) (by omega) hB1H.out.size ?_; intro v' w4 hown' hgrow hnil; rw [hsn.out] at hown'; have hBB := hB1H.out.trans (below_of_row (n := w.heap.size) hown1H.out hgrow (Nat.le_refl _) hB1H.out.size); clear hgrow hnil))
        go_roundw
        case rel => exact ⟨k + 1, os ++ [s], c3, by omega, by go_num, rfl, hMnH, by omega, hown', hBB⟩
        case measure => simp [intOf] <;> omega
      · have hcy0 : 0 < cy := by omega
        clear hgo
        go_wp2_with (first
          | (go_at_call 118; refine hdcH.out.mono ?_; rintro e w2 ⟨rfl, rfl⟩)
          | (at_builtin; refine wpList_append_own _ rfl _ _ 153 rfl w.heap.size 3 i0 (.int .i64 0) 1 8 Try.underlying153 hi hz0 hz1 hz2 rfl (by decide) _ k ((ints os).map (Value.int .i64)) rfl hown1H.out ⟨wr.heap.size, 0, none⟩ 1 1 [.int .i64 (s : Int)] rfl rfl (cell_one_new _ _ _) (by simp [Value.oneCell']) (by unfold maxLen; omega) (by omega) hB1H.out.size ?_; intro v' w4 hown' hgrow hnil; rw [hsn.out] at hown'; have hBB := hB1H.out.trans (below_of_row (n := w.heap.size) hown1H.out hgrow (Nat.le_refl _) hB1H.out.size); clear hgrow hnil))
        go_roundw
        case rel => exact ⟨k + 1, os ++ [s], c3, by omega, by go_num, rfl, hMnH, by omega, hown', hBB⟩
        case measure => simp [intOf] <;> omega
    · have hcy0 : cy = 0 := by omega
      have hkl : ¬ k < l := by omega
      subst hcy0
      have hval : valB b30 os = V * n := by
        rw [← hrH.out.val]
        exact hM.out.done (by rw [hlH.out]; omega)
      obtain ⟨sa, sc, rfl⟩ := jrow_slice rowm
      have hol := hM.out.len
      have hrd := rowI_rd (by rw [ints_length]; exact hol) rowm
      have hfin : RetLd w (V * n) (l + 1) (.returned (.slice sa k sc)) wr := ⟨os, sa, sc, by rw [hol], ⟨hrd, hM.out.words, hval⟩, by omega, hB⟩
      have hfinH := Lib.hid hfin
      clear hfin hrd hval hM hgo hnextH
      go_wp2_with fail
      go_ret
      exact hfinH.out

/-! ### Sums -/

structure SumD (xs ys : List Nat) (k : Nat) (os : List Nat) (cy : Nat) : Prop where
  len : os.length = k
  words : wordsB b30 os
  carry : cy ≤ 1
  val : valB b30 os + b30 ^ k * cy = valB b30 (xs.take k) + valB b30 (ys.take k)
  over : k ≤ max xs.length ys.length ∨ (k = max xs.length ys.length + 1 ∧ cy = 0)
theorem SumD.start (xs ys : List Nat) : SumD xs ys 0 [] 0 := ⟨rfl, fun x hx => by simp at hx, by omega, by simp [valB], .inl (Nat.zero_le _)⟩
theorem SumD.step {xs ys : List Nat} {k : Nat} {os : List Nat} {cy : Nat} (h : SumD xs ys k os cy) (hxs : wordsB b30 xs) (hys : wordsB b30 ys) (hgo : k < max xs.length ys.length ∨ 0 < cy) {d e x s c' : Nat} (hd : xs[k]?.getD 0 = d) (he : ys[k]?.getD 0 = e) (hx : d + e + cy = x) (hs : x % b30 = s) (hc : x / b30 = c') : SumD xs ys (k + 1) (os ++ [s]) c' := by
  have hdb : d < b30 := by rw [← hd]; exact wordsB_get b30_pos hxs k
  have heb : e < b30 := by rw [← he]; exact wordsB_get b30_pos hys k
  have hcy := h.carry
  have hxe : x = b30 * c' + s := by rw [← hs, ← hc]; exact (Nat.div_add_mod _ _).symm
  have hsb : s < b30 := by rw [← hs]; exact Nat.mod_lt _ b30_pos
  have hcb : c' ≤ 1 := by
    have : x / b30 < 2 := Nat.div_lt_of_lt_mul (by omega)
    omega
  refine ⟨by simp [h.len], fun y hy => ?_, hcb, ?_, ?_⟩
  · rcases List.mem_append.1 hy with h1 | h1
    · exact h.words y h1
    · simp at h1; subst h1; exact hsb
  · rw [valB_snoc, h.len, valB_take_more, valB_take_more, hd, he]
    have h2 := h.val
    have e1 := congrArg (b30 ^ k * ·) hx
    simp only [Nat.mul_add] at e1
    rw [hxe, Nat.mul_add] at e1
    rw [Nat.pow_succ, Nat.mul_assoc (b30 ^ k) b30 c']
    omega
  · by_cases hk : k < max xs.length ys.length
    · exact .inl (by omega)
    · rcases h.over with h1 | ⟨h1, h2⟩
      · refine .inr ⟨by omega, ?_⟩
        have hd0 : d = 0 := by rw [← hd, List.getElem?_eq_none (by omega)]; rfl
        have he0 : e = 0 := by rw [← he, List.getElem?_eq_none (by omega)]; rfl
        rw [← hc, ← hx, hd0, he0]
        exact Nat.div_eq_of_lt (by rw [b30_eq]; omega)
      · omega
theorem SumD.done {xs ys : List Nat} {k : Nat} {os : List Nat} (h : SumD xs ys k os 0) (hk : max xs.length ys.length ≤ k) : valB b30 os = valB b30 xs + valB b30 ys := by
  have := h.val
  rw [Nat.mul_zero, Nat.add_zero, List.take_of_length_le (by omega), List.take_of_length_le (by omega)] at this
  exact this

set_option maxRecDepth 100000 in
set_option maxHeartbeats 2000000 in
theorem Plus_any (a a2 : Option Addr) (c c2 l l2 : Nat) (xs ys : List Nat) (V V2 : Nat) (hl : xs.length = l) (hl2 : ys.length = l2) (hlb : l ≤ 10000) (hlb2 : l2 ≤ 10000) (w : World) (hr : LdR w a xs V) (hr2 : LdR w a2 ys V2) :
    Calls Try.prog 93 #[.slice a l c, .slice a2 l2 c2] w (RetLdF w (V + V2) (max l l2 + 1)) := by
  obtain ⟨i0, hi, hz0, hz1, hz2⟩ := info_parts jinfo_int
  obtain ⟨m, hm⟩ : ∃ m, max l l2 = m := ⟨_, rfl⟩
  have hmx : max (l : Int) (l2 : Int) = (m : Int) := by omega
  have hmb : m ≤ 10000 := by omega
  rw [hm]
  have hlH := Lib.hid hl
  have hl2H := Lib.hid hl2
  have hrH := Lib.hid hr
  have hr2H := Lib.hid hr2
  have hmH := Lib.hid hm
  have hst := Lib.hid (SumD.start xs ys)
  clear hl hl2 hr hr2 hm
  go_enter Try.func93, Try.ntmps93
  go_wp2
  go_loopw [5, 6, 7] (fun v cv i wr => ∃ (k : Nat) (os : List Nat) (cy : Nat), k ≤ m + 1 ∧ i = .int .i64 (k : Int) ∧ cv = .int .i64 (cy : Int) ∧ Hid (SumD xs ys k os cy) ∧ cy ≤ 1 ∧ wr.ownsRow w.heap.size 3 1 v k ((ints os).map (Value.int .i64)) ∧ Below w.heap.size w wr) (fun _ _ i _ => m + 2 - (intOf i).toNat)
  case atStart => exact ⟨0, [], 0, by omega, rfl, rfl, hst, by omega, World.ownsRow_nil _ _ _ _, Below.refl _ _⟩
  case round =>
    clear hst
    obtain ⟨k, os, cy, hk, rfl, rfl, hM, hcyb, rowm, hB⟩ := hrel
    obtain ⟨d, hd⟩ : ∃ d, xs[k]?.getD 0 = d := ⟨_, rfl⟩
    obtain ⟨d2, hd2⟩ : ∃ d, ys[k]?.getD 0 = d := ⟨_, rfl⟩
    have hdb : d < b30 := by rw [← hd]; exact wordsB_get b30_pos hrH.out.words k
    have hdb' : d ≤ 1073741823 := by rw [b30_eq] at hdb; omega
    have hd2b : d2 < b30 := by rw [← hd2]; exact wordsB_get b30_pos hr2H.out.words k
    have hd2b' : d2 ≤ 1073741823 := by rw [b30_eq] at hd2b; omega
    have hrw := hrH.out.later hB
    have hrw2 := hr2H.out.later hB
    have hdc := digit_any a c l xs hlH.out k d hd wr (by omega) hrw.rd
    have hdc2 := digit_any a2 c2 l2 ys hl2H.out k d2 hd2 wr (by omega) hrw2.rd
    obtain ⟨x, hx⟩ : ∃ x, d + d2 + cy = x := ⟨_, rfl⟩
    obtain ⟨s, hs⟩ : ∃ s, x % b30 = s := ⟨_, rfl⟩
    obtain ⟨c3, hc3⟩ : ∃ c3, x / b30 = c3 := ⟨_, rfl⟩
    have hxi : (d : Int) + (d2 : Int) + (cy : Int) = (x : Int) := by omega
    have hm1 : (x : Int) % 1073741824 = (s : Int) := by rw [← hs, b30_eq]; omega
    have hm2 : (x : Int) / 1073741824 = (c3 : Int) := by rw [← hc3, b30_eq]; omega
    have hm3 : Int.tmod (x : Int) 1073741824 = (s : Int) := by rw [Int.tmod_eq_emod_of_nonneg (by omega)]; exact hm1
    have hm4 : Int.tdiv (x : Int) 1073741824 = (c3 : Int) := by rw [Int.tdiv_eq_ediv_of_nonneg (by omega)]; exact hm2
    have hxb : x ≤ 3000000000 := by omega
    have hnext := fun hgo => hM.out.step hrH.out.words hr2H.out.words hgo hd hd2 hx hs hc3
    have hnextH := Lib.hid hnext
    have hdcH := Lib.hid hdc
    have hdc2H := Lib.hid hdc2
    have hsn := Lib.hid (ints_snoc os s)
    have hlk := hM.out.over
    rw [hlH.out, hl2H.out, hmH.out] at hlk
    have hown1 := rowm.alloc (.cells #[.int .i64 (s : Int)] 3)
    have hB1 := jb_al hB (.cells #[.int .i64 (s : Int)] 3)
    have hown1H := Lib.hid hown1
    have hB1H := Lib.hid hB1
    clear hd hdb hdb' hd2 hd2b hd2b' hx hs hc3 hnext hdc hdc2 hown1 hB1 hrw hrw2
    have tok1 : True := trivial
    by_cases hgo : k < m ∨ 0 < cy
    · have hMn := hnextH.out (by rw [hlH.out, hl2H.out, hmH.out]; exact hgo)
      have hMnH := Lib.hid hMn
      have hcn := hMn.carry
      have hov := hMn.over
      rw [hlH.out, hl2H.out, hmH.out] at hov
      clear hMn hnextH
      by_cases hlt : k < m
      · clear hgo
        go_wp2_with (first
          | (go_at_call 118; have _t := tok1; refine hdcH.out.mono ?_; clear _t tok1; rintro e w2 ⟨rfl, rfl⟩)
          | (go_at_call 118; refine hdc2H.out.mono ?_; rintro e w2 ⟨rfl, rfl⟩)
          | (at_builtin; refine wpList_append_own _ rfl _ _ 153 rfl w.heap.size 3 i0 (.int .i64 0) 1 8 Try.underlying153 hi hz0 hz1 hz2 rfl (by decide) _ k ((ints os).map (Value.int .i64)) rfl hown1H.out ⟨wr.heap.size, 0, none⟩ 1 1 [.int .i64 (s : Int)] rfl rfl (cell_one_new _ _ _) (by simp [Value.oneCell']) (by unfold maxLen; omega) (by omega) hB1H.out.size ?_; intro v' w4 hown' hgrow hnil; rw [hsn.out] at hown'; have hBB := hB1H.out.trans (below_of_row (n := w.heap.size) hown1H.out hgrow (Nat.le_refl _) hB1H.out.size); clear hgrow hnil))
        go_roundw
        case rel => exact ⟨k + 1, os ++ [s], c3, by omega, by go_num, rfl, hMnH, by omega, hown', hBB⟩
        case measure => simp [intOf] <;> omega
      · have hcy0 : 0 < cy := by omega
        clear hgo
        go_wp2_with (first
          | (go_at_call 118; have _t := tok1; refine hdcH.out.mono ?_; clear _t tok1; rintro e w2 ⟨rfl, rfl⟩)
          | (go_at_call 118; refine hdc2H.out.mono ?_; rintro e w2 ⟨rfl, rfl⟩)
          | (at_builtin; refine wpList_append_own _ rfl _ _ 153 rfl w.heap.size 3 i0 (.int .i64 0) 1 8 Try.underlying153 hi hz0 hz1 hz2 rfl (by decide) _ k ((ints os).map (Value.int .i64)) rfl hown1H.out ⟨wr.heap.size, 0, none⟩ 1 1 [.int .i64 (s : Int)] rfl rfl (cell_one_new _ _ _) (by simp [Value.oneCell']) (by unfold maxLen; omega) (by omega) hB1H.out.size ?_; intro v' w4 hown' hgrow hnil; rw [hsn.out] at hown'; have hBB := hB1H.out.trans (below_of_row (n := w.heap.size) hown1H.out hgrow (Nat.le_refl _) hB1H.out.size); clear hgrow hnil))
        go_roundw
        case rel => exact ⟨k + 1, os ++ [s], c3, by omega, by go_num, rfl, hMnH, by omega, hown', hBB⟩
        case measure => simp [intOf] <;> omega
    · have hcy0 : cy = 0 := by omega
      have hkl : ¬ k < m := by omega
      subst hcy0
      have hval : valB b30 os = V + V2 := by
        rw [← hrH.out.val, ← hr2H.out.val]
        exact hM.out.done (by rw [hlH.out, hl2H.out, hmH.out]; omega)
      obtain ⟨sa, sc, rfl⟩ := jrow_slice rowm
      have hol := hM.out.len
      have hrd := rowI_rd (by rw [ints_length]; exact hol) rowm
      have hfin : RetLdF w (V + V2) (m + 1) (.returned (.slice sa k sc)) wr := ⟨os, sa, sc, by rw [hol], ⟨hrd, hM.out.words, hval⟩, by omega, hB, fun ad e => rowm.lt _ (slice_own e)⟩
      have hfinH := Lib.hid hfin
      clear hfin hrd hval hM hgo hnextH
      go_wp2_with fail
      go_ret
      exact hfinH.out

/-! ### Comparison -/

set_option maxRecDepth 100000 in
set_option maxHeartbeats 2000000 in
theorem Least_any (a a2 : Option Addr) (c c2 l l2 : Nat) (xs ys : List Nat) (V V2 : Nat) (v : Bool) (hv : decide (V ≤ V2) = v) (hl : xs.length = l) (hl2 : ys.length = l2) (hlb : l ≤ 10000) (hlb2 : l2 ≤ 10000) (w : World) (hr : LdR w a xs V) (hr2 : LdR w a2 ys V2) :
    Calls Try.prog 86 #[.slice a l c, .slice a2 l2 c2] w fun e w' => e = .returned (.bool v) ∧ w = w' := by
  obtain ⟨m, hm⟩ : ∃ m, max l l2 = m := ⟨_, rfl⟩
  have hmx : max (l : Int) (l2 : Int) = (m : Int) := by omega
  have hmb : m ≤ 10000 := by omega
  have hlH := Lib.hid hl
  have hl2H := Lib.hid hl2
  have hrH := Lib.hid hr
  have hr2H := Lib.hid hr2
  have hmH := Lib.hid hm
  have hvH := Lib.hid hv
  clear hl hl2 hr hr2 hm hv
  go_enter Try.func86, Try.ntmps86
  go_wp2
  go_loop [5] (fun i => ∃ k : Nat, k ≤ m ∧ Hid (i = .int .i64 ((k : Int) - 1)) ∧ Hid (∀ j : Nat, k ≤ j → xs[j]?.getD 0 = ys[j]?.getD 0)) (fun i => (intOf i + 1).toNat)
  case atStart => exact ⟨m, Nat.le_refl _, Lib.hid rfl, Lib.hid fun j hj => by rw [List.getElem?_eq_none (by have := hlH.out; have := hmH.out; omega), List.getElem?_eq_none (by have := hl2H.out; have := hmH.out; omega)]⟩
  case round =>
    obtain ⟨k, hk, hi, hag⟩ := hrel
    rcases k with _ | k
    · have hi2 := hi.out
      rw [show ((0 : Nat) : Int) - 1 = -1 from rfl] at hi2
      subst hi2
      have hval := val_same (B := b30) xs ys fun j => hag.out j (Nat.zero_le _)
      rw [hrH.out.val, hr2H.out.val] at hval
      have hvt : v = true := by rw [← hvH.out]; simp <;> omega
      subst hvt
      clear hi hval hag
      go_wp2_with fail
      go_ret
      exact ⟨rfl, rfl⟩
    · have hi2 := hi.out
      rw [show (((k + 1 : Nat)) : Int) - 1 = (k : Int) by omega] at hi2
      subst hi2
      obtain ⟨d, hd⟩ : ∃ d, xs[k]?.getD 0 = d := ⟨_, rfl⟩
      obtain ⟨d2, hd2⟩ : ∃ d, ys[k]?.getD 0 = d := ⟨_, rfl⟩
      have hdc := digit_any a c l xs hlH.out k d hd w (by omega) hrH.out.rd
      have hdc2 := digit_any a2 c2 l2 ys hl2H.out k d2 hd2 w (by omega) hr2H.out.rd
      have hdcH := Lib.hid hdc
      have hdc2H := Lib.hid hdc2
      by_cases e : d = d2
      · have hag2 := Lib.hid (show ∀ j : Nat, k ≤ j → xs[j]?.getD 0 = ys[j]?.getD 0 from fun j hj => by
          by_cases ej : j = k
          · subst ej; rw [hd, hd2]; exact e
          · exact hag.out j (by omega))
        clear hi hag hd hd2 hdc hdc2
        subst e
        have tok1 : True := trivial
        go_wp2_with (first
          | (go_at_call 118; have _t := tok1; refine hdcH.out.mono ?_; clear _t tok1; rintro e w2 ⟨rfl, rfl⟩)
          | (go_at_call 118; refine hdc2H.out.mono ?_; rintro e w2 ⟨rfl, rfl⟩))
        go_round
        case rel => exact ⟨k, by omega, Lib.hid rfl, hag2⟩
        case measure => simp [intOf] <;> omega
      · have hvd : decide (d < d2) = v := by
          rw [← hvH.out]
          by_cases hlt : d < d2
          · have := val_order b30_pos hrH.out.words hr2H.out.words (i := k) (fun j hj => hag.out j (by omega)) (by rw [hd, hd2]; exact hlt)
            rw [hrH.out.val, hr2H.out.val] at this
            simp [hlt] <;> omega
          · have := val_order b30_pos hr2H.out.words hrH.out.words (i := k) (fun j hj => (hag.out j (by omega)).symm) (by rw [hd, hd2]; omega)
            rw [hrH.out.val, hr2H.out.val] at this
            simp [hlt] <;> omega
        have hvdH := Lib.hid hvd
        have e1 : ((d : Int) != (d2 : Int)) = true := by simp; omega
        have e2 : ((d : Int) == (d2 : Int)) = false := by simp; omega
        have e3 : ¬ (d : Int) = (d2 : Int) := by omega
        clear hi hag hd hd2 hdc hdc2 hvd e
        have tok1 : True := trivial
        have tok2 : True := trivial
        have tok3 : True := trivial
        go_wp2_with (first
          | (go_at_call 118; have _t := tok1; refine hdcH.out.mono ?_; clear _t tok1; rintro e w2 ⟨rfl, rfl⟩)
          | (go_at_call 118; have _t := tok2; refine hdc2H.out.mono ?_; clear _t tok2; rintro e w2 ⟨rfl, rfl⟩)
          | (go_at_call 118; have _t := tok3; refine hdcH.out.mono ?_; clear _t tok3; rintro e w2 ⟨rfl, rfl⟩)
          | (go_at_call 118; refine hdc2H.out.mono ?_; rintro e w2 ⟨rfl, rfl⟩))
        go_ret
        exact ⟨ret_b (by rw [← hvdH.out]), rfl⟩

end Go.Proofs.Ytaejdgjfnoefjaa

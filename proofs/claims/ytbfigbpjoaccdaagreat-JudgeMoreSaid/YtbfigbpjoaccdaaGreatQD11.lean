/- Contracts and laws (JX, Long). -/
import Derived.Shelf.Bits.Mul64
import Derived.Laws.CopyOwn
import Derived.Lib.Hide
import Derived.Test.YtbfigbpjoaccdaaGreatQD1
namespace Go.Proofs.YtbfigbpjoaccdaaGreat
open Go Go.RowKit Go.Shelf
set_option linter.unusedVariables false
set_option linter.unusedSimpArgs false

/-- Some label is greater than 2. -/
def bigN (xs : List Nat) : Bool := xs.any fun x => decide (2 < x)
theorem bigN_hit {xs : List Nat} {k : Nat} (hk : k < xs.length) (h : 2 < xs[k]?.getD 0) : bigN xs = true := by
  rw [List.getElem?_eq_getElem hk] at h
  simp only [bigN, List.any_eq_true, decide_eq_true_eq]
  exact ⟨_, List.getElem_mem hk, h⟩
theorem bigN_succ {xs : List Nat} {k : Nat} (hk : k < xs.length) (hb : bigN (xs.take k) = false) (h : ¬ 2 < xs[k]?.getD 0) : bigN (xs.take (k + 1)) = false := by
  rw [List.getElem?_eq_getElem hk] at h
  simp only [Option.getD_some] at h
  rw [List.take_succ_eq_append_getElem hk]
  simp only [bigN, List.any_append] at hb ⊢
  rw [hb]
  simp
  omega
theorem bigN_le {xs : List Nat} (h : bigN xs = false) (k : Nat) : (xs[k]?).getD 0 ≤ 2 := by
  rcases Nat.lt_or_ge k xs.length with hk | hk
  · rw [List.getElem?_eq_getElem hk]
    have := List.any_eq_false.1 h xs[k] (List.getElem_mem hk)
    simp only [decide_eq_true_eq] at this
    simp only [Option.getD_some]
    omega
  · rw [List.getElem?_eq_none hk]; exact Nat.zero_le 2

theorem big_any (x : Nat) (w : World) : Calls Tryz.prog 66 (#[.int .u8 (x : Int)] ++ #[]) w fun e w' => e = .returned (.bool (decide (2 < x))) ∧ w' = w := by
  by_cases h : 2 < x
  · go_enter Tryz.func66, Tryz.ntmps66
    go_wp2
    go_ret
    exact ⟨ret_bool (by simp [h]; omega), rfl⟩
  · go_enter Tryz.func66, Tryz.ntmps66
    go_wp2
    go_ret
    exact ⟨ret_bool (by simp [h]; omega), rfl⟩

theorem enters_big : ∀ args w, (callFunc 66 args).run Tryz.prog w = .ok (.enter 66 args) w := enters_of Tryz.func66 (by kernel_rfl) rfl

set_option maxHeartbeats 1000000 in
theorem IndexFunc_any (a : Option Addr) (c n : Nat) (xs : List Nat) (hn : xs.length = n) (hm : n ≤ 100000) (w : World) (hr : RdN w.heap.size w a xs) :
    Calls Tryz.prog 106 #[.slice a n c, .func (.func 66) #[] #[]] w fun e w' => (∃ k : Int, e = .returned (.int .i64 k) ∧ decide (0 ≤ k) = bigN xs) ∧ w' = w := by
  have hnH := Lib.hid hn
  clear hn
  have enters_g := enters_big
  go_enter Tryz.func106, Tryz.ntmps106
  go_wp2
  go_loop [5, 8] (fun v i => ∃ k : Nat, k ≤ n ∧ i = .int .i64 k ∧ bigN (xs.take k) = false) (fun _ i => n - (intOf i).toNat)
  case atStart => exact ⟨0, Nat.zero_le _, rfl, by simp [bigN]⟩
  case round =>
    obtain ⟨k, hk, rfl, hall⟩ := hrel
    by_cases hlt : k < n
    · rcases hr with h0 | ⟨b, o, rfl, hb, hc⟩
      · exfalso; have := hnH.out; rw [h0] at this; simp at this; omega
      have hlt' : k < xs.length := by have := hnH.out; omega
      have hcell := hc k hlt'
      clear hc
      obtain ⟨x, hx⟩ : ∃ x, xs[k]?.getD 0 = x := ⟨_, rfl⟩
      rw [hx] at hcell
      have hs1 : 2 < x → bigN xs = true := fun h => bigN_hit hlt' (by rw [hx]; exact h)
      have hs2 : ¬ 2 < x → bigN (xs.take (k + 1)) = false := fun h => bigN_succ hlt' hall (by rw [hx]; exact h)
      have hs1H := Lib.hid hs1
      have hs2H := Lib.hid hs2
      clear hx hlt' hs1 hs2 hall
      have hcall := big_any x w
      by_cases h1 : 2 < x
      · rw [show decide (2 < x) = true by simp [h1]] at hcall
        go_wp2_with (go_at_fn 66; refine hcall.mono ?_; rintro e w' ⟨rfl, rfl⟩)
        go_ret
        exact ⟨⟨_, rfl, by rw [hs1H.out h1]; simp⟩, rfl⟩
      · rw [show decide (2 < x) = false by simp [h1]] at hcall
        go_wp2_with (go_at_fn 66; refine hcall.mono ?_; rintro e w' ⟨rfl, rfl⟩)
        go_round
        case rel => exact ⟨k + 1, by omega, by go_num, hs2H.out h1⟩
        case measure => simp [intOf]; omega
    · go_wp2
      go_ret
      rw [List.take_of_length_le (by have := hnH.out; omega)] at hall
      exact ⟨⟨_, rfl, by rw [hall]; rfl⟩, rfl⟩

set_option maxHeartbeats 400000 in
theorem ContainsFunc_any (a : Option Addr) (c n : Nat) (xs : List Nat) (hn : xs.length = n) (hm : n ≤ 100000) (w : World) (hr : RdN w.heap.size w a xs) :
    Calls Tryz.prog 65 #[.slice a n c, .func (.func 66) #[] #[]] w fun e w' => e = .returned (.bool (bigN xs)) ∧ w' = w := by
  go_enter Tryz.func65, Tryz.ntmps65
  go_wp2_with (go_at_call 106; refine (IndexFunc_any a c n xs hn hm _ hr).mono ?_; rintro e w' ⟨⟨k, rfl, hk⟩, rfl⟩)
  all_goals go_ret
  all_goals exact ⟨ret_bool (by rw [← hk]), rfl⟩

set_option maxRecDepth 100000 in
set_option maxHeartbeats 1000000 in
theorem EqualN_any (a1 a2 : Option Addr) (c1 c2 n : Nat) (xs ys : List Nat) (hn : xs.length = n) (hn2 : ys.length = n) (hm : n ≤ 100000) (w : World) (h1 : RdN w.heap.size w a1 xs) (h2 : RdN w.heap.size w a2 ys) (hx : ∀ x ∈ xs, x < 256) (hy : ∀ x ∈ ys, x < 256) :
    Calls Tryz.prog 69 #[.slice a1 n c1, .slice a2 n c2] w fun e w' => e = .returned (.bool (decide (xs = ys))) ∧ Below w.heap.size w w' := by
  have hnH := Lib.hid hn
  have hnH2 := Lib.hid hn2
  clear hn hn2
  have hxH := Lib.hid hx
  have hyH := Lib.hid hy
  clear hx hy
  go_enter Tryz.func69, Tryz.ntmps69
  go_wp2
  go_loopw [13] (fun i wr => ∃ k : Nat, k ≤ n ∧ i = .int .i64 k ∧ Hid (∀ j, j < k → xs[j]? = ys[j]?) ∧ Below w.heap.size w wr) (fun i _ => n - (intOf i).toNat)
  case atStart => exact ⟨0, Nat.zero_le _, rfl, Lib.hid (fun j hj => absurd hj (Nat.not_lt_zero _)), Below.refl _ _⟩
  case round =>
    obtain ⟨k, hk, rfl, hall, hB⟩ := hrel
    by_cases hlt : k < n
    · rcases h1 with h0 | ⟨b, o, rfl, hb, hc⟩
      · exfalso; have := hnH.out; rw [h0] at this; simp at this; omega
      rcases h2 with h0 | ⟨b2, o2, rfl, hb2, hc2⟩
      · exfalso; have := hnH2.out; rw [h0] at this; simp at this; omega
      have hlt' : k < xs.length := by have := hnH.out; omega
      have hlt2 : k < ys.length := by have := hnH2.out; omega
      have hcell := (hB.cell (p := ⟨b, o + k, none⟩) hb).trans (hc k hlt')
      have hcell2 := (hB.cell (p := ⟨b2, o2 + k, none⟩) hb2).trans (hc2 k hlt2)
      have hxe : xs[k]? = some xs[k] := List.getElem?_eq_getElem hlt'
      have hye : ys[k]? = some ys[k] := List.getElem?_eq_getElem hlt2
      rw [hxe] at hcell
      rw [hye] at hcell2
      simp only [Option.getD_some] at hcell hcell2
      obtain ⟨x, hx⟩ : ∃ x, xs[k] = x := ⟨_, rfl⟩
      obtain ⟨y, hy⟩ : ∃ y, ys[k] = y := ⟨_, rfl⟩
      rw [hx] at hcell hxe
      rw [hy] at hcell2 hye
      have hxeH := Lib.hid hxe
      have hyeH := Lib.hid hye
      clear hx hy hlt' hlt2 hc hc2 hxe hye
      have hS : wr.heap = wr.drew.heap := rfl
      have hS0 : wr.drew.heap = wr.heap := rfl
      by_cases e : x = y
      · have ed : ((x : Int) == (y : Int)) = true := by simp [e]
        go_wp2_with fail
        refine plain_region (fun W' => W'.heap = wr.heap) 9 9 (by kernel_rfl) rfl ?_
        simp only [Array.replicate_succ, Array.replicate_zero, List.push_toArray, List.nil_append, List.cons_append]
        refine take_op 0 (v := ?pv0) rfl (by kernel_rfl) (fun _ _ _ h => h) (by rfl) hS0 (fun w' hS' => ?py0) ?pz0
        case py0 =>
          go_simp
          rfl
        simp only [List.setIfInBounds_toArray, List.set_cons_zero, List.set_cons_succ]
        refine take_op 1 (v := ?pv1) rfl (by kernel_rfl) (fun _ _ _ h => h) (by rfl) hS0 (fun w' hS' => ?py1) ?pz1
        case py1 =>
          go_simp
          rfl
        simp only [List.setIfInBounds_toArray, List.set_cons_zero, List.set_cons_succ]
        refine take_op 2 (v := ?pv2) rfl (by kernel_rfl) (fun _ _ _ h => h) (by rfl) hS0 (fun w' hS' => ?py2) ?pz2
        case py2 =>
          go_simp
          try go_ints
          first
          | rfl
          | (rw [if_pos (by omega)]; done)
          | rw [if_pos ⟨by omega, by omega⟩]
        simp only [List.setIfInBounds_toArray, List.set_cons_zero, List.set_cons_succ]
        refine take_op 3 (v := ?pv3) rfl (by kernel_rfl) (fun _ _ _ h => h) (by rfl) hS0 (fun w' hS' => ?py3) ?pz3
        case py3 =>
          have c1 := (World.cell?_of_block (w := wr) (w' := w') (a := ⟨b, o + k, none⟩) (by rw [hS'])).trans hcell
          have c2 := (World.cell?_of_block (w := wr) (w' := w') (a := ⟨b2, o2 + k, none⟩) (by rw [hS'])).trans hcell2
          clear hS'
          go_simp
          rfl
        simp only [List.setIfInBounds_toArray, List.set_cons_zero, List.set_cons_succ]
        refine take_op 4 (v := ?pv4) rfl (by kernel_rfl) (fun _ _ _ h => h) (by rfl) hS0 (fun w' hS' => ?py4) ?pz4
        case py4 =>
          go_simp
          rfl
        simp only [List.setIfInBounds_toArray, List.set_cons_zero, List.set_cons_succ]
        refine take_op 5 (v := ?pv5) rfl (by kernel_rfl) (fun _ _ _ h => h) (by rfl) hS0 (fun w' hS' => ?py5) ?pz5
        case py5 =>
          go_simp
          rfl
        simp only [List.setIfInBounds_toArray, List.set_cons_zero, List.set_cons_succ]
        refine take_op 6 (v := ?pv6) rfl (by kernel_rfl) (fun _ _ _ h => h) (by rfl) hS0 (fun w' hS' => ?py6) ?pz6
        case py6 =>
          go_simp
          try go_ints
          first
          | rfl
          | (rw [if_pos (by omega)]; done)
          | rw [if_pos ⟨by omega, by omega⟩]
        simp only [List.setIfInBounds_toArray, List.set_cons_zero, List.set_cons_succ]
        refine take_op 7 (v := ?pv7) rfl (by kernel_rfl) (fun _ _ _ h => h) (by rfl) hS0 (fun w' hS' => ?py7) ?pz7
        case py7 =>
          have c1 := (World.cell?_of_block (w := wr) (w' := w') (a := ⟨b, o + k, none⟩) (by rw [hS'])).trans hcell
          have c2 := (World.cell?_of_block (w := wr) (w' := w') (a := ⟨b2, o2 + k, none⟩) (by rw [hS'])).trans hcell2
          clear hS'
          go_simp
          rfl
        simp only [List.setIfInBounds_toArray, List.set_cons_zero, List.set_cons_succ]
        refine take_op 8 (v := .bool false) rfl (by kernel_rfl) (fun _ _ _ h => h) (by rfl) hS0 (fun w' hS' => ?py8) ?pz8
        case py8 =>
          go_simp
          try simp only [ed]
          try rfl
        simp only [List.setIfInBounds_toArray, List.set_cons_zero, List.set_cons_succ]
        refine done_ops (by kernel_rfl) ?_
        go_wp2_with fail
        go_roundw
        case rel =>
          refine ⟨k + 1, by omega, by go_num, Lib.hid (fun j hj => ?_), hB.drew⟩
          by_cases ej : j = k
          · subst ej; rw [hxeH.out, hyeH.out, e]
          · exact hall.out j (by omega)
        case measure => simp [intOf]; omega
      · have ed : ((x : Int) == (y : Int)) = false := by simp; omega
        have ei : ¬ ((x : Int) = (y : Int)) := by omega
        go_wp2_with fail
        refine plain_region (fun W' => W'.heap = wr.heap) 9 9 (by kernel_rfl) rfl ?_
        simp only [Array.replicate_succ, Array.replicate_zero, List.push_toArray, List.nil_append, List.cons_append]
        refine take_op 0 (v := ?qv0) rfl (by kernel_rfl) (fun _ _ _ h => h) (by rfl) hS0 (fun w' hS' => ?qy0) ?qz0
        case qy0 =>
          go_simp
          rfl
        simp only [List.setIfInBounds_toArray, List.set_cons_zero, List.set_cons_succ]
        refine take_op 1 (v := ?qv1) rfl (by kernel_rfl) (fun _ _ _ h => h) (by rfl) hS0 (fun w' hS' => ?qy1) ?qz1
        case qy1 =>
          go_simp
          rfl
        simp only [List.setIfInBounds_toArray, List.set_cons_zero, List.set_cons_succ]
        refine take_op 2 (v := ?qv2) rfl (by kernel_rfl) (fun _ _ _ h => h) (by rfl) hS0 (fun w' hS' => ?qy2) ?qz2
        case qy2 =>
          go_simp
          try go_ints
          first
          | rfl
          | (rw [if_pos (by omega)]; done)
          | rw [if_pos ⟨by omega, by omega⟩]
        simp only [List.setIfInBounds_toArray, List.set_cons_zero, List.set_cons_succ]
        refine take_op 3 (v := ?qv3) rfl (by kernel_rfl) (fun _ _ _ h => h) (by rfl) hS0 (fun w' hS' => ?qy3) ?qz3
        case qy3 =>
          have c1 := (World.cell?_of_block (w := wr) (w' := w') (a := ⟨b, o + k, none⟩) (by rw [hS'])).trans hcell
          have c2 := (World.cell?_of_block (w := wr) (w' := w') (a := ⟨b2, o2 + k, none⟩) (by rw [hS'])).trans hcell2
          clear hS'
          go_simp
          rfl
        simp only [List.setIfInBounds_toArray, List.set_cons_zero, List.set_cons_succ]
        refine take_op 4 (v := ?qv4) rfl (by kernel_rfl) (fun _ _ _ h => h) (by rfl) hS0 (fun w' hS' => ?qy4) ?qz4
        case qy4 =>
          go_simp
          rfl
        simp only [List.setIfInBounds_toArray, List.set_cons_zero, List.set_cons_succ]
        refine take_op 5 (v := ?qv5) rfl (by kernel_rfl) (fun _ _ _ h => h) (by rfl) hS0 (fun w' hS' => ?qy5) ?qz5
        case qy5 =>
          go_simp
          rfl
        simp only [List.setIfInBounds_toArray, List.set_cons_zero, List.set_cons_succ]
        refine take_op 6 (v := ?qv6) rfl (by kernel_rfl) (fun _ _ _ h => h) (by rfl) hS0 (fun w' hS' => ?qy6) ?qz6
        case qy6 =>
          go_simp
          try go_ints
          first
          | rfl
          | (rw [if_pos (by omega)]; done)
          | rw [if_pos ⟨by omega, by omega⟩]
        simp only [List.setIfInBounds_toArray, List.set_cons_zero, List.set_cons_succ]
        refine take_op 7 (v := ?qv7) rfl (by kernel_rfl) (fun _ _ _ h => h) (by rfl) hS0 (fun w' hS' => ?qy7) ?qz7
        case qy7 =>
          have c1 := (World.cell?_of_block (w := wr) (w' := w') (a := ⟨b, o + k, none⟩) (by rw [hS'])).trans hcell
          have c2 := (World.cell?_of_block (w := wr) (w' := w') (a := ⟨b2, o2 + k, none⟩) (by rw [hS'])).trans hcell2
          clear hS'
          go_simp
          rfl
        simp only [List.setIfInBounds_toArray, List.set_cons_zero, List.set_cons_succ]
        refine take_op 8 (v := .bool true) rfl (by kernel_rfl) (fun _ _ _ h => h) (by rfl) hS0 (fun w' hS' => ?qy8) ?qz8
        case qy8 =>
          go_simp
          try simp only [ed]
          try rfl
        simp only [List.setIfInBounds_toArray, List.set_cons_zero, List.set_cons_succ]
        refine done_ops (by kernel_rfl) ?_
        go_wp2_with fail
        go_ret
        refine ⟨ret_bool ?_, hB.drew⟩
        symm
        rw [decide_eq_false_iff_not]
        intro h
        subst h
        have := hxeH.out.symm.trans hyeH.out
        simp only [Option.some.injEq] at this
        exact e this
    · go_wp2
      go_ret
      refine ⟨ret_bool ?_, hB⟩
      symm
      rw [decide_eq_true_iff]
      refine List.ext_getElem? fun j => ?_
      by_cases hj : j < k
      · exact hall.out j hj
      · rw [List.getElem?_eq_none (by have := hnH.out; omega), List.getElem?_eq_none (by have := hnH2.out; omega)]

/-! ### Mul -/

set_option maxHeartbeats 1000000 in
theorem Mul64_any (x y : Nat) (hx : x < 18446744073709551616) (hy : y < 18446744073709551616) (w : World) :
    Calls Tryz.prog 125 #[.int .u64 x, .int .u64 y] w fun e w' => e = .returned (.tuple #[.int .u64 ((x * y / 18446744073709551616 : Nat) : Int), .int .u64 ((x * y % 18446744073709551616 : Nat) : Int)]) ∧ w' = w := by
  obtain ⟨bd, bt, bw, hhi⟩ := Lib.mul64_hi x y hx hy
  have ba := Lib.half_mul_le (a := x / 4294967296) (b := y / 4294967296) (by omega) (by omega)
  have bb := Lib.half_mul_le (a := x / 4294967296) (b := y % 4294967296) (by omega) (by omega)
  have bc := Lib.half_mul_le (a := x % 4294967296) (b := y / 4294967296) (by omega) (by omega)
  have ba' : x / 4294967296 * (y / 4294967296) < 18446744073709551616 := by omega
  have bb' : x / 4294967296 * (y % 4294967296) < 18446744073709551616 := by omega
  have bc' : x % 4294967296 * (y / 4294967296) < 18446744073709551616 := by omega
  have bh1 : x / 4294967296 * (y / 4294967296) + (x / 4294967296 * (y % 4294967296) + x % 4294967296 * (y % 4294967296) / 4294967296) / 4294967296 < 18446744073709551616 := by omega
  have bh : x / 4294967296 * (y / 4294967296) + (x / 4294967296 * (y % 4294967296) + x % 4294967296 * (y % 4294967296) / 4294967296) / 4294967296 + ((x / 4294967296 * (y % 4294967296) + x % 4294967296 * (y % 4294967296) / 4294967296) % 4294967296 + x % 4294967296 * (y / 4294967296)) / 4294967296 < 18446744073709551616 := by omega
  go_enter Tryz.func125, Tryz.ntmps125
  go_wp2
  simp only [Mul64.maskN x hx, Mul64.maskN y hy, Mul64.divN, Mul64.mulN, Mul64.addN, Mul64.wrapN _ bd, Mul64.wrapN _ bb', Mul64.wrapN _ bt, Mul64.maskN _ bt, Mul64.wrapN _ bc', Mul64.wrapN _ bw, Mul64.wrapN _ ba', Mul64.wrapN _ bh1, Mul64.wrapN _ bh, Mul64.wrapM (x * y)]
  rw [hhi]
  go_ret2
  exact ⟨rfl, rfl⟩

theorem Mul_any (x y : Nat) (hx : x < 18446744073709551616) (hy : y < 18446744073709551616) (w : World) :
    Calls Tryz.prog 95 #[.int .u64 x, .int .u64 y] w fun e w' => e = .returned (.tuple #[.int .u64 ((x * y / 18446744073709551616 : Nat) : Int), .int .u64 ((x * y % 18446744073709551616 : Nat) : Int)]) ∧ w' = w := by
  go_enter Tryz.func95, Tryz.ntmps95
  go_wp2_with (go_at_call 125; refine (Mul64_any x y hx hy _).mono ?_; rintro e w' ⟨rfl, rfl⟩)
  go_ret2
  exact ⟨rfl, rfl⟩

theorem row_whole {W : World} {base g n : Nat} {e : TypeId} {xs : List Value} (h : W.ownsRow base e 1 (.slice (some ⟨g, 0, none⟩) n n) n xs) : W.heap[g]? = some (.cells xs.toArray e (0, 0)) := by
  rcases h.2 with ⟨h1, _⟩ | ⟨g', cap, cur, h1, _, h2, _, _, h4, h5⟩
  · cases h1
  · simp only [Value.slice.injEq, Option.some.injEq, Addr.mk.injEq, and_true, true_and] at h1
    obtain ⟨rfl, rfl⟩ := h1
    rw [List.take_of_length_le (by simp; omega)] at h5
    rw [h2, ← h5]
/-- k times v, then zeros, n in all. -/
def fillV (v z : Value) (n k : Nat) : List Value := List.replicate k v ++ List.replicate (n - k) z
theorem fillV_length {v z : Value} {n k : Nat} (h : k ≤ n) : (fillV v z n k).length = n := by simp [fillV]; omega
theorem fillV_grow {v z : Value} {n k m : Nat} (h : k + m ≤ n) : splice (fillV v z n k) k (List.replicate m v) = fillV v z n (k + m) := by
  unfold splice fillV
  rw [List.take_append_of_le_length (by simp), List.take_of_length_le (by simp), List.drop_append, List.drop_eq_nil_of_le (by simp)]
  simp only [List.length_replicate, List.nil_append, List.drop_replicate]
  rw [← List.append_assoc, List.replicate_append_replicate]
  congr 2
  omega
theorem fillV_all {v z : Value} {n : Nat} : fillV v z n n = List.replicate n v := by simp [fillV]
theorem fillV_get {v z : Value} {n k j : Nat} (h : j < k) : (fillV v z n k)[j]? = some v := by
  unfold fillV
  rw [List.getElem?_append_left (by simp; omega), List.getElem?_replicate]
  simp [h]

set_option maxRecDepth 100000 in
set_option maxHeartbeats 2000000 in
theorem RepeatI_any (v : Int) (J : Nat) (hJ0 : 1 ≤ J) (hJ1 : J ≤ 100000) (b o c : Nat) (w : World) (hb : b < w.heap.size) (hc : w.cell? ⟨b, o, none⟩ = some (Value.int .i64 v)) :
    Calls Tryz.prog 68 #[.slice (some ⟨b, o, none⟩) 1 c, .int .i64 J] w fun e w' => e = .returned (.slice (some ⟨w.heap.size, 0, none⟩) J J) ∧ w'.ownsRow w.heap.size 3 1 (.slice (some ⟨w.heap.size, 0, none⟩) J J) J (List.replicate J (Value.int .i64 v)) ∧ Below w.heap.size w w' := by
  obtain ⟨i0, hi, hz0, hz1, hz2⟩ := info_parts jinfo_int
  have hmul := Mul_any 1 J (by omega) (by omega)
  rw [Nat.one_mul, show J / 18446744073709551616 = 0 by omega, show J % 18446744073709551616 = J by omega] at hmul
  replace hmul : ∀ w, Calls Tryz.prog 95 #[.int .u64 1, .int .u64 J] w (fun e w' => e = .returned (.tuple #[.int .u64 0, .int .u64 J]) ∧ w = w') := fun w => (hmul w).mono fun e w' ⟨h1, h2⟩ => ⟨h1, h2.symm⟩
  have hzH := Lib.hid (jmade_int J)
  obtain ⟨vv, hvv⟩ : ∃ u, (Value.int .i64 v) = u := ⟨_, rfl⟩
  have hone : vv.oneCell' = true := by rw [← hvv]; rfl
  rw [hvv] at hc ⊢
  clear hvv
  have mk : ∀ w1 : World, w1.ownsRow w.heap.size 3 1 (.slice (some ⟨w.heap.size, 0, none⟩) J J) J (madeCells (.int .i64 0 : Value).cells (J * 1)).toList → w.grownBy w1 none → ∃ w2, Sem.run Tryz.prog (Builtin.copy_ #[25, 25] 3 #[.slice (some ⟨w.heap.size, 0, none⟩) J J, .slice (some ⟨b, o, none⟩) 1 c]) w1 = .ok (.int .i64 1) w2 ∧ Hid (w2.heap[w.heap.size]? = some (.cells (fillV vv ((Value.int .i64) (0 : Int)) J 1).toArray 3 (0, 0))) ∧ Below w.heap.size w w2 := by
    intro w1 hown hg
    rw [hzH.out] at hown
    have hW1 := row_whole hown
    have hB1 : Below w.heap.size w w1 := (Below.refl _ _).grown hg (Nat.le_refl _) (fun k e => by cases e)
    rw [List.map_replicate, show List.replicate J ((Value.int .i64) (0 : Int)) = fillV vv ((Value.int .i64) (0 : Int)) J 0 by simp [fillV]] at hW1
    have hcs1 : ∀ (j : Nat) (u : Value), [vv][j]? = some u → w1.cell? (Addr.add ⟨b, o, none⟩ j) = some u := fun j u hu => by
      cases j with
      | zero => simp at hu; rw [← hu, Addr.add_lit]; exact (hB1.cell (p := ⟨b, o, none⟩) hb).trans hc
      | succ j => simp at hu
    have hrun := run_copy_row (P := Tryz.prog) w1 25 25 3 3 w.heap.size 0 J J ⟨b, o, none⟩ 1 c _ _ [vv] Tryz.underlying25 (by kernel_rfl) hW1 (by show [vv].length = min 1 J; simp; omega) hcs1 (by simp [fillV_length (Nat.zero_le J)]; omega) (by simp [hone])
    have hsp := setRow_heap w1 w.heap.size _ (((fillV vv ((Value.int .i64) (0 : Int)) J 0).toArray.toList.take 0 ++ [vv] ++ (fillV vv ((Value.int .i64) (0 : Int)) J 0).toArray.toList.drop (0 + [vv].length)).toArray) _ _ hW1
    refine ⟨_, hrun, Lib.hid ?_, below_setRow hB1 (Nat.le_refl _) _⟩
    rw [hsp]
    have := fillV_grow (v := vv) (z := (Value.int .i64) (0 : Int)) (n := J) (k := 0) (m := 1) (by omega)
    rw [Nat.zero_add] at this
    rw [← this]
    simp [splice]
  have mkH := Lib.hid mk
  clear mk hc
  go_enter Tryz.func68, Tryz.ntmps68
  go_wp2_with (first
    | (go_at_call 95; refine (hmul _).mono ?_; rintro e w' ⟨rfl, rfl⟩)
    | (at_make; refine wpList_make_full _ rfl _ _ 25 rfl w.heap.size 3 i0 (.int .i64 0) 1 Tryz.underlying25 hi hz0 hz1 .i64 .i64 (J : Int) (J : Int) J rfl rfl (by simp) (by simp) (by rw [hz2]; omega) (by unfold maxLen; omega) (by simp) ?_; intro w1 hown hg; obtain ⟨w2, hcp, hg2, hb2⟩ := mkH.out w1 hown hg; clear hown hg))
  clear hcp hmul hzH mkH
  clear w1
  go_loopw [8] (fun i wr => ∃ k : Nat, 1 ≤ k ∧ k ≤ J ∧ i = .int .i64 (k : Int) ∧ Hid (wr.heap[w.heap.size]? = some (.cells (fillV vv ((Value.int .i64) (0 : Int)) J k).toArray 3 (0, 0))) ∧ Below w.heap.size w wr) (fun i _ => J - (intOf i).toNat)
  case atStart => exact ⟨1, Nat.le_refl _, hJ0, rfl, hg2, hb2⟩
  case round =>
    clear hg2 hb2
    obtain ⟨k, hk1, hkJ, rfl, hrow, hB⟩ := hrel
    by_cases hlt : k < J
    · obtain ⟨m, hm⟩ : ∃ m, min k (J - k) = m := ⟨_, rfl⟩
      have hm0 : 1 ≤ m := by omega
      have hmk : k + m ≤ J := by omega
      have hS : Below w.heap.size w wr.drew := hB.drew
      have hrowd : Hid (wr.drew.heap[w.heap.size]? = some (.cells (fillV vv ((Value.int .i64) (0 : Int)) J k).toArray 3 (0, 0))) := hrow
      have hcells : Hid (∀ (j : Nat) (u : Value), (List.replicate m vv)[j]? = some u → wr.drew.cell? (Addr.add ⟨w.heap.size, 0, none⟩ j) = some u) := Lib.hid (fun j u hu => by
        rw [List.getElem?_replicate] at hu
        split at hu
        · rename_i hj
          simp only [Option.some.injEq] at hu
          rw [Addr.add_lit, Nat.zero_add]
          simp only [World.cell?, hrowd.out]
          rw [← hu]
          have := fillV_get (v := vv) (z := (Value.int .i64) (0 : Int)) (n := J) (k := k) (j := j) (by omega)
          simpa using this
        · cases hu)
      go_wp2_with fail
      refine plain_region (fun W' => Below w.heap.size w W') 10 10 (by kernel_rfl) rfl ?_
      simp only [Array.replicate_succ, Array.replicate_zero, List.push_toArray, List.nil_append, List.cons_append]
      refine take_op 0 (v := ?rv0) rfl (by kernel_rfl) (fun _ _ _ h => h) (by rfl) hS (fun w' hS' => ?ry0) ?rz0
      case ry0 =>
        go_simp
        rfl
      simp only [List.setIfInBounds_toArray, List.set_cons_zero, List.set_cons_succ]
      refine take_op 1 (v := ?rv1) rfl (by kernel_rfl) (fun _ _ _ h => h) (by rfl) hS (fun w' hS' => ?ry1) ?rz1
      case ry1 =>
        go_simp
        rfl
      simp only [List.setIfInBounds_toArray, List.set_cons_zero, List.set_cons_succ]
      refine take_op 2 (v := ?rv2) rfl (by kernel_rfl) (fun _ _ _ h => h) (by rfl) hS (fun w' hS' => ?ry2) ?rz2
      case ry2 =>
        go_simp
        rfl
      simp only [List.setIfInBounds_toArray, List.set_cons_zero, List.set_cons_succ]
      refine take_op 3 (v := ?rv3) rfl (by kernel_rfl) (fun _ _ _ h => h) (by rfl) hS (fun w' hS' => ?ry3) ?rz3
      case ry3 =>
        go_simp
        rfl
      simp only [List.setIfInBounds_toArray, List.set_cons_zero, List.set_cons_succ]
      refine take_op 4 (v := ?rv4) rfl (by kernel_rfl) (fun _ _ _ h => h) (by rfl) hS (fun w' hS' => ?ry4) ?rz4
      case ry4 =>
        go_simp
        rfl
      simp only [List.setIfInBounds_toArray, List.set_cons_zero, List.set_cons_succ]
      refine take_op 5 (v := ?rv5) rfl (by kernel_rfl) (fun _ _ _ h => h) (by rfl) hS (fun w' hS' => ?ry5) ?rz5
      case ry5 =>
        go_simp
        rfl
      simp only [List.setIfInBounds_toArray, List.set_cons_zero, List.set_cons_succ]
      refine take_op 6 (v := ?rv6) rfl (by kernel_rfl) (fun _ _ _ h => h) (by rfl) hS (fun w' hS' => ?ry6) ?rz6
      case ry6 =>
        go_simp
        rfl
      simp only [List.setIfInBounds_toArray, List.set_cons_zero, List.set_cons_succ]
      refine step_op 7 (by kernel_rfl) rfl (fun K hK => ?_)
      refine step_copy_splice rfl _ _ 25 25 rfl 3 Tryz.underlying25 (by kernel_rfl) _ _ _ _ _ _ rfl rfl w.heap.size k (fillV vv ((Value.int .i64) (0 : Int)) J k) 3 hrowd.out (List.replicate m vv) (by simp [← hm] <;> omega) (fun _ => ⟨by rw [if_neg (show ¬ J = k by omega)], _, rfl, hcells.out⟩) (by rw [fillV_length hkJ]; simp; omega) (by simp [hone]) w.heap.size w hS (Nat.le_refl _) ?_
      intro w3 hg3 hb3
      refine hK.out _ _ (fun h => hb3) ?_
      clear hK K
      try simp only [Act.put, List.setIfInBounds_toArray, List.set_cons_zero, List.set_cons_succ]
      refine take_op 8 (v := ?rv8) rfl (by kernel_rfl) (fun _ _ _ h => h) (by rfl) hb3 (fun w' hS' => ?ry8) ?rz8
      case ry8 =>
        go_simp
        try go_ints
        rfl
      simp only [List.setIfInBounds_toArray, List.set_cons_zero, List.set_cons_succ]
      refine take_op 9 (v := ?rv9) rfl (by kernel_rfl) (fun _ _ _ h => h) (by rfl) hb3 (fun w' hS' => ?ry9) ?rz9
      case ry9 =>
        go_simp
        rfl
      simp only [List.setIfInBounds_toArray, List.set_cons_zero, List.set_cons_succ]
      refine done_ops (by kernel_rfl) ?_
      go_wp2_with fail
      go_roundw
      case rel =>
        refine ⟨k + m, by omega, hmk, by go_num, Lib.hid ?_, hb3⟩
        rw [← fillV_grow hmk]
        exact hg3.out
      case measure => simp [intOf]; omega
    · have hkJ' : k = J := by omega
      subst hkJ'
      go_wp2_with fail
      go_ret
      have hrow' := hrow.out
      rw [fillV_all] at hrow'
      exact ⟨rfl, ⟨by simp, .inr ⟨w.heap.size, k, _, rfl, Nat.le_refl _, hrow', Nat.le_refl _, by unfold maxLen; omega, by simp, by simp⟩⟩, hB⟩

end Go.Proofs.YtbfigbpjoaccdaaGreat

namespace Go.Proofs.YtbfigbpjoaccdaaGreat
set_option linter.unusedVariables false
set_option linter.unusedSimpArgs false

/-- The number of some words to a base. -/
def valB (B : Nat) : List Nat → Nat
  | [] => 0
  | x :: r => x + B * valB B r
/-- All words are below the base. -/
def wordsB (B : Nat) (l : List Nat) : Prop := ∀ x ∈ l, x < B

theorem valB_append (B : Nat) : ∀ (l r : List Nat), valB B (l ++ r) = valB B l + B ^ l.length * valB B r
  | [], r => by simp [valB]
  | x :: l, r => by
    simp only [List.cons_append, valB, List.length_cons]
    rw [valB_append B l r, Nat.mul_add, Nat.pow_succ, ← Nat.mul_assoc, Nat.mul_comm B (B ^ l.length), Nat.add_assoc]
theorem valB_snoc (B : Nat) (l : List Nat) (x : Nat) : valB B (l ++ [x]) = valB B l + B ^ l.length * x := by
  rw [valB_append]; simp [valB]
theorem valB_zeros (B : Nat) : ∀ n, valB B (List.replicate n 0) = 0
  | 0 => rfl
  | n + 1 => by simp [List.replicate_succ, valB, valB_zeros B n]
theorem valB_set (B : Nat) : ∀ (l : List Nat) (i v : Nat), i < l.length → valB B (l.set i v) + B ^ i * l[i]?.getD 0 = valB B l + B ^ i * v
  | [], i, v, h => by simp at h
  | x :: l, 0, v, h => by simp [valB]; omega
  | x :: l, i + 1, v, h => by
    have ih := valB_set B l i v (by simpa using h)
    simp only [List.set_cons_succ, valB, List.getElem?_cons_succ]
    have h2 := congrArg (B * ·) ih
    simp only [Nat.mul_add, ← Nat.mul_assoc] at h2
    rw [Nat.pow_succ, Nat.mul_comm (B ^ i) B]
    omega
theorem valB_lt {B : Nat} (hB : 0 < B) : ∀ {l : List Nat}, wordsB B l → valB B l < B ^ l.length
  | [], _ => by simp [valB]
  | x :: l, h => by
    have ih := valB_lt hB (l := l) fun y hy => h y (List.mem_cons_of_mem _ hy)
    have hx := h x List.mem_cons_self
    have h2 : B * (valB B l + 1) ≤ B * B ^ l.length := Nat.mul_le_mul_left B ih
    simp only [valB, List.length_cons, Nat.pow_succ]
    rw [Nat.mul_comm (B ^ l.length) B]
    rw [Nat.mul_add] at h2
    omega
theorem valB_take_succ (B : Nat) (l : List Nat) {i : Nat} (h : i < l.length) : valB B (l.take (i + 1)) = valB B (l.take i) + B ^ i * l[i]?.getD 0 := by
  rw [List.take_add_one, List.getElem?_eq_getElem h]
  show valB B (l.take i ++ [l[i]]) = _
  rw [valB_snoc, List.length_take, Nat.min_eq_left (by omega)]
  rfl
theorem wordsB_set {B : Nat} {l : List Nat} (h : wordsB B l) {i v : Nat} (hv : v < B) : wordsB B (l.set i v) := fun x hx => by
  rcases List.mem_or_eq_of_mem_set hx with h1 | h1
  · exact h x h1
  · rw [h1]; exact hv
theorem wordsB_zeros {B : Nat} (hB : 0 < B) (n : Nat) : wordsB B (List.replicate n 0) := fun x hx => by rw [List.eq_of_mem_replicate hx]; exact hB
theorem wordsB_take {B : Nat} {l : List Nat} (h : wordsB B l) (k : Nat) : wordsB B (l.take k) := fun x hx => h x (List.mem_of_mem_take hx)
theorem wordsB_get {B : Nat} (hB : 0 < B) {l : List Nat} (h : wordsB B l) (i : Nat) : l[i]?.getD 0 < B := by
  by_cases hi : i < l.length
  · rw [List.getElem?_eq_getElem hi]; exact h _ (List.getElem_mem hi)
  · rw [List.getElem?_eq_none (by omega)]; exact hB

/-! ### Products with a word: the state after the first i words -/

/-- What has been laid down: the words so far, the rest zeros; the number is that of the first i words times n. -/
structure TimesB (B n : Nat) (a : List Nat) (i : Nat) (o : List Nat) : Prop where
  len : o.length = a.length + 1
  words : wordsB B o
  val : valB B o = valB B (a.take i) * n
  rest : ∀ j, i < j → o[j]?.getD 0 = 0

theorem TimesB.start {B : Nat} (hB : 0 < B) (n : Nat) (a : List Nat) : TimesB B n a 0 (List.replicate (a.length + 1) 0) where
  len := by simp
  words := wordsB_zeros hB _
  val := by rw [valB_zeros]; simp [valB]
  rest j _ := by rw [List.getElem?_replicate]; split <;> rfl
/-- One more word: x * n in two halves, the lower one added to what stands there. -/
theorem TimesB.step {B n : Nat} {a : List Nat} {i : Nat} {o : List Nat} (h : TimesB B n a i o) (hB : 0 < B) (hi : i < a.length) {x hi' lo s c : Nat} (hx : a[i]?.getD 0 = x) (hmul : x * n = hi' * B + lo) (hsum : o[i]?.getD 0 + lo = c * B + s) (hs : s < B) (hc : hi' + c < B) :
    TimesB B n a (i + 1) ((o.set i s).set (i + 1) (hi' + c)) := by
  have hl := h.len
  have h1 := valB_set B o i s (by omega)
  have h2 := valB_set B (o.set i s) (i + 1) (hi' + c) (by rw [List.length_set]; omega)
  have h3 : (o.set i s)[i + 1]?.getD 0 = 0 := by
    rw [List.getElem?_set_ne (by omega)]; exact h.rest _ (by omega)
  rw [h3, Nat.mul_zero, Nat.add_zero] at h2
  refine ⟨by simp [hl], wordsB_set (wordsB_set h.words hs) hc, ?_, fun j hj => ?_⟩
  · rw [h2, valB_take_succ B a hi, hx, Nat.add_mul, ← h.val, Nat.mul_assoc, hmul]
    have e1 := congrArg (B ^ i * ·) hsum
    simp only [Nat.mul_add] at e1 ⊢
    rw [Nat.pow_succ]
    have e2 : B ^ i * (c * B) = B ^ i * B * c := by rw [Nat.mul_comm c B, Nat.mul_assoc]
    have e3 : B ^ i * (hi' * B) = B ^ i * B * hi' := by rw [Nat.mul_comm hi' B, Nat.mul_assoc]
    omega
  · rw [List.getElem?_set_ne (by omega), List.getElem?_set_ne (by omega)]
    exact h.rest j (by omega)
theorem TimesB.done {B n : Nat} {a : List Nat} {o : List Nat} (h : TimesB B n a a.length o) : valB B o = valB B a * n := by rw [h.val, List.take_length]
/-- The higher half and the carry fit into a word. -/
theorem half_fits {B x n w hi' lo s c : Nat} (hx : x < B) (hn : n < B) (hw : w < B) (hmul : x * n = hi' * B + lo) (hsum : w + lo = c * B + s) : hi' + c < B := by
  refine Nat.lt_of_not_le fun h => ?_
  have h1 : B * B ≤ (hi' + c) * B := Nat.mul_le_mul_right B h
  have h2 : x * n ≤ (B - 1) * (B - 1) := Nat.mul_le_mul (by omega) (by omega)
  have h3 : (B - 1) * (B - 1) + (B - 1) + (B - 1) + 1 = B * B := by
    obtain ⟨k, rfl⟩ : ∃ k, B = k + 1 := ⟨B - 1, by omega⟩
    simp only [Nat.add_sub_cancel, Nat.add_mul, Nat.mul_add]
    omega
  rw [Nat.add_mul] at h1
  omega

/-! ### Sums -/

theorem valB_take_more {B : Nat} {l : List Nat} {i : Nat} : valB B (l.take (i + 1)) = valB B (l.take i) + B ^ i * l[i]?.getD 0 := by
  by_cases h : i < l.length
  · exact valB_take_succ B l h
  · rw [List.take_of_length_le (by omega), List.take_of_length_le (by omega), List.getElem?_eq_none (by omega)]; simp

/-! ### Comparisons -/

/-- No zeros at the end. -/
def trimmed (l : List Nat) : Prop := ∀ i, i + 1 = l.length → l[i]?.getD 0 ≠ 0
theorem valB_ge {B : Nat} {l : List Nat} {i : Nat} (h : i < l.length) (hne : l[i]?.getD 0 ≠ 0) : B ^ i ≤ valB B l := by
  have h1 : l.take (i + 1) ++ l.drop (i + 1) = l := List.take_append_drop _ _
  rw [← h1, valB_append, valB_take_succ B l h]
  have : B ^ i * 1 ≤ B ^ i * l[i]?.getD 0 := Nat.mul_le_mul_left _ (by omega)
  omega
theorem val_short {B : Nat} (hB : 0 < B) {a b : List Nat} (ha : wordsB B a) (hb : trimmed b) (h : a.length < b.length) : valB B a < valB B b := by
  have h1 := valB_lt hB ha
  have h2 := valB_ge (B := B) (l := b) (i := b.length - 1) (by omega) (hb _ (by omega))
  have h3 : B ^ a.length ≤ B ^ (b.length - 1) := Nat.pow_le_pow_right hB (by omega)
  omega
theorem val_same {B : Nat} : ∀ (l r : List Nat), (∀ j : Nat, l[j]?.getD 0 = r[j]?.getD 0) → valB B l = valB B r
  | [], r, hr => by
    have : r = List.replicate r.length 0 := List.ext_getElem (by simp) fun j h1 h2 => by
      have := hr j
      rw [List.getElem?_eq_getElem h1] at this
      simpa using this.symm
    rw [this, valB_zeros]; rfl
  | x :: l, [], hr => by
    have h0 := hr 0
    have hz := val_same (B := B) l [] fun j => by have := hr (j + 1); simpa using this
    simp at h0
    simp [valB, h0, hz]
  | x :: l, y :: r, hr => by
    have h0 := hr 0
    simp at h0
    simp only [valB, h0]
    rw [val_same (B := B) l r fun j => by have := hr (j + 1); simpa using this]
/-- Lists that agree from i + 1 on are in the order of their entries i. -/
theorem val_order {B : Nat} (hB : 0 < B) {a b : List Nat} (ha : wordsB B a) (hb : wordsB B b) {i : Nat} (h : ∀ j : Nat, i < j → a[j]?.getD 0 = b[j]?.getD 0) (hlt : a[i]?.getD 0 < b[i]?.getD 0) : valB B a < valB B b := by
  have hd : ∀ l : List Nat, valB B l = valB B (l.take (i + 1)) + B ^ (i + 1) * valB B (l.drop (i + 1)) := fun l => by
    by_cases hl : i + 1 ≤ l.length
    · conv => lhs; rw [← List.take_append_drop (i + 1) l]
      rw [valB_append, List.length_take, Nat.min_eq_left hl]
    · rw [List.take_of_length_le (by omega), List.drop_of_length_le (by omega)]; simp [valB]
  have e := val_same (B := B) (a.drop (i + 1)) (b.drop (i + 1)) fun j => by
    rw [List.getElem?_drop, List.getElem?_drop]; exact h _ (by omega)
  rw [hd a, hd b, e]
  refine Nat.add_lt_add_right ?_ _
  rw [valB_take_more, valB_take_more]
  have h1 : valB B (a.take i) < B ^ i := by
    have h2 := valB_lt hB (wordsB_take ha i)
    have h3 : B ^ (a.take i).length ≤ B ^ i := Nat.pow_le_pow_right hB (by rw [List.length_take]; omega)
    omega
  have h2 : B ^ i * (a[i]?.getD 0 + 1) ≤ B ^ i * b[i]?.getD 0 := Nat.mul_le_mul_left _ hlt
  rw [Nat.mul_add] at h2
  omega

end Go.Proofs.YtbfigbpjoaccdaaGreat

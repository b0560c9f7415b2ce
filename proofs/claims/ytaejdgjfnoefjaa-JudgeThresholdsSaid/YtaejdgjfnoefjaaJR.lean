/- The specification's labels, votes and weights. -/
import Derived.Test.YtaejdgjfnoefjaaJW
import Derived.Test.YtaejdgjfnoefjaaJX
import Derived.Lib.MinMax
namespace Go.Proofs.Ytaejdgjfnoefjaa
open Go Go.RowKit Go.Shelf
set_option linter.unusedVariables false
set_option linter.unusedSimpArgs false

/-- Labels that a jury may give. -/
def rowOk (l0 : Nat) (xs : List Nat) : Bool := decide (xs.length = l0) && !bigN xs
def len0 (xss : List (List Nat)) : Nat := (xss[0]?.getD []).length
def vldJ (xss : List (List Nat)) : Bool := decide (1 ≤ xss.length) && decide (xss.length ≤ 8) && decide (len0 xss ≤ 100) && xss.all (rowOk (len0 xss))

theorem all_hit {α : Type} {f : α → Bool} {L : List α} {i : Nat} {x : α} (hi : L[i]? = some x) (h : f x = false) : L.all f = false := by
  obtain ⟨hlt, rfl⟩ := List.getElem?_eq_some_iff.1 hi
  exact List.all_eq_false.2 ⟨_, List.getElem_mem hlt, by rw [h]; simp⟩
theorem all_succ {α : Type} {f : α → Bool} {L : List α} {i : Nat} {x : α} (hi : L[i]? = some x) (h : (L.take i).all f = true) (hx : f x = true) : (L.take (i + 1)).all f = true := by
  obtain ⟨hlt, rfl⟩ := List.getElem?_eq_some_iff.1 hi
  rw [List.take_succ_eq_append_getElem hlt, List.all_append, h]
  simp [hx]


set_option maxRecDepth 100000 in
set_option maxHeartbeats 2000000 in
theorem ValidLabels_any (xss : List (List Nat)) (n : Nat) (hn : xss.length = n) (a : Option Addr) (c : Nat) (w : World) (hr : RdL w.heap.size w a xss) :
    Calls Try.prog 42 #[.slice a n c] w fun e w' => e = .returned (.bool (vldJ xss)) ∧ Below w.heap.size w w' := by
  have hnH := Lib.hid hn
  clear hn
  by_cases hn1 : n < 1
  · have hv := Lib.hid (show false = vldJ xss by
      unfold vldJ; rw [hnH.out, show decide (1 ≤ n) = false by simp; omega]; simp)
    go_enter Try.func42, Try.ntmps42
    go_wp2
    go_ret
    exact ⟨ret_bool hv.out, Below.refl _ _⟩
  by_cases hn8 : 8 < n
  · have hv := Lib.hid (show false = vldJ xss by
      unfold vldJ; rw [hnH.out, show decide (n ≤ 8) = false by simp; omega]; simp)
    go_enter Try.func42, Try.ntmps42
    go_wp2
    go_ret
    exact ⟨ret_bool hv.out, Below.refl _ _⟩
  obtain ⟨xs0, hxs0⟩ : ∃ x, xss[0]? = some x := ⟨_, List.getElem?_eq_getElem (by have := hnH.out; omega)⟩
  obtain ⟨b, o, rfl, hb, a0, c0, hc0, hr0⟩ := hr.at hxs0
  rw [show o + 0 = o from rfl] at hc0
  obtain ⟨l0, hl0⟩ : ∃ l, xs0.length = l := ⟨_, rfl⟩
  rw [hl0] at hc0
  have hlen0 : len0 xss = l0 := by unfold len0; rw [hxs0]; exact hl0
  have hrH := Lib.hid hr
  have hlH := Lib.hid hlen0
  clear hr hlen0 hr0 hl0 hxs0
  by_cases h100 : 100 < l0
  · have hv := Lib.hid (show false = vldJ xss by
      unfold vldJ; rw [hlH.out, show decide (l0 ≤ 100) = false by simp; omega]; simp)
    go_enter Try.func42, Try.ntmps42
    go_wp2
    go_ret
    exact ⟨ret_bool hv.out, Below.refl _ _⟩
  have hvf := Lib.hid (show xss.all (rowOk l0) = false → false = vldJ xss from fun h => by
    unfold vldJ; rw [hlH.out, h]; simp)
  have hvt := Lib.hid (show xss.all (rowOk l0) = true → true = vldJ xss from fun h => by
    unfold vldJ; rw [hlH.out, h, hnH.out]; simp; omega)
  go_enter Try.func42, Try.ntmps42
  go_wp2
  go_loopw [3] (fun i wr => ∃ m : Nat, m ≤ n ∧ i = .int .i64 (m : Int) ∧ Hid ((xss.take m).all (rowOk l0) = true) ∧ Below w.heap.size w wr) (fun i _ => n - (intOf i).toNat)
  case atStart => exact ⟨0, Nat.zero_le _, rfl, Lib.hid (by simp), Below.refl _ _⟩
  case round =>
    obtain ⟨m, hm, rfl, hall, hB⟩ := hrel
    by_cases hmt : m < n
    · obtain ⟨xs, hxs⟩ : ∃ x, xss[m]? = some x := ⟨_, List.getElem?_eq_getElem (by have := hnH.out; omega)⟩
      obtain ⟨b', o', hbo, _, a1, c1, hc1, hr1⟩ := hrH.out.at hxs
      simp only [Option.some.injEq, Addr.mk.injEq, and_true] at hbo
      obtain ⟨rfl, rfl⟩ := hbo
      have hc1' := (hB.cell (p := ⟨b, o + m, none⟩) hb).trans hc1
      have hc0' := (hB.cell (p := ⟨b, o, none⟩) hb).trans hc0
      obtain ⟨lx, hlx⟩ : ∃ l, xs.length = l := ⟨_, rfl⟩
      rw [hlx] at hc1'
      have hlxH := Lib.hid hlx
      have hxsH := Lib.hid hxs
      clear hc1 hlx hxs
      have hS0 : wr.drew.heap = wr.heap := rfl
      by_cases e : lx = l0
      · subst e
        have hBd := hB.drew
        have hc1d : wr.drew.cell? ⟨b, o + m, none⟩ = some (.slice a1 lx c1) := hc1'
        go_wp2_with fail
        refine plain_region (fun W' => W'.heap = wr.heap) 10 10 (by kernel_rfl) rfl ?_
        simp only [Array.replicate_succ, Array.replicate_zero, List.push_toArray, List.nil_append, List.cons_append]
        refine take_op 0 (v := ?pv0) rfl (by kernel_rfl) (fun _ _ _ h => h) (by rfl) hS0 (fun w' hS' => ?py0) ?pz0
        case py0 =>
          go_simp
          rfl
        simp only [List.setIfInBounds_toArray, List.set_cons_zero, List.set_cons_succ]
        refine take_op 1 (v := ?pv1) rfl (by kernel_rfl) (fun _ _ _ h => h) (by rfl) hS0 (fun w' hS' => ?py1) ?pz1
        case py1 =>
          go_simp
          rfl
        simp only [List.setIfInBounds_toArray, List.set_cons_zero, List.set_cons_succ]
        refine take_op 2 (v := ?pv2) rfl (by kernel_rfl) (fun _ _ _ h => h) (by rfl) hS0 (fun w' hS' => ?py2) ?pz2
        case py2 =>
          go_simp
          try go_ints
          first
          | rfl
          | (rw [if_pos (by omega)]; done)
          | rw [if_pos ⟨by omega, by omega⟩]
        simp only [List.setIfInBounds_toArray, List.set_cons_zero, List.set_cons_succ]
        refine take_op 3 (v := ?pv3) rfl (by kernel_rfl) (fun _ _ _ h => h) (by rfl) hS0 (fun w' hS' => ?py3) ?pz3
        case py3 =>
          have c1 := (World.cell?_of_block (w := wr) (w' := w') (a := ⟨b, o + m, none⟩) (by rw [hS'])).trans hc1'
          have c2 := (World.cell?_of_block (w := wr) (w' := w') (a := ⟨b, o, none⟩) (by rw [hS'])).trans hc0'
          clear hS'
          go_simp
          rfl
        simp only [List.setIfInBounds_toArray, List.set_cons_zero, List.set_cons_succ]
        refine take_op 4 (v := ?pv4) rfl (by kernel_rfl) (fun _ _ _ h => h) (by rfl) hS0 (fun w' hS' => ?py4) ?pz4
        case py4 =>
          go_simp
          rfl
        simp only [List.setIfInBounds_toArray, List.set_cons_zero, List.set_cons_succ]
        refine take_op 5 (v := ?pv5) rfl (by kernel_rfl) (fun _ _ _ h => h) (by rfl) hS0 (fun w' hS' => ?py5) ?pz5
        case py5 =>
          go_simp
          rfl
        simp only [List.setIfInBounds_toArray, List.set_cons_zero, List.set_cons_succ]
        refine take_op 6 (v := ?pv6) rfl (by kernel_rfl) (fun _ _ _ h => h) (by rfl) hS0 (fun w' hS' => ?py6) ?pz6
        case py6 =>
          go_simp
          try go_ints
          first
          | rfl
          | (rw [if_pos (by omega)]; done)
          | rw [if_pos ⟨by omega, by omega⟩]
        simp only [List.setIfInBounds_toArray, List.set_cons_zero, List.set_cons_succ]
        refine take_op 7 (v := ?pv7) rfl (by kernel_rfl) (fun _ _ _ h => h) (by rfl) hS0 (fun w' hS' => ?py7) ?pz7
        case py7 =>
          have c1 := (World.cell?_of_block (w := wr) (w' := w') (a := ⟨b, o + m, none⟩) (by rw [hS'])).trans hc1'
          have c2 := (World.cell?_of_block (w := wr) (w' := w') (a := ⟨b, o, none⟩) (by rw [hS'])).trans hc0'
          clear hS'
          go_simp
          rfl
        simp only [List.setIfInBounds_toArray, List.set_cons_zero, List.set_cons_succ]
        refine take_op 8 (v := ?pv8) rfl (by kernel_rfl) (fun _ _ _ h => h) (by rfl) hS0 (fun w' hS' => ?py8) ?pz8
        case py8 =>
          go_simp
          rfl
        simp only [List.setIfInBounds_toArray, List.set_cons_zero, List.set_cons_succ]
        refine take_op 9 (v := .bool false) rfl (by kernel_rfl) (fun _ _ _ h => h) (by rfl) hS0 (fun w' hS' => ?py9) ?pz9
        case py9 =>
          go_simp
          try rfl
        simp only [List.setIfInBounds_toArray, List.set_cons_zero, List.set_cons_succ]
        refine done_ops (by kernel_rfl) ?_
        clear hc1' hc0' hS0 hB
        obtain ⟨V, hV⟩ : ∃ V, wr.drew = V := ⟨_, rfl⟩
        rw [hV] at hBd hc1d ⊢
        clear hV
        clear wr
        go_wp2_with fail
        go_loop [4] (fun i => ∃ k : Nat, k ≤ lx ∧ i = .int .i64 (k : Int) ∧ Hid (bigN (xs.take k) = false)) (fun i => lx - (intOf i).toNat)
        case atStart => exact ⟨0, Nat.zero_le _, rfl, Lib.hid (by simp [bigN])⟩
        case round =>
          obtain ⟨k, hk, rfl, hbg⟩ := hrel
          by_cases hkt : k < lx
          · rcases hr1 with h0 | ⟨b1, o1, rfl, hb1, hcl⟩
            · exfalso; have := hlxH.out; rw [h0] at this; simp at this; omega
            have hcl1 := (hBd.cell (p := ⟨b1, o1 + k, none⟩) hb1).trans (hcl k (by have := hlxH.out; omega))
            obtain ⟨x, hx⟩ : ∃ x, xs[k]?.getD 0 = x := ⟨_, rfl⟩
            rw [hx] at hcl1
            have hs1 : 2 < x → bigN xs = true := fun h => bigN_hit (k := k) (by have := hlxH.out; omega) (by rw [hx]; exact h)
            have hs2 : ¬ 2 < x → bigN (xs.take (k + 1)) = false := fun h => bigN_succ (k := k) (by have := hlxH.out; omega) hbg.out (by rw [hx]; exact h)
            have hs1H := Lib.hid hs1
            have hs2H := Lib.hid hs2
            clear hx hs1 hs2 hcl
            by_cases h1 : 2 < x
            · go_wp2_with fail
              go_ret
              exact ⟨ret_bool (hvf.out (all_hit hxsH.out (by unfold rowOk; rw [hs1H.out h1]; simp))), hBd⟩
            · go_wp2_with fail
              go_round
              case rel => exact ⟨k + 1, by omega, by go_num, Lib.hid (hs2H.out h1)⟩
              case measure => simp [intOf]; omega
          · go_wp2_with fail
            go_roundw
            case rel =>
              refine ⟨m + 1, by omega, by go_num, Lib.hid (all_succ hxsH.out hall.out ?_), hBd⟩
              have hb2 := hbg.out
              rw [List.take_of_length_le (by have := hlxH.out; omega)] at hb2
              unfold rowOk
              rw [hb2, hlxH.out]
              simp
            case measure => simp [intOf]; omega
      · have ed : ((lx : Int) == (l0 : Int)) = false := by simp; omega
        go_wp2_with fail
        refine plain_region (fun W' => W'.heap = wr.heap) 10 10 (by kernel_rfl) rfl ?_
        simp only [Array.replicate_succ, Array.replicate_zero, List.push_toArray, List.nil_append, List.cons_append]
        refine take_op 0 (v := ?qv0) rfl (by kernel_rfl) (fun _ _ _ h => h) (by rfl) hS0 (fun w' hS' => ?qy0) ?qz0
        case qy0 =>
          go_simp
          rfl
        simp only [List.setIfInBounds_toArray, List.set_cons_zero, List.set_cons_succ]
        refine take_op 1 (v := ?qv1) rfl (by kernel_rfl) (fun _ _ _ h => h) (by rfl) hS0 (fun w' hS' => ?qy1) ?qz1
        case qy1 =>
          go_simp
          rfl
        simp only [List.setIfInBounds_toArray, List.set_cons_zero, List.set_cons_succ]
        refine take_op 2 (v := ?qv2) rfl (by kernel_rfl) (fun _ _ _ h => h) (by rfl) hS0 (fun w' hS' => ?qy2) ?qz2
        case qy2 =>
          go_simp
          try go_ints
          first
          | rfl
          | (rw [if_pos (by omega)]; done)
          | rw [if_pos ⟨by omega, by omega⟩]
        simp only [List.setIfInBounds_toArray, List.set_cons_zero, List.set_cons_succ]
        refine take_op 3 (v := ?qv3) rfl (by kernel_rfl) (fun _ _ _ h => h) (by rfl) hS0 (fun w' hS' => ?qy3) ?qz3
        case qy3 =>
          have c1 := (World.cell?_of_block (w := wr) (w' := w') (a := ⟨b, o + m, none⟩) (by rw [hS'])).trans hc1'
          have c2 := (World.cell?_of_block (w := wr) (w' := w') (a := ⟨b, o, none⟩) (by rw [hS'])).trans hc0'
          clear hS'
          go_simp
          rfl
        simp only [List.setIfInBounds_toArray, List.set_cons_zero, List.set_cons_succ]
        refine take_op 4 (v := ?qv4) rfl (by kernel_rfl) (fun _ _ _ h => h) (by rfl) hS0 (fun w' hS' => ?qy4) ?qz4
        case qy4 =>
          go_simp
          rfl
        simp only [List.setIfInBounds_toArray, List.set_cons_zero, List.set_cons_succ]
        refine take_op 5 (v := ?qv5) rfl (by kernel_rfl) (fun _ _ _ h => h) (by rfl) hS0 (fun w' hS' => ?qy5) ?qz5
        case qy5 =>
          go_simp
          rfl
        simp only [List.setIfInBounds_toArray, List.set_cons_zero, List.set_cons_succ]
        refine take_op 6 (v := ?qv6) rfl (by kernel_rfl) (fun _ _ _ h => h) (by rfl) hS0 (fun w' hS' => ?qy6) ?qz6
        case qy6 =>
          go_simp
          try go_ints
          first
          | rfl
          | (rw [if_pos (by omega)]; done)
          | rw [if_pos ⟨by omega, by omega⟩]
        simp only [List.setIfInBounds_toArray, List.set_cons_zero, List.set_cons_succ]
        refine take_op 7 (v := ?qv7) rfl (by kernel_rfl) (fun _ _ _ h => h) (by rfl) hS0 (fun w' hS' => ?qy7) ?qz7
        case qy7 =>
          have c1 := (World.cell?_of_block (w := wr) (w' := w') (a := ⟨b, o + m, none⟩) (by rw [hS'])).trans hc1'
          have c2 := (World.cell?_of_block (w := wr) (w' := w') (a := ⟨b, o, none⟩) (by rw [hS'])).trans hc0'
          clear hS'
          go_simp
          rfl
        simp only [List.setIfInBounds_toArray, List.set_cons_zero, List.set_cons_succ]
        refine take_op 8 (v := ?qv8) rfl (by kernel_rfl) (fun _ _ _ h => h) (by rfl) hS0 (fun w' hS' => ?qy8) ?qz8
        case qy8 =>
          go_simp
          rfl
        simp only [List.setIfInBounds_toArray, List.set_cons_zero, List.set_cons_succ]
        refine take_op 9 (v := .bool true) rfl (by kernel_rfl) (fun _ _ _ h => h) (by rfl) hS0 (fun w' hS' => ?qy9) ?qz9
        case qy9 =>
          go_simp
          try simp only [ed]
          try omega
          try rfl
        simp only [List.setIfInBounds_toArray, List.set_cons_zero, List.set_cons_succ]
        refine done_ops (by kernel_rfl) ?_
        go_wp2_with fail
        go_ret
        refine ⟨ret_bool (hvf.out (all_hit hxsH.out ?_)), hB.drew⟩
        unfold rowOk
        rw [hlxH.out, show decide (lx = l0) = false by simp [e]]
        rfl
    · go_wp2_with fail
      go_ret
      exact ⟨ret_bool (hvt.out (by have h := hall.out; rw [List.take_of_length_le (by have := hnH.out; omega)] at h; exact h)), hB⟩

theorem lay_snoc (f : Nat → Nat) (k : Nat) : ((List.range k).map f).map vu8 ++ [.int .u8 ((f k : Nat) : Int)] = ((List.range (k + 1)).map f).map vu8 := by
  rw [List.range_succ, List.map_append, List.map_append]; rfl
theorem layI_snoc (f : Nat → Int) (k : Nat) : ((List.range k).map f).map (Value.int .i64) ++ [.int .i64 (f k)] = ((List.range (k + 1)).map f).map (Value.int .i64) := by
  rw [List.range_succ, List.map_append, List.map_append]; rfl

set_option maxRecDepth 100000 in
set_option maxHeartbeats 2000000 in
theorem Voted_any (xss : List (List Nat)) (J K : Nat) (hJ : xss.length = J) (hJ0 : 0 < J) (hJ1 : J ≤ 100) (hK1 : K ≤ 1000) (hlen : ∀ (i : Nat) (xs : List Nat), xss[i]? = some xs → xs.length = K) (ws : List Int) (hws : ws.length = J) (hwb : ∀ i : Nat, -1000000 ≤ ws[i]?.getD 0 ∧ ws[i]?.getD 0 ≤ 1000000)
    (a aw : Option Addr) (c cw : Nat) (w : World) (hr : RdL w.heap.size w a xss) (hw : Rd w.heap.size w aw ws) :
    Calls Try.prog 43 #[.slice a J c, .slice aw J cw] w fun e w' => ∃ s sc, e = .returned (.slice s K sc) ∧ w'.ownsRow w.heap.size 5 1 (.slice s K sc) K ((voteL (labF xss) J K ws).map vu8) ∧ Below w.heap.size w w' := by
  obtain ⟨i0, hi, hz0, hz1, hz2⟩ := info_parts jinfo_u8
  obtain ⟨xs0, hxs0⟩ : ∃ x, xss[0]? = some x := ⟨_, List.getElem?_eq_getElem (by omega)⟩
  obtain ⟨b, o, rfl, hb, a0, c0, hc0, hr0⟩ := hr.at hxs0
  rw [hlen 0 xs0 hxs0, show o + 0 = o from rfl] at hc0
  have hJH := Lib.hid hJ
  have hwsH := Lib.hid hws
  have hlenH := Lib.hid hlen
  have hrH := Lib.hid hr
  have hwH := Lib.hid hw
  obtain ⟨vF, hvF⟩ : ∃ f, voteF (labF xss) (fun i => ws[i]?.getD 0) J = f := ⟨_, rfl⟩
  clear hJ hws hlen hr hr0 hxs0 hw
  go_enter Try.func43, Try.ntmps43
  go_wp2
  go_loopw [5, 6] (fun v i wr => ∃ k : Nat, k ≤ K ∧ i = .int .i64 (k : Int) ∧ wr.ownsRow w.heap.size 5 1 v k (((List.range k).map vF).map vu8) ∧ Below w.heap.size w wr) (fun _ i _ => K - (intOf i).toNat)
  case atStart => exact ⟨0, Nat.zero_le _, rfl, World.ownsRow_nil _ _ _ _, Below.refl _ _⟩
  case round =>
    obtain ⟨k, hk, rfl, rowk, hB⟩ := hrel
    have hc0' := (hB.cell (p := ⟨b, o, none⟩) hb).trans hc0
    by_cases hlt : k < K
    · go_wp2_with fail
      go_loop [7, 8, 9] (fun y z i => ∃ m : Nat, m ≤ J ∧ i = .int .i64 (m : Int) ∧ y = .int .i64 (sumW (labF xss) (fun i => ws[i]?.getD 0) 1 k m) ∧ z = .int .i64 (sumW (labF xss) (fun i => ws[i]?.getD 0) 2 k m)) (fun _ _ i => J - (intOf i).toNat)
      case atStart => exact ⟨0, Nat.zero_le _, rfl, rfl, rfl⟩
      case round =>
        obtain ⟨m, hm, rfl, rfl, rfl⟩ := hrel
        obtain ⟨s1, hs1⟩ : ∃ s, sumW (labF xss) (fun i => ws[i]?.getD 0) 1 k m = s := ⟨_, rfl⟩
        obtain ⟨s2, hs2⟩ : ∃ s, sumW (labF xss) (fun i => ws[i]?.getD 0) 2 k m = s := ⟨_, rfl⟩
        obtain ⟨p1, p2⟩ : -100000000 ≤ s1 ∧ s1 ≤ 100000000 := hs1 ▸ sumW_bd _ _ 1 k m (by omega) (fun i _ => hwb i)
        obtain ⟨p3, p4⟩ : -100000000 ≤ s2 ∧ s2 ≤ 100000000 := hs2 ▸ sumW_bd _ _ 2 k m (by omega) (fun i _ => hwb i)
        rw [hs1, hs2]
        by_cases hmt : m < J
        · obtain ⟨xs, hxs⟩ : ∃ x, xss[m]? = some x := ⟨_, List.getElem?_eq_getElem (by have := hJH.out; omega)⟩
          obtain ⟨b', o', hbo, _, a1, c1, hc1, hr1⟩ := hrH.out.at hxs
          simp only [Option.some.injEq, Addr.mk.injEq, and_true] at hbo
          obtain ⟨rfl, rfl⟩ := hbo
          have hxl := hlenH.out m xs hxs
          rw [hxl] at hc1
          have hc1' := (hB.cell (p := ⟨b, o + m, none⟩) hb).trans hc1
          rcases hr1 with h0 | ⟨b1, o1, rfl, hb1, hcl⟩
          · exfalso; rw [h0] at hxl; simp at hxl; omega
          have hcl1 := (hB.cell (p := ⟨b1, o1 + k, none⟩) hb1).trans (hcl k (by omega))
          have hlk : labF xss m k = xs[k]?.getD 0 := by unfold labF; rw [hxs]; rfl
          rw [← hlk] at hcl1
          obtain ⟨l, hl⟩ : ∃ l, labF xss m k = l := ⟨_, rfl⟩
          rw [hl] at hcl1
          rcases hwH.out with h0 | ⟨b2, o2, rfl, hb2, hcw⟩
          · exfalso; have := hwsH.out; rw [h0] at this; simp at this; omega
          have hcw1 := (hB.cell (p := ⟨b2, o2 + m, none⟩) hb2).trans (hcw m (by have := hwsH.out; omega))
          obtain ⟨u, hu⟩ : ∃ u, ws[m]?.getD 0 = u := ⟨_, rfl⟩
          obtain ⟨ub1, ub2⟩ : -1000000 ≤ u ∧ u ≤ 1000000 := hu ▸ hwb m
          rw [hu] at hcw1
          have hn1 : sumW (labF xss) (fun i => ws[i]?.getD 0) 1 k (m + 1) = s1 + if l = 1 then u else 0 := by
            rw [← hs1, ← hl, ← hu]; rfl
          have hn2 : sumW (labF xss) (fun i => ws[i]?.getD 0) 2 k (m + 1) = s2 + if l = 2 then u else 0 := by
            rw [← hs2, ← hl, ← hu]; rfl
          have hn1H := Lib.hid hn1
          have hn2H := Lib.hid hn2
          clear hc1 hcl hlk hl hu hcw hxl hxs hn1 hn2 hs1 hs2
          by_cases e1 : l = 1
          · subst e1
            go_wp2_with fail
            go_round
            case rel => exact ⟨m + 1, by omega, by go_num, by rw [hn1H.out]; simp, by rw [hn2H.out]; simp⟩
            case measure => simp [intOf]; omega
          · by_cases e2 : l = 2
            · subst e2
              go_wp2_with fail
              go_round
              case rel => exact ⟨m + 1, by omega, by go_num, by rw [hn1H.out]; simp, by rw [hn2H.out]; simp⟩
              case measure => simp [intOf]; omega
            · have d1 : ((l : Int) == 1) = false := by simp; omega
              have d2 : ((l : Int) == 2) = false := by simp; omega
              have d3 : ¬ (l : Int) = 1 := by omega
              have d4 : ¬ (l : Int) = 2 := by omega
              go_wp2_with fail
              go_round
              case rel => exact ⟨m + 1, by omega, by go_num, by rw [hn1H.out, if_neg e1]; simp, by rw [hn2H.out, if_neg e2]; simp⟩
              case measure => simp [intOf]; omega
        · have hmJ : m = J := by omega
          subst hmJ
          have hvk : vF k = verd s1 s2 := by rw [← hvF, ← hs1, ← hs2]; rfl
          have hnew := lay_snoc vF k
          rw [hvk] at hnew
          have hnewH := Lib.hid hnew
          clear hs1 hs2 hvk hnew
          by_cases g1 : s2 < s1
          · have gv := Lib.hid ((verd_one _ _).2 g1)
            have hownA := rowk.alloc (.cells #[.int .u8 1] 5)
            have hBA := jb_al hB (.cells #[.int .u8 1] 5)
            go_wp2_with (at_builtin; refine wpList_append_own _ rfl _ _ 23 rfl w.heap.size 5 i0 (.int .u8 0) 1 1 Try.underlying23 hi hz0 hz1 hz2 rfl (by decide) u5 k (((List.range k).map vF).map vu8) rfl hownA ⟨wr.heap.size, 0, none⟩ 1 1 [.int .u8 1] rfl rfl (cell_one_new _ _ _) (by simp [Value.oneCell']) (by unfold maxLen; omega) (by omega) hBA.size ?_; intro v' w4 hown' hgrow hnil)
            have hnw := hnewH.out
            rw [gv.out] at hnw
            rw [show (List.map vu8 (List.map vF (List.range k)) ++ [Value.int IntKind.u8 1]) = _ from hnw] at hown'
            have hBB := hBA.trans (below_of_row (n := w.heap.size) hownA hgrow (Nat.le_refl _) hBA.size)
            go_roundw
            case rel => exact ⟨k + 1, by omega, by go_num, hown', hBB⟩
            case measure => simp [intOf]; omega
          · by_cases g2 : s1 < s2
            · have gv := Lib.hid ((verd_two _ _).2 g2)
              have hownA := rowk.alloc (.cells #[.int .u8 2] 5)
              have hBA := jb_al hB (.cells #[.int .u8 2] 5)
              go_wp2_with (at_builtin; refine wpList_append_own _ rfl _ _ 23 rfl w.heap.size 5 i0 (.int .u8 0) 1 1 Try.underlying23 hi hz0 hz1 hz2 rfl (by decide) u5 k (((List.range k).map vF).map vu8) rfl hownA ⟨wr.heap.size, 0, none⟩ 1 1 [.int .u8 2] rfl rfl (cell_one_new _ _ _) (by simp [Value.oneCell']) (by unfold maxLen; omega) (by omega) hBA.size ?_; intro v' w4 hown' hgrow hnil)
              have hnw := hnewH.out
              rw [gv.out] at hnw
              rw [show (List.map vu8 (List.map vF (List.range k)) ++ [Value.int IntKind.u8 2]) = _ from hnw] at hown'
              have hBB := hBA.trans (below_of_row (n := w.heap.size) hownA hgrow (Nat.le_refl _) hBA.size)
              go_roundw
              case rel => exact ⟨k + 1, by omega, by go_num, hown', hBB⟩
              case measure => simp [intOf]; omega
            · have gv := Lib.hid (show verd s1 s2 = 3 by unfold verd; rw [if_neg g1, if_neg g2])
              have hownA := rowk.alloc (.cells #[.int .u8 3] 5)
              have hBA := jb_al hB (.cells #[.int .u8 3] 5)
              go_wp2_with (at_builtin; refine wpList_append_own _ rfl _ _ 23 rfl w.heap.size 5 i0 (.int .u8 0) 1 1 Try.underlying23 hi hz0 hz1 hz2 rfl (by decide) u5 k (((List.range k).map vF).map vu8) rfl hownA ⟨wr.heap.size, 0, none⟩ 1 1 [.int .u8 3] rfl rfl (cell_one_new _ _ _) (by simp [Value.oneCell']) (by unfold maxLen; omega) (by omega) hBA.size ?_; intro v' w4 hown' hgrow hnil)
              have hnw := hnewH.out
              rw [gv.out] at hnw
              rw [show (List.map vu8 (List.map vF (List.range k)) ++ [Value.int IntKind.u8 3]) = _ from hnw] at hown'
              have hBB := hBA.trans (below_of_row (n := w.heap.size) hownA hgrow (Nat.le_refl _) hBA.size)
              go_roundw
              case rel => exact ⟨k + 1, by omega, by go_num, hown', hBB⟩
              case measure => simp [intOf]; omega
    · have hkK : k = K := by omega
      subst hkK
      rw [← hvF] at rowk
      obtain ⟨sa, sc, rfl⟩ := jrow_slice rowk
      go_wp2_with fail
      go_ret
      exact ⟨_, _, rfl, rowk, hB⟩

end Go.Proofs.Ytaejdgjfnoefjaa

/- Contracts and laws (JW, JR, JS, JU, JT). -/
import Derived.Lib.MinMax
import Derived.Laws.BytesArg
import Derived.Shelf.Bytes.SlSmallAll
import Derived.Test.YtbfigbpjoaccdaaGreatQD1
import Derived.Test.YtbfigbpjoaccdaaGreatQD2
import Derived.Test.YtbfigbpjoaccdaaGreatQD11
namespace Go.Proofs.YtbfigbpjoaccdaaGreat
open Go Go.RowKit Go.Shelf
set_option linter.unusedVariables false
set_option linter.unusedSimpArgs false

/-- What inspector i said of part k. -/
def labF (xss : List (List Nat)) (i k : Nat) : Nat := ((xss[i]?.getD [])[k]?).getD 0

/-- The first k of f, and 0 behind. -/
def layU (f : Nat → Nat) (n k : Nat) : List Nat := (List.range n).map fun i => if i < k then f i else 0
theorem layU_length (f : Nat → Nat) (n k : Nat) : (layU f n k).length = n := by simp [layU]
theorem layU_zero (f : Nat → Nat) (n : Nat) : layU f n 0 = List.replicate n 0 := by
  refine List.ext_getElem (by simp [layU]) fun i h1 h2 => ?_
  simp [layU]
theorem layU_all (f : Nat → Nat) (n : Nat) : layU f n n = (List.range n).map f := by
  refine List.ext_getElem (by simp [layU]) fun i h1 h2 => ?_
  simp only [layU, List.getElem_map, List.getElem_range]
  simp [layU] at h1
  simp [h1]
theorem layU_set (f : Nat → Nat) {n k : Nat} (hk : k < n) : (layU f n k).set k (f k) = layU f n (k + 1) := by
  refine List.ext_getElem (by simp [layU]) fun i h1 h2 => ?_
  simp only [layU, List.getElem_set, List.getElem_map, List.getElem_range]
  by_cases e : k = i
  · subst e; simp
  · rw [if_neg e]
    by_cases h : i < k
    · rw [if_pos h, if_pos (by omega)]
    · rw [if_neg h, if_neg (by omega)]

/-- The three sums of a part, over the first m inspectors. -/
def triJ (lab : Nat → Nat → Nat) (w : Nat → Int) (k m : Nat) : Array Value := #[.int .i64 (sumW lab w 0 k m), .int .i64 (sumW lab w 1 k m), .int .i64 (sumW lab w 2 k m)]
theorem triJ_cell (lab : Nat → Nat → Nat) (w : Nat → Int) (k m : Nat) {l : Nat} (hl : l ≤ 2) : (triJ lab w k m)[l]? = some (.int .i64 (sumW lab w l k m)) := by
  have : l = 0 ∨ l = 1 ∨ l = 2 := by omega
  rcases this with rfl | rfl | rfl <;> rfl
theorem triJ_step (lab : Nat → Nat → Nat) (w : Nat → Int) (k m : Nat) {l : Nat} (hl : l ≤ 2) (h : lab m k = l) : (triJ lab w k m).setIfInBounds l (.int .i64 (sumW lab w l k m + w m)) = triJ lab w k (m + 1) := by
  have : l = 0 ∨ l = 1 ∨ l = 2 := by omega
  rcases this with rfl | rfl | rfl <;> simp [triJ, sumW, sumJ, h]
theorem sumW_bd (lab : Nat → Nat → Nat) (w : Nat → Int) (v k m : Nat) (hm : m ≤ 100) (h : ∀ i, i < m → -1000000 ≤ w i ∧ w i ≤ 1000000) : -100000000 ≤ sumW lab w v k m ∧ sumW lab w v k m ≤ 100000000 := by
  have := sumJ_bd (f := fun i => if lab i k = v then w i else 0) (B := 1000000) (n := m) fun i hi => by
    have := h i hi
    split <;> omega
  unfold sumW
  omega
theorem triJ_zero (lab : Nat → Nat → Nat) (w : Nat → Int) (k : Nat) : triJ lab w k 0 = #[.int .i64 0, .int .i64 0, .int .i64 0] := rfl


set_option maxRecDepth 100000 in
set_option maxHeartbeats 2000000 in
theorem vote_any (xss : List (List Nat)) (J K : Nat) (hJ : xss.length = J) (hJ0 : 0 < J) (hJ1 : J ≤ 100) (hK1 : K ≤ 1000) (hlen : ∀ (i : Nat) (xs : List Nat), xss[i]? = some xs → xs.length = K) (hlab : ∀ i k, labF xss i k ≤ 2) (ws : List Int) (hws : ws.length = J) (hwb : ∀ i : Nat, -1000000 ≤ ws[i]?.getD 0 ∧ ws[i]?.getD 0 ≤ 1000000)
    (a aw : Option Addr) (c cw : Nat) (w : World) (hr : RdL w.heap.size w a xss) (hw : Rd w.heap.size w aw ws) :
    Calls Tryz.prog 67 #[.slice a J c, .slice aw J cw] w fun e w' => ∃ g, e = .returned (.slice (some ⟨g, 0, none⟩) K K) ∧ w'.ownsRow w.heap.size 5 1 (.slice (some ⟨g, 0, none⟩) K K) K ((voteL (labF xss) J K ws).map vu8) ∧ Below w.heap.size w w' := by
  obtain ⟨i0, hi, hz0, hz1, hz2⟩ := info_parts jinfo_u8
  obtain ⟨xs0, hxs0⟩ : ∃ x, xss[0]? = some x := ⟨_, List.getElem?_eq_getElem (by omega)⟩
  obtain ⟨b, o, rfl, hb, a0, c0, hc0, hr0⟩ := hr.at hxs0
  have hl0 := hlen 0 xs0 hxs0
  rw [hl0] at hc0
  have hJH := Lib.hid hJ
  have hzH := Lib.hid (jmade_u8 K)
  have hwsH := Lib.hid hws
  have hlenH := Lib.hid hlen
  have hlabH := Lib.hid hlab
  have hrH := Lib.hid hr
  clear hJ hws hlen hlab hr hl0 hr0
  have hc0' := hc0
  rw [show o + 0 = o from rfl] at hc0'
  go_enter Tryz.func67, Tryz.ntmps67
  go_wp2_with (at_make; refine wpList_make_full _ rfl _ _ 28 rfl w.heap.size 5 i0 (.int .u8 0) 1 Tryz.underlying28 hi hz0 hz1 .i64 .i64 (K : Int) (K : Int) K rfl rfl (by simp) (by simp) (by rw [hz2]; omega) (by unfold maxLen; omega) (by simp) ?_; intro w1 hown hg)
  rw [hzH.out, ← layU_zero (voteF (labF xss) (fun i => ws[i]?.getD 0) J) K] at hown
  obtain ⟨vF, hvF⟩ : ∃ f, voteF (labF xss) (fun i => ws[i]?.getD 0) J = f := ⟨_, rfl⟩
  rw [hvF] at hown
  have hB1 : Below w.heap.size w w1 := (Below.refl _ _).grown hg (Nat.le_refl _) (fun k e => by cases e)
  clear hc0 hc0' hxs0
  go_loopw [18] (fun i wr => ∃ k : Nat, k ≤ K ∧ i = .int .i64 (k : Int) ∧ wr.ownsRow w.heap.size 5 1 (.slice (some ⟨w.heap.size, 0, none⟩) K K) K ((layU vF K k).map vu8) ∧ Below w.heap.size w wr) (fun i _ => K - (intOf i).toNat)
  case atStart => exact ⟨0, Nat.zero_le _, rfl, hown, hB1⟩
  case round =>
    clear hown hB1 hg
    obtain ⟨k, hk, rfl, rowk, hB⟩ := hrel
    by_cases hlt : k < K
    · have hnew := Blk.new wr 124 (triJ (labF xss) (fun i => ws[i]?.getD 0) k 0)
      obtain ⟨V, hV⟩ : ∃ V, wr.alloc (.cells (triJ (labF xss) (fun i => ws[i]?.getD 0) k 0) 124) = V := ⟨_, rfl⟩
      have hBV : Below w.heap.size w V := hV ▸ jb_al hB _
      have hgV : Below wr.heap.size wr V := hV ▸ jb_al (Below.refl _ _) _
      have rowV := row_below rowk hgV
      rw [hV] at hnew
      have hsz : w.heap.size ≤ wr.heap.size := hB.size
      have hzs : w.heap.size < wr.heap.size := by
        rcases rowk.2 with ⟨h, _⟩ | ⟨g, cap, cur, h, _, h2, _⟩
        · cases h
        · simp only [Value.slice.injEq, Option.some.injEq, Addr.mk.injEq, true_and, and_true] at h
          rw [← h.1] at h2
          exact (Array.getElem?_eq_some_iff.1 h2).1
      have hVs : wr.heap.size < V.heap.size := hnew.lt
      clear rowk hB hgV
      rw [triJ_zero] at hV
      go_wp2_with fail
      obtain ⟨B1, hB1⟩ : ∃ n, wr.heap.size = n := ⟨_, rfl⟩
      rw [hB1] at hnew hsz hzs hVs ⊢
      clear hV hB1
      clear wr
      go_loopw [23] (fun i wr => ∃ m : Nat, m ≤ J ∧ i = .int .i64 (m : Int) ∧ Blk wr B1 124 (triJ (labF xss) (fun i => ws[i]?.getD 0) k m) ∧ wr.ownsRow w.heap.size 5 1 (.slice (some ⟨w.heap.size, 0, none⟩) K K) K ((layU vF K k).map vu8) ∧ Below w.heap.size w wr) (fun i _ => J - (intOf i).toNat)
      case atStart => exact ⟨0, Nat.zero_le _, rfl, hnew, rowV, hBV⟩
      case round =>
        clear hnew rowV hBV hVs
        obtain ⟨m, hm, rfl, hbk, rowm, hB⟩ := hrel
        by_cases hmt : m < J
        · obtain ⟨xs, hxs⟩ : ∃ x, xss[m]? = some x := ⟨_, List.getElem?_eq_getElem (by have := hJH.out; omega)⟩
          obtain ⟨b', o', hbo, _, a1, c1, hc1, hr1⟩ := hrH.out.at hxs
          simp only [Option.some.injEq, Addr.mk.injEq, and_true] at hbo
          obtain ⟨rfl, rfl⟩ := hbo
          have hxl := hlenH.out m xs hxs
          rw [hxl] at hc1
          have hc1' := (hB.cell (p := ⟨b, o + m, none⟩) hb).trans hc1
          rcases hr1 with h0 | ⟨b1, o1, rfl, hb1, hcl⟩
          · exfalso; rw [h0] at hxl; simp at hxl; omega
          have hcl1 := (hB.cell (p := ⟨b1, o1 + k, none⟩) hb1).trans (hcl k (by omega))
          have hlk : labF xss m k = xs[k]?.getD 0 := by unfold labF; rw [hxs]; rfl
          rw [← hlk] at hcl1
          obtain ⟨l, hl⟩ : ∃ l, labF xss m k = l := ⟨_, rfl⟩
          have hl2 : l ≤ 2 := hl ▸ hlabH.out m k
          rw [hl] at hcl1
          rcases hw with h0 | ⟨b2, o2, rfl, hb2, hcw⟩
          · exfalso; have := hwsH.out; rw [h0] at this; simp at this; omega
          have hcw1 := (hB.cell (p := ⟨b2, o2 + m, none⟩) hb2).trans (hcw m (by have := hwsH.out; omega))
          obtain ⟨u, hu⟩ : ∃ u, ws[m]?.getD 0 = u := ⟨_, rfl⟩
          have hub : -1000000 ≤ u ∧ u ≤ 1000000 := hu ▸ hwb m
          obtain ⟨ub1, ub2⟩ := hub
          rw [hu] at hcw1
          obtain ⟨s, hs⟩ : ∃ s, sumW (labF xss) (fun i => ws[i]?.getD 0) l k m = s := ⟨_, rfl⟩
          obtain ⟨sb1, sb2⟩ : -100000000 ≤ s ∧ s ≤ 100000000 := hs ▸ sumW_bd _ _ l k m (by omega) (fun i _ => hwb i)
          have hcs := hbk.cell (triJ_cell (labF xss) (fun i => ws[i]?.getD 0) k m hl2)
          rw [hs] at hcs
          have hstep : (triJ (labF xss) (fun i => ws[i]?.getD 0) k m).setIfInBounds l (.int .i64 (s + u)) = triJ (labF xss) (fun i => ws[i]?.getD 0) k (m + 1) := by
            rw [← hs, ← hu]; exact triJ_step _ _ k m hl2 hl
          have hstepH := Lib.hid hstep
          have hfr := hbk.frozen l
          have hS0 : wr.drew.heap = wr.heap := rfl
          clear hc1 hcl hlk hl hu hs hstep hcw hxl hxs
          go_wp2_with fail
          refine plain_region (fun W' => W'.heap = wr.heap) 12 13 (by kernel_rfl) rfl ?_
          simp only [Array.replicate_succ, Array.replicate_zero, List.push_toArray, List.nil_append, List.cons_append]
          refine take_op 0 (v := ?rv0) rfl (by kernel_rfl) (fun _ _ _ h => h) (by rfl) hS0 (fun w' hS' => ?ry0) ?rz0
          case ry0 =>
            go_simp
            rfl
          simp only [List.setIfInBounds_toArray, List.set_cons_zero, List.set_cons_succ]
          refine take_op 1 (v := ?rv1) rfl (by kernel_rfl) (fun _ _ _ h => h) (by rfl) hS0 (fun w' hS' => ?ry1) ?rz1
          case ry1 =>
            go_simp
            rfl
          simp only [List.setIfInBounds_toArray, List.set_cons_zero, List.set_cons_succ]
          refine take_op 2 (v := ?rv2) rfl (by kernel_rfl) (fun _ _ _ h => h) (by rfl) hS0 (fun w' hS' => ?ry2) ?rz2
          case ry2 =>
            go_simp
            try go_ints
            first
            | rfl
            | (rw [if_pos (by omega)]; done)
            | rw [if_pos ⟨by omega, by omega⟩]
          simp only [List.setIfInBounds_toArray, List.set_cons_zero, List.set_cons_succ]
          refine take_op 3 (v := ?rv3) rfl (by kernel_rfl) (fun _ _ _ h => h) (by rfl) hS0 (fun w' hS' => ?ry3) ?rz3
          case ry3 =>
            have e1 := (World.cell?_of_block (w := wr) (w' := w') (a := ⟨b1, o1 + k, none⟩) (by rw [hS'])).trans hcl1
            have e2 := (World.cell?_of_block (w := wr) (w' := w') (a := ⟨b2, o2 + m, none⟩) (by rw [hS'])).trans hcw1
            have e3 := (World.cell?_of_block (w := wr) (w' := w') (a := ⟨B1, l, none⟩) (by rw [hS'])).trans hcs
            clear hS'
            go_simp
            rfl
          simp only [List.setIfInBounds_toArray, List.set_cons_zero, List.set_cons_succ]
          refine take_op 4 (v := ?rv4) rfl (by kernel_rfl) (fun _ _ _ h => h) (by rfl) hS0 (fun w' hS' => ?ry4) ?rz4
          case ry4 =>
            go_simp
            try go_ints
            first
            | rfl
            | (rw [if_pos (by omega)]; done)
            | rw [if_pos ⟨by omega, by omega⟩]
          simp only [List.setIfInBounds_toArray, List.set_cons_zero, List.set_cons_succ]
          refine take_op 5 (v := ?rv5) rfl (by kernel_rfl) (fun _ _ _ h => h) (by rfl) hS0 (fun w' hS' => ?ry5) ?rz5
          case ry5 =>
            have e1 := (World.cell?_of_block (w := wr) (w' := w') (a := ⟨b1, o1 + k, none⟩) (by rw [hS'])).trans hcl1
            have e2 := (World.cell?_of_block (w := wr) (w' := w') (a := ⟨b2, o2 + m, none⟩) (by rw [hS'])).trans hcw1
            have e3 := (World.cell?_of_block (w := wr) (w' := w') (a := ⟨B1, l, none⟩) (by rw [hS'])).trans hcs
            clear hS'
            go_simp
            rfl
          simp only [List.setIfInBounds_toArray, List.set_cons_zero, List.set_cons_succ]
          refine take_op 6 (v := ?rv6) rfl (by kernel_rfl) (fun _ _ _ h => h) (by rfl) hS0 (fun w' hS' => ?ry6) ?rz6
          case ry6 =>
            go_simp
            rfl
          simp only [List.setIfInBounds_toArray, List.set_cons_zero, List.set_cons_succ]
          refine take_op 7 (v := ?rv7) rfl (by kernel_rfl) (fun _ _ _ h => h) (by rfl) hS0 (fun w' hS' => ?ry7) ?rz7
          case ry7 =>
            go_simp
            rfl
          simp only [List.setIfInBounds_toArray, List.set_cons_zero, List.set_cons_succ]
          refine take_op 8 (v := ?rv8) rfl (by kernel_rfl) (fun _ _ _ h => h) (by rfl) hS0 (fun w' hS' => ?ry8) ?rz8
          case ry8 =>
            go_simp
            try go_ints
            first
            | rfl
            | (rw [if_pos (by omega)]; done)
            | rw [if_pos ⟨by omega, by omega⟩]
          simp only [List.setIfInBounds_toArray, List.set_cons_zero, List.set_cons_succ]
          refine take_op 9 (v := ?rv9) rfl (by kernel_rfl) (fun _ _ _ h => h) (by rfl) hS0 (fun w' hS' => ?ry9) ?rz9
          case ry9 =>
            have e1 := (World.cell?_of_block (w := wr) (w' := w') (a := ⟨b1, o1 + k, none⟩) (by rw [hS'])).trans hcl1
            have e2 := (World.cell?_of_block (w := wr) (w' := w') (a := ⟨b2, o2 + m, none⟩) (by rw [hS'])).trans hcw1
            have e3 := (World.cell?_of_block (w := wr) (w' := w') (a := ⟨B1, l, none⟩) (by rw [hS'])).trans hcs
            clear hS'
            go_simp
            rfl
          simp only [List.setIfInBounds_toArray, List.set_cons_zero, List.set_cons_succ]
          refine take_op 10 (v := ?rv10) rfl (by kernel_rfl) (fun _ _ _ h => h) (by rfl) hS0 (fun w' hS' => ?ry10) ?rz10
          case ry10 =>
            go_simp
            try go_ints
            rfl
          simp only [List.setIfInBounds_toArray, List.set_cons_zero, List.set_cons_succ]
          refine take_op 11 (v := ?rv11) rfl (by kernel_rfl) (fun _ _ _ h => h) (by rfl) hS0 (fun w' hS' => ?ry11) ?rz11
          case ry11 =>
            go_simp
            try go_ints
            first
            | rfl
            | (rw [if_pos (by omega)]; done)
            | rw [if_pos ⟨by omega, by omega⟩]
          simp only [List.setIfInBounds_toArray, List.set_cons_zero, List.set_cons_succ]
          refine step_op 12 (by kernel_rfl) rfl (fun K hK => ?_)
          have hfr2 : wr.drew.frozen? ⟨B1, l, none⟩ = false := hfr
          have hcs2 : wr.drew.cell? ⟨B1, l, none⟩ = some (.int .i64 s) := hcs
          rw [if_pos (by rfl)]
          go_simp
          refine hK.out _ _ (fun h => absurd h (by omega)) ?_
          clear hK K
          try simp only [Act.put, List.setIfInBounds_toArray, List.set_cons_zero, List.set_cons_succ]
          refine done_ops (by kernel_rfl) ?_
          go_wp2_with fail
          go_roundw
          case rel =>
            have k1 : Blk wr.drew B1 124 (triJ (labF xss) (fun i => ws[i]?.getD 0) k m) := hbk
            have k2 := k1.set l (.int .i64 (s + u))
            rw [hstepH.out] at k2
            exact ⟨m + 1, by omega, by go_num, k2, row_setCell (W := wr.drew) (a := ⟨B1, l, none⟩) rowm (by simp [Value.ownBlock]; omega) _, (hB.drew).setCell (p := ⟨B1, l, none⟩) hsz _⟩
          case measure => simp [intOf]; omega
        · have hmJ : m = J := by omega
          subst hmJ
          obtain ⟨s1, hs1⟩ : ∃ s, sumW (labF xss) (fun i => ws[i]?.getD 0) 1 k m = s := ⟨_, rfl⟩
          obtain ⟨s2, hs2⟩ : ∃ s, sumW (labF xss) (fun i => ws[i]?.getD 0) 2 k m = s := ⟨_, rfl⟩
          obtain ⟨p1, p2⟩ : -100000000 ≤ s1 ∧ s1 ≤ 100000000 := hs1 ▸ sumW_bd _ _ 1 k m (by omega) (fun i _ => hwb i)
          obtain ⟨p3, p4⟩ : -100000000 ≤ s2 ∧ s2 ≤ 100000000 := hs2 ▸ sumW_bd _ _ 2 k m (by omega) (fun i _ => hwb i)
          have d1 := hbk.cell (triJ_cell (labF xss) (fun i => ws[i]?.getD 0) k m (l := 1) (by omega))
          have d2 := hbk.cell (triJ_cell (labF xss) (fun i => ws[i]?.getD 0) k m (l := 2) (by omega))
          rw [hs1] at d1
          rw [hs2] at d2
          have hvk : vF k = verd s1 s2 := by rw [← hvF, ← hs1, ← hs2]; rfl
          have hst := fun z : Nat => rowm.stored k (.int .u8 (z : Int))
          simp only [map_set_u8] at hst
          have hset : (layU vF K k).set k (verd s1 s2) = layU vF K (k + 1) := by rw [← hvk]; exact layU_set vF hlt
          have hfr := rowm.frozenAt k
          have hcell := rowm.cellAt k (by rw [Nat.mul_one]; exact hlt)
          rw [List.getElem?_map, List.getElem?_eq_getElem (by rw [layU_length]; exact hlt)] at hcell
          simp only [Option.map_some] at hcell
          obtain ⟨y, hy⟩ : ∃ y, (layU vF K k)[k]'(by rw [layU_length]; exact hlt) = y := ⟨_, rfl⟩
          rw [hy] at hcell
          change wr.cell? ⟨w.heap.size, k, none⟩ = some (.int .u8 (y : Int)) at hcell
          have hstH := Lib.hid hst
          have hsetH := Lib.hid hset
          clear hst hset hs1 hs2 hvk hy
          have fin : ∀ z : Nat, z = verd s1 s2 → (wr.setCell ⟨w.heap.size, k, none⟩ (.int .u8 (z : Int))).ownsRow w.heap.size 5 1 (.slice (some ⟨w.heap.size, 0, none⟩) K K) K ((layU vF K (k + 1)).map vu8) ∧ Below w.heap.size w (wr.setCell ⟨w.heap.size, k, none⟩ (.int .u8 (z : Int))) := by
            intro z hz
            have h1 := (hstH.out z).1
            rw [hz, hsetH.out] at h1
            rw [hz]
            exact ⟨h1, hB.setCell (p := ⟨w.heap.size, k, none⟩) (Nat.le_refl _) _⟩
          have finH := Lib.hid fin
          clear fin
          by_cases g1 : s2 < s1
          · have e1 : (decide (0 < s1 - s2)) = true := by simp; omega
            go_wp2_with fail
            go_roundw
            case rel => exact ⟨k + 1, by omega, by go_num, (finH.out 1 (((verd_one _ _).2 g1).symm)).1, (finH.out 1 (((verd_one _ _).2 g1).symm)).2⟩
            case measure => simp [intOf]; omega
          · by_cases g2 : s1 < s2
            · go_wp2_with fail
              go_roundw
              case rel => exact ⟨k + 1, by omega, by go_num, (finH.out 2 (((verd_two _ _).2 g2).symm)).1, (finH.out 2 (((verd_two _ _).2 g2).symm)).2⟩
              case measure => simp [intOf]; omega
            · have g3 := Lib.hid (show 3 = verd s1 s2 by unfold verd; rw [if_neg g1, if_neg g2])
              go_wp2_with fail
              go_roundw
              case rel => exact ⟨k + 1, by omega, by go_num, (finH.out 3 g3.out).1, (finH.out 3 g3.out).2⟩
              case measure => simp [intOf]; omega
    · have hkK : k = K := by omega
      subst hkK
      rw [layU_all, ← hvF] at rowk
      go_wp2_with fail
      go_ret
      exact ⟨_, rfl, rowk, hB⟩

end Go.Proofs.YtbfigbpjoaccdaaGreat

namespace Go.Proofs.YtbfigbpjoaccdaaGreat
open Go Go.RowKit Go.Shelf
set_option linter.unusedVariables false
set_option linter.unusedSimpArgs false

/-- Labels that a jury may give. -/
def rowOk (l0 : Nat) (xs : List Nat) : Bool := decide (xs.length = l0) && !bigN xs
def len0 (xss : List (List Nat)) : Nat := (xss[0]?.getD []).length
def vldJ (xss : List (List Nat)) : Bool := decide (1 ≤ xss.length) && decide (xss.length ≤ 8) && decide (len0 xss ≤ 100) && xss.all (rowOk (len0 xss))

theorem all_hit {α : Type} {f : α → Bool} {L : List α} {i : Nat} {x : α} (hi : L[i]? = some x) (h : f x = false) : L.all f = false := by
  obtain ⟨hlt, rfl⟩ := List.getElem?_eq_some_iff.1 hi
  exact List.all_eq_false.2 ⟨_, List.getElem_mem hlt, by rw [h]; simp⟩
theorem all_succ {α : Type} {f : α → Bool} {L : List α} {i : Nat} {x : α} (hi : L[i]? = some x) (h : (L.take i).all f = true) (hx : f x = true) : (L.take (i + 1)).all f = true := by
  obtain ⟨hlt, rfl⟩ := List.getElem?_eq_some_iff.1 hi
  rw [List.take_succ_eq_append_getElem hlt, List.all_append, h]
  simp [hx]


end Go.Proofs.YtbfigbpjoaccdaaGreat

namespace Go.Proofs.YtbfigbpjoaccdaaGreat
open Go Go.RowKit Go.Shelf
set_option linter.unusedVariables false
set_option linter.unusedSimpArgs false

theorem jrow_weaken {W : World} {base base' : Nat} {e : TypeId} {size : Nat} {v : Value} {k : Nat} {xs : List Value} (h : W.ownsRow base e size v k xs) (hb : base' ≤ base) : W.ownsRow base' e size v k xs := by
  refine ⟨h.1, ?_⟩
  rcases h.2 with h1 | ⟨g, cap, cur, h1, h2, h3⟩
  · exact .inl h1
  · exact .inr ⟨g, cap, cur, h1, Nat.le_trans hb h2, h3⟩

end Go.Proofs.YtbfigbpjoaccdaaGreat

namespace Go.Proofs.YtbfigbpjoaccdaaGreat
open Go Go.RowKit Go.Shelf
set_option linter.unusedVariables false
set_option linter.unusedSimpArgs false

/-! ### Bytes as text -/

def bsN (xs : List Nat) : ByteArray := strOfNums (xs.map fun x : Nat => (x : Int))
theorem conv_bytes {W : World} {B : Nat} {a : Option Addr} {xs : List Nat} {n : Nat} (c : Nat) (hn : xs.length = n) (h : RdN B W a xs) : (convert 28 9 (.slice a n c)).run Tryz.prog W = .ok (.string (bsN xs)) W := by
  rcases h with h | ⟨b, o, h1, h2, h3⟩
  · subst h
    simp at hn
    subst hn
    rw [show bsN [] = ByteArray.empty from rfl]
    exact run_convert_bytes_zero W 28 5 Tryz.underlying28 Tryz.underlying5 a c 9 Tryz.underlying9
  · subst h1
    refine run_convert_bytes_arg W 28 5 Tryz.underlying28 Tryz.underlying5 b o n c (xs.map fun x : Nat => (x : Int)) (by simpa using hn) (fun i hi => ?_) 9 Tryz.underlying9
    rw [h3 i (by omega)]
    rw [List.getD_eq_getElem?_getD, List.getElem?_map, List.getElem?_eq_getElem (by omega)]
    rfl

/-! ### Rows that are written place by place -/

def mixJ (f : Nat → Int) (L : List Int) (k : Nat) : List Int := (List.range L.length).map fun j => if j < k then f j else L[j]?.getD 0
theorem mixJ_length (f : Nat → Int) (L : List Int) (k : Nat) : (mixJ f L k).length = L.length := by simp [mixJ]
theorem mixJ_zero (f : Nat → Int) (L : List Int) : mixJ f L 0 = L := by
  refine List.ext_getElem (by simp [mixJ]) fun i h1 h2 => ?_
  simp [mixJ, h2]
theorem mixJ_all (f : Nat → Int) (L : List Int) {n : Nat} (hn : L.length = n) : mixJ f L n = (List.range n).map f := by
  subst hn
  refine List.ext_getElem (by simp [mixJ]) fun i h1 h2 => ?_
  simp only [List.length_map, List.length_range] at h2
  simp [mixJ, h2]
theorem mixJ_set (f : Nat → Int) (L : List Int) {k : Nat} (hk : k < L.length) : (mixJ f L k).set k (f k) = mixJ f L (k + 1) := by
  refine List.ext_getElem (by simp [mixJ]) fun i h1 h2 => ?_
  simp only [mixJ, List.getElem_set, List.getElem_map, List.getElem_range]
  by_cases e : k = i
  · subst e; simp
  · rw [if_neg e]
    by_cases h : i < k
    · rw [if_pos h, if_pos (by omega)]
    · rw [if_neg h, if_neg (by omega)]

/-! ### What the jury's functions return -/

theorem vldJ_true {xss : List (List Nat)} (h : vldJ xss = true) : 1 ≤ xss.length ∧ xss.length ≤ 8 ∧ len0 xss ≤ 100 ∧ (∀ (i : Nat) (xs : List Nat), xss[i]? = some xs → xs.length = len0 xss) ∧ ∀ i k, labF xss i k ≤ 2 := by
  unfold vldJ at h
  simp only [Bool.and_eq_true, decide_eq_true_eq] at h
  obtain ⟨⟨⟨h1, h2⟩, h3⟩, h4⟩ := h
  have h5 : ∀ (i : Nat) (xs : List Nat), xss[i]? = some xs → rowOk (len0 xss) xs = true := fun i xs hi => List.all_eq_true.1 h4 xs (List.mem_of_getElem? hi)
  refine ⟨h1, h2, h3, fun i xs hi => ?_, fun i k => ?_⟩
  · have := h5 i xs hi
    unfold rowOk at this
    simp only [Bool.and_eq_true, decide_eq_true_eq] at this
    exact this.1
  · unfold labF
    cases e : xss[i]? with
    | none => simp
    | some xs =>
      have := h5 i xs e
      unfold rowOk at this
      simp only [Bool.and_eq_true, Bool.not_eq_true'] at this
      exact bigN_le this.2 k

def recJ (xss : List (List Nat)) : List Nat × List Int × Int :=
  if vldJ xss = true then ((reconS (labF xss) xss.length (len0 xss)).1, (reconS (labF xss) xss.length (len0 xss)).2, 0) else ([], [], 2)

/-- Verdicts, weights and an error, in memory. -/
def RetJ (w : World) (r : List Nat × List Int × Int) (e : Ending) (w' : World) : Prop :=
  ∃ a1 c1 a2 c2, e = .returned (.tuple #[.slice a1 r.1.length c1, .slice a2 r.2.1.length c2, .int .i64 r.2.2]) ∧ RdN w'.heap.size w' a1 r.1 ∧ Rd w'.heap.size w' a2 r.2.1 ∧ Below w.heap.size w w'

theorem voteL_lt (lab : Nat → Nat → Nat) (J K : Nat) (ws : List Int) : ∀ x ∈ voteL lab J K ws, x < 256 := by
  intro x hx
  unfold voteL at hx
  obtain ⟨k, _, rfl⟩ := List.mem_map.1 hx
  unfold voteF
  have := verd_mem (sumW lab (fun i => ws[i]?.getD 0) 1 k J) (sumW lab (fun i => ws[i]?.getD 0) 2 k J)
  omega
theorem weighL_bd (lab : Nat → Nat → Nat) {J K : Nat} (hK : K ≤ 1000) (vs : List Nat) (i : Nat) : -1000000 ≤ (weighL lab J K vs)[i]?.getD 0 ∧ (weighL lab J K vs)[i]?.getD 0 ≤ 1000000 := by
  unfold weighL
  rw [List.getElem?_map]
  cases e : (List.range J)[i]? with
  | none => simp
  | some j =>
    have := weighF_bd (lab := lab) (K := K) (fun k => vs[k]?.getD 0) j
    simp only [Option.map_some, Option.getD_some]
    omega
theorem ones_bd (J i : Nat) : -1000000 ≤ (List.replicate J (1 : Int))[i]?.getD 0 ∧ (List.replicate J (1 : Int))[i]?.getD 0 ≤ 1000000 := by
  rw [List.getElem?_replicate]
  split <;> simp

theorem RdN.later {W W' : World} {a : Option Addr} {xs : List Nat} (h : RdN W.heap.size W a xs) (hb : Below W.heap.size W W') : RdN W'.heap.size W' a xs := (h.below (Nat.le_refl _) hb).mono hb.size
theorem Rd.later {W W' : World} {a : Option Addr} {xs : List Int} (h : Rd W.heap.size W a xs) (hb : Below W.heap.size W W') : Rd W'.heap.size W' a xs := (h.below (Nat.le_refl _) hb).mono hb.size
theorem RdL.later {W W' : World} {a : Option Addr} {xss : List (List Nat)} (h : RdL W.heap.size W a xss) (hb : Below W.heap.size W W') : RdL W'.heap.size W' a xss := (h.below (Nat.le_refl _) hb).mono hb.size


end Go.Proofs.YtbfigbpjoaccdaaGreat

namespace Go.Proofs.YtbfigbpjoaccdaaGreat
open Go Go.RowKit Go.Shelf
set_option linter.unusedVariables false
set_option linter.unusedSimpArgs false

theorem row_lt {W : World} {base g n c : Nat} {e : TypeId} {size : Nat} {xs : List Value} (h : W.ownsRow base e size (.slice (some ⟨g, 0, none⟩) n c) n xs) : base ≤ g ∧ g < W.heap.size := by
  rcases h.2 with ⟨h1, _⟩ | ⟨g', cap, cur, h1, h0, h2, _⟩
  · cases h1
  · simp only [Value.slice.injEq, Option.some.injEq, Addr.mk.injEq, true_and, and_true] at h1
    rw [← h1.1] at h2 h0
    exact ⟨h0, (Array.getElem?_eq_some_iff.1 h2).1⟩
theorem row_ne {W : World} {base base' g g' n c n' c' : Nat} {e e' : TypeId} {size size' : Nat} {xs xs' : List Value} (h : W.ownsRow base e size (.slice (some ⟨g, 0, none⟩) n c) n xs) (h' : W.ownsRow base' e' size' (.slice (some ⟨g', 0, none⟩) n' c') n' xs') (hne : e ≠ e') : g ≠ g' := by
  rcases h.2 with ⟨h1, _⟩ | ⟨g1, cap, cur, h1, h0, h2, _⟩
  · cases h1
  rcases h'.2 with ⟨k1, _⟩ | ⟨g2, cap2, cur2, k1, k0, k2, _⟩
  · cases k1
  simp only [Value.slice.injEq, Option.some.injEq, Addr.mk.injEq, true_and, and_true] at h1 k1
  rw [← h1.1] at h2
  rw [← k1.1] at k2
  intro e0
  subst e0
  rw [h2] at k2
  simp only [Option.some.injEq, Obj.cells.injEq] at k2
  exact hne k2.2.1

/-- How many of the first k parts inspector i labelled l where the verdict is v. -/
def cntJ (lab : Nat → Nat → Nat) (vf : Nat → Nat) (i v l k : Nat) : Int := sumJ (fun q => if vf q = v ∧ lab i q = l then 1 else 0) k
def talJ (lab : Nat → Nat → Nat) (vf : Nat → Nat) (i k : Nat) : Array Value :=
  #[.int .i64 (cntJ lab vf i 0 0 k), .int .i64 (cntJ lab vf i 0 1 k), .int .i64 (cntJ lab vf i 0 2 k), .int .i64 (cntJ lab vf i 1 0 k), .int .i64 (cntJ lab vf i 1 1 k), .int .i64 (cntJ lab vf i 1 2 k),
    .int .i64 (cntJ lab vf i 2 0 k), .int .i64 (cntJ lab vf i 2 1 k), .int .i64 (cntJ lab vf i 2 2 k), .int .i64 (cntJ lab vf i 3 0 k), .int .i64 (cntJ lab vf i 3 1 k), .int .i64 (cntJ lab vf i 3 2 k)]
theorem talJ_zero (lab : Nat → Nat → Nat) (vf : Nat → Nat) (i : Nat) : talJ lab vf i 0 = #[.int .i64 0, .int .i64 0, .int .i64 0, .int .i64 0, .int .i64 0, .int .i64 0, .int .i64 0, .int .i64 0, .int .i64 0, .int .i64 0, .int .i64 0, .int .i64 0] := rfl
theorem talJ_cell (lab : Nat → Nat → Nat) (vf : Nat → Nat) (i k : Nat) {v l : Nat} (hv : v ≤ 3) (hl : l ≤ 2) : (talJ lab vf i k)[v * 3 + l]? = some (.int .i64 (cntJ lab vf i v l k)) := by
  have h1 : v = 0 ∨ v = 1 ∨ v = 2 ∨ v = 3 := by omega
  have h2 : l = 0 ∨ l = 1 ∨ l = 2 := by omega
  rcases h1 with rfl | rfl | rfl | rfl <;> rcases h2 with rfl | rfl | rfl <;> rfl
theorem talJ_step (lab : Nat → Nat → Nat) (vf : Nat → Nat) (i k : Nat) {v l : Nat} (hv : v ≤ 3) (hl : l ≤ 2) (e1 : vf k = v) (e2 : lab i k = l) : (talJ lab vf i k).setIfInBounds (v * 3 + l) (.int .i64 (cntJ lab vf i v l k + 1)) = talJ lab vf i (k + 1) := by
  have h1 : v = 0 ∨ v = 1 ∨ v = 2 ∨ v = 3 := by omega
  have h2 : l = 0 ∨ l = 1 ∨ l = 2 := by omega
  rcases h1 with rfl | rfl | rfl | rfl <;> rcases h2 with rfl | rfl | rfl <;> simp [talJ, cntJ, sumJ, e1, e2]
theorem cntJ_bd (lab : Nat → Nat → Nat) (vf : Nat → Nat) (i v l k : Nat) : -(k : Int) ≤ cntJ lab vf i v l k ∧ cntJ lab vf i v l k ≤ k := by
  have := sumJ_bd (f := fun q => if vf q = v ∧ lab i q = l then (1 : Int) else 0) (B := 1) (n := k) fun q _ => by split <;> omega
  unfold cntJ
  omega
theorem cntJ_net (lab : Nat → Nat → Nat) (vf : Nat → Nat) (i : Nat) : ∀ k : Nat, (∀ q, q < k → (1 ≤ vf q ∧ vf q ≤ 3) ∧ lab i q ≤ 2) → cntJ lab vf i 1 1 k + cntJ lab vf i 2 2 k - cntJ lab vf i 1 2 k - cntJ lab vf i 2 1 k = netJ lab vf i k
  | 0, _ => rfl
  | k + 1, h => by
    have ih := cntJ_net lab vf i k fun q hq => h q (by omega)
    obtain ⟨⟨h1, h2⟩, h3⟩ := h k (by omega)
    have hs : netJ lab vf i (k + 1) = netJ lab vf i k + scoreJ (vf k) (lab i k) := rfl
    have hc : ∀ v l, cntJ lab vf i v l (k + 1) = cntJ lab vf i v l k + (if vf k = v ∧ lab i k = l then 1 else 0) := fun v l => rfl
    rw [hs, hc, hc, hc, hc, ← ih]
    have e1 : vf k = 1 ∨ vf k = 2 ∨ vf k = 3 := by omega
    have e2 : lab i k = 0 ∨ lab i k = 1 ∨ lab i k = 2 := by omega
    rcases e1 with e1 | e1 | e1 <;> rcases e2 with e2 | e2 | e2 <;> simp [e1, e2, scoreJ] <;> omega

theorem voteL_13 (lab : Nat → Nat → Nat) (J K : Nat) (ws : List Int) (k : Nat) (hk : k < K) : 1 ≤ (voteL lab J K ws)[k]?.getD 0 ∧ (voteL lab J K ws)[k]?.getD 0 ≤ 3 := by
  unfold voteL
  rw [List.getElem?_map, List.getElem?_range hk]
  have := verd_mem (sumW lab (fun i => ws[i]?.getD 0) 1 k J) (sumW lab (fun i => ws[i]?.getD 0) 2 k J)
  simp only [Option.map_some, Option.getD_some, voteF]
  omega

/-- 'within' of one number in a block. -/
theorem jwithin1 (lo hi x : Int) (v : Bool) (hv : (decide (lo ≤ x) && decide (x ≤ hi)) = v) (b c : Nat) (w : World) (t : TypeId) (h : Blk w b t #[.int .i64 x]) :
    Calls Tryz.prog 48 #[.int .i64 lo, .int .i64 hi, .slice (some ⟨b, 0, none⟩) 1 c] w fun e w' => e = .returned (.bool v) ∧ w = w' := by
  have h' := jwithin_any lo hi (some ⟨b, 0, none⟩) c [x] w (by simp) (.inr ⟨b, 0, rfl, h.lt, fun i hi => by
    have : i = 0 := by simp at hi; omega
    subst this
    exact h.cell rfl⟩)
  refine h'.mono fun e w' ⟨he, hw⟩ => ⟨he.trans (ret_bool (by rw [← hv]; simp [allIn])), hw⟩


/-- Verdicts, weights and an error; the lists are the call's own. -/
def RetJo (w : World) (r : List Nat × List Int × Int) (e : Ending) (w' : World) : Prop :=
  ∃ a1 c1 a2 c2, e = .returned (.tuple #[.slice a1 r.1.length c1, .slice a2 r.2.1.length c2, .int .i64 r.2.2]) ∧ w'.ownsRow w.heap.size 5 1 (.slice a1 r.1.length c1) r.1.length (r.1.map vu8) ∧
    w'.ownsRow w.heap.size 3 1 (.slice a2 r.2.1.length c2) r.2.1.length (r.2.1.map (Value.int .i64)) ∧ Below w.heap.size w w'

set_option maxRecDepth 100000 in
set_option maxHeartbeats 8000000 in
theorem Reconcile_own (xss : List (List Nat)) (n : Nat) (hn : xss.length = n) (a : Option Addr) (c : Nat) (w : World) (hr : RdL w.heap.size w a xss) :
    Calls Tryz.prog 28 #[.slice a n c] w (RetJo w (recJ xss)) := by
  obtain ⟨i0, hi, hz0, hz1, hz2⟩ := info_parts jinfo_int
  have hB1 : Below w.heap.size w (w.alloc (.cells #[.int .i64 n] 3)) := jb_al (Below.refl _ _) _
  have k1 := Blk.new w 3 #[.int .i64 n]
  have bad : vldJ xss = false → ∀ W : World, Below w.heap.size w W → RetJo w (recJ xss) (.returned (.tuple #[.slice none 0 0, .slice none 0 0, .int .i64 2])) W := fun h W hb => by
    have e : recJ xss = ([], [], 2) := by unfold recJ; rw [h]; rfl
    rw [e]
    exact ⟨none, 0, none, 0, rfl, World.ownsRow_nil _ _ _ _, World.ownsRow_nil _ _ _ _, hb⟩
  have badH := Lib.hid bad
  have hnH := Lib.hid hn
  clear hn bad
  by_cases hn18 : 1 ≤ n ∧ n ≤ 8
  case neg =>
    have hv : vldJ xss = false := by
      unfold vldJ
      rw [hnH.out]
      by_cases h1 : 1 ≤ n
      · rw [show decide (n ≤ 8) = false by simp; omega]; simp
      · rw [show decide (1 ≤ n) = false by simp; omega]; simp
    have hw1 := jwithin1 1 8 (n : Int) false (by simp; omega) w.heap.size 1 _ 3 k1
    have hvH := Lib.hid hv
    clear hv
    go_enter Tryz.func28, Tryz.ntmps28
    go_wp2_with (go_at_call 48; refine hw1.mono ?_; rintro e w' ⟨rfl, rfl⟩)
    exact bodyPost_ret (v := .tuple #[.slice none 0 0, .slice none 0 0, .int .i64 2]) (by simp [results, Tryz.results28, go_sem]) rfl (badH.out hvH.out _ hB1)
  obtain ⟨n1, n8⟩ := hn18
  obtain ⟨xs0, hxs0⟩ : ∃ x, xss[0]? = some x := ⟨_, List.getElem?_eq_getElem (by have := hnH.out; omega)⟩
  obtain ⟨b, o, rfl, hb, a0, c0, hc0, hr0⟩ := hr.at hxs0
  rw [show o + 0 = o from rfl] at hc0
  obtain ⟨l0, hl0⟩ : ∃ l, xs0.length = l := ⟨_, rfl⟩
  rw [hl0] at hc0
  have hlen0 : len0 xss = l0 := by unfold len0; rw [hxs0]; exact hl0
  have hrH := Lib.hid hr
  have hlH := Lib.hid hlen0
  have hw1 := jwithin1 1 8 (n : Int) true (by simp; omega) w.heap.size 1 _ 3 k1
  have hc0' := (hB1.cell (p := ⟨b, o, none⟩) hb).trans hc0
  clear hr hlen0 hr0 hl0 hxs0
  by_cases h100 : 100 < l0
  · have hvH := Lib.hid (show vldJ xss = false by
      unfold vldJ; rw [hlH.out, show decide (l0 ≤ 100) = false by simp; omega]; simp)
    go_enter Tryz.func28, Tryz.ntmps28
    go_wp2_with (go_at_call 48; refine hw1.mono ?_; rintro e w' ⟨rfl, rfl⟩)
    exact bodyPost_ret (v := .tuple #[.slice none 0 0, .slice none 0 0, .int .i64 2]) (by simp [results, Tryz.results28, go_sem]) rfl (badH.out hvH.out _ hB1)
  have hvf := Lib.hid (show xss.all (rowOk l0) = false → vldJ xss = false from fun h => by
    unfold vldJ; rw [hlH.out, h]; simp)
  have hvt := Lib.hid (show xss.all (rowOk l0) = true → vldJ xss = true from fun h => by
    unfold vldJ; rw [hlH.out, h, hnH.out]; simp; omega)
  obtain ⟨W1, hW1⟩ : ∃ W, w.alloc (.cells #[.int .i64 n] 3) = W := ⟨_, rfl⟩
  rw [hW1] at hB1 hc0' k1 hw1
  go_enter Tryz.func28, Tryz.ntmps28
  go_wp2_with (go_at_call 48; refine hw1.mono ?_; rintro e w' ⟨rfl, rfl⟩)
  clear hW1 hw1 hc0
  go_loop [29] (fun i => ∃ m : Nat, m ≤ n ∧ i = .int .i64 (m : Int) ∧ Hid ((xss.take m).all (rowOk l0) = true)) (fun i => n - (intOf i).toNat)
  case atStart => exact ⟨0, Nat.zero_le _, rfl, Lib.hid (by simp)⟩
  case round =>
    obtain ⟨m, hm, rfl, hall⟩ := hrel
    by_cases hmt : m < n
    · obtain ⟨xs, hxs⟩ : ∃ x, xss[m]? = some x := ⟨_, List.getElem?_eq_getElem (by have := hnH.out; omega)⟩
      obtain ⟨b', o', hbo, _, a1, c1, hc1, hr1⟩ := hrH.out.at hxs
      simp only [Option.some.injEq, Addr.mk.injEq, and_true] at hbo
      obtain ⟨rfl, rfl⟩ := hbo
      have hc1' := (hB1.cell (p := ⟨b, o + m, none⟩) hb).trans hc1
      obtain ⟨lx, hlx⟩ : ∃ l, xs.length = l := ⟨_, rfl⟩
      rw [hlx] at hc1'
      by_cases e : lx = l0
      · subst e
        have hcf := ContainsFunc_any a1 c1 lx xs hlx (by omega) W1 ((hr1.below (Nat.le_refl _) hB1).mono hB1.size)
        obtain ⟨bg, hbg⟩ : ∃ v, bigN xs = v := ⟨_, rfl⟩
        rw [hbg] at hcf
        have hlxH := Lib.hid hlx
        have hxsH := Lib.hid hxs
        have hbgH := Lib.hid hbg
        clear hc1 hlx hxs hbg
        cases bg with
        | true =>
          have hvH := Lib.hid (hvf.out (all_hit hxsH.out (by unfold rowOk; rw [hbgH.out]; simp)))
          go_wp2_with (go_at_call 65; refine hcf.mono ?_; rintro e w' ⟨rfl, rfl⟩)
          exact bodyPost_ret (v := .tuple #[.slice none 0 0, .slice none 0 0, .int .i64 2]) (by simp [results, Tryz.results28, go_sem]) rfl (badH.out hvH.out _ hB1)
        | false =>
          have hnx := Lib.hid (all_succ hxsH.out hall.out (by unfold rowOk; rw [hbgH.out, hlxH.out]; simp))
          go_wp2_with (go_at_call 65; refine hcf.mono ?_; rintro e w' ⟨rfl, rfl⟩)
          go_round
          case rel => exact ⟨m + 1, by omega, by go_num, hnx⟩
          case measure => simp [intOf]; omega
      · have hvH := Lib.hid (hvf.out (all_hit hxs (by unfold rowOk; rw [hlx, show decide (lx = l0) = false by simp [e]]; rfl)))
        have ed : ((lx : Int) == (l0 : Int)) = false := by simp; omega
        have ed2 : ¬ (lx : Int) = (l0 : Int) := by omega
        clear hc1 hlx hxs
        go_wp2_with fail
        exact bodyPost_ret (v := .tuple #[.slice none 0 0, .slice none 0 0, .int .i64 2]) (by simp [results, Tryz.results28, go_sem]) rfl (badH.out hvH.out _ hB1)
    · have hvt2 := hvt.out (by have h := hall.out; rw [List.take_of_length_le (by have := hnH.out; omega)] at h; exact h)
      have hrc : recJ xss = ((reconS (labF xss) n l0).1, (reconS (labF xss) n l0).2, 0) := by unfold recJ; rw [if_pos hvt2, hnH.out, hlH.out]
      obtain ⟨_, _, _, hlen, hlab⟩ := vldJ_true hvt2
      rw [hlH.out] at hlen
      have hrcH := Lib.hid hrc
      have hlenH := Lib.hid hlen
      have hlabH := Lib.hid hlab
      have hzH := Lib.hid (jmade_int n)
      clear hvt2 hrc hlen hlab hvf hvt badH hall hc0' k1
      have hB2 := jb_al (w := W1) hB1 (.cells #[.int .i64 1] 3)
      have k2 := Blk.new W1 3 #[.int .i64 1]
      obtain ⟨W2, hW2⟩ : ∃ W, W1.alloc (.cells #[.int .i64 1] 3) = W := ⟨_, rfl⟩
      rw [hW2] at hB2 k2
      have hrep := RepeatI_any 1 n n1 (by omega) W1.heap.size 0 1 W2 k2.lt (k2.cell (i := 0) rfl)
      have hvote := fun W aw cw h1 h2 => vote_any xss n l0 hnH.out (by omega) (by omega) (by omega) hlenH.out hlabH.out (List.replicate n 1) (by simp) (ones_bd n) (some ⟨b, o, none⟩) aw c cw W h1 h2
      have h13 := voteL_13 (labF xss) n l0 (List.replicate n 1)
      have hvlt := voteL_lt (labF xss) n l0 (List.replicate n 1)
      have hrc0 : reconL (labF xss) n l0 (10 - 0) (voteL (labF xss) n l0 (List.replicate n 1)) (List.replicate n 1) = reconS (labF xss) n l0 := rfl
      have hvl0 : (voteL (labF xss) n l0 (List.replicate n 1)).length = l0 := by simp [voteL]
      obtain ⟨vs0, hvs0⟩ : ∃ L, voteL (labF xss) n l0 (List.replicate n 1) = L := ⟨_, rfl⟩
      rw [hvs0] at hvote h13 hvlt hrc0 hvl0
      have hvoteH := Lib.hid hvote
      have h13H := Lib.hid h13
      have hvltH := Lib.hid hvlt
      have hrc0H := Lib.hid hrc0
      have hvl0H := Lib.hid hvl0
      clear hvote h13 hvlt hrc0 hvs0 hvl0
      go_wp2_with (first
        | (go_at_call 68; refine hrep.mono ?_; rintro e w3 ⟨rfl, row3, hb3⟩; have hB3 := hB2.trans (hb3.mono hB2.size); rw [show List.replicate n (Value.int IntKind.i64 1) = (List.replicate n (1 : Int)).map (Value.int .i64) by simp] at row3; have rd3 := rowI_rd (by simp) row3; clear row3 hrep)
        | (go_at_call 67; refine (hvoteH.out _ _ _ ((hrH.out.below (Nat.le_refl _) hB3).mono hB3.size) rd3).mono ?_; rintro e w4 ⟨gv, rfl, row4, hb4⟩; have hB4 := hB3.trans (hb4.mono hB3.size); replace row4 := jrow_weaken row4 hB3.size; clear rd3)
        | (at_make; refine wpList_make_full _ rfl _ _ 25 rfl w4.heap.size 3 i0 (.int .i64 0) 1 Tryz.underlying25 hi hz0 hz1 .i64 .i64 (n : Int) (n : Int) n rfl rfl (by simp) (by simp) (by rw [hz2]; omega) (by unfold maxLen; omega) (by simp) ?_; intro w5 row5 hg5; rw [hzH.out] at row5; have hb5 := (Below.refl _ w4).grown hg5 (Nat.le_refl _) (fun k e => by cases e); have hB5 := hB4.trans (hb5.mono hB4.size); replace row5 := jrow_weaken row5 hB4.size; have rowv5 := row_below row4 hb5; clear row4 hg5))
      obtain ⟨G, hG⟩ : ∃ G, w4.heap.size = G := ⟨_, rfl⟩
      rw [hG] at row5 ⊢
      clear hb5 hG hB4 hb4 hB3 hb3 hzH hB2 k2 hW2
      clear w4
      clear w3
      go_loopw [7, 54] (fun y i wr => ∃ (r : Nat) (vs : List Nat) (ws : List Int) (gv : Nat), r ≤ 10 ∧ i = .int .i64 (r : Int) ∧ y = .slice (some ⟨gv, 0, none⟩) l0 l0 ∧ vs.length = l0 ∧ ws.length = n ∧ Hid (∀ k, k < l0 → 1 ≤ vs[k]?.getD 0 ∧ vs[k]?.getD 0 ≤ 3) ∧ Hid (∀ v ∈ vs, v < 256) ∧ wr.ownsRow w.heap.size 5 1 (.slice (some ⟨gv, 0, none⟩) l0 l0) l0 (vs.map vu8) ∧ wr.ownsRow w.heap.size 3 1 (.slice (some ⟨G, 0, none⟩) n n) n (ws.map (Value.int .i64)) ∧ Hid (reconL (labF xss) n l0 (10 - r) vs ws = reconS (labF xss) n l0) ∧ Below w.heap.size w wr) (fun _ i _ => 10 - (intOf i).toNat)
      case atStart => exact ⟨0, vs0, List.replicate n 0, gv, Nat.zero_le _, rfl, rfl, hvl0H.out, by simp, h13H, hvltH, rowv5, row5, Lib.hid (show _ from hrc0H.out), hB5⟩
      case round =>
        clear rowv5 row5 hB5 hvl0H hrc0H hvltH h13H hvoteH
        obtain ⟨r, vs, ws, gv, hr10, rfl, rfl, hvl, hwl, h13, hvlt, rowv, roww, hrc, hB⟩ := hrel
        by_cases hrt : r < 10
        · obtain ⟨wF, hwF⟩ : ∃ f, weighF (labF xss) (fun k => vs[k]?.getD 0) l0 = f := ⟨_, rfl⟩
          rw [← mixJ_zero wF ws] at roww
          have hrd : decide ((r : Int) < 10) = true := by simp; omega
          have hri : (r : Int) < 10 := by omega
          go_wp2_with fail
          go_loopw [58] (fun i wr => ∃ m : Nat, m ≤ n ∧ i = .int .i64 (m : Int) ∧ wr.ownsRow w.heap.size 5 1 (.slice (some ⟨gv, 0, none⟩) l0 l0) l0 (vs.map vu8) ∧ wr.ownsRow w.heap.size 3 1 (.slice (some ⟨G, 0, none⟩) n n) n ((mixJ wF ws m).map (Value.int .i64)) ∧ Below w.heap.size w wr) (fun i _ => n - (intOf i).toNat)
          case atStart => exact ⟨0, Nat.zero_le _, rfl, rowv, roww, hB⟩
          case round =>
            clear rowv roww hB
            obtain ⟨q, hq, rfl, rowv, roww, hB⟩ := hrel
            by_cases hqt : q < n
            · obtain ⟨xs, hxs⟩ : ∃ x, xss[q]? = some x := ⟨_, List.getElem?_eq_getElem (by have := hnH.out; omega)⟩
              obtain ⟨b', o', hbo, _, a1, c1, hc1, hr1⟩ := hrH.out.at hxs
              simp only [Option.some.injEq, Addr.mk.injEq, and_true] at hbo
              obtain ⟨rfl, rfl⟩ := hbo
              have hxl := hlenH.out q xs hxs
              rw [hxl] at hc1
              have hc1' := (hB.cell (p := ⟨b, o + q, none⟩) hb).trans hc1
              have hlkH := Lib.hid (show ∀ k, labF xss q k = xs[k]?.getD 0 from fun k => by unfold labF; rw [hxs]; rfl)
              have hxlH := Lib.hid hxl
              clear hxl hxs hc1
              have hnew := Blk.new wr 126 (talJ (labF xss) (fun k => vs[k]?.getD 0) q 0)
              obtain ⟨V, hV⟩ : ∃ V, wr.alloc (.cells (talJ (labF xss) (fun k => vs[k]?.getD 0) q 0) 126) = V := ⟨_, rfl⟩
              have hBV : Below w.heap.size w V := hV ▸ jb_al hB _
              have hgV : Below wr.heap.size wr V := hV ▸ jb_al (Below.refl _ _) _
              have rowvV := row_below rowv hgV
              have rowwV := row_below roww hgV
              rw [hV] at hnew
              obtain ⟨_, l1⟩ := row_lt rowv
              obtain ⟨_, l2⟩ := row_lt roww
              have l3 : w.heap.size ≤ wr.heap.size := hB.size
              rw [talJ_zero] at hV
              clear rowv roww hB hgV
              go_wp2_with fail
              obtain ⟨B1, hB1e⟩ : ∃ n, wr.heap.size = n := ⟨_, rfl⟩
              rw [hB1e] at hnew l1 l2 l3 ⊢
              clear hV hB1e hc1'
              clear wr
              go_loopw [65] (fun i wr => ∃ k : Nat, k ≤ l0 ∧ i = .int .i64 (k : Int) ∧ Blk wr B1 126 (talJ (labF xss) (fun k => vs[k]?.getD 0) q k) ∧ wr.ownsRow w.heap.size 5 1 (.slice (some ⟨gv, 0, none⟩) l0 l0) l0 (vs.map vu8) ∧ wr.ownsRow w.heap.size 3 1 (.slice (some ⟨G, 0, none⟩) n n) n ((mixJ wF ws q).map (Value.int .i64)) ∧ Below w.heap.size w wr) (fun i _ => l0 - (intOf i).toNat)
              case atStart => exact ⟨0, Nat.zero_le _, rfl, hnew, rowvV, rowwV, hBV⟩
              case round =>
                clear hnew rowvV rowwV hBV
                obtain ⟨k, hk, rfl, hbk, rowv, roww, hB⟩ := hrel
                by_cases hkt : k < l0
                · rcases hr1 with h0 | ⟨b1, o1, rfl, hb1, hcl⟩
                  · exfalso; have := hxlH.out; rw [h0] at this; simp at this; omega
                  have hcl1 := (hB.cell (p := ⟨b1, o1 + k, none⟩) hb1).trans (hcl k (by have := hxlH.out; omega))
                  rw [← hlkH.out k] at hcl1
                  have hcv1 := rowv.cellAt k (by rw [Nat.mul_one]; exact hkt)
                  rw [List.getElem?_map, List.getElem?_eq_getElem (by rw [hvl]; exact hkt)] at hcv1
                  have hvk : vs[k]?.getD 0 = vs[k]'(by rw [hvl]; exact hkt) := by rw [List.getElem?_eq_getElem (by rw [hvl]; exact hkt)]; rfl
                  simp only [Option.map_some] at hcv1
                  rw [← hvk] at hcv1
                  obtain ⟨l, hl⟩ : ∃ l, labF xss q k = l := ⟨_, rfl⟩
                  obtain ⟨v, hv⟩ : ∃ v, vs[k]?.getD 0 = v := ⟨_, rfl⟩
                  have hl2 : l ≤ 2 := hl ▸ hlabH.out q k
                  have hv3 : v ≤ 3 := hv ▸ (h13.out k hkt).2
                  rw [hl] at hcl1
                  rw [hv] at hcv1
                  change wr.cell? ⟨gv, k, none⟩ = some (.int .u8 (v : Int)) at hcv1
                  have hct := hbk.cell (talJ_cell (labF xss) (fun k => vs[k]?.getD 0) q k hv3 hl2)
                  have hstepH := Lib.hid (talJ_step (labF xss) (fun k => vs[k]?.getD 0) q k hv3 hl2 hv hl)
                  have hfr := hbk.frozen (v * 3 + l)
                  obtain ⟨cb1, cb2⟩ := cntJ_bd (labF xss) (fun k => vs[k]?.getD 0) q v l k
                  obtain ⟨s, hs⟩ : ∃ s, cntJ (labF xss) (fun k => vs[k]?.getD 0) q v l k = s := ⟨_, rfl⟩
                  rw [hs] at hct hstepH cb1 cb2
                  have hS0 : wr.drew.heap = wr.heap := rfl
                  clear hcl hvk hl hv hs
                  go_wp2_with fail
                  refine plain_region (fun W' => W'.heap = wr.heap) 11 12 (by kernel_rfl) rfl ?_
                  simp only [Array.replicate_succ, Array.replicate_zero, List.push_toArray, List.nil_append, List.cons_append]
                  refine take_op 0 (v := ?rv0) rfl (by kernel_rfl) (fun _ _ _ h => h) (by rfl) hS0 (fun w' hS' => ?ry0) ?rz0
                  case ry0 =>
                    go_simp
                    rfl
                  simp only [List.setIfInBounds_toArray, List.set_cons_zero, List.set_cons_succ]
                  refine take_op 1 (v := ?rv1) rfl (by kernel_rfl) (fun _ _ _ h => h) (by rfl) hS0 (fun w' hS' => ?ry1) ?rz1
                  case ry1 =>
                    go_simp
                    rfl
                  simp only [List.setIfInBounds_toArray, List.set_cons_zero, List.set_cons_succ]
                  refine take_op 2 (v := ?rv2) rfl (by kernel_rfl) (fun _ _ _ h => h) (by rfl) hS0 (fun w' hS' => ?ry2) ?rz2
                  case ry2 =>
                    go_simp
                    rfl
                  simp only [List.setIfInBounds_toArray, List.set_cons_zero, List.set_cons_succ]
                  refine take_op 3 (v := ?rv3) rfl (by kernel_rfl) (fun _ _ _ h => h) (by rfl) hS0 (fun w' hS' => ?ry3) ?rz3
                  case ry3 =>
                    go_simp
                    try go_ints
                    first
                    | rfl
                    | (rw [if_pos (by omega)]; done)
                    | rw [if_pos ⟨by omega, by omega⟩]
                  simp only [List.setIfInBounds_toArray, List.set_cons_zero, List.set_cons_succ]
                  refine take_op 4 (v := ?rv4) rfl (by kernel_rfl) (fun _ _ _ h => h) (by rfl) hS0 (fun w' hS' => ?ry4) ?rz4
                  case ry4 =>
                    have e1 := (World.cell?_of_block (w := wr) (w' := w') (a := ⟨b1, o1 + k, none⟩) (by rw [hS'])).trans hcl1
                    have e3 := (World.cell?_of_block (w := wr) (w' := w') (a := ⟨B1, v * 3 + l, none⟩) (by rw [hS'])).trans hct
                    clear hS'
                    go_simp
                    rfl
                  simp only [List.setIfInBounds_toArray, List.set_cons_zero, List.set_cons_succ]
                  refine take_op 5 (v := ?rv5) rfl (by kernel_rfl) (fun _ _ _ h => h) (by rfl) hS0 (fun w' hS' => ?ry5) ?rz5
                  case ry5 =>
                    go_simp
                    try go_ints
                    first
                    | rfl
                    | (rw [if_pos (by omega)]; done)
                    | rw [if_pos ⟨by omega, by omega⟩]
                  simp only [List.setIfInBounds_toArray, List.set_cons_zero, List.set_cons_succ]
                  refine take_op 6 (v := ?rv6) rfl (by kernel_rfl) (fun _ _ _ h => h) (by rfl) hS0 (fun w' hS' => ?ry6) ?rz6
                  case ry6 =>
                    go_simp
                    try go_ints
                    first
                    | rfl
                    | (rw [if_pos (by omega)]; done)
                    | rw [if_pos ⟨by omega, by omega⟩]
                  simp only [List.setIfInBounds_toArray, List.set_cons_zero, List.set_cons_succ]
                  refine take_op 7 (v := ?rv7) rfl (by kernel_rfl) (fun _ _ _ h => h) (by rfl) hS0 (fun w' hS' => ?ry7) ?rz7
                  case ry7 =>
                    have e1 := (World.cell?_of_block (w := wr) (w' := w') (a := ⟨b1, o1 + k, none⟩) (by rw [hS'])).trans hcl1
                    have e3 := (World.cell?_of_block (w := wr) (w' := w') (a := ⟨B1, v * 3 + l, none⟩) (by rw [hS'])).trans hct
                    clear hS'
                    go_simp
                    rfl
                  simp only [List.setIfInBounds_toArray, List.set_cons_zero, List.set_cons_succ]
                  refine take_op 8 (v := ?rv8) rfl (by kernel_rfl) (fun _ _ _ h => h) (by rfl) hS0 (fun w' hS' => ?ry8) ?rz8
                  case ry8 =>
                    go_simp
                    try go_ints
                    rfl
                  simp only [List.setIfInBounds_toArray, List.set_cons_zero, List.set_cons_succ]
                  refine step_op 9 (by kernel_rfl) rfl (fun K hK => ?_)
                  rw [if_pos (by rfl)]
                  go_simp
                  rw [if_pos (by omega)]
                  refine hK.out _ _ (fun h => hS0) ?_
                  clear hK K
                  try simp only [Act.put, List.setIfInBounds_toArray, List.set_cons_zero, List.set_cons_succ]
                  refine take_op 10 (v := ?rv10) rfl (by kernel_rfl) (fun _ _ _ h => h) (by rfl) hS0 (fun w' hS' => ?ry10) ?rz10
                  case ry10 =>
                    go_simp
                    try go_ints
                    first
                    | rfl
                    | (rw [if_pos (by omega)]; done)
                    | rw [if_pos ⟨by omega, by omega⟩]
                  simp only [List.setIfInBounds_toArray, List.set_cons_zero, List.set_cons_succ]
                  refine step_op 11 (by kernel_rfl) rfl (fun K hK => ?_)
                  have hfr2 : wr.drew.frozen? ⟨B1, v * 3 + l, none⟩ = false := hfr
                  have hct2 : wr.drew.cell? ⟨B1, v * 3 + l, none⟩ = some (.int .i64 s) := hct
                  rw [if_pos (by rfl)]
                  go_simp
                  refine hK.out _ _ (fun h => absurd h (by omega)) ?_
                  clear hK K
                  try simp only [Act.put, List.setIfInBounds_toArray, List.set_cons_zero, List.set_cons_succ]
                  refine done_ops (by kernel_rfl) ?_
                  go_wp2_with fail
                  go_roundw
                  case rel =>
                    have t1 : Blk wr.drew B1 126 (talJ (labF xss) (fun k => vs[k]?.getD 0) q k) := hbk
                    have t2 := t1.set (v * 3 + l) (.int .i64 (s + 1))
                    rw [hstepH.out] at t2
                    exact ⟨k + 1, by omega, by go_num, t2, row_setCell (W := wr.drew) (a := ⟨B1, v * 3 + l, none⟩) rowv (by simp [Value.ownBlock]; omega) _, row_setCell (W := wr.drew) (a := ⟨B1, v * 3 + l, none⟩) roww (by simp [Value.ownBlock]; omega) _, (hB.drew).setCell (p := ⟨B1, v * 3 + l, none⟩) l3 _⟩
                  case measure => simp [intOf]; omega
                · have hkl : k = l0 := by omega
                  subst hkl
                  have hnet := cntJ_net (labF xss) (fun j => vs[j]?.getD 0) q k (fun j hj => ⟨h13.out j hj, hlabH.out q j⟩)
                  obtain ⟨p1, p2⟩ := cntJ_bd (labF xss) (fun j => vs[j]?.getD 0) q 1 1 k
                  obtain ⟨p3, p4⟩ := cntJ_bd (labF xss) (fun j => vs[j]?.getD 0) q 2 2 k
                  obtain ⟨p5, p6⟩ := cntJ_bd (labF xss) (fun j => vs[j]?.getD 0) q 1 2 k
                  obtain ⟨p7, p8⟩ := cntJ_bd (labF xss) (fun j => vs[j]?.getD 0) q 2 1 k
                  have d4 := hbk.cell (i := 4) (talJ_cell (labF xss) (fun j => vs[j]?.getD 0) q k (v := 1) (l := 1) (by omega) (by omega))
                  have d8 := hbk.cell (i := 8) (talJ_cell (labF xss) (fun j => vs[j]?.getD 0) q k (v := 2) (l := 2) (by omega) (by omega))
                  have d5 := hbk.cell (i := 5) (talJ_cell (labF xss) (fun j => vs[j]?.getD 0) q k (v := 1) (l := 2) (by omega) (by omega))
                  have d7 := hbk.cell (i := 7) (talJ_cell (labF xss) (fun j => vs[j]?.getD 0) q k (v := 2) (l := 1) (by omega) (by omega))
                  obtain ⟨x11, e11⟩ : ∃ x, cntJ (labF xss) (fun j => vs[j]?.getD 0) q 1 1 k = x := ⟨_, rfl⟩
                  obtain ⟨x22, e22⟩ : ∃ x, cntJ (labF xss) (fun j => vs[j]?.getD 0) q 2 2 k = x := ⟨_, rfl⟩
                  obtain ⟨x12, e12⟩ : ∃ x, cntJ (labF xss) (fun j => vs[j]?.getD 0) q 1 2 k = x := ⟨_, rfl⟩
                  obtain ⟨x21, e21⟩ : ∃ x, cntJ (labF xss) (fun j => vs[j]?.getD 0) q 2 1 k = x := ⟨_, rfl⟩
                  rw [e11] at hnet d4 p1 p2
                  rw [e22] at hnet d8 p3 p4
                  rw [e12] at hnet d5 p5 p6
                  rw [e21] at hnet d7 p7 p8
                  obtain ⟨mx, hmx⟩ : ∃ x, max 0 (x11 + x22 - x12 - x21) = x := ⟨_, rfl⟩
                  have hwk : wF q = mx := by
                    rw [← hwF, ← hmx, hnet]
                    unfold weighF
                    exact Int.max_comm _ _
                  have hst := (roww.stored q (.int .i64 mx)).1
                  rw [map_set_i, ← hwk, mixJ_set wF ws (by rw [hwl]; exact hqt), hwk] at hst
                  have hfr := roww.frozenAt q
                  have hcell := roww.cellAt q (by rw [Nat.mul_one]; exact hqt)
                  rw [List.getElem?_map, List.getElem?_eq_getElem (by rw [mixJ_length, hwl]; exact hqt)] at hcell
                  simp only [Option.map_some] at hcell
                  obtain ⟨y, hy⟩ : ∃ y, (mixJ wF ws q)[q]'(by rw [mixJ_length, hwl]; exact hqt) = y := ⟨_, rfl⟩
                  rw [hy] at hcell
                  change wr.cell? ⟨G, q, none⟩ = some (.int .i64 y) at hcell
                  have hstH := Lib.hid hst
                  have hneH := Lib.hid (row_ne roww rowv (by decide))
                  have hGw := (row_lt roww).1
                  clear hst hnet e11 e22 e12 e21 hwk hy
                  go_wp2_with fail
                  go_roundw
                  case rel => exact ⟨q + 1, by omega, by go_num, row_setCell (a := ⟨G, q, none⟩) rowv (by simp [Value.ownBlock]; exact hneH.out) _, hstH.out, hB.setCell (p := ⟨G, q, none⟩) hGw _⟩
                  case measure => simp [intOf]; omega
            · have hqn : q = n := by omega
              subst hqn
              rw [mixJ_all wF ws hwl, ← hwF] at roww
              have hwlen : (weighL (labF xss) q l0 vs).length = q := by simp [weighL]
              have hwb := weighL_bd (labF xss) (J := q) (K := l0) (by omega) vs
              change wr.ownsRow w.heap.size 3 1 (.slice (some ⟨G, 0, none⟩) q q) q ((weighL (labF xss) q l0 vs).map (Value.int .i64)) at roww
              have hvlen : (voteL (labF xss) q l0 (weighL (labF xss) q l0 vs)).length = l0 := by simp [voteL]
              have hvl13 := voteL_13 (labF xss) q l0 (weighL (labF xss) q l0 vs)
              have hvl256 := voteL_lt (labF xss) q l0 (weighL (labF xss) q l0 vs)
              have hvote := vote_any xss q l0 hnH.out (by omega) (by omega) (by omega) hlenH.out hlabH.out (weighL (labF xss) q l0 vs) hwlen hwb (some ⟨b, o, none⟩) (some ⟨G, 0, none⟩) c q wr ((hrH.out.below (Nat.le_refl _) hB).mono hB.size) (rowI_rd hwlen roww)
              have hstep : reconL (labF xss) q l0 (10 - r) vs ws = if voteL (labF xss) q l0 (weighL (labF xss) q l0 vs) = vs then (vs, weighL (labF xss) q l0 vs) else reconL (labF xss) q l0 (10 - (r + 1)) (voteL (labF xss) q l0 (weighL (labF xss) q l0 vs)) (weighL (labF xss) q l0 vs) := by
                rw [show 10 - r = (10 - (r + 1)) + 1 by omega, reconL]
              rw [hrc.out] at hstep
              obtain ⟨ws1, hws1⟩ : ∃ L, weighL (labF xss) q l0 vs = L := ⟨_, rfl⟩
              rw [hws1] at roww hwlen hvlen hvl13 hvl256 hvote hstep
              obtain ⟨vs1, hvs1⟩ : ∃ L, voteL (labF xss) q l0 ws1 = L := ⟨_, rfl⟩
              rw [hvs1] at hvlen hvl13 hvl256 hvote hstep
              have hstepH := Lib.hid hstep
              have h13H := Lib.hid hvl13
              have hltH := Lib.hid hvl256
              clear hstep hvl13 hvl256 hws1 hvs1 hwb hrc
              by_cases e : vs1 = vs
              · subst e
                rw [if_pos rfl] at hstepH
                go_wp2_with (first
                  | (go_at_call 67; refine hvote.mono ?_; rintro e w4 ⟨g4, rfl, row4, hb4⟩; have hB4 := hB.trans (hb4.mono hB.size); have rowv4 := row_below rowv hb4; have roww4 := row_below roww hb4; have heq := EqualN_any (some ⟨g4, 0, none⟩) (some ⟨gv, 0, none⟩) l0 l0 l0 vs1 vs1 hvlen hvlen (by omega) w4 (rowN_rd hvlen row4) (rowN_rd hvlen rowv4) hltH.out hltH.out; rw [show decide (vs1 = vs1) = true by simp] at heq; clear row4)
                  | (go_at_call 69; refine heq.mono ?_; rintro e w5 ⟨rfl, hb5⟩; have hB5 := hB4.trans (hb5.mono hB4.size); have rowv5 := row_below rowv4 hb5; have roww5 := row_below roww4 hb5))
                exact bodyPost_ret (v := .tuple #[.slice (some ⟨gv, 0, none⟩) l0 l0, .slice (some ⟨G, 0, none⟩) q q, .int .i64 0]) (by simp [results, Tryz.results28, go_sem]) rfl (by
                  rw [hrcH.out, hstepH.out]
                  exact ⟨some ⟨gv, 0, none⟩, l0, some ⟨G, 0, none⟩, q, by rw [hvlen, hwlen], by rw [hvlen]; exact rowv5, by rw [hwlen]; exact roww5, hB5⟩)
              · rw [if_neg e] at hstepH
                go_wp2_with (first
                  | (go_at_call 67; refine hvote.mono ?_; rintro e w4 ⟨g4, rfl, row4, hb4⟩; have hB4 := hB.trans (hb4.mono hB.size); have rowv4 := row_below rowv hb4; have roww4 := row_below roww hb4; have heq := EqualN_any (some ⟨g4, 0, none⟩) (some ⟨gv, 0, none⟩) l0 l0 l0 vs1 vs hvlen hvl (by omega) w4 (rowN_rd hvlen row4) (rowN_rd hvl rowv4) hltH.out hvlt.out; rw [show decide (vs1 = vs) = false by simp [e]] at heq; replace row4 := jrow_weaken row4 hB.size)
                  | (go_at_call 69; refine heq.mono ?_; rintro e w5 ⟨rfl, hb5⟩; have hB5 := hB4.trans (hb5.mono hB4.size); have row5 := row_below row4 hb5; have roww5 := row_below roww4 hb5))
                go_roundw
                case rel => exact ⟨r + 1, vs1, ws1, g4, by omega, by go_num, rfl, hvlen, hwlen, h13H, hltH, row5, roww5, Lib.hid hstepH.out.symm, hB5⟩
                case measure => simp [intOf]; omega
        · have hr : r = 10 := by omega
          subst hr
          have hrc2 : (vs, ws) = reconS (labF xss) n l0 := hrc.out
          have hrc2H := Lib.hid hrc2
          clear hrc2
          go_wp2_with fail
          exact bodyPost_ret (v := .tuple #[.slice (some ⟨gv, 0, none⟩) l0 l0, .slice (some ⟨G, 0, none⟩) n n, .int .i64 0]) (by simp [results, Tryz.results28, go_sem]) rfl (by
            rw [hrcH.out, ← hrc2H.out]
            exact ⟨some ⟨gv, 0, none⟩, l0, some ⟨G, 0, none⟩, n, by rw [hvl, hwl], by rw [hvl]; exact rowv, by rw [hwl]; exact roww, hB⟩)
theorem Reconcile_any (xss : List (List Nat)) (n : Nat) (hn : xss.length = n) (a : Option Addr) (c : Nat) (w : World) (hr : RdL w.heap.size w a xss) :
    Calls Tryz.prog 28 #[.slice a n c] w (RetJ w (recJ xss)) :=
  (Reconcile_own xss n hn a c w hr).mono fun e w' ⟨a1, c1, a2, c2, h1, h2, h3, h4⟩ => ⟨a1, c1, a2, c2, h1, rowN_rd rfl h2, rowI_rd rfl h3, h4⟩

end Go.Proofs.YtbfigbpjoaccdaaGreat

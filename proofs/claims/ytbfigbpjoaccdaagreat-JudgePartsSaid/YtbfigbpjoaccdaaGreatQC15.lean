/- Contracts and laws (JW, JR, JS, JU). -/
import Derived.Lib.MinMax
import Derived.Laws.BytesArg
import Derived.Shelf.Bytes.SlSmallAll
import Derived.Test.YtbfigbpjoaccdaaGreatQC1
import Derived.Test.YtbfigbpjoaccdaaGreatQC6
import Derived.Test.YtbfigbpjoaccdaaGreatQC10
namespace Go.Proofs.YtbfigbpjoaccdaaGreat
open Go Go.RowKit Go.Shelf
set_option linter.unusedVariables false
set_option linter.unusedSimpArgs false

/-- What inspector i said of part k. -/
def labF (xss : List (List Nat)) (i k : Nat) : Nat := ((xss[i]?.getD [])[k]?).getD 0

/-- The first k of f, and 0 behind. -/
def layU (f : Nat → Nat) (n k : Nat) : List Nat := (List.range n).map fun i => if i < k then f i else 0
theorem layU_length (f : Nat → Nat) (n k : Nat) : (layU f n k).length = n := by simp [layU]
theorem layU_zero (f : Nat → Nat) (n : Nat) : layU f n 0 = List.replicate n 0 := by
  refine List.ext_getElem (by simp [layU]) fun i h1 h2 => ?_
  simp [layU]
theorem layU_all (f : Nat → Nat) (n : Nat) : layU f n n = (List.range n).map f := by
  refine List.ext_getElem (by simp [layU]) fun i h1 h2 => ?_
  simp only [layU, List.getElem_map, List.getElem_range]
  simp [layU] at h1
  simp [h1]
theorem layU_set (f : Nat → Nat) {n k : Nat} (hk : k < n) : (layU f n k).set k (f k) = layU f n (k + 1) := by
  refine List.ext_getElem (by simp [layU]) fun i h1 h2 => ?_
  simp only [layU, List.getElem_set, List.getElem_map, List.getElem_range]
  by_cases e : k = i
  · subst e; simp
  · rw [if_neg e]
    by_cases h : i < k
    · rw [if_pos h, if_pos (by omega)]
    · rw [if_neg h, if_neg (by omega)]

/-- The three sums of a part, over the first m inspectors. -/
def triJ (lab : Nat → Nat → Nat) (w : Nat → Int) (k m : Nat) : Array Value := #[.int .i64 (sumW lab w 0 k m), .int .i64 (sumW lab w 1 k m), .int .i64 (sumW lab w 2 k m)]
theorem triJ_cell (lab : Nat → Nat → Nat) (w : Nat → Int) (k m : Nat) {l : Nat} (hl : l ≤ 2) : (triJ lab w k m)[l]? = some (.int .i64 (sumW lab w l k m)) := by
  have : l = 0 ∨ l = 1 ∨ l = 2 := by omega
  rcases this with rfl | rfl | rfl <;> rfl
theorem triJ_step (lab : Nat → Nat → Nat) (w : Nat → Int) (k m : Nat) {l : Nat} (hl : l ≤ 2) (h : lab m k = l) : (triJ lab w k m).setIfInBounds l (.int .i64 (sumW lab w l k m + w m)) = triJ lab w k (m + 1) := by
  have : l = 0 ∨ l = 1 ∨ l = 2 := by omega
  rcases this with rfl | rfl | rfl <;> simp [triJ, sumW, sumJ, h]
theorem sumW_bd (lab : Nat → Nat → Nat) (w : Nat → Int) (v k m : Nat) (hm : m ≤ 100) (h : ∀ i, i < m → -1000000 ≤ w i ∧ w i ≤ 1000000) : -100000000 ≤ sumW lab w v k m ∧ sumW lab w v k m ≤ 100000000 := by
  have := sumJ_bd (f := fun i => if lab i k = v then w i else 0) (B := 1000000) (n := m) fun i hi => by
    have := h i hi
    split <;> omega
  unfold sumW
  omega
theorem triJ_zero (lab : Nat → Nat → Nat) (w : Nat → Int) (k : Nat) : triJ lab w k 0 = #[.int .i64 0, .int .i64 0, .int .i64 0] := rfl


set_option maxRecDepth 100000 in
set_option maxHeartbeats 2000000 in
theorem vote_any (xss : List (List Nat)) (J K : Nat) (hJ : xss.length = J) (hJ0 : 0 < J) (hJ1 : J ≤ 100) (hK1 : K ≤ 1000) (hlen : ∀ (i : Nat) (xs : List Nat), xss[i]? = some xs → xs.length = K) (hlab : ∀ i k, labF xss i k ≤ 2) (ws : List Int) (hws : ws.length = J) (hwb : ∀ i : Nat, -1000000 ≤ ws[i]?.getD 0 ∧ ws[i]?.getD 0 ≤ 1000000)
    (a aw : Option Addr) (c cw : Nat) (w : World) (hr : RdL w.heap.size w a xss) (hw : Rd w.heap.size w aw ws) :
    Calls Tryz.prog 67 #[.slice a J c, .slice aw J cw] w fun e w' => ∃ g, e = .returned (.slice (some ⟨g, 0, none⟩) K K) ∧ w'.ownsRow w.heap.size 5 1 (.slice (some ⟨g, 0, none⟩) K K) K ((voteL (labF xss) J K ws).map vu8) ∧ Below w.heap.size w w' := by
  obtain ⟨i0, hi, hz0, hz1, hz2⟩ := info_parts jinfo_u8
  obtain ⟨xs0, hxs0⟩ : ∃ x, xss[0]? = some x := ⟨_, List.getElem?_eq_getElem (by omega)⟩
  obtain ⟨b, o, rfl, hb, a0, c0, hc0, hr0⟩ := hr.at hxs0
  have hl0 := hlen 0 xs0 hxs0
  rw [hl0] at hc0
  have hJH := Lib.hid hJ
  have hzH := Lib.hid (jmade_u8 K)
  have hwsH := Lib.hid hws
  have hlenH := Lib.hid hlen
  have hlabH := Lib.hid hlab
  have hrH := Lib.hid hr
  clear hJ hws hlen hlab hr hl0 hr0
  have hc0' := hc0
  rw [show o + 0 = o from rfl] at hc0'
  go_enter Tryz.func67, Tryz.ntmps67
  go_wp2_with (at_make; refine wpList_make_full _ rfl _ _ 28 rfl w.heap.size 5 i0 (.int .u8 0) 1 Tryz.underlying28 hi hz0 hz1 .i64 .i64 (K : Int) (K : Int) K rfl rfl (by simp) (by simp) (by rw [hz2]; omega) (by unfold maxLen; omega) (by simp) ?_; intro w1 hown hg)
  rw [hzH.out, ← layU_zero (voteF (labF xss) (fun i => ws[i]?.getD 0) J) K] at hown
  obtain ⟨vF, hvF⟩ : ∃ f, voteF (labF xss) (fun i => ws[i]?.getD 0) J = f := ⟨_, rfl⟩
  rw [hvF] at hown
  have hB1 : Below w.heap.size w w1 := (Below.refl _ _).grown hg (Nat.le_refl _) (fun k e => by cases e)
  clear hc0 hc0' hxs0
  go_loopw [18] (fun i wr => ∃ k : Nat, k ≤ K ∧ i = .int .i64 (k : Int) ∧ wr.ownsRow w.heap.size 5 1 (.slice (some ⟨w.heap.size, 0, none⟩) K K) K ((layU vF K k).map vu8) ∧ Below w.heap.size w wr) (fun i _ => K - (intOf i).toNat)
  case atStart => exact ⟨0, Nat.zero_le _, rfl, hown, hB1⟩
  case round =>
    clear hown hB1 hg
    obtain ⟨k, hk, rfl, rowk, hB⟩ := hrel
    by_cases hlt : k < K
    · have hnew := Blk.new wr 124 (triJ (labF xss) (fun i => ws[i]?.getD 0) k 0)
      obtain ⟨V, hV⟩ : ∃ V, wr.alloc (.cells (triJ (labF xss) (fun i => ws[i]?.getD 0) k 0) 124) = V := ⟨_, rfl⟩
      have hBV : Below w.heap.size w V := hV ▸ jb_al hB _
      have hgV : Below wr.heap.size wr V := hV ▸ jb_al (Below.refl _ _) _
      have rowV := row_below rowk hgV
      rw [hV] at hnew
      have hsz : w.heap.size ≤ wr.heap.size := hB.size
      have hzs : w.heap.size < wr.heap.size := by
        rcases rowk.2 with ⟨h, _⟩ | ⟨g, cap, cur, h, _, h2, _⟩
        · cases h
        · simp only [Value.slice.injEq, Option.some.injEq, Addr.mk.injEq, true_and, and_true] at h
          rw [← h.1] at h2
          exact (Array.getElem?_eq_some_iff.1 h2).1
      have hVs : wr.heap.size < V.heap.size := hnew.lt
      clear rowk hB hgV
      rw [triJ_zero] at hV
      go_wp2_with fail
      obtain ⟨B1, hB1⟩ : ∃ n, wr.heap.size = n := ⟨_, rfl⟩
      rw [hB1] at hnew hsz hzs hVs ⊢
      clear hV hB1
      clear wr
      go_loopw [23] (fun i wr => ∃ m : Nat, m ≤ J ∧ i = .int .i64 (m : Int) ∧ Blk wr B1 124 (triJ (labF xss) (fun i => ws[i]?.getD 0) k m) ∧ wr.ownsRow w.heap.size 5 1 (.slice (some ⟨w.heap.size, 0, none⟩) K K) K ((layU vF K k).map vu8) ∧ Below w.heap.size w wr) (fun i _ => J - (intOf i).toNat)
      case atStart => exact ⟨0, Nat.zero_le _, rfl, hnew, rowV, hBV⟩
      case round =>
        clear hnew rowV hBV hVs
        obtain ⟨m, hm, rfl, hbk, rowm, hB⟩ := hrel
        by_cases hmt : m < J
        · obtain ⟨xs, hxs⟩ : ∃ x, xss[m]? = some x := ⟨_, List.getElem?_eq_getElem (by have := hJH.out; omega)⟩
          obtain ⟨b', o', hbo, _, a1, c1, hc1, hr1⟩ := hrH.out.at hxs
          simp only [Option.some.injEq, Addr.mk.injEq, and_true] at hbo
          obtain ⟨rfl, rfl⟩ := hbo
          have hxl := hlenH.out m xs hxs
          rw [hxl] at hc1
          have hc1' := (hB.cell (p := ⟨b, o + m, none⟩) hb).trans hc1
          rcases hr1 with h0 | ⟨b1, o1, rfl, hb1, hcl⟩
          · exfalso; rw [h0] at hxl; simp at hxl; omega
          have hcl1 := (hB.cell (p := ⟨b1, o1 + k, none⟩) hb1).trans (hcl k (by omega))
          have hlk : labF xss m k = xs[k]?.getD 0 := by unfold labF; rw [hxs]; rfl
          rw [← hlk] at hcl1
          obtain ⟨l, hl⟩ : ∃ l, labF xss m k = l := ⟨_, rfl⟩
          have hl2 : l ≤ 2 := hl ▸ hlabH.out m k
          rw [hl] at hcl1
          rcases hw with h0 | ⟨b2, o2, rfl, hb2, hcw⟩
          · exfalso; have := hwsH.out; rw [h0] at this; simp at this; omega
          have hcw1 := (hB.cell (p := ⟨b2, o2 + m, none⟩) hb2).trans (hcw m (by have := hwsH.out; omega))
          obtain ⟨u, hu⟩ : ∃ u, ws[m]?.getD 0 = u := ⟨_, rfl⟩
          have hub : -1000000 ≤ u ∧ u ≤ 1000000 := hu ▸ hwb m
          obtain ⟨ub1, ub2⟩ := hub
          rw [hu] at hcw1
          obtain ⟨s, hs⟩ : ∃ s, sumW (labF xss) (fun i => ws[i]?.getD 0) l k m = s := ⟨_, rfl⟩
          obtain ⟨sb1, sb2⟩ : -100000000 ≤ s ∧ s ≤ 100000000 := hs ▸ sumW_bd _ _ l k m (by omega) (fun i _ => hwb i)
          have hcs := hbk.cell (triJ_cell (labF xss) (fun i => ws[i]?.getD 0) k m hl2)
          rw [hs] at hcs
          have hstep : (triJ (labF xss) (fun i => ws[i]?.getD 0) k m).setIfInBounds l (.int .i64 (s + u)) = triJ (labF xss) (fun i => ws[i]?.getD 0) k (m + 1) := by
            rw [← hs, ← hu]; exact triJ_step _ _ k m hl2 hl
          have hstepH := Lib.hid hstep
          have hfr := hbk.frozen l
          have hS0 : wr.drew.heap = wr.heap := rfl
          clear hc1 hcl hlk hl hu hs hstep hcw hxl hxs
          go_wp2_with fail
          refine plain_region (fun W' => W'.heap = wr.heap) 12 13 (by kernel_rfl) rfl ?_
          simp only [Array.replicate_succ, Array.replicate_zero, List.push_toArray, List.nil_append, List.cons_append]
          refine take_op 0 (v := ?rv0) rfl (by kernel_rfl) (fun _ _ _ h => h) (by rfl) hS0 (fun w' hS' => ?ry0) ?rz0
          case ry0 =>
            go_simp
            rfl
          simp only [List.setIfInBounds_toArray, List.set_cons_zero, List.set_cons_succ]
          refine take_op 1 (v := ?rv1) rfl (by kernel_rfl) (fun _ _ _ h => h) (by rfl) hS0 (fun w' hS' => ?ry1) ?rz1
          case ry1 =>
            go_simp
            rfl
          simp only [List.setIfInBounds_toArray, List.set_cons_zero, List.set_cons_succ]
          refine take_op 2 (v := ?rv2) rfl (by kernel_rfl) (fun _ _ _ h => h) (by rfl) hS0 (fun w' hS' => ?ry2) ?rz2
          case ry2 =>
            go_simp
            try go_ints
            first
            | rfl
            | (rw [if_pos (by omega)]; done)
            | rw [if_pos ⟨by omega, by omega⟩]
          simp only [List.setIfInBounds_toArray, List.set_cons_zero, List.set_cons_succ]
          refine take_op 3 (v := ?rv3) rfl (by kernel_rfl) (fun _ _ _ h => h) (by rfl) hS0 (fun w' hS' => ?ry3) ?rz3
          case ry3 =>
            have e1 := (World.cell?_of_block (w := wr) (w' := w') (a := ⟨b1, o1 + k, none⟩) (by rw [hS'])).trans hcl1
            have e2 := (World.cell?_of_block (w := wr) (w' := w') (a := ⟨b2, o2 + m, none⟩) (by rw [hS'])).trans hcw1
            have e3 := (World.cell?_of_block (w := wr) (w' := w') (a := ⟨B1, l, none⟩) (by rw [hS'])).trans hcs
            clear hS'
            go_simp
            rfl
          simp only [List.setIfInBounds_toArray, List.set_cons_zero, List.set_cons_succ]
          refine take_op 4 (v := ?rv4) rfl (by kernel_rfl) (fun _ _ _ h => h) (by rfl) hS0 (fun w' hS' => ?ry4) ?rz4
          case ry4 =>
            go_simp
            try go_ints
            first
            | rfl
            | (rw [if_pos (by omega)]; done)
            | rw [if_pos ⟨by omega, by omega⟩]
          simp only [List.setIfInBounds_toArray, List.set_cons_zero, List.set_cons_succ]
          refine take_op 5 (v := ?rv5) rfl (by kernel_rfl) (fun _ _ _ h => h) (by rfl) hS0 (fun w' hS' => ?ry5) ?rz5
          case ry5 =>
            have e1 := (World.cell?_of_block (w := wr) (w' := w') (a := ⟨b1, o1 + k, none⟩) (by rw [hS'])).trans hcl1
            have e2 := (World.cell?_of_block (w := wr) (w' := w') (a := ⟨b2, o2 + m, none⟩) (by rw [hS'])).trans hcw1
            have e3 := (World.cell?_of_block (w := wr) (w' := w') (a := ⟨B1, l, none⟩) (by rw [hS'])).trans hcs
            clear hS'
            go_simp
            rfl
          simp only [List.setIfInBounds_toArray, List.set_cons_zero, List.set_cons_succ]
          refine take_op 6 (v := ?rv6) rfl (by kernel_rfl) (fun _ _ _ h => h) (by rfl) hS0 (fun w' hS' => ?ry6) ?rz6
          case ry6 =>
            go_simp
            rfl
          simp only [List.setIfInBounds_toArray, List.set_cons_zero, List.set_cons_succ]
          refine take_op 7 (v := ?rv7) rfl (by kernel_rfl) (fun _ _ _ h => h) (by rfl) hS0 (fun w' hS' => ?ry7) ?rz7
          case ry7 =>
            go_simp
            rfl
          simp only [List.setIfInBounds_toArray, List.set_cons_zero, List.set_cons_succ]
          refine take_op 8 (v := ?rv8) rfl (by kernel_rfl) (fun _ _ _ h => h) (by rfl) hS0 (fun w' hS' => ?ry8) ?rz8
          case ry8 =>
            go_simp
            try go_ints
            first
            | rfl
            | (rw [if_pos (by omega)]; done)
            | rw [if_pos ⟨by omega, by omega⟩]
          simp only [List.setIfInBounds_toArray, List.set_cons_zero, List.set_cons_succ]
          refine take_op 9 (v := ?rv9) rfl (by kernel_rfl) (fun _ _ _ h => h) (by rfl) hS0 (fun w' hS' => ?ry9) ?rz9
          case ry9 =>
            have e1 := (World.cell?_of_block (w := wr) (w' := w') (a := ⟨b1, o1 + k, none⟩) (by rw [hS'])).trans hcl1
            have e2 := (World.cell?_of_block (w := wr) (w' := w') (a := ⟨b2, o2 + m, none⟩) (by rw [hS'])).trans hcw1
            have e3 := (World.cell?_of_block (w := wr) (w' := w') (a := ⟨B1, l, none⟩) (by rw [hS'])).trans hcs
            clear hS'
            go_simp
            rfl
          simp only [List.setIfInBounds_toArray, List.set_cons_zero, List.set_cons_succ]
          refine take_op 10 (v := ?rv10) rfl (by kernel_rfl) (fun _ _ _ h => h) (by rfl) hS0 (fun w' hS' => ?ry10) ?rz10
          case ry10 =>
            go_simp
            try go_ints
            rfl
          simp only [List.setIfInBounds_toArray, List.set_cons_zero, List.set_cons_succ]
          refine take_op 11 (v := ?rv11) rfl (by kernel_rfl) (fun _ _ _ h => h) (by rfl) hS0 (fun w' hS' => ?ry11) ?rz11
          case ry11 =>
            go_simp
            try go_ints
            first
            | rfl
            | (rw [if_pos (by omega)]; done)
            | rw [if_pos ⟨by omega, by omega⟩]
          simp only [List.setIfInBounds_toArray, List.set_cons_zero, List.set_cons_succ]
          refine step_op 12 (by kernel_rfl) rfl (fun K hK => ?_)
          have hfr2 : wr.drew.frozen? ⟨B1, l, none⟩ = false := hfr
          have hcs2 : wr.drew.cell? ⟨B1, l, none⟩ = some (.int .i64 s) := hcs
          rw [if_pos (by rfl)]
          go_simp
          refine hK.out _ _ (fun h => absurd h (by omega)) ?_
          clear hK K
          try simp only [Act.put, List.setIfInBounds_toArray, List.set_cons_zero, List.set_cons_succ]
          refine done_ops (by kernel_rfl) ?_
          go_wp2_with fail
          go_roundw
          case rel =>
            have k1 : Blk wr.drew B1 124 (triJ (labF xss) (fun i => ws[i]?.getD 0) k m) := hbk
            have k2 := k1.set l (.int .i64 (s + u))
            rw [hstepH.out] at k2
            exact ⟨m + 1, by omega, by go_num, k2, row_setCell (W := wr.drew) (a := ⟨B1, l, none⟩) rowm (by simp [Value.ownBlock]; omega) _, (hB.drew).setCell (p := ⟨B1, l, none⟩) hsz _⟩
          case measure => simp [intOf]; omega
        · have hmJ : m = J := by omega
          subst hmJ
          obtain ⟨s1, hs1⟩ : ∃ s, sumW (labF xss) (fun i => ws[i]?.getD 0) 1 k m = s := ⟨_, rfl⟩
          obtain ⟨s2, hs2⟩ : ∃ s, sumW (labF xss) (fun i => ws[i]?.getD 0) 2 k m = s := ⟨_, rfl⟩
          obtain ⟨p1, p2⟩ : -100000000 ≤ s1 ∧ s1 ≤ 100000000 := hs1 ▸ sumW_bd _ _ 1 k m (by omega) (fun i _ => hwb i)
          obtain ⟨p3, p4⟩ : -100000000 ≤ s2 ∧ s2 ≤ 100000000 := hs2 ▸ sumW_bd _ _ 2 k m (by omega) (fun i _ => hwb i)
          have d1 := hbk.cell (triJ_cell (labF xss) (fun i => ws[i]?.getD 0) k m (l := 1) (by omega))
          have d2 := hbk.cell (triJ_cell (labF xss) (fun i => ws[i]?.getD 0) k m (l := 2) (by omega))
          rw [hs1] at d1
          rw [hs2] at d2
          have hvk : vF k = verd s1 s2 := by rw [← hvF, ← hs1, ← hs2]; rfl
          have hst := fun z : Nat => rowm.stored k (.int .u8 (z : Int))
          simp only [map_set_u8] at hst
          have hset : (layU vF K k).set k (verd s1 s2) = layU vF K (k + 1) := by rw [← hvk]; exact layU_set vF hlt
          have hfr := rowm.frozenAt k
          have hcell := rowm.cellAt k (by rw [Nat.mul_one]; exact hlt)
          rw [List.getElem?_map, List.getElem?_eq_getElem (by rw [layU_length]; exact hlt)] at hcell
          simp only [Option.map_some] at hcell
          obtain ⟨y, hy⟩ : ∃ y, (layU vF K k)[k]'(by rw [layU_length]; exact hlt) = y := ⟨_, rfl⟩
          rw [hy] at hcell
          change wr.cell? ⟨w.heap.size, k, none⟩ = some (.int .u8 (y : Int)) at hcell
          have hstH := Lib.hid hst
          have hsetH := Lib.hid hset
          clear hst hset hs1 hs2 hvk hy
          have fin : ∀ z : Nat, z = verd s1 s2 → (wr.setCell ⟨w.heap.size, k, none⟩ (.int .u8 (z : Int))).ownsRow w.heap.size 5 1 (.slice (some ⟨w.heap.size, 0, none⟩) K K) K ((layU vF K (k + 1)).map vu8) ∧ Below w.heap.size w (wr.setCell ⟨w.heap.size, k, none⟩ (.int .u8 (z : Int))) := by
            intro z hz
            have h1 := (hstH.out z).1
            rw [hz, hsetH.out] at h1
            rw [hz]
            exact ⟨h1, hB.setCell (p := ⟨w.heap.size, k, none⟩) (Nat.le_refl _) _⟩
          have finH := Lib.hid fin
          clear fin
          by_cases g1 : s2 < s1
          · have e1 : (decide (0 < s1 - s2)) = true := by simp; omega
            go_wp2_with fail
            go_roundw
            case rel => exact ⟨k + 1, by omega, by go_num, (finH.out 1 (((verd_one _ _).2 g1).symm)).1, (finH.out 1 (((verd_one _ _).2 g1).symm)).2⟩
            case measure => simp [intOf]; omega
          · by_cases g2 : s1 < s2
            · go_wp2_with fail
              go_roundw
              case rel => exact ⟨k + 1, by omega, by go_num, (finH.out 2 (((verd_two _ _).2 g2).symm)).1, (finH.out 2 (((verd_two _ _).2 g2).symm)).2⟩
              case measure => simp [intOf]; omega
            · have g3 := Lib.hid (show 3 = verd s1 s2 by unfold verd; rw [if_neg g1, if_neg g2])
              go_wp2_with fail
              go_roundw
              case rel => exact ⟨k + 1, by omega, by go_num, (finH.out 3 g3.out).1, (finH.out 3 g3.out).2⟩
              case measure => simp [intOf]; omega
    · have hkK : k = K := by omega
      subst hkK
      rw [layU_all, ← hvF] at rowk
      go_wp2_with fail
      go_ret
      exact ⟨_, rfl, rowk, hB⟩

end Go.Proofs.YtbfigbpjoaccdaaGreat

namespace Go.Proofs.YtbfigbpjoaccdaaGreat
open Go Go.RowKit Go.Shelf
set_option linter.unusedVariables false
set_option linter.unusedSimpArgs false

/-- Labels that a jury may give. -/
def rowOk (l0 : Nat) (xs : List Nat) : Bool := decide (xs.length = l0) && !bigN xs
def len0 (xss : List (List Nat)) : Nat := (xss[0]?.getD []).length
def vldJ (xss : List (List Nat)) : Bool := decide (1 ≤ xss.length) && decide (xss.length ≤ 8) && decide (len0 xss ≤ 100) && xss.all (rowOk (len0 xss))

theorem all_hit {α : Type} {f : α → Bool} {L : List α} {i : Nat} {x : α} (hi : L[i]? = some x) (h : f x = false) : L.all f = false := by
  obtain ⟨hlt, rfl⟩ := List.getElem?_eq_some_iff.1 hi
  exact List.all_eq_false.2 ⟨_, List.getElem_mem hlt, by rw [h]; simp⟩
theorem all_succ {α : Type} {f : α → Bool} {L : List α} {i : Nat} {x : α} (hi : L[i]? = some x) (h : (L.take i).all f = true) (hx : f x = true) : (L.take (i + 1)).all f = true := by
  obtain ⟨hlt, rfl⟩ := List.getElem?_eq_some_iff.1 hi
  rw [List.take_succ_eq_append_getElem hlt, List.all_append, h]
  simp [hx]


set_option maxRecDepth 100000 in
set_option maxHeartbeats 2000000 in
theorem ValidLabels_any (xss : List (List Nat)) (n : Nat) (hn : xss.length = n) (a : Option Addr) (c : Nat) (w : World) (hr : RdL w.heap.size w a xss) :
    Calls Tryz.prog 29 #[.slice a n c] w fun e w' => e = .returned (.bool (vldJ xss)) ∧ Below w.heap.size w w' := by
  have hnH := Lib.hid hn
  clear hn
  by_cases hn1 : n < 1
  · have hv := Lib.hid (show false = vldJ xss by
      unfold vldJ; rw [hnH.out, show decide (1 ≤ n) = false by simp; omega]; simp)
    go_enter Tryz.func29, Tryz.ntmps29
    go_wp2
    go_ret
    exact ⟨ret_bool hv.out, Below.refl _ _⟩
  by_cases hn8 : 8 < n
  · have hv := Lib.hid (show false = vldJ xss by
      unfold vldJ; rw [hnH.out, show decide (n ≤ 8) = false by simp; omega]; simp)
    go_enter Tryz.func29, Tryz.ntmps29
    go_wp2
    go_ret
    exact ⟨ret_bool hv.out, Below.refl _ _⟩
  obtain ⟨xs0, hxs0⟩ : ∃ x, xss[0]? = some x := ⟨_, List.getElem?_eq_getElem (by have := hnH.out; omega)⟩
  obtain ⟨b, o, rfl, hb, a0, c0, hc0, hr0⟩ := hr.at hxs0
  rw [show o + 0 = o from rfl] at hc0
  obtain ⟨l0, hl0⟩ : ∃ l, xs0.length = l := ⟨_, rfl⟩
  rw [hl0] at hc0
  have hlen0 : len0 xss = l0 := by unfold len0; rw [hxs0]; exact hl0
  have hrH := Lib.hid hr
  have hlH := Lib.hid hlen0
  clear hr hlen0 hr0 hl0 hxs0
  by_cases h100 : 100 < l0
  · have hv := Lib.hid (show false = vldJ xss by
      unfold vldJ; rw [hlH.out, show decide (l0 ≤ 100) = false by simp; omega]; simp)
    go_enter Tryz.func29, Tryz.ntmps29
    go_wp2
    go_ret
    exact ⟨ret_bool hv.out, Below.refl _ _⟩
  have hvf := Lib.hid (show xss.all (rowOk l0) = false → false = vldJ xss from fun h => by
    unfold vldJ; rw [hlH.out, h]; simp)
  have hvt := Lib.hid (show xss.all (rowOk l0) = true → true = vldJ xss from fun h => by
    unfold vldJ; rw [hlH.out, h, hnH.out]; simp; omega)
  go_enter Tryz.func29, Tryz.ntmps29
  go_wp2
  go_loopw [3] (fun i wr => ∃ m : Nat, m ≤ n ∧ i = .int .i64 (m : Int) ∧ Hid ((xss.take m).all (rowOk l0) = true) ∧ Below w.heap.size w wr) (fun i _ => n - (intOf i).toNat)
  case atStart => exact ⟨0, Nat.zero_le _, rfl, Lib.hid (by simp), Below.refl _ _⟩
  case round =>
    obtain ⟨m, hm, rfl, hall, hB⟩ := hrel
    by_cases hmt : m < n
    · obtain ⟨xs, hxs⟩ : ∃ x, xss[m]? = some x := ⟨_, List.getElem?_eq_getElem (by have := hnH.out; omega)⟩
      obtain ⟨b', o', hbo, _, a1, c1, hc1, hr1⟩ := hrH.out.at hxs
      simp only [Option.some.injEq, Addr.mk.injEq, and_true] at hbo
      obtain ⟨rfl, rfl⟩ := hbo
      have hc1' := (hB.cell (p := ⟨b, o + m, none⟩) hb).trans hc1
      have hc0' := (hB.cell (p := ⟨b, o, none⟩) hb).trans hc0
      obtain ⟨lx, hlx⟩ : ∃ l, xs.length = l := ⟨_, rfl⟩
      rw [hlx] at hc1'
      have hlxH := Lib.hid hlx
      have hxsH := Lib.hid hxs
      clear hc1 hlx hxs
      have hS0 : wr.drew.heap = wr.heap := rfl
      by_cases e : lx = l0
      · subst e
        have hBd := hB.drew
        have hc1d : wr.drew.cell? ⟨b, o + m, none⟩ = some (.slice a1 lx c1) := hc1'
        go_wp2_with fail
        refine plain_region (fun W' => W'.heap = wr.heap) 10 10 (by kernel_rfl) rfl ?_
        simp only [Array.replicate_succ, Array.replicate_zero, List.push_toArray, List.nil_append, List.cons_append]
        refine take_op 0 (v := ?pv0) rfl (by kernel_rfl) (fun _ _ _ h => h) (by rfl) hS0 (fun w' hS' => ?py0) ?pz0
        case py0 =>
          go_simp
          rfl
        simp only [List.setIfInBounds_toArray, List.set_cons_zero, List.set_cons_succ]
        refine take_op 1 (v := ?pv1) rfl (by kernel_rfl) (fun _ _ _ h => h) (by rfl) hS0 (fun w' hS' => ?py1) ?pz1
        case py1 =>
          go_simp
          rfl
        simp only [List.setIfInBounds_toArray, List.set_cons_zero, List.set_cons_succ]
        refine take_op 2 (v := ?pv2) rfl (by kernel_rfl) (fun _ _ _ h => h) (by rfl) hS0 (fun w' hS' => ?py2) ?pz2
        case py2 =>
          go_simp
          try go_ints
          first
          | rfl
          | (rw [if_pos (by omega)]; done)
          | rw [if_pos ⟨by omega, by omega⟩]
        simp only [List.setIfInBounds_toArray, List.set_cons_zero, List.set_cons_succ]
        refine take_op 3 (v := ?pv3) rfl (by kernel_rfl) (fun _ _ _ h => h) (by rfl) hS0 (fun w' hS' => ?py3) ?pz3
        case py3 =>
          have c1 := (World.cell?_of_block (w := wr) (w' := w') (a := ⟨b, o + m, none⟩) (by rw [hS'])).trans hc1'
          have c2 := (World.cell?_of_block (w := wr) (w' := w') (a := ⟨b, o, none⟩) (by rw [hS'])).trans hc0'
          clear hS'
          go_simp
          rfl
        simp only [List.setIfInBounds_toArray, List.set_cons_zero, List.set_cons_succ]
        refine take_op 4 (v := ?pv4) rfl (by kernel_rfl) (fun _ _ _ h => h) (by rfl) hS0 (fun w' hS' => ?py4) ?pz4
        case py4 =>
          go_simp
          rfl
        simp only [List.setIfInBounds_toArray, List.set_cons_zero, List.set_cons_succ]
        refine take_op 5 (v := ?pv5) rfl (by kernel_rfl) (fun _ _ _ h => h) (by rfl) hS0 (fun w' hS' => ?py5) ?pz5
        case py5 =>
          go_simp
          rfl
        simp only [List.setIfInBounds_toArray, List.set_cons_zero, List.set_cons_succ]
        refine take_op 6 (v := ?pv6) rfl (by kernel_rfl) (fun _ _ _ h => h) (by rfl) hS0 (fun w' hS' => ?py6) ?pz6
        case py6 =>
          go_simp
          try go_ints
          first
          | rfl
          | (rw [if_pos (by omega)]; done)
          | rw [if_pos ⟨by omega, by omega⟩]
        simp only [List.setIfInBounds_toArray, List.set_cons_zero, List.set_cons_succ]
        refine take_op 7 (v := ?pv7) rfl (by kernel_rfl) (fun _ _ _ h => h) (by rfl) hS0 (fun w' hS' => ?py7) ?pz7
        case py7 =>
          have c1 := (World.cell?_of_block (w := wr) (w' := w') (a := ⟨b, o + m, none⟩) (by rw [hS'])).trans hc1'
          have c2 := (World.cell?_of_block (w := wr) (w' := w') (a := ⟨b, o, none⟩) (by rw [hS'])).trans hc0'
          clear hS'
          go_simp
          rfl
        simp only [List.setIfInBounds_toArray, List.set_cons_zero, List.set_cons_succ]
        refine take_op 8 (v := ?pv8) rfl (by kernel_rfl) (fun _ _ _ h => h) (by rfl) hS0 (fun w' hS' => ?py8) ?pz8
        case py8 =>
          go_simp
          rfl
        simp only [List.setIfInBounds_toArray, List.set_cons_zero, List.set_cons_succ]
        refine take_op 9 (v := .bool false) rfl (by kernel_rfl) (fun _ _ _ h => h) (by rfl) hS0 (fun w' hS' => ?py9) ?pz9
        case py9 =>
          go_simp
          try rfl
        simp only [List.setIfInBounds_toArray, List.set_cons_zero, List.set_cons_succ]
        refine done_ops (by kernel_rfl) ?_
        clear hc1' hc0' hS0 hB
        obtain ⟨V, hV⟩ : ∃ V, wr.drew = V := ⟨_, rfl⟩
        rw [hV] at hBd hc1d ⊢
        clear hV
        clear wr
        go_wp2_with fail
        go_loop [4] (fun i => ∃ k : Nat, k ≤ lx ∧ i = .int .i64 (k : Int) ∧ Hid (bigN (xs.take k) = false)) (fun i => lx - (intOf i).toNat)
        case atStart => exact ⟨0, Nat.zero_le _, rfl, Lib.hid (by simp [bigN])⟩
        case round =>
          obtain ⟨k, hk, rfl, hbg⟩ := hrel
          by_cases hkt : k < lx
          · rcases hr1 with h0 | ⟨b1, o1, rfl, hb1, hcl⟩
            · exfalso; have := hlxH.out; rw [h0] at this; simp at this; omega
            have hcl1 := (hBd.cell (p := ⟨b1, o1 + k, none⟩) hb1).trans (hcl k (by have := hlxH.out; omega))
            obtain ⟨x, hx⟩ : ∃ x, xs[k]?.getD 0 = x := ⟨_, rfl⟩
            rw [hx] at hcl1
            have hs1 : 2 < x → bigN xs = true := fun h => bigN_hit (k := k) (by have := hlxH.out; omega) (by rw [hx]; exact h)
            have hs2 : ¬ 2 < x → bigN (xs.take (k + 1)) = false := fun h => bigN_succ (k := k) (by have := hlxH.out; omega) hbg.out (by rw [hx]; exact h)
            have hs1H := Lib.hid hs1
            have hs2H := Lib.hid hs2
            clear hx hs1 hs2 hcl
            by_cases h1 : 2 < x
            · go_wp2_with fail
              go_ret
              exact ⟨ret_bool (hvf.out (all_hit hxsH.out (by unfold rowOk; rw [hs1H.out h1]; simp))), hBd⟩
            · go_wp2_with fail
              go_round
              case rel => exact ⟨k + 1, by omega, by go_num, Lib.hid (hs2H.out h1)⟩
              case measure => simp [intOf]; omega
          · go_wp2_with fail
            go_roundw
            case rel =>
              refine ⟨m + 1, by omega, by go_num, Lib.hid (all_succ hxsH.out hall.out ?_), hBd⟩
              have hb2 := hbg.out
              rw [List.take_of_length_le (by have := hlxH.out; omega)] at hb2
              unfold rowOk
              rw [hb2, hlxH.out]
              simp
            case measure => simp [intOf]; omega
      · have ed : ((lx : Int) == (l0 : Int)) = false := by simp; omega
        go_wp2_with fail
        refine plain_region (fun W' => W'.heap = wr.heap) 10 10 (by kernel_rfl) rfl ?_
        simp only [Array.replicate_succ, Array.replicate_zero, List.push_toArray, List.nil_append, List.cons_append]
        refine take_op 0 (v := ?qv0) rfl (by kernel_rfl) (fun _ _ _ h => h) (by rfl) hS0 (fun w' hS' => ?qy0) ?qz0
        case qy0 =>
          go_simp
          rfl
        simp only [List.setIfInBounds_toArray, List.set_cons_zero, List.set_cons_succ]
        refine take_op 1 (v := ?qv1) rfl (by kernel_rfl) (fun _ _ _ h => h) (by rfl) hS0 (fun w' hS' => ?qy1) ?qz1
        case qy1 =>
          go_simp
          rfl
        simp only [List.setIfInBounds_toArray, List.set_cons_zero, List.set_cons_succ]
        refine take_op 2 (v := ?qv2) rfl (by kernel_rfl) (fun _ _ _ h => h) (by rfl) hS0 (fun w' hS' => ?qy2) ?qz2
        case qy2 =>
          go_simp
          try go_ints
          first
          | rfl
          | (rw [if_pos (by omega)]; done)
          | rw [if_pos ⟨by omega, by omega⟩]
        simp only [List.setIfInBounds_toArray, List.set_cons_zero, List.set_cons_succ]
        refine take_op 3 (v := ?qv3) rfl (by kernel_rfl) (fun _ _ _ h => h) (by rfl) hS0 (fun w' hS' => ?qy3) ?qz3
        case qy3 =>
          have c1 := (World.cell?_of_block (w := wr) (w' := w') (a := ⟨b, o + m, none⟩) (by rw [hS'])).trans hc1'
          have c2 := (World.cell?_of_block (w := wr) (w' := w') (a := ⟨b, o, none⟩) (by rw [hS'])).trans hc0'
          clear hS'
          go_simp
          rfl
        simp only [List.setIfInBounds_toArray, List.set_cons_zero, List.set_cons_succ]
        refine take_op 4 (v := ?qv4) rfl (by kernel_rfl) (fun _ _ _ h => h) (by rfl) hS0 (fun w' hS' => ?qy4) ?qz4
        case qy4 =>
          go_simp
          rfl
        simp only [List.setIfInBounds_toArray, List.set_cons_zero, List.set_cons_succ]
        refine take_op 5 (v := ?qv5) rfl (by kernel_rfl) (fun _ _ _ h => h) (by rfl) hS0 (fun w' hS' => ?qy5) ?qz5
        case qy5 =>
          go_simp
          rfl
        simp only [List.setIfInBounds_toArray, List.set_cons_zero, List.set_cons_succ]
        refine take_op 6 (v := ?qv6) rfl (by kernel_rfl) (fun _ _ _ h => h) (by rfl) hS0 (fun w' hS' => ?qy6) ?qz6
        case qy6 =>
          go_simp
          try go_ints
          first
          | rfl
          | (rw [if_pos (by omega)]; done)
          | rw [if_pos ⟨by omega, by omega⟩]
        simp only [List.setIfInBounds_toArray, List.set_cons_zero, List.set_cons_succ]
        refine take_op 7 (v := ?qv7) rfl (by kernel_rfl) (fun _ _ _ h => h) (by rfl) hS0 (fun w' hS' => ?qy7) ?qz7
        case qy7 =>
          have c1 := (World.cell?_of_block (w := wr) (w' := w') (a := ⟨b, o + m, none⟩) (by rw [hS'])).trans hc1'
          have c2 := (World.cell?_of_block (w := wr) (w' := w') (a := ⟨b, o, none⟩) (by rw [hS'])).trans hc0'
          clear hS'
          go_simp
          rfl
        simp only [List.setIfInBounds_toArray, List.set_cons_zero, List.set_cons_succ]
        refine take_op 8 (v := ?qv8) rfl (by kernel_rfl) (fun _ _ _ h => h) (by rfl) hS0 (fun w' hS' => ?qy8) ?qz8
        case qy8 =>
          go_simp
          rfl
        simp only [List.setIfInBounds_toArray, List.set_cons_zero, List.set_cons_succ]
        refine take_op 9 (v := .bool true) rfl (by kernel_rfl) (fun _ _ _ h => h) (by rfl) hS0 (fun w' hS' => ?qy9) ?qz9
        case qy9 =>
          go_simp
          try simp only [ed]
          try omega
          try rfl
        simp only [List.setIfInBounds_toArray, List.set_cons_zero, List.set_cons_succ]
        refine done_ops (by kernel_rfl) ?_
        go_wp2_with fail
        go_ret
        refine ⟨ret_bool (hvf.out (all_hit hxsH.out ?_)), hB.drew⟩
        unfold rowOk
        rw [hlxH.out, show decide (lx = l0) = false by simp [e]]
        rfl
    · go_wp2_with fail
      go_ret
      exact ⟨ret_bool (hvt.out (by have h := hall.out; rw [List.take_of_length_le (by have := hnH.out; omega)] at h; exact h)), hB⟩

end Go.Proofs.YtbfigbpjoaccdaaGreat

namespace Go.Proofs.YtbfigbpjoaccdaaGreat
open Go Go.RowKit Go.Shelf
set_option linter.unusedVariables false
set_option linter.unusedSimpArgs false

theorem jrow_weaken {W : World} {base base' : Nat} {e : TypeId} {size : Nat} {v : Value} {k : Nat} {xs : List Value} (h : W.ownsRow base e size v k xs) (hb : base' ≤ base) : W.ownsRow base' e size v k xs := by
  refine ⟨h.1, ?_⟩
  rcases h.2 with h1 | ⟨g, cap, cur, h1, h2, h3⟩
  · exact .inl h1
  · exact .inr ⟨g, cap, cur, h1, Nat.le_trans hb h2, h3⟩

end Go.Proofs.YtbfigbpjoaccdaaGreat

namespace Go.Proofs.YtbfigbpjoaccdaaGreat
open Go Go.RowKit Go.Shelf
set_option linter.unusedVariables false
set_option linter.unusedSimpArgs false

/-! ### Bytes as text -/

def bsN (xs : List Nat) : ByteArray := strOfNums (xs.map fun x : Nat => (x : Int))
theorem conv_bytes {W : World} {B : Nat} {a : Option Addr} {xs : List Nat} {n : Nat} (c : Nat) (hn : xs.length = n) (h : RdN B W a xs) : (convert 28 9 (.slice a n c)).run Tryz.prog W = .ok (.string (bsN xs)) W := by
  rcases h with h | ⟨b, o, h1, h2, h3⟩
  · subst h
    simp at hn
    subst hn
    rw [show bsN [] = ByteArray.empty from rfl]
    exact run_convert_bytes_zero W 28 5 Tryz.underlying28 Tryz.underlying5 a c 9 Tryz.underlying9
  · subst h1
    refine run_convert_bytes_arg W 28 5 Tryz.underlying28 Tryz.underlying5 b o n c (xs.map fun x : Nat => (x : Int)) (by simpa using hn) (fun i hi => ?_) 9 Tryz.underlying9
    rw [h3 i (by omega)]
    rw [List.getD_eq_getElem?_getD, List.getElem?_map, List.getElem?_eq_getElem (by omega)]
    rfl

/-! ### Rows that are written place by place -/

def mixJ (f : Nat → Int) (L : List Int) (k : Nat) : List Int := (List.range L.length).map fun j => if j < k then f j else L[j]?.getD 0
theorem mixJ_length (f : Nat → Int) (L : List Int) (k : Nat) : (mixJ f L k).length = L.length := by simp [mixJ]
theorem mixJ_zero (f : Nat → Int) (L : List Int) : mixJ f L 0 = L := by
  refine List.ext_getElem (by simp [mixJ]) fun i h1 h2 => ?_
  simp [mixJ, h2]
theorem mixJ_all (f : Nat → Int) (L : List Int) {n : Nat} (hn : L.length = n) : mixJ f L n = (List.range n).map f := by
  subst hn
  refine List.ext_getElem (by simp [mixJ]) fun i h1 h2 => ?_
  simp only [List.length_map, List.length_range] at h2
  simp [mixJ, h2]
theorem mixJ_set (f : Nat → Int) (L : List Int) {k : Nat} (hk : k < L.length) : (mixJ f L k).set k (f k) = mixJ f L (k + 1) := by
  refine List.ext_getElem (by simp [mixJ]) fun i h1 h2 => ?_
  simp only [mixJ, List.getElem_set, List.getElem_map, List.getElem_range]
  by_cases e : k = i
  · subst e; simp
  · rw [if_neg e]
    by_cases h : i < k
    · rw [if_pos h, if_pos (by omega)]
    · rw [if_neg h, if_neg (by omega)]

/-! ### What the jury's functions return -/

theorem vldJ_true {xss : List (List Nat)} (h : vldJ xss = true) : 1 ≤ xss.length ∧ xss.length ≤ 8 ∧ len0 xss ≤ 100 ∧ (∀ (i : Nat) (xs : List Nat), xss[i]? = some xs → xs.length = len0 xss) ∧ ∀ i k, labF xss i k ≤ 2 := by
  unfold vldJ at h
  simp only [Bool.and_eq_true, decide_eq_true_eq] at h
  obtain ⟨⟨⟨h1, h2⟩, h3⟩, h4⟩ := h
  have h5 : ∀ (i : Nat) (xs : List Nat), xss[i]? = some xs → rowOk (len0 xss) xs = true := fun i xs hi => List.all_eq_true.1 h4 xs (List.mem_of_getElem? hi)
  refine ⟨h1, h2, h3, fun i xs hi => ?_, fun i k => ?_⟩
  · have := h5 i xs hi
    unfold rowOk at this
    simp only [Bool.and_eq_true, decide_eq_true_eq] at this
    exact this.1
  · unfold labF
    cases e : xss[i]? with
    | none => simp
    | some xs =>
      have := h5 i xs e
      unfold rowOk at this
      simp only [Bool.and_eq_true, Bool.not_eq_true'] at this
      exact bigN_le this.2 k

def recJ (xss : List (List Nat)) : List Nat × List Int × Int :=
  if vldJ xss = true then ((reconS (labF xss) xss.length (len0 xss)).1, (reconS (labF xss) xss.length (len0 xss)).2, 0) else ([], [], 2)

/-- Verdicts, weights and an error, in memory. -/
def RetJ (w : World) (r : List Nat × List Int × Int) (e : Ending) (w' : World) : Prop :=
  ∃ a1 c1 a2 c2, e = .returned (.tuple #[.slice a1 r.1.length c1, .slice a2 r.2.1.length c2, .int .i64 r.2.2]) ∧ RdN w'.heap.size w' a1 r.1 ∧ Rd w'.heap.size w' a2 r.2.1 ∧ Below w.heap.size w w'

theorem voteL_lt (lab : Nat → Nat → Nat) (J K : Nat) (ws : List Int) : ∀ x ∈ voteL lab J K ws, x < 256 := by
  intro x hx
  unfold voteL at hx
  obtain ⟨k, _, rfl⟩ := List.mem_map.1 hx
  unfold voteF
  have := verd_mem (sumW lab (fun i => ws[i]?.getD 0) 1 k J) (sumW lab (fun i => ws[i]?.getD 0) 2 k J)
  omega
theorem weighL_bd (lab : Nat → Nat → Nat) {J K : Nat} (hK : K ≤ 1000) (vs : List Nat) (i : Nat) : -1000000 ≤ (weighL lab J K vs)[i]?.getD 0 ∧ (weighL lab J K vs)[i]?.getD 0 ≤ 1000000 := by
  unfold weighL
  rw [List.getElem?_map]
  cases e : (List.range J)[i]? with
  | none => simp
  | some j =>
    have := weighF_bd (lab := lab) (K := K) (fun k => vs[k]?.getD 0) j
    simp only [Option.map_some, Option.getD_some]
    omega
theorem ones_bd (J i : Nat) : -1000000 ≤ (List.replicate J (1 : Int))[i]?.getD 0 ∧ (List.replicate J (1 : Int))[i]?.getD 0 ≤ 1000000 := by
  rw [List.getElem?_replicate]
  split <;> simp

theorem RdN.later {W W' : World} {a : Option Addr} {xs : List Nat} (h : RdN W.heap.size W a xs) (hb : Below W.heap.size W W') : RdN W'.heap.size W' a xs := (h.below (Nat.le_refl _) hb).mono hb.size
theorem Rd.later {W W' : World} {a : Option Addr} {xs : List Int} (h : Rd W.heap.size W a xs) (hb : Below W.heap.size W W') : Rd W'.heap.size W' a xs := (h.below (Nat.le_refl _) hb).mono hb.size
theorem RdL.later {W W' : World} {a : Option Addr} {xss : List (List Nat)} (h : RdL W.heap.size W a xss) (hb : Below W.heap.size W W') : RdL W'.heap.size W' a xss := (h.below (Nat.le_refl _) hb).mono hb.size


end Go.Proofs.YtbfigbpjoaccdaaGreat

/- The program's vote: the verdicts that follow from labels and weights. -/
import Derived.Test.YtaejdgjfnoefjaaJB
import Derived.Test.YtaejdgjfnoefjaaJury
namespace Go.Proofs.Ytaejdgjfnoefjaa
open Go Go.RowKit Go.Shelf
set_option linter.unusedVariables false
set_option linter.unusedSimpArgs false

/-- What inspector i said of part k. -/
def labF (xss : List (List Nat)) (i k : Nat) : Nat := ((xss[i]?.getD [])[k]?).getD 0

/-- The first k of f, and 0 behind. -/
def layU (f : Nat → Nat) (n k : Nat) : List Nat := (List.range n).map fun i => if i < k then f i else 0
theorem layU_length (f : Nat → Nat) (n k : Nat) : (layU f n k).length = n := by simp [layU]
theorem layU_zero (f : Nat → Nat) (n : Nat) : layU f n 0 = List.replicate n 0 := by
  refine List.ext_getElem (by simp [layU]) fun i h1 h2 => ?_
  simp [layU]
theorem layU_all (f : Nat → Nat) (n : Nat) : layU f n n = (List.range n).map f := by
  refine List.ext_getElem (by simp [layU]) fun i h1 h2 => ?_
  simp only [layU, List.getElem_map, List.getElem_range]
  simp [layU] at h1
  simp [h1]
theorem layU_set (f : Nat → Nat) {n k : Nat} (hk : k < n) : (layU f n k).set k (f k) = layU f n (k + 1) := by
  refine List.ext_getElem (by simp [layU]) fun i h1 h2 => ?_
  simp only [layU, List.getElem_set, List.getElem_map, List.getElem_range]
  by_cases e : k = i
  · subst e; simp
  · rw [if_neg e]
    by_cases h : i < k
    · rw [if_pos h, if_pos (by omega)]
    · rw [if_neg h, if_neg (by omega)]

/-- The three sums of a part, over the first m inspectors. -/
def triJ (lab : Nat → Nat → Nat) (w : Nat → Int) (k m : Nat) : Array Value := #[.int .i64 (sumW lab w 0 k m), .int .i64 (sumW lab w 1 k m), .int .i64 (sumW lab w 2 k m)]
theorem triJ_cell (lab : Nat → Nat → Nat) (w : Nat → Int) (k m : Nat) {l : Nat} (hl : l ≤ 2) : (triJ lab w k m)[l]? = some (.int .i64 (sumW lab w l k m)) := by
  have : l = 0 ∨ l = 1 ∨ l = 2 := by omega
  rcases this with rfl | rfl | rfl <;> rfl
theorem triJ_step (lab : Nat → Nat → Nat) (w : Nat → Int) (k m : Nat) {l : Nat} (hl : l ≤ 2) (h : lab m k = l) : (triJ lab w k m).setIfInBounds l (.int .i64 (sumW lab w l k m + w m)) = triJ lab w k (m + 1) := by
  have : l = 0 ∨ l = 1 ∨ l = 2 := by omega
  rcases this with rfl | rfl | rfl <;> simp [triJ, sumW, sumJ, h]
theorem sumW_bd (lab : Nat → Nat → Nat) (w : Nat → Int) (v k m : Nat) (hm : m ≤ 100) (h : ∀ i, i < m → -1000000 ≤ w i ∧ w i ≤ 1000000) : -100000000 ≤ sumW lab w v k m ∧ sumW lab w v k m ≤ 100000000 := by
  have := sumJ_bd (f := fun i => if lab i k = v then w i else 0) (B := 1000000) (n := m) fun i hi => by
    have := h i hi
    split <;> omega
  unfold sumW
  omega
theorem sumW_zero (lab : Nat → Nat → Nat) (w : Nat → Int) (v k : Nat) : sumW lab w v k 0 = 0 := rfl
theorem triJ_zero (lab : Nat → Nat → Nat) (w : Nat → Int) (k : Nat) : triJ lab w k 0 = #[.int .i64 0, .int .i64 0, .int .i64 0] := rfl


set_option maxRecDepth 100000 in
set_option maxHeartbeats 2000000 in
theorem vote_any (xss : List (List Nat)) (J K : Nat) (hJ : xss.length = J) (hJ0 : 0 < J) (hJ1 : J ≤ 100) (hK1 : K ≤ 1000) (hlen : ∀ (i : Nat) (xs : List Nat), xss[i]? = some xs → xs.length = K) (hlab : ∀ i k, labF xss i k ≤ 2) (ws : List Int) (hws : ws.length = J) (hwb : ∀ i : Nat, -1000000 ≤ ws[i]?.getD 0 ∧ ws[i]?.getD 0 ≤ 1000000)
    (a aw : Option Addr) (c cw : Nat) (w : World) (hr : RdL w.heap.size w a xss) (hw : Rd w.heap.size w aw ws) :
    Calls Try.prog 39 #[.slice a J c, .slice aw J cw] w fun e w' => ∃ g, e = .returned (.slice (some ⟨g, 0, none⟩) K K) ∧ w'.ownsRow w.heap.size 5 1 (.slice (some ⟨g, 0, none⟩) K K) K ((voteL (labF xss) J K ws).map vu8) ∧ Below w.heap.size w w' := by
  obtain ⟨i0, hi, hz0, hz1, hz2⟩ := info_parts jinfo_u8
  obtain ⟨xs0, hxs0⟩ : ∃ x, xss[0]? = some x := ⟨_, List.getElem?_eq_getElem (by omega)⟩
  obtain ⟨b, o, rfl, hb, a0, c0, hc0, hr0⟩ := hr.at hxs0
  have hl0 := hlen 0 xs0 hxs0
  rw [hl0] at hc0
  have hJH := Lib.hid hJ
  have hzH := Lib.hid (jmade_u8 K)
  have hwsH := Lib.hid hws
  have hlenH := Lib.hid hlen
  have hlabH := Lib.hid hlab
  have hrH := Lib.hid hr
  clear hJ hws hlen hlab hr hl0 hr0
  have hc0' := hc0
  rw [show o + 0 = o from rfl] at hc0'
  go_enter Try.func39, Try.ntmps39
  go_wp2_with (at_make; refine wpList_make_full _ rfl _ _ 23 rfl w.heap.size 5 i0 (.int .u8 0) 1 Try.underlying23 hi hz0 hz1 .i64 .i64 (K : Int) (K : Int) K rfl rfl (by simp) (by simp) (by rw [hz2]; omega) (by unfold maxLen; omega) (by simp) ?_; intro w1 hown hg)
  rw [hzH.out, ← layU_zero (voteF (labF xss) (fun i => ws[i]?.getD 0) J) K] at hown
  obtain ⟨vF, hvF⟩ : ∃ f, voteF (labF xss) (fun i => ws[i]?.getD 0) J = f := ⟨_, rfl⟩
  rw [hvF] at hown
  have hB1 : Below w.heap.size w w1 := (Below.refl _ _).grown hg (Nat.le_refl _) (fun k e => by cases e)
  clear hc0 hc0' hxs0
  go_loopw [18] (fun i wr => ∃ k : Nat, k ≤ K ∧ i = .int .i64 (k : Int) ∧ wr.ownsRow w.heap.size 5 1 (.slice (some ⟨w.heap.size, 0, none⟩) K K) K ((layU vF K k).map vu8) ∧ Below w.heap.size w wr) (fun i _ => K - (intOf i).toNat)
  case atStart => exact ⟨0, Nat.zero_le _, rfl, hown, hB1⟩
  case round =>
    clear hown hB1 hg
    obtain ⟨k, hk, rfl, rowk, hB⟩ := hrel
    by_cases hlt : k < K
    · have hnew := Blk.new wr 95 (triJ (labF xss) (fun i => ws[i]?.getD 0) k 0)
      obtain ⟨V, hV⟩ : ∃ V, wr.alloc (.cells (triJ (labF xss) (fun i => ws[i]?.getD 0) k 0) 95) = V := ⟨_, rfl⟩
      have hBV : Below w.heap.size w V := hV ▸ jb_al hB _
      have hgV : Below wr.heap.size wr V := hV ▸ jb_al (Below.refl _ _) _
      have rowV := row_below rowk hgV
      rw [hV] at hnew
      have hsz : w.heap.size ≤ wr.heap.size := hB.size
      have hzs : w.heap.size < wr.heap.size := by
        rcases rowk.2 with ⟨h, _⟩ | ⟨g, cap, cur, h, _, h2, _⟩
        · cases h
        · simp only [Value.slice.injEq, Option.some.injEq, Addr.mk.injEq, true_and, and_true] at h
          rw [← h.1] at h2
          exact (Array.getElem?_eq_some_iff.1 h2).1
      have hVs : wr.heap.size < V.heap.size := hnew.lt
      clear rowk hB hgV
      rw [triJ_zero] at hV
      go_wp2_with fail
      obtain ⟨B1, hB1⟩ : ∃ n, wr.heap.size = n := ⟨_, rfl⟩
      rw [hB1] at hnew hsz hzs hVs ⊢
      clear hV hB1
      clear wr
      go_loopw [23] (fun i wr => ∃ m : Nat, m ≤ J ∧ i = .int .i64 (m : Int) ∧ Blk wr B1 95 (triJ (labF xss) (fun i => ws[i]?.getD 0) k m) ∧ wr.ownsRow w.heap.size 5 1 (.slice (some ⟨w.heap.size, 0, none⟩) K K) K ((layU vF K k).map vu8) ∧ Below w.heap.size w wr) (fun i _ => J - (intOf i).toNat)
      case atStart => exact ⟨0, Nat.zero_le _, rfl, hnew, rowV, hBV⟩
      case round =>
        clear hnew rowV hBV hVs
        obtain ⟨m, hm, rfl, hbk, rowm, hB⟩ := hrel
        by_cases hmt : m < J
        · obtain ⟨xs, hxs⟩ : ∃ x, xss[m]? = some x := ⟨_, List.getElem?_eq_getElem (by have := hJH.out; omega)⟩
          obtain ⟨b', o', hbo, _, a1, c1, hc1, hr1⟩ := hrH.out.at hxs
          simp only [Option.some.injEq, Addr.mk.injEq, and_true] at hbo
          obtain ⟨rfl, rfl⟩ := hbo
          have hxl := hlenH.out m xs hxs
          rw [hxl] at hc1
          have hc1' := (hB.cell (p := ⟨b, o + m, none⟩) hb).trans hc1
          rcases hr1 with h0 | ⟨b1, o1, rfl, hb1, hcl⟩
          · exfalso; rw [h0] at hxl; simp at hxl; omega
          have hcl1 := (hB.cell (p := ⟨b1, o1 + k, none⟩) hb1).trans (hcl k (by omega))
          have hlk : labF xss m k = xs[k]?.getD 0 := by unfold labF; rw [hxs]; rfl
          rw [← hlk] at hcl1
          obtain ⟨l, hl⟩ : ∃ l, labF xss m k = l := ⟨_, rfl⟩
          have hl2 : l ≤ 2 := hl ▸ hlabH.out m k
          rw [hl] at hcl1
          rcases hw with h0 | ⟨b2, o2, rfl, hb2, hcw⟩
          · exfalso; have := hwsH.out; rw [h0] at this; simp at this; omega
          have hcw1 := (hB.cell (p := ⟨b2, o2 + m, none⟩) hb2).trans (hcw m (by have := hwsH.out; omega))
          obtain ⟨u, hu⟩ : ∃ u, ws[m]?.getD 0 = u := ⟨_, rfl⟩
          have hub : -1000000 ≤ u ∧ u ≤ 1000000 := hu ▸ hwb m
          obtain ⟨ub1, ub2⟩ := hub
          rw [hu] at hcw1
          obtain ⟨s, hs⟩ : ∃ s, sumW (labF xss) (fun i => ws[i]?.getD 0) l k m = s := ⟨_, rfl⟩
          obtain ⟨sb1, sb2⟩ : -100000000 ≤ s ∧ s ≤ 100000000 := hs ▸ sumW_bd _ _ l k m (by omega) (fun i _ => hwb i)
          have hcs := hbk.cell (triJ_cell (labF xss) (fun i => ws[i]?.getD 0) k m hl2)
          rw [hs] at hcs
          have hstep : (triJ (labF xss) (fun i => ws[i]?.getD 0) k m).setIfInBounds l (.int .i64 (s + u)) = triJ (labF xss) (fun i => ws[i]?.getD 0) k (m + 1) := by
            rw [← hs, ← hu]; exact triJ_step _ _ k m hl2 hl
          have hstepH := Lib.hid hstep
          have hfr := hbk.frozen l
          have hS0 : wr.drew.heap = wr.heap := rfl
          clear hc1 hcl hlk hl hu hs hstep hcw hxl hxs
          go_wp2_with fail
          refine plain_region (fun W' => W'.heap = wr.heap) 12 13 (by kernel_rfl) rfl ?_
          simp only [Array.replicate_succ, Array.replicate_zero, List.push_toArray, List.nil_append, List.cons_append]
          refine take_op 0 (v := ?rv0) rfl (by kernel_rfl) (fun _ _ _ h => h) (by rfl) hS0 (fun w' hS' => ?ry0) ?rz0
          case ry0 =>
            go_simp
            rfl
          simp only [List.setIfInBounds_toArray, List.set_cons_zero, List.set_cons_succ]
          refine take_op 1 (v := ?rv1) rfl (by kernel_rfl) (fun _ _ _ h => h) (by rfl) hS0 (fun w' hS' => ?ry1) ?rz1
          case ry1 =>
            go_simp
            rfl
          simp only [List.setIfInBounds_toArray, List.set_cons_zero, List.set_cons_succ]
          refine take_op 2 (v := ?rv2) rfl (by kernel_rfl) (fun _ _ _ h => h) (by rfl) hS0 (fun w' hS' => ?ry2) ?rz2
          case ry2 =>
            go_simp
            try go_ints
            first
            | rfl
            | (rw [if_pos (by omega)]; done)
            | rw [if_pos ⟨by omega, by omega⟩]
          simp only [List.setIfInBounds_toArray, List.set_cons_zero, List.set_cons_succ]
          refine take_op 3 (v := ?rv3) rfl (by kernel_rfl) (fun _ _ _ h => h) (by rfl) hS0 (fun w' hS' => ?ry3) ?rz3
          case ry3 =>
            have e1 := (World.cell?_of_block (w := wr) (w' := w') (a := ⟨b1, o1 + k, none⟩) (by rw [hS'])).trans hcl1
            have e2 := (World.cell?_of_block (w := wr) (w' := w') (a := ⟨b2, o2 + m, none⟩) (by rw [hS'])).trans hcw1
            have e3 := (World.cell?_of_block (w := wr) (w' := w') (a := ⟨B1, l, none⟩) (by rw [hS'])).trans hcs
            clear hS'
            go_simp
            rfl
          simp only [List.setIfInBounds_toArray, List.set_cons_zero, List.set_cons_succ]
          refine take_op 4 (v := ?rv4) rfl (by kernel_rfl) (fun _ _ _ h => h) (by rfl) hS0 (fun w' hS' => ?ry4) ?rz4
          case ry4 =>
            go_simp
            try go_ints
            first
            | rfl
            | (rw [if_pos (by omega)]; done)
            | rw [if_pos ⟨by omega, by omega⟩]
          simp only [List.setIfInBounds_toArray, List.set_cons_zero, List.set_cons_succ]
          refine take_op 5 (v := ?rv5) rfl (by kernel_rfl) (fun _ _ _ h => h) (by rfl) hS0 (fun w' hS' => ?ry5) ?rz5
          case ry5 =>
            have e1 := (World.cell?_of_block (w := wr) (w' := w') (a := ⟨b1, o1 + k, none⟩) (by rw [hS'])).trans hcl1
            have e2 := (World.cell?_of_block (w := wr) (w' := w') (a := ⟨b2, o2 + m, none⟩) (by rw [hS'])).trans hcw1
            have e3 := (World.cell?_of_block (w := wr) (w' := w') (a := ⟨B1, l, none⟩) (by rw [hS'])).trans hcs
            clear hS'
            go_simp
            rfl
          simp only [List.setIfInBounds_toArray, List.set_cons_zero, List.set_cons_succ]
          refine take_op 6 (v := ?rv6) rfl (by kernel_rfl) (fun _ _ _ h => h) (by rfl) hS0 (fun w' hS' => ?ry6) ?rz6
          case ry6 =>
            go_simp
            rfl
          simp only [List.setIfInBounds_toArray, List.set_cons_zero, List.set_cons_succ]
          refine take_op 7 (v := ?rv7) rfl (by kernel_rfl) (fun _ _ _ h => h) (by rfl) hS0 (fun w' hS' => ?ry7) ?rz7
          case ry7 =>
            go_simp
            rfl
          simp only [List.setIfInBounds_toArray, List.set_cons_zero, List.set_cons_succ]
          refine take_op 8 (v := ?rv8) rfl (by kernel_rfl) (fun _ _ _ h => h) (by rfl) hS0 (fun w' hS' => ?ry8) ?rz8
          case ry8 =>
            go_simp
            try go_ints
            first
            | rfl
            | (rw [if_pos (by omega)]; done)
            | rw [if_pos ⟨by omega, by omega⟩]
          simp only [List.setIfInBounds_toArray, List.set_cons_zero, List.set_cons_succ]
          refine take_op 9 (v := ?rv9) rfl (by kernel_rfl) (fun _ _ _ h => h) (by rfl) hS0 (fun w' hS' => ?ry9) ?rz9
          case ry9 =>
            have e1 := (World.cell?_of_block (w := wr) (w' := w') (a := ⟨b1, o1 + k, none⟩) (by rw [hS'])).trans hcl1
            have e2 := (World.cell?_of_block (w := wr) (w' := w') (a := ⟨b2, o2 + m, none⟩) (by rw [hS'])).trans hcw1
            have e3 := (World.cell?_of_block (w := wr) (w' := w') (a := ⟨B1, l, none⟩) (by rw [hS'])).trans hcs
            clear hS'
            go_simp
            rfl
          simp only [List.setIfInBounds_toArray, List.set_cons_zero, List.set_cons_succ]
          refine take_op 10 (v := ?rv10) rfl (by kernel_rfl) (fun _ _ _ h => h) (by rfl) hS0 (fun w' hS' => ?ry10) ?rz10
          case ry10 =>
            go_simp
            try go_ints
            rfl
          simp only [List.setIfInBounds_toArray, List.set_cons_zero, List.set_cons_succ]
          refine take_op 11 (v := ?rv11) rfl (by kernel_rfl) (fun _ _ _ h => h) (by rfl) hS0 (fun w' hS' => ?ry11) ?rz11
          case ry11 =>
            go_simp
            try go_ints
            first
            | rfl
            | (rw [if_pos (by omega)]; done)
            | rw [if_pos ⟨by omega, by omega⟩]
          simp only [List.setIfInBounds_toArray, List.set_cons_zero, List.set_cons_succ]
          refine step_op 12 (by kernel_rfl) rfl (fun K hK => ?_)
          have hfr2 : wr.drew.frozen? ⟨B1, l, none⟩ = false := hfr
          have hcs2 : wr.drew.cell? ⟨B1, l, none⟩ = some (.int .i64 s) := hcs
          rw [if_pos (by rfl)]
          go_simp
          refine hK.out _ _ (fun h => absurd h (by omega)) ?_
          clear hK K
          try simp only [Act.put, List.setIfInBounds_toArray, List.set_cons_zero, List.set_cons_succ]
          refine done_ops (by kernel_rfl) ?_
          go_wp2_with fail
          go_roundw
          case rel =>
            have k1 : Blk wr.drew B1 95 (triJ (labF xss) (fun i => ws[i]?.getD 0) k m) := hbk
            have k2 := k1.set l (.int .i64 (s + u))
            rw [hstepH.out] at k2
            exact ⟨m + 1, by omega, by go_num, k2, row_setCell (W := wr.drew) (a := ⟨B1, l, none⟩) rowm (by simp [Value.ownBlock]; omega) _, (hB.drew).setCell (p := ⟨B1, l, none⟩) hsz _⟩
          case measure => simp [intOf]; omega
        · have hmJ : m = J := by omega
          subst hmJ
          obtain ⟨s1, hs1⟩ : ∃ s, sumW (labF xss) (fun i => ws[i]?.getD 0) 1 k m = s := ⟨_, rfl⟩
          obtain ⟨s2, hs2⟩ : ∃ s, sumW (labF xss) (fun i => ws[i]?.getD 0) 2 k m = s := ⟨_, rfl⟩
          obtain ⟨p1, p2⟩ : -100000000 ≤ s1 ∧ s1 ≤ 100000000 := hs1 ▸ sumW_bd _ _ 1 k m (by omega) (fun i _ => hwb i)
          obtain ⟨p3, p4⟩ : -100000000 ≤ s2 ∧ s2 ≤ 100000000 := hs2 ▸ sumW_bd _ _ 2 k m (by omega) (fun i _ => hwb i)
          have d1 := hbk.cell (triJ_cell (labF xss) (fun i => ws[i]?.getD 0) k m (l := 1) (by omega))
          have d2 := hbk.cell (triJ_cell (labF xss) (fun i => ws[i]?.getD 0) k m (l := 2) (by omega))
          rw [hs1] at d1
          rw [hs2] at d2
          have hvk : vF k = verd s1 s2 := by rw [← hvF, ← hs1, ← hs2]; rfl
          have hst := fun z : Nat => rowm.stored k (.int .u8 (z : Int))
          simp only [map_set_u8] at hst
          have hset : (layU vF K k).set k (verd s1 s2) = layU vF K (k + 1) := by rw [← hvk]; exact layU_set vF hlt
          have hfr := rowm.frozenAt k
          have hcell := rowm.cellAt k (by rw [Nat.mul_one]; exact hlt)
          rw [List.getElem?_map, List.getElem?_eq_getElem (by rw [layU_length]; exact hlt)] at hcell
          simp only [Option.map_some] at hcell
          obtain ⟨y, hy⟩ : ∃ y, (layU vF K k)[k]'(by rw [layU_length]; exact hlt) = y := ⟨_, rfl⟩
          rw [hy] at hcell
          change wr.cell? ⟨w.heap.size, k, none⟩ = some (.int .u8 (y : Int)) at hcell
          have hstH := Lib.hid hst
          have hsetH := Lib.hid hset
          clear hst hset hs1 hs2 hvk hy
          have fin : ∀ z : Nat, z = verd s1 s2 → (wr.setCell ⟨w.heap.size, k, none⟩ (.int .u8 (z : Int))).ownsRow w.heap.size 5 1 (.slice (some ⟨w.heap.size, 0, none⟩) K K) K ((layU vF K (k + 1)).map vu8) ∧ Below w.heap.size w (wr.setCell ⟨w.heap.size, k, none⟩ (.int .u8 (z : Int))) := by
            intro z hz
            have h1 := (hstH.out z).1
            rw [hz, hsetH.out] at h1
            rw [hz]
            exact ⟨h1, hB.setCell (p := ⟨w.heap.size, k, none⟩) (Nat.le_refl _) _⟩
          have finH := Lib.hid fin
          clear fin
          by_cases g1 : s2 < s1
          · have e1 : (decide (0 < s1 - s2)) = true := by simp; omega
            go_wp2_with fail
            go_roundw
            case rel => exact ⟨k + 1, by omega, by go_num, (finH.out 1 (((verd_one _ _).2 g1).symm)).1, (finH.out 1 (((verd_one _ _).2 g1).symm)).2⟩
            case measure => simp [intOf]; omega
          · by_cases g2 : s1 < s2
            · go_wp2_with fail
              go_roundw
              case rel => exact ⟨k + 1, by omega, by go_num, (finH.out 2 (((verd_two _ _).2 g2).symm)).1, (finH.out 2 (((verd_two _ _).2 g2).symm)).2⟩
              case measure => simp [intOf]; omega
            · have g3 := Lib.hid (show 3 = verd s1 s2 by unfold verd; rw [if_neg g1, if_neg g2])
              go_wp2_with fail
              go_roundw
              case rel => exact ⟨k + 1, by omega, by go_num, (finH.out 3 g3.out).1, (finH.out 3 g3.out).2⟩
              case measure => simp [intOf]; omega
    · have hkK : k = K := by omega
      subst hkK
      rw [layU_all, ← hvF] at rowk
      go_wp2_with fail
      go_ret
      exact ⟨_, rfl, rowk, hB⟩

end Go.Proofs.Ytaejdgjfnoefjaa

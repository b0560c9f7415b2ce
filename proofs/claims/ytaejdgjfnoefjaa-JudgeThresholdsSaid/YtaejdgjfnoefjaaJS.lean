/- The specification's weights and its Reconcile. -/
import Derived.Test.YtaejdgjfnoefjaaJR
namespace Go.Proofs.Ytaejdgjfnoefjaa
open Go Go.RowKit Go.Shelf
set_option linter.unusedVariables false
set_option linter.unusedSimpArgs false

theorem jrow_weaken {W : World} {base base' : Nat} {e : TypeId} {size : Nat} {v : Value} {k : Nat} {xs : List Value} (h : W.ownsRow base e size v k xs) (hb : base' ≤ base) : W.ownsRow base' e size v k xs := by
  refine ⟨h.1, ?_⟩
  rcases h.2 with h1 | ⟨g, cap, cur, h1, h2, h3⟩
  · exact .inl h1
  · exact .inr ⟨g, cap, cur, h1, Nat.le_trans hb h2, h3⟩

theorem netJ_bd (lab : Nat → Nat → Nat) (v : Nat → Nat) (i k : Nat) : -(k : Int) ≤ netJ lab v i k ∧ netJ lab v i k ≤ k := by
  have := sumJ_bd (f := fun k => scoreJ (v k) (lab i k)) (B := 1) (n := k) fun k _ => scoreJ_bd _ _
  unfold netJ
  omega
theorem netJ_succ (lab : Nat → Nat → Nat) (v : Nat → Nat) (i k : Nat) : netJ lab v i (k + 1) = netJ lab v i k + scoreJ (v k) (lab i k) := rfl


set_option maxRecDepth 100000 in
set_option maxHeartbeats 2000000 in
theorem Weighed_any (xss : List (List Nat)) (J K : Nat) (hJ : xss.length = J) (hJ1 : J ≤ 100) (hK1 : K ≤ 1000) (hlen : ∀ (i : Nat) (xs : List Nat), xss[i]? = some xs → xs.length = K) (vs : List Nat) (hvs : vs.length = K)
    (a av : Option Addr) (c cv : Nat) (w : World) (hr : RdL w.heap.size w a xss) (hv : RdN w.heap.size w av vs) :
    Calls Try.prog 44 #[.slice a J c, .slice av K cv] w fun e w' => ∃ s sc, e = .returned (.slice s J sc) ∧ w'.ownsRow w.heap.size 3 1 (.slice s J sc) J ((weighL (labF xss) J K vs).map (Value.int .i64)) ∧ Below w.heap.size w w' := by
  obtain ⟨i0, hi, hz0, hz1, hz2⟩ := info_parts jinfo_int
  have hJH := Lib.hid hJ
  have hvsH := Lib.hid hvs
  have hlenH := Lib.hid hlen
  have hrH := Lib.hid hr
  have hvH := Lib.hid hv
  obtain ⟨wF, hwF⟩ : ∃ f, weighF (labF xss) (fun k => vs[k]?.getD 0) K = f := ⟨_, rfl⟩
  clear hJ hvs hlen hr hv
  go_enter Try.func44, Try.ntmps44
  go_wp2
  go_loopw [5, 6] (fun v i wr => ∃ m : Nat, m ≤ J ∧ i = .int .i64 (m : Int) ∧ wr.ownsRow w.heap.size 3 1 v m (((List.range m).map wF).map (Value.int .i64)) ∧ Below w.heap.size w wr) (fun _ i _ => J - (intOf i).toNat)
  case atStart => exact ⟨0, Nat.zero_le _, rfl, World.ownsRow_nil _ _ _ _, Below.refl _ _⟩
  case round =>
    obtain ⟨m, hm, rfl, rowm, hB⟩ := hrel
    by_cases hmt : m < J
    · obtain ⟨xs, hxs⟩ : ∃ x, xss[m]? = some x := ⟨_, List.getElem?_eq_getElem (by have := hJH.out; omega)⟩
      obtain ⟨b, o, rfl, hb, a1, c1, hc1, hr1⟩ := hrH.out.at hxs
      have hxl := hlenH.out m xs hxs
      rw [hxl] at hc1
      have hlkH := Lib.hid (show ∀ k, labF xss m k = xs[k]?.getD 0 from fun k => by unfold labF; rw [hxs]; rfl)
      have hxlH := Lib.hid hxl
      clear hxl hxs
      go_wp2_with fail
      go_loopw [7, 8] (fun y i wr => ∃ k : Nat, k ≤ K ∧ i = .int .i64 (k : Int) ∧ y = .int .i64 (netJ (labF xss) (fun k => vs[k]?.getD 0) m k) ∧ wr.ownsRow w.heap.size 3 1 u5 m (((List.range m).map wF).map (Value.int .i64)) ∧ Below w.heap.size w wr) (fun _ i _ => K - (intOf i).toNat)
      case atStart => exact ⟨0, Nat.zero_le _, rfl, rfl, rowm, hB⟩
      case round =>
        clear rowm hB
        obtain ⟨k, hk, rfl, rfl, rowm, hB⟩ := hrel
        obtain ⟨nb1, nb2⟩ := netJ_bd (labF xss) (fun k => vs[k]?.getD 0) m k
        by_cases hlt : k < K
        · have hc1' := (hB.cell (p := ⟨b, o + m, none⟩) hb).trans hc1
          rcases hr1 with h0 | ⟨b1, o1, rfl, hb1, hcl⟩
          · exfalso; have := hxlH.out; rw [h0] at this; simp at this; omega
          have hcl1 := (hB.cell (p := ⟨b1, o1 + k, none⟩) hb1).trans (hcl k (by have := hxlH.out; omega))
          rw [← hlkH.out k] at hcl1
          rcases hvH.out with h0 | ⟨b2, o2, rfl, hb2, hcv⟩
          · exfalso; have := hvsH.out; rw [h0] at this; simp at this; omega
          have hcv1 := (hB.cell (p := ⟨b2, o2 + k, none⟩) hb2).trans (hcv k (by have := hvsH.out; omega))
          have hsc := netJ_succ (labF xss) (fun k => vs[k]?.getD 0) m k
          obtain ⟨l, hl⟩ : ∃ l, labF xss m k = l := ⟨_, rfl⟩
          obtain ⟨v, hv⟩ : ∃ v, vs[k]?.getD 0 = v := ⟨_, rfl⟩
          obtain ⟨nt, hnt⟩ : ∃ n, netJ (labF xss) (fun k => vs[k]?.getD 0) m k = n := ⟨_, rfl⟩
          simp only [hl, hv] at hsc
          rw [hl] at hcl1
          rw [hv] at hcv1
          rw [hnt] at hsc nb1 nb2 ⊢
          have hscH := Lib.hid hsc
          have hS0 : wr.drew.heap = wr.heap := rfl
          clear hcl hcv hl hv hnt hsc
          by_cases e3 : v = 3
          · subst e3
            go_wp2_with fail
            go_roundw
            case rel => exact ⟨k + 1, by omega, by go_num, by rw [hscH.out]; simp [scoreJ], rowm, hB⟩
            case measure => simp [intOf]; omega
          · have f1 : ((v : Int) == 3) = false := by simp; omega
            have f2 : ¬ (v : Int) = 3 := by omega
            by_cases e0 : l = 0
            · subst e0
              go_wp2_with fail
              go_roundw
              case rel => exact ⟨k + 1, by omega, by go_num, by rw [hscH.out]; simp [scoreJ], rowm, hB⟩
              case measure => simp [intOf]; omega
            · have f3 : ((l : Int) == 0) = false := by simp; omega
              have f4 : ¬ (l : Int) = 0 := by omega
              by_cases e : l = v
              · have hs1 := Lib.hid (show scoreJ v l = 1 by unfold scoreJ; rw [if_neg (by omega), if_pos e])
                have ed : ((l : Int) == (v : Int)) = true := by simp [e]
                go_wp2_with fail
                refine plain_region (fun W' => W'.heap = wr.heap) 12 12 (by kernel_rfl) rfl ?_
                simp only [Array.replicate_succ, Array.replicate_zero, List.push_toArray, List.nil_append, List.cons_append]
                refine take_op 0 (v := ?pv0) rfl (by kernel_rfl) (fun _ _ _ h => h) (by rfl) hS0 (fun w' hS' => ?py0) ?pz0
                case py0 =>
                  go_simp
                  rfl
                simp only [List.setIfInBounds_toArray, List.set_cons_zero, List.set_cons_succ]
                refine take_op 1 (v := ?pv1) rfl (by kernel_rfl) (fun _ _ _ h => h) (by rfl) hS0 (fun w' hS' => ?py1) ?pz1
                case py1 =>
                  go_simp
                  rfl
                simp only [List.setIfInBounds_toArray, List.set_cons_zero, List.set_cons_succ]
                refine take_op 2 (v := ?pv2) rfl (by kernel_rfl) (fun _ _ _ h => h) (by rfl) hS0 (fun w' hS' => ?py2) ?pz2
                case py2 =>
                  go_simp
                  try go_ints
                  first
                  | rfl
                  | (rw [if_pos (by omega)]; done)
                  | rw [if_pos ⟨by omega, by omega⟩]
                simp only [List.setIfInBounds_toArray, List.set_cons_zero, List.set_cons_succ]
                refine take_op 3 (v := ?pv3) rfl (by kernel_rfl) (fun _ _ _ h => h) (by rfl) hS0 (fun w' hS' => ?py3) ?pz3
                case py3 =>
                  have c1 := (World.cell?_of_block (w := wr) (w' := w') (a := ⟨b, o + m, none⟩) (by rw [hS'])).trans hc1'
                  have c2 := (World.cell?_of_block (w := wr) (w' := w') (a := ⟨b1, o1 + k, none⟩) (by rw [hS'])).trans hcl1
                  have c3 := (World.cell?_of_block (w := wr) (w' := w') (a := ⟨b2, o2 + k, none⟩) (by rw [hS'])).trans hcv1
                  clear hS'
                  go_simp
                  rfl
                simp only [List.setIfInBounds_toArray, List.set_cons_zero, List.set_cons_succ]
                refine take_op 4 (v := ?pv4) rfl (by kernel_rfl) (fun _ _ _ h => h) (by rfl) hS0 (fun w' hS' => ?py4) ?pz4
                case py4 =>
                  go_simp
                  rfl
                simp only [List.setIfInBounds_toArray, List.set_cons_zero, List.set_cons_succ]
                refine take_op 5 (v := ?pv5) rfl (by kernel_rfl) (fun _ _ _ h => h) (by rfl) hS0 (fun w' hS' => ?py5) ?pz5
                case py5 =>
                  go_simp
                  try go_ints
                  first
                  | rfl
                  | (rw [if_pos (by omega)]; done)
                  | rw [if_pos ⟨by omega, by omega⟩]
                simp only [List.setIfInBounds_toArray, List.set_cons_zero, List.set_cons_succ]
                refine take_op 6 (v := ?pv6) rfl (by kernel_rfl) (fun _ _ _ h => h) (by rfl) hS0 (fun w' hS' => ?py6) ?pz6
                case py6 =>
                  have c1 := (World.cell?_of_block (w := wr) (w' := w') (a := ⟨b, o + m, none⟩) (by rw [hS'])).trans hc1'
                  have c2 := (World.cell?_of_block (w := wr) (w' := w') (a := ⟨b1, o1 + k, none⟩) (by rw [hS'])).trans hcl1
                  have c3 := (World.cell?_of_block (w := wr) (w' := w') (a := ⟨b2, o2 + k, none⟩) (by rw [hS'])).trans hcv1
                  clear hS'
                  go_simp
                  rfl
                simp only [List.setIfInBounds_toArray, List.set_cons_zero, List.set_cons_succ]
                refine take_op 7 (v := ?pv7) rfl (by kernel_rfl) (fun _ _ _ h => h) (by rfl) hS0 (fun w' hS' => ?py7) ?pz7
                case py7 =>
                  go_simp
                  rfl
                simp only [List.setIfInBounds_toArray, List.set_cons_zero, List.set_cons_succ]
                refine take_op 8 (v := ?pv8) rfl (by kernel_rfl) (fun _ _ _ h => h) (by rfl) hS0 (fun w' hS' => ?py8) ?pz8
                case py8 =>
                  go_simp
                  rfl
                simp only [List.setIfInBounds_toArray, List.set_cons_zero, List.set_cons_succ]
                refine take_op 9 (v := ?pv9) rfl (by kernel_rfl) (fun _ _ _ h => h) (by rfl) hS0 (fun w' hS' => ?py9) ?pz9
                case py9 =>
                  go_simp
                  try go_ints
                  first
                  | rfl
                  | (rw [if_pos (by omega)]; done)
                  | rw [if_pos ⟨by omega, by omega⟩]
                simp only [List.setIfInBounds_toArray, List.set_cons_zero, List.set_cons_succ]
                refine take_op 10 (v := ?pv10) rfl (by kernel_rfl) (fun _ _ _ h => h) (by rfl) hS0 (fun w' hS' => ?py10) ?pz10
                case py10 =>
                  have c1 := (World.cell?_of_block (w := wr) (w' := w') (a := ⟨b, o + m, none⟩) (by rw [hS'])).trans hc1'
                  have c2 := (World.cell?_of_block (w := wr) (w' := w') (a := ⟨b1, o1 + k, none⟩) (by rw [hS'])).trans hcl1
                  have c3 := (World.cell?_of_block (w := wr) (w' := w') (a := ⟨b2, o2 + k, none⟩) (by rw [hS'])).trans hcv1
                  clear hS'
                  go_simp
                  rfl
                simp only [List.setIfInBounds_toArray, List.set_cons_zero, List.set_cons_succ]
                refine take_op 11 (v := .bool true) rfl (by kernel_rfl) (fun _ _ _ h => h) (by rfl) hS0 (fun w' hS' => ?py11) ?pz11
                case py11 =>
                  go_simp
                  try simp only [ed]
                  try rfl
                  try omega
                simp only [List.setIfInBounds_toArray, List.set_cons_zero, List.set_cons_succ]
                refine done_ops (by kernel_rfl) ?_
                go_wp2_with fail
                go_roundw
                case rel => exact ⟨k + 1, by omega, by go_num, by rw [hscH.out, hs1.out], rowm.drew, hB.drew⟩
                case measure => simp [intOf]; omega
              · have hs1 := Lib.hid (show scoreJ v l = -1 by unfold scoreJ; rw [if_neg (by omega), if_neg e])
                have ed : ((l : Int) == (v : Int)) = false := by simp; omega
                go_wp2_with fail
                refine plain_region (fun W' => W'.heap = wr.heap) 12 12 (by kernel_rfl) rfl ?_
                simp only [Array.replicate_succ, Array.replicate_zero, List.push_toArray, List.nil_append, List.cons_append]
                refine take_op 0 (v := ?qv0) rfl (by kernel_rfl) (fun _ _ _ h => h) (by rfl) hS0 (fun w' hS' => ?qy0) ?qz0
                case qy0 =>
                  go_simp
                  rfl
                simp only [List.setIfInBounds_toArray, List.set_cons_zero, List.set_cons_succ]
                refine take_op 1 (v := ?qv1) rfl (by kernel_rfl) (fun _ _ _ h => h) (by rfl) hS0 (fun w' hS' => ?qy1) ?qz1
                case qy1 =>
                  go_simp
                  rfl
                simp only [List.setIfInBounds_toArray, List.set_cons_zero, List.set_cons_succ]
                refine take_op 2 (v := ?qv2) rfl (by kernel_rfl) (fun _ _ _ h => h) (by rfl) hS0 (fun w' hS' => ?qy2) ?qz2
                case qy2 =>
                  go_simp
                  try go_ints
                  first
                  | rfl
                  | (rw [if_pos (by omega)]; done)
                  | rw [if_pos ⟨by omega, by omega⟩]
                simp only [List.setIfInBounds_toArray, List.set_cons_zero, List.set_cons_succ]
                refine take_op 3 (v := ?qv3) rfl (by kernel_rfl) (fun _ _ _ h => h) (by rfl) hS0 (fun w' hS' => ?qy3) ?qz3
                case qy3 =>
                  have c1 := (World.cell?_of_block (w := wr) (w' := w') (a := ⟨b, o + m, none⟩) (by rw [hS'])).trans hc1'
                  have c2 := (World.cell?_of_block (w := wr) (w' := w') (a := ⟨b1, o1 + k, none⟩) (by rw [hS'])).trans hcl1
                  have c3 := (World.cell?_of_block (w := wr) (w' := w') (a := ⟨b2, o2 + k, none⟩) (by rw [hS'])).trans hcv1
                  clear hS'
                  go_simp
                  rfl
                simp only [List.setIfInBounds_toArray, List.set_cons_zero, List.set_cons_succ]
                refine take_op 4 (v := ?qv4) rfl (by kernel_rfl) (fun _ _ _ h => h) (by rfl) hS0 (fun w' hS' => ?qy4) ?qz4
                case qy4 =>
                  go_simp
                  rfl
                simp only [List.setIfInBounds_toArray, List.set_cons_zero, List.set_cons_succ]
                refine take_op 5 (v := ?qv5) rfl (by kernel_rfl) (fun _ _ _ h => h) (by rfl) hS0 (fun w' hS' => ?qy5) ?qz5
                case qy5 =>
                  go_simp
                  try go_ints
                  first
                  | rfl
                  | (rw [if_pos (by omega)]; done)
                  | rw [if_pos ⟨by omega, by omega⟩]
                simp only [List.setIfInBounds_toArray, List.set_cons_zero, List.set_cons_succ]
                refine take_op 6 (v := ?qv6) rfl (by kernel_rfl) (fun _ _ _ h => h) (by rfl) hS0 (fun w' hS' => ?qy6) ?qz6
                case qy6 =>
                  have c1 := (World.cell?_of_block (w := wr) (w' := w') (a := ⟨b, o + m, none⟩) (by rw [hS'])).trans hc1'
                  have c2 := (World.cell?_of_block (w := wr) (w' := w') (a := ⟨b1, o1 + k, none⟩) (by rw [hS'])).trans hcl1
                  have c3 := (World.cell?_of_block (w := wr) (w' := w') (a := ⟨b2, o2 + k, none⟩) (by rw [hS'])).trans hcv1
                  clear hS'
                  go_simp
                  rfl
                simp only [List.setIfInBounds_toArray, List.set_cons_zero, List.set_cons_succ]
                refine take_op 7 (v := ?qv7) rfl (by kernel_rfl) (fun _ _ _ h => h) (by rfl) hS0 (fun w' hS' => ?qy7) ?qz7
                case qy7 =>
                  go_simp
                  rfl
                simp only [List.setIfInBounds_toArray, List.set_cons_zero, List.set_cons_succ]
                refine take_op 8 (v := ?qv8) rfl (by kernel_rfl) (fun _ _ _ h => h) (by rfl) hS0 (fun w' hS' => ?qy8) ?qz8
                case qy8 =>
                  go_simp
                  rfl
                simp only [List.setIfInBounds_toArray, List.set_cons_zero, List.set_cons_succ]
                refine take_op 9 (v := ?qv9) rfl (by kernel_rfl) (fun _ _ _ h => h) (by rfl) hS0 (fun w' hS' => ?qy9) ?qz9
                case qy9 =>
                  go_simp
                  try go_ints
                  first
                  | rfl
                  | (rw [if_pos (by omega)]; done)
                  | rw [if_pos ⟨by omega, by omega⟩]
                simp only [List.setIfInBounds_toArray, List.set_cons_zero, List.set_cons_succ]
                refine take_op 10 (v := ?qv10) rfl (by kernel_rfl) (fun _ _ _ h => h) (by rfl) hS0 (fun w' hS' => ?qy10) ?qz10
                case qy10 =>
                  have c1 := (World.cell?_of_block (w := wr) (w' := w') (a := ⟨b, o + m, none⟩) (by rw [hS'])).trans hc1'
                  have c2 := (World.cell?_of_block (w := wr) (w' := w') (a := ⟨b1, o1 + k, none⟩) (by rw [hS'])).trans hcl1
                  have c3 := (World.cell?_of_block (w := wr) (w' := w') (a := ⟨b2, o2 + k, none⟩) (by rw [hS'])).trans hcv1
                  clear hS'
                  go_simp
                  rfl
                simp only [List.setIfInBounds_toArray, List.set_cons_zero, List.set_cons_succ]
                refine take_op 11 (v := .bool false) rfl (by kernel_rfl) (fun _ _ _ h => h) (by rfl) hS0 (fun w' hS' => ?qy11) ?qz11
                case qy11 =>
                  go_simp
                  try simp only [ed]
                  try rfl
                  try omega
                simp only [List.setIfInBounds_toArray, List.set_cons_zero, List.set_cons_succ]
                refine done_ops (by kernel_rfl) ?_
                go_wp2_with fail
                go_roundw
                case rel => exact ⟨k + 1, by omega, by go_num, by rw [hscH.out, hs1.out]; rfl, rowm.drew, hB.drew⟩
                case measure => simp [intOf]; omega
        · have hkK : k = K := by omega
          subst hkK
          have hnew := layI_snoc wF m
          obtain ⟨nt, hnt⟩ : ∃ n, netJ (labF xss) (fun k => vs[k]?.getD 0) m k = n := ⟨_, rfl⟩
          obtain ⟨mx, hmx⟩ : ∃ n, max nt 0 = n := ⟨_, rfl⟩
          have hwm : wF m = mx := by rw [← hwF, ← hmx, ← hnt]; rfl
          rw [hwm] at hnew
          rw [hnt] at nb1 nb2 ⊢
          have hnewH := Lib.hid hnew
          clear hnew hwm hnt
          have hownA := rowm.alloc (.cells #[.int .i64 mx] 3)
          have hBA := jb_al hB (.cells #[.int .i64 mx] 3)
          go_wp2_with (at_builtin; refine wpList_append_own _ rfl _ _ 24 rfl w.heap.size 3 i0 (.int .i64 0) 1 8 Try.underlying24 hi hz0 hz1 hz2 rfl (by decide) u5 m (((List.range m).map wF).map (Value.int .i64)) rfl hownA ⟨wr.heap.size, 0, none⟩ 1 1 [.int .i64 mx] rfl rfl (cell_one_new _ _ _) (by simp [Value.oneCell']) (by unfold maxLen; omega) (by omega) hBA.size ?_; intro v' w4 hown' hgrow hnil)
          rw [hnewH.out] at hown'
          have hBB := hBA.trans (below_of_row (n := w.heap.size) hownA hgrow (Nat.le_refl _) hBA.size)
          go_roundw
          case rel => exact ⟨m + 1, by omega, by go_num, hown', hBB⟩
          case measure => simp [intOf]; omega
    · have hmJ : m = J := by omega
      subst hmJ
      rw [← hwF] at rowm
      obtain ⟨sa, sc, rfl⟩ := jrow_slice rowm
      go_wp2_with fail
      go_ret
      exact ⟨_, _, rfl, rowm, hB⟩

end Go.Proofs.Ytaejdgjfnoefjaa

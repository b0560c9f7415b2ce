/- 'swapped' of the judge's law package: labels with Pass and Fail exchanged, in a list of its own. -/
import Derived.Test.YtbfigbpjoaccdaaGreatUFairL
import Derived.Test.YtbfigbpjoaccdaaGreatULawJuries
import Derived.Test.YtbfigbpjoaccdaaGreatQC9
namespace Go.Proofs.YtbfigbpjoaccdaaGreat
open Go Go.RowKit Go.Shelf
set_option linter.unusedVariables false
set_option linter.unusedSimpArgs false

theorem take_map_w {xs : List Nat} {m : Nat} (hm : m < xs.length) {x : Nat} (hx : xs[m]?.getD 0 = x) : ((xs.take m).map swapL).map vu8 ++ [vu8 (swapL x)] = ((xs.take (m + 1)).map swapL).map vu8 := by
  rw [List.getElem?_eq_getElem hm] at hx
  simp only [Option.getD_some] at hx
  rw [List.take_succ_eq_append_getElem hm, hx]
  simp
set_option maxRecDepth 100000 in
set_option maxHeartbeats 4000000 in
theorem swapped_any (a : Option Addr) (c n : Nat) (xs : List Nat) (hn : xs.length = n) (hm : n ≤ 140737488355328) (w : World) (hr : RdN w.heap.size w a xs) :
    Calls Tryz.prog 30 #[.slice a n c] w fun e w' => ∃ a' c', e = .returned (.slice a' n c') ∧ w'.ownsRow w.heap.size 5 1 (.slice a' n c') n ((xs.map swapL).map vu8) ∧ Below w.heap.size w w' := by
  obtain ⟨i0, hi, hz0, hz1, hz2⟩ := info_parts jinfo_u8
  have hnH := Lib.hid hn
  have hrH := Lib.hid hr
  clear hn hr
  go_enter Tryz.func30, Tryz.ntmps30
  go_wp2
  go_loopw [3, 4] (fun v i wr => ∃ m : Nat, m ≤ n ∧ i = .int .i64 (m : Int) ∧ wr.ownsRow w.heap.size 5 1 v m (((xs.take m).map swapL).map vu8) ∧ Below w.heap.size w wr) (fun _ i _ => n - (intOf i).toNat)
  case atStart => exact ⟨0, Nat.zero_le _, rfl, World.ownsRow_nil _ _ _ _, Below.refl _ _⟩
  case round =>
    obtain ⟨m, hm1, rfl, rowm, hB⟩ := hrel
    by_cases hmt : m < n
    · have hml : m < xs.length := by have := hnH.out; omega
      rcases hrH.out with h0 | ⟨b, o, rfl, hb, hc⟩
      · rw [h0] at hml; simp at hml
      have hcell := (hB.cell (p := ⟨b, o + m, none⟩) hb).trans (hc m hml)
      obtain ⟨x, hx⟩ : ∃ x, xs[m]?.getD 0 = x := ⟨_, rfl⟩
      have ht := take_map_w hml hx
      rw [hx] at hcell
      clear hc hx
      by_cases h1 : x = 1
      · subst h1
        have htH := Lib.hid (show ((xs.take m).map swapL).map vu8 ++ [.int .u8 2] = _ from ht)
        clear ht
        have hownA := rowm.alloc (.cells #[.int .u8 2] 5)
        have hBA : Below w.heap.size w (wr.alloc (.cells #[.int .u8 2] 5)) := jb_al hB _
        go_wp2_with (at_builtin; refine wpList_append_own _ rfl _ _ 28 rfl w.heap.size 5 i0 (.int .u8 0) 1 1 Tryz.underlying28 hi hz0 hz1 hz2 rfl (by decide) u3 m (((xs.take m).map swapL).map (vu8)) rfl hownA ⟨wr.heap.size, 0, none⟩ 1 1 [.int .u8 2] rfl rfl (cell_one_new _ _ _) (by simp [Value.oneCell']) (by unfold maxLen; omega) (by omega) hBA.size ?_; intro v' w4 hown' hgrow hnil)
        rw [htH.out] at hown'
        have hBB := hBA.trans (below_of_row (n := w.heap.size) hownA hgrow (Nat.le_refl _) hBA.size)
        go_roundw
        case rel => exact ⟨m + 1, by omega, by go_num, hown', hBB⟩
        case measure => simp [intOf]; omega
      by_cases h2 : x = 2
      · subst h2
        have htH := Lib.hid (show ((xs.take m).map swapL).map vu8 ++ [.int .u8 1] = _ from ht)
        clear ht
        have hownA := rowm.alloc (.cells #[.int .u8 1] 5)
        have hBA : Below w.heap.size w (wr.alloc (.cells #[.int .u8 1] 5)) := jb_al hB _
        go_wp2_with (at_builtin; refine wpList_append_own _ rfl _ _ 28 rfl w.heap.size 5 i0 (.int .u8 0) 1 1 Tryz.underlying28 hi hz0 hz1 hz2 rfl (by decide) u3 m (((xs.take m).map swapL).map (vu8)) rfl hownA ⟨wr.heap.size, 0, none⟩ 1 1 [.int .u8 1] rfl rfl (cell_one_new _ _ _) (by simp [Value.oneCell']) (by unfold maxLen; omega) (by omega) hBA.size ?_; intro v' w4 hown' hgrow hnil)
        rw [htH.out] at hown'
        have hBB := hBA.trans (below_of_row (n := w.heap.size) hownA hgrow (Nat.le_refl _) hBA.size)
        go_roundw
        case rel => exact ⟨m + 1, by omega, by go_num, hown', hBB⟩
        case measure => simp [intOf]; omega
      rw [show swapL x = x by unfold swapL; rw [if_neg h1, if_neg h2]] at ht
      have htH := Lib.hid (show ((xs.take m).map swapL).map vu8 ++ [.int .u8 (x : Int)] = _ from ht)
      have e1 : ((x : Int) == 1) = false := by simp; omega
      have e2 : ((x : Int) == 2) = false := by simp; omega
      have e3 : ¬ (x : Int) = 1 := by omega
      have e4 : ¬ (x : Int) = 2 := by omega
      clear ht
      have hownA := rowm.alloc (.cells #[.int .u8 (x : Int)] 5)
      have hBA : Below w.heap.size w (wr.alloc (.cells #[.int .u8 (x : Int)] 5)) := jb_al hB _
      go_wp2_with (at_builtin; refine wpList_append_own _ rfl _ _ 28 rfl w.heap.size 5 i0 (.int .u8 0) 1 1 Tryz.underlying28 hi hz0 hz1 hz2 rfl (by decide) u3 m (((xs.take m).map swapL).map (vu8)) rfl hownA ⟨wr.heap.size, 0, none⟩ 1 1 [.int .u8 (x : Int)] rfl rfl (cell_one_new _ _ _) (by simp [Value.oneCell']) (by unfold maxLen; omega) (by omega) hBA.size ?_; intro v' w4 hown' hgrow hnil)
      rw [htH.out] at hown'
      have hBB := hBA.trans (below_of_row (n := w.heap.size) hownA hgrow (Nat.le_refl _) hBA.size)
      go_roundw
      case rel => exact ⟨m + 1, by omega, by go_num, hown', hBB⟩
      case measure => simp [intOf]; omega
    · have hmn : m = n := by omega
      subst hmn
      obtain ⟨sa, sc, rfl⟩ := jrow_slice rowm
      rw [List.take_of_length_le (by rw [hnH.out]; exact Nat.le_refl _)] at rowm
      go_wp2
      go_ret
      exact ⟨sa, sc, rfl, rowm, hB⟩

end Go.Proofs.YtbfigbpjoaccdaaGreat

/- Contracts and laws (RpB). -/
import Derived.Test.YtbfigbpjoaccdaaGreatQC10
import Derived.Test.YtbfigbpjoaccdaaGreatQC3
namespace Go.Proofs.YtbfigbpjoaccdaaGreat
open Go Go.RowKit Go.Shelf
set_option linter.unusedVariables false
set_option linter.unusedSimpArgs false

theorem jinfo_bool : (Tryz.prog.info? 4).map (fun i => (i.zero, i.size, i.bytes)) = some (some (.bool false), 1, 1) := by kernel_rfl
theorem jmade_bool (n : Nat) : (madeCells (Value.bool false).cells (n * 1)).toList = (List.replicate n false).map Value.bool := by
  rw [Nat.mul_one]
  refine List.ext_getElem (by simp [size_madeCells]) fun i h1 h2 => ?_
  simp [madeCells, Value.cells, Nat.mod_one]
theorem row_rdB {W : World} {base g cap n : Nat} {bs : List Bool} (h : W.ownsRow base 4 1 (.slice (some ⟨g, 0, none⟩) n cap) n (bs.map Value.bool)) (hn : bs.length = n) (B : Nat) (hg : g < B) : RdB B W (some ⟨g, 0, none⟩) bs := by
  refine .inr ⟨g, 0, rfl, hg, fun i hi => ?_⟩
  have hc := h.cellAt i (by omega)
  simp only [List.getElem?_map] at hc
  rw [List.getElem?_eq_getElem hi] at hc ⊢
  simpa using hc

set_option maxRecDepth 100000 in
set_option maxHeartbeats 2000000 in
theorem RepeatB_any (v : Bool) (J : Nat) (hJ0 : 1 ≤ J) (hJ1 : J ≤ 100000) (b o c : Nat) (w : World) (hb : b < w.heap.size) (hc : w.cell? ⟨b, o, none⟩ = some (Value.bool v)) :
    Calls Tryz.prog 56 #[.slice (some ⟨b, o, none⟩) 1 c, .int .i64 J] w fun e w' => e = .returned (.slice (some ⟨w.heap.size, 0, none⟩) J J) ∧ w'.ownsRow w.heap.size 4 1 (.slice (some ⟨w.heap.size, 0, none⟩) J J) J (List.replicate J (Value.bool v)) ∧ Below w.heap.size w w' := by
  obtain ⟨i0, hi, hz0, hz1, hz2⟩ := info_parts jinfo_bool
  have hmul := Mul_any 1 J (by omega) (by omega)
  rw [Nat.one_mul, show J / 18446744073709551616 = 0 by omega, show J % 18446744073709551616 = J by omega] at hmul
  replace hmul : ∀ w, Calls Tryz.prog 95 #[.int .u64 1, .int .u64 J] w (fun e w' => e = .returned (.tuple #[.int .u64 0, .int .u64 J]) ∧ w = w') := fun w => (hmul w).mono fun e w' ⟨h1, h2⟩ => ⟨h1, h2.symm⟩
  have hzH := Lib.hid (jmade_bool J)
  obtain ⟨vv, hvv⟩ : ∃ u, (Value.bool v) = u := ⟨_, rfl⟩
  have hone : vv.oneCell' = true := by rw [← hvv]; rfl
  rw [hvv] at hc ⊢
  clear hvv
  have mk : ∀ w1 : World, w1.ownsRow w.heap.size 4 1 (.slice (some ⟨w.heap.size, 0, none⟩) J J) J (madeCells (.bool false : Value).cells (J * 1)).toList → w.grownBy w1 none → ∃ w2, Sem.run Tryz.prog (Builtin.copy_ #[108, 108] 3 #[.slice (some ⟨w.heap.size, 0, none⟩) J J, .slice (some ⟨b, o, none⟩) 1 c]) w1 = .ok (.int .i64 1) w2 ∧ Hid (w2.heap[w.heap.size]? = some (.cells (fillV vv (Value.bool false) J 1).toArray 4 (0, 0))) ∧ Below w.heap.size w w2 := by
    intro w1 hown hg
    rw [hzH.out] at hown
    have hW1 := row_whole hown
    have hB1 : Below w.heap.size w w1 := (Below.refl _ _).grown hg (Nat.le_refl _) (fun k e => by cases e)
    rw [List.map_replicate, show List.replicate J (Value.bool false) = fillV vv (Value.bool false) J 0 by simp [fillV]] at hW1
    have hcs1 : ∀ (j : Nat) (u : Value), [vv][j]? = some u → w1.cell? (Addr.add ⟨b, o, none⟩ j) = some u := fun j u hu => by
      cases j with
      | zero => simp at hu; rw [← hu, Addr.add_lit]; exact (hB1.cell (p := ⟨b, o, none⟩) hb).trans hc
      | succ j => simp at hu
    have hrun := run_copy_row (P := Tryz.prog) w1 108 108 3 4 w.heap.size 0 J J ⟨b, o, none⟩ 1 c _ _ [vv] Tryz.underlying108 (by kernel_rfl) hW1 (by show [vv].length = min 1 J; simp; omega) hcs1 (by simp [fillV_length (Nat.zero_le J)]; omega) (by simp [hone])
    have hsp := setRow_heap w1 w.heap.size _ (((fillV vv (Value.bool false) J 0).toArray.toList.take 0 ++ [vv] ++ (fillV vv (Value.bool false) J 0).toArray.toList.drop (0 + [vv].length)).toArray) _ _ hW1
    refine ⟨_, hrun, Lib.hid ?_, below_setRow hB1 (Nat.le_refl _) _⟩
    rw [hsp]
    have := fillV_grow (v := vv) (z := Value.bool false) (n := J) (k := 0) (m := 1) (by omega)
    rw [Nat.zero_add] at this
    rw [← this]
    simp [splice]
  have mkH := Lib.hid mk
  clear mk hc
  go_enter Tryz.func56, Tryz.ntmps56
  go_wp2_with (first
    | (go_at_call 95; refine (hmul _).mono ?_; rintro e w' ⟨rfl, rfl⟩)
    | (at_make; refine wpList_make_full _ rfl _ _ 108 rfl w.heap.size 4 i0 (.bool false) 1 Tryz.underlying108 hi hz0 hz1 .i64 .i64 (J : Int) (J : Int) J rfl rfl (by simp) (by simp) (by rw [hz2]; omega) (by unfold maxLen; omega) (by simp) ?_; intro w1 hown hg; obtain ⟨w2, hcp, hg2, hb2⟩ := mkH.out w1 hown hg; clear hown hg))
  clear hcp hmul hzH mkH
  clear w1
  go_loopw [8] (fun i wr => ∃ k : Nat, 1 ≤ k ∧ k ≤ J ∧ i = .int .i64 (k : Int) ∧ Hid (wr.heap[w.heap.size]? = some (.cells (fillV vv (Value.bool false) J k).toArray 4 (0, 0))) ∧ Below w.heap.size w wr) (fun i _ => J - (intOf i).toNat)
  case atStart => exact ⟨1, Nat.le_refl _, hJ0, rfl, hg2, hb2⟩
  case round =>
    clear hg2 hb2
    obtain ⟨k, hk1, hkJ, rfl, hrow, hB⟩ := hrel
    by_cases hlt : k < J
    · obtain ⟨m, hm⟩ : ∃ m, min k (J - k) = m := ⟨_, rfl⟩
      have hm0 : 1 ≤ m := by omega
      have hmk : k + m ≤ J := by omega
      have hS : Below w.heap.size w wr.drew := hB.drew
      have hrowd : Hid (wr.drew.heap[w.heap.size]? = some (.cells (fillV vv (Value.bool false) J k).toArray 4 (0, 0))) := hrow
      have hcells : Hid (∀ (j : Nat) (u : Value), (List.replicate m vv)[j]? = some u → wr.drew.cell? (Addr.add ⟨w.heap.size, 0, none⟩ j) = some u) := Lib.hid (fun j u hu => by
        rw [List.getElem?_replicate] at hu
        split at hu
        · rename_i hj
          simp only [Option.some.injEq] at hu
          rw [Addr.add_lit, Nat.zero_add]
          simp only [World.cell?, hrowd.out]
          rw [← hu]
          have := fillV_get (v := vv) (z := Value.bool false) (n := J) (k := k) (j := j) (by omega)
          simpa using this
        · cases hu)
      go_wp2_with fail
      refine plain_region (fun W' => Below w.heap.size w W') 10 10 (by kernel_rfl) rfl ?_
      simp only [Array.replicate_succ, Array.replicate_zero, List.push_toArray, List.nil_append, List.cons_append]
      refine take_op 0 (v := ?rv0) rfl (by kernel_rfl) (fun _ _ _ h => h) (by rfl) hS (fun w' hS' => ?ry0) ?rz0
      case ry0 =>
        go_simp
        rfl
      simp only [List.setIfInBounds_toArray, List.set_cons_zero, List.set_cons_succ]
      refine take_op 1 (v := ?rv1) rfl (by kernel_rfl) (fun _ _ _ h => h) (by rfl) hS (fun w' hS' => ?ry1) ?rz1
      case ry1 =>
        go_simp
        rfl
      simp only [List.setIfInBounds_toArray, List.set_cons_zero, List.set_cons_succ]
      refine take_op 2 (v := ?rv2) rfl (by kernel_rfl) (fun _ _ _ h => h) (by rfl) hS (fun w' hS' => ?ry2) ?rz2
      case ry2 =>
        go_simp
        rfl
      simp only [List.setIfInBounds_toArray, List.set_cons_zero, List.set_cons_succ]
      refine take_op 3 (v := ?rv3) rfl (by kernel_rfl) (fun _ _ _ h => h) (by rfl) hS (fun w' hS' => ?ry3) ?rz3
      case ry3 =>
        go_simp
        rfl
      simp only [List.setIfInBounds_toArray, List.set_cons_zero, List.set_cons_succ]
      refine take_op 4 (v := ?rv4) rfl (by kernel_rfl) (fun _ _ _ h => h) (by rfl) hS (fun w' hS' => ?ry4) ?rz4
      case ry4 =>
        go_simp
        rfl
      simp only [List.setIfInBounds_toArray, List.set_cons_zero, List.set_cons_succ]
      refine take_op 5 (v := ?rv5) rfl (by kernel_rfl) (fun _ _ _ h => h) (by rfl) hS (fun w' hS' => ?ry5) ?rz5
      case ry5 =>
        go_simp
        rfl
      simp only [List.setIfInBounds_toArray, List.set_cons_zero, List.set_cons_succ]
      refine take_op 6 (v := ?rv6) rfl (by kernel_rfl) (fun _ _ _ h => h) (by rfl) hS (fun w' hS' => ?ry6) ?rz6
      case ry6 =>
        go_simp
        rfl
      simp only [List.setIfInBounds_toArray, List.set_cons_zero, List.set_cons_succ]
      refine step_op 7 (by kernel_rfl) rfl (fun K hK => ?_)
      refine step_copy_splice rfl _ _ 108 108 rfl 4 Tryz.underlying108 (by kernel_rfl) _ _ _ _ _ _ rfl rfl w.heap.size k (fillV vv (Value.bool false) J k) 4 hrowd.out (List.replicate m vv) (by simp [← hm] <;> omega) (fun _ => ⟨by rw [if_neg (show ¬ J = k by omega)], _, rfl, hcells.out⟩) (by rw [fillV_length hkJ]; simp; omega) (by simp [hone]) w.heap.size w hS (Nat.le_refl _) ?_
      intro w3 hg3 hb3
      refine hK.out _ _ (fun h => hb3) ?_
      clear hK K
      try simp only [Act.put, List.setIfInBounds_toArray, List.set_cons_zero, List.set_cons_succ]
      refine take_op 8 (v := ?rv8) rfl (by kernel_rfl) (fun _ _ _ h => h) (by rfl) hb3 (fun w' hS' => ?ry8) ?rz8
      case ry8 =>
        go_simp
        try go_ints
        rfl
      simp only [List.setIfInBounds_toArray, List.set_cons_zero, List.set_cons_succ]
      refine take_op 9 (v := ?rv9) rfl (by kernel_rfl) (fun _ _ _ h => h) (by rfl) hb3 (fun w' hS' => ?ry9) ?rz9
      case ry9 =>
        go_simp
        rfl
      simp only [List.setIfInBounds_toArray, List.set_cons_zero, List.set_cons_succ]
      refine done_ops (by kernel_rfl) ?_
      go_wp2_with fail
      go_roundw
      case rel =>
        refine ⟨k + m, by omega, hmk, by go_num, Lib.hid ?_, hb3⟩
        rw [← fillV_grow hmk]
        exact hg3.out
      case measure => simp [intOf]; omega
    · have hkJ' : k = J := by omega
      subst hkJ'
      go_wp2_with fail
      go_ret
      have hrow' := hrow.out
      rw [fillV_all] at hrow'
      exact ⟨rfl, ⟨by simp, .inr ⟨w.heap.size, k, _, rfl, Nat.le_refl _, hrow', Nat.le_refl _, by unfold maxLen; omega, by simp, by simp⟩⟩, hB⟩

end Go.Proofs.YtbfigbpjoaccdaaGreat

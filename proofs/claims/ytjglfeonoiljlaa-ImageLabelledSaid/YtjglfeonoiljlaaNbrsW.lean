/- The contract of the law package's neighbours. -/
import Derived.Test.YtjglfeonoiljlaaNbrs
import Derived.Test.YtjglfeonoiljlaaImgI
import Derived.Deep.DeepCutAuto
namespace Go.Proofs.Ytjglfeonoiljlaa
open Go Go.RowKit Go.Shelf
set_option linter.unusedVariables false
set_option linter.unusedSimpArgs false

/-- The memory within 'neighbours': the list so far, the image's box. -/
structure NS (cs : Array Value) (w : World) (L : List Nat) (v : Value) (W : World) : Prop where
  own : W.ownsRow w.heap.size 3 1 v L.length (L.map fun k : Nat => Value.int .i64 (k : Int))
  k : Blk W w.heap.size 24 cs
  bel : Below w.heap.size w W

theorem NS.app {cs : Array Value} {w : World} {L : List Nat} {v v' : Value} {W W' : World} {x : Nat} {y : Int} {o : Obj} (h : NS cs w L v W) (hxy : y = (x : Int))
    (hown : W'.ownsRow w.heap.size 3 1 v' (L.length + 1) ((L.map fun k : Nat => Value.int .i64 (k : Int)) ++ [.int .i64 y])) (hg : (W.alloc o).grownBy W' v.ownBlock) : NS cs w (L ++ [x]) v' W' := by
  subst hxy
  refine ⟨?_, (h.k.alloc o).kept hg ((h.k.alloc o).not_row (by decide) (h.own.alloc o)), ?_⟩
  · rw [List.length_append, List.map_append]; exact hown
  · exact (below_al h.bel o).trans (below_of_row (n := w.heap.size) (h.own.alloc o) hg (Nat.le_refl _) (below_al h.bel o).size)

set_option maxRecDepth 100000 in
set_option maxHeartbeats 8000000 in
theorem lneighbours_any (pw ph i : Nat) (a : Option Addr) (c n : Nat) (h1 : 1 ≤ pw) (h2 : pw ≤ 16) (h3 : 1 ≤ ph) (h4 : ph ≤ 16) (hi : i < pw * ph) (w : World) :
    Calls Try.prog 63 #[imv pw ph a n c, .int .i64 i] w fun e w' => (∃ va vc, e = .returned (.slice va (nbrL pw ph i).length vc) ∧ w'.ownsRow w.heap.size 3 1 (.slice va (nbrL pw ph i).length vc) (nbrL pw ph i).length ((nbrL pw ph i).map fun k : Nat => Value.int .i64 (k : Int))) ∧ Below w.heap.size w w' := by
  obtain ⟨i0, hi0, hz0, hz1, hz2⟩ := info_parts info_int
  have hi256 : i < 256 := by have := Nat.mul_le_mul h2 h4; omega
  obtain ⟨L0, hL0⟩ : ∃ L : List Nat, [] = L := ⟨_, rfl⟩
  obtain ⟨L1, hL1⟩ : ∃ L, L0 ++ (if 0 < i % pw then [i - 1] else []) = L := ⟨_, rfl⟩
  obtain ⟨L2, hL2⟩ : ∃ L, L1 ++ (if i % pw + 1 < pw then [i + 1] else []) = L := ⟨_, rfl⟩
  obtain ⟨L3, hL3⟩ : ∃ L, L2 ++ (if pw ≤ i then [i - pw] else []) = L := ⟨_, rfl⟩
  obtain ⟨L4, hL4⟩ : ∃ L, L3 ++ (if i < pw * (ph - 1) then [i + pw] else []) = L := ⟨_, rfl⟩
  have hlen : L0.length = 0 ∧ L1.length ≤ 1 ∧ L2.length ≤ 2 ∧ L3.length ≤ 3 := by
    subst hL0 hL1 hL2 hL3
    simp only [List.length_append, List.length_nil]
    refine ⟨trivial, ?_, ?_, ?_⟩ <;> (repeat' split) <;> simp
  obtain ⟨l0, l1, l2, l3⟩ := hlen
  have hall : L4 = nbrL pw ph i := by subst hL0 hL1 hL2 hL3 hL4; simp [nbrL]
  have hL1H := Lib.hid hL1
  have hL2H := Lib.hid hL2
  have hL3H := Lib.hid hL3
  have hL4H := Lib.hid hL4
  rw [← hall]
  have z0 : L0.length ≤ 0 := by omega
  have hNS0 : ∀ W, Blk W w.heap.size 24 #[.int .i64 pw, .int .i64 ph, .slice a n c] → Below w.heap.size w W → NS #[.int .i64 pw, .int .i64 ph, .slice a n c] w L0 (.slice none 0 0) W := fun W hk hb => by subst hL0; exact ⟨World.ownsRow_nil _ _ _ _, hk, hb⟩
  clear hL0 hL1 hL2 hL3 hL4 hall l0
  have hB0 : Below w.heap.size w (w.alloc (.cells #[.int .i64 pw, .int .i64 ph, .slice a n c] 24)) := below_al (Below.refl _ _) _
  have k2 := Blk.new w 24 #[.int .i64 pw, .int .i64 ph, .slice a n c]
  have m1 : ((ph - 1 : Nat) : Int) = (ph : Int) - 1 := by omega
  have p1 : (pw : Int) * ((ph : Int) - 1) = ((pw * (ph - 1) : Nat) : Int) := by rw [Int.natCast_mul, m1]
  obtain ⟨p5, p6⟩ := mul_small (a := (pw : Int)) (b := ((ph : Int) - 1)) (m := 16) (n := 16) (by omega) (by omega) (by omega) (by omega)
  have x1 : (i : Int) % (pw : Int) = ((i % pw : Nat) : Int) := by simp
  have hm := Nat.mod_lt i (show 0 < pw by omega)
  have hmi := Nat.mod_le i pw
  have hpw0 : pw ≠ 0 := by omega
  have c1H : Hid (decide (0 < (i : Int) % (pw : Int)) = decide (0 < i % pw)) := Lib.hid (by rw [x1]; congr 1; exact propext ⟨fun h => by omega, fun h => by omega⟩)
  have c2H : Hid (decide ((i : Int) % (pw : Int) < (pw : Int) - 1) = decide (i % pw + 1 < pw)) := Lib.hid (by rw [x1]; congr 1; exact propext ⟨fun h => by omega, fun h => by omega⟩)
  have c3H : Hid (decide ((pw : Int) ≤ (i : Int)) = decide (pw ≤ i)) := Lib.hid (by congr 1; exact propext ⟨fun h => by omega, fun h => by omega⟩)
  have c4H : Hid (decide ((i : Int) < (pw : Int) * ((ph : Int) - 1)) = decide (i < pw * (ph - 1))) := Lib.hid (by rw [p1]; congr 1; exact propext ⟨fun h => by omega, fun h => by omega⟩)
  have hNS := hNS0 _ k2 hB0
  clear hNS0 p1 m1 x1 hB0
  obtain ⟨W, hW⟩ : ∃ W, w.alloc (.cells #[.int .i64 pw, .int .i64 ph, .slice a n c] 24) = W := ⟨_, rfl⟩
  rw [hW] at hNS k2
  have m0 := k2.cell (i := 0) rfl
  have m1 := k2.cell (i := 1) rfl
  have m2 := k2.cell (i := 2) rfl
  go_enter Try.func63, Try.ntmps63
  go_upto_if 10 with fail
  clear hW m0 m1 m2 k2
  go_cut [5] (fun s5 wx => ∃ v, v = s5 ∧ NS #[.int .i64 pw, .int .i64 ph, .slice a n c] w L1 v wx)
  case first =>
    have k2' := hNS.k
    have m0 := k2'.cell (i := 0) rfl
    have m1 := k2'.cell (i := 1) rfl
    have m2 := k2'.cell (i := 2) rfl
    by_cases hc : 0 < i % pw
    · have e : decide (0 < (i : Int) % (pw : Int)) = true := by rw [c1H.out]; exact decide_eq_true hc
      have e' := of_decide_eq_true e
      go_wp2_with (at_builtin; refine wpList_append_own _ rfl _ _ 22 rfl w.heap.size 3 i0 (.int .i64 0) 1 8 Try.underlying22 hi0 hz0 hz1 hz2 rfl (by decide) _ (L0).length _ rfl (hNS.own.alloc (.cells #[.int .i64 ((i : Int) - 1)] 3)) ⟨W.heap.size, 0, none⟩ 1 1 [.int .i64 ((i : Int) - 1)] rfl rfl (cell_one_new _ _ _) (by simp [Value.oneCell']) (by unfold maxLen; omega) (by omega) (below_al hNS.bel _).size ?_; intro v' w4 hown' hgrow hnil)
      have hn := hNS.app (x := i - 1) (by omega) hown' hgrow
      go_wp2_with fail
      go_meet
      rw [← hL1H.out, if_pos hc]
      exact ⟨_, rfl, hn⟩
    · have e : decide (0 < (i : Int) % (pw : Int)) = false := by rw [c1H.out]; exact decide_eq_false hc
      have e' := of_decide_eq_false e
      go_wp2_with fail
      go_meet
      rw [← hL1H.out, if_neg hc, List.append_nil]
      exact ⟨_, rfl, hNS⟩
  case rest =>
  clear hNS
  obtain ⟨s5, rfl, hs⟩ := hcut
  have k2' := hs.k
  have m0 := k2'.cell (i := 0) rfl
  have m1 := k2'.cell (i := 1) rfl
  have m2 := k2'.cell (i := 2) rfl
  clear k2'
  go_wp2_with fail
  clear m0 m1 m2
  have hSd : NS #[.int .i64 pw, .int .i64 ph, .slice a n c] w L1 s5 wc.drew := ⟨row_below hs.own (Below.refl _ _).drew, hs.k.below (Below.refl _ _).drew hs.k.lt, hs.bel.trans ((Below.refl _ _).drew.mono hs.bel.size)⟩
  refine plain_region (fun W' => NS #[.int .i64 pw, .int .i64 ph, .slice a n c] w L1 s5 W') 8 8 (by kernel_rfl) rfl ?_
  simp only [Array.replicate_succ, Array.replicate_zero, List.push_toArray, List.nil_append, List.cons_append]
  refine take_op 0 (v := ?uv0) rfl (by kernel_rfl) (fun _ _ _ h => h) (by rfl) hSd (fun w' hS' => ?uy0) ?uz0
  case uy0 =>
    go_simp
    rfl
  simp only [List.setIfInBounds_toArray, List.set_cons_zero, List.set_cons_succ]
  refine take_op 1 (v := ?uv1) rfl (by kernel_rfl) (fun _ _ _ h => h) (by rfl) hSd (fun w' hS' => ?uy1) ?uz1
  case uy1 =>
    go_simp
    rfl
  simp only [List.setIfInBounds_toArray, List.set_cons_zero, List.set_cons_succ]
  refine take_op 2 (v := ?uv2) rfl (by kernel_rfl) (fun _ _ _ h => h) (by rfl) hSd (fun w' hS' => ?uy2) ?uz2
  case uy2 =>
    have m0' := hS'.k.cell (i := 0) rfl
    go_simp
    rfl
  simp only [List.setIfInBounds_toArray, List.set_cons_zero, List.set_cons_succ]
  refine take_op 3 (v := ?uv3) rfl (by kernel_rfl) (fun _ _ _ h => h) (by rfl) hSd (fun w' hS' => ?uy3) ?uz3
  case uy3 =>
    go_simp
    try go_ints
    rfl
  simp only [List.setIfInBounds_toArray, List.set_cons_zero, List.set_cons_succ]
  refine take_op 4 (v := ?uv4) rfl (by kernel_rfl) (fun _ _ _ h => h) (by rfl) hSd (fun w' hS' => ?uy4) ?uz4
  case uy4 =>
    go_simp
    rfl
  simp only [List.setIfInBounds_toArray, List.set_cons_zero, List.set_cons_succ]
  refine take_op 5 (v := ?uv5) rfl (by kernel_rfl) (fun _ _ _ h => h) (by rfl) hSd (fun w' hS' => ?uy5) ?uz5
  case uy5 =>
    have m0' := hS'.k.cell (i := 0) rfl
    go_simp
    rfl
  simp only [List.setIfInBounds_toArray, List.set_cons_zero, List.set_cons_succ]
  refine take_op 6 (v := ?uv6) rfl (by kernel_rfl) (fun _ _ _ h => h) (by rfl) hSd (fun w' hS' => ?uy6) ?uz6
  case uy6 =>
    go_simp
    try go_ints
    rfl
  simp only [List.setIfInBounds_toArray, List.set_cons_zero, List.set_cons_succ]
  refine take_op 7 (v := ?uv7) rfl (by kernel_rfl) (fun _ _ _ h => h) (by rfl) hSd (fun w' hS' => ?uy7) ?uz7
  case uy7 =>
    go_simp
    try go_ints
    rfl
  simp only [List.setIfInBounds_toArray, List.set_cons_zero, List.set_cons_succ]
  refine done_ops (by kernel_rfl) ?_
  go_upto_if 23 with fail
  obtain ⟨wd, hwd⟩ : ∃ X, wc.drew = X := ⟨_, rfl⟩
  rw [hwd] at hSd ⊢
  clear hs hwd
  have hs := hSd
  clear hSd
  go_cut [5] (fun s5 wx => ∃ v, v = s5 ∧ NS #[.int .i64 pw, .int .i64 ph, .slice a n c] w L2 v wx)
  case first =>
    have k2' := hs.k
    have m0 := k2'.cell (i := 0) rfl
    have m1 := k2'.cell (i := 1) rfl
    have m2 := k2'.cell (i := 2) rfl
    by_cases hc : i % pw + 1 < pw
    · have e : decide ((i : Int) % (pw : Int) < (pw : Int) - 1) = true := by rw [c2H.out]; exact decide_eq_true hc
      have e' := of_decide_eq_true e
      go_wp2_with (at_builtin; refine wpList_append_own _ rfl _ _ 22 rfl w.heap.size 3 i0 (.int .i64 0) 1 8 Try.underlying22 hi0 hz0 hz1 hz2 rfl (by decide) _ (L1).length _ rfl (hs.own.alloc (.cells #[.int .i64 ((i : Int) + 1)] 3)) ⟨wd.heap.size, 0, none⟩ 1 1 [.int .i64 ((i : Int) + 1)] rfl rfl (cell_one_new _ _ _) (by simp [Value.oneCell']) (by unfold maxLen; omega) (by omega) (below_al hs.bel _).size ?_; intro v' w4 hown' hgrow hnil)
      have hn := hs.app (x := i + 1) (by omega) hown' hgrow
      go_wp2_with fail
      go_meet
      rw [← hL2H.out, if_pos hc]
      exact ⟨_, rfl, hn⟩
    · have e : decide ((i : Int) % (pw : Int) < (pw : Int) - 1) = false := by rw [c2H.out]; exact decide_eq_false hc
      have e' := of_decide_eq_false e
      go_wp2_with fail
      go_meet
      rw [← hL2H.out, if_neg hc, List.append_nil]
      exact ⟨_, rfl, hs⟩
  case rest =>
  clear hs
  obtain ⟨s5, rfl, hs⟩ := hcut
  have k2' := hs.k
  have m0 := k2'.cell (i := 0) rfl
  have m1 := k2'.cell (i := 1) rfl
  have m2 := k2'.cell (i := 2) rfl
  clear k2'
  go_upto_if 32 with fail
  clear m0 m1 m2
  go_cut [5] (fun s5 wx => ∃ v, v = s5 ∧ NS #[.int .i64 pw, .int .i64 ph, .slice a n c] w L3 v wx)
  case first =>
    have k2' := hs.k
    have m0 := k2'.cell (i := 0) rfl
    have m1 := k2'.cell (i := 1) rfl
    have m2 := k2'.cell (i := 2) rfl
    by_cases hc : pw ≤ i
    · have e : decide ((pw : Int) ≤ (i : Int)) = true := by rw [c3H.out]; exact decide_eq_true hc
      have e' := of_decide_eq_true e
      go_wp2_with (at_builtin; refine wpList_append_own _ rfl _ _ 22 rfl w.heap.size 3 i0 (.int .i64 0) 1 8 Try.underlying22 hi0 hz0 hz1 hz2 rfl (by decide) _ (L2).length _ rfl (hs.own.alloc (.cells #[.int .i64 ((i : Int) - (pw : Int))] 3)) ⟨wc.heap.size, 0, none⟩ 1 1 [.int .i64 ((i : Int) - (pw : Int))] rfl rfl (cell_one_new _ _ _) (by simp [Value.oneCell']) (by unfold maxLen; omega) (by omega) (below_al hs.bel _).size ?_; intro v' w4 hown' hgrow hnil)
      have hn := hs.app (x := i - pw) (by omega) hown' hgrow
      go_wp2_with fail
      go_meet
      rw [← hL3H.out, if_pos hc]
      exact ⟨_, rfl, hn⟩
    · have e : decide ((pw : Int) ≤ (i : Int)) = false := by rw [c3H.out]; exact decide_eq_false hc
      have e' := of_decide_eq_false e
      go_wp2_with fail
      go_meet
      rw [← hL3H.out, if_neg hc, List.append_nil]
      exact ⟨_, rfl, hs⟩
  case rest =>
  clear hs
  obtain ⟨s5, rfl, hs⟩ := hcut
  have k2' := hs.k
  have m0 := k2'.cell (i := 0) rfl
  have m1 := k2'.cell (i := 1) rfl
  have m2 := k2'.cell (i := 2) rfl
  clear k2'
  go_upto_if 47 with fail
  clear m0 m1 m2
  obtain ⟨q, hq⟩ : ∃ q, (pw : Int) * ((ph : Int) - 1) = q := ⟨_, rfl⟩
  rw [hq] at p5 p6 c4H ⊢
  clear hq
  go_cut [5] (fun s5 wx => ∃ v, v = s5 ∧ NS #[.int .i64 pw, .int .i64 ph, .slice a n c] w L4 v wx)
  case first =>
    have k2' := hs.k
    have m0 := k2'.cell (i := 0) rfl
    have m1 := k2'.cell (i := 1) rfl
    have m2 := k2'.cell (i := 2) rfl
    by_cases hc : i < pw * (ph - 1)
    · have e : decide ((i : Int) < q) = true := by rw [c4H.out]; exact decide_eq_true hc
      have e' := of_decide_eq_true e
      go_wp2_with (at_builtin; refine wpList_append_own _ rfl _ _ 22 rfl w.heap.size 3 i0 (.int .i64 0) 1 8 Try.underlying22 hi0 hz0 hz1 hz2 rfl (by decide) _ (L3).length _ rfl (hs.own.alloc (.cells #[.int .i64 ((i : Int) + (pw : Int))] 3)) ⟨wc.heap.size, 0, none⟩ 1 1 [.int .i64 ((i : Int) + (pw : Int))] rfl rfl (cell_one_new _ _ _) (by simp [Value.oneCell']) (by unfold maxLen; omega) (by omega) (below_al hs.bel _).size ?_; intro v' w4 hown' hgrow hnil)
      have hn := hs.app (x := i + pw) (by omega) hown' hgrow
      go_wp2_with fail
      go_meet
      rw [← hL4H.out, if_pos hc]
      exact ⟨_, rfl, hn⟩
    · have e : decide ((i : Int) < q) = false := by rw [c4H.out]; exact decide_eq_false hc
      have e' := of_decide_eq_false e
      go_wp2_with fail
      go_meet
      rw [← hL4H.out, if_neg hc, List.append_nil]
      exact ⟨_, rfl, hs⟩
  case rest =>
  clear hs
  obtain ⟨s5, rfl, hs⟩ := hcut
  have k2' := hs.k
  have m0 := k2'.cell (i := 0) rfl
  have m1 := k2'.cell (i := 1) rfl
  have m2 := k2'.cell (i := 2) rfl
  clear k2'
  obtain ⟨va, vc, rfl⟩ := row_slice hs.own
  go_wp2_with fail
  go_ret
  exact ⟨⟨va, vc, rfl, hs.own⟩, hs.bel⟩

end Go.Proofs.Ytjglfeonoiljlaa

/- The contracts of what the laws use: copies, comparisons, images that are spoilt; and of the specification's Blank, Source and ValidWarp. -/
import Derived.Test.YtbfigbpjoaccdaaImgD
import Derived.Laws.AppendOwnNone
namespace Go.Proofs.Ytbfigbpjoaccdaa
open Go Go.RowKit Go.Shelf
set_option linter.unusedVariables false
set_option linter.unusedSimpArgs false

theorem rd_cells {B : Nat} {W : World} {b o : Nat} {xs : List Int} (h : Rd B W (some ⟨b, o, none⟩) xs) (hn : xs ≠ []) : b < B ∧ ∀ i, i < xs.length → W.cell? ⟨b, o + i, none⟩ = some (.int .i64 (xs[i]?.getD 0)) := by
  rcases h with h | ⟨b', o', h1, h2, h3⟩
  · exact (hn h).elim
  · simp only [Option.some.injEq, Addr.mk.injEq, and_true] at h1
    obtain ⟨rfl, rfl⟩ := h1
    exact ⟨h2, h3⟩

/-- What a row of integers holds can be read. -/
theorem row_rd {W : World} {base : Nat} {a : Option Addr} {c : Nat} {xs : List Int} (h : W.ownsRow base 3 1 (.slice a xs.length c) xs.length (xs.map (Value.int .i64))) : Rd W.heap.size W a xs := by
  rcases h.2 with ⟨h1, h2⟩ | ⟨g, cap, cur, h1, _, hg, _⟩
  · exact .inl (List.eq_nil_of_length_eq_zero h2)
  · simp only [Value.slice.injEq, true_and] at h1
    obtain ⟨rfl, rfl⟩ := h1
    refine .inr ⟨g, 0, rfl, (Array.getElem?_eq_some_iff.1 hg).1, fun i hi => ?_⟩
    have := h.cellAt i (by omega)
    rw [Nat.zero_add, this]
    simp [hi]

theorem row_rd' {W : World} {base : Nat} {a : Option Addr} {c n : Nat} {xs : List Int} (hn : xs.length = n) (h : W.ownsRow base 3 1 (.slice a n c) n (xs.map (Value.int .i64))) : Rd W.heap.size W a xs := by
  subst hn; exact row_rd h

theorem row_nil {W : World} {base : Nat} {e : TypeId} {size : Nat} {n c : Nat} {xs : List Value} (h : W.ownsRow base e size (.slice none n c) n xs) : n = 0 ∧ c = 0 := by
  rcases h.2 with ⟨h1, h2⟩ | ⟨g, cap, cur, h1, _⟩
  · simp only [Value.slice.injEq, true_and] at h1; exact ⟨h2, h1.2⟩
  · simp at h1

set_option maxHeartbeats 1000000 in
theorem Twin_any (iw ih : Int) (a : Option Addr) (c n : Nat) (xs : List Int) (hn : Hid (xs.length = n)) (w : World) (hm : n * 8 ≤ 140737488355328) (hr : Rd w.heap.size w a xs) (hnil : Hid (a = none → n = 0 ∧ c = 0)) :
    Calls Try.prog 6 #[imv iw ih a n c] w fun e w' => ∃ v, e = .returned v ∧ OwnIm w.heap.size w' v iw ih xs ∧ Below w.heap.size w w' := by
  obtain ⟨i0, hi, hz0, hz1, hz2⟩ := info_parts info_int
  have k1 := (Blk.new w 27 #[.int .i64 iw, .int .i64 ih, .slice a n c]).alloc (.cells #[.int .i64 0, .int .i64 0, .slice none 0 0] 27)
  have k2 := Blk.new (w.alloc (.cells #[.int .i64 iw, .int .i64 ih, .slice a n c] 27)) 27 #[.int .i64 0, .int .i64 0, .slice none 0 0]
  have hB : Below w.heap.size w ((w.alloc (.cells #[.int .i64 iw, .int .i64 ih, .slice a n c] 27)).alloc (.cells #[.int .i64 0, .int .i64 0, .slice none 0 0] 27)) := below_al (below_al (Below.refl _ _) _) _
  obtain ⟨W, hW⟩ : ∃ W, (w.alloc (.cells #[.int .i64 iw, .int .i64 ih, .slice a n c] 27)).alloc (.cells #[.int .i64 0, .int .i64 0, .slice none 0 0] 27) = W := ⟨_, rfl⟩
  rw [hW] at k1 k2 hB
  simp only [World.size_alloc] at k2
  have rest : ∀ v W2, W2.ownsRow w.heap.size 3 1 v xs.length (xs.map (Value.int .i64)) → W.grownBy W2 none → ∃ s cc, v = .slice s n cc ∧ Blk W2 w.heap.size 27 #[.int .i64 iw, .int .i64 ih, .slice a n c] ∧ Blk W2 (w.heap.size + 1) 27 #[.int .i64 0, .int .i64 0, .slice none 0 0] ∧ Below w.heap.size w W2 := by
    intro v W2 hrow hg
    obtain ⟨s, cc, hs⟩ := row_slice hrow
    rw [hn.out] at hs
    exact ⟨s, cc, hs, k1.kept hg (by simp), k2.kept hg (by simp), hB.grown hg hB.size (fun k e => by cases e)⟩
  have fin : ∀ (s : Option Addr) (cc : Nat) (W2 : World), W2.ownsRow w.heap.size 3 1 (.slice s n cc) xs.length (xs.map (Value.int .i64)) → Blk W2 w.heap.size 27 #[.int .i64 iw, .int .i64 ih, .slice a n c] → Blk W2 (w.heap.size + 1) 27 #[.int .i64 0, .int .i64 0, .slice none 0 0] → Below w.heap.size w W2 →
      Blk (put3 (W2.setCell ⟨w.heap.size, 2, none⟩ (.slice s n cc)) (w.heap.size + 1) (.int .i64 iw) (.int .i64 ih) (.slice s n cc)) (w.heap.size + 1) 27 #[.int .i64 iw, .int .i64 ih, .slice s n cc] ∧
      OwnIm w.heap.size (put3 (W2.setCell ⟨w.heap.size, 2, none⟩ (.slice s n cc)) (w.heap.size + 1) (.int .i64 iw) (.int .i64 ih) (.slice s n cc)) (.agg #[.int .i64 iw, .int .i64 ih, .slice s n cc]) iw ih xs ∧ Below w.heap.size w (put3 (W2.setCell ⟨w.heap.size, 2, none⟩ (.slice s n cc)) (w.heap.size + 1) (.int .i64 iw) (.int .i64 ih) (.slice s n cc)) := by
    intro s cc W2 hrow h1 h2 hb
    have hrow2 := row_setCell hrow (a := ⟨w.heap.size, 2, none⟩) (h1.not_row (by decide) hrow) (.slice s n cc)
    have h3 := h2.other (a := ⟨w.heap.size, 2, none⟩) (by simp) (.slice s n cc)
    exact ⟨put3_blk h3 _ _ _, ⟨_, rfl, put3_row hrow2 (h3.not_row (by decide) hrow2) _ _ _⟩, (hb.setCell (p := ⟨w.heap.size, 2, none⟩) (Nat.le_refl _) _).trans (put3_below (by omega) _ _ _)⟩
  have c0 := k1.cell (i := 0) rfl
  have c1 := k1.cell (i := 1) rfl
  have c2 := k1.cell (i := 2) rfl
  go_enter Try.func6, Try.ntmps6
  cases a with
  | none =>
    obtain ⟨hn0, hc0⟩ := hnil.out rfl
    subst hn0 hc0
    have hx : xs = [] := List.eq_nil_of_length_eq_zero hn.out
    subst hx
    clear fin rest c0 c1 c2 k1 k2 hB hW hr hnil
    clear W
    go_wp2_with (at_builtin; refine wpList_append_own_none rfl _ _ 25 rfl w.heap.size 3 i0 1 Try.underlying25 hi (.slice none 0 0) 0 [] rfl (World.ownsRow_nil _ _ _ _) rfl ?_)
    exact bodyPost_ret (v := .agg #[.int .i64 iw, .int .i64 ih, .slice none 0 0]) (by simp [results, Try.results6, go_sem]) rfl ⟨_, rfl, ⟨_, rfl, World.ownsRow_nil _ _ _ _⟩, below_al (below_al (Below.refl _ _) _) _⟩
  | some ad =>
    have hcells : ∀ j u, (xs.map (Value.int .i64))[j]? = some u → W.cell? (ad.add j) = some u := by
      intro j u hu
      rcases hr with h0 | ⟨b, o, h1, h2, h3⟩
      · rw [h0] at hu; simp at hu
      · simp only [Option.some.injEq] at h1
        subst h1
        have hj : j < xs.length := by
          rcases Nat.lt_or_ge j xs.length with h | h
          · exact h
          · rw [List.getElem?_eq_none (by simpa using h)] at hu; cases hu
        have hadd : (⟨b, o, none⟩ : Addr).add j = ⟨b, o + j, none⟩ := by unfold Addr.add; split <;> simp_all
        rw [hadd, hB.cell (p := ⟨b, o + j, none⟩) h2, h3 j hj]
        simp [hj] at hu ⊢
        exact hu
    have hone : ∀ u ∈ xs.map (Value.int .i64), u.oneCell' = true := by
      intro u hu
      obtain ⟨x, _, rfl⟩ := List.mem_map.1 hu
      rfl
    have hcellsH := Lib.hid hcells
    have honeH := Lib.hid hone
    have hlen : (xs.map (Value.int .i64)).length = n * 1 := by rw [List.length_map, hn.out, Nat.mul_one]
    have hlenH := Lib.hid hlen
    clear hcells hone hlen
    have hWH := Lib.hid hW
    clear hW
    go_wp2_with (at_builtin; refine wpList_append_own _ rfl _ _ 25 rfl w.heap.size 3 i0 (.int .i64 0) 1 8 Try.underlying25 hi hz0 hz1 hz2 rfl (by decide) (.slice none 0 0) 0 [] rfl (World.ownsRow_nil _ _ _ _) ad n c (xs.map (Value.int .i64)) rfl hlenH.out (by rw [hWH.out]; exact hcellsH.out) honeH.out (by unfold maxLen; omega) (by omega) (by simp <;> omega) ?_; intro v' W2 hown hgrow hx; rw [hWH.out] at hgrow; rw [Nat.zero_add, List.nil_append] at hown; obtain ⟨s, cc, rfl, h1, h2, hb⟩ := rest v' W2 (by rw [hn.out]; exact hown) hgrow; have d0 := h1.cell (i := 0) rfl; have d1 := h1.cell (i := 1) rfl; have d2 := h1.cell (i := 2) rfl; have df := h1.frozen 2; have e0 := h2.cell (i := 0) rfl; have e1 := h2.cell (i := 1) rfl; have e2 := h2.cell (i := 2) rfl; have ef0 := h2.frozen 0; have ef1 := h2.frozen 1; have ef2 := h2.frozen 2)
    obtain ⟨kf, ko, kb⟩ := fin s cc W2 (by rw [hn.out]; exact hown) h1 h2 hb
    have g0 := kf.cell (i := 0) rfl
    have g1 := kf.cell (i := 1) rfl
    have g2 := kf.cell (i := 2) rfl
    exact bodyPost_ret (v := .agg #[.int .i64 iw, .int .i64 ih, .slice s n cc]) (by simp [results, Try.results6, go_sem, g0, g1, g2]) rfl ⟨_, rfl, ko, kb⟩


set_option maxRecDepth 100000 in
set_option maxHeartbeats 1000000 in
theorem SameInts_eq (a1 a2 : Option Addr) (c1 c2 n : Nat) (xs : List Int) (hn : Hid (xs.length = n)) (w : World) (hm : n ≤ 9223372036854775807) (h1 : Rd w.heap.size w a1 xs) (h2 : Rd w.heap.size w a2 xs) :
    Calls Try.prog 9 #[.slice a1 n c1, .slice a2 n c2] w fun e w' => e = .returned (.bool true) ∧ Below w.heap.size w w' := by
  go_enter Try.func9, Try.ntmps9
  go_wp2
  go_loopw [5] (fun i wr => ∃ k : Nat, k ≤ n ∧ i = .int .i64 k ∧ Below w.heap.size w wr) (fun i _ => n - (intOf i).toNat)
  case atStart => exact ⟨0, Nat.zero_le _, rfl, Below.refl _ _⟩
  case round =>
    obtain ⟨k, hk, rfl, hB⟩ := hrel
    by_cases hlt : k < n
    · rcases h1 with h0 | ⟨b, o, rfl, hb, hc⟩
      · exfalso; have := hn.out; rw [h0] at this; simp at this; omega
      rcases h2 with h0 | ⟨b2, o2, rfl, hb2, hc2⟩
      · exfalso; have := hn.out; rw [h0] at this; simp at this; omega
      have hlt' : k < xs.length := by have := hn.out; omega
      have hcell := (hB.cell (p := ⟨b, o + k, none⟩) hb).trans (hc k hlt')
      have hcell2 := (hB.cell (p := ⟨b2, o2 + k, none⟩) hb2).trans (hc2 k hlt')
      obtain ⟨x, hx⟩ : ∃ x, xs[k]?.getD 0 = x := ⟨_, rfl⟩
      rw [hx] at hcell hcell2
      clear hx hlt' hc hc2
      have hS : wr.heap = wr.drew.heap := rfl
      have hS0 : wr.drew.heap = wr.heap := rfl
      go_wp2_with fail
      refine plain_region (fun W' => W'.heap = wr.heap) 9 9 (by kernel_rfl) rfl ?_
      simp only [Array.replicate_succ, Array.replicate_zero, List.push_toArray, List.nil_append, List.cons_append]
      refine take_op 0 (v := ?rv0) rfl (by kernel_rfl) (fun _ _ _ h => h) (by rfl) hS0 (fun w' hS' => ?ry0) ?rz0
      case ry0 =>
        go_simp
        rfl
      simp only [List.setIfInBounds_toArray, List.set_cons_zero, List.set_cons_succ]
      refine take_op 1 (v := ?rv1) rfl (by kernel_rfl) (fun _ _ _ h => h) (by rfl) hS0 (fun w' hS' => ?ry1) ?rz1
      case ry1 =>
        go_simp
        rfl
      simp only [List.setIfInBounds_toArray, List.set_cons_zero, List.set_cons_succ]
      refine take_op 2 (v := ?rv2) rfl (by kernel_rfl) (fun _ _ _ h => h) (by rfl) hS0 (fun w' hS' => ?ry2) ?rz2
      case ry2 =>
        go_simp
        try go_ints
        rfl
      simp only [List.setIfInBounds_toArray, List.set_cons_zero, List.set_cons_succ]
      refine take_op 3 (v := ?rv3) rfl (by kernel_rfl) (fun _ _ _ h => h) (by rfl) hS0 (fun w' hS' => ?ry3) ?rz3
      case ry3 =>
        have c1 := (World.cell?_of_block (w := wr) (w' := w') (a := ⟨b, o + k, none⟩) (by rw [hS'])).trans hcell
        have c2 := (World.cell?_of_block (w := wr) (w' := w') (a := ⟨b2, o2 + k, none⟩) (by rw [hS'])).trans hcell2
        clear hS'
        go_simp
        rfl
      simp only [List.setIfInBounds_toArray, List.set_cons_zero, List.set_cons_succ]
      refine take_op 4 (v := ?rv4) rfl (by kernel_rfl) (fun _ _ _ h => h) (by rfl) hS0 (fun w' hS' => ?ry4) ?rz4
      case ry4 =>
        go_simp
        rfl
      simp only [List.setIfInBounds_toArray, List.set_cons_zero, List.set_cons_succ]
      refine take_op 5 (v := ?rv5) rfl (by kernel_rfl) (fun _ _ _ h => h) (by rfl) hS0 (fun w' hS' => ?ry5) ?rz5
      case ry5 =>
        go_simp
        rfl
      simp only [List.setIfInBounds_toArray, List.set_cons_zero, List.set_cons_succ]
      refine take_op 6 (v := ?rv6) rfl (by kernel_rfl) (fun _ _ _ h => h) (by rfl) hS0 (fun w' hS' => ?ry6) ?rz6
      case ry6 =>
        go_simp
        try go_ints
        rfl
      simp only [List.setIfInBounds_toArray, List.set_cons_zero, List.set_cons_succ]
      refine take_op 7 (v := ?rv7) rfl (by kernel_rfl) (fun _ _ _ h => h) (by rfl) hS0 (fun w' hS' => ?ry7) ?rz7
      case ry7 =>
        have c1 := (World.cell?_of_block (w := wr) (w' := w') (a := ⟨b, o + k, none⟩) (by rw [hS'])).trans hcell
        have c2 := (World.cell?_of_block (w := wr) (w' := w') (a := ⟨b2, o2 + k, none⟩) (by rw [hS'])).trans hcell2
        clear hS'
        go_simp
        rfl
      simp only [List.setIfInBounds_toArray, List.set_cons_zero, List.set_cons_succ]
      refine take_op 8 (v := ?rv8) rfl (by kernel_rfl) (fun _ _ _ h => h) (by rfl) hS0 (fun w' hS' => ?ry8) ?rz8
      case ry8 =>
        go_simp
        try go_ints
        rfl
      simp only [List.setIfInBounds_toArray, List.set_cons_zero, List.set_cons_succ]
      refine done_ops (by kernel_rfl) ?_
      go_wp2_with fail
      go_roundw
      case rel => exact ⟨k + 1, by omega, by go_num, hB.drew⟩
      case measure => simp [intOf]; omega
    · go_wp2
      go_ret
      exact ⟨rfl, hB⟩

set_option maxHeartbeats 400000 in
theorem Same_eq (iw ih : Int) (a1 a2 : Option Addr) (c1 c2 n : Nat) (xs : List Int) (hn : Hid (xs.length = n)) (w : World) (hm : n ≤ 9223372036854775807) (h1 : Rd w.heap.size w a1 xs) (h2 : Rd w.heap.size w a2 xs) :
    Calls Try.prog 14 #[imv iw ih a1 n c1, imv iw ih a2 n c2] w fun e w' => e = .returned (.bool true) ∧ Below w.heap.size w w' := by
  have hb : Below w.heap.size w ((w.alloc (.cells #[.int .i64 iw, .int .i64 ih, .slice a1 n c1] 27)).alloc (.cells #[.int .i64 iw, .int .i64 ih, .slice a2 n c2] 27)) := below_al (below_al (Below.refl _ _) _) _
  go_enter Try.func14, Try.ntmps14
  go_wp2_with fail
  refine (SameInts_eq a1 a2 c1 c2 n xs hn _ hm ((h1.below (Nat.le_refl _) hb).mono hb.size) ((h2.below (Nat.le_refl _) hb).mono hb.size)).mono ?_
  rintro e W1 ⟨rfl, hb1⟩
  go_wp2_with fail
  go_ret
  exact ⟨rfl, hb.trans (hb1.mono hb.size)⟩

theorem map_set_int (ys : List Int) (k : Nat) (z : Int) : (ys.map (Value.int .i64)).set k (.int .i64 z) = (ys.set k z).map (Value.int .i64) := by rw [List.map_set]

theorem made_zero (n : Nat) : (madeCells (Value.int .i64 0).cells (n * 1)).toList = (List.replicate n (0 : Int)).map (Value.int .i64) := by
  rw [Nat.mul_one]
  refine List.ext_getElem (by simp [size_madeCells]) fun i h1 h2 => ?_
  simp [madeCells, Value.cells, Nat.mod_one]

set_option maxHeartbeats 400000 in
theorem Blank_any (pw ph : Nat) (h2 : pw ≤ 16) (h4 : ph ≤ 16) (w : World) :
    Calls Try.prog 37 #[.int .i64 pw, .int .i64 ph] w fun e w' => ∃ g cap, e = .returned (.agg #[.int .i64 pw, .int .i64 ph, .slice (some ⟨g, 0, none⟩) (pw * ph) cap]) ∧ w'.ownsRow w.heap.size 3 1 (.slice (some ⟨g, 0, none⟩) (pw * ph) cap) (pw * ph) ((List.replicate (pw * ph) 0).map (Value.int .i64)) ∧ w.heap.size ≤ g ∧ Below w.heap.size w w' := by
  obtain ⟨i0, hi, hz0, hz1, hz2⟩ := info_parts info_int
  obtain ⟨m1, m2⟩ := mul_small (a := (pw : Int)) (b := (ph : Int)) (m := 16) (n := 16) (by omega) (by omega) (by omega) (by omega)
  have m3 : pw * ph ≤ 256 := by have : ((pw * ph : Nat) : Int) = (pw : Int) * ph := by simp
                                omega
  have hzH := Lib.hid (made_zero (pw * ph))
  go_enter Try.func37, Try.ntmps37
  go_wp2_with (at_make; refine wpList_make_full _ rfl _ _ 25 rfl w.heap.size 3 i0 (.int .i64 0) 1 Try.underlying25 hi hz0 hz1 .i64 .i64 (pw * ph : Int) (pw * ph : Int) (pw * ph) rfl rfl (by simp) (by simp) (by rw [hz2]; omega) (by unfold maxLen; omega) (by simp) ?_; intro w1 hown hg; have kR := (Blk.new w 27 #[.int .i64 0, .int .i64 0, .slice none 0 0]).kept hg (by simp); have c0 := kR.cell (i := 0) rfl; have c1 := kR.cell (i := 1) rfl; have c2 := kR.cell (i := 2) rfl; have f0 := kR.frozen 0; have f1 := kR.frozen 1; have f2 := kR.frozen 2)
  have kf := put3_blk kR (.int .i64 pw) (.int .i64 ph) (.slice (some ⟨w.heap.size + 1, 0, none⟩) (pw * ph) (pw * ph))
  have g0 := kf.cell (i := 0) rfl
  have g1 := kf.cell (i := 1) rfl
  have g2 := kf.cell (i := 2) rfl
  simp only [World.size_alloc] at hown
  have hb1 : Below w.heap.size w w1 := (below_al (Below.refl _ _) _).grown hg (by simp) (fun k e => by cases e)
  refine bodyPost_ret (v := .agg #[.int .i64 pw, .int .i64 ph, .slice (some ⟨w.heap.size + 1, 0, none⟩) (pw * ph) (pw * ph)]) (by simp [results, Try.results37, go_sem, g0, g1, g2]) rfl ⟨_, _, rfl, ?_, by omega, hb1.trans (put3_below (Nat.le_refl _) _ _ _)⟩
  rw [hzH.out] at hown
  exact put3_row hown (kR.not_row (by decide) hown) _ _ _

end Go.Proofs.Ytbfigbpjoaccdaa

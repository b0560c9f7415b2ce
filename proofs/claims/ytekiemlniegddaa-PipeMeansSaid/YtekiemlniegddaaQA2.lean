/- Contracts and laws (ImgE, ImgF, ImgH, ImgI). -/
import Derived.Laws.AppendOwnNone
import Derived.Test.YtekiemlniegddaaQA1
namespace Go.Proofs.Ytekiemlniegddaa
open Go Go.RowKit Go.Shelf
set_option linter.unusedVariables false
set_option linter.unusedSimpArgs false

/-- What a row of integers holds can be read. -/
theorem row_rd {W : World} {base : Nat} {a : Option Addr} {c : Nat} {xs : List Int} (h : W.ownsRow base 3 1 (.slice a xs.length c) xs.length (xs.map (Value.int .i64))) : Rd W.heap.size W a xs := by
  rcases h.2 with ⟨h1, h2⟩ | ⟨g, cap, cur, h1, _, hg, _⟩
  · exact .inl (List.eq_nil_of_length_eq_zero h2)
  · simp only [Value.slice.injEq, true_and] at h1
    obtain ⟨rfl, rfl⟩ := h1
    refine .inr ⟨g, 0, rfl, (Array.getElem?_eq_some_iff.1 hg).1, fun i hi => ?_⟩
    have := h.cellAt i (by omega)
    rw [Nat.zero_add, this]
    simp [hi]

theorem row_rd' {W : World} {base : Nat} {a : Option Addr} {c n : Nat} {xs : List Int} (hn : xs.length = n) (h : W.ownsRow base 3 1 (.slice a n c) n (xs.map (Value.int .i64))) : Rd W.heap.size W a xs := by
  subst hn; exact row_rd h

theorem row_nil {W : World} {base : Nat} {e : TypeId} {size : Nat} {n c : Nat} {xs : List Value} (h : W.ownsRow base e size (.slice none n c) n xs) : n = 0 ∧ c = 0 := by
  rcases h.2 with ⟨h1, h2⟩ | ⟨g, cap, cur, h1, _⟩
  · simp only [Value.slice.injEq, true_and] at h1; exact ⟨h2, h1.2⟩
  · simp at h1

set_option maxHeartbeats 1000000 in
theorem Twin_any (iw ih : Int) (a : Option Addr) (c n : Nat) (xs : List Int) (hn : Hid (xs.length = n)) (w : World) (hm : n * 8 ≤ 140737488355328) (hr : Rd w.heap.size w a xs) (hnil : Hid (a = none → n = 0 ∧ c = 0)) :
    Calls Try.prog 30 #[imv iw ih a n c] w fun e w' => ∃ v, e = .returned v ∧ OwnIm w.heap.size w' v iw ih xs ∧ Below w.heap.size w w' := by
  obtain ⟨i0, hi, hz0, hz1, hz2⟩ := info_parts info_int
  have k1 := (Blk.new w 29 #[.int .i64 iw, .int .i64 ih, .slice a n c]).alloc (.cells #[.int .i64 0, .int .i64 0, .slice none 0 0] 29)
  have k2 := Blk.new (w.alloc (.cells #[.int .i64 iw, .int .i64 ih, .slice a n c] 29)) 29 #[.int .i64 0, .int .i64 0, .slice none 0 0]
  have hB : Below w.heap.size w ((w.alloc (.cells #[.int .i64 iw, .int .i64 ih, .slice a n c] 29)).alloc (.cells #[.int .i64 0, .int .i64 0, .slice none 0 0] 29)) := below_al (below_al (Below.refl _ _) _) _
  obtain ⟨W, hW⟩ : ∃ W, (w.alloc (.cells #[.int .i64 iw, .int .i64 ih, .slice a n c] 29)).alloc (.cells #[.int .i64 0, .int .i64 0, .slice none 0 0] 29) = W := ⟨_, rfl⟩
  rw [hW] at k1 k2 hB
  simp only [World.size_alloc] at k2
  have rest : ∀ v W2, W2.ownsRow w.heap.size 3 1 v xs.length (xs.map (Value.int .i64)) → W.grownBy W2 none → ∃ s cc, v = .slice s n cc ∧ Blk W2 w.heap.size 29 #[.int .i64 iw, .int .i64 ih, .slice a n c] ∧ Blk W2 (w.heap.size + 1) 29 #[.int .i64 0, .int .i64 0, .slice none 0 0] ∧ Below w.heap.size w W2 := by
    intro v W2 hrow hg
    obtain ⟨s, cc, hs⟩ := row_slice hrow
    rw [hn.out] at hs
    exact ⟨s, cc, hs, k1.kept hg (by simp), k2.kept hg (by simp), hB.grown hg hB.size (fun k e => by cases e)⟩
  have fin : ∀ (s : Option Addr) (cc : Nat) (W2 : World), W2.ownsRow w.heap.size 3 1 (.slice s n cc) xs.length (xs.map (Value.int .i64)) → Blk W2 w.heap.size 29 #[.int .i64 iw, .int .i64 ih, .slice a n c] → Blk W2 (w.heap.size + 1) 29 #[.int .i64 0, .int .i64 0, .slice none 0 0] → Below w.heap.size w W2 →
      Blk (put3 (W2.setCell ⟨w.heap.size, 2, none⟩ (.slice s n cc)) (w.heap.size + 1) (.int .i64 iw) (.int .i64 ih) (.slice s n cc)) (w.heap.size + 1) 29 #[.int .i64 iw, .int .i64 ih, .slice s n cc] ∧
      OwnIm w.heap.size (put3 (W2.setCell ⟨w.heap.size, 2, none⟩ (.slice s n cc)) (w.heap.size + 1) (.int .i64 iw) (.int .i64 ih) (.slice s n cc)) (.agg #[.int .i64 iw, .int .i64 ih, .slice s n cc]) iw ih xs ∧ Below w.heap.size w (put3 (W2.setCell ⟨w.heap.size, 2, none⟩ (.slice s n cc)) (w.heap.size + 1) (.int .i64 iw) (.int .i64 ih) (.slice s n cc)) := by
    intro s cc W2 hrow h1 h2 hb
    have hrow2 := row_setCell hrow (a := ⟨w.heap.size, 2, none⟩) (h1.not_row (by decide) hrow) (.slice s n cc)
    have h3 := h2.other (a := ⟨w.heap.size, 2, none⟩) (by simp) (.slice s n cc)
    exact ⟨put3_blk h3 _ _ _, ⟨_, rfl, put3_row hrow2 (h3.not_row (by decide) hrow2) _ _ _⟩, (hb.setCell (p := ⟨w.heap.size, 2, none⟩) (Nat.le_refl _) _).trans (put3_below (by omega) _ _ _)⟩
  have c0 := k1.cell (i := 0) rfl
  have c1 := k1.cell (i := 1) rfl
  have c2 := k1.cell (i := 2) rfl
  go_enter Try.func30, Try.ntmps30
  cases a with
  | none =>
    obtain ⟨hn0, hc0⟩ := hnil.out rfl
    subst hn0 hc0
    have hx : xs = [] := List.eq_nil_of_length_eq_zero hn.out
    subst hx
    clear fin rest c0 c1 c2 k1 k2 hB hW hr hnil
    clear W
    go_wp2_with (at_builtin; refine wpList_append_own_none rfl _ _ 27 rfl w.heap.size 3 i0 1 Try.underlying27 hi (.slice none 0 0) 0 [] rfl (World.ownsRow_nil _ _ _ _) rfl ?_)
    exact bodyPost_ret (v := .agg #[.int .i64 iw, .int .i64 ih, .slice none 0 0]) (by simp [results, Try.results30, go_sem]) rfl ⟨_, rfl, ⟨_, rfl, World.ownsRow_nil _ _ _ _⟩, below_al (below_al (Below.refl _ _) _) _⟩
  | some ad =>
    have hcells : ∀ j u, (xs.map (Value.int .i64))[j]? = some u → W.cell? (ad.add j) = some u := by
      intro j u hu
      rcases hr with h0 | ⟨b, o, h1, h2, h3⟩
      · rw [h0] at hu; simp at hu
      · simp only [Option.some.injEq] at h1
        subst h1
        have hj : j < xs.length := by
          rcases Nat.lt_or_ge j xs.length with h | h
          · exact h
          · rw [List.getElem?_eq_none (by simpa using h)] at hu; cases hu
        have hadd : (⟨b, o, none⟩ : Addr).add j = ⟨b, o + j, none⟩ := by unfold Addr.add; split <;> simp_all
        rw [hadd, hB.cell (p := ⟨b, o + j, none⟩) h2, h3 j hj]
        simp [hj] at hu ⊢
        exact hu
    have hone : ∀ u ∈ xs.map (Value.int .i64), u.oneCell' = true := by
      intro u hu
      obtain ⟨x, _, rfl⟩ := List.mem_map.1 hu
      rfl
    have hcellsH := Lib.hid hcells
    have honeH := Lib.hid hone
    have hlen : (xs.map (Value.int .i64)).length = n * 1 := by rw [List.length_map, hn.out, Nat.mul_one]
    have hlenH := Lib.hid hlen
    clear hcells hone hlen
    have hWH := Lib.hid hW
    clear hW
    go_wp2_with (at_builtin; refine wpList_append_own _ rfl _ _ 27 rfl w.heap.size 3 i0 (.int .i64 0) 1 8 Try.underlying27 hi hz0 hz1 hz2 rfl (by decide) (.slice none 0 0) 0 [] rfl (World.ownsRow_nil _ _ _ _) ad n c (xs.map (Value.int .i64)) rfl hlenH.out (by rw [hWH.out]; exact hcellsH.out) honeH.out (by unfold maxLen; omega) (by omega) (by simp <;> omega) ?_; intro v' W2 hown hgrow hx; rw [hWH.out] at hgrow; rw [Nat.zero_add, List.nil_append] at hown; obtain ⟨s, cc, rfl, h1, h2, hb⟩ := rest v' W2 (by rw [hn.out]; exact hown) hgrow; have d0 := h1.cell (i := 0) rfl; have d1 := h1.cell (i := 1) rfl; have d2 := h1.cell (i := 2) rfl; have df := h1.frozen 2; have e0 := h2.cell (i := 0) rfl; have e1 := h2.cell (i := 1) rfl; have e2 := h2.cell (i := 2) rfl; have ef0 := h2.frozen 0; have ef1 := h2.frozen 1; have ef2 := h2.frozen 2)
    obtain ⟨kf, ko, kb⟩ := fin s cc W2 (by rw [hn.out]; exact hown) h1 h2 hb
    have g0 := kf.cell (i := 0) rfl
    have g1 := kf.cell (i := 1) rfl
    have g2 := kf.cell (i := 2) rfl
    exact bodyPost_ret (v := .agg #[.int .i64 iw, .int .i64 ih, .slice s n cc]) (by simp [results, Try.results30, go_sem, g0, g1, g2]) rfl ⟨_, rfl, ko, kb⟩


set_option maxRecDepth 100000 in
set_option maxHeartbeats 1000000 in
theorem SameInts_eq (a1 a2 : Option Addr) (c1 c2 n : Nat) (xs : List Int) (hn : Hid (xs.length = n)) (w : World) (hm : n ≤ 9223372036854775807) (h1 : Rd w.heap.size w a1 xs) (h2 : Rd w.heap.size w a2 xs) :
    Calls Try.prog 37 #[.slice a1 n c1, .slice a2 n c2] w fun e w' => e = .returned (.bool true) ∧ Below w.heap.size w w' := by
  go_enter Try.func37, Try.ntmps37
  go_wp2
  go_loopw [5] (fun i wr => ∃ k : Nat, k ≤ n ∧ i = .int .i64 k ∧ Below w.heap.size w wr) (fun i _ => n - (intOf i).toNat)
  case atStart => exact ⟨0, Nat.zero_le _, rfl, Below.refl _ _⟩
  case round =>
    obtain ⟨k, hk, rfl, hB⟩ := hrel
    by_cases hlt : k < n
    · rcases h1 with h0 | ⟨b, o, rfl, hb, hc⟩
      · exfalso; have := hn.out; rw [h0] at this; simp at this; omega
      rcases h2 with h0 | ⟨b2, o2, rfl, hb2, hc2⟩
      · exfalso; have := hn.out; rw [h0] at this; simp at this; omega
      have hlt' : k < xs.length := by have := hn.out; omega
      have hcell := (hB.cell (p := ⟨b, o + k, none⟩) hb).trans (hc k hlt')
      have hcell2 := (hB.cell (p := ⟨b2, o2 + k, none⟩) hb2).trans (hc2 k hlt')
      obtain ⟨x, hx⟩ : ∃ x, xs[k]?.getD 0 = x := ⟨_, rfl⟩
      rw [hx] at hcell hcell2
      clear hx hlt' hc hc2
      have hS : wr.heap = wr.drew.heap := rfl
      have hS0 : wr.drew.heap = wr.heap := rfl
      go_wp2_with fail
      refine plain_region (fun W' => W'.heap = wr.heap) 9 9 (by kernel_rfl) rfl ?_
      simp only [Array.replicate_succ, Array.replicate_zero, List.push_toArray, List.nil_append, List.cons_append]
      refine take_op 0 (v := ?rv0) rfl (by kernel_rfl) (fun _ _ _ h => h) (by rfl) hS0 (fun w' hS' => ?ry0) ?rz0
      case ry0 =>
        go_simp
        rfl
      simp only [List.setIfInBounds_toArray, List.set_cons_zero, List.set_cons_succ]
      refine take_op 1 (v := ?rv1) rfl (by kernel_rfl) (fun _ _ _ h => h) (by rfl) hS0 (fun w' hS' => ?ry1) ?rz1
      case ry1 =>
        go_simp
        rfl
      simp only [List.setIfInBounds_toArray, List.set_cons_zero, List.set_cons_succ]
      refine take_op 2 (v := ?rv2) rfl (by kernel_rfl) (fun _ _ _ h => h) (by rfl) hS0 (fun w' hS' => ?ry2) ?rz2
      case ry2 =>
        go_simp
        try go_ints
        rfl
      simp only [List.setIfInBounds_toArray, List.set_cons_zero, List.set_cons_succ]
      refine take_op 3 (v := ?rv3) rfl (by kernel_rfl) (fun _ _ _ h => h) (by rfl) hS0 (fun w' hS' => ?ry3) ?rz3
      case ry3 =>
        have c1 := (World.cell?_of_block (w := wr) (w' := w') (a := ⟨b, o + k, none⟩) (by rw [hS'])).trans hcell
        have c2 := (World.cell?_of_block (w := wr) (w' := w') (a := ⟨b2, o2 + k, none⟩) (by rw [hS'])).trans hcell2
        clear hS'
        go_simp
        rfl
      simp only [List.setIfInBounds_toArray, List.set_cons_zero, List.set_cons_succ]
      refine take_op 4 (v := ?rv4) rfl (by kernel_rfl) (fun _ _ _ h => h) (by rfl) hS0 (fun w' hS' => ?ry4) ?rz4
      case ry4 =>
        go_simp
        rfl
      simp only [List.setIfInBounds_toArray, List.set_cons_zero, List.set_cons_succ]
      refine take_op 5 (v := ?rv5) rfl (by kernel_rfl) (fun _ _ _ h => h) (by rfl) hS0 (fun w' hS' => ?ry5) ?rz5
      case ry5 =>
        go_simp
        rfl
      simp only [List.setIfInBounds_toArray, List.set_cons_zero, List.set_cons_succ]
      refine take_op 6 (v := ?rv6) rfl (by kernel_rfl) (fun _ _ _ h => h) (by rfl) hS0 (fun w' hS' => ?ry6) ?rz6
      case ry6 =>
        go_simp
        try go_ints
        rfl
      simp only [List.setIfInBounds_toArray, List.set_cons_zero, List.set_cons_succ]
      refine take_op 7 (v := ?rv7) rfl (by kernel_rfl) (fun _ _ _ h => h) (by rfl) hS0 (fun w' hS' => ?ry7) ?rz7
      case ry7 =>
        have c1 := (World.cell?_of_block (w := wr) (w' := w') (a := ⟨b, o + k, none⟩) (by rw [hS'])).trans hcell
        have c2 := (World.cell?_of_block (w := wr) (w' := w') (a := ⟨b2, o2 + k, none⟩) (by rw [hS'])).trans hcell2
        clear hS'
        go_simp
        rfl
      simp only [List.setIfInBounds_toArray, List.set_cons_zero, List.set_cons_succ]
      refine take_op 8 (v := ?rv8) rfl (by kernel_rfl) (fun _ _ _ h => h) (by rfl) hS0 (fun w' hS' => ?ry8) ?rz8
      case ry8 =>
        go_simp
        try go_ints
        rfl
      simp only [List.setIfInBounds_toArray, List.set_cons_zero, List.set_cons_succ]
      refine done_ops (by kernel_rfl) ?_
      go_wp2_with fail
      go_roundw
      case rel => exact ⟨k + 1, by omega, by go_num, hB.drew⟩
      case measure => simp [intOf]; omega
    · go_wp2
      go_ret
      exact ⟨rfl, hB⟩

set_option maxHeartbeats 400000 in
theorem Same_eq (iw ih : Int) (a1 a2 : Option Addr) (c1 c2 n : Nat) (xs : List Int) (hn : Hid (xs.length = n)) (w : World) (hm : n ≤ 9223372036854775807) (h1 : Rd w.heap.size w a1 xs) (h2 : Rd w.heap.size w a2 xs) :
    Calls Try.prog 11 #[imv iw ih a1 n c1, imv iw ih a2 n c2] w fun e w' => e = .returned (.bool true) ∧ Below w.heap.size w w' := by
  have hb : Below w.heap.size w ((w.alloc (.cells #[.int .i64 iw, .int .i64 ih, .slice a1 n c1] 29)).alloc (.cells #[.int .i64 iw, .int .i64 ih, .slice a2 n c2] 29)) := below_al (below_al (Below.refl _ _) _) _
  go_enter Try.func11, Try.ntmps11
  go_wp2_with fail
  refine (SameInts_eq a1 a2 c1 c2 n xs hn _ hm ((h1.below (Nat.le_refl _) hb).mono hb.size) ((h2.below (Nat.le_refl _) hb).mono hb.size)).mono ?_
  rintro e W1 ⟨rfl, hb1⟩
  go_wp2_with fail
  go_ret
  exact ⟨rfl, hb.trans (hb1.mono hb.size)⟩

theorem map_set_int (ys : List Int) (k : Nat) (z : Int) : (ys.map (Value.int .i64)).set k (.int .i64 z) = (ys.set k z).map (Value.int .i64) := by rw [List.map_set]

theorem made_zero (n : Nat) : (madeCells (Value.int .i64 0).cells (n * 1)).toList = (List.replicate n (0 : Int)).map (Value.int .i64) := by
  rw [Nat.mul_one]
  refine List.ext_getElem (by simp [size_madeCells]) fun i h1 h2 => ?_
  simp [madeCells, Value.cells, Nat.mod_one]

set_option maxHeartbeats 400000 in
theorem Blank_any (pw ph : Nat) (h2 : pw ≤ 16) (h4 : ph ≤ 16) (w : World) :
    Calls Try.prog 150 #[.int .i64 pw, .int .i64 ph] w fun e w' => ∃ g cap, e = .returned (.agg #[.int .i64 pw, .int .i64 ph, .slice (some ⟨g, 0, none⟩) (pw * ph) cap]) ∧ w'.ownsRow w.heap.size 3 1 (.slice (some ⟨g, 0, none⟩) (pw * ph) cap) (pw * ph) ((List.replicate (pw * ph) 0).map (Value.int .i64)) ∧ w.heap.size ≤ g ∧ Below w.heap.size w w' := by
  obtain ⟨i0, hi, hz0, hz1, hz2⟩ := info_parts info_int
  obtain ⟨m1, m2⟩ := mul_small (a := (pw : Int)) (b := (ph : Int)) (m := 16) (n := 16) (by omega) (by omega) (by omega) (by omega)
  have m3 : pw * ph ≤ 256 := by have : ((pw * ph : Nat) : Int) = (pw : Int) * ph := by simp
                                omega
  have hzH := Lib.hid (made_zero (pw * ph))
  go_enter Try.func150, Try.ntmps150
  go_wp2_with (at_make; refine wpList_make_full _ rfl _ _ 27 rfl w.heap.size 3 i0 (.int .i64 0) 1 Try.underlying27 hi hz0 hz1 .i64 .i64 (pw * ph : Int) (pw * ph : Int) (pw * ph) rfl rfl (by simp) (by simp) (by rw [hz2]; omega) (by unfold maxLen; omega) (by simp) ?_; intro w1 hown hg; have kR := (Blk.new w 29 #[.int .i64 0, .int .i64 0, .slice none 0 0]).kept hg (by simp); have c0 := kR.cell (i := 0) rfl; have c1 := kR.cell (i := 1) rfl; have c2 := kR.cell (i := 2) rfl; have f0 := kR.frozen 0; have f1 := kR.frozen 1; have f2 := kR.frozen 2)
  have kf := put3_blk kR (.int .i64 pw) (.int .i64 ph) (.slice (some ⟨w.heap.size + 1, 0, none⟩) (pw * ph) (pw * ph))
  have g0 := kf.cell (i := 0) rfl
  have g1 := kf.cell (i := 1) rfl
  have g2 := kf.cell (i := 2) rfl
  simp only [World.size_alloc] at hown
  have hb1 : Below w.heap.size w w1 := (below_al (Below.refl _ _) _).grown hg (by simp) (fun k e => by cases e)
  refine bodyPost_ret (v := .agg #[.int .i64 pw, .int .i64 ph, .slice (some ⟨w.heap.size + 1, 0, none⟩) (pw * ph) (pw * ph)]) (by simp [results, Try.results150, go_sem, g0, g1, g2]) rfl ⟨_, _, rfl, ?_, by omega, hb1.trans (put3_below (Nat.le_refl _) _ _ _)⟩
  rw [hzH.out] at hown
  exact put3_row hown (kR.not_row (by decide) hown) _ _ _

end Go.Proofs.Ytekiemlniegddaa

namespace Go.Proofs.Ytekiemlniegddaa
open Go Go.RowKit Go.Shelf
set_option linter.unusedVariables false
set_option linter.unusedSimpArgs false

/-- A list that is filled up to an index. -/
def upto (f : Nat → Int) (N k : Nat) : List Int := (List.range N).map fun i => if i < k then f i else 0

theorem row_base {W : World} {base base' : Nat} {e : TypeId} {size : Nat} {v : Value} {k : Nat} {xs : List Value} (h : W.ownsRow base e size v k xs) (hb : base' ≤ base) : W.ownsRow base' e size v k xs := by
  refine ⟨h.1, ?_⟩
  rcases h.2 with h3 | ⟨g, cap, cur, e1, e2, r⟩
  · exact .inl h3
  · exact .inr ⟨g, cap, cur, e1, by omega, r⟩

theorem upto_zero (f : Nat → Int) (N : Nat) : upto f N 0 = List.replicate N 0 := by
  refine List.ext_getElem (by simp [upto]) fun i h1 h2 => ?_
  simp [upto]

theorem upto_set (f : Nat → Int) (N k : Nat) (hk : k < N) : (upto f N k).set k (f k) = upto f N (k + 1) := by
  refine List.ext_getElem (by simp [upto]) fun i h1 h2 => ?_
  rw [List.getElem_set]
  by_cases e : k = i
  · subst e; simp [upto]
  · rw [if_neg e]
    simp only [upto, List.getElem_map, List.getElem_range]
    by_cases h : i < k
    · rw [if_pos h, if_pos (by omega)]
    · rw [if_neg h, if_neg (by omega)]

theorem upto_all (f : Nat → Int) (N : Nat) : upto f N N = (List.range N).map f := by
  refine List.ext_getElem (by simp [upto]) fun i h1 h2 => ?_
  have hi : i < N := by simpa [upto] using h1
  simp [upto, hi]

theorem clamp_id {n : Int} (h : -2147483648 ≤ n) (h2 : n ≤ 2147483648) : clamp n (-2147483648) 2147483648 = n := by unfold clamp; omega

theorem img_plain {pw ph : Nat} {g : Int → Int → Int} (h : ∀ i, i < pw * ph → -2147483648 ≤ g (cX pw i) (cY pw i) ∧ g (cX pw i) (cY pw i) ≤ 2147483648) : (List.range (pw * ph)).map (fun i => g (cX pw i) (cY pw i)) = img pw ph g := by
  unfold img
  refine List.map_congr_left fun i hi => ?_
  obtain ⟨h1, h2⟩ := h i (List.mem_range.1 hi)
  exact (clamp_id h1 h2).symm

theorem px_bd {xs : List Int} (h : allIn (-2147483648) 2147483648 xs = true) (i : Int) : -2147483648 ≤ px xs i ∧ px xs i ≤ 2147483648 := by
  unfold px
  rcases Nat.lt_or_ge i.toNat xs.length with h1 | h1
  · rw [List.getElem?_eq_getElem h1]; exact allIn_mem h (List.getElem_mem h1)
  · rw [List.getElem?_eq_none h1]; decide

theorem cX_eq (pw i : Nat) : cX pw i = (i : Int) % (pw : Int) := rfl
theorem cY_eq (pw i : Nat) : cY pw i = (i : Int) / (pw : Int) := rfl
theorem cX_bd {pw i : Nat} (h : 1 ≤ pw) : 0 ≤ cX pw i ∧ cX pw i ≤ pw - 1 := by
  have := Nat.mod_lt i (show 0 < pw by omega)
  unfold cX; omega
theorem cY_bd {pw ph i : Nat} (h : i < pw * ph) : 0 ≤ cY pw i ∧ cY pw i ≤ ph - 1 := by
  have := Nat.div_lt_of_lt_mul h
  unfold cY
  generalize i / pw = q at *
  omega


end Go.Proofs.Ytekiemlniegddaa

namespace Go.Proofs.Ytekiemlniegddaa
open Go Go.RowKit Go.Shelf
set_option linter.unusedVariables false
set_option linter.unusedSimpArgs false

/-- A point operation's numbers. -/
structure PointN where
  mul : Int
  add : Int
  div : Int
  lo : Int
  hi : Int

abbrev PointN.val (p : PointN) : Value := .agg #[.int .i64 p.mul, .int .i64 p.add, .int .i64 p.div, .int .i64 p.lo, .int .i64 p.hi]
abbrev PointN.cells (p : PointN) : Array Value := #[.int .i64 p.mul, .int .i64 p.add, .int .i64 p.div, .int .i64 p.lo, .int .i64 p.hi]
def PointN.ok (p : PointN) : Bool := ((inR p.mul (-65536) 65536 && ((inR p.add (-2147483648) 2147483648 && inR p.lo (-2147483648) 2147483648) && inR p.hi (-2147483648) 2147483648)) && inR p.div 1 65536) && decide (p.lo ≤ p.hi)
def pointF (p : PointN) (v : Int) : Int := clamp ((p.mul * v + p.add) / p.div) p.lo p.hi
def pointG (iw : Int) (xs : List Int) (p : PointN) (x y : Int) : Int := pointF p (px xs (y * iw + x))

theorem mul_bd {a b m n : Int} (h1 : -m ≤ a) (h2 : a ≤ m) (h3 : -n ≤ b) (h4 : b ≤ n) (hm : 0 ≤ m) (hn : 0 ≤ n) : -(m * n) ≤ a * b ∧ a * b ≤ m * n := by
  rcases Int.le_total 0 b with hb | hb
  · exact prod_bd h1 h2 hb h4 hm
  · have := prod_bd (a := a) (x := -b) (m := m) (n := n) h1 h2 (by omega) (by omega) hm
    rw [Int.mul_neg] at this
    omega

theorem clamp_le {n lo hi : Int} (h : lo ≤ hi) : lo ≤ clamp n lo hi ∧ clamp n lo hi ≤ hi := by unfold clamp; omega

theorem PointN.ok_true {p : PointN} (h : p.ok = true) : (-65536 ≤ p.mul ∧ p.mul ≤ 65536) ∧ (-2147483648 ≤ p.add ∧ p.add ≤ 2147483648) ∧ (-2147483648 ≤ p.lo ∧ p.lo ≤ 2147483648) ∧ (-2147483648 ≤ p.hi ∧ p.hi ≤ 2147483648) ∧ (1 ≤ p.div ∧ p.div ≤ 65536) ∧ p.lo ≤ p.hi := by
  simp only [PointN.ok, Bool.and_eq_true, inR_true, decide_eq_true_eq] at h
  obtain ⟨⟨⟨h1, ⟨h2, h3⟩, h4⟩, h5⟩, h6⟩ := h
  exact ⟨h1, h2, h3, h4, h5, h6⟩

theorem pointF_bd {p : PointN} (h : p.ok = true) (v : Int) : -2147483648 ≤ pointF p v ∧ pointF p v ≤ 2147483648 := by
  obtain ⟨_, _, h3, h4, _, h6⟩ := PointN.ok_true h
  have := clamp_le (n := (p.mul * v + p.add) / p.div) h6
  unfold pointF
  omega

theorem within3 (lo hi x0 x1 x2 : Int) (v : Bool) (hv : ((inR x0 lo hi && inR x1 lo hi) && inR x2 lo hi) = v) (b : Nat) (c : Nat) (w : World) (t : TypeId) (h : Blk w b t #[.int .i64 x0, .int .i64 x1, .int .i64 x2]) :
    Calls Try.prog 105 #[.int .i64 lo, .int .i64 hi, .slice (some ⟨b, 0, none⟩) 3 c] w fun e w' => e = .returned (.bool v) ∧ w = w' := by
  subst hv
  have h' := within_any lo hi (some ⟨b, 0, none⟩) c [x0, x1, x2] w (by simp) (.inr ⟨b, 0, rfl, h.lt, fun i hi => by
    have : i = 0 ∨ i = 1 ∨ i = 2 := by simp at hi; omega
    rcases this with rfl | rfl | rfl <;> exact h.cell rfl⟩)
  refine h'.mono fun e w' ⟨he, hw⟩ => ⟨he.trans (ret_bool (by simp [allIn, inR, Bool.and_assoc])), hw⟩

set_option maxRecDepth 100000 in
set_option maxHeartbeats 1000000 in
theorem Point1_any (iw ih : Int) (a : Option Addr) (c n : Nat) (xs : List Int) (hn : Hid (xs.length = n)) (hall : Hid (allIn (-2147483648) 2147483648 xs = true)) (p : PointN) (hp : p.ok = true) (x y : Int) (b6 b5 : Nat) (W : World) (hi1 : 1 ≤ iw) (hi2 : iw ≤ 16) (hi3 : 1 ≤ ih) (hi4 : ih ≤ 16) (hnn : Hid ((n : Int) = iw * ih)) (hx1 : 0 ≤ x) (hx2 : x ≤ iw - 1) (hy1 : 0 ≤ y) (hy2 : y ≤ ih - 1)
    (k6 : Blk W b6 69 p.cells) (k5 : Blk W b5 29 #[.int .i64 iw, .int .i64 ih, .slice a n c]) (hr : Rd W.heap.size W a xs) :
    Calls Try.prog 107 #[.int .i64 x, .int .i64 y, .pointer (some ⟨b6, 0, none⟩), .pointer (some ⟨b5, 0, none⟩)] W fun e W' => e = .returned (.int .i64 (pointG iw xs p x y)) ∧ Below W.heap.size W W' := by
  obtain ⟨m1, m2⟩ := mul_small (a := iw) (b := ih) (by omega) hi2 (by omega) hi4
  obtain ⟨q1, q2, q3, q4⟩ := in_idx (u := x) (v := y) hi1 hnn.out hx1 hx2 hy1 hy2
  have hn9 : n ≤ 256 := by have := hnn.out; omega
  obtain ⟨⟨p1, p2⟩, ⟨p3, p4⟩, ⟨p5, p6⟩, ⟨p7, p8⟩, ⟨p9, p10⟩, p11⟩ := PointN.ok_true hp
  obtain ⟨v, hv⟩ : ∃ v, px xs (y * iw + x) = v := ⟨_, rfl⟩
  have hv1 := px_bd hall.out (y * iw + x)
  rw [hv] at hv1
  obtain ⟨r1, r2⟩ := mul_bd p1 p2 hv1.1 hv1.2 (by omega) (by omega)
  have hvH := Lib.hid hv
  have hpH := Lib.hid hp
  clear hv hp
  have hS : Below W.heap.size W W.drew := (Below.refl _ _).drew
  go_enter Try.func107, Try.ntmps107
  go_wp2_with fail
  refine plain_region (fun W' => Below W.heap.size W W') 19 19 (by kernel_rfl) rfl ?_
  simp only [Array.replicate_succ, Array.replicate_zero, List.push_toArray, List.nil_append, List.cons_append]
  refine take_op 0 (v := ?rv0) rfl (by kernel_rfl) (fun _ _ _ h => h) (by rfl) hS (fun w' hS' => ?ry0) ?rz0
  case ry0 =>
    go_simp
    rfl
  simp only [List.setIfInBounds_toArray, List.set_cons_zero, List.set_cons_succ]
  refine take_op 1 (v := ?rv1) rfl (by kernel_rfl) (fun _ _ _ h => h) (by rfl) hS (fun w' hS' => ?ry1) ?rz1
  case ry1 =>
    have a0 := (k6.below hS' k6.lt).cell (i := 0) rfl
    have a1 := (k6.below hS' k6.lt).cell (i := 1) rfl
    have a2 := (k6.below hS' k6.lt).cell (i := 2) rfl
    have a3 := (k6.below hS' k6.lt).cell (i := 3) rfl
    have a4 := (k6.below hS' k6.lt).cell (i := 4) rfl
    have b0 := (k5.below hS' k5.lt).cell (i := 0) rfl
    have b1 := (k5.below hS' k5.lt).cell (i := 1) rfl
    have b2 := (k5.below hS' k5.lt).cell (i := 2) rfl
    go_simp
    rfl
  simp only [List.setIfInBounds_toArray, List.set_cons_zero, List.set_cons_succ]
  refine take_op 2 (v := ?rv2) rfl (by kernel_rfl) (fun _ _ _ h => h) (by rfl) hS (fun w' hS' => ?ry2) ?rz2
  case ry2 =>
    have a0 := (k6.below hS' k6.lt).cell (i := 0) rfl
    have a1 := (k6.below hS' k6.lt).cell (i := 1) rfl
    have a2 := (k6.below hS' k6.lt).cell (i := 2) rfl
    have a3 := (k6.below hS' k6.lt).cell (i := 3) rfl
    have a4 := (k6.below hS' k6.lt).cell (i := 4) rfl
    have b0 := (k5.below hS' k5.lt).cell (i := 0) rfl
    have b1 := (k5.below hS' k5.lt).cell (i := 1) rfl
    have b2 := (k5.below hS' k5.lt).cell (i := 2) rfl
    go_simp
    rfl
  simp only [List.setIfInBounds_toArray, List.set_cons_zero, List.set_cons_succ]
  refine take_op 3 (v := ?rv3) rfl (by kernel_rfl) (fun _ _ _ h => h) (by rfl) hS (fun w' hS' => ?ry3) ?rz3
  case ry3 =>
    go_simp
    rfl
  simp only [List.setIfInBounds_toArray, List.set_cons_zero, List.set_cons_succ]
  refine take_op 4 (v := ?rv4) rfl (by kernel_rfl) (fun _ _ _ h => h) (by rfl) hS (fun w' hS' => ?ry4) ?rz4
  case ry4 =>
    go_simp
    rfl
  simp only [List.setIfInBounds_toArray, List.set_cons_zero, List.set_cons_succ]
  refine take_op 7 (v := ?rv7) rfl (by kernel_rfl) (fun _ _ _ h => h) (by rfl) hS (fun w' hS' => ?ry7) ?rz7
  case ry7 =>
    go_simp
    rfl
  simp only [List.setIfInBounds_toArray, List.set_cons_zero, List.set_cons_succ]
  refine take_op 8 (v := ?rv8) rfl (by kernel_rfl) (fun _ _ _ h => h) (by rfl) hS (fun w' hS' => ?ry8) ?rz8
  case ry8 =>
    have a0 := (k6.below hS' k6.lt).cell (i := 0) rfl
    have a1 := (k6.below hS' k6.lt).cell (i := 1) rfl
    have a2 := (k6.below hS' k6.lt).cell (i := 2) rfl
    have a3 := (k6.below hS' k6.lt).cell (i := 3) rfl
    have a4 := (k6.below hS' k6.lt).cell (i := 4) rfl
    have b0 := (k5.below hS' k5.lt).cell (i := 0) rfl
    have b1 := (k5.below hS' k5.lt).cell (i := 1) rfl
    have b2 := (k5.below hS' k5.lt).cell (i := 2) rfl
    go_simp
    rfl
  simp only [List.setIfInBounds_toArray, List.set_cons_zero, List.set_cons_succ]
  refine take_op 10 (v := ?rv10) rfl (by kernel_rfl) (fun _ _ _ h => h) (by rfl) hS (fun w' hS' => ?ry10) ?rz10
  case ry10 =>
    go_simp
    rfl
  simp only [List.setIfInBounds_toArray, List.set_cons_zero, List.set_cons_succ]
  refine take_op 11 (v := ?rv11) rfl (by kernel_rfl) (fun _ _ _ h => h) (by rfl) hS (fun w' hS' => ?ry11) ?rz11
  case ry11 =>
    have a0 := (k6.below hS' k6.lt).cell (i := 0) rfl
    have a1 := (k6.below hS' k6.lt).cell (i := 1) rfl
    have a2 := (k6.below hS' k6.lt).cell (i := 2) rfl
    have a3 := (k6.below hS' k6.lt).cell (i := 3) rfl
    have a4 := (k6.below hS' k6.lt).cell (i := 4) rfl
    have b0 := (k5.below hS' k5.lt).cell (i := 0) rfl
    have b1 := (k5.below hS' k5.lt).cell (i := 1) rfl
    have b2 := (k5.below hS' k5.lt).cell (i := 2) rfl
    go_simp
    rfl
  simp only [List.setIfInBounds_toArray, List.set_cons_zero, List.set_cons_succ]
  refine take_op 13 (v := ?rv13) rfl (by kernel_rfl) (fun _ _ _ h => h) (by rfl) hS (fun w' hS' => ?ry13) ?rz13
  case ry13 =>
    go_simp
    rfl
  simp only [List.setIfInBounds_toArray, List.set_cons_zero, List.set_cons_succ]
  refine take_op 14 (v := ?rv14) rfl (by kernel_rfl) (fun _ _ _ h => h) (by rfl) hS (fun w' hS' => ?ry14) ?rz14
  case ry14 =>
    have a0 := (k6.below hS' k6.lt).cell (i := 0) rfl
    have a1 := (k6.below hS' k6.lt).cell (i := 1) rfl
    have a2 := (k6.below hS' k6.lt).cell (i := 2) rfl
    have a3 := (k6.below hS' k6.lt).cell (i := 3) rfl
    have a4 := (k6.below hS' k6.lt).cell (i := 4) rfl
    have b0 := (k5.below hS' k5.lt).cell (i := 0) rfl
    have b1 := (k5.below hS' k5.lt).cell (i := 1) rfl
    have b2 := (k5.below hS' k5.lt).cell (i := 2) rfl
    go_simp
    rfl
  simp only [List.setIfInBounds_toArray, List.set_cons_zero, List.set_cons_succ]
  refine take_op 15 (v := ?rv15) rfl (by kernel_rfl) (fun _ _ _ h => h) (by rfl) hS (fun w' hS' => ?ry15) ?rz15
  case ry15 =>
    go_simp
    rfl
  simp only [List.setIfInBounds_toArray, List.set_cons_zero, List.set_cons_succ]
  refine take_op 16 (v := ?rv16) rfl (by kernel_rfl) (fun _ _ _ h => h) (by rfl) hS (fun w' hS' => ?ry16) ?rz16
  case ry16 =>
    have a0 := (k6.below hS' k6.lt).cell (i := 0) rfl
    have a1 := (k6.below hS' k6.lt).cell (i := 1) rfl
    have a2 := (k6.below hS' k6.lt).cell (i := 2) rfl
    have a3 := (k6.below hS' k6.lt).cell (i := 3) rfl
    have a4 := (k6.below hS' k6.lt).cell (i := 4) rfl
    have b0 := (k5.below hS' k5.lt).cell (i := 0) rfl
    have b1 := (k5.below hS' k5.lt).cell (i := 1) rfl
    have b2 := (k5.below hS' k5.lt).cell (i := 2) rfl
    go_simp
    rfl
  simp only [List.setIfInBounds_toArray, List.set_cons_zero, List.set_cons_succ]
  refine step_op 5 (by kernel_rfl) rfl (fun K hK => ?_)
  rw [if_pos (by rfl)]
  go_simp
  refine (at_any iw ih x y a c xs n hn _ (Int.le_trans (by decide) q1) (Int.le_trans (Int.le_of_lt q4) (by omega)) q2 q3 (by omega) ((hr.below (Nat.le_refl _) hS).mono hS.size)).mono ?_
  rintro e W1 ⟨rfl, hb2⟩
  rw [hvH.out]
  have hS1 : Below W.heap.size W W1 := hS.trans (hb2.mono hS.size)
  refine hK.out _ _ (fun h => hS1) ?_
  clear hK K
  try simp only [Act.put, List.setIfInBounds_toArray, List.set_cons_zero, List.set_cons_succ]
  refine take_op 6 (v := ?rv6) rfl (by kernel_rfl) (fun _ _ _ h => h) (by rfl) hS1 (fun w' hS' => ?ry6) ?rz6
  case ry6 =>
    go_simp
    try go_ints
    rfl
  simp only [List.setIfInBounds_toArray, List.set_cons_zero, List.set_cons_succ]
  refine take_op 9 (v := ?rv9) rfl (by kernel_rfl) (fun _ _ _ h => h) (by rfl) hS1 (fun w' hS' => ?ry9) ?rz9
  case ry9 =>
    go_simp
    try go_ints
    rfl
  simp only [List.setIfInBounds_toArray, List.set_cons_zero, List.set_cons_succ]
  refine step_op 12 (by kernel_rfl) rfl (fun K hK => ?_)
  rw [if_pos (by rfl)]
  go_simp
  refine (floor_any _ _ _ (by omega) (by omega) (by omega) (by omega)).mono ?_
  rintro e W2 ⟨rfl, rfl⟩
  refine hK.out _ _ (fun h => hS1) ?_
  clear hK K
  try simp only [Act.put, List.setIfInBounds_toArray, List.set_cons_zero, List.set_cons_succ]
  refine step_op 17 (by kernel_rfl) rfl (fun K hK => ?_)
  rw [if_pos (by rfl)]
  go_simp
  refine (into_any _ _ _ _).mono ?_
  rintro e W2 ⟨rfl, rfl⟩
  refine hK.out _ _ (fun h => hS1) ?_
  clear hK K
  try simp only [Act.put, List.setIfInBounds_toArray, List.set_cons_zero, List.set_cons_succ]
  refine take_op 18 (v := ?rv18) rfl (by kernel_rfl) (fun _ _ _ h => h) (by rfl) hS1 (fun w' hS' => ?ry18) ?rz18
  case ry18 =>
    go_simp
    rfl
  simp only [List.setIfInBounds_toArray, List.set_cons_zero, List.set_cons_succ]
  refine done_ops (by kernel_rfl) ?_
  go_wp2_with fail
  go_ret
  exact ⟨ret_int (by unfold pointG pointF; rw [hvH.out]), hS1⟩

/-- What Point returns. -/
def pointS (iw ih : Int) (xs : List Int) (p : PointN) : ImR :=
  if vld iw ih xs = true then (if p.ok = true then { w := iw, h := ih, px := img iw.toNat ih.toNat (pointG iw xs p), err := 0 } else noIm 2) else noIm 20

set_option maxRecDepth 100000 in
set_option maxHeartbeats 4000000 in
theorem Point_any (iw ih : Int) (a : Option Addr) (c n : Nat) (xs : List Int) (hn : Hid (xs.length = n)) (p : PointN) (w : World) (hm : n ≤ 9223372036854775807) (hr : Rd w.heap.size w a xs) :
    Calls Try.prog 70 #[imv iw ih a n c, p.val] w (RetIm w.heap.size (pointS iw ih xs p) w) := by
  have hB0 : Below w.heap.size w (((w.alloc (.cells #[.int .i64 iw, .int .i64 ih, .slice a n c] 29)).alloc (.cells p.cells 69)).alloc (.cells #[.int .i64 0, .int .i64 0, .slice none 0 0] 29)) := below_al (below_al (below_al (Below.refl _ _) _) _) _
  obtain ⟨v0, hv⟩ : ∃ v, vld iw ih xs = v := ⟨_, rfl⟩
  have hvH := Lib.hid hv
  obtain ⟨v1, h1⟩ : ∃ v, inR p.mul (-65536) 65536 = v := ⟨_, rfl⟩
  have h1H := Lib.hid h1
  obtain ⟨v2, h2⟩ : ∃ v, ((inR p.add (-2147483648) 2147483648 && inR p.lo (-2147483648) 2147483648) && inR p.hi (-2147483648) 2147483648) = v := ⟨_, rfl⟩
  have h2H := Lib.hid h2
  obtain ⟨v3, h3⟩ : ∃ v, inR p.div 1 65536 = v := ⟨_, rfl⟩
  have h3H := Lib.hid h3
  obtain ⟨v4, h4⟩ : ∃ v, decide (p.lo ≤ p.hi) = v := ⟨_, rfl⟩
  have h4H := Lib.hid h4
  have hsp0 : pointS iw ih xs p = if v0 = true then (if (v1 && v2 && v3 && v4) = true then { w := iw, h := ih, px := img iw.toNat ih.toNat (pointG iw xs p), err := 0 } else noIm 2) else noIm 20 := by
    simp only [pointS, PointN.ok, hv, h1, h2, h3, h4]
  have hsp := Lib.hid hsp0
  clear hv h1 h2 h3 h4 hsp0
  go_enter Try.func70, Try.ntmps70
  go_wp2_with fail
  refine (valid_any iw ih a c xs n hn _ hm ((hr.below (Nat.le_refl _) hB0).mono hB0.size)).mono ?_
  rintro e W1 ⟨rfl, hb1⟩
  rw [hvH.out]
  have hB1 : Below w.heap.size w W1 := hB0.trans (hb1.mono hB0.size)
  have k5 := (((Blk.new w 29 #[.int .i64 iw, .int .i64 ih, .slice a n c]).alloc (.cells p.cells 69)).alloc (.cells #[.int .i64 0, .int .i64 0, .slice none 0 0] 29)).below hb1 (by simp <;> omega)
  have k6 := ((Blk.new (w.alloc (.cells #[.int .i64 iw, .int .i64 ih, .slice a n c] 29)) 69 p.cells).alloc (.cells #[.int .i64 0, .int .i64 0, .slice none 0 0] 29)).below hb1 (by simp <;> omega)
  have k := (Blk.new ((w.alloc (.cells #[.int .i64 iw, .int .i64 ih, .slice a n c] 29)).alloc (.cells p.cells 69)) 29 #[.int .i64 0, .int .i64 0, .slice none 0 0]).below hb1 (by simp <;> omega)
  simp only [World.size_alloc] at k k6
  clear hb1 hB0
  have hlt := k.lt
  have c0 := k.cell (i := 0) rfl
  have c1 := k.cell (i := 1) rfl
  have c2 := k.cell (i := 2) rfl
  have fc0 := k.frozen 0
  have fc1 := k.frozen 1
  have fc2 := k.frozen 2
  have m0 := k5.cell (i := 0) rfl
  have m1 := k5.cell (i := 1) rfl
  have a0 := k6.cell (i := 0) rfl
  have a1 := k6.cell (i := 1) rfl
  have a2 := k6.cell (i := 2) rfl
  have a3 := k6.cell (i := 3) rfl
  have a4 := k6.cell (i := 4) rfl
  cases v0 with
  | false =>
    go_wp2_with fail
    have kf := put3_blk k (.int .i64 0) (.int .i64 0) (.slice none 0 0)
    have g0 := kf.cell (i := 0) rfl
    have g1 := kf.cell (i := 1) rfl
    have g2 := kf.cell (i := 2) rfl
    exact bodyPost_ret (v := .tuple #[.agg #[.int .i64 0, .int .i64 0, .slice none 0 0], .int .i64 20]) (by simp [results, Try.results70, go_sem, g0, g1, g2]) rfl ⟨⟨_, by rw [hsp.out]; rfl, by rw [hsp.out]; exact OwnIm_nil _ _⟩, hB1.trans (put3_below (by omega) _ _ _)⟩
  | true =>
    go_wp2_with fail
    refine (within1 (-65536) 65536 p.mul v1 h1H.out _ _ _ _ (cell_new (by simp) rfl)).mono ?_
    rintro e W2 ⟨rfl, hW⟩
    have hb : Below W1.heap.size W1 W2 := alloc_below hW
    clear hW
    have hB2 := hB1.trans (hb.mono hB1.size)
    clear c0 c1 c2 fc0 fc1 fc2
    replace k := k.below hb k.lt
    have c0 := k.cell (i := 0) rfl
    have c1 := k.cell (i := 1) rfl
    have c2 := k.cell (i := 2) rfl
    have fc0 := k.frozen 0
    have fc1 := k.frozen 1
    have fc2 := k.frozen 2
    clear m0 m1
    replace k5 := k5.below hb k5.lt
    have m0 := k5.cell (i := 0) rfl
    have m1 := k5.cell (i := 1) rfl
    clear a0 a1 a2 a3 a4
    replace k6 := k6.below hb k6.lt
    have a0 := k6.cell (i := 0) rfl
    have a1 := k6.cell (i := 1) rfl
    have a2 := k6.cell (i := 2) rfl
    have a3 := k6.cell (i := 3) rfl
    have a4 := k6.cell (i := 4) rfl
    clear hb
    replace hlt := k.lt
    cases v1 with
    | false =>
      go_wp2_with fail
      have kf := put3_blk k (.int .i64 0) (.int .i64 0) (.slice none 0 0)
      have g0 := kf.cell (i := 0) rfl
      have g1 := kf.cell (i := 1) rfl
      have g2 := kf.cell (i := 2) rfl
      exact bodyPost_ret (v := .tuple #[.agg #[.int .i64 0, .int .i64 0, .slice none 0 0], .int .i64 2]) (by simp [results, Try.results70, go_sem, g0, g1, g2]) rfl ⟨⟨_, by rw [hsp.out]; rfl, by rw [hsp.out]; exact OwnIm_nil _ _⟩, hB2.trans (put3_below (by omega) _ _ _)⟩
    | true =>
      go_wp2_with fail
      refine (within3 (-2147483648) 2147483648 p.add p.lo p.hi v2 h2H.out _ _ _ 3 (Blk.new _ _ _)).mono ?_
      rintro e W3 ⟨rfl, hW⟩
      have hb : Below W2.heap.size W2 W3 := alloc_below hW
      clear hW
      have hB3 := hB2.trans (hb.mono hB2.size)
      clear c0 c1 c2 fc0 fc1 fc2
      replace k := k.below hb k.lt
      have c0 := k.cell (i := 0) rfl
      have c1 := k.cell (i := 1) rfl
      have c2 := k.cell (i := 2) rfl
      have fc0 := k.frozen 0
      have fc1 := k.frozen 1
      have fc2 := k.frozen 2
      clear m0 m1
      replace k5 := k5.below hb k5.lt
      have m0 := k5.cell (i := 0) rfl
      have m1 := k5.cell (i := 1) rfl
      clear a0 a1 a2 a3 a4
      replace k6 := k6.below hb k6.lt
      have a0 := k6.cell (i := 0) rfl
      have a1 := k6.cell (i := 1) rfl
      have a2 := k6.cell (i := 2) rfl
      have a3 := k6.cell (i := 3) rfl
      have a4 := k6.cell (i := 4) rfl
      clear hb
      replace hlt := k.lt
      cases v2 with
      | false =>
        go_wp2_with fail
        have kf := put3_blk k (.int .i64 0) (.int .i64 0) (.slice none 0 0)
        have g0 := kf.cell (i := 0) rfl
        have g1 := kf.cell (i := 1) rfl
        have g2 := kf.cell (i := 2) rfl
        exact bodyPost_ret (v := .tuple #[.agg #[.int .i64 0, .int .i64 0, .slice none 0 0], .int .i64 2]) (by simp [results, Try.results70, go_sem, g0, g1, g2]) rfl ⟨⟨_, by rw [hsp.out]; rfl, by rw [hsp.out]; exact OwnIm_nil _ _⟩, hB3.trans (put3_below (by omega) _ _ _)⟩
      | true =>
        go_wp2_with fail
        refine (within1 1 65536 p.div v3 h3H.out _ _ _ _ (cell_new (by simp) rfl)).mono ?_
        rintro e W4 ⟨rfl, hW⟩
        have hb : Below W3.heap.size W3 W4 := alloc_below hW
        clear hW
        have hB4 := hB3.trans (hb.mono hB3.size)
        clear c0 c1 c2 fc0 fc1 fc2
        replace k := k.below hb k.lt
        have c0 := k.cell (i := 0) rfl
        have c1 := k.cell (i := 1) rfl
        have c2 := k.cell (i := 2) rfl
        have fc0 := k.frozen 0
        have fc1 := k.frozen 1
        have fc2 := k.frozen 2
        clear m0 m1
        replace k5 := k5.below hb k5.lt
        have m0 := k5.cell (i := 0) rfl
        have m1 := k5.cell (i := 1) rfl
        clear a0 a1 a2 a3 a4
        replace k6 := k6.below hb k6.lt
        have a0 := k6.cell (i := 0) rfl
        have a1 := k6.cell (i := 1) rfl
        have a2 := k6.cell (i := 2) rfl
        have a3 := k6.cell (i := 3) rfl
        have a4 := k6.cell (i := 4) rfl
        clear hb
        replace hlt := k.lt
        cases v3 with
        | false =>
          go_wp2_with fail
          have kf := put3_blk k (.int .i64 0) (.int .i64 0) (.slice none 0 0)
          have g0 := kf.cell (i := 0) rfl
          have g1 := kf.cell (i := 1) rfl
          have g2 := kf.cell (i := 2) rfl
          exact bodyPost_ret (v := .tuple #[.agg #[.int .i64 0, .int .i64 0, .slice none 0 0], .int .i64 2]) (by simp [results, Try.results70, go_sem, g0, g1, g2]) rfl ⟨⟨_, by rw [hsp.out]; rfl, by rw [hsp.out]; exact OwnIm_nil _ _⟩, hB4.trans (put3_below (by omega) _ _ _)⟩
        | true =>
          cases v4 with
          | false =>
            have h4v := h4H.out
            simp only [decide_eq_false_iff_not, Int.not_le] at h4v
            go_wp2_with fail
            have kf := put3_blk k (.int .i64 0) (.int .i64 0) (.slice none 0 0)
            have g0 := kf.cell (i := 0) rfl
            have g1 := kf.cell (i := 1) rfl
            have g2 := kf.cell (i := 2) rfl
            exact bodyPost_ret (v := .tuple #[.agg #[.int .i64 0, .int .i64 0, .slice none 0 0], .int .i64 2]) (by simp [results, Try.results70, go_sem, g0, g1, g2]) rfl ⟨⟨_, by rw [hsp.out]; rfl, by rw [hsp.out]; exact OwnIm_nil _ _⟩, hB4.trans (put3_below (by omega) _ _ _)⟩
          | true =>
            have h4v := h4H.out
            simp only [decide_eq_true_eq] at h4v
            obtain ⟨⟨i1, i2⟩, ⟨i3, i4⟩, hlen, hall⟩ := vld_true hvH.out
            rw [hn.out] at hlen
            have hlenH := Lib.hid hlen
            have hallH := Lib.hid hall
            clear hlen hall
            have hok : p.ok = true := by simp only [PointN.ok, h1H.out, h2H.out, h3H.out, h4H.out]; rfl
            have hokH := Lib.hid hok
            clear hok
            obtain ⟨pw, rfl⟩ : ∃ pw : Nat, iw = (pw : Int) := ⟨iw.toNat, by omega⟩
            obtain ⟨ph, rfl⟩ : ∃ ph : Nat, ih = (ph : Int) := ⟨ih.toNat, by omega⟩
            go_wp2_with fail
            refine (made_any pw ph (by omega) (by omega) (by omega) (by omega) 107 #[.pointer (some ⟨w.heap.size + 1, 0, none⟩), .pointer (some ⟨w.heap.size, 0, none⟩)] (enters_of Try.func107 (by kernel_rfl) rfl) (pointG pw xs p) W4 (fun x y W hx hy hb => ?_)).mono ?_
            · exact Point1_any pw ph a c n xs hn hallH p hokH.out x y (w.heap.size + 1) w.heap.size W i1 i2 i3 i4 hlenH (by omega) (by omega) (by omega) (by omega) (k6.below hb k6.lt) (k5.below hb k5.lt) ((hr.below (Nat.le_refl _) (hB4.trans (hb.mono hB4.size))).mono (Nat.le_trans hB4.size hb.size))
            rintro e W7 ⟨v, rfl, ⟨s, rfl, hrow⟩, hb2⟩
            clear c0 c1 c2 fc0 fc1 fc2
            replace k := k.below hb2 k.lt
            have c0 := k.cell (i := 0) rfl
            have c1 := k.cell (i := 1) rfl
            have c2 := k.cell (i := 2) rfl
            have fc0 := k.frozen 0
            have fc1 := k.frozen 1
            have fc2 := k.frozen 2
            obtain ⟨sa, sc, rfl⟩ := row_slice hrow
            go_wp2_with fail
            have kf := put3_blk k (.int .i64 pw) (.int .i64 ph) (.slice sa (img pw ph (pointG pw xs p)).length sc)
            have g0 := kf.cell (i := 0) rfl
            have g1 := kf.cell (i := 1) rfl
            have g2 := kf.cell (i := 2) rfl
            exact bodyPost_ret (v := .tuple #[.agg #[.int .i64 pw, .int .i64 ph, .slice sa (img pw ph (pointG pw xs p)).length sc], .int .i64 0]) (by simp [results, Try.results70, go_sem, g0, g1, g2]) rfl ⟨⟨_, by rw [hsp.out]; rfl, by rw [hsp.out]; exact OwnIm.weaken ⟨_, rfl, put3_row hrow (k.not_row (by decide) hrow) _ _ _⟩ hB4.size⟩, (hB4.trans (hb2.mono hB4.size)).trans (put3_below (by omega) _ _ _)⟩

end Go.Proofs.Ytekiemlniegddaa

namespace Go.Proofs.Ytekiemlniegddaa
open Go Go.RowKit Go.Shelf
set_option linter.unusedVariables false
set_option linter.unusedSimpArgs false

theorem cXY (pw k : Nat) : cY pw k * pw + cX pw k = k := by
  have h := Nat.div_add_mod k pw
  rw [Nat.mul_comm] at h
  unfold cX cY
  rw [← Int.natCast_mul, ← Int.natCast_add, h]

theorem rd_at {B : Nat} {W : World} {a : Option Addr} {xs : List Int} {n : Nat} (h : Rd B W a xs) (hn : xs.length = n) (h0 : 0 < n) : ∃ b o, a = some ⟨b, o, none⟩ ∧ b < B ∧ ∀ i, i < n → W.cell? ⟨b, o + i, none⟩ = some (.int .i64 (px xs i)) := by
  rcases h with h | ⟨b, o, h1, h2, h3⟩
  · subst h; simp at hn; omega
  · exact ⟨b, o, h1, h2, fun i hi => by rw [h3 i (by omega)]; rfl⟩

set_option maxHeartbeats 1000000 in
theorem ValidPoint_any (p : PointN) (w : World) :
    Calls Try.prog 120 #[p.val] w fun e w' => e = .returned (.bool p.ok) ∧ Below w.heap.size w w' := by
  obtain ⟨v1, h1⟩ : ∃ v, inR p.mul (-65536) 65536 = v := ⟨_, rfl⟩
  obtain ⟨v2, h2⟩ : ∃ v, inR p.add (-2147483648) 2147483648 = v := ⟨_, rfl⟩
  obtain ⟨v3, h3⟩ : ∃ v, inR p.div 1 65536 = v := ⟨_, rfl⟩
  have hok : p.ok = (((v1 && v2) && v3) && (decide (-2147483648 ≤ p.lo) && decide (p.lo ≤ p.hi) && decide (p.hi ≤ 2147483648))) := by
    rw [← h1, ← h2, ← h3]
    simp only [PointN.ok, inR]
    rw [Bool.eq_iff_iff]
    simp only [Bool.and_eq_true, decide_eq_true_eq]
    omega
  have hokH := Lib.hid hok
  have h1H := Lib.hid h1
  have h2H := Lib.hid h2
  have h3H := Lib.hid h3
  clear hok h1 h2 h3
  have hB : Below w.heap.size w (w.alloc (.cells p.cells 69)) := below_al (Below.refl _ _) _
  go_enter Try.func120, Try.ntmps120
  go_wp2_with fail
  refine (rwithin1 _ _ _ v1 h1H.out _).mono ?_
  rintro e w' ⟨rfl, rfl⟩
  cases v1 with
  | false =>
    go_wp2_with fail
    go_ret
    exact ⟨ret_bool (by rw [hokH.out]; simp), hB⟩
  | true =>
    go_wp2_with fail
    refine (rwithin1 _ _ _ v2 h2H.out _).mono ?_
    rintro e w' ⟨rfl, rfl⟩
    cases v2 with
    | false =>
      go_wp2_with fail
      go_ret
      exact ⟨ret_bool (by rw [hokH.out]; simp), hB⟩
    | true =>
      go_wp2_with fail
      refine (rwithin1 _ _ _ v3 h3H.out _).mono ?_
      rintro e w' ⟨rfl, rfl⟩
      cases v3 with
      | false =>
        go_wp2_with fail
        go_ret
        exact ⟨ret_bool (by rw [hokH.out]; simp), hB⟩
      | true =>
        by_cases c1 : -2147483648 ≤ p.lo
        · by_cases c2 : p.lo ≤ p.hi
          · by_cases c3 : p.hi ≤ 2147483648
            · go_wp2_with fail
              go_ret
              exact ⟨ret_bool (by rw [hokH.out]; simp <;> omega), hB⟩
            · go_wp2_with fail
              go_ret
              exact ⟨ret_bool (by rw [hokH.out]; simp <;> omega), hB⟩
          · go_wp2_with fail
            go_ret
            exact ⟨ret_bool (by rw [hokH.out]; simp <;> omega), hB⟩
        · go_wp2_with fail
          go_ret
          exact ⟨ret_bool (by rw [hokH.out]; simp <;> omega), hB⟩

set_option maxRecDepth 100000 in
set_option maxHeartbeats 1000000 in
theorem Pointed_any (p : PointN) (v r : Int) (hp : p.ok = true) (hv1 : -2147483648 ≤ v) (hv2 : v ≤ 2147483648) (hr : pointF p v = r) (w : World) :
    Calls Try.prog 85 #[p.val, .int .i64 v] w fun e w' => e = .returned (.int .i64 r) ∧ Below w.heap.size w w' := by
  obtain ⟨⟨p1, p2⟩, ⟨p3, p4⟩, ⟨p5, p6⟩, ⟨p7, p8⟩, ⟨p9, p10⟩, p11⟩ := PointN.ok_true hp
  obtain ⟨r1, r2⟩ := mul_bd p1 p2 hv1 hv2 (by omega) (by omega)
  have hrH := Lib.hid hr
  clear hr hp
  have k6 := Blk.new w 69 p.cells
  have hB : Below w.heap.size w (w.alloc (.cells p.cells 69)) := below_al (Below.refl _ _) _
  obtain ⟨W, hW⟩ : ∃ W, w.alloc (.cells p.cells 69) = W := ⟨_, rfl⟩
  go_enter Try.func85, Try.ntmps85
  go_wp2_with fail
  rw [hW] at k6 hB
  clear hW
  have hS : Below W.heap.size W W.drew := (Below.refl _ _).drew
  refine plain_region (fun W' => Below W.heap.size W W') 16 16 (by kernel_rfl) rfl ?_
  simp only [Array.replicate_succ, Array.replicate_zero, List.push_toArray, List.nil_append, List.cons_append]
  refine take_op 0 (v := ?rv0) rfl (by kernel_rfl) (fun _ _ _ h => h) (by rfl) hS (fun w' hS' => ?ry0) ?rz0
  case ry0 =>
    go_simp
    rfl
  simp only [List.setIfInBounds_toArray, List.set_cons_zero, List.set_cons_succ]
  refine take_op 1 (v := ?rv1) rfl (by kernel_rfl) (fun _ _ _ h => h) (by rfl) hS (fun w' hS' => ?ry1) ?rz1
  case ry1 =>
    have a0 := (k6.below hS' k6.lt).cell (i := 0) rfl
    have a1 := (k6.below hS' k6.lt).cell (i := 1) rfl
    have a2 := (k6.below hS' k6.lt).cell (i := 2) rfl
    have a3 := (k6.below hS' k6.lt).cell (i := 3) rfl
    have a4 := (k6.below hS' k6.lt).cell (i := 4) rfl
    go_simp
    rfl
  simp only [List.setIfInBounds_toArray, List.set_cons_zero, List.set_cons_succ]
  refine take_op 2 (v := ?rv2) rfl (by kernel_rfl) (fun _ _ _ h => h) (by rfl) hS (fun w' hS' => ?ry2) ?rz2
  case ry2 =>
    go_simp
    rfl
  simp only [List.setIfInBounds_toArray, List.set_cons_zero, List.set_cons_succ]
  refine take_op 3 (v := ?rv3) rfl (by kernel_rfl) (fun _ _ _ h => h) (by rfl) hS (fun w' hS' => ?ry3) ?rz3
  case ry3 =>
    go_simp
    try go_ints
    rfl
  simp only [List.setIfInBounds_toArray, List.set_cons_zero, List.set_cons_succ]
  refine take_op 4 (v := ?rv4) rfl (by kernel_rfl) (fun _ _ _ h => h) (by rfl) hS (fun w' hS' => ?ry4) ?rz4
  case ry4 =>
    go_simp
    rfl
  simp only [List.setIfInBounds_toArray, List.set_cons_zero, List.set_cons_succ]
  refine take_op 5 (v := ?rv5) rfl (by kernel_rfl) (fun _ _ _ h => h) (by rfl) hS (fun w' hS' => ?ry5) ?rz5
  case ry5 =>
    have a0 := (k6.below hS' k6.lt).cell (i := 0) rfl
    have a1 := (k6.below hS' k6.lt).cell (i := 1) rfl
    have a2 := (k6.below hS' k6.lt).cell (i := 2) rfl
    have a3 := (k6.below hS' k6.lt).cell (i := 3) rfl
    have a4 := (k6.below hS' k6.lt).cell (i := 4) rfl
    go_simp
    rfl
  simp only [List.setIfInBounds_toArray, List.set_cons_zero, List.set_cons_succ]
  refine take_op 6 (v := ?rv6) rfl (by kernel_rfl) (fun _ _ _ h => h) (by rfl) hS (fun w' hS' => ?ry6) ?rz6
  case ry6 =>
    go_simp
    try go_ints
    rfl
  simp only [List.setIfInBounds_toArray, List.set_cons_zero, List.set_cons_succ]
  refine take_op 7 (v := ?rv7) rfl (by kernel_rfl) (fun _ _ _ h => h) (by rfl) hS (fun w' hS' => ?ry7) ?rz7
  case ry7 =>
    go_simp
    rfl
  simp only [List.setIfInBounds_toArray, List.set_cons_zero, List.set_cons_succ]
  refine take_op 8 (v := ?rv8) rfl (by kernel_rfl) (fun _ _ _ h => h) (by rfl) hS (fun w' hS' => ?ry8) ?rz8
  case ry8 =>
    have a0 := (k6.below hS' k6.lt).cell (i := 0) rfl
    have a1 := (k6.below hS' k6.lt).cell (i := 1) rfl
    have a2 := (k6.below hS' k6.lt).cell (i := 2) rfl
    have a3 := (k6.below hS' k6.lt).cell (i := 3) rfl
    have a4 := (k6.below hS' k6.lt).cell (i := 4) rfl
    go_simp
    rfl
  simp only [List.setIfInBounds_toArray, List.set_cons_zero, List.set_cons_succ]
  refine take_op 10 (v := ?rv10) rfl (by kernel_rfl) (fun _ _ _ h => h) (by rfl) hS (fun w' hS' => ?ry10) ?rz10
  case ry10 =>
    go_simp
    rfl
  simp only [List.setIfInBounds_toArray, List.set_cons_zero, List.set_cons_succ]
  refine take_op 11 (v := ?rv11) rfl (by kernel_rfl) (fun _ _ _ h => h) (by rfl) hS (fun w' hS' => ?ry11) ?rz11
  case ry11 =>
    have a0 := (k6.below hS' k6.lt).cell (i := 0) rfl
    have a1 := (k6.below hS' k6.lt).cell (i := 1) rfl
    have a2 := (k6.below hS' k6.lt).cell (i := 2) rfl
    have a3 := (k6.below hS' k6.lt).cell (i := 3) rfl
    have a4 := (k6.below hS' k6.lt).cell (i := 4) rfl
    go_simp
    rfl
  simp only [List.setIfInBounds_toArray, List.set_cons_zero, List.set_cons_succ]
  refine take_op 12 (v := ?rv12) rfl (by kernel_rfl) (fun _ _ _ h => h) (by rfl) hS (fun w' hS' => ?ry12) ?rz12
  case ry12 =>
    go_simp
    rfl
  simp only [List.setIfInBounds_toArray, List.set_cons_zero, List.set_cons_succ]
  refine take_op 13 (v := ?rv13) rfl (by kernel_rfl) (fun _ _ _ h => h) (by rfl) hS (fun w' hS' => ?ry13) ?rz13
  case ry13 =>
    have a0 := (k6.below hS' k6.lt).cell (i := 0) rfl
    have a1 := (k6.below hS' k6.lt).cell (i := 1) rfl
    have a2 := (k6.below hS' k6.lt).cell (i := 2) rfl
    have a3 := (k6.below hS' k6.lt).cell (i := 3) rfl
    have a4 := (k6.below hS' k6.lt).cell (i := 4) rfl
    go_simp
    rfl
  simp only [List.setIfInBounds_toArray, List.set_cons_zero, List.set_cons_succ]
  refine step_op 9 (by kernel_rfl) rfl (fun K hK => ?_)
  rw [if_pos (by rfl)]
  go_simp
  refine (down_any _ _ _ (by omega) (by omega) (by omega) (by omega)).mono ?_
  rintro e W2 ⟨rfl, rfl⟩
  refine hK.out _ _ (fun h => hS) ?_
  clear hK K
  try simp only [Act.put, List.setIfInBounds_toArray, List.set_cons_zero, List.set_cons_succ]
  refine step_op 14 (by kernel_rfl) rfl (fun K hK => ?_)
  rw [if_pos (by rfl)]
  go_simp
  refine (Into_any _ _ _ _).mono ?_
  rintro e W2 ⟨rfl, rfl⟩
  refine hK.out _ _ (fun h => hS) ?_
  clear hK K
  try simp only [Act.put, List.setIfInBounds_toArray, List.set_cons_zero, List.set_cons_succ]
  refine take_op 15 (v := ?rv15) rfl (by kernel_rfl) (fun _ _ _ h => h) (by rfl) hS (fun w' hS' => ?ry15) ?rz15
  case ry15 =>
    go_simp
    rfl
  simp only [List.setIfInBounds_toArray, List.set_cons_zero, List.set_cons_succ]
  refine done_ops (by kernel_rfl) ?_
  go_wp2_with fail
  go_ret
  exact ⟨ret_int (by rw [← hrH.out]; rfl), hB.trans (hS.mono hB.size)⟩

set_option maxRecDepth 100000 in
set_option maxHeartbeats 4000000 in
theorem rPoint_any (iw ih : Int) (a : Option Addr) (c n : Nat) (xs : List Int) (hn : Hid (xs.length = n)) (p : PointN) (w : World) (hm : n ≤ 9223372036854775807) (hr : Rd w.heap.size w a xs) :
    Calls Try.prog 124 #[imv iw ih a n c, p.val] w (RetIm w.heap.size (pointS iw ih xs p) w) := by
  have hB0 : Below w.heap.size w (((w.alloc (.cells #[.int .i64 iw, .int .i64 ih, .slice a n c] 29)).alloc (.cells p.cells 69)).alloc (.cells #[.int .i64 0, .int .i64 0, .slice none 0 0] 29)) := below_al (below_al (below_al (Below.refl _ _) _) _) _
  obtain ⟨v0, hv⟩ : ∃ v, vld iw ih xs = v := ⟨_, rfl⟩
  have v0H := Lib.hid hv
  obtain ⟨v1, hv1⟩ : ∃ v, p.ok = v := ⟨_, rfl⟩
  have v1H := Lib.hid hv1
  have hsp0 : pointS iw ih xs p = if v0 = true then (if v1 = true then { w := iw, h := ih, px := img iw.toNat ih.toNat (pointG iw xs p), err := 0 } else noIm 2) else noIm 20 := by
    simp only [pointS, hv, hv1]
  have hsp := Lib.hid hsp0
  clear hv hsp0 hv1
  go_enter Try.func124, Try.ntmps124
  go_wp2_with fail
  refine (Valid_any iw ih a c xs n hn _ hm ((hr.below (Nat.le_refl _) hB0).mono hB0.size)).mono ?_
  rintro e W1 ⟨rfl, hb1⟩
  rw [v0H.out]
  have hB1 : Below w.heap.size w W1 := hB0.trans (hb1.mono hB0.size)
  have k5 := (((Blk.new w 29 #[.int .i64 iw, .int .i64 ih, .slice a n c]).alloc (.cells p.cells 69)).alloc (.cells #[.int .i64 0, .int .i64 0, .slice none 0 0] 29)).below hb1 (by simp <;> omega)
  have k6 := ((Blk.new (w.alloc (.cells #[.int .i64 iw, .int .i64 ih, .slice a n c] 29)) 69 p.cells).alloc (.cells #[.int .i64 0, .int .i64 0, .slice none 0 0] 29)).below hb1 (by simp <;> omega)
  have k := (Blk.new ((w.alloc (.cells #[.int .i64 iw, .int .i64 ih, .slice a n c] 29)).alloc (.cells p.cells 69)) 29 #[.int .i64 0, .int .i64 0, .slice none 0 0]).below hb1 (by simp <;> omega)
  simp only [World.size_alloc] at k6 k
  clear hb1 hB0
  have hlt := k.lt
  have m0 := k5.cell (i := 0) rfl
  have m1 := k5.cell (i := 1) rfl
  have m2 := k5.cell (i := 2) rfl
  have a0 := k6.cell (i := 0) rfl
  have a1 := k6.cell (i := 1) rfl
  have a2 := k6.cell (i := 2) rfl
  have a3 := k6.cell (i := 3) rfl
  have a4 := k6.cell (i := 4) rfl
  have c0 := k.cell (i := 0) rfl
  have c1 := k.cell (i := 1) rfl
  have c2 := k.cell (i := 2) rfl
  have fc0 := k.frozen 0
  have fc1 := k.frozen 1
  have fc2 := k.frozen 2
  cases v0 with
  | false =>
    go_wp2_with fail
    have kf := put3_blk k (.int .i64 0) (.int .i64 0) (.slice none 0 0)
    have g0 := kf.cell (i := 0) rfl
    have g1 := kf.cell (i := 1) rfl
    have g2 := kf.cell (i := 2) rfl
    exact bodyPost_ret (v := .tuple #[.agg #[.int .i64 0, .int .i64 0, .slice none 0 0], .int .i64 20]) (by simp [results, Try.results124, go_sem, g0, g1, g2]) rfl ⟨⟨_, by rw [hsp.out]; rfl, by rw [hsp.out]; exact OwnIm_nil _ _⟩, hB1.trans (put3_below (by omega) _ _ _)⟩
  | true =>
    go_wp2_with fail
    refine (ValidPoint_any p W1).mono ?_
    rintro e W2 ⟨rfl, hb⟩
    rw [v1H.out]
    have hB2 : Below w.heap.size w W2 := hB1.trans (hb.mono hB1.size)
    clear m0 m1 m2
    replace k5 := k5.below hb k5.lt
    have m0 := k5.cell (i := 0) rfl
    have m1 := k5.cell (i := 1) rfl
    have m2 := k5.cell (i := 2) rfl
    clear a0 a1 a2 a3 a4
    replace k6 := k6.below hb k6.lt
    have a0 := k6.cell (i := 0) rfl
    have a1 := k6.cell (i := 1) rfl
    have a2 := k6.cell (i := 2) rfl
    have a3 := k6.cell (i := 3) rfl
    have a4 := k6.cell (i := 4) rfl
    clear c0 c1 c2 fc0 fc1 fc2
    replace k := k.below hb k.lt
    have c0 := k.cell (i := 0) rfl
    have c1 := k.cell (i := 1) rfl
    have c2 := k.cell (i := 2) rfl
    have fc0 := k.frozen 0
    have fc1 := k.frozen 1
    have fc2 := k.frozen 2
    clear hb
    replace hlt := k.lt
    cases v1 with
    | false =>
      go_wp2_with fail
      have kf := put3_blk k (.int .i64 0) (.int .i64 0) (.slice none 0 0)
      have g0 := kf.cell (i := 0) rfl
      have g1 := kf.cell (i := 1) rfl
      have g2 := kf.cell (i := 2) rfl
      exact bodyPost_ret (v := .tuple #[.agg #[.int .i64 0, .int .i64 0, .slice none 0 0], .int .i64 2]) (by simp [results, Try.results124, go_sem, g0, g1, g2]) rfl ⟨⟨_, by rw [hsp.out]; rfl, by rw [hsp.out]; exact OwnIm_nil _ _⟩, hB2.trans (put3_below (by omega) _ _ _)⟩
    | true =>
      obtain ⟨⟨i1, i2⟩, ⟨i3, i4⟩, hlen, hall⟩ := vld_true v0H.out
      rw [hn.out] at hlen
      have hlenH := Lib.hid hlen
      have hallH := Lib.hid hall
      clear hlen hall
      obtain ⟨pw, rfl⟩ : ∃ pw : Nat, iw = (pw : Int) := ⟨iw.toNat, by omega⟩
      obtain ⟨ph, rfl⟩ : ∃ ph : Nat, ih = (ph : Int) := ⟨ih.toNat, by omega⟩
      have hN : pw * ph = n ∧ n ≤ 256 := by
        have h1 := hlenH.out
        obtain ⟨m1, m2⟩ := mul_small (a := (pw : Int)) (b := (ph : Int)) (m := 16) (n := 16) (by omega) (by omega) (by omega) (by omega)
        have h2 : ((pw * ph : Nat) : Int) = (pw : Int) * ph := by simp
        omega
      obtain ⟨hN1, hN2⟩ := hN
      have hN1H := Lib.hid hN1
      clear hN1
      obtain ⟨ba, oa, rfl, hab, hce0⟩ := rd_at hr hn.out (by have := Nat.mul_le_mul (show 1 ≤ pw by omega) (show 1 ≤ ph by omega); have := hN1H.out; omega)
      have hce := Lib.hid hce0
      clear hce0
      go_wp2_with fail
      refine (Blank_any pw ph (by omega) (by omega) W2).mono ?_
      rintro e WB ⟨g, cap, rfl, hrow, hg, hb2⟩
      rw [hN1H.out] at hrow ⊢
      replace hrow := row_base hrow hB2.size
      replace hg := Nat.le_trans hB2.size hg
      clear m0 m1 m2
      replace k5 := k5.below hb2 k5.lt
      have m0 := k5.cell (i := 0) rfl
      have m1 := k5.cell (i := 1) rfl
      have m2 := k5.cell (i := 2) rfl
      clear a0 a1 a2 a3 a4
      replace k6 := k6.below hb2 k6.lt
      have a0 := k6.cell (i := 0) rfl
      have a1 := k6.cell (i := 1) rfl
      have a2 := k6.cell (i := 2) rfl
      have a3 := k6.cell (i := 3) rfl
      have a4 := k6.cell (i := 4) rfl
      clear c0 c1 c2 fc0 fc1 fc2
      replace k := k.below hb2 k.lt
      have c0 := k.cell (i := 0) rfl
      have c1 := k.cell (i := 1) rfl
      have c2 := k.cell (i := 2) rfl
      have fc0 := k.frozen 0
      have fc1 := k.frozen 1
      have fc2 := k.frozen 2
      go_wp2_with fail
      have hBB := hB2.trans (hb2.mono hB2.size)
      have ko := Blk.new WB 29 #[.int .i64 pw, .int .i64 ph, .slice (some ⟨g, 0, none⟩) n cap]
      have row3 := hrow.alloc (.cells #[.int .i64 pw, .int .i64 ph, .slice (some ⟨g, 0, none⟩) n cap] 29)
      obtain ⟨W3, hW3⟩ : ∃ W3, WB.alloc (.cells #[.int .i64 pw, .int .i64 ph, .slice (some ⟨g, 0, none⟩) n cap] 29) = W3 := ⟨_, rfl⟩
      have hb3 : Below WB.heap.size WB W3 := alloc_below hW3
      rw [hW3] at ko row3 ⊢
      clear hW3
      have hB3 := hBB.trans (hb3.mono hBB.size)
      clear m0 m1 m2
      replace k5 := k5.below hb3 k5.lt
      have m0 := k5.cell (i := 0) rfl
      have m1 := k5.cell (i := 1) rfl
      have m2 := k5.cell (i := 2) rfl
      clear a0 a1 a2 a3 a4
      replace k6 := k6.below hb3 k6.lt
      have a0 := k6.cell (i := 0) rfl
      have a1 := k6.cell (i := 1) rfl
      have a2 := k6.cell (i := 2) rfl
      have a3 := k6.cell (i := 3) rfl
      have a4 := k6.cell (i := 4) rfl
      clear c0 c1 c2 fc0 fc1 fc2
      replace k := k.below hb3 k.lt
      have c0 := k.cell (i := 0) rfl
      have c1 := k.cell (i := 1) rfl
      have c2 := k.cell (i := 2) rfl
      have fc0 := k.frozen 0
      have fc1 := k.frozen 1
      have fc2 := k.frozen 2
      obtain ⟨M, hM⟩ : ∃ M, WB.heap.size = M := ⟨_, rfl⟩
      rw [hM] at ko ⊢
      clear hb2 hb3 hrow hM hBB hB1 hB2
      clear m0 m1 m2 a0 a1 a2 a3 a4 c0 c1 c2 fc0 fc1 fc2
      clear WB
      clear hlt
      have row3' := row3
      rw [← upto_zero (fun i => (pointG pw xs p) (cX pw i) (cY pw i)) n] at row3'
      clear row3
      have hgl := row3'.lt g rfl
      have ngoH := Lib.hid (ko.not_row (by decide) row3')
      have ngk5H := Lib.hid (k5.not_row (by decide) row3')
      have ngk6H := Lib.hid (k6.not_row (by decide) row3')
      have ngkH := Lib.hid (k.not_row (by decide) row3')
      go_loopw [7] (fun i wr => ∃ k : Nat, k ≤ n ∧ i = .int .i64 k ∧ W3.grownBy wr (some g) ∧ wr.ownsRow w.heap.size 3 1 (.slice (some ⟨g, 0, none⟩) n cap) n ((upto (fun i => (pointG pw xs p) (cX pw i) (cY pw i)) n k).map (Value.int .i64))) (fun i _ => n - (intOf i).toNat)
      case atStart => exact ⟨0, Nat.zero_le _, rfl, ⟨rfl, rfl, rfl, Nat.le_refl _, fun _ _ _ => rfl⟩, row3'⟩
      case round =>
        obtain ⟨k', hk, rfl, hG, rowk⟩ := hrel
        have k5r := k5.kept hG ngk5H.out
        have k6r := k6.kept hG ngk6H.out
        have kor := ko.kept hG ngoH.out
        have hS : Below wr.heap.size wr wr.drew := (Below.refl _ _).drew
        have hBr : Below w.heap.size w wr := hB3.grown hG hB3.size (fun j e => by cases e; exact hg)
        have m2 := k5r.cell (i := 2) rfl
        have hpw0 : pw ≠ 0 := by omega
        by_cases hlt : k' < n
        · obtain ⟨x1, x2⟩ := cX_bd (pw := pw) (i := k') (by omega)
          obtain ⟨y1, y2⟩ := cY_bd (pw := pw) (ph := ph) (i := k') (by rw [hN1H.out]; exact hlt)
          rw [cX_eq] at x1 x2
          rw [cY_eq] at y1 y2
          obtain ⟨vb1, vb2⟩ := px_bd hallH.out (k' : Int)
          go_wp2_with fail
          refine plain_region (fun W' => Below wr.heap.size wr W') 11 12 (by kernel_rfl) rfl ?_
          simp only [Array.replicate_succ, Array.replicate_zero, List.push_toArray, List.nil_append, List.cons_append]
          refine take_op 0 (v := ?rv0) rfl (by kernel_rfl) (fun _ _ _ h => h) (by rfl) hS (fun w' hS' => ?ry0) ?rz0
          case ry0 =>
            go_simp
            rfl
          simp only [List.setIfInBounds_toArray, List.set_cons_zero, List.set_cons_succ]
          refine take_op 1 (v := ?rv1) rfl (by kernel_rfl) (fun _ _ _ h => h) (by rfl) hS (fun w' hS' => ?ry1) ?rz1
          case ry1 =>
            have a2 := (kor.below hS' kor.lt).cell (i := 2) rfl
            have b0 := (k5r.below hS' k5r.lt).cell (i := 2) rfl
            have d0 := (k6r.below hS' k6r.lt).cell (i := 0) rfl
            have d1 := (k6r.below hS' k6r.lt).cell (i := 1) rfl
            have d2 := (k6r.below hS' k6r.lt).cell (i := 2) rfl
            have d3 := (k6r.below hS' k6r.lt).cell (i := 3) rfl
            have d4 := (k6r.below hS' k6r.lt).cell (i := 4) rfl
            have x0 := ((hBr.trans (hS'.mono hBr.size)).cell (p := ⟨ba, oa + k', none⟩) hab).trans (hce.out k' hlt)
            go_simp
            rfl
          simp only [List.setIfInBounds_toArray, List.set_cons_zero, List.set_cons_succ]
          refine take_op 2 (v := ?rv2) rfl (by kernel_rfl) (fun _ _ _ h => h) (by rfl) hS (fun w' hS' => ?ry2) ?rz2
          case ry2 =>
            go_simp
            rfl
          simp only [List.setIfInBounds_toArray, List.set_cons_zero, List.set_cons_succ]
          refine take_op 3 (v := ?rv3) rfl (by kernel_rfl) (fun _ _ _ h => h) (by rfl) hS (fun w' hS' => ?ry3) ?rz3
          case ry3 =>
            have a2 := (kor.below hS' kor.lt).cell (i := 2) rfl
            have b0 := (k5r.below hS' k5r.lt).cell (i := 2) rfl
            have d0 := (k6r.below hS' k6r.lt).cell (i := 0) rfl
            have d1 := (k6r.below hS' k6r.lt).cell (i := 1) rfl
            have d2 := (k6r.below hS' k6r.lt).cell (i := 2) rfl
            have d3 := (k6r.below hS' k6r.lt).cell (i := 3) rfl
            have d4 := (k6r.below hS' k6r.lt).cell (i := 4) rfl
            have x0 := ((hBr.trans (hS'.mono hBr.size)).cell (p := ⟨ba, oa + k', none⟩) hab).trans (hce.out k' hlt)
            go_simp
            rfl
          simp only [List.setIfInBounds_toArray, List.set_cons_zero, List.set_cons_succ]
          refine take_op 4 (v := ?rv4) rfl (by kernel_rfl) (fun _ _ _ h => h) (by rfl) hS (fun w' hS' => ?ry4) ?rz4
          case ry4 =>
            go_simp
            rfl
          simp only [List.setIfInBounds_toArray, List.set_cons_zero, List.set_cons_succ]
          refine take_op 5 (v := ?rv5) rfl (by kernel_rfl) (fun _ _ _ h => h) (by rfl) hS (fun w' hS' => ?ry5) ?rz5
          case ry5 =>
            have a2 := (kor.below hS' kor.lt).cell (i := 2) rfl
            have b0 := (k5r.below hS' k5r.lt).cell (i := 2) rfl
            have d0 := (k6r.below hS' k6r.lt).cell (i := 0) rfl
            have d1 := (k6r.below hS' k6r.lt).cell (i := 1) rfl
            have d2 := (k6r.below hS' k6r.lt).cell (i := 2) rfl
            have d3 := (k6r.below hS' k6r.lt).cell (i := 3) rfl
            have d4 := (k6r.below hS' k6r.lt).cell (i := 4) rfl
            have x0 := ((hBr.trans (hS'.mono hBr.size)).cell (p := ⟨ba, oa + k', none⟩) hab).trans (hce.out k' hlt)
            go_simp
            rfl
          simp only [List.setIfInBounds_toArray, List.set_cons_zero, List.set_cons_succ]
          refine take_op 6 (v := ?rv6) rfl (by kernel_rfl) (fun _ _ _ h => h) (by rfl) hS (fun w' hS' => ?ry6) ?rz6
          case ry6 =>
            go_simp
            rfl
          simp only [List.setIfInBounds_toArray, List.set_cons_zero, List.set_cons_succ]
          refine take_op 7 (v := ?rv7) rfl (by kernel_rfl) (fun _ _ _ h => h) (by rfl) hS (fun w' hS' => ?ry7) ?rz7
          case ry7 =>
            go_simp
            try go_ints
            rfl
          simp only [List.setIfInBounds_toArray, List.set_cons_zero, List.set_cons_succ]
          refine take_op 8 (v := ?rv8) rfl (by kernel_rfl) (fun _ _ _ h => h) (by rfl) hS (fun w' hS' => ?ry8) ?rz8
          case ry8 =>
            have a2 := (kor.below hS' kor.lt).cell (i := 2) rfl
            have b0 := (k5r.below hS' k5r.lt).cell (i := 2) rfl
            have d0 := (k6r.below hS' k6r.lt).cell (i := 0) rfl
            have d1 := (k6r.below hS' k6r.lt).cell (i := 1) rfl
            have d2 := (k6r.below hS' k6r.lt).cell (i := 2) rfl
            have d3 := (k6r.below hS' k6r.lt).cell (i := 3) rfl
            have d4 := (k6r.below hS' k6r.lt).cell (i := 4) rfl
            have x0 := ((hBr.trans (hS'.mono hBr.size)).cell (p := ⟨ba, oa + k', none⟩) hab).trans (hce.out k' hlt)
            go_simp
            rfl
          simp only [List.setIfInBounds_toArray, List.set_cons_zero, List.set_cons_succ]
          refine step_op 9 (by kernel_rfl) rfl (fun K hK => ?_)
          rw [if_pos (by rfl)]
          go_simp
          refine (Pointed_any p _ (pointG pw xs p (cX pw k') (cY pw k')) v1H.out vb1 vb2 (by unfold pointG; rw [cXY]) _).mono ?_
          rintro e W4 ⟨rfl, hb4⟩
          have hS4 : Below wr.heap.size wr W4 := hS.trans (hb4.mono hS.size)
          refine hK.out _ _ (fun h => hS4) ?_
          clear hK K
          try simp only [Act.put, List.setIfInBounds_toArray, List.set_cons_zero, List.set_cons_succ]
          have row4 := row_below rowk hS4
          have hcell := row4.cellAt k' (by omega)
          have hfr := row4.frozenAt k'
          have hcell2 : ((upto (fun i => (pointG pw xs p) (cX pw i) (cY pw i)) n k').map (Value.int .i64))[k']? = some (.int .i64 0) := by simp [upto, hlt]
          rw [hcell2] at hcell
          clear hcell2
          refine take_op 10 (v := ?rv10) rfl (by kernel_rfl) (fun _ _ _ h => h) (by rfl) hS4 (fun w' hS' => ?ry10) ?rz10
          case ry10 =>
            go_simp
            try go_ints
            rfl
          simp only [List.setIfInBounds_toArray, List.set_cons_zero, List.set_cons_succ]
          refine step_op 11 (by kernel_rfl) rfl (fun K hK => ?_)
          rw [if_pos (by rfl)]
          go_simp
          refine hK.out _ _ (fun h => absurd h (by omega)) ?_
          clear hK K
          try simp only [Act.put, List.setIfInBounds_toArray, List.set_cons_zero, List.set_cons_succ]
          refine done_ops (by kernel_rfl) ?_
          go_wp2_with fail
          go_roundw
          case rel =>
            have hst := (row4.stored k' (.int .i64 ((pointG pw xs p) (cX pw k') (cY pw k')))).1
            rw [map_set_int, upto_set (fun i => (pointG pw xs p) (cX pw i) (cY pw i)) n k' hlt] at hst
            exact ⟨k' + 1, by omega, by go_num, grown_trans hG (grown_trans (grown_of_below hS4 _) (row4.stored k' (.int .i64 ((pointG pw xs p) (cX pw k') (cY pw k')))).2), hst⟩
          case measure => simp [intOf]; omega
        · have hkn : n = k' := by omega
          subst hkn
          have kr := k.kept hG ngkH.out
          have o0 := kor.cell (i := 0) rfl
          have o1 := kor.cell (i := 1) rfl
          have o2 := kor.cell (i := 2) rfl
          have c0 := kr.cell (i := 0) rfl
          have c1 := kr.cell (i := 1) rfl
          have c2 := kr.cell (i := 2) rfl
          have fc0 := kr.frozen 0
          have fc1 := kr.frozen 1
          have fc2 := kr.frozen 2
          go_wp2_with fail
          have kf := put3_blk kr (.int .i64 pw) (.int .i64 ph) (.slice (some ⟨g, 0, none⟩) n cap)
          have g0 := kf.cell (i := 0) rfl
          have g1 := kf.cell (i := 1) rfl
          have g2 := kf.cell (i := 2) rfl
          have hpx : (List.range n).map (fun i => (pointG pw xs p) (cX pw i) (cY pw i)) = img pw ph (pointG pw xs p) := by
            rw [← hN1H.out]
            exact img_plain fun i hi => pointF_bd v1H.out _
          rw [upto_all, hpx] at rowk
          have hlen2 : (img pw ph (pointG pw xs p)).length = n := by rw [img_length]; exact hN1H.out
          exact bodyPost_ret (v := .tuple #[.agg #[.int .i64 pw, .int .i64 ph, .slice (some ⟨g, 0, none⟩) n cap], .int .i64 0]) (by simp [results, Try.results124, go_sem, g0, g1, g2]) rfl ⟨⟨_, by rw [hsp.out]; rfl, by rw [hsp.out]; exact ⟨_, rfl, row_len hlen2.symm (put3_row rowk (kr.not_row (by decide) rowk) _ _ _)⟩⟩, hBr.trans (put3_below (by omega) _ _ _)⟩
end Go.Proofs.Ytekiemlniegddaa

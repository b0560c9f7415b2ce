/- The contract of the program's Basins. -/
import Derived.Test.YtjglfeonoiljlaaBW
import Derived.Test.YtjglfeonoiljlaaImgLabel
namespace Go.Proofs.Ytjglfeonoiljlaa
open Go Go.RowKit Go.Shelf
set_option linter.unusedVariables false
set_option linter.unusedSimpArgs false

attribute [local go_sem] Oper.semAt_some

theorem lowL_lt {m : Nat → Int} {i N : Nat} {l : List Nat} (hi : i < N) (hl : ∀ k ∈ l, k < N) : lowL m i l < N := by
  rcases (lowL_isLow m i l).mem with h | h
  · rw [h]; exact hi
  · exact hl _ h

/-- What a round of the search for the lowest neighbour keeps. -/
structure BI (B b4 g bt gt : Nat) (iw ih : Int) (a : Option Addr) (c n : Nat) (w : World) (rs : List Nat) (S0 bi i : Nat) (L T : List Int) (m : Nat → Int) (pre : List Nat) (W : World) : Prop where
  bw : BW B b4 g bt gt iw ih a c n w rs W L (T.set i (lowL m i pre : Nat))
  ki : Blk W bi 3 #[.int .i64 i]
  sz : S0 ≤ W.heap.size
  pn : ∀ k ∈ pre, k < n
theorem BI.own {B b4 g bt gt : Nat} {iw ih : Int} {a : Option Addr} {c n : Nat} {w : World} {rs : List Nat} {S0 bi i : Nat} {L T : List Int} {m : Nat → Int} (hB : B ≤ w.heap.size) (hBS : B ≤ S0) (hml : ∀ r ∈ rs, r < S0) :
    OwnFrom S0 (fun pre W => BI B b4 g bt gt iw ih a c n w rs S0 bi i L T m pre W) := by
  rintro pre W W' row h hg hr
  exact ⟨h.bw.keeps hB hBS hml hg hr, blk_keeps h.ki hg fun r e => (hr r e).2, Nat.le_trans h.sz hg.size, h.pn⟩

set_option maxRecDepth 100000 in
set_option maxHeartbeats 16000000 in
theorem Basins_any (iw ih : Int) (a : Option Addr) (c n : Nat) (xs : List Int) (hn : Hid (xs.length = n)) (w : World) (hm : n ≤ 9223372036854775807) (hr : Rd w.heap.size w a xs) :
    Calls Try.prog 59 #[imv iw ih a n c] w (RetNum w.heap.size (basS iw ih xs) w) := by
  have hB0 : Below w.heap.size w ((w.alloc (.cells #[.int .i64 iw, .int .i64 ih, .slice a n c] 24)).alloc (.cells #[.int .i64 0, .int .i64 0, .slice none 0 0] 24)) := below_al (below_al (Below.refl _ _) _) _
  obtain ⟨v0, hv⟩ : ∃ v, vld iw ih xs = v := ⟨_, rfl⟩
  have v0H := Lib.hid hv
  have hsp := Lib.hid (show basS iw ih xs = if v0 = true then { im := { w := iw, h := ih, px := basinL iw.toNat ih.toNat (fun k => px xs k), err := 0 }, n := (endsTo iw.toNat ih.toNat (fun k => px xs k) (iw.toNat * ih.toNat) : Nat) } else { im := noIm 20, n := 0 } by unfold basS; rw [hv])
  clear hv
  obtain ⟨i0, hi, hz0, hz1, hz2⟩ := info_parts info_int
  refine (callsIn_wide (n := 10)).1 ?_
  refine callsIn_of_wp_marks Try.func59 rfl trivial ?_
  simp only [Try.ntmps59, List.size_toArray, List.length_cons, List.length_nil, Nat.reduceAdd, Nat.reduceSub, Array.replicate_succ, Array.replicate_zero, List.push_toArray, List.append_toArray, List.nil_append, List.cons_append]
  gi_wp2_with fail
  refine ⟨trivial, (callsIn_wide.2 (valid_any iw ih a c xs n hn _ hm ((hr.below (Nat.le_refl _) hB0).mono hB0.size))).mono ?_⟩
  rintro e0 W1 ⟨rfl, hb1⟩
  rw [v0H.out]
  have hB1 : Below w.heap.size w W1 := hB0.trans (hb1.mono hB0.size)
  have k1 := ((Blk.new w 24 #[.int .i64 iw, .int .i64 ih, .slice a n c]).alloc (.cells #[.int .i64 0, .int .i64 0, .slice none 0 0] 24)).below hb1 (by simp <;> omega)
  have k2 := (Blk.new (w.alloc (.cells #[.int .i64 iw, .int .i64 ih, .slice a n c] 24)) 24 #[.int .i64 0, .int .i64 0, .slice none 0 0]).below hb1 (by simp <;> omega)
  have hs1 : w.heap.size + 2 ≤ W1.heap.size := by have := hb1.size; simpa using this
  simp only [World.size_alloc] at k2
  clear hb1 hB0
  have m0 := k1.cell (i := 0) rfl
  have m1 := k1.cell (i := 1) rfl
  have m2 := k1.cell (i := 2) rfl
  have c0 := k2.cell (i := 0) rfl
  have c1 := k2.cell (i := 1) rfl
  have c2 := k2.cell (i := 2) rfl
  have fc0 := k2.frozen 0
  have fc1 := k2.frozen 1
  have fc2 := k2.frozen 2
  cases v0 with
  | false =>
    gi_wp2_with fail
    have kf := put3_blk k2 (.int .i64 0) (.int .i64 0) (.slice none 0 0)
    have g0 := kf.cell (i := 0) rfl
    have g1 := kf.cell (i := 1) rfl
    have g2 := kf.cell (i := 2) rfl
    exact ⟨.tuple #[.agg #[.int .i64 0, .int .i64 0, .slice none 0 0], .int .i64 0, .int .i64 20], by simp [results, Try.results59, go_sem, g0, g1, g2], ⟨_, by rw [hsp.out]; rfl, by rw [hsp.out]; exact OwnIm_nil _ _⟩, hB1.trans (put3_below (by omega) _ _ _)⟩
  | true =>
    obtain ⟨⟨i1, i2⟩, ⟨i3, i4⟩, hlen, hall⟩ := vld_true v0H.out
    rw [hn.out] at hlen
    have hlenH := Lib.hid hlen
    have hallH := Lib.hid hall
    clear hlen hall
    obtain ⟨pw, rfl⟩ : ∃ pw : Nat, iw = (pw : Int) := ⟨iw.toNat, by omega⟩
    obtain ⟨ph, rfl⟩ : ∃ ph : Nat, ih = (ph : Int) := ⟨ih.toNat, by omega⟩
    have hN : pw * ph = n ∧ n ≤ 256 := by
      have h1 := hlenH.out
      obtain ⟨m1, m2⟩ := mul_small (a := (pw : Int)) (b := (ph : Int)) (m := 16) (n := 16) (by omega) (by omega) (by omega) (by omega)
      have h2 : ((pw * ph : Nat) : Int) = (pw : Int) * ph := by simp
      omega
    obtain ⟨hN1, hN2⟩ := hN
    have hN1H := Lib.hid hN1
    have hn0 : 0 < n := by rw [← hN1]; exact Nat.mul_pos (by omega) (by omega)
    obtain ⟨ba, oa, rfl, hba, hca⟩ := rd_at hr hn.out hn0
    have hcaH := Lib.hid hca
    clear hca hr
    clear hN1 m0 m1 m2 c0 c1 c2 fc0 fc1 fc2
    have m2 := k1.cell (i := 2) rfl
    gi_wp2_with (gi_at_make; refine wpListIn_make_full _ rfl _ _ 22 rfl w.heap.size 3 i0 (.int .i64 0) 1 Try.underlying22 hi hz0 hz1 .i64 .i64 (n : Int) (n : Int) n rfl rfl rfl rfl (by rw [hz2]; omega) (by unfold maxLen; omega) (by omega) ?_; intro w1 hown hg)
    clear m2
    have hzz : (madeCells (Value.int .i64 0).cells (n * 1)).toList = (List.replicate n (0 : Int)).map (Value.int .i64) := by simp only [madeCells, Value.cells]; simp [Nat.mod_one, List.map_const']
    rw [hzz] at hown
    obtain ⟨bt, hbt⟩ : ∃ b, w1.heap.size = b := ⟨_, rfl⟩
    obtain ⟨gt, hgt⟩ : ∃ b, W1.heap.size = b := ⟨_, rfl⟩
    have hsz1 := hg.size
    rw [hgt] at hown
    have kt0 := Blk.new w1 22 #[.slice (some ⟨gt, 0, none⟩) n n]
    have hga := World.grownBy_alloc w1 (.cells #[.slice (some ⟨gt, 0, none⟩) n n] 22) none
    have k1b := (k1.kept hg (by simp)).kept hga (by simp)
    have k2b := (k2.kept hg (by simp)).kept hga (by simp)
    have hBb := (hB1.grown hg hB1.size (fun k e => by cases e)).grown hga (Nat.le_trans hB1.size hg.size) (fun k e => by cases e)
    have hto := hown.kept hga (.inr (by simp [Value.ownBlock]))
    rw [hgt, hbt]
    rw [hbt] at kt0
    have hszb : (w1.alloc (.cells #[.slice (some ⟨gt, 0, none⟩) n n] 22)).heap.size = bt + 1 := by rw [World.size_alloc, hbt]
    obtain ⟨Wb, hWb⟩ : ∃ X, w1.alloc (.cells #[.slice (some ⟨gt, 0, none⟩) n n] 22) = X := ⟨_, rfl⟩
    rw [hWb] at kt0 k1b k2b hBb hto hszb ⊢
    have hgt2 : w.heap.size + 2 ≤ gt ∧ gt < Wb.heap.size := by omega
    clear hWb hga hg hown hzz k1 k2 hB1
    have hs1b : w.heap.size + 2 ≤ Wb.heap.size := by omega
    refine wpIn_mono (Q := fun e' a' w' => e' = .normal ∧ ∃ b4 g, FW w.heap.size b4 g pw ph (some ⟨ba, oa, none⟩) c n w w' (List.replicate n 0) ∧ Wb.heap.size ≤ g ∧ Below Wb.heap.size Wb w' ∧ ∃ u : Nat → Value, a' = ⟨#[u 0, .pointer (some ⟨w.heap.size, 0, none⟩), .pointer (some ⟨w.heap.size + 1, 0, none⟩), u 3, u 4, .pointer (some ⟨bt, 0, none⟩), .int .i64 0, .pointer (some ⟨b4, 0, none⟩), u 8, u 9, u 10, u 11, u 12, u 13, u 14, u 15, u 16, u 17, u 18, u 19, u 20, u 21, u 22, u 23, u 24, u 25, u 26, u 27, u 28, u 29, u 30, u 31, u 32, u 33, u 34, u 35, u 36, u 37, u 38, u 39, u 40, u 41, u 42, u 43, u 44, u 45, u 46, u 47, u 48, u 49, u 50, u 51, u 52, u 53, u 54, u 55, u 56, u 57, u 58, u 59, u 60, u 61, u 62, u 63, u 64, u 65, u 66, u 67, u 68, u 69, u 70, u 71, u 72, u 73, u 74, u 75, u 76, u 77, u 78, u 79, u 80, u 81, u 82, u 83, u 84, u 85, u 86, u 87, u 88, u 89, u 90, u 91, u 92, u 93, u 94, u 95, u 96, u 97, u 98, u 99, u 100, u 101, u 102, u 103, u 104, u 105, u 106, u 107, u 108, u 109, u 110, u 111, u 112, u 113, u 114, u 115, u 116, u 117, u 118], []⟩) ?draw ?cont
    case draw =>
      refine wpIn_wide.2 ?_
      have hS : Below Wb.heap.size Wb Wb.drew := (Below.refl _ _).drew
      refine plain_region (fun W' => Below Wb.heap.size Wb W') 10 11 (by kernel_rfl) rfl ?_
      simp only [Array.replicate_succ, Array.replicate_zero, List.push_toArray, List.nil_append, List.cons_append]
      obtain ⟨X0, hX0⟩ : ∃ X, Wb.drew = X := ⟨_, rfl⟩
      rw [hX0] at hS ⊢
      clear hX0
      refine take_op 0 (v := ?r1v) rfl (by kernel_rfl) (fun _ _ _ h => nomatch h.1) (by rfl) hS (fun w' hS' => ?r1y) ?r1z
      case r1y =>
        go_simp
        rfl
      simp only [List.setIfInBounds_toArray, List.set_cons_zero, List.set_cons_succ]
      refine take_op 1 (v := ?r2v) rfl (by kernel_rfl) (fun _ _ _ h => nomatch h.1) (by rfl) hS (fun w' hS' => ?r2y) ?r2z
      case r2y =>
        have m0 := (k1b.below hS' k1b.lt).cell (i := 0) rfl
        have m1 := (k1b.below hS' k1b.lt).cell (i := 1) rfl
        have m2 := (k1b.below hS' k1b.lt).cell (i := 2) rfl
        go_simp
        rfl
      simp only [List.setIfInBounds_toArray, List.set_cons_zero, List.set_cons_succ]
      refine take_op 2 (v := ?r3v) rfl (by kernel_rfl) (fun _ _ _ h => nomatch h.1) (by rfl) hS (fun w' hS' => ?r3y) ?r3z
      case r3y =>
        go_simp
        rfl
      simp only [List.setIfInBounds_toArray, List.set_cons_zero, List.set_cons_succ]
      refine take_op 3 (v := ?r4v) rfl (by kernel_rfl) (fun _ _ _ h => nomatch h.1) (by rfl) hS (fun w' hS' => ?r4y) ?r4z
      case r4y =>
        have m0 := (k1b.below hS' k1b.lt).cell (i := 0) rfl
        have m1 := (k1b.below hS' k1b.lt).cell (i := 1) rfl
        have m2 := (k1b.below hS' k1b.lt).cell (i := 2) rfl
        go_simp
        rfl
      simp only [List.setIfInBounds_toArray, List.set_cons_zero, List.set_cons_succ]
      refine take_op 4 (v := ?r5v) rfl (by kernel_rfl) (fun _ _ _ h => nomatch h.1) (by rfl) hS (fun w' hS' => ?r5y) ?r5z
      case r5y =>
        go_simp
        rfl
      simp only [List.setIfInBounds_toArray, List.set_cons_zero, List.set_cons_succ]
      refine take_op 5 (v := ?r6v) rfl (by kernel_rfl) (fun _ _ _ h => nomatch h.1) (by rfl) hS (fun w' hS' => ?r6y) ?r6z
      case r6y =>
        have m0 := (k1b.below hS' k1b.lt).cell (i := 0) rfl
        have m1 := (k1b.below hS' k1b.lt).cell (i := 1) rfl
        have m2 := (k1b.below hS' k1b.lt).cell (i := 2) rfl
        go_simp
        rfl
      simp only [List.setIfInBounds_toArray, List.set_cons_zero, List.set_cons_succ]
      refine take_op 6 (v := ?r7v) rfl (by kernel_rfl) (fun _ _ _ h => nomatch h.1) (by rfl) hS (fun w' hS' => ?r7y) ?r7z
      case r7y =>
        go_simp
        rfl
      simp only [List.setIfInBounds_toArray, List.set_cons_zero, List.set_cons_succ]
      refine fork2 (i := 7) (j := 9) (by kernel_rfl) ?_ ?_
      · refine step_at 7 rfl (fun K hK => ?_)
        have hszA := hS.size
        refine step_make_full rfl _ _ 22 rfl w.heap.size 3 i0 (.int .i64 0) 1 Try.underlying22 hi hz0 hz1 .i64 .i64 n rfl rfl (by rw [hz2]; omega) (by unfold maxLen; omega) (by omega) ?_
        intro X7 hown hgX
        have hS7 : Below Wb.heap.size Wb X7 := hS.grown hgX hS.size (fun k e => by cases e)
        refine hK.out _ _ (fun h => hS7) ?_
        clear hK K
        try simp only [Act.put, List.setIfInBounds_toArray, List.set_cons_zero, List.set_cons_succ]
        refine take_op 8 (v := ?r8v) rfl (by kernel_rfl) (fun _ _ _ h => nomatch h.1) (by rfl) hS7 (fun w' hS' => ?r8y) ?r8z
        case r8y =>
          go_simp
          rfl
        simp only [List.setIfInBounds_toArray, List.set_cons_zero, List.set_cons_succ]
        refine step_op 9 (by kernel_rfl) rfl (fun K hK => ?_)
        have hszB := hS7.size
        rw [if_pos (by rfl)]
        go_simp
        have hS9' := below_al hS7 (.cells #[.int .i64 0, .int .i64 0, .slice none 0 0] 24)
        obtain ⟨X9, hX9⟩ : ∃ X, X7.alloc (.cells #[.int .i64 0, .int .i64 0, .slice none 0 0] 24) = X := ⟨_, rfl⟩
        have k4 := Blk.new X7 24 #[.int .i64 0, .int .i64 0, .slice none 0 0]
        have hgZ : X7.grownBy X9 none := hX9 ▸ World.grownBy_alloc _ _ none
        rw [hX9] at hS9' k4 ⊢
        have hS9 := hS9'
        clear hS9'
        refine hK.out _ _ (fun h => hS9) ?_
        clear hK K
        try simp only [Act.put, List.setIfInBounds_toArray, List.set_cons_zero, List.set_cons_succ]
        refine step_op 10 (by kernel_rfl) rfl (fun K hK => ?_)
        have hownZ := hown.kept hgZ (.inr (by simp [Value.ownBlock]))
        obtain ⟨b4, hb4⟩ : ∃ b, X7.heap.size = b := ⟨_, rfl⟩
        obtain ⟨g, hg4⟩ : ∃ b, X0.heap.size = b := ⟨_, rfl⟩
        rw [hg4] at hownZ ⊢
        rw [hb4] at k4 ⊢
        have d0 := k4.cell (i := 0) rfl
        have d1 := k4.cell (i := 1) rfl
        have d2 := k4.cell (i := 2) rfl
        have f0 := k4.frozen 0
        have f1 := k4.frozen 1
        have f2 := k4.frozen 2
        rw [if_pos (by rfl)]
        go_simp
        refine hK.out _ _ (fun h => absurd h (by omega)) ?_
        clear hK K
        try simp only [Act.put, List.setIfInBounds_toArray, List.set_cons_zero, List.set_cons_succ]
        refine done_ops (by kernel_rfl) ?_
        have hzz : (madeCells (Value.int .i64 0).cells (n * 1)).toList = (List.replicate n (0 : Int)).map (Value.int .i64) := by simp only [madeCells, Value.cells]; simp [Nat.mod_one, List.map_const']
        rw [hzz] at hownZ
        have hbb := hBb.trans (hS9.mono hBb.size)
        have hgw : w.heap.size + 2 ≤ g := by omega
        have hgb : Wb.heap.size ≤ g ∧ Wb.heap.size ≤ b4 := ⟨by omega, by omega⟩
        exact ⟨rfl, b4, g, ⟨(put3_below (n := b4) (B := b4) (Nat.le_refl _) _ _ _).block _ (by omega) |>.trans ((k1b.below hS9 k1b.lt)), ((put3_below (n := b4) (B := b4) (Nat.le_refl _) _ _ _).block _ (by omega)).trans (k2b.below hS9 k2b.lt), put3_blk k4 _ _ _, put3_row hownZ (k4.not_row (by decide) hownZ) _ _ _, hbb.trans (put3_below (by omega) _ _ _)⟩, hgb.1, hS9.trans (put3_below hgb.2 _ _ _), ex_fn rfl⟩
      · refine step_at 9 rfl (fun K hK => ?_)
        have hszB := hS.size
        rw [if_pos (by rfl)]
        go_simp
        have hS9' := below_al hS (.cells #[.int .i64 0, .int .i64 0, .slice none 0 0] 24)
        obtain ⟨X9, hX9⟩ : ∃ X, X0.alloc (.cells #[.int .i64 0, .int .i64 0, .slice none 0 0] 24) = X := ⟨_, rfl⟩
        have k4 := Blk.new X0 24 #[.int .i64 0, .int .i64 0, .slice none 0 0]
        have hgZ : X0.grownBy X9 none := hX9 ▸ World.grownBy_alloc _ _ none
        rw [hX9] at hS9' k4 ⊢
        have hS9 := hS9'
        clear hS9'
        refine hK.out _ _ (fun h => hS9) ?_
        clear hK K
        try simp only [Act.put, List.setIfInBounds_toArray, List.set_cons_zero, List.set_cons_succ]
        refine step_op 7 (by kernel_rfl) rfl (fun K hK => ?_)
        have hszA := hS9.size
        refine step_make_full rfl _ _ 22 rfl w.heap.size 3 i0 (.int .i64 0) 1 Try.underlying22 hi hz0 hz1 .i64 .i64 n rfl rfl (by rw [hz2]; omega) (by unfold maxLen; omega) (by omega) ?_
        intro X7 hown hgX
        have hS7 : Below Wb.heap.size Wb X7 := hS9.grown hgX hS9.size (fun k e => by cases e)
        refine hK.out _ _ (fun h => hS7) ?_
        clear hK K
        try simp only [Act.put, List.setIfInBounds_toArray, List.set_cons_zero, List.set_cons_succ]
        refine take_op 8 (v := ?r9v) rfl (by kernel_rfl) (fun _ _ _ h => nomatch h.1) (by rfl) hS7 (fun w' hS' => ?r9y) ?r9z
        case r9y =>
          go_simp
          rfl
        simp only [List.setIfInBounds_toArray, List.set_cons_zero, List.set_cons_succ]
        refine step_op 10 (by kernel_rfl) rfl (fun K hK => ?_)
        replace k4 := k4.kept hgX (by simp)
        have hownZ := hown
        obtain ⟨b4, hb4⟩ : ∃ b, X0.heap.size = b := ⟨_, rfl⟩
        obtain ⟨g, hg4⟩ : ∃ b, X9.heap.size = b := ⟨_, rfl⟩
        rw [hg4] at hownZ ⊢
        rw [hb4] at k4 ⊢
        have d0 := k4.cell (i := 0) rfl
        have d1 := k4.cell (i := 1) rfl
        have d2 := k4.cell (i := 2) rfl
        have f0 := k4.frozen 0
        have f1 := k4.frozen 1
        have f2 := k4.frozen 2
        rw [if_pos (by rfl)]
        go_simp
        refine hK.out _ _ (fun h => absurd h (by omega)) ?_
        clear hK K
        try simp only [Act.put, List.setIfInBounds_toArray, List.set_cons_zero, List.set_cons_succ]
        refine done_ops (by kernel_rfl) ?_
        have hzz : (madeCells (Value.int .i64 0).cells (n * 1)).toList = (List.replicate n (0 : Int)).map (Value.int .i64) := by simp only [madeCells, Value.cells]; simp [Nat.mod_one, List.map_const']
        rw [hzz] at hownZ
        have hbb := hBb.trans (hS7.mono hBb.size)
        have hgw : w.heap.size + 2 ≤ g := by omega
        have hgb : Wb.heap.size ≤ g ∧ Wb.heap.size ≤ b4 := ⟨by omega, by omega⟩
        exact ⟨rfl, b4, g, ⟨(put3_below (n := b4) (B := b4) (Nat.le_refl _) _ _ _).block _ (by omega) |>.trans ((k1b.below hS7 k1b.lt)), ((put3_below (n := b4) (B := b4) (Nat.le_refl _) _ _ _).block _ (by omega)).trans (k2b.below hS7 k2b.lt), put3_blk k4 _ _ _, put3_row hownZ (k4.not_row (by decide) hownZ) _ _ _, hbb.trans (put3_below (by omega) _ _ _)⟩, hgb.1, hS7.trans (put3_below hgb.2 _ _ _), ex_fn rfl⟩
    case cont =>
      rintro e' a' W2 ⟨rfl, b4, g, hF, hgl, hbe2, u, rfl⟩
      obtain ⟨mm, hmm⟩ : ∃ mm, (fun k : Nat => px xs k) = mm := ⟨_, rfl⟩
      have hcaM := Lib.hid (show ∀ k, k < n → w.cell? ⟨ba, oa + k, none⟩ = some (.int .i64 (mm k)) from fun k hk => by rw [← hmm]; exact hcaH.out k hk)
      have hbd := Lib.hid (show ∀ k, -2147483648 ≤ mm k ∧ mm k ≤ 2147483648 from fun k => by rw [← hmm]; exact px_bd hallH.out _)
      have hmmH := Lib.hid hmm
      clear hmm
      have hBW0 : BW w.heap.size b4 g bt gt pw ph (some ⟨ba, oa, none⟩) c n w [] W2 (endNums pw ph mm 0) (lowsTo pw ph mm 0) := by
        refine ⟨?_, kt0.below hbe2 kt0.lt, ?_, by omega, Marks.nil _ _⟩
        · rw [endNums_zero, hN1H.out]; exact hF
        · unfold lowsTo
          rw [layTo_zero, hN1H.out]; exact row_below hto hbe2
      have m2 := hF.k1.cell (i := 2) rfl
      clear hF hto kt0 k1b k2b hBb hbe2
      gi_wp2_with fail
      clear m2
      refine loopM (fun m a' w' => ∃ (i : Nat) (rs : List Nat), i ≤ n ∧ BW w.heap.size b4 g bt gt pw ph (some ⟨ba, oa, none⟩) c n w rs w' (endNums pw ph mm i) (lowsTo pw ph mm i) ∧ m = n - i ∧ ∃ u : Nat → Value, a' = ⟨#[u 0, .pointer (some ⟨w.heap.size, 0, none⟩), .pointer (some ⟨w.heap.size + 1, 0, none⟩), u 3, u 4, .pointer (some ⟨bt, 0, none⟩), .int .i64 (endsTo pw ph mm i : Nat), .pointer (some ⟨b4, 0, none⟩), u 8, u 9, u 10, u 11, u 12, u 13, u 14, u 15, u 16, u 17, u 18, u 19, u 20, u 21, u 22, u 23, u 24, u 25, u 26, u 27, u 28, u 29, u 30, u 31, .int .i64 n, .int .i64 i, u 34, u 35, u 36, u 37, u 38, u 39, u 40, u 41, u 42, u 43, u 44, u 45, u 46, u 47, u 48, u 49, u 50, u 51, u 52, u 53, u 54, u 55, u 56, u 57, u 58, u 59, u 60, u 61, u 62, u 63, u 64, u 65, u 66, u 67, u 68, u 69, u 70, u 71, u 72, u 73, u 74, u 75, u 76, u 77, u 78, u 79, u 80, u 81, u 82, u 83, u 84, u 85, u 86, u 87, u 88, u 89, u 90, u 91, u 92, u 93, u 94, u 95, u 96, u 97, u 98, u 99, u 100, u 101, u 102, u 103, u 104, u 105, u 106, u 107, u 108, u 109, u 110, u 111, u 112, u 113, u 114, u 115, u 116, u 117, u 118], rs.map markD⟩) n ?start ?round
      case start => exact ⟨0, [], Nat.zero_le _, hBW0, rfl, ex_fn rfl⟩
      case round =>
        clear hBW0
        rintro m a' W ⟨i, rs, hin, hB0, rfl, u, rfl⟩
        have hszW := hB0.fw.bel.size
        have lt0 := hB0.tlt
        have lg0 := hB0.fw.gB
        by_cases hlt : i < n
        · have hlN : i < pw * ph := by rw [hN1H.out]; exact hlt
          have hA := hB0.grown (Nat.le_refl _) (World.grownBy_alloc W (.cells #[.int .i64 i] 3) none)
          have ki := Blk.new W 3 #[.int .i64 i]
          obtain ⟨hTs, hTg, _⟩ := hB0.storeT (Nat.le_refl _) i i (R := 0)
          have hT := hTs.grown (Nat.le_refl _) (World.grownBy_alloc _ (.cells #[.int .i64 i] 3) none)
          have kiT := Blk.new (W.setCell ⟨gt, i, none⟩ (.int .i64 i)) 3 #[.int .i64 i]
          have hszs : (W.setCell ⟨gt, i, none⟩ (.int .i64 i)).heap.size = W.heap.size := by simp [World.setCell]
          rw [hszs] at kiT
          have c5 := hA.kt.cell (i := 0) rfl
          have c8 := ki.cell (i := 0) rfl
          have tc := hA.tcell (Below.refl _ _) hlt
          have tf := hA.tfrozen (Below.refl _ _) i
          have m0 := hT.fw.k1.cell (i := 0) rfl
          have m1 := hT.fw.k1.cell (i := 1) rfl
          have m2 := hT.fw.k1.cell (i := 2) rfl
          have d8 := kiT.cell (i := 0) rfl
          gi_wp2_with fail
          refine ⟨trivial, (callsIn_wide.2 (neighbours_any pw ph (.slice (some ⟨ba, oa, none⟩) n c) i false ⟨_, _, _, rfl⟩ _)).mono ?_⟩
          rintro e1 V1 ⟨rfl, hV1⟩
          clear m0 m1 m2 c5 c8 tc tf d8
          obtain ⟨V0, hV0⟩ : ∃ V, (W.setCell ⟨gt, i, none⟩ (.int .i64 i)).alloc (.cells #[.int .i64 i] 3) = V := ⟨_, rfl⟩
          have hz0 : V0.heap.size = W.heap.size + 1 := by rw [← hV0, World.size_alloc, hszs]
          rw [hV0] at hV1 hT kiT ⊢
          have hgV : V0.grownBy V1 none := hV1 ▸ grown_trans (grown_trans (World.grownBy_alloc _ _ _) (World.grownBy_alloc _ _ _)) (World.grownBy_alloc _ _ _)
          have kg1 := ((Blk.new V0 100 #[.int .i64 pw, .int .i64 ph, .slice (some ⟨ba, oa, none⟩) n c]).alloc (.cells #[.int .i64 i] 3)).alloc (.cells #[.bool false] 4)
          have ki1 := (Blk.new (V0.alloc (.cells #[.int .i64 pw, .int .i64 ph, .slice (some ⟨ba, oa, none⟩) n c] 100)) 3 #[.int .i64 i]).alloc (.cells #[.bool false] 4)
          have ke1 := Blk.new ((V0.alloc (.cells #[.int .i64 pw, .int .i64 ph, .slice (some ⟨ba, oa, none⟩) n c] 100)).alloc (.cells #[.int .i64 i] 3)) 4 #[.bool false]
          simp only [World.size_alloc] at ki1 ke1
          rw [hV1] at kg1 ki1 ke1
          rw [hz0] at kg1 ki1 ke1
          have hQ := hT.grown (Nat.le_refl _) hgV
          have kiQ := kiT.kept hgV (by simp)
          have hs1' := hgV.size
          have hml : ∀ r ∈ rs, r < V1.heap.size := fun r hr => by have := hB0.marks.lt hr; omega
          clear hV0 hV1 hgV hB0 ki hA hTs hTg hT kiT hszs
          gi_wp2_with fail
          refine wp_over (gf := 133) (lb := #[.pointer (some ⟨W.heap.size + 1 + 1, 0, none⟩), .pointer (some ⟨W.heap.size + 1, 0, none⟩), .pointer (some ⟨W.heap.size + 1 + 2, 0, none⟩)]) rfl (enters_of Try.func133 (by kernel_rfl) rfl) (nb_seq [gt] bt pw ph i (by omega) (by omega) (by omega) (by omega) hlN false (some ⟨ba, oa, none⟩) n c (W.heap.size + 1 + 1) (W.heap.size + 1) (W.heap.size + 1 + 2) V1 ki1 kg1 ke1 (hQ.ntq (by omega)) (hQ.ntq (by omega)) (hQ.ntq (by omega)) hQ.kt.lt (fun k => hQ.tqlt)) Kq.trans (fun W o o' _ _ _ => Kq.putR (by have := hQ.kt.lt; omega) W o') (fun _ => rfl)
            (fun pre W' => BI w.heap.size b4 g bt gt pw ph (some ⟨ba, oa, none⟩) c n w rs V1.heap.size W.heap.size i (endNums pw ph mm i) ((lowsTo pw ph mm i).set i i) mm pre W')
            (BI.own (Nat.le_refl _) (by omega) hml) ⟨by rw [set_same]; exact hQ, kiQ, Nat.le_refl _, fun k hk => by cases hk⟩
            ?act ?assign ?body ?done
          case assign =>
            intro l x W' K hK
            gi_wp2
            exact hK
          case body =>
            rintro l pre k V hIH hk hlen
            obtain ⟨hBV, kiV, hsV, hpn⟩ := hIH
            obtain ⟨hkn, _⟩ := nbs_near hlN hk
            rw [hN1H.out] at hkn
            have hszw := hBV.fw.bel.size
            have hbN := lowL_lt (m := mm) hlt hpn
            have hsn := Lib.hid (lowL_snoc mm i pre k)
            obtain ⟨b, hb⟩ : ∃ b, lowL mm i pre = b := ⟨_, rfl⟩
            rw [hb] at hbN hBV hsn
            have hTb : px (((lowsTo pw ph mm i).set i i).set i (b : Int)) i = b := by rw [px_set _ (by simp [lows_len]; exact hlN), if_pos rfl]
            have hS : Below V.heap.size V V.drew := (Below.refl _ _).drew
            gi_wp2_with fail
            refine round_region (fun W' => Below V.heap.size V W') 15 15 l _ (by kernel_rfl) (by kernel_rfl) (fun ⟨_, _, h⟩ => nomatch h.1) rfl ?_
            simp only [Array.replicate_succ, Array.replicate_zero, List.push_toArray, List.nil_append, List.cons_append]
            refine take_op 0 (v := ?sv0) rfl (by kernel_rfl) (fun _ _ _ h => h) (by rfl) hS (fun w' hS' => ?sy0) ?sz0
            case sy0 =>
              go_simp
              rfl
            simp only [List.setIfInBounds_toArray, List.set_cons_zero, List.set_cons_succ]
            refine take_op 1 (v := ?sv1) rfl (by kernel_rfl) (fun _ _ _ h => h) (by rfl) hS (fun w' hS' => ?sy1) ?sz1
            case sy1 =>
              have a2 := (hBV.fw.k1.below hS' hBV.fw.k1.lt).cell (i := 2) rfl
              have t5 := (hBV.kt.below hS' hBV.kt.lt).cell (i := 0) rfl
              have i8 := (kiV.below hS' kiV.lt).cell (i := 0) rfl
              have hck := ((hBV.fw.bel.trans (hS'.mono hszw)).cell (p := ⟨ba, oa + k, none⟩) hba).trans (hcaM.out k hkn)
              have hcb := ((hBV.fw.bel.trans (hS'.mono hszw)).cell (p := ⟨ba, oa + b, none⟩) hba).trans (hcaM.out b hbN)
              have tb := hBV.tcell hS' hlt
              rw [hTb] at tb
              go_simp
              rfl
            simp only [List.setIfInBounds_toArray, List.set_cons_zero, List.set_cons_succ]
            refine take_op 2 (v := ?sv2) rfl (by kernel_rfl) (fun _ _ _ h => h) (by rfl) hS (fun w' hS' => ?sy2) ?sz2
            case sy2 =>
              go_simp
              rfl
            simp only [List.setIfInBounds_toArray, List.set_cons_zero, List.set_cons_succ]
            refine take_op 3 (v := ?sv3) rfl (by kernel_rfl) (fun _ _ _ h => h) (by rfl) hS (fun w' hS' => ?sy3) ?sz3
            case sy3 =>
              go_simp
              try go_ints
              first
              | rfl
              | rw [if_pos ⟨by omega, by omega⟩]
            simp only [List.setIfInBounds_toArray, List.set_cons_zero, List.set_cons_succ]
            refine take_op 4 (v := ?sv4) rfl (by kernel_rfl) (fun _ _ _ h => h) (by rfl) hS (fun w' hS' => ?sy4) ?sz4
            case sy4 =>
              have a2 := (hBV.fw.k1.below hS' hBV.fw.k1.lt).cell (i := 2) rfl
              have t5 := (hBV.kt.below hS' hBV.kt.lt).cell (i := 0) rfl
              have i8 := (kiV.below hS' kiV.lt).cell (i := 0) rfl
              have hck := ((hBV.fw.bel.trans (hS'.mono hszw)).cell (p := ⟨ba, oa + k, none⟩) hba).trans (hcaM.out k hkn)
              have hcb := ((hBV.fw.bel.trans (hS'.mono hszw)).cell (p := ⟨ba, oa + b, none⟩) hba).trans (hcaM.out b hbN)
              have tb := hBV.tcell hS' hlt
              rw [hTb] at tb
              go_simp
              rfl
            simp only [List.setIfInBounds_toArray, List.set_cons_zero, List.set_cons_succ]
            refine take_op 5 (v := ?sv5) rfl (by kernel_rfl) (fun _ _ _ h => h) (by rfl) hS (fun w' hS' => ?sy5) ?sz5
            case sy5 =>
              go_simp
              rfl
            simp only [List.setIfInBounds_toArray, List.set_cons_zero, List.set_cons_succ]
            refine take_op 6 (v := ?sv6) rfl (by kernel_rfl) (fun _ _ _ h => h) (by rfl) hS (fun w' hS' => ?sy6) ?sz6
            case sy6 =>
              have a2 := (hBV.fw.k1.below hS' hBV.fw.k1.lt).cell (i := 2) rfl
              have t5 := (hBV.kt.below hS' hBV.kt.lt).cell (i := 0) rfl
              have i8 := (kiV.below hS' kiV.lt).cell (i := 0) rfl
              have hck := ((hBV.fw.bel.trans (hS'.mono hszw)).cell (p := ⟨ba, oa + k, none⟩) hba).trans (hcaM.out k hkn)
              have hcb := ((hBV.fw.bel.trans (hS'.mono hszw)).cell (p := ⟨ba, oa + b, none⟩) hba).trans (hcaM.out b hbN)
              have tb := hBV.tcell hS' hlt
              rw [hTb] at tb
              go_simp
              rfl
            simp only [List.setIfInBounds_toArray, List.set_cons_zero, List.set_cons_succ]
            refine take_op 7 (v := ?sv7) rfl (by kernel_rfl) (fun _ _ _ h => h) (by rfl) hS (fun w' hS' => ?sy7) ?sz7
            case sy7 =>
              have a2 := (hBV.fw.k1.below hS' hBV.fw.k1.lt).cell (i := 2) rfl
              have t5 := (hBV.kt.below hS' hBV.kt.lt).cell (i := 0) rfl
              have i8 := (kiV.below hS' kiV.lt).cell (i := 0) rfl
              have hck := ((hBV.fw.bel.trans (hS'.mono hszw)).cell (p := ⟨ba, oa + k, none⟩) hba).trans (hcaM.out k hkn)
              have hcb := ((hBV.fw.bel.trans (hS'.mono hszw)).cell (p := ⟨ba, oa + b, none⟩) hba).trans (hcaM.out b hbN)
              have tb := hBV.tcell hS' hlt
              rw [hTb] at tb
              go_simp
              rfl
            simp only [List.setIfInBounds_toArray, List.set_cons_zero, List.set_cons_succ]
            refine take_op 8 (v := ?sv8) rfl (by kernel_rfl) (fun _ _ _ h => h) (by rfl) hS (fun w' hS' => ?sy8) ?sz8
            case sy8 =>
              have a2 := (hBV.fw.k1.below hS' hBV.fw.k1.lt).cell (i := 2) rfl
              have t5 := (hBV.kt.below hS' hBV.kt.lt).cell (i := 0) rfl
              have i8 := (kiV.below hS' kiV.lt).cell (i := 0) rfl
              have hck := ((hBV.fw.bel.trans (hS'.mono hszw)).cell (p := ⟨ba, oa + k, none⟩) hba).trans (hcaM.out k hkn)
              have hcb := ((hBV.fw.bel.trans (hS'.mono hszw)).cell (p := ⟨ba, oa + b, none⟩) hba).trans (hcaM.out b hbN)
              have tb := hBV.tcell hS' hlt
              rw [hTb] at tb
              go_simp
              rfl
            simp only [List.setIfInBounds_toArray, List.set_cons_zero, List.set_cons_succ]
            refine take_op 9 (v := ?sv9) rfl (by kernel_rfl) (fun _ _ _ h => h) (by rfl) hS (fun w' hS' => ?sy9) ?sz9
            case sy9 =>
              go_simp
              try go_ints
              first
              | rfl
              | rw [if_pos ⟨by omega, by omega⟩]
            simp only [List.setIfInBounds_toArray, List.set_cons_zero, List.set_cons_succ]
            refine take_op 10 (v := ?sv10) rfl (by kernel_rfl) (fun _ _ _ h => h) (by rfl) hS (fun w' hS' => ?sy10) ?sz10
            case sy10 =>
              have a2 := (hBV.fw.k1.below hS' hBV.fw.k1.lt).cell (i := 2) rfl
              have t5 := (hBV.kt.below hS' hBV.kt.lt).cell (i := 0) rfl
              have i8 := (kiV.below hS' kiV.lt).cell (i := 0) rfl
              have hck := ((hBV.fw.bel.trans (hS'.mono hszw)).cell (p := ⟨ba, oa + k, none⟩) hba).trans (hcaM.out k hkn)
              have hcb := ((hBV.fw.bel.trans (hS'.mono hszw)).cell (p := ⟨ba, oa + b, none⟩) hba).trans (hcaM.out b hbN)
              have tb := hBV.tcell hS' hlt
              rw [hTb] at tb
              go_simp
              rfl
            simp only [List.setIfInBounds_toArray, List.set_cons_zero, List.set_cons_succ]
            refine take_op 11 (v := ?sv11) rfl (by kernel_rfl) (fun _ _ _ h => h) (by rfl) hS (fun w' hS' => ?sy11) ?sz11
            case sy11 =>
              go_simp
              try go_ints
              first
              | rfl
              | rw [if_pos ⟨by omega, by omega⟩]
            simp only [List.setIfInBounds_toArray, List.set_cons_zero, List.set_cons_succ]
            refine take_op 12 (v := ?sv12) rfl (by kernel_rfl) (fun _ _ _ h => h) (by rfl) hS (fun w' hS' => ?sy12) ?sz12
            case sy12 =>
              have a2 := (hBV.fw.k1.below hS' hBV.fw.k1.lt).cell (i := 2) rfl
              have t5 := (hBV.kt.below hS' hBV.kt.lt).cell (i := 0) rfl
              have i8 := (kiV.below hS' kiV.lt).cell (i := 0) rfl
              have hck := ((hBV.fw.bel.trans (hS'.mono hszw)).cell (p := ⟨ba, oa + k, none⟩) hba).trans (hcaM.out k hkn)
              have hcb := ((hBV.fw.bel.trans (hS'.mono hszw)).cell (p := ⟨ba, oa + b, none⟩) hba).trans (hcaM.out b hbN)
              have tb := hBV.tcell hS' hlt
              rw [hTb] at tb
              go_simp
              rfl
            simp only [List.setIfInBounds_toArray, List.set_cons_zero, List.set_cons_succ]
            refine take_op 13 (v := ?sv13) rfl (by kernel_rfl) (fun _ _ _ h => h) (by rfl) hS (fun w' hS' => ?sy13) ?sz13
            case sy13 =>
              go_simp
              try go_ints
              rfl
            simp only [List.setIfInBounds_toArray, List.set_cons_zero, List.set_cons_succ]
            refine take_op 14 (v := ?sv14) rfl (by kernel_rfl) (fun _ _ _ h => h) (by rfl) hS (fun w' hS' => ?sy14) ?sz14
            case sy14 =>
              go_simp
              rfl
            simp only [List.setIfInBounds_toArray, List.set_cons_zero, List.set_cons_succ]
            refine done_ops (by kernel_rfl) ?_
            have hBd := hBV.grown (Nat.le_refl _) (grown_of_below hS none)
            have kiD := kiV.below hS kiV.lt
            have hgd := grown_of_below hS none
            have hod := others_of_below hS
            obtain ⟨V2, hV2⟩ : ∃ X, V.drew = X := ⟨_, rfl⟩
            rw [hV2] at hBd kiD hgd hod ⊢
            clear hS hV2
            have hkd : Kq [gt] bt (V1.heap.size + 1) V V2 := .grown hgd hBV.kt.lt
            have hs2 : V1.heap.size ≤ V2.heap.size := Nat.le_trans hsV hgd.size
            have hbk := hbd.out k
            have hbb := hbd.out b
            rw [show wrap64 (mm k - mm b) = mm k - mm b from by unfold wrap64; omega]
            obtain ⟨d, hd⟩ : ∃ d, mm k - mm b = d := ⟨_, rfl⟩
            rw [hd]
            have t5 := hBd.kt.cell (i := 0) rfl
            have i8 := kiD.cell (i := 0) rfl
            have tb := hBd.tcell (Below.refl _ _) hlt
            have tf := hBd.tfrozen (Below.refl _ _) i
            rw [hTb] at tb
            have hpn2 : ∀ x ∈ pre ++ [k], x < n := fun x hx => by
              rcases List.mem_append.1 hx with hx | hx
              · exact hpn x hx
              · simp at hx; omega
            have hput : better mm b k = true → BW w.heap.size b4 g bt gt pw ph (some ⟨ba, oa, none⟩) c n w rs (V2.setCell ⟨gt, i, none⟩ (.int .i64 k)) (endNums pw ph mm i) (((lowsTo pw ph mm i).set i i).set i (lowL mm i (pre ++ [k]) : Nat)) ∧ Kq [gt] bt (V1.heap.size + 1) V2 (V2.setCell ⟨gt, i, none⟩ (.int .i64 k)) ∧ Blk (V2.setCell ⟨gt, i, none⟩ (.int .i64 k)) W.heap.size 3 #[.int .i64 i] := fun hbt => by
              obtain ⟨q1, q2, q3⟩ := hBd.storeT (Nat.le_refl _) i k (R := V1.heap.size + 1)
              rw [set_same] at q1
              exact ⟨by rw [hsn.out, if_pos hbt]; exact q1, q3, kiD.kept q2 (fun h => by cases h; omega)⟩
            have hkeep : better mm b k = false → BW w.heap.size b4 g bt gt pw ph (some ⟨ba, oa, none⟩) c n w rs V2 (endNums pw ph mm i) (((lowsTo pw ph mm i).set i i).set i (lowL mm i (pre ++ [k]) : Nat)) := fun hbt => by
              rw [hsn.out, if_neg (by rw [hbt]; decide)]; exact hBd
            have hszk : V1.heap.size ≤ (V2.setCell ⟨gt, i, none⟩ (.int .i64 k)).heap.size := by simp [World.setCell]; exact hs2
            have hosk := KeepsOthers.setCell V2 ⟨gt, i, none⟩ (.int .i64 k)
            clear hsn
            by_cases h1 : d < 0
            · obtain ⟨p1, p2, p3⟩ := hput (better_iff.2 (.inl (by omega)))
              gi_wp2_with fail
              exact ⟨(hod.trans hosk).from _, hkd.trans p2, ⟨p1, p3, hszk, hpn2⟩⟩
            · by_cases h2 : d = 0
              · subst h2
                by_cases h3 : k < b
                · obtain ⟨p1, p2, p3⟩ := hput (better_iff.2 (.inr ⟨by omega, h3⟩))
                  gi_wp2_with fail
                  exact ⟨(hod.trans hosk).from _, hkd.trans p2, ⟨p1, p3, hszk, hpn2⟩⟩
                · have p1 := hkeep (better_not.2 (by omega))
                  gi_wp2_with fail
                  exact ⟨hod.from _, ⟨p1, kiD, hs2, hpn2⟩⟩
              · have p1 := hkeep (better_not.2 (by omega))
                gi_wp2_with fail
                exact ⟨hod.from _, ⟨p1, kiD, hs2, hpn2⟩⟩
          case done =>
            rintro D ys W' hD rfl hIH hK
            obtain ⟨hB3, ki3, hs3, hpn⟩ := hIH
            rw [lowL_lowest hlN, lows_set hlN] at hB3
            have hTl : px (lowsTo pw ph mm (i + 1)) i = ((lowest pw ph mm i : Nat) : Int) := by unfold lowsTo; rw [px_layTo _ _ hlN, if_pos (by omega)]
            have hB3' : BW w.heap.size b4 g bt gt pw ph (some ⟨ba, oa, none⟩) c n w (D :: rs) W' (endNums pw ph mm i) (lowsTo pw ph mm (i + 1)) := ⟨hB3.fw, hB3.kt, hB3.to, hB3.ne, hB3.marks.push hml hD (by omega) hK⟩
            obtain ⟨β, hβ⟩ : ∃ β, (((lowest pw ph mm i : Nat) : Int) == (i : Int)) = β := ⟨_, rfl⟩
            have hEle := endsTo_le pw ph mm i
            gi_wp2_with fail
            refine wpIn_mono (Q := fun e' a' w' => e' = .normal ∧ ∃ V, Below W'.heap.size W' V ∧ w' = V ∧ ∃ u : Nat → Value, a' = ⟨#[u 0, .pointer (some ⟨w.heap.size, 0, none⟩), .pointer (some ⟨w.heap.size + 1, 0, none⟩), u 3, u 4, .pointer (some ⟨bt, 0, none⟩), .int .i64 (endsTo pw ph mm i : Nat), .pointer (some ⟨b4, 0, none⟩), .pointer (some ⟨W.heap.size, 0, none⟩), u 9, u 10, u 11, u 12, u 13, u 14, u 15, u 16, u 17, u 18, u 19, u 20, u 21, u 22, u 23, u 24, u 25, u 26, u 27, u 28, u 29, u 30, u 31, .int .i64 n, .int .i64 i, u 34, u 35, u 36, u 37, u 38, u 39, u 40, u 41, u 42, u 43, u 44, u 45, u 46, u 47, u 48, u 49, u 50, u 51, u 52, u 53, u 54, u 55, u 56, u 57, u 58, u 59, u 60, u 61, u 62, u 63, u 64, u 65, u 66, u 67, u 68, u 69, u 70, u 71, u 72, u 73, u 74, u 75, u 76, u 77, u 78, u 79, u 80, .bool β, u 82, u 83, u 84, u 85, u 86, u 87, u 88, u 89, u 90, u 91, u 92, u 93, u 94, u 95, u 96, u 97, u 98, u 99, u 100, u 101, u 102, u 103, u 104, u 105, u 106, u 107, u 108, u 109, u 110, u 111, u 112, u 113, u 114, u 115, u 116, u 117, u 118], (D :: rs).map markD⟩) ?d15 ?c15
            case d15 =>
              refine wpIn_wide.2 ?_
              have hS : Below W'.heap.size W' W'.drew := (Below.refl _ _).drew
              refine plain_region (fun W'' => Below W'.heap.size W' W'') 6 6 (by kernel_rfl) rfl ?_
              simp only [Array.replicate_succ, Array.replicate_zero, List.push_toArray, List.nil_append, List.cons_append]
              refine take_op 0 (v := ?pv0) rfl (by kernel_rfl) (fun _ _ _ h => nomatch h.1) (by rfl) hS (fun w' hS' => ?py0) ?pz0
              case py0 =>
                have t5 := (hB3.kt.below hS' hB3.kt.lt).cell (i := 0) rfl
                have i8 := (ki3.below hS' ki3.lt).cell (i := 0) rfl
                have tb := hB3.tcell hS' hlt
                rw [hTl] at tb
                go_simp
                rfl
              simp only [List.setIfInBounds_toArray, List.set_cons_zero, List.set_cons_succ]
              refine take_op 1 (v := ?pv1) rfl (by kernel_rfl) (fun _ _ _ h => nomatch h.1) (by rfl) hS (fun w' hS' => ?py1) ?pz1
              case py1 =>
                have t5 := (hB3.kt.below hS' hB3.kt.lt).cell (i := 0) rfl
                have i8 := (ki3.below hS' ki3.lt).cell (i := 0) rfl
                have tb := hB3.tcell hS' hlt
                rw [hTl] at tb
                go_simp
                rfl
              simp only [List.setIfInBounds_toArray, List.set_cons_zero, List.set_cons_succ]
              refine take_op 2 (v := ?pv2) rfl (by kernel_rfl) (fun _ _ _ h => nomatch h.1) (by rfl) hS (fun w' hS' => ?py2) ?pz2
              case py2 =>
                go_simp
                try go_ints
                first
                | rfl
                | rw [if_pos ⟨by omega, by omega⟩]
              simp only [List.setIfInBounds_toArray, List.set_cons_zero, List.set_cons_succ]
              refine take_op 3 (v := ?pv3) rfl (by kernel_rfl) (fun _ _ _ h => nomatch h.1) (by rfl) hS (fun w' hS' => ?py3) ?pz3
              case py3 =>
                have t5 := (hB3.kt.below hS' hB3.kt.lt).cell (i := 0) rfl
                have i8 := (ki3.below hS' ki3.lt).cell (i := 0) rfl
                have tb := hB3.tcell hS' hlt
                rw [hTl] at tb
                go_simp
                rfl
              simp only [List.setIfInBounds_toArray, List.set_cons_zero, List.set_cons_succ]
              refine take_op 4 (v := ?pv4) rfl (by kernel_rfl) (fun _ _ _ h => nomatch h.1) (by rfl) hS (fun w' hS' => ?py4) ?pz4
              case py4 =>
                have t5 := (hB3.kt.below hS' hB3.kt.lt).cell (i := 0) rfl
                have i8 := (ki3.below hS' ki3.lt).cell (i := 0) rfl
                have tb := hB3.tcell hS' hlt
                rw [hTl] at tb
                go_simp
                rfl
              simp only [List.setIfInBounds_toArray, List.set_cons_zero, List.set_cons_succ]
              refine take_op 5 (v := ?pv5) rfl (by kernel_rfl) (fun _ _ _ h => nomatch h.1) (by rfl) hS (fun w' hS' => ?py5) ?pz5
              case py5 =>
                go_simp
                try go_ints
                rfl
              simp only [List.setIfInBounds_toArray, List.set_cons_zero, List.set_cons_succ]
              refine done_ops (by kernel_rfl) ?_
              try rw [hβ]
              exact ⟨rfl, _, hS, rfl, ex_fn rfl⟩
            case c15 =>
              rintro e' a' V' ⟨rfl, V, hbV, rfl, u, rfl⟩
              have hB5 := hB3'.grown (Nat.le_refl _) (grown_of_below hbV none)
              have ki5 := ki3.below hbV ki3.lt
              cases β with
              | true =>
                have hlow : lowest pw ph mm i = i := by
                  have := eq_of_beq hβ
                  omega
                have he : (((endsTo pw ph mm i : Nat) : Int)) + 1 = ((endsTo pw ph mm (i + 1) : Nat) : Int) := by rw [ends_end hlow]; omega
                have o2 := hB5.fw.k4.cell (i := 2) rfl
                have i8 := ki5.cell (i := 0) rfl
                have ri := hB5.fw.cell (Below.refl _ _) hlt
                have rf := hB5.fw.frozen (Below.refl _ _) i
                obtain ⟨q1, _⟩ := hB5.storeL (Nat.le_refl _) i ((endsTo pw ph mm i + 1 : Nat) : Int)
                rw [endNums_end hlN hlow] at q1
                gi_wp2_with fail
                try rw [he]
                rw [show ((endsTo pw ph mm i + 1 : Nat) : Int) = ((endsTo pw ph mm (i + 1) : Nat) : Int) by omega] at q1
                exact ⟨n - (i + 1), by omega, i + 1, D :: rs, hlt, q1, rfl, ex_fn rfl⟩
              | false =>
                have hlow : lowest pw ph mm i ≠ i := fun h => by rw [h] at hβ; simp at hβ
                rw [← endNums_skip hlow] at hB5
                gi_wp2_with fail
                rw [← ends_skip hlow]
                exact ⟨n - (i + 1), by omega, i + 1, D :: rs, hlt, hB5, rfl, ex_fn rfl⟩
        · have hni : n = i := by omega
          subst hni
          have o2 := hB0.fw.k4.cell (i := 2) rfl
          gi_wp2_with fail
          have hm0 : ∀ k, -2147483648 ≤ mm k := fun k => (hbd.out k).1
          rw [show endNums pw ph mm n = basTo pw ph mm 0 by rw [basTo_zero, hN1H.out]] at hB0
          have hTa := Lib.hid (fun k (hk : k < n) => show px (lowsTo pw ph mm n) k = ((lowest pw ph mm k : Nat) : Int) from by
            have := @lows_all pw ph mm k (by rw [hN1H.out]; exact hk)
            rw [hN1H.out] at this; exact this)
          refine loopM (fun m a' w' => ∃ (i : Nat), i ≤ n ∧ BW w.heap.size b4 g bt gt pw ph (some ⟨ba, oa, none⟩) c n w rs w' (basTo pw ph mm i) (lowsTo pw ph mm n) ∧ m = n - i ∧ ∃ u : Nat → Value, a' = ⟨#[u 0, .pointer (some ⟨w.heap.size, 0, none⟩), .pointer (some ⟨w.heap.size + 1, 0, none⟩), u 3, u 4, .pointer (some ⟨bt, 0, none⟩), .int .i64 (endsTo pw ph mm n : Nat), .pointer (some ⟨b4, 0, none⟩), u 8, u 9, u 10, u 11, u 12, u 13, u 14, u 15, u 16, u 17, u 18, u 19, u 20, u 21, u 22, u 23, u 24, u 25, u 26, u 27, u 28, u 29, u 30, u 31, u 32, u 33, u 34, u 35, u 36, u 37, u 38, u 39, u 40, u 41, u 42, u 43, u 44, u 45, u 46, u 47, u 48, u 49, u 50, u 51, u 52, u 53, u 54, u 55, u 56, u 57, u 58, u 59, u 60, u 61, u 62, u 63, u 64, u 65, u 66, u 67, u 68, u 69, u 70, u 71, u 72, u 73, u 74, u 75, u 76, u 77, u 78, u 79, u 80, u 81, u 82, u 83, u 84, u 85, u 86, u 87, u 88, u 89, u 90, u 91, .int .i64 n, .int .i64 i, u 94, u 95, u 96, u 97, u 98, u 99, u 100, u 101, u 102, u 103, u 104, u 105, u 106, u 107, u 108, u 109, u 110, u 111, u 112, u 113, u 114, u 115, u 116, u 117, u 118], rs.map markD⟩) n ?s2 ?r2
          case s2 => exact ⟨0, Nat.zero_le _, hB0, rfl, ex_fn rfl⟩
          case r2 =>
            clear hB0 o2 lt0 lg0 hszW
            rintro m2 a2 W2 ⟨i, hin, hB4, rfl, u2, rfl⟩
            have hszW := hB4.fw.bel.size
            by_cases hin2 : i < n
            · have hiN : i < pw * ph := by rw [hN1H.out]; exact hin2
              gi_wp2_with fail
              refine loopM (fun m a' w' => ∃ (k : Nat), k < n ∧ rootF pw ph mm k = rootF pw ph mm i ∧ BW w.heap.size b4 g bt gt pw ph (some ⟨ba, oa, none⟩) c n w rs w' (basTo pw ph mm i) (lowsTo pw ph mm n) ∧ m = lowKey (pw * ph) mm k ∧ ∃ u : Nat → Value, a' = ⟨#[u 0, .pointer (some ⟨w.heap.size, 0, none⟩), .pointer (some ⟨w.heap.size + 1, 0, none⟩), u 3, u 4, .pointer (some ⟨bt, 0, none⟩), .int .i64 (endsTo pw ph mm n : Nat), .pointer (some ⟨b4, 0, none⟩), u 8, u 9, u 10, .int .i64 i, .int .i64 k, u 13, u 14, u 15, u 16, u 17, u 18, u 19, u 20, u 21, u 22, u 23, u 24, u 25, u 26, u 27, u 28, u 29, u 30, u 31, u 32, u 33, u 34, u 35, u 36, u 37, u 38, u 39, u 40, u 41, u 42, u 43, u 44, u 45, u 46, u 47, u 48, u 49, u 50, u 51, u 52, u 53, u 54, u 55, u 56, u 57, u 58, u 59, u 60, u 61, u 62, u 63, u 64, u 65, u 66, u 67, u 68, u 69, u 70, u 71, u 72, u 73, u 74, u 75, u 76, u 77, u 78, u 79, u 80, u 81, u 82, u 83, u 84, u 85, u 86, u 87, u 88, u 89, u 90, u 91, .int .i64 n, .int .i64 i, u 94, u 95, u 96, u 97, u 98, u 99, u 100, u 101, u 102, u 103, u 104, u 105, u 106, u 107, u 108, u 109, u 110, u 111, u 112, u 113, u 114, u 115, u 116, u 117, u 118], rs.map markD⟩) (lowKey (pw * ph) mm i) ?s3 ?r3
              case s3 => exact ⟨i, hin2, rfl, hB4, rfl, ex_fn rfl⟩
              case r3 =>
                clear hB4
                rintro m3 a3 W2 ⟨k, hkn, hroot, hB4, rfl, u3, rfl⟩
                have hszW := hB4.fw.bel.size
                have hkN : k < pw * ph := by rw [hN1H.out]; exact hkn
                have t5 := hB4.kt.cell (i := 0) rfl
                have tk := hB4.tcell (Below.refl _ _) hkn
                rw [hTa.out k hkn] at tk
                by_cases hlow : lowest pw ph mm k = k
                · have e1 : (((lowest pw ph mm k : Nat) : Int) != (k : Int)) = false := by rw [hlow]; simp
                  have hki : rootF pw ph mm i = k := by rw [← hroot, rootF_end hlow]
                  gi_wp2_with fail
                  refine wpIn_mono (Q := fun e' a' w' => e' = .normal ∧ ∃ V, Below W2.heap.size W2 V ∧ w' = V.setCell ⟨g, i, none⟩ (.int .i64 (px (basTo pw ph mm i) k)) ∧ ∃ u : Nat → Value, a' = ⟨#[u 0, .pointer (some ⟨w.heap.size, 0, none⟩), .pointer (some ⟨w.heap.size + 1, 0, none⟩), u 3, u 4, .pointer (some ⟨bt, 0, none⟩), .int .i64 (endsTo pw ph mm n : Nat), .pointer (some ⟨b4, 0, none⟩), u 8, u 9, u 10, u 11, u 12, u 13, u 14, u 15, u 16, u 17, u 18, u 19, u 20, u 21, u 22, u 23, u 24, u 25, u 26, u 27, u 28, u 29, u 30, u 31, u 32, u 33, u 34, u 35, u 36, u 37, u 38, u 39, u 40, u 41, u 42, u 43, u 44, u 45, u 46, u 47, u 48, u 49, u 50, u 51, u 52, u 53, u 54, u 55, u 56, u 57, u 58, u 59, u 60, u 61, u 62, u 63, u 64, u 65, u 66, u 67, u 68, u 69, u 70, u 71, u 72, u 73, u 74, u 75, u 76, u 77, u 78, u 79, u 80, u 81, u 82, u 83, u 84, u 85, u 86, u 87, u 88, u 89, u 90, u 91, .int .i64 n, .int .i64 i, u 94, u 95, u 96, u 97, u 98, u 99, u 100, u 101, u 102, u 103, u 104, u 105, u 106, u 107, u 108, u 109, u 110, u 111, u 112, u 113, u 114, u 115, u 116, u 117, u 118], rs.map markD⟩) ?d25 ?c25
                  case d25 =>
                    refine wpIn_wide.2 ?_
                    have hS : Below W2.heap.size W2 W2.drew := (Below.refl _ _).drew
                    refine plain_region (fun W' => Below W2.heap.size W2 W') 9 10 (by kernel_rfl) rfl ?_
                    simp only [Array.replicate_succ, Array.replicate_zero, List.push_toArray, List.nil_append, List.cons_append]
                    obtain ⟨V, hV⟩ : ∃ X, W2.drew = X := ⟨_, rfl⟩
                    rw [hV] at hS ⊢
                    clear hV
                    refine take_op 0 (v := ?qv0) rfl (by kernel_rfl) (fun _ _ _ h => nomatch h.1) (by rfl) hS (fun w' hS' => ?qy0) ?qz0
                    case qy0 =>
                      go_simp
                      rfl
                    simp only [List.setIfInBounds_toArray, List.set_cons_zero, List.set_cons_succ]
                    refine take_op 1 (v := ?qv1) rfl (by kernel_rfl) (fun _ _ _ h => nomatch h.1) (by rfl) hS (fun w' hS' => ?qy1) ?qz1
                    case qy1 =>
                      have o2 := (hB4.fw.k4.below hS' hB4.fw.k4.lt).cell (i := 2) rfl
                      have rk := hB4.fw.cell hS' hkn
                      go_simp
                      rfl
                    simp only [List.setIfInBounds_toArray, List.set_cons_zero, List.set_cons_succ]
                    refine take_op 2 (v := ?qv2) rfl (by kernel_rfl) (fun _ _ _ h => nomatch h.1) (by rfl) hS (fun w' hS' => ?qy2) ?qz2
                    case qy2 =>
                      go_simp
                      rfl
                    simp only [List.setIfInBounds_toArray, List.set_cons_zero, List.set_cons_succ]
                    refine take_op 3 (v := ?qv3) rfl (by kernel_rfl) (fun _ _ _ h => nomatch h.1) (by rfl) hS (fun w' hS' => ?qy3) ?qz3
                    case qy3 =>
                      go_simp
                      rfl
                    simp only [List.setIfInBounds_toArray, List.set_cons_zero, List.set_cons_succ]
                    refine take_op 4 (v := ?qv4) rfl (by kernel_rfl) (fun _ _ _ h => nomatch h.1) (by rfl) hS (fun w' hS' => ?qy4) ?qz4
                    case qy4 =>
                      have o2 := (hB4.fw.k4.below hS' hB4.fw.k4.lt).cell (i := 2) rfl
                      have rk := hB4.fw.cell hS' hkn
                      go_simp
                      rfl
                    simp only [List.setIfInBounds_toArray, List.set_cons_zero, List.set_cons_succ]
                    refine take_op 5 (v := ?qv5) rfl (by kernel_rfl) (fun _ _ _ h => nomatch h.1) (by rfl) hS (fun w' hS' => ?qy5) ?qz5
                    case qy5 =>
                      go_simp
                      rfl
                    simp only [List.setIfInBounds_toArray, List.set_cons_zero, List.set_cons_succ]
                    refine take_op 6 (v := ?qv6) rfl (by kernel_rfl) (fun _ _ _ h => nomatch h.1) (by rfl) hS (fun w' hS' => ?qy6) ?qz6
                    case qy6 =>
                      go_simp
                      try go_ints
                      first
                      | rfl
                      | rw [if_pos ⟨by omega, by omega⟩]
                    simp only [List.setIfInBounds_toArray, List.set_cons_zero, List.set_cons_succ]
                    refine take_op 7 (v := ?qv7) rfl (by kernel_rfl) (fun _ _ _ h => nomatch h.1) (by rfl) hS (fun w' hS' => ?qy7) ?qz7
                    case qy7 =>
                      have o2 := (hB4.fw.k4.below hS' hB4.fw.k4.lt).cell (i := 2) rfl
                      have rk := hB4.fw.cell hS' hkn
                      go_simp
                      rfl
                    simp only [List.setIfInBounds_toArray, List.set_cons_zero, List.set_cons_succ]
                    refine take_op 8 (v := ?qv8) rfl (by kernel_rfl) (fun _ _ _ h => nomatch h.1) (by rfl) hS (fun w' hS' => ?qy8) ?qz8
                    case qy8 =>
                      go_simp
                      try go_ints
                      first
                      | rfl
                      | rw [if_pos ⟨by omega, by omega⟩]
                    simp only [List.setIfInBounds_toArray, List.set_cons_zero, List.set_cons_succ]
                    refine step_op 9 (by kernel_rfl) rfl (fun K hK => ?_)
                    have ri := hB4.fw.cell hS hin2
                    have rf := hB4.fw.frozen hS i
                    rw [if_pos (by rfl)]
                    go_simp
                    refine hK.out _ _ (fun h => absurd h (by omega)) ?_
                    clear hK K
                    try simp only [Act.put, List.setIfInBounds_toArray, List.set_cons_zero, List.set_cons_succ]
                    refine done_ops (by kernel_rfl) ?_
                    exact ⟨rfl, V, hS, rfl, ex_fn rfl⟩
                  case c25 =>
                    rintro e' a' V' ⟨rfl, V, hbV, rfl, u, rfl⟩
                    obtain ⟨q1, _⟩ := (hB4.grown (Nat.le_refl _) (grown_of_below hbV none)).storeL (Nat.le_refl _) i (px (basTo pw ph mm i) k)
                    have hbs := basTo_set hm0 hiN
                    rw [hki] at hbs
                    rw [hbs] at q1
                    gi_wp2_with fail
                    exact ⟨n - (i + 1), by omega, i + 1, hin2, q1, rfl, ex_fn rfl⟩
                · have e1 : (((lowest pw ph mm k : Nat) : Int) != (k : Int)) = true := by rw [bne_iff_ne]; omega
                  have hlk := lowest_lt (m := mm) hkN
                  rw [hN1H.out] at hlk
                  gi_wp2_with fail
                  exact ⟨lowKey (pw * ph) mm (lowest pw ph mm k), lowKey_lt hm0 hkN hlow, lowest pw ph mm k, hlk, (rootF_step hm0 hkN).trans hroot, hB4, rfl, ex_fn rfl⟩
            · have hni : n = i := by omega
              subst hni
              have o0 := hB4.fw.k4.cell (i := 0) rfl
              have o1 := hB4.fw.k4.cell (i := 1) rfl
              have o2 := hB4.fw.k4.cell (i := 2) rfl
              have r0 := hB4.fw.k2.cell (i := 0) rfl
              have r1 := hB4.fw.k2.cell (i := 1) rfl
              have r2 := hB4.fw.k2.cell (i := 2) rfl
              have fr0 := hB4.fw.k2.frozen 0
              have fr1 := hB4.fw.k2.frozen 1
              have fr2 := hB4.fw.k2.frozen 2
              gi_wp2_with fail
              clear o0 o1 o2 r0 r1 r2 fr0 fr1 fr2
              have kf := put3_blk hB4.fw.k2 (.int .i64 pw) (.int .i64 ph) (.slice (some ⟨g, 0, none⟩) n n)
              have rowf := put3_row hB4.fw.row (hB4.fw.k2.not_row (by decide) hB4.fw.row) (.int .i64 pw) (.int .i64 ph) (.slice (some ⟨g, 0, none⟩) n n)
              refine leaves_marks (B := w.heap.size) rs _ (hB4.marks.others (put3_others _ _ _ _ _)) fun W' hc hb => ?_
              have kf' : Blk W' (w.heap.size + 1) 24 _ := hc _ _ _ _ kf
              have g0 := kf'.cell (i := 0) rfl
              have g1 := kf'.cell (i := 1) rfl
              have g2 := kf'.cell (i := 2) rfl
              have hfin := Lib.hid (show basS pw ph xs = { im := { w := pw, h := ph, px := basTo pw ph mm n, err := 0 }, n := (endsTo pw ph mm n : Nat) } by
                rw [hsp.out, if_pos trivial]
                simp only [Int.toNat_natCast, hmmH.out, hN1H.out]
                rw [show basTo pw ph mm n = basinL pw ph mm by rw [← hN1H.out]; exact basTo_all])
              have hll : (basTo pw ph mm n).length = n := (basTo_len _).trans hN1H.out
              have hbe : Below w.heap.size w W' := (hB4.fw.bel.trans (put3_below (by omega) _ _ _)).trans (hb _ (Nat.le_refl _) (by simp [World.setCell]; omega))
              have rowf' : OwnIm w.heap.size W' (.agg #[.int .i64 pw, .int .i64 ph, .slice (some ⟨g, 0, none⟩) n n]) pw ph (basTo pw ph mm n) := ⟨_, rfl, row_len hll.symm (row_of_cells hc rowf)⟩
              exact ⟨.tuple #[.agg #[.int .i64 pw, .int .i64 ph, .slice (some ⟨g, 0, none⟩) n n], .int .i64 (endsTo pw ph mm n : Nat), .int .i64 0], by simp [results, Try.results59, go_sem, g0, g1, g2], ⟨_, by rw [hfin.out], by rw [hfin.out]; exact rowf'⟩, hbe⟩

end Go.Proofs.Ytjglfeonoiljlaa

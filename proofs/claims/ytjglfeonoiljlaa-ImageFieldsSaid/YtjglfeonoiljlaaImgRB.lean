/- The contract of the specification's Basins. -/
import Derived.Test.YtjglfeonoiljlaaImgLabel
import Derived.Test.YtjglfeonoiljlaaImgRN
namespace Go.Proofs.Ytjglfeonoiljlaa
open Go Go.RowKit Go.Shelf
set_option linter.unusedVariables false
set_option linter.unusedSimpArgs false

attribute [local go_sem] Oper.semAt_some

theorem row_px {W : World} {B g n c : Nat} {T : List Int} (h : W.ownsRow B 3 1 (.slice (some ⟨g, 0, none⟩) n c) n (T.map (Value.int .i64))) {k : Nat} (hk : k < n) : W.cell? ⟨g, k, none⟩ = some (.int .i64 (px T k)) := by
  have hl : T.length = n := by have := h.1; simpa using this
  rw [h.cellAt k (by omega)]
  unfold px
  rw [List.getElem?_map, Int.toNat_natCast, List.getElem?_eq_getElem (by omega)]
  simp

theorem step_append_at {P : Program} {ops : Array Oper} {o : Oper} {a : Act} {w : World} {K : Act → World → Prop} {Q : Exit → Act → World → Prop} {E : Prop}
    (hg : o.guard = none) (s x : Operand) (t : TypeId) (hop : o.op = Op.call { callee := Callee.builtin Builtin.append, args := #[s, x], argTypes := #[t, t] })
    (base : Nat) (e : TypeId) (i : TypeInfo) (z : Value) (size bytes : Nat) (h1 : P.underlying t = some (.slice e)) (h2 : P.info? e = some i) (h3 : i.zero = some z) (h4 : i.size = size) (h5 : i.bytes = bytes) (h6 : z.cells.size = size) (h7 : 0 < size)
    (v : Value) (k : Nat) (xs : List Value) (hs : a.eval s = v) (hown : w.ownsRow base e size v k xs) (ad : Addr) (m c : Nat) (news : List Value) (hx : a.eval x = .slice (some ad) m c) (hn : news.length = m * size)
    (hc : ∀ j u, news[j]? = some u → w.cell? (ad.add j) = some u) (h1c : ∀ u ∈ news, u.oneCell' = true) (b1 : k + m ≤ maxLen) (b2 : (k + m) * bytes ≤ 140737488355328) (b3 : base ≤ w.heap.size)
    (hK : ∀ v' w', w'.ownsRow base e size v' (k + m) (xs ++ news) → w.grownBy w' v.ownBlock → (v'.ownBlock = v.ownBlock ∨ v'.ownBlock = some w.heap.size) → K (a.put o.dst v') w') :
    if Region.wanted o (yielded ops a.tmps) = true then Oper.wp P o a w K Q else E := by
  have hw : Region.wanted o (yielded ops a.tmps) = true := by simp [Region.wanted, hg]
  rw [if_pos hw]
  obtain ⟨v', w', hrun, r1, r2, _, r3⟩ := run_append_own_at (P := P) w base t o.type e i z size bytes h1 h2 h3 h4 h5 h6 h7 v k xs hown ad m c news hn hc h1c b1 b2 b3
  unfold Oper.wp
  simp [execOp, hop, resolve, invoke, builtin, hs, hx, hrun, Result.andThen]
  exact hK v' w' r1 r2 r3

theorem row_cells {W : World} {B : Nat} {v : Value} {k : Nat} {xs : List Value} (h : W.ownsRow B 3 1 v k xs) {r : Nat} (hv : v.ownBlock = some r) : B ≤ r ∧ ∃ cur, W.heap[r]? = some (.cells cur 3 (0, 0)) := by
  rcases h.2 with ⟨rfl, _⟩ | ⟨g', cap, cur, rfl, h1, h2, _⟩
  · simp [Value.ownBlock] at hv
  · simp [Value.ownBlock] at hv; subst hv; exact ⟨h1, cur, h2⟩

/-- The memory: the argument's box, the result's, a row of numbers. -/
structure NW (B gt : Nat) (iw ih : Int) (a : Option Addr) (c n : Nat) (w W : World) (T : List Int) : Prop where
  k1 : Blk W B 24 #[.int .i64 iw, .int .i64 ih, .slice a n c]
  k2 : Blk W (B + 1) 24 #[.int .i64 0, .int .i64 0, .slice none 0 0]
  to : W.ownsRow B 3 1 (.slice (some ⟨gt, 0, none⟩) n n) n (T.map (Value.int .i64))
  bel : Below B w W

variable {B gt : Nat} {iw ih : Int} {a : Option Addr} {c n : Nat} {w W : World} {T : List Int}
theorem NW.tlt (h : NW B gt iw ih a c n w W T) : B ≤ gt ∧ gt < W.heap.size := h.to.lt gt rfl
theorem NW.grown (h : NW B gt iw ih a c n w W T) (hB : B ≤ w.heap.size) {W' : World} (hg : W.grownBy W' none) : NW B gt iw ih a c n w W' T :=
  ⟨h.k1.kept hg (by simp), h.k2.kept hg (by simp), h.to.kept hg (.inr (by simp [Value.ownBlock])), h.bel.grown hg (Nat.le_trans hB h.bel.size) (fun k e => by cases e)⟩
theorem NW.kept (h : NW B gt iw ih a c n w W T) (hB : B ≤ w.heap.size) {W' : World} {r : Nat} (hg : W.grownBy W' (some r)) (h1 : r ≠ B) (h2 : r ≠ B + 1) (h3 : r ≠ gt) (h4 : B ≤ r) : NW B gt iw ih a c n w W' T :=
  ⟨h.k1.kept hg (fun e => by cases e; exact h1 rfl), h.k2.kept hg (fun e => by cases e; exact h2 rfl), h.to.kept hg (.inr (by simp [Value.ownBlock]; exact fun e => h3 e.symm)), h.bel.grown hg (Nat.le_trans hB h.bel.size) (fun k e => by cases e; exact h4)⟩
theorem NW.store (h : NW B gt iw ih a c n w W T) (hB : B ≤ w.heap.size) (k : Nat) (v : Int) : NW B gt iw ih a c n w (W.setCell ⟨gt, k, none⟩ (.int .i64 v)) (T.set k v) := by
  have hst := h.to.stored k (.int .i64 v)
  refine ⟨h.k1.kept hst.2 (h.k1.not_row (by decide) h.to), h.k2.kept hst.2 (h.k2.not_row (by decide) h.to), ?_, h.bel.grown hst.2 (Nat.le_trans hB h.bel.size) (fun k e => by cases e; exact h.tlt.1)⟩
  rw [← map_set_int]; exact hst.1

set_option maxRecDepth 100000 in
set_option maxHeartbeats 16000000 in
theorem rBasins_any (iw ih : Int) (a : Option Addr) (c n : Nat) (xs : List Int) (hn : Hid (xs.length = n)) (w : World) (hm : n ≤ 9223372036854775807) (hr : Rd w.heap.size w a xs) :
    Calls Try.prog 60 #[imv iw ih a n c] w (RetNum w.heap.size (basS iw ih xs) w) := by
  have hB0 : Below w.heap.size w ((w.alloc (.cells #[.int .i64 iw, .int .i64 ih, .slice a n c] 24)).alloc (.cells #[.int .i64 0, .int .i64 0, .slice none 0 0] 24)) := below_al (below_al (Below.refl _ _) _) _
  obtain ⟨v0, hv⟩ : ∃ v, vld iw ih xs = v := ⟨_, rfl⟩
  have v0H := Lib.hid hv
  have hsp := Lib.hid (show basS iw ih xs = if v0 = true then { im := { w := iw, h := ih, px := basinL iw.toNat ih.toNat (fun k => px xs k), err := 0 }, n := (endsTo iw.toNat ih.toNat (fun k => px xs k) (iw.toNat * ih.toNat) : Nat) } else { im := noIm 20, n := 0 } by unfold basS; rw [hv])
  clear hv
  obtain ⟨i0, hi, hz0, hz1, hz2⟩ := info_parts info_int
  refine (callsIn_wide (n := 10)).1 ?_
  refine callsIn_of_wp_marks Try.func60 rfl trivial ?_
  simp only [Try.ntmps60, List.size_toArray, List.length_cons, List.length_nil, Nat.reduceAdd, Nat.reduceSub, Array.replicate_succ, Array.replicate_zero, List.push_toArray, List.append_toArray, List.nil_append, List.cons_append]
  gi_wp2_with fail
  refine ⟨trivial, (callsIn_wide.2 (Valid_any iw ih a c xs n hn _ hm ((hr.below (Nat.le_refl _) hB0).mono hB0.size))).mono ?_⟩
  rintro e0 W1 ⟨rfl, hb1⟩
  rw [v0H.out]
  have hB1 : Below w.heap.size w W1 := hB0.trans (hb1.mono hB0.size)
  have k1 := ((Blk.new w 24 #[.int .i64 iw, .int .i64 ih, .slice a n c]).alloc (.cells #[.int .i64 0, .int .i64 0, .slice none 0 0] 24)).below hb1 (by simp <;> omega)
  have k2 := (Blk.new (w.alloc (.cells #[.int .i64 iw, .int .i64 ih, .slice a n c] 24)) 24 #[.int .i64 0, .int .i64 0, .slice none 0 0]).below hb1 (by simp <;> omega)
  have hs1 : w.heap.size + 2 ≤ W1.heap.size := by have := hb1.size; simpa using this
  simp only [World.size_alloc] at k2
  clear hb1 hB0
  have m0 := k1.cell (i := 0) rfl
  have m1 := k1.cell (i := 1) rfl
  have m2 := k1.cell (i := 2) rfl
  have c0 := k2.cell (i := 0) rfl
  have c1 := k2.cell (i := 1) rfl
  have c2 := k2.cell (i := 2) rfl
  have fc0 := k2.frozen 0
  have fc1 := k2.frozen 1
  have fc2 := k2.frozen 2
  cases v0 with
  | false =>
    gi_wp2_with fail
    have kf := put3_blk k2 (.int .i64 0) (.int .i64 0) (.slice none 0 0)
    have g0 := kf.cell (i := 0) rfl
    have g1 := kf.cell (i := 1) rfl
    have g2 := kf.cell (i := 2) rfl
    exact ⟨.tuple #[.agg #[.int .i64 0, .int .i64 0, .slice none 0 0], .int .i64 0, .int .i64 20], by simp [results, Try.results60, go_sem, g0, g1, g2], ⟨_, by rw [hsp.out]; rfl, by rw [hsp.out]; exact OwnIm_nil _ _⟩, hB1.trans (put3_below (by omega) _ _ _)⟩
  | true =>
    obtain ⟨⟨i1, i2⟩, ⟨i3, i4⟩, hlen, hall⟩ := vld_true v0H.out
    rw [hn.out] at hlen
    have hlenH := Lib.hid hlen
    have hallH := Lib.hid hall
    clear hlen hall
    obtain ⟨pw, rfl⟩ : ∃ pw : Nat, iw = (pw : Int) := ⟨iw.toNat, by omega⟩
    obtain ⟨ph, rfl⟩ : ∃ ph : Nat, ih = (ph : Int) := ⟨ih.toNat, by omega⟩
    have hN : pw * ph = n ∧ n ≤ 256 := by
      have h1 := hlenH.out
      obtain ⟨m1, m2⟩ := mul_small (a := (pw : Int)) (b := (ph : Int)) (m := 16) (n := 16) (by omega) (by omega) (by omega) (by omega)
      have h2 : ((pw * ph : Nat) : Int) = (pw : Int) * ph := by simp
      omega
    obtain ⟨hN1, hN2⟩ := hN
    have hN1H := Lib.hid hN1
    have hn0 : 0 < n := by rw [← hN1]; exact Nat.mul_pos (by omega) (by omega)
    have hrr := hr
    obtain ⟨ba, oa, rfl, hba, hca⟩ := rd_at hr hn.out hn0
    clear hca hr
    clear hN1 m0 m1 m2 c0 c1 c2 fc0 fc1 fc2
    have m2 := k1.cell (i := 2) rfl
    gi_wp2_with (gi_at_make; refine wpListIn_make_full _ rfl _ _ 22 rfl w.heap.size 3 i0 (.int .i64 0) 1 Try.underlying22 hi hz0 hz1 .i64 .i64 (n : Int) (n : Int) n rfl rfl rfl rfl (by rw [hz2]; omega) (by unfold maxLen; omega) (by omega) ?_; intro w1 hown hg)
    clear m2
    have hzz : (madeCells (Value.int .i64 0).cells (n * 1)).toList = (List.replicate n (0 : Int)).map (Value.int .i64) := by simp only [madeCells, Value.cells]; simp [Nat.mod_one, List.map_const']
    rw [hzz] at hown
    obtain ⟨gt, hgt⟩ : ∃ b, W1.heap.size = b := ⟨_, rfl⟩
    rw [hgt] at hown ⊢
    obtain ⟨mm, hmm⟩ : ∃ mm, (fun k : Nat => px xs k) = mm := ⟨_, rfl⟩
    have hbd := Lib.hid (show ∀ k, -2147483648 ≤ mm k ∧ mm k ≤ 2147483648 from fun k => by rw [← hmm]; exact px_bd hallH.out _)
    have hmmH := Lib.hid hmm
    clear hmm
    have hN0 : NW w.heap.size gt pw ph (some ⟨ba, oa, none⟩) c n w w1 (endNums pw ph mm 0) := by
      refine ⟨k1.kept hg (by simp), k2.kept hg (by simp), ?_, hB1.grown hg hB1.size (fun k e => by cases e)⟩
      rw [endNums_zero, hN1H.out]; exact hown
    have hgt2 : w.heap.size + 2 ≤ gt := by omega
    clear hown hzz hg k1 k2 hB1
    refine loopM (fun m a' w' => ∃ (i : Nat), i ≤ n ∧ NW w.heap.size gt pw ph (some ⟨ba, oa, none⟩) c n w w' (endNums pw ph mm i) ∧ m = n - i ∧ ∃ u : Nat → Value, a' = ⟨#[u 0, .pointer (some ⟨w.heap.size, 0, none⟩), .pointer (some ⟨w.heap.size + 1, 0, none⟩), u 3, u 4, .slice (some ⟨gt, 0, none⟩) n n, .int .i64 (endsTo pw ph mm i : Nat), .int .i64 i, u 8, u 9, u 10, u 11, u 12, u 13, u 14, u 15, u 16, u 17, u 18, u 19, u 20, u 21, u 22, u 23, u 24, u 25, u 26, u 27, u 28, u 29, u 30, u 31, u 32, u 33, u 34, u 35, u 36, u 37, u 38, u 39, u 40, u 41, u 42, u 43, u 44, u 45, u 46, u 47, u 48, u 49, u 50, u 51, u 52, u 53, u 54, u 55, u 56, u 57, u 58, u 59, u 60, u 61, u 62, u 63, u 64, u 65, u 66, u 67, u 68], []⟩) n ?start ?round
    case start => exact ⟨0, Nat.zero_le _, hN0, rfl, ex_fn rfl⟩
    case round =>
      clear hN0
      rintro m a' W ⟨i, hin, hNW, rfl, u, rfl⟩
      have m0 := hNW.k1.cell (i := 0) rfl
      have m1 := hNW.k1.cell (i := 1) rfl
      have m2 := hNW.k1.cell (i := 2) rfl
      have hszW := hNW.bel.size
      have hgl := hNW.tlt
      have hEle := endsTo_le pw ph mm i
      by_cases hlt : i < n
      · have hlN : i < pw * ph := by rw [hN1H.out]; exact hlt
        gi_wp2_with fail
        refine ⟨trivial, (callsIn_wide.2 (Lowest_any pw ph (some ⟨ba, oa, none⟩) c n xs hn hN1H (by omega) (by omega) (by omega) (by omega) mm hmmH i hlt _ ((hrr.below (Nat.le_refl _) hNW.bel).mono hNW.bel.size))).mono ?_⟩
        rintro e1 W2 ⟨rfl, hb2⟩
        have hN2 := hNW.grown (Nat.le_refl _) (grown_of_below hb2 none)
        clear m0 m1 m2
        by_cases hlow : lowest pw ph mm i = i
        · have e1 : (((lowest pw ph mm i : Nat) : Int) == (i : Int)) = true := by rw [hlow]; simp
          have he : (((endsTo pw ph mm i : Nat) : Int)) + 1 = ((endsTo pw ph mm (i + 1) : Nat) : Int) := by rw [ends_end hlow]; omega
          have ri := row_px hN2.to hlt
          have rf := hN2.to.frozenAt i
          have hst := hN2.store (Nat.le_refl _) i ((endsTo pw ph mm i + 1 : Nat) : Int)
          rw [endNums_end hlN hlow, show ((endsTo pw ph mm i + 1 : Nat) : Int) = ((endsTo pw ph mm (i + 1) : Nat) : Int) by omega] at hst
          have hl2 := Lib.hid hlow
          clear hlow
          gi_wp2_with fail
          try rw [he]
          exact ⟨n - (i + 1), by omega, i + 1, hlt, hst, rfl, ex_fn rfl⟩
        · have e1 : (((lowest pw ph mm i : Nat) : Int) == (i : Int)) = false := by rw [beq_eq_false_iff_ne]; omega
          rw [← endNums_skip hlow] at hN2
          have hl2 := Lib.hid hlow
          clear hlow
          gi_wp2_with fail
          rw [← ends_skip hl2.out]
          exact ⟨n - (i + 1), by omega, i + 1, hlt, hN2, rfl, ex_fn rfl⟩
      · have hni : n = i := by omega
        subst hni
        gi_wp2_with fail
        clear m0 m1 m2
        have hb8 := Blk.new W 24 #[.int .i64 pw, .int .i64 ph, .slice none 0 0]
        obtain ⟨b8, hb8e⟩ : ∃ b, W.heap.size = b := ⟨_, rfl⟩
        have hNa := hNW.grown (Nat.le_refl _) (World.grownBy_alloc W (.cells #[.int .i64 pw, .int .i64 ph, .slice none 0 0] 24) none)
        rw [hb8e] at hb8 ⊢
        have hw8 : w.heap.size + 2 ≤ b8 := by omega
        obtain ⟨W8, hW8⟩ : ∃ X, W.alloc (.cells #[.int .i64 pw, .int .i64 ph, .slice none 0 0] 24) = X := ⟨_, rfl⟩
        rw [hW8] at hb8 hNa ⊢
        clear hW8 hNW hb8e hgl hszW hEle
        have hm0 : ∀ k, -2147483648 ≤ mm k := fun k => (hbd.out k).1
        refine loopM (fun m a' w' => ∃ (i : Nat) (v : Value), i ≤ n ∧ (NW w.heap.size gt pw ph (some ⟨ba, oa, none⟩) c n w w' (endNums pw ph mm n) ∧ Blk w' b8 24 #[.int .i64 pw, .int .i64 ph, v] ∧ w'.ownsRow w.heap.size 3 1 v i (((basinL pw ph mm).take i).map (Value.int .i64)) ∧ Value.ownBlock v ≠ some gt ∧ Value.ownBlock v ≠ some b8) ∧ m = n - i ∧ ∃ u : Nat → Value, a' = ⟨#[u 0, .pointer (some ⟨w.heap.size, 0, none⟩), .pointer (some ⟨w.heap.size + 1, 0, none⟩), u 3, u 4, .slice (some ⟨gt, 0, none⟩) n n, .int .i64 (endsTo pw ph mm n : Nat), u 7, .pointer (some ⟨b8, 0, none⟩), .int .i64 i, u 10, u 11, u 12, u 13, u 14, u 15, u 16, u 17, u 18, u 19, u 20, u 21, u 22, u 23, u 24, u 25, u 26, u 27, u 28, u 29, u 30, u 31, u 32, u 33, u 34, u 35, u 36, u 37, u 38, u 39, u 40, u 41, u 42, u 43, u 44, u 45, u 46, u 47, u 48, u 49, u 50, u 51, u 52, u 53, u 54, u 55, u 56, u 57, u 58, u 59, u 60, u 61, u 62, u 63, u 64, u 65, u 66, u 67, u 68], []⟩) n ?s2 ?r2
        case s2 => exact ⟨0, .slice none 0 0, Nat.zero_le _, ⟨hNa, hb8, World.ownsRow_nil _ _ _ _, by simp [Value.ownBlock], by simp [Value.ownBlock]⟩, rfl, ex_fn rfl⟩
        case r2 =>
          clear hNa hb8
          rintro m2 a2 W2 ⟨i, v, hin2, ⟨hNW, hb8, hrow, ne9, ne8⟩, rfl, u2, rfl⟩
          have hszW := hNW.bel.size
          have m2 := hNW.k1.cell (i := 2) rfl
          by_cases hlt2 : i < n
          · have hiN : i < pw * ph := by rw [hN1H.out]; exact hlt2
            gi_wp2_with fail
            refine loopM (fun m a' w' => ∃ (k : Nat), k < n ∧ rootF pw ph mm k = rootF pw ph mm i ∧ (NW w.heap.size gt pw ph (some ⟨ba, oa, none⟩) c n w w' (endNums pw ph mm n) ∧ Blk w' b8 24 #[.int .i64 pw, .int .i64 ph, v] ∧ w'.ownsRow w.heap.size 3 1 v i (((basinL pw ph mm).take i).map (Value.int .i64)) ∧ Value.ownBlock v ≠ some gt ∧ Value.ownBlock v ≠ some b8) ∧ m = lowKey (pw * ph) mm k ∧ ∃ u : Nat → Value, a' = ⟨#[u 0, .pointer (some ⟨w.heap.size, 0, none⟩), .pointer (some ⟨w.heap.size + 1, 0, none⟩), u 3, u 4, .slice (some ⟨gt, 0, none⟩) n n, .int .i64 (endsTo pw ph mm n : Nat), u 7, .pointer (some ⟨b8, 0, none⟩), .int .i64 i, .int .i64 k, u 11, u 12, u 13, u 14, u 15, u 16, u 17, u 18, u 19, u 20, u 21, u 22, u 23, u 24, u 25, u 26, u 27, u 28, u 29, u 30, u 31, u 32, u 33, u 34, u 35, u 36, u 37, u 38, u 39, u 40, u 41, u 42, u 43, u 44, u 45, u 46, u 47, u 48, u 49, u 50, u 51, u 52, u 53, u 54, u 55, u 56, u 57, u 58, u 59, u 60, u 61, u 62, u 63, u 64, u 65, u 66, u 67, u 68], []⟩) (lowKey (pw * ph) mm i) ?s3 ?r3
            case s3 => exact ⟨i, hlt2, rfl, ⟨hNW, hb8, hrow, ne9, ne8⟩, rfl, ex_fn rfl⟩
            case r3 =>
              clear hNW hb8 hrow ne9 ne8 m2 hszW
              rintro m3 a3 W2 ⟨k, hkn, hroot, ⟨hNW, hb8, hrow, ne9, ne8⟩, rfl, u3, rfl⟩
              have hkN : k < pw * ph := by rw [hN1H.out]; exact hkn
              have m0 := hNW.k1.cell (i := 0) rfl
              have m1 := hNW.k1.cell (i := 1) rfl
              have m2 := hNW.k1.cell (i := 2) rfl
              gi_wp2_with fail
              refine ⟨trivial, (callsIn_wide.2 (Lowest_any pw ph (some ⟨ba, oa, none⟩) c n xs hn hN1H (by omega) (by omega) (by omega) (by omega) mm hmmH k hkn _ ((hrr.below (Nat.le_refl _) hNW.bel).mono hNW.bel.size))).mono ?_⟩
              rintro e1 W3 ⟨rfl, hb3⟩
              replace hNW := hNW.grown (Nat.le_refl _) (grown_of_below hb3 none)
              replace hb8 := hb8.below hb3 hb8.lt
              replace hrow := row_below hrow hb3
              clear m0 m1 m2 hb3
              have hszW := hNW.bel.size
              by_cases hlow : lowest pw ph mm k = k
              · have e1 : (((lowest pw ph mm k : Nat) : Int) != (k : Int)) = false := by rw [hlow]; simp
                have hki : rootF pw ph mm i = k := by rw [← hroot, rootF_end hlow]
                have hl2 := Lib.hid hlow
                clear hlow
                gi_wp2_with fail
                obtain ⟨z, hz⟩ : ∃ z : Int, ((endsTo pw ph mm (rootF pw ph mm i + 1) : Nat) : Int) = z := ⟨_, rfl⟩
                have hpk : px (endNums pw ph mm n) k = z := by
                  rw [← hz, hki]
                  unfold endNums
                  rw [px_layTo _ _ hkN, if_pos hkn, if_pos hl2.out]
                have htk : ((basinL pw ph mm).take (i + 1)).map (Value.int .i64) = ((basinL pw ph mm).take i).map (Value.int .i64) ++ [.int .i64 z] := by
                  have hll : i < (basinL pw ph mm).length := by simp [basinL]; exact hiN
                  rw [List.take_add_one, List.getElem?_eq_getElem hll, List.map_append]
                  simp [basinL, hz]
                refine wpIn_mono (Q := fun e' a' w' => e' = .normal ∧ ∃ (v' : Value), (NW w.heap.size gt pw ph (some ⟨ba, oa, none⟩) c n w w' (endNums pw ph mm n) ∧ Blk w' b8 24 #[.int .i64 pw, .int .i64 ph, v'] ∧ w'.ownsRow w.heap.size 3 1 v' (i + 1) (((basinL pw ph mm).take (i + 1)).map (Value.int .i64)) ∧ Value.ownBlock v' ≠ some gt ∧ Value.ownBlock v' ≠ some b8) ∧ ∃ u : Nat → Value, a' = ⟨#[u 0, .pointer (some ⟨w.heap.size, 0, none⟩), .pointer (some ⟨w.heap.size + 1, 0, none⟩), u 3, u 4, .slice (some ⟨gt, 0, none⟩) n n, .int .i64 (endsTo pw ph mm n : Nat), u 7, .pointer (some ⟨b8, 0, none⟩), .int .i64 i, u 10, u 11, u 12, u 13, u 14, u 15, u 16, u 17, u 18, u 19, u 20, u 21, u 22, u 23, u 24, u 25, u 26, u 27, u 28, u 29, u 30, u 31, u 32, u 33, u 34, u 35, u 36, u 37, u 38, u 39, u 40, u 41, u 42, u 43, u 44, u 45, u 46, u 47, u 48, u 49, u 50, u 51, u 52, u 53, u 54, u 55, u 56, u 57, u 58, u 59, u 60, u 61, u 62, u 63, u 64, u 65, u 66, u 67, u 68], []⟩) ?d18 ?c18
                case d18 =>
                  refine wpIn_wide.2 ?_
                  have hS : W3.grownBy W3.drew v.ownBlock := ⟨rfl, rfl, rfl, Nat.le_refl _, fun _ _ _ => rfl⟩
                  have hbd : Below W3.heap.size W3 W3.drew := (Below.refl _ _).drew
                  refine plain_region (fun W' => W3.grownBy W' v.ownBlock) 9 10 (by kernel_rfl) rfl ?_
                  simp only [Array.replicate_succ, Array.replicate_zero, List.push_toArray, List.nil_append, List.cons_append]
                  obtain ⟨Vd, hVd⟩ : ∃ X, W3.drew = X := ⟨_, rfl⟩
                  rw [hVd] at hS hbd ⊢
                  clear hVd
                  have hbds := hbd.size
                  refine take_op 0 (v := ?qv0) rfl (by kernel_rfl) (fun _ _ _ h => nomatch h.1) (by rfl) hS (fun w' hS' => ?qy0) ?qz0
                  case qy0 =>
                    go_simp
                    rfl
                  simp only [List.setIfInBounds_toArray, List.set_cons_zero, List.set_cons_succ]
                  refine take_op 1 (v := ?qv1) rfl (by kernel_rfl) (fun _ _ _ h => nomatch h.1) (by rfl) hS (fun w' hS' => ?qy1) ?qz1
                  case qy1 =>
                    have a2 := (hb8.kept hS' ne8.symm).cell (i := 2) rfl
                    have tk := row_px (hNW.to.kept hS' (.inr ne9.symm)) hkn
                    rw [hpk] at tk
                    go_simp
                    rfl
                  simp only [List.setIfInBounds_toArray, List.set_cons_zero, List.set_cons_succ]
                  refine take_op 2 (v := ?qv2) rfl (by kernel_rfl) (fun _ _ _ h => nomatch h.1) (by rfl) hS (fun w' hS' => ?qy2) ?qz2
                  case qy2 =>
                    go_simp
                    rfl
                  simp only [List.setIfInBounds_toArray, List.set_cons_zero, List.set_cons_succ]
                  refine take_op 3 (v := ?qv3) rfl (by kernel_rfl) (fun _ _ _ h => nomatch h.1) (by rfl) hS (fun w' hS' => ?qy3) ?qz3
                  case qy3 =>
                    go_simp
                    rfl
                  simp only [List.setIfInBounds_toArray, List.set_cons_zero, List.set_cons_succ]
                  refine take_op 4 (v := ?qv4) rfl (by kernel_rfl) (fun _ _ _ h => nomatch h.1) (by rfl) hS (fun w' hS' => ?qy4) ?qz4
                  case qy4 =>
                    go_simp
                    try go_ints
                    first
                    | rfl
                    | rw [if_pos ⟨by omega, by omega⟩]
                  simp only [List.setIfInBounds_toArray, List.set_cons_zero, List.set_cons_succ]
                  refine take_op 5 (v := ?qv5) rfl (by kernel_rfl) (fun _ _ _ h => nomatch h.1) (by rfl) hS (fun w' hS' => ?qy5) ?qz5
                  case qy5 =>
                    have a2 := (hb8.kept hS' ne8.symm).cell (i := 2) rfl
                    have tk := row_px (hNW.to.kept hS' (.inr ne9.symm)) hkn
                    rw [hpk] at tk
                    go_simp
                    rfl
                  simp only [List.setIfInBounds_toArray, List.set_cons_zero, List.set_cons_succ]
                  refine step_op 6 (by kernel_rfl) rfl (fun K hK => ?_)
                  rw [if_pos (by rfl)]
                  go_simp
                  have hS4 : W3.grownBy (Vd.alloc (.cells #[.int .i64 z] 3)) v.ownBlock := grown_trans hS (World.grownBy_alloc _ _ _)
                  refine hK.out _ _ (fun h => hS4) ?_
                  clear hK K
                  try simp only [Act.put, List.setIfInBounds_toArray, List.set_cons_zero, List.set_cons_succ]
                  refine step_op 7 (by kernel_rfl) rfl (fun K hK => ?_)
                  refine step_append_at rfl (.tmp 59) (.tmp 64) 22 rfl w.heap.size 3 i0 (.int .i64 0) 1 8 Try.underlying22 hi hz0 hz1 hz2 rfl (by decide) v i (((basinL pw ph mm).take i).map (Value.int .i64)) rfl ((row_below hrow hbd).alloc (.cells #[.int .i64 z] 3)) ⟨Vd.heap.size, 0, none⟩ 1 1 [.int .i64 z] rfl rfl (cell_one_new _ _ _) (by simp [Value.oneCell']) (by unfold maxLen; omega) (by omega) (by simp; omega) ?_
                  intro v' w4 hown' hg4 hvb
                  obtain ⟨va, vc, rfl⟩ := row_slice hown'
                  have hS5 : W3.grownBy w4 v.ownBlock := grown_trans hS4 hg4
                  refine hK.out _ _ (fun h => hS5) ?_
                  clear hK K
                  try simp only [Act.put, List.setIfInBounds_toArray, List.set_cons_zero, List.set_cons_succ]
                  refine take_op 8 (v := ?qv8) rfl (by kernel_rfl) (fun _ _ _ h => nomatch h.1) (by rfl) hS5 (fun w' hS' => ?qy8) ?qz8
                  case qy8 =>
                    go_simp
                    rfl
                  simp only [List.setIfInBounds_toArray, List.set_cons_zero, List.set_cons_succ]
                  refine step_op 9 (by kernel_rfl) rfl (fun K hK => ?_)
                  have q4 := hb8.kept hS5 ne8.symm
                  have o2 := q4.cell (i := 2) rfl
                  have fo2 := q4.frozen 2
                  rw [if_pos (by rfl)]
                  go_simp
                  refine hK.out _ _ (fun h => absurd h (by omega)) ?_
                  clear hK K
                  try simp only [Act.put, List.setIfInBounds_toArray, List.set_cons_zero, List.set_cons_succ]
                  refine done_ops (by kernel_rfl) ?_
                  have hset := blk_set_grown w4 b8 2 (.slice va (i + 1) vc)
                  have hNd := hNW.grown (Nat.le_refl _) (grown_of_below hbd none)
                  have hgt8 := hNW.tlt
                  have hl8 := hb8.lt
                  have hN4 : NW w.heap.size gt pw ph (some ⟨ba, oa, none⟩) c n w w4 (endNums pw ph mm n) := by
                    have hNe := hNd.grown (Nat.le_refl _) (World.grownBy_alloc Vd (.cells #[.int .i64 z] 3) none)
                    cases hvo : v.ownBlock with
                    | none => rw [hvo] at hg4; exact hNe.grown (Nat.le_refl _) hg4
                    | some r =>
                      rw [hvo] at hg4
                      have hrc := row_cells hrow hvo
                      refine hNe.kept (Nat.le_refl _) hg4 (fun h => ?_) (fun h => ?_) (fun h => ne9 (by rw [hvo, h])) hrc.1
                      · obtain ⟨cur, hc⟩ := hrc.2
                        rw [h, show W3.heap[w.heap.size]? = _ from hNW.k1] at hc
                        cases hc
                      · obtain ⟨cur, hc⟩ := hrc.2
                        rw [h, show W3.heap[w.heap.size + 1]? = _ from hNW.k2] at hc
                        cases hc
                  have hne' : ∀ {x : Nat}, x < W3.heap.size → v.ownBlock ≠ some x → Value.ownBlock (.slice va (i + 1) vc) ≠ some x := fun hx hn h => by
                    rcases hvb with h1 | h1
                    · exact hn (by rw [← h1]; exact h)
                    · rw [h1] at h; simp at h; omega
                  have hk4 := hb8.kept hS5 ne8.symm
                  rw [← htk] at hown'
                  exact ⟨rfl, .slice va (i + 1) vc, ⟨hN4.kept (Nat.le_refl _) hset (by omega) (by omega) (fun h => hb8.not_row (by decide) hNW.to (by rw [h]; rfl)) (by omega), hk4.set 2 (.slice va (i + 1) vc), hown'.kept hset (.inr (hne' hl8 ne8)), hne' hgt8.2 ne9, hne' hl8 ne8⟩, ex_fn rfl⟩
                case c18 =>
                  rintro e' a' w' ⟨rfl, v', hO, u, rfl⟩
                  gi_wp2_with fail
                  exact ⟨n - (i + 1), by omega, i + 1, v', hlt2, hO, rfl, ex_fn rfl⟩
              · have e1 : (((lowest pw ph mm k : Nat) : Int) != (k : Int)) = true := by rw [bne_iff_ne]; omega
                have hlk := lowest_lt (m := mm) hkN
                rw [hN1H.out] at hlk
                have hl2 := Lib.hid hlow
                clear hlow
                have m0 := hNW.k1.cell (i := 0) rfl
                have m1 := hNW.k1.cell (i := 1) rfl
                have m2 := hNW.k1.cell (i := 2) rfl
                gi_wp2_with fail
                refine ⟨trivial, (callsIn_wide.2 (Lowest_any pw ph (some ⟨ba, oa, none⟩) c n xs hn hN1H (by omega) (by omega) (by omega) (by omega) mm hmmH k hkn _ ((hrr.below (Nat.le_refl _) hNW.bel).mono hNW.bel.size))).mono ?_⟩
                rintro e2 W4 ⟨rfl, hb4⟩
                have hOO : NW w.heap.size gt pw ph (some ⟨ba, oa, none⟩) c n w W4 (endNums pw ph mm n) ∧ Blk W4 b8 24 #[.int .i64 pw, .int .i64 ph, v] ∧ W4.ownsRow w.heap.size 3 1 v i (((basinL pw ph mm).take i).map (Value.int .i64)) ∧ Value.ownBlock v ≠ some gt ∧ Value.ownBlock v ≠ some b8 := ⟨hNW.grown (Nat.le_refl _) (grown_of_below hb4 none), hb8.below hb4 hb8.lt, row_below hrow hb4, ne9, ne8⟩
                clear m0 m1 m2 e1
                gi_wp2_with fail
                exact ⟨lowKey (pw * ph) mm (lowest pw ph mm k), lowKey_lt hm0 hkN hl2.out, lowest pw ph mm k, hlk, (rootF_step hm0 hkN).trans hroot, hOO, rfl, ex_fn rfl⟩
          · have hni : n = i := by omega
            subst hni
            obtain ⟨va, vc, rfl⟩ := row_slice hrow
            have o0 := hb8.cell (i := 0) rfl
            have o1 := hb8.cell (i := 1) rfl
            have o2 := hb8.cell (i := 2) rfl
            have r0 := hNW.k2.cell (i := 0) rfl
            have r1 := hNW.k2.cell (i := 1) rfl
            have r2 := hNW.k2.cell (i := 2) rfl
            have fr0 := hNW.k2.frozen 0
            have fr1 := hNW.k2.frozen 1
            have fr2 := hNW.k2.frozen 2
            gi_wp2_with fail
            clear o0 o1 o2 r0 r1 r2 fr0 fr1 fr2
            have kf := put3_blk hNW.k2 (.int .i64 pw) (.int .i64 ph) (.slice va n vc)
            have rowf := put3_row hrow (hNW.k2.not_row (by decide) hrow) (.int .i64 pw) (.int .i64 ph) (.slice va n vc)
            have g0 := kf.cell (i := 0) rfl
            have g1 := kf.cell (i := 1) rfl
            have g2 := kf.cell (i := 2) rfl
            have hbl : (basinL pw ph mm).length = n := by simp [basinL]; exact hN1H.out
            rw [List.take_of_length_le (by omega)] at rowf
            have hfin := Lib.hid (show basS pw ph xs = { im := { w := pw, h := ph, px := basinL pw ph mm, err := 0 }, n := (endsTo pw ph mm n : Nat) } by
              rw [hsp.out, if_pos trivial]
              simp only [Int.toNat_natCast, hmmH.out, hN1H.out])
            have hbe : Below w.heap.size w (put3 W2 (w.heap.size + 1) (.int .i64 pw) (.int .i64 ph) (.slice va n vc)) := hNW.bel.trans (put3_below (by omega) _ _ _)
            have rowf' : OwnIm w.heap.size (put3 W2 (w.heap.size + 1) (.int .i64 pw) (.int .i64 ph) (.slice va n vc)) (.agg #[.int .i64 pw, .int .i64 ph, .slice va n vc]) pw ph (basinL pw ph mm) := ⟨_, rfl, row_len hbl.symm rowf⟩
            exact ⟨.tuple #[.agg #[.int .i64 pw, .int .i64 ph, .slice va n vc], .int .i64 (endsTo pw ph mm n : Nat), .int .i64 0], by simp [results, Try.results60, go_sem, g0, g1, g2], ⟨_, by rw [hfin.out], by rw [hfin.out]; exact rowf'⟩, hbe⟩

end Go.Proofs.Ytjglfeonoiljlaa

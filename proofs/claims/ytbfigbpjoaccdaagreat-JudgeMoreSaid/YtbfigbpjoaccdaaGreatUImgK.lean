/- The contracts of Zip: the program's and the specification's. -/
import Derived.Test.YtbfigbpjoaccdaaGreatQD5
namespace Go.Proofs.YtbfigbpjoaccdaaGreat
open Go Go.RowKit Go.Shelf
set_option linter.unusedVariables false
set_option linter.unusedSimpArgs false

/-- What Zip returns. -/
def zipS (iw ih : Int) (xs : List Int) (jw jh : Int) (ys : List Int) (how : Int) : ImR :=
  if vld iw ih xs = true then (if vld jw jh ys = true then (if decide (iw = jw ∧ ih = jh) = true then (if decide (1 ≤ how ∧ how ≤ 6) = true then { w := iw, h := ih, px := img iw.toNat ih.toNat (zipG iw xs ys how), err := 0 } else noIm 2) else noIm 21) else noIm 20) else noIm 20


set_option maxRecDepth 100000 in
set_option maxHeartbeats 4000000 in
theorem Zip_any (iw ih : Int) (a : Option Addr) (c n : Nat) (xs : List Int) (hn : Hid (xs.length = n)) (jw jh : Int) (a' : Option Addr) (c' n' : Nat) (ys : List Int) (hn' : Hid (ys.length = n')) (how : Int) (hw1 : 0 ≤ how) (hw2 : how ≤ 255) (w : World) (hm : n ≤ 9223372036854775807) (hm' : n' ≤ 9223372036854775807) (hr : Rd w.heap.size w a xs) (hr' : Rd w.heap.size w a' ys) :
    Calls Tryz.prog 43 #[imv iw ih a n c, imv jw jh a' n' c', .int .u8 how] w (RetIm w.heap.size (zipS iw ih xs jw jh ys how) w) := by
  have hB0 : Below w.heap.size w ((((w.alloc (.cells #[.int .i64 iw, .int .i64 ih, .slice a n c] 27)).alloc (.cells #[.int .i64 jw, .int .i64 jh, .slice a' n' c'] 27)).alloc (.cells #[.int .u8 how] 5)).alloc (.cells #[.int .i64 0, .int .i64 0, .slice none 0 0] 27)) := below_al (below_al (below_al (below_al (Below.refl _ _) _) _) _) _
  obtain ⟨v0, hv0⟩ : ∃ v, vld iw ih xs = v := ⟨_, rfl⟩
  obtain ⟨v1, hv1⟩ : ∃ v, vld jw jh ys = v := ⟨_, rfl⟩
  obtain ⟨v2, hv2⟩ : ∃ v, decide (iw = jw ∧ ih = jh) = v := ⟨_, rfl⟩
  obtain ⟨v3, hv3⟩ : ∃ v, decide (1 ≤ how ∧ how ≤ 6) = v := ⟨_, rfl⟩
  have hsp0 : zipS iw ih xs jw jh ys how = if v0 = true then (if v1 = true then (if v2 = true then (if v3 = true then { w := iw, h := ih, px := img iw.toNat ih.toNat (zipG iw xs ys how), err := 0 } else noIm 2) else noIm 21) else noIm 20) else noIm 20 := by
    simp only [zipS, hv0, hv1, hv2, hv3]
  have hsp := Lib.hid hsp0
  have v0H := Lib.hid hv0
  have v1H := Lib.hid hv1
  have v2H := Lib.hid hv2
  have v3H := Lib.hid hv3
  clear hv0 hv1 hv2 hv3 hsp0
  go_enter Tryz.func43, Tryz.ntmps43
  go_wp2_with fail
  refine (operations_any _).mono ?_
  rintro e W1 ⟨rfl, hb1⟩
  have hB1 : Below w.heap.size w W1 := hB0.trans (hb1.mono hB0.size)
  have k5 := ((((Blk.new w 27 #[.int .i64 iw, .int .i64 ih, .slice a n c]).alloc (.cells #[.int .i64 jw, .int .i64 jh, .slice a' n' c'] 27)).alloc (.cells #[.int .u8 how] 5)).alloc (.cells #[.int .i64 0, .int .i64 0, .slice none 0 0] 27)).below hb1 (by simp <;> omega)
  have k6 := (((Blk.new (w.alloc (.cells #[.int .i64 iw, .int .i64 ih, .slice a n c] 27)) 27 #[.int .i64 jw, .int .i64 jh, .slice a' n' c']).alloc (.cells #[.int .u8 how] 5)).alloc (.cells #[.int .i64 0, .int .i64 0, .slice none 0 0] 27)).below hb1 (by simp <;> omega)
  have k7 := ((Blk.new ((w.alloc (.cells #[.int .i64 iw, .int .i64 ih, .slice a n c] 27)).alloc (.cells #[.int .i64 jw, .int .i64 jh, .slice a' n' c'] 27)) 5 #[.int .u8 how]).alloc (.cells #[.int .i64 0, .int .i64 0, .slice none 0 0] 27)).below hb1 (by simp <;> omega)
  have k := (Blk.new (((w.alloc (.cells #[.int .i64 iw, .int .i64 ih, .slice a n c] 27)).alloc (.cells #[.int .i64 jw, .int .i64 jh, .slice a' n' c'] 27)).alloc (.cells #[.int .u8 how] 5)) 27 #[.int .i64 0, .int .i64 0, .slice none 0 0]).below hb1 (by simp <;> omega)
  simp only [World.size_alloc] at k k6 k7
  clear hb1 hB0
  have ka := k5.alloc (.cells #[.nilFunc, .func (.func 114) #[] #[], .func (.func 115) #[] #[], .func (.func 116) #[] #[], .func (.func 117) #[] #[], .func (.func 118) #[] #[], .func (.func 119) #[] #[]] 134)
  have m0 := ka.cell (i := 0) rfl
  have m1 := ka.cell (i := 1) rfl
  have m2 := ka.cell (i := 2) rfl
  go_wp2_with fail
  have k8 := Blk.new W1 134 opsv
  have hb0 : Below W1.heap.size W1 (W1.alloc (.cells opsv 134)) := below_al (Below.refl _ _) _
  have hB2 := hB1.trans (hb0.mono hB1.size)
  refine (valid_any iw ih a c xs n hn _ hm ((hr.below (Nat.le_refl _) hB2).mono hB2.size)).mono ?_
  rintro e W3 ⟨rfl, hb⟩
  rw [v0H.out]
  have hB3 := hB2.trans (hb.mono hB2.size)
  clear m0 m1 m2 ka
  replace k8 := k8.below hb k8.lt
  obtain ⟨M, hM⟩ : ∃ M, W1.heap.size = M := ⟨_, rfl⟩
  rw [hM] at k8 ⊢
  clear hM
  replace k := k.below hb0 k.lt
  replace k5 := k5.below hb0 k5.lt
  replace k6 := k6.below hb0 k6.lt
  replace k7 := k7.below hb0 k7.lt
  replace k := k.below hb k.lt
  replace k5 := k5.below hb k5.lt
  replace k6 := k6.below hb k6.lt
  replace k7 := k7.below hb k7.lt
  clear hb hb0
  have hlt := k.lt
  have c0 := k.cell (i := 0) rfl
  have c1 := k.cell (i := 1) rfl
  have c2 := k.cell (i := 2) rfl
  have fc0 := k.frozen 0
  have fc1 := k.frozen 1
  have fc2 := k.frozen 2
  have m0 := k5.cell (i := 0) rfl
  have m1 := k5.cell (i := 1) rfl
  have m2 := k5.cell (i := 2) rfl
  have j0 := k6.cell (i := 0) rfl
  have j1 := k6.cell (i := 1) rfl
  have j2 := k6.cell (i := 2) rfl
  have h0 := k7.cell (i := 0) rfl
  cases v0 with
  | false =>
    go_wp2_with fail
    have kf := put3_blk k (.int .i64 0) (.int .i64 0) (.slice none 0 0)
    have g0 := kf.cell (i := 0) rfl
    have g1 := kf.cell (i := 1) rfl
    have g2 := kf.cell (i := 2) rfl
    exact bodyPost_ret (v := .tuple #[.agg #[.int .i64 0, .int .i64 0, .slice none 0 0], .int .i64 20]) (by simp [results, Tryz.results43, go_sem, g0, g1, g2]) rfl ⟨⟨_, by rw [hsp.out]; rfl, by rw [hsp.out]; exact OwnIm_nil _ _⟩, hB3.trans (put3_below (by omega) _ _ _)⟩
  | true =>
    go_wp2_with fail
    refine (valid_any jw jh a' c' ys n' hn' _ hm' ((hr'.below (Nat.le_refl _) hB3).mono hB3.size)).mono ?_
    rintro e W4 ⟨rfl, hb⟩
    rw [v1H.out]
    have hB4 := hB3.trans (hb.mono hB3.size)
    clear c0 c1 c2 fc0 fc1 fc2
    replace k := k.below hb k.lt
    have c0 := k.cell (i := 0) rfl
    have c1 := k.cell (i := 1) rfl
    have c2 := k.cell (i := 2) rfl
    have fc0 := k.frozen 0
    have fc1 := k.frozen 1
    have fc2 := k.frozen 2
    clear m0 m1 m2
    replace k5 := k5.below hb k5.lt
    have m0 := k5.cell (i := 0) rfl
    have m1 := k5.cell (i := 1) rfl
    have m2 := k5.cell (i := 2) rfl
    clear j0 j1 j2
    replace k6 := k6.below hb k6.lt
    have j0 := k6.cell (i := 0) rfl
    have j1 := k6.cell (i := 1) rfl
    have j2 := k6.cell (i := 2) rfl
    clear h0
    replace k7 := k7.below hb k7.lt
    have h0 := k7.cell (i := 0) rfl
    replace k8 := k8.below hb k8.lt
    clear hb
    replace hlt := k.lt
    cases v1 with
    | false =>
      go_wp2_with fail
      have kf := put3_blk k (.int .i64 0) (.int .i64 0) (.slice none 0 0)
      have g0 := kf.cell (i := 0) rfl
      have g1 := kf.cell (i := 1) rfl
      have g2 := kf.cell (i := 2) rfl
      exact bodyPost_ret (v := .tuple #[.agg #[.int .i64 0, .int .i64 0, .slice none 0 0], .int .i64 20]) (by simp [results, Tryz.results43, go_sem, g0, g1, g2]) rfl ⟨⟨_, by rw [hsp.out]; rfl, by rw [hsp.out]; exact OwnIm_nil _ _⟩, hB4.trans (put3_below (by omega) _ _ _)⟩
    | true =>
      cases v2 with
      | false =>
        have hq := v2H.out
        simp only [decide_eq_false_iff_not] at hq
        by_cases e1 : iw = jw
        · have e2 : ¬ ih = jh := fun e2 => hq ⟨e1, e2⟩
          clear hq
          subst e1
          go_wp2_with fail
          have kf := put3_blk k (.int .i64 0) (.int .i64 0) (.slice none 0 0)
          have g0 := kf.cell (i := 0) rfl
          have g1 := kf.cell (i := 1) rfl
          have g2 := kf.cell (i := 2) rfl
          exact bodyPost_ret (v := .tuple #[.agg #[.int .i64 0, .int .i64 0, .slice none 0 0], .int .i64 21]) (by simp [results, Tryz.results43, go_sem, g0, g1, g2]) rfl ⟨⟨_, by rw [hsp.out]; rfl, by rw [hsp.out]; exact OwnIm_nil _ _⟩, hB4.trans (put3_below (by omega) _ _ _)⟩
        · clear hq
          go_wp2_with fail
          have kf := put3_blk k (.int .i64 0) (.int .i64 0) (.slice none 0 0)
          have g0 := kf.cell (i := 0) rfl
          have g1 := kf.cell (i := 1) rfl
          have g2 := kf.cell (i := 2) rfl
          exact bodyPost_ret (v := .tuple #[.agg #[.int .i64 0, .int .i64 0, .slice none 0 0], .int .i64 21]) (by simp [results, Tryz.results43, go_sem, g0, g1, g2]) rfl ⟨⟨_, by rw [hsp.out]; rfl, by rw [hsp.out]; exact OwnIm_nil _ _⟩, hB4.trans (put3_below (by omega) _ _ _)⟩
      | true =>
        have hq := v2H.out
        simp only [decide_eq_true_eq] at hq
        obtain ⟨e1, e2⟩ := hq
        subst e1 e2
        cases v3 with
        | false =>
          have hq := v3H.out
          simp only [decide_eq_false_iff_not] at hq
          by_cases e1 : how < 1
          · clear hq
            go_wp2_with fail
            have kf := put3_blk k (.int .i64 0) (.int .i64 0) (.slice none 0 0)
            have g0 := kf.cell (i := 0) rfl
            have g1 := kf.cell (i := 1) rfl
            have g2 := kf.cell (i := 2) rfl
            exact bodyPost_ret (v := .tuple #[.agg #[.int .i64 0, .int .i64 0, .slice none 0 0], .int .i64 2]) (by simp [results, Tryz.results43, go_sem, g0, g1, g2]) rfl ⟨⟨_, by rw [hsp.out]; rfl, by rw [hsp.out]; exact OwnIm_nil _ _⟩, hB4.trans (put3_below (by omega) _ _ _)⟩
          · have e2 : 7 ≤ how := by omega
            clear hq
            go_wp2_with fail
            have kf := put3_blk k (.int .i64 0) (.int .i64 0) (.slice none 0 0)
            have g0 := kf.cell (i := 0) rfl
            have g1 := kf.cell (i := 1) rfl
            have g2 := kf.cell (i := 2) rfl
            exact bodyPost_ret (v := .tuple #[.agg #[.int .i64 0, .int .i64 0, .slice none 0 0], .int .i64 2]) (by simp [results, Tryz.results43, go_sem, g0, g1, g2]) rfl ⟨⟨_, by rw [hsp.out]; rfl, by rw [hsp.out]; exact OwnIm_nil _ _⟩, hB4.trans (put3_below (by omega) _ _ _)⟩
        | true =>
          have hq := v3H.out
          simp only [decide_eq_true_eq] at hq
          obtain ⟨hh1, hh2⟩ := hq
          obtain ⟨⟨i1, i2⟩, ⟨i3, i4⟩, hlen, hall⟩ := vld_true v0H.out
          obtain ⟨_, _, hlen', hall'⟩ := vld_true v1H.out
          rw [hn.out] at hlen
          rw [hn'.out] at hlen'
          obtain rfl : n = n' := by omega
          have hlenH := Lib.hid hlen
          have hallH := Lib.hid hall
          have hallH' := Lib.hid hall'
          clear hlen hall hlen' hall'
          obtain ⟨pw, rfl⟩ : ∃ pw : Nat, iw = (pw : Int) := ⟨iw.toNat, by omega⟩
          obtain ⟨ph, rfl⟩ : ∃ ph : Nat, ih = (ph : Int) := ⟨ih.toNat, by omega⟩
          go_wp2_with fail
          refine (made_any pw ph (by omega) (by omega) (by omega) (by omega) 78 #[.pointer (some ⟨M, 0, none⟩), .pointer (some ⟨w.heap.size + 1 + 1, 0, none⟩), .pointer (some ⟨w.heap.size, 0, none⟩), .pointer (some ⟨w.heap.size + 1, 0, none⟩)] (enters_of Tryz.func78 (by kernel_rfl) rfl) (zipG pw xs ys how) W4 (fun x y W hx hy hb => ?_)).mono ?_
          · exact Zip1_any how hh1 hh2 pw ph a a' c c' n xs ys hn hn' hallH hallH' x y M (w.heap.size + 1 + 1) (w.heap.size + 1) w.heap.size W i1 i2 i3 i4 hlenH (by omega) (by omega) (by omega) (by omega) (k8.below hb k8.lt) (k7.below hb k7.lt) (k6.below hb k6.lt) (k5.below hb k5.lt) ((hr.below (Nat.le_refl _) (hB4.trans (hb.mono hB4.size))).mono (Nat.le_trans hB4.size hb.size)) ((hr'.below (Nat.le_refl _) (hB4.trans (hb.mono hB4.size))).mono (Nat.le_trans hB4.size hb.size))
          rintro e W7 ⟨v, rfl, ⟨s, rfl, hrow⟩, hb2⟩
          clear c0 c1 c2 fc0 fc1 fc2
          replace k := k.below hb2 k.lt
          have c0 := k.cell (i := 0) rfl
          have c1 := k.cell (i := 1) rfl
          have c2 := k.cell (i := 2) rfl
          have fc0 := k.frozen 0
          have fc1 := k.frozen 1
          have fc2 := k.frozen 2
          obtain ⟨sa, sc, rfl⟩ := row_slice hrow
          go_wp2_with fail
          have kf := put3_blk k (.int .i64 pw) (.int .i64 ph) (.slice sa (img pw ph (zipG pw xs ys how)).length sc)
          have g0 := kf.cell (i := 0) rfl
          have g1 := kf.cell (i := 1) rfl
          have g2 := kf.cell (i := 2) rfl
          exact bodyPost_ret (v := .tuple #[.agg #[.int .i64 pw, .int .i64 ph, .slice sa (img pw ph (zipG pw xs ys how)).length sc], .int .i64 0]) (by simp [results, Tryz.results43, go_sem, g0, g1, g2]) rfl ⟨⟨_, by rw [hsp.out]; rfl, by rw [hsp.out]; exact OwnIm.weaken ⟨_, rfl, put3_row hrow (k.not_row (by decide) hrow) _ _ _⟩ hB4.size⟩, (hB4.trans (hb2.mono hB4.size)).trans (put3_below (by omega) _ _ _)⟩
end Go.Proofs.YtbfigbpjoaccdaaGreat

/- The contracts of morph, Dilate and Erode of the program. -/
import Derived.Test.YtbfigbpjoaccdaaImgS
namespace Go.Proofs.Ytbfigbpjoaccdaa
open Go Go.RowKit Go.Shelf
set_option linter.unusedVariables false
set_option linter.unusedSimpArgs false

/-- What Dilate (mx) and Erode return. -/
def morS (mx : Bool) (iw ih : Int) (xs : List Int) (sw sh : Int) (bits : List Bool) : ImR :=
  if vld iw ih xs = true then (if shapeOk sw sh bits = true then { w := iw, h := ih, px := img iw.toNat ih.toNat (morG mx iw ih xs sw.toNat sh.toNat bits), err := 0 } else noIm 22) else noIm 20

theorem most_any (u v : Int) (w : World) : Calls Try.prog 48 #[.int .i64 u, .int .i64 v] w fun e w' => e = .returned (.int .i64 (max u v)) ∧ w = w' := by
  go_enter Try.func48, Try.ntmps48
  go_wp2
  all_goals (go_ret; exact ⟨ret_int (by omega), rfl⟩)
theorem least_any (u v : Int) (w : World) : Calls Try.prog 47 #[.int .i64 u, .int .i64 v] w fun e w' => e = .returned (.int .i64 (min u v)) ∧ w = w' := by
  go_enter Try.func47, Try.ntmps47
  go_wp2
  all_goals (go_ret; exact ⟨ret_int (by omega), rfl⟩)

set_option maxRecDepth 100000 in
set_option maxHeartbeats 4000000 in
theorem morph_any (mx : Bool) (iw ih : Int) (a : Option Addr) (c n : Nat) (xs : List Int) (hn : Hid (xs.length = n)) (sw sh : Int) (as' : Option Addr) (cs ns : Nat) (bits : List Bool) (hbn : Hid (bits.length = ns))
    (fo : Nat) (eg : ∀ args w, (callFunc fo args).run Try.prog w = .ok (.enter fo args) w) (hfo : ∀ (u v : Int) (w : World), Calls Try.prog fo #[.int .i64 u, .int .i64 v] w fun e w' => e = .returned (.int .i64 (if mx = true then max u v else min u v)) ∧ w = w')
    (w : World) (hm : n ≤ 9223372036854775807) (hr : Rd w.heap.size w a xs) (hms : ns ≤ 9223372036854775807) (hrb : RdB w.heap.size w as' bits) :
    Calls Try.prog 46 #[imv iw ih a n c, imv sw sh as' ns cs, .int .i64 (morSg mx), .int .i64 (if mx = true then -2147483648 else 2147483648), .func (.func fo) #[] #[]] w (RetIm w.heap.size (morS mx iw ih xs sw sh bits) w) := by
  obtain ⟨st, hst⟩ : ∃ v : Int, (if mx = true then (-2147483648 : Int) else 2147483648) = v := ⟨_, rfl⟩
  obtain ⟨sg, hsg⟩ : ∃ v : Int, morSg mx = v := ⟨_, rfl⟩
  rw [hst, hsg]
  have hstH := Lib.hid hst
  have hsgH := Lib.hid hsg
  have hfoH := Lib.hid hfo
  clear hst hsg hfo
  have hB0 : Below w.heap.size w ((((((w.alloc (.cells #[.int .i64 iw, .int .i64 ih, .slice a n c] 27)).alloc (.cells #[.int .i64 sw, .int .i64 sh, .slice as' ns cs] 77)).alloc (.cells #[.int .i64 sg] 3)).alloc (.cells #[.int .i64 st] 3)).alloc (.cells #[.func (.func fo) #[] #[]] 101)).alloc (.cells #[.int .i64 0, .int .i64 0, .slice none 0 0] 27)) := below_al (below_al (below_al (below_al (below_al (below_al (Below.refl _ _) _) _) _) _) _) _
  obtain ⟨v0, hv⟩ : ∃ v, vld iw ih xs = v := ⟨_, rfl⟩
  have v0H := Lib.hid hv
  obtain ⟨v1, hv1⟩ : ∃ v, sidesB sw sh ns = v := ⟨_, rfl⟩
  have v1H := Lib.hid hv1
  obtain ⟨v2, hv2⟩ : ∃ v, bits.any (fun x => decide (true = x)) = v := ⟨_, rfl⟩
  have v2H := Lib.hid hv2
  have hsp := Lib.hid (show morS mx iw ih xs sw sh bits = if v0 = true then (if (v1 && v2) = true then { w := iw, h := ih, px := img iw.toNat ih.toNat (morG mx iw ih xs sw.toNat sh.toNat bits), err := 0 } else noIm 22) else noIm 20 by unfold morS shapeOk; rw [hbn.out, hv, hv1, hv2])
  clear hv hv1 hv2
  go_enter Try.func46, Try.ntmps46
  go_wp2_with fail
  refine (valid_any iw ih a c xs n hn _ hm ((hr.below (Nat.le_refl _) hB0).mono hB0.size)).mono ?_
  rintro e W1 ⟨rfl, hb1⟩
  rw [v0H.out]
  have hB1 : Below w.heap.size w W1 := hB0.trans (hb1.mono hB0.size)
  have k5 := ((((((Blk.new w 27 #[.int .i64 iw, .int .i64 ih, .slice a n c]).alloc (.cells #[.int .i64 sw, .int .i64 sh, .slice as' ns cs] 77)).alloc (.cells #[.int .i64 sg] 3)).alloc (.cells #[.int .i64 st] 3)).alloc (.cells #[.func (.func fo) #[] #[]] 101)).alloc (.cells #[.int .i64 0, .int .i64 0, .slice none 0 0] 27)).below hb1 (by simp <;> omega)
  have k6 := (((((Blk.new (w.alloc (.cells #[.int .i64 iw, .int .i64 ih, .slice a n c] 27)) 77 #[.int .i64 sw, .int .i64 sh, .slice as' ns cs]).alloc (.cells #[.int .i64 sg] 3)).alloc (.cells #[.int .i64 st] 3)).alloc (.cells #[.func (.func fo) #[] #[]] 101)).alloc (.cells #[.int .i64 0, .int .i64 0, .slice none 0 0] 27)).below hb1 (by simp <;> omega)
  have k7 := ((((Blk.new ((w.alloc (.cells #[.int .i64 iw, .int .i64 ih, .slice a n c] 27)).alloc (.cells #[.int .i64 sw, .int .i64 sh, .slice as' ns cs] 77)) 3 #[.int .i64 sg]).alloc (.cells #[.int .i64 st] 3)).alloc (.cells #[.func (.func fo) #[] #[]] 101)).alloc (.cells #[.int .i64 0, .int .i64 0, .slice none 0 0] 27)).below hb1 (by simp <;> omega)
  have k8 := (((Blk.new (((w.alloc (.cells #[.int .i64 iw, .int .i64 ih, .slice a n c] 27)).alloc (.cells #[.int .i64 sw, .int .i64 sh, .slice as' ns cs] 77)).alloc (.cells #[.int .i64 sg] 3)) 3 #[.int .i64 st]).alloc (.cells #[.func (.func fo) #[] #[]] 101)).alloc (.cells #[.int .i64 0, .int .i64 0, .slice none 0 0] 27)).below hb1 (by simp <;> omega)
  have k9 := ((Blk.new ((((w.alloc (.cells #[.int .i64 iw, .int .i64 ih, .slice a n c] 27)).alloc (.cells #[.int .i64 sw, .int .i64 sh, .slice as' ns cs] 77)).alloc (.cells #[.int .i64 sg] 3)).alloc (.cells #[.int .i64 st] 3)) 101 #[.func (.func fo) #[] #[]]).alloc (.cells #[.int .i64 0, .int .i64 0, .slice none 0 0] 27)).below hb1 (by simp <;> omega)
  have k := (Blk.new (((((w.alloc (.cells #[.int .i64 iw, .int .i64 ih, .slice a n c] 27)).alloc (.cells #[.int .i64 sw, .int .i64 sh, .slice as' ns cs] 77)).alloc (.cells #[.int .i64 sg] 3)).alloc (.cells #[.int .i64 st] 3)).alloc (.cells #[.func (.func fo) #[] #[]] 101)) 27 #[.int .i64 0, .int .i64 0, .slice none 0 0]).below hb1 (by simp <;> omega)
  simp only [World.size_alloc] at k6 k7 k8 k9 k
  clear hb1 hB0
  have m0 := k5.cell (i := 0) rfl
  have m1 := k5.cell (i := 1) rfl
  have m2 := k5.cell (i := 2) rfl
  have s0 := k6.cell (i := 0) rfl
  have s1 := k6.cell (i := 1) rfl
  have s2 := k6.cell (i := 2) rfl
  have g0 := k7.cell (i := 0) rfl
  have t0 := k8.cell (i := 0) rfl
  have f0 := k9.cell (i := 0) rfl
  have c0 := k.cell (i := 0) rfl
  have c1 := k.cell (i := 1) rfl
  have c2 := k.cell (i := 2) rfl
  have fc0 := k.frozen 0
  have fc1 := k.frozen 1
  have fc2 := k.frozen 2
  cases v0 with
  | false =>
    go_wp2_with fail
    have kf := put3_blk k (.int .i64 0) (.int .i64 0) (.slice none 0 0)
    have g0 := kf.cell (i := 0) rfl
    have g1 := kf.cell (i := 1) rfl
    have g2 := kf.cell (i := 2) rfl
    exact bodyPost_ret (v := .tuple #[.agg #[.int .i64 0, .int .i64 0, .slice none 0 0], .int .i64 20]) (by simp [results, Try.results46, go_sem, g0, g1, g2]) rfl ⟨⟨_, by rw [hsp.out]; rfl, by rw [hsp.out]; exact OwnIm_nil _ _⟩, hB1.trans (put3_below (by omega) _ _ _)⟩
  | true =>
    go_wp2_with fail
    refine (sides_any sw sh ns v1 v1H W1).mono ?_
    rintro e W2 ⟨rfl, hb⟩
    have hB2 := hB1.trans (hb.mono hB1.size)
    clear m0 m1 m2
    replace k5 := k5.below hb k5.lt
    have m0 := k5.cell (i := 0) rfl
    have m1 := k5.cell (i := 1) rfl
    have m2 := k5.cell (i := 2) rfl
    clear s0 s1 s2
    replace k6 := k6.below hb k6.lt
    have s0 := k6.cell (i := 0) rfl
    have s1 := k6.cell (i := 1) rfl
    have s2 := k6.cell (i := 2) rfl
    clear g0
    replace k7 := k7.below hb k7.lt
    have g0 := k7.cell (i := 0) rfl
    clear t0
    replace k8 := k8.below hb k8.lt
    have t0 := k8.cell (i := 0) rfl
    clear f0
    replace k9 := k9.below hb k9.lt
    have f0 := k9.cell (i := 0) rfl
    clear c0 c1 c2 fc0 fc1 fc2
    replace k := k.below hb k.lt
    have c0 := k.cell (i := 0) rfl
    have c1 := k.cell (i := 1) rfl
    have c2 := k.cell (i := 2) rfl
    have fc0 := k.frozen 0
    have fc1 := k.frozen 1
    have fc2 := k.frozen 2
    clear hb hB1
    cases v1 with
    | false =>
      go_wp2_with fail
      have kf := put3_blk k (.int .i64 0) (.int .i64 0) (.slice none 0 0)
      have g0 := kf.cell (i := 0) rfl
      have g1 := kf.cell (i := 1) rfl
      have g2 := kf.cell (i := 2) rfl
      exact bodyPost_ret (v := .tuple #[.agg #[.int .i64 0, .int .i64 0, .slice none 0 0], .int .i64 22]) (by simp [results, Try.results46, go_sem, g0, g1, g2]) rfl ⟨⟨_, by rw [hsp.out]; rfl, by rw [hsp.out]; exact OwnIm_nil _ _⟩, hB2.trans (put3_below (by omega) _ _ _)⟩
    | true =>
      go_wp2_with fail
      refine (contains_bool true v2 as' cs ns bits hbn v2H W2 hms ((hrb.below (Nat.le_refl _) hB2).mono hB2.size)).mono ?_
      rintro e w2 ⟨rfl, rfl⟩
      cases v2 with
      | false =>
        go_wp2_with fail
        have kf := put3_blk k (.int .i64 0) (.int .i64 0) (.slice none 0 0)
        have g0 := kf.cell (i := 0) rfl
        have g1 := kf.cell (i := 1) rfl
        have g2 := kf.cell (i := 2) rfl
        exact bodyPost_ret (v := .tuple #[.agg #[.int .i64 0, .int .i64 0, .slice none 0 0], .int .i64 22]) (by simp [results, Try.results46, go_sem, g0, g1, g2]) rfl ⟨⟨_, by rw [hsp.out]; rfl, by rw [hsp.out]; exact OwnIm_nil _ _⟩, hB2.trans (put3_below (by omega) _ _ _)⟩
      | true =>
        obtain ⟨⟨i1, i2⟩, ⟨i3, i4⟩, hlen, hall⟩ := vld_true v0H.out
        rw [hn.out] at hlen
        have hlenH := Lib.hid hlen
        have hallH := Lib.hid hall
        clear hlen hall
        obtain ⟨s1, s2, s3⟩ := sidesB_true v1H.out
        obtain ⟨pw, rfl⟩ : ∃ pw : Nat, iw = (pw : Int) := ⟨iw.toNat, by omega⟩
        obtain ⟨ph, rfl⟩ : ∃ ph : Nat, ih = (ph : Int) := ⟨ih.toNat, by omega⟩
        obtain ⟨tw, rfl⟩ : ∃ tw : Nat, sw = (tw : Int) := ⟨sw.toNat, by omega⟩
        obtain ⟨th, rfl⟩ : ∃ th : Nat, sh = (th : Int) := ⟨sh.toNat, by omega⟩
        have htn := Lib.hid (show tw * th = ns by
          have e : ((tw * th : Nat) : Int) = (tw : Int) * (th : Int) := by simp
          omega)
        have t1 : tw = 1 ∨ tw = 3 ∨ tw = 5 := by omega
        have t2 : th = 1 ∨ th = 3 ∨ th = 5 := by omega
        clear s1 s2 s3
        go_wp2_with fail
        refine (made_any pw ph (by omega) (by omega) (by omega) (by omega) 68 #[.pointer (some ⟨w.heap.size + 1 + 1 + 1, 0, none⟩), .pointer (some ⟨w.heap.size + 1, 0, none⟩), .pointer (some ⟨w.heap.size + 1 + 1, 0, none⟩), .pointer (some ⟨w.heap.size, 0, none⟩), .pointer (some ⟨w.heap.size + 1 + 1 + 1 + 1, 0, none⟩)] (enters_of Try.func68 (by kernel_rfl) rfl) (morG mx pw ph xs tw th bits) W2 (fun x y W hx hy hb => ?_)).mono ?_
        · have hBW := hB2.trans (hb.mono hB2.size)
          exact Morph1_any mx pw ph a c n xs hn hallH tw th as' cs ns bits hbn t1 t2 htn fo eg hfoH.out x y _ _ _ _ _ W i1 i2 i3 i4 hlenH (by omega) (by omega) (by omega) (by omega) (by rw [hstH.out]; exact k8.below hb k8.lt) (k6.below hb k6.lt) (by rw [hsgH.out]; exact k7.below hb k7.lt) (k5.below hb k5.lt) (k9.below hb k9.lt) ((hr.below (Nat.le_refl _) hBW).mono hBW.size) ((hrb.below (Nat.le_refl _) hBW).mono hBW.size)
        rintro e W3 ⟨v, rfl, ⟨s, rfl, hrow⟩, hb2⟩
        clear m0 m1 m2 s0 s1 s2 g0 t0 f0 c0 c1 c2 fc0 fc1 fc2
        have k2 := k.below hb2 k.lt
        have c0 := k2.cell (i := 0) rfl
        have c1 := k2.cell (i := 1) rfl
        have c2 := k2.cell (i := 2) rfl
        have fc0 := k2.frozen 0
        have fc1 := k2.frozen 1
        have fc2 := k2.frozen 2
        obtain ⟨sa, sc, rfl⟩ := row_slice hrow
        go_wp2_with fail
        have kf := put3_blk k2 (.int .i64 pw) (.int .i64 ph) (.slice sa (img pw ph (morG mx pw ph xs tw th bits)).length sc)
        have g0 := kf.cell (i := 0) rfl
        have g1 := kf.cell (i := 1) rfl
        have g2 := kf.cell (i := 2) rfl
        exact bodyPost_ret (v := .tuple #[.agg #[.int .i64 pw, .int .i64 ph, .slice sa (img pw ph (morG mx pw ph xs tw th bits)).length sc], .int .i64 0]) (by simp [results, Try.results46, go_sem, g0, g1, g2]) rfl ⟨⟨_, by rw [hsp.out]; rfl, by rw [hsp.out]; exact OwnIm.weaken ⟨_, rfl, put3_row hrow (k2.not_row (by decide) hrow) _ _ _⟩ hB2.size⟩, (hB2.trans (hb2.mono hB2.size)).trans (put3_below (by omega) _ _ _)⟩


set_option maxRecDepth 100000 in
set_option maxHeartbeats 1000000 in
theorem Dilate_any (iw ih : Int) (a : Option Addr) (c n : Nat) (xs : List Int) (hn : Hid (xs.length = n)) (sw sh : Int) (as' : Option Addr) (cs ns : Nat) (bits : List Bool) (hbn : Hid (bits.length = ns)) (w : World) (hm : n ≤ 9223372036854775807) (hr : Rd w.heap.size w a xs) (hms : ns ≤ 9223372036854775807) (hrb : RdB w.heap.size w as' bits) :
    Calls Try.prog 33 #[imv iw ih a n c, imv sw sh as' ns cs] w (RetIm w.heap.size (morS true iw ih xs sw sh bits) w) := by
  obtain ⟨⟨qw, qh, qpx, qe⟩, hR⟩ : ∃ r, morS true iw ih xs sw sh bits = r := ⟨_, rfl⟩
  have hRH := Lib.hid hR
  rw [hR]
  clear hR
  have hB0 : Below w.heap.size w (((w.alloc (.cells #[.int .i64 iw, .int .i64 ih, .slice a n c] 27)).alloc (.cells #[.int .i64 sw, .int .i64 sh, .slice as' ns cs] 77)).alloc (.cells #[.int .i64 0, .int .i64 0, .slice none 0 0] 27)) := below_al (below_al (below_al (Below.refl _ _) _) _) _
  go_enter Try.func33, Try.ntmps33
  go_wp2_with fail
  have hcall := morph_any true iw ih a c n xs hn sw sh as' cs ns bits hbn 48 (enters_of Try.func48 (by kernel_rfl) rfl) (fun u v w => by simpa using most_any u v w) (((w.alloc (.cells #[.int .i64 iw, .int .i64 ih, .slice a n c] 27)).alloc (.cells #[.int .i64 sw, .int .i64 sh, .slice as' ns cs] 77)).alloc (.cells #[.int .i64 0, .int .i64 0, .slice none 0 0] 27)) hm ((hr.below (Nat.le_refl _) hB0).mono hB0.size) hms ((hrb.below (Nat.le_refl _) hB0).mono hB0.size)
  rw [hRH.out] at hcall
  refine hcall.mono ?_
  clear hcall
  rintro e W1 ⟨⟨v, rfl, hv⟩, hb⟩
  obtain ⟨sl, rfl, hrow⟩ := hv
  obtain ⟨sa, sc, rfl⟩ := row_slice hrow
  replace hrow := row_base hrow hB0.size
  have k := (Blk.new ((w.alloc (.cells #[.int .i64 iw, .int .i64 ih, .slice a n c] 27)).alloc (.cells #[.int .i64 sw, .int .i64 sh, .slice as' ns cs] 77)) 27 #[.int .i64 0, .int .i64 0, .slice none 0 0]).below hb (by simp <;> omega)
  simp only [World.size_alloc] at k
  have hB1 := hB0.trans (hb.mono hB0.size)
  clear hb hB0
  have c0 := k.cell (i := 0) rfl
  have c1 := k.cell (i := 1) rfl
  have c2 := k.cell (i := 2) rfl
  have fc0 := k.frozen 0
  have fc1 := k.frozen 1
  have fc2 := k.frozen 2
  go_wp2_with fail
  have kf := put3_blk k (.int .i64 qw) (.int .i64 qh) (.slice sa qpx.length sc)
  have g0 := kf.cell (i := 0) rfl
  have g1 := kf.cell (i := 1) rfl
  have g2 := kf.cell (i := 2) rfl
  exact bodyPost_ret (v := .tuple #[.agg #[.int .i64 qw, .int .i64 qh, .slice sa qpx.length sc], .int .i64 qe]) (by simp [results, Try.results33, go_sem, g0, g1, g2]) rfl ⟨⟨_, rfl, ⟨_, rfl, put3_row hrow (k.not_row (by decide) hrow) _ _ _⟩⟩, hB1.trans (put3_below (by omega) _ _ _)⟩

set_option maxRecDepth 100000 in
set_option maxHeartbeats 1000000 in
theorem Erode_any (iw ih : Int) (a : Option Addr) (c n : Nat) (xs : List Int) (hn : Hid (xs.length = n)) (sw sh : Int) (as' : Option Addr) (cs ns : Nat) (bits : List Bool) (hbn : Hid (bits.length = ns)) (w : World) (hm : n ≤ 9223372036854775807) (hr : Rd w.heap.size w a xs) (hms : ns ≤ 9223372036854775807) (hrb : RdB w.heap.size w as' bits) :
    Calls Try.prog 32 #[imv iw ih a n c, imv sw sh as' ns cs] w (RetIm w.heap.size (morS false iw ih xs sw sh bits) w) := by
  obtain ⟨⟨qw, qh, qpx, qe⟩, hR⟩ : ∃ r, morS false iw ih xs sw sh bits = r := ⟨_, rfl⟩
  have hRH := Lib.hid hR
  rw [hR]
  clear hR
  have hB0 : Below w.heap.size w (((w.alloc (.cells #[.int .i64 iw, .int .i64 ih, .slice a n c] 27)).alloc (.cells #[.int .i64 sw, .int .i64 sh, .slice as' ns cs] 77)).alloc (.cells #[.int .i64 0, .int .i64 0, .slice none 0 0] 27)) := below_al (below_al (below_al (Below.refl _ _) _) _) _
  go_enter Try.func32, Try.ntmps32
  go_wp2_with fail
  have hcall := morph_any false iw ih a c n xs hn sw sh as' cs ns bits hbn 47 (enters_of Try.func47 (by kernel_rfl) rfl) (fun u v w => by simpa using least_any u v w) (((w.alloc (.cells #[.int .i64 iw, .int .i64 ih, .slice a n c] 27)).alloc (.cells #[.int .i64 sw, .int .i64 sh, .slice as' ns cs] 77)).alloc (.cells #[.int .i64 0, .int .i64 0, .slice none 0 0] 27)) hm ((hr.below (Nat.le_refl _) hB0).mono hB0.size) hms ((hrb.below (Nat.le_refl _) hB0).mono hB0.size)
  rw [hRH.out] at hcall
  refine hcall.mono ?_
  clear hcall
  rintro e W1 ⟨⟨v, rfl, hv⟩, hb⟩
  obtain ⟨sl, rfl, hrow⟩ := hv
  obtain ⟨sa, sc, rfl⟩ := row_slice hrow
  replace hrow := row_base hrow hB0.size
  have k := (Blk.new ((w.alloc (.cells #[.int .i64 iw, .int .i64 ih, .slice a n c] 27)).alloc (.cells #[.int .i64 sw, .int .i64 sh, .slice as' ns cs] 77)) 27 #[.int .i64 0, .int .i64 0, .slice none 0 0]).below hb (by simp <;> omega)
  simp only [World.size_alloc] at k
  have hB1 := hB0.trans (hb.mono hB0.size)
  clear hb hB0
  have c0 := k.cell (i := 0) rfl
  have c1 := k.cell (i := 1) rfl
  have c2 := k.cell (i := 2) rfl
  have fc0 := k.frozen 0
  have fc1 := k.frozen 1
  have fc2 := k.frozen 2
  go_wp2_with fail
  have kf := put3_blk k (.int .i64 qw) (.int .i64 qh) (.slice sa qpx.length sc)
  have g0 := kf.cell (i := 0) rfl
  have g1 := kf.cell (i := 1) rfl
  have g2 := kf.cell (i := 2) rfl
  exact bodyPost_ret (v := .tuple #[.agg #[.int .i64 qw, .int .i64 qh, .slice sa qpx.length sc], .int .i64 qe]) (by simp [results, Try.results32, go_sem, g0, g1, g2]) rfl ⟨⟨_, rfl, ⟨_, rfl, put3_row hrow (k.not_row (by decide) hrow) _ _ _⟩⟩, hB1.trans (put3_below (by omega) _ _ _)⟩

end Go.Proofs.Ytbfigbpjoaccdaa

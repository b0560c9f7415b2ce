/- Contracts and laws (ImgT, ImgU, ImgV, Spread, Jury, Net, NetB, ND). -/
import Derived.Maps.Own
import Derived.Lib.Hide
import Derived.Test.YtbdnjhnlfpfhcaaGreatQE5
import Derived.Test.YtbdnjhnlfpfhcaaGreatQE4
import Derived.Test.YtbdnjhnlfpfhcaaGreatQE1
namespace Go.Proofs.YtbdnjhnlfpfhcaaGreat
open Go Go.RowKit Go.Shelf
set_option linter.unusedVariables false
set_option linter.unusedSimpArgs false

/-- What Dilate (mx) and Erode return. -/
def morS (mx : Bool) (iw ih : Int) (xs : List Int) (sw sh : Int) (bits : List Bool) : ImR :=
  if vld iw ih xs = true then (if shapeOk sw sh bits = true then { w := iw, h := ih, px := img iw.toNat ih.toNat (morG mx iw ih xs sw.toNat sh.toNat bits), err := 0 } else noIm 22) else noIm 20

theorem most_any (u v : Int) (w : World) : Calls Tryz.prog 67 #[.int .i64 u, .int .i64 v] w fun e w' => e = .returned (.int .i64 (max u v)) ∧ w = w' := by
  go_enter Tryz.func67, Tryz.ntmps67
  go_wp2
  all_goals (go_ret; exact ⟨ret_int (by omega), rfl⟩)
theorem least_any (u v : Int) (w : World) : Calls Tryz.prog 66 #[.int .i64 u, .int .i64 v] w fun e w' => e = .returned (.int .i64 (min u v)) ∧ w = w' := by
  go_enter Tryz.func66, Tryz.ntmps66
  go_wp2
  all_goals (go_ret; exact ⟨ret_int (by omega), rfl⟩)

set_option maxRecDepth 100000 in
set_option maxHeartbeats 4000000 in
theorem morph_any (mx : Bool) (iw ih : Int) (a : Option Addr) (c n : Nat) (xs : List Int) (hn : Hid (xs.length = n)) (sw sh : Int) (as' : Option Addr) (cs ns : Nat) (bits : List Bool) (hbn : Hid (bits.length = ns))
    (fo : Nat) (eg : ∀ args w, (callFunc fo args).run Tryz.prog w = .ok (.enter fo args) w) (hfo : ∀ (u v : Int) (w : World), Calls Tryz.prog fo #[.int .i64 u, .int .i64 v] w fun e w' => e = .returned (.int .i64 (if mx = true then max u v else min u v)) ∧ w = w')
    (w : World) (hm : n ≤ 9223372036854775807) (hr : Rd w.heap.size w a xs) (hms : ns ≤ 9223372036854775807) (hrb : RdB w.heap.size w as' bits) :
    Calls Tryz.prog 65 #[imv iw ih a n c, imv sw sh as' ns cs, .int .i64 (morSg mx), .int .i64 (if mx = true then -2147483648 else 2147483648), .func (.func fo) #[] #[]] w (RetIm w.heap.size (morS mx iw ih xs sw sh bits) w) := by
  obtain ⟨st, hst⟩ : ∃ v : Int, (if mx = true then (-2147483648 : Int) else 2147483648) = v := ⟨_, rfl⟩
  obtain ⟨sg, hsg⟩ : ∃ v : Int, morSg mx = v := ⟨_, rfl⟩
  rw [hst, hsg]
  have hstH := Lib.hid hst
  have hsgH := Lib.hid hsg
  have hfoH := Lib.hid hfo
  clear hst hsg hfo
  have hB0 : Below w.heap.size w ((((((w.alloc (.cells #[.int .i64 iw, .int .i64 ih, .slice a n c] 51)).alloc (.cells #[.int .i64 sw, .int .i64 sh, .slice as' ns cs] 96)).alloc (.cells #[.int .i64 sg] 3)).alloc (.cells #[.int .i64 st] 3)).alloc (.cells #[.func (.func fo) #[] #[]] 136)).alloc (.cells #[.int .i64 0, .int .i64 0, .slice none 0 0] 51)) := below_al (below_al (below_al (below_al (below_al (below_al (Below.refl _ _) _) _) _) _) _) _
  obtain ⟨v0, hv⟩ : ∃ v, vld iw ih xs = v := ⟨_, rfl⟩
  have v0H := Lib.hid hv
  obtain ⟨v1, hv1⟩ : ∃ v, sidesB sw sh ns = v := ⟨_, rfl⟩
  have v1H := Lib.hid hv1
  obtain ⟨v2, hv2⟩ : ∃ v, bits.any (fun x => decide (true = x)) = v := ⟨_, rfl⟩
  have v2H := Lib.hid hv2
  have hsp := Lib.hid (show morS mx iw ih xs sw sh bits = if v0 = true then (if (v1 && v2) = true then { w := iw, h := ih, px := img iw.toNat ih.toNat (morG mx iw ih xs sw.toNat sh.toNat bits), err := 0 } else noIm 22) else noIm 20 by unfold morS shapeOk; rw [hbn.out, hv, hv1, hv2])
  clear hv hv1 hv2
  go_enter Tryz.func65, Tryz.ntmps65
  go_wp2_with fail
  refine (valid_any iw ih a c xs n hn _ hm ((hr.below (Nat.le_refl _) hB0).mono hB0.size)).mono ?_
  rintro e W1 ⟨rfl, hb1⟩
  rw [v0H.out]
  have hB1 : Below w.heap.size w W1 := hB0.trans (hb1.mono hB0.size)
  have k5 := ((((((Blk.new w 51 #[.int .i64 iw, .int .i64 ih, .slice a n c]).alloc (.cells #[.int .i64 sw, .int .i64 sh, .slice as' ns cs] 96)).alloc (.cells #[.int .i64 sg] 3)).alloc (.cells #[.int .i64 st] 3)).alloc (.cells #[.func (.func fo) #[] #[]] 136)).alloc (.cells #[.int .i64 0, .int .i64 0, .slice none 0 0] 51)).below hb1 (by simp <;> omega)
  have k6 := (((((Blk.new (w.alloc (.cells #[.int .i64 iw, .int .i64 ih, .slice a n c] 51)) 96 #[.int .i64 sw, .int .i64 sh, .slice as' ns cs]).alloc (.cells #[.int .i64 sg] 3)).alloc (.cells #[.int .i64 st] 3)).alloc (.cells #[.func (.func fo) #[] #[]] 136)).alloc (.cells #[.int .i64 0, .int .i64 0, .slice none 0 0] 51)).below hb1 (by simp <;> omega)
  have k7 := ((((Blk.new ((w.alloc (.cells #[.int .i64 iw, .int .i64 ih, .slice a n c] 51)).alloc (.cells #[.int .i64 sw, .int .i64 sh, .slice as' ns cs] 96)) 3 #[.int .i64 sg]).alloc (.cells #[.int .i64 st] 3)).alloc (.cells #[.func (.func fo) #[] #[]] 136)).alloc (.cells #[.int .i64 0, .int .i64 0, .slice none 0 0] 51)).below hb1 (by simp <;> omega)
  have k8 := (((Blk.new (((w.alloc (.cells #[.int .i64 iw, .int .i64 ih, .slice a n c] 51)).alloc (.cells #[.int .i64 sw, .int .i64 sh, .slice as' ns cs] 96)).alloc (.cells #[.int .i64 sg] 3)) 3 #[.int .i64 st]).alloc (.cells #[.func (.func fo) #[] #[]] 136)).alloc (.cells #[.int .i64 0, .int .i64 0, .slice none 0 0] 51)).below hb1 (by simp <;> omega)
  have k9 := ((Blk.new ((((w.alloc (.cells #[.int .i64 iw, .int .i64 ih, .slice a n c] 51)).alloc (.cells #[.int .i64 sw, .int .i64 sh, .slice as' ns cs] 96)).alloc (.cells #[.int .i64 sg] 3)).alloc (.cells #[.int .i64 st] 3)) 136 #[.func (.func fo) #[] #[]]).alloc (.cells #[.int .i64 0, .int .i64 0, .slice none 0 0] 51)).below hb1 (by simp <;> omega)
  have k := (Blk.new (((((w.alloc (.cells #[.int .i64 iw, .int .i64 ih, .slice a n c] 51)).alloc (.cells #[.int .i64 sw, .int .i64 sh, .slice as' ns cs] 96)).alloc (.cells #[.int .i64 sg] 3)).alloc (.cells #[.int .i64 st] 3)).alloc (.cells #[.func (.func fo) #[] #[]] 136)) 51 #[.int .i64 0, .int .i64 0, .slice none 0 0]).below hb1 (by simp <;> omega)
  simp only [World.size_alloc] at k6 k7 k8 k9 k
  clear hb1 hB0
  have m0 := k5.cell (i := 0) rfl
  have m1 := k5.cell (i := 1) rfl
  have m2 := k5.cell (i := 2) rfl
  have s0 := k6.cell (i := 0) rfl
  have s1 := k6.cell (i := 1) rfl
  have s2 := k6.cell (i := 2) rfl
  have g0 := k7.cell (i := 0) rfl
  have t0 := k8.cell (i := 0) rfl
  have f0 := k9.cell (i := 0) rfl
  have c0 := k.cell (i := 0) rfl
  have c1 := k.cell (i := 1) rfl
  have c2 := k.cell (i := 2) rfl
  have fc0 := k.frozen 0
  have fc1 := k.frozen 1
  have fc2 := k.frozen 2
  cases v0 with
  | false =>
    go_wp2_with fail
    have kf := put3_blk k (.int .i64 0) (.int .i64 0) (.slice none 0 0)
    have g0 := kf.cell (i := 0) rfl
    have g1 := kf.cell (i := 1) rfl
    have g2 := kf.cell (i := 2) rfl
    exact bodyPost_ret (v := .tuple #[.agg #[.int .i64 0, .int .i64 0, .slice none 0 0], .int .i64 20]) (by simp [results, Tryz.results65, go_sem, g0, g1, g2]) rfl ⟨⟨_, by rw [hsp.out]; rfl, by rw [hsp.out]; exact OwnIm_nil _ _⟩, hB1.trans (put3_below (by omega) _ _ _)⟩
  | true =>
    go_wp2_with fail
    refine (sides_any sw sh ns v1 v1H W1).mono ?_
    rintro e W2 ⟨rfl, hb⟩
    have hB2 := hB1.trans (hb.mono hB1.size)
    clear m0 m1 m2
    replace k5 := k5.below hb k5.lt
    have m0 := k5.cell (i := 0) rfl
    have m1 := k5.cell (i := 1) rfl
    have m2 := k5.cell (i := 2) rfl
    clear s0 s1 s2
    replace k6 := k6.below hb k6.lt
    have s0 := k6.cell (i := 0) rfl
    have s1 := k6.cell (i := 1) rfl
    have s2 := k6.cell (i := 2) rfl
    clear g0
    replace k7 := k7.below hb k7.lt
    have g0 := k7.cell (i := 0) rfl
    clear t0
    replace k8 := k8.below hb k8.lt
    have t0 := k8.cell (i := 0) rfl
    clear f0
    replace k9 := k9.below hb k9.lt
    have f0 := k9.cell (i := 0) rfl
    clear c0 c1 c2 fc0 fc1 fc2
    replace k := k.below hb k.lt
    have c0 := k.cell (i := 0) rfl
    have c1 := k.cell (i := 1) rfl
    have c2 := k.cell (i := 2) rfl
    have fc0 := k.frozen 0
    have fc1 := k.frozen 1
    have fc2 := k.frozen 2
    clear hb hB1
    cases v1 with
    | false =>
      go_wp2_with fail
      have kf := put3_blk k (.int .i64 0) (.int .i64 0) (.slice none 0 0)
      have g0 := kf.cell (i := 0) rfl
      have g1 := kf.cell (i := 1) rfl
      have g2 := kf.cell (i := 2) rfl
      exact bodyPost_ret (v := .tuple #[.agg #[.int .i64 0, .int .i64 0, .slice none 0 0], .int .i64 22]) (by simp [results, Tryz.results65, go_sem, g0, g1, g2]) rfl ⟨⟨_, by rw [hsp.out]; rfl, by rw [hsp.out]; exact OwnIm_nil _ _⟩, hB2.trans (put3_below (by omega) _ _ _)⟩
    | true =>
      go_wp2_with fail
      refine (contains_bool true v2 as' cs ns bits hbn v2H W2 hms ((hrb.below (Nat.le_refl _) hB2).mono hB2.size)).mono ?_
      rintro e w2 ⟨rfl, rfl⟩
      cases v2 with
      | false =>
        go_wp2_with fail
        have kf := put3_blk k (.int .i64 0) (.int .i64 0) (.slice none 0 0)
        have g0 := kf.cell (i := 0) rfl
        have g1 := kf.cell (i := 1) rfl
        have g2 := kf.cell (i := 2) rfl
        exact bodyPost_ret (v := .tuple #[.agg #[.int .i64 0, .int .i64 0, .slice none 0 0], .int .i64 22]) (by simp [results, Tryz.results65, go_sem, g0, g1, g2]) rfl ⟨⟨_, by rw [hsp.out]; rfl, by rw [hsp.out]; exact OwnIm_nil _ _⟩, hB2.trans (put3_below (by omega) _ _ _)⟩
      | true =>
        obtain ⟨⟨i1, i2⟩, ⟨i3, i4⟩, hlen, hall⟩ := vld_true v0H.out
        rw [hn.out] at hlen
        have hlenH := Lib.hid hlen
        have hallH := Lib.hid hall
        clear hlen hall
        obtain ⟨s1, s2, s3⟩ := sidesB_true v1H.out
        obtain ⟨pw, rfl⟩ : ∃ pw : Nat, iw = (pw : Int) := ⟨iw.toNat, by omega⟩
        obtain ⟨ph, rfl⟩ : ∃ ph : Nat, ih = (ph : Int) := ⟨ih.toNat, by omega⟩
        obtain ⟨tw, rfl⟩ : ∃ tw : Nat, sw = (tw : Int) := ⟨sw.toNat, by omega⟩
        obtain ⟨th, rfl⟩ : ∃ th : Nat, sh = (th : Int) := ⟨sh.toNat, by omega⟩
        have htn := Lib.hid (show tw * th = ns by
          have e : ((tw * th : Nat) : Int) = (tw : Int) * (th : Int) := by simp
          omega)
        have t1 : tw = 1 ∨ tw = 3 ∨ tw = 5 := by omega
        have t2 : th = 1 ∨ th = 3 ∨ th = 5 := by omega
        clear s1 s2 s3
        go_wp2_with fail
        refine (made_any pw ph (by omega) (by omega) (by omega) (by omega) 92 #[.pointer (some ⟨w.heap.size + 1 + 1 + 1, 0, none⟩), .pointer (some ⟨w.heap.size + 1, 0, none⟩), .pointer (some ⟨w.heap.size + 1 + 1, 0, none⟩), .pointer (some ⟨w.heap.size, 0, none⟩), .pointer (some ⟨w.heap.size + 1 + 1 + 1 + 1, 0, none⟩)] (enters_of Tryz.func92 (by kernel_rfl) rfl) (morG mx pw ph xs tw th bits) W2 (fun x y W hx hy hb => ?_)).mono ?_
        · have hBW := hB2.trans (hb.mono hB2.size)
          exact Morph1_any mx pw ph a c n xs hn hallH tw th as' cs ns bits hbn t1 t2 htn fo eg hfoH.out x y _ _ _ _ _ W i1 i2 i3 i4 hlenH (by omega) (by omega) (by omega) (by omega) (by rw [hstH.out]; exact k8.below hb k8.lt) (k6.below hb k6.lt) (by rw [hsgH.out]; exact k7.below hb k7.lt) (k5.below hb k5.lt) (k9.below hb k9.lt) ((hr.below (Nat.le_refl _) hBW).mono hBW.size) ((hrb.below (Nat.le_refl _) hBW).mono hBW.size)
        rintro e W3 ⟨v, rfl, ⟨s, rfl, hrow⟩, hb2⟩
        clear m0 m1 m2 s0 s1 s2 g0 t0 f0 c0 c1 c2 fc0 fc1 fc2
        have k2 := k.below hb2 k.lt
        have c0 := k2.cell (i := 0) rfl
        have c1 := k2.cell (i := 1) rfl
        have c2 := k2.cell (i := 2) rfl
        have fc0 := k2.frozen 0
        have fc1 := k2.frozen 1
        have fc2 := k2.frozen 2
        obtain ⟨sa, sc, rfl⟩ := row_slice hrow
        go_wp2_with fail
        have kf := put3_blk k2 (.int .i64 pw) (.int .i64 ph) (.slice sa (img pw ph (morG mx pw ph xs tw th bits)).length sc)
        have g0 := kf.cell (i := 0) rfl
        have g1 := kf.cell (i := 1) rfl
        have g2 := kf.cell (i := 2) rfl
        exact bodyPost_ret (v := .tuple #[.agg #[.int .i64 pw, .int .i64 ph, .slice sa (img pw ph (morG mx pw ph xs tw th bits)).length sc], .int .i64 0]) (by simp [results, Tryz.results65, go_sem, g0, g1, g2]) rfl ⟨⟨_, by rw [hsp.out]; rfl, by rw [hsp.out]; exact OwnIm.weaken ⟨_, rfl, put3_row hrow (k2.not_row (by decide) hrow) _ _ _⟩ hB2.size⟩, (hB2.trans (hb2.mono hB2.size)).trans (put3_below (by omega) _ _ _)⟩


set_option maxRecDepth 100000 in
set_option maxHeartbeats 1000000 in
theorem Dilate_any (iw ih : Int) (a : Option Addr) (c n : Nat) (xs : List Int) (hn : Hid (xs.length = n)) (sw sh : Int) (as' : Option Addr) (cs ns : Nat) (bits : List Bool) (hbn : Hid (bits.length = ns)) (w : World) (hm : n ≤ 9223372036854775807) (hr : Rd w.heap.size w a xs) (hms : ns ≤ 9223372036854775807) (hrb : RdB w.heap.size w as' bits) :
    Calls Tryz.prog 42 #[imv iw ih a n c, imv sw sh as' ns cs] w (RetIm w.heap.size (morS true iw ih xs sw sh bits) w) := by
  obtain ⟨⟨qw, qh, qpx, qe⟩, hR⟩ : ∃ r, morS true iw ih xs sw sh bits = r := ⟨_, rfl⟩
  have hRH := Lib.hid hR
  rw [hR]
  clear hR
  have hB0 : Below w.heap.size w (((w.alloc (.cells #[.int .i64 iw, .int .i64 ih, .slice a n c] 51)).alloc (.cells #[.int .i64 sw, .int .i64 sh, .slice as' ns cs] 96)).alloc (.cells #[.int .i64 0, .int .i64 0, .slice none 0 0] 51)) := below_al (below_al (below_al (Below.refl _ _) _) _) _
  go_enter Tryz.func42, Tryz.ntmps42
  go_wp2_with fail
  have hcall := morph_any true iw ih a c n xs hn sw sh as' cs ns bits hbn 67 (enters_of Tryz.func67 (by kernel_rfl) rfl) (fun u v w => by simpa using most_any u v w) (((w.alloc (.cells #[.int .i64 iw, .int .i64 ih, .slice a n c] 51)).alloc (.cells #[.int .i64 sw, .int .i64 sh, .slice as' ns cs] 96)).alloc (.cells #[.int .i64 0, .int .i64 0, .slice none 0 0] 51)) hm ((hr.below (Nat.le_refl _) hB0).mono hB0.size) hms ((hrb.below (Nat.le_refl _) hB0).mono hB0.size)
  rw [hRH.out] at hcall
  refine hcall.mono ?_
  clear hcall
  rintro e W1 ⟨⟨v, rfl, hv⟩, hb⟩
  obtain ⟨sl, rfl, hrow⟩ := hv
  obtain ⟨sa, sc, rfl⟩ := row_slice hrow
  replace hrow := row_base hrow hB0.size
  have k := (Blk.new ((w.alloc (.cells #[.int .i64 iw, .int .i64 ih, .slice a n c] 51)).alloc (.cells #[.int .i64 sw, .int .i64 sh, .slice as' ns cs] 96)) 51 #[.int .i64 0, .int .i64 0, .slice none 0 0]).below hb (by simp <;> omega)
  simp only [World.size_alloc] at k
  have hB1 := hB0.trans (hb.mono hB0.size)
  clear hb hB0
  have c0 := k.cell (i := 0) rfl
  have c1 := k.cell (i := 1) rfl
  have c2 := k.cell (i := 2) rfl
  have fc0 := k.frozen 0
  have fc1 := k.frozen 1
  have fc2 := k.frozen 2
  go_wp2_with fail
  have kf := put3_blk k (.int .i64 qw) (.int .i64 qh) (.slice sa qpx.length sc)
  have g0 := kf.cell (i := 0) rfl
  have g1 := kf.cell (i := 1) rfl
  have g2 := kf.cell (i := 2) rfl
  exact bodyPost_ret (v := .tuple #[.agg #[.int .i64 qw, .int .i64 qh, .slice sa qpx.length sc], .int .i64 qe]) (by simp [results, Tryz.results42, go_sem, g0, g1, g2]) rfl ⟨⟨_, rfl, ⟨_, rfl, put3_row hrow (k.not_row (by decide) hrow) _ _ _⟩⟩, hB1.trans (put3_below (by omega) _ _ _)⟩

set_option maxRecDepth 100000 in
set_option maxHeartbeats 1000000 in
theorem Erode_any (iw ih : Int) (a : Option Addr) (c n : Nat) (xs : List Int) (hn : Hid (xs.length = n)) (sw sh : Int) (as' : Option Addr) (cs ns : Nat) (bits : List Bool) (hbn : Hid (bits.length = ns)) (w : World) (hm : n ≤ 9223372036854775807) (hr : Rd w.heap.size w a xs) (hms : ns ≤ 9223372036854775807) (hrb : RdB w.heap.size w as' bits) :
    Calls Tryz.prog 41 #[imv iw ih a n c, imv sw sh as' ns cs] w (RetIm w.heap.size (morS false iw ih xs sw sh bits) w) := by
  obtain ⟨⟨qw, qh, qpx, qe⟩, hR⟩ : ∃ r, morS false iw ih xs sw sh bits = r := ⟨_, rfl⟩
  have hRH := Lib.hid hR
  rw [hR]
  clear hR
  have hB0 : Below w.heap.size w (((w.alloc (.cells #[.int .i64 iw, .int .i64 ih, .slice a n c] 51)).alloc (.cells #[.int .i64 sw, .int .i64 sh, .slice as' ns cs] 96)).alloc (.cells #[.int .i64 0, .int .i64 0, .slice none 0 0] 51)) := below_al (below_al (below_al (Below.refl _ _) _) _) _
  go_enter Tryz.func41, Tryz.ntmps41
  go_wp2_with fail
  have hcall := morph_any false iw ih a c n xs hn sw sh as' cs ns bits hbn 66 (enters_of Tryz.func66 (by kernel_rfl) rfl) (fun u v w => by simpa using least_any u v w) (((w.alloc (.cells #[.int .i64 iw, .int .i64 ih, .slice a n c] 51)).alloc (.cells #[.int .i64 sw, .int .i64 sh, .slice as' ns cs] 96)).alloc (.cells #[.int .i64 0, .int .i64 0, .slice none 0 0] 51)) hm ((hr.below (Nat.le_refl _) hB0).mono hB0.size) hms ((hrb.below (Nat.le_refl _) hB0).mono hB0.size)
  rw [hRH.out] at hcall
  refine hcall.mono ?_
  clear hcall
  rintro e W1 ⟨⟨v, rfl, hv⟩, hb⟩
  obtain ⟨sl, rfl, hrow⟩ := hv
  obtain ⟨sa, sc, rfl⟩ := row_slice hrow
  replace hrow := row_base hrow hB0.size
  have k := (Blk.new ((w.alloc (.cells #[.int .i64 iw, .int .i64 ih, .slice a n c] 51)).alloc (.cells #[.int .i64 sw, .int .i64 sh, .slice as' ns cs] 96)) 51 #[.int .i64 0, .int .i64 0, .slice none 0 0]).below hb (by simp <;> omega)
  simp only [World.size_alloc] at k
  have hB1 := hB0.trans (hb.mono hB0.size)
  clear hb hB0
  have c0 := k.cell (i := 0) rfl
  have c1 := k.cell (i := 1) rfl
  have c2 := k.cell (i := 2) rfl
  have fc0 := k.frozen 0
  have fc1 := k.frozen 1
  have fc2 := k.frozen 2
  go_wp2_with fail
  have kf := put3_blk k (.int .i64 qw) (.int .i64 qh) (.slice sa qpx.length sc)
  have g0 := kf.cell (i := 0) rfl
  have g1 := kf.cell (i := 1) rfl
  have g2 := kf.cell (i := 2) rfl
  exact bodyPost_ret (v := .tuple #[.agg #[.int .i64 qw, .int .i64 qh, .slice sa qpx.length sc], .int .i64 qe]) (by simp [results, Tryz.results41, go_sem, g0, g1, g2]) rfl ⟨⟨_, rfl, ⟨_, rfl, put3_row hrow (k.not_row (by decide) hrow) _ _ _⟩⟩, hB1.trans (put3_below (by omega) _ _ _)⟩

end Go.Proofs.YtbdnjhnlfpfhcaaGreat

namespace Go.Proofs.YtbdnjhnlfpfhcaaGreat
open Go Go.RowKit Go.Shelf
set_option linter.unusedVariables false
set_option linter.unusedSimpArgs false

theorem mor_img {mx : Bool} {xs : List Int} (h : allIn (-2147483648) 2147483648 xs = true) (iw ih : Int) (sw sh : Nat) (bits : List Bool) (x y : Int) : -2147483648 ≤ morG mx iw ih xs sw sh bits x y ∧ morG mx iw ih xs sw sh bits x y ≤ 2147483648 := mor_bd (fun _ => px_bd h _) _

end Go.Proofs.YtbdnjhnlfpfhcaaGreat

namespace Go.Proofs.YtbdnjhnlfpfhcaaGreat
open Go Go.RowKit Go.Shelf
set_option linter.unusedVariables false
set_option linter.unusedSimpArgs false

/-- The value for any place, by a border. -/
def beyF (bd iw ih : Int) (xs : List Int) (x y : Int) : Int :=
  if bd = 1 then (if (inR x 0 (iw - 1) && inR y 0 (ih - 1)) = true then px xs (y * iw + x) else 0)
  else if bd = 2 then px xs (clamp y 0 (ih - 1) * iw + clamp x 0 (iw - 1)) else px xs (y % ih * iw + x % iw)

theorem beyF_in {bd iw ih : Int} {xs : List Int} {x y : Int} (h : (inR x 0 (iw - 1) && inR y 0 (ih - 1)) = true) : beyF bd iw ih xs x y = px xs (y * iw + x) := by
  unfold beyF
  rw [if_pos h]
  simp only [Bool.and_eq_true, inR_true] at h
  rw [show clamp x 0 (iw - 1) = x by unfold clamp; omega, show clamp y 0 (ih - 1) = y by unfold clamp; omega, Int.emod_eq_of_lt (by omega) (by omega), Int.emod_eq_of_lt (by omega) (by omega)]
  split
  · rfl
  · split <;> rfl
theorem beyF_2 (iw ih : Int) (xs : List Int) (x y : Int) : beyF 2 iw ih xs x y = px xs (clamp y 0 (ih - 1) * iw + clamp x 0 (iw - 1)) := by unfold beyF; rw [if_neg (by decide), if_pos rfl]
end Go.Proofs.YtbdnjhnlfpfhcaaGreat

namespace Go.Proofs.YtbdnjhnlfpfhcaaGreat
open Go
set_option linter.unusedVariables false
set_option linter.unusedSimpArgs false

/-- A value with a gain of g percent and with a added, brought into the range of a camera. -/
def spV (g a v : Int) : Int := clamp (g * v / 100 + a) 0 255
theorem spV_mono {g a u v : Int} (hg : 0 ≤ g) (h : u ≤ v) : spV g a u ≤ spV g a v := by
  have h1 : g * u ≤ g * v := Int.mul_le_mul_of_nonneg_left h hg
  have h2 : g * u / 100 ≤ g * v / 100 := Int.ediv_le_ediv (by decide) h1
  unfold spV clamp
  omega
theorem spV_bd (g a v : Int) : 0 ≤ spV g a v ∧ spV g a v ≤ 255 := by unfold spV clamp; omega
theorem spV_point (g a v : Int) : pointF ⟨g, 100 * a, 100, 0, 255⟩ v = spV g a v := by
  unfold pointF spV
  show clamp ((g * v + 100 * a) / 100) 0 255 = _
  rw [Int.add_mul_ediv_left _ _ (by decide)]

/-- The value with shift number t of (2 s + 1)^2, beyond the border that of the nearest pixel. -/
def spB (pw ph : Nat) (xs : List Int) (s : Nat) (x y : Int) (t : Nat) : Int := beyF 2 pw ph xs (x + (((t % (2 * s + 1) : Nat) : Int) - (s : Int))) (y + (((t / (2 * s + 1) : Nat) : Int) - (s : Int)))
def spLo (f : Nat → Int) : Nat → Int
  | 0 => 255
  | t + 1 => min (spLo f t) (f t)
def spHi (f : Nat → Int) : Nat → Int
  | 0 => 0
  | t + 1 => max (spHi f t) (f t)
theorem le_spLo {f : Nat → Int} {B : Int} : ∀ {n : Nat}, B ≤ spLo f n ↔ B ≤ 255 ∧ ∀ t, t < n → B ≤ f t
  | 0 => ⟨fun h => ⟨h, fun t ht => by omega⟩, fun h => h.1⟩
  | n + 1 => by
    have ih := le_spLo (f := f) (B := B) (n := n)
    simp only [spLo]
    constructor
    · intro h
      have h1 := ih.1 (by omega)
      refine ⟨h1.1, fun t ht => ?_⟩
      by_cases e : t = n
      · subst e; omega
      · exact h1.2 t (by omega)
    · intro h
      have h1 := ih.2 ⟨h.1, fun t ht => h.2 t (by omega)⟩
      have := h.2 n (by omega)
      omega
theorem spHi_le {f : Nat → Int} {B : Int} : ∀ {n : Nat}, spHi f n ≤ B ↔ 0 ≤ B ∧ ∀ t, t < n → f t ≤ B
  | 0 => ⟨fun h => ⟨h, fun t ht => by omega⟩, fun h => h.1⟩
  | n + 1 => by
    have ih := spHi_le (f := f) (B := B) (n := n)
    simp only [spHi]
    constructor
    · intro h
      have h1 := ih.1 (by omega)
      refine ⟨h1.1, fun t ht => ?_⟩
      by_cases e : t = n
      · subst e; omega
      · exact h1.2 t (by omega)
    · intro h
      have h1 := ih.2 ⟨h.1, fun t ht => h.2 t (by omega)⟩
      have := h.2 n (by omega)
      omega
theorem spLo_bd {f : Nat → Int} (hf : ∀ t, 0 ≤ f t ∧ f t ≤ 255) (n : Nat) : 0 ≤ spLo f n ∧ spLo f n ≤ 255 := by
  induction n with
  | zero => simp [spLo]
  | succ n ih => have := hf n; simp only [spLo]; omega
theorem spHi_bd {f : Nat → Int} (hf : ∀ t, 0 ≤ f t ∧ f t ≤ 255) (n : Nat) : 0 ≤ spHi f n ∧ spHi f n ≤ 255 := by
  induction n with
  | zero => simp [spHi]
  | succ n ih => have := hf n; simp only [spHi]; omega

/-- The greatest, the least value is one of those that count. -/
theorem morTo_is {mx : Bool} {ok : Nat → Bool} {val : Nat → Int} (hv : ∀ t, -2147483648 ≤ val t ∧ val t ≤ 2147483648) : ∀ {n : Nat}, (∃ t, t < n ∧ ok t = true) → ∃ t, t < n ∧ ok t = true ∧ morTo mx ok val n = val t
  | 0, h => by obtain ⟨t, ht, _⟩ := h; omega
  | n + 1, h => by
    simp only [morTo]
    have hb := mor_bd (mx := mx) (ok := ok) hv n
    have hvn := hv n
    by_cases hn : ok n = true
    · rw [if_pos hn]
      by_cases hx : ∃ t, t < n ∧ ok t = true
      · obtain ⟨t, h1, h2, h3⟩ := morTo_is (mx := mx) (n := n) hv hx
        rw [h3]
        cases mx with
        | true =>
          simp only [if_true]
          by_cases hc : val t ≤ val n
          · exact ⟨n, by omega, hn, by omega⟩
          · exact ⟨t, by omega, h2, by omega⟩
        | false =>
          simp only [Bool.false_eq_true, if_false]
          by_cases hc : val t ≤ val n
          · exact ⟨t, by omega, h2, by omega⟩
          · exact ⟨n, by omega, hn, by omega⟩
      · have h0 : ∀ m, m ≤ n → morTo mx ok val m = if mx = true then -2147483648 else 2147483648 := fun m hm => by
          induction m with
          | zero => rfl
          | succ m ih =>
            simp only [morTo]
            rw [if_neg (fun e => hx ⟨m, by omega, e⟩), ih (by omega)]
        refine ⟨n, by omega, hn, ?_⟩
        rw [h0 n (Nat.le_refl _)]
        cases mx with
        | true => simp only [if_true]; omega
        | false => simp only [Bool.false_eq_true, if_false]; omega
    · rw [if_neg hn]
      obtain ⟨t, h1, h2⟩ := h
      have : t ≠ n := fun e => hn (e ▸ h2)
      obtain ⟨u, h3, h4, h5⟩ := morTo_is (mx := mx) (n := n) hv ⟨t, by omega, h2⟩
      exact ⟨u, by omega, h4, h5⟩

section
variable {pw ph s : Nat} {xs : List Int}
def fullB (s : Nat) : List Bool := List.replicate ((2 * s + 1) * (2 * s + 1)) true
theorem shIn_full {s t : Nat} (ht : t < (2 * s + 1) * (2 * s + 1)) : shIn (fullB s) t = true := by
  unfold shIn fullB
  rw [List.getElem?_replicate, if_pos ht]; rfl

/-- The number of the shift that leads from (x, y) to a pixel of the window. -/
theorem shift_to {x y u v : Int} (sg : Int) (hs : sg = 1 ∨ sg = -1) (h1 : -(s : Int) ≤ u - x) (h2 : u - x ≤ s) (h3 : -(s : Int) ≤ v - y) (h4 : v - y ≤ s) :
    ∃ t, t < (2 * s + 1) * (2 * s + 1) ∧ morU sg (2 * s + 1) x t = u ∧ morV sg (2 * s + 1) (2 * s + 1) y t = v := by
  have hh : (2 * s + 1) / 2 = s := by omega
  rcases hs with rfl | rfl
  · obtain ⟨a, ha⟩ : ∃ a : Nat, (a : Int) = u - x + s := ⟨(u - x + s).toNat, by omega⟩
    obtain ⟨b, hb⟩ : ∃ b : Nat, (b : Int) = v - y + s := ⟨(v - y + s).toNat, by omega⟩
    refine ⟨b * (2 * s + 1) + a, idx_bound (by omega) (by omega), ?_, ?_⟩
    · unfold morU; rw [idx_mod b (by omega), hh]; omega
    · unfold morV; rw [idx_div b (by omega), hh]; omega
  · obtain ⟨a, ha⟩ : ∃ a : Nat, (a : Int) = x - u + s := ⟨(x - u + s).toNat, by omega⟩
    obtain ⟨b, hb⟩ : ∃ b : Nat, (b : Int) = y - v + s := ⟨(y - v + s).toNat, by omega⟩
    refine ⟨b * (2 * s + 1) + a, idx_bound (by omega) (by omega), ?_, ?_⟩
    · unfold morU; rw [idx_mod b (by omega), hh]; omega
    · unfold morV; rw [idx_div b (by omega), hh]; omega
theorem shift_bd (s t : Nat) (ht : t < (2 * s + 1) * (2 * s + 1)) : -(s : Int) ≤ ((t % (2 * s + 1) : Nat) : Int) - s ∧ ((t % (2 * s + 1) : Nat) : Int) - s ≤ s ∧ -(s : Int) ≤ ((t / (2 * s + 1) : Nat) : Int) - s ∧ ((t / (2 * s + 1) : Nat) : Int) - s ≤ s := by
  have h1 := Nat.mod_lt t (show 0 < 2 * s + 1 by omega)
  have h2 : t / (2 * s + 1) < 2 * s + 1 := Nat.div_lt_of_lt_mul ht
  generalize t % (2 * s + 1) = a at *
  generalize t / (2 * s + 1) = b at *
  omega

/-- Each pixel that counts is met by a shift, and each shift meets a pixel that counts. -/
theorem win_shift (mx : Bool) {x y : Int} (hx : 0 ≤ x) (hx2 : x < pw) (hy : 0 ≤ y) (hy2 : y < ph) {t : Nat} (ht : t < (2 * s + 1) * (2 * s + 1)) (hok : morOk (morSg mx) pw ph (2 * s + 1) (2 * s + 1) (fullB s) x y t = true) :
    ∃ u, u < (2 * s + 1) * (2 * s + 1) ∧ spB pw ph xs s x y u = morVal (morSg mx) pw xs (2 * s + 1) (2 * s + 1) x y t := by
  simp only [morOk, Bool.and_eq_true, inR_true] at hok
  obtain ⟨_, ⟨u1, u2⟩, v1, v2⟩ := hok
  have hb := shift_bd s t ht
  have hh : (2 * s + 1) / 2 = s := by omega
  have hsg : morSg mx = 1 ∨ morSg mx = -1 := by unfold morSg; split <;> simp
  have e1 : -(s : Int) ≤ morU (morSg mx) (2 * s + 1) x t - x ∧ morU (morSg mx) (2 * s + 1) x t - x ≤ s := by
    unfold morU; rw [hh]; rcases hsg with h | h <;> rw [h] <;> omega
  have e2 : -(s : Int) ≤ morV (morSg mx) (2 * s + 1) (2 * s + 1) y t - y ∧ morV (morSg mx) (2 * s + 1) (2 * s + 1) y t - y ≤ s := by
    unfold morV; rw [hh]; rcases hsg with h | h <;> rw [h] <;> omega
  obtain ⟨u, hu, a1, a2⟩ := shift_to (s := s) (x := x) (y := y) 1 (.inl rfl) e1.1 e1.2 e2.1 e2.2
  refine ⟨u, hu, ?_⟩
  have b1 : x + (((u % (2 * s + 1) : Nat) : Int) - (s : Int)) = morU (morSg mx) (2 * s + 1) x t := by rw [← a1]; unfold morU; rw [hh]; omega
  have b2 : y + (((u / (2 * s + 1) : Nat) : Int) - (s : Int)) = morV (morSg mx) (2 * s + 1) (2 * s + 1) y t := by rw [← a2]; unfold morV; rw [hh]; omega
  unfold spB morVal
  rw [b1, b2, beyF_in (by simp only [Bool.and_eq_true, inR_true]; exact ⟨⟨u1, u2⟩, v1, v2⟩)]
theorem shift_win (mx : Bool) {x y : Int} (hx : 0 ≤ x) (hx2 : x < pw) (hy : 0 ≤ y) (hy2 : y < ph) {u : Nat} (hu : u < (2 * s + 1) * (2 * s + 1)) :
    ∃ t, t < (2 * s + 1) * (2 * s + 1) ∧ morOk (morSg mx) pw ph (2 * s + 1) (2 * s + 1) (fullB s) x y t = true ∧ morVal (morSg mx) pw xs (2 * s + 1) (2 * s + 1) x y t = spB pw ph xs s x y u := by
  have hb := shift_bd s u hu
  have hsg : morSg mx = 1 ∨ morSg mx = -1 := by unfold morSg; split <;> simp
  obtain ⟨U, hU⟩ : ∃ U, clamp (x + (((u % (2 * s + 1) : Nat) : Int) - (s : Int))) 0 ((pw : Int) - 1) = U := ⟨_, rfl⟩
  obtain ⟨V, hV⟩ : ∃ V, clamp (y + (((u / (2 * s + 1) : Nat) : Int) - (s : Int))) 0 ((ph : Int) - 1) = V := ⟨_, rfl⟩
  have c1 : 0 ≤ U ∧ U ≤ (pw : Int) - 1 ∧ -(s : Int) ≤ U - x ∧ U - x ≤ s := by rw [← hU]; unfold clamp; omega
  have c2 : 0 ≤ V ∧ V ≤ (ph : Int) - 1 ∧ -(s : Int) ≤ V - y ∧ V - y ≤ s := by rw [← hV]; unfold clamp; omega
  obtain ⟨t, ht, a1, a2⟩ := shift_to (s := s) (x := x) (y := y) (morSg mx) hsg c1.2.2.1 c1.2.2.2 c2.2.2.1 c2.2.2.2
  refine ⟨t, ht, ?_, ?_⟩
  · simp only [morOk, Bool.and_eq_true, inR_true]
    rw [a1, a2]
    exact ⟨shIn_full ht, ⟨c1.1, c1.2.1⟩, c2.1, c2.2.1⟩
  · unfold morVal spB
    rw [a1, a2, beyF_2, hU, hV]

theorem win_centre (mx : Bool) {x y : Int} (hx : 0 ≤ x) (hx2 : x < pw) (hy : 0 ≤ y) (hy2 : y < ph) : ∃ t, t < (2 * s + 1) * (2 * s + 1) ∧ morOk (morSg mx) pw ph (2 * s + 1) (2 * s + 1) (fullB s) x y t = true := by
  have h0 : 0 < (2 * s + 1) * (2 * s + 1) := Nat.mul_pos (by omega) (by omega)
  obtain ⟨t, h1, h2, _⟩ := shift_win (xs := []) (s := s) mx hx hx2 hy hy2 h0
  exact ⟨t, h1, h2⟩

/-- The least value that a change allows. -/
theorem spread_lo (hxs : allIn (-2147483648) 2147483648 xs = true) {x y : Int} (hx : 0 ≤ x) (hx2 : x < pw) (hy : 0 ≤ y) (hy2 : y < ph) {g : Int} (hg : 0 ≤ g) (a : Int) :
    spV g a (morG false pw ph xs (2 * s + 1) (2 * s + 1) (fullB s) x y) = spLo (fun t => spV g a (spB pw ph xs s x y t)) ((2 * s + 1) * (2 * s + 1)) := by
  have hv : ∀ t, -2147483648 ≤ morVal (morSg false) pw xs (2 * s + 1) (2 * s + 1) x y t ∧ morVal (morSg false) pw xs (2 * s + 1) (2 * s + 1) x y t ≤ 2147483648 := fun t => px_bd hxs _
  refine Int.le_antisymm (le_spLo.2 ⟨(spV_bd _ _ _).2, fun u hu => ?_⟩) ?_
  · obtain ⟨t, h1, h2, h3⟩ := shift_win (xs := xs) false hx hx2 hy hy2 hu
    rw [← h3]
    exact spV_mono hg ((le_mor.1 (Int.le_refl (morG false pw ph xs (2 * s + 1) (2 * s + 1) (fullB s) x y))).2 t h1 h2)
  · obtain ⟨t, h1, h2, h3⟩ := morTo_is (mx := false) hv (win_centre (s := s) false hx hx2 hy hy2)
    obtain ⟨u, h4, h5⟩ := win_shift (xs := xs) false hx hx2 hy hy2 h1 h2
    show _ ≤ spV g a (morTo false _ _ _)
    rw [h3, ← h5]
    exact (le_spLo.1 (Int.le_refl _)).2 u h4
/-- The greatest value that a change allows. -/
theorem spread_hi (hxs : allIn (-2147483648) 2147483648 xs = true) {x y : Int} (hx : 0 ≤ x) (hx2 : x < pw) (hy : 0 ≤ y) (hy2 : y < ph) {g : Int} (hg : 0 ≤ g) (a : Int) :
    spV g a (morG true pw ph xs (2 * s + 1) (2 * s + 1) (fullB s) x y) = spHi (fun t => spV g a (spB pw ph xs s x y t)) ((2 * s + 1) * (2 * s + 1)) := by
  have hv : ∀ t, -2147483648 ≤ morVal (morSg true) pw xs (2 * s + 1) (2 * s + 1) x y t ∧ morVal (morSg true) pw xs (2 * s + 1) (2 * s + 1) x y t ≤ 2147483648 := fun t => px_bd hxs _
  refine Int.le_antisymm ?_ (spHi_le.2 ⟨(spV_bd _ _ _).1, fun u hu => ?_⟩)
  · obtain ⟨t, h1, h2, h3⟩ := morTo_is (mx := true) hv (win_centre (s := s) true hx hx2 hy hy2)
    obtain ⟨u, h4, h5⟩ := win_shift (xs := xs) true hx hx2 hy hy2 h1 h2
    show spV g a (morTo true _ _ _) ≤ _
    rw [h3, ← h5]
    exact (spHi_le.1 (Int.le_refl _)).2 u h4
  · obtain ⟨t, h1, h2, h3⟩ := shift_win (xs := xs) true hx hx2 hy hy2 hu
    rw [← h3]
    exact spV_mono hg ((mor_le.1 (Int.le_refl (morG true pw ph xs (2 * s + 1) (2 * s + 1) (fullB s) x y))).2 t h1 h2)
end

end Go.Proofs.YtbdnjhnlfpfhcaaGreat

namespace Go.Proofs.YtbdnjhnlfpfhcaaGreat
set_option linter.unusedVariables false
set_option linter.unusedSimpArgs false

def sumJ (f : Nat → Int) : Nat → Int
  | 0 => 0
  | n + 1 => sumJ f n + f n
theorem sumJ_bd {f : Nat → Int} {B : Int} : ∀ {n : Nat}, (∀ i, i < n → -B ≤ f i ∧ f i ≤ B) → -(B * n) ≤ sumJ f n ∧ sumJ f n ≤ B * n
  | 0, _ => by simp [sumJ]
  | n + 1, h => by
    have ih := sumJ_bd (n := n) fun i hi => h i (by omega)
    have h2 := h n (by omega)
    have e : B * ((n + 1 : Nat) : Int) = B * n + B := by rw [Int.natCast_succ, Int.mul_add, Int.mul_one]
    rw [e]
    simp only [sumJ]
    omega
/-! ### Votes and weights. 'lab i k' is what inspector i said of part k: nothing (0), Pass (1), Fail (2) -/

def sumW (lab : Nat → Nat → Nat) (w : Nat → Int) (v k J : Nat) : Int := sumJ (fun i => if lab i k = v then w i else 0) J
def verd (y n : Int) : Nat := if n < y then 1 else if y < n then 2 else 3
def voteF (lab : Nat → Nat → Nat) (w : Nat → Int) (J k : Nat) : Nat := verd (sumW lab w 1 k J) (sumW lab w 2 k J)
/-- What one part adds to an inspector's weight, by the verdict and the label. -/
def scoreJ (v l : Nat) : Int := if v = 3 ∨ l = 0 then 0 else if l = v then 1 else -1
def netJ (lab : Nat → Nat → Nat) (v : Nat → Nat) (i K : Nat) : Int := sumJ (fun k => scoreJ (v k) (lab i k)) K
def weighF (lab : Nat → Nat → Nat) (v : Nat → Nat) (K i : Nat) : Int := max (netJ lab v i K) 0

def voteL (lab : Nat → Nat → Nat) (J K : Nat) (ws : List Int) : List Nat := (List.range K).map (voteF lab (fun i => ws[i]?.getD 0) J)
def weighL (lab : Nat → Nat → Nat) (J K : Nat) (vs : List Nat) : List Int := (List.range J).map (weighF lab (fun k => vs[k]?.getD 0) K)
/-- So many more rounds, from verdicts and weights on. -/
def reconL (lab : Nat → Nat → Nat) (J K : Nat) : Nat → List Nat → List Int → List Nat × List Int
  | 0, vs, ws => (vs, ws)
  | r + 1, vs, _ => if voteL lab J K (weighL lab J K vs) = vs then (vs, weighL lab J K vs) else reconL lab J K r (voteL lab J K (weighL lab J K vs)) (weighL lab J K vs)
def reconS (lab : Nat → Nat → Nat) (J K : Nat) : List Nat × List Int := reconL lab J K 10 (voteL lab J K (List.replicate J 1)) (List.replicate J 1)

variable {lab : Nat → Nat → Nat} {J K : Nat}

theorem verd_mem (y n : Int) : verd y n = 1 ∨ verd y n = 2 ∨ verd y n = 3 := by unfold verd; split <;> (try split) <;> omega
theorem verd_one (y n : Int) : verd y n = 1 ↔ n < y := by unfold verd; split <;> (try split) <;> omega
theorem verd_two (y n : Int) : verd y n = 2 ↔ y < n := by unfold verd; split <;> (try split) <;> omega
theorem scoreJ_bd (v l : Nat) : -1 ≤ scoreJ v l ∧ scoreJ v l ≤ 1 := by unfold scoreJ; split <;> (try split) <;> omega
theorem weighF_bd (v : Nat → Nat) (i : Nat) : 0 ≤ weighF lab v K i ∧ weighF lab v K i ≤ K := by
  have := sumJ_bd (f := fun k => scoreJ (v k) (lab i k)) (B := 1) (n := K) fun k _ => scoreJ_bd _ _
  unfold weighF netJ
  omega
theorem getD_map_range {α : Type} (f : Nat → α) (d : α) {n k : Nat} (h : k < n) : ((List.range n).map f)[k]?.getD d = f k := by
  rw [List.getElem?_map, List.getElem?_range h]; rfl

/-! ### Pass and Fail exchanged -/

/-! ### The inspectors in the other order -/

/-! ### Two parts exchanged -/

end Go.Proofs.YtbdnjhnlfpfhcaaGreat

namespace Go.Proofs.YtbdnjhnlfpfhcaaGreat
set_option linter.unusedVariables false
set_option linter.unusedSimpArgs false

/-- A layer: for each of its numbers the weights of those before it, and a bias. -/
structure LayN where
  ws : List (List Int)
  bs : List Int
def wAt (L : LayN) (k j : Nat) : Int := (L.ws[k]?.getD [])[j]?.getD 0
def bAt (L : LayN) (k : Nat) : Int := L.bs[k]?.getD 0
/-- 0 instead of what is below, if asked. -/
def cutI (c : Bool) (s : Int) : Int := if c = true then max s 0 else s
def layF (L : LayN) (c : Bool) (l : List Int) (k : Nat) : Int := cutI c (bAt L k + sumJ (fun j => wAt L k j * l[j]?.getD 0) l.length)
def layL (L : LayN) (c : Bool) (l : List Int) : List Int := (List.range L.bs.length).map (layF L c l)
def fwdL : List LayN → List Int → List Int
  | [], l => l
  | L :: r, l => fwdL r (layL L (!r.isEmpty) l)
def scoreN (Ls : List LayN) (l : List Int) : Int := (fwdL Ls l)[0]?.getD 0

/-- The terms of a lower, of an upper bound. -/
def loT (w lo hi : Int) : Int := if w < 0 then w * hi else w * lo
def hiT (w lo hi : Int) : Int := if w < 0 then w * lo else w * hi
def loAt (l : List (Int × Int)) (j : Nat) : Int := (l[j]?.getD (0, 0)).1
def hiAt (l : List (Int × Int)) (j : Nat) : Int := (l[j]?.getD (0, 0)).2
def layBF (L : LayN) (c : Bool) (l : List (Int × Int)) (k : Nat) : Int × Int :=
  (cutI c (bAt L k + sumJ (fun j => loT (wAt L k j) (loAt l j) (hiAt l j)) l.length), cutI c (bAt L k + sumJ (fun j => hiT (wAt L k j) (loAt l j) (hiAt l j)) l.length))
def layB (L : LayN) (c : Bool) (l : List (Int × Int)) : List (Int × Int) := (List.range L.bs.length).map (layBF L c l)
def fwdB : List LayN → List (Int × Int) → List (Int × Int)
  | [], l => l
  | L :: r, l => fwdB r (layB L (!r.isEmpty) l)

/-- Numbers are within bounds; bounds are within bounds. -/
structure InB (l : List (Int × Int)) (x : List Int) : Prop where
  len : l.length = x.length
  bd : ∀ j, j < l.length → loAt l j ≤ x[j]?.getD 0 ∧ x[j]?.getD 0 ≤ hiAt l j
theorem layB_at {L : LayN} {c : Bool} {l : List (Int × Int)} {k : Nat} (hk : k < L.bs.length) : loAt (layB L c l) k = (layBF L c l k).1 ∧ hiAt (layB L c l) k = (layBF L c l k).2 := by
  unfold loAt hiAt layB
  rw [getD_map_range _ _ hk]
  exact ⟨rfl, rfl⟩
theorem layB_length (L : LayN) (c : Bool) (l : List (Int × Int)) : (layB L c l).length = L.bs.length := by simp [layB]
theorem layL_length (L : LayN) (c : Bool) (l : List Int) : (layL L c l).length = L.bs.length := by simp [layL]
/-! ### Verdicts and certificates -/

def verdB (low high a b : Int) : Nat := if high ≤ a then 1 else if b ≤ low then 2 else 3
def judgeB (Ls : List LayN) (low high : Int) (l : List (Int × Int)) : Nat := verdB low high (loAt (fwdB Ls l) 0) (hiAt (fwdB Ls l) 0)
def widthB (l : List (Int × Int)) (i : Nat) : Int := hiAt l i - loAt l i
def wideTo (l : List (Int × Int)) : Nat → Nat
  | 0 => 0
  | i + 1 => if widthB l (wideTo l i) < widthB l i then i else wideTo l i
def wideB (l : List (Int × Int)) : Nat := wideTo l l.length
def midB (l : List (Int × Int)) : Int := (loAt l (wideB l) + hiAt l (wideB l)).tdiv 2
def leftB (l : List (Int × Int)) : List (Int × Int) := l.set (wideB l) (loAt l (wideB l), midB l)
def rightB (l : List (Int × Int)) : List (Int × Int) := l.set (wideB l) (midB l + 1, hiAt l (wideB l))
def certN (Ls : List LayN) (low high : Int) : Nat → List (Int × Int) → Nat
  | 0, l => judgeB Ls low high l
  | s + 1, l => if judgeB Ls low high l ≠ 3 ∨ loAt l (wideB l) = hiAt l (wideB l) then judgeB Ls low high l else
      if certN Ls low high s (leftB l) ≠ 3 ∧ certN Ls low high s (rightB l) ≠ certN Ls low high s (leftB l) then 3 else certN Ls low high s (leftB l)

variable {Ls : List LayN} {low high : Int}
theorem set_at (l : List (Int × Int)) (i : Nat) (v : Int × Int) {j : Nat} (hj : j < l.length) : loAt (l.set i v) j = (if j = i then v.1 else loAt l j) ∧ hiAt (l.set i v) j = (if j = i then v.2 else hiAt l j) := by
  unfold loAt hiAt
  by_cases e : j = i
  · subst e
    rw [if_pos rfl, if_pos rfl, List.getElem?_set_self hj]
    exact ⟨rfl, rfl⟩
  · rw [if_neg e, if_neg e, List.getElem?_set_ne (fun h => e h.symm)]
    exact ⟨rfl, rfl⟩
theorem InB.split {l : List (Int × Int)} {x : List Int} (h : InB l x) : InB (leftB l) x ∨ InB (rightB l) x := by
  by_cases hc : x[wideB l]?.getD 0 ≤ midB l
  · refine .inl ⟨by unfold leftB; rw [List.length_set]; exact h.len, fun j hj => ?_⟩
    unfold leftB at hj ⊢
    rw [List.length_set] at hj
    obtain ⟨e1, e2⟩ := set_at l (wideB l) (loAt l (wideB l), midB l) hj
    rw [e1, e2]
    have hb := h.bd j hj
    by_cases e : j = wideB l
    · subst e; rw [if_pos rfl, if_pos rfl]; exact ⟨hb.1, hc⟩
    · rw [if_neg e, if_neg e]; exact hb
  · refine .inr ⟨by unfold rightB; rw [List.length_set]; exact h.len, fun j hj => ?_⟩
    unfold rightB at hj ⊢
    rw [List.length_set] at hj
    obtain ⟨e1, e2⟩ := set_at l (wideB l) (midB l + 1, hiAt l (wideB l)) hj
    rw [e1, e2]
    have hb := h.bd j hj
    by_cases e : j = wideB l
    · subst e; rw [if_pos rfl, if_pos rfl]; exact ⟨by show midB l + 1 ≤ _; omega, hb.2⟩
    · rw [if_neg e, if_neg e]; exact hb
theorem certN_judged {l : List (Int × Int)} (h : judgeB Ls low high l ≠ 3) (s : Nat) : certN Ls low high s l = judgeB Ls low high l := by
  cases s with
  | zero => rfl
  | succ s => rw [certN, if_pos (.inl h)]
end Go.Proofs.YtbdnjhnlfpfhcaaGreat

namespace Go.Proofs.YtbdnjhnlfpfhcaaGreat
set_option linter.unusedVariables false
set_option linter.unusedSimpArgs false

def allTo (p : Nat → Bool) : Nat → Bool
  | 0 => true
  | n + 1 => allTo p n && p n
theorem allTo_at {p : Nat → Bool} : ∀ {n : Nat}, allTo p n = true → ∀ {k : Nat}, k < n → p k = true
  | 0, _, k, hk => by omega
  | n + 1, h, k, hk => by
    simp only [allTo, Bool.and_eq_true] at h
    by_cases e : k = n
    · subst e; exact h.2
    · exact allTo_at h.1 (by omega)
theorem allTo_false {p : Nat → Bool} {k n : Nat} (hk : k < n) (h : p k = false) : allTo p n = false := by
  cases hc : allTo p n with
  | false => rfl
  | true => rw [allTo_at hc hk] at h; cases h
theorem allTo_succ {p : Nat → Bool} {n : Nat} (h : allTo p n = true) (h1 : p n = true) : allTo p (n + 1) = true := by simp only [allTo, h, h1, Bool.and_self]

theorem allIn_getD {lo hi : Int} {xs : List Int} (h : allIn lo hi xs = true) {k : Nat} (hk : k < xs.length) : lo ≤ xs[k]?.getD 0 ∧ xs[k]?.getD 0 ≤ hi := by
  rw [List.getElem?_eq_getElem hk]
  exact allIn_mem h (List.getElem_mem hk)
theorem allIn_of {lo hi : Int} {xs : List Int} (h : ∀ k, k < xs.length → lo ≤ xs[k]?.getD 0 ∧ xs[k]?.getD 0 ≤ hi) : allIn lo hi xs = true := by
  simp only [allIn, List.all_eq_true, Bool.and_eq_true, decide_eq_true_eq]
  intro x hx
  obtain ⟨k, hk, rfl⟩ := List.getElem_of_mem hx
  have := h k hk
  rwa [List.getElem?_eq_getElem hk] at this

def nIn (lo hi x : Int) : Bool := decide (lo ≤ x) && decide (x ≤ hi)
theorem nIn_true {lo hi x : Int} : nIn lo hi x = true ↔ lo ≤ x ∧ x ≤ hi := by simp [nIn]
def layAt (Ls : List LayN) (i : Nat) : LayN := Ls[i]?.getD ⟨[], []⟩
def wRowOk (b : Nat) (r : List Int) : Bool := decide (r.length = b) && allIn (-1000) 1000 r
/-- A layer is valid for so many numbers before it. -/
def lyOk (b : Nat) (L : LayN) : Bool :=
  decide (1 ≤ L.bs.length) && decide (L.bs.length ≤ 8) && decide (L.ws.length = L.bs.length) && allIn (-1000000) 1000000 L.bs && allTo (fun r => wRowOk b (L.ws[r]?.getD [])) L.ws.length
def widthN (b : Nat) (Ls : List LayN) : Nat → Nat
  | 0 => b
  | k + 1 => (layAt Ls k).bs.length
def lysOk (b : Nat) (Ls : List LayN) : Bool := allTo (fun k => lyOk (widthN b Ls k) (layAt Ls k)) Ls.length
structure NetN where
  w : Int
  h : Int
  gx : Int
  gy : Int
  Ls : List LayN
  low : Int
  high : Int
/-- How many features there are. -/
def NetN.nf (N : NetN) : Nat := (N.gx * N.gy).toNat
def sidesOk (N : NetN) : Bool := (nIn 1 16 N.w && nIn 1 16 N.h) && (nIn 1 4 N.gx && nIn 1 4 N.gy) && decide (N.w % N.gx = 0) && decide (N.h % N.gy = 0) && (decide (1 ≤ N.Ls.length) && decide (N.Ls.length ≤ 3))
def endOk (N : NetN) : Bool := decide (widthN N.nf N.Ls N.Ls.length = 1) && decide (N.low < N.high) && (nIn (-1152921504606846976) 1152921504606846976 N.low && nIn (-1152921504606846976) 1152921504606846976 N.high)
def netOk (N : NetN) : Bool := sidesOk N && lysOk N.nf N.Ls && endOk N

structure LyOk (b : Nat) (L : LayN) : Prop where
  b1 : 1 ≤ L.bs.length
  b8 : L.bs.length ≤ 8
  ws : L.ws.length = L.bs.length
  bs : allIn (-1000000) 1000000 L.bs = true
  row : ∀ k, k < L.bs.length → (L.ws[k]?.getD []).length = b ∧ allIn (-1000) 1000 (L.ws[k]?.getD []) = true
theorem lyOk_iff {b : Nat} {L : LayN} : lyOk b L = true ↔ LyOk b L := by
  unfold lyOk
  simp only [Bool.and_eq_true, decide_eq_true_eq]
  constructor
  · rintro ⟨⟨⟨⟨h1, h2⟩, h3⟩, h4⟩, h5⟩
    refine ⟨h1, h2, h3, h4, fun k hk => ?_⟩
    have := allTo_at h5 (k := k) (by omega)
    simpa [wRowOk] using this
  · rintro ⟨h1, h2, h3, h4, h5⟩
    refine ⟨⟨⟨⟨h1, h2⟩, h3⟩, h4⟩, ?_⟩
    rw [h3]
    have : ∀ n, n ≤ L.bs.length → allTo (fun r => wRowOk b (L.ws[r]?.getD [])) n = true := fun n => by
      induction n with
      | zero => intro _; rfl
      | succ n ih => intro hn; exact allTo_succ (ih (by omega)) (by simpa [wRowOk] using h5 n (by omega))
    exact this _ (Nat.le_refl _)
structure NetOk (N : NetN) : Prop where
  w : 1 ≤ N.w ∧ N.w ≤ 16
  h : 1 ≤ N.h ∧ N.h ≤ 16
  gx : 1 ≤ N.gx ∧ N.gx ≤ 4
  gy : 1 ≤ N.gy ∧ N.gy ≤ 4
  mx : N.w % N.gx = 0
  my : N.h % N.gy = 0
  l1 : 1 ≤ N.Ls.length
  l3 : N.Ls.length ≤ 3
  ly : ∀ k, k < N.Ls.length → LyOk (widthN N.nf N.Ls k) (layAt N.Ls k)
  one : widthN N.nf N.Ls N.Ls.length = 1
  lt : N.low < N.high
  low : -1152921504606846976 ≤ N.low ∧ N.low ≤ 1152921504606846976
  high : -1152921504606846976 ≤ N.high ∧ N.high ≤ 1152921504606846976
theorem netOk_of {N : NetN} (h : netOk N = true) : NetOk N := by
  simp only [netOk, sidesOk, endOk, Bool.and_eq_true, nIn_true, decide_eq_true_eq] at h
  obtain ⟨⟨⟨⟨⟨⟨⟨h1, h2⟩, h3, h4⟩, h5⟩, h6⟩, h7, h8⟩, h9⟩, ⟨h10, h11⟩, h12, h13⟩ := h
  exact ⟨h1, h2, h3, h4, h5, h6, h7, h8, fun k hk => lyOk_iff.1 (allTo_at h9 hk), h10, h11, h12, h13⟩
theorem NetOk.nf {N : NetN} (h : NetOk N) : 1 ≤ N.nf ∧ N.nf ≤ 16 ∧ (N.nf : Int) = N.gx * N.gy := by
  have h1 := h.gx
  have h2 := h.gy
  have h3 : 1 * 1 ≤ N.gx * N.gy := Int.mul_le_mul (by omega) (by omega) (by omega) (by omega)
  have h4 : N.gx * N.gy ≤ 4 * 4 := Int.mul_le_mul (by omega) (by omega) (by omega) (by omega)
  unfold NetN.nf
  omega

/-! ### The numbers behind each layer -/

def numAt (Ls : List LayN) (l : List Int) : Nat → List Int
  | 0 => l
  | i + 1 => layL (layAt Ls i) (decide (i + 1 < Ls.length)) (numAt Ls l i)
def bndAt (Ls : List LayN) (l : List (Int × Int)) : Nat → List (Int × Int)
  | 0 => l
  | i + 1 => layB (layAt Ls i) (decide (i + 1 < Ls.length)) (bndAt Ls l i)
theorem drop_lay {Ls : List LayN} {i : Nat} (hi : i < Ls.length) : Ls.drop i = layAt Ls i :: Ls.drop (i + 1) := by
  rw [List.drop_eq_getElem_cons hi]
  unfold layAt
  rw [List.getElem?_eq_getElem hi]
  rfl
theorem drop_more {Ls : List LayN} (i : Nat) : (!(Ls.drop (i + 1)).isEmpty) = decide (i + 1 < Ls.length) := by
  by_cases h : i + 1 < Ls.length
  · rw [drop_lay h]; simp [h]
  · rw [List.drop_eq_nil_of_le (by omega)]; simp [h]
theorem fwdL_drop (Ls : List LayN) (l : List Int) : ∀ k i, i + k = Ls.length → fwdL (Ls.drop i) (numAt Ls l i) = numAt Ls l Ls.length
  | 0, i, h => by
    have : i = Ls.length := by omega
    subst this
    rw [List.drop_length]; rfl
  | k + 1, i, h => by
    rw [drop_lay (by omega), fwdL, drop_more]
    exact fwdL_drop Ls l k (i + 1) (by omega)
theorem fwdB_drop (Ls : List LayN) (l : List (Int × Int)) : ∀ k i, i + k = Ls.length → fwdB (Ls.drop i) (bndAt Ls l i) = bndAt Ls l Ls.length
  | 0, i, h => by
    have : i = Ls.length := by omega
    subst this
    rw [List.drop_length]; rfl
  | k + 1, i, h => by
    rw [drop_lay (by omega), fwdB, drop_more]
    exact fwdB_drop Ls l k (i + 1) (by omega)
theorem scoreN_at (Ls : List LayN) (l : List Int) : scoreN Ls l = (numAt Ls l Ls.length)[0]?.getD 0 := by
  unfold scoreN
  have := fwdL_drop Ls l Ls.length 0 (by omega)
  rw [List.drop_zero] at this
  rw [← this]; rfl
theorem fwdB_at (Ls : List LayN) (l : List (Int × Int)) : fwdB Ls l = bndAt Ls l Ls.length := by
  have := fwdB_drop Ls l Ls.length 0 (by omega)
  rw [List.drop_zero] at this
  exact this
theorem numAt_len (Ls : List LayN) (l : List Int) : ∀ i, (numAt Ls l i).length = widthN l.length Ls i
  | 0 => rfl
  | i + 1 => by rw [numAt, layL_length]; rfl
theorem bndAt_len (Ls : List LayN) (l : List (Int × Int)) : ∀ i, (bndAt Ls l i).length = widthN l.length Ls i
  | 0 => rfl
  | i + 1 => by rw [bndAt, layB_length]; rfl

/-! ### How large they are -/

def Bn : Nat → Int
  | 0 => 65280
  | i + 1 => 1000000 + 16000 * Bn i
theorem Bn_pos : ∀ i, 0 ≤ Bn i
  | 0 => by decide
  | i + 1 => by have := Bn_pos i; simp only [Bn]; omega
theorem Bn_max {i : Nat} (h : i ≤ 3) : Bn i ≤ 1000000000000000000 := by
  have h0 : Bn 0 = 65280 := rfl
  have h1 : Bn 1 = 1000000 + 16000 * Bn 0 := rfl
  have h2 : Bn 2 = 1000000 + 16000 * Bn 1 := rfl
  have h3 : Bn 3 = 1000000 + 16000 * Bn 2 := rfl
  have : i = 0 ∨ i = 1 ∨ i = 2 ∨ i = 3 := by omega
  rcases this with rfl | rfl | rfl | rfl <;> omega
def LeB (B : Int) (l : List Int) : Prop := ∀ j : Nat, -B ≤ l[j]?.getD 0 ∧ l[j]?.getD 0 ≤ B
def LeP (B : Int) (l : List (Int × Int)) : Prop := ∀ j : Nat, (-B ≤ loAt l j ∧ loAt l j ≤ B) ∧ (-B ≤ hiAt l j ∧ hiAt l j ≤ B)
theorem w_mul_bd {w x B : Int} (h1 : -1000 ≤ w) (h2 : w ≤ 1000) (h3 : -B ≤ x) (h4 : x ≤ B) : -(1000 * B) ≤ w * x ∧ w * x ≤ 1000 * B := by
  rcases Int.le_total 0 w with hw | hw
  · have a1 : w * x ≤ w * B := Int.mul_le_mul_of_nonneg_left h4 hw
    have a2 : w * (-B) ≤ w * x := Int.mul_le_mul_of_nonneg_left h3 hw
    have a3 : w * B ≤ 1000 * B := Int.mul_le_mul_of_nonneg_right h2 (by omega)
    rw [Int.mul_neg] at a2
    omega
  · have a1 : w * x ≤ w * (-B) := Int.mul_le_mul_of_nonpos_left hw h3
    have a2 : w * B ≤ w * x := Int.mul_le_mul_of_nonpos_left hw h4
    have a3 : (-1000) * B ≤ w * B := Int.mul_le_mul_of_nonneg_right h1 (by omega)
    rw [Int.mul_neg] at a1
    omega
theorem wAt_bd {b : Nat} {L : LayN} (h : LyOk b L) {k j : Nat} (hk : k < L.bs.length) (hj : j < b) : -1000 ≤ wAt L k j ∧ wAt L k j ≤ 1000 := by
  obtain ⟨h1, h2⟩ := h.row k hk
  exact allIn_getD h2 (by omega)
theorem bAt_bd {b : Nat} {L : LayN} (h : LyOk b L) {k : Nat} (hk : k < L.bs.length) : -1000000 ≤ bAt L k ∧ bAt L k ≤ 1000000 := allIn_getD h.bs hk
/-- A sum that is under way. -/
def partL (L : LayN) (l : List Int) (k m : Nat) : Int := bAt L k + sumJ (fun j => wAt L k j * l[j]?.getD 0) m
def partLo (L : LayN) (l : List (Int × Int)) (k m : Nat) : Int := bAt L k + sumJ (fun j => loT (wAt L k j) (loAt l j) (hiAt l j)) m
def partHi (L : LayN) (l : List (Int × Int)) (k m : Nat) : Int := bAt L k + sumJ (fun j => hiT (wAt L k j) (loAt l j) (hiAt l j)) m
theorem sum_part {f : Nat → Int} {B c : Int} {m b : Nat} (hB : 0 ≤ B) (hb : b ≤ 16) (hm : m ≤ b) (hc : -1000000 ≤ c ∧ c ≤ 1000000) (hf : ∀ i, i < b → -(1000 * B) ≤ f i ∧ f i ≤ 1000 * B) :
    -(1000000 + 16000 * B) ≤ c + sumJ f m ∧ c + sumJ f m ≤ 1000000 + 16000 * B := by
  have h := sumJ_bd (f := f) (B := 1000 * B) (n := m) fun i hi => hf i (by omega)
  have h2 : 1000 * B * (m : Int) ≤ 1000 * B * 16 := Int.mul_le_mul_of_nonneg_left (by omega) (by omega)
  omega
theorem partL_bd {b : Nat} {L : LayN} {l : List Int} {B : Int} (h : LyOk b L) (hb : b ≤ 16) (hB : 0 ≤ B) (hl : LeB B l) {k m : Nat} (hk : k < L.bs.length) (hm : m ≤ b) :
    -(1000000 + 16000 * B) ≤ partL L l k m ∧ partL L l k m ≤ 1000000 + 16000 * B :=
  sum_part hB hb hm (bAt_bd h hk) fun j hj => w_mul_bd (wAt_bd h hk hj).1 (wAt_bd h hk hj).2 (hl j).1 (hl j).2
theorem loT_bd {w x y B : Int} (h1 : -1000 ≤ w) (h2 : w ≤ 1000) (hx : -B ≤ x ∧ x ≤ B) (hy : -B ≤ y ∧ y ≤ B) : -(1000 * B) ≤ loT w x y ∧ loT w x y ≤ 1000 * B := by
  unfold loT; split
  · exact w_mul_bd h1 h2 hy.1 hy.2
  · exact w_mul_bd h1 h2 hx.1 hx.2
theorem hiT_bd {w x y B : Int} (h1 : -1000 ≤ w) (h2 : w ≤ 1000) (hx : -B ≤ x ∧ x ≤ B) (hy : -B ≤ y ∧ y ≤ B) : -(1000 * B) ≤ hiT w x y ∧ hiT w x y ≤ 1000 * B := by
  unfold hiT; split
  · exact w_mul_bd h1 h2 hx.1 hx.2
  · exact w_mul_bd h1 h2 hy.1 hy.2
theorem partLo_bd {b : Nat} {L : LayN} {l : List (Int × Int)} {B : Int} (h : LyOk b L) (hb : b ≤ 16) (hB : 0 ≤ B) (hl : LeP B l) {k m : Nat} (hk : k < L.bs.length) (hm : m ≤ b) :
    -(1000000 + 16000 * B) ≤ partLo L l k m ∧ partLo L l k m ≤ 1000000 + 16000 * B :=
  sum_part hB hb hm (bAt_bd h hk) fun j hj => loT_bd (wAt_bd h hk hj).1 (wAt_bd h hk hj).2 (hl j).1 (hl j).2
theorem partHi_bd {b : Nat} {L : LayN} {l : List (Int × Int)} {B : Int} (h : LyOk b L) (hb : b ≤ 16) (hB : 0 ≤ B) (hl : LeP B l) {k m : Nat} (hk : k < L.bs.length) (hm : m ≤ b) :
    -(1000000 + 16000 * B) ≤ partHi L l k m ∧ partHi L l k m ≤ 1000000 + 16000 * B :=
  sum_part hB hb hm (bAt_bd h hk) fun j hj => hiT_bd (wAt_bd h hk hj).1 (wAt_bd h hk hj).2 (hl j).1 (hl j).2
theorem cutI_bd {c : Bool} {s B : Int} (h : -B ≤ s ∧ s ≤ B) : -B ≤ cutI c s ∧ cutI c s ≤ B := by unfold cutI; split <;> omega
theorem LeB.next {b : Nat} {L : LayN} {l : List Int} {B : Int} (h : LyOk b L) (hb : b ≤ 16) (hB : 0 ≤ B) (hl : LeB B l) (hn : l.length = b) (c : Bool) : LeB (1000000 + 16000 * B) (layL L c l) := fun k => by
  by_cases hk : k < L.bs.length
  · unfold layL
    rw [getD_map_range _ _ hk]
    unfold layF
    rw [hn]
    exact cutI_bd (partL_bd h hb hB hl hk (Nat.le_refl _))
  · rw [List.getElem?_eq_none (by rw [layL_length]; omega)]
    show _ ≤ (0 : Int) ∧ (0 : Int) ≤ _
    omega
theorem LeP.next {b : Nat} {L : LayN} {l : List (Int × Int)} {B : Int} (h : LyOk b L) (hb : b ≤ 16) (hB : 0 ≤ B) (hl : LeP B l) (hn : l.length = b) (c : Bool) : LeP (1000000 + 16000 * B) (layB L c l) := fun k => by
  by_cases hk : k < L.bs.length
  · obtain ⟨e1, e2⟩ := layB_at (c := c) (l := l) hk
    rw [e1, e2]
    unfold layBF
    rw [hn]
    exact ⟨cutI_bd (partLo_bd h hb hB hl hk (Nat.le_refl _)), cutI_bd (partHi_bd h hb hB hl hk (Nat.le_refl _))⟩
  · unfold loAt hiAt
    rw [List.getElem?_eq_none (by rw [layB_length]; omega)]
    show (_ ≤ (0 : Int) ∧ (0 : Int) ≤ _) ∧ (_ ≤ (0 : Int) ∧ (0 : Int) ≤ _)
    omega
theorem width_le {N : NetN} (h : NetOk N) {i : Nat} (hi : i ≤ N.Ls.length) : 1 ≤ widthN N.nf N.Ls i ∧ widthN N.nf N.Ls i ≤ 16 := by
  cases i with
  | zero => exact ⟨h.nf.1, h.nf.2.1⟩
  | succ i =>
    have := h.ly i (by omega)
    have h1 := this.b1
    have h2 := this.b8
    show 1 ≤ (layAt N.Ls i).bs.length ∧ (layAt N.Ls i).bs.length ≤ 16
    omega
theorem numAt_bd {N : NetN} (h : NetOk N) {l : List Int} (hn : l.length = N.nf) (hl : LeB 65280 l) : ∀ i, i ≤ N.Ls.length → LeB (Bn i) (numAt N.Ls l i)
  | 0, _ => hl
  | i + 1, hi => LeB.next (h.ly i (by omega)) (width_le h (by omega)).2 (Bn_pos i) (numAt_bd h hn hl i (by omega)) (by rw [numAt_len, hn]) _
theorem bndAt_bd {N : NetN} (h : NetOk N) {l : List (Int × Int)} (hn : l.length = N.nf) (hl : LeP 65280 l) : ∀ i, i ≤ N.Ls.length → LeP (Bn i) (bndAt N.Ls l i)
  | 0, _ => hl
  | i + 1, hi => LeP.next (h.ly i (by omega)) (width_le h (by omega)).2 (Bn_pos i) (bndAt_bd h hn hl i (by omega)) (by rw [bndAt_len, hn]) _

end Go.Proofs.YtbdnjhnlfpfhcaaGreat

namespace Go.Proofs.YtbdnjhnlfpfhcaaGreat
open Go Go.RowKit Go.Shelf
set_option linter.unusedVariables false
set_option linter.unusedSimpArgs false

/-- The slice at 'a' reads as the slices of ints 'xss', in blocks below 'B'. -/
def RdW (B : Nat) (W : World) (a : Option Addr) (xss : List (List Int)) : Prop :=
  xss = [] ∨ ∃ b o, a = some ⟨b, o, none⟩ ∧ b < B ∧ ∀ i, i < xss.length → ∃ a' c', W.cell? ⟨b, o + i, none⟩ = some (.slice a' (xss[i]?.getD []).length c') ∧ Rd B W a' (xss[i]?.getD [])
theorem RdW.below {B B' : Nat} {W W' : World} {a : Option Addr} {xss : List (List Int)} (h : RdW B W a xss) (hB : B ≤ B') (hb : Below B' W W') : RdW B W' a xss := by
  rcases h with h | ⟨b, o, h1, h2, h3⟩
  · exact .inl h
  · refine .inr ⟨b, o, h1, h2, fun i hi => ?_⟩
    obtain ⟨a', c', h4, h5⟩ := h3 i hi
    exact ⟨a', c', (hb.cell (p := ⟨b, o + i, none⟩) (by show b < B'; omega)).trans h4, h5.below hB hb⟩
theorem RdW.mono {B B' : Nat} {W : World} {a : Option Addr} {xss : List (List Int)} (h : RdW B W a xss) (hB : B ≤ B') : RdW B' W a xss := by
  rcases h with h | ⟨b, o, h1, h2, h3⟩
  · exact .inl h
  · refine .inr ⟨b, o, h1, by omega, fun i hi => ?_⟩
    obtain ⟨a', c', h4, h5⟩ := h3 i hi
    exact ⟨a', c', h4, h5.mono hB⟩
theorem RdW.at {B : Nat} {W : World} {a : Option Addr} {xss : List (List Int)} (h : RdW B W a xss) {i : Nat} (hi : i < xss.length) :
    ∃ b o, a = some ⟨b, o, none⟩ ∧ b < B ∧ ∃ a' c', W.cell? ⟨b, o + i, none⟩ = some (.slice a' (xss[i]?.getD []).length c') ∧ Rd B W a' (xss[i]?.getD []) := by
  rcases h with h | ⟨b, o, h1, h2, h3⟩
  · subst h; simp at hi
  · exact ⟨b, o, h1, h2, h3 i hi⟩

/-- The slice at 'a' reads as the layers 'Ls', in blocks below 'B'. -/
def RdLs (B : Nat) (W : World) (a : Option Addr) (Ls : List LayN) : Prop :=
  Ls = [] ∨ ∃ b o, a = some ⟨b, o, none⟩ ∧ b < B ∧ ∀ i, i < Ls.length → ∃ wa wc ba bc, W.cell? ⟨b, o + i * 2, none⟩ = some (.slice wa (layAt Ls i).ws.length wc) ∧ W.cell? ⟨b, o + i * 2 + 1, none⟩ = some (.slice ba (layAt Ls i).bs.length bc) ∧
    RdW B W wa (layAt Ls i).ws ∧ Rd B W ba (layAt Ls i).bs
theorem RdLs.below {B B' : Nat} {W W' : World} {a : Option Addr} {Ls : List LayN} (h : RdLs B W a Ls) (hB : B ≤ B') (hb : Below B' W W') : RdLs B W' a Ls := by
  rcases h with h | ⟨b, o, h1, h2, h3⟩
  · exact .inl h
  · refine .inr ⟨b, o, h1, h2, fun i hi => ?_⟩
    obtain ⟨wa, wc, ba, bc, h4, h5, h6, h7⟩ := h3 i hi
    exact ⟨wa, wc, ba, bc, (hb.cell (p := ⟨b, o + i * 2, none⟩) (by show b < B'; omega)).trans h4, (hb.cell (p := ⟨b, o + i * 2 + 1, none⟩) (by show b < B'; omega)).trans h5, h6.below hB hb, h7.below hB hb⟩
theorem RdLs.mono {B B' : Nat} {W : World} {a : Option Addr} {Ls : List LayN} (h : RdLs B W a Ls) (hB : B ≤ B') : RdLs B' W a Ls := by
  rcases h with h | ⟨b, o, h1, h2, h3⟩
  · exact .inl h
  · refine .inr ⟨b, o, h1, by omega, fun i hi => ?_⟩
    obtain ⟨wa, wc, ba, bc, h4, h5, h6, h7⟩ := h3 i hi
    exact ⟨wa, wc, ba, bc, h4, h5, h6.mono hB, h7.mono hB⟩
theorem RdLs.at {B : Nat} {W : World} {a : Option Addr} {Ls : List LayN} (h : RdLs B W a Ls) {i : Nat} (hi : i < Ls.length) :
    ∃ b o, a = some ⟨b, o, none⟩ ∧ b < B ∧ ∃ wa wc ba bc, W.cell? ⟨b, o + i * 2, none⟩ = some (.slice wa (layAt Ls i).ws.length wc) ∧ W.cell? ⟨b, o + i * 2 + 1, none⟩ = some (.slice ba (layAt Ls i).bs.length bc) ∧
      RdW B W wa (layAt Ls i).ws ∧ Rd B W ba (layAt Ls i).bs := by
  rcases h with h | ⟨b, o, h1, h2, h3⟩
  · subst h; simp at hi
  · exact ⟨b, o, h1, h2, h3 i hi⟩

/-- What is read later. -/
theorem later_i {W W' : World} {a : Option Addr} {xs : List Int} (h : Rd W.heap.size W a xs) (hb : Below W.heap.size W W') : Rd W'.heap.size W' a xs := (h.below (Nat.le_refl _) hb).mono hb.size
theorem later_w {W W' : World} {a : Option Addr} {xs : List (List Int)} (h : RdW W.heap.size W a xs) (hb : Below W.heap.size W W') : RdW W'.heap.size W' a xs := (h.below (Nat.le_refl _) hb).mono hb.size
theorem later_l {W W' : World} {a : Option Addr} {xs : List LayN} (h : RdLs W.heap.size W a xs) (hb : Below W.heap.size W W') : RdLs W'.heap.size W' a xs := (h.below (Nat.le_refl _) hb).mono hb.size

/-- A network's value. -/
abbrev netv (N : NetN) (a : Option Addr) (n c : Nat) : Value := .agg #[.int .i64 N.w, .int .i64 N.h, .int .i64 N.gx, .int .i64 N.gy, .slice a n c, .int .i64 N.low, .int .i64 N.high]
/-- No slice of a network is longer than any can be. -/
structure NetSz (N : NetN) : Prop where
  n : N.Ls.length ≤ 9223372036854775807
  ly : ∀ i, (layAt N.Ls i).ws.length ≤ 9223372036854775807 ∧ (layAt N.Ls i).bs.length ≤ 9223372036854775807
  row : ∀ i k : Nat, ((layAt N.Ls i).ws[k]?.getD []).length ≤ 9223372036854775807

theorem jw1 (lo hi x : Int) (v : Bool) (hv : nIn lo hi x = v) (b o c : Nat) (w : World) (h : w.cell? ⟨b, o, none⟩ = some (.int .i64 x)) :
    Calls Tryz.prog 23 #[.int .i64 lo, .int .i64 hi, .slice (some ⟨b, o, none⟩) 1 c] w fun e w' => e = .returned (.bool v) ∧ w = w' := by
  subst hv
  have h' := jwithin_any lo hi (some ⟨b, o, none⟩) c [x] w (by simp) (.inr ⟨b, o, rfl, World.block_lt_of_cell? w _ h, fun i hi => by
    have : i = 0 := by simp at hi; omega
    subst this; exact h⟩)
  simpa [allIn, nIn] using h'
theorem jw2 (lo hi x y : Int) (v : Bool) (hv : (nIn lo hi x && nIn lo hi y) = v) (b o c : Nat) (w : World) (h : w.cell? ⟨b, o, none⟩ = some (.int .i64 x)) (h1 : w.cell? ⟨b, o + 1, none⟩ = some (.int .i64 y)) :
    Calls Tryz.prog 23 #[.int .i64 lo, .int .i64 hi, .slice (some ⟨b, o, none⟩) 2 c] w fun e w' => e = .returned (.bool v) ∧ w = w' := by
  subst hv
  have h' := jwithin_any lo hi (some ⟨b, o, none⟩) c [x, y] w (by simp) (.inr ⟨b, o, rfl, World.block_lt_of_cell? w _ h, fun i hi => by
    have : i = 0 ∨ i = 1 := by simp at hi; omega
    rcases this with rfl | rfl
    · exact h
    · exact h1⟩)
  simpa [allIn, nIn] using h'
theorem jwn (lo hi : Int) (v : Bool) (xs : List Int) (hv : allIn lo hi xs = v) (a : Option Addr) (c n : Nat) (hn : xs.length = n) (hl : n ≤ 9223372036854775807) (w : World) (hr : Rd w.heap.size w a xs) :
    Calls Tryz.prog 23 #[.int .i64 lo, .int .i64 hi, .slice a n c] w fun e w' => e = .returned (.bool v) ∧ w = w' := by
  subst hv
  subst hn
  exact jwithin_any lo hi a c xs w hl hr

end Go.Proofs.YtbdnjhnlfpfhcaaGreat

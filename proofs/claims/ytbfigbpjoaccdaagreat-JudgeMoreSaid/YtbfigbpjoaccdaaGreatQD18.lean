/- Contracts and laws (ImgT, ImgU, ImgV, Spread, SpL, RpB). -/
import Derived.Maps.Own
import Derived.Test.YtbfigbpjoaccdaaGreatQD17
import Derived.Test.YtbfigbpjoaccdaaGreatQD4
import Derived.Test.YtbfigbpjoaccdaaGreatQD6
import Derived.Test.YtbfigbpjoaccdaaGreatQD11
namespace Go.Proofs.YtbfigbpjoaccdaaGreat
open Go Go.RowKit Go.Shelf
set_option linter.unusedVariables false
set_option linter.unusedSimpArgs false

/-- What Dilate (mx) and Erode return. -/
def morS (mx : Bool) (iw ih : Int) (xs : List Int) (sw sh : Int) (bits : List Bool) : ImR :=
  if vld iw ih xs = true then (if shapeOk sw sh bits = true then { w := iw, h := ih, px := img iw.toNat ih.toNat (morG mx iw ih xs sw.toNat sh.toNat bits), err := 0 } else noIm 22) else noIm 20

theorem most_any (u v : Int) (w : World) : Calls Tryz.prog 98 #[.int .i64 u, .int .i64 v] w fun e w' => e = .returned (.int .i64 (max u v)) ∧ w = w' := by
  go_enter Tryz.func98, Tryz.ntmps98
  go_wp2
  all_goals (go_ret; exact ⟨ret_int (by omega), rfl⟩)
theorem least_any (u v : Int) (w : World) : Calls Tryz.prog 97 #[.int .i64 u, .int .i64 v] w fun e w' => e = .returned (.int .i64 (min u v)) ∧ w = w' := by
  go_enter Tryz.func97, Tryz.ntmps97
  go_wp2
  all_goals (go_ret; exact ⟨ret_int (by omega), rfl⟩)

set_option maxRecDepth 100000 in
set_option maxHeartbeats 4000000 in
theorem morph_any (mx : Bool) (iw ih : Int) (a : Option Addr) (c n : Nat) (xs : List Int) (hn : Hid (xs.length = n)) (sw sh : Int) (as' : Option Addr) (cs ns : Nat) (bits : List Bool) (hbn : Hid (bits.length = ns))
    (fo : Nat) (eg : ∀ args w, (callFunc fo args).run Tryz.prog w = .ok (.enter fo args) w) (hfo : ∀ (u v : Int) (w : World), Calls Tryz.prog fo #[.int .i64 u, .int .i64 v] w fun e w' => e = .returned (.int .i64 (if mx = true then max u v else min u v)) ∧ w = w')
    (w : World) (hm : n ≤ 9223372036854775807) (hr : Rd w.heap.size w a xs) (hms : ns ≤ 9223372036854775807) (hrb : RdB w.heap.size w as' bits) :
    Calls Tryz.prog 96 #[imv iw ih a n c, imv sw sh as' ns cs, .int .i64 (morSg mx), .int .i64 (if mx = true then -2147483648 else 2147483648), .func (.func fo) #[] #[]] w (RetIm w.heap.size (morS mx iw ih xs sw sh bits) w) := by
  obtain ⟨st, hst⟩ : ∃ v : Int, (if mx = true then (-2147483648 : Int) else 2147483648) = v := ⟨_, rfl⟩
  obtain ⟨sg, hsg⟩ : ∃ v : Int, morSg mx = v := ⟨_, rfl⟩
  rw [hst, hsg]
  have hstH := Lib.hid hst
  have hsgH := Lib.hid hsg
  have hfoH := Lib.hid hfo
  clear hst hsg hfo
  have hB0 : Below w.heap.size w ((((((w.alloc (.cells #[.int .i64 iw, .int .i64 ih, .slice a n c] 27)).alloc (.cells #[.int .i64 sw, .int .i64 sh, .slice as' ns cs] 111)).alloc (.cells #[.int .i64 sg] 3)).alloc (.cells #[.int .i64 st] 3)).alloc (.cells #[.func (.func fo) #[] #[]] 131)).alloc (.cells #[.int .i64 0, .int .i64 0, .slice none 0 0] 27)) := below_al (below_al (below_al (below_al (below_al (below_al (Below.refl _ _) _) _) _) _) _) _
  obtain ⟨v0, hv⟩ : ∃ v, vld iw ih xs = v := ⟨_, rfl⟩
  have v0H := Lib.hid hv
  obtain ⟨v1, hv1⟩ : ∃ v, sidesB sw sh ns = v := ⟨_, rfl⟩
  have v1H := Lib.hid hv1
  obtain ⟨v2, hv2⟩ : ∃ v, bits.any (fun x => decide (true = x)) = v := ⟨_, rfl⟩
  have v2H := Lib.hid hv2
  have hsp := Lib.hid (show morS mx iw ih xs sw sh bits = if v0 = true then (if (v1 && v2) = true then { w := iw, h := ih, px := img iw.toNat ih.toNat (morG mx iw ih xs sw.toNat sh.toNat bits), err := 0 } else noIm 22) else noIm 20 by unfold morS shapeOk; rw [hbn.out, hv, hv1, hv2])
  clear hv hv1 hv2
  go_enter Tryz.func96, Tryz.ntmps96
  go_wp2_with fail
  refine (valid_any iw ih a c xs n hn _ hm ((hr.below (Nat.le_refl _) hB0).mono hB0.size)).mono ?_
  rintro e W1 ⟨rfl, hb1⟩
  rw [v0H.out]
  have hB1 : Below w.heap.size w W1 := hB0.trans (hb1.mono hB0.size)
  have k5 := ((((((Blk.new w 27 #[.int .i64 iw, .int .i64 ih, .slice a n c]).alloc (.cells #[.int .i64 sw, .int .i64 sh, .slice as' ns cs] 111)).alloc (.cells #[.int .i64 sg] 3)).alloc (.cells #[.int .i64 st] 3)).alloc (.cells #[.func (.func fo) #[] #[]] 131)).alloc (.cells #[.int .i64 0, .int .i64 0, .slice none 0 0] 27)).below hb1 (by simp <;> omega)
  have k6 := (((((Blk.new (w.alloc (.cells #[.int .i64 iw, .int .i64 ih, .slice a n c] 27)) 111 #[.int .i64 sw, .int .i64 sh, .slice as' ns cs]).alloc (.cells #[.int .i64 sg] 3)).alloc (.cells #[.int .i64 st] 3)).alloc (.cells #[.func (.func fo) #[] #[]] 131)).alloc (.cells #[.int .i64 0, .int .i64 0, .slice none 0 0] 27)).below hb1 (by simp <;> omega)
  have k7 := ((((Blk.new ((w.alloc (.cells #[.int .i64 iw, .int .i64 ih, .slice a n c] 27)).alloc (.cells #[.int .i64 sw, .int .i64 sh, .slice as' ns cs] 111)) 3 #[.int .i64 sg]).alloc (.cells #[.int .i64 st] 3)).alloc (.cells #[.func (.func fo) #[] #[]] 131)).alloc (.cells #[.int .i64 0, .int .i64 0, .slice none 0 0] 27)).below hb1 (by simp <;> omega)
  have k8 := (((Blk.new (((w.alloc (.cells #[.int .i64 iw, .int .i64 ih, .slice a n c] 27)).alloc (.cells #[.int .i64 sw, .int .i64 sh, .slice as' ns cs] 111)).alloc (.cells #[.int .i64 sg] 3)) 3 #[.int .i64 st]).alloc (.cells #[.func (.func fo) #[] #[]] 131)).alloc (.cells #[.int .i64 0, .int .i64 0, .slice none 0 0] 27)).below hb1 (by simp <;> omega)
  have k9 := ((Blk.new ((((w.alloc (.cells #[.int .i64 iw, .int .i64 ih, .slice a n c] 27)).alloc (.cells #[.int .i64 sw, .int .i64 sh, .slice as' ns cs] 111)).alloc (.cells #[.int .i64 sg] 3)).alloc (.cells #[.int .i64 st] 3)) 131 #[.func (.func fo) #[] #[]]).alloc (.cells #[.int .i64 0, .int .i64 0, .slice none 0 0] 27)).below hb1 (by simp <;> omega)
  have k := (Blk.new (((((w.alloc (.cells #[.int .i64 iw, .int .i64 ih, .slice a n c] 27)).alloc (.cells #[.int .i64 sw, .int .i64 sh, .slice as' ns cs] 111)).alloc (.cells #[.int .i64 sg] 3)).alloc (.cells #[.int .i64 st] 3)).alloc (.cells #[.func (.func fo) #[] #[]] 131)) 27 #[.int .i64 0, .int .i64 0, .slice none 0 0]).below hb1 (by simp <;> omega)
  simp only [World.size_alloc] at k6 k7 k8 k9 k
  clear hb1 hB0
  have m0 := k5.cell (i := 0) rfl
  have m1 := k5.cell (i := 1) rfl
  have m2 := k5.cell (i := 2) rfl
  have s0 := k6.cell (i := 0) rfl
  have s1 := k6.cell (i := 1) rfl
  have s2 := k6.cell (i := 2) rfl
  have g0 := k7.cell (i := 0) rfl
  have t0 := k8.cell (i := 0) rfl
  have f0 := k9.cell (i := 0) rfl
  have c0 := k.cell (i := 0) rfl
  have c1 := k.cell (i := 1) rfl
  have c2 := k.cell (i := 2) rfl
  have fc0 := k.frozen 0
  have fc1 := k.frozen 1
  have fc2 := k.frozen 2
  cases v0 with
  | false =>
    go_wp2_with fail
    have kf := put3_blk k (.int .i64 0) (.int .i64 0) (.slice none 0 0)
    have g0 := kf.cell (i := 0) rfl
    have g1 := kf.cell (i := 1) rfl
    have g2 := kf.cell (i := 2) rfl
    exact bodyPost_ret (v := .tuple #[.agg #[.int .i64 0, .int .i64 0, .slice none 0 0], .int .i64 20]) (by simp [results, Tryz.results96, go_sem, g0, g1, g2]) rfl ⟨⟨_, by rw [hsp.out]; rfl, by rw [hsp.out]; exact OwnIm_nil _ _⟩, hB1.trans (put3_below (by omega) _ _ _)⟩
  | true =>
    go_wp2_with fail
    refine (sides_any sw sh ns v1 v1H W1).mono ?_
    rintro e W2 ⟨rfl, hb⟩
    have hB2 := hB1.trans (hb.mono hB1.size)
    clear m0 m1 m2
    replace k5 := k5.below hb k5.lt
    have m0 := k5.cell (i := 0) rfl
    have m1 := k5.cell (i := 1) rfl
    have m2 := k5.cell (i := 2) rfl
    clear s0 s1 s2
    replace k6 := k6.below hb k6.lt
    have s0 := k6.cell (i := 0) rfl
    have s1 := k6.cell (i := 1) rfl
    have s2 := k6.cell (i := 2) rfl
    clear g0
    replace k7 := k7.below hb k7.lt
    have g0 := k7.cell (i := 0) rfl
    clear t0
    replace k8 := k8.below hb k8.lt
    have t0 := k8.cell (i := 0) rfl
    clear f0
    replace k9 := k9.below hb k9.lt
    have f0 := k9.cell (i := 0) rfl
    clear c0 c1 c2 fc0 fc1 fc2
    replace k := k.below hb k.lt
    have c0 := k.cell (i := 0) rfl
    have c1 := k.cell (i := 1) rfl
    have c2 := k.cell (i := 2) rfl
    have fc0 := k.frozen 0
    have fc1 := k.frozen 1
    have fc2 := k.frozen 2
    clear hb hB1
    cases v1 with
    | false =>
      go_wp2_with fail
      have kf := put3_blk k (.int .i64 0) (.int .i64 0) (.slice none 0 0)
      have g0 := kf.cell (i := 0) rfl
      have g1 := kf.cell (i := 1) rfl
      have g2 := kf.cell (i := 2) rfl
      exact bodyPost_ret (v := .tuple #[.agg #[.int .i64 0, .int .i64 0, .slice none 0 0], .int .i64 22]) (by simp [results, Tryz.results96, go_sem, g0, g1, g2]) rfl ⟨⟨_, by rw [hsp.out]; rfl, by rw [hsp.out]; exact OwnIm_nil _ _⟩, hB2.trans (put3_below (by omega) _ _ _)⟩
    | true =>
      go_wp2_with fail
      refine (contains_bool true v2 as' cs ns bits hbn v2H W2 hms ((hrb.below (Nat.le_refl _) hB2).mono hB2.size)).mono ?_
      rintro e w2 ⟨rfl, rfl⟩
      cases v2 with
      | false =>
        go_wp2_with fail
        have kf := put3_blk k (.int .i64 0) (.int .i64 0) (.slice none 0 0)
        have g0 := kf.cell (i := 0) rfl
        have g1 := kf.cell (i := 1) rfl
        have g2 := kf.cell (i := 2) rfl
        exact bodyPost_ret (v := .tuple #[.agg #[.int .i64 0, .int .i64 0, .slice none 0 0], .int .i64 22]) (by simp [results, Tryz.results96, go_sem, g0, g1, g2]) rfl ⟨⟨_, by rw [hsp.out]; rfl, by rw [hsp.out]; exact OwnIm_nil _ _⟩, hB2.trans (put3_below (by omega) _ _ _)⟩
      | true =>
        obtain ⟨⟨i1, i2⟩, ⟨i3, i4⟩, hlen, hall⟩ := vld_true v0H.out
        rw [hn.out] at hlen
        have hlenH := Lib.hid hlen
        have hallH := Lib.hid hall
        clear hlen hall
        obtain ⟨s1, s2, s3⟩ := sidesB_true v1H.out
        obtain ⟨pw, rfl⟩ : ∃ pw : Nat, iw = (pw : Int) := ⟨iw.toNat, by omega⟩
        obtain ⟨ph, rfl⟩ : ∃ ph : Nat, ih = (ph : Int) := ⟨ih.toNat, by omega⟩
        obtain ⟨tw, rfl⟩ : ∃ tw : Nat, sw = (tw : Int) := ⟨sw.toNat, by omega⟩
        obtain ⟨th, rfl⟩ : ∃ th : Nat, sh = (th : Int) := ⟨sh.toNat, by omega⟩
        have htn := Lib.hid (show tw * th = ns by
          have e : ((tw * th : Nat) : Int) = (tw : Int) * (th : Int) := by simp
          omega)
        have t1 : tw = 1 ∨ tw = 3 ∨ tw = 5 := by omega
        have t2 : th = 1 ∨ th = 3 ∨ th = 5 := by omega
        clear s1 s2 s3
        go_wp2_with fail
        refine (made_any pw ph (by omega) (by omega) (by omega) (by omega) 128 #[.pointer (some ⟨w.heap.size + 1 + 1 + 1, 0, none⟩), .pointer (some ⟨w.heap.size + 1, 0, none⟩), .pointer (some ⟨w.heap.size + 1 + 1, 0, none⟩), .pointer (some ⟨w.heap.size, 0, none⟩), .pointer (some ⟨w.heap.size + 1 + 1 + 1 + 1, 0, none⟩)] (enters_of Tryz.func128 (by kernel_rfl) rfl) (morG mx pw ph xs tw th bits) W2 (fun x y W hx hy hb => ?_)).mono ?_
        · have hBW := hB2.trans (hb.mono hB2.size)
          exact Morph1_any mx pw ph a c n xs hn hallH tw th as' cs ns bits hbn t1 t2 htn fo eg hfoH.out x y _ _ _ _ _ W i1 i2 i3 i4 hlenH (by omega) (by omega) (by omega) (by omega) (by rw [hstH.out]; exact k8.below hb k8.lt) (k6.below hb k6.lt) (by rw [hsgH.out]; exact k7.below hb k7.lt) (k5.below hb k5.lt) (k9.below hb k9.lt) ((hr.below (Nat.le_refl _) hBW).mono hBW.size) ((hrb.below (Nat.le_refl _) hBW).mono hBW.size)
        rintro e W3 ⟨v, rfl, ⟨s, rfl, hrow⟩, hb2⟩
        clear m0 m1 m2 s0 s1 s2 g0 t0 f0 c0 c1 c2 fc0 fc1 fc2
        have k2 := k.below hb2 k.lt
        have c0 := k2.cell (i := 0) rfl
        have c1 := k2.cell (i := 1) rfl
        have c2 := k2.cell (i := 2) rfl
        have fc0 := k2.frozen 0
        have fc1 := k2.frozen 1
        have fc2 := k2.frozen 2
        obtain ⟨sa, sc, rfl⟩ := row_slice hrow
        go_wp2_with fail
        have kf := put3_blk k2 (.int .i64 pw) (.int .i64 ph) (.slice sa (img pw ph (morG mx pw ph xs tw th bits)).length sc)
        have g0 := kf.cell (i := 0) rfl
        have g1 := kf.cell (i := 1) rfl
        have g2 := kf.cell (i := 2) rfl
        exact bodyPost_ret (v := .tuple #[.agg #[.int .i64 pw, .int .i64 ph, .slice sa (img pw ph (morG mx pw ph xs tw th bits)).length sc], .int .i64 0]) (by simp [results, Tryz.results96, go_sem, g0, g1, g2]) rfl ⟨⟨_, by rw [hsp.out]; rfl, by rw [hsp.out]; exact OwnIm.weaken ⟨_, rfl, put3_row hrow (k2.not_row (by decide) hrow) _ _ _⟩ hB2.size⟩, (hB2.trans (hb2.mono hB2.size)).trans (put3_below (by omega) _ _ _)⟩


set_option maxRecDepth 100000 in
set_option maxHeartbeats 1000000 in
theorem Dilate_any (iw ih : Int) (a : Option Addr) (c n : Nat) (xs : List Int) (hn : Hid (xs.length = n)) (sw sh : Int) (as' : Option Addr) (cs ns : Nat) (bits : List Bool) (hbn : Hid (bits.length = ns)) (w : World) (hm : n ≤ 9223372036854775807) (hr : Rd w.heap.size w a xs) (hms : ns ≤ 9223372036854775807) (hrb : RdB w.heap.size w as' bits) :
    Calls Tryz.prog 58 #[imv iw ih a n c, imv sw sh as' ns cs] w (RetIm w.heap.size (morS true iw ih xs sw sh bits) w) := by
  obtain ⟨⟨qw, qh, qpx, qe⟩, hR⟩ : ∃ r, morS true iw ih xs sw sh bits = r := ⟨_, rfl⟩
  have hRH := Lib.hid hR
  rw [hR]
  clear hR
  have hB0 : Below w.heap.size w (((w.alloc (.cells #[.int .i64 iw, .int .i64 ih, .slice a n c] 27)).alloc (.cells #[.int .i64 sw, .int .i64 sh, .slice as' ns cs] 111)).alloc (.cells #[.int .i64 0, .int .i64 0, .slice none 0 0] 27)) := below_al (below_al (below_al (Below.refl _ _) _) _) _
  go_enter Tryz.func58, Tryz.ntmps58
  go_wp2_with fail
  have hcall := morph_any true iw ih a c n xs hn sw sh as' cs ns bits hbn 98 (enters_of Tryz.func98 (by kernel_rfl) rfl) (fun u v w => by simpa using most_any u v w) (((w.alloc (.cells #[.int .i64 iw, .int .i64 ih, .slice a n c] 27)).alloc (.cells #[.int .i64 sw, .int .i64 sh, .slice as' ns cs] 111)).alloc (.cells #[.int .i64 0, .int .i64 0, .slice none 0 0] 27)) hm ((hr.below (Nat.le_refl _) hB0).mono hB0.size) hms ((hrb.below (Nat.le_refl _) hB0).mono hB0.size)
  rw [hRH.out] at hcall
  refine hcall.mono ?_
  clear hcall
  rintro e W1 ⟨⟨v, rfl, hv⟩, hb⟩
  obtain ⟨sl, rfl, hrow⟩ := hv
  obtain ⟨sa, sc, rfl⟩ := row_slice hrow
  replace hrow := row_base hrow hB0.size
  have k := (Blk.new ((w.alloc (.cells #[.int .i64 iw, .int .i64 ih, .slice a n c] 27)).alloc (.cells #[.int .i64 sw, .int .i64 sh, .slice as' ns cs] 111)) 27 #[.int .i64 0, .int .i64 0, .slice none 0 0]).below hb (by simp <;> omega)
  simp only [World.size_alloc] at k
  have hB1 := hB0.trans (hb.mono hB0.size)
  clear hb hB0
  have c0 := k.cell (i := 0) rfl
  have c1 := k.cell (i := 1) rfl
  have c2 := k.cell (i := 2) rfl
  have fc0 := k.frozen 0
  have fc1 := k.frozen 1
  have fc2 := k.frozen 2
  go_wp2_with fail
  have kf := put3_blk k (.int .i64 qw) (.int .i64 qh) (.slice sa qpx.length sc)
  have g0 := kf.cell (i := 0) rfl
  have g1 := kf.cell (i := 1) rfl
  have g2 := kf.cell (i := 2) rfl
  exact bodyPost_ret (v := .tuple #[.agg #[.int .i64 qw, .int .i64 qh, .slice sa qpx.length sc], .int .i64 qe]) (by simp [results, Tryz.results58, go_sem, g0, g1, g2]) rfl ⟨⟨_, rfl, ⟨_, rfl, put3_row hrow (k.not_row (by decide) hrow) _ _ _⟩⟩, hB1.trans (put3_below (by omega) _ _ _)⟩

set_option maxRecDepth 100000 in
set_option maxHeartbeats 1000000 in
theorem Erode_any (iw ih : Int) (a : Option Addr) (c n : Nat) (xs : List Int) (hn : Hid (xs.length = n)) (sw sh : Int) (as' : Option Addr) (cs ns : Nat) (bits : List Bool) (hbn : Hid (bits.length = ns)) (w : World) (hm : n ≤ 9223372036854775807) (hr : Rd w.heap.size w a xs) (hms : ns ≤ 9223372036854775807) (hrb : RdB w.heap.size w as' bits) :
    Calls Tryz.prog 57 #[imv iw ih a n c, imv sw sh as' ns cs] w (RetIm w.heap.size (morS false iw ih xs sw sh bits) w) := by
  obtain ⟨⟨qw, qh, qpx, qe⟩, hR⟩ : ∃ r, morS false iw ih xs sw sh bits = r := ⟨_, rfl⟩
  have hRH := Lib.hid hR
  rw [hR]
  clear hR
  have hB0 : Below w.heap.size w (((w.alloc (.cells #[.int .i64 iw, .int .i64 ih, .slice a n c] 27)).alloc (.cells #[.int .i64 sw, .int .i64 sh, .slice as' ns cs] 111)).alloc (.cells #[.int .i64 0, .int .i64 0, .slice none 0 0] 27)) := below_al (below_al (below_al (Below.refl _ _) _) _) _
  go_enter Tryz.func57, Tryz.ntmps57
  go_wp2_with fail
  have hcall := morph_any false iw ih a c n xs hn sw sh as' cs ns bits hbn 97 (enters_of Tryz.func97 (by kernel_rfl) rfl) (fun u v w => by simpa using least_any u v w) (((w.alloc (.cells #[.int .i64 iw, .int .i64 ih, .slice a n c] 27)).alloc (.cells #[.int .i64 sw, .int .i64 sh, .slice as' ns cs] 111)).alloc (.cells #[.int .i64 0, .int .i64 0, .slice none 0 0] 27)) hm ((hr.below (Nat.le_refl _) hB0).mono hB0.size) hms ((hrb.below (Nat.le_refl _) hB0).mono hB0.size)
  rw [hRH.out] at hcall
  refine hcall.mono ?_
  clear hcall
  rintro e W1 ⟨⟨v, rfl, hv⟩, hb⟩
  obtain ⟨sl, rfl, hrow⟩ := hv
  obtain ⟨sa, sc, rfl⟩ := row_slice hrow
  replace hrow := row_base hrow hB0.size
  have k := (Blk.new ((w.alloc (.cells #[.int .i64 iw, .int .i64 ih, .slice a n c] 27)).alloc (.cells #[.int .i64 sw, .int .i64 sh, .slice as' ns cs] 111)) 27 #[.int .i64 0, .int .i64 0, .slice none 0 0]).below hb (by simp <;> omega)
  simp only [World.size_alloc] at k
  have hB1 := hB0.trans (hb.mono hB0.size)
  clear hb hB0
  have c0 := k.cell (i := 0) rfl
  have c1 := k.cell (i := 1) rfl
  have c2 := k.cell (i := 2) rfl
  have fc0 := k.frozen 0
  have fc1 := k.frozen 1
  have fc2 := k.frozen 2
  go_wp2_with fail
  have kf := put3_blk k (.int .i64 qw) (.int .i64 qh) (.slice sa qpx.length sc)
  have g0 := kf.cell (i := 0) rfl
  have g1 := kf.cell (i := 1) rfl
  have g2 := kf.cell (i := 2) rfl
  exact bodyPost_ret (v := .tuple #[.agg #[.int .i64 qw, .int .i64 qh, .slice sa qpx.length sc], .int .i64 qe]) (by simp [results, Tryz.results57, go_sem, g0, g1, g2]) rfl ⟨⟨_, rfl, ⟨_, rfl, put3_row hrow (k.not_row (by decide) hrow) _ _ _⟩⟩, hB1.trans (put3_below (by omega) _ _ _)⟩

end Go.Proofs.YtbfigbpjoaccdaaGreat

namespace Go.Proofs.YtbfigbpjoaccdaaGreat
open Go Go.RowKit Go.Shelf
set_option linter.unusedVariables false
set_option linter.unusedSimpArgs false

theorem mor_img {mx : Bool} {xs : List Int} (h : allIn (-2147483648) 2147483648 xs = true) (iw ih : Int) (sw sh : Nat) (bits : List Bool) (x y : Int) : -2147483648 ≤ morG mx iw ih xs sw sh bits x y ∧ morG mx iw ih xs sw sh bits x y ≤ 2147483648 := mor_bd (fun _ => px_bd h _) _

end Go.Proofs.YtbfigbpjoaccdaaGreat

namespace Go.Proofs.YtbfigbpjoaccdaaGreat
open Go Go.RowKit Go.Shelf
set_option linter.unusedVariables false
set_option linter.unusedSimpArgs false

/-- The value for any place, by a border. -/
def beyF (bd iw ih : Int) (xs : List Int) (x y : Int) : Int :=
  if bd = 1 then (if (inR x 0 (iw - 1) && inR y 0 (ih - 1)) = true then px xs (y * iw + x) else 0)
  else if bd = 2 then px xs (clamp y 0 (ih - 1) * iw + clamp x 0 (iw - 1)) else px xs (y % ih * iw + x % iw)

theorem beyF_in {bd iw ih : Int} {xs : List Int} {x y : Int} (h : (inR x 0 (iw - 1) && inR y 0 (ih - 1)) = true) : beyF bd iw ih xs x y = px xs (y * iw + x) := by
  unfold beyF
  rw [if_pos h]
  simp only [Bool.and_eq_true, inR_true] at h
  rw [show clamp x 0 (iw - 1) = x by unfold clamp; omega, show clamp y 0 (ih - 1) = y by unfold clamp; omega, Int.emod_eq_of_lt (by omega) (by omega), Int.emod_eq_of_lt (by omega) (by omega)]
  split
  · rfl
  · split <;> rfl
theorem beyF_2 (iw ih : Int) (xs : List Int) (x y : Int) : beyF 2 iw ih xs x y = px xs (clamp y 0 (ih - 1) * iw + clamp x 0 (iw - 1)) := by unfold beyF; rw [if_neg (by decide), if_pos rfl]
end Go.Proofs.YtbfigbpjoaccdaaGreat

namespace Go.Proofs.YtbfigbpjoaccdaaGreat
open Go
set_option linter.unusedVariables false
set_option linter.unusedSimpArgs false

/-- A value with a gain of g percent and with a added, brought into the range of a camera. -/
def spV (g a v : Int) : Int := clamp (g * v / 100 + a) 0 255
theorem spV_mono {g a u v : Int} (hg : 0 ≤ g) (h : u ≤ v) : spV g a u ≤ spV g a v := by
  have h1 : g * u ≤ g * v := Int.mul_le_mul_of_nonneg_left h hg
  have h2 : g * u / 100 ≤ g * v / 100 := Int.ediv_le_ediv (by decide) h1
  unfold spV clamp
  omega
theorem spV_bd (g a v : Int) : 0 ≤ spV g a v ∧ spV g a v ≤ 255 := by unfold spV clamp; omega
theorem spV_point (g a v : Int) : pointF ⟨g, 100 * a, 100, 0, 255⟩ v = spV g a v := by
  unfold pointF spV
  show clamp ((g * v + 100 * a) / 100) 0 255 = _
  rw [Int.add_mul_ediv_left _ _ (by decide)]

/-- The value with shift number t of (2 s + 1)^2, beyond the border that of the nearest pixel. -/
def spB (pw ph : Nat) (xs : List Int) (s : Nat) (x y : Int) (t : Nat) : Int := beyF 2 pw ph xs (x + (((t % (2 * s + 1) : Nat) : Int) - (s : Int))) (y + (((t / (2 * s + 1) : Nat) : Int) - (s : Int)))
def spLo (f : Nat → Int) : Nat → Int
  | 0 => 255
  | t + 1 => min (spLo f t) (f t)
def spHi (f : Nat → Int) : Nat → Int
  | 0 => 0
  | t + 1 => max (spHi f t) (f t)
theorem le_spLo {f : Nat → Int} {B : Int} : ∀ {n : Nat}, B ≤ spLo f n ↔ B ≤ 255 ∧ ∀ t, t < n → B ≤ f t
  | 0 => ⟨fun h => ⟨h, fun t ht => by omega⟩, fun h => h.1⟩
  | n + 1 => by
    have ih := le_spLo (f := f) (B := B) (n := n)
    simp only [spLo]
    constructor
    · intro h
      have h1 := ih.1 (by omega)
      refine ⟨h1.1, fun t ht => ?_⟩
      by_cases e : t = n
      · subst e; omega
      · exact h1.2 t (by omega)
    · intro h
      have h1 := ih.2 ⟨h.1, fun t ht => h.2 t (by omega)⟩
      have := h.2 n (by omega)
      omega
theorem spHi_le {f : Nat → Int} {B : Int} : ∀ {n : Nat}, spHi f n ≤ B ↔ 0 ≤ B ∧ ∀ t, t < n → f t ≤ B
  | 0 => ⟨fun h => ⟨h, fun t ht => by omega⟩, fun h => h.1⟩
  | n + 1 => by
    have ih := spHi_le (f := f) (B := B) (n := n)
    simp only [spHi]
    constructor
    · intro h
      have h1 := ih.1 (by omega)
      refine ⟨h1.1, fun t ht => ?_⟩
      by_cases e : t = n
      · subst e; omega
      · exact h1.2 t (by omega)
    · intro h
      have h1 := ih.2 ⟨h.1, fun t ht => h.2 t (by omega)⟩
      have := h.2 n (by omega)
      omega
theorem spLo_bd {f : Nat → Int} (hf : ∀ t, 0 ≤ f t ∧ f t ≤ 255) (n : Nat) : 0 ≤ spLo f n ∧ spLo f n ≤ 255 := by
  induction n with
  | zero => simp [spLo]
  | succ n ih => have := hf n; simp only [spLo]; omega
theorem spHi_bd {f : Nat → Int} (hf : ∀ t, 0 ≤ f t ∧ f t ≤ 255) (n : Nat) : 0 ≤ spHi f n ∧ spHi f n ≤ 255 := by
  induction n with
  | zero => simp [spHi]
  | succ n ih => have := hf n; simp only [spHi]; omega

/-- The greatest, the least value is one of those that count. -/
theorem morTo_is {mx : Bool} {ok : Nat → Bool} {val : Nat → Int} (hv : ∀ t, -2147483648 ≤ val t ∧ val t ≤ 2147483648) : ∀ {n : Nat}, (∃ t, t < n ∧ ok t = true) → ∃ t, t < n ∧ ok t = true ∧ morTo mx ok val n = val t
  | 0, h => by obtain ⟨t, ht, _⟩ := h; omega
  | n + 1, h => by
    simp only [morTo]
    have hb := mor_bd (mx := mx) (ok := ok) hv n
    have hvn := hv n
    by_cases hn : ok n = true
    · rw [if_pos hn]
      by_cases hx : ∃ t, t < n ∧ ok t = true
      · obtain ⟨t, h1, h2, h3⟩ := morTo_is (mx := mx) (n := n) hv hx
        rw [h3]
        cases mx with
        | true =>
          simp only [if_true]
          by_cases hc : val t ≤ val n
          · exact ⟨n, by omega, hn, by omega⟩
          · exact ⟨t, by omega, h2, by omega⟩
        | false =>
          simp only [Bool.false_eq_true, if_false]
          by_cases hc : val t ≤ val n
          · exact ⟨t, by omega, h2, by omega⟩
          · exact ⟨n, by omega, hn, by omega⟩
      · have h0 : ∀ m, m ≤ n → morTo mx ok val m = if mx = true then -2147483648 else 2147483648 := fun m hm => by
          induction m with
          | zero => rfl
          | succ m ih =>
            simp only [morTo]
            rw [if_neg (fun e => hx ⟨m, by omega, e⟩), ih (by omega)]
        refine ⟨n, by omega, hn, ?_⟩
        rw [h0 n (Nat.le_refl _)]
        cases mx with
        | true => simp only [if_true]; omega
        | false => simp only [Bool.false_eq_true, if_false]; omega
    · rw [if_neg hn]
      obtain ⟨t, h1, h2⟩ := h
      have : t ≠ n := fun e => hn (e ▸ h2)
      obtain ⟨u, h3, h4, h5⟩ := morTo_is (mx := mx) (n := n) hv ⟨t, by omega, h2⟩
      exact ⟨u, by omega, h4, h5⟩

section
variable {pw ph s : Nat} {xs : List Int}
def fullB (s : Nat) : List Bool := List.replicate ((2 * s + 1) * (2 * s + 1)) true
theorem shIn_full {s t : Nat} (ht : t < (2 * s + 1) * (2 * s + 1)) : shIn (fullB s) t = true := by
  unfold shIn fullB
  rw [List.getElem?_replicate, if_pos ht]; rfl

/-- The number of the shift that leads from (x, y) to a pixel of the window. -/
theorem shift_to {x y u v : Int} (sg : Int) (hs : sg = 1 ∨ sg = -1) (h1 : -(s : Int) ≤ u - x) (h2 : u - x ≤ s) (h3 : -(s : Int) ≤ v - y) (h4 : v - y ≤ s) :
    ∃ t, t < (2 * s + 1) * (2 * s + 1) ∧ morU sg (2 * s + 1) x t = u ∧ morV sg (2 * s + 1) (2 * s + 1) y t = v := by
  have hh : (2 * s + 1) / 2 = s := by omega
  rcases hs with rfl | rfl
  · obtain ⟨a, ha⟩ : ∃ a : Nat, (a : Int) = u - x + s := ⟨(u - x + s).toNat, by omega⟩
    obtain ⟨b, hb⟩ : ∃ b : Nat, (b : Int) = v - y + s := ⟨(v - y + s).toNat, by omega⟩
    refine ⟨b * (2 * s + 1) + a, idx_bound (by omega) (by omega), ?_, ?_⟩
    · unfold morU; rw [idx_mod b (by omega), hh]; omega
    · unfold morV; rw [idx_div b (by omega), hh]; omega
  · obtain ⟨a, ha⟩ : ∃ a : Nat, (a : Int) = x - u + s := ⟨(x - u + s).toNat, by omega⟩
    obtain ⟨b, hb⟩ : ∃ b : Nat, (b : Int) = y - v + s := ⟨(y - v + s).toNat, by omega⟩
    refine ⟨b * (2 * s + 1) + a, idx_bound (by omega) (by omega), ?_, ?_⟩
    · unfold morU; rw [idx_mod b (by omega), hh]; omega
    · unfold morV; rw [idx_div b (by omega), hh]; omega
theorem shift_bd (s t : Nat) (ht : t < (2 * s + 1) * (2 * s + 1)) : -(s : Int) ≤ ((t % (2 * s + 1) : Nat) : Int) - s ∧ ((t % (2 * s + 1) : Nat) : Int) - s ≤ s ∧ -(s : Int) ≤ ((t / (2 * s + 1) : Nat) : Int) - s ∧ ((t / (2 * s + 1) : Nat) : Int) - s ≤ s := by
  have h1 := Nat.mod_lt t (show 0 < 2 * s + 1 by omega)
  have h2 : t / (2 * s + 1) < 2 * s + 1 := Nat.div_lt_of_lt_mul ht
  generalize t % (2 * s + 1) = a at *
  generalize t / (2 * s + 1) = b at *
  omega

/-- Each pixel that counts is met by a shift, and each shift meets a pixel that counts. -/
theorem win_shift (mx : Bool) {x y : Int} (hx : 0 ≤ x) (hx2 : x < pw) (hy : 0 ≤ y) (hy2 : y < ph) {t : Nat} (ht : t < (2 * s + 1) * (2 * s + 1)) (hok : morOk (morSg mx) pw ph (2 * s + 1) (2 * s + 1) (fullB s) x y t = true) :
    ∃ u, u < (2 * s + 1) * (2 * s + 1) ∧ spB pw ph xs s x y u = morVal (morSg mx) pw xs (2 * s + 1) (2 * s + 1) x y t := by
  simp only [morOk, Bool.and_eq_true, inR_true] at hok
  obtain ⟨_, ⟨u1, u2⟩, v1, v2⟩ := hok
  have hb := shift_bd s t ht
  have hh : (2 * s + 1) / 2 = s := by omega
  have hsg : morSg mx = 1 ∨ morSg mx = -1 := by unfold morSg; split <;> simp
  have e1 : -(s : Int) ≤ morU (morSg mx) (2 * s + 1) x t - x ∧ morU (morSg mx) (2 * s + 1) x t - x ≤ s := by
    unfold morU; rw [hh]; rcases hsg with h | h <;> rw [h] <;> omega
  have e2 : -(s : Int) ≤ morV (morSg mx) (2 * s + 1) (2 * s + 1) y t - y ∧ morV (morSg mx) (2 * s + 1) (2 * s + 1) y t - y ≤ s := by
    unfold morV; rw [hh]; rcases hsg with h | h <;> rw [h] <;> omega
  obtain ⟨u, hu, a1, a2⟩ := shift_to (s := s) (x := x) (y := y) 1 (.inl rfl) e1.1 e1.2 e2.1 e2.2
  refine ⟨u, hu, ?_⟩
  have b1 : x + (((u % (2 * s + 1) : Nat) : Int) - (s : Int)) = morU (morSg mx) (2 * s + 1) x t := by rw [← a1]; unfold morU; rw [hh]; omega
  have b2 : y + (((u / (2 * s + 1) : Nat) : Int) - (s : Int)) = morV (morSg mx) (2 * s + 1) (2 * s + 1) y t := by rw [← a2]; unfold morV; rw [hh]; omega
  unfold spB morVal
  rw [b1, b2, beyF_in (by simp only [Bool.and_eq_true, inR_true]; exact ⟨⟨u1, u2⟩, v1, v2⟩)]
theorem shift_win (mx : Bool) {x y : Int} (hx : 0 ≤ x) (hx2 : x < pw) (hy : 0 ≤ y) (hy2 : y < ph) {u : Nat} (hu : u < (2 * s + 1) * (2 * s + 1)) :
    ∃ t, t < (2 * s + 1) * (2 * s + 1) ∧ morOk (morSg mx) pw ph (2 * s + 1) (2 * s + 1) (fullB s) x y t = true ∧ morVal (morSg mx) pw xs (2 * s + 1) (2 * s + 1) x y t = spB pw ph xs s x y u := by
  have hb := shift_bd s u hu
  have hsg : morSg mx = 1 ∨ morSg mx = -1 := by unfold morSg; split <;> simp
  obtain ⟨U, hU⟩ : ∃ U, clamp (x + (((u % (2 * s + 1) : Nat) : Int) - (s : Int))) 0 ((pw : Int) - 1) = U := ⟨_, rfl⟩
  obtain ⟨V, hV⟩ : ∃ V, clamp (y + (((u / (2 * s + 1) : Nat) : Int) - (s : Int))) 0 ((ph : Int) - 1) = V := ⟨_, rfl⟩
  have c1 : 0 ≤ U ∧ U ≤ (pw : Int) - 1 ∧ -(s : Int) ≤ U - x ∧ U - x ≤ s := by rw [← hU]; unfold clamp; omega
  have c2 : 0 ≤ V ∧ V ≤ (ph : Int) - 1 ∧ -(s : Int) ≤ V - y ∧ V - y ≤ s := by rw [← hV]; unfold clamp; omega
  obtain ⟨t, ht, a1, a2⟩ := shift_to (s := s) (x := x) (y := y) (morSg mx) hsg c1.2.2.1 c1.2.2.2 c2.2.2.1 c2.2.2.2
  refine ⟨t, ht, ?_, ?_⟩
  · simp only [morOk, Bool.and_eq_true, inR_true]
    rw [a1, a2]
    exact ⟨shIn_full ht, ⟨c1.1, c1.2.1⟩, c2.1, c2.2.1⟩
  · unfold morVal spB
    rw [a1, a2, beyF_2, hU, hV]

theorem win_centre (mx : Bool) {x y : Int} (hx : 0 ≤ x) (hx2 : x < pw) (hy : 0 ≤ y) (hy2 : y < ph) : ∃ t, t < (2 * s + 1) * (2 * s + 1) ∧ morOk (morSg mx) pw ph (2 * s + 1) (2 * s + 1) (fullB s) x y t = true := by
  have h0 : 0 < (2 * s + 1) * (2 * s + 1) := Nat.mul_pos (by omega) (by omega)
  obtain ⟨t, h1, h2, _⟩ := shift_win (xs := []) (s := s) mx hx hx2 hy hy2 h0
  exact ⟨t, h1, h2⟩

/-- The least value that a change allows. -/
theorem spread_lo (hxs : allIn (-2147483648) 2147483648 xs = true) {x y : Int} (hx : 0 ≤ x) (hx2 : x < pw) (hy : 0 ≤ y) (hy2 : y < ph) {g : Int} (hg : 0 ≤ g) (a : Int) :
    spV g a (morG false pw ph xs (2 * s + 1) (2 * s + 1) (fullB s) x y) = spLo (fun t => spV g a (spB pw ph xs s x y t)) ((2 * s + 1) * (2 * s + 1)) := by
  have hv : ∀ t, -2147483648 ≤ morVal (morSg false) pw xs (2 * s + 1) (2 * s + 1) x y t ∧ morVal (morSg false) pw xs (2 * s + 1) (2 * s + 1) x y t ≤ 2147483648 := fun t => px_bd hxs _
  refine Int.le_antisymm (le_spLo.2 ⟨(spV_bd _ _ _).2, fun u hu => ?_⟩) ?_
  · obtain ⟨t, h1, h2, h3⟩ := shift_win (xs := xs) false hx hx2 hy hy2 hu
    rw [← h3]
    exact spV_mono hg ((le_mor.1 (Int.le_refl (morG false pw ph xs (2 * s + 1) (2 * s + 1) (fullB s) x y))).2 t h1 h2)
  · obtain ⟨t, h1, h2, h3⟩ := morTo_is (mx := false) hv (win_centre (s := s) false hx hx2 hy hy2)
    obtain ⟨u, h4, h5⟩ := win_shift (xs := xs) false hx hx2 hy hy2 h1 h2
    show _ ≤ spV g a (morTo false _ _ _)
    rw [h3, ← h5]
    exact (le_spLo.1 (Int.le_refl _)).2 u h4
/-- The greatest value that a change allows. -/
theorem spread_hi (hxs : allIn (-2147483648) 2147483648 xs = true) {x y : Int} (hx : 0 ≤ x) (hx2 : x < pw) (hy : 0 ≤ y) (hy2 : y < ph) {g : Int} (hg : 0 ≤ g) (a : Int) :
    spV g a (morG true pw ph xs (2 * s + 1) (2 * s + 1) (fullB s) x y) = spHi (fun t => spV g a (spB pw ph xs s x y t)) ((2 * s + 1) * (2 * s + 1)) := by
  have hv : ∀ t, -2147483648 ≤ morVal (morSg true) pw xs (2 * s + 1) (2 * s + 1) x y t ∧ morVal (morSg true) pw xs (2 * s + 1) (2 * s + 1) x y t ≤ 2147483648 := fun t => px_bd hxs _
  refine Int.le_antisymm ?_ (spHi_le.2 ⟨(spV_bd _ _ _).1, fun u hu => ?_⟩)
  · obtain ⟨t, h1, h2, h3⟩ := morTo_is (mx := true) hv (win_centre (s := s) true hx hx2 hy hy2)
    obtain ⟨u, h4, h5⟩ := win_shift (xs := xs) true hx hx2 hy hy2 h1 h2
    show spV g a (morTo true _ _ _) ≤ _
    rw [h3, ← h5]
    exact (spHi_le.1 (Int.le_refl _)).2 u h4
  · obtain ⟨t, h1, h2, h3⟩ := shift_win (xs := xs) true hx hx2 hy hy2 hu
    rw [← h3]
    exact spV_mono hg ((mor_le.1 (Int.le_refl (morG true pw ph xs (2 * s + 1) (2 * s + 1) (fullB s) x y))).2 t h1 h2)
end

end Go.Proofs.YtbfigbpjoaccdaaGreat

namespace Go.Proofs.YtbfigbpjoaccdaaGreat
open Go
set_option linter.unusedVariables false
set_option linter.unusedSimpArgs false

/-- A change, by what it reads as. -/
structure ChgN where
  s : Int
  gl : Int
  gh : Int
  off : Int
  noi : Int
abbrev ChgN.val (c : ChgN) : Value := .agg #[.int .i64 c.s, .int .i64 c.gl, .int .i64 c.gh, .int .i64 c.off, .int .i64 c.noi]
def chgB (c : ChgN) : Bool := ((nIn 0 2 c.s && (nIn 0 400 c.gl && nIn 0 400 c.gh)) && decide (c.gl ≤ c.gh)) && (nIn 0 255 c.off && nIn 0 255 c.noi)
structure ChgOk (c : ChgN) : Prop where
  s : 0 ≤ c.s ∧ c.s ≤ 2
  gl : 0 ≤ c.gl ∧ c.gl ≤ 400
  gh : 0 ≤ c.gh ∧ c.gh ≤ 400
  le : c.gl ≤ c.gh
  off : 0 ≤ c.off ∧ c.off ≤ 255
  noi : 0 ≤ c.noi ∧ c.noi ≤ 255
theorem chgOk_of {c : ChgN} (h : chgB c = true) : ChgOk c := by
  simp only [chgB, Bool.and_eq_true, nIn_true, decide_eq_true_eq] at h
  exact ⟨h.1.1.1, h.1.1.2.1, h.1.1.2.2, h.1.2, h.2.1, h.2.2⟩
/-- The value of a pixel with shift number t. -/
def shV (pw ph : Nat) (xs : List Int) (s : Nat) (g a : Int) (i t : Nat) : Int := spV g a (spB pw ph xs s (cX pw i) (cY pw i) t)
def loF (pw ph : Nat) (xs : List Int) (s : Nat) (g a : Int) (i : Nat) : Int := spLo (shV pw ph xs s g a i) ((2 * s + 1) * (2 * s + 1))
def hiF (pw ph : Nat) (xs : List Int) (s : Nat) (g a : Int) (i : Nat) : Int := spHi (shV pw ph xs s g a i) ((2 * s + 1) * (2 * s + 1))
def loL (m : ImN) (c : ChgN) : List Int := (List.range (m.w.toNat * m.h.toNat)).map (loF m.w.toNat m.h.toNat m.px c.s.toNat c.gl (-(c.off + c.noi)))
def hiL (m : ImN) (c : ChgN) : List Int := (List.range (m.w.toNat * m.h.toNat)).map (hiF m.w.toNat m.h.toNat m.px c.s.toNat c.gh (c.off + c.noi))

theorem px_img0 {pw ph : Nat} {g : Int → Int → Int} {i : Nat} (hi : i < pw * ph) (h : -2147483648 ≤ g (cX pw i) (cY pw i) ∧ g (cX pw i) (cY pw i) ≤ 2147483648) : px (img pw ph g) ((cY pw i) * pw + cX pw i) = g (cX pw i) (cY pw i) := by
  have hp0 : 0 < pw := Nat.pos_of_ne_zero (by rintro rfl; simp at hi)
  have e : (cY pw i) * (pw : Int) + cX pw i = ((i : Nat) : Int) := by
    show ((i / pw : Nat) : Int) * (pw : Int) + ((i % pw : Nat) : Int) = (i : Int)
    have := Nat.div_add_mod i pw
    rw [Nat.mul_comm] at this
    exact_mod_cast this
  rw [e]
  unfold px
  rw [Int.toNat_natCast]
  unfold img
  rw [List.getElem?_map, List.getElem?_range hi]
  simp only [Option.map_some, Option.getD_some]
  unfold clamp
  omega
theorem cXY_in {pw ph i : Nat} (hi : i < pw * ph) : 0 ≤ cX pw i ∧ cX pw i < pw ∧ 0 ≤ cY pw i ∧ cY pw i < ph := by
  have hp0 : 0 < pw := Nat.pos_of_ne_zero (by rintro rfl; simp at hi)
  have h1 : i % pw < pw := Nat.mod_lt _ hp0
  have h2 : i / pw < ph := Nat.div_lt_of_lt_mul hi
  exact ⟨Int.natCast_nonneg _, by show ((i % pw : Nat) : Int) < _; omega, Int.natCast_nonneg _, by show ((i / pw : Nat) : Int) < _; omega⟩
/-- Eroding and a point operation give the least values. -/
theorem lo_img {pw ph s : Nat} {xs : List Int} (hxs : allIn (-2147483648) 2147483648 xs = true) {g : Int} (hg : 0 ≤ g) (a : Int) :
    img pw ph (pointG pw (img pw ph (morG false pw ph xs (2 * s + 1) (2 * s + 1) (fullB s))) ⟨g, 100 * a, 100, 0, 255⟩) = (List.range (pw * ph)).map (loF pw ph xs s g a) := by
  unfold img
  refine List.map_congr_left fun i hi => ?_
  have hi := List.mem_range.1 hi
  obtain ⟨h1, h2, h3, h4⟩ := cXY_in hi
  have hb := mor_img (mx := false) hxs pw ph (2 * s + 1) (2 * s + 1) (fullB s) (cX pw i) (cY pw i)
  unfold pointG
  rw [show (List.range (pw * ph)).map (fun i => clamp (morG false pw ph xs (2 * s + 1) (2 * s + 1) (fullB s) (cX pw i) (cY pw i)) (-2147483648) 2147483648) = img pw ph (morG false pw ph xs (2 * s + 1) (2 * s + 1) (fullB s)) from rfl]
  rw [px_img0 hi hb, spV_point, spread_lo hxs h1 h2 h3 h4 hg]
  have := spLo_bd (f := shV pw ph xs s g a i) (fun t => spV_bd _ _ _) ((2 * s + 1) * (2 * s + 1))
  unfold loF clamp
  show max (-2147483648) (min (spLo (shV pw ph xs s g a i) _) 2147483648) = _
  omega
theorem hi_img {pw ph s : Nat} {xs : List Int} (hxs : allIn (-2147483648) 2147483648 xs = true) {g : Int} (hg : 0 ≤ g) (a : Int) :
    img pw ph (pointG pw (img pw ph (morG true pw ph xs (2 * s + 1) (2 * s + 1) (fullB s))) ⟨g, 100 * a, 100, 0, 255⟩) = (List.range (pw * ph)).map (hiF pw ph xs s g a) := by
  unfold img
  refine List.map_congr_left fun i hi => ?_
  have hi := List.mem_range.1 hi
  obtain ⟨h1, h2, h3, h4⟩ := cXY_in hi
  have hb := mor_img (mx := true) hxs pw ph (2 * s + 1) (2 * s + 1) (fullB s) (cX pw i) (cY pw i)
  unfold pointG
  rw [show (List.range (pw * ph)).map (fun i => clamp (morG true pw ph xs (2 * s + 1) (2 * s + 1) (fullB s) (cX pw i) (cY pw i)) (-2147483648) 2147483648) = img pw ph (morG true pw ph xs (2 * s + 1) (2 * s + 1) (fullB s)) from rfl]
  rw [px_img0 hi hb, spV_point, spread_hi hxs h1 h2 h3 h4 hg]
  have := spHi_bd (f := shV pw ph xs s g a i) (fun t => spV_bd _ _ _) ((2 * s + 1) * (2 * s + 1))
  unfold hiF clamp
  show max (-2147483648) (min (spHi (shV pw ph xs s g a i) _) 2147483648) = _
  omega

end Go.Proofs.YtbfigbpjoaccdaaGreat

namespace Go.Proofs.YtbfigbpjoaccdaaGreat
open Go Go.RowKit Go.Shelf
set_option linter.unusedVariables false
set_option linter.unusedSimpArgs false

theorem jinfo_bool : (Tryz.prog.info? 4).map (fun i => (i.zero, i.size, i.bytes)) = some (some (.bool false), 1, 1) := by kernel_rfl
theorem jmade_bool (n : Nat) : (madeCells (Value.bool false).cells (n * 1)).toList = (List.replicate n false).map Value.bool := by
  rw [Nat.mul_one]
  refine List.ext_getElem (by simp [size_madeCells]) fun i h1 h2 => ?_
  simp [madeCells, Value.cells, Nat.mod_one]
theorem row_rdB {W : World} {base g cap n : Nat} {bs : List Bool} (h : W.ownsRow base 4 1 (.slice (some ⟨g, 0, none⟩) n cap) n (bs.map Value.bool)) (hn : bs.length = n) (B : Nat) (hg : g < B) : RdB B W (some ⟨g, 0, none⟩) bs := by
  refine .inr ⟨g, 0, rfl, hg, fun i hi => ?_⟩
  have hc := h.cellAt i (by omega)
  simp only [List.getElem?_map] at hc
  rw [List.getElem?_eq_getElem hi] at hc ⊢
  simpa using hc

set_option maxRecDepth 100000 in
set_option maxHeartbeats 2000000 in
theorem RepeatB_any (v : Bool) (J : Nat) (hJ0 : 1 ≤ J) (hJ1 : J ≤ 100000) (b o c : Nat) (w : World) (hb : b < w.heap.size) (hc : w.cell? ⟨b, o, none⟩ = some (Value.bool v)) :
    Calls Tryz.prog 56 #[.slice (some ⟨b, o, none⟩) 1 c, .int .i64 J] w fun e w' => e = .returned (.slice (some ⟨w.heap.size, 0, none⟩) J J) ∧ w'.ownsRow w.heap.size 4 1 (.slice (some ⟨w.heap.size, 0, none⟩) J J) J (List.replicate J (Value.bool v)) ∧ Below w.heap.size w w' := by
  obtain ⟨i0, hi, hz0, hz1, hz2⟩ := info_parts jinfo_bool
  have hmul := Mul_any 1 J (by omega) (by omega)
  rw [Nat.one_mul, show J / 18446744073709551616 = 0 by omega, show J % 18446744073709551616 = J by omega] at hmul
  replace hmul : ∀ w, Calls Tryz.prog 95 #[.int .u64 1, .int .u64 J] w (fun e w' => e = .returned (.tuple #[.int .u64 0, .int .u64 J]) ∧ w = w') := fun w => (hmul w).mono fun e w' ⟨h1, h2⟩ => ⟨h1, h2.symm⟩
  have hzH := Lib.hid (jmade_bool J)
  obtain ⟨vv, hvv⟩ : ∃ u, (Value.bool v) = u := ⟨_, rfl⟩
  have hone : vv.oneCell' = true := by rw [← hvv]; rfl
  rw [hvv] at hc ⊢
  clear hvv
  have mk : ∀ w1 : World, w1.ownsRow w.heap.size 4 1 (.slice (some ⟨w.heap.size, 0, none⟩) J J) J (madeCells (.bool false : Value).cells (J * 1)).toList → w.grownBy w1 none → ∃ w2, Sem.run Tryz.prog (Builtin.copy_ #[108, 108] 3 #[.slice (some ⟨w.heap.size, 0, none⟩) J J, .slice (some ⟨b, o, none⟩) 1 c]) w1 = .ok (.int .i64 1) w2 ∧ Hid (w2.heap[w.heap.size]? = some (.cells (fillV vv (Value.bool false) J 1).toArray 4 (0, 0))) ∧ Below w.heap.size w w2 := by
    intro w1 hown hg
    rw [hzH.out] at hown
    have hW1 := row_whole hown
    have hB1 : Below w.heap.size w w1 := (Below.refl _ _).grown hg (Nat.le_refl _) (fun k e => by cases e)
    rw [List.map_replicate, show List.replicate J (Value.bool false) = fillV vv (Value.bool false) J 0 by simp [fillV]] at hW1
    have hcs1 : ∀ (j : Nat) (u : Value), [vv][j]? = some u → w1.cell? (Addr.add ⟨b, o, none⟩ j) = some u := fun j u hu => by
      cases j with
      | zero => simp at hu; rw [← hu, Addr.add_lit]; exact (hB1.cell (p := ⟨b, o, none⟩) hb).trans hc
      | succ j => simp at hu
    have hrun := run_copy_row (P := Tryz.prog) w1 108 108 3 4 w.heap.size 0 J J ⟨b, o, none⟩ 1 c _ _ [vv] Tryz.underlying108 (by kernel_rfl) hW1 (by show [vv].length = min 1 J; simp; omega) hcs1 (by simp [fillV_length (Nat.zero_le J)]; omega) (by simp [hone])
    have hsp := setRow_heap w1 w.heap.size _ (((fillV vv (Value.bool false) J 0).toArray.toList.take 0 ++ [vv] ++ (fillV vv (Value.bool false) J 0).toArray.toList.drop (0 + [vv].length)).toArray) _ _ hW1
    refine ⟨_, hrun, Lib.hid ?_, below_setRow hB1 (Nat.le_refl _) _⟩
    rw [hsp]
    have := fillV_grow (v := vv) (z := Value.bool false) (n := J) (k := 0) (m := 1) (by omega)
    rw [Nat.zero_add] at this
    rw [← this]
    simp [splice]
  have mkH := Lib.hid mk
  clear mk hc
  go_enter Tryz.func56, Tryz.ntmps56
  go_wp2_with (first
    | (go_at_call 95; refine (hmul _).mono ?_; rintro e w' ⟨rfl, rfl⟩)
    | (at_make; refine wpList_make_full _ rfl _ _ 108 rfl w.heap.size 4 i0 (.bool false) 1 Tryz.underlying108 hi hz0 hz1 .i64 .i64 (J : Int) (J : Int) J rfl rfl (by simp) (by simp) (by rw [hz2]; omega) (by unfold maxLen; omega) (by simp) ?_; intro w1 hown hg; obtain ⟨w2, hcp, hg2, hb2⟩ := mkH.out w1 hown hg; clear hown hg))
  clear hcp hmul hzH mkH
  clear w1
  go_loopw [8] (fun i wr => ∃ k : Nat, 1 ≤ k ∧ k ≤ J ∧ i = .int .i64 (k : Int) ∧ Hid (wr.heap[w.heap.size]? = some (.cells (fillV vv (Value.bool false) J k).toArray 4 (0, 0))) ∧ Below w.heap.size w wr) (fun i _ => J - (intOf i).toNat)
  case atStart => exact ⟨1, Nat.le_refl _, hJ0, rfl, hg2, hb2⟩
  case round =>
    clear hg2 hb2
    obtain ⟨k, hk1, hkJ, rfl, hrow, hB⟩ := hrel
    by_cases hlt : k < J
    · obtain ⟨m, hm⟩ : ∃ m, min k (J - k) = m := ⟨_, rfl⟩
      have hm0 : 1 ≤ m := by omega
      have hmk : k + m ≤ J := by omega
      have hS : Below w.heap.size w wr.drew := hB.drew
      have hrowd : Hid (wr.drew.heap[w.heap.size]? = some (.cells (fillV vv (Value.bool false) J k).toArray 4 (0, 0))) := hrow
      have hcells : Hid (∀ (j : Nat) (u : Value), (List.replicate m vv)[j]? = some u → wr.drew.cell? (Addr.add ⟨w.heap.size, 0, none⟩ j) = some u) := Lib.hid (fun j u hu => by
        rw [List.getElem?_replicate] at hu
        split at hu
        · rename_i hj
          simp only [Option.some.injEq] at hu
          rw [Addr.add_lit, Nat.zero_add]
          simp only [World.cell?, hrowd.out]
          rw [← hu]
          have := fillV_get (v := vv) (z := Value.bool false) (n := J) (k := k) (j := j) (by omega)
          simpa using this
        · cases hu)
      go_wp2_with fail
      refine plain_region (fun W' => Below w.heap.size w W') 10 10 (by kernel_rfl) rfl ?_
      simp only [Array.replicate_succ, Array.replicate_zero, List.push_toArray, List.nil_append, List.cons_append]
      refine take_op 0 (v := ?rv0) rfl (by kernel_rfl) (fun _ _ _ h => h) (by rfl) hS (fun w' hS' => ?ry0) ?rz0
      case ry0 =>
        go_simp
        rfl
      simp only [List.setIfInBounds_toArray, List.set_cons_zero, List.set_cons_succ]
      refine take_op 1 (v := ?rv1) rfl (by kernel_rfl) (fun _ _ _ h => h) (by rfl) hS (fun w' hS' => ?ry1) ?rz1
      case ry1 =>
        go_simp
        rfl
      simp only [List.setIfInBounds_toArray, List.set_cons_zero, List.set_cons_succ]
      refine take_op 2 (v := ?rv2) rfl (by kernel_rfl) (fun _ _ _ h => h) (by rfl) hS (fun w' hS' => ?ry2) ?rz2
      case ry2 =>
        go_simp
        rfl
      simp only [List.setIfInBounds_toArray, List.set_cons_zero, List.set_cons_succ]
      refine take_op 3 (v := ?rv3) rfl (by kernel_rfl) (fun _ _ _ h => h) (by rfl) hS (fun w' hS' => ?ry3) ?rz3
      case ry3 =>
        go_simp
        rfl
      simp only [List.setIfInBounds_toArray, List.set_cons_zero, List.set_cons_succ]
      refine take_op 4 (v := ?rv4) rfl (by kernel_rfl) (fun _ _ _ h => h) (by rfl) hS (fun w' hS' => ?ry4) ?rz4
      case ry4 =>
        go_simp
        rfl
      simp only [List.setIfInBounds_toArray, List.set_cons_zero, List.set_cons_succ]
      refine take_op 5 (v := ?rv5) rfl (by kernel_rfl) (fun _ _ _ h => h) (by rfl) hS (fun w' hS' => ?ry5) ?rz5
      case ry5 =>
        go_simp
        rfl
      simp only [List.setIfInBounds_toArray, List.set_cons_zero, List.set_cons_succ]
      refine take_op 6 (v := ?rv6) rfl (by kernel_rfl) (fun _ _ _ h => h) (by rfl) hS (fun w' hS' => ?ry6) ?rz6
      case ry6 =>
        go_simp
        rfl
      simp only [List.setIfInBounds_toArray, List.set_cons_zero, List.set_cons_succ]
      refine step_op 7 (by kernel_rfl) rfl (fun K hK => ?_)
      refine step_copy_splice rfl _ _ 108 108 rfl 4 Tryz.underlying108 (by kernel_rfl) _ _ _ _ _ _ rfl rfl w.heap.size k (fillV vv (Value.bool false) J k) 4 hrowd.out (List.replicate m vv) (by simp [← hm] <;> omega) (fun _ => ⟨by rw [if_neg (show ¬ J = k by omega)], _, rfl, hcells.out⟩) (by rw [fillV_length hkJ]; simp; omega) (by simp [hone]) w.heap.size w hS (Nat.le_refl _) ?_
      intro w3 hg3 hb3
      refine hK.out _ _ (fun h => hb3) ?_
      clear hK K
      try simp only [Act.put, List.setIfInBounds_toArray, List.set_cons_zero, List.set_cons_succ]
      refine take_op 8 (v := ?rv8) rfl (by kernel_rfl) (fun _ _ _ h => h) (by rfl) hb3 (fun w' hS' => ?ry8) ?rz8
      case ry8 =>
        go_simp
        try go_ints
        rfl
      simp only [List.setIfInBounds_toArray, List.set_cons_zero, List.set_cons_succ]
      refine take_op 9 (v := ?rv9) rfl (by kernel_rfl) (fun _ _ _ h => h) (by rfl) hb3 (fun w' hS' => ?ry9) ?rz9
      case ry9 =>
        go_simp
        rfl
      simp only [List.setIfInBounds_toArray, List.set_cons_zero, List.set_cons_succ]
      refine done_ops (by kernel_rfl) ?_
      go_wp2_with fail
      go_roundw
      case rel =>
        refine ⟨k + m, by omega, hmk, by go_num, Lib.hid ?_, hb3⟩
        rw [← fillV_grow hmk]
        exact hg3.out
      case measure => simp [intOf]; omega
    · have hkJ' : k = J := by omega
      subst hkJ'
      go_wp2_with fail
      go_ret
      have hrow' := hrow.out
      rw [fillV_all] at hrow'
      exact ⟨rfl, ⟨by simp, .inr ⟨w.heap.size, k, _, rfl, Nat.le_refl _, hrow', Nat.le_refl _, by unfold maxLen; omega, by simp, by simp⟩⟩, hB⟩

end Go.Proofs.YtbfigbpjoaccdaaGreat

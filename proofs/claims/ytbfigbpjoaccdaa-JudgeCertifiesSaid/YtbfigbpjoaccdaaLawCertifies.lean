/- The walk of the law JudgeCertifies: it returns true, and nothing that lay has turned. -/
import Derived.Test.YtbfigbpjoaccdaaCg
import Derived.Test.YtbfigbpjoaccdaaImgE
import Derived.Test.YtbfigbpjoaccdaaFork
namespace Go.Proofs.Ytbfigbpjoaccdaa
open Go Go.RowKit Go.Shelf
set_option linter.unusedVariables false
set_option linter.unusedSimpArgs false

theorem put3_grown (W : World) (B : Nat) (x y z : Value) : W.grownBy (put3 W B x y z) (some B) :=
  ⟨rfl, rfl, rfl, (put3_below (n := 0) (Nat.zero_le _) x y z).size, fun k _ hk => (put3_below_block W B k (fun e => hk (by rw [e])) x y z)⟩
set_option maxRecDepth 100000 in
set_option maxHeartbeats 16000000 in
theorem law_certifies (N : NetN) (na : Option Addr) (nn nc : Nat) (hnn : N.Ls.length = nn) (hz : NetSz N) (iw ih : Int) (a : Option Addr) (c n : Nat) (xs : List Int) (hn : Hid (xs.length = n)) (jw jh : Int) (a' : Option Addr) (c' n' : Nat) (ys : List Int) (hn' : Hid (ys.length = n')) (s : Int) (w : World)
    (hrn : RdLs w.heap.size w na N.Ls) (hm : n * 8 ≤ 140737488355328) (hr : Rd w.heap.size w a xs) (hnil : Hid (a = none → n = 0 ∧ c = 0)) (hm' : n' * 8 ≤ 140737488355328) (hr' : Rd w.heap.size w a' ys) (hnil' : Hid (a' = none → n' = 0 ∧ c' = 0)) :
    Calls Try.prog 5 #[netv N na nn nc, imv iw ih a n c, imv jw jh a' n' c', .int .i64 s] w fun e w' => e = .returned (.bool true) ∧ Below w.heap.size w w' := by
  have hBV : Below w.heap.size w (((w.alloc (.cells #[.int .i64 N.w, .int .i64 N.h, .int .i64 N.gx, .int .i64 N.gy, .slice na nn nc, .int .i64 N.low, .int .i64 N.high] 24)).alloc (.cells #[.int .i64 iw, .int .i64 ih, .slice a n c] 27)).alloc (.cells #[.int .i64 jw, .int .i64 jh, .slice a' n' c'] 27)) := jb_al (jb_al (jb_al (Below.refl _ w) _) _) _
  have k5 := ((Blk.new w 24 #[.int .i64 N.w, .int .i64 N.h, .int .i64 N.gx, .int .i64 N.gy, .slice na nn nc, .int .i64 N.low, .int .i64 N.high]).alloc (.cells #[.int .i64 iw, .int .i64 ih, .slice a n c] 27)).alloc (.cells #[.int .i64 jw, .int .i64 jh, .slice a' n' c'] 27)
  have k6 := (Blk.new (w.alloc (.cells #[.int .i64 N.w, .int .i64 N.h, .int .i64 N.gx, .int .i64 N.gy, .slice na nn nc, .int .i64 N.low, .int .i64 N.high] 24)) 27 #[.int .i64 iw, .int .i64 ih, .slice a n c]).alloc (.cells #[.int .i64 jw, .int .i64 jh, .slice a' n' c'] 27)
  have k7 := Blk.new ((w.alloc (.cells #[.int .i64 N.w, .int .i64 N.h, .int .i64 N.gx, .int .i64 N.gy, .slice na nn nc, .int .i64 N.low, .int .i64 N.high] 24)).alloc (.cells #[.int .i64 iw, .int .i64 ih, .slice a n c] 27)) 27 #[.int .i64 jw, .int .i64 jh, .slice a' n' c']
  simp only [World.size_alloc] at k6 k7
  have hnnH := Lib.hid hnn
  have hzH := Lib.hid hz
  have hrH := Lib.hid hr
  have hr'H := Lib.hid hr'
  have hrnH := Lib.hid hrn
  clear hr hr' hrn hnn hz
  go_enter Try.func5, Try.ntmps5
  go_wp2_with fail
  obtain ⟨V, hV⟩ : ∃ V, (((w.alloc (.cells #[.int .i64 N.w, .int .i64 N.h, .int .i64 N.gx, .int .i64 N.gy, .slice na nn nc, .int .i64 N.low, .int .i64 N.high] 24)).alloc (.cells #[.int .i64 iw, .int .i64 ih, .slice a n c] 27)).alloc (.cells #[.int .i64 jw, .int .i64 jh, .slice a' n' c'] 27)) = V := ⟨_, rfl⟩
  rw [hV] at hBV k5 k6 k7 ⊢
  clear hV
  have hv7 := k7.lt
  have hT1 := Lib.hid (fun (W : World) (hB : Below V.heap.size V W) => Twin_any iw ih a c n xs hn W hm (later_i (later_i hrH.out hBV) hB) hnil)
  have hT2 := Lib.hid (fun (W : World) (hB : Below V.heap.size V W) => Twin_any jw jh a' c' n' ys hn' W hm' (later_i (later_i hr'H.out hBV) hB) hnil')
  rename_i Q1 K1 hK1
  have key : ∀ (so sp : Option Addr) (co cp bo bp : Nat) (W : World), Blk W bo 27 #[.int .i64 iw, .int .i64 ih, .slice so n co] → Blk W bp 27 #[.int .i64 jw, .int .i64 jh, .slice sp n' cp] →
      W.ownsRow V.heap.size 3 1 (.slice so n co) n (xs.map (Value.int .i64)) → W.ownsRow V.heap.size 3 1 (.slice sp n' cp) n' (ys.map (Value.int .i64)) → Below V.heap.size V W →
      Blk W w.heap.size 24 #[.int .i64 N.w, .int .i64 N.h, .int .i64 N.gx, .int .i64 N.gy, .slice na nn nc, .int .i64 N.low, .int .i64 N.high] → Blk W (w.heap.size + 1) 27 #[.int .i64 iw, .int .i64 ih, .slice a n c] → Blk W (w.heap.size + 1 + 1) 27 #[.int .i64 jw, .int .i64 jh, .slice a' n' c'] → V.heap.size ≤ bo → V.heap.size ≤ bp → bo ≠ bp →
      K1 { tmps := #[netv N na nn nc, imv iw ih a n c, imv jw jh a' n' c', .int .i64 s, .pointer (some ⟨w.heap.size, 0, none⟩), .pointer (some ⟨w.heap.size + 1, 0, none⟩), .pointer (some ⟨w.heap.size + 1 + 1, 0, none⟩), undef, .bool false, .pointer (some ⟨bo, 0, none⟩), .pointer (some ⟨bp, 0, none⟩), undef, undef, undef, undef, imv iw ih a n c, imv iw ih so n co, imv jw jh a' n' c', imv jw jh sp n' cp, undef, undef, undef, undef, undef, undef, undef, undef, undef, undef, undef, undef, undef, undef, undef, undef, undef, undef, undef, undef, undef, undef, undef, undef, undef, undef, undef, undef, undef, undef, undef, undef, undef, undef], defers := [] } W := by
    clear k5 k6 k7
    intro so sp co cp bo bp W ko kp rowo rowp hB k5 k6 k7 hlo hlp hne
    refine hK1 _ _ ?_
    clear hK1
    have hBW := hBV.trans (hB.mono hBV.size)
    have roH := Lib.hid (fun (X : World) (hb : Below W.heap.size W X) => later_i (row_rd' hn.out rowo) hb)
    have rpH := Lib.hid (fun (X : World) (hb : Below W.heap.size W X) => later_i (row_rd' hn'.out rowp) hb)
    have riH := Lib.hid (fun (X : World) (hb : Below W.heap.size W X) => later_i (later_i hrH.out hBW) hb)
    have rjH := Lib.hid (fun (X : World) (hb : Below W.heap.size W X) => later_i (later_i hr'H.out hBW) hb)
    have rnH := Lib.hid (fun (X : World) (hb : Below W.heap.size W X) => later_l (later_l hrnH.out hBW) hb)
    clear rowo rowp
    have p0 : W.cell? ⟨w.heap.size, 0, none⟩ = some (.int .i64 N.w) := k5.cell (i := 0) rfl
    have p1 : W.cell? ⟨w.heap.size, 1, none⟩ = some (.int .i64 N.h) := k5.cell (i := 1) rfl
    have p2 : W.cell? ⟨w.heap.size, 2, none⟩ = some (.int .i64 N.gx) := k5.cell (i := 2) rfl
    have p3 : W.cell? ⟨w.heap.size, 3, none⟩ = some (.int .i64 N.gy) := k5.cell (i := 3) rfl
    have p4 : W.cell? ⟨w.heap.size, 4, none⟩ = some (.slice na nn nc) := k5.cell (i := 4) rfl
    have p5 : W.cell? ⟨w.heap.size, 5, none⟩ = some (.int .i64 N.low) := k5.cell (i := 5) rfl
    have p6 : W.cell? ⟨w.heap.size, 6, none⟩ = some (.int .i64 N.high) := k5.cell (i := 6) rfl
    have q0 : W.cell? ⟨w.heap.size + 1, 0, none⟩ = some (.int .i64 iw) := k6.cell (i := 0) rfl
    have q1 : W.cell? ⟨w.heap.size + 1, 1, none⟩ = some (.int .i64 ih) := k6.cell (i := 1) rfl
    have q2 : W.cell? ⟨w.heap.size + 1, 2, none⟩ = some (.slice a n c) := k6.cell (i := 2) rfl
    have r0 : W.cell? ⟨w.heap.size + 1 + 1, 0, none⟩ = some (.int .i64 jw) := k7.cell (i := 0) rfl
    have r1 : W.cell? ⟨w.heap.size + 1 + 1, 1, none⟩ = some (.int .i64 jh) := k7.cell (i := 1) rfl
    have r2 : W.cell? ⟨w.heap.size + 1 + 1, 2, none⟩ = some (.slice a' n' c') := k7.cell (i := 2) rfl
    have o0 : W.cell? ⟨bo, 0, none⟩ = some (.int .i64 iw) := ko.cell (i := 0) rfl
    have o1 : W.cell? ⟨bo, 1, none⟩ = some (.int .i64 ih) := ko.cell (i := 1) rfl
    have o2 : W.cell? ⟨bo, 2, none⟩ = some (.slice so n co) := ko.cell (i := 2) rfl
    have u0 : W.cell? ⟨bp, 0, none⟩ = some (.int .i64 jw) := kp.cell (i := 0) rfl
    have u1 : W.cell? ⟨bp, 1, none⟩ = some (.int .i64 jh) := kp.cell (i := 1) rfl
    have u2 : W.cell? ⟨bp, 2, none⟩ = some (.slice sp n' cp) := kp.cell (i := 2) rfl
    go_wp2_with fail
    refine (Certify_any N na nn nc hnnH.out hzH.out ⟨iw, ih, xs⟩ ⟨jw, jh, ys⟩ so sp n co n' cp hn.out hn'.out (by omega) (by omega) s W (rnH.out W (Below.refl _ _)) (roH.out W (Below.refl _ _)) (rpH.out W (Below.refl _ _))).mono ?_
    rintro e Y1 ⟨rfl, hb1⟩
    obtain ⟨cv, hcv⟩ : ∃ z, certV N ⟨iw, ih, xs⟩ ⟨jw, jh, ys⟩ s = z := ⟨_, rfl⟩
    obtain ⟨ce, hce⟩ : ∃ z, certE N ⟨iw, ih, xs⟩ ⟨jw, jh, ys⟩ s = z := ⟨_, rfl⟩
    rw [hcv, hce]
    have hcvH := Lib.hid hcv
    have hceH := Lib.hid hce
    clear hcv hce
    clear p0 p1 p2 p3 p4 p5 p6 q0 q1 q2 r0 r1 r2 o0 o1 o2 u0 u1 u2
    replace k5 := k5.below hb1 k5.lt
    replace k6 := k6.below hb1 k6.lt
    replace k7 := k7.below hb1 k7.lt
    replace ko := ko.below hb1 ko.lt
    replace kp := kp.below hb1 kp.lt
    have p0 : Y1.cell? ⟨w.heap.size, 0, none⟩ = some (.int .i64 N.w) := k5.cell (i := 0) rfl
    have p1 : Y1.cell? ⟨w.heap.size, 1, none⟩ = some (.int .i64 N.h) := k5.cell (i := 1) rfl
    have p2 : Y1.cell? ⟨w.heap.size, 2, none⟩ = some (.int .i64 N.gx) := k5.cell (i := 2) rfl
    have p3 : Y1.cell? ⟨w.heap.size, 3, none⟩ = some (.int .i64 N.gy) := k5.cell (i := 3) rfl
    have p4 : Y1.cell? ⟨w.heap.size, 4, none⟩ = some (.slice na nn nc) := k5.cell (i := 4) rfl
    have p5 : Y1.cell? ⟨w.heap.size, 5, none⟩ = some (.int .i64 N.low) := k5.cell (i := 5) rfl
    have p6 : Y1.cell? ⟨w.heap.size, 6, none⟩ = some (.int .i64 N.high) := k5.cell (i := 6) rfl
    have q0 : Y1.cell? ⟨w.heap.size + 1, 0, none⟩ = some (.int .i64 iw) := k6.cell (i := 0) rfl
    have q1 : Y1.cell? ⟨w.heap.size + 1, 1, none⟩ = some (.int .i64 ih) := k6.cell (i := 1) rfl
    have q2 : Y1.cell? ⟨w.heap.size + 1, 2, none⟩ = some (.slice a n c) := k6.cell (i := 2) rfl
    have r0 : Y1.cell? ⟨w.heap.size + 1 + 1, 0, none⟩ = some (.int .i64 jw) := k7.cell (i := 0) rfl
    have r1 : Y1.cell? ⟨w.heap.size + 1 + 1, 1, none⟩ = some (.int .i64 jh) := k7.cell (i := 1) rfl
    have r2 : Y1.cell? ⟨w.heap.size + 1 + 1, 2, none⟩ = some (.slice a' n' c') := k7.cell (i := 2) rfl
    have o0 : Y1.cell? ⟨bo, 0, none⟩ = some (.int .i64 iw) := ko.cell (i := 0) rfl
    have o1 : Y1.cell? ⟨bo, 1, none⟩ = some (.int .i64 ih) := ko.cell (i := 1) rfl
    have o2 : Y1.cell? ⟨bo, 2, none⟩ = some (.slice so n co) := ko.cell (i := 2) rfl
    have u0 : Y1.cell? ⟨bp, 0, none⟩ = some (.int .i64 jw) := kp.cell (i := 0) rfl
    have u1 : Y1.cell? ⟨bp, 1, none⟩ = some (.int .i64 jh) := kp.cell (i := 1) rfl
    have u2 : Y1.cell? ⟨bp, 2, none⟩ = some (.slice sp n' cp) := kp.cell (i := 2) rfl
    go_wp2_with fail
    refine (rCertify_any N na nn nc hnnH.out hzH.out ⟨iw, ih, xs⟩ ⟨jw, jh, ys⟩ a a' n c n' c' hn.out hn'.out (by omega) (by omega) s Y1 (rnH.out Y1 hb1) (riH.out Y1 hb1) (rjH.out Y1 hb1)).mono ?_
    rintro e Y2 ⟨rfl, hb2⟩
    rw [hcvH.out, hceH.out]
    have hbY2 := hb1.trans (hb2.mono hb1.size)
    clear p0 p1 p2 p3 p4 p5 p6 q0 q1 q2 r0 r1 r2 o0 o1 o2 u0 u1 u2
    replace k5 := k5.below hb2 k5.lt
    replace k6 := k6.below hb2 k6.lt
    replace k7 := k7.below hb2 k7.lt
    replace ko := ko.below hb2 ko.lt
    replace kp := kp.below hb2 kp.lt
    have p0 : Y2.cell? ⟨w.heap.size, 0, none⟩ = some (.int .i64 N.w) := k5.cell (i := 0) rfl
    have p1 : Y2.cell? ⟨w.heap.size, 1, none⟩ = some (.int .i64 N.h) := k5.cell (i := 1) rfl
    have p2 : Y2.cell? ⟨w.heap.size, 2, none⟩ = some (.int .i64 N.gx) := k5.cell (i := 2) rfl
    have p3 : Y2.cell? ⟨w.heap.size, 3, none⟩ = some (.int .i64 N.gy) := k5.cell (i := 3) rfl
    have p4 : Y2.cell? ⟨w.heap.size, 4, none⟩ = some (.slice na nn nc) := k5.cell (i := 4) rfl
    have p5 : Y2.cell? ⟨w.heap.size, 5, none⟩ = some (.int .i64 N.low) := k5.cell (i := 5) rfl
    have p6 : Y2.cell? ⟨w.heap.size, 6, none⟩ = some (.int .i64 N.high) := k5.cell (i := 6) rfl
    have q0 : Y2.cell? ⟨w.heap.size + 1, 0, none⟩ = some (.int .i64 iw) := k6.cell (i := 0) rfl
    have q1 : Y2.cell? ⟨w.heap.size + 1, 1, none⟩ = some (.int .i64 ih) := k6.cell (i := 1) rfl
    have q2 : Y2.cell? ⟨w.heap.size + 1, 2, none⟩ = some (.slice a n c) := k6.cell (i := 2) rfl
    have r0 : Y2.cell? ⟨w.heap.size + 1 + 1, 0, none⟩ = some (.int .i64 jw) := k7.cell (i := 0) rfl
    have r1 : Y2.cell? ⟨w.heap.size + 1 + 1, 1, none⟩ = some (.int .i64 jh) := k7.cell (i := 1) rfl
    have r2 : Y2.cell? ⟨w.heap.size + 1 + 1, 2, none⟩ = some (.slice a' n' c') := k7.cell (i := 2) rfl
    have o0 : Y2.cell? ⟨bo, 0, none⟩ = some (.int .i64 iw) := ko.cell (i := 0) rfl
    have o1 : Y2.cell? ⟨bo, 1, none⟩ = some (.int .i64 ih) := ko.cell (i := 1) rfl
    have o2 : Y2.cell? ⟨bo, 2, none⟩ = some (.slice so n co) := ko.cell (i := 2) rfl
    have u0 : Y2.cell? ⟨bp, 0, none⟩ = some (.int .i64 jw) := kp.cell (i := 0) rfl
    have u1 : Y2.cell? ⟨bp, 1, none⟩ = some (.int .i64 jh) := kp.cell (i := 1) rfl
    have u2 : Y2.cell? ⟨bp, 2, none⟩ = some (.slice sp n' cp) := kp.cell (i := 2) rfl
    have t1 : (cv == cv) = true := by simp
    have t2 : (ce == ce) = true := by simp
    go_wp2_with fail
    refine (Same_eq iw ih so a co c n xs hn Y2 (by omega) (roH.out Y2 hbY2) (riH.out Y2 hbY2)).mono ?_
    rintro e Y3 ⟨rfl, hb3⟩
    have hbY3 := hbY2.trans (hb3.mono hbY2.size)
    clear p0 p1 p2 p3 p4 p5 p6 q0 q1 q2 r0 r1 r2 o0 o1 o2 u0 u1 u2
    replace k5 := k5.below hb3 k5.lt
    replace k6 := k6.below hb3 k6.lt
    replace k7 := k7.below hb3 k7.lt
    replace ko := ko.below hb3 ko.lt
    replace kp := kp.below hb3 kp.lt
    have p0 : Y3.cell? ⟨w.heap.size, 0, none⟩ = some (.int .i64 N.w) := k5.cell (i := 0) rfl
    have p1 : Y3.cell? ⟨w.heap.size, 1, none⟩ = some (.int .i64 N.h) := k5.cell (i := 1) rfl
    have p2 : Y3.cell? ⟨w.heap.size, 2, none⟩ = some (.int .i64 N.gx) := k5.cell (i := 2) rfl
    have p3 : Y3.cell? ⟨w.heap.size, 3, none⟩ = some (.int .i64 N.gy) := k5.cell (i := 3) rfl
    have p4 : Y3.cell? ⟨w.heap.size, 4, none⟩ = some (.slice na nn nc) := k5.cell (i := 4) rfl
    have p5 : Y3.cell? ⟨w.heap.size, 5, none⟩ = some (.int .i64 N.low) := k5.cell (i := 5) rfl
    have p6 : Y3.cell? ⟨w.heap.size, 6, none⟩ = some (.int .i64 N.high) := k5.cell (i := 6) rfl
    have q0 : Y3.cell? ⟨w.heap.size + 1, 0, none⟩ = some (.int .i64 iw) := k6.cell (i := 0) rfl
    have q1 : Y3.cell? ⟨w.heap.size + 1, 1, none⟩ = some (.int .i64 ih) := k6.cell (i := 1) rfl
    have q2 : Y3.cell? ⟨w.heap.size + 1, 2, none⟩ = some (.slice a n c) := k6.cell (i := 2) rfl
    have r0 : Y3.cell? ⟨w.heap.size + 1 + 1, 0, none⟩ = some (.int .i64 jw) := k7.cell (i := 0) rfl
    have r1 : Y3.cell? ⟨w.heap.size + 1 + 1, 1, none⟩ = some (.int .i64 jh) := k7.cell (i := 1) rfl
    have r2 : Y3.cell? ⟨w.heap.size + 1 + 1, 2, none⟩ = some (.slice a' n' c') := k7.cell (i := 2) rfl
    have o0 : Y3.cell? ⟨bo, 0, none⟩ = some (.int .i64 iw) := ko.cell (i := 0) rfl
    have o1 : Y3.cell? ⟨bo, 1, none⟩ = some (.int .i64 ih) := ko.cell (i := 1) rfl
    have o2 : Y3.cell? ⟨bo, 2, none⟩ = some (.slice so n co) := ko.cell (i := 2) rfl
    have u0 : Y3.cell? ⟨bp, 0, none⟩ = some (.int .i64 jw) := kp.cell (i := 0) rfl
    have u1 : Y3.cell? ⟨bp, 1, none⟩ = some (.int .i64 jh) := kp.cell (i := 1) rfl
    have u2 : Y3.cell? ⟨bp, 2, none⟩ = some (.slice sp n' cp) := kp.cell (i := 2) rfl
    go_wp2_with fail
    refine (Same_eq jw jh sp a' cp c' n' ys hn' Y3 (by omega) (rpH.out Y3 hbY3) (rjH.out Y3 hbY3)).mono ?_
    rintro e Y4 ⟨rfl, hb4⟩
    go_wp2_with fail
    go_ret
    exact ⟨rfl, hBW.trans ((hbY3.trans (hb4.mono hbY3.size)).mono hBW.size)⟩
  have hB : Below V.heap.size V V.drew := (Below.refl _ _).drew
  refine plain_region (fun W' => Below V.heap.size V W') 8 8 (by kernel_rfl) rfl ?_
  simp only [Array.replicate_succ, Array.replicate_zero, List.push_toArray, List.nil_append, List.cons_append]
  refine take_op 0 (v := ?tv0) rfl (by kernel_rfl) (fun _ _ _ h => h) (by rfl) hB (fun w' hS' => ?ty0) ?tz0
  case ty0 =>
    have m0 := (k6.below hS' k6.lt).cell (i := 0) rfl
    have m1 := (k6.below hS' k6.lt).cell (i := 1) rfl
    have m2 := (k6.below hS' k6.lt).cell (i := 2) rfl
    have j0 := (k7.below hS' k7.lt).cell (i := 0) rfl
    have j1 := (k7.below hS' k7.lt).cell (i := 1) rfl
    have j2 := (k7.below hS' k7.lt).cell (i := 2) rfl
    go_simp
    rfl
  simp only [List.setIfInBounds_toArray, List.set_cons_zero, List.set_cons_succ]
  refine take_op 2 (v := ?tv2) rfl (by kernel_rfl) (fun _ _ _ h => h) (by rfl) hB (fun w' hS' => ?ty2) ?tz2
  case ty2 =>
    have m0 := (k6.below hS' k6.lt).cell (i := 0) rfl
    have m1 := (k6.below hS' k6.lt).cell (i := 1) rfl
    have m2 := (k6.below hS' k6.lt).cell (i := 2) rfl
    have j0 := (k7.below hS' k7.lt).cell (i := 0) rfl
    have j1 := (k7.below hS' k7.lt).cell (i := 1) rfl
    have j2 := (k7.below hS' k7.lt).cell (i := 2) rfl
    go_simp
    rfl
  simp only [List.setIfInBounds_toArray, List.set_cons_zero, List.set_cons_succ]
  replace k5 := k5.below hB k5.lt
  replace k6 := k6.below hB k6.lt
  replace k7 := k7.below hB k7.lt
  obtain ⟨V0, hV0⟩ : ∃ V0, V.drew = V0 := ⟨_, rfl⟩
  rw [hV0] at hB k5 k6 k7 ⊢
  clear hV0
  refine fork3 (i := 1) (j := 4) (m := 5) (by kernel_rfl) ?_ ?_ ?_
  · refine step_at 1 rfl (fun K hK => ?_)
    rw [if_pos (by rfl)]
    go_simp
    refine (hT1.out _ hB).mono ?_
    rintro e U1 ⟨v, rfl, ⟨sl, rfl, hrow⟩, hb⟩
    obtain ⟨so, co, rfl⟩ := row_slice hrow
    rw [hn.out] at hrow ⊢
    have rowon := row_base hrow hB.size
    clear hrow
    replace k5 := k5.below hb k5.lt
    replace k6 := k6.below hb k6.lt
    replace k7 := k7.below hb k7.lt
    replace hB := hB.trans (hb.mono hB.size)
    have rowo := rowon
    clear rowon
    clear hb
    refine hK.out _ _ (fun _ => hB) ?_
    clear hK K
    try simp only [Act.put, List.setIfInBounds_toArray, List.set_cons_zero, List.set_cons_succ]
    refine fork3 (i := 3) (j := 4) (m := 5) (by kernel_rfl) ?_ ?_ ?_
    · refine step_at 3 rfl (fun K hK => ?_)
      rw [if_pos (by rfl)]
      go_simp
      refine (hT2.out _ hB).mono ?_
      rintro e U2 ⟨v, rfl, ⟨sl, rfl, hrow⟩, hb⟩
      obtain ⟨sp, cp, rfl⟩ := row_slice hrow
      rw [hn'.out] at hrow ⊢
      have rowpn := row_base hrow hB.size
      clear hrow
      replace k5 := k5.below hb k5.lt
      replace k6 := k6.below hb k6.lt
      replace k7 := k7.below hb k7.lt
      replace rowo := row_below rowo hb
      replace hB := hB.trans (hb.mono hB.size)
      have rowp := rowpn
      clear rowpn
      clear hb
      refine hK.out _ _ (fun _ => hB) ?_
      clear hK K
      try simp only [Act.put, List.setIfInBounds_toArray, List.set_cons_zero, List.set_cons_succ]
      refine fork2 (i := 4) (j := 5) (by kernel_rfl) ?_ ?_
      · refine step_at 4 rfl (fun K hK => ?_)
        rw [if_pos (by rfl)]
        go_simp
        have kon := Blk.new U2 27 #[.int .i64 0, .int .i64 0, .slice none 0 0]
        obtain ⟨bo, hbo⟩ : ∃ b, U2.heap.size = b := ⟨_, rfl⟩
        obtain ⟨U3, hW⟩ : ∃ W2, U2.alloc (.cells #[.int .i64 0, .int .i64 0, .slice none 0 0] 27) = W2 := ⟨_, rfl⟩
        have hb : Below U2.heap.size U2 U3 := by rw [← hW]; exact jb_al (Below.refl _ U2) _
        rw [hW] at kon ⊢
        rw [hbo] at kon ⊢
        have hlko := hB.size
        rw [hbo] at hlko
        replace k5 := k5.below hb k5.lt
        replace k6 := k6.below hb k6.lt
        replace k7 := k7.below hb k7.lt
        replace rowo := row_below rowo hb
        replace rowp := row_below rowp hb
        replace hB := hB.trans (hb.mono hB.size)
        have ko := kon
        clear kon hW hbo
        clear hb
        refine hK.out _ _ (fun _ => hB) ?_
        clear hK K
        try simp only [Act.put, List.setIfInBounds_toArray, List.set_cons_zero, List.set_cons_succ]
        refine step_op 5 (by kernel_rfl) rfl (fun K hK => ?_)
        rw [if_pos (by rfl)]
        go_simp
        have kpn := Blk.new U3 27 #[.int .i64 0, .int .i64 0, .slice none 0 0]
        obtain ⟨bp, hbo⟩ : ∃ b, U3.heap.size = b := ⟨_, rfl⟩
        obtain ⟨U4, hW⟩ : ∃ W2, U3.alloc (.cells #[.int .i64 0, .int .i64 0, .slice none 0 0] 27) = W2 := ⟨_, rfl⟩
        have hb : Below U3.heap.size U3 U4 := by rw [← hW]; exact jb_al (Below.refl _ U3) _
        rw [hW] at kpn ⊢
        rw [hbo] at kpn ⊢
        have hlkp := hB.size
        rw [hbo] at hlkp
        have hlne := ko.lt
        rw [hbo] at hlne
        have hne : bo ≠ bp := by omega
        clear hlne
        replace k5 := k5.below hb k5.lt
        replace k6 := k6.below hb k6.lt
        replace k7 := k7.below hb k7.lt
        replace ko := ko.below hb ko.lt
        replace rowo := row_below rowo hb
        replace rowp := row_below rowp hb
        replace hB := hB.trans (hb.mono hB.size)
        have kp := kpn
        clear kpn hW hbo
        clear hb
        refine hK.out _ _ (fun _ => hB) ?_
        clear hK K
        try simp only [Act.put, List.setIfInBounds_toArray, List.set_cons_zero, List.set_cons_succ]
        refine step_op 6 (by kernel_rfl) rfl (fun K hK => ?_)
        rw [if_pos (by rfl)]
        have z0 := ko.cell (i := 0) rfl
        have fz0 := ko.frozen 0
        have z1 := ko.cell (i := 1) rfl
        have fz1 := ko.frozen 1
        have z2 := ko.cell (i := 2) rfl
        have fz2 := ko.frozen 2
        go_simp
        clear z0 z1 z2 fz0 fz1 fz2
        have hg := put3_grown U4 bo (.int .i64 iw) (.int .i64 ih) (.slice so n co)
        have kon := put3_blk ko (.int .i64 iw) (.int .i64 ih) (.slice so n co)
        have ron := put3_row rowo (ko.not_row (by decide) rowo) (.int .i64 iw) (.int .i64 ih) (.slice so n co)
        have rpn := put3_row rowp (ko.not_row (by decide) rowp) (.int .i64 iw) (.int .i64 ih) (.slice so n co)
        replace hB := hB.trans (put3_below (n := V.heap.size) (B := bo) (by omega) (.int .i64 iw) (.int .i64 ih) (.slice so n co))
        obtain ⟨U5, hW⟩ : ∃ W2, put3 U4 bo (.int .i64 iw) (.int .i64 ih) (.slice so n co) = W2 := ⟨_, rfl⟩
        have hW' : ((U4.setCell ⟨bo, 0, none⟩ (.int .i64 iw)).setCell ⟨bo, 1, none⟩ (.int .i64 ih)).setCell ⟨bo, 2, none⟩ (.slice so n co) = U5 := hW
        rw [hW] at hg kon ron rpn hB
        rw [hW']
        clear hW hW' rowo rowp
        have rowo := ron
        have rowp := rpn
        clear ron rpn
        replace k5 := k5.kept hg (by simp <;> omega)
        replace k6 := k6.kept hg (by simp <;> omega)
        replace k7 := k7.kept hg (by simp <;> omega)
        replace kp := kp.kept hg (by simp <;> omega)
        replace ko := kon
        clear kon hg
        refine hK.out _ _ (fun _ => hB) ?_
        clear hK K
        try simp only [Act.put, List.setIfInBounds_toArray, List.set_cons_zero, List.set_cons_succ]
        refine step_op 7 (by kernel_rfl) rfl (fun K hK => ?_)
        rw [if_pos (by rfl)]
        have z0 := kp.cell (i := 0) rfl
        have fz0 := kp.frozen 0
        have z1 := kp.cell (i := 1) rfl
        have fz1 := kp.frozen 1
        have z2 := kp.cell (i := 2) rfl
        have fz2 := kp.frozen 2
        go_simp
        clear z0 z1 z2 fz0 fz1 fz2
        have hg := put3_grown U5 bp (.int .i64 jw) (.int .i64 jh) (.slice sp n' cp)
        have kpn := put3_blk kp (.int .i64 jw) (.int .i64 jh) (.slice sp n' cp)
        have ron := put3_row rowo (kp.not_row (by decide) rowo) (.int .i64 jw) (.int .i64 jh) (.slice sp n' cp)
        have rpn := put3_row rowp (kp.not_row (by decide) rowp) (.int .i64 jw) (.int .i64 jh) (.slice sp n' cp)
        replace hB := hB.trans (put3_below (n := V.heap.size) (B := bp) (by omega) (.int .i64 jw) (.int .i64 jh) (.slice sp n' cp))
        obtain ⟨U6, hW⟩ : ∃ W2, put3 U5 bp (.int .i64 jw) (.int .i64 jh) (.slice sp n' cp) = W2 := ⟨_, rfl⟩
        have hW' : ((U5.setCell ⟨bp, 0, none⟩ (.int .i64 jw)).setCell ⟨bp, 1, none⟩ (.int .i64 jh)).setCell ⟨bp, 2, none⟩ (.slice sp n' cp) = U6 := hW
        rw [hW] at hg kpn ron rpn hB
        rw [hW']
        clear hW hW' rowo rowp
        have rowo := ron
        have rowp := rpn
        clear ron rpn
        replace k5 := k5.kept hg (by simp <;> omega)
        replace k6 := k6.kept hg (by simp <;> omega)
        replace k7 := k7.kept hg (by simp <;> omega)
        replace ko := ko.kept hg (by simp <;> omega)
        replace kp := kpn
        clear kpn hg
        refine hK.out _ _ (fun _ => hB) ?_
        clear hK K
        try simp only [Act.put, List.setIfInBounds_toArray, List.set_cons_zero, List.set_cons_succ]
        refine done_ops (by kernel_rfl) ?_
        exact key so sp co cp bo bp _ ko kp rowo rowp hB k5 k6 k7 hlko hlkp hne
      · refine step_at 5 rfl (fun K hK => ?_)
        rw [if_pos (by rfl)]
        go_simp
        have kpn := Blk.new U2 27 #[.int .i64 0, .int .i64 0, .slice none 0 0]
        obtain ⟨bp, hbo⟩ : ∃ b, U2.heap.size = b := ⟨_, rfl⟩
        obtain ⟨U7, hW⟩ : ∃ W2, U2.alloc (.cells #[.int .i64 0, .int .i64 0, .slice none 0 0] 27) = W2 := ⟨_, rfl⟩
        have hb : Below U2.heap.size U2 U7 := by rw [← hW]; exact jb_al (Below.refl _ U2) _
        rw [hW] at kpn ⊢
        rw [hbo] at kpn ⊢
        have hlkp := hB.size
        rw [hbo] at hlkp
        replace k5 := k5.below hb k5.lt
        replace k6 := k6.below hb k6.lt
        replace k7 := k7.below hb k7.lt
        replace rowo := row_below rowo hb
        replace rowp := row_below rowp hb
        replace hB := hB.trans (hb.mono hB.size)
        have kp := kpn
        clear kpn hW hbo
        clear hb
        refine hK.out _ _ (fun _ => hB) ?_
        clear hK K
        try simp only [Act.put, List.setIfInBounds_toArray, List.set_cons_zero, List.set_cons_succ]
        refine step_op 4 (by kernel_rfl) rfl (fun K hK => ?_)
        rw [if_pos (by rfl)]
        go_simp
        have kon := Blk.new U7 27 #[.int .i64 0, .int .i64 0, .slice none 0 0]
        obtain ⟨bo, hbo⟩ : ∃ b, U7.heap.size = b := ⟨_, rfl⟩
        obtain ⟨U8, hW⟩ : ∃ W2, U7.alloc (.cells #[.int .i64 0, .int .i64 0, .slice none 0 0] 27) = W2 := ⟨_, rfl⟩
        have hb : Below U7.heap.size U7 U8 := by rw [← hW]; exact jb_al (Below.refl _ U7) _
        rw [hW] at kon ⊢
        rw [hbo] at kon ⊢
        have hlko := hB.size
        rw [hbo] at hlko
        have hlne := kp.lt
        rw [hbo] at hlne
        have hne : bo ≠ bp := by omega
        clear hlne
        replace k5 := k5.below hb k5.lt
        replace k6 := k6.below hb k6.lt
        replace k7 := k7.below hb k7.lt
        replace kp := kp.below hb kp.lt
        replace rowo := row_below rowo hb
        replace rowp := row_below rowp hb
        replace hB := hB.trans (hb.mono hB.size)
        have ko := kon
        clear kon hW hbo
        clear hb
        refine hK.out _ _ (fun _ => hB) ?_
        clear hK K
        try simp only [Act.put, List.setIfInBounds_toArray, List.set_cons_zero, List.set_cons_succ]
        refine step_op 6 (by kernel_rfl) rfl (fun K hK => ?_)
        rw [if_pos (by rfl)]
        have z0 := ko.cell (i := 0) rfl
        have fz0 := ko.frozen 0
        have z1 := ko.cell (i := 1) rfl
        have fz1 := ko.frozen 1
        have z2 := ko.cell (i := 2) rfl
        have fz2 := ko.frozen 2
        go_simp
        clear z0 z1 z2 fz0 fz1 fz2
        have hg := put3_grown U8 bo (.int .i64 iw) (.int .i64 ih) (.slice so n co)
        have kon := put3_blk ko (.int .i64 iw) (.int .i64 ih) (.slice so n co)
        have ron := put3_row rowo (ko.not_row (by decide) rowo) (.int .i64 iw) (.int .i64 ih) (.slice so n co)
        have rpn := put3_row rowp (ko.not_row (by decide) rowp) (.int .i64 iw) (.int .i64 ih) (.slice so n co)
        replace hB := hB.trans (put3_below (n := V.heap.size) (B := bo) (by omega) (.int .i64 iw) (.int .i64 ih) (.slice so n co))
        obtain ⟨U9, hW⟩ : ∃ W2, put3 U8 bo (.int .i64 iw) (.int .i64 ih) (.slice so n co) = W2 := ⟨_, rfl⟩
        have hW' : ((U8.setCell ⟨bo, 0, none⟩ (.int .i64 iw)).setCell ⟨bo, 1, none⟩ (.int .i64 ih)).setCell ⟨bo, 2, none⟩ (.slice so n co) = U9 := hW
        rw [hW] at hg kon ron rpn hB
        rw [hW']
        clear hW hW' rowo rowp
        have rowo := ron
        have rowp := rpn
        clear ron rpn
        replace k5 := k5.kept hg (by simp <;> omega)
        replace k6 := k6.kept hg (by simp <;> omega)
        replace k7 := k7.kept hg (by simp <;> omega)
        replace kp := kp.kept hg (by simp <;> omega)
        replace ko := kon
        clear kon hg
        refine hK.out _ _ (fun _ => hB) ?_
        clear hK K
        try simp only [Act.put, List.setIfInBounds_toArray, List.set_cons_zero, List.set_cons_succ]
        refine step_op 7 (by kernel_rfl) rfl (fun K hK => ?_)
        rw [if_pos (by rfl)]
        have z0 := kp.cell (i := 0) rfl
        have fz0 := kp.frozen 0
        have z1 := kp.cell (i := 1) rfl
        have fz1 := kp.frozen 1
        have z2 := kp.cell (i := 2) rfl
        have fz2 := kp.frozen 2
        go_simp
        clear z0 z1 z2 fz0 fz1 fz2
        have hg := put3_grown U9 bp (.int .i64 jw) (.int .i64 jh) (.slice sp n' cp)
        have kpn := put3_blk kp (.int .i64 jw) (.int .i64 jh) (.slice sp n' cp)
        have ron := put3_row rowo (kp.not_row (by decide) rowo) (.int .i64 jw) (.int .i64 jh) (.slice sp n' cp)
        have rpn := put3_row rowp (kp.not_row (by decide) rowp) (.int .i64 jw) (.int .i64 jh) (.slice sp n' cp)
        replace hB := hB.trans (put3_below (n := V.heap.size) (B := bp) (by omega) (.int .i64 jw) (.int .i64 jh) (.slice sp n' cp))
        obtain ⟨U10, hW⟩ : ∃ W2, put3 U9 bp (.int .i64 jw) (.int .i64 jh) (.slice sp n' cp) = W2 := ⟨_, rfl⟩
        have hW' : ((U9.setCell ⟨bp, 0, none⟩ (.int .i64 jw)).setCell ⟨bp, 1, none⟩ (.int .i64 jh)).setCell ⟨bp, 2, none⟩ (.slice sp n' cp) = U10 := hW
        rw [hW] at hg kpn ron rpn hB
        rw [hW']
        clear hW hW' rowo rowp
        have rowo := ron
        have rowp := rpn
        clear ron rpn
        replace k5 := k5.kept hg (by simp <;> omega)
        replace k6 := k6.kept hg (by simp <;> omega)
        replace k7 := k7.kept hg (by simp <;> omega)
        replace ko := ko.kept hg (by simp <;> omega)
        replace kp := kpn
        clear kpn hg
        refine hK.out _ _ (fun _ => hB) ?_
        clear hK K
        try simp only [Act.put, List.setIfInBounds_toArray, List.set_cons_zero, List.set_cons_succ]
        refine done_ops (by kernel_rfl) ?_
        exact key so sp co cp bo bp _ ko kp rowo rowp hB k5 k6 k7 hlko hlkp hne
    · refine step_at 4 rfl (fun K hK => ?_)
      rw [if_pos (by rfl)]
      go_simp
      have kon := Blk.new U1 27 #[.int .i64 0, .int .i64 0, .slice none 0 0]
      obtain ⟨bo, hbo⟩ : ∃ b, U1.heap.size = b := ⟨_, rfl⟩
      obtain ⟨U11, hW⟩ : ∃ W2, U1.alloc (.cells #[.int .i64 0, .int .i64 0, .slice none 0 0] 27) = W2 := ⟨_, rfl⟩
      have hb : Below U1.heap.size U1 U11 := by rw [← hW]; exact jb_al (Below.refl _ U1) _
      rw [hW] at kon ⊢
      rw [hbo] at kon ⊢
      have hlko := hB.size
      rw [hbo] at hlko
      replace k5 := k5.below hb k5.lt
      replace k6 := k6.below hb k6.lt
      replace k7 := k7.below hb k7.lt
      replace rowo := row_below rowo hb
      replace hB := hB.trans (hb.mono hB.size)
      have ko := kon
      clear kon hW hbo
      clear hb
      refine hK.out _ _ (fun _ => hB) ?_
      clear hK K
      try simp only [Act.put, List.setIfInBounds_toArray, List.set_cons_zero, List.set_cons_succ]
      refine fork2 (i := 3) (j := 5) (by kernel_rfl) ?_ ?_
      · refine step_at 3 rfl (fun K hK => ?_)
        rw [if_pos (by rfl)]
        go_simp
        refine (hT2.out _ hB).mono ?_
        rintro e U12 ⟨v, rfl, ⟨sl, rfl, hrow⟩, hb⟩
        obtain ⟨sp, cp, rfl⟩ := row_slice hrow
        rw [hn'.out] at hrow ⊢
        have rowpn := row_base hrow hB.size
        clear hrow
        replace k5 := k5.below hb k5.lt
        replace k6 := k6.below hb k6.lt
        replace k7 := k7.below hb k7.lt
        replace ko := ko.below hb ko.lt
        replace rowo := row_below rowo hb
        replace hB := hB.trans (hb.mono hB.size)
        have rowp := rowpn
        clear rowpn
        clear hb
        refine hK.out _ _ (fun _ => hB) ?_
        clear hK K
        try simp only [Act.put, List.setIfInBounds_toArray, List.set_cons_zero, List.set_cons_succ]
        refine step_op 5 (by kernel_rfl) rfl (fun K hK => ?_)
        rw [if_pos (by rfl)]
        go_simp
        have kpn := Blk.new U12 27 #[.int .i64 0, .int .i64 0, .slice none 0 0]
        obtain ⟨bp, hbo⟩ : ∃ b, U12.heap.size = b := ⟨_, rfl⟩
        obtain ⟨U13, hW⟩ : ∃ W2, U12.alloc (.cells #[.int .i64 0, .int .i64 0, .slice none 0 0] 27) = W2 := ⟨_, rfl⟩
        have hb : Below U12.heap.size U12 U13 := by rw [← hW]; exact jb_al (Below.refl _ U12) _
        rw [hW] at kpn ⊢
        rw [hbo] at kpn ⊢
        have hlkp := hB.size
        rw [hbo] at hlkp
        have hlne := ko.lt
        rw [hbo] at hlne
        have hne : bo ≠ bp := by omega
        clear hlne
        replace k5 := k5.below hb k5.lt
        replace k6 := k6.below hb k6.lt
        replace k7 := k7.below hb k7.lt
        replace ko := ko.below hb ko.lt
        replace rowo := row_below rowo hb
        replace rowp := row_below rowp hb
        replace hB := hB.trans (hb.mono hB.size)
        have kp := kpn
        clear kpn hW hbo
        clear hb
        refine hK.out _ _ (fun _ => hB) ?_
        clear hK K
        try simp only [Act.put, List.setIfInBounds_toArray, List.set_cons_zero, List.set_cons_succ]
        refine step_op 6 (by kernel_rfl) rfl (fun K hK => ?_)
        rw [if_pos (by rfl)]
        have z0 := ko.cell (i := 0) rfl
        have fz0 := ko.frozen 0
        have z1 := ko.cell (i := 1) rfl
        have fz1 := ko.frozen 1
        have z2 := ko.cell (i := 2) rfl
        have fz2 := ko.frozen 2
        go_simp
        clear z0 z1 z2 fz0 fz1 fz2
        have hg := put3_grown U13 bo (.int .i64 iw) (.int .i64 ih) (.slice so n co)
        have kon := put3_blk ko (.int .i64 iw) (.int .i64 ih) (.slice so n co)
        have ron := put3_row rowo (ko.not_row (by decide) rowo) (.int .i64 iw) (.int .i64 ih) (.slice so n co)
        have rpn := put3_row rowp (ko.not_row (by decide) rowp) (.int .i64 iw) (.int .i64 ih) (.slice so n co)
        replace hB := hB.trans (put3_below (n := V.heap.size) (B := bo) (by omega) (.int .i64 iw) (.int .i64 ih) (.slice so n co))
        obtain ⟨U14, hW⟩ : ∃ W2, put3 U13 bo (.int .i64 iw) (.int .i64 ih) (.slice so n co) = W2 := ⟨_, rfl⟩
        have hW' : ((U13.setCell ⟨bo, 0, none⟩ (.int .i64 iw)).setCell ⟨bo, 1, none⟩ (.int .i64 ih)).setCell ⟨bo, 2, none⟩ (.slice so n co) = U14 := hW
        rw [hW] at hg kon ron rpn hB
        rw [hW']
        clear hW hW' rowo rowp
        have rowo := ron
        have rowp := rpn
        clear ron rpn
        replace k5 := k5.kept hg (by simp <;> omega)
        replace k6 := k6.kept hg (by simp <;> omega)
        replace k7 := k7.kept hg (by simp <;> omega)
        replace kp := kp.kept hg (by simp <;> omega)
        replace ko := kon
        clear kon hg
        refine hK.out _ _ (fun _ => hB) ?_
        clear hK K
        try simp only [Act.put, List.setIfInBounds_toArray, List.set_cons_zero, List.set_cons_succ]
        refine step_op 7 (by kernel_rfl) rfl (fun K hK => ?_)
        rw [if_pos (by rfl)]
        have z0 := kp.cell (i := 0) rfl
        have fz0 := kp.frozen 0
        have z1 := kp.cell (i := 1) rfl
        have fz1 := kp.frozen 1
        have z2 := kp.cell (i := 2) rfl
        have fz2 := kp.frozen 2
        go_simp
        clear z0 z1 z2 fz0 fz1 fz2
        have hg := put3_grown U14 bp (.int .i64 jw) (.int .i64 jh) (.slice sp n' cp)
        have kpn := put3_blk kp (.int .i64 jw) (.int .i64 jh) (.slice sp n' cp)
        have ron := put3_row rowo (kp.not_row (by decide) rowo) (.int .i64 jw) (.int .i64 jh) (.slice sp n' cp)
        have rpn := put3_row rowp (kp.not_row (by decide) rowp) (.int .i64 jw) (.int .i64 jh) (.slice sp n' cp)
        replace hB := hB.trans (put3_below (n := V.heap.size) (B := bp) (by omega) (.int .i64 jw) (.int .i64 jh) (.slice sp n' cp))
        obtain ⟨U15, hW⟩ : ∃ W2, put3 U14 bp (.int .i64 jw) (.int .i64 jh) (.slice sp n' cp) = W2 := ⟨_, rfl⟩
        have hW' : ((U14.setCell ⟨bp, 0, none⟩ (.int .i64 jw)).setCell ⟨bp, 1, none⟩ (.int .i64 jh)).setCell ⟨bp, 2, none⟩ (.slice sp n' cp) = U15 := hW
        rw [hW] at hg kpn ron rpn hB
        rw [hW']
        clear hW hW' rowo rowp
        have rowo := ron
        have rowp := rpn
        clear ron rpn
        replace k5 := k5.kept hg (by simp <;> omega)
        replace k6 := k6.kept hg (by simp <;> omega)
        replace k7 := k7.kept hg (by simp <;> omega)
        replace ko := ko.kept hg (by simp <;> omega)
        replace kp := kpn
        clear kpn hg
        refine hK.out _ _ (fun _ => hB) ?_
        clear hK K
        try simp only [Act.put, List.setIfInBounds_toArray, List.set_cons_zero, List.set_cons_succ]
        refine done_ops (by kernel_rfl) ?_
        exact key so sp co cp bo bp _ ko kp rowo rowp hB k5 k6 k7 hlko hlkp hne
      · refine step_at 5 rfl (fun K hK => ?_)
        rw [if_pos (by rfl)]
        go_simp
        have kpn := Blk.new U11 27 #[.int .i64 0, .int .i64 0, .slice none 0 0]
        obtain ⟨bp, hbo⟩ : ∃ b, U11.heap.size = b := ⟨_, rfl⟩
        obtain ⟨U16, hW⟩ : ∃ W2, U11.alloc (.cells #[.int .i64 0, .int .i64 0, .slice none 0 0] 27) = W2 := ⟨_, rfl⟩
        have hb : Below U11.heap.size U11 U16 := by rw [← hW]; exact jb_al (Below.refl _ U11) _
        rw [hW] at kpn ⊢
        rw [hbo] at kpn ⊢
        have hlkp := hB.size
        rw [hbo] at hlkp
        have hlne := ko.lt
        rw [hbo] at hlne
        have hne : bo ≠ bp := by omega
        clear hlne
        replace k5 := k5.below hb k5.lt
        replace k6 := k6.below hb k6.lt
        replace k7 := k7.below hb k7.lt
        replace ko := ko.below hb ko.lt
        replace rowo := row_below rowo hb
        replace hB := hB.trans (hb.mono hB.size)
        have kp := kpn
        clear kpn hW hbo
        clear hb
        refine hK.out _ _ (fun _ => hB) ?_
        clear hK K
        try simp only [Act.put, List.setIfInBounds_toArray, List.set_cons_zero, List.set_cons_succ]
        refine step_op 3 (by kernel_rfl) rfl (fun K hK => ?_)
        rw [if_pos (by rfl)]
        go_simp
        refine (hT2.out _ hB).mono ?_
        rintro e U17 ⟨v, rfl, ⟨sl, rfl, hrow⟩, hb⟩
        obtain ⟨sp, cp, rfl⟩ := row_slice hrow
        rw [hn'.out] at hrow ⊢
        have rowpn := row_base hrow hB.size
        clear hrow
        replace k5 := k5.below hb k5.lt
        replace k6 := k6.below hb k6.lt
        replace k7 := k7.below hb k7.lt
        replace ko := ko.below hb ko.lt
        replace kp := kp.below hb kp.lt
        replace rowo := row_below rowo hb
        replace hB := hB.trans (hb.mono hB.size)
        have rowp := rowpn
        clear rowpn
        clear hb
        refine hK.out _ _ (fun _ => hB) ?_
        clear hK K
        try simp only [Act.put, List.setIfInBounds_toArray, List.set_cons_zero, List.set_cons_succ]
        refine step_op 6 (by kernel_rfl) rfl (fun K hK => ?_)
        rw [if_pos (by rfl)]
        have z0 := ko.cell (i := 0) rfl
        have fz0 := ko.frozen 0
        have z1 := ko.cell (i := 1) rfl
        have fz1 := ko.frozen 1
        have z2 := ko.cell (i := 2) rfl
        have fz2 := ko.frozen 2
        go_simp
        clear z0 z1 z2 fz0 fz1 fz2
        have hg := put3_grown U17 bo (.int .i64 iw) (.int .i64 ih) (.slice so n co)
        have kon := put3_blk ko (.int .i64 iw) (.int .i64 ih) (.slice so n co)
        have ron := put3_row rowo (ko.not_row (by decide) rowo) (.int .i64 iw) (.int .i64 ih) (.slice so n co)
        have rpn := put3_row rowp (ko.not_row (by decide) rowp) (.int .i64 iw) (.int .i64 ih) (.slice so n co)
        replace hB := hB.trans (put3_below (n := V.heap.size) (B := bo) (by omega) (.int .i64 iw) (.int .i64 ih) (.slice so n co))
        obtain ⟨U18, hW⟩ : ∃ W2, put3 U17 bo (.int .i64 iw) (.int .i64 ih) (.slice so n co) = W2 := ⟨_, rfl⟩
        have hW' : ((U17.setCell ⟨bo, 0, none⟩ (.int .i64 iw)).setCell ⟨bo, 1, none⟩ (.int .i64 ih)).setCell ⟨bo, 2, none⟩ (.slice so n co) = U18 := hW
        rw [hW] at hg kon ron rpn hB
        rw [hW']
        clear hW hW' rowo rowp
        have rowo := ron
        have rowp := rpn
        clear ron rpn
        replace k5 := k5.kept hg (by simp <;> omega)
        replace k6 := k6.kept hg (by simp <;> omega)
        replace k7 := k7.kept hg (by simp <;> omega)
        replace kp := kp.kept hg (by simp <;> omega)
        replace ko := kon
        clear kon hg
        refine hK.out _ _ (fun _ => hB) ?_
        clear hK K
        try simp only [Act.put, List.setIfInBounds_toArray, List.set_cons_zero, List.set_cons_succ]
        refine step_op 7 (by kernel_rfl) rfl (fun K hK => ?_)
        rw [if_pos (by rfl)]
        have z0 := kp.cell (i := 0) rfl
        have fz0 := kp.frozen 0
        have z1 := kp.cell (i := 1) rfl
        have fz1 := kp.frozen 1
        have z2 := kp.cell (i := 2) rfl
        have fz2 := kp.frozen 2
        go_simp
        clear z0 z1 z2 fz0 fz1 fz2
        have hg := put3_grown U18 bp (.int .i64 jw) (.int .i64 jh) (.slice sp n' cp)
        have kpn := put3_blk kp (.int .i64 jw) (.int .i64 jh) (.slice sp n' cp)
        have ron := put3_row rowo (kp.not_row (by decide) rowo) (.int .i64 jw) (.int .i64 jh) (.slice sp n' cp)
        have rpn := put3_row rowp (kp.not_row (by decide) rowp) (.int .i64 jw) (.int .i64 jh) (.slice sp n' cp)
        replace hB := hB.trans (put3_below (n := V.heap.size) (B := bp) (by omega) (.int .i64 jw) (.int .i64 jh) (.slice sp n' cp))
        obtain ⟨U19, hW⟩ : ∃ W2, put3 U18 bp (.int .i64 jw) (.int .i64 jh) (.slice sp n' cp) = W2 := ⟨_, rfl⟩
        have hW' : ((U18.setCell ⟨bp, 0, none⟩ (.int .i64 jw)).setCell ⟨bp, 1, none⟩ (.int .i64 jh)).setCell ⟨bp, 2, none⟩ (.slice sp n' cp) = U19 := hW
        rw [hW] at hg kpn ron rpn hB
        rw [hW']
        clear hW hW' rowo rowp
        have rowo := ron
        have rowp := rpn
        clear ron rpn
        replace k5 := k5.kept hg (by simp <;> omega)
        replace k6 := k6.kept hg (by simp <;> omega)
        replace k7 := k7.kept hg (by simp <;> omega)
        replace ko := ko.kept hg (by simp <;> omega)
        replace kp := kpn
        clear kpn hg
        refine hK.out _ _ (fun _ => hB) ?_
        clear hK K
        try simp only [Act.put, List.setIfInBounds_toArray, List.set_cons_zero, List.set_cons_succ]
        refine done_ops (by kernel_rfl) ?_
        exact key so sp co cp bo bp _ ko kp rowo rowp hB k5 k6 k7 hlko hlkp hne
    · refine step_at 5 rfl (fun K hK => ?_)
      rw [if_pos (by rfl)]
      go_simp
      have kpn := Blk.new U1 27 #[.int .i64 0, .int .i64 0, .slice none 0 0]
      obtain ⟨bp, hbo⟩ : ∃ b, U1.heap.size = b := ⟨_, rfl⟩
      obtain ⟨U20, hW⟩ : ∃ W2, U1.alloc (.cells #[.int .i64 0, .int .i64 0, .slice none 0 0] 27) = W2 := ⟨_, rfl⟩
      have hb : Below U1.heap.size U1 U20 := by rw [← hW]; exact jb_al (Below.refl _ U1) _
      rw [hW] at kpn ⊢
      rw [hbo] at kpn ⊢
      have hlkp := hB.size
      rw [hbo] at hlkp
      replace k5 := k5.below hb k5.lt
      replace k6 := k6.below hb k6.lt
      replace k7 := k7.below hb k7.lt
      replace rowo := row_below rowo hb
      replace hB := hB.trans (hb.mono hB.size)
      have kp := kpn
      clear kpn hW hbo
      clear hb
      refine hK.out _ _ (fun _ => hB) ?_
      clear hK K
      try simp only [Act.put, List.setIfInBounds_toArray, List.set_cons_zero, List.set_cons_succ]
      refine fork2 (i := 3) (j := 4) (by kernel_rfl) ?_ ?_
      · refine step_at 3 rfl (fun K hK => ?_)
        rw [if_pos (by rfl)]
        go_simp
        refine (hT2.out _ hB).mono ?_
        rintro e U21 ⟨v, rfl, ⟨sl, rfl, hrow⟩, hb⟩
        obtain ⟨sp, cp, rfl⟩ := row_slice hrow
        rw [hn'.out] at hrow ⊢
        have rowpn := row_base hrow hB.size
        clear hrow
        replace k5 := k5.below hb k5.lt
        replace k6 := k6.below hb k6.lt
        replace k7 := k7.below hb k7.lt
        replace kp := kp.below hb kp.lt
        replace rowo := row_below rowo hb
        replace hB := hB.trans (hb.mono hB.size)
        have rowp := rowpn
        clear rowpn
        clear hb
        refine hK.out _ _ (fun _ => hB) ?_
        clear hK K
        try simp only [Act.put, List.setIfInBounds_toArray, List.set_cons_zero, List.set_cons_succ]
        refine step_op 4 (by kernel_rfl) rfl (fun K hK => ?_)
        rw [if_pos (by rfl)]
        go_simp
        have kon := Blk.new U21 27 #[.int .i64 0, .int .i64 0, .slice none 0 0]
        obtain ⟨bo, hbo⟩ : ∃ b, U21.heap.size = b := ⟨_, rfl⟩
        obtain ⟨U22, hW⟩ : ∃ W2, U21.alloc (.cells #[.int .i64 0, .int .i64 0, .slice none 0 0] 27) = W2 := ⟨_, rfl⟩
        have hb : Below U21.heap.size U21 U22 := by rw [← hW]; exact jb_al (Below.refl _ U21) _
        rw [hW] at kon ⊢
        rw [hbo] at kon ⊢
        have hlko := hB.size
        rw [hbo] at hlko
        have hlne := kp.lt
        rw [hbo] at hlne
        have hne : bo ≠ bp := by omega
        clear hlne
        replace k5 := k5.below hb k5.lt
        replace k6 := k6.below hb k6.lt
        replace k7 := k7.below hb k7.lt
        replace kp := kp.below hb kp.lt
        replace rowo := row_below rowo hb
        replace rowp := row_below rowp hb
        replace hB := hB.trans (hb.mono hB.size)
        have ko := kon
        clear kon hW hbo
        clear hb
        refine hK.out _ _ (fun _ => hB) ?_
        clear hK K
        try simp only [Act.put, List.setIfInBounds_toArray, List.set_cons_zero, List.set_cons_succ]
        refine step_op 6 (by kernel_rfl) rfl (fun K hK => ?_)
        rw [if_pos (by rfl)]
        have z0 := ko.cell (i := 0) rfl
        have fz0 := ko.frozen 0
        have z1 := ko.cell (i := 1) rfl
        have fz1 := ko.frozen 1
        have z2 := ko.cell (i := 2) rfl
        have fz2 := ko.frozen 2
        go_simp
        clear z0 z1 z2 fz0 fz1 fz2
        have hg := put3_grown U22 bo (.int .i64 iw) (.int .i64 ih) (.slice so n co)
        have kon := put3_blk ko (.int .i64 iw) (.int .i64 ih) (.slice so n co)
        have ron := put3_row rowo (ko.not_row (by decide) rowo) (.int .i64 iw) (.int .i64 ih) (.slice so n co)
        have rpn := put3_row rowp (ko.not_row (by decide) rowp) (.int .i64 iw) (.int .i64 ih) (.slice so n co)
        replace hB := hB.trans (put3_below (n := V.heap.size) (B := bo) (by omega) (.int .i64 iw) (.int .i64 ih) (.slice so n co))
        obtain ⟨U23, hW⟩ : ∃ W2, put3 U22 bo (.int .i64 iw) (.int .i64 ih) (.slice so n co) = W2 := ⟨_, rfl⟩
        have hW' : ((U22.setCell ⟨bo, 0, none⟩ (.int .i64 iw)).setCell ⟨bo, 1, none⟩ (.int .i64 ih)).setCell ⟨bo, 2, none⟩ (.slice so n co) = U23 := hW
        rw [hW] at hg kon ron rpn hB
        rw [hW']
        clear hW hW' rowo rowp
        have rowo := ron
        have rowp := rpn
        clear ron rpn
        replace k5 := k5.kept hg (by simp <;> omega)
        replace k6 := k6.kept hg (by simp <;> omega)
        replace k7 := k7.kept hg (by simp <;> omega)
        replace kp := kp.kept hg (by simp <;> omega)
        replace ko := kon
        clear kon hg
        refine hK.out _ _ (fun _ => hB) ?_
        clear hK K
        try simp only [Act.put, List.setIfInBounds_toArray, List.set_cons_zero, List.set_cons_succ]
        refine step_op 7 (by kernel_rfl) rfl (fun K hK => ?_)
        rw [if_pos (by rfl)]
        have z0 := kp.cell (i := 0) rfl
        have fz0 := kp.frozen 0
        have z1 := kp.cell (i := 1) rfl
        have fz1 := kp.frozen 1
        have z2 := kp.cell (i := 2) rfl
        have fz2 := kp.frozen 2
        go_simp
        clear z0 z1 z2 fz0 fz1 fz2
        have hg := put3_grown U23 bp (.int .i64 jw) (.int .i64 jh) (.slice sp n' cp)
        have kpn := put3_blk kp (.int .i64 jw) (.int .i64 jh) (.slice sp n' cp)
        have ron := put3_row rowo (kp.not_row (by decide) rowo) (.int .i64 jw) (.int .i64 jh) (.slice sp n' cp)
        have rpn := put3_row rowp (kp.not_row (by decide) rowp) (.int .i64 jw) (.int .i64 jh) (.slice sp n' cp)
        replace hB := hB.trans (put3_below (n := V.heap.size) (B := bp) (by omega) (.int .i64 jw) (.int .i64 jh) (.slice sp n' cp))
        obtain ⟨U24, hW⟩ : ∃ W2, put3 U23 bp (.int .i64 jw) (.int .i64 jh) (.slice sp n' cp) = W2 := ⟨_, rfl⟩
        have hW' : ((U23.setCell ⟨bp, 0, none⟩ (.int .i64 jw)).setCell ⟨bp, 1, none⟩ (.int .i64 jh)).setCell ⟨bp, 2, none⟩ (.slice sp n' cp) = U24 := hW
        rw [hW] at hg kpn ron rpn hB
        rw [hW']
        clear hW hW' rowo rowp
        have rowo := ron
        have rowp := rpn
        clear ron rpn
        replace k5 := k5.kept hg (by simp <;> omega)
        replace k6 := k6.kept hg (by simp <;> omega)
        replace k7 := k7.kept hg (by simp <;> omega)
        replace ko := ko.kept hg (by simp <;> omega)
        replace kp := kpn
        clear kpn hg
        refine hK.out _ _ (fun _ => hB) ?_
        clear hK K
        try simp only [Act.put, List.setIfInBounds_toArray, List.set_cons_zero, List.set_cons_succ]
        refine done_ops (by kernel_rfl) ?_
        exact key so sp co cp bo bp _ ko kp rowo rowp hB k5 k6 k7 hlko hlkp hne
      · refine step_at 4 rfl (fun K hK => ?_)
        rw [if_pos (by rfl)]
        go_simp
        have kon := Blk.new U20 27 #[.int .i64 0, .int .i64 0, .slice none 0 0]
        obtain ⟨bo, hbo⟩ : ∃ b, U20.heap.size = b := ⟨_, rfl⟩
        obtain ⟨U25, hW⟩ : ∃ W2, U20.alloc (.cells #[.int .i64 0, .int .i64 0, .slice none 0 0] 27) = W2 := ⟨_, rfl⟩
        have hb : Below U20.heap.size U20 U25 := by rw [← hW]; exact jb_al (Below.refl _ U20) _
        rw [hW] at kon ⊢
        rw [hbo] at kon ⊢
        have hlko := hB.size
        rw [hbo] at hlko
        have hlne := kp.lt
        rw [hbo] at hlne
        have hne : bo ≠ bp := by omega
        clear hlne
        replace k5 := k5.below hb k5.lt
        replace k6 := k6.below hb k6.lt
        replace k7 := k7.below hb k7.lt
        replace kp := kp.below hb kp.lt
        replace rowo := row_below rowo hb
        replace hB := hB.trans (hb.mono hB.size)
        have ko := kon
        clear kon hW hbo
        clear hb
        refine hK.out _ _ (fun _ => hB) ?_
        clear hK K
        try simp only [Act.put, List.setIfInBounds_toArray, List.set_cons_zero, List.set_cons_succ]
        refine step_op 3 (by kernel_rfl) rfl (fun K hK => ?_)
        rw [if_pos (by rfl)]
        go_simp
        refine (hT2.out _ hB).mono ?_
        rintro e U26 ⟨v, rfl, ⟨sl, rfl, hrow⟩, hb⟩
        obtain ⟨sp, cp, rfl⟩ := row_slice hrow
        rw [hn'.out] at hrow ⊢
        have rowpn := row_base hrow hB.size
        clear hrow
        replace k5 := k5.below hb k5.lt
        replace k6 := k6.below hb k6.lt
        replace k7 := k7.below hb k7.lt
        replace ko := ko.below hb ko.lt
        replace kp := kp.below hb kp.lt
        replace rowo := row_below rowo hb
        replace hB := hB.trans (hb.mono hB.size)
        have rowp := rowpn
        clear rowpn
        clear hb
        refine hK.out _ _ (fun _ => hB) ?_
        clear hK K
        try simp only [Act.put, List.setIfInBounds_toArray, List.set_cons_zero, List.set_cons_succ]
        refine step_op 6 (by kernel_rfl) rfl (fun K hK => ?_)
        rw [if_pos (by rfl)]
        have z0 := ko.cell (i := 0) rfl
        have fz0 := ko.frozen 0
        have z1 := ko.cell (i := 1) rfl
        have fz1 := ko.frozen 1
        have z2 := ko.cell (i := 2) rfl
        have fz2 := ko.frozen 2
        go_simp
        clear z0 z1 z2 fz0 fz1 fz2
        have hg := put3_grown U26 bo (.int .i64 iw) (.int .i64 ih) (.slice so n co)
        have kon := put3_blk ko (.int .i64 iw) (.int .i64 ih) (.slice so n co)
        have ron := put3_row rowo (ko.not_row (by decide) rowo) (.int .i64 iw) (.int .i64 ih) (.slice so n co)
        have rpn := put3_row rowp (ko.not_row (by decide) rowp) (.int .i64 iw) (.int .i64 ih) (.slice so n co)
        replace hB := hB.trans (put3_below (n := V.heap.size) (B := bo) (by omega) (.int .i64 iw) (.int .i64 ih) (.slice so n co))
        obtain ⟨U27, hW⟩ : ∃ W2, put3 U26 bo (.int .i64 iw) (.int .i64 ih) (.slice so n co) = W2 := ⟨_, rfl⟩
        have hW' : ((U26.setCell ⟨bo, 0, none⟩ (.int .i64 iw)).setCell ⟨bo, 1, none⟩ (.int .i64 ih)).setCell ⟨bo, 2, none⟩ (.slice so n co) = U27 := hW
        rw [hW] at hg kon ron rpn hB
        rw [hW']
        clear hW hW' rowo rowp
        have rowo := ron
        have rowp := rpn
        clear ron rpn
        replace k5 := k5.kept hg (by simp <;> omega)
        replace k6 := k6.kept hg (by simp <;> omega)
        replace k7 := k7.kept hg (by simp <;> omega)
        replace kp := kp.kept hg (by simp <;> omega)
        replace ko := kon
        clear kon hg
        refine hK.out _ _ (fun _ => hB) ?_
        clear hK K
        try simp only [Act.put, List.setIfInBounds_toArray, List.set_cons_zero, List.set_cons_succ]
        refine step_op 7 (by kernel_rfl) rfl (fun K hK => ?_)
        rw [if_pos (by rfl)]
        have z0 := kp.cell (i := 0) rfl
        have fz0 := kp.frozen 0
        have z1 := kp.cell (i := 1) rfl
        have fz1 := kp.frozen 1
        have z2 := kp.cell (i := 2) rfl
        have fz2 := kp.frozen 2
        go_simp
        clear z0 z1 z2 fz0 fz1 fz2
        have hg := put3_grown U27 bp (.int .i64 jw) (.int .i64 jh) (.slice sp n' cp)
        have kpn := put3_blk kp (.int .i64 jw) (.int .i64 jh) (.slice sp n' cp)
        have ron := put3_row rowo (kp.not_row (by decide) rowo) (.int .i64 jw) (.int .i64 jh) (.slice sp n' cp)
        have rpn := put3_row rowp (kp.not_row (by decide) rowp) (.int .i64 jw) (.int .i64 jh) (.slice sp n' cp)
        replace hB := hB.trans (put3_below (n := V.heap.size) (B := bp) (by omega) (.int .i64 jw) (.int .i64 jh) (.slice sp n' cp))
        obtain ⟨U28, hW⟩ : ∃ W2, put3 U27 bp (.int .i64 jw) (.int .i64 jh) (.slice sp n' cp) = W2 := ⟨_, rfl⟩
        have hW' : ((U27.setCell ⟨bp, 0, none⟩ (.int .i64 jw)).setCell ⟨bp, 1, none⟩ (.int .i64 jh)).setCell ⟨bp, 2, none⟩ (.slice sp n' cp) = U28 := hW
        rw [hW] at hg kpn ron rpn hB
        rw [hW']
        clear hW hW' rowo rowp
        have rowo := ron
        have rowp := rpn
        clear ron rpn
        replace k5 := k5.kept hg (by simp <;> omega)
        replace k6 := k6.kept hg (by simp <;> omega)
        replace k7 := k7.kept hg (by simp <;> omega)
        replace ko := ko.kept hg (by simp <;> omega)
        replace kp := kpn
        clear kpn hg
        refine hK.out _ _ (fun _ => hB) ?_
        clear hK K
        try simp only [Act.put, List.setIfInBounds_toArray, List.set_cons_zero, List.set_cons_succ]
        refine done_ops (by kernel_rfl) ?_
        exact key so sp co cp bo bp _ ko kp rowo rowp hB k5 k6 k7 hlko hlkp hne
  · refine step_at 4 rfl (fun K hK => ?_)
    rw [if_pos (by rfl)]
    go_simp
    have kon := Blk.new V0 27 #[.int .i64 0, .int .i64 0, .slice none 0 0]
    obtain ⟨bo, hbo⟩ : ∃ b, V0.heap.size = b := ⟨_, rfl⟩
    obtain ⟨U29, hW⟩ : ∃ W2, V0.alloc (.cells #[.int .i64 0, .int .i64 0, .slice none 0 0] 27) = W2 := ⟨_, rfl⟩
    have hb : Below V0.heap.size V0 U29 := by rw [← hW]; exact jb_al (Below.refl _ V0) _
    rw [hW] at kon ⊢
    rw [hbo] at kon ⊢
    have hlko := hB.size
    rw [hbo] at hlko
    replace k5 := k5.below hb k5.lt
    replace k6 := k6.below hb k6.lt
    replace k7 := k7.below hb k7.lt
    replace hB := hB.trans (hb.mono hB.size)
    have ko := kon
    clear kon hW hbo
    clear hb
    refine hK.out _ _ (fun _ => hB) ?_
    clear hK K
    try simp only [Act.put, List.setIfInBounds_toArray, List.set_cons_zero, List.set_cons_succ]
    refine fork2 (i := 1) (j := 5) (by kernel_rfl) ?_ ?_
    · refine step_at 1 rfl (fun K hK => ?_)
      rw [if_pos (by rfl)]
      go_simp
      refine (hT1.out _ hB).mono ?_
      rintro e U30 ⟨v, rfl, ⟨sl, rfl, hrow⟩, hb⟩
      obtain ⟨so, co, rfl⟩ := row_slice hrow
      rw [hn.out] at hrow ⊢
      have rowon := row_base hrow hB.size
      clear hrow
      replace k5 := k5.below hb k5.lt
      replace k6 := k6.below hb k6.lt
      replace k7 := k7.below hb k7.lt
      replace ko := ko.below hb ko.lt
      replace hB := hB.trans (hb.mono hB.size)
      have rowo := rowon
      clear rowon
      clear hb
      refine hK.out _ _ (fun _ => hB) ?_
      clear hK K
      try simp only [Act.put, List.setIfInBounds_toArray, List.set_cons_zero, List.set_cons_succ]
      refine fork2 (i := 3) (j := 5) (by kernel_rfl) ?_ ?_
      · refine step_at 3 rfl (fun K hK => ?_)
        rw [if_pos (by rfl)]
        go_simp
        refine (hT2.out _ hB).mono ?_
        rintro e U31 ⟨v, rfl, ⟨sl, rfl, hrow⟩, hb⟩
        obtain ⟨sp, cp, rfl⟩ := row_slice hrow
        rw [hn'.out] at hrow ⊢
        have rowpn := row_base hrow hB.size
        clear hrow
        replace k5 := k5.below hb k5.lt
        replace k6 := k6.below hb k6.lt
        replace k7 := k7.below hb k7.lt
        replace ko := ko.below hb ko.lt
        replace rowo := row_below rowo hb
        replace hB := hB.trans (hb.mono hB.size)
        have rowp := rowpn
        clear rowpn
        clear hb
        refine hK.out _ _ (fun _ => hB) ?_
        clear hK K
        try simp only [Act.put, List.setIfInBounds_toArray, List.set_cons_zero, List.set_cons_succ]
        refine step_op 5 (by kernel_rfl) rfl (fun K hK => ?_)
        rw [if_pos (by rfl)]
        go_simp
        have kpn := Blk.new U31 27 #[.int .i64 0, .int .i64 0, .slice none 0 0]
        obtain ⟨bp, hbo⟩ : ∃ b, U31.heap.size = b := ⟨_, rfl⟩
        obtain ⟨U32, hW⟩ : ∃ W2, U31.alloc (.cells #[.int .i64 0, .int .i64 0, .slice none 0 0] 27) = W2 := ⟨_, rfl⟩
        have hb : Below U31.heap.size U31 U32 := by rw [← hW]; exact jb_al (Below.refl _ U31) _
        rw [hW] at kpn ⊢
        rw [hbo] at kpn ⊢
        have hlkp := hB.size
        rw [hbo] at hlkp
        have hlne := ko.lt
        rw [hbo] at hlne
        have hne : bo ≠ bp := by omega
        clear hlne
        replace k5 := k5.below hb k5.lt
        replace k6 := k6.below hb k6.lt
        replace k7 := k7.below hb k7.lt
        replace ko := ko.below hb ko.lt
        replace rowo := row_below rowo hb
        replace rowp := row_below rowp hb
        replace hB := hB.trans (hb.mono hB.size)
        have kp := kpn
        clear kpn hW hbo
        clear hb
        refine hK.out _ _ (fun _ => hB) ?_
        clear hK K
        try simp only [Act.put, List.setIfInBounds_toArray, List.set_cons_zero, List.set_cons_succ]
        refine step_op 6 (by kernel_rfl) rfl (fun K hK => ?_)
        rw [if_pos (by rfl)]
        have z0 := ko.cell (i := 0) rfl
        have fz0 := ko.frozen 0
        have z1 := ko.cell (i := 1) rfl
        have fz1 := ko.frozen 1
        have z2 := ko.cell (i := 2) rfl
        have fz2 := ko.frozen 2
        go_simp
        clear z0 z1 z2 fz0 fz1 fz2
        have hg := put3_grown U32 bo (.int .i64 iw) (.int .i64 ih) (.slice so n co)
        have kon := put3_blk ko (.int .i64 iw) (.int .i64 ih) (.slice so n co)
        have ron := put3_row rowo (ko.not_row (by decide) rowo) (.int .i64 iw) (.int .i64 ih) (.slice so n co)
        have rpn := put3_row rowp (ko.not_row (by decide) rowp) (.int .i64 iw) (.int .i64 ih) (.slice so n co)
        replace hB := hB.trans (put3_below (n := V.heap.size) (B := bo) (by omega) (.int .i64 iw) (.int .i64 ih) (.slice so n co))
        obtain ⟨U33, hW⟩ : ∃ W2, put3 U32 bo (.int .i64 iw) (.int .i64 ih) (.slice so n co) = W2 := ⟨_, rfl⟩
        have hW' : ((U32.setCell ⟨bo, 0, none⟩ (.int .i64 iw)).setCell ⟨bo, 1, none⟩ (.int .i64 ih)).setCell ⟨bo, 2, none⟩ (.slice so n co) = U33 := hW
        rw [hW] at hg kon ron rpn hB
        rw [hW']
        clear hW hW' rowo rowp
        have rowo := ron
        have rowp := rpn
        clear ron rpn
        replace k5 := k5.kept hg (by simp <;> omega)
        replace k6 := k6.kept hg (by simp <;> omega)
        replace k7 := k7.kept hg (by simp <;> omega)
        replace kp := kp.kept hg (by simp <;> omega)
        replace ko := kon
        clear kon hg
        refine hK.out _ _ (fun _ => hB) ?_
        clear hK K
        try simp only [Act.put, List.setIfInBounds_toArray, List.set_cons_zero, List.set_cons_succ]
        refine step_op 7 (by kernel_rfl) rfl (fun K hK => ?_)
        rw [if_pos (by rfl)]
        have z0 := kp.cell (i := 0) rfl
        have fz0 := kp.frozen 0
        have z1 := kp.cell (i := 1) rfl
        have fz1 := kp.frozen 1
        have z2 := kp.cell (i := 2) rfl
        have fz2 := kp.frozen 2
        go_simp
        clear z0 z1 z2 fz0 fz1 fz2
        have hg := put3_grown U33 bp (.int .i64 jw) (.int .i64 jh) (.slice sp n' cp)
        have kpn := put3_blk kp (.int .i64 jw) (.int .i64 jh) (.slice sp n' cp)
        have ron := put3_row rowo (kp.not_row (by decide) rowo) (.int .i64 jw) (.int .i64 jh) (.slice sp n' cp)
        have rpn := put3_row rowp (kp.not_row (by decide) rowp) (.int .i64 jw) (.int .i64 jh) (.slice sp n' cp)
        replace hB := hB.trans (put3_below (n := V.heap.size) (B := bp) (by omega) (.int .i64 jw) (.int .i64 jh) (.slice sp n' cp))
        obtain ⟨U34, hW⟩ : ∃ W2, put3 U33 bp (.int .i64 jw) (.int .i64 jh) (.slice sp n' cp) = W2 := ⟨_, rfl⟩
        have hW' : ((U33.setCell ⟨bp, 0, none⟩ (.int .i64 jw)).setCell ⟨bp, 1, none⟩ (.int .i64 jh)).setCell ⟨bp, 2, none⟩ (.slice sp n' cp) = U34 := hW
        rw [hW] at hg kpn ron rpn hB
        rw [hW']
        clear hW hW' rowo rowp
        have rowo := ron
        have rowp := rpn
        clear ron rpn
        replace k5 := k5.kept hg (by simp <;> omega)
        replace k6 := k6.kept hg (by simp <;> omega)
        replace k7 := k7.kept hg (by simp <;> omega)
        replace ko := ko.kept hg (by simp <;> omega)
        replace kp := kpn
        clear kpn hg
        refine hK.out _ _ (fun _ => hB) ?_
        clear hK K
        try simp only [Act.put, List.setIfInBounds_toArray, List.set_cons_zero, List.set_cons_succ]
        refine done_ops (by kernel_rfl) ?_
        exact key so sp co cp bo bp _ ko kp rowo rowp hB k5 k6 k7 hlko hlkp hne
      · refine step_at 5 rfl (fun K hK => ?_)
        rw [if_pos (by rfl)]
        go_simp
        have kpn := Blk.new U30 27 #[.int .i64 0, .int .i64 0, .slice none 0 0]
        obtain ⟨bp, hbo⟩ : ∃ b, U30.heap.size = b := ⟨_, rfl⟩
        obtain ⟨U35, hW⟩ : ∃ W2, U30.alloc (.cells #[.int .i64 0, .int .i64 0, .slice none 0 0] 27) = W2 := ⟨_, rfl⟩
        have hb : Below U30.heap.size U30 U35 := by rw [← hW]; exact jb_al (Below.refl _ U30) _
        rw [hW] at kpn ⊢
        rw [hbo] at kpn ⊢
        have hlkp := hB.size
        rw [hbo] at hlkp
        have hlne := ko.lt
        rw [hbo] at hlne
        have hne : bo ≠ bp := by omega
        clear hlne
        replace k5 := k5.below hb k5.lt
        replace k6 := k6.below hb k6.lt
        replace k7 := k7.below hb k7.lt
        replace ko := ko.below hb ko.lt
        replace rowo := row_below rowo hb
        replace hB := hB.trans (hb.mono hB.size)
        have kp := kpn
        clear kpn hW hbo
        clear hb
        refine hK.out _ _ (fun _ => hB) ?_
        clear hK K
        try simp only [Act.put, List.setIfInBounds_toArray, List.set_cons_zero, List.set_cons_succ]
        refine step_op 3 (by kernel_rfl) rfl (fun K hK => ?_)
        rw [if_pos (by rfl)]
        go_simp
        refine (hT2.out _ hB).mono ?_
        rintro e U36 ⟨v, rfl, ⟨sl, rfl, hrow⟩, hb⟩
        obtain ⟨sp, cp, rfl⟩ := row_slice hrow
        rw [hn'.out] at hrow ⊢
        have rowpn := row_base hrow hB.size
        clear hrow
        replace k5 := k5.below hb k5.lt
        replace k6 := k6.below hb k6.lt
        replace k7 := k7.below hb k7.lt
        replace ko := ko.below hb ko.lt
        replace kp := kp.below hb kp.lt
        replace rowo := row_below rowo hb
        replace hB := hB.trans (hb.mono hB.size)
        have rowp := rowpn
        clear rowpn
        clear hb
        refine hK.out _ _ (fun _ => hB) ?_
        clear hK K
        try simp only [Act.put, List.setIfInBounds_toArray, List.set_cons_zero, List.set_cons_succ]
        refine step_op 6 (by kernel_rfl) rfl (fun K hK => ?_)
        rw [if_pos (by rfl)]
        have z0 := ko.cell (i := 0) rfl
        have fz0 := ko.frozen 0
        have z1 := ko.cell (i := 1) rfl
        have fz1 := ko.frozen 1
        have z2 := ko.cell (i := 2) rfl
        have fz2 := ko.frozen 2
        go_simp
        clear z0 z1 z2 fz0 fz1 fz2
        have hg := put3_grown U36 bo (.int .i64 iw) (.int .i64 ih) (.slice so n co)
        have kon := put3_blk ko (.int .i64 iw) (.int .i64 ih) (.slice so n co)
        have ron := put3_row rowo (ko.not_row (by decide) rowo) (.int .i64 iw) (.int .i64 ih) (.slice so n co)
        have rpn := put3_row rowp (ko.not_row (by decide) rowp) (.int .i64 iw) (.int .i64 ih) (.slice so n co)
        replace hB := hB.trans (put3_below (n := V.heap.size) (B := bo) (by omega) (.int .i64 iw) (.int .i64 ih) (.slice so n co))
        obtain ⟨U37, hW⟩ : ∃ W2, put3 U36 bo (.int .i64 iw) (.int .i64 ih) (.slice so n co) = W2 := ⟨_, rfl⟩
        have hW' : ((U36.setCell ⟨bo, 0, none⟩ (.int .i64 iw)).setCell ⟨bo, 1, none⟩ (.int .i64 ih)).setCell ⟨bo, 2, none⟩ (.slice so n co) = U37 := hW
        rw [hW] at hg kon ron rpn hB
        rw [hW']
        clear hW hW' rowo rowp
        have rowo := ron
        have rowp := rpn
        clear ron rpn
        replace k5 := k5.kept hg (by simp <;> omega)
        replace k6 := k6.kept hg (by simp <;> omega)
        replace k7 := k7.kept hg (by simp <;> omega)
        replace kp := kp.kept hg (by simp <;> omega)
        replace ko := kon
        clear kon hg
        refine hK.out _ _ (fun _ => hB) ?_
        clear hK K
        try simp only [Act.put, List.setIfInBounds_toArray, List.set_cons_zero, List.set_cons_succ]
        refine step_op 7 (by kernel_rfl) rfl (fun K hK => ?_)
        rw [if_pos (by rfl)]
        have z0 := kp.cell (i := 0) rfl
        have fz0 := kp.frozen 0
        have z1 := kp.cell (i := 1) rfl
        have fz1 := kp.frozen 1
        have z2 := kp.cell (i := 2) rfl
        have fz2 := kp.frozen 2
        go_simp
        clear z0 z1 z2 fz0 fz1 fz2
        have hg := put3_grown U37 bp (.int .i64 jw) (.int .i64 jh) (.slice sp n' cp)
        have kpn := put3_blk kp (.int .i64 jw) (.int .i64 jh) (.slice sp n' cp)
        have ron := put3_row rowo (kp.not_row (by decide) rowo) (.int .i64 jw) (.int .i64 jh) (.slice sp n' cp)
        have rpn := put3_row rowp (kp.not_row (by decide) rowp) (.int .i64 jw) (.int .i64 jh) (.slice sp n' cp)
        replace hB := hB.trans (put3_below (n := V.heap.size) (B := bp) (by omega) (.int .i64 jw) (.int .i64 jh) (.slice sp n' cp))
        obtain ⟨U38, hW⟩ : ∃ W2, put3 U37 bp (.int .i64 jw) (.int .i64 jh) (.slice sp n' cp) = W2 := ⟨_, rfl⟩
        have hW' : ((U37.setCell ⟨bp, 0, none⟩ (.int .i64 jw)).setCell ⟨bp, 1, none⟩ (.int .i64 jh)).setCell ⟨bp, 2, none⟩ (.slice sp n' cp) = U38 := hW
        rw [hW] at hg kpn ron rpn hB
        rw [hW']
        clear hW hW' rowo rowp
        have rowo := ron
        have rowp := rpn
        clear ron rpn
        replace k5 := k5.kept hg (by simp <;> omega)
        replace k6 := k6.kept hg (by simp <;> omega)
        replace k7 := k7.kept hg (by simp <;> omega)
        replace ko := ko.kept hg (by simp <;> omega)
        replace kp := kpn
        clear kpn hg
        refine hK.out _ _ (fun _ => hB) ?_
        clear hK K
        try simp only [Act.put, List.setIfInBounds_toArray, List.set_cons_zero, List.set_cons_succ]
        refine done_ops (by kernel_rfl) ?_
        exact key so sp co cp bo bp _ ko kp rowo rowp hB k5 k6 k7 hlko hlkp hne
    · refine step_at 5 rfl (fun K hK => ?_)
      rw [if_pos (by rfl)]
      go_simp
      have kpn := Blk.new U29 27 #[.int .i64 0, .int .i64 0, .slice none 0 0]
      obtain ⟨bp, hbo⟩ : ∃ b, U29.heap.size = b := ⟨_, rfl⟩
      obtain ⟨U39, hW⟩ : ∃ W2, U29.alloc (.cells #[.int .i64 0, .int .i64 0, .slice none 0 0] 27) = W2 := ⟨_, rfl⟩
      have hb : Below U29.heap.size U29 U39 := by rw [← hW]; exact jb_al (Below.refl _ U29) _
      rw [hW] at kpn ⊢
      rw [hbo] at kpn ⊢
      have hlkp := hB.size
      rw [hbo] at hlkp
      have hlne := ko.lt
      rw [hbo] at hlne
      have hne : bo ≠ bp := by omega
      clear hlne
      replace k5 := k5.below hb k5.lt
      replace k6 := k6.below hb k6.lt
      replace k7 := k7.below hb k7.lt
      replace ko := ko.below hb ko.lt
      replace hB := hB.trans (hb.mono hB.size)
      have kp := kpn
      clear kpn hW hbo
      clear hb
      refine hK.out _ _ (fun _ => hB) ?_
      clear hK K
      try simp only [Act.put, List.setIfInBounds_toArray, List.set_cons_zero, List.set_cons_succ]
      refine step_op 1 (by kernel_rfl) rfl (fun K hK => ?_)
      rw [if_pos (by rfl)]
      go_simp
      refine (hT1.out _ hB).mono ?_
      rintro e U40 ⟨v, rfl, ⟨sl, rfl, hrow⟩, hb⟩
      obtain ⟨so, co, rfl⟩ := row_slice hrow
      rw [hn.out] at hrow ⊢
      have rowon := row_base hrow hB.size
      clear hrow
      replace k5 := k5.below hb k5.lt
      replace k6 := k6.below hb k6.lt
      replace k7 := k7.below hb k7.lt
      replace ko := ko.below hb ko.lt
      replace kp := kp.below hb kp.lt
      replace hB := hB.trans (hb.mono hB.size)
      have rowo := rowon
      clear rowon
      clear hb
      refine hK.out _ _ (fun _ => hB) ?_
      clear hK K
      try simp only [Act.put, List.setIfInBounds_toArray, List.set_cons_zero, List.set_cons_succ]
      refine step_op 3 (by kernel_rfl) rfl (fun K hK => ?_)
      rw [if_pos (by rfl)]
      go_simp
      refine (hT2.out _ hB).mono ?_
      rintro e U41 ⟨v, rfl, ⟨sl, rfl, hrow⟩, hb⟩
      obtain ⟨sp, cp, rfl⟩ := row_slice hrow
      rw [hn'.out] at hrow ⊢
      have rowpn := row_base hrow hB.size
      clear hrow
      replace k5 := k5.below hb k5.lt
      replace k6 := k6.below hb k6.lt
      replace k7 := k7.below hb k7.lt
      replace ko := ko.below hb ko.lt
      replace kp := kp.below hb kp.lt
      replace rowo := row_below rowo hb
      replace hB := hB.trans (hb.mono hB.size)
      have rowp := rowpn
      clear rowpn
      clear hb
      refine hK.out _ _ (fun _ => hB) ?_
      clear hK K
      try simp only [Act.put, List.setIfInBounds_toArray, List.set_cons_zero, List.set_cons_succ]
      refine step_op 6 (by kernel_rfl) rfl (fun K hK => ?_)
      rw [if_pos (by rfl)]
      have z0 := ko.cell (i := 0) rfl
      have fz0 := ko.frozen 0
      have z1 := ko.cell (i := 1) rfl
      have fz1 := ko.frozen 1
      have z2 := ko.cell (i := 2) rfl
      have fz2 := ko.frozen 2
      go_simp
      clear z0 z1 z2 fz0 fz1 fz2
      have hg := put3_grown U41 bo (.int .i64 iw) (.int .i64 ih) (.slice so n co)
      have kon := put3_blk ko (.int .i64 iw) (.int .i64 ih) (.slice so n co)
      have ron := put3_row rowo (ko.not_row (by decide) rowo) (.int .i64 iw) (.int .i64 ih) (.slice so n co)
      have rpn := put3_row rowp (ko.not_row (by decide) rowp) (.int .i64 iw) (.int .i64 ih) (.slice so n co)
      replace hB := hB.trans (put3_below (n := V.heap.size) (B := bo) (by omega) (.int .i64 iw) (.int .i64 ih) (.slice so n co))
      obtain ⟨U42, hW⟩ : ∃ W2, put3 U41 bo (.int .i64 iw) (.int .i64 ih) (.slice so n co) = W2 := ⟨_, rfl⟩
      have hW' : ((U41.setCell ⟨bo, 0, none⟩ (.int .i64 iw)).setCell ⟨bo, 1, none⟩ (.int .i64 ih)).setCell ⟨bo, 2, none⟩ (.slice so n co) = U42 := hW
      rw [hW] at hg kon ron rpn hB
      rw [hW']
      clear hW hW' rowo rowp
      have rowo := ron
      have rowp := rpn
      clear ron rpn
      replace k5 := k5.kept hg (by simp <;> omega)
      replace k6 := k6.kept hg (by simp <;> omega)
      replace k7 := k7.kept hg (by simp <;> omega)
      replace kp := kp.kept hg (by simp <;> omega)
      replace ko := kon
      clear kon hg
      refine hK.out _ _ (fun _ => hB) ?_
      clear hK K
      try simp only [Act.put, List.setIfInBounds_toArray, List.set_cons_zero, List.set_cons_succ]
      refine step_op 7 (by kernel_rfl) rfl (fun K hK => ?_)
      rw [if_pos (by rfl)]
      have z0 := kp.cell (i := 0) rfl
      have fz0 := kp.frozen 0
      have z1 := kp.cell (i := 1) rfl
      have fz1 := kp.frozen 1
      have z2 := kp.cell (i := 2) rfl
      have fz2 := kp.frozen 2
      go_simp
      clear z0 z1 z2 fz0 fz1 fz2
      have hg := put3_grown U42 bp (.int .i64 jw) (.int .i64 jh) (.slice sp n' cp)
      have kpn := put3_blk kp (.int .i64 jw) (.int .i64 jh) (.slice sp n' cp)
      have ron := put3_row rowo (kp.not_row (by decide) rowo) (.int .i64 jw) (.int .i64 jh) (.slice sp n' cp)
      have rpn := put3_row rowp (kp.not_row (by decide) rowp) (.int .i64 jw) (.int .i64 jh) (.slice sp n' cp)
      replace hB := hB.trans (put3_below (n := V.heap.size) (B := bp) (by omega) (.int .i64 jw) (.int .i64 jh) (.slice sp n' cp))
      obtain ⟨U43, hW⟩ : ∃ W2, put3 U42 bp (.int .i64 jw) (.int .i64 jh) (.slice sp n' cp) = W2 := ⟨_, rfl⟩
      have hW' : ((U42.setCell ⟨bp, 0, none⟩ (.int .i64 jw)).setCell ⟨bp, 1, none⟩ (.int .i64 jh)).setCell ⟨bp, 2, none⟩ (.slice sp n' cp) = U43 := hW
      rw [hW] at hg kpn ron rpn hB
      rw [hW']
      clear hW hW' rowo rowp
      have rowo := ron
      have rowp := rpn
      clear ron rpn
      replace k5 := k5.kept hg (by simp <;> omega)
      replace k6 := k6.kept hg (by simp <;> omega)
      replace k7 := k7.kept hg (by simp <;> omega)
      replace ko := ko.kept hg (by simp <;> omega)
      replace kp := kpn
      clear kpn hg
      refine hK.out _ _ (fun _ => hB) ?_
      clear hK K
      try simp only [Act.put, List.setIfInBounds_toArray, List.set_cons_zero, List.set_cons_succ]
      refine done_ops (by kernel_rfl) ?_
      exact key so sp co cp bo bp _ ko kp rowo rowp hB k5 k6 k7 hlko hlkp hne
  · refine step_at 5 rfl (fun K hK => ?_)
    rw [if_pos (by rfl)]
    go_simp
    have kpn := Blk.new V0 27 #[.int .i64 0, .int .i64 0, .slice none 0 0]
    obtain ⟨bp, hbo⟩ : ∃ b, V0.heap.size = b := ⟨_, rfl⟩
    obtain ⟨U44, hW⟩ : ∃ W2, V0.alloc (.cells #[.int .i64 0, .int .i64 0, .slice none 0 0] 27) = W2 := ⟨_, rfl⟩
    have hb : Below V0.heap.size V0 U44 := by rw [← hW]; exact jb_al (Below.refl _ V0) _
    rw [hW] at kpn ⊢
    rw [hbo] at kpn ⊢
    have hlkp := hB.size
    rw [hbo] at hlkp
    replace k5 := k5.below hb k5.lt
    replace k6 := k6.below hb k6.lt
    replace k7 := k7.below hb k7.lt
    replace hB := hB.trans (hb.mono hB.size)
    have kp := kpn
    clear kpn hW hbo
    clear hb
    refine hK.out _ _ (fun _ => hB) ?_
    clear hK K
    try simp only [Act.put, List.setIfInBounds_toArray, List.set_cons_zero, List.set_cons_succ]
    refine fork2 (i := 1) (j := 4) (by kernel_rfl) ?_ ?_
    · refine step_at 1 rfl (fun K hK => ?_)
      rw [if_pos (by rfl)]
      go_simp
      refine (hT1.out _ hB).mono ?_
      rintro e U45 ⟨v, rfl, ⟨sl, rfl, hrow⟩, hb⟩
      obtain ⟨so, co, rfl⟩ := row_slice hrow
      rw [hn.out] at hrow ⊢
      have rowon := row_base hrow hB.size
      clear hrow
      replace k5 := k5.below hb k5.lt
      replace k6 := k6.below hb k6.lt
      replace k7 := k7.below hb k7.lt
      replace kp := kp.below hb kp.lt
      replace hB := hB.trans (hb.mono hB.size)
      have rowo := rowon
      clear rowon
      clear hb
      refine hK.out _ _ (fun _ => hB) ?_
      clear hK K
      try simp only [Act.put, List.setIfInBounds_toArray, List.set_cons_zero, List.set_cons_succ]
      refine fork2 (i := 3) (j := 4) (by kernel_rfl) ?_ ?_
      · refine step_at 3 rfl (fun K hK => ?_)
        rw [if_pos (by rfl)]
        go_simp
        refine (hT2.out _ hB).mono ?_
        rintro e U46 ⟨v, rfl, ⟨sl, rfl, hrow⟩, hb⟩
        obtain ⟨sp, cp, rfl⟩ := row_slice hrow
        rw [hn'.out] at hrow ⊢
        have rowpn := row_base hrow hB.size
        clear hrow
        replace k5 := k5.below hb k5.lt
        replace k6 := k6.below hb k6.lt
        replace k7 := k7.below hb k7.lt
        replace kp := kp.below hb kp.lt
        replace rowo := row_below rowo hb
        replace hB := hB.trans (hb.mono hB.size)
        have rowp := rowpn
        clear rowpn
        clear hb
        refine hK.out _ _ (fun _ => hB) ?_
        clear hK K
        try simp only [Act.put, List.setIfInBounds_toArray, List.set_cons_zero, List.set_cons_succ]
        refine step_op 4 (by kernel_rfl) rfl (fun K hK => ?_)
        rw [if_pos (by rfl)]
        go_simp
        have kon := Blk.new U46 27 #[.int .i64 0, .int .i64 0, .slice none 0 0]
        obtain ⟨bo, hbo⟩ : ∃ b, U46.heap.size = b := ⟨_, rfl⟩
        obtain ⟨U47, hW⟩ : ∃ W2, U46.alloc (.cells #[.int .i64 0, .int .i64 0, .slice none 0 0] 27) = W2 := ⟨_, rfl⟩
        have hb : Below U46.heap.size U46 U47 := by rw [← hW]; exact jb_al (Below.refl _ U46) _
        rw [hW] at kon ⊢
        rw [hbo] at kon ⊢
        have hlko := hB.size
        rw [hbo] at hlko
        have hlne := kp.lt
        rw [hbo] at hlne
        have hne : bo ≠ bp := by omega
        clear hlne
        replace k5 := k5.below hb k5.lt
        replace k6 := k6.below hb k6.lt
        replace k7 := k7.below hb k7.lt
        replace kp := kp.below hb kp.lt
        replace rowo := row_below rowo hb
        replace rowp := row_below rowp hb
        replace hB := hB.trans (hb.mono hB.size)
        have ko := kon
        clear kon hW hbo
        clear hb
        refine hK.out _ _ (fun _ => hB) ?_
        clear hK K
        try simp only [Act.put, List.setIfInBounds_toArray, List.set_cons_zero, List.set_cons_succ]
        refine step_op 6 (by kernel_rfl) rfl (fun K hK => ?_)
        rw [if_pos (by rfl)]
        have z0 := ko.cell (i := 0) rfl
        have fz0 := ko.frozen 0
        have z1 := ko.cell (i := 1) rfl
        have fz1 := ko.frozen 1
        have z2 := ko.cell (i := 2) rfl
        have fz2 := ko.frozen 2
        go_simp
        clear z0 z1 z2 fz0 fz1 fz2
        have hg := put3_grown U47 bo (.int .i64 iw) (.int .i64 ih) (.slice so n co)
        have kon := put3_blk ko (.int .i64 iw) (.int .i64 ih) (.slice so n co)
        have ron := put3_row rowo (ko.not_row (by decide) rowo) (.int .i64 iw) (.int .i64 ih) (.slice so n co)
        have rpn := put3_row rowp (ko.not_row (by decide) rowp) (.int .i64 iw) (.int .i64 ih) (.slice so n co)
        replace hB := hB.trans (put3_below (n := V.heap.size) (B := bo) (by omega) (.int .i64 iw) (.int .i64 ih) (.slice so n co))
        obtain ⟨U48, hW⟩ : ∃ W2, put3 U47 bo (.int .i64 iw) (.int .i64 ih) (.slice so n co) = W2 := ⟨_, rfl⟩
        have hW' : ((U47.setCell ⟨bo, 0, none⟩ (.int .i64 iw)).setCell ⟨bo, 1, none⟩ (.int .i64 ih)).setCell ⟨bo, 2, none⟩ (.slice so n co) = U48 := hW
        rw [hW] at hg kon ron rpn hB
        rw [hW']
        clear hW hW' rowo rowp
        have rowo := ron
        have rowp := rpn
        clear ron rpn
        replace k5 := k5.kept hg (by simp <;> omega)
        replace k6 := k6.kept hg (by simp <;> omega)
        replace k7 := k7.kept hg (by simp <;> omega)
        replace kp := kp.kept hg (by simp <;> omega)
        replace ko := kon
        clear kon hg
        refine hK.out _ _ (fun _ => hB) ?_
        clear hK K
        try simp only [Act.put, List.setIfInBounds_toArray, List.set_cons_zero, List.set_cons_succ]
        refine step_op 7 (by kernel_rfl) rfl (fun K hK => ?_)
        rw [if_pos (by rfl)]
        have z0 := kp.cell (i := 0) rfl
        have fz0 := kp.frozen 0
        have z1 := kp.cell (i := 1) rfl
        have fz1 := kp.frozen 1
        have z2 := kp.cell (i := 2) rfl
        have fz2 := kp.frozen 2
        go_simp
        clear z0 z1 z2 fz0 fz1 fz2
        have hg := put3_grown U48 bp (.int .i64 jw) (.int .i64 jh) (.slice sp n' cp)
        have kpn := put3_blk kp (.int .i64 jw) (.int .i64 jh) (.slice sp n' cp)
        have ron := put3_row rowo (kp.not_row (by decide) rowo) (.int .i64 jw) (.int .i64 jh) (.slice sp n' cp)
        have rpn := put3_row rowp (kp.not_row (by decide) rowp) (.int .i64 jw) (.int .i64 jh) (.slice sp n' cp)
        replace hB := hB.trans (put3_below (n := V.heap.size) (B := bp) (by omega) (.int .i64 jw) (.int .i64 jh) (.slice sp n' cp))
        obtain ⟨U49, hW⟩ : ∃ W2, put3 U48 bp (.int .i64 jw) (.int .i64 jh) (.slice sp n' cp) = W2 := ⟨_, rfl⟩
        have hW' : ((U48.setCell ⟨bp, 0, none⟩ (.int .i64 jw)).setCell ⟨bp, 1, none⟩ (.int .i64 jh)).setCell ⟨bp, 2, none⟩ (.slice sp n' cp) = U49 := hW
        rw [hW] at hg kpn ron rpn hB
        rw [hW']
        clear hW hW' rowo rowp
        have rowo := ron
        have rowp := rpn
        clear ron rpn
        replace k5 := k5.kept hg (by simp <;> omega)
        replace k6 := k6.kept hg (by simp <;> omega)
        replace k7 := k7.kept hg (by simp <;> omega)
        replace ko := ko.kept hg (by simp <;> omega)
        replace kp := kpn
        clear kpn hg
        refine hK.out _ _ (fun _ => hB) ?_
        clear hK K
        try simp only [Act.put, List.setIfInBounds_toArray, List.set_cons_zero, List.set_cons_succ]
        refine done_ops (by kernel_rfl) ?_
        exact key so sp co cp bo bp _ ko kp rowo rowp hB k5 k6 k7 hlko hlkp hne
      · refine step_at 4 rfl (fun K hK => ?_)
        rw [if_pos (by rfl)]
        go_simp
        have kon := Blk.new U45 27 #[.int .i64 0, .int .i64 0, .slice none 0 0]
        obtain ⟨bo, hbo⟩ : ∃ b, U45.heap.size = b := ⟨_, rfl⟩
        obtain ⟨U50, hW⟩ : ∃ W2, U45.alloc (.cells #[.int .i64 0, .int .i64 0, .slice none 0 0] 27) = W2 := ⟨_, rfl⟩
        have hb : Below U45.heap.size U45 U50 := by rw [← hW]; exact jb_al (Below.refl _ U45) _
        rw [hW] at kon ⊢
        rw [hbo] at kon ⊢
        have hlko := hB.size
        rw [hbo] at hlko
        have hlne := kp.lt
        rw [hbo] at hlne
        have hne : bo ≠ bp := by omega
        clear hlne
        replace k5 := k5.below hb k5.lt
        replace k6 := k6.below hb k6.lt
        replace k7 := k7.below hb k7.lt
        replace kp := kp.below hb kp.lt
        replace rowo := row_below rowo hb
        replace hB := hB.trans (hb.mono hB.size)
        have ko := kon
        clear kon hW hbo
        clear hb
        refine hK.out _ _ (fun _ => hB) ?_
        clear hK K
        try simp only [Act.put, List.setIfInBounds_toArray, List.set_cons_zero, List.set_cons_succ]
        refine step_op 3 (by kernel_rfl) rfl (fun K hK => ?_)
        rw [if_pos (by rfl)]
        go_simp
        refine (hT2.out _ hB).mono ?_
        rintro e U51 ⟨v, rfl, ⟨sl, rfl, hrow⟩, hb⟩
        obtain ⟨sp, cp, rfl⟩ := row_slice hrow
        rw [hn'.out] at hrow ⊢
        have rowpn := row_base hrow hB.size
        clear hrow
        replace k5 := k5.below hb k5.lt
        replace k6 := k6.below hb k6.lt
        replace k7 := k7.below hb k7.lt
        replace ko := ko.below hb ko.lt
        replace kp := kp.below hb kp.lt
        replace rowo := row_below rowo hb
        replace hB := hB.trans (hb.mono hB.size)
        have rowp := rowpn
        clear rowpn
        clear hb
        refine hK.out _ _ (fun _ => hB) ?_
        clear hK K
        try simp only [Act.put, List.setIfInBounds_toArray, List.set_cons_zero, List.set_cons_succ]
        refine step_op 6 (by kernel_rfl) rfl (fun K hK => ?_)
        rw [if_pos (by rfl)]
        have z0 := ko.cell (i := 0) rfl
        have fz0 := ko.frozen 0
        have z1 := ko.cell (i := 1) rfl
        have fz1 := ko.frozen 1
        have z2 := ko.cell (i := 2) rfl
        have fz2 := ko.frozen 2
        go_simp
        clear z0 z1 z2 fz0 fz1 fz2
        have hg := put3_grown U51 bo (.int .i64 iw) (.int .i64 ih) (.slice so n co)
        have kon := put3_blk ko (.int .i64 iw) (.int .i64 ih) (.slice so n co)
        have ron := put3_row rowo (ko.not_row (by decide) rowo) (.int .i64 iw) (.int .i64 ih) (.slice so n co)
        have rpn := put3_row rowp (ko.not_row (by decide) rowp) (.int .i64 iw) (.int .i64 ih) (.slice so n co)
        replace hB := hB.trans (put3_below (n := V.heap.size) (B := bo) (by omega) (.int .i64 iw) (.int .i64 ih) (.slice so n co))
        obtain ⟨U52, hW⟩ : ∃ W2, put3 U51 bo (.int .i64 iw) (.int .i64 ih) (.slice so n co) = W2 := ⟨_, rfl⟩
        have hW' : ((U51.setCell ⟨bo, 0, none⟩ (.int .i64 iw)).setCell ⟨bo, 1, none⟩ (.int .i64 ih)).setCell ⟨bo, 2, none⟩ (.slice so n co) = U52 := hW
        rw [hW] at hg kon ron rpn hB
        rw [hW']
        clear hW hW' rowo rowp
        have rowo := ron
        have rowp := rpn
        clear ron rpn
        replace k5 := k5.kept hg (by simp <;> omega)
        replace k6 := k6.kept hg (by simp <;> omega)
        replace k7 := k7.kept hg (by simp <;> omega)
        replace kp := kp.kept hg (by simp <;> omega)
        replace ko := kon
        clear kon hg
        refine hK.out _ _ (fun _ => hB) ?_
        clear hK K
        try simp only [Act.put, List.setIfInBounds_toArray, List.set_cons_zero, List.set_cons_succ]
        refine step_op 7 (by kernel_rfl) rfl (fun K hK => ?_)
        rw [if_pos (by rfl)]
        have z0 := kp.cell (i := 0) rfl
        have fz0 := kp.frozen 0
        have z1 := kp.cell (i := 1) rfl
        have fz1 := kp.frozen 1
        have z2 := kp.cell (i := 2) rfl
        have fz2 := kp.frozen 2
        go_simp
        clear z0 z1 z2 fz0 fz1 fz2
        have hg := put3_grown U52 bp (.int .i64 jw) (.int .i64 jh) (.slice sp n' cp)
        have kpn := put3_blk kp (.int .i64 jw) (.int .i64 jh) (.slice sp n' cp)
        have ron := put3_row rowo (kp.not_row (by decide) rowo) (.int .i64 jw) (.int .i64 jh) (.slice sp n' cp)
        have rpn := put3_row rowp (kp.not_row (by decide) rowp) (.int .i64 jw) (.int .i64 jh) (.slice sp n' cp)
        replace hB := hB.trans (put3_below (n := V.heap.size) (B := bp) (by omega) (.int .i64 jw) (.int .i64 jh) (.slice sp n' cp))
        obtain ⟨U53, hW⟩ : ∃ W2, put3 U52 bp (.int .i64 jw) (.int .i64 jh) (.slice sp n' cp) = W2 := ⟨_, rfl⟩
        have hW' : ((U52.setCell ⟨bp, 0, none⟩ (.int .i64 jw)).setCell ⟨bp, 1, none⟩ (.int .i64 jh)).setCell ⟨bp, 2, none⟩ (.slice sp n' cp) = U53 := hW
        rw [hW] at hg kpn ron rpn hB
        rw [hW']
        clear hW hW' rowo rowp
        have rowo := ron
        have rowp := rpn
        clear ron rpn
        replace k5 := k5.kept hg (by simp <;> omega)
        replace k6 := k6.kept hg (by simp <;> omega)
        replace k7 := k7.kept hg (by simp <;> omega)
        replace ko := ko.kept hg (by simp <;> omega)
        replace kp := kpn
        clear kpn hg
        refine hK.out _ _ (fun _ => hB) ?_
        clear hK K
        try simp only [Act.put, List.setIfInBounds_toArray, List.set_cons_zero, List.set_cons_succ]
        refine done_ops (by kernel_rfl) ?_
        exact key so sp co cp bo bp _ ko kp rowo rowp hB k5 k6 k7 hlko hlkp hne
    · refine step_at 4 rfl (fun K hK => ?_)
      rw [if_pos (by rfl)]
      go_simp
      have kon := Blk.new U44 27 #[.int .i64 0, .int .i64 0, .slice none 0 0]
      obtain ⟨bo, hbo⟩ : ∃ b, U44.heap.size = b := ⟨_, rfl⟩
      obtain ⟨U54, hW⟩ : ∃ W2, U44.alloc (.cells #[.int .i64 0, .int .i64 0, .slice none 0 0] 27) = W2 := ⟨_, rfl⟩
      have hb : Below U44.heap.size U44 U54 := by rw [← hW]; exact jb_al (Below.refl _ U44) _
      rw [hW] at kon ⊢
      rw [hbo] at kon ⊢
      have hlko := hB.size
      rw [hbo] at hlko
      have hlne := kp.lt
      rw [hbo] at hlne
      have hne : bo ≠ bp := by omega
      clear hlne
      replace k5 := k5.below hb k5.lt
      replace k6 := k6.below hb k6.lt
      replace k7 := k7.below hb k7.lt
      replace kp := kp.below hb kp.lt
      replace hB := hB.trans (hb.mono hB.size)
      have ko := kon
      clear kon hW hbo
      clear hb
      refine hK.out _ _ (fun _ => hB) ?_
      clear hK K
      try simp only [Act.put, List.setIfInBounds_toArray, List.set_cons_zero, List.set_cons_succ]
      refine step_op 1 (by kernel_rfl) rfl (fun K hK => ?_)
      rw [if_pos (by rfl)]
      go_simp
      refine (hT1.out _ hB).mono ?_
      rintro e U55 ⟨v, rfl, ⟨sl, rfl, hrow⟩, hb⟩
      obtain ⟨so, co, rfl⟩ := row_slice hrow
      rw [hn.out] at hrow ⊢
      have rowon := row_base hrow hB.size
      clear hrow
      replace k5 := k5.below hb k5.lt
      replace k6 := k6.below hb k6.lt
      replace k7 := k7.below hb k7.lt
      replace ko := ko.below hb ko.lt
      replace kp := kp.below hb kp.lt
      replace hB := hB.trans (hb.mono hB.size)
      have rowo := rowon
      clear rowon
      clear hb
      refine hK.out _ _ (fun _ => hB) ?_
      clear hK K
      try simp only [Act.put, List.setIfInBounds_toArray, List.set_cons_zero, List.set_cons_succ]
      refine step_op 3 (by kernel_rfl) rfl (fun K hK => ?_)
      rw [if_pos (by rfl)]
      go_simp
      refine (hT2.out _ hB).mono ?_
      rintro e U56 ⟨v, rfl, ⟨sl, rfl, hrow⟩, hb⟩
      obtain ⟨sp, cp, rfl⟩ := row_slice hrow
      rw [hn'.out] at hrow ⊢
      have rowpn := row_base hrow hB.size
      clear hrow
      replace k5 := k5.below hb k5.lt
      replace k6 := k6.below hb k6.lt
      replace k7 := k7.below hb k7.lt
      replace ko := ko.below hb ko.lt
      replace kp := kp.below hb kp.lt
      replace rowo := row_below rowo hb
      replace hB := hB.trans (hb.mono hB.size)
      have rowp := rowpn
      clear rowpn
      clear hb
      refine hK.out _ _ (fun _ => hB) ?_
      clear hK K
      try simp only [Act.put, List.setIfInBounds_toArray, List.set_cons_zero, List.set_cons_succ]
      refine step_op 6 (by kernel_rfl) rfl (fun K hK => ?_)
      rw [if_pos (by rfl)]
      have z0 := ko.cell (i := 0) rfl
      have fz0 := ko.frozen 0
      have z1 := ko.cell (i := 1) rfl
      have fz1 := ko.frozen 1
      have z2 := ko.cell (i := 2) rfl
      have fz2 := ko.frozen 2
      go_simp
      clear z0 z1 z2 fz0 fz1 fz2
      have hg := put3_grown U56 bo (.int .i64 iw) (.int .i64 ih) (.slice so n co)
      have kon := put3_blk ko (.int .i64 iw) (.int .i64 ih) (.slice so n co)
      have ron := put3_row rowo (ko.not_row (by decide) rowo) (.int .i64 iw) (.int .i64 ih) (.slice so n co)
      have rpn := put3_row rowp (ko.not_row (by decide) rowp) (.int .i64 iw) (.int .i64 ih) (.slice so n co)
      replace hB := hB.trans (put3_below (n := V.heap.size) (B := bo) (by omega) (.int .i64 iw) (.int .i64 ih) (.slice so n co))
      obtain ⟨U57, hW⟩ : ∃ W2, put3 U56 bo (.int .i64 iw) (.int .i64 ih) (.slice so n co) = W2 := ⟨_, rfl⟩
      have hW' : ((U56.setCell ⟨bo, 0, none⟩ (.int .i64 iw)).setCell ⟨bo, 1, none⟩ (.int .i64 ih)).setCell ⟨bo, 2, none⟩ (.slice so n co) = U57 := hW
      rw [hW] at hg kon ron rpn hB
      rw [hW']
      clear hW hW' rowo rowp
      have rowo := ron
      have rowp := rpn
      clear ron rpn
      replace k5 := k5.kept hg (by simp <;> omega)
      replace k6 := k6.kept hg (by simp <;> omega)
      replace k7 := k7.kept hg (by simp <;> omega)
      replace kp := kp.kept hg (by simp <;> omega)
      replace ko := kon
      clear kon hg
      refine hK.out _ _ (fun _ => hB) ?_
      clear hK K
      try simp only [Act.put, List.setIfInBounds_toArray, List.set_cons_zero, List.set_cons_succ]
      refine step_op 7 (by kernel_rfl) rfl (fun K hK => ?_)
      rw [if_pos (by rfl)]
      have z0 := kp.cell (i := 0) rfl
      have fz0 := kp.frozen 0
      have z1 := kp.cell (i := 1) rfl
      have fz1 := kp.frozen 1
      have z2 := kp.cell (i := 2) rfl
      have fz2 := kp.frozen 2
      go_simp
      clear z0 z1 z2 fz0 fz1 fz2
      have hg := put3_grown U57 bp (.int .i64 jw) (.int .i64 jh) (.slice sp n' cp)
      have kpn := put3_blk kp (.int .i64 jw) (.int .i64 jh) (.slice sp n' cp)
      have ron := put3_row rowo (kp.not_row (by decide) rowo) (.int .i64 jw) (.int .i64 jh) (.slice sp n' cp)
      have rpn := put3_row rowp (kp.not_row (by decide) rowp) (.int .i64 jw) (.int .i64 jh) (.slice sp n' cp)
      replace hB := hB.trans (put3_below (n := V.heap.size) (B := bp) (by omega) (.int .i64 jw) (.int .i64 jh) (.slice sp n' cp))
      obtain ⟨U58, hW⟩ : ∃ W2, put3 U57 bp (.int .i64 jw) (.int .i64 jh) (.slice sp n' cp) = W2 := ⟨_, rfl⟩
      have hW' : ((U57.setCell ⟨bp, 0, none⟩ (.int .i64 jw)).setCell ⟨bp, 1, none⟩ (.int .i64 jh)).setCell ⟨bp, 2, none⟩ (.slice sp n' cp) = U58 := hW
      rw [hW] at hg kpn ron rpn hB
      rw [hW']
      clear hW hW' rowo rowp
      have rowo := ron
      have rowp := rpn
      clear ron rpn
      replace k5 := k5.kept hg (by simp <;> omega)
      replace k6 := k6.kept hg (by simp <;> omega)
      replace k7 := k7.kept hg (by simp <;> omega)
      replace ko := ko.kept hg (by simp <;> omega)
      replace kp := kpn
      clear kpn hg
      refine hK.out _ _ (fun _ => hB) ?_
      clear hK K
      try simp only [Act.put, List.setIfInBounds_toArray, List.set_cons_zero, List.set_cons_succ]
      refine done_ops (by kernel_rfl) ?_
      exact key so sp co cp bo bp _ ko kp rowo rowp hB k5 k6 k7 hlko hlkp hne

end Go.Proofs.Ytbfigbpjoaccdaa

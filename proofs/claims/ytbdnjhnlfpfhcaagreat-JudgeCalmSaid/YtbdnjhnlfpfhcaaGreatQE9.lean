/- Contracts and laws (SpP). -/
import Derived.Test.YtbdnjhnlfpfhcaaGreatQE7
import Derived.Test.YtbdnjhnlfpfhcaaGreatQE8
namespace Go.Proofs.YtbdnjhnlfpfhcaaGreat
open Go Go.RowKit Go.Shelf
set_option linter.unusedVariables false
set_option linter.unusedSimpArgs false

structure SprR where
  w : Int
  h : Int
  lo : List Int
  hi : List Int
  err : Int
def noSp (e : Int) : SprR := ⟨0, 0, [], [], e⟩
/-- What both Spreads answer. -/
def sprS (m : ImN) (C : ChgN) : SprR := if camB m = true then (if chgB C = true then ⟨m.w, m.h, loL m C, hiL m C, 0⟩ else noSp 2) else noSp 20
def RetSp (B : Nat) (r : SprR) (w : World) (e : Ending) (w' : World) : Prop :=
  (∃ v1 v2, e = .returned (.tuple #[v1, v2, .int .i64 r.err]) ∧ OwnIm B w' v1 r.w r.h r.lo ∧ OwnIm B w' v2 r.w r.h r.hi) ∧ Below B w w'
theorem put3_grow2 (W : World) (B : Nat) (x y z : Value) : W.grownBy (put3 W B x y z) (some B) :=
  ⟨rfl, rfl, rfl, (put3_below (n := 0) (Nat.zero_le _) x y z).size, fun k _ hk => (put3_below_block W B k (fun e => hk (by rw [e])) x y z)⟩
theorem grown_below2 {A C : World} {row : Option Nat} {n : Nat} (h : A.grownBy C row) (hn : n ≤ A.heap.size) (hr : ∀ k, row = some k → n ≤ k) : Below n A C := (Below.refl n A).grown h hn hr
theorem camsB_one (m : ImN) : camsB [m] = camB m := by simp only [camsB, List.length_cons, List.length_nil, allTo, imAt]; simp
theorem imAt_len2 {m : ImN} (h : m.px.length ≤ 9223372036854775807) (i : Nat) : (imAt [m] i).px.length ≤ 9223372036854775807 := by
  unfold imAt
  cases i with
  | zero => exact h
  | succ i => simp
theorem rdis_one2 {W : World} {b : Nat} {iw ih : Int} {xs : List Int} {a : Option Addr} {n c : Nat} (hl : xs.length = n) (h : Blk W b 51 #[.int .i64 iw, .int .i64 ih, .slice a n c]) (hp : Rd W.heap.size W a xs) : RdIs W.heap.size W (some ⟨b, 0, none⟩) [⟨iw, ih, xs⟩] :=
  .inr ⟨b, 0, rfl, h.lt, fun i hi => by
    have : i = 0 := by simp at hi; exact hi
    subst this
    exact ⟨a, c, h.cell (i := 0) rfl, h.cell (i := 1) rfl, by show W.cell? ⟨b, 0 + 0 * 3 + 2, none⟩ = some (.slice a xs.length c); rw [hl]; exact h.cell (i := 2) rfl, hp⟩⟩
theorem vld_im2 {pw ph : Nat} (h1 : 1 ≤ pw) (h2 : pw ≤ 16) (h3 : 1 ≤ ph) (h4 : ph ≤ 16) (g : Int → Int → Int) : vld pw ph (img pw ph g) = true := by
  have hr : allIn (-2147483648) 2147483648 (img pw ph g) = true := by
    unfold img
    simp only [allIn, List.all_eq_true, List.mem_map]
    rintro x ⟨i, _, rfl⟩
    have := clamp_bd (g (cX pw i) (cY pw i))
    simp [inR, this]
  simp only [vld, Bool.and_eq_true, inR_true, decide_eq_true_eq, hr, img_length]
  exact ⟨⟨⟨⟨by omega, by omega⟩, by omega, by omega⟩, by simp⟩, trivial⟩
theorem shape_full {s : Nat} (h : s ≤ 2) : shapeOk ((2 * s + 1 : Nat) : Int) ((2 * s + 1 : Nat) : Int) (fullB s) = true := by
  have : s = 0 ∨ s = 1 ∨ s = 2 := by omega
  rcases this with rfl | rfl | rfl <;> decide
theorem mor_ret (mx : Bool) {pw ph s : Nat} {xs : List Int} (hv : vld pw ph xs = true) (h : s ≤ 2) : morS mx pw ph xs ((2 * s + 1 : Nat) : Int) ((2 * s + 1 : Nat) : Int) (fullB s) = ⟨pw, ph, img pw ph (morG mx pw ph xs (2 * s + 1) (2 * s + 1) (fullB s)), 0⟩ := by
  unfold morS
  rw [if_pos hv, if_pos (shape_full h)]
  rfl
theorem pt_ok {g ad : Int} (h1 : 0 ≤ g) (h2 : g ≤ 400) (h3 : -1000 ≤ ad) (h4 : ad ≤ 1000) : (⟨g, 100 * ad, 100, 0, 255⟩ : PointN).ok = true := by
  simp only [PointN.ok, Bool.and_eq_true, inR_true, decide_eq_true_eq]
  omega
theorem pt_ret {pw ph : Nat} {xs : List Int} (hv : vld pw ph xs = true) {p : PointN} (hp : p.ok = true) : pointS pw ph xs p = ⟨pw, ph, img pw ph (pointG pw xs p), 0⟩ := by
  unfold pointS
  rw [if_pos hv, if_pos hp]
  rfl

set_option maxRecDepth 100000 in
set_option maxHeartbeats 8000000 in
theorem Spread_any (iw ih : Int) (a : Option Addr) (c n : Nat) (xs : List Int) (hn : Hid (xs.length = n)) (C : ChgN) (w : World) (hm : n ≤ 9223372036854775807) (hr : Rd w.heap.size w a xs) :
    Calls Tryz.prog 15 #[imv iw ih a n c, C.val] w (RetSp w.heap.size (sprS ⟨iw, ih, xs⟩ C) w) := by
  obtain ⟨s, gl, gh, off, noi⟩ := C
  obtain ⟨v0, hv0⟩ : ∃ v, camB ⟨iw, ih, xs⟩ = v := ⟨_, rfl⟩
  obtain ⟨v1, hv1⟩ : ∃ v, nIn 0 2 s = v := ⟨_, rfl⟩
  obtain ⟨v2, hv2⟩ : ∃ v, (nIn 0 400 gl && nIn 0 400 gh) = v := ⟨_, rfl⟩
  obtain ⟨v3, hv3⟩ : ∃ v, decide (gl ≤ gh) = v := ⟨_, rfl⟩
  obtain ⟨v4, hv4⟩ : ∃ v, (nIn 0 255 off && nIn 0 255 noi) = v := ⟨_, rfl⟩
  have hsp0 : sprS ⟨iw, ih, xs⟩ ⟨s, gl, gh, off, noi⟩ = if v0 = true then (if (((v1 && v2) && v3) && v4) = true then ⟨iw, ih, loL ⟨iw, ih, xs⟩ ⟨s, gl, gh, off, noi⟩, hiL ⟨iw, ih, xs⟩ ⟨s, gl, gh, off, noi⟩, 0⟩ else noSp 2) else noSp 20 := by
    simp only [sprS, chgB, hv0, hv1, hv2, hv3, hv4]
  have hsp := Lib.hid hsp0
  have h0H := Lib.hid hv0
  have h1H := Lib.hid hv1
  have h2H := Lib.hid hv2
  have h3H := Lib.hid hv3
  have h4H := Lib.hid hv4
  clear hv0 hv1 hv2 hv3 hv4 hsp0
  have hbA1 : Below w.heap.size w (w.alloc (.cells #[.int .i64 iw, .int .i64 ih, .slice a n c] 51)) := jb_al (Below.refl _ w) _
  have k1 := Blk.new w 51 #[.int .i64 iw, .int .i64 ih, .slice a n c]
  obtain ⟨A1, hEA1⟩ : ∃ X, w.alloc (.cells #[.int .i64 iw, .int .i64 ih, .slice a n c] 51) = X := ⟨_, rfl⟩
  rw [hEA1] at hbA1 k1
  have l1 := k1.lt
  have hbA2 : Below A1.heap.size A1 (A1.alloc (.cells #[.int .i64 s, .int .i64 gl, .int .i64 gh, .int .i64 off, .int .i64 noi] 56)) := jb_al (Below.refl _ A1) _
  have k2 := Blk.new A1 56 #[.int .i64 s, .int .i64 gl, .int .i64 gh, .int .i64 off, .int .i64 noi]
  obtain ⟨A2, hEA2⟩ : ∃ X, A1.alloc (.cells #[.int .i64 s, .int .i64 gl, .int .i64 gh, .int .i64 off, .int .i64 noi] 56) = X := ⟨_, rfl⟩
  rw [hEA2] at hbA2 k2
  have l2 := k2.lt
  replace k1 := k1.below hbA2 k1.lt
  have hbA3 : Below A2.heap.size A2 (A2.alloc (.cells #[.int .i64 0, .int .i64 0, .slice none 0 0] 51)) := jb_al (Below.refl _ A2) _
  have r1 := Blk.new A2 51 #[.int .i64 0, .int .i64 0, .slice none 0 0]
  obtain ⟨A3, hEA3⟩ : ∃ X, A2.alloc (.cells #[.int .i64 0, .int .i64 0, .slice none 0 0] 51) = X := ⟨_, rfl⟩
  rw [hEA3] at hbA3 r1
  have l3 := r1.lt
  replace k1 := k1.below hbA3 k1.lt
  replace k2 := k2.below hbA3 k2.lt
  have hbW0 : Below A3.heap.size A3 (A3.alloc (.cells #[.int .i64 0, .int .i64 0, .slice none 0 0] 51)) := jb_al (Below.refl _ A3) _
  have r2 := Blk.new A3 51 #[.int .i64 0, .int .i64 0, .slice none 0 0]
  obtain ⟨W0, hEW0⟩ : ∃ X, A3.alloc (.cells #[.int .i64 0, .int .i64 0, .slice none 0 0] 51) = X := ⟨_, rfl⟩
  rw [hEW0] at hbW0 r2
  have l4 := r2.lt
  replace k1 := k1.below hbW0 k1.lt
  replace k2 := k2.below hbW0 k2.lt
  replace r1 := r1.below hbW0 r1.lt
  have hB0 : Below w.heap.size w W0 := hbA1.trans ((hbA2.trans ((hbA3.trans (hbW0.mono hbA3.size)).mono hbA2.size)).mono hbA1.size)
  have hbS1 : Below W0.heap.size W0 (W0.alloc (.cells #[.int .i64 iw, .int .i64 ih, .slice a n c] 51)) := jb_al (Below.refl _ W0) _
  have ks := Blk.new W0 51 #[.int .i64 iw, .int .i64 ih, .slice a n c]
  obtain ⟨S1, hES1⟩ : ∃ X, W0.alloc (.cells #[.int .i64 iw, .int .i64 ih, .slice a n c] 51) = X := ⟨_, rfl⟩
  rw [hES1] at hbS1 ks
  have hBS : Below w.heap.size w S1 := hB0.trans (hbS1.mono hB0.size)
  have m0 := k1.cell (i := 0) rfl
  have m1 := k1.cell (i := 1) rfl
  have m2 := k1.cell (i := 2) rfl
  have hca := Lib.hid (camera_any [⟨iw, ih, xs⟩] (some ⟨W0.heap.size, 0, none⟩) 1 1 rfl (by omega) (imAt_len2 (by rw [show (⟨iw, ih, xs⟩ : ImN).px.length = n from hn.out]; exact hm)) S1 (rdis_one2 hn.out ks (later_i hr hBS)) v0 ((camsB_one _).trans h0H.out))
  go_enter Tryz.func15, Tryz.ntmps15
  go_wp2_with fail
  refine hca.out.mono ?_
  clear hca
  rintro e W2 ⟨rfl, hb⟩
  replace hb := hbS1.trans (hb.mono hbS1.size)
  clear hEA1 hEA2 hEA3 hEW0 hES1 m0 m1 m2 ks hbA1 hbA2 hbA3 hbW0 hbS1 hBS
  replace k1 := k1.below hb k1.lt
  replace k2 := k2.below hb k2.lt
  replace r1 := r1.below hb r1.lt
  replace r2 := r2.below hb r2.lt
  have hB := hB0.trans (hb.mono hB0.size)
  have ri := hr.below (Nat.le_refl _) hB
  have ril := hB.size
  have hW0l : W0.heap.size ≤ W2.heap.size := hb.size
  clear hb hB0 hr
  have m0 := k1.cell (i := 0) rfl
  have m1 := k1.cell (i := 1) rfl
  have m2 := k1.cell (i := 2) rfl
  have h0 := k2.cell (i := 0) rfl
  have h1 := k2.cell (i := 1) rfl
  have h2 := k2.cell (i := 2) rfl
  have h3 := k2.cell (i := 3) rfl
  have h4 := k2.cell (i := 4) rfl
  have x0 := r1.cell (i := 0) rfl
  have x1 := r1.cell (i := 1) rfl
  have x2 := r1.cell (i := 2) rfl
  have fx0 := r1.frozen 0
  have fx1 := r1.frozen 1
  have fx2 := r1.frozen 2
  have y0 := r2.cell (i := 0) rfl
  have y1 := r2.cell (i := 1) rfl
  have y2 := r2.cell (i := 2) rfl
  have fy0 := r2.frozen 0
  have fy1 := r2.frozen 1
  have fy2 := r2.frozen 2
  cases v0 with
  | false =>
    have hg1 := put3_grow2 W2 A2.heap.size (.int .i64 0) (.int .i64 0) (.slice none 0 0)
    have q1 := put3_blk r1 (.int .i64 0) (.int .i64 0) (.slice none 0 0)
    have q2 := r2.kept hg1 (by simp <;> omega)
    obtain ⟨P1, hP1⟩ : ∃ P, put3 W2 A2.heap.size (.int .i64 0) (.int .i64 0) (.slice none 0 0) = P := ⟨_, rfl⟩
    rw [hP1] at hg1 q1 q2
    have hg2 := put3_grow2 P1 A3.heap.size (.int .i64 0) (.int .i64 0) (.slice none 0 0)
    have q1' := q1.kept hg2 (by simp <;> omega)
    have q2' := put3_blk q2 (.int .i64 0) (.int .i64 0) (.slice none 0 0)
    obtain ⟨P2, hP2⟩ : ∃ P, put3 P1 A3.heap.size (.int .i64 0) (.int .i64 0) (.slice none 0 0) = P := ⟨_, rfl⟩
    rw [hP2] at hg2 q1' q2'
    have d0 := q2.cell (i := 0) rfl
    have d1 := q2.cell (i := 1) rfl
    have d2 := q2.cell (i := 2) rfl
    have fd0 := q2.frozen 0
    have fd1 := q2.frozen 1
    have fd2 := q2.frozen 2
    have g0 := q1'.cell (i := 0) rfl
    have g1 := q1'.cell (i := 1) rfl
    have g2 := q1'.cell (i := 2) rfl
    have g3 := q2'.cell (i := 0) rfl
    have g4 := q2'.cell (i := 1) rfl
    have g5 := q2'.cell (i := 2) rfl
    have hB' : Below w.heap.size w P2 := hB.trans ((grown_below2 hg1 hB.size (by intro k e; cases e; omega)).trans (grown_below2 hg2 (by have := hg1.size; have := hB.size; omega) (by intro k e; cases e; omega)))
    go_wp2_with fail
    exact bodyPost_ret (v := .tuple #[.agg #[.int .i64 0, .int .i64 0, .slice none 0 0], .agg #[.int .i64 0, .int .i64 0, .slice none 0 0], .int .i64 20]) (by simp [results, Tryz.results15, go_sem, g0, g1, g2, g3, g4, g5]) rfl ⟨⟨_, _, by rw [hsp.out]; rfl, by rw [hsp.out]; exact OwnIm_nil _ _, by rw [hsp.out]; exact OwnIm_nil _ _⟩, hB'⟩
  | true =>
    go_wp2_with fail
    refine (jw1 0 2 s v1 h1H.out _ _ _ _ (cell_new (by simp) rfl)).mono ?_
    rintro e W3 ⟨rfl, hW⟩
    have hb : Below W2.heap.size W2 W3 := alloc_below hW
    clear hW
    clear m0 m1 m2 h0 h1 h2 h3 h4 x0 x1 x2 fx0 fx1 fx2 y0 y1 y2 fy0 fy1 fy2
    replace k1 := k1.below hb k1.lt
    replace k2 := k2.below hb k2.lt
    replace r1 := r1.below hb r1.lt
    replace r2 := r2.below hb r2.lt
    replace ri := ri.below (Nat.le_refl _) (hb.mono ril)
    replace ril := Nat.le_trans ril hb.size
    replace hB := hB.trans (hb.mono hB.size)
    have m0 := k1.cell (i := 0) rfl
    have m1 := k1.cell (i := 1) rfl
    have m2 := k1.cell (i := 2) rfl
    have h0 := k2.cell (i := 0) rfl
    have h1 := k2.cell (i := 1) rfl
    have h2 := k2.cell (i := 2) rfl
    have h3 := k2.cell (i := 3) rfl
    have h4 := k2.cell (i := 4) rfl
    have x0 := r1.cell (i := 0) rfl
    have x1 := r1.cell (i := 1) rfl
    have x2 := r1.cell (i := 2) rfl
    have fx0 := r1.frozen 0
    have fx1 := r1.frozen 1
    have fx2 := r1.frozen 2
    have y0 := r2.cell (i := 0) rfl
    have y1 := r2.cell (i := 1) rfl
    have y2 := r2.cell (i := 2) rfl
    have fy0 := r2.frozen 0
    have fy1 := r2.frozen 1
    have fy2 := r2.frozen 2
    replace hW0l := Nat.le_trans hW0l hb.size
    clear hb
    cases v1 with
    | false =>
      have hg1 := put3_grow2 W3 A2.heap.size (.int .i64 0) (.int .i64 0) (.slice none 0 0)
      have q1 := put3_blk r1 (.int .i64 0) (.int .i64 0) (.slice none 0 0)
      have q2 := r2.kept hg1 (by simp <;> omega)
      obtain ⟨P1, hP1⟩ : ∃ P, put3 W3 A2.heap.size (.int .i64 0) (.int .i64 0) (.slice none 0 0) = P := ⟨_, rfl⟩
      rw [hP1] at hg1 q1 q2
      have hg2 := put3_grow2 P1 A3.heap.size (.int .i64 0) (.int .i64 0) (.slice none 0 0)
      have q1' := q1.kept hg2 (by simp <;> omega)
      have q2' := put3_blk q2 (.int .i64 0) (.int .i64 0) (.slice none 0 0)
      obtain ⟨P2, hP2⟩ : ∃ P, put3 P1 A3.heap.size (.int .i64 0) (.int .i64 0) (.slice none 0 0) = P := ⟨_, rfl⟩
      rw [hP2] at hg2 q1' q2'
      have d0 := q2.cell (i := 0) rfl
      have d1 := q2.cell (i := 1) rfl
      have d2 := q2.cell (i := 2) rfl
      have fd0 := q2.frozen 0
      have fd1 := q2.frozen 1
      have fd2 := q2.frozen 2
      have g0 := q1'.cell (i := 0) rfl
      have g1 := q1'.cell (i := 1) rfl
      have g2 := q1'.cell (i := 2) rfl
      have g3 := q2'.cell (i := 0) rfl
      have g4 := q2'.cell (i := 1) rfl
      have g5 := q2'.cell (i := 2) rfl
      have hB' : Below w.heap.size w P2 := hB.trans ((grown_below2 hg1 hB.size (by intro k e; cases e; omega)).trans (grown_below2 hg2 (by have := hg1.size; have := hB.size; omega) (by intro k e; cases e; omega)))
      go_wp2_with fail
      exact bodyPost_ret (v := .tuple #[.agg #[.int .i64 0, .int .i64 0, .slice none 0 0], .agg #[.int .i64 0, .int .i64 0, .slice none 0 0], .int .i64 2]) (by simp [results, Tryz.results15, go_sem, g0, g1, g2, g3, g4, g5]) rfl ⟨⟨_, _, by rw [hsp.out]; rfl, by rw [hsp.out]; exact OwnIm_nil _ _, by rw [hsp.out]; exact OwnIm_nil _ _⟩, hB'⟩
    | true =>
      go_wp2_with fail
      refine (jw2 0 400 gl gh v2 h2H.out _ _ _ _ ((Blk.new _ _ _).cell (i := 0) rfl) ((Blk.new _ _ _).cell (i := 1) rfl)).mono ?_
      rintro e W4 ⟨rfl, hW⟩
      have hb : Below W3.heap.size W3 W4 := alloc_below hW
      clear hW
      clear m0 m1 m2 h0 h1 h2 h3 h4 x0 x1 x2 fx0 fx1 fx2 y0 y1 y2 fy0 fy1 fy2
      replace k1 := k1.below hb k1.lt
      replace k2 := k2.below hb k2.lt
      replace r1 := r1.below hb r1.lt
      replace r2 := r2.below hb r2.lt
      replace ri := ri.below (Nat.le_refl _) (hb.mono ril)
      replace ril := Nat.le_trans ril hb.size
      replace hB := hB.trans (hb.mono hB.size)
      have m0 := k1.cell (i := 0) rfl
      have m1 := k1.cell (i := 1) rfl
      have m2 := k1.cell (i := 2) rfl
      have h0 := k2.cell (i := 0) rfl
      have h1 := k2.cell (i := 1) rfl
      have h2 := k2.cell (i := 2) rfl
      have h3 := k2.cell (i := 3) rfl
      have h4 := k2.cell (i := 4) rfl
      have x0 := r1.cell (i := 0) rfl
      have x1 := r1.cell (i := 1) rfl
      have x2 := r1.cell (i := 2) rfl
      have fx0 := r1.frozen 0
      have fx1 := r1.frozen 1
      have fx2 := r1.frozen 2
      have y0 := r2.cell (i := 0) rfl
      have y1 := r2.cell (i := 1) rfl
      have y2 := r2.cell (i := 2) rfl
      have fy0 := r2.frozen 0
      have fy1 := r2.frozen 1
      have fy2 := r2.frozen 2
      replace hW0l := Nat.le_trans hW0l hb.size
      clear hb
      cases v2 with
      | false =>
        have hg1 := put3_grow2 W4 A2.heap.size (.int .i64 0) (.int .i64 0) (.slice none 0 0)
        have q1 := put3_blk r1 (.int .i64 0) (.int .i64 0) (.slice none 0 0)
        have q2 := r2.kept hg1 (by simp <;> omega)
        obtain ⟨P1, hP1⟩ : ∃ P, put3 W4 A2.heap.size (.int .i64 0) (.int .i64 0) (.slice none 0 0) = P := ⟨_, rfl⟩
        rw [hP1] at hg1 q1 q2
        have hg2 := put3_grow2 P1 A3.heap.size (.int .i64 0) (.int .i64 0) (.slice none 0 0)
        have q1' := q1.kept hg2 (by simp <;> omega)
        have q2' := put3_blk q2 (.int .i64 0) (.int .i64 0) (.slice none 0 0)
        obtain ⟨P2, hP2⟩ : ∃ P, put3 P1 A3.heap.size (.int .i64 0) (.int .i64 0) (.slice none 0 0) = P := ⟨_, rfl⟩
        rw [hP2] at hg2 q1' q2'
        have d0 := q2.cell (i := 0) rfl
        have d1 := q2.cell (i := 1) rfl
        have d2 := q2.cell (i := 2) rfl
        have fd0 := q2.frozen 0
        have fd1 := q2.frozen 1
        have fd2 := q2.frozen 2
        have g0 := q1'.cell (i := 0) rfl
        have g1 := q1'.cell (i := 1) rfl
        have g2 := q1'.cell (i := 2) rfl
        have g3 := q2'.cell (i := 0) rfl
        have g4 := q2'.cell (i := 1) rfl
        have g5 := q2'.cell (i := 2) rfl
        have hB' : Below w.heap.size w P2 := hB.trans ((grown_below2 hg1 hB.size (by intro k e; cases e; omega)).trans (grown_below2 hg2 (by have := hg1.size; have := hB.size; omega) (by intro k e; cases e; omega)))
        go_wp2_with fail
        exact bodyPost_ret (v := .tuple #[.agg #[.int .i64 0, .int .i64 0, .slice none 0 0], .agg #[.int .i64 0, .int .i64 0, .slice none 0 0], .int .i64 2]) (by simp [results, Tryz.results15, go_sem, g0, g1, g2, g3, g4, g5]) rfl ⟨⟨_, _, by rw [hsp.out]; rfl, by rw [hsp.out]; exact OwnIm_nil _ _, by rw [hsp.out]; exact OwnIm_nil _ _⟩, hB'⟩
      | true =>
        cases v3 with
        | false =>
          have h3v := h3H.out
          simp only [decide_eq_false_iff_not, Int.not_le] at h3v
          have hg1 := put3_grow2 W4 A2.heap.size (.int .i64 0) (.int .i64 0) (.slice none 0 0)
          have q1 := put3_blk r1 (.int .i64 0) (.int .i64 0) (.slice none 0 0)
          have q2 := r2.kept hg1 (by simp <;> omega)
          obtain ⟨P1, hP1⟩ : ∃ P, put3 W4 A2.heap.size (.int .i64 0) (.int .i64 0) (.slice none 0 0) = P := ⟨_, rfl⟩
          rw [hP1] at hg1 q1 q2
          have hg2 := put3_grow2 P1 A3.heap.size (.int .i64 0) (.int .i64 0) (.slice none 0 0)
          have q1' := q1.kept hg2 (by simp <;> omega)
          have q2' := put3_blk q2 (.int .i64 0) (.int .i64 0) (.slice none 0 0)
          obtain ⟨P2, hP2⟩ : ∃ P, put3 P1 A3.heap.size (.int .i64 0) (.int .i64 0) (.slice none 0 0) = P := ⟨_, rfl⟩
          rw [hP2] at hg2 q1' q2'
          have d0 := q2.cell (i := 0) rfl
          have d1 := q2.cell (i := 1) rfl
          have d2 := q2.cell (i := 2) rfl
          have fd0 := q2.frozen 0
          have fd1 := q2.frozen 1
          have fd2 := q2.frozen 2
          have g0 := q1'.cell (i := 0) rfl
          have g1 := q1'.cell (i := 1) rfl
          have g2 := q1'.cell (i := 2) rfl
          have g3 := q2'.cell (i := 0) rfl
          have g4 := q2'.cell (i := 1) rfl
          have g5 := q2'.cell (i := 2) rfl
          have hB' : Below w.heap.size w P2 := hB.trans ((grown_below2 hg1 hB.size (by intro k e; cases e; omega)).trans (grown_below2 hg2 (by have := hg1.size; have := hB.size; omega) (by intro k e; cases e; omega)))
          go_wp2_with fail
          exact bodyPost_ret (v := .tuple #[.agg #[.int .i64 0, .int .i64 0, .slice none 0 0], .agg #[.int .i64 0, .int .i64 0, .slice none 0 0], .int .i64 2]) (by simp [results, Tryz.results15, go_sem, g0, g1, g2, g3, g4, g5]) rfl ⟨⟨_, _, by rw [hsp.out]; rfl, by rw [hsp.out]; exact OwnIm_nil _ _, by rw [hsp.out]; exact OwnIm_nil _ _⟩, hB'⟩
        | true =>
          have h3v := h3H.out
          simp only [decide_eq_true_eq] at h3v
          go_wp2_with fail
          refine (jw2 0 255 off noi v4 h4H.out _ _ _ _ ((Blk.new _ _ _).cell (i := 0) rfl) ((Blk.new _ _ _).cell (i := 1) rfl)).mono ?_
          rintro e W5 ⟨rfl, hW⟩
          have hb : Below W4.heap.size W4 W5 := alloc_below hW
          clear hW
          clear m0 m1 m2 h0 h1 h2 h3 h4 x0 x1 x2 fx0 fx1 fx2 y0 y1 y2 fy0 fy1 fy2
          replace k1 := k1.below hb k1.lt
          replace k2 := k2.below hb k2.lt
          replace r1 := r1.below hb r1.lt
          replace r2 := r2.below hb r2.lt
          replace ri := ri.below (Nat.le_refl _) (hb.mono ril)
          replace ril := Nat.le_trans ril hb.size
          replace hB := hB.trans (hb.mono hB.size)
          have m0 := k1.cell (i := 0) rfl
          have m1 := k1.cell (i := 1) rfl
          have m2 := k1.cell (i := 2) rfl
          have h0 := k2.cell (i := 0) rfl
          have h1 := k2.cell (i := 1) rfl
          have h2 := k2.cell (i := 2) rfl
          have h3 := k2.cell (i := 3) rfl
          have h4 := k2.cell (i := 4) rfl
          have x0 := r1.cell (i := 0) rfl
          have x1 := r1.cell (i := 1) rfl
          have x2 := r1.cell (i := 2) rfl
          have fx0 := r1.frozen 0
          have fx1 := r1.frozen 1
          have fx2 := r1.frozen 2
          have y0 := r2.cell (i := 0) rfl
          have y1 := r2.cell (i := 1) rfl
          have y2 := r2.cell (i := 2) rfl
          have fy0 := r2.frozen 0
          have fy1 := r2.frozen 1
          have fy2 := r2.frozen 2
          replace hW0l := Nat.le_trans hW0l hb.size
          clear hb
          cases v4 with
          | false =>
            have hg1 := put3_grow2 W5 A2.heap.size (.int .i64 0) (.int .i64 0) (.slice none 0 0)
            have q1 := put3_blk r1 (.int .i64 0) (.int .i64 0) (.slice none 0 0)
            have q2 := r2.kept hg1 (by simp <;> omega)
            obtain ⟨P1, hP1⟩ : ∃ P, put3 W5 A2.heap.size (.int .i64 0) (.int .i64 0) (.slice none 0 0) = P := ⟨_, rfl⟩
            rw [hP1] at hg1 q1 q2
            have hg2 := put3_grow2 P1 A3.heap.size (.int .i64 0) (.int .i64 0) (.slice none 0 0)
            have q1' := q1.kept hg2 (by simp <;> omega)
            have q2' := put3_blk q2 (.int .i64 0) (.int .i64 0) (.slice none 0 0)
            obtain ⟨P2, hP2⟩ : ∃ P, put3 P1 A3.heap.size (.int .i64 0) (.int .i64 0) (.slice none 0 0) = P := ⟨_, rfl⟩
            rw [hP2] at hg2 q1' q2'
            have d0 := q2.cell (i := 0) rfl
            have d1 := q2.cell (i := 1) rfl
            have d2 := q2.cell (i := 2) rfl
            have fd0 := q2.frozen 0
            have fd1 := q2.frozen 1
            have fd2 := q2.frozen 2
            have g0 := q1'.cell (i := 0) rfl
            have g1 := q1'.cell (i := 1) rfl
            have g2 := q1'.cell (i := 2) rfl
            have g3 := q2'.cell (i := 0) rfl
            have g4 := q2'.cell (i := 1) rfl
            have g5 := q2'.cell (i := 2) rfl
            have hB' : Below w.heap.size w P2 := hB.trans ((grown_below2 hg1 hB.size (by intro k e; cases e; omega)).trans (grown_below2 hg2 (by have := hg1.size; have := hB.size; omega) (by intro k e; cases e; omega)))
            go_wp2_with fail
            exact bodyPost_ret (v := .tuple #[.agg #[.int .i64 0, .int .i64 0, .slice none 0 0], .agg #[.int .i64 0, .int .i64 0, .slice none 0 0], .int .i64 2]) (by simp [results, Tryz.results15, go_sem, g0, g1, g2, g3, g4, g5]) rfl ⟨⟨_, _, by rw [hsp.out]; rfl, by rw [hsp.out]; exact OwnIm_nil _ _, by rw [hsp.out]; exact OwnIm_nil _ _⟩, hB'⟩
          | true =>
            have hcb := h0H.out
            simp only [camB, Bool.and_eq_true] at hcb
            obtain ⟨⟨i1, i2⟩, ⟨i3, i4⟩, hlen, hall⟩ := vld_true hcb.1
            have b1 := nIn_true.1 h1H.out
            have b2 := h2H.out
            simp only [Bool.and_eq_true, nIn_true] at b2
            have b4 := h4H.out
            simp only [Bool.and_eq_true, nIn_true] at b4
            obtain ⟨⟨g1, g2⟩, g3, g4⟩ := b2
            obtain ⟨⟨o1, o2⟩, o3, o4⟩ := b4
            obtain ⟨s1, s2⟩ := b1
            obtain ⟨pw, rfl⟩ : ∃ pw : Nat, iw = (pw : Int) := ⟨iw.toNat, by omega⟩
            obtain ⟨ph, rfl⟩ : ∃ ph : Nat, ih = (ph : Int) := ⟨ih.toNat, by omega⟩
            obtain ⟨sn, rfl⟩ : ∃ sn : Nat, s = (sn : Int) := ⟨s.toNat, by omega⟩
            have hsn : sn ≤ 2 := by omega
            obtain ⟨sd, hsd⟩ : ∃ sd, 2 * sn + 1 = sd := ⟨_, rfl⟩
            obtain ⟨J, hJ⟩ : ∃ J, (2 * sn + 1) * (2 * sn + 1) = J := ⟨_, rfl⟩
            have hJ' : J = sd * sd := by rw [← hJ, hsd]
            have hsd1 : 1 ≤ sd := by omega
            have hsd5 : sd ≤ 5 := by omega
            have hJ1 : 1 ≤ J := by have := Nat.mul_le_mul hsd1 hsd1; omega
            have hJ25 : J ≤ 25 := by have := Nat.mul_le_mul hsd5 hsd5; omega
            have hsdI : 2 * (sn : Int) + 1 = (sd : Int) := by omega
            have hJI : (sd : Int) * (sd : Int) = (J : Int) := by rw [hJ']; simp
            have hfl : (fullB sn).length = J := by simp [fullB, hJ]
            have hflH := Lib.hid hfl
            have hfm : (fullB sn).map Value.bool = List.replicate J (.bool true) := by simp [fullB, hJ]
            have hv2 : ∀ g, vld pw ph (img pw ph g) = true := fun g => vld_im2 (by omega) (by omega) (by omega) (by omega) g
            have hR1 := mor_ret false (s := sn) hcb.1 hsn
            have hR2 := mor_ret true (s := sn) hcb.1 hsn
            have hR3 := pt_ret (hv2 (morG false pw ph xs (2 * sn + 1) (2 * sn + 1) (fullB sn))) (pt_ok (g := gl) (ad := -(off + noi)) g1 g2 (by omega) (by omega))
            have hR4 := pt_ret (hv2 (morG true pw ph xs (2 * sn + 1) (2 * sn + 1) (fullB sn))) (pt_ok (g := gh) (ad := off + noi) g3 g4 (by omega) (by omega))
            rw [lo_img hall g1 (-(off + noi))] at hR3
            rw [hi_img hall g3 (off + noi)] at hR4
            rw [hsd] at hR1 hR2
            have hlE : (img pw ph (morG false pw ph xs (2 * sn + 1) (2 * sn + 1) (fullB sn))).length = pw * ph := img_length _ _ _
            have hlM : (img pw ph (morG true pw ph xs (2 * sn + 1) (2 * sn + 1) (fullB sn))).length = pw * ph := img_length _ _ _
            rw [hsd] at hR3 hR4 hlE hlM
            obtain ⟨E, hE⟩ : ∃ E, img pw ph (morG false pw ph xs sd sd (fullB sn)) = E := ⟨_, rfl⟩
            obtain ⟨M, hM⟩ : ∃ M, img pw ph (morG true pw ph xs sd sd (fullB sn)) = M := ⟨_, rfl⟩
            obtain ⟨lo, hlo⟩ : ∃ l, (List.range (pw * ph)).map (loF pw ph xs sn gl (-(off + noi))) = l := ⟨_, rfl⟩
            obtain ⟨hi, hhi⟩ : ∃ l, (List.range (pw * ph)).map (hiF pw ph xs sn gh (off + noi)) = l := ⟨_, rfl⟩
            rw [hE] at hR1 hR3 hlE
            rw [hM] at hR2 hR4 hlM
            rw [hlo] at hR3
            rw [hhi] at hR4
            have hfin : sprS ⟨(pw : Int), (ph : Int), xs⟩ ⟨(sn : Int), gl, gh, off, noi⟩ = ⟨(pw : Int), (ph : Int), lo, hi, 0⟩ := by
              rw [hsp.out, ← hlo, ← hhi]
              rfl
            have hfinH := Lib.hid hfin
            replace hR1 := Lib.hid hR1
            replace hR2 := Lib.hid hR2
            replace hR3 := Lib.hid hR3
            replace hR4 := Lib.hid hR4
            have hfmH := Lib.hid hfm
            have hpq : pw * ph ≤ 256 := Nat.mul_le_mul (show pw ≤ 16 by omega) (show ph ≤ 16 by omega)
            have hadd : -100 * (off + noi) = 100 * -(off + noi) := by omega
            have hlEH := Lib.hid hlE
            have hlMH := Lib.hid hlM
            clear hfin hlE hlM hlo hhi hE hM hcb hall hlen hfl hfm hv2 hJ hJ' hsd h0H h1H h2H h3H h4H hsp
            go_wp2_with fail
            refine (RepeatB_any true J hJ1 (by omega) _ 0 1 _ (by simp) ((Blk.new _ _ _).cell (i := 0) rfl)).mono ?_
            rintro e W6 ⟨rfl, hrow, hb⟩
            obtain ⟨gS, hgS⟩ : ∃ g, (W5.alloc (.cells #[.bool true] 4)).heap.size = g := ⟨_, rfl⟩
            rw [hgS] at hrow hb ⊢
            replace hb : Below W5.heap.size W5 W6 := ((Below.refl _ _).alloc (Nat.le_refl _) _).trans (hb.mono (by rw [← hgS]; simp))
            rw [← hfmH.out] at hrow
            have hgl : gS < W6.heap.size := by
              rcases hrow.2 with ⟨h1, h2⟩ | ⟨g', cap, cur, h1, _, hg, _⟩
              · cases h1
              · simp only [Value.slice.injEq, Option.some.injEq, Addr.mk.injEq, and_true, true_and] at h1
                rw [h1.1]; exact (Array.getElem?_eq_some_iff.1 hg).1
            have rb := row_rdB hrow hflH.out W6.heap.size hgl
            have rbl := Nat.le_refl W6.heap.size
            clear hrow hgS hgl
            clear m0 m1 m2 h0 h1 h2 h3 h4 x0 x1 x2 fx0 fx1 fx2 y0 y1 y2 fy0 fy1 fy2
            replace k1 := k1.below hb k1.lt
            replace k2 := k2.below hb k2.lt
            replace r1 := r1.below hb r1.lt
            replace r2 := r2.below hb r2.lt
            replace ri := ri.below (Nat.le_refl _) (hb.mono ril)
            replace ril := Nat.le_trans ril hb.size
            replace hB := hB.trans (hb.mono hB.size)
            have m0 := k1.cell (i := 0) rfl
            have m1 := k1.cell (i := 1) rfl
            have m2 := k1.cell (i := 2) rfl
            have h0 := k2.cell (i := 0) rfl
            have h1 := k2.cell (i := 1) rfl
            have h2 := k2.cell (i := 2) rfl
            have h3 := k2.cell (i := 3) rfl
            have h4 := k2.cell (i := 4) rfl
            have x0 := r1.cell (i := 0) rfl
            have x1 := r1.cell (i := 1) rfl
            have x2 := r1.cell (i := 2) rfl
            have fx0 := r1.frozen 0
            have fx1 := r1.frozen 1
            have fx2 := r1.frozen 2
            have y0 := r2.cell (i := 0) rfl
            have y1 := r2.cell (i := 1) rfl
            have y2 := r2.cell (i := 2) rfl
            have fy0 := r2.frozen 0
            have fy1 := r2.frozen 1
            have fy2 := r2.frozen 2
            clear hb
            obtain ⟨V1, hW⟩ : ∃ V1, W6.alloc (.cells #[.int .i64 (sd : Int), .int .i64 (sd : Int), .slice (some ⟨gS, 0, none⟩) J J] 96) = V1 := ⟨_, rfl⟩
            obtain ⟨bk8, hbx⟩ : ∃ bk8, W6.heap.size = bk8 := ⟨_, rfl⟩
            have k8 := Blk.new W6 96 #[.int .i64 (sd : Int), .int .i64 (sd : Int), .slice (some ⟨gS, 0, none⟩) J J]
            rw [hW, hbx] at k8
            have hb : Below W6.heap.size W6 V1 := alloc_below hW
            have k1' := k1.below hb k1.lt
            have lk1k8 := k1.lt
            rw [hbx] at lk1k8
            have k2' := k2.below hb k2.lt
            have lk2k8 := k2.lt
            rw [hbx] at lk2k8
            have r1' := r1.below hb r1.lt
            have lr1k8 := r1.lt
            rw [hbx] at lr1k8
            have r2' := r2.below hb r2.lt
            have lr2k8 := r2.lt
            rw [hbx] at lr2k8
            have m0' := k1'.cell (i := 0) rfl
            have m1' := k1'.cell (i := 1) rfl
            have m2' := k1'.cell (i := 2) rfl
            have h0' := k2'.cell (i := 0) rfl
            have h1' := k2'.cell (i := 1) rfl
            have h2' := k2'.cell (i := 2) rfl
            have h3' := k2'.cell (i := 3) rfl
            have h4' := k2'.cell (i := 4) rfl
            have x0' := r1'.cell (i := 0) rfl
            have x1' := r1'.cell (i := 1) rfl
            have x2' := r1'.cell (i := 2) rfl
            have fx0' := r1'.frozen 0
            have fx1' := r1'.frozen 1
            have fx2' := r1'.frozen 2
            have y0' := r2'.cell (i := 0) rfl
            have y1' := r2'.cell (i := 1) rfl
            have y2' := r2'.cell (i := 2) rfl
            have fy0' := r2'.frozen 0
            have fy1' := r2'.frozen 1
            have fy2' := r2'.frozen 2
            have t0 := k8.cell (i := 0) rfl
            have t1 := k8.cell (i := 1) rfl
            have t2 := k8.cell (i := 2) rfl
            have ft0 := k8.frozen 0
            have ft1 := k8.frozen 1
            have ft2 := k8.frozen 2
            go_wp2_with fail
            clear hW
            have lrik8 := ril
            rw [hbx] at lrik8
            have lrbk8 := rbl
            rw [hbx] at lrbk8
            clear hbx
            clear m0 m1 m2 h0 h1 h2 h3 h4 x0 x1 x2 fx0 fx1 fx2 y0 y1 y2 fy0 fy1 fy2
            clear m0' m1' m2' h0' h1' h2' h3' h4' x0' x1' x2' fx0' fx1' fx2' y0' y1' y2' fy0' fy1' fy2'
            replace k1 := k1'
            clear k1'
            replace k2 := k2'
            clear k2'
            replace r1 := r1'
            clear r1'
            replace r2 := r2'
            clear r2'
            have m0 := k1.cell (i := 0) rfl
            have m1 := k1.cell (i := 1) rfl
            have m2 := k1.cell (i := 2) rfl
            have h0 := k2.cell (i := 0) rfl
            have h1 := k2.cell (i := 1) rfl
            have h2 := k2.cell (i := 2) rfl
            have h3 := k2.cell (i := 3) rfl
            have h4 := k2.cell (i := 4) rfl
            have x0 := r1.cell (i := 0) rfl
            have x1 := r1.cell (i := 1) rfl
            have x2 := r1.cell (i := 2) rfl
            have fx0 := r1.frozen 0
            have fx1 := r1.frozen 1
            have fx2 := r1.frozen 2
            have y0 := r2.cell (i := 0) rfl
            have y1 := r2.cell (i := 1) rfl
            have y2 := r2.cell (i := 2) rfl
            have fy0 := r2.frozen 0
            have fy1 := r2.frozen 1
            have fy2 := r2.frozen 2
            replace ri := ri.below (Nat.le_refl _) (hb.mono ril)
            replace ril := Nat.le_trans ril hb.size
            replace rb := rb.below (Nat.le_refl _) (hb.mono rbl)
            replace rbl := Nat.le_trans rbl hb.size
            replace hB := hB.trans (hb.mono hB.size)
            clear hb
            have hcall := Erode_any pw ph a c n xs hn sd sd (some ⟨gS, 0, none⟩) J J (fullB sn) hflH _ hm (ri.mono ril) (by omega) (rb.mono rbl)
            rw [hR1.out] at hcall
            refine hcall.mono ?_
            clear hcall
            rintro e V2 ⟨⟨v, rfl, hv⟩, hb⟩
            obtain ⟨sl, rfl, hrow⟩ := hv
            obtain ⟨rea, rec, rfl⟩ := row_slice hrow
            simp only at hrow ⊢
            rw [hlEH.out] at hrow ⊢
            have re := row_rd' hlEH.out hrow
            have rel := Nat.le_refl V2.heap.size
            clear hrow
            clear m0 m1 m2 h0 h1 h2 h3 h4 x0 x1 x2 fx0 fx1 fx2 y0 y1 y2 fy0 fy1 fy2 t0 t1 t2 ft0 ft1 ft2
            replace k1 := k1.below hb k1.lt
            replace k2 := k2.below hb k2.lt
            replace r1 := r1.below hb r1.lt
            replace r2 := r2.below hb r2.lt
            replace k8 := k8.below hb k8.lt
            replace ri := ri.below (Nat.le_refl _) (hb.mono ril)
            replace ril := Nat.le_trans ril hb.size
            replace rb := rb.below (Nat.le_refl _) (hb.mono rbl)
            replace rbl := Nat.le_trans rbl hb.size
            replace hB := hB.trans (hb.mono hB.size)
            have m0 := k1.cell (i := 0) rfl
            have m1 := k1.cell (i := 1) rfl
            have m2 := k1.cell (i := 2) rfl
            have h0 := k2.cell (i := 0) rfl
            have h1 := k2.cell (i := 1) rfl
            have h2 := k2.cell (i := 2) rfl
            have h3 := k2.cell (i := 3) rfl
            have h4 := k2.cell (i := 4) rfl
            have x0 := r1.cell (i := 0) rfl
            have x1 := r1.cell (i := 1) rfl
            have x2 := r1.cell (i := 2) rfl
            have fx0 := r1.frozen 0
            have fx1 := r1.frozen 1
            have fx2 := r1.frozen 2
            have y0 := r2.cell (i := 0) rfl
            have y1 := r2.cell (i := 1) rfl
            have y2 := r2.cell (i := 2) rfl
            have fy0 := r2.frozen 0
            have fy1 := r2.frozen 1
            have fy2 := r2.frozen 2
            have t0 := k8.cell (i := 0) rfl
            have t1 := k8.cell (i := 1) rfl
            have t2 := k8.cell (i := 2) rfl
            have ft0 := k8.frozen 0
            have ft1 := k8.frozen 1
            have ft2 := k8.frozen 2
            clear hb
            obtain ⟨V3, hW⟩ : ∃ V3, V2.alloc (.cells #[.int .i64 (pw : Int), .int .i64 (ph : Int), .slice rea (pw * ph) rec] 51) = V3 := ⟨_, rfl⟩
            obtain ⟨bk9, hbx⟩ : ∃ bk9, V2.heap.size = bk9 := ⟨_, rfl⟩
            have k9 := Blk.new V2 51 #[.int .i64 (pw : Int), .int .i64 (ph : Int), .slice rea (pw * ph) rec]
            rw [hW, hbx] at k9
            have hb : Below V2.heap.size V2 V3 := alloc_below hW
            have k1' := k1.below hb k1.lt
            have lk1k9 := k1.lt
            rw [hbx] at lk1k9
            have k2' := k2.below hb k2.lt
            have lk2k9 := k2.lt
            rw [hbx] at lk2k9
            have r1' := r1.below hb r1.lt
            have lr1k9 := r1.lt
            rw [hbx] at lr1k9
            have r2' := r2.below hb r2.lt
            have lr2k9 := r2.lt
            rw [hbx] at lr2k9
            have k8' := k8.below hb k8.lt
            have lk8k9 := k8.lt
            rw [hbx] at lk8k9
            have m0' := k1'.cell (i := 0) rfl
            have m1' := k1'.cell (i := 1) rfl
            have m2' := k1'.cell (i := 2) rfl
            have h0' := k2'.cell (i := 0) rfl
            have h1' := k2'.cell (i := 1) rfl
            have h2' := k2'.cell (i := 2) rfl
            have h3' := k2'.cell (i := 3) rfl
            have h4' := k2'.cell (i := 4) rfl
            have x0' := r1'.cell (i := 0) rfl
            have x1' := r1'.cell (i := 1) rfl
            have x2' := r1'.cell (i := 2) rfl
            have fx0' := r1'.frozen 0
            have fx1' := r1'.frozen 1
            have fx2' := r1'.frozen 2
            have y0' := r2'.cell (i := 0) rfl
            have y1' := r2'.cell (i := 1) rfl
            have y2' := r2'.cell (i := 2) rfl
            have fy0' := r2'.frozen 0
            have fy1' := r2'.frozen 1
            have fy2' := r2'.frozen 2
            have t0' := k8'.cell (i := 0) rfl
            have t1' := k8'.cell (i := 1) rfl
            have t2' := k8'.cell (i := 2) rfl
            have ft0' := k8'.frozen 0
            have ft1' := k8'.frozen 1
            have ft2' := k8'.frozen 2
            have p0 := k9.cell (i := 0) rfl
            have p1 := k9.cell (i := 1) rfl
            have p2 := k9.cell (i := 2) rfl
            have fp0 := k9.frozen 0
            have fp1 := k9.frozen 1
            have fp2 := k9.frozen 2
            go_wp2_with fail
            clear hW
            have lrik9 := ril
            rw [hbx] at lrik9
            have lrbk9 := rbl
            rw [hbx] at lrbk9
            have lrek9 := rel
            rw [hbx] at lrek9
            clear hbx
            clear m0 m1 m2 h0 h1 h2 h3 h4 x0 x1 x2 fx0 fx1 fx2 y0 y1 y2 fy0 fy1 fy2 t0 t1 t2 ft0 ft1 ft2
            clear m0' m1' m2' h0' h1' h2' h3' h4' x0' x1' x2' fx0' fx1' fx2' y0' y1' y2' fy0' fy1' fy2' t0' t1' t2' ft0' ft1' ft2'
            replace k1 := k1'
            clear k1'
            replace k2 := k2'
            clear k2'
            replace r1 := r1'
            clear r1'
            replace r2 := r2'
            clear r2'
            replace k8 := k8'
            clear k8'
            have m0 := k1.cell (i := 0) rfl
            have m1 := k1.cell (i := 1) rfl
            have m2 := k1.cell (i := 2) rfl
            have h0 := k2.cell (i := 0) rfl
            have h1 := k2.cell (i := 1) rfl
            have h2 := k2.cell (i := 2) rfl
            have h3 := k2.cell (i := 3) rfl
            have h4 := k2.cell (i := 4) rfl
            have x0 := r1.cell (i := 0) rfl
            have x1 := r1.cell (i := 1) rfl
            have x2 := r1.cell (i := 2) rfl
            have fx0 := r1.frozen 0
            have fx1 := r1.frozen 1
            have fx2 := r1.frozen 2
            have y0 := r2.cell (i := 0) rfl
            have y1 := r2.cell (i := 1) rfl
            have y2 := r2.cell (i := 2) rfl
            have fy0 := r2.frozen 0
            have fy1 := r2.frozen 1
            have fy2 := r2.frozen 2
            have t0 := k8.cell (i := 0) rfl
            have t1 := k8.cell (i := 1) rfl
            have t2 := k8.cell (i := 2) rfl
            have ft0 := k8.frozen 0
            have ft1 := k8.frozen 1
            have ft2 := k8.frozen 2
            replace ri := ri.below (Nat.le_refl _) (hb.mono ril)
            replace ril := Nat.le_trans ril hb.size
            replace rb := rb.below (Nat.le_refl _) (hb.mono rbl)
            replace rbl := Nat.le_trans rbl hb.size
            replace re := re.below (Nat.le_refl _) (hb.mono rel)
            replace rel := Nat.le_trans rel hb.size
            replace hB := hB.trans (hb.mono hB.size)
            clear hb
            have hcall := Dilate_any pw ph a c n xs hn sd sd (some ⟨gS, 0, none⟩) J J (fullB sn) hflH _ hm (ri.mono ril) (by omega) (rb.mono rbl)
            rw [hR2.out] at hcall
            refine hcall.mono ?_
            clear hcall
            rintro e V4 ⟨⟨v, rfl, hv⟩, hb⟩
            obtain ⟨sl, rfl, hrow⟩ := hv
            obtain ⟨rma, rmc, rfl⟩ := row_slice hrow
            simp only at hrow ⊢
            rw [hlMH.out] at hrow ⊢
            have rm := row_rd' hlMH.out hrow
            have rml := Nat.le_refl V4.heap.size
            clear hrow
            clear m0 m1 m2 h0 h1 h2 h3 h4 x0 x1 x2 fx0 fx1 fx2 y0 y1 y2 fy0 fy1 fy2 t0 t1 t2 ft0 ft1 ft2 p0 p1 p2 fp0 fp1 fp2
            replace k1 := k1.below hb k1.lt
            replace k2 := k2.below hb k2.lt
            replace r1 := r1.below hb r1.lt
            replace r2 := r2.below hb r2.lt
            replace k8 := k8.below hb k8.lt
            replace k9 := k9.below hb k9.lt
            replace ri := ri.below (Nat.le_refl _) (hb.mono ril)
            replace ril := Nat.le_trans ril hb.size
            replace rb := rb.below (Nat.le_refl _) (hb.mono rbl)
            replace rbl := Nat.le_trans rbl hb.size
            replace re := re.below (Nat.le_refl _) (hb.mono rel)
            replace rel := Nat.le_trans rel hb.size
            replace hB := hB.trans (hb.mono hB.size)
            have m0 := k1.cell (i := 0) rfl
            have m1 := k1.cell (i := 1) rfl
            have m2 := k1.cell (i := 2) rfl
            have h0 := k2.cell (i := 0) rfl
            have h1 := k2.cell (i := 1) rfl
            have h2 := k2.cell (i := 2) rfl
            have h3 := k2.cell (i := 3) rfl
            have h4 := k2.cell (i := 4) rfl
            have x0 := r1.cell (i := 0) rfl
            have x1 := r1.cell (i := 1) rfl
            have x2 := r1.cell (i := 2) rfl
            have fx0 := r1.frozen 0
            have fx1 := r1.frozen 1
            have fx2 := r1.frozen 2
            have y0 := r2.cell (i := 0) rfl
            have y1 := r2.cell (i := 1) rfl
            have y2 := r2.cell (i := 2) rfl
            have fy0 := r2.frozen 0
            have fy1 := r2.frozen 1
            have fy2 := r2.frozen 2
            have t0 := k8.cell (i := 0) rfl
            have t1 := k8.cell (i := 1) rfl
            have t2 := k8.cell (i := 2) rfl
            have ft0 := k8.frozen 0
            have ft1 := k8.frozen 1
            have ft2 := k8.frozen 2
            have p0 := k9.cell (i := 0) rfl
            have p1 := k9.cell (i := 1) rfl
            have p2 := k9.cell (i := 2) rfl
            have fp0 := k9.frozen 0
            have fp1 := k9.frozen 1
            have fp2 := k9.frozen 2
            clear hb
            obtain ⟨V5, hW⟩ : ∃ V5, V4.alloc (.cells #[.int .i64 (pw : Int), .int .i64 (ph : Int), .slice rma (pw * ph) rmc] 51) = V5 := ⟨_, rfl⟩
            obtain ⟨bk11, hbx⟩ : ∃ bk11, V4.heap.size = bk11 := ⟨_, rfl⟩
            have k11 := Blk.new V4 51 #[.int .i64 (pw : Int), .int .i64 (ph : Int), .slice rma (pw * ph) rmc]
            rw [hW, hbx] at k11
            have hb : Below V4.heap.size V4 V5 := alloc_below hW
            have k1' := k1.below hb k1.lt
            have lk1k11 := k1.lt
            rw [hbx] at lk1k11
            have k2' := k2.below hb k2.lt
            have lk2k11 := k2.lt
            rw [hbx] at lk2k11
            have r1' := r1.below hb r1.lt
            have lr1k11 := r1.lt
            rw [hbx] at lr1k11
            have r2' := r2.below hb r2.lt
            have lr2k11 := r2.lt
            rw [hbx] at lr2k11
            have k8' := k8.below hb k8.lt
            have lk8k11 := k8.lt
            rw [hbx] at lk8k11
            have k9' := k9.below hb k9.lt
            have lk9k11 := k9.lt
            rw [hbx] at lk9k11
            have m0' := k1'.cell (i := 0) rfl
            have m1' := k1'.cell (i := 1) rfl
            have m2' := k1'.cell (i := 2) rfl
            have h0' := k2'.cell (i := 0) rfl
            have h1' := k2'.cell (i := 1) rfl
            have h2' := k2'.cell (i := 2) rfl
            have h3' := k2'.cell (i := 3) rfl
            have h4' := k2'.cell (i := 4) rfl
            have x0' := r1'.cell (i := 0) rfl
            have x1' := r1'.cell (i := 1) rfl
            have x2' := r1'.cell (i := 2) rfl
            have fx0' := r1'.frozen 0
            have fx1' := r1'.frozen 1
            have fx2' := r1'.frozen 2
            have y0' := r2'.cell (i := 0) rfl
            have y1' := r2'.cell (i := 1) rfl
            have y2' := r2'.cell (i := 2) rfl
            have fy0' := r2'.frozen 0
            have fy1' := r2'.frozen 1
            have fy2' := r2'.frozen 2
            have t0' := k8'.cell (i := 0) rfl
            have t1' := k8'.cell (i := 1) rfl
            have t2' := k8'.cell (i := 2) rfl
            have ft0' := k8'.frozen 0
            have ft1' := k8'.frozen 1
            have ft2' := k8'.frozen 2
            have p0' := k9'.cell (i := 0) rfl
            have p1' := k9'.cell (i := 1) rfl
            have p2' := k9'.cell (i := 2) rfl
            have fp0' := k9'.frozen 0
            have fp1' := k9'.frozen 1
            have fp2' := k9'.frozen 2
            have o0 := k11.cell (i := 0) rfl
            have o1 := k11.cell (i := 1) rfl
            have o2 := k11.cell (i := 2) rfl
            have fo0 := k11.frozen 0
            have fo1 := k11.frozen 1
            have fo2 := k11.frozen 2
            go_wp2_with fail
            clear hW
            have lrik11 := ril
            rw [hbx] at lrik11
            have lrbk11 := rbl
            rw [hbx] at lrbk11
            have lrek11 := rel
            rw [hbx] at lrek11
            have lrmk11 := rml
            rw [hbx] at lrmk11
            clear hbx
            clear m0 m1 m2 h0 h1 h2 h3 h4 x0 x1 x2 fx0 fx1 fx2 y0 y1 y2 fy0 fy1 fy2 t0 t1 t2 ft0 ft1 ft2 p0 p1 p2 fp0 fp1 fp2
            clear m0' m1' m2' h0' h1' h2' h3' h4' x0' x1' x2' fx0' fx1' fx2' y0' y1' y2' fy0' fy1' fy2' t0' t1' t2' ft0' ft1' ft2' p0' p1' p2' fp0' fp1' fp2'
            replace k1 := k1'
            clear k1'
            replace k2 := k2'
            clear k2'
            replace r1 := r1'
            clear r1'
            replace r2 := r2'
            clear r2'
            replace k8 := k8'
            clear k8'
            replace k9 := k9'
            clear k9'
            have m0 := k1.cell (i := 0) rfl
            have m1 := k1.cell (i := 1) rfl
            have m2 := k1.cell (i := 2) rfl
            have h0 := k2.cell (i := 0) rfl
            have h1 := k2.cell (i := 1) rfl
            have h2 := k2.cell (i := 2) rfl
            have h3 := k2.cell (i := 3) rfl
            have h4 := k2.cell (i := 4) rfl
            have x0 := r1.cell (i := 0) rfl
            have x1 := r1.cell (i := 1) rfl
            have x2 := r1.cell (i := 2) rfl
            have fx0 := r1.frozen 0
            have fx1 := r1.frozen 1
            have fx2 := r1.frozen 2
            have y0 := r2.cell (i := 0) rfl
            have y1 := r2.cell (i := 1) rfl
            have y2 := r2.cell (i := 2) rfl
            have fy0 := r2.frozen 0
            have fy1 := r2.frozen 1
            have fy2 := r2.frozen 2
            have t0 := k8.cell (i := 0) rfl
            have t1 := k8.cell (i := 1) rfl
            have t2 := k8.cell (i := 2) rfl
            have ft0 := k8.frozen 0
            have ft1 := k8.frozen 1
            have ft2 := k8.frozen 2
            have p0 := k9.cell (i := 0) rfl
            have p1 := k9.cell (i := 1) rfl
            have p2 := k9.cell (i := 2) rfl
            have fp0 := k9.frozen 0
            have fp1 := k9.frozen 1
            have fp2 := k9.frozen 2
            replace ri := ri.below (Nat.le_refl _) (hb.mono ril)
            replace ril := Nat.le_trans ril hb.size
            replace rb := rb.below (Nat.le_refl _) (hb.mono rbl)
            replace rbl := Nat.le_trans rbl hb.size
            replace re := re.below (Nat.le_refl _) (hb.mono rel)
            replace rel := Nat.le_trans rel hb.size
            replace rm := rm.below (Nat.le_refl _) (hb.mono rml)
            replace rml := Nat.le_trans rml hb.size
            replace hB := hB.trans (hb.mono hB.size)
            clear hb
            have hcall := Point_any pw ph rea rec (pw * ph) E hlEH ⟨gl, 100 * -(off + noi), 100, 0, 255⟩ _ (by omega) (re.mono rel)
            rw [hR3.out] at hcall
            refine hcall.mono ?_
            clear hcall
            rintro e V6 ⟨⟨v, rfl, hv⟩, hb⟩
            obtain ⟨sl, rfl, hrow⟩ := hv
            obtain ⟨rloa, rloc, rfl⟩ := row_slice hrow
            simp only at hrow ⊢
            have rlo := row_base hrow hB.size
            clear hrow
            clear m0 m1 m2 h0 h1 h2 h3 h4 x0 x1 x2 fx0 fx1 fx2 y0 y1 y2 fy0 fy1 fy2 t0 t1 t2 ft0 ft1 ft2 p0 p1 p2 fp0 fp1 fp2 o0 o1 o2 fo0 fo1 fo2
            replace k1 := k1.below hb k1.lt
            replace k2 := k2.below hb k2.lt
            replace r1 := r1.below hb r1.lt
            replace r2 := r2.below hb r2.lt
            replace k8 := k8.below hb k8.lt
            replace k9 := k9.below hb k9.lt
            replace k11 := k11.below hb k11.lt
            replace ri := ri.below (Nat.le_refl _) (hb.mono ril)
            replace ril := Nat.le_trans ril hb.size
            replace rb := rb.below (Nat.le_refl _) (hb.mono rbl)
            replace rbl := Nat.le_trans rbl hb.size
            replace re := re.below (Nat.le_refl _) (hb.mono rel)
            replace rel := Nat.le_trans rel hb.size
            replace rm := rm.below (Nat.le_refl _) (hb.mono rml)
            replace rml := Nat.le_trans rml hb.size
            replace hB := hB.trans (hb.mono hB.size)
            have m0 := k1.cell (i := 0) rfl
            have m1 := k1.cell (i := 1) rfl
            have m2 := k1.cell (i := 2) rfl
            have h0 := k2.cell (i := 0) rfl
            have h1 := k2.cell (i := 1) rfl
            have h2 := k2.cell (i := 2) rfl
            have h3 := k2.cell (i := 3) rfl
            have h4 := k2.cell (i := 4) rfl
            have x0 := r1.cell (i := 0) rfl
            have x1 := r1.cell (i := 1) rfl
            have x2 := r1.cell (i := 2) rfl
            have fx0 := r1.frozen 0
            have fx1 := r1.frozen 1
            have fx2 := r1.frozen 2
            have y0 := r2.cell (i := 0) rfl
            have y1 := r2.cell (i := 1) rfl
            have y2 := r2.cell (i := 2) rfl
            have fy0 := r2.frozen 0
            have fy1 := r2.frozen 1
            have fy2 := r2.frozen 2
            have t0 := k8.cell (i := 0) rfl
            have t1 := k8.cell (i := 1) rfl
            have t2 := k8.cell (i := 2) rfl
            have ft0 := k8.frozen 0
            have ft1 := k8.frozen 1
            have ft2 := k8.frozen 2
            have p0 := k9.cell (i := 0) rfl
            have p1 := k9.cell (i := 1) rfl
            have p2 := k9.cell (i := 2) rfl
            have fp0 := k9.frozen 0
            have fp1 := k9.frozen 1
            have fp2 := k9.frozen 2
            have o0 := k11.cell (i := 0) rfl
            have o1 := k11.cell (i := 1) rfl
            have o2 := k11.cell (i := 2) rfl
            have fo0 := k11.frozen 0
            have fo1 := k11.frozen 1
            have fo2 := k11.frozen 2
            clear hb
            obtain ⟨V7, hW⟩ : ∃ V7, V6.alloc (.cells #[.int .i64 (pw : Int), .int .i64 (ph : Int), .slice rloa lo.length rloc] 51) = V7 := ⟨_, rfl⟩
            obtain ⟨bk14, hbx⟩ : ∃ bk14, V6.heap.size = bk14 := ⟨_, rfl⟩
            have k14 := Blk.new V6 51 #[.int .i64 (pw : Int), .int .i64 (ph : Int), .slice rloa lo.length rloc]
            rw [hW, hbx] at k14
            have hb : Below V6.heap.size V6 V7 := alloc_below hW
            have k1' := k1.below hb k1.lt
            have lk1k14 := k1.lt
            rw [hbx] at lk1k14
            have k2' := k2.below hb k2.lt
            have lk2k14 := k2.lt
            rw [hbx] at lk2k14
            have r1' := r1.below hb r1.lt
            have lr1k14 := r1.lt
            rw [hbx] at lr1k14
            have r2' := r2.below hb r2.lt
            have lr2k14 := r2.lt
            rw [hbx] at lr2k14
            have k8' := k8.below hb k8.lt
            have lk8k14 := k8.lt
            rw [hbx] at lk8k14
            have k9' := k9.below hb k9.lt
            have lk9k14 := k9.lt
            rw [hbx] at lk9k14
            have k11' := k11.below hb k11.lt
            have lk11k14 := k11.lt
            rw [hbx] at lk11k14
            have m0' := k1'.cell (i := 0) rfl
            have m1' := k1'.cell (i := 1) rfl
            have m2' := k1'.cell (i := 2) rfl
            have h0' := k2'.cell (i := 0) rfl
            have h1' := k2'.cell (i := 1) rfl
            have h2' := k2'.cell (i := 2) rfl
            have h3' := k2'.cell (i := 3) rfl
            have h4' := k2'.cell (i := 4) rfl
            have x0' := r1'.cell (i := 0) rfl
            have x1' := r1'.cell (i := 1) rfl
            have x2' := r1'.cell (i := 2) rfl
            have fx0' := r1'.frozen 0
            have fx1' := r1'.frozen 1
            have fx2' := r1'.frozen 2
            have y0' := r2'.cell (i := 0) rfl
            have y1' := r2'.cell (i := 1) rfl
            have y2' := r2'.cell (i := 2) rfl
            have fy0' := r2'.frozen 0
            have fy1' := r2'.frozen 1
            have fy2' := r2'.frozen 2
            have t0' := k8'.cell (i := 0) rfl
            have t1' := k8'.cell (i := 1) rfl
            have t2' := k8'.cell (i := 2) rfl
            have ft0' := k8'.frozen 0
            have ft1' := k8'.frozen 1
            have ft2' := k8'.frozen 2
            have p0' := k9'.cell (i := 0) rfl
            have p1' := k9'.cell (i := 1) rfl
            have p2' := k9'.cell (i := 2) rfl
            have fp0' := k9'.frozen 0
            have fp1' := k9'.frozen 1
            have fp2' := k9'.frozen 2
            have o0' := k11'.cell (i := 0) rfl
            have o1' := k11'.cell (i := 1) rfl
            have o2' := k11'.cell (i := 2) rfl
            have fo0' := k11'.frozen 0
            have fo1' := k11'.frozen 1
            have fo2' := k11'.frozen 2
            have u0 := k14.cell (i := 0) rfl
            have u1 := k14.cell (i := 1) rfl
            have u2 := k14.cell (i := 2) rfl
            have fu0 := k14.frozen 0
            have fu1 := k14.frozen 1
            have fu2 := k14.frozen 2
            go_wp2_with fail
            clear hW
            have lrik14 := ril
            rw [hbx] at lrik14
            have lrbk14 := rbl
            rw [hbx] at lrbk14
            have lrek14 := rel
            rw [hbx] at lrek14
            have lrmk14 := rml
            rw [hbx] at lrmk14
            clear hbx
            clear m0 m1 m2 h0 h1 h2 h3 h4 x0 x1 x2 fx0 fx1 fx2 y0 y1 y2 fy0 fy1 fy2 t0 t1 t2 ft0 ft1 ft2 p0 p1 p2 fp0 fp1 fp2 o0 o1 o2 fo0 fo1 fo2
            clear m0' m1' m2' h0' h1' h2' h3' h4' x0' x1' x2' fx0' fx1' fx2' y0' y1' y2' fy0' fy1' fy2' t0' t1' t2' ft0' ft1' ft2' p0' p1' p2' fp0' fp1' fp2' o0' o1' o2' fo0' fo1' fo2'
            replace k1 := k1'
            clear k1'
            replace k2 := k2'
            clear k2'
            replace r1 := r1'
            clear r1'
            replace r2 := r2'
            clear r2'
            replace k8 := k8'
            clear k8'
            replace k9 := k9'
            clear k9'
            replace k11 := k11'
            clear k11'
            have m0 := k1.cell (i := 0) rfl
            have m1 := k1.cell (i := 1) rfl
            have m2 := k1.cell (i := 2) rfl
            have h0 := k2.cell (i := 0) rfl
            have h1 := k2.cell (i := 1) rfl
            have h2 := k2.cell (i := 2) rfl
            have h3 := k2.cell (i := 3) rfl
            have h4 := k2.cell (i := 4) rfl
            have x0 := r1.cell (i := 0) rfl
            have x1 := r1.cell (i := 1) rfl
            have x2 := r1.cell (i := 2) rfl
            have fx0 := r1.frozen 0
            have fx1 := r1.frozen 1
            have fx2 := r1.frozen 2
            have y0 := r2.cell (i := 0) rfl
            have y1 := r2.cell (i := 1) rfl
            have y2 := r2.cell (i := 2) rfl
            have fy0 := r2.frozen 0
            have fy1 := r2.frozen 1
            have fy2 := r2.frozen 2
            have t0 := k8.cell (i := 0) rfl
            have t1 := k8.cell (i := 1) rfl
            have t2 := k8.cell (i := 2) rfl
            have ft0 := k8.frozen 0
            have ft1 := k8.frozen 1
            have ft2 := k8.frozen 2
            have p0 := k9.cell (i := 0) rfl
            have p1 := k9.cell (i := 1) rfl
            have p2 := k9.cell (i := 2) rfl
            have fp0 := k9.frozen 0
            have fp1 := k9.frozen 1
            have fp2 := k9.frozen 2
            have o0 := k11.cell (i := 0) rfl
            have o1 := k11.cell (i := 1) rfl
            have o2 := k11.cell (i := 2) rfl
            have fo0 := k11.frozen 0
            have fo1 := k11.frozen 1
            have fo2 := k11.frozen 2
            replace ri := ri.below (Nat.le_refl _) (hb.mono ril)
            replace ril := Nat.le_trans ril hb.size
            replace rb := rb.below (Nat.le_refl _) (hb.mono rbl)
            replace rbl := Nat.le_trans rbl hb.size
            replace re := re.below (Nat.le_refl _) (hb.mono rel)
            replace rel := Nat.le_trans rel hb.size
            replace rm := rm.below (Nat.le_refl _) (hb.mono rml)
            replace rml := Nat.le_trans rml hb.size
            replace rlo := row_below rlo hb
            replace hB := hB.trans (hb.mono hB.size)
            clear hb
            have hcall := Point_any pw ph rma rmc (pw * ph) M hlMH ⟨gh, 100 * (off + noi), 100, 0, 255⟩ _ (by omega) (rm.mono rml)
            rw [hR4.out] at hcall
            refine hcall.mono ?_
            clear hcall
            rintro e V8 ⟨⟨v, rfl, hv⟩, hb⟩
            obtain ⟨sl, rfl, hrow⟩ := hv
            obtain ⟨rhia, rhic, rfl⟩ := row_slice hrow
            simp only at hrow ⊢
            have rhi := row_base hrow hB.size
            clear hrow
            clear m0 m1 m2 h0 h1 h2 h3 h4 x0 x1 x2 fx0 fx1 fx2 y0 y1 y2 fy0 fy1 fy2 t0 t1 t2 ft0 ft1 ft2 p0 p1 p2 fp0 fp1 fp2 o0 o1 o2 fo0 fo1 fo2 u0 u1 u2 fu0 fu1 fu2
            replace k1 := k1.below hb k1.lt
            replace k2 := k2.below hb k2.lt
            replace r1 := r1.below hb r1.lt
            replace r2 := r2.below hb r2.lt
            replace k8 := k8.below hb k8.lt
            replace k9 := k9.below hb k9.lt
            replace k11 := k11.below hb k11.lt
            replace k14 := k14.below hb k14.lt
            replace ri := ri.below (Nat.le_refl _) (hb.mono ril)
            replace ril := Nat.le_trans ril hb.size
            replace rb := rb.below (Nat.le_refl _) (hb.mono rbl)
            replace rbl := Nat.le_trans rbl hb.size
            replace re := re.below (Nat.le_refl _) (hb.mono rel)
            replace rel := Nat.le_trans rel hb.size
            replace rm := rm.below (Nat.le_refl _) (hb.mono rml)
            replace rml := Nat.le_trans rml hb.size
            replace rlo := row_below rlo hb
            replace hB := hB.trans (hb.mono hB.size)
            have m0 := k1.cell (i := 0) rfl
            have m1 := k1.cell (i := 1) rfl
            have m2 := k1.cell (i := 2) rfl
            have h0 := k2.cell (i := 0) rfl
            have h1 := k2.cell (i := 1) rfl
            have h2 := k2.cell (i := 2) rfl
            have h3 := k2.cell (i := 3) rfl
            have h4 := k2.cell (i := 4) rfl
            have x0 := r1.cell (i := 0) rfl
            have x1 := r1.cell (i := 1) rfl
            have x2 := r1.cell (i := 2) rfl
            have fx0 := r1.frozen 0
            have fx1 := r1.frozen 1
            have fx2 := r1.frozen 2
            have y0 := r2.cell (i := 0) rfl
            have y1 := r2.cell (i := 1) rfl
            have y2 := r2.cell (i := 2) rfl
            have fy0 := r2.frozen 0
            have fy1 := r2.frozen 1
            have fy2 := r2.frozen 2
            have t0 := k8.cell (i := 0) rfl
            have t1 := k8.cell (i := 1) rfl
            have t2 := k8.cell (i := 2) rfl
            have ft0 := k8.frozen 0
            have ft1 := k8.frozen 1
            have ft2 := k8.frozen 2
            have p0 := k9.cell (i := 0) rfl
            have p1 := k9.cell (i := 1) rfl
            have p2 := k9.cell (i := 2) rfl
            have fp0 := k9.frozen 0
            have fp1 := k9.frozen 1
            have fp2 := k9.frozen 2
            have o0 := k11.cell (i := 0) rfl
            have o1 := k11.cell (i := 1) rfl
            have o2 := k11.cell (i := 2) rfl
            have fo0 := k11.frozen 0
            have fo1 := k11.frozen 1
            have fo2 := k11.frozen 2
            have u0 := k14.cell (i := 0) rfl
            have u1 := k14.cell (i := 1) rfl
            have u2 := k14.cell (i := 2) rfl
            have fu0 := k14.frozen 0
            have fu1 := k14.frozen 1
            have fu2 := k14.frozen 2
            clear hb
            obtain ⟨V9, hW⟩ : ∃ V9, V8.alloc (.cells #[.int .i64 (pw : Int), .int .i64 (ph : Int), .slice rhia hi.length rhic] 51) = V9 := ⟨_, rfl⟩
            obtain ⟨bk16, hbx⟩ : ∃ bk16, V8.heap.size = bk16 := ⟨_, rfl⟩
            have k16 := Blk.new V8 51 #[.int .i64 (pw : Int), .int .i64 (ph : Int), .slice rhia hi.length rhic]
            rw [hW, hbx] at k16
            have hb : Below V8.heap.size V8 V9 := alloc_below hW
            have k1' := k1.below hb k1.lt
            have lk1k16 := k1.lt
            rw [hbx] at lk1k16
            have k2' := k2.below hb k2.lt
            have lk2k16 := k2.lt
            rw [hbx] at lk2k16
            have r1' := r1.below hb r1.lt
            have lr1k16 := r1.lt
            rw [hbx] at lr1k16
            have r2' := r2.below hb r2.lt
            have lr2k16 := r2.lt
            rw [hbx] at lr2k16
            have k8' := k8.below hb k8.lt
            have lk8k16 := k8.lt
            rw [hbx] at lk8k16
            have k9' := k9.below hb k9.lt
            have lk9k16 := k9.lt
            rw [hbx] at lk9k16
            have k11' := k11.below hb k11.lt
            have lk11k16 := k11.lt
            rw [hbx] at lk11k16
            have k14' := k14.below hb k14.lt
            have lk14k16 := k14.lt
            rw [hbx] at lk14k16
            have m0' := k1'.cell (i := 0) rfl
            have m1' := k1'.cell (i := 1) rfl
            have m2' := k1'.cell (i := 2) rfl
            have h0' := k2'.cell (i := 0) rfl
            have h1' := k2'.cell (i := 1) rfl
            have h2' := k2'.cell (i := 2) rfl
            have h3' := k2'.cell (i := 3) rfl
            have h4' := k2'.cell (i := 4) rfl
            have x0' := r1'.cell (i := 0) rfl
            have x1' := r1'.cell (i := 1) rfl
            have x2' := r1'.cell (i := 2) rfl
            have fx0' := r1'.frozen 0
            have fx1' := r1'.frozen 1
            have fx2' := r1'.frozen 2
            have y0' := r2'.cell (i := 0) rfl
            have y1' := r2'.cell (i := 1) rfl
            have y2' := r2'.cell (i := 2) rfl
            have fy0' := r2'.frozen 0
            have fy1' := r2'.frozen 1
            have fy2' := r2'.frozen 2
            have t0' := k8'.cell (i := 0) rfl
            have t1' := k8'.cell (i := 1) rfl
            have t2' := k8'.cell (i := 2) rfl
            have ft0' := k8'.frozen 0
            have ft1' := k8'.frozen 1
            have ft2' := k8'.frozen 2
            have p0' := k9'.cell (i := 0) rfl
            have p1' := k9'.cell (i := 1) rfl
            have p2' := k9'.cell (i := 2) rfl
            have fp0' := k9'.frozen 0
            have fp1' := k9'.frozen 1
            have fp2' := k9'.frozen 2
            have o0' := k11'.cell (i := 0) rfl
            have o1' := k11'.cell (i := 1) rfl
            have o2' := k11'.cell (i := 2) rfl
            have fo0' := k11'.frozen 0
            have fo1' := k11'.frozen 1
            have fo2' := k11'.frozen 2
            have u0' := k14'.cell (i := 0) rfl
            have u1' := k14'.cell (i := 1) rfl
            have u2' := k14'.cell (i := 2) rfl
            have fu0' := k14'.frozen 0
            have fu1' := k14'.frozen 1
            have fu2' := k14'.frozen 2
            have z0 := k16.cell (i := 0) rfl
            have z1 := k16.cell (i := 1) rfl
            have z2 := k16.cell (i := 2) rfl
            have fz0 := k16.frozen 0
            have fz1 := k16.frozen 1
            have fz2 := k16.frozen 2
            go_wp2_with fail
            clear hW
            have lrik16 := ril
            rw [hbx] at lrik16
            have lrbk16 := rbl
            rw [hbx] at lrbk16
            have lrek16 := rel
            rw [hbx] at lrek16
            have lrmk16 := rml
            rw [hbx] at lrmk16
            clear hbx
            clear m0 m1 m2 h0 h1 h2 h3 h4 x0 x1 x2 fx0 fx1 fx2 y0 y1 y2 fy0 fy1 fy2 t0 t1 t2 ft0 ft1 ft2 p0 p1 p2 fp0 fp1 fp2 o0 o1 o2 fo0 fo1 fo2 u0 u1 u2 fu0 fu1 fu2
            clear m0' m1' m2' h0' h1' h2' h3' h4' x0' x1' x2' fx0' fx1' fx2' y0' y1' y2' fy0' fy1' fy2' t0' t1' t2' ft0' ft1' ft2' p0' p1' p2' fp0' fp1' fp2' o0' o1' o2' fo0' fo1' fo2' u0' u1' u2' fu0' fu1' fu2'
            replace k1 := k1'
            clear k1'
            replace k2 := k2'
            clear k2'
            replace r1 := r1'
            clear r1'
            replace r2 := r2'
            clear r2'
            replace k8 := k8'
            clear k8'
            replace k9 := k9'
            clear k9'
            replace k11 := k11'
            clear k11'
            replace k14 := k14'
            clear k14'
            have m0 := k1.cell (i := 0) rfl
            have m1 := k1.cell (i := 1) rfl
            have m2 := k1.cell (i := 2) rfl
            have h0 := k2.cell (i := 0) rfl
            have h1 := k2.cell (i := 1) rfl
            have h2 := k2.cell (i := 2) rfl
            have h3 := k2.cell (i := 3) rfl
            have h4 := k2.cell (i := 4) rfl
            have x0 := r1.cell (i := 0) rfl
            have x1 := r1.cell (i := 1) rfl
            have x2 := r1.cell (i := 2) rfl
            have fx0 := r1.frozen 0
            have fx1 := r1.frozen 1
            have fx2 := r1.frozen 2
            have y0 := r2.cell (i := 0) rfl
            have y1 := r2.cell (i := 1) rfl
            have y2 := r2.cell (i := 2) rfl
            have fy0 := r2.frozen 0
            have fy1 := r2.frozen 1
            have fy2 := r2.frozen 2
            have t0 := k8.cell (i := 0) rfl
            have t1 := k8.cell (i := 1) rfl
            have t2 := k8.cell (i := 2) rfl
            have ft0 := k8.frozen 0
            have ft1 := k8.frozen 1
            have ft2 := k8.frozen 2
            have p0 := k9.cell (i := 0) rfl
            have p1 := k9.cell (i := 1) rfl
            have p2 := k9.cell (i := 2) rfl
            have fp0 := k9.frozen 0
            have fp1 := k9.frozen 1
            have fp2 := k9.frozen 2
            have o0 := k11.cell (i := 0) rfl
            have o1 := k11.cell (i := 1) rfl
            have o2 := k11.cell (i := 2) rfl
            have fo0 := k11.frozen 0
            have fo1 := k11.frozen 1
            have fo2 := k11.frozen 2
            have u0 := k14.cell (i := 0) rfl
            have u1 := k14.cell (i := 1) rfl
            have u2 := k14.cell (i := 2) rfl
            have fu0 := k14.frozen 0
            have fu1 := k14.frozen 1
            have fu2 := k14.frozen 2
            replace ri := ri.below (Nat.le_refl _) (hb.mono ril)
            replace ril := Nat.le_trans ril hb.size
            replace rb := rb.below (Nat.le_refl _) (hb.mono rbl)
            replace rbl := Nat.le_trans rbl hb.size
            replace re := re.below (Nat.le_refl _) (hb.mono rel)
            replace rel := Nat.le_trans rel hb.size
            replace rm := rm.below (Nat.le_refl _) (hb.mono rml)
            replace rml := Nat.le_trans rml hb.size
            replace rlo := row_below rlo hb
            replace rhi := row_below rhi hb
            replace hB := hB.trans (hb.mono hB.size)
            clear hb
            clear m0 m1 m2 h0 h1 h2 h3 h4 x0 x1 x2 fx0 fx1 fx2 y0 y1 y2 fy0 fy1 fy2 t0 t1 t2 ft0 ft1 ft2 p0 p1 p2 fp0 fp1 fp2 o0 o1 o2 fo0 fo1 fo2 u0 u1 u2 fu0 fu1 fu2 z0 z1 z2 fz0 fz1 fz2
            have hS0 : (fun X => Blk X bk14 51 #[.int .i64 (pw : Int), .int .i64 (ph : Int), .slice rloa lo.length rloc] ∧ Blk X bk16 51 #[.int .i64 (pw : Int), .int .i64 (ph : Int), .slice rhia hi.length rhic]) V9.drew := ⟨k14, k16⟩
            obtain ⟨D0, hD0⟩ : ∃ D, V9.drew = D := ⟨_, rfl⟩
            have hBd : Below w.heap.size w D0 := hD0 ▸ hB.drew
            have r1d : Blk D0 A2.heap.size 51 #[.int .i64 0, .int .i64 0, .slice none 0 0] := hD0 ▸ r1
            have r2d : Blk D0 A3.heap.size 51 #[.int .i64 0, .int .i64 0, .slice none 0 0] := hD0 ▸ r2
            have k14d : Blk D0 bk14 51 #[.int .i64 (pw : Int), .int .i64 (ph : Int), .slice rloa lo.length rloc] := hD0 ▸ k14
            have k16d : Blk D0 bk16 51 #[.int .i64 (pw : Int), .int .i64 (ph : Int), .slice rhia hi.length rhic] := hD0 ▸ k16
            have rlod : D0.ownsRow w.heap.size 3 1 (.slice rloa lo.length rloc) lo.length (lo.map (Value.int .i64)) := hD0 ▸ rlo
            have rhid : D0.ownsRow w.heap.size 3 1 (.slice rhia hi.length rhic) hi.length (hi.map (Value.int .i64)) := hD0 ▸ rhi
            rw [hD0] at hS0
            clear hB r1 r2 k14 k16 rlo rhi
            have hB := hBd
            have r1 := r1d
            have r2 := r2d
            have k14 := k14d
            have k16 := k16d
            have rlo := rlod
            have rhi := rhid
            clear hBd r1d r2d k14d k16d rlod rhid ri ril rb rbl re rel rm rml hR1 hR2 hR3 hR4
            refine plain_region (fun X => Blk X bk14 51 #[.int .i64 (pw : Int), .int .i64 (ph : Int), .slice rloa lo.length rloc] ∧ Blk X bk16 51 #[.int .i64 (pw : Int), .int .i64 (ph : Int), .slice rhia hi.length rhic]) 5 5 (by kernel_rfl) rfl ?_
            simp only [Array.replicate_succ, Array.replicate_zero, List.push_toArray, List.nil_append, List.cons_append]
            rw [hD0]
            clear hD0
            refine take_op 0 (v := ?dv0) rfl (by kernel_rfl) (fun _ _ _ h => h) (by rfl) hS0 (fun w' hS' => ?dy0) ?dz0
            case dy0 =>
              have e0 := hS'.1.cell (i := 0) rfl
              have f0 := hS'.2.cell (i := 0) rfl
              have e1 := hS'.1.cell (i := 1) rfl
              have f1 := hS'.2.cell (i := 1) rfl
              have e2 := hS'.1.cell (i := 2) rfl
              have f2 := hS'.2.cell (i := 2) rfl
              clear hS'
              go_simp
              rfl
            simp only [List.setIfInBounds_toArray, List.set_cons_zero, List.set_cons_succ]
            refine take_op 1 (v := ?dv1) rfl (by kernel_rfl) (fun _ _ _ h => h) (by rfl) hS0 (fun w' hS' => ?dy1) ?dz1
            case dy1 =>
              have e0 := hS'.1.cell (i := 0) rfl
              have f0 := hS'.2.cell (i := 0) rfl
              have e1 := hS'.1.cell (i := 1) rfl
              have f1 := hS'.2.cell (i := 1) rfl
              have e2 := hS'.1.cell (i := 2) rfl
              have f2 := hS'.2.cell (i := 2) rfl
              clear hS'
              go_simp
              rfl
            simp only [List.setIfInBounds_toArray, List.set_cons_zero, List.set_cons_succ]
            refine step_op 2 (by kernel_rfl) rfl (fun K hK => ?_)
            rw [if_pos (by rfl)]
            have c0 := r1.cell (i := 0) rfl
            have fc0 := r1.frozen 0
            have c1 := r1.cell (i := 1) rfl
            have fc1 := r1.frozen 1
            have c2 := r1.cell (i := 2) rfl
            have fc2 := r1.frozen 2
            go_simp
            clear c0 c1 c2 fc0 fc1 fc2
            have hg := put3_grow2 D0 A2.heap.size (.int .i64 (pw : Int)) (.int .i64 (ph : Int)) (.slice rloa lo.length rloc)
            have r1n := put3_blk r1 (.int .i64 (pw : Int)) (.int .i64 (ph : Int)) (.slice rloa lo.length rloc)
            have rlon := put3_row rlo (r1.not_row (by decide) rlo) (.int .i64 (pw : Int)) (.int .i64 (ph : Int)) (.slice rloa lo.length rloc)
            have rhin := put3_row rhi (r1.not_row (by decide) rhi) (.int .i64 (pw : Int)) (.int .i64 (ph : Int)) (.slice rloa lo.length rloc)
            obtain ⟨D1, hW⟩ : ∃ W2, put3 D0 A2.heap.size (.int .i64 (pw : Int)) (.int .i64 (ph : Int)) (.slice rloa lo.length rloc) = W2 := ⟨_, rfl⟩
            have hW' : ((D0.setCell ⟨A2.heap.size, 0, none⟩ (.int .i64 (pw : Int))).setCell ⟨A2.heap.size, 1, none⟩ (.int .i64 (ph : Int))).setCell ⟨A2.heap.size, 2, none⟩ (.slice rloa lo.length rloc) = D1 := hW
            rw [hW] at hg r1n rlon rhin
            rw [hW']
            clear hW hW' rlo rhi
            have rlo := rlon
            have rhi := rhin
            clear rlon rhin
            have hB1 : Below w.heap.size w D1 := hB.trans (grown_below2 hg hB.size (by intro k e; cases e; omega))
            clear hB
            have hB := hB1
            clear hB1
            replace k14 := k14.kept hg (by simp <;> omega)
            replace k16 := k16.kept hg (by simp <;> omega)
            replace r2 := r2.kept hg (by simp <;> omega)
            replace r1 := r1n
            clear r1n hg
            have hS1 := And.intro k14 k16
            refine hK.out _ _ (fun h => hS1) ?_
            clear hK K
            try simp only [Act.put, List.setIfInBounds_toArray, List.set_cons_zero, List.set_cons_succ]
            refine step_op 3 (by kernel_rfl) rfl (fun K hK => ?_)
            rw [if_pos (by rfl)]
            have c0 := r2.cell (i := 0) rfl
            have fc0 := r2.frozen 0
            have c1 := r2.cell (i := 1) rfl
            have fc1 := r2.frozen 1
            have c2 := r2.cell (i := 2) rfl
            have fc2 := r2.frozen 2
            go_simp
            clear c0 c1 c2 fc0 fc1 fc2
            have hg := put3_grow2 D1 A3.heap.size (.int .i64 (pw : Int)) (.int .i64 (ph : Int)) (.slice rhia hi.length rhic)
            have r2n := put3_blk r2 (.int .i64 (pw : Int)) (.int .i64 (ph : Int)) (.slice rhia hi.length rhic)
            have rlon := put3_row rlo (r2.not_row (by decide) rlo) (.int .i64 (pw : Int)) (.int .i64 (ph : Int)) (.slice rhia hi.length rhic)
            have rhin := put3_row rhi (r2.not_row (by decide) rhi) (.int .i64 (pw : Int)) (.int .i64 (ph : Int)) (.slice rhia hi.length rhic)
            obtain ⟨D2, hW⟩ : ∃ W2, put3 D1 A3.heap.size (.int .i64 (pw : Int)) (.int .i64 (ph : Int)) (.slice rhia hi.length rhic) = W2 := ⟨_, rfl⟩
            have hW' : ((D1.setCell ⟨A3.heap.size, 0, none⟩ (.int .i64 (pw : Int))).setCell ⟨A3.heap.size, 1, none⟩ (.int .i64 (ph : Int))).setCell ⟨A3.heap.size, 2, none⟩ (.slice rhia hi.length rhic) = D2 := hW
            rw [hW] at hg r2n rlon rhin
            rw [hW']
            clear hW hW' rlo rhi
            have rlo := rlon
            have rhi := rhin
            clear rlon rhin
            have hB2 : Below w.heap.size w D2 := hB.trans (grown_below2 hg hB.size (by intro k e; cases e; omega))
            clear hB
            have hB := hB2
            clear hB2
            replace k14 := k14.kept hg (by simp <;> omega)
            replace k16 := k16.kept hg (by simp <;> omega)
            replace r1 := r1.kept hg (by simp <;> omega)
            replace r2 := r2n
            clear r2n hg
            have hS2 := And.intro k14 k16
            refine hK.out _ _ (fun h => hS2) ?_
            clear hK K
            try simp only [Act.put, List.setIfInBounds_toArray, List.set_cons_zero, List.set_cons_succ]
            refine take_op 4 (v := ?dv4) rfl (by kernel_rfl) (fun _ _ _ h => h) (by rfl) hS2 (fun w' hS' => ?dy4) ?dz4
            case dy4 =>
              go_simp
              rfl
            simp only [List.setIfInBounds_toArray, List.set_cons_zero, List.set_cons_succ]
            refine done_ops (by kernel_rfl) ?_
            have g0 := r1.cell (i := 0) rfl
            have g1 := r1.cell (i := 1) rfl
            have g2 := r1.cell (i := 2) rfl
            have g3 := r2.cell (i := 0) rfl
            have g4 := r2.cell (i := 1) rfl
            have g5 := r2.cell (i := 2) rfl
            go_wp2_with fail
            exact bodyPost_ret (v := .tuple #[.agg #[.int .i64 (pw : Int), .int .i64 (ph : Int), .slice rloa lo.length rloc], .agg #[.int .i64 (pw : Int), .int .i64 (ph : Int), .slice rhia hi.length rhic], .int .i64 0]) (by simp [results, Tryz.results15, go_sem, g0, g1, g2, g3, g4, g5]) rfl ⟨⟨_, _, by rw [hfinH.out], by rw [hfinH.out]; exact ⟨_, rfl, rlo⟩, by rw [hfinH.out]; exact ⟨_, rfl, rhi⟩⟩, hB⟩

end Go.Proofs.YtbdnjhnlfpfhcaaGreat

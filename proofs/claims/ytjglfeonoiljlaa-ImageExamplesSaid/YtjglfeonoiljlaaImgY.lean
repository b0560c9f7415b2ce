/- The contract of Compose of the program. -/
import Derived.Test.YtjglfeonoiljlaaImgX
import Derived.Test.YtjglfeonoiljlaaNest
namespace Go.Proofs.Ytjglfeonoiljlaa
open Go Go.RowKit Go.Shelf
set_option linter.unusedVariables false
set_option linter.unusedSimpArgs false

attribute [local go_sem] Oper.semAt_some

/-- Factor p of a composition. -/
def compT (aw ah bw bh : Nat) (A B : List Int) (p : Nat) : Int := clamp (conF aw ah bw bh (fun t => px A t) (fun t => px B t) p) (-65536) 65536
def compL (aw ah bw bh : Nat) (A B : List Int) : List Int := (List.range ((aw + bw - 1) * (ah + bh - 1))).map (compT aw ah bw bh A B)
/-- What Compose returns. -/
def compS (aw ah : Int) (A : List Int) (bw bh : Int) (B : List Int) : ImR :=
  if (kernOk aw ah A && kernOk bw bh B) = true then (if decide (aw + bw - 1 ≤ 5 ∧ ah + bh - 1 ≤ 5) = true then { w := aw + bw - 1, h := ah + bh - 1, px := compL aw.toNat ah.toNat bw.toNat bh.toNat A B, err := 0 } else noIm 21) else noIm 22

theorem conTerm_bd {A B : List Int} (hA : allIn (-65536) 65536 A = true) (hB : allIn (-65536) 65536 B = true) (aw bw bh p s : Nat) : -4294967296 ≤ conTerm aw bw bh (fun t => px A t) (fun t => px B t) p s ∧ conTerm aw bw bh (fun t => px A t) (fun t => px B t) p s ≤ 4294967296 := by
  unfold conTerm
  split
  · have h1 := px_bdB (B := 65536) (by decide) hA (s : Int)
    have h2 := px_bdB (B := 65536) (by decide) hB (((p / (aw + bw - 1) - s / aw) * bw + (p % (aw + bw - 1) - s % aw) : Nat) : Int)
    have h3 := mul_bd h1.1 h1.2 h2.1 h2.2 (by decide) (by decide)
    exact ⟨by have := h3.1; simpa using this, by have := h3.2; simpa using this⟩
  · omega

theorem prod_int (k m l : Nat) (h : k = m * l) : (k : Int) = (m : Int) * (l : Int) := by rw [h]; simp

set_option maxRecDepth 100000 in
set_option maxHeartbeats 16000000 in
theorem Compose_ok (aw ah : Nat) (ax : Option Addr) (ca na : Nat) (A : List Int) (hna : Hid (A.length = na)) (bw bh : Nat) (bx : Option Addr) (cb nb : Nat) (B : List Int) (hnb : Hid (B.length = nb)) (w : World) (hma : na ≤ 9223372036854775807) (hra : Rd w.heap.size w ax A) (hmb : nb ≤ 9223372036854775807) (hrb : Rd w.heap.size w bx B) (v1H : Hid (kernOk aw ah A = true)) (v2H : Hid (kernOk bw bh B = true)) (kw kh : Nat) (hkw : aw + bw = kw + 1) (hkh : ah + bh = kh + 1) (hkw5 : kw ≤ 5) (hkh5 : kh ≤ 5) :
    Calls Try.prog 53 #[imv aw ah ax na ca, imv bw bh bx nb cb] w (RetIm w.heap.size { w := kw, h := kh, px := compL aw ah bw bh A B, err := 0 } w) := by
  obtain ⟨i0, hi, hz0, hz1, hz2⟩ := info_parts info_int
  have hB0 : Below w.heap.size w (((w.alloc (.cells #[.int .i64 aw, .int .i64 ah, .slice ax na ca] 64)).alloc (.cells #[.int .i64 bw, .int .i64 bh, .slice bx nb cb] 64)).alloc (.cells #[.int .i64 0, .int .i64 0, .slice none 0 0] 64)) := below_al (below_al (below_al (Below.refl _ _) _) _) _
  have hk1 := v1H.out
  unfold kernOk at hk1
  rw [Bool.and_eq_true, hna.out] at hk1
  obtain ⟨s1, s2, s3⟩ := sidesB_true hk1.1
  have hAH := Lib.hid hk1.2
  have hk2 := v2H.out
  unfold kernOk at hk2
  rw [Bool.and_eq_true, hnb.out] at hk2
  obtain ⟨s4, s5, s6⟩ := sidesB_true hk2.1
  have hBH := Lib.hid hk2.2
  have prodA := Lib.hid (show aw * ah = na by
    have e : ((aw * ah : Nat) : Int) = (aw : Int) * (ah : Int) := by simp
    omega)
  have prodB := Lib.hid (show bw * bh = nb by
    have e : ((bw * bh : Nat) : Int) = (bw : Int) * (bh : Int) := by simp
    omega)
  have hna25 : na ≤ 25 := by
    obtain ⟨m1, m2⟩ := mul_small (a := (aw : Int)) (b := (ah : Int)) (m := 5) (n := 5) (by omega) (by omega) (by omega) (by omega)
    omega
  clear hk1 hk2 s3 s6
  have eKW : (aw : Int) + (bw : Int) - 1 = (kw : Int) := by omega
  have eKH : (ah : Int) + (bh : Int) - 1 = (kh : Int) := by omega
  obtain ⟨M, hM⟩ : ∃ M : Int, (if (kw : Int) < (kh : Int) then (kh : Int) else (kw : Int)) = M := ⟨_, rfl⟩
  have hM5 : ¬ 5 < M := by rw [← hM]; split <;> omega
  have hM' : (if kw < kh then (kh : Int) else (kw : Int)) = M := by
    rw [← hM]
    by_cases h : kw < kh
    · rw [if_pos h, if_pos (by omega)]
    · rw [if_neg h, if_neg (by omega)]
  have b1 : 1 ≤ kw ∧ 1 ≤ kh := by omega
  refine (callsIn_wide (n := 10)).1 ?_
  refine callsIn_of_wp_marks Try.func53 rfl trivial ?_
  simp only [Try.ntmps53, List.size_toArray, List.length_cons, List.length_nil, Nat.reduceAdd, Nat.reduceSub, Array.replicate_succ, Array.replicate_zero, List.push_toArray, List.append_toArray, List.nil_append, List.cons_append]
  gi_wp2_with fail
  refine ⟨trivial, (callsIn_wide.2 (kernel_any aw ah ax ca na A hna true v1H _ hma ((hra.below (Nat.le_refl _) hB0).mono hB0.size))).mono ?_⟩
  rintro e W1 ⟨rfl, hb1⟩
  have hB1 : Below w.heap.size w W1 := hB0.trans (hb1.mono hB0.size)
  have k5 := (((Blk.new w 64 #[.int .i64 aw, .int .i64 ah, .slice ax na ca]).alloc (.cells #[.int .i64 bw, .int .i64 bh, .slice bx nb cb] 64)).alloc (.cells #[.int .i64 0, .int .i64 0, .slice none 0 0] 64)).below hb1 (by simp <;> omega)
  have k6 := ((Blk.new (w.alloc (.cells #[.int .i64 aw, .int .i64 ah, .slice ax na ca] 64)) 64 #[.int .i64 bw, .int .i64 bh, .slice bx nb cb]).alloc (.cells #[.int .i64 0, .int .i64 0, .slice none 0 0] 64)).below hb1 (by simp <;> omega)
  have k := (Blk.new ((w.alloc (.cells #[.int .i64 aw, .int .i64 ah, .slice ax na ca] 64)).alloc (.cells #[.int .i64 bw, .int .i64 bh, .slice bx nb cb] 64)) 64 #[.int .i64 0, .int .i64 0, .slice none 0 0]).below hb1 (by simp <;> omega)
  simp only [World.size_alloc] at k6 k
  clear hb1 hB0
  have m0 := k5.cell (i := 0) rfl
  have m1 := k5.cell (i := 1) rfl
  have m2 := k5.cell (i := 2) rfl
  have s0 := k6.cell (i := 0) rfl
  have s1 := k6.cell (i := 1) rfl
  have s2 := k6.cell (i := 2) rfl
  have c0 := k.cell (i := 0) rfl
  have c1 := k.cell (i := 1) rfl
  have c2 := k.cell (i := 2) rfl
  have fc0 := k.frozen 0
  have fc1 := k.frozen 1
  have fc2 := k.frozen 2
  gi_wp2_with fail
  refine ⟨trivial, (callsIn_wide.2 (kernel_any bw bh bx cb nb B hnb true v2H W1 hmb ((hrb.below (Nat.le_refl _) hB1).mono hB1.size))).mono ?_⟩
  rintro e W2 ⟨rfl, hb⟩
  have hB2 := hB1.trans (hb.mono hB1.size)
  clear m0 m1 m2
  replace k5 := k5.below hb k5.lt
  have m0 := k5.cell (i := 0) rfl
  have m1 := k5.cell (i := 1) rfl
  have m2 := k5.cell (i := 2) rfl
  clear s0 s1 s2
  replace k6 := k6.below hb k6.lt
  have s0 := k6.cell (i := 0) rfl
  have s1 := k6.cell (i := 1) rfl
  have s2 := k6.cell (i := 2) rfl
  clear c0 c1 c2 fc0 fc1 fc2
  replace k := k.below hb k.lt
  have c0 := k.cell (i := 0) rfl
  have c1 := k.cell (i := 1) rfl
  have c2 := k.cell (i := 2) rfl
  have fc0 := k.frozen 0
  have fc1 := k.frozen 1
  have fc2 := k.frozen 2
  clear hb hB1
  have kq := Blk.new W2 64 #[.int .i64 kw, .int .i64 kh, .slice none 0 0]
  obtain ⟨B6, hB6⟩ : ∃ B, W2.heap.size = B := ⟨_, rfl⟩
  have hb : Below W2.heap.size W2 (W2.alloc (.cells #[.int .i64 kw, .int .i64 kh, .slice none 0 0] 64)) := below_al (Below.refl _ _) _
  rw [hB6] at kq
  have hB3 := hB2.trans (hb.mono hB2.size)
  have hs6 := k.lt
  rw [hB6] at hs6
  have hs7 := kq.lt
  have k5' := k5.below hb k5.lt
  have k6' := k6.below hb k6.lt
  have k' := k.below hb k.lt
  have m0' := k5'.cell (i := 0) rfl
  have m1' := k5'.cell (i := 1) rfl
  have m2' := k5'.cell (i := 2) rfl
  have s0' := k6'.cell (i := 0) rfl
  have s1' := k6'.cell (i := 1) rfl
  have s2' := k6'.cell (i := 2) rfl
  have c0' := k'.cell (i := 0) rfl
  have c1' := k'.cell (i := 1) rfl
  have c2' := k'.cell (i := 2) rfl
  have fc0' := k'.frozen 0
  have fc1' := k'.frozen 1
  have fc2' := k'.frozen 2
  have q0 := kq.cell (i := 0) rfl
  have q1 := kq.cell (i := 1) rfl
  have q2 := kq.cell (i := 2) rfl
  clear hb
  gi_wp2_with fail
  refine ⟨trivial, (callsIn_wide.2 (places_any _ _ _)).mono ?_⟩
  rintro e w' ⟨rfl, rfl⟩
  gi_wp2_with fail
  clear m0' m1' m2' s0' s1' s2' c0' c1' c2' fc0' fc1' fc2' q0 q1 q2 m0 m1 m2 s0 s1 s2 c0 c1 c2 fc0 fc1 fc2
  have x5 := (k5'.alloc (.cells #[.int .i64 kw] 3)).alloc (.cells #[.int .i64 kh] 3)
  have x6 := (k6'.alloc (.cells #[.int .i64 kw] 3)).alloc (.cells #[.int .i64 kh] 3)
  have xk := (k'.alloc (.cells #[.int .i64 kw] 3)).alloc (.cells #[.int .i64 kh] 3)
  have xq := (kq.alloc (.cells #[.int .i64 kw] 3)).alloc (.cells #[.int .i64 kh] 3)
  have xw := (Blk.new (W2.alloc (.cells #[.int .i64 kw, .int .i64 kh, .slice none 0 0] 64)) 3 #[.int .i64 kw]).alloc (.cells #[.int .i64 kh] 3)
  have xh := Blk.new ((W2.alloc (.cells #[.int .i64 kw, .int .i64 kh, .slice none 0 0] 64)).alloc (.cells #[.int .i64 kw] 3)) 3 #[.int .i64 kh]
  have hBV := below_al (below_al hB3 (.cells #[.int .i64 kw] 3)) (.cells #[.int .i64 kh] 3)
  have hsV : (((W2.alloc (.cells #[.int .i64 kw, .int .i64 kh, .slice none 0 0] 64)).alloc (.cells #[.int .i64 kw] 3)).alloc (.cells #[.int .i64 kh] 3)).heap.size = B6 + 3 := by simp [hB6]
  simp only [World.size_alloc, hB6] at xw xh
  have l5 := k5.lt
  have l6 := k6.lt
  have lk := k.lt
  rw [hB6] at l5 l6 lk
  clear k5' k6' k' kq hB3 k5 k6 k hs7
  obtain ⟨V0, hV0⟩ : ∃ V, ((W2.alloc (.cells #[.int .i64 kw, .int .i64 kh, .slice none 0 0] 64)).alloc (.cells #[.int .i64 kw] 3)).alloc (.cells #[.int .i64 kh] 3) = V := ⟨_, rfl⟩
  rw [hV0] at x5 x6 xk xq xw xh hBV hsV ⊢
  clear hV0 hB6 hB2
  clear W2
  have hs6' : w.heap.size + 1 + 1 < B6 := hs6
  refine rangeFunc_outer (n := 10) rfl (by omega) (gf := 131) (lb := #[.pointer (some ⟨B6 + 1 + 1, 0, none⟩), .pointer (some ⟨B6 + 1, 0, none⟩)]) rfl trivial (enters_of Try.func131 (by kernel_rfl) rfl)
    (Kp := fun A B => B.heap[B6 + 1]? = A.heap[B6 + 1]?)
    (places_stopsK Fence.wide 9 trivial rfl (by omega) (B6 + 1 + 1) (B6 + 1) kw kh (by omega) (by omega) V0 (by omega) (by omega) (xh.cell rfl) (xw.cell rfl)) (fun h k => k.trans h) (fun W l o o' hl _ _ _ => World.putObj_heap_other (by omega)) (Below.refl _ _) (fun _ => rfl)
    (fun pre W => ((Blk W w.heap.size 64 #[.int .i64 aw, .int .i64 ah, .slice ax na ca] ∧ Blk W (w.heap.size + 1) 64 #[.int .i64 bw, .int .i64 bh, .slice bx nb cb]) ∧ (Blk W (w.heap.size + 1 + 1) 64 #[.int .i64 0, .int .i64 0, .slice none 0 0] ∧ B6 + 3 ≤ W.heap.size) ∧ ∃ v, Blk W B6 64 #[.int .i64 kw, .int .i64 kh, v] ∧ W.ownsRow (B6 + 3) 3 1 v pre.length ((pre.map (fun i => compT aw ah bw bh A B i.val)).map (Value.int .i64))) ∧ Below w.heap.size w W)
    (fun _ _ _ => False)
    (OwnFrom.and (fun s A B row hs hg hr => ⟨⟨blk_keeps hs.1.1 hg (fun r e => (hr r e).2), blk_keeps hs.1.2 hg (fun r e => (hr r e).2)⟩, ⟨blk_keeps hs.2.1.1 hg (fun r e => (hr r e).2), Nat.le_trans hs.2.1.2 hg.size⟩, by obtain ⟨v, g1, g2⟩ := hs.2.2; exact ⟨v, blk_keeps g1 hg (fun r e => (hr r e).2), row_keeps g2 hg (fun r e => (hr r e).2)⟩⟩) (ownFrom_below (Nat.le_refl _) (by omega)))
    (fun _ _ _ _ _ hs _ _ => hs)
    ⟨⟨⟨x5, x6⟩, ⟨xk, by omega⟩, _, xq, World.ownsRow_nil _ _ _ _⟩, hBV⟩
    (fun x Bx W => B6 + 3 ≤ Bx ∧ (Blk W Bx 3 #[.int .i64 (cX kw x.val)] ∧ Blk W (Bx + 1) 3 #[.int .i64 (cY kw x.val)]))
    (fun x b _ X Y row hs hg hr => by obtain ⟨h1, h2⟩ := hs; exact ⟨h1, ⟨blk_keeps h2.1 hg (fun r e => (hr r e).2), blk_keeps h2.2 hg (fun r e => (hr r e).2)⟩⟩)
    ?act
    ?assign ?body ?done ?stop
  case assign =>
    rintro l pre x W K ⟨⟨⟨x5, x6⟩, ⟨xk, hs1⟩, v, xq, row⟩, hB⟩ hK
    obtain ⟨Bx, hBx⟩ : ∃ Bx, W.heap.size = Bx := ⟨_, rfl⟩
    have n1 := (Blk.new W 3 #[.int .i64 (cX kw x.val)]).alloc (.cells #[.int .i64 (cY kw x.val)] 3)
    have n2 := Blk.new (W.alloc (.cells #[.int .i64 (cX kw x.val)] 3)) 3 #[.int .i64 (cY kw x.val)]
    simp only [World.size_alloc, hBx] at n1 n2
    have hgg : Below W.heap.size W ((W.alloc (.cells #[.int .i64 (cX kw x.val)] 3)).alloc (.cells #[.int .i64 (cY kw x.val)] 3)) := below_al (below_al (Below.refl _ _) _) _
    have x5' := x5.below hgg x5.lt
    have x6' := x6.below hgg x6.lt
    have xk' := xk.below hgg xk.lt
    have xq' := xq.below hgg xq.lt
    have row' := row_below row hgg
    have hB' := hB.trans (hgg.mono hB.size)
    have hs1' := Nat.le_trans hs1 hgg.size
    simp only [enc2]
    gi_wp2
    exact hK Bx _ ((others_of_below hgg).from _) (hgg.block _ (by omega)) ⟨⟨⟨x5', x6'⟩, ⟨xk', hs1'⟩, v, xq', row'⟩, hB'⟩ ⟨by omega, ⟨n1, n2⟩⟩
  case body =>
    rintro l pre ⟨p, hp⟩ Bx W hl ⟨r, hrl⟩ ⟨⟨⟨x5, x6⟩, ⟨xk, hs1⟩, v, xq, row⟩, hB⟩ ⟨hBx, ⟨nX, nY⟩⟩ hlt
    dsimp only
    have hPX : p % kw < kw := Nat.mod_lt _ (by omega)
    have hPY : p / kw < kh := Nat.div_lt_of_lt_mul hp
    have ekw : aw + bw - 1 = kw := by omega
    obtain ⟨PX, ePX⟩ : ∃ x, p % kw = x := ⟨_, rfl⟩
    obtain ⟨PY, ePY⟩ : ∃ x, p / kw = x := ⟨_, rfl⟩
    have ecX : cX kw p = (PX : Int) := by rw [← ePX]; rfl
    have ecY : cY kw p = (PY : Int) := by rw [← ePY]; rfl
    rw [ecX] at nX ⊢
    rw [ecY] at nY ⊢
    rw [ePX] at hPX
    rw [ePY] at hPY
    obtain ⟨TT, hTT⟩ : ∃ f, conTerm aw bw bh (fun t => px A t) (fun t => px B t) p = f := ⟨_, rfl⟩
    have hTB := Lib.hid (fun t => (show -4294967296 ≤ TT t ∧ TT t ≤ 4294967296 by rw [← hTT]; exact conTerm_bd hAH.out hBH.out aw bw bh p t))
    have hTE := Lib.hid (fun s => (show TT s = if (s % aw ≤ PX ∧ PX ≤ s % aw + (bw - 1)) ∧ (s / aw ≤ PY ∧ PY ≤ s / aw + (bh - 1)) then px A s * px B (((PY - s / aw) * bw + (PX - s % aw) : Nat) : Int) else 0 by rw [← hTT]; unfold conTerm; rw [ekw, ePX, ePY]))
    have hCF := Lib.hid (show compT aw ah bw bh A B p = clamp (sumTo TT (aw * ah)) (-65536) 65536 by unfold compT conF; rw [hTT])
    have ePXH := Lib.hid ePX
    have ePYH := Lib.hid ePY
    clear hTT ePX ePY ecX ecY ekw
    obtain ⟨Bs, hBs⟩ : ∃ b, W.heap.size = b := ⟨_, rfl⟩
    have hl' := (Array.getElem?_eq_some_iff.1 hrl).1
    have y5 := (((x5).alloc (.cells #[.int .i64 0] 3)).alloc (.cells #[.int .i64 aw] 3)).alloc (.cells #[.int .i64 ah] 3)
    have y6 := (((x6).alloc (.cells #[.int .i64 0] 3)).alloc (.cells #[.int .i64 aw] 3)).alloc (.cells #[.int .i64 ah] 3)
    have yX := (((nX).alloc (.cells #[.int .i64 0] 3)).alloc (.cells #[.int .i64 aw] 3)).alloc (.cells #[.int .i64 ah] 3)
    have yY := (((nY).alloc (.cells #[.int .i64 0] 3)).alloc (.cells #[.int .i64 aw] 3)).alloc (.cells #[.int .i64 ah] 3)
    have yS := ((Blk.new W 3 #[.int .i64 0]).alloc (.cells #[.int .i64 aw] 3)).alloc (.cells #[.int .i64 ah] 3)
    have yw := (Blk.new (W.alloc (.cells #[.int .i64 0] 3)) 3 #[.int .i64 aw]).alloc (.cells #[.int .i64 ah] 3)
    have yh := Blk.new ((W.alloc (.cells #[.int .i64 0] 3)).alloc (.cells #[.int .i64 aw] 3)) 3 #[.int .i64 ah]
    have hgg : Below W.heap.size W (((W.alloc (.cells #[.int .i64 0] 3)).alloc (.cells #[.int .i64 aw] 3)).alloc (.cells #[.int .i64 ah] 3)) := below_al (below_al (below_al (Below.refl _ _) _) _) _
    have hrl2 : (((W.alloc (.cells #[.int .i64 0] 3)).alloc (.cells #[.int .i64 aw] 3)).alloc (.cells #[.int .i64 ah] 3)).heap[l]? = some (.loop r) := (hgg.block l hl').trans hrl
    simp only [World.size_alloc, hBs] at yS yw yh
    have hsz : (((W.alloc (.cells #[.int .i64 0] 3)).alloc (.cells #[.int .i64 aw] 3)).alloc (.cells #[.int .i64 ah] 3)).heap.size = Bs + 1 + 1 + 1 := by simp [hBs]
    have c0 := (x5.alloc (.cells #[.int .i64 0] 3)).cell (i := 0) rfl
    have c1 := (x5.alloc (.cells #[.int .i64 0] 3)).cell (i := 1) rfl
    gi_wp2_with fail
    clear c0 c1
    refine ⟨trivial, (CallsIn.inRound l (callsIn_wide.2 (places_any _ _ _))).mono ?_⟩
    rintro e w' ⟨rfl, rfl⟩
    gi_wp2_with fail
    obtain ⟨V1, hV1⟩ : ∃ V, ((W.alloc (.cells #[.int .i64 0] 3)).alloc (.cells #[.int .i64 aw] 3)).alloc (.cells #[.int .i64 ah] 3) = V := ⟨_, rfl⟩
    rw [hV1] at y5 y6 yX yY yS yw yh hgg hrl2 hsz ⊢
    clear hV1
    have lX := nX.lt
    have lY := nY.lt
    rw [hBs] at lX lY hgg hl'
    refine rangeFunc_inner (l₀ := l) (r₀ := r) rfl hrl2 (by omega) (gf := 131) (lb := #[.pointer (some ⟨Bs + 1 + 1, 0, none⟩), .pointer (some ⟨Bs + 1, 0, none⟩)]) rfl trivial (enters_of Try.func131 (by kernel_rfl) rfl)
      (Kp := fun A B => B.heap[Bs + 1]? = A.heap[Bs + 1]?)
      ((places_stopsK Fence.wide 7 trivial rfl (by omega) (Bs + 1 + 1) (Bs + 1) aw ah (by omega) (by omega) V1 (by omega) (by omega) (yh.cell rfl) (yw.cell rfl)).inRound l) (fun h k => k.trans h) (fun W l o o' hl _ _ _ => World.putObj_heap_other (by omega)) (Below.refl _ _) (fun _ => rfl)
      (fun pre' W' => (((Blk W' Bx 3 #[.int .i64 PX] ∧ Blk W' (Bx + 1) 3 #[.int .i64 PY]) ∧ Blk W' Bs 3 #[.int .i64 (sumL TT (pre'.map Fin.val))]) ∧ Bs + 3 ≤ W'.heap.size) ∧ Below Bs W W')
      (fun _ _ _ => False)
      (OwnFrom.and (fun s A B row hs hg hr => ⟨⟨⟨blk_keeps hs.1.1.1 hg (fun r e => (hr r e).2), blk_keeps hs.1.1.2 hg (fun r e => (hr r e).2)⟩, blk_keeps hs.1.2 hg (fun r e => (hr r e).2)⟩, Nat.le_trans hs.2 hg.size⟩) (ownFrom_below (by omega) (by omega)))
      (fun _ _ _ _ _ hs _ _ => hs)
      ⟨⟨⟨⟨yX, yY⟩, yS⟩, by omega⟩, hgg⟩
      ?act2
      ?assign2 (fun _ => rfl) ?body2 ?done2 ?stop2
    case assign2 =>
      intro l2 u W' K hK
      simp only [enc2]
      gi_wp2
      exact hK
    case body2 =>
      rintro l2 pre' ⟨s, hs⟩ W' hl2 ⟨r2, hr2⟩ ⟨⟨⟨⟨nX, nY⟩, nS⟩, hs2⟩, hBW⟩ hlt2
      rw [inRound_inRound]
      dsimp only
      have hxs : s % aw < aw := Nat.mod_lt _ (by omega)
      have hys : s / aw < ah := Nat.div_lt_of_lt_mul hs
      have hsp := idx_split aw s
      have hTs := hTE.out s
      have hsb := sumL_bd hTB.out pre'.length (pre'.map Fin.val) (by simp)
      have hl25 : pre'.length < na := by rw [← prodA.out]; exact hlt2
      have hsn := sumL_snoc TT (pre'.map Fin.val) s
      have hpreH := Lib.hid (show (pre' ++ [(⟨s, hs⟩ : Fin (aw * ah))]).map Fin.val = pre'.map Fin.val ++ [s] by simp)
      have hsna : s < na := by rw [← prodA.out]; exact hs
      have ecX : cX aw s = ((s % aw : Nat) : Int) := rfl
      have ecY : cY aw s = ((s / aw : Nat) : Int) := rfl
      rw [ecX, ecY]
      obtain ⟨X, hX⟩ : ∃ X, s % aw = X := ⟨_, rfl⟩
      obtain ⟨Y, hY⟩ : ∃ Y, s / aw = Y := ⟨_, rfl⟩
      rw [hX] at hxs hsp hTs ⊢
      rw [hY] at hys hsp hTs ⊢
      clear hX hY ecX ecY
      obtain ⟨sv, hsv⟩ : ∃ v, sumL TT (pre'.map Fin.val) = v := ⟨_, rfl⟩
      rw [hsv] at nS hsb hsn
      have hsnH := Lib.hid hsn
      have hTsH := Lib.hid hTs
      clear hsn hTs hsv
      have z5 := x5.below hBW (by omega)
      have z6 := x6.below hBW (by omega)
      have zX := nX
      have zY := nY
      have zS := nS
      have hgV := Below.refl W'.heap.size W'
      have hBV := hBW
      have hsV := hs2
      have hBr : Below w.heap.size w W' := hB.trans (hBW.mono (by omega))
      clear nX nY nS
      obtain ⟨v1, hv1⟩ : ∃ v, inR ((PX : Int) - (X : Int)) 0 ((bw : Int) - 1) = v := ⟨_, rfl⟩
      have h1 := Lib.hid hv1
      obtain ⟨v2, hv2⟩ : ∃ v, inR ((PY : Int) - (Y : Int)) 0 ((bh : Int) - 1) = v := ⟨_, rfl⟩
      have h2 := Lib.hid hv2
      clear hv1 hv2
      have c0 := z6.cell (i := 0) rfl
      have d0 := zX.cell (i := 0) rfl
      gi_wp2_with fail
      clear c0 d0
      refine ⟨trivial, (CallsIn.inRound l2 (callsIn_wide.2 (within1 0 ((bw : Int) - 1) ((PX : Int) - (X : Int)) v1 h1.out _ _ _ _ ?_))).mono ?_⟩
      · exact cell_new (by simp) rfl
      rintro e w' ⟨rfl, rfl⟩
      obtain ⟨V, hV⟩ : ∃ VV, W'.alloc (.cells #[.int .i64 ((PX : Int) - (X : Int))] 3) = VV := ⟨_, rfl⟩
      have hgn : Below W'.heap.size W' V := alloc_below hV
      rw [hV]
      clear hV
      replace z5 := z5.below hgn z5.lt
      replace z6 := z6.below hgn z6.lt
      replace zX := zX.below hgn zX.lt
      replace zY := zY.below hgn zY.lt
      replace zS := zS.below hgn zS.lt
      replace hgV := hgV.trans (hgn.mono hgV.size)
      replace hBV := hBV.trans (hgn.mono (by omega))
      replace hBr := hBr.trans (hgn.mono hBr.size)
      replace hsV := Nat.le_trans hsV hgn.size
      clear hgn
      cases v1 with
      | false =>
        have hno := Lib.hid (show sumL TT (pre'.map Fin.val ++ [s]) = sv by
          have h := h1.out
          rw [hsnH.out, hTsH.out, if_neg]
          · omega
          · intro hc
            have : inR ((PX : Int) - (X : Int)) 0 ((bw : Int) - 1) = true := inR_true.2 (by omega)
            rw [h] at this
            cases this)
        gi_wp2_with fail
        refine ⟨trivial, ?_⟩
        gi_wp2_with fail
        exact ⟨(others_of_below hgV).from _, hgV.block _ (by omega), ⟨⟨⟨zX, zY⟩, by rw [hpreH.out, hno.out]; exact zS⟩, hsV⟩, hBV⟩
      | true =>
        have c1 := z6.cell (i := 1) rfl
        have d1 := zY.cell (i := 0) rfl
        gi_wp2_with fail
        clear c1 d1
        refine ⟨trivial, (CallsIn.inRound l2 (callsIn_wide.2 (within1 0 ((bh : Int) - 1) ((PY : Int) - (Y : Int)) v2 h2.out _ _ _ _ ?_))).mono ?_⟩
        · exact cell_new (by simp) rfl
        rintro e w' ⟨rfl, rfl⟩
        obtain ⟨V2, hV⟩ : ∃ VV, V.alloc (.cells #[.int .i64 ((PY : Int) - (Y : Int))] 3) = VV := ⟨_, rfl⟩
        have hgn : Below V.heap.size V V2 := alloc_below hV
        rw [hV]
        clear hV
        replace z5 := z5.below hgn z5.lt
        replace z6 := z6.below hgn z6.lt
        replace zX := zX.below hgn zX.lt
        replace zY := zY.below hgn zY.lt
        replace zS := zS.below hgn zS.lt
        replace hgV := hgV.trans (hgn.mono hgV.size)
        replace hBV := hBV.trans (hgn.mono (by omega))
        replace hBr := hBr.trans (hgn.mono hBr.size)
        replace hsV := Nat.le_trans hsV hgn.size
        clear hgn
        cases v2 with
        | false =>
          have hno := Lib.hid (show sumL TT (pre'.map Fin.val ++ [s]) = sv by
            have h := h2.out
            rw [hsnH.out, hTsH.out, if_neg]
            · omega
            · intro hc
              have : inR ((PY : Int) - (Y : Int)) 0 ((bh : Int) - 1) = true := inR_true.2 (by omega)
              rw [h] at this
              cases this)
          gi_wp2_with fail
          exact ⟨(others_of_below hgV).from _, hgV.block _ (by omega), ⟨⟨⟨zX, zY⟩, by rw [hpreH.out, hno.out]; exact zS⟩, hsV⟩, hBV⟩
        | true =>
          obtain ⟨g1, g2⟩ := inR_true.1 h1.out
          obtain ⟨g3, g4⟩ := inR_true.1 h2.out
          have hub := idx_bound (w := bw) (h := bh) (x := PX - X) (y := PY - Y) (by omega) (by omega)
          rw [prodB.out] at hub
          have hT2 : TT s = px A s * px B (((PY - Y) * bw + (PX - X) : Nat) : Int) := by rw [hTsH.out, if_pos (by omega)]
          have eu : (((PY - Y) * bw + (PX - X) : Nat) : Int) = ((PY : Int) - (Y : Int)) * (bw : Int) + (PX : Int) - (X : Int) := by
            rw [Int.natCast_add, Int.natCast_mul, Int.ofNat_sub (by omega), Int.ofNat_sub (by omega)]
            omega
          obtain ⟨u, hu⟩ : ∃ u, (PY - Y) * bw + (PX - X) = u := ⟨_, rfl⟩
          have huN := Lib.hid (show (PY - Y) * bw + PX - X = u by omega)
          rw [hu] at hub hT2 eu
          clear hu
          obtain ⟨bta, ota, eax, hbta, hca⟩ := rd_at hra hna.out (by omega)
          obtain ⟨btb, otb, ebx, hbtb, hcb⟩ := rd_at hrb hnb.out (by omega)
          have htA := (hBr.cell (p := ⟨bta, ota + s, none⟩) hbta).trans (hca s hsna)
          have htB : V2.cell? ⟨btb, otb + ((PY - Y) * bw + PX - X), none⟩ = some (.int .i64 (px B (u : Int))) := by
            rw [huN.out]
            exact (hBr.cell (p := ⟨btb, otb + u, none⟩) hbtb).trans (hcb u hub)
          clear hca hcb
          have tb1 := px_bdB (B := 65536) (by decide) hAH.out (s : Int)
          have tb2 := px_bdB (B := 65536) (by decide) hBH.out (u : Int)
          obtain ⟨ta, hta⟩ : ∃ v, px A (s : Int) = v := ⟨_, rfl⟩
          obtain ⟨tb, htb⟩ : ∃ v, px B (u : Int) = v := ⟨_, rfl⟩
          rw [hta] at htA tb1 hT2
          rw [htb] at htB tb2 hT2
          have hmb := mul_bd tb1.1 tb1.2 tb2.1 tb2.2 (by decide) (by decide)
          have hyes := Lib.hid (show sumL TT (pre'.map Fin.val ++ [s]) = sv + ta * tb by rw [hsnH.out, hT2])
          clear hT2 hta htb
          have p1 : 0 ≤ ((PY : Int) - (Y : Int)) * (bw : Int) ∧ ((PY : Int) - (Y : Int)) * (bw : Int) ≤ 5 * 5 := mul_small (by omega) (by omega) (by omega) (by omega)
          have p2 : ((PY : Int) - (Y : Int)) * (bw : Int) + (PX : Int) - (X : Int) < nb := by omega
          have p5 : (X : Int) ≤ ((PY : Int) - (Y : Int)) * (bw : Int) + (PX : Int) := by omega
          have p2' : 0 ≤ ((PY : Int) - (Y : Int)) * (bw : Int) + (PX : Int) - (X : Int) := by omega
          have p3 : ((Y : Int) * (aw : Int) + (X : Int)) < (na : Int) := by
            have e : ((Y * aw + X : Nat) : Int) = (Y : Int) * (aw : Int) + (X : Int) := by simp
            omega
          have p4 : 0 ≤ (Y : Int) * (aw : Int) := Int.mul_nonneg (by omega) (by omega)
          have hwV := hBr.size
          have hS : Below V2.heap.size V2 V2.drew := (Below.refl _ _).drew
          clear eu
          gi_wp2_with fail
          refine round_region (fun W' => Below V2.heap.size V2 W') 27 28 l2 _ (by kernel_rfl) (by kernel_rfl) (fun ⟨_, _, h⟩ => h) rfl ?_
          simp only [Array.replicate_succ, Array.replicate_zero, List.push_toArray, List.nil_append, List.cons_append]
          refine take_op 0 (v := ?rv0) rfl (by kernel_rfl) (fun _ _ _ h => h) (by rfl) hS (fun w' hS' => ?ry0) ?rz0
          case ry0 =>
            have a0 := (z5.below hS' z5.lt).cell (i := 0) rfl
            have a1 := (z5.below hS' z5.lt).cell (i := 1) rfl
            have a2 := (z5.below hS' z5.lt).cell (i := 2) rfl
            have b0 := (z6.below hS' z6.lt).cell (i := 0) rfl
            have b1 := (z6.below hS' z6.lt).cell (i := 1) rfl
            have b2 := (z6.below hS' z6.lt).cell (i := 2) rfl
            have d0 := (zX.below hS' zX.lt).cell (i := 0) rfl
            have d1 := (zY.below hS' zY.lt).cell (i := 0) rfl
            have d2 := (zS.below hS' zS.lt).cell (i := 0) rfl
            have t0 := (hS'.cell (p := ⟨bta, ota + s, none⟩) (by show bta < V2.heap.size; omega)).trans htA
            have t1 := (hS'.cell (p := ⟨btb, otb + ((PY - Y) * bw + PX - X), none⟩) (by show btb < V2.heap.size; omega)).trans htB
            go_simp
            rfl
          simp only [List.setIfInBounds_toArray, List.set_cons_zero, List.set_cons_succ]
          refine take_op 1 (v := ?rv1) rfl (by kernel_rfl) (fun _ _ _ h => h) (by rfl) hS (fun w' hS' => ?ry1) ?rz1
          case ry1 =>
            go_simp
            rfl
          simp only [List.setIfInBounds_toArray, List.set_cons_zero, List.set_cons_succ]
          refine take_op 2 (v := ?rv2) rfl (by kernel_rfl) (fun _ _ _ h => h) (by rfl) hS (fun w' hS' => ?ry2) ?rz2
          case ry2 =>
            have a0 := (z5.below hS' z5.lt).cell (i := 0) rfl
            have a1 := (z5.below hS' z5.lt).cell (i := 1) rfl
            have a2 := (z5.below hS' z5.lt).cell (i := 2) rfl
            have b0 := (z6.below hS' z6.lt).cell (i := 0) rfl
            have b1 := (z6.below hS' z6.lt).cell (i := 1) rfl
            have b2 := (z6.below hS' z6.lt).cell (i := 2) rfl
            have d0 := (zX.below hS' zX.lt).cell (i := 0) rfl
            have d1 := (zY.below hS' zY.lt).cell (i := 0) rfl
            have d2 := (zS.below hS' zS.lt).cell (i := 0) rfl
            have t0 := (hS'.cell (p := ⟨bta, ota + s, none⟩) (by show bta < V2.heap.size; omega)).trans htA
            have t1 := (hS'.cell (p := ⟨btb, otb + ((PY - Y) * bw + PX - X), none⟩) (by show btb < V2.heap.size; omega)).trans htB
            go_simp
            rfl
          simp only [List.setIfInBounds_toArray, List.set_cons_zero, List.set_cons_succ]
          refine take_op 3 (v := ?rv3) rfl (by kernel_rfl) (fun _ _ _ h => h) (by rfl) hS (fun w' hS' => ?ry3) ?rz3
          case ry3 =>
            go_simp
            rfl
          simp only [List.setIfInBounds_toArray, List.set_cons_zero, List.set_cons_succ]
          refine take_op 4 (v := ?rv4) rfl (by kernel_rfl) (fun _ _ _ h => h) (by rfl) hS (fun w' hS' => ?ry4) ?rz4
          case ry4 =>
            go_simp
            rfl
          simp only [List.setIfInBounds_toArray, List.set_cons_zero, List.set_cons_succ]
          refine take_op 5 (v := ?rv5) rfl (by kernel_rfl) (fun _ _ _ h => h) (by rfl) hS (fun w' hS' => ?ry5) ?rz5
          case ry5 =>
            have a0 := (z5.below hS' z5.lt).cell (i := 0) rfl
            have a1 := (z5.below hS' z5.lt).cell (i := 1) rfl
            have a2 := (z5.below hS' z5.lt).cell (i := 2) rfl
            have b0 := (z6.below hS' z6.lt).cell (i := 0) rfl
            have b1 := (z6.below hS' z6.lt).cell (i := 1) rfl
            have b2 := (z6.below hS' z6.lt).cell (i := 2) rfl
            have d0 := (zX.below hS' zX.lt).cell (i := 0) rfl
            have d1 := (zY.below hS' zY.lt).cell (i := 0) rfl
            have d2 := (zS.below hS' zS.lt).cell (i := 0) rfl
            have t0 := (hS'.cell (p := ⟨bta, ota + s, none⟩) (by show bta < V2.heap.size; omega)).trans htA
            have t1 := (hS'.cell (p := ⟨btb, otb + ((PY - Y) * bw + PX - X), none⟩) (by show btb < V2.heap.size; omega)).trans htB
            go_simp
            rfl
          simp only [List.setIfInBounds_toArray, List.set_cons_zero, List.set_cons_succ]
          refine take_op 6 (v := ?rv6) rfl (by kernel_rfl) (fun _ _ _ h => h) (by rfl) hS (fun w' hS' => ?ry6) ?rz6
          case ry6 =>
            go_simp
            try go_ints
            rfl
          simp only [List.setIfInBounds_toArray, List.set_cons_zero, List.set_cons_succ]
          refine take_op 7 (v := ?rv7) rfl (by kernel_rfl) (fun _ _ _ h => h) (by rfl) hS (fun w' hS' => ?ry7) ?rz7
          case ry7 =>
            go_simp
            rfl
          simp only [List.setIfInBounds_toArray, List.set_cons_zero, List.set_cons_succ]
          refine take_op 8 (v := ?rv8) rfl (by kernel_rfl) (fun _ _ _ h => h) (by rfl) hS (fun w' hS' => ?ry8) ?rz8
          case ry8 =>
            go_simp
            try go_ints
            rfl
          simp only [List.setIfInBounds_toArray, List.set_cons_zero, List.set_cons_succ]
          refine take_op 9 (v := ?rv9) rfl (by kernel_rfl) (fun _ _ _ h => h) (by rfl) hS (fun w' hS' => ?ry9) ?rz9
          case ry9 =>
            go_simp
            try go_ints
            first
            | rfl
            | rw [if_pos ⟨by omega, by omega⟩]
          simp only [List.setIfInBounds_toArray, List.set_cons_zero, List.set_cons_succ]
          refine take_op 10 (v := ?rv10) rfl (by kernel_rfl) (fun _ _ _ h => h) (by rfl) hS (fun w' hS' => ?ry10) ?rz10
          case ry10 =>
            have a0 := (z5.below hS' z5.lt).cell (i := 0) rfl
            have a1 := (z5.below hS' z5.lt).cell (i := 1) rfl
            have a2 := (z5.below hS' z5.lt).cell (i := 2) rfl
            have b0 := (z6.below hS' z6.lt).cell (i := 0) rfl
            have b1 := (z6.below hS' z6.lt).cell (i := 1) rfl
            have b2 := (z6.below hS' z6.lt).cell (i := 2) rfl
            have d0 := (zX.below hS' zX.lt).cell (i := 0) rfl
            have d1 := (zY.below hS' zY.lt).cell (i := 0) rfl
            have d2 := (zS.below hS' zS.lt).cell (i := 0) rfl
            have t0 := (hS'.cell (p := ⟨bta, ota + s, none⟩) (by show bta < V2.heap.size; omega)).trans htA
            have t1 := (hS'.cell (p := ⟨btb, otb + ((PY - Y) * bw + PX - X), none⟩) (by show btb < V2.heap.size; omega)).trans htB
            go_simp
            rfl
          simp only [List.setIfInBounds_toArray, List.set_cons_zero, List.set_cons_succ]
          refine take_op 11 (v := ?rv11) rfl (by kernel_rfl) (fun _ _ _ h => h) (by rfl) hS (fun w' hS' => ?ry11) ?rz11
          case ry11 =>
            go_simp
            rfl
          simp only [List.setIfInBounds_toArray, List.set_cons_zero, List.set_cons_succ]
          refine take_op 12 (v := ?rv12) rfl (by kernel_rfl) (fun _ _ _ h => h) (by rfl) hS (fun w' hS' => ?ry12) ?rz12
          case ry12 =>
            have a0 := (z5.below hS' z5.lt).cell (i := 0) rfl
            have a1 := (z5.below hS' z5.lt).cell (i := 1) rfl
            have a2 := (z5.below hS' z5.lt).cell (i := 2) rfl
            have b0 := (z6.below hS' z6.lt).cell (i := 0) rfl
            have b1 := (z6.below hS' z6.lt).cell (i := 1) rfl
            have b2 := (z6.below hS' z6.lt).cell (i := 2) rfl
            have d0 := (zX.below hS' zX.lt).cell (i := 0) rfl
            have d1 := (zY.below hS' zY.lt).cell (i := 0) rfl
            have d2 := (zS.below hS' zS.lt).cell (i := 0) rfl
            have t0 := (hS'.cell (p := ⟨bta, ota + s, none⟩) (by show bta < V2.heap.size; omega)).trans htA
            have t1 := (hS'.cell (p := ⟨btb, otb + ((PY - Y) * bw + PX - X), none⟩) (by show btb < V2.heap.size; omega)).trans htB
            go_simp
            rfl
          simp only [List.setIfInBounds_toArray, List.set_cons_zero, List.set_cons_succ]
          refine take_op 13 (v := ?rv13) rfl (by kernel_rfl) (fun _ _ _ h => h) (by rfl) hS (fun w' hS' => ?ry13) ?rz13
          case ry13 =>
            have a0 := (z5.below hS' z5.lt).cell (i := 0) rfl
            have a1 := (z5.below hS' z5.lt).cell (i := 1) rfl
            have a2 := (z5.below hS' z5.lt).cell (i := 2) rfl
            have b0 := (z6.below hS' z6.lt).cell (i := 0) rfl
            have b1 := (z6.below hS' z6.lt).cell (i := 1) rfl
            have b2 := (z6.below hS' z6.lt).cell (i := 2) rfl
            have d0 := (zX.below hS' zX.lt).cell (i := 0) rfl
            have d1 := (zY.below hS' zY.lt).cell (i := 0) rfl
            have d2 := (zS.below hS' zS.lt).cell (i := 0) rfl
            have t0 := (hS'.cell (p := ⟨bta, ota + s, none⟩) (by show bta < V2.heap.size; omega)).trans htA
            have t1 := (hS'.cell (p := ⟨btb, otb + ((PY - Y) * bw + PX - X), none⟩) (by show btb < V2.heap.size; omega)).trans htB
            go_simp
            rfl
          simp only [List.setIfInBounds_toArray, List.set_cons_zero, List.set_cons_succ]
          refine take_op 14 (v := ?rv14) rfl (by kernel_rfl) (fun _ _ _ h => h) (by rfl) hS (fun w' hS' => ?ry14) ?rz14
          case ry14 =>
            go_simp
            rfl
          simp only [List.setIfInBounds_toArray, List.set_cons_zero, List.set_cons_succ]
          refine take_op 15 (v := ?rv15) rfl (by kernel_rfl) (fun _ _ _ h => h) (by rfl) hS (fun w' hS' => ?ry15) ?rz15
          case ry15 =>
            go_simp
            try go_ints
            rfl
          simp only [List.setIfInBounds_toArray, List.set_cons_zero, List.set_cons_succ]
          refine take_op 16 (v := ?rv16) rfl (by kernel_rfl) (fun _ _ _ h => h) (by rfl) hS (fun w' hS' => ?ry16) ?rz16
          case ry16 =>
            go_simp
            rfl
          simp only [List.setIfInBounds_toArray, List.set_cons_zero, List.set_cons_succ]
          refine take_op 17 (v := ?rv17) rfl (by kernel_rfl) (fun _ _ _ h => h) (by rfl) hS (fun w' hS' => ?ry17) ?rz17
          case ry17 =>
            have a0 := (z5.below hS' z5.lt).cell (i := 0) rfl
            have a1 := (z5.below hS' z5.lt).cell (i := 1) rfl
            have a2 := (z5.below hS' z5.lt).cell (i := 2) rfl
            have b0 := (z6.below hS' z6.lt).cell (i := 0) rfl
            have b1 := (z6.below hS' z6.lt).cell (i := 1) rfl
            have b2 := (z6.below hS' z6.lt).cell (i := 2) rfl
            have d0 := (zX.below hS' zX.lt).cell (i := 0) rfl
            have d1 := (zY.below hS' zY.lt).cell (i := 0) rfl
            have d2 := (zS.below hS' zS.lt).cell (i := 0) rfl
            have t0 := (hS'.cell (p := ⟨bta, ota + s, none⟩) (by show bta < V2.heap.size; omega)).trans htA
            have t1 := (hS'.cell (p := ⟨btb, otb + ((PY - Y) * bw + PX - X), none⟩) (by show btb < V2.heap.size; omega)).trans htB
            go_simp
            rfl
          simp only [List.setIfInBounds_toArray, List.set_cons_zero, List.set_cons_succ]
          refine take_op 18 (v := ?rv18) rfl (by kernel_rfl) (fun _ _ _ h => h) (by rfl) hS (fun w' hS' => ?ry18) ?rz18
          case ry18 =>
            go_simp
            try go_ints
            rfl
          simp only [List.setIfInBounds_toArray, List.set_cons_zero, List.set_cons_succ]
          refine take_op 19 (v := ?rv19) rfl (by kernel_rfl) (fun _ _ _ h => h) (by rfl) hS (fun w' hS' => ?ry19) ?rz19
          case ry19 =>
            have a0 := (z5.below hS' z5.lt).cell (i := 0) rfl
            have a1 := (z5.below hS' z5.lt).cell (i := 1) rfl
            have a2 := (z5.below hS' z5.lt).cell (i := 2) rfl
            have b0 := (z6.below hS' z6.lt).cell (i := 0) rfl
            have b1 := (z6.below hS' z6.lt).cell (i := 1) rfl
            have b2 := (z6.below hS' z6.lt).cell (i := 2) rfl
            have d0 := (zX.below hS' zX.lt).cell (i := 0) rfl
            have d1 := (zY.below hS' zY.lt).cell (i := 0) rfl
            have d2 := (zS.below hS' zS.lt).cell (i := 0) rfl
            have t0 := (hS'.cell (p := ⟨bta, ota + s, none⟩) (by show bta < V2.heap.size; omega)).trans htA
            have t1 := (hS'.cell (p := ⟨btb, otb + ((PY - Y) * bw + PX - X), none⟩) (by show btb < V2.heap.size; omega)).trans htB
            go_simp
            rfl
          simp only [List.setIfInBounds_toArray, List.set_cons_zero, List.set_cons_succ]
          refine take_op 20 (v := ?rv20) rfl (by kernel_rfl) (fun _ _ _ h => h) (by rfl) hS (fun w' hS' => ?ry20) ?rz20
          case ry20 =>
            go_simp
            try go_ints
            rfl
          simp only [List.setIfInBounds_toArray, List.set_cons_zero, List.set_cons_succ]
          refine take_op 21 (v := ?rv21) rfl (by kernel_rfl) (fun _ _ _ h => h) (by rfl) hS (fun w' hS' => ?ry21) ?rz21
          case ry21 =>
            go_simp
            rfl
          simp only [List.setIfInBounds_toArray, List.set_cons_zero, List.set_cons_succ]
          refine take_op 22 (v := ?rv22) rfl (by kernel_rfl) (fun _ _ _ h => h) (by rfl) hS (fun w' hS' => ?ry22) ?rz22
          case ry22 =>
            go_simp
            try go_ints
            rfl
          simp only [List.setIfInBounds_toArray, List.set_cons_zero, List.set_cons_succ]
          refine take_op 23 (v := ?rv23) rfl (by kernel_rfl) (fun _ _ _ h => h) (by rfl) hS (fun w' hS' => ?ry23) ?rz23
          case ry23 =>
            go_simp
            try go_ints
            first
            | rfl
            | rw [if_pos ⟨by omega, by omega⟩]
          simp only [List.setIfInBounds_toArray, List.set_cons_zero, List.set_cons_succ]
          refine take_op 24 (v := ?rv24) rfl (by kernel_rfl) (fun _ _ _ h => h) (by rfl) hS (fun w' hS' => ?ry24) ?rz24
          case ry24 =>
            have a0 := (z5.below hS' z5.lt).cell (i := 0) rfl
            have a1 := (z5.below hS' z5.lt).cell (i := 1) rfl
            have a2 := (z5.below hS' z5.lt).cell (i := 2) rfl
            have b0 := (z6.below hS' z6.lt).cell (i := 0) rfl
            have b1 := (z6.below hS' z6.lt).cell (i := 1) rfl
            have b2 := (z6.below hS' z6.lt).cell (i := 2) rfl
            have d0 := (zX.below hS' zX.lt).cell (i := 0) rfl
            have d1 := (zY.below hS' zY.lt).cell (i := 0) rfl
            have d2 := (zS.below hS' zS.lt).cell (i := 0) rfl
            have t0 := (hS'.cell (p := ⟨bta, ota + s, none⟩) (by show bta < V2.heap.size; omega)).trans htA
            have t1 := (hS'.cell (p := ⟨btb, otb + ((PY - Y) * bw + PX - X), none⟩) (by show btb < V2.heap.size; omega)).trans htB
            go_simp
            rfl
          simp only [List.setIfInBounds_toArray, List.set_cons_zero, List.set_cons_succ]
          refine take_op 25 (v := ?rv25) rfl (by kernel_rfl) (fun _ _ _ h => h) (by rfl) hS (fun w' hS' => ?ry25) ?rz25
          case ry25 =>
            go_simp
            try go_ints
            rfl
          simp only [List.setIfInBounds_toArray, List.set_cons_zero, List.set_cons_succ]
          refine take_op 26 (v := ?rv26) rfl (by kernel_rfl) (fun _ _ _ h => h) (by rfl) hS (fun w' hS' => ?ry26) ?rz26
          case ry26 =>
            go_simp
            try go_ints
            rfl
          simp only [List.setIfInBounds_toArray, List.set_cons_zero, List.set_cons_succ]
          refine step_op 27 (by kernel_rfl) rfl (fun K hK => ?_)
          have k3 := zS.below hS zS.lt
          have o0 := k3.cell (i := 0) rfl
          have fo0 := k3.frozen 0
          rw [if_pos (by rfl)]
          go_simp
          refine hK.out _ _ (fun h => absurd h (by omega)) ?_
          clear hK K
          try simp only [Act.put, List.setIfInBounds_toArray, List.set_cons_zero, List.set_cons_succ]
          refine done_ops (by kernel_rfl) ?_
          have hgA : W'.grownBy (V2.drew.setCell ⟨Bs, 0, none⟩ (.int .i64 (sv + ta * tb))) (some Bs) := grown_trans (grown_of_below (hgV.trans (hS.mono hgV.size)) _) (grownBy_setCell' V2.drew _ _)
          exact ⟨((others_of_below (hgV.trans (hS.mono hgV.size))).trans (KeepsOthers.setCell _ _ _)).from _, hgA.block _ (by omega) (by simp), ⟨⟨⟨(zX.below hS zX.lt).other (by simp <;> omega) _, (zY.below hS zY.lt).other (by simp <;> omega) _⟩, by rw [hpreH.out, hyes.out]; exact k3.set 0 (.int .i64 (sv + ta * tb))⟩, Nat.le_trans hs2 hgA.size⟩, (hBV.trans (hS.mono (by omega))).setCell (p := ⟨Bs, 0, none⟩) (Nat.le_refl _) _⟩
    case done2 =>
      rintro ys W' hys ⟨⟨⟨⟨nX, nY⟩, nS⟩, hs2⟩, hBW⟩
      have hsum := sumL_range TT (aw * ah)
      rw [← hys] at hsum
      obtain ⟨sv, hsv⟩ : ∃ v, sumTo TT (aw * ah) = v := ⟨_, rfl⟩
      rw [hsum, hsv] at nS
      have hcp := hCF.out
      rw [hsv] at hcp
      obtain ⟨z, hz⟩ : ∃ z, clamp sv (-65536) 65536 = z := ⟨_, rfl⟩
      rw [hz] at hcp
      have hzH := Lib.hid hz
      have hcpH := Lib.hid hcp
      clear hsum hsv hcp hz hys
      have hBW0 : Below W.heap.size W W' := by rw [hBs]; exact hBW
      have q := xq.below hBW (by omega)
      have rowW := row_below row hBW0
      have hrlt := row.lt
      have ne6 : some B6 ≠ v.ownBlock := xq.not_row (by decide) row
      have neS : some Bs ≠ v.ownBlock := by intro e; have := (hrlt _ e.symm).2; omega
      have ne1 : some (B6 + 1) ≠ v.ownBlock := by intro e; have := (hrlt _ e.symm).1; omega
      have hk25 : kw * kh ≤ 25 := Nat.mul_le_mul hkw5 hkh5
      have hS : W'.grownBy W'.drew v.ownBlock := ⟨rfl, rfl, rfl, Nat.le_refl _, fun _ _ _ => rfl⟩
      gi_wp2_with fail
      refine round_region (fun W'' => W'.grownBy W'' v.ownBlock) 7 8 l _ (by kernel_rfl) (by kernel_rfl) (fun ⟨_, _, h⟩ => h) rfl ?_
      simp only [Array.replicate_succ, Array.replicate_zero, List.push_toArray, List.nil_append, List.cons_append]
      refine take_op 0 (v := ?qv0) rfl (by kernel_rfl) (fun _ _ _ h => h) (by rfl) hS (fun w' hS' => ?qy0) ?qz0
      case qy0 =>
        go_simp
        rfl
      simp only [List.setIfInBounds_toArray, List.set_cons_zero, List.set_cons_succ]
      refine take_op 1 (v := ?qv1) rfl (by kernel_rfl) (fun _ _ _ h => h) (by rfl) hS (fun w' hS' => ?qy1) ?qz1
      case qy1 =>
        have a2 := (q.kept hS' ne6).cell (i := 2) rfl
        have b0 := (nS.kept hS' neS).cell (i := 0) rfl
        go_simp
        rfl
      simp only [List.setIfInBounds_toArray, List.set_cons_zero, List.set_cons_succ]
      refine take_op 2 (v := ?qv2) rfl (by kernel_rfl) (fun _ _ _ h => h) (by rfl) hS (fun w' hS' => ?qy2) ?qz2
      case qy2 =>
        have a2 := (q.kept hS' ne6).cell (i := 2) rfl
        have b0 := (nS.kept hS' neS).cell (i := 0) rfl
        go_simp
        rfl
      simp only [List.setIfInBounds_toArray, List.set_cons_zero, List.set_cons_succ]
      refine step_op 3 (by kernel_rfl) rfl (fun K hK => ?_)
      rw [if_pos (by rfl)]
      go_simp
      refine (into_any _ _ _ _).mono ?_
      rintro e Vq ⟨rfl, rfl⟩
      rw [hzH.out]
      have hbd : Below W'.heap.size W' W'.drew := (Below.refl _ W').drew
      obtain ⟨Vd, hVd⟩ : ∃ Vd, W'.drew = Vd := ⟨_, rfl⟩
      rw [hVd] at hS hbd ⊢
      clear hVd
      have hbds := hbd.size
      refine hK.out _ _ (fun h => hS) ?_
      clear hK K
      try simp only [Act.put, List.setIfInBounds_toArray, List.set_cons_zero, List.set_cons_succ]
      refine step_op 4 (by kernel_rfl) rfl (fun K hK => ?_)
      rw [if_pos (by rfl)]
      go_simp
      have hS4 : W'.grownBy (Vd.alloc (.cells #[.int .i64 z] 3)) v.ownBlock := grown_trans hS (World.grownBy_alloc _ _ _)
      refine hK.out _ _ (fun h => hS4) ?_
      clear hK K
      try simp only [Act.put, List.setIfInBounds_toArray, List.set_cons_zero, List.set_cons_succ]
      refine step_op 5 (by kernel_rfl) rfl (fun K hK => ?_)
      refine step_append_own rfl (.tmp 101) (.tmp 104) 22 rfl (B6 + 3) 3 i0 (.int .i64 0) 1 8 Try.underlying22 hi hz0 hz1 hz2 rfl (by decide) v pre.length ((pre.map (fun i => compT aw ah bw bh A B i.val)).map (Value.int .i64)) rfl ((row_below rowW hbd).alloc (.cells #[.int .i64 z] 3)) ⟨Vd.heap.size, 0, none⟩ 1 1 [.int .i64 z] rfl rfl (cell_one_new _ _ _) (by simp [Value.oneCell']) (by unfold maxLen; omega) (by omega) (by simp; omega) ?_
      intro v' w4 hown' hg4 hnil
      obtain ⟨va, vc, rfl⟩ := row_slice hown'
      have hS5 : W'.grownBy w4 v.ownBlock := grown_trans hS4 hg4
      refine hK.out _ _ (fun h => hS5) ?_
      clear hK K
      try simp only [Act.put, List.setIfInBounds_toArray, List.set_cons_zero, List.set_cons_succ]
      refine take_op 6 (v := ?qv6) rfl (by kernel_rfl) (fun _ _ _ h => h) (by rfl) hS5 (fun w' hS' => ?qy6) ?qz6
      case qy6 =>
        go_simp
        rfl
      simp only [List.setIfInBounds_toArray, List.set_cons_zero, List.set_cons_succ]
      refine step_op 7 (by kernel_rfl) rfl (fun K hK => ?_)
      have q4 := q.kept hS5 ne6
      have o2 := q4.cell (i := 2) rfl
      have fo2 := q4.frozen 2
      rw [if_pos (by rfl)]
      go_simp
      refine hK.out _ _ (fun h => absurd h (by omega)) ?_
      clear hK K
      try simp only [Act.put, List.setIfInBounds_toArray, List.set_cons_zero, List.set_cons_succ]
      refine done_ops (by kernel_rfl) ?_
      have hgW : W.grownBy w4 v.ownBlock := grown_trans (grown_of_below hBW0 _) hS5
      have rown := row_setCell hown' (a := ⟨B6, 2, none⟩) (q4.not_row (by decide) hown') (.slice va (pre.length + 1) vc)
      have hlist : (pre.map (fun i => compT aw ah bw bh A B i.val)).map (Value.int .i64) ++ [.int .i64 z] = ((pre ++ [(⟨p, hp⟩ : Fin (kw * kh))]).map (fun i => compT aw ah bw bh A B i.val)).map (Value.int .i64) := by
        rw [List.map_append, List.map_append]
        simp only [List.map_cons, List.map_nil]
        rw [hcpH.out]
      rw [hlist] at rown
      have kset := (xq.kept hgW ne6).set 2 (.slice va (pre.length + 1) vc)
      exact ⟨((others_of_row row hgW).trans (KeepsOthers.setCell _ _ _)).from _, (Below.heap_setCell _ _ _ _ (by simp)).trans (hgW.block _ (by omega) ne1), ⟨⟨(x5.kept hgW (x5.not_row (by decide) row)).other (by simp; omega) _, (x6.kept hgW (x6.not_row (by decide) row)).other (by simp; omega) _⟩, ⟨(xk.kept hgW (xk.not_row (by decide) row)).other (by simp; omega) _, by have := hgW.size; simp [World.setCell]; omega⟩, .slice va (pre.length + 1) vc, by simpa using kset, by rw [List.length_append, List.length_singleton]; exact rown⟩, (hB.trans (below_of_row (n := w.heap.size) row hgW (by omega) hB.size)).setCell (p := ⟨B6, 2, none⟩) (by simp; omega) _⟩
    case stop2 =>
      rintro c pre' W' _ h
      exact h.elim
  case done =>
    rintro D ys W hD hys ⟨⟨⟨x5, x6⟩, ⟨xk, hs1⟩, v, xq, row⟩, hB⟩ hK
    obtain ⟨sa, sc, rfl⟩ := row_slice row
    have hlen : ys.length = kw * kh := by have := congrArg List.length hys; simpa using this
    have hcl : ys.map (fun i => compT aw ah bw bh A B i.val) = compL aw ah bw bh A B := by
      unfold compL
      rw [show aw + bw - 1 = kw by omega, show ah + bh - 1 = kh by omega, ← hys, List.map_map]
      rfl
    have hcll : (compL aw ah bw bh A B).length = ys.length := by rw [← hcl, List.length_map]
    rw [hcl] at row
    have hclH := Lib.hid hcll
    clear hcl hcll hlen hys
    have c0 := xq.cell (i := 0) rfl
    have c1 := xq.cell (i := 1) rfl
    have c2 := xq.cell (i := 2) rfl
    have d0 := xk.cell (i := 0) rfl
    have d1 := xk.cell (i := 1) rfl
    have d2 := xk.cell (i := 2) rfl
    have f0 := xk.frozen 0
    have f1 := xk.frozen 1
    have f2 := xk.frozen 2
    have hD1 : w.heap.size + 1 + 1 ≠ D := by omega
    gi_wp2
    have hKf : (put3 W (w.heap.size + 1 + 1) (.int .i64 kw) (.int .i64 kh) (.slice sa ys.length sc)).heap[D]? = some (.deferred (some [])) := (put3_below_block _ _ _ (Ne.symm hD1) _ _ _).trans hK
    have kf := (put3_blk xk (.int .i64 kw) (.int .i64 kh) (.slice sa ys.length sc)).putObj hD1 (.deferred none)
    have g0 := kf.cell (i := 0) rfl
    have g1 := kf.cell (i := 1) rfl
    have g2 := kf.cell (i := 2) rfl
    have rowf := ownsRow_putObj (put3_row row (xk.not_row (by decide) row) (.int .i64 kw) (.int .i64 kh) (.slice sa ys.length sc)) (.deferred none) hKf rfl
    refine ⟨by simp, .inl ⟨_, _, rfl, run_takeDeferred hKf, ?_⟩⟩
    refine ⟨.tuple #[.agg #[.int .i64 kw, .int .i64 kh, .slice sa ys.length sc], .int .i64 0], by simp [results, Try.results53, go_sem, g0, g1, g2], ⟨⟨_, rfl, OwnIm.weaken (B := B6 + 3) ⟨_, rfl, row_len hclH.out.symm rowf⟩ (by omega)⟩, ?_⟩⟩
    exact (hB.trans (put3_below (by omega) _ _ _)).trans (belowK_b (w := w) (Nat.le_refl _) _ D _ _ (by omega) hKf rfl rfl)
  case stop =>
    rintro D c pre W _ _ h _
    exact h.elim

end Go.Proofs.Ytjglfeonoiljlaa

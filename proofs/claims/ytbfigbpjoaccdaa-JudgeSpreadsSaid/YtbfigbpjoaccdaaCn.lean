/- judge.CheckNetwork. -/
import Derived.Test.YtbfigbpjoaccdaaND
namespace Go.Proofs.Ytbfigbpjoaccdaa
open Go Go.RowKit Go.Shelf
set_option linter.unusedVariables false
set_option linter.unusedSimpArgs false

theorem netOk_1 {N : NetN} (h : (nIn 1 16 N.w && nIn 1 16 N.h) = false) : netOk N = false := by simp only [netOk, sidesOk, h, Bool.false_and]
theorem netOk_2 {N : NetN} (h : (nIn 1 4 N.gx && nIn 1 4 N.gy) = false) : netOk N = false := by simp only [netOk, sidesOk, h, Bool.false_and, Bool.and_false]
theorem netOk_3 {N : NetN} (h : ¬ N.w % N.gx = 0) : netOk N = false := by simp only [netOk, sidesOk, decide_eq_false h, Bool.false_and, Bool.and_false]
theorem netOk_4 {N : NetN} (h : ¬ N.h % N.gy = 0) : netOk N = false := by simp only [netOk, sidesOk, decide_eq_false h, Bool.false_and, Bool.and_false]
theorem netOk_5 {N : NetN} (h : nIn 1 3 (N.Ls.length : Int) = false) : netOk N = false := by
  have : (decide (1 ≤ N.Ls.length) && decide (N.Ls.length ≤ 3)) = false := by
    rw [← h]; simp only [nIn]
    congr 1 <;> exact decide_eq_decide.2 (by omega)
  simp only [netOk, sidesOk, this, Bool.false_and, Bool.and_false]
theorem netOk_6 {N : NetN} {k : Nat} (hk : k < N.Ls.length) (h : lyOk (widthN N.nf N.Ls k) (layAt N.Ls k) = false) : netOk N = false := by
  have : lysOk N.nf N.Ls = false := allTo_false hk h
  simp only [netOk, this, Bool.false_and, Bool.and_false]
theorem netOk_7 {N : NetN} (h : ¬ widthN N.nf N.Ls N.Ls.length = 1) : netOk N = false := by simp only [netOk, endOk, decide_eq_false h, Bool.false_and, Bool.and_false]
theorem netOk_8 {N : NetN} (h : ¬ N.low < N.high) : netOk N = false := by simp only [netOk, endOk, decide_eq_false h, Bool.false_and, Bool.and_false]
theorem netOk_9 {N : NetN} (h : (nIn (-1152921504606846976) 1152921504606846976 N.low && nIn (-1152921504606846976) 1152921504606846976 N.high) = false) : netOk N = false := by simp only [netOk, endOk, h, Bool.and_false]
theorem netOk_yes {N : NetN} (h1 : (nIn 1 16 N.w && nIn 1 16 N.h) = true) (h2 : (nIn 1 4 N.gx && nIn 1 4 N.gy) = true) (h3 : N.w % N.gx = 0) (h4 : N.h % N.gy = 0) (h5 : nIn 1 3 (N.Ls.length : Int) = true)
    (h6 : allTo (fun k => lyOk (widthN N.nf N.Ls k) (layAt N.Ls k)) N.Ls.length = true) (h7 : widthN N.nf N.Ls N.Ls.length = 1) (h8 : N.low < N.high)
    (h9 : (nIn (-1152921504606846976) 1152921504606846976 N.low && nIn (-1152921504606846976) 1152921504606846976 N.high) = true) : netOk N = true := by
  have := nIn_true.1 h5
  simp only [netOk, sidesOk, endOk, lysOk, h1, h2, h6, h9, decide_eq_true h3, decide_eq_true h4, decide_eq_true h7, decide_eq_true h8, decide_eq_true (show 1 ≤ N.Ls.length by omega), decide_eq_true (show N.Ls.length ≤ 3 by omega), Bool.and_self]
theorem lyOk_1 {b : Nat} {L : LayN} (h : nIn 1 8 (L.bs.length : Int) = false) : lyOk b L = false := by
  have : (decide (1 ≤ L.bs.length) && decide (L.bs.length ≤ 8)) = false := by
    rw [← h]; simp only [nIn]
    congr 1 <;> exact decide_eq_decide.2 (by omega)
  simp only [lyOk, this, Bool.false_and]
theorem lyOk_2 {b : Nat} {L : LayN} (h : ¬ L.ws.length = L.bs.length) : lyOk b L = false := by simp only [lyOk, decide_eq_false h, Bool.false_and, Bool.and_false]
theorem lyOk_3 {b : Nat} {L : LayN} (h : allIn (-1000000) 1000000 L.bs = false) : lyOk b L = false := by simp only [lyOk, h, Bool.false_and, Bool.and_false]
theorem lyOk_4 {b : Nat} {L : LayN} {k : Nat} (hk : k < L.ws.length) (h : ¬ (L.ws[k]?.getD []).length = b) : lyOk b L = false := by
  have : allTo (fun r => wRowOk b (L.ws[r]?.getD [])) L.ws.length = false := allTo_false hk (by simp only [wRowOk, decide_eq_false h, Bool.false_and])
  simp only [lyOk, this, Bool.and_false]
theorem lyOk_5 {b : Nat} {L : LayN} {k : Nat} (hk : k < L.ws.length) (h : allIn (-1000) 1000 (L.ws[k]?.getD []) = false) : lyOk b L = false := by
  have : allTo (fun r => wRowOk b (L.ws[r]?.getD [])) L.ws.length = false := allTo_false hk (by simp only [wRowOk, h, Bool.and_false])
  simp only [lyOk, this, Bool.and_false]
theorem lyOk_yes {b : Nat} {L : LayN} (h1 : nIn 1 8 (L.bs.length : Int) = true) (h2 : L.ws.length = L.bs.length) (h3 : allIn (-1000000) 1000000 L.bs = true) (h4 : allTo (fun r => wRowOk b (L.ws[r]?.getD [])) L.ws.length = true) : lyOk b L = true := by
  have := nIn_true.1 h1
  simp only [lyOk, h3, h4, decide_eq_true h2, decide_eq_true (show 1 ≤ L.bs.length by omega), decide_eq_true (show L.bs.length ≤ 8 by omega), Bool.and_self]

set_option maxRecDepth 100000 in
set_option maxHeartbeats 8000000 in
theorem CheckNetwork_any (N : NetN) (a : Option Addr) (n c : Nat) (hn : N.Ls.length = n) (hz : NetSz N) (w : World) (hr : RdLs w.heap.size w a N.Ls) (v : Bool) (hv : netOk N = v) :
    Calls Try.prog 10 #[netv N a n c] w fun e w' => e = .returned (.int .i64 (if v = true then 0 else 80)) ∧ Below w.heap.size w w' := by
  obtain ⟨W, H, GX, GY, Ls, low, high⟩ := N
  have hnH := Lib.hid hn
  have hvH := Lib.hid hv
  have hzn : n ≤ 9223372036854775807 := by rw [← hn]; exact hz.n
  have hzH := Lib.hid hz
  clear hn hv hz
  simp only at hnH hr
  have tok1 : True := trivial
  have tok2 : True := trivial
  have tok3 : True := trivial
  have tok4 : True := trivial
  have tok5 : True := trivial
  have tok6 : True := trivial
  have tok7 : True := trivial
  have tok8 : True := trivial
  have tok9 : True := trivial
  cases h1 : (nIn 1 16 W && nIn 1 16 H) with
  | false =>
    have hvf : v = false := by rw [← hvH.out]; exact netOk_1 h1
    subst hvf
    have h1H := Lib.hid h1
    clear h1 hvH hr hzH hnH
    go_enter Try.func10, Try.ntmps10
    go_wp2_with (go_at_call 23; have _t := tok1; refine (jw2 1 16 W H false h1H.out _ _ _ _ (cell_new (by simp) rfl) (cell_new (by simp) rfl)).mono ?_; clear _t tok1; rintro e w' ⟨rfl, rfl⟩)
    go_ret
    exact ⟨rfl, (jb_al (jb_al (Below.refl _ w) _) _)⟩
  | true =>
  cases h2 : (nIn 1 4 GX && nIn 1 4 GY) with
  | false =>
    have hvf : v = false := by rw [← hvH.out]; exact netOk_2 h2
    subst hvf
    have h1H := Lib.hid h1
    have h2H := Lib.hid h2
    clear h1 h2 hvH hr hzH hnH
    go_enter Try.func10, Try.ntmps10
    go_wp2_with (first
      | (go_at_call 23; have _t := tok1; refine (jw2 1 16 W H true h1H.out _ _ _ _ (cell_new (by simp) rfl) (cell_new (by simp) rfl)).mono ?_; clear _t tok1; rintro e w' ⟨rfl, rfl⟩)
      | (go_at_call 23; have _t := tok2; refine (jw2 1 4 GX GY false h2H.out _ _ _ _ (cell_new (by simp) rfl) (cell_new (by simp) rfl)).mono ?_; clear _t tok2; rintro e w' ⟨rfl, rfl⟩))
    go_ret
    exact ⟨rfl, (jb_al (jb_al (jb_al (Below.refl _ w) _) _) _)⟩
  | true =>
  have g1 := h1
  have g2 := h2
  simp only [Bool.and_eq_true, nIn_true] at g1 g2
  obtain ⟨⟨gw1, gw2⟩, gh1, gh2⟩ := g1
  obtain ⟨⟨gx1, gx2⟩, gy1, gy2⟩ := g2
  have h1H := Lib.hid h1
  have h2H := Lib.hid h2
  clear h1 h2
  obtain ⟨r1, hq1⟩ : ∃ r, W.tmod GX = r := ⟨_, rfl⟩
  obtain ⟨r2, hq2⟩ : ∃ r, H.tmod GY = r := ⟨_, rfl⟩
  have hm1 : W % GX = r1 := by rw [← hq1, Int.tmod_eq_emod_of_nonneg (by omega)]
  have hm2 : H % GY = r2 := by rw [← hq2, Int.tmod_eq_emod_of_nonneg (by omega)]
  have hm1H := Lib.hid hm1
  have hm2H := Lib.hid hm2
  clear hm1 hm2
  by_cases h3 : r1 = 0
  case neg =>
    have h3' : (r1 != 0) = true := by simpa using h3
    have hvf : v = false := by rw [← hvH.out]; exact netOk_3 (by show ¬ W % GX = 0; rw [hm1H.out]; exact h3)
    subst hvf
    clear  hvH hr hzH hnH
    go_enter Try.func10, Try.ntmps10
    go_wp2_with (first
      | (go_at_call 23; have _t := tok1; refine (jw2 1 16 W H true h1H.out _ _ _ _ (cell_new (by simp) rfl) (cell_new (by simp) rfl)).mono ?_; clear _t tok1; rintro e w' ⟨rfl, rfl⟩)
      | (go_at_call 23; have _t := tok2; refine (jw2 1 4 GX GY true h2H.out _ _ _ _ (cell_new (by simp) rfl) (cell_new (by simp) rfl)).mono ?_; clear _t tok2; rintro e w' ⟨rfl, rfl⟩))
    go_ret
    exact ⟨rfl, (jb_al (jb_al (jb_al (Below.refl _ w) _) _) _)⟩
  case pos =>
  subst h3
  by_cases h4 : r2 = 0
  case neg =>
    have h4' : (r2 != 0) = true := by simpa using h4
    have hvf : v = false := by rw [← hvH.out]; exact netOk_4 (by show ¬ H % GY = 0; rw [hm2H.out]; exact h4)
    subst hvf
    clear  hvH hr hzH hnH
    go_enter Try.func10, Try.ntmps10
    go_wp2_with (first
      | (go_at_call 23; have _t := tok1; refine (jw2 1 16 W H true h1H.out _ _ _ _ (cell_new (by simp) rfl) (cell_new (by simp) rfl)).mono ?_; clear _t tok1; rintro e w' ⟨rfl, rfl⟩)
      | (go_at_call 23; have _t := tok2; refine (jw2 1 4 GX GY true h2H.out _ _ _ _ (cell_new (by simp) rfl) (cell_new (by simp) rfl)).mono ?_; clear _t tok2; rintro e w' ⟨rfl, rfl⟩))
    go_ret
    exact ⟨rfl, (jb_al (jb_al (jb_al (Below.refl _ w) _) _) _)⟩
  case pos =>
  subst h4
  cases h5 : nIn 1 3 (n : Int) with
  | false =>
    have hvf : v = false := by rw [← hvH.out]; exact netOk_5 (by show nIn 1 3 (Ls.length : Int) = false; rw [hnH.out]; exact h5)
    subst hvf
    have h5H := Lib.hid h5
    clear h5 hvH hr hzH hnH
    go_enter Try.func10, Try.ntmps10
    go_wp2_with (first
      | (go_at_call 23; have _t := tok1; refine (jw2 1 16 W H true h1H.out _ _ _ _ (cell_new (by simp) rfl) (cell_new (by simp) rfl)).mono ?_; clear _t tok1; rintro e w' ⟨rfl, rfl⟩)
      | (go_at_call 23; have _t := tok2; refine (jw2 1 4 GX GY true h2H.out _ _ _ _ (cell_new (by simp) rfl) (cell_new (by simp) rfl)).mono ?_; clear _t tok2; rintro e w' ⟨rfl, rfl⟩)
      | (go_at_call 23; have _t := tok3; refine (jw1 1 3 (n : Int) false h5H.out _ _ _ _ (cell_new (by simp) rfl)).mono ?_; clear _t tok3; rintro e w' ⟨rfl, rfl⟩))
    go_ret
    exact ⟨rfl, (jb_al (jb_al (jb_al (jb_al (Below.refl _ w) _) _) _) _)⟩
  | true =>
  have g5 := nIn_true.1 h5
  have h5H := Lib.hid h5
  clear h5
  obtain ⟨m, hm⟩ : ∃ m : Nat, (m : Int) = GX * GY := ⟨(GX * GY).toNat, by
    have : 1 * 1 ≤ GX * GY := Int.mul_le_mul (by omega) (by omega) (by omega) (by omega)
    omega⟩
  have hm16 : GX * GY ≤ 4 * 4 := Int.mul_le_mul (by omega) (by omega) (by omega) (by omega)
  have hm0 : 1 * 1 ≤ GX * GY := Int.mul_le_mul (by omega) (by omega) (by omega) (by omega)
  have hmm : GX * GY = (m : Int) := hm.symm
  have hnf : NetN.nf ⟨W, H, GX, GY, Ls, low, high⟩ = m := by unfold NetN.nf; simp only; omega
  rw [hmm] at hm16 hm0
  have hnfH := Lib.hid hnf
  clear hm hnf
  go_enter Try.func10, Try.ntmps10
  go_wp2_with (first
    | (go_at_call 23; have _t := tok1; refine (jw2 1 16 W H true h1H.out _ _ _ _ (cell_new (by simp) rfl) (cell_new (by simp) rfl)).mono ?_; clear _t tok1; rintro e w' ⟨rfl, rfl⟩)
    | (go_at_call 23; have _t := tok2; refine (jw2 1 4 GX GY true h2H.out _ _ _ _ (cell_new (by simp) rfl) (cell_new (by simp) rfl)).mono ?_; clear _t tok2; rintro e w' ⟨rfl, rfl⟩)
    | (go_at_call 23; have _t := tok3; refine (jw1 1 3 (n : Int) true h5H.out _ _ _ _ (cell_new (by simp) rfl)).mono ?_; clear _t tok3; rintro e w' ⟨rfl, rfl⟩))
  go_loopw [3, 56] (fun b i wr => ∃ k : Nat, k ≤ n ∧ i = .int .i64 (k : Int) ∧ b = .int .i64 ((widthN m Ls k : Nat) : Int) ∧ Hid (allTo (fun k => lyOk (widthN m Ls k) (layAt Ls k)) k = true) ∧ Below w.heap.size w wr ∧ Blk wr w.heap.size 24 #[.int .i64 W, .int .i64 H, .int .i64 GX, .int .i64 GY, .slice a n c, .int .i64 low, .int .i64 high]) (fun _ i _ => n - (intOf i).toNat)
  case atStart => exact ⟨0, Nat.zero_le _, rfl, rfl, Lib.hid rfl, (jb_al (jb_al (jb_al (jb_al (Below.refl _ w) _) _) _) _), (((Blk.new w _ _).alloc _).alloc _).alloc _⟩
  case round =>
    obtain ⟨k, hk, rfl, rfl, hall, hB, kb⟩ := hrel
    by_cases hlt : k < n
    case pos =>
      have hkl : k < Ls.length := by have := hnH.out; omega
      have hrw : RdLs wr.heap.size wr a Ls := (hr.below (Nat.le_refl _) hB).mono hB.size
      obtain ⟨b, o, rfl, hb, wa, wc, ba, bc, hc1, hc2, hws, hbs⟩ := hrw.at hkl
      obtain ⟨z1, z2⟩ := hzH.out.ly k
      have z3 := hzH.out.row k
      simp only at z1 z2 z3
      obtain ⟨L, hL⟩ : ∃ L, layAt Ls k = L := ⟨_, rfl⟩
      obtain ⟨B, hBe⟩ : ∃ B, widthN m Ls k = B := ⟨_, rfl⟩
      have hbad : lyOk B L = false → v = false := fun h => by rw [← hvH.out]; exact netOk_6 (N := ⟨W, H, GX, GY, Ls, low, high⟩) (k := k) hkl (by rw [hnfH.out]; show lyOk (widthN m Ls k) (layAt Ls k) = false; rw [hL, hBe]; exact h)
      rw [hL] at hc1 hc2 hws hbs z1 z2 z3
      rw [hBe]
      obtain ⟨wl, hwl⟩ : ∃ x, L.ws.length = x := ⟨_, rfl⟩
      obtain ⟨bl, hbl⟩ : ∃ x, L.bs.length = x := ⟨_, rfl⟩
      rw [hwl] at hc1 z1
      rw [hbl] at hc2 z2
      have hLH := Lib.hid hL
      have hBH := Lib.hid hBe
      have hwlH := Lib.hid hwl
      have hblH := Lib.hid hbl
      have z3H := Lib.hid z3
      have hbadH := Lib.hid hbad
      have hrwH := Lib.hid hrw
      have kbH := Lib.hid kb
      clear hL hBe hwl hbl z3 hbad hrw kb
      obtain ⟨W1, hW1⟩ : ∃ X, wr.alloc (.cells #[.slice wa wl wc, .slice ba bl bc] 61) = X := ⟨_, rfl⟩
      obtain ⟨W2, hW2⟩ : ∃ X, W1.alloc (.cells #[.int .i64 (bl : Int)] 3) = X := ⟨_, rfl⟩
      have hb12 : Below wr.heap.size wr W2 := by rw [← hW2, ← hW1]; exact jb_al (jb_al (Below.refl _ wr) _) _
      have kl := (Blk.new wr 61 #[.slice wa wl wc, .slice ba bl bc]).alloc (.cells #[.int .i64 (bl : Int)] 3)
      have kl1 := Blk.new wr 61 #[.slice wa wl wc, .slice ba bl bc]
      rw [hW1] at kl1
      have m0 := kl1.cell (i := 0) rfl
      have m1 := kl1.cell (i := 1) rfl
      have ks := Blk.new W1 3 #[.int .i64 (bl : Int)]
      rw [hW1, hW2] at kl
      rw [hW2] at ks
      have hB2 : Below w.heap.size w W2 := hB.trans (hb12.mono hB.size)
      have l0 := kl.cell (i := 0) rfl
      have l1 := kl.cell (i := 1) rfl
      have s0 := ks.cell (i := 0) rfl
      have hws2 := later_w hws hb12
      have hbs2 := later_i hbs hb12
      have kb2H := Lib.hid (kbH.out.below hb12 (by have := kbH.out.lt; omega))
      have hws2H := Lib.hid hws2
      have hbs2H := Lib.hid hbs2
      have klH := Lib.hid kl
      have s0H := Lib.hid s0
      clear kl kl1 ks hws hbs hws2 hbs2 hb12 hrwH kbH s0
      cases e1 : nIn 1 8 (bl : Int) with
      | false =>
        have hvf := hbadH.out (lyOk_1 (by rw [hblH.out]; exact e1))
        subst hvf
        have e1H := Lib.hid e1
        clear e1
        go_wp2_with (go_at_call 23; have _t := tok4; refine (jw1 1 8 _ false e1H.out _ _ _ _ s0H.out).mono ?_; clear _t tok4; rintro e w' ⟨rfl, rfl⟩)
        go_ret
        exact ⟨rfl, hB2⟩
      | true =>
      have e1H := Lib.hid e1
      clear e1
      by_cases e2 : wl = bl
      case neg =>
        have hvf := hbadH.out (lyOk_2 (by rw [hwlH.out, hblH.out]; exact e2))
        subst hvf
        have e2' : ((wl : Int) != (bl : Int)) = true := by simp; omega
        have e2'' : ¬ ((wl : Int) = (bl : Int)) := by omega
        go_wp2_with (go_at_call 23; have _t := tok4; refine (jw1 1 8 _ true e1H.out _ _ _ _ s0H.out).mono ?_; clear _t tok4; rintro e w' ⟨rfl, rfl⟩)
        go_ret
        exact ⟨rfl, hB2⟩
      subst e2
      cases e3 : allIn (-1000000) 1000000 L.bs with
      | false =>
        have hvf := hbadH.out (lyOk_3 e3)
        subst hvf
        have e3H := Lib.hid e3
        clear e3
        go_wp2_with (first
          | (go_at_call 23; have _t := tok4; refine (jw1 1 8 _ true e1H.out _ _ _ _ s0H.out).mono ?_; clear _t tok4; rintro e w' ⟨rfl, rfl⟩)
          | (go_at_call 23; have _t := tok5; refine (jwn (-1000000) 1000000 false L.bs e3H.out ba bc _ hblH.out z2 W2 hbs2H.out).mono ?_; clear _t tok5; rintro e w' ⟨rfl, rfl⟩))
        go_ret
        exact ⟨rfl, hB2⟩
      | true =>
      have e3H := Lib.hid e3
      clear e3
      go_wp2_with (first
        | (go_at_call 23; have _t := tok4; refine (jw1 1 8 _ true e1H.out _ _ _ _ s0H.out).mono ?_; clear _t tok4; rintro e w' ⟨rfl, rfl⟩)
        | (go_at_call 23; have _t := tok5; refine (jwn (-1000000) 1000000 true L.bs e3H.out ba bc _ hblH.out z2 W2 hbs2H.out).mono ?_; clear _t tok5; rintro e w' ⟨rfl, rfl⟩))
      clear hW1 hW2
      go_loop [84] (fun i => ∃ j : Nat, j ≤ wl ∧ i = .int .i64 (j : Int) ∧ Hid (allTo (fun r => wRowOk B (L.ws[r]?.getD [])) j = true)) (fun i => wl - (intOf i).toNat)
      case atStart => exact ⟨0, Nat.zero_le _, rfl, Lib.hid rfl⟩
      case round =>
        obtain ⟨j, hj, rfl, hrows⟩ := hrel
        by_cases hlt2 : j < wl
        case pos =>
          have hjl : j < L.ws.length := by have := hwlH.out; omega
          obtain ⟨b2, o2, rfl, hb2, ra, rc, hc3, hrow⟩ := hws2H.out.at hjl
          have z3 := z3H.out j
          obtain ⟨r, hre⟩ : ∃ r, L.ws[j]?.getD [] = r := ⟨_, rfl⟩
          rw [hre] at hc3 hrow z3
          obtain ⟨rl, hrl⟩ : ∃ x, r.length = x := ⟨_, rfl⟩
          rw [hrl] at hc3 z3
          have hreH := Lib.hid hre
          have hrlH := Lib.hid hrl
          have hrowH := Lib.hid hrow
          clear hre hrl hrow
          by_cases f1 : rl = B
          case neg =>
            have hvf := hbadH.out (lyOk_4 hjl (by rw [hreH.out, hrlH.out]; exact f1))
            subst hvf
            have f1' : ((rl : Int) != (B : Int)) = true := by simp; omega
            have f1'' : ¬ ((rl : Int) = (B : Int)) := by omega
            go_wp2_with fail
            go_ret
            exact ⟨rfl, hB2⟩
          subst f1
          cases f2 : allIn (-1000) 1000 r with
          | false =>
            have hvf := hbadH.out (lyOk_5 hjl (by rw [hreH.out]; exact f2))
            subst hvf
            have f2H := Lib.hid f2
            clear f2
            go_wp2_with (go_at_call 23; have _t := tok6; refine (jwn (-1000) 1000 false r f2H.out ra rc _ hrlH.out z3 W2 hrowH.out).mono ?_; clear _t tok6; rintro e w' ⟨rfl, rfl⟩)
            go_ret
            exact ⟨rfl, hB2⟩
          | true =>
            have f2H := Lib.hid f2
            clear f2
            go_wp2_with (go_at_call 23; have _t := tok6; refine (jwn (-1000) 1000 true r f2H.out ra rc _ hrlH.out z3 W2 hrowH.out).mono ?_; clear _t tok6; rintro e w' ⟨rfl, rfl⟩)
            go_round
            case rel => exact ⟨j + 1, by omega, by go_num, Lib.hid (allTo_succ hrows.out (by show wRowOk rl (L.ws[j]?.getD []) = true; unfold wRowOk; rw [hreH.out, hrlH.out, f2H.out]; simp))⟩
            case measure => simp [intOf]; omega
        case neg =>
          have hjw : j = wl := by omega
          subst hjw
          have hly : lyOk B L = true := lyOk_yes (by rw [hblH.out]; exact e1H.out) (by rw [hwlH.out, hblH.out]) e3H.out (by rw [hwlH.out]; exact hrows.out)
          have hlyH := Lib.hid hly
          clear hly hrows
          go_wp2_with fail
          go_roundw
          case rel => exact ⟨k + 1, by omega, by go_num, by show Value.int .i64 (j : Int) = .int .i64 (((layAt Ls k).bs.length : Nat) : Int); rw [hLH.out, hblH.out], Lib.hid (allTo_succ hall.out (by show lyOk (widthN m Ls k) (layAt Ls k) = true; rw [hLH.out, hBH.out]; exact hlyH.out)), hB2, kb2H.out⟩
          case measure => simp [intOf]; omega
    case neg =>
      have hkn : k = n := by omega
      subst hkn
      obtain ⟨B, hBe⟩ : ∃ B, widthN m Ls k = B := ⟨_, rfl⟩
      have hwid : widthN (NetN.nf ⟨W, H, GX, GY, Ls, low, high⟩) Ls Ls.length = B := by rw [hnfH.out, hnH.out]; exact hBe
      rw [hBe]
      have hwidH := Lib.hid hwid
      have hallH := Lib.hid (show allTo (fun k => lyOk (widthN (NetN.nf ⟨W, H, GX, GY, Ls, low, high⟩) Ls k) (layAt Ls k)) Ls.length = true by rw [hnfH.out, hnH.out]; exact hall.out)
      have hBeH := Lib.hid hBe
      have c5 := kb.cell (i := 5) rfl
      have c6 := kb.cell (i := 6) rfl
      have hB3 : Below w.heap.size w (wr.alloc (.cells #[.int .i64 low, .int .i64 high] 3)) := jb_al hB _
      clear hBe hwid hall kb
      by_cases f1 : B = 1
      case neg =>
        have hvf : v = false := by rw [← hvH.out]; exact netOk_7 (by show ¬ widthN _ Ls Ls.length = 1; rw [hwidH.out]; exact f1)
        subst hvf
        have f1' : ((B : Int) != (1 : Int)) = true := by simp; omega
        have f1'' : ¬ ((B : Int) = (1 : Int)) := by omega
        go_wp2_with fail
        go_ret
        exact ⟨rfl, hB⟩
      subst f1
      by_cases f2 : low < high
      case neg =>
        have hvf : v = false := by rw [← hvH.out]; exact netOk_8 f2
        subst hvf
        go_wp2_with fail
        go_ret
        exact ⟨rfl, hB⟩
      cases f3 : (nIn (-1152921504606846976) 1152921504606846976 low && nIn (-1152921504606846976) 1152921504606846976 high) with
      | false =>
        have hvf : v = false := by rw [← hvH.out]; exact netOk_9 f3
        subst hvf
        have f3H := Lib.hid f3
        clear f3
        go_wp2_with (go_at_call 23; have _t := tok7; refine (jw2 (-1152921504606846976) 1152921504606846976 low high false f3H.out _ _ _ _ (cell_new (by simp) rfl) (cell_new (by simp) rfl)).mono ?_; clear _t tok7; rintro e w' ⟨rfl, rfl⟩)
        go_ret
        exact ⟨rfl, hB3⟩
      | true =>
        have hvf : v = true := by
          rw [← hvH.out]
          exact netOk_yes h1H.out h2H.out hm1H.out hm2H.out (by show nIn 1 3 (Ls.length : Int) = true; rw [hnH.out]; exact h5H.out) hallH.out hwidH.out f2 f3
        subst hvf
        have f3H := Lib.hid f3
        clear f3
        go_wp2_with (go_at_call 23; have _t := tok7; refine (jw2 (-1152921504606846976) 1152921504606846976 low high true f3H.out _ _ _ _ (cell_new (by simp) rfl) (cell_new (by simp) rfl)).mono ?_; clear _t tok7; rintro e w' ⟨rfl, rfl⟩)
        go_ret
        exact ⟨rfl, hB3⟩

end Go.Proofs.Ytbfigbpjoaccdaa

/- Contracts and laws (Cn, Cr, ImgJ, Cam, SpL). -/
import Derived.Test.YtbdnjhnlfpfhcaaGreatQE6
import Derived.Test.YtbdnjhnlfpfhcaaGreatQE4
namespace Go.Proofs.YtbdnjhnlfpfhcaaGreat
open Go Go.RowKit Go.Shelf
set_option linter.unusedVariables false
set_option linter.unusedSimpArgs false

theorem netOk_1 {N : NetN} (h : (nIn 1 16 N.w && nIn 1 16 N.h) = false) : netOk N = false := by simp only [netOk, sidesOk, h, Bool.false_and]
theorem netOk_2 {N : NetN} (h : (nIn 1 4 N.gx && nIn 1 4 N.gy) = false) : netOk N = false := by simp only [netOk, sidesOk, h, Bool.false_and, Bool.and_false]
theorem netOk_3 {N : NetN} (h : ¬ N.w % N.gx = 0) : netOk N = false := by simp only [netOk, sidesOk, decide_eq_false h, Bool.false_and, Bool.and_false]
theorem netOk_4 {N : NetN} (h : ¬ N.h % N.gy = 0) : netOk N = false := by simp only [netOk, sidesOk, decide_eq_false h, Bool.false_and, Bool.and_false]
theorem netOk_5 {N : NetN} (h : nIn 1 3 (N.Ls.length : Int) = false) : netOk N = false := by
  have : (decide (1 ≤ N.Ls.length) && decide (N.Ls.length ≤ 3)) = false := by
    rw [← h]; simp only [nIn]
    congr 1 <;> exact decide_eq_decide.2 (by omega)
  simp only [netOk, sidesOk, this, Bool.false_and, Bool.and_false]
theorem netOk_6 {N : NetN} {k : Nat} (hk : k < N.Ls.length) (h : lyOk (widthN N.nf N.Ls k) (layAt N.Ls k) = false) : netOk N = false := by
  have : lysOk N.nf N.Ls = false := allTo_false hk h
  simp only [netOk, this, Bool.false_and, Bool.and_false]
theorem netOk_7 {N : NetN} (h : ¬ widthN N.nf N.Ls N.Ls.length = 1) : netOk N = false := by simp only [netOk, endOk, decide_eq_false h, Bool.false_and, Bool.and_false]
theorem netOk_8 {N : NetN} (h : ¬ N.low < N.high) : netOk N = false := by simp only [netOk, endOk, decide_eq_false h, Bool.false_and, Bool.and_false]
theorem netOk_9 {N : NetN} (h : (nIn (-1152921504606846976) 1152921504606846976 N.low && nIn (-1152921504606846976) 1152921504606846976 N.high) = false) : netOk N = false := by simp only [netOk, endOk, h, Bool.and_false]
theorem netOk_yes {N : NetN} (h1 : (nIn 1 16 N.w && nIn 1 16 N.h) = true) (h2 : (nIn 1 4 N.gx && nIn 1 4 N.gy) = true) (h3 : N.w % N.gx = 0) (h4 : N.h % N.gy = 0) (h5 : nIn 1 3 (N.Ls.length : Int) = true)
    (h6 : allTo (fun k => lyOk (widthN N.nf N.Ls k) (layAt N.Ls k)) N.Ls.length = true) (h7 : widthN N.nf N.Ls N.Ls.length = 1) (h8 : N.low < N.high)
    (h9 : (nIn (-1152921504606846976) 1152921504606846976 N.low && nIn (-1152921504606846976) 1152921504606846976 N.high) = true) : netOk N = true := by
  have := nIn_true.1 h5
  simp only [netOk, sidesOk, endOk, lysOk, h1, h2, h6, h9, decide_eq_true h3, decide_eq_true h4, decide_eq_true h7, decide_eq_true h8, decide_eq_true (show 1 ≤ N.Ls.length by omega), decide_eq_true (show N.Ls.length ≤ 3 by omega), Bool.and_self]
theorem lyOk_1 {b : Nat} {L : LayN} (h : nIn 1 8 (L.bs.length : Int) = false) : lyOk b L = false := by
  have : (decide (1 ≤ L.bs.length) && decide (L.bs.length ≤ 8)) = false := by
    rw [← h]; simp only [nIn]
    congr 1 <;> exact decide_eq_decide.2 (by omega)
  simp only [lyOk, this, Bool.false_and]
theorem lyOk_2 {b : Nat} {L : LayN} (h : ¬ L.ws.length = L.bs.length) : lyOk b L = false := by simp only [lyOk, decide_eq_false h, Bool.false_and, Bool.and_false]
theorem lyOk_3 {b : Nat} {L : LayN} (h : allIn (-1000000) 1000000 L.bs = false) : lyOk b L = false := by simp only [lyOk, h, Bool.false_and, Bool.and_false]
theorem lyOk_4 {b : Nat} {L : LayN} {k : Nat} (hk : k < L.ws.length) (h : ¬ (L.ws[k]?.getD []).length = b) : lyOk b L = false := by
  have : allTo (fun r => wRowOk b (L.ws[r]?.getD [])) L.ws.length = false := allTo_false hk (by simp only [wRowOk, decide_eq_false h, Bool.false_and])
  simp only [lyOk, this, Bool.and_false]
theorem lyOk_5 {b : Nat} {L : LayN} {k : Nat} (hk : k < L.ws.length) (h : allIn (-1000) 1000 (L.ws[k]?.getD []) = false) : lyOk b L = false := by
  have : allTo (fun r => wRowOk b (L.ws[r]?.getD [])) L.ws.length = false := allTo_false hk (by simp only [wRowOk, h, Bool.and_false])
  simp only [lyOk, this, Bool.and_false]
theorem lyOk_yes {b : Nat} {L : LayN} (h1 : nIn 1 8 (L.bs.length : Int) = true) (h2 : L.ws.length = L.bs.length) (h3 : allIn (-1000000) 1000000 L.bs = true) (h4 : allTo (fun r => wRowOk b (L.ws[r]?.getD [])) L.ws.length = true) : lyOk b L = true := by
  have := nIn_true.1 h1
  simp only [lyOk, h3, h4, decide_eq_true h2, decide_eq_true (show 1 ≤ L.bs.length by omega), decide_eq_true (show L.bs.length ≤ 8 by omega), Bool.and_self]

set_option maxRecDepth 100000 in
set_option maxHeartbeats 8000000 in
theorem CheckNetwork_any (N : NetN) (a : Option Addr) (n c : Nat) (hn : N.Ls.length = n) (hz : NetSz N) (w : World) (hr : RdLs w.heap.size w a N.Ls) (v : Bool) (hv : netOk N = v) :
    Calls Tryz.prog 62 #[netv N a n c] w fun e w' => e = .returned (.int .i64 (if v = true then 0 else 80)) ∧ Below w.heap.size w w' := by
  obtain ⟨W, H, GX, GY, Ls, low, high⟩ := N
  have hnH := Lib.hid hn
  have hvH := Lib.hid hv
  have hzn : n ≤ 9223372036854775807 := by rw [← hn]; exact hz.n
  have hzH := Lib.hid hz
  clear hn hv hz
  simp only at hnH hr
  have tok1 : True := trivial
  have tok2 : True := trivial
  have tok3 : True := trivial
  have tok4 : True := trivial
  have tok5 : True := trivial
  have tok6 : True := trivial
  have tok7 : True := trivial
  have tok8 : True := trivial
  have tok9 : True := trivial
  cases h1 : (nIn 1 16 W && nIn 1 16 H) with
  | false =>
    have hvf : v = false := by rw [← hvH.out]; exact netOk_1 h1
    subst hvf
    have h1H := Lib.hid h1
    clear h1 hvH hr hzH hnH
    go_enter Tryz.func62, Tryz.ntmps62
    go_wp2_with (go_at_call 23; have _t := tok1; refine (jw2 1 16 W H false h1H.out _ _ _ _ (cell_new (by simp) rfl) (cell_new (by simp) rfl)).mono ?_; clear _t tok1; rintro e w' ⟨rfl, rfl⟩)
    go_ret
    exact ⟨rfl, (jb_al (jb_al (Below.refl _ w) _) _)⟩
  | true =>
  cases h2 : (nIn 1 4 GX && nIn 1 4 GY) with
  | false =>
    have hvf : v = false := by rw [← hvH.out]; exact netOk_2 h2
    subst hvf
    have h1H := Lib.hid h1
    have h2H := Lib.hid h2
    clear h1 h2 hvH hr hzH hnH
    go_enter Tryz.func62, Tryz.ntmps62
    go_wp2_with (first
      | (go_at_call 23; have _t := tok1; refine (jw2 1 16 W H true h1H.out _ _ _ _ (cell_new (by simp) rfl) (cell_new (by simp) rfl)).mono ?_; clear _t tok1; rintro e w' ⟨rfl, rfl⟩)
      | (go_at_call 23; have _t := tok2; refine (jw2 1 4 GX GY false h2H.out _ _ _ _ (cell_new (by simp) rfl) (cell_new (by simp) rfl)).mono ?_; clear _t tok2; rintro e w' ⟨rfl, rfl⟩))
    go_ret
    exact ⟨rfl, (jb_al (jb_al (jb_al (Below.refl _ w) _) _) _)⟩
  | true =>
  have g1 := h1
  have g2 := h2
  simp only [Bool.and_eq_true, nIn_true] at g1 g2
  obtain ⟨⟨gw1, gw2⟩, gh1, gh2⟩ := g1
  obtain ⟨⟨gx1, gx2⟩, gy1, gy2⟩ := g2
  have h1H := Lib.hid h1
  have h2H := Lib.hid h2
  clear h1 h2
  obtain ⟨r1, hq1⟩ : ∃ r, W.tmod GX = r := ⟨_, rfl⟩
  obtain ⟨r2, hq2⟩ : ∃ r, H.tmod GY = r := ⟨_, rfl⟩
  have hm1 : W % GX = r1 := by rw [← hq1, Int.tmod_eq_emod_of_nonneg (by omega)]
  have hm2 : H % GY = r2 := by rw [← hq2, Int.tmod_eq_emod_of_nonneg (by omega)]
  have hm1H := Lib.hid hm1
  have hm2H := Lib.hid hm2
  clear hm1 hm2
  by_cases h3 : r1 = 0
  case neg =>
    have h3' : (r1 != 0) = true := by simpa using h3
    have hvf : v = false := by rw [← hvH.out]; exact netOk_3 (by show ¬ W % GX = 0; rw [hm1H.out]; exact h3)
    subst hvf
    clear  hvH hr hzH hnH
    go_enter Tryz.func62, Tryz.ntmps62
    go_wp2_with (first
      | (go_at_call 23; have _t := tok1; refine (jw2 1 16 W H true h1H.out _ _ _ _ (cell_new (by simp) rfl) (cell_new (by simp) rfl)).mono ?_; clear _t tok1; rintro e w' ⟨rfl, rfl⟩)
      | (go_at_call 23; have _t := tok2; refine (jw2 1 4 GX GY true h2H.out _ _ _ _ (cell_new (by simp) rfl) (cell_new (by simp) rfl)).mono ?_; clear _t tok2; rintro e w' ⟨rfl, rfl⟩))
    go_ret
    exact ⟨rfl, (jb_al (jb_al (jb_al (Below.refl _ w) _) _) _)⟩
  case pos =>
  subst h3
  by_cases h4 : r2 = 0
  case neg =>
    have h4' : (r2 != 0) = true := by simpa using h4
    have hvf : v = false := by rw [← hvH.out]; exact netOk_4 (by show ¬ H % GY = 0; rw [hm2H.out]; exact h4)
    subst hvf
    clear  hvH hr hzH hnH
    go_enter Tryz.func62, Tryz.ntmps62
    go_wp2_with (first
      | (go_at_call 23; have _t := tok1; refine (jw2 1 16 W H true h1H.out _ _ _ _ (cell_new (by simp) rfl) (cell_new (by simp) rfl)).mono ?_; clear _t tok1; rintro e w' ⟨rfl, rfl⟩)
      | (go_at_call 23; have _t := tok2; refine (jw2 1 4 GX GY true h2H.out _ _ _ _ (cell_new (by simp) rfl) (cell_new (by simp) rfl)).mono ?_; clear _t tok2; rintro e w' ⟨rfl, rfl⟩))
    go_ret
    exact ⟨rfl, (jb_al (jb_al (jb_al (Below.refl _ w) _) _) _)⟩
  case pos =>
  subst h4
  cases h5 : nIn 1 3 (n : Int) with
  | false =>
    have hvf : v = false := by rw [← hvH.out]; exact netOk_5 (by show nIn 1 3 (Ls.length : Int) = false; rw [hnH.out]; exact h5)
    subst hvf
    have h5H := Lib.hid h5
    clear h5 hvH hr hzH hnH
    go_enter Tryz.func62, Tryz.ntmps62
    go_wp2_with (first
      | (go_at_call 23; have _t := tok1; refine (jw2 1 16 W H true h1H.out _ _ _ _ (cell_new (by simp) rfl) (cell_new (by simp) rfl)).mono ?_; clear _t tok1; rintro e w' ⟨rfl, rfl⟩)
      | (go_at_call 23; have _t := tok2; refine (jw2 1 4 GX GY true h2H.out _ _ _ _ (cell_new (by simp) rfl) (cell_new (by simp) rfl)).mono ?_; clear _t tok2; rintro e w' ⟨rfl, rfl⟩)
      | (go_at_call 23; have _t := tok3; refine (jw1 1 3 (n : Int) false h5H.out _ _ _ _ (cell_new (by simp) rfl)).mono ?_; clear _t tok3; rintro e w' ⟨rfl, rfl⟩))
    go_ret
    exact ⟨rfl, (jb_al (jb_al (jb_al (jb_al (Below.refl _ w) _) _) _) _)⟩
  | true =>
  have g5 := nIn_true.1 h5
  have h5H := Lib.hid h5
  clear h5
  obtain ⟨m, hm⟩ : ∃ m : Nat, (m : Int) = GX * GY := ⟨(GX * GY).toNat, by
    have : 1 * 1 ≤ GX * GY := Int.mul_le_mul (by omega) (by omega) (by omega) (by omega)
    omega⟩
  have hm16 : GX * GY ≤ 4 * 4 := Int.mul_le_mul (by omega) (by omega) (by omega) (by omega)
  have hm0 : 1 * 1 ≤ GX * GY := Int.mul_le_mul (by omega) (by omega) (by omega) (by omega)
  have hmm : GX * GY = (m : Int) := hm.symm
  have hnf : NetN.nf ⟨W, H, GX, GY, Ls, low, high⟩ = m := by unfold NetN.nf; simp only; omega
  rw [hmm] at hm16 hm0
  have hnfH := Lib.hid hnf
  clear hm hnf
  go_enter Tryz.func62, Tryz.ntmps62
  go_wp2_with (first
    | (go_at_call 23; have _t := tok1; refine (jw2 1 16 W H true h1H.out _ _ _ _ (cell_new (by simp) rfl) (cell_new (by simp) rfl)).mono ?_; clear _t tok1; rintro e w' ⟨rfl, rfl⟩)
    | (go_at_call 23; have _t := tok2; refine (jw2 1 4 GX GY true h2H.out _ _ _ _ (cell_new (by simp) rfl) (cell_new (by simp) rfl)).mono ?_; clear _t tok2; rintro e w' ⟨rfl, rfl⟩)
    | (go_at_call 23; have _t := tok3; refine (jw1 1 3 (n : Int) true h5H.out _ _ _ _ (cell_new (by simp) rfl)).mono ?_; clear _t tok3; rintro e w' ⟨rfl, rfl⟩))
  go_loopw [3, 56] (fun b i wr => ∃ k : Nat, k ≤ n ∧ i = .int .i64 (k : Int) ∧ b = .int .i64 ((widthN m Ls k : Nat) : Int) ∧ Hid (allTo (fun k => lyOk (widthN m Ls k) (layAt Ls k)) k = true) ∧ Below w.heap.size w wr ∧ Blk wr w.heap.size 47 #[.int .i64 W, .int .i64 H, .int .i64 GX, .int .i64 GY, .slice a n c, .int .i64 low, .int .i64 high]) (fun _ i _ => n - (intOf i).toNat)
  case atStart => exact ⟨0, Nat.zero_le _, rfl, rfl, Lib.hid rfl, (jb_al (jb_al (jb_al (jb_al (Below.refl _ w) _) _) _) _), (((Blk.new w _ _).alloc _).alloc _).alloc _⟩
  case round =>
    obtain ⟨k, hk, rfl, rfl, hall, hB, kb⟩ := hrel
    by_cases hlt : k < n
    case pos =>
      have hkl : k < Ls.length := by have := hnH.out; omega
      have hrw : RdLs wr.heap.size wr a Ls := (hr.below (Nat.le_refl _) hB).mono hB.size
      obtain ⟨b, o, rfl, hb, wa, wc, ba, bc, hc1, hc2, hws, hbs⟩ := hrw.at hkl
      obtain ⟨z1, z2⟩ := hzH.out.ly k
      have z3 := hzH.out.row k
      simp only at z1 z2 z3
      obtain ⟨L, hL⟩ : ∃ L, layAt Ls k = L := ⟨_, rfl⟩
      obtain ⟨B, hBe⟩ : ∃ B, widthN m Ls k = B := ⟨_, rfl⟩
      have hbad : lyOk B L = false → v = false := fun h => by rw [← hvH.out]; exact netOk_6 (N := ⟨W, H, GX, GY, Ls, low, high⟩) (k := k) hkl (by rw [hnfH.out]; show lyOk (widthN m Ls k) (layAt Ls k) = false; rw [hL, hBe]; exact h)
      rw [hL] at hc1 hc2 hws hbs z1 z2 z3
      rw [hBe]
      obtain ⟨wl, hwl⟩ : ∃ x, L.ws.length = x := ⟨_, rfl⟩
      obtain ⟨bl, hbl⟩ : ∃ x, L.bs.length = x := ⟨_, rfl⟩
      rw [hwl] at hc1 z1
      rw [hbl] at hc2 z2
      have hLH := Lib.hid hL
      have hBH := Lib.hid hBe
      have hwlH := Lib.hid hwl
      have hblH := Lib.hid hbl
      have z3H := Lib.hid z3
      have hbadH := Lib.hid hbad
      have hrwH := Lib.hid hrw
      have kbH := Lib.hid kb
      clear hL hBe hwl hbl z3 hbad hrw kb
      obtain ⟨W1, hW1⟩ : ∃ X, wr.alloc (.cells #[.slice wa wl wc, .slice ba bl bc] 91) = X := ⟨_, rfl⟩
      obtain ⟨W2, hW2⟩ : ∃ X, W1.alloc (.cells #[.int .i64 (bl : Int)] 3) = X := ⟨_, rfl⟩
      have hb12 : Below wr.heap.size wr W2 := by rw [← hW2, ← hW1]; exact jb_al (jb_al (Below.refl _ wr) _) _
      have kl := (Blk.new wr 91 #[.slice wa wl wc, .slice ba bl bc]).alloc (.cells #[.int .i64 (bl : Int)] 3)
      have kl1 := Blk.new wr 91 #[.slice wa wl wc, .slice ba bl bc]
      rw [hW1] at kl1
      have m0 := kl1.cell (i := 0) rfl
      have m1 := kl1.cell (i := 1) rfl
      have ks := Blk.new W1 3 #[.int .i64 (bl : Int)]
      rw [hW1, hW2] at kl
      rw [hW2] at ks
      have hB2 : Below w.heap.size w W2 := hB.trans (hb12.mono hB.size)
      have l0 := kl.cell (i := 0) rfl
      have l1 := kl.cell (i := 1) rfl
      have s0 := ks.cell (i := 0) rfl
      have hws2 := later_w hws hb12
      have hbs2 := later_i hbs hb12
      have kb2H := Lib.hid (kbH.out.below hb12 (by have := kbH.out.lt; omega))
      have hws2H := Lib.hid hws2
      have hbs2H := Lib.hid hbs2
      have klH := Lib.hid kl
      have s0H := Lib.hid s0
      clear kl kl1 ks hws hbs hws2 hbs2 hb12 hrwH kbH s0
      cases e1 : nIn 1 8 (bl : Int) with
      | false =>
        have hvf := hbadH.out (lyOk_1 (by rw [hblH.out]; exact e1))
        subst hvf
        have e1H := Lib.hid e1
        clear e1
        go_wp2_with (go_at_call 23; have _t := tok4; refine (jw1 1 8 _ false e1H.out _ _ _ _ s0H.out).mono ?_; clear _t tok4; rintro e w' ⟨rfl, rfl⟩)
        go_ret
        exact ⟨rfl, hB2⟩
      | true =>
      have e1H := Lib.hid e1
      clear e1
      by_cases e2 : wl = bl
      case neg =>
        have hvf := hbadH.out (lyOk_2 (by rw [hwlH.out, hblH.out]; exact e2))
        subst hvf
        have e2' : ((wl : Int) != (bl : Int)) = true := by simp; omega
        have e2'' : ¬ ((wl : Int) = (bl : Int)) := by omega
        go_wp2_with (go_at_call 23; have _t := tok4; refine (jw1 1 8 _ true e1H.out _ _ _ _ s0H.out).mono ?_; clear _t tok4; rintro e w' ⟨rfl, rfl⟩)
        go_ret
        exact ⟨rfl, hB2⟩
      subst e2
      cases e3 : allIn (-1000000) 1000000 L.bs with
      | false =>
        have hvf := hbadH.out (lyOk_3 e3)
        subst hvf
        have e3H := Lib.hid e3
        clear e3
        go_wp2_with (first
          | (go_at_call 23; have _t := tok4; refine (jw1 1 8 _ true e1H.out _ _ _ _ s0H.out).mono ?_; clear _t tok4; rintro e w' ⟨rfl, rfl⟩)
          | (go_at_call 23; have _t := tok5; refine (jwn (-1000000) 1000000 false L.bs e3H.out ba bc _ hblH.out z2 W2 hbs2H.out).mono ?_; clear _t tok5; rintro e w' ⟨rfl, rfl⟩))
        go_ret
        exact ⟨rfl, hB2⟩
      | true =>
      have e3H := Lib.hid e3
      clear e3
      go_wp2_with (first
        | (go_at_call 23; have _t := tok4; refine (jw1 1 8 _ true e1H.out _ _ _ _ s0H.out).mono ?_; clear _t tok4; rintro e w' ⟨rfl, rfl⟩)
        | (go_at_call 23; have _t := tok5; refine (jwn (-1000000) 1000000 true L.bs e3H.out ba bc _ hblH.out z2 W2 hbs2H.out).mono ?_; clear _t tok5; rintro e w' ⟨rfl, rfl⟩))
      clear hW1 hW2
      go_loop [84] (fun i => ∃ j : Nat, j ≤ wl ∧ i = .int .i64 (j : Int) ∧ Hid (allTo (fun r => wRowOk B (L.ws[r]?.getD [])) j = true)) (fun i => wl - (intOf i).toNat)
      case atStart => exact ⟨0, Nat.zero_le _, rfl, Lib.hid rfl⟩
      case round =>
        obtain ⟨j, hj, rfl, hrows⟩ := hrel
        by_cases hlt2 : j < wl
        case pos =>
          have hjl : j < L.ws.length := by have := hwlH.out; omega
          obtain ⟨b2, o2, rfl, hb2, ra, rc, hc3, hrow⟩ := hws2H.out.at hjl
          have z3 := z3H.out j
          obtain ⟨r, hre⟩ : ∃ r, L.ws[j]?.getD [] = r := ⟨_, rfl⟩
          rw [hre] at hc3 hrow z3
          obtain ⟨rl, hrl⟩ : ∃ x, r.length = x := ⟨_, rfl⟩
          rw [hrl] at hc3 z3
          have hreH := Lib.hid hre
          have hrlH := Lib.hid hrl
          have hrowH := Lib.hid hrow
          clear hre hrl hrow
          by_cases f1 : rl = B
          case neg =>
            have hvf := hbadH.out (lyOk_4 hjl (by rw [hreH.out, hrlH.out]; exact f1))
            subst hvf
            have f1' : ((rl : Int) != (B : Int)) = true := by simp; omega
            have f1'' : ¬ ((rl : Int) = (B : Int)) := by omega
            go_wp2_with fail
            go_ret
            exact ⟨rfl, hB2⟩
          subst f1
          cases f2 : allIn (-1000) 1000 r with
          | false =>
            have hvf := hbadH.out (lyOk_5 hjl (by rw [hreH.out]; exact f2))
            subst hvf
            have f2H := Lib.hid f2
            clear f2
            go_wp2_with (go_at_call 23; have _t := tok6; refine (jwn (-1000) 1000 false r f2H.out ra rc _ hrlH.out z3 W2 hrowH.out).mono ?_; clear _t tok6; rintro e w' ⟨rfl, rfl⟩)
            go_ret
            exact ⟨rfl, hB2⟩
          | true =>
            have f2H := Lib.hid f2
            clear f2
            go_wp2_with (go_at_call 23; have _t := tok6; refine (jwn (-1000) 1000 true r f2H.out ra rc _ hrlH.out z3 W2 hrowH.out).mono ?_; clear _t tok6; rintro e w' ⟨rfl, rfl⟩)
            go_round
            case rel => exact ⟨j + 1, by omega, by go_num, Lib.hid (allTo_succ hrows.out (by show wRowOk rl (L.ws[j]?.getD []) = true; unfold wRowOk; rw [hreH.out, hrlH.out, f2H.out]; simp))⟩
            case measure => simp [intOf]; omega
        case neg =>
          have hjw : j = wl := by omega
          subst hjw
          have hly : lyOk B L = true := lyOk_yes (by rw [hblH.out]; exact e1H.out) (by rw [hwlH.out, hblH.out]) e3H.out (by rw [hwlH.out]; exact hrows.out)
          have hlyH := Lib.hid hly
          clear hly hrows
          go_wp2_with fail
          go_roundw
          case rel => exact ⟨k + 1, by omega, by go_num, by show Value.int .i64 (j : Int) = .int .i64 (((layAt Ls k).bs.length : Nat) : Int); rw [hLH.out, hblH.out], Lib.hid (allTo_succ hall.out (by show lyOk (widthN m Ls k) (layAt Ls k) = true; rw [hLH.out, hBH.out]; exact hlyH.out)), hB2, kb2H.out⟩
          case measure => simp [intOf]; omega
    case neg =>
      have hkn : k = n := by omega
      subst hkn
      obtain ⟨B, hBe⟩ : ∃ B, widthN m Ls k = B := ⟨_, rfl⟩
      have hwid : widthN (NetN.nf ⟨W, H, GX, GY, Ls, low, high⟩) Ls Ls.length = B := by rw [hnfH.out, hnH.out]; exact hBe
      rw [hBe]
      have hwidH := Lib.hid hwid
      have hallH := Lib.hid (show allTo (fun k => lyOk (widthN (NetN.nf ⟨W, H, GX, GY, Ls, low, high⟩) Ls k) (layAt Ls k)) Ls.length = true by rw [hnfH.out, hnH.out]; exact hall.out)
      have hBeH := Lib.hid hBe
      have c5 := kb.cell (i := 5) rfl
      have c6 := kb.cell (i := 6) rfl
      have hB3 : Below w.heap.size w (wr.alloc (.cells #[.int .i64 low, .int .i64 high] 3)) := jb_al hB _
      clear hBe hwid hall kb
      by_cases f1 : B = 1
      case neg =>
        have hvf : v = false := by rw [← hvH.out]; exact netOk_7 (by show ¬ widthN _ Ls Ls.length = 1; rw [hwidH.out]; exact f1)
        subst hvf
        have f1' : ((B : Int) != (1 : Int)) = true := by simp; omega
        have f1'' : ¬ ((B : Int) = (1 : Int)) := by omega
        go_wp2_with fail
        go_ret
        exact ⟨rfl, hB⟩
      subst f1
      by_cases f2 : low < high
      case neg =>
        have hvf : v = false := by rw [← hvH.out]; exact netOk_8 f2
        subst hvf
        go_wp2_with fail
        go_ret
        exact ⟨rfl, hB⟩
      cases f3 : (nIn (-1152921504606846976) 1152921504606846976 low && nIn (-1152921504606846976) 1152921504606846976 high) with
      | false =>
        have hvf : v = false := by rw [← hvH.out]; exact netOk_9 f3
        subst hvf
        have f3H := Lib.hid f3
        clear f3
        go_wp2_with (go_at_call 23; have _t := tok7; refine (jw2 (-1152921504606846976) 1152921504606846976 low high false f3H.out _ _ _ _ (cell_new (by simp) rfl) (cell_new (by simp) rfl)).mono ?_; clear _t tok7; rintro e w' ⟨rfl, rfl⟩)
        go_ret
        exact ⟨rfl, hB3⟩
      | true =>
        have hvf : v = true := by
          rw [← hvH.out]
          exact netOk_yes h1H.out h2H.out hm1H.out hm2H.out (by show nIn 1 3 (Ls.length : Int) = true; rw [hnH.out]; exact h5H.out) hallH.out hwidH.out f2 f3
        subst hvf
        have f3H := Lib.hid f3
        clear f3
        go_wp2_with (go_at_call 23; have _t := tok7; refine (jw2 (-1152921504606846976) 1152921504606846976 low high true f3H.out _ _ _ _ (cell_new (by simp) rfl) (cell_new (by simp) rfl)).mono ?_; clear _t tok7; rintro e w' ⟨rfl, rfl⟩)
        go_ret
        exact ⟨rfl, hB3⟩

end Go.Proofs.YtbdnjhnlfpfhcaaGreat

namespace Go.Proofs.YtbdnjhnlfpfhcaaGreat
open Go Go.RowKit Go.Shelf
set_option linter.unusedVariables false
set_option linter.unusedSimpArgs false

/-- Row by row, as the specification goes. -/
structure LyTo (b : Nat) (L : LayN) (k : Nat) : Prop where
  bs : ∀ i, i < k → nIn (-1000000) 1000000 (L.bs[i]?.getD 0) = true
  row : ∀ i, i < k → wRowOk b (L.ws[i]?.getD []) = true
theorem LyTo.zero (b : Nat) (L : LayN) : LyTo b L 0 := ⟨fun i h => absurd h (Nat.not_lt_zero _), fun i h => absurd h (Nat.not_lt_zero _)⟩
theorem LyTo.next {b : Nat} {L : LayN} {k : Nat} (h : LyTo b L k) (h1 : nIn (-1000000) 1000000 (L.bs[k]?.getD 0) = true) (h2 : (L.ws[k]?.getD []).length = b) (h3 : ∀ i, i < b → nIn (-1000) 1000 ((L.ws[k]?.getD [])[i]?.getD 0) = true) : LyTo b L (k + 1) where
  bs i hi := by
    by_cases e : i = k
    · subst e; exact h1
    · exact h.bs i (by omega)
  row i hi := by
    by_cases e : i = k
    · subst e
      simp only [wRowOk, Bool.and_eq_true, decide_eq_true_eq]
      exact ⟨h2, allIn_of fun j hj => nIn_true.1 (h3 j (by omega))⟩
    · exact h.row i (by omega)
theorem LyTo.all {b : Nat} {L : LayN} (h : LyTo b L L.bs.length) (h1 : 1 ≤ L.bs.length) (h8 : L.bs.length ≤ 8) (h2 : L.ws.length = L.bs.length) : lyOk b L = true := by
  refine lyOk_yes (nIn_true.2 (by omega)) h2 (allIn_of fun k hk => nIn_true.1 (h.bs k hk)) ?_
  rw [h2]
  have : ∀ n, n ≤ L.bs.length → allTo (fun r => wRowOk b (L.ws[r]?.getD [])) n = true := fun n => by
    induction n with
    | zero => intro _; rfl
    | succ n ih => intro hn; exact allTo_succ (ih (by omega)) (h.row n (by omega))
  exact this _ (Nat.le_refl _)

end Go.Proofs.YtbdnjhnlfpfhcaaGreat

namespace Go.Proofs.YtbdnjhnlfpfhcaaGreat
open Go Go.RowKit Go.Shelf
set_option linter.unusedVariables false
set_option linter.unusedSimpArgs false

theorem Check_any (iw ih : Int) (a : Option Addr) (c n : Nat) (xs : List Int) (hn : Hid (xs.length = n)) (v : Bool) (hv : vld iw ih xs = v) (w : World) (hm : n ≤ 9223372036854775807) (hr : Rd w.heap.size w a xs) :
    Calls Tryz.prog 63 #[imv iw ih a n c] w fun e w' => e = .returned (.int .i64 (if v = true then 0 else 20)) ∧ Below w.heap.size w w' := by
  have hvH := Lib.hid hv
  clear hv
  have hB0 : Below w.heap.size w (w.alloc (.cells #[.int .i64 iw, .int .i64 ih, .slice a n c] 51)) := below_al (Below.refl _ _) _
  go_enter Tryz.func63, Tryz.ntmps63
  go_wp2_with fail
  refine (valid_any iw ih a c xs n hn _ hm ((hr.below (Nat.le_refl _) hB0).mono hB0.size)).mono ?_
  rintro e W1 ⟨rfl, hb1⟩
  rw [hvH.out]
  cases v with
  | false =>
    go_wp2_with fail
    go_ret
    exact ⟨rfl, hB0.trans (hb1.mono hB0.size)⟩
  | true =>
    go_wp2_with fail
    go_ret
    exact ⟨rfl, hB0.trans (hb1.mono hB0.size)⟩

theorem clamp_bd (n : Int) : -2147483648 ≤ clamp n (-2147483648) 2147483648 ∧ clamp n (-2147483648) 2147483648 ≤ 2147483648 := clamp_le (by decide)

end Go.Proofs.YtbdnjhnlfpfhcaaGreat

namespace Go.Proofs.YtbdnjhnlfpfhcaaGreat
open Go Go.RowKit Go.Shelf
set_option linter.unusedVariables false
set_option linter.unusedSimpArgs false

/-- An image, by what it reads as. -/
structure ImN where
  w : Int
  h : Int
  px : List Int
def imAt (ms : List ImN) (i : Nat) : ImN := ms[i]?.getD ⟨0, 0, []⟩
def camB (m : ImN) : Bool := vld m.w m.h m.px && allIn 0 255 m.px
def camsB (ms : List ImN) : Bool := allTo (fun i => camB (imAt ms i)) ms.length
def fitsB (N : NetN) (ms : List ImN) : Bool := allTo (fun i => decide ((imAt ms i).w = N.w ∧ (imAt ms i).h = N.h)) ms.length
def chkF (N : NetN) (ms : List ImN) : Int := if netOk N = true then if camsB ms = true then if fitsB N ms = true then 0 else 21 else 20 else 80
theorem camB_vld {m : ImN} (h : vld m.w m.h m.px = false) : camB m = false := by unfold camB; rw [h]; rfl
theorem camB_in {m : ImN} (h : allIn 0 255 m.px = false) : camB m = false := by unfold camB; rw [h, Bool.and_false]

/-- The slice at 'a' reads as the images 'ms', in blocks below 'B'. -/
def RdIs (B : Nat) (W : World) (a : Option Addr) (ms : List ImN) : Prop :=
  ms = [] ∨ ∃ b o, a = some ⟨b, o, none⟩ ∧ b < B ∧ ∀ i, i < ms.length → ∃ pa pc, W.cell? ⟨b, o + i * 3, none⟩ = some (.int .i64 (imAt ms i).w) ∧ W.cell? ⟨b, o + i * 3 + 1, none⟩ = some (.int .i64 (imAt ms i).h) ∧
    W.cell? ⟨b, o + i * 3 + 2, none⟩ = some (.slice pa (imAt ms i).px.length pc) ∧ Rd B W pa (imAt ms i).px
theorem RdIs.below {B B' : Nat} {W W' : World} {a : Option Addr} {ms : List ImN} (h : RdIs B W a ms) (hB : B ≤ B') (hb : Below B' W W') : RdIs B W' a ms := by
  rcases h with h | ⟨b, o, h1, h2, h3⟩
  · exact .inl h
  · refine .inr ⟨b, o, h1, h2, fun i hi => ?_⟩
    obtain ⟨pa, pc, h4, h5, h6, h7⟩ := h3 i hi
    exact ⟨pa, pc, (hb.cell (p := ⟨b, o + i * 3, none⟩) (by show b < B'; omega)).trans h4, (hb.cell (p := ⟨b, o + i * 3 + 1, none⟩) (by show b < B'; omega)).trans h5, (hb.cell (p := ⟨b, o + i * 3 + 2, none⟩) (by show b < B'; omega)).trans h6, h7.below hB hb⟩
theorem RdIs.mono {B B' : Nat} {W : World} {a : Option Addr} {ms : List ImN} (h : RdIs B W a ms) (hB : B ≤ B') : RdIs B' W a ms := by
  rcases h with h | ⟨b, o, h1, h2, h3⟩
  · exact .inl h
  · refine .inr ⟨b, o, h1, by omega, fun i hi => ?_⟩
    obtain ⟨pa, pc, h4, h5, h6, h7⟩ := h3 i hi
    exact ⟨pa, pc, h4, h5, h6, h7.mono hB⟩
theorem RdIs.at {B : Nat} {W : World} {a : Option Addr} {ms : List ImN} (h : RdIs B W a ms) {i : Nat} (hi : i < ms.length) :
    ∃ b o, a = some ⟨b, o, none⟩ ∧ b < B ∧ ∃ pa pc, W.cell? ⟨b, o + i * 3, none⟩ = some (.int .i64 (imAt ms i).w) ∧ W.cell? ⟨b, o + i * 3 + 1, none⟩ = some (.int .i64 (imAt ms i).h) ∧
      W.cell? ⟨b, o + i * 3 + 2, none⟩ = some (.slice pa (imAt ms i).px.length pc) ∧ Rd B W pa (imAt ms i).px := by
  rcases h with h | ⟨b, o, h1, h2, h3⟩
  · subst h; simp at hi
  · exact ⟨b, o, h1, h2, h3 i hi⟩
theorem later_s {W W' : World} {a : Option Addr} {xs : List ImN} (h : RdIs W.heap.size W a xs) (hb : Below W.heap.size W W') : RdIs W'.heap.size W' a xs := (h.below (Nat.le_refl _) hb).mono hb.size

set_option maxRecDepth 100000 in
set_option maxHeartbeats 8000000 in
theorem camera_any (ms : List ImN) (a : Option Addr) (n c : Nat) (hn : ms.length = n) (hm : n ≤ 9223372036854775807) (hpx : ∀ i, (imAt ms i).px.length ≤ 9223372036854775807) (w : World) (hr : RdIs w.heap.size w a ms) (v : Bool) (hv : camsB ms = v) :
    Calls Tryz.prog 39 #[.slice a n c] w fun e w' => e = .returned (.bool v) ∧ Below w.heap.size w w' := by
  have hnH := Lib.hid hn
  have hvH := Lib.hid hv
  have hpxH := Lib.hid hpx
  have hrH := Lib.hid hr
  clear hn hv hpx hr
  have tok1 : True := trivial
  have tok2 : True := trivial
  have tok3 : True := trivial
  go_enter Tryz.func39, Tryz.ntmps39
  go_wp2_with fail
  go_loopw [7] (fun i wr => ∃ k : Nat, k ≤ n ∧ i = .int .i64 (k : Int) ∧ Hid (allTo (fun i => camB (imAt ms i)) k = true) ∧ Below w.heap.size w wr) (fun i _ => n - (intOf i).toNat)
  case atStart => exact ⟨0, Nat.zero_le _, rfl, Lib.hid rfl, Below.refl _ w⟩
  case round =>
    obtain ⟨k, hk, rfl, hall, hB⟩ := hrel
    by_cases hlt : k < n
    case neg =>
      have hkn : k = n := by omega
      subst hkn
      have hvt : v = true := by rw [← hvH.out]; unfold camsB; rw [hnH.out]; exact hall.out
      subst hvt
      clear hall
      go_wp2_with fail
      go_ret
      exact ⟨rfl, hB⟩
    case pos =>
      have hkl : k < ms.length := by have := hnH.out; omega
      obtain ⟨b, o, rfl, hb, pa, pc, hc0, hc1, hc2, hp⟩ := (later_s hrH.out hB).at hkl
      have hpm := hpxH.out k
      obtain ⟨m, hme⟩ : ∃ m, imAt ms k = m := ⟨_, rfl⟩
      rw [hme] at hc0 hc1 hc2 hp hpm
      have hbad : camB m = false → v = false := fun h => by rw [← hvH.out]; unfold camsB; exact allTo_false hkl (by rw [hme]; exact h)
      obtain ⟨iw, ih, xs⟩ := m
      simp only at hc0 hc1 hc2 hp hpm
      obtain ⟨l, hl⟩ : ∃ l, xs.length = l := ⟨_, rfl⟩
      rw [hl] at hc2 hpm
      have hlH := Lib.hid hl
      have hmeH := Lib.hid hme
      have hbadH := Lib.hid hbad
      have hB1 : Below wr.heap.size wr (wr.alloc (.cells #[.int .i64 iw, .int .i64 ih, .slice pa l pc] 51)) := jb_al (Below.refl _ wr) _
      have kb := Blk.new wr 51 #[.int .i64 iw, .int .i64 ih, .slice pa l pc]
      obtain ⟨W1, hW1⟩ : ∃ X, wr.alloc (.cells #[.int .i64 iw, .int .i64 ih, .slice pa l pc] 51) = X := ⟨_, rfl⟩
      rw [hW1] at hB1 kb
      have hBw := hB.trans (hB1.mono hB.size)
      have d0 : W1.cell? ⟨wr.heap.size, 0, none⟩ = some (.int .i64 iw) := kb.cell (i := 0) rfl
      have d1 : W1.cell? ⟨wr.heap.size, 1, none⟩ = some (.int .i64 ih) := kb.cell (i := 1) rfl
      have d2 : W1.cell? ⟨wr.heap.size, 2, none⟩ = some (.slice pa l pc) := kb.cell (i := 2) rfl
      have kbH := Lib.hid kb
      have hpH := Lib.hid (later_i hp hB1)
      clear hl hme hbad hp kb hB1
      cases e1 : vld iw ih xs with
      | false =>
        have hvf := hbadH.out (camB_vld e1)
        subst hvf
        have hcallH := Lib.hid (Check_any iw ih pa pc l xs hlH false e1 W1 hpm hpH.out)
        clear e1
        go_wp2_with (go_at_call 63; have _t := tok1; refine (hcallH.out).mono ?_; clear _t tok1; rintro e w2 ⟨rfl, hb2⟩)
        go_ret
        exact ⟨rfl, hBw.trans (hb2.mono hBw.size)⟩
      | true =>
      have hcallH := Lib.hid (Check_any iw ih pa pc l xs hlH true e1 W1 hpm hpH.out)
      have e1H := Lib.hid e1
      clear e1
      cases e2 : allIn 0 255 xs with
      | false =>
        have hvf := hbadH.out (camB_in e2)
        subst hvf
        have e2H := Lib.hid e2
        clear e2
        go_wp2_with (first
          | (go_at_call 63; have _t := tok1; refine (hcallH.out).mono ?_; clear _t tok1; rintro e w2 ⟨rfl, hb2⟩; have d3 := (hb2.cell (p := ⟨wr.heap.size, 2, none⟩) kbH.out.lt).trans d2)
          | (go_at_call 23; have _t := tok2; refine (jwn 0 255 false xs e2H.out pa pc _ hlH.out hpm w2 (later_i hpH.out hb2)).mono ?_; clear _t tok2; rintro e w' ⟨rfl, rfl⟩))
        go_ret
        exact ⟨rfl, hBw.trans (hb2.mono hBw.size)⟩
      | true =>
        have e2H := Lib.hid e2
        clear e2
        go_wp2_with (first
          | (go_at_call 63; have _t := tok1; refine (hcallH.out).mono ?_; clear _t tok1; rintro e w2 ⟨rfl, hb2⟩; have d3 := (hb2.cell (p := ⟨wr.heap.size, 2, none⟩) kbH.out.lt).trans d2)
          | (go_at_call 23; have _t := tok2; refine (jwn 0 255 true xs e2H.out pa pc _ hlH.out hpm w2 (later_i hpH.out hb2)).mono ?_; clear _t tok2; rintro e w' ⟨rfl, rfl⟩))
        go_roundw
        case rel => exact ⟨k + 1, by omega, by go_num, Lib.hid (allTo_succ hall.out (by rw [hmeH.out]; unfold camB; rw [e1H.out, e2H.out]; rfl)), hBw.trans (hb2.mono hBw.size)⟩
        case measure => simp [intOf]; omega

set_option maxRecDepth 100000 in
set_option maxHeartbeats 8000000 in
theorem check_any (N : NetN) (na : Option Addr) (nn nc : Nat) (hnn : N.Ls.length = nn) (hz : NetSz N) (ms : List ImN) (a : Option Addr) (n c : Nat) (hn : ms.length = n) (hm : n ≤ 9223372036854775807) (hpx : ∀ i, (imAt ms i).px.length ≤ 9223372036854775807)
    (w : World) (hrn : RdLs w.heap.size w na N.Ls) (hr : RdIs w.heap.size w a ms) (v : Int) (hv : chkF N ms = v) :
    Calls Tryz.prog 34 #[netv N na nn nc, .slice a n c] w fun e w' => e = .returned (.int .i64 v) ∧ Below w.heap.size w w' := by
  have hnH := Lib.hid hn
  have hvH := Lib.hid hv
  clear hn hv
  have tok1 : True := trivial
  have tok2 : True := trivial
  have hB1 : Below w.heap.size w (w.alloc (.cells #[.int .i64 N.w, .int .i64 N.h, .int .i64 N.gx, .int .i64 N.gy, .slice na nn nc, .int .i64 N.low, .int .i64 N.high] 47)) := jb_al (Below.refl _ w) _
  have kb := Blk.new w 47 #[.int .i64 N.w, .int .i64 N.h, .int .i64 N.gx, .int .i64 N.gy, .slice na nn nc, .int .i64 N.low, .int .i64 N.high]
  obtain ⟨W1, hW1⟩ : ∃ X, w.alloc (.cells #[.int .i64 N.w, .int .i64 N.h, .int .i64 N.gx, .int .i64 N.gy, .slice na nn nc, .int .i64 N.low, .int .i64 N.high] 47) = X := ⟨_, rfl⟩
  rw [hW1] at hB1 kb
  have c0 : W1.cell? ⟨w.heap.size, 0, none⟩ = some (.int .i64 N.w) := kb.cell (i := 0) rfl
  have c1 : W1.cell? ⟨w.heap.size, 1, none⟩ = some (.int .i64 N.h) := kb.cell (i := 1) rfl
  have c2 : W1.cell? ⟨w.heap.size, 2, none⟩ = some (.int .i64 N.gx) := kb.cell (i := 2) rfl
  have c3 : W1.cell? ⟨w.heap.size, 3, none⟩ = some (.int .i64 N.gy) := kb.cell (i := 3) rfl
  have c4 : W1.cell? ⟨w.heap.size, 4, none⟩ = some (.slice na nn nc) := kb.cell (i := 4) rfl
  have c5 : W1.cell? ⟨w.heap.size, 5, none⟩ = some (.int .i64 N.low) := kb.cell (i := 5) rfl
  have c6 : W1.cell? ⟨w.heap.size, 6, none⟩ = some (.int .i64 N.high) := kb.cell (i := 6) rfl
  have hrnH := Lib.hid (later_l hrn hB1)
  have hrH := Lib.hid (later_s hr hB1)
  have kbH := Lib.hid kb
  clear hrn hr kb
  cases e1 : netOk N with
  | false =>
    have hvf : v = 80 := by rw [← hvH.out]; simp [chkF, e1]
    subst hvf
    have hcallH := Lib.hid (CheckNetwork_any N na nn nc hnn hz W1 hrnH.out false e1)
    clear hnn hz e1
    go_enter Tryz.func34, Tryz.ntmps34
    go_wp2_with (go_at_call 62; have _t := tok1; refine (hcallH.out).mono ?_; clear _t tok1; rintro e w2 ⟨rfl, hb2⟩; simp only [Bool.false_eq_true, if_false])
    go_ret
    exact ⟨rfl, hB1.trans (hb2.mono hB1.size)⟩
  | true =>
  have hcallH := Lib.hid (CheckNetwork_any N na nn nc hnn hz W1 hrnH.out true e1)
  have e1H := Lib.hid e1
  clear hnn hz e1
  cases e2 : camsB ms with
  | false =>
    have hvf : v = 20 := by rw [← hvH.out]; simp [chkF, e1H.out, e2]
    subst hvf
    have hcamH := Lib.hid (fun (W : World) (hb : Below W1.heap.size W1 W) => camera_any ms a n c hnH.out hm hpx W (later_s hrH.out hb) false e2)
    clear hpx e2
    go_enter Tryz.func34, Tryz.ntmps34
    go_wp2_with (first
      | (go_at_call 62; have _t := tok1; refine (hcallH.out).mono ?_; clear _t tok1; rintro e w2 ⟨rfl, hb2⟩; simp only [if_true])
      | (go_at_call 39; have _t := tok2; refine (hcamH.out w2 hb2).mono ?_; clear _t tok2; rintro e w3 ⟨rfl, hb3⟩))
    go_ret
    exact ⟨rfl, (hB1.trans (hb2.mono hB1.size)).trans (hb3.mono (hB1.trans (hb2.mono hB1.size)).size)⟩
  | true =>
  have hcamH := Lib.hid (fun (W : World) (hb : Below W1.heap.size W1 W) => camera_any ms a n c hnH.out hm hpx W (later_s hrH.out hb) true e2)
  have e2H := Lib.hid e2
  clear hpx e2
  go_enter Tryz.func34, Tryz.ntmps34
  go_wp2_with (first
    | (go_at_call 62; have _t := tok1; refine (hcallH.out).mono ?_; clear _t tok1; rintro e w2 ⟨rfl, hb2⟩; simp only [if_true])
    | (go_at_call 39; have _t := tok2; refine (hcamH.out w2 hb2).mono ?_; clear _t tok2; rintro e w3 ⟨rfl, hb3⟩))
  clear hW1 c0 c1 c2 c3 c4 c5 c6 hcallH hcamH
  have hb13 := hb2.trans (hb3.mono hb2.size)
  have hB3 := hB1.trans (hb13.mono hB1.size)
  have kb3 := Lib.hid (kbH.out.below hb13 kbH.out.lt)
  have hr3 := Lib.hid (later_s hrH.out hb13)
  clear hb2 hb3 hb13 kbH hrH hrnH
  go_loopw [18] (fun i wr => ∃ k : Nat, k ≤ n ∧ i = .int .i64 (k : Int) ∧ Hid (allTo (fun i => decide ((imAt ms i).w = N.w ∧ (imAt ms i).h = N.h)) k = true) ∧ Below w3.heap.size w3 wr) (fun i _ => n - (intOf i).toNat)
  case atStart => exact ⟨0, Nat.zero_le _, rfl, Lib.hid rfl, Below.refl _ _⟩
  case round =>
    obtain ⟨k, hk, rfl, hall, hb⟩ := hrel
    have kr := kb3.out.below hb kb3.out.lt
    have hBr := hB3.trans (hb.mono hB3.size)
    by_cases hlt : k < n
    case neg =>
      have hkn : k = n := by omega
      subst hkn
      have hvt : v = 0 := by
        have hf : fitsB N ms = true := by unfold fitsB; rw [hnH.out]; exact hall.out
        rw [← hvH.out]; simp [chkF, e1H.out, e2H.out, hf]
      subst hvt
      clear hall kr
      go_wp2_with fail
      go_ret
      exact ⟨rfl, hBr⟩
    case pos =>
      have hkl : k < ms.length := by have := hnH.out; omega
      obtain ⟨b, o, rfl, hb', pa, pc, hc0, hc1, hc2, hp⟩ := (later_s hr3.out hb).at hkl
      obtain ⟨m, hme⟩ : ∃ m, imAt ms k = m := ⟨_, rfl⟩
      rw [hme] at hc0 hc1 hc2 hp
      have hbad : ¬ (m.w = N.w ∧ m.h = N.h) → v = 21 := fun h => by
        have hf : fitsB N ms = false := allTo_false hkl (by rw [hme]; exact decide_eq_false h)
        rw [← hvH.out]; simp [chkF, e1H.out, e2H.out, hf]
      obtain ⟨iw, ih, xs⟩ := m
      simp only at hc0 hc1 hc2 hbad
      have hmeH := Lib.hid hme
      have hbadH := Lib.hid hbad
      have hB4 : Below w.heap.size w (wr.alloc (.cells #[.int .i64 iw, .int .i64 ih, .slice pa xs.length pc] 51)) := jb_al hBr _
      have hb4 : Below w3.heap.size w3 (wr.alloc (.cells #[.int .i64 iw, .int .i64 ih, .slice pa xs.length pc] 51)) := jb_al hb _
      have kr1 := kr.alloc (.cells #[.int .i64 iw, .int .i64 ih, .slice pa xs.length pc] 51)
      have f0 := kr1.cell (i := 0) rfl
      have f1 := kr1.cell (i := 1) rfl
      clear hme hbad hp kr kr1
      by_cases g1 : iw = N.w
      case neg =>
        have hvf := hbadH.out (fun h => g1 h.1)
        subst hvf
        have g1' : (iw != N.w) = true := by simpa using g1
        go_wp2_with fail
        go_ret
        exact ⟨rfl, hB4⟩
      have g1' : (iw != N.w) = false := by simpa using g1
      have g1H := Lib.hid g1
      clear g1
      by_cases g2 : ih = N.h
      case neg =>
        have hvf := hbadH.out (fun h => g2 h.2)
        subst hvf
        have g2' : (ih != N.h) = true := by simpa using g2
        go_wp2_with fail
        go_ret
        exact ⟨rfl, hB4⟩
      have hnx := Lib.hid (allTo_succ hall.out (show decide ((imAt ms k).w = N.w ∧ (imAt ms k).h = N.h) = true by rw [hmeH.out]; simp [g1H.out, g2]))
      have g2' : (ih != N.h) = false := by simpa using g2
      clear hall g2
      go_wp2_with fail
      go_roundw
      case rel => exact ⟨k + 1, by omega, by go_num, hnx.out, hb4⟩
      case measure => simp [intOf]; omega

end Go.Proofs.YtbdnjhnlfpfhcaaGreat

namespace Go.Proofs.YtbdnjhnlfpfhcaaGreat
open Go
set_option linter.unusedVariables false
set_option linter.unusedSimpArgs false

/-- A change, by what it reads as. -/
structure ChgN where
  s : Int
  gl : Int
  gh : Int
  off : Int
  noi : Int
abbrev ChgN.val (c : ChgN) : Value := .agg #[.int .i64 c.s, .int .i64 c.gl, .int .i64 c.gh, .int .i64 c.off, .int .i64 c.noi]
def chgB (c : ChgN) : Bool := ((nIn 0 2 c.s && (nIn 0 400 c.gl && nIn 0 400 c.gh)) && decide (c.gl ≤ c.gh)) && (nIn 0 255 c.off && nIn 0 255 c.noi)
/-- The value of a pixel with shift number t. -/
def shV (pw ph : Nat) (xs : List Int) (s : Nat) (g a : Int) (i t : Nat) : Int := spV g a (spB pw ph xs s (cX pw i) (cY pw i) t)
def loF (pw ph : Nat) (xs : List Int) (s : Nat) (g a : Int) (i : Nat) : Int := spLo (shV pw ph xs s g a i) ((2 * s + 1) * (2 * s + 1))
def hiF (pw ph : Nat) (xs : List Int) (s : Nat) (g a : Int) (i : Nat) : Int := spHi (shV pw ph xs s g a i) ((2 * s + 1) * (2 * s + 1))
def loL (m : ImN) (c : ChgN) : List Int := (List.range (m.w.toNat * m.h.toNat)).map (loF m.w.toNat m.h.toNat m.px c.s.toNat c.gl (-(c.off + c.noi)))
def hiL (m : ImN) (c : ChgN) : List Int := (List.range (m.w.toNat * m.h.toNat)).map (hiF m.w.toNat m.h.toNat m.px c.s.toNat c.gh (c.off + c.noi))

theorem px_img0 {pw ph : Nat} {g : Int → Int → Int} {i : Nat} (hi : i < pw * ph) (h : -2147483648 ≤ g (cX pw i) (cY pw i) ∧ g (cX pw i) (cY pw i) ≤ 2147483648) : px (img pw ph g) ((cY pw i) * pw + cX pw i) = g (cX pw i) (cY pw i) := by
  have hp0 : 0 < pw := Nat.pos_of_ne_zero (by rintro rfl; simp at hi)
  have e : (cY pw i) * (pw : Int) + cX pw i = ((i : Nat) : Int) := by
    show ((i / pw : Nat) : Int) * (pw : Int) + ((i % pw : Nat) : Int) = (i : Int)
    have := Nat.div_add_mod i pw
    rw [Nat.mul_comm] at this
    exact_mod_cast this
  rw [e]
  unfold px
  rw [Int.toNat_natCast]
  unfold img
  rw [List.getElem?_map, List.getElem?_range hi]
  simp only [Option.map_some, Option.getD_some]
  unfold clamp
  omega
theorem cXY_in {pw ph i : Nat} (hi : i < pw * ph) : 0 ≤ cX pw i ∧ cX pw i < pw ∧ 0 ≤ cY pw i ∧ cY pw i < ph := by
  have hp0 : 0 < pw := Nat.pos_of_ne_zero (by rintro rfl; simp at hi)
  have h1 : i % pw < pw := Nat.mod_lt _ hp0
  have h2 : i / pw < ph := Nat.div_lt_of_lt_mul hi
  exact ⟨Int.natCast_nonneg _, by show ((i % pw : Nat) : Int) < _; omega, Int.natCast_nonneg _, by show ((i / pw : Nat) : Int) < _; omega⟩
/-- Eroding and a point operation give the least values. -/
theorem lo_img {pw ph s : Nat} {xs : List Int} (hxs : allIn (-2147483648) 2147483648 xs = true) {g : Int} (hg : 0 ≤ g) (a : Int) :
    img pw ph (pointG pw (img pw ph (morG false pw ph xs (2 * s + 1) (2 * s + 1) (fullB s))) ⟨g, 100 * a, 100, 0, 255⟩) = (List.range (pw * ph)).map (loF pw ph xs s g a) := by
  unfold img
  refine List.map_congr_left fun i hi => ?_
  have hi := List.mem_range.1 hi
  obtain ⟨h1, h2, h3, h4⟩ := cXY_in hi
  have hb := mor_img (mx := false) hxs pw ph (2 * s + 1) (2 * s + 1) (fullB s) (cX pw i) (cY pw i)
  unfold pointG
  rw [show (List.range (pw * ph)).map (fun i => clamp (morG false pw ph xs (2 * s + 1) (2 * s + 1) (fullB s) (cX pw i) (cY pw i)) (-2147483648) 2147483648) = img pw ph (morG false pw ph xs (2 * s + 1) (2 * s + 1) (fullB s)) from rfl]
  rw [px_img0 hi hb, spV_point, spread_lo hxs h1 h2 h3 h4 hg]
  have := spLo_bd (f := shV pw ph xs s g a i) (fun t => spV_bd _ _ _) ((2 * s + 1) * (2 * s + 1))
  unfold loF clamp
  show max (-2147483648) (min (spLo (shV pw ph xs s g a i) _) 2147483648) = _
  omega
theorem hi_img {pw ph s : Nat} {xs : List Int} (hxs : allIn (-2147483648) 2147483648 xs = true) {g : Int} (hg : 0 ≤ g) (a : Int) :
    img pw ph (pointG pw (img pw ph (morG true pw ph xs (2 * s + 1) (2 * s + 1) (fullB s))) ⟨g, 100 * a, 100, 0, 255⟩) = (List.range (pw * ph)).map (hiF pw ph xs s g a) := by
  unfold img
  refine List.map_congr_left fun i hi => ?_
  have hi := List.mem_range.1 hi
  obtain ⟨h1, h2, h3, h4⟩ := cXY_in hi
  have hb := mor_img (mx := true) hxs pw ph (2 * s + 1) (2 * s + 1) (fullB s) (cX pw i) (cY pw i)
  unfold pointG
  rw [show (List.range (pw * ph)).map (fun i => clamp (morG true pw ph xs (2 * s + 1) (2 * s + 1) (fullB s) (cX pw i) (cY pw i)) (-2147483648) 2147483648) = img pw ph (morG true pw ph xs (2 * s + 1) (2 * s + 1) (fullB s)) from rfl]
  rw [px_img0 hi hb, spV_point, spread_hi hxs h1 h2 h3 h4 hg]
  have := spHi_bd (f := shV pw ph xs s g a i) (fun t => spV_bd _ _ _) ((2 * s + 1) * (2 * s + 1))
  unfold hiF clamp
  show max (-2147483648) (min (spHi (shV pw ph xs s g a i) _) 2147483648) = _
  omega

end Go.Proofs.YtbdnjhnlfpfhcaaGreat

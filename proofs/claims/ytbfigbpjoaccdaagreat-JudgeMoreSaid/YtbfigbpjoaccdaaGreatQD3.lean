/- Contracts and laws (Cn, Cr). -/
import Derived.Test.YtbfigbpjoaccdaaGreatQD2
namespace Go.Proofs.YtbfigbpjoaccdaaGreat
open Go Go.RowKit Go.Shelf
set_option linter.unusedVariables false
set_option linter.unusedSimpArgs false

theorem netOk_1 {N : NetN} (h : (nIn 1 16 N.w && nIn 1 16 N.h) = false) : netOk N = false := by simp only [netOk, sidesOk, h, Bool.false_and]
theorem netOk_2 {N : NetN} (h : (nIn 1 4 N.gx && nIn 1 4 N.gy) = false) : netOk N = false := by simp only [netOk, sidesOk, h, Bool.false_and, Bool.and_false]
theorem netOk_3 {N : NetN} (h : ¬ N.w % N.gx = 0) : netOk N = false := by simp only [netOk, sidesOk, decide_eq_false h, Bool.false_and, Bool.and_false]
theorem netOk_4 {N : NetN} (h : ¬ N.h % N.gy = 0) : netOk N = false := by simp only [netOk, sidesOk, decide_eq_false h, Bool.false_and, Bool.and_false]
theorem netOk_5 {N : NetN} (h : nIn 1 3 (N.Ls.length : Int) = false) : netOk N = false := by
  have : (decide (1 ≤ N.Ls.length) && decide (N.Ls.length ≤ 3)) = false := by
    rw [← h]; simp only [nIn]
    congr 1 <;> exact decide_eq_decide.2 (by omega)
  simp only [netOk, sidesOk, this, Bool.false_and, Bool.and_false]
theorem netOk_6 {N : NetN} {k : Nat} (hk : k < N.Ls.length) (h : lyOk (widthN N.nf N.Ls k) (layAt N.Ls k) = false) : netOk N = false := by
  have : lysOk N.nf N.Ls = false := allTo_false hk h
  simp only [netOk, this, Bool.false_and, Bool.and_false]
theorem netOk_7 {N : NetN} (h : ¬ widthN N.nf N.Ls N.Ls.length = 1) : netOk N = false := by simp only [netOk, endOk, decide_eq_false h, Bool.false_and, Bool.and_false]
theorem netOk_8 {N : NetN} (h : ¬ N.low < N.high) : netOk N = false := by simp only [netOk, endOk, decide_eq_false h, Bool.false_and, Bool.and_false]
theorem netOk_9 {N : NetN} (h : (nIn (-1152921504606846976) 1152921504606846976 N.low && nIn (-1152921504606846976) 1152921504606846976 N.high) = false) : netOk N = false := by simp only [netOk, endOk, h, Bool.and_false]
theorem netOk_yes {N : NetN} (h1 : (nIn 1 16 N.w && nIn 1 16 N.h) = true) (h2 : (nIn 1 4 N.gx && nIn 1 4 N.gy) = true) (h3 : N.w % N.gx = 0) (h4 : N.h % N.gy = 0) (h5 : nIn 1 3 (N.Ls.length : Int) = true)
    (h6 : allTo (fun k => lyOk (widthN N.nf N.Ls k) (layAt N.Ls k)) N.Ls.length = true) (h7 : widthN N.nf N.Ls N.Ls.length = 1) (h8 : N.low < N.high)
    (h9 : (nIn (-1152921504606846976) 1152921504606846976 N.low && nIn (-1152921504606846976) 1152921504606846976 N.high) = true) : netOk N = true := by
  have := nIn_true.1 h5
  simp only [netOk, sidesOk, endOk, lysOk, h1, h2, h6, h9, decide_eq_true h3, decide_eq_true h4, decide_eq_true h7, decide_eq_true h8, decide_eq_true (show 1 ≤ N.Ls.length by omega), decide_eq_true (show N.Ls.length ≤ 3 by omega), Bool.and_self]
theorem lyOk_1 {b : Nat} {L : LayN} (h : nIn 1 8 (L.bs.length : Int) = false) : lyOk b L = false := by
  have : (decide (1 ≤ L.bs.length) && decide (L.bs.length ≤ 8)) = false := by
    rw [← h]; simp only [nIn]
    congr 1 <;> exact decide_eq_decide.2 (by omega)
  simp only [lyOk, this, Bool.false_and]
theorem lyOk_2 {b : Nat} {L : LayN} (h : ¬ L.ws.length = L.bs.length) : lyOk b L = false := by simp only [lyOk, decide_eq_false h, Bool.false_and, Bool.and_false]
theorem lyOk_3 {b : Nat} {L : LayN} (h : allIn (-1000000) 1000000 L.bs = false) : lyOk b L = false := by simp only [lyOk, h, Bool.false_and, Bool.and_false]
theorem lyOk_4 {b : Nat} {L : LayN} {k : Nat} (hk : k < L.ws.length) (h : ¬ (L.ws[k]?.getD []).length = b) : lyOk b L = false := by
  have : allTo (fun r => wRowOk b (L.ws[r]?.getD [])) L.ws.length = false := allTo_false hk (by simp only [wRowOk, decide_eq_false h, Bool.false_and])
  simp only [lyOk, this, Bool.and_false]
theorem lyOk_5 {b : Nat} {L : LayN} {k : Nat} (hk : k < L.ws.length) (h : allIn (-1000) 1000 (L.ws[k]?.getD []) = false) : lyOk b L = false := by
  have : allTo (fun r => wRowOk b (L.ws[r]?.getD [])) L.ws.length = false := allTo_false hk (by simp only [wRowOk, h, Bool.and_false])
  simp only [lyOk, this, Bool.and_false]
theorem lyOk_yes {b : Nat} {L : LayN} (h1 : nIn 1 8 (L.bs.length : Int) = true) (h2 : L.ws.length = L.bs.length) (h3 : allIn (-1000000) 1000000 L.bs = true) (h4 : allTo (fun r => wRowOk b (L.ws[r]?.getD [])) L.ws.length = true) : lyOk b L = true := by
  have := nIn_true.1 h1
  simp only [lyOk, h3, h4, decide_eq_true h2, decide_eq_true (show 1 ≤ L.bs.length by omega), decide_eq_true (show L.bs.length ≤ 8 by omega), Bool.and_self]

set_option maxRecDepth 100000 in
set_option maxHeartbeats 8000000 in
theorem CheckNetwork_any (N : NetN) (a : Option Addr) (n c : Nat) (hn : N.Ls.length = n) (hz : NetSz N) (w : World) (hr : RdLs w.heap.size w a N.Ls) (v : Bool) (hv : netOk N = v) :
    Calls Tryz.prog 88 #[netv N a n c] w fun e w' => e = .returned (.int .i64 (if v = true then 0 else 80)) ∧ Below w.heap.size w w' := by
  obtain ⟨W, H, GX, GY, Ls, low, high⟩ := N
  have hnH := Lib.hid hn
  have hvH := Lib.hid hv
  have hzn : n ≤ 9223372036854775807 := by rw [← hn]; exact hz.n
  have hzH := Lib.hid hz
  clear hn hv hz
  simp only at hnH hr
  have tok1 : True := trivial
  have tok2 : True := trivial
  have tok3 : True := trivial
  have tok4 : True := trivial
  have tok5 : True := trivial
  have tok6 : True := trivial
  have tok7 : True := trivial
  have tok8 : True := trivial
  have tok9 : True := trivial
  cases h1 : (nIn 1 16 W && nIn 1 16 H) with
  | false =>
    have hvf : v = false := by rw [← hvH.out]; exact netOk_1 h1
    subst hvf
    have h1H := Lib.hid h1
    clear h1 hvH hr hzH hnH
    go_enter Tryz.func88, Tryz.ntmps88
    go_wp2_with (go_at_call 48; have _t := tok1; refine (jw2 1 16 W H false h1H.out _ _ _ _ (cell_new (by simp) rfl) (cell_new (by simp) rfl)).mono ?_; clear _t tok1; rintro e w' ⟨rfl, rfl⟩)
    go_ret
    exact ⟨rfl, (jb_al (jb_al (Below.refl _ w) _) _)⟩
  | true =>
  cases h2 : (nIn 1 4 GX && nIn 1 4 GY) with
  | false =>
    have hvf : v = false := by rw [← hvH.out]; exact netOk_2 h2
    subst hvf
    have h1H := Lib.hid h1
    have h2H := Lib.hid h2
    clear h1 h2 hvH hr hzH hnH
    go_enter Tryz.func88, Tryz.ntmps88
    go_wp2_with (first
      | (go_at_call 48; have _t := tok1; refine (jw2 1 16 W H true h1H.out _ _ _ _ (cell_new (by simp) rfl) (cell_new (by simp) rfl)).mono ?_; clear _t tok1; rintro e w' ⟨rfl, rfl⟩)
      | (go_at_call 48; have _t := tok2; refine (jw2 1 4 GX GY false h2H.out _ _ _ _ (cell_new (by simp) rfl) (cell_new (by simp) rfl)).mono ?_; clear _t tok2; rintro e w' ⟨rfl, rfl⟩))
    go_ret
    exact ⟨rfl, (jb_al (jb_al (jb_al (Below.refl _ w) _) _) _)⟩
  | true =>
  have g1 := h1
  have g2 := h2
  simp only [Bool.and_eq_true, nIn_true] at g1 g2
  obtain ⟨⟨gw1, gw2⟩, gh1, gh2⟩ := g1
  obtain ⟨⟨gx1, gx2⟩, gy1, gy2⟩ := g2
  have h1H := Lib.hid h1
  have h2H := Lib.hid h2
  clear h1 h2
  obtain ⟨r1, hq1⟩ : ∃ r, W.tmod GX = r := ⟨_, rfl⟩
  obtain ⟨r2, hq2⟩ : ∃ r, H.tmod GY = r := ⟨_, rfl⟩
  have hm1 : W % GX = r1 := by rw [← hq1, Int.tmod_eq_emod_of_nonneg (by omega)]
  have hm2 : H % GY = r2 := by rw [← hq2, Int.tmod_eq_emod_of_nonneg (by omega)]
  have hm1H := Lib.hid hm1
  have hm2H := Lib.hid hm2
  clear hm1 hm2
  by_cases h3 : r1 = 0
  case neg =>
    have h3' : (r1 != 0) = true := by simpa using h3
    have hvf : v = false := by rw [← hvH.out]; exact netOk_3 (by show ¬ W % GX = 0; rw [hm1H.out]; exact h3)
    subst hvf
    clear  hvH hr hzH hnH
    go_enter Tryz.func88, Tryz.ntmps88
    go_wp2_with (first
      | (go_at_call 48; have _t := tok1; refine (jw2 1 16 W H true h1H.out _ _ _ _ (cell_new (by simp) rfl) (cell_new (by simp) rfl)).mono ?_; clear _t tok1; rintro e w' ⟨rfl, rfl⟩)
      | (go_at_call 48; have _t := tok2; refine (jw2 1 4 GX GY true h2H.out _ _ _ _ (cell_new (by simp) rfl) (cell_new (by simp) rfl)).mono ?_; clear _t tok2; rintro e w' ⟨rfl, rfl⟩))
    go_ret
    exact ⟨rfl, (jb_al (jb_al (jb_al (Below.refl _ w) _) _) _)⟩
  case pos =>
  subst h3
  by_cases h4 : r2 = 0
  case neg =>
    have h4' : (r2 != 0) = true := by simpa using h4
    have hvf : v = false := by rw [← hvH.out]; exact netOk_4 (by show ¬ H % GY = 0; rw [hm2H.out]; exact h4)
    subst hvf
    clear  hvH hr hzH hnH
    go_enter Tryz.func88, Tryz.ntmps88
    go_wp2_with (first
      | (go_at_call 48; have _t := tok1; refine (jw2 1 16 W H true h1H.out _ _ _ _ (cell_new (by simp) rfl) (cell_new (by simp) rfl)).mono ?_; clear _t tok1; rintro e w' ⟨rfl, rfl⟩)
      | (go_at_call 48; have _t := tok2; refine (jw2 1 4 GX GY true h2H.out _ _ _ _ (cell_new (by simp) rfl) (cell_new (by simp) rfl)).mono ?_; clear _t tok2; rintro e w' ⟨rfl, rfl⟩))
    go_ret
    exact ⟨rfl, (jb_al (jb_al (jb_al (Below.refl _ w) _) _) _)⟩
  case pos =>
  subst h4
  cases h5 : nIn 1 3 (n : Int) with
  | false =>
    have hvf : v = false := by rw [← hvH.out]; exact netOk_5 (by show nIn 1 3 (Ls.length : Int) = false; rw [hnH.out]; exact h5)
    subst hvf
    have h5H := Lib.hid h5
    clear h5 hvH hr hzH hnH
    go_enter Tryz.func88, Tryz.ntmps88
    go_wp2_with (first
      | (go_at_call 48; have _t := tok1; refine (jw2 1 16 W H true h1H.out _ _ _ _ (cell_new (by simp) rfl) (cell_new (by simp) rfl)).mono ?_; clear _t tok1; rintro e w' ⟨rfl, rfl⟩)
      | (go_at_call 48; have _t := tok2; refine (jw2 1 4 GX GY true h2H.out _ _ _ _ (cell_new (by simp) rfl) (cell_new (by simp) rfl)).mono ?_; clear _t tok2; rintro e w' ⟨rfl, rfl⟩)
      | (go_at_call 48; have _t := tok3; refine (jw1 1 3 (n : Int) false h5H.out _ _ _ _ (cell_new (by simp) rfl)).mono ?_; clear _t tok3; rintro e w' ⟨rfl, rfl⟩))
    go_ret
    exact ⟨rfl, (jb_al (jb_al (jb_al (jb_al (Below.refl _ w) _) _) _) _)⟩
  | true =>
  have g5 := nIn_true.1 h5
  have h5H := Lib.hid h5
  clear h5
  obtain ⟨m, hm⟩ : ∃ m : Nat, (m : Int) = GX * GY := ⟨(GX * GY).toNat, by
    have : 1 * 1 ≤ GX * GY := Int.mul_le_mul (by omega) (by omega) (by omega) (by omega)
    omega⟩
  have hm16 : GX * GY ≤ 4 * 4 := Int.mul_le_mul (by omega) (by omega) (by omega) (by omega)
  have hm0 : 1 * 1 ≤ GX * GY := Int.mul_le_mul (by omega) (by omega) (by omega) (by omega)
  have hmm : GX * GY = (m : Int) := hm.symm
  have hnf : NetN.nf ⟨W, H, GX, GY, Ls, low, high⟩ = m := by unfold NetN.nf; simp only; omega
  rw [hmm] at hm16 hm0
  have hnfH := Lib.hid hnf
  clear hm hnf
  go_enter Tryz.func88, Tryz.ntmps88
  go_wp2_with (first
    | (go_at_call 48; have _t := tok1; refine (jw2 1 16 W H true h1H.out _ _ _ _ (cell_new (by simp) rfl) (cell_new (by simp) rfl)).mono ?_; clear _t tok1; rintro e w' ⟨rfl, rfl⟩)
    | (go_at_call 48; have _t := tok2; refine (jw2 1 4 GX GY true h2H.out _ _ _ _ (cell_new (by simp) rfl) (cell_new (by simp) rfl)).mono ?_; clear _t tok2; rintro e w' ⟨rfl, rfl⟩)
    | (go_at_call 48; have _t := tok3; refine (jw1 1 3 (n : Int) true h5H.out _ _ _ _ (cell_new (by simp) rfl)).mono ?_; clear _t tok3; rintro e w' ⟨rfl, rfl⟩))
  go_loopw [3, 56] (fun b i wr => ∃ k : Nat, k ≤ n ∧ i = .int .i64 (k : Int) ∧ b = .int .i64 ((widthN m Ls k : Nat) : Int) ∧ Hid (allTo (fun k => lyOk (widthN m Ls k) (layAt Ls k)) k = true) ∧ Below w.heap.size w wr ∧ Blk wr w.heap.size 24 #[.int .i64 W, .int .i64 H, .int .i64 GX, .int .i64 GY, .slice a n c, .int .i64 low, .int .i64 high]) (fun _ i _ => n - (intOf i).toNat)
  case atStart => exact ⟨0, Nat.zero_le _, rfl, rfl, Lib.hid rfl, (jb_al (jb_al (jb_al (jb_al (Below.refl _ w) _) _) _) _), (((Blk.new w _ _).alloc _).alloc _).alloc _⟩
  case round =>
    obtain ⟨k, hk, rfl, rfl, hall, hB, kb⟩ := hrel
    by_cases hlt : k < n
    case pos =>
      have hkl : k < Ls.length := by have := hnH.out; omega
      have hrw : RdLs wr.heap.size wr a Ls := (hr.below (Nat.le_refl _) hB).mono hB.size
      obtain ⟨b, o, rfl, hb, wa, wc, ba, bc, hc1, hc2, hws, hbs⟩ := hrw.at hkl
      obtain ⟨z1, z2⟩ := hzH.out.ly k
      have z3 := hzH.out.row k
      simp only at z1 z2 z3
      obtain ⟨L, hL⟩ : ∃ L, layAt Ls k = L := ⟨_, rfl⟩
      obtain ⟨B, hBe⟩ : ∃ B, widthN m Ls k = B := ⟨_, rfl⟩
      have hbad : lyOk B L = false → v = false := fun h => by rw [← hvH.out]; exact netOk_6 (N := ⟨W, H, GX, GY, Ls, low, high⟩) (k := k) hkl (by rw [hnfH.out]; show lyOk (widthN m Ls k) (layAt Ls k) = false; rw [hL, hBe]; exact h)
      rw [hL] at hc1 hc2 hws hbs z1 z2 z3
      rw [hBe]
      obtain ⟨wl, hwl⟩ : ∃ x, L.ws.length = x := ⟨_, rfl⟩
      obtain ⟨bl, hbl⟩ : ∃ x, L.bs.length = x := ⟨_, rfl⟩
      rw [hwl] at hc1 z1
      rw [hbl] at hc2 z2
      have hLH := Lib.hid hL
      have hBH := Lib.hid hBe
      have hwlH := Lib.hid hwl
      have hblH := Lib.hid hbl
      have z3H := Lib.hid z3
      have hbadH := Lib.hid hbad
      have hrwH := Lib.hid hrw
      have kbH := Lib.hid kb
      clear hL hBe hwl hbl z3 hbad hrw kb
      obtain ⟨W1, hW1⟩ : ∃ X, wr.alloc (.cells #[.slice wa wl wc, .slice ba bl bc] 87) = X := ⟨_, rfl⟩
      obtain ⟨W2, hW2⟩ : ∃ X, W1.alloc (.cells #[.int .i64 (bl : Int)] 3) = X := ⟨_, rfl⟩
      have hb12 : Below wr.heap.size wr W2 := by rw [← hW2, ← hW1]; exact jb_al (jb_al (Below.refl _ wr) _) _
      have kl := (Blk.new wr 87 #[.slice wa wl wc, .slice ba bl bc]).alloc (.cells #[.int .i64 (bl : Int)] 3)
      have kl1 := Blk.new wr 87 #[.slice wa wl wc, .slice ba bl bc]
      rw [hW1] at kl1
      have m0 := kl1.cell (i := 0) rfl
      have m1 := kl1.cell (i := 1) rfl
      have ks := Blk.new W1 3 #[.int .i64 (bl : Int)]
      rw [hW1, hW2] at kl
      rw [hW2] at ks
      have hB2 : Below w.heap.size w W2 := hB.trans (hb12.mono hB.size)
      have l0 := kl.cell (i := 0) rfl
      have l1 := kl.cell (i := 1) rfl
      have s0 := ks.cell (i := 0) rfl
      have hws2 := later_w hws hb12
      have hbs2 := later_i hbs hb12
      have kb2H := Lib.hid (kbH.out.below hb12 (by have := kbH.out.lt; omega))
      have hws2H := Lib.hid hws2
      have hbs2H := Lib.hid hbs2
      have klH := Lib.hid kl
      have s0H := Lib.hid s0
      clear kl kl1 ks hws hbs hws2 hbs2 hb12 hrwH kbH s0
      cases e1 : nIn 1 8 (bl : Int) with
      | false =>
        have hvf := hbadH.out (lyOk_1 (by rw [hblH.out]; exact e1))
        subst hvf
        have e1H := Lib.hid e1
        clear e1
        go_wp2_with (go_at_call 48; have _t := tok4; refine (jw1 1 8 _ false e1H.out _ _ _ _ s0H.out).mono ?_; clear _t tok4; rintro e w' ⟨rfl, rfl⟩)
        go_ret
        exact ⟨rfl, hB2⟩
      | true =>
      have e1H := Lib.hid e1
      clear e1
      by_cases e2 : wl = bl
      case neg =>
        have hvf := hbadH.out (lyOk_2 (by rw [hwlH.out, hblH.out]; exact e2))
        subst hvf
        have e2' : ((wl : Int) != (bl : Int)) = true := by simp; omega
        have e2'' : ¬ ((wl : Int) = (bl : Int)) := by omega
        go_wp2_with (go_at_call 48; have _t := tok4; refine (jw1 1 8 _ true e1H.out _ _ _ _ s0H.out).mono ?_; clear _t tok4; rintro e w' ⟨rfl, rfl⟩)
        go_ret
        exact ⟨rfl, hB2⟩
      subst e2
      cases e3 : allIn (-1000000) 1000000 L.bs with
      | false =>
        have hvf := hbadH.out (lyOk_3 e3)
        subst hvf
        have e3H := Lib.hid e3
        clear e3
        go_wp2_with (first
          | (go_at_call 48; have _t := tok4; refine (jw1 1 8 _ true e1H.out _ _ _ _ s0H.out).mono ?_; clear _t tok4; rintro e w' ⟨rfl, rfl⟩)
          | (go_at_call 48; have _t := tok5; refine (jwn (-1000000) 1000000 false L.bs e3H.out ba bc _ hblH.out z2 W2 hbs2H.out).mono ?_; clear _t tok5; rintro e w' ⟨rfl, rfl⟩))
        go_ret
        exact ⟨rfl, hB2⟩
      | true =>
      have e3H := Lib.hid e3
      clear e3
      go_wp2_with (first
        | (go_at_call 48; have _t := tok4; refine (jw1 1 8 _ true e1H.out _ _ _ _ s0H.out).mono ?_; clear _t tok4; rintro e w' ⟨rfl, rfl⟩)
        | (go_at_call 48; have _t := tok5; refine (jwn (-1000000) 1000000 true L.bs e3H.out ba bc _ hblH.out z2 W2 hbs2H.out).mono ?_; clear _t tok5; rintro e w' ⟨rfl, rfl⟩))
      clear hW1 hW2
      go_loop [84] (fun i => ∃ j : Nat, j ≤ wl ∧ i = .int .i64 (j : Int) ∧ Hid (allTo (fun r => wRowOk B (L.ws[r]?.getD [])) j = true)) (fun i => wl - (intOf i).toNat)
      case atStart => exact ⟨0, Nat.zero_le _, rfl, Lib.hid rfl⟩
      case round =>
        obtain ⟨j, hj, rfl, hrows⟩ := hrel
        by_cases hlt2 : j < wl
        case pos =>
          have hjl : j < L.ws.length := by have := hwlH.out; omega
          obtain ⟨b2, o2, rfl, hb2, ra, rc, hc3, hrow⟩ := hws2H.out.at hjl
          have z3 := z3H.out j
          obtain ⟨r, hre⟩ : ∃ r, L.ws[j]?.getD [] = r := ⟨_, rfl⟩
          rw [hre] at hc3 hrow z3
          obtain ⟨rl, hrl⟩ : ∃ x, r.length = x := ⟨_, rfl⟩
          rw [hrl] at hc3 z3
          have hreH := Lib.hid hre
          have hrlH := Lib.hid hrl
          have hrowH := Lib.hid hrow
          clear hre hrl hrow
          by_cases f1 : rl = B
          case neg =>
            have hvf := hbadH.out (lyOk_4 hjl (by rw [hreH.out, hrlH.out]; exact f1))
            subst hvf
            have f1' : ((rl : Int) != (B : Int)) = true := by simp; omega
            have f1'' : ¬ ((rl : Int) = (B : Int)) := by omega
            go_wp2_with fail
            go_ret
            exact ⟨rfl, hB2⟩
          subst f1
          cases f2 : allIn (-1000) 1000 r with
          | false =>
            have hvf := hbadH.out (lyOk_5 hjl (by rw [hreH.out]; exact f2))
            subst hvf
            have f2H := Lib.hid f2
            clear f2
            go_wp2_with (go_at_call 48; have _t := tok6; refine (jwn (-1000) 1000 false r f2H.out ra rc _ hrlH.out z3 W2 hrowH.out).mono ?_; clear _t tok6; rintro e w' ⟨rfl, rfl⟩)
            go_ret
            exact ⟨rfl, hB2⟩
          | true =>
            have f2H := Lib.hid f2
            clear f2
            go_wp2_with (go_at_call 48; have _t := tok6; refine (jwn (-1000) 1000 true r f2H.out ra rc _ hrlH.out z3 W2 hrowH.out).mono ?_; clear _t tok6; rintro e w' ⟨rfl, rfl⟩)
            go_round
            case rel => exact ⟨j + 1, by omega, by go_num, Lib.hid (allTo_succ hrows.out (by show wRowOk rl (L.ws[j]?.getD []) = true; unfold wRowOk; rw [hreH.out, hrlH.out, f2H.out]; simp))⟩
            case measure => simp [intOf]; omega
        case neg =>
          have hjw : j = wl := by omega
          subst hjw
          have hly : lyOk B L = true := lyOk_yes (by rw [hblH.out]; exact e1H.out) (by rw [hwlH.out, hblH.out]) e3H.out (by rw [hwlH.out]; exact hrows.out)
          have hlyH := Lib.hid hly
          clear hly hrows
          go_wp2_with fail
          go_roundw
          case rel => exact ⟨k + 1, by omega, by go_num, by show Value.int .i64 (j : Int) = .int .i64 (((layAt Ls k).bs.length : Nat) : Int); rw [hLH.out, hblH.out], Lib.hid (allTo_succ hall.out (by show lyOk (widthN m Ls k) (layAt Ls k) = true; rw [hLH.out, hBH.out]; exact hlyH.out)), hB2, kb2H.out⟩
          case measure => simp [intOf]; omega
    case neg =>
      have hkn : k = n := by omega
      subst hkn
      obtain ⟨B, hBe⟩ : ∃ B, widthN m Ls k = B := ⟨_, rfl⟩
      have hwid : widthN (NetN.nf ⟨W, H, GX, GY, Ls, low, high⟩) Ls Ls.length = B := by rw [hnfH.out, hnH.out]; exact hBe
      rw [hBe]
      have hwidH := Lib.hid hwid
      have hallH := Lib.hid (show allTo (fun k => lyOk (widthN (NetN.nf ⟨W, H, GX, GY, Ls, low, high⟩) Ls k) (layAt Ls k)) Ls.length = true by rw [hnfH.out, hnH.out]; exact hall.out)
      have hBeH := Lib.hid hBe
      have c5 := kb.cell (i := 5) rfl
      have c6 := kb.cell (i := 6) rfl
      have hB3 : Below w.heap.size w (wr.alloc (.cells #[.int .i64 low, .int .i64 high] 3)) := jb_al hB _
      clear hBe hwid hall kb
      by_cases f1 : B = 1
      case neg =>
        have hvf : v = false := by rw [← hvH.out]; exact netOk_7 (by show ¬ widthN _ Ls Ls.length = 1; rw [hwidH.out]; exact f1)
        subst hvf
        have f1' : ((B : Int) != (1 : Int)) = true := by simp; omega
        have f1'' : ¬ ((B : Int) = (1 : Int)) := by omega
        go_wp2_with fail
        go_ret
        exact ⟨rfl, hB⟩
      subst f1
      by_cases f2 : low < high
      case neg =>
        have hvf : v = false := by rw [← hvH.out]; exact netOk_8 f2
        subst hvf
        go_wp2_with fail
        go_ret
        exact ⟨rfl, hB⟩
      cases f3 : (nIn (-1152921504606846976) 1152921504606846976 low && nIn (-1152921504606846976) 1152921504606846976 high) with
      | false =>
        have hvf : v = false := by rw [← hvH.out]; exact netOk_9 f3
        subst hvf
        have f3H := Lib.hid f3
        clear f3
        go_wp2_with (go_at_call 48; have _t := tok7; refine (jw2 (-1152921504606846976) 1152921504606846976 low high false f3H.out _ _ _ _ (cell_new (by simp) rfl) (cell_new (by simp) rfl)).mono ?_; clear _t tok7; rintro e w' ⟨rfl, rfl⟩)
        go_ret
        exact ⟨rfl, hB3⟩
      | true =>
        have hvf : v = true := by
          rw [← hvH.out]
          exact netOk_yes h1H.out h2H.out hm1H.out hm2H.out (by show nIn 1 3 (Ls.length : Int) = true; rw [hnH.out]; exact h5H.out) hallH.out hwidH.out f2 f3
        subst hvf
        have f3H := Lib.hid f3
        clear f3
        go_wp2_with (go_at_call 48; have _t := tok7; refine (jw2 (-1152921504606846976) 1152921504606846976 low high true f3H.out _ _ _ _ (cell_new (by simp) rfl) (cell_new (by simp) rfl)).mono ?_; clear _t tok7; rintro e w' ⟨rfl, rfl⟩)
        go_ret
        exact ⟨rfl, hB3⟩

end Go.Proofs.YtbfigbpjoaccdaaGreat

namespace Go.Proofs.YtbfigbpjoaccdaaGreat
open Go Go.RowKit Go.Shelf
set_option linter.unusedVariables false
set_option linter.unusedSimpArgs false

set_option maxRecDepth 100000 in
set_option maxHeartbeats 2000000 in
theorem rw1 (lo hi x : Int) (v : Bool) (hv : nIn lo hi x = v) (w : World) :
    Calls Tryz.prog 61 #[.int .i64 x, .int .i64 lo, .int .i64 hi] w fun e w' => e = .returned (.bool v) ∧ w = w' := by
  have hvH := Lib.hid hv
  clear hv
  by_cases h1 : lo ≤ x
  case neg =>
    have hvf : v = false := by rw [← hvH.out]; exact nIn_false.2 (by omega)
    subst hvf
    go_enter Tryz.func61, Tryz.ntmps61
    go_wp2
    go_ret
    exact ⟨rfl, rfl⟩
  by_cases h2 : x ≤ hi
  case neg =>
    have hvf : v = false := by rw [← hvH.out]; exact nIn_false.2 (by omega)
    subst hvf
    go_enter Tryz.func61, Tryz.ntmps61
    go_wp2
    go_ret
    exact ⟨rfl, rfl⟩
  have hvf : v = true := by rw [← hvH.out]; exact nIn_true.2 (by omega)
  subst hvf
  go_enter Tryz.func61, Tryz.ntmps61
  go_wp2
  go_ret
  exact ⟨rfl, rfl⟩

theorem lyOk_len {b : Nat} {L : LayN} (h : L.bs.length < 1 ∨ 8 < L.bs.length) : lyOk b L = false := lyOk_1 (nIn_false.2 (by omega))
theorem allIn_no {lo hi : Int} {xs : List Int} {k : Nat} (hk : k < xs.length) (h : nIn lo hi (xs[k]?.getD 0) = false) : allIn lo hi xs = false := allIn_false hk (nIn_false.1 h)
/-- Row by row, as the specification goes. -/
structure LyTo (b : Nat) (L : LayN) (k : Nat) : Prop where
  bs : ∀ i, i < k → nIn (-1000000) 1000000 (L.bs[i]?.getD 0) = true
  row : ∀ i, i < k → wRowOk b (L.ws[i]?.getD []) = true
theorem LyTo.zero (b : Nat) (L : LayN) : LyTo b L 0 := ⟨fun i h => absurd h (Nat.not_lt_zero _), fun i h => absurd h (Nat.not_lt_zero _)⟩
theorem LyTo.next {b : Nat} {L : LayN} {k : Nat} (h : LyTo b L k) (h1 : nIn (-1000000) 1000000 (L.bs[k]?.getD 0) = true) (h2 : (L.ws[k]?.getD []).length = b) (h3 : ∀ i, i < b → nIn (-1000) 1000 ((L.ws[k]?.getD [])[i]?.getD 0) = true) : LyTo b L (k + 1) where
  bs i hi := by
    by_cases e : i = k
    · subst e; exact h1
    · exact h.bs i (by omega)
  row i hi := by
    by_cases e : i = k
    · subst e
      simp only [wRowOk, Bool.and_eq_true, decide_eq_true_eq]
      exact ⟨h2, allIn_of fun j hj => nIn_true.1 (h3 j (by omega))⟩
    · exact h.row i (by omega)
theorem LyTo.all {b : Nat} {L : LayN} (h : LyTo b L L.bs.length) (h1 : 1 ≤ L.bs.length) (h8 : L.bs.length ≤ 8) (h2 : L.ws.length = L.bs.length) : lyOk b L = true := by
  refine lyOk_yes (nIn_true.2 (by omega)) h2 (allIn_of fun k hk => nIn_true.1 (h.bs k hk)) ?_
  rw [h2]
  have : ∀ n, n ≤ L.bs.length → allTo (fun r => wRowOk b (L.ws[r]?.getD [])) n = true := fun n => by
    induction n with
    | zero => intro _; rfl
    | succ n ih => intro hn; exact allTo_succ (ih (by omega)) (h.row n (by omega))
  exact this _ (Nat.le_refl _)

set_option maxRecDepth 100000 in
set_option maxHeartbeats 8000000 in
theorem layered_any (L : LayN) (b : Nat) (hb : b ≤ 16) (wa ba : Option Addr) (wl wc bl bc : Nat) (hwl : L.ws.length = wl) (hbl : L.bs.length = bl) (hwm : wl ≤ 9223372036854775807) (hbm : bl ≤ 9223372036854775807)
    (hrm : ∀ k : Nat, (L.ws[k]?.getD []).length ≤ 9223372036854775807) (w : World) (hws : RdW w.heap.size w wa L.ws) (hbs : Rd w.heap.size w ba L.bs) (v : Bool) (hv : lyOk b L = v) :
    Calls Tryz.prog 93 #[.agg #[.slice wa wl wc, .slice ba bl bc], .int .i64 (b : Int)] w fun e w' => e = .returned (.bool v) ∧ Below w.heap.size w w' := by
  have hvH := Lib.hid hv
  have hwlH := Lib.hid hwl
  have hblH := Lib.hid hbl
  have hrmH := Lib.hid hrm
  clear hv hwl hbl hrm
  have hB1 : Below w.heap.size w (w.alloc (.cells #[.slice wa wl wc, .slice ba bl bc] 87)) := jb_al (Below.refl _ w) _
  have hwsH := Lib.hid (later_w hws hB1)
  have hbsH := Lib.hid (later_i hbs hB1)
  have kl := Blk.new w 87 #[.slice wa wl wc, .slice ba bl bc]
  obtain ⟨W1, hW1⟩ : ∃ X, w.alloc (.cells #[.slice wa wl wc, .slice ba bl bc] 87) = X := ⟨_, rfl⟩
  rw [hW1] at hB1 hwsH hbsH kl
  have m0 : W1.cell? ⟨w.heap.size, 0, none⟩ = some (.slice wa wl wc) := kl.cell (i := 0) rfl
  have m1 : W1.cell? ⟨w.heap.size, 1, none⟩ = some (.slice ba bl bc) := kl.cell (i := 1) rfl
  clear kl hws hbs
  have tok1 : True := trivial
  have tok2 : True := trivial
  have tok3 : True := trivial
  have tok4 : True := trivial
  by_cases h1 : 1 ≤ bl
  case neg =>
    have hvf : v = false := by rw [← hvH.out]; exact lyOk_len (by rw [hblH.out]; omega)
    subst hvf
    go_enter Tryz.func93, Tryz.ntmps93
    go_wp2_with fail
    go_ret
    exact ⟨rfl, hB1⟩
  by_cases h2 : bl ≤ 8
  case neg =>
    have hvf : v = false := by rw [← hvH.out]; exact lyOk_len (by rw [hblH.out]; omega)
    subst hvf
    go_enter Tryz.func93, Tryz.ntmps93
    go_wp2_with fail
    go_ret
    exact ⟨rfl, hB1⟩
  by_cases h3 : wl = bl
  case neg =>
    have h3' : ((wl : Int) != (bl : Int)) = true := by simp; omega
    have h3'' : ¬ ((wl : Int) = (bl : Int)) := by omega
    have hvf : v = false := by rw [← hvH.out]; exact lyOk_2 (by rw [hwlH.out, hblH.out]; exact h3)
    subst hvf
    go_enter Tryz.func93, Tryz.ntmps93
    go_wp2_with fail
    go_ret
    exact ⟨rfl, hB1⟩
  subst h3
  go_enter Tryz.func93, Tryz.ntmps93
  go_wp2_with fail
  clear hW1
  go_loop [5] (fun i => ∃ k : Nat, k ≤ wl ∧ i = .int .i64 (k : Int) ∧ Hid (LyTo b L k)) (fun i => wl - (intOf i).toNat)
  case atStart => exact ⟨0, Nat.zero_le _, rfl, Lib.hid (LyTo.zero b L)⟩
  case round =>
    obtain ⟨k, hk, rfl, hto⟩ := hrel
    by_cases hlt : k < wl
    case neg =>
      have hkw : k = wl := by omega
      subst hkw
      have hvt : v = true := by
        rw [← hvH.out]
        exact LyTo.all (by rw [hblH.out]; exact hto.out) (by rw [hblH.out]; exact h1) (by rw [hblH.out]; exact h2) (by rw [hwlH.out, hblH.out])
      subst hvt
      clear hto
      go_wp2_with fail
      go_ret
      exact ⟨rfl, hB1⟩
    case pos =>
      have hkb : k < L.bs.length := by have := hblH.out; omega
      have hkw : k < L.ws.length := by have := hwlH.out; omega
      rcases hbsH.out with h0 | ⟨bb, bo, rfl, hbb, hbc⟩
      · rw [h0] at hkb; simp at hkb
      have hcb := hbc k hkb
      obtain ⟨wb, wo, rfl, hwb, ra, rc, hcw, hrow⟩ := hwsH.out.at hkw
      have z3 := hrmH.out k
      obtain ⟨r, hre⟩ : ∃ r, L.ws[k]?.getD [] = r := ⟨_, rfl⟩
      obtain ⟨x, hx⟩ : ∃ x, L.bs[k]?.getD 0 = x := ⟨_, rfl⟩
      rw [hre] at hcw hrow z3
      rw [hx] at hcb
      obtain ⟨rl, hrl⟩ : ∃ x, r.length = x := ⟨_, rfl⟩
      rw [hrl] at hcw z3
      have hreH := Lib.hid hre
      have hrlH := Lib.hid hrl
      have hrowH := Lib.hid hrow
      have hxH := Lib.hid hx
      clear hre hrl hrow hx hbc
      cases f1 : nIn (-1000000) 1000000 x with
      | false =>
        have hvf : v = false := by rw [← hvH.out]; exact lyOk_3 (allIn_no hkb (by rw [hxH.out]; exact f1))
        subst hvf
        have f1H := Lib.hid f1
        clear f1
        go_wp2_with (go_at_call 61; have _t := tok1; refine (rw1 (-1000000) 1000000 _ false f1H.out _).mono ?_; clear _t tok1; rintro e w' ⟨rfl, rfl⟩)
        go_ret
        exact ⟨rfl, hB1⟩
      | true =>
      have f1H := Lib.hid f1
      clear f1
      by_cases f2 : rl = b
      case neg =>
        have hvf : v = false := by rw [← hvH.out]; exact lyOk_4 hkw (by rw [hreH.out, hrlH.out]; exact f2)
        subst hvf
        have f2' : ((rl : Int) != (b : Int)) = true := by simp; omega
        have f2'' : ¬ ((rl : Int) = (b : Int)) := by omega
        go_wp2_with (go_at_call 61; have _t := tok1; refine (rw1 (-1000000) 1000000 _ true f1H.out _).mono ?_; clear _t tok1; rintro e w' ⟨rfl, rfl⟩)
        go_ret
        exact ⟨rfl, hB1⟩
      subst f2
      go_wp2_with (go_at_call 61; have _t := tok1; refine (rw1 (-1000000) 1000000 _ true f1H.out _).mono ?_; clear _t tok1; rintro e w' ⟨rfl, rfl⟩)
      go_loop [6] (fun i => ∃ j : Nat, j ≤ rl ∧ i = .int .i64 (j : Int) ∧ Hid (∀ i, i < j → nIn (-1000) 1000 (r[i]?.getD 0) = true)) (fun i => rl - (intOf i).toNat)
      case atStart => exact ⟨0, Nat.zero_le _, rfl, Lib.hid (fun i h => absurd h (Nat.not_lt_zero _))⟩
      case round =>
        obtain ⟨j, hj, rfl, hall⟩ := hrel
        by_cases hlt2 : j < rl
        case pos =>
          have hjr : j < r.length := by have := hrlH.out; omega
          rcases hrowH.out with h0 | ⟨rb, ro, rfl, hrb, hrc⟩
          · rw [h0] at hjr; simp at hjr
          have hcr := hrc j hjr
          obtain ⟨y, hy⟩ : ∃ y, r[j]?.getD 0 = y := ⟨_, rfl⟩
          rw [hy] at hcr
          have hyH := Lib.hid hy
          clear hy hrc
          cases f3 : nIn (-1000) 1000 y with
          | false =>
            have hvf : v = false := by rw [← hvH.out]; exact lyOk_5 hkw (by rw [hreH.out]; exact allIn_no hjr (by rw [hyH.out]; exact f3))
            subst hvf
            have f3H := Lib.hid f3
            clear f3
            go_wp2_with (go_at_call 61; have _t := tok2; refine (rw1 (-1000) 1000 _ false f3H.out _).mono ?_; clear _t tok2; rintro e w' ⟨rfl, rfl⟩)
            go_ret
            exact ⟨rfl, hB1⟩
          | true =>
            have f3H := Lib.hid f3
            clear f3
            go_wp2_with (go_at_call 61; have _t := tok2; refine (rw1 (-1000) 1000 _ true f3H.out _).mono ?_; clear _t tok2; rintro e w' ⟨rfl, rfl⟩)
            go_round
            case rel =>
              refine ⟨j + 1, by omega, by go_num, Lib.hid fun i hi => ?_⟩
              by_cases e : i = j
              · subst e; rw [hyH.out]; exact f3H.out
              · exact hall.out i (by omega)
            case measure => simp [intOf]; omega
        case neg =>
          have hjr : j = rl := by omega
          subst hjr
          have hnx := Lib.hid (hto.out.next (by rw [hxH.out]; exact f1H.out) (by rw [hreH.out, hrlH.out]) (fun i hi => by rw [hreH.out]; exact hall.out i hi))
          clear hall hto
          go_wp2_with fail
          go_round
          case rel => exact ⟨k + 1, by omega, by go_num, hnx⟩
          case measure => simp [intOf]; omega

set_option maxRecDepth 100000 in
set_option maxHeartbeats 8000000 in
theorem ValidNetwork_any (N : NetN) (a : Option Addr) (n c : Nat) (hn : N.Ls.length = n) (hz : NetSz N) (w : World) (hr : RdLs w.heap.size w a N.Ls) (v : Bool) (hv : netOk N = v) :
    Calls Tryz.prog 51 #[netv N a n c] w fun e w' => e = .returned (.bool v) ∧ Below w.heap.size w w' := by
  obtain ⟨W, H, GX, GY, Ls, low, high⟩ := N
  have hnH := Lib.hid hn
  have hvH := Lib.hid hv
  have hzn : n ≤ 9223372036854775807 := by rw [← hn]; exact hz.n
  have hzH := Lib.hid hz
  clear hn hv hz
  simp only at hnH hr
  have hB1 : Below w.heap.size w (w.alloc (.cells #[.int .i64 W, .int .i64 H, .int .i64 GX, .int .i64 GY, .slice a n c, .int .i64 low, .int .i64 high] 24)) := jb_al (Below.refl _ w) _
  have kb := Blk.new w 24 #[.int .i64 W, .int .i64 H, .int .i64 GX, .int .i64 GY, .slice a n c, .int .i64 low, .int .i64 high]
  obtain ⟨W1, hW1⟩ : ∃ X, w.alloc (.cells #[.int .i64 W, .int .i64 H, .int .i64 GX, .int .i64 GY, .slice a n c, .int .i64 low, .int .i64 high] 24) = X := ⟨_, rfl⟩
  rw [hW1] at hB1 kb
  have c0 : W1.cell? ⟨w.heap.size, 0, none⟩ = some (.int .i64 W) := kb.cell (i := 0) rfl
  have c1 : W1.cell? ⟨w.heap.size, 1, none⟩ = some (.int .i64 H) := kb.cell (i := 1) rfl
  have c2 : W1.cell? ⟨w.heap.size, 2, none⟩ = some (.int .i64 GX) := kb.cell (i := 2) rfl
  have c3 : W1.cell? ⟨w.heap.size, 3, none⟩ = some (.int .i64 GY) := kb.cell (i := 3) rfl
  have c4 : W1.cell? ⟨w.heap.size, 4, none⟩ = some (.slice a n c) := kb.cell (i := 4) rfl
  have kbH := Lib.hid kb
  have hrH := Lib.hid (later_l hr hB1)
  clear kb hr
  have tok1 : True := trivial
  have tok2 : True := trivial
  have tok3 : True := trivial
  have tok4 : True := trivial
  have tok5 : True := trivial
  have tok6 : True := trivial
  have tok7 : True := trivial
  cases h1 : nIn 1 16 W with
  | false =>
    have hvf : v = false := by rw [← hvH.out]; exact netOk_1 (by show (nIn 1 16 W && nIn 1 16 H) = false; rw [h1]; rfl)
    subst hvf
    have h1H := Lib.hid h1
    clear h1
    clear hvH hrH hzH hnH kbH
    go_enter Tryz.func51, Tryz.ntmps51
    go_wp2_with (go_at_call 61; have _t := tok1; refine (rw1 1 16 _ false h1H.out _).mono ?_; clear _t tok1; rintro e w' ⟨rfl, rfl⟩)
    go_ret
    exact ⟨rfl, hB1⟩
  | true =>
  have g1 := nIn_true.1 h1
  have h1H := Lib.hid h1
  clear h1
  cases h2 : nIn 1 16 H with
  | false =>
    have hvf : v = false := by rw [← hvH.out]; exact netOk_1 (by show (nIn 1 16 W && nIn 1 16 H) = false; rw [h2, Bool.and_false])
    subst hvf
    have h2H := Lib.hid h2
    clear h2
    clear hvH hrH hzH hnH kbH
    go_enter Tryz.func51, Tryz.ntmps51
    go_wp2_with (first
      | (go_at_call 61; have _t := tok1; refine (rw1 1 16 _ true h1H.out _).mono ?_; clear _t tok1; rintro e w' ⟨rfl, rfl⟩)
      | (go_at_call 61; have _t := tok2; refine (rw1 1 16 _ false h2H.out _).mono ?_; clear _t tok2; rintro e w' ⟨rfl, rfl⟩))
    go_ret
    exact ⟨rfl, hB1⟩
  | true =>
  have g2 := nIn_true.1 h2
  have h2H := Lib.hid h2
  clear h2
  cases h3 : nIn 1 4 GX with
  | false =>
    have hvf : v = false := by rw [← hvH.out]; exact netOk_2 (by show (nIn 1 4 GX && nIn 1 4 GY) = false; rw [h3]; rfl)
    subst hvf
    have h3H := Lib.hid h3
    clear h3
    clear hvH hrH hzH hnH kbH
    go_enter Tryz.func51, Tryz.ntmps51
    go_wp2_with (first
      | (go_at_call 61; have _t := tok1; refine (rw1 1 16 _ true h1H.out _).mono ?_; clear _t tok1; rintro e w' ⟨rfl, rfl⟩)
      | (go_at_call 61; have _t := tok2; refine (rw1 1 16 _ true h2H.out _).mono ?_; clear _t tok2; rintro e w' ⟨rfl, rfl⟩)
      | (go_at_call 61; have _t := tok3; refine (rw1 1 4 _ false h3H.out _).mono ?_; clear _t tok3; rintro e w' ⟨rfl, rfl⟩))
    go_ret
    exact ⟨rfl, hB1⟩
  | true =>
  have g3 := nIn_true.1 h3
  have h3H := Lib.hid h3
  clear h3
  cases h4 : nIn 1 4 GY with
  | false =>
    have hvf : v = false := by rw [← hvH.out]; exact netOk_2 (by show (nIn 1 4 GX && nIn 1 4 GY) = false; rw [h4, Bool.and_false])
    subst hvf
    have h4H := Lib.hid h4
    clear h4
    clear hvH hrH hzH hnH kbH
    go_enter Tryz.func51, Tryz.ntmps51
    go_wp2_with (first
      | (go_at_call 61; have _t := tok1; refine (rw1 1 16 _ true h1H.out _).mono ?_; clear _t tok1; rintro e w' ⟨rfl, rfl⟩)
      | (go_at_call 61; have _t := tok2; refine (rw1 1 16 _ true h2H.out _).mono ?_; clear _t tok2; rintro e w' ⟨rfl, rfl⟩)
      | (go_at_call 61; have _t := tok3; refine (rw1 1 4 _ true h3H.out _).mono ?_; clear _t tok3; rintro e w' ⟨rfl, rfl⟩)
      | (go_at_call 61; have _t := tok4; refine (rw1 1 4 _ false h4H.out _).mono ?_; clear _t tok4; rintro e w' ⟨rfl, rfl⟩))
    go_ret
    exact ⟨rfl, hB1⟩
  | true =>
  have g4 := nIn_true.1 h4
  have h4H := Lib.hid h4
  clear h4
  obtain ⟨r1, hq1⟩ : ∃ r, W.tmod GX = r := ⟨_, rfl⟩
  obtain ⟨r2, hq2⟩ : ∃ r, H.tmod GY = r := ⟨_, rfl⟩
  have hm1 : W % GX = r1 := by rw [← hq1, Int.tmod_eq_emod_of_nonneg (by omega)]
  have hm2 : H % GY = r2 := by rw [← hq2, Int.tmod_eq_emod_of_nonneg (by omega)]
  have hm1H := Lib.hid hm1
  have hm2H := Lib.hid hm2
  clear hm1 hm2
  by_cases h5 : r1 = 0
  case neg =>
    have h5' : (r1 != 0) = true := by simpa using h5
    have hvf : v = false := by rw [← hvH.out]; exact netOk_3 (by show ¬ W % GX = 0; rw [hm1H.out]; exact h5)
    subst hvf
    clear hvH hrH hzH hnH kbH
    go_enter Tryz.func51, Tryz.ntmps51
    go_wp2_with (first
      | (go_at_call 61; have _t := tok1; refine (rw1 1 16 _ true h1H.out _).mono ?_; clear _t tok1; rintro e w' ⟨rfl, rfl⟩)
      | (go_at_call 61; have _t := tok2; refine (rw1 1 16 _ true h2H.out _).mono ?_; clear _t tok2; rintro e w' ⟨rfl, rfl⟩)
      | (go_at_call 61; have _t := tok3; refine (rw1 1 4 _ true h3H.out _).mono ?_; clear _t tok3; rintro e w' ⟨rfl, rfl⟩)
      | (go_at_call 61; have _t := tok4; refine (rw1 1 4 _ true h4H.out _).mono ?_; clear _t tok4; rintro e w' ⟨rfl, rfl⟩))
    go_ret
    exact ⟨rfl, hB1⟩
  case pos =>
  subst h5
  by_cases h6 : r2 = 0
  case neg =>
    have h6' : (r2 != 0) = true := by simpa using h6
    have hvf : v = false := by rw [← hvH.out]; exact netOk_4 (by show ¬ H % GY = 0; rw [hm2H.out]; exact h6)
    subst hvf
    clear hvH hrH hzH hnH kbH
    go_enter Tryz.func51, Tryz.ntmps51
    go_wp2_with (first
      | (go_at_call 61; have _t := tok1; refine (rw1 1 16 _ true h1H.out _).mono ?_; clear _t tok1; rintro e w' ⟨rfl, rfl⟩)
      | (go_at_call 61; have _t := tok2; refine (rw1 1 16 _ true h2H.out _).mono ?_; clear _t tok2; rintro e w' ⟨rfl, rfl⟩)
      | (go_at_call 61; have _t := tok3; refine (rw1 1 4 _ true h3H.out _).mono ?_; clear _t tok3; rintro e w' ⟨rfl, rfl⟩)
      | (go_at_call 61; have _t := tok4; refine (rw1 1 4 _ true h4H.out _).mono ?_; clear _t tok4; rintro e w' ⟨rfl, rfl⟩))
    go_ret
    exact ⟨rfl, hB1⟩
  case pos =>
  subst h6
  by_cases h7 : 1 ≤ n
  case neg =>
    have hvf : v = false := by rw [← hvH.out]; exact netOk_5 (nIn_false.2 (.inl (by show (Ls.length : Int) < 1; rw [hnH.out]; omega)))
    subst hvf
    clear hvH hrH hzH hnH kbH
    go_enter Tryz.func51, Tryz.ntmps51
    go_wp2_with (first
      | (go_at_call 61; have _t := tok1; refine (rw1 1 16 _ true h1H.out _).mono ?_; clear _t tok1; rintro e w' ⟨rfl, rfl⟩)
      | (go_at_call 61; have _t := tok2; refine (rw1 1 16 _ true h2H.out _).mono ?_; clear _t tok2; rintro e w' ⟨rfl, rfl⟩)
      | (go_at_call 61; have _t := tok3; refine (rw1 1 4 _ true h3H.out _).mono ?_; clear _t tok3; rintro e w' ⟨rfl, rfl⟩)
      | (go_at_call 61; have _t := tok4; refine (rw1 1 4 _ true h4H.out _).mono ?_; clear _t tok4; rintro e w' ⟨rfl, rfl⟩))
    go_ret
    exact ⟨rfl, hB1⟩
  case pos =>
  by_cases h8 : n ≤ 3
  case neg =>
    have hvf : v = false := by rw [← hvH.out]; exact netOk_5 (nIn_false.2 (.inr (by show 3 < (Ls.length : Int); rw [hnH.out]; omega)))
    subst hvf
    clear hvH hrH hzH hnH kbH
    go_enter Tryz.func51, Tryz.ntmps51
    go_wp2_with (first
      | (go_at_call 61; have _t := tok1; refine (rw1 1 16 _ true h1H.out _).mono ?_; clear _t tok1; rintro e w' ⟨rfl, rfl⟩)
      | (go_at_call 61; have _t := tok2; refine (rw1 1 16 _ true h2H.out _).mono ?_; clear _t tok2; rintro e w' ⟨rfl, rfl⟩)
      | (go_at_call 61; have _t := tok3; refine (rw1 1 4 _ true h3H.out _).mono ?_; clear _t tok3; rintro e w' ⟨rfl, rfl⟩)
      | (go_at_call 61; have _t := tok4; refine (rw1 1 4 _ true h4H.out _).mono ?_; clear _t tok4; rintro e w' ⟨rfl, rfl⟩))
    go_ret
    exact ⟨rfl, hB1⟩
  case pos =>
  obtain ⟨m, hm⟩ : ∃ m : Nat, (m : Int) = GX * GY := ⟨(GX * GY).toNat, by
    have : 1 * 1 ≤ GX * GY := Int.mul_le_mul (by omega) (by omega) (by omega) (by omega)
    omega⟩
  have hm16 : GX * GY ≤ 4 * 4 := Int.mul_le_mul (by omega) (by omega) (by omega) (by omega)
  have hm0 : 1 * 1 ≤ GX * GY := Int.mul_le_mul (by omega) (by omega) (by omega) (by omega)
  have hmm : GX * GY = (m : Int) := hm.symm
  have hnf : NetN.nf ⟨W, H, GX, GY, Ls, low, high⟩ = m := by unfold NetN.nf; simp only; omega
  rw [hmm] at hm16 hm0
  have hnfH := Lib.hid hnf
  clear hm hnf
  go_enter Tryz.func51, Tryz.ntmps51
  go_wp2_with (first
    | (go_at_call 61; have _t := tok1; refine (rw1 1 16 _ true h1H.out _).mono ?_; clear _t tok1; rintro e w' ⟨rfl, rfl⟩)
    | (go_at_call 61; have _t := tok2; refine (rw1 1 16 _ true h2H.out _).mono ?_; clear _t tok2; rintro e w' ⟨rfl, rfl⟩)
    | (go_at_call 61; have _t := tok3; refine (rw1 1 4 _ true h3H.out _).mono ?_; clear _t tok3; rintro e w' ⟨rfl, rfl⟩)
    | (go_at_call 61; have _t := tok4; refine (rw1 1 4 _ true h4H.out _).mono ?_; clear _t tok4; rintro e w' ⟨rfl, rfl⟩))
  clear hW1
  go_loopw [3, 4] (fun b i wr => ∃ k : Nat, k ≤ n ∧ i = .int .i64 (k : Int) ∧ b = .int .i64 ((widthN m Ls k : Nat) : Int) ∧ Hid (allTo (fun k => lyOk (widthN m Ls k) (layAt Ls k)) k = true) ∧ Hid (widthN m Ls k ≤ 16) ∧ Below W1.heap.size W1 wr) (fun _ i _ => n - (intOf i).toNat)
  case atStart => exact ⟨0, Nat.zero_le _, rfl, rfl, Lib.hid rfl, Lib.hid (by show m ≤ 16; omega), Below.refl _ _⟩
  case round =>
    obtain ⟨k, hk, rfl, rfl, hall, hw16, hb⟩ := hrel
    clear c0 c1 c2 c3 c4
    have kr := kbH.out.below hb kbH.out.lt
    have hBr := hB1.trans (hb.mono hB1.size)
    have c4 : wr.cell? ⟨w.heap.size, 4, none⟩ = some (.slice a n c) := kr.cell (i := 4) rfl
    by_cases hlt : k < n
    case pos =>
      have hkl : k < Ls.length := by have := hnH.out; omega
      have hrw := later_l hrH.out hb
      obtain ⟨b, o, rfl, hb', wa, wc, ba, bc, hc1, hc2, hws, hbs⟩ := hrw.at hkl
      obtain ⟨z1, z2⟩ := hzH.out.ly k
      have z3 := hzH.out.row k
      simp only at z1 z2 z3
      obtain ⟨L, hL⟩ : ∃ L, layAt Ls k = L := ⟨_, rfl⟩
      obtain ⟨B, hBe⟩ : ∃ B, widthN m Ls k = B := ⟨_, rfl⟩
      rw [hL] at hc1 hc2 hws hbs z1 z2 z3
      rw [hBe] at hw16 ⊢
      obtain ⟨wl, hwl⟩ : ∃ x, L.ws.length = x := ⟨_, rfl⟩
      obtain ⟨bl, hbl⟩ : ∃ x, L.bs.length = x := ⟨_, rfl⟩
      rw [hwl] at hc1 z1
      rw [hbl] at hc2 z2
      have krH := Lib.hid kr
      cases hly : lyOk B L with
      | false =>
        have hvf : v = false := by
          rw [← hvH.out]
          exact netOk_6 (N := ⟨W, H, GX, GY, Ls, low, high⟩) (k := k) hkl (by rw [hnfH.out]; show lyOk (widthN m Ls k) (layAt Ls k) = false; rw [hL, hBe]; exact hly)
        subst hvf
        have hcall := layered_any L B hw16.out wa ba wl wc bl bc hwl hbl z1 z2 z3 wr hws hbs false hly
        have hcallH := Lib.hid hcall
        clear hcall hL hBe hwl hbl z3 hrw kr hws hbs hly
        go_wp2_with (go_at_call 93; have _t := tok5; refine (hcallH.out).mono ?_; clear _t tok5; rintro e w2 ⟨rfl, hb2⟩)
        go_ret
        exact ⟨rfl, hBr.trans (hb2.mono hBr.size)⟩
      | true =>
        have hcall := layered_any L B hw16.out wa ba wl wc bl bc hwl hbl z1 z2 z3 wr hws hbs true hly
        have hcallH := Lib.hid hcall
        have hbl8 : bl ≤ 8 := by rw [← hbl]; exact (lyOk_iff.1 hly).b8
        have hnx := Lib.hid (show allTo (fun k => lyOk (widthN m Ls k) (layAt Ls k)) (k + 1) = true from allTo_succ hall.out (by show lyOk (widthN m Ls k) (layAt Ls k) = true; rw [hL, hBe]; exact hly))
        have hwn := Lib.hid (show widthN m Ls (k + 1) = bl by show (layAt Ls k).bs.length = bl; rw [hL, hbl])
        clear hcall hL hBe hwl hbl z3 hrw kr hws hbs hly
        go_wp2_with (go_at_call 93; have _t := tok5; refine (hcallH.out).mono ?_; clear _t tok5; rintro e w2 ⟨rfl, hb2⟩; have d1 := hb2.cell (p := ⟨w.heap.size, 4, none⟩) (by have := krH.out.lt; exact this); rw [c4] at d1; have d2 := hb2.cell (p := ⟨b, o + k * 2 + 1, none⟩) hb'; rw [hc2] at d2; have hb3 := Lib.hid (hb.trans (hb2.mono hb.size)); clear hb2)
        go_roundw
        case rel => exact ⟨k + 1, by omega, by go_num, by rw [hwn.out], hnx, Lib.hid (by rw [hwn.out]; omega), hb3.out⟩
        case measure => simp [intOf]; omega
    case neg =>
      have hkn : k = n := by omega
      subst hkn
      obtain ⟨B, hBe⟩ : ∃ B, widthN m Ls k = B := ⟨_, rfl⟩
      have hwid : widthN (NetN.nf ⟨W, H, GX, GY, Ls, low, high⟩) Ls Ls.length = B := by rw [hnfH.out, hnH.out]; exact hBe
      rw [hBe]
      have hwidH := Lib.hid hwid
      have hallH := Lib.hid (show allTo (fun k => lyOk (widthN (NetN.nf ⟨W, H, GX, GY, Ls, low, high⟩) Ls k) (layAt Ls k)) Ls.length = true by rw [hnfH.out, hnH.out]; exact hall.out)
      have c5 : wr.cell? ⟨w.heap.size, 5, none⟩ = some (.int .i64 low) := kr.cell (i := 5) rfl
      have c6 : wr.cell? ⟨w.heap.size, 6, none⟩ = some (.int .i64 high) := kr.cell (i := 6) rfl
      clear hBe hwid hall kr
      by_cases f1 : B = 1
      case neg =>
        have hvf : v = false := by rw [← hvH.out]; exact netOk_7 (by show ¬ widthN _ Ls Ls.length = 1; rw [hwidH.out]; exact f1)
        subst hvf
        have f1' : ((B : Int) == (1 : Int)) = false := by simp; omega
        have f1'' : ¬ ((B : Int) = (1 : Int)) := by omega
        go_wp2_with fail
        go_ret
        exact ⟨rfl, hBr⟩
      subst f1
      by_cases f2 : low < high
      case neg =>
        have hvf : v = false := by rw [← hvH.out]; exact netOk_8 f2
        subst hvf
        go_wp2_with fail
        go_ret
        exact ⟨rfl, hBr⟩
      cases f3 : nIn (-1152921504606846976) 1152921504606846976 low with
      | false =>
        have hvf : v = false := by rw [← hvH.out]; exact netOk_9 (by show (nIn _ _ low && nIn _ _ high) = false; rw [f3]; rfl)
        subst hvf
        have f3H := Lib.hid f3
        clear f3
        go_wp2_with (go_at_call 61; have _t := tok6; refine (rw1 (-1152921504606846976) 1152921504606846976 _ false f3H.out _).mono ?_; clear _t tok6; rintro e w' ⟨rfl, rfl⟩)
        go_ret
        exact ⟨rfl, hBr⟩
      | true =>
      have f3H := Lib.hid f3
      clear f3
      obtain ⟨u, f4⟩ : ∃ u, nIn (-1152921504606846976) 1152921504606846976 high = u := ⟨_, rfl⟩
      have hvf : v = u := by
        rw [← hvH.out]
        cases u with
        | false => exact netOk_9 (by show (nIn _ _ low && nIn _ _ high) = false; rw [f4, Bool.and_false])
        | true => exact netOk_yes (by show (nIn 1 16 W && nIn 1 16 H) = true; rw [h1H.out, h2H.out]; rfl) (by show (nIn 1 4 GX && nIn 1 4 GY) = true; rw [h3H.out, h4H.out]; rfl) hm1H.out hm2H.out (nIn_true.2 (by show 1 ≤ (Ls.length : Int) ∧ (Ls.length : Int) ≤ 3; rw [hnH.out]; omega)) hallH.out hwidH.out f2 (by show (nIn _ _ low && nIn _ _ high) = true; rw [f3H.out, f4]; rfl)
      subst hvf
      have f4H := Lib.hid f4
      clear f4
      go_wp2_with (first
        | (go_at_call 61; have _t := tok6; refine (rw1 (-1152921504606846976) 1152921504606846976 _ true f3H.out _).mono ?_; clear _t tok6; rintro e w' ⟨rfl, rfl⟩)
        | (go_at_call 61; have _t := tok7; refine (rw1 (-1152921504606846976) 1152921504606846976 _ v f4H.out _).mono ?_; clear _t tok7; rintro e w' ⟨rfl, rfl⟩))
      go_ret
      exact ⟨rfl, hBr⟩

end Go.Proofs.YtbfigbpjoaccdaaGreat

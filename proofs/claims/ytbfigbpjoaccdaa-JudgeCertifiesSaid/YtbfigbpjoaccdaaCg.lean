/- Certify of the specification. -/
import Derived.Test.YtbfigbpjoaccdaaCq
namespace Go.Proofs.Ytbfigbpjoaccdaa
open Go Go.RowKit Go.Shelf
set_option linter.unusedVariables false
set_option linter.unusedSimpArgs false

theorem chkF_two_eq (N : NetN) (m m' : ImN) : chkF N [m, m'] = if netOk N = true then if (camB m && camB m') = true then if (decide (m.w = N.w ∧ m.h = N.h) && decide (m'.w = N.w ∧ m'.h = N.h)) = true then 0 else 21 else 20 else 80 := by
  have h1 : camsB [m, m'] = (camB m && camB m') := by simp only [camsB, List.length_cons, List.length_nil, allTo, imAt]; simp
  have h2 : fitsB N [m, m'] = (decide (m.w = N.w ∧ m.h = N.h) && decide (m'.w = N.w ∧ m'.h = N.h)) := by simp only [fitsB, List.length_cons, List.length_nil, allTo, imAt]; simp
  unfold chkF
  rw [h1, h2]
set_option maxRecDepth 100000 in
set_option maxHeartbeats 16000000 in
theorem rCertify_any (N : NetN) (na : Option Addr) (nn nc : Nat) (hnn : N.Ls.length = nn) (hz : NetSz N) (m m' : ImN) (pa pa' : Option Addr) (l pc l' pc' : Nat) (hl : m.px.length = l) (hl' : m'.px.length = l') (hpm : l ≤ 9223372036854775807) (hpm' : l' ≤ 9223372036854775807) (s : Int)
    (w : World) (hrn : RdLs w.heap.size w na N.Ls) (hp : Rd w.heap.size w pa m.px) (hp' : Rd w.heap.size w pa' m'.px) :
    Calls Try.prog 18 #[netv N na nn nc, imv m.w m.h pa l pc, imv m'.w m'.h pa' l' pc', .int .i64 s] w (RetCert N m m' s w) := by
  obtain ⟨v, hv⟩ : ∃ v, chkF N [m, m'] = v := ⟨_, rfl⟩
  have hveq := chkF_two_eq N m m'
  rw [hv] at hveq
  have tok1 : True := trivial
  have tok2 : True := trivial
  have tok3 : True := trivial
  have tok4 : True := trivial
  have tok5 : True := trivial
  have tok6 : True := trivial
  have hbW1 : Below w.heap.size w (w.alloc (.cells #[.int .i64 N.w, .int .i64 N.h, .int .i64 N.gx, .int .i64 N.gy, .slice na nn nc, .int .i64 N.low, .int .i64 N.high] 24)) := jb_al (Below.refl _ w) _
  have kn := Blk.new w 24 #[.int .i64 N.w, .int .i64 N.h, .int .i64 N.gx, .int .i64 N.gy, .slice na nn nc, .int .i64 N.low, .int .i64 N.high]
  obtain ⟨W1, hEW1⟩ : ∃ X, w.alloc (.cells #[.int .i64 N.w, .int .i64 N.h, .int .i64 N.gx, .int .i64 N.gy, .slice na nn nc, .int .i64 N.low, .int .i64 N.high] 24) = X := ⟨_, rfl⟩
  rw [hEW1] at hbW1 kn
  have hbW2 : Below W1.heap.size W1 (W1.alloc (.cells #[.int .i64 m.w, .int .i64 m.h, .slice pa l pc] 27)) := jb_al (Below.refl _ W1) _
  have ki := Blk.new W1 27 #[.int .i64 m.w, .int .i64 m.h, .slice pa l pc]
  obtain ⟨W2, hEW2⟩ : ∃ X, W1.alloc (.cells #[.int .i64 m.w, .int .i64 m.h, .slice pa l pc] 27) = X := ⟨_, rfl⟩
  rw [hEW2] at hbW2 ki
  have hbW3 : Below W2.heap.size W2 (W2.alloc (.cells #[.int .i64 m'.w, .int .i64 m'.h, .slice pa' l' pc'] 27)) := jb_al (Below.refl _ W2) _
  have kj := Blk.new W2 27 #[.int .i64 m'.w, .int .i64 m'.h, .slice pa' l' pc']
  obtain ⟨W3, hEW3⟩ : ∃ X, W2.alloc (.cells #[.int .i64 m'.w, .int .i64 m'.h, .slice pa' l' pc'] 27) = X := ⟨_, rfl⟩
  rw [hEW3] at hbW3 kj
  have hB3 : Below w.heap.size w W3 := hbW1.trans ((hbW2.trans (hbW3.mono hbW2.size)).mono hbW1.size)
  have kn3 := (kn.below hbW2 kn.lt).below hbW3 (Nat.lt_of_lt_of_le kn.lt hbW2.size)
  have ki3 := ki.below hbW3 ki.lt
  have c0 : W3.cell? ⟨w.heap.size, 0, none⟩ = some (.int .i64 N.w) := kn3.cell (i := 0) rfl
  have c1 : W3.cell? ⟨w.heap.size, 1, none⟩ = some (.int .i64 N.h) := kn3.cell (i := 1) rfl
  have c2 : W3.cell? ⟨w.heap.size, 2, none⟩ = some (.int .i64 N.gx) := kn3.cell (i := 2) rfl
  have c3 : W3.cell? ⟨w.heap.size, 3, none⟩ = some (.int .i64 N.gy) := kn3.cell (i := 3) rfl
  have c4 : W3.cell? ⟨w.heap.size, 4, none⟩ = some (.slice na nn nc) := kn3.cell (i := 4) rfl
  have c5 : W3.cell? ⟨w.heap.size, 5, none⟩ = some (.int .i64 N.low) := kn3.cell (i := 5) rfl
  have c6 : W3.cell? ⟨w.heap.size, 6, none⟩ = some (.int .i64 N.high) := kn3.cell (i := 6) rfl
  have knH := Lib.hid kn3
  have kiH := Lib.hid ki3
  have kjH := Lib.hid kj
  have hpH := Lib.hid (fun (W : World) (hb : Below W3.heap.size W3 W) => later_i (later_i hp hB3) hb)
  have hp'H := Lib.hid (fun (W : World) (hb : Below W3.heap.size W3 W) => later_i (later_i hp' hB3) hb)
  have hrnH := Lib.hid (fun (W : World) (hb : Below W3.heap.size W3 W) => later_l (later_l hrn hB3) hb)
  have hlnH := Lib.hid hl
  have hlnH' := Lib.hid hl'
  have hnnH := Lib.hid hnn
  have hbad : ∀ (z : Int), chkF N [m, m'] = z → ¬ z = 0 → ∀ W, Below W3.heap.size W3 W → RetCert N m m' s w (.returned (.tuple #[.int .u8 0, .int .i64 z])) W := fun z h1 h2 W hb => by
    obtain ⟨r1, r2⟩ := cert_bad (s := s) (N := N) (m := m) (m' := m') (by rw [h1]; exact h2)
    exact ⟨by rw [r1, r2, h1], hB3.trans (hb.mono hB3.size)⟩
  have hbadH := Lib.hid hbad
  have hvH := Lib.hid hv
  clear kn ki kj kn3 ki3 hp hp' hrn hnn hbad hv hl hl'
  cases e1 : netOk N with
  | false =>
    have hvf : v = 80 := by rw [hveq, e1]; simp
    subst hvf
    have hcallH := Lib.hid (ValidNetwork_any N na nn nc hnnH.out hz W3 (hrnH.out W3 (Below.refl _ _)) false e1)
    clear hz e1 hveq
    go_enter Try.func18, Try.ntmps18
    go_wp2_with (go_at_call 24; have _t := tok1; refine (hcallH.out).mono ?_; clear _t tok1; rintro e w4 ⟨rfl, hb4⟩)
    go_ret2
    exact hbadH.out 80 hvH.out (by decide) _ hb4
  | true =>
  have hcallH := Lib.hid (ValidNetwork_any N na nn nc hnnH.out hz W3 (hrnH.out W3 (Below.refl _ _)) true e1)
  rw [if_pos e1] at hveq
  clear hz e1
  cases e2 : camB m with
  | false =>
    have hvf : v = 20 := by rw [hveq, e2]; simp
    subst hvf
    have hca1H := Lib.hid (fun (W : World) (hb : Below W3.heap.size W3 W) => rCamera_any m pa l pc hlnH.out hpm W (hpH.out W hb) false e2)
    clear e2 hveq
    go_enter Try.func18, Try.ntmps18
    go_wp2_with (first
      | (go_at_call 24; have _t := tok1; refine (hcallH.out).mono ?_; clear _t tok1; rintro e w4 ⟨rfl, hb4⟩; have ki4 := kiH.out.below hb4 kiH.out.lt; have kj4 := kjH.out.below hb4 kjH.out.lt; have q0 : w4.cell? ⟨W1.heap.size, 0, none⟩ = some (.int .i64 m.w) := ki4.cell (i := 0) rfl; have q1 : w4.cell? ⟨W1.heap.size, 1, none⟩ = some (.int .i64 m.h) := ki4.cell (i := 1) rfl; have q2 : w4.cell? ⟨W1.heap.size, 2, none⟩ = some (.slice pa l pc) := ki4.cell (i := 2) rfl)
      | (go_at_call 35; have _t := tok2; refine (hca1H.out w4 hb4).mono ?_; clear _t tok2; rintro e w5 ⟨rfl, hb5⟩; have hb45 := hb4.trans (hb5.mono hb4.size); have kj5 := kjH.out.below hb45 kjH.out.lt; have r0 : w5.cell? ⟨W2.heap.size, 0, none⟩ = some (.int .i64 m'.w) := kj5.cell (i := 0) rfl; have r1 : w5.cell? ⟨W2.heap.size, 1, none⟩ = some (.int .i64 m'.h) := kj5.cell (i := 1) rfl; have r2 : w5.cell? ⟨W2.heap.size, 2, none⟩ = some (.slice pa' l' pc') := kj5.cell (i := 2) rfl))
    go_ret2
    exact hbadH.out 20 hvH.out (by decide) _ hb45
  | true =>
  have hca1H := Lib.hid (fun (W : World) (hb : Below W3.heap.size W3 W) => rCamera_any m pa l pc hlnH.out hpm W (hpH.out W hb) true e2)
  cases e3 : camB m' with
  | false =>
    have hvf : v = 20 := by rw [hveq, e2, e3]; simp
    subst hvf
    have hca2H := Lib.hid (fun (W : World) (hb : Below W3.heap.size W3 W) => rCamera_any m' pa' l' pc' hlnH'.out hpm' W (hp'H.out W hb) false e3)
    clear e2 e3 hveq
    go_enter Try.func18, Try.ntmps18
    go_wp2_with (first
      | (go_at_call 24; have _t := tok1; refine (hcallH.out).mono ?_; clear _t tok1; rintro e w4 ⟨rfl, hb4⟩; have ki4 := kiH.out.below hb4 kiH.out.lt; have kj4 := kjH.out.below hb4 kjH.out.lt; have q0 : w4.cell? ⟨W1.heap.size, 0, none⟩ = some (.int .i64 m.w) := ki4.cell (i := 0) rfl; have q1 : w4.cell? ⟨W1.heap.size, 1, none⟩ = some (.int .i64 m.h) := ki4.cell (i := 1) rfl; have q2 : w4.cell? ⟨W1.heap.size, 2, none⟩ = some (.slice pa l pc) := ki4.cell (i := 2) rfl)
      | (go_at_call 35; have _t := tok2; refine (hca1H.out w4 hb4).mono ?_; clear _t tok2; rintro e w5 ⟨rfl, hb5⟩; have hb45 := hb4.trans (hb5.mono hb4.size); have kj5 := kjH.out.below hb45 kjH.out.lt; have r0 : w5.cell? ⟨W2.heap.size, 0, none⟩ = some (.int .i64 m'.w) := kj5.cell (i := 0) rfl; have r1 : w5.cell? ⟨W2.heap.size, 1, none⟩ = some (.int .i64 m'.h) := kj5.cell (i := 1) rfl; have r2 : w5.cell? ⟨W2.heap.size, 2, none⟩ = some (.slice pa' l' pc') := kj5.cell (i := 2) rfl)
      | (go_at_call 35; have _t := tok3; refine (hca2H.out w5 hb45).mono ?_; clear _t tok3; rintro e w6 ⟨rfl, hb6⟩; have hb46 := hb45.trans (hb6.mono hb45.size); have kn6 := knH.out.below hb46 knH.out.lt; have ki6 := kiH.out.below hb46 kiH.out.lt; have kj6 := kjH.out.below hb46 kjH.out.lt; have x0 : w6.cell? ⟨w.heap.size, 0, none⟩ = some (.int .i64 N.w) := kn6.cell (i := 0) rfl; have x1 : w6.cell? ⟨w.heap.size, 1, none⟩ = some (.int .i64 N.h) := kn6.cell (i := 1) rfl; have y0 : w6.cell? ⟨W1.heap.size, 0, none⟩ = some (.int .i64 m.w) := ki6.cell (i := 0) rfl; have y1 : w6.cell? ⟨W1.heap.size, 1, none⟩ = some (.int .i64 m.h) := ki6.cell (i := 1) rfl; have y2 : w6.cell? ⟨W1.heap.size, 2, none⟩ = some (.slice pa l pc) := ki6.cell (i := 2) rfl; have z0 : w6.cell? ⟨W2.heap.size, 0, none⟩ = some (.int .i64 m'.w) := kj6.cell (i := 0) rfl; have z1 : w6.cell? ⟨W2.heap.size, 1, none⟩ = some (.int .i64 m'.h) := kj6.cell (i := 1) rfl; have z2 : w6.cell? ⟨W2.heap.size, 2, none⟩ = some (.slice pa' l' pc') := kj6.cell (i := 2) rfl))
    go_ret2
    exact hbadH.out 20 hvH.out (by decide) _ hb46
  | true =>
  have hca2H := Lib.hid (fun (W : World) (hb : Below W3.heap.size W3 W) => rCamera_any m' pa' l' pc' hlnH'.out hpm' W (hp'H.out W hb) true e3)
  rw [e2, e3, if_pos (by rfl)] at hveq
  clear e2 e3
  by_cases g0 : m.w = N.w
  case neg =>
    have hvf : v = 21 := by rw [hveq, if_neg (by simp only [Bool.and_eq_true, decide_eq_true_eq]; exact fun h => g0 h.1.1)]
    subst hvf
    have g0' : (m.w != N.w) = true := by simpa using g0
    clear hveq
    go_enter Try.func18, Try.ntmps18
    go_wp2_with (first
      | (go_at_call 24; have _t := tok1; refine (hcallH.out).mono ?_; clear _t tok1; rintro e w4 ⟨rfl, hb4⟩; have ki4 := kiH.out.below hb4 kiH.out.lt; have kj4 := kjH.out.below hb4 kjH.out.lt; have q0 : w4.cell? ⟨W1.heap.size, 0, none⟩ = some (.int .i64 m.w) := ki4.cell (i := 0) rfl; have q1 : w4.cell? ⟨W1.heap.size, 1, none⟩ = some (.int .i64 m.h) := ki4.cell (i := 1) rfl; have q2 : w4.cell? ⟨W1.heap.size, 2, none⟩ = some (.slice pa l pc) := ki4.cell (i := 2) rfl)
      | (go_at_call 35; have _t := tok2; refine (hca1H.out w4 hb4).mono ?_; clear _t tok2; rintro e w5 ⟨rfl, hb5⟩; have hb45 := hb4.trans (hb5.mono hb4.size); have kj5 := kjH.out.below hb45 kjH.out.lt; have r0 : w5.cell? ⟨W2.heap.size, 0, none⟩ = some (.int .i64 m'.w) := kj5.cell (i := 0) rfl; have r1 : w5.cell? ⟨W2.heap.size, 1, none⟩ = some (.int .i64 m'.h) := kj5.cell (i := 1) rfl; have r2 : w5.cell? ⟨W2.heap.size, 2, none⟩ = some (.slice pa' l' pc') := kj5.cell (i := 2) rfl)
      | (go_at_call 35; have _t := tok3; refine (hca2H.out w5 hb45).mono ?_; clear _t tok3; rintro e w6 ⟨rfl, hb6⟩; have hb46 := hb45.trans (hb6.mono hb45.size); have kn6 := knH.out.below hb46 knH.out.lt; have ki6 := kiH.out.below hb46 kiH.out.lt; have kj6 := kjH.out.below hb46 kjH.out.lt; have x0 : w6.cell? ⟨w.heap.size, 0, none⟩ = some (.int .i64 N.w) := kn6.cell (i := 0) rfl; have x1 : w6.cell? ⟨w.heap.size, 1, none⟩ = some (.int .i64 N.h) := kn6.cell (i := 1) rfl; have y0 : w6.cell? ⟨W1.heap.size, 0, none⟩ = some (.int .i64 m.w) := ki6.cell (i := 0) rfl; have y1 : w6.cell? ⟨W1.heap.size, 1, none⟩ = some (.int .i64 m.h) := ki6.cell (i := 1) rfl; have y2 : w6.cell? ⟨W1.heap.size, 2, none⟩ = some (.slice pa l pc) := ki6.cell (i := 2) rfl; have z0 : w6.cell? ⟨W2.heap.size, 0, none⟩ = some (.int .i64 m'.w) := kj6.cell (i := 0) rfl; have z1 : w6.cell? ⟨W2.heap.size, 1, none⟩ = some (.int .i64 m'.h) := kj6.cell (i := 1) rfl; have z2 : w6.cell? ⟨W2.heap.size, 2, none⟩ = some (.slice pa' l' pc') := kj6.cell (i := 2) rfl))
    go_ret2
    exact hbadH.out 21 hvH.out (by decide) _ hb46
  have g0' : (m.w != N.w) = false := by simpa using g0
  have g0H := Lib.hid g0
  clear g0
  by_cases g1 : m.h = N.h
  case neg =>
    have hvf : v = 21 := by rw [hveq, if_neg (by simp only [Bool.and_eq_true, decide_eq_true_eq]; exact fun h => g1 h.1.2)]
    subst hvf
    have g1' : (m.h != N.h) = true := by simpa using g1
    clear hveq
    go_enter Try.func18, Try.ntmps18
    go_wp2_with (first
      | (go_at_call 24; have _t := tok1; refine (hcallH.out).mono ?_; clear _t tok1; rintro e w4 ⟨rfl, hb4⟩; have ki4 := kiH.out.below hb4 kiH.out.lt; have kj4 := kjH.out.below hb4 kjH.out.lt; have q0 : w4.cell? ⟨W1.heap.size, 0, none⟩ = some (.int .i64 m.w) := ki4.cell (i := 0) rfl; have q1 : w4.cell? ⟨W1.heap.size, 1, none⟩ = some (.int .i64 m.h) := ki4.cell (i := 1) rfl; have q2 : w4.cell? ⟨W1.heap.size, 2, none⟩ = some (.slice pa l pc) := ki4.cell (i := 2) rfl)
      | (go_at_call 35; have _t := tok2; refine (hca1H.out w4 hb4).mono ?_; clear _t tok2; rintro e w5 ⟨rfl, hb5⟩; have hb45 := hb4.trans (hb5.mono hb4.size); have kj5 := kjH.out.below hb45 kjH.out.lt; have r0 : w5.cell? ⟨W2.heap.size, 0, none⟩ = some (.int .i64 m'.w) := kj5.cell (i := 0) rfl; have r1 : w5.cell? ⟨W2.heap.size, 1, none⟩ = some (.int .i64 m'.h) := kj5.cell (i := 1) rfl; have r2 : w5.cell? ⟨W2.heap.size, 2, none⟩ = some (.slice pa' l' pc') := kj5.cell (i := 2) rfl)
      | (go_at_call 35; have _t := tok3; refine (hca2H.out w5 hb45).mono ?_; clear _t tok3; rintro e w6 ⟨rfl, hb6⟩; have hb46 := hb45.trans (hb6.mono hb45.size); have kn6 := knH.out.below hb46 knH.out.lt; have ki6 := kiH.out.below hb46 kiH.out.lt; have kj6 := kjH.out.below hb46 kjH.out.lt; have x0 : w6.cell? ⟨w.heap.size, 0, none⟩ = some (.int .i64 N.w) := kn6.cell (i := 0) rfl; have x1 : w6.cell? ⟨w.heap.size, 1, none⟩ = some (.int .i64 N.h) := kn6.cell (i := 1) rfl; have y0 : w6.cell? ⟨W1.heap.size, 0, none⟩ = some (.int .i64 m.w) := ki6.cell (i := 0) rfl; have y1 : w6.cell? ⟨W1.heap.size, 1, none⟩ = some (.int .i64 m.h) := ki6.cell (i := 1) rfl; have y2 : w6.cell? ⟨W1.heap.size, 2, none⟩ = some (.slice pa l pc) := ki6.cell (i := 2) rfl; have z0 : w6.cell? ⟨W2.heap.size, 0, none⟩ = some (.int .i64 m'.w) := kj6.cell (i := 0) rfl; have z1 : w6.cell? ⟨W2.heap.size, 1, none⟩ = some (.int .i64 m'.h) := kj6.cell (i := 1) rfl; have z2 : w6.cell? ⟨W2.heap.size, 2, none⟩ = some (.slice pa' l' pc') := kj6.cell (i := 2) rfl))
    go_ret2
    exact hbadH.out 21 hvH.out (by decide) _ hb46
  have g1' : (m.h != N.h) = false := by simpa using g1
  have g1H := Lib.hid g1
  clear g1
  by_cases g2 : m'.w = N.w
  case neg =>
    have hvf : v = 21 := by rw [hveq, if_neg (by simp only [Bool.and_eq_true, decide_eq_true_eq]; exact fun h => g2 h.2.1)]
    subst hvf
    have g2' : (m'.w != N.w) = true := by simpa using g2
    clear hveq
    go_enter Try.func18, Try.ntmps18
    go_wp2_with (first
      | (go_at_call 24; have _t := tok1; refine (hcallH.out).mono ?_; clear _t tok1; rintro e w4 ⟨rfl, hb4⟩; have ki4 := kiH.out.below hb4 kiH.out.lt; have kj4 := kjH.out.below hb4 kjH.out.lt; have q0 : w4.cell? ⟨W1.heap.size, 0, none⟩ = some (.int .i64 m.w) := ki4.cell (i := 0) rfl; have q1 : w4.cell? ⟨W1.heap.size, 1, none⟩ = some (.int .i64 m.h) := ki4.cell (i := 1) rfl; have q2 : w4.cell? ⟨W1.heap.size, 2, none⟩ = some (.slice pa l pc) := ki4.cell (i := 2) rfl)
      | (go_at_call 35; have _t := tok2; refine (hca1H.out w4 hb4).mono ?_; clear _t tok2; rintro e w5 ⟨rfl, hb5⟩; have hb45 := hb4.trans (hb5.mono hb4.size); have kj5 := kjH.out.below hb45 kjH.out.lt; have r0 : w5.cell? ⟨W2.heap.size, 0, none⟩ = some (.int .i64 m'.w) := kj5.cell (i := 0) rfl; have r1 : w5.cell? ⟨W2.heap.size, 1, none⟩ = some (.int .i64 m'.h) := kj5.cell (i := 1) rfl; have r2 : w5.cell? ⟨W2.heap.size, 2, none⟩ = some (.slice pa' l' pc') := kj5.cell (i := 2) rfl)
      | (go_at_call 35; have _t := tok3; refine (hca2H.out w5 hb45).mono ?_; clear _t tok3; rintro e w6 ⟨rfl, hb6⟩; have hb46 := hb45.trans (hb6.mono hb45.size); have kn6 := knH.out.below hb46 knH.out.lt; have ki6 := kiH.out.below hb46 kiH.out.lt; have kj6 := kjH.out.below hb46 kjH.out.lt; have x0 : w6.cell? ⟨w.heap.size, 0, none⟩ = some (.int .i64 N.w) := kn6.cell (i := 0) rfl; have x1 : w6.cell? ⟨w.heap.size, 1, none⟩ = some (.int .i64 N.h) := kn6.cell (i := 1) rfl; have y0 : w6.cell? ⟨W1.heap.size, 0, none⟩ = some (.int .i64 m.w) := ki6.cell (i := 0) rfl; have y1 : w6.cell? ⟨W1.heap.size, 1, none⟩ = some (.int .i64 m.h) := ki6.cell (i := 1) rfl; have y2 : w6.cell? ⟨W1.heap.size, 2, none⟩ = some (.slice pa l pc) := ki6.cell (i := 2) rfl; have z0 : w6.cell? ⟨W2.heap.size, 0, none⟩ = some (.int .i64 m'.w) := kj6.cell (i := 0) rfl; have z1 : w6.cell? ⟨W2.heap.size, 1, none⟩ = some (.int .i64 m'.h) := kj6.cell (i := 1) rfl; have z2 : w6.cell? ⟨W2.heap.size, 2, none⟩ = some (.slice pa' l' pc') := kj6.cell (i := 2) rfl))
    go_ret2
    exact hbadH.out 21 hvH.out (by decide) _ hb46
  have g2' : (m'.w != N.w) = false := by simpa using g2
  have g2H := Lib.hid g2
  clear g2
  by_cases g3 : m'.h = N.h
  case neg =>
    have hvf : v = 21 := by rw [hveq, if_neg (by simp only [Bool.and_eq_true, decide_eq_true_eq]; exact fun h => g3 h.2.2)]
    subst hvf
    have g3' : (m'.h != N.h) = true := by simpa using g3
    clear hveq
    go_enter Try.func18, Try.ntmps18
    go_wp2_with (first
      | (go_at_call 24; have _t := tok1; refine (hcallH.out).mono ?_; clear _t tok1; rintro e w4 ⟨rfl, hb4⟩; have ki4 := kiH.out.below hb4 kiH.out.lt; have kj4 := kjH.out.below hb4 kjH.out.lt; have q0 : w4.cell? ⟨W1.heap.size, 0, none⟩ = some (.int .i64 m.w) := ki4.cell (i := 0) rfl; have q1 : w4.cell? ⟨W1.heap.size, 1, none⟩ = some (.int .i64 m.h) := ki4.cell (i := 1) rfl; have q2 : w4.cell? ⟨W1.heap.size, 2, none⟩ = some (.slice pa l pc) := ki4.cell (i := 2) rfl)
      | (go_at_call 35; have _t := tok2; refine (hca1H.out w4 hb4).mono ?_; clear _t tok2; rintro e w5 ⟨rfl, hb5⟩; have hb45 := hb4.trans (hb5.mono hb4.size); have kj5 := kjH.out.below hb45 kjH.out.lt; have r0 : w5.cell? ⟨W2.heap.size, 0, none⟩ = some (.int .i64 m'.w) := kj5.cell (i := 0) rfl; have r1 : w5.cell? ⟨W2.heap.size, 1, none⟩ = some (.int .i64 m'.h) := kj5.cell (i := 1) rfl; have r2 : w5.cell? ⟨W2.heap.size, 2, none⟩ = some (.slice pa' l' pc') := kj5.cell (i := 2) rfl)
      | (go_at_call 35; have _t := tok3; refine (hca2H.out w5 hb45).mono ?_; clear _t tok3; rintro e w6 ⟨rfl, hb6⟩; have hb46 := hb45.trans (hb6.mono hb45.size); have kn6 := knH.out.below hb46 knH.out.lt; have ki6 := kiH.out.below hb46 kiH.out.lt; have kj6 := kjH.out.below hb46 kjH.out.lt; have x0 : w6.cell? ⟨w.heap.size, 0, none⟩ = some (.int .i64 N.w) := kn6.cell (i := 0) rfl; have x1 : w6.cell? ⟨w.heap.size, 1, none⟩ = some (.int .i64 N.h) := kn6.cell (i := 1) rfl; have y0 : w6.cell? ⟨W1.heap.size, 0, none⟩ = some (.int .i64 m.w) := ki6.cell (i := 0) rfl; have y1 : w6.cell? ⟨W1.heap.size, 1, none⟩ = some (.int .i64 m.h) := ki6.cell (i := 1) rfl; have y2 : w6.cell? ⟨W1.heap.size, 2, none⟩ = some (.slice pa l pc) := ki6.cell (i := 2) rfl; have z0 : w6.cell? ⟨W2.heap.size, 0, none⟩ = some (.int .i64 m'.w) := kj6.cell (i := 0) rfl; have z1 : w6.cell? ⟨W2.heap.size, 1, none⟩ = some (.int .i64 m'.h) := kj6.cell (i := 1) rfl; have z2 : w6.cell? ⟨W2.heap.size, 2, none⟩ = some (.slice pa' l' pc') := kj6.cell (i := 2) rfl))
    go_ret2
    exact hbadH.out 21 hvH.out (by decide) _ hb46
  have g3' : (m'.h != N.h) = false := by simpa using g3
  have g3H := Lib.hid g3
  clear g3
  have hvf : v = 0 := by rw [hveq, if_pos (by simp [g0H.out, g1H.out, g2H.out, g3H.out])]
  subst hvf
  obtain ⟨hN, ⟨hw, hh, hc⟩, hw', hh', hc'⟩ := chkF_two hvH.out
  obtain ⟨i1, i2, i3⟩ := im_len hN hw hh hc
  obtain ⟨i1', i2', i3'⟩ := im_len hN hw' hh' hc'
  have hll : l' = l := by rw [← hlnH.out, ← hlnH'.out, i3, i3']
  subst hll
  have hl256 : l' ≤ 256 := by rw [← hlnH.out]; exact i1
  have hf1 := fun (W : World) (hb : Below W3.heap.size W3 W) => Featured_any N hN na nn nc m hw hh hc pa l' pc hlnH.out W (hpH.out W hb)
  have hf2 := fun (W : World) (hb : Below W3.heap.size W3 W) => Featured_any N hN na nn nc m' hw' hh' hc' pa' l' pc' hlnH'.out W (hp'H.out W hb)
  have hble := bnd_le hN i1 i1' i2 i2'
  obtain ⟨nf, hnf⟩ : ∃ n, N.nf = n := ⟨_, rfl⟩
  have hn1 := hN.nf.1
  have hn16 := hN.nf.2.1
  have hfl1 := featL_length N m.px
  have hfl2 := featL_length N m'.px
  have hbl : (bndL N m.px m'.px).length = N.nf := by simp [bndL]
  have hb1e : (bndL N m.px m'.px).map (·.1) = featL N m.px := by
    refine List.ext_getElem (by rw [List.length_map, hbl, hfl1]) fun i h1 h2 => ?_
    simp only [bndL, List.getElem_map, List.getElem_range, bndF]
    rw [List.getElem?_eq_getElem h2]; rfl
  have hb2e : (bndL N m.px m'.px).map (·.2) = featL N m'.px := by
    refine List.ext_getElem (by rw [List.length_map, hbl, hfl2]) fun i h1 h2 => ?_
    simp only [bndL, List.getElem_map, List.getElem_range, bndF]
    rw [List.getElem?_eq_getElem h2]; rfl
  have hcc := fun s' (hs : s' ≤ 8) (a1 a2 : Option Addr) (c1 c2 : Nat) (W : World) (h1 : RdLs W.heap.size W na N.Ls) (h2 : Rd W.heap.size W a1 (featL N m.px)) (h3 : Rd W.heap.size W a2 (featL N m'.px)) =>
    certR_any N hN na nn nc hnnH.out s' hs (bndL N m.px m'.px) hbl hble a1 a2 c1 c2 W h1 (by rw [hb1e]; exact h2) (by rw [hb2e]; exact h3)
  rw [hnf] at hf1 hf2 hn1 hn16 hfl1 hfl2 hbl
  simp only [hnf] at hcc
  have hf1H := Lib.hid hf1
  have hf2H := Lib.hid hf2
  have hccH := Lib.hid hcc
  have hfl1H := Lib.hid hfl1
  have hfl2H := Lib.hid hfl2
  clear hf1 hf2 hble hcc hN hw hh hc hw' hh' hc' i1 i2 i3 i1' i2' i3' hnf hfl1 hfl2 hbl hveq hb1e hb2e
  go_enter Try.func18, Try.ntmps18
  go_wp2_with (first
    | (go_at_call 24; have _t := tok1; refine (hcallH.out).mono ?_; clear _t tok1; rintro e w4 ⟨rfl, hb4⟩; have ki4 := kiH.out.below hb4 kiH.out.lt; have kj4 := kjH.out.below hb4 kjH.out.lt; have q0 : w4.cell? ⟨W1.heap.size, 0, none⟩ = some (.int .i64 m.w) := ki4.cell (i := 0) rfl; have q1 : w4.cell? ⟨W1.heap.size, 1, none⟩ = some (.int .i64 m.h) := ki4.cell (i := 1) rfl; have q2 : w4.cell? ⟨W1.heap.size, 2, none⟩ = some (.slice pa l' pc) := ki4.cell (i := 2) rfl)
    | (go_at_call 35; have _t := tok2; refine (hca1H.out w4 hb4).mono ?_; clear _t tok2; rintro e w5 ⟨rfl, hb5⟩; have hb45 := hb4.trans (hb5.mono hb4.size); have kj5 := kjH.out.below hb45 kjH.out.lt; have r0 : w5.cell? ⟨W2.heap.size, 0, none⟩ = some (.int .i64 m'.w) := kj5.cell (i := 0) rfl; have r1 : w5.cell? ⟨W2.heap.size, 1, none⟩ = some (.int .i64 m'.h) := kj5.cell (i := 1) rfl; have r2 : w5.cell? ⟨W2.heap.size, 2, none⟩ = some (.slice pa' l' pc') := kj5.cell (i := 2) rfl)
    | (go_at_call 35; have _t := tok3; refine (hca2H.out w5 hb45).mono ?_; clear _t tok3; rintro e w6 ⟨rfl, hb6⟩; have hb46 := hb45.trans (hb6.mono hb45.size); have kn6 := knH.out.below hb46 knH.out.lt; have ki6 := kiH.out.below hb46 kiH.out.lt; have kj6 := kjH.out.below hb46 kjH.out.lt; have x0 : w6.cell? ⟨w.heap.size, 0, none⟩ = some (.int .i64 N.w) := kn6.cell (i := 0) rfl; have x1 : w6.cell? ⟨w.heap.size, 1, none⟩ = some (.int .i64 N.h) := kn6.cell (i := 1) rfl; have y0 : w6.cell? ⟨W1.heap.size, 0, none⟩ = some (.int .i64 m.w) := ki6.cell (i := 0) rfl; have y1 : w6.cell? ⟨W1.heap.size, 1, none⟩ = some (.int .i64 m.h) := ki6.cell (i := 1) rfl; have y2 : w6.cell? ⟨W1.heap.size, 2, none⟩ = some (.slice pa l' pc) := ki6.cell (i := 2) rfl; have z0 : w6.cell? ⟨W2.heap.size, 0, none⟩ = some (.int .i64 m'.w) := kj6.cell (i := 0) rfl; have z1 : w6.cell? ⟨W2.heap.size, 1, none⟩ = some (.int .i64 m'.h) := kj6.cell (i := 1) rfl; have z2 : w6.cell? ⟨W2.heap.size, 2, none⟩ = some (.slice pa' l' pc') := kj6.cell (i := 2) rfl))
  have kn4H := Lib.hid kn6
  have ki4H := Lib.hid ki6
  have kj4H := Lib.hid kj6
  clear hcallH hca1H hca2H hEW1 hEW2 hEW3 c0 c1 c2 c3 c4 c5 c6 x0 x1 y0 y1 z0 z1 z2 q0 q1 q2 r0 r1 r2 kn6 ki6 kj6 ki4 kj4 kj5 hb4 hb45 hb5 hb6 g0' g1' g2' g3'
  go_loopw [10] (fun i wr => ∃ k : Nat, k ≤ l' ∧ i = .int .i64 (k : Int) ∧ Hid (allTo (fun i => decide (m.px[i]?.getD 0 ≤ m'.px[i]?.getD 0)) k = true) ∧ Below w6.heap.size w6 wr) (fun i _ => l' - (intOf i).toNat)
  case atStart => exact ⟨0, Nat.zero_le _, rfl, Lib.hid rfl, Below.refl _ _⟩
  case round =>
    obtain ⟨k, hk, rfl, hall, hb⟩ := hrel
    have hbr := hb46.trans (hb.mono hb46.size)
    have hBr := hB3.trans (hbr.mono hB3.size)
    have x2 : wr.cell? ⟨W1.heap.size, 2, none⟩ = some (.slice pa l' pc) := (ki4H.out.below hb ki4H.out.lt).cell (i := 2) rfl
    by_cases hlt : k < l'
    case pos =>
      have hkl : k < m.px.length := by rw [hlnH.out]; exact hlt
      have hkl' : k < m'.px.length := by rw [hlnH'.out]; exact hlt
      rcases hpH.out wr hbr with h0 | ⟨b, o, hbo, _, hcx⟩
      · rw [h0] at hkl; simp at hkl
      rcases hp'H.out wr hbr with h0 | ⟨b', o', hbo', _, hcy⟩
      · rw [h0] at hkl'; simp at hkl'
      have xc := hcx k hkl
      have xc' := hcy k hkl'
      obtain ⟨x, hx⟩ : ∃ x, m.px[k]?.getD 0 = x := ⟨_, rfl⟩
      obtain ⟨y, hy⟩ : ∃ y, m'.px[k]?.getD 0 = y := ⟨_, rfl⟩
      rw [hx] at xc
      rw [hy] at xc'
      have x5 : wr.cell? ⟨W2.heap.size, 2, none⟩ = some (.slice pa' l' pc') := (kj4H.out.below hb kj4H.out.lt).cell (i := 2) rfl
      have hS0 : wr.drew.heap = wr.heap := rfl
      rw [hbo] at x2
      rw [hbo'] at x5
      have hxH := Lib.hid hx
      have hyH := Lib.hid hy
      clear hcx hcy hbo hbo' hx hy
      by_cases hd : y < x
      case pos =>
        have ed : decide (y < x) = true := decide_eq_true hd
        obtain ⟨r1, r2⟩ := cert_arg (s := s) hvH.out (.inl (allTo_false hkl (decide_eq_false (by rw [hxH.out, hyH.out]; omega))))
        have r1H := Lib.hid r1
        have r2H := Lib.hid r2
        clear r1 r2
        go_wp2_with fail
        refine plain_region (fun W' => W'.heap = wr.heap) 11 11 (by kernel_rfl) rfl ?_
        simp only [Array.replicate_succ, Array.replicate_zero, List.push_toArray, List.nil_append, List.cons_append]
        refine take_op 0 (v := ?bv0) rfl (by kernel_rfl) (fun _ _ _ h => h) (by rfl) hS0 (fun w' hS' => ?by0) ?bz0
        case by0 =>
          go_simp
          rfl
        simp only [List.setIfInBounds_toArray, List.set_cons_zero, List.set_cons_succ]
        refine take_op 1 (v := ?bv1) rfl (by kernel_rfl) (fun _ _ _ h => h) (by rfl) hS0 (fun w' hS' => ?by1) ?bz1
        case by1 =>
          have e0 := (World.cell?_of_block (w := wr) (w' := w') (a := ⟨W1.heap.size, 2, none⟩) (by rw [hS'])).trans x2
          have e1 := (World.cell?_of_block (w := wr) (w' := w') (a := ⟨W2.heap.size, 2, none⟩) (by rw [hS'])).trans x5
          have e2 := (World.cell?_of_block (w := wr) (w' := w') (a := ⟨b, o + k, none⟩) (by rw [hS'])).trans xc
          have e3 := (World.cell?_of_block (w := wr) (w' := w') (a := ⟨b', o' + k, none⟩) (by rw [hS'])).trans xc'
          clear hS'
          go_simp
          rfl
        simp only [List.setIfInBounds_toArray, List.set_cons_zero, List.set_cons_succ]
        refine take_op 2 (v := ?bv2) rfl (by kernel_rfl) (fun _ _ _ h => h) (by rfl) hS0 (fun w' hS' => ?by2) ?bz2
        case by2 =>
          go_simp
          rfl
        simp only [List.setIfInBounds_toArray, List.set_cons_zero, List.set_cons_succ]
        refine take_op 3 (v := ?bv3) rfl (by kernel_rfl) (fun _ _ _ h => h) (by rfl) hS0 (fun w' hS' => ?by3) ?bz3
        case by3 =>
          go_simp
          try go_ints
          first
          | rfl
          | (rw [if_pos (by omega)]; done)
          | rw [if_pos ⟨by omega, by omega⟩]
        simp only [List.setIfInBounds_toArray, List.set_cons_zero, List.set_cons_succ]
        refine take_op 4 (v := ?bv4) rfl (by kernel_rfl) (fun _ _ _ h => h) (by rfl) hS0 (fun w' hS' => ?by4) ?bz4
        case by4 =>
          have e0 := (World.cell?_of_block (w := wr) (w' := w') (a := ⟨W1.heap.size, 2, none⟩) (by rw [hS'])).trans x2
          have e1 := (World.cell?_of_block (w := wr) (w' := w') (a := ⟨W2.heap.size, 2, none⟩) (by rw [hS'])).trans x5
          have e2 := (World.cell?_of_block (w := wr) (w' := w') (a := ⟨b, o + k, none⟩) (by rw [hS'])).trans xc
          have e3 := (World.cell?_of_block (w := wr) (w' := w') (a := ⟨b', o' + k, none⟩) (by rw [hS'])).trans xc'
          clear hS'
          go_simp
          rfl
        simp only [List.setIfInBounds_toArray, List.set_cons_zero, List.set_cons_succ]
        refine take_op 5 (v := ?bv5) rfl (by kernel_rfl) (fun _ _ _ h => h) (by rfl) hS0 (fun w' hS' => ?by5) ?bz5
        case by5 =>
          go_simp
          rfl
        simp only [List.setIfInBounds_toArray, List.set_cons_zero, List.set_cons_succ]
        refine take_op 6 (v := ?bv6) rfl (by kernel_rfl) (fun _ _ _ h => h) (by rfl) hS0 (fun w' hS' => ?by6) ?bz6
        case by6 =>
          have e0 := (World.cell?_of_block (w := wr) (w' := w') (a := ⟨W1.heap.size, 2, none⟩) (by rw [hS'])).trans x2
          have e1 := (World.cell?_of_block (w := wr) (w' := w') (a := ⟨W2.heap.size, 2, none⟩) (by rw [hS'])).trans x5
          have e2 := (World.cell?_of_block (w := wr) (w' := w') (a := ⟨b, o + k, none⟩) (by rw [hS'])).trans xc
          have e3 := (World.cell?_of_block (w := wr) (w' := w') (a := ⟨b', o' + k, none⟩) (by rw [hS'])).trans xc'
          clear hS'
          go_simp
          rfl
        simp only [List.setIfInBounds_toArray, List.set_cons_zero, List.set_cons_succ]
        refine take_op 7 (v := ?bv7) rfl (by kernel_rfl) (fun _ _ _ h => h) (by rfl) hS0 (fun w' hS' => ?by7) ?bz7
        case by7 =>
          go_simp
          rfl
        simp only [List.setIfInBounds_toArray, List.set_cons_zero, List.set_cons_succ]
        refine take_op 8 (v := ?bv8) rfl (by kernel_rfl) (fun _ _ _ h => h) (by rfl) hS0 (fun w' hS' => ?by8) ?bz8
        case by8 =>
          go_simp
          try go_ints
          first
          | rfl
          | (rw [if_pos (by omega)]; done)
          | rw [if_pos ⟨by omega, by omega⟩]
        simp only [List.setIfInBounds_toArray, List.set_cons_zero, List.set_cons_succ]
        refine take_op 9 (v := ?bv9) rfl (by kernel_rfl) (fun _ _ _ h => h) (by rfl) hS0 (fun w' hS' => ?by9) ?bz9
        case by9 =>
          have e0 := (World.cell?_of_block (w := wr) (w' := w') (a := ⟨W1.heap.size, 2, none⟩) (by rw [hS'])).trans x2
          have e1 := (World.cell?_of_block (w := wr) (w' := w') (a := ⟨W2.heap.size, 2, none⟩) (by rw [hS'])).trans x5
          have e2 := (World.cell?_of_block (w := wr) (w' := w') (a := ⟨b, o + k, none⟩) (by rw [hS'])).trans xc
          have e3 := (World.cell?_of_block (w := wr) (w' := w') (a := ⟨b', o' + k, none⟩) (by rw [hS'])).trans xc'
          clear hS'
          go_simp
          rfl
        simp only [List.setIfInBounds_toArray, List.set_cons_zero, List.set_cons_succ]
        refine take_op 10 (v := .bool true) rfl (by kernel_rfl) (fun _ _ _ h => h) (by rfl) hS0 (fun w' hS' => ?by10) ?bz10
        case by10 =>
          clear hS'
          go_simp
          try simp only [ed]
          try rfl
          try omega
        simp only [List.setIfInBounds_toArray, List.set_cons_zero, List.set_cons_succ]
        refine done_ops (by kernel_rfl) ?_
        go_wp2_with fail
        go_ret2
        exact ⟨by rw [r1H.out, r2H.out]; rfl, hBr.drew⟩
      case neg =>
        have ed : decide (y < x) = false := decide_eq_false hd
        have hnx := Lib.hid (allTo_succ hall.out (show decide (m.px[k]?.getD 0 ≤ m'.px[k]?.getD 0) = true from decide_eq_true (by rw [hxH.out, hyH.out]; omega)))
        clear hall
        go_wp2_with fail
        refine plain_region (fun W' => W'.heap = wr.heap) 11 11 (by kernel_rfl) rfl ?_
        simp only [Array.replicate_succ, Array.replicate_zero, List.push_toArray, List.nil_append, List.cons_append]
        refine take_op 0 (v := ?dv0) rfl (by kernel_rfl) (fun _ _ _ h => h) (by rfl) hS0 (fun w' hS' => ?dy0) ?dz0
        case dy0 =>
          go_simp
          rfl
        simp only [List.setIfInBounds_toArray, List.set_cons_zero, List.set_cons_succ]
        refine take_op 1 (v := ?dv1) rfl (by kernel_rfl) (fun _ _ _ h => h) (by rfl) hS0 (fun w' hS' => ?dy1) ?dz1
        case dy1 =>
          have e0 := (World.cell?_of_block (w := wr) (w' := w') (a := ⟨W1.heap.size, 2, none⟩) (by rw [hS'])).trans x2
          have e1 := (World.cell?_of_block (w := wr) (w' := w') (a := ⟨W2.heap.size, 2, none⟩) (by rw [hS'])).trans x5
          have e2 := (World.cell?_of_block (w := wr) (w' := w') (a := ⟨b, o + k, none⟩) (by rw [hS'])).trans xc
          have e3 := (World.cell?_of_block (w := wr) (w' := w') (a := ⟨b', o' + k, none⟩) (by rw [hS'])).trans xc'
          clear hS'
          go_simp
          rfl
        simp only [List.setIfInBounds_toArray, List.set_cons_zero, List.set_cons_succ]
        refine take_op 2 (v := ?dv2) rfl (by kernel_rfl) (fun _ _ _ h => h) (by rfl) hS0 (fun w' hS' => ?dy2) ?dz2
        case dy2 =>
          go_simp
          rfl
        simp only [List.setIfInBounds_toArray, List.set_cons_zero, List.set_cons_succ]
        refine take_op 3 (v := ?dv3) rfl (by kernel_rfl) (fun _ _ _ h => h) (by rfl) hS0 (fun w' hS' => ?dy3) ?dz3
        case dy3 =>
          go_simp
          try go_ints
          first
          | rfl
          | (rw [if_pos (by omega)]; done)
          | rw [if_pos ⟨by omega, by omega⟩]
        simp only [List.setIfInBounds_toArray, List.set_cons_zero, List.set_cons_succ]
        refine take_op 4 (v := ?dv4) rfl (by kernel_rfl) (fun _ _ _ h => h) (by rfl) hS0 (fun w' hS' => ?dy4) ?dz4
        case dy4 =>
          have e0 := (World.cell?_of_block (w := wr) (w' := w') (a := ⟨W1.heap.size, 2, none⟩) (by rw [hS'])).trans x2
          have e1 := (World.cell?_of_block (w := wr) (w' := w') (a := ⟨W2.heap.size, 2, none⟩) (by rw [hS'])).trans x5
          have e2 := (World.cell?_of_block (w := wr) (w' := w') (a := ⟨b, o + k, none⟩) (by rw [hS'])).trans xc
          have e3 := (World.cell?_of_block (w := wr) (w' := w') (a := ⟨b', o' + k, none⟩) (by rw [hS'])).trans xc'
          clear hS'
          go_simp
          rfl
        simp only [List.setIfInBounds_toArray, List.set_cons_zero, List.set_cons_succ]
        refine take_op 5 (v := ?dv5) rfl (by kernel_rfl) (fun _ _ _ h => h) (by rfl) hS0 (fun w' hS' => ?dy5) ?dz5
        case dy5 =>
          go_simp
          rfl
        simp only [List.setIfInBounds_toArray, List.set_cons_zero, List.set_cons_succ]
        refine take_op 6 (v := ?dv6) rfl (by kernel_rfl) (fun _ _ _ h => h) (by rfl) hS0 (fun w' hS' => ?dy6) ?dz6
        case dy6 =>
          have e0 := (World.cell?_of_block (w := wr) (w' := w') (a := ⟨W1.heap.size, 2, none⟩) (by rw [hS'])).trans x2
          have e1 := (World.cell?_of_block (w := wr) (w' := w') (a := ⟨W2.heap.size, 2, none⟩) (by rw [hS'])).trans x5
          have e2 := (World.cell?_of_block (w := wr) (w' := w') (a := ⟨b, o + k, none⟩) (by rw [hS'])).trans xc
          have e3 := (World.cell?_of_block (w := wr) (w' := w') (a := ⟨b', o' + k, none⟩) (by rw [hS'])).trans xc'
          clear hS'
          go_simp
          rfl
        simp only [List.setIfInBounds_toArray, List.set_cons_zero, List.set_cons_succ]
        refine take_op 7 (v := ?dv7) rfl (by kernel_rfl) (fun _ _ _ h => h) (by rfl) hS0 (fun w' hS' => ?dy7) ?dz7
        case dy7 =>
          go_simp
          rfl
        simp only [List.setIfInBounds_toArray, List.set_cons_zero, List.set_cons_succ]
        refine take_op 8 (v := ?dv8) rfl (by kernel_rfl) (fun _ _ _ h => h) (by rfl) hS0 (fun w' hS' => ?dy8) ?dz8
        case dy8 =>
          go_simp
          try go_ints
          first
          | rfl
          | (rw [if_pos (by omega)]; done)
          | rw [if_pos ⟨by omega, by omega⟩]
        simp only [List.setIfInBounds_toArray, List.set_cons_zero, List.set_cons_succ]
        refine take_op 9 (v := ?dv9) rfl (by kernel_rfl) (fun _ _ _ h => h) (by rfl) hS0 (fun w' hS' => ?dy9) ?dz9
        case dy9 =>
          have e0 := (World.cell?_of_block (w := wr) (w' := w') (a := ⟨W1.heap.size, 2, none⟩) (by rw [hS'])).trans x2
          have e1 := (World.cell?_of_block (w := wr) (w' := w') (a := ⟨W2.heap.size, 2, none⟩) (by rw [hS'])).trans x5
          have e2 := (World.cell?_of_block (w := wr) (w' := w') (a := ⟨b, o + k, none⟩) (by rw [hS'])).trans xc
          have e3 := (World.cell?_of_block (w := wr) (w' := w') (a := ⟨b', o' + k, none⟩) (by rw [hS'])).trans xc'
          clear hS'
          go_simp
          rfl
        simp only [List.setIfInBounds_toArray, List.set_cons_zero, List.set_cons_succ]
        refine take_op 10 (v := .bool false) rfl (by kernel_rfl) (fun _ _ _ h => h) (by rfl) hS0 (fun w' hS' => ?dy10) ?dz10
        case dy10 =>
          clear hS'
          go_simp
          try simp only [ed]
          try rfl
          try omega
        simp only [List.setIfInBounds_toArray, List.set_cons_zero, List.set_cons_succ]
        refine done_ops (by kernel_rfl) ?_
        go_wp2_with fail
        go_roundw
        case rel => exact ⟨k + 1, by omega, by go_num, hnx, hb.drew⟩
        case measure => simp [intOf]; omega
    case neg =>
      have hkn : k = l' := by omega
      subst hkn
      have hle : leB m.px m'.px = true := by unfold leB; rw [hlnH.out]; exact hall.out
      clear hall
      cases h8 : nIn 0 8 s with
      | false =>
        obtain ⟨r1, r2⟩ := cert_arg (s := s) hvH.out (.inr h8)
        have r1H := Lib.hid r1
        have r2H := Lib.hid r2
        have h8H := Lib.hid h8
        clear r1 r2 h8 hle
        go_wp2_with (go_at_call 40; have _t := tok4; refine (rw1 0 8 s false h8H.out _).mono ?_; clear _t tok4; rintro e w' ⟨rfl, rfl⟩)
        go_ret2
        exact ⟨by rw [r1H.out, r2H.out]; rfl, hBr⟩
      | true =>
      obtain ⟨r1, r2⟩ := cert_good (s := s) hvH.out hle h8
      have hs8 := nIn_true.1 h8
      obtain ⟨S, rfl⟩ := Int.eq_ofNat_of_zero_le hs8.1
      have hS8 : S ≤ 8 := by omega
      rw [Int.toNat_natCast] at r1
      have r1H := Lib.hid r1
      have r2H := Lib.hid r2
      have h8H := Lib.hid h8
      clear r1 r2 h8 hle hs8
      have kn5H := Lib.hid (kn4H.out.below hb kn4H.out.lt)
      have ki5H := Lib.hid (ki4H.out.below hb ki4H.out.lt)
      have kj5H := Lib.hid (kj4H.out.below hb kj4H.out.lt)
      go_wp2_with (go_at_call 40; have _t := tok4; refine (rw1 0 8 (S : Int) true h8H.out _).mono ?_; clear _t tok4; rintro e w' ⟨rfl, rfl⟩)
      have hS : Below wr.heap.size wr wr.drew := (Below.refl _ _).drew
      clear x2
      refine plain_region (fun W' => Below wr.heap.size wr W') 11 11 (by kernel_rfl) rfl ?_
      simp only [Array.replicate_succ, Array.replicate_zero, List.push_toArray, List.nil_append, List.cons_append]
      refine take_op 0 (v := ?ev0) rfl (by kernel_rfl) (fun _ _ _ h => h) (by rfl) hS (fun w' hS' => ?ey0) ?ez0
      case ey0 =>
        have e0 := (kn5H.out.below hS' kn5H.out.lt).cell (i := 0) rfl
        have e1 := (kn5H.out.below hS' kn5H.out.lt).cell (i := 1) rfl
        have e2 := (kn5H.out.below hS' kn5H.out.lt).cell (i := 2) rfl
        have e3 := (kn5H.out.below hS' kn5H.out.lt).cell (i := 3) rfl
        have e4 := (kn5H.out.below hS' kn5H.out.lt).cell (i := 4) rfl
        have e5 := (kn5H.out.below hS' kn5H.out.lt).cell (i := 5) rfl
        have e6 := (kn5H.out.below hS' kn5H.out.lt).cell (i := 6) rfl
        have f0 := (ki5H.out.below hS' ki5H.out.lt).cell (i := 0) rfl
        have f1 := (ki5H.out.below hS' ki5H.out.lt).cell (i := 1) rfl
        have f2 := (ki5H.out.below hS' ki5H.out.lt).cell (i := 2) rfl
        have g0 := (kj5H.out.below hS' kj5H.out.lt).cell (i := 0) rfl
        have g1 := (kj5H.out.below hS' kj5H.out.lt).cell (i := 1) rfl
        have g2 := (kj5H.out.below hS' kj5H.out.lt).cell (i := 2) rfl
        clear hS'
        go_simp
        rfl
      simp only [List.setIfInBounds_toArray, List.set_cons_zero, List.set_cons_succ]
      refine take_op 1 (v := ?ev1) rfl (by kernel_rfl) (fun _ _ _ h => h) (by rfl) hS (fun w' hS' => ?ey1) ?ez1
      case ey1 =>
        have e0 := (kn5H.out.below hS' kn5H.out.lt).cell (i := 0) rfl
        have e1 := (kn5H.out.below hS' kn5H.out.lt).cell (i := 1) rfl
        have e2 := (kn5H.out.below hS' kn5H.out.lt).cell (i := 2) rfl
        have e3 := (kn5H.out.below hS' kn5H.out.lt).cell (i := 3) rfl
        have e4 := (kn5H.out.below hS' kn5H.out.lt).cell (i := 4) rfl
        have e5 := (kn5H.out.below hS' kn5H.out.lt).cell (i := 5) rfl
        have e6 := (kn5H.out.below hS' kn5H.out.lt).cell (i := 6) rfl
        have f0 := (ki5H.out.below hS' ki5H.out.lt).cell (i := 0) rfl
        have f1 := (ki5H.out.below hS' ki5H.out.lt).cell (i := 1) rfl
        have f2 := (ki5H.out.below hS' ki5H.out.lt).cell (i := 2) rfl
        have g0 := (kj5H.out.below hS' kj5H.out.lt).cell (i := 0) rfl
        have g1 := (kj5H.out.below hS' kj5H.out.lt).cell (i := 1) rfl
        have g2 := (kj5H.out.below hS' kj5H.out.lt).cell (i := 2) rfl
        clear hS'
        go_simp
        rfl
      simp only [List.setIfInBounds_toArray, List.set_cons_zero, List.set_cons_succ]
      refine take_op 2 (v := ?ev2) rfl (by kernel_rfl) (fun _ _ _ h => h) (by rfl) hS (fun w' hS' => ?ey2) ?ez2
      case ey2 =>
        have e0 := (kn5H.out.below hS' kn5H.out.lt).cell (i := 0) rfl
        have e1 := (kn5H.out.below hS' kn5H.out.lt).cell (i := 1) rfl
        have e2 := (kn5H.out.below hS' kn5H.out.lt).cell (i := 2) rfl
        have e3 := (kn5H.out.below hS' kn5H.out.lt).cell (i := 3) rfl
        have e4 := (kn5H.out.below hS' kn5H.out.lt).cell (i := 4) rfl
        have e5 := (kn5H.out.below hS' kn5H.out.lt).cell (i := 5) rfl
        have e6 := (kn5H.out.below hS' kn5H.out.lt).cell (i := 6) rfl
        have f0 := (ki5H.out.below hS' ki5H.out.lt).cell (i := 0) rfl
        have f1 := (ki5H.out.below hS' ki5H.out.lt).cell (i := 1) rfl
        have f2 := (ki5H.out.below hS' ki5H.out.lt).cell (i := 2) rfl
        have g0 := (kj5H.out.below hS' kj5H.out.lt).cell (i := 0) rfl
        have g1 := (kj5H.out.below hS' kj5H.out.lt).cell (i := 1) rfl
        have g2 := (kj5H.out.below hS' kj5H.out.lt).cell (i := 2) rfl
        clear hS'
        go_simp
        rfl
      simp only [List.setIfInBounds_toArray, List.set_cons_zero, List.set_cons_succ]
      refine take_op 4 (v := ?ev4) rfl (by kernel_rfl) (fun _ _ _ h => h) (by rfl) hS (fun w' hS' => ?ey4) ?ez4
      case ey4 =>
        have e0 := (kn5H.out.below hS' kn5H.out.lt).cell (i := 0) rfl
        have e1 := (kn5H.out.below hS' kn5H.out.lt).cell (i := 1) rfl
        have e2 := (kn5H.out.below hS' kn5H.out.lt).cell (i := 2) rfl
        have e3 := (kn5H.out.below hS' kn5H.out.lt).cell (i := 3) rfl
        have e4 := (kn5H.out.below hS' kn5H.out.lt).cell (i := 4) rfl
        have e5 := (kn5H.out.below hS' kn5H.out.lt).cell (i := 5) rfl
        have e6 := (kn5H.out.below hS' kn5H.out.lt).cell (i := 6) rfl
        have f0 := (ki5H.out.below hS' ki5H.out.lt).cell (i := 0) rfl
        have f1 := (ki5H.out.below hS' ki5H.out.lt).cell (i := 1) rfl
        have f2 := (ki5H.out.below hS' ki5H.out.lt).cell (i := 2) rfl
        have g0 := (kj5H.out.below hS' kj5H.out.lt).cell (i := 0) rfl
        have g1 := (kj5H.out.below hS' kj5H.out.lt).cell (i := 1) rfl
        have g2 := (kj5H.out.below hS' kj5H.out.lt).cell (i := 2) rfl
        clear hS'
        go_simp
        rfl
      simp only [List.setIfInBounds_toArray, List.set_cons_zero, List.set_cons_succ]
      refine take_op 5 (v := ?ev5) rfl (by kernel_rfl) (fun _ _ _ h => h) (by rfl) hS (fun w' hS' => ?ey5) ?ez5
      case ey5 =>
        have e0 := (kn5H.out.below hS' kn5H.out.lt).cell (i := 0) rfl
        have e1 := (kn5H.out.below hS' kn5H.out.lt).cell (i := 1) rfl
        have e2 := (kn5H.out.below hS' kn5H.out.lt).cell (i := 2) rfl
        have e3 := (kn5H.out.below hS' kn5H.out.lt).cell (i := 3) rfl
        have e4 := (kn5H.out.below hS' kn5H.out.lt).cell (i := 4) rfl
        have e5 := (kn5H.out.below hS' kn5H.out.lt).cell (i := 5) rfl
        have e6 := (kn5H.out.below hS' kn5H.out.lt).cell (i := 6) rfl
        have f0 := (ki5H.out.below hS' ki5H.out.lt).cell (i := 0) rfl
        have f1 := (ki5H.out.below hS' ki5H.out.lt).cell (i := 1) rfl
        have f2 := (ki5H.out.below hS' ki5H.out.lt).cell (i := 2) rfl
        have g0 := (kj5H.out.below hS' kj5H.out.lt).cell (i := 0) rfl
        have g1 := (kj5H.out.below hS' kj5H.out.lt).cell (i := 1) rfl
        have g2 := (kj5H.out.below hS' kj5H.out.lt).cell (i := 2) rfl
        clear hS'
        go_simp
        rfl
      simp only [List.setIfInBounds_toArray, List.set_cons_zero, List.set_cons_succ]
      refine take_op 7 (v := ?ev7) rfl (by kernel_rfl) (fun _ _ _ h => h) (by rfl) hS (fun w' hS' => ?ey7) ?ez7
      case ey7 =>
        go_simp
        rfl
      simp only [List.setIfInBounds_toArray, List.set_cons_zero, List.set_cons_succ]
      refine step_op 3 (by kernel_rfl) rfl (fun K hK => ?_)
      rw [if_pos (by rfl)]
      go_simp
      refine (hf1H.out _ (hbr.trans (hS.mono hbr.size))).mono ?_
      rintro e V1 ⟨s1, c1, rfl, hrow1, hv1⟩
      have hS1 := hS.trans (hv1.mono hS.size)
      have rd1 := rowI_rd hfl1H.out hrow1
      clear hrow1 hv1
      refine hK.out _ _ (fun h => hS1) ?_
      clear hK K
      try simp only [Act.put, List.setIfInBounds_toArray, List.set_cons_zero, List.set_cons_succ]
      refine step_op 6 (by kernel_rfl) rfl (fun K hK => ?_)
      rw [if_pos (by rfl)]
      go_simp
      refine (hf2H.out _ (hbr.trans (hS1.mono hbr.size))).mono ?_
      rintro e V2 ⟨s2, c2, rfl, hrow2, hv2⟩
      have hS2 := hS1.trans (hv2.mono hS1.size)
      have rd2 := rowI_rd hfl2H.out hrow2
      have rd1' := later_i rd1 hv2
      clear hrow2 hv2 rd1
      refine hK.out _ _ (fun h => hS2) ?_
      clear hK K
      try simp only [Act.put, List.setIfInBounds_toArray, List.set_cons_zero, List.set_cons_succ]
      refine step_op 8 (by kernel_rfl) rfl (fun K hK => ?_)
      rw [if_pos (by rfl)]
      go_simp
      refine (hccH.out S hS8 s1 s2 c1 c2 V2 (hrnH.out V2 (hbr.trans (hS2.mono hbr.size))) rd1' rd2).mono ?_
      rintro e V3 ⟨rfl, hv3⟩
      have hS3 := hS2.trans (hv3.mono hS2.size)
      clear hv3
      refine hK.out _ _ (fun h => hS3) ?_
      clear hK K
      try simp only [Act.put, List.setIfInBounds_toArray, List.set_cons_zero, List.set_cons_succ]
      refine take_op 9 (v := ?ev9) rfl (by kernel_rfl) (fun _ _ _ h => h) (by rfl) hS3 (fun w' hS' => ?ey9) ?ez9
      case ey9 =>
        go_simp
        rfl
      simp only [List.setIfInBounds_toArray, List.set_cons_zero, List.set_cons_succ]
      refine take_op 10 (v := ?ev10) rfl (by kernel_rfl) (fun _ _ _ h => h) (by rfl) hS3 (fun w' hS' => ?ey10) ?ez10
      case ey10 =>
        go_simp
        rfl
      simp only [List.setIfInBounds_toArray, List.set_cons_zero, List.set_cons_succ]
      refine done_ops (by kernel_rfl) ?_
      go_wp2_with fail
      go_ret2
      exact ⟨by rw [r1H.out, r2H.out]; rfl, hBr.trans (hS3.mono hBr.size)⟩

end Go.Proofs.Ytbfigbpjoaccdaa

/- Camera images, and the errors of networks and images. -/
import Derived.Test.YtbfigbpjoaccdaaCr
import Derived.Test.YtbfigbpjoaccdaaImgJ
namespace Go.Proofs.Ytbfigbpjoaccdaa
open Go Go.RowKit Go.Shelf
set_option linter.unusedVariables false
set_option linter.unusedSimpArgs false

/-- An image, by what it reads as. -/
structure ImN where
  w : Int
  h : Int
  px : List Int
def imAt (ms : List ImN) (i : Nat) : ImN := ms[i]?.getD ⟨0, 0, []⟩
def camB (m : ImN) : Bool := vld m.w m.h m.px && allIn 0 255 m.px
def camsB (ms : List ImN) : Bool := allTo (fun i => camB (imAt ms i)) ms.length
def fitsB (N : NetN) (ms : List ImN) : Bool := allTo (fun i => decide ((imAt ms i).w = N.w ∧ (imAt ms i).h = N.h)) ms.length
def chkF (N : NetN) (ms : List ImN) : Int := if netOk N = true then if camsB ms = true then if fitsB N ms = true then 0 else 21 else 20 else 80
theorem camB_no {m : ImN} {k : Nat} (hk : k < m.px.length) (h : nIn 0 255 (m.px[k]?.getD 0) = false) : camB m = false := by
  unfold camB; rw [allIn_no hk h, Bool.and_false]
theorem camB_vld {m : ImN} (h : vld m.w m.h m.px = false) : camB m = false := by unfold camB; rw [h]; rfl
theorem camB_in {m : ImN} (h : allIn 0 255 m.px = false) : camB m = false := by unfold camB; rw [h, Bool.and_false]

/-- The slice at 'a' reads as the images 'ms', in blocks below 'B'. -/
def RdIs (B : Nat) (W : World) (a : Option Addr) (ms : List ImN) : Prop :=
  ms = [] ∨ ∃ b o, a = some ⟨b, o, none⟩ ∧ b < B ∧ ∀ i, i < ms.length → ∃ pa pc, W.cell? ⟨b, o + i * 3, none⟩ = some (.int .i64 (imAt ms i).w) ∧ W.cell? ⟨b, o + i * 3 + 1, none⟩ = some (.int .i64 (imAt ms i).h) ∧
    W.cell? ⟨b, o + i * 3 + 2, none⟩ = some (.slice pa (imAt ms i).px.length pc) ∧ Rd B W pa (imAt ms i).px
theorem RdIs.below {B B' : Nat} {W W' : World} {a : Option Addr} {ms : List ImN} (h : RdIs B W a ms) (hB : B ≤ B') (hb : Below B' W W') : RdIs B W' a ms := by
  rcases h with h | ⟨b, o, h1, h2, h3⟩
  · exact .inl h
  · refine .inr ⟨b, o, h1, h2, fun i hi => ?_⟩
    obtain ⟨pa, pc, h4, h5, h6, h7⟩ := h3 i hi
    exact ⟨pa, pc, (hb.cell (p := ⟨b, o + i * 3, none⟩) (by show b < B'; omega)).trans h4, (hb.cell (p := ⟨b, o + i * 3 + 1, none⟩) (by show b < B'; omega)).trans h5, (hb.cell (p := ⟨b, o + i * 3 + 2, none⟩) (by show b < B'; omega)).trans h6, h7.below hB hb⟩
theorem RdIs.mono {B B' : Nat} {W : World} {a : Option Addr} {ms : List ImN} (h : RdIs B W a ms) (hB : B ≤ B') : RdIs B' W a ms := by
  rcases h with h | ⟨b, o, h1, h2, h3⟩
  · exact .inl h
  · refine .inr ⟨b, o, h1, by omega, fun i hi => ?_⟩
    obtain ⟨pa, pc, h4, h5, h6, h7⟩ := h3 i hi
    exact ⟨pa, pc, h4, h5, h6, h7.mono hB⟩
theorem RdIs.at {B : Nat} {W : World} {a : Option Addr} {ms : List ImN} (h : RdIs B W a ms) {i : Nat} (hi : i < ms.length) :
    ∃ b o, a = some ⟨b, o, none⟩ ∧ b < B ∧ ∃ pa pc, W.cell? ⟨b, o + i * 3, none⟩ = some (.int .i64 (imAt ms i).w) ∧ W.cell? ⟨b, o + i * 3 + 1, none⟩ = some (.int .i64 (imAt ms i).h) ∧
      W.cell? ⟨b, o + i * 3 + 2, none⟩ = some (.slice pa (imAt ms i).px.length pc) ∧ Rd B W pa (imAt ms i).px := by
  rcases h with h | ⟨b, o, h1, h2, h3⟩
  · subst h; simp at hi
  · exact ⟨b, o, h1, h2, h3 i hi⟩
theorem later_s {W W' : World} {a : Option Addr} {xs : List ImN} (h : RdIs W.heap.size W a xs) (hb : Below W.heap.size W W') : RdIs W'.heap.size W' a xs := (h.below (Nat.le_refl _) hb).mono hb.size

set_option maxRecDepth 100000 in
set_option maxHeartbeats 8000000 in
theorem camera_any (ms : List ImN) (a : Option Addr) (n c : Nat) (hn : ms.length = n) (hm : n ≤ 9223372036854775807) (hpx : ∀ i, (imAt ms i).px.length ≤ 9223372036854775807) (w : World) (hr : RdIs w.heap.size w a ms) (v : Bool) (hv : camsB ms = v) :
    Calls Try.prog 30 #[.slice a n c] w fun e w' => e = .returned (.bool v) ∧ Below w.heap.size w w' := by
  have hnH := Lib.hid hn
  have hvH := Lib.hid hv
  have hpxH := Lib.hid hpx
  have hrH := Lib.hid hr
  clear hn hv hpx hr
  have tok1 : True := trivial
  have tok2 : True := trivial
  have tok3 : True := trivial
  go_enter Try.func30, Try.ntmps30
  go_wp2_with fail
  go_loopw [7] (fun i wr => ∃ k : Nat, k ≤ n ∧ i = .int .i64 (k : Int) ∧ Hid (allTo (fun i => camB (imAt ms i)) k = true) ∧ Below w.heap.size w wr) (fun i _ => n - (intOf i).toNat)
  case atStart => exact ⟨0, Nat.zero_le _, rfl, Lib.hid rfl, Below.refl _ w⟩
  case round =>
    obtain ⟨k, hk, rfl, hall, hB⟩ := hrel
    by_cases hlt : k < n
    case neg =>
      have hkn : k = n := by omega
      subst hkn
      have hvt : v = true := by rw [← hvH.out]; unfold camsB; rw [hnH.out]; exact hall.out
      subst hvt
      clear hall
      go_wp2_with fail
      go_ret
      exact ⟨rfl, hB⟩
    case pos =>
      have hkl : k < ms.length := by have := hnH.out; omega
      obtain ⟨b, o, rfl, hb, pa, pc, hc0, hc1, hc2, hp⟩ := (later_s hrH.out hB).at hkl
      have hpm := hpxH.out k
      obtain ⟨m, hme⟩ : ∃ m, imAt ms k = m := ⟨_, rfl⟩
      rw [hme] at hc0 hc1 hc2 hp hpm
      have hbad : camB m = false → v = false := fun h => by rw [← hvH.out]; unfold camsB; exact allTo_false hkl (by rw [hme]; exact h)
      obtain ⟨iw, ih, xs⟩ := m
      simp only at hc0 hc1 hc2 hp hpm
      obtain ⟨l, hl⟩ : ∃ l, xs.length = l := ⟨_, rfl⟩
      rw [hl] at hc2 hpm
      have hlH := Lib.hid hl
      have hmeH := Lib.hid hme
      have hbadH := Lib.hid hbad
      have hB1 : Below wr.heap.size wr (wr.alloc (.cells #[.int .i64 iw, .int .i64 ih, .slice pa l pc] 27)) := jb_al (Below.refl _ wr) _
      have kb := Blk.new wr 27 #[.int .i64 iw, .int .i64 ih, .slice pa l pc]
      obtain ⟨W1, hW1⟩ : ∃ X, wr.alloc (.cells #[.int .i64 iw, .int .i64 ih, .slice pa l pc] 27) = X := ⟨_, rfl⟩
      rw [hW1] at hB1 kb
      have hBw := hB.trans (hB1.mono hB.size)
      have d0 : W1.cell? ⟨wr.heap.size, 0, none⟩ = some (.int .i64 iw) := kb.cell (i := 0) rfl
      have d1 : W1.cell? ⟨wr.heap.size, 1, none⟩ = some (.int .i64 ih) := kb.cell (i := 1) rfl
      have d2 : W1.cell? ⟨wr.heap.size, 2, none⟩ = some (.slice pa l pc) := kb.cell (i := 2) rfl
      have kbH := Lib.hid kb
      have hpH := Lib.hid (later_i hp hB1)
      clear hl hme hbad hp kb hB1
      cases e1 : vld iw ih xs with
      | false =>
        have hvf := hbadH.out (camB_vld e1)
        subst hvf
        have hcallH := Lib.hid (Check_any iw ih pa pc l xs hlH false e1 W1 hpm hpH.out)
        clear e1
        go_wp2_with (go_at_call 44; have _t := tok1; refine (hcallH.out).mono ?_; clear _t tok1; rintro e w2 ⟨rfl, hb2⟩)
        go_ret
        exact ⟨rfl, hBw.trans (hb2.mono hBw.size)⟩
      | true =>
      have hcallH := Lib.hid (Check_any iw ih pa pc l xs hlH true e1 W1 hpm hpH.out)
      have e1H := Lib.hid e1
      clear e1
      cases e2 : allIn 0 255 xs with
      | false =>
        have hvf := hbadH.out (camB_in e2)
        subst hvf
        have e2H := Lib.hid e2
        clear e2
        go_wp2_with (first
          | (go_at_call 44; have _t := tok1; refine (hcallH.out).mono ?_; clear _t tok1; rintro e w2 ⟨rfl, hb2⟩; have d3 := (hb2.cell (p := ⟨wr.heap.size, 2, none⟩) kbH.out.lt).trans d2)
          | (go_at_call 23; have _t := tok2; refine (jwn 0 255 false xs e2H.out pa pc _ hlH.out hpm w2 (later_i hpH.out hb2)).mono ?_; clear _t tok2; rintro e w' ⟨rfl, rfl⟩))
        go_ret
        exact ⟨rfl, hBw.trans (hb2.mono hBw.size)⟩
      | true =>
        have e2H := Lib.hid e2
        clear e2
        go_wp2_with (first
          | (go_at_call 44; have _t := tok1; refine (hcallH.out).mono ?_; clear _t tok1; rintro e w2 ⟨rfl, hb2⟩; have d3 := (hb2.cell (p := ⟨wr.heap.size, 2, none⟩) kbH.out.lt).trans d2)
          | (go_at_call 23; have _t := tok2; refine (jwn 0 255 true xs e2H.out pa pc _ hlH.out hpm w2 (later_i hpH.out hb2)).mono ?_; clear _t tok2; rintro e w' ⟨rfl, rfl⟩))
        go_roundw
        case rel => exact ⟨k + 1, by omega, by go_num, Lib.hid (allTo_succ hall.out (by rw [hmeH.out]; unfold camB; rw [e1H.out, e2H.out]; rfl)), hBw.trans (hb2.mono hBw.size)⟩
        case measure => simp [intOf]; omega

set_option maxRecDepth 100000 in
set_option maxHeartbeats 8000000 in
theorem rCamera_any (m : ImN) (pa : Option Addr) (l pc : Nat) (hl : m.px.length = l) (hpm : l ≤ 9223372036854775807) (w : World) (hp : Rd w.heap.size w pa m.px) (v : Bool) (hv : camB m = v) :
    Calls Try.prog 35 #[imv m.w m.h pa l pc] w fun e w' => e = .returned (.bool v) ∧ Below w.heap.size w w' := by
  obtain ⟨iw, ih, xs⟩ := m
  simp only at hl hp
  have hvH := Lib.hid hv
  have hlH := Lib.hid hl
  have hB1 : Below w.heap.size w (w.alloc (.cells #[.int .i64 iw, .int .i64 ih, .slice pa l pc] 27)) := jb_al (Below.refl _ w) _
  have kb := Blk.new w 27 #[.int .i64 iw, .int .i64 ih, .slice pa l pc]
  obtain ⟨W1, hW1⟩ : ∃ X, w.alloc (.cells #[.int .i64 iw, .int .i64 ih, .slice pa l pc] 27) = X := ⟨_, rfl⟩
  rw [hW1] at hB1 kb
  have d0 : W1.cell? ⟨w.heap.size, 0, none⟩ = some (.int .i64 iw) := kb.cell (i := 0) rfl
  have d1 : W1.cell? ⟨w.heap.size, 1, none⟩ = some (.int .i64 ih) := kb.cell (i := 1) rfl
  have d2 : W1.cell? ⟨w.heap.size, 2, none⟩ = some (.slice pa l pc) := kb.cell (i := 2) rfl
  have kbH := Lib.hid kb
  have hpH := Lib.hid (later_i hp hB1)
  clear hl hp kb hv
  have tok1 : True := trivial
  have tok2 : True := trivial
  cases e1 : vld iw ih xs with
  | false =>
    have hvf : v = false := by rw [← hvH.out]; exact camB_vld e1
    subst hvf
    have hcall := Valid_any iw ih pa pc xs l hlH W1 hpm hpH.out
    rw [e1] at hcall
    have hcallH := Lib.hid hcall
    clear e1 hcall
    go_enter Try.func35, Try.ntmps35
    go_wp2_with (go_at_call 56; have _t := tok1; refine (hcallH.out).mono ?_; clear _t tok1; rintro e w2 ⟨rfl, hb2⟩)
    go_ret
    exact ⟨rfl, hB1.trans (hb2.mono hB1.size)⟩
  | true =>
  have hcall := Valid_any iw ih pa pc xs l hlH W1 hpm hpH.out
  rw [e1] at hcall
  have hcallH := Lib.hid hcall
  have e1H := Lib.hid e1
  clear e1 hcall
  go_enter Try.func35, Try.ntmps35
  go_wp2_with (go_at_call 56; have _t := tok1; refine (hcallH.out).mono ?_; clear _t tok1; rintro e w2 ⟨rfl, hb2⟩; have d3 := (hb2.cell (p := ⟨w.heap.size, 2, none⟩) kbH.out.lt).trans d2)
  have hB2 := hB1.trans (hb2.mono hB1.size)
  have hp2H := Lib.hid (later_i hpH.out hb2)
  clear hb2 hW1 d0 d1 d2
  go_loop [3] (fun i => ∃ k : Nat, k ≤ l ∧ i = .int .i64 (k : Int) ∧ Hid (∀ i, i < k → nIn 0 255 (xs[i]?.getD 0) = true)) (fun i => l - (intOf i).toNat)
  case atStart => exact ⟨0, Nat.zero_le _, rfl, Lib.hid (fun i h => absurd h (Nat.not_lt_zero _))⟩
  case round =>
    obtain ⟨k, hk, rfl, hall⟩ := hrel
    by_cases hlt : k < l
    case neg =>
      have hkn : k = l := by omega
      subst hkn
      have hvt : v = true := by
        rw [← hvH.out]
        show (vld iw ih xs && allIn 0 255 xs) = true
        rw [e1H.out, allIn_of fun i hi => nIn_true.1 (hall.out i (by rw [hlH.out] at hi; exact hi))]
        rfl
      subst hvt
      clear hall
      go_wp2_with fail
      go_ret
      exact ⟨rfl, hB2⟩
    case pos =>
      have hkl : k < xs.length := by have := hlH.out; omega
      rcases hp2H.out with h0 | ⟨b, o, rfl, hb, hc⟩
      · rw [h0] at hkl; simp at hkl
      have hcell := hc k hkl
      obtain ⟨x, hx⟩ : ∃ x, xs[k]?.getD 0 = x := ⟨_, rfl⟩
      rw [hx] at hcell
      have hxH := Lib.hid hx
      clear hx hc
      cases f1 : nIn 0 255 x with
      | false =>
        have hvf : v = false := by rw [← hvH.out]; exact camB_no (m := ⟨iw, ih, xs⟩) hkl (by show nIn 0 255 (xs[k]?.getD 0) = false; rw [hxH.out]; exact f1)
        subst hvf
        have f1H := Lib.hid f1
        clear f1
        go_wp2_with (go_at_call 40; have _t := tok2; refine (rw1 0 255 _ false f1H.out _).mono ?_; clear _t tok2; rintro e w' ⟨rfl, rfl⟩)
        go_ret
        exact ⟨rfl, hB2⟩
      | true =>
        have f1H := Lib.hid f1
        clear f1
        go_wp2_with (go_at_call 40; have _t := tok2; refine (rw1 0 255 _ true f1H.out _).mono ?_; clear _t tok2; rintro e w' ⟨rfl, rfl⟩)
        go_round
        case rel =>
          refine ⟨k + 1, by omega, by go_num, Lib.hid fun i hi => ?_⟩
          by_cases e : i = k
          · subst e; rw [hxH.out]; exact f1H.out
          · exact hall.out i (by omega)
        case measure => simp [intOf]; omega

set_option maxRecDepth 100000 in
set_option maxHeartbeats 8000000 in
theorem check_any (N : NetN) (na : Option Addr) (nn nc : Nat) (hnn : N.Ls.length = nn) (hz : NetSz N) (ms : List ImN) (a : Option Addr) (n c : Nat) (hn : ms.length = n) (hm : n ≤ 9223372036854775807) (hpx : ∀ i, (imAt ms i).px.length ≤ 9223372036854775807)
    (w : World) (hrn : RdLs w.heap.size w na N.Ls) (hr : RdIs w.heap.size w a ms) (v : Int) (hv : chkF N ms = v) :
    Calls Try.prog 19 #[netv N na nn nc, .slice a n c] w fun e w' => e = .returned (.int .i64 v) ∧ Below w.heap.size w w' := by
  have hnH := Lib.hid hn
  have hvH := Lib.hid hv
  clear hn hv
  have tok1 : True := trivial
  have tok2 : True := trivial
  have hB1 : Below w.heap.size w (w.alloc (.cells #[.int .i64 N.w, .int .i64 N.h, .int .i64 N.gx, .int .i64 N.gy, .slice na nn nc, .int .i64 N.low, .int .i64 N.high] 24)) := jb_al (Below.refl _ w) _
  have kb := Blk.new w 24 #[.int .i64 N.w, .int .i64 N.h, .int .i64 N.gx, .int .i64 N.gy, .slice na nn nc, .int .i64 N.low, .int .i64 N.high]
  obtain ⟨W1, hW1⟩ : ∃ X, w.alloc (.cells #[.int .i64 N.w, .int .i64 N.h, .int .i64 N.gx, .int .i64 N.gy, .slice na nn nc, .int .i64 N.low, .int .i64 N.high] 24) = X := ⟨_, rfl⟩
  rw [hW1] at hB1 kb
  have c0 : W1.cell? ⟨w.heap.size, 0, none⟩ = some (.int .i64 N.w) := kb.cell (i := 0) rfl
  have c1 : W1.cell? ⟨w.heap.size, 1, none⟩ = some (.int .i64 N.h) := kb.cell (i := 1) rfl
  have c2 : W1.cell? ⟨w.heap.size, 2, none⟩ = some (.int .i64 N.gx) := kb.cell (i := 2) rfl
  have c3 : W1.cell? ⟨w.heap.size, 3, none⟩ = some (.int .i64 N.gy) := kb.cell (i := 3) rfl
  have c4 : W1.cell? ⟨w.heap.size, 4, none⟩ = some (.slice na nn nc) := kb.cell (i := 4) rfl
  have c5 : W1.cell? ⟨w.heap.size, 5, none⟩ = some (.int .i64 N.low) := kb.cell (i := 5) rfl
  have c6 : W1.cell? ⟨w.heap.size, 6, none⟩ = some (.int .i64 N.high) := kb.cell (i := 6) rfl
  have hrnH := Lib.hid (later_l hrn hB1)
  have hrH := Lib.hid (later_s hr hB1)
  have kbH := Lib.hid kb
  clear hrn hr kb
  cases e1 : netOk N with
  | false =>
    have hvf : v = 80 := by rw [← hvH.out]; simp [chkF, e1]
    subst hvf
    have hcallH := Lib.hid (CheckNetwork_any N na nn nc hnn hz W1 hrnH.out false e1)
    clear hnn hz e1
    go_enter Try.func19, Try.ntmps19
    go_wp2_with (go_at_call 10; have _t := tok1; refine (hcallH.out).mono ?_; clear _t tok1; rintro e w2 ⟨rfl, hb2⟩; simp only [Bool.false_eq_true, if_false])
    go_ret
    exact ⟨rfl, hB1.trans (hb2.mono hB1.size)⟩
  | true =>
  have hcallH := Lib.hid (CheckNetwork_any N na nn nc hnn hz W1 hrnH.out true e1)
  have e1H := Lib.hid e1
  clear hnn hz e1
  cases e2 : camsB ms with
  | false =>
    have hvf : v = 20 := by rw [← hvH.out]; simp [chkF, e1H.out, e2]
    subst hvf
    have hcamH := Lib.hid (fun (W : World) (hb : Below W1.heap.size W1 W) => camera_any ms a n c hnH.out hm hpx W (later_s hrH.out hb) false e2)
    clear hpx e2
    go_enter Try.func19, Try.ntmps19
    go_wp2_with (first
      | (go_at_call 10; have _t := tok1; refine (hcallH.out).mono ?_; clear _t tok1; rintro e w2 ⟨rfl, hb2⟩; simp only [if_true])
      | (go_at_call 30; have _t := tok2; refine (hcamH.out w2 hb2).mono ?_; clear _t tok2; rintro e w3 ⟨rfl, hb3⟩))
    go_ret
    exact ⟨rfl, (hB1.trans (hb2.mono hB1.size)).trans (hb3.mono (hB1.trans (hb2.mono hB1.size)).size)⟩
  | true =>
  have hcamH := Lib.hid (fun (W : World) (hb : Below W1.heap.size W1 W) => camera_any ms a n c hnH.out hm hpx W (later_s hrH.out hb) true e2)
  have e2H := Lib.hid e2
  clear hpx e2
  go_enter Try.func19, Try.ntmps19
  go_wp2_with (first
    | (go_at_call 10; have _t := tok1; refine (hcallH.out).mono ?_; clear _t tok1; rintro e w2 ⟨rfl, hb2⟩; simp only [if_true])
    | (go_at_call 30; have _t := tok2; refine (hcamH.out w2 hb2).mono ?_; clear _t tok2; rintro e w3 ⟨rfl, hb3⟩))
  clear hW1 c0 c1 c2 c3 c4 c5 c6 hcallH hcamH
  have hb13 := hb2.trans (hb3.mono hb2.size)
  have hB3 := hB1.trans (hb13.mono hB1.size)
  have kb3 := Lib.hid (kbH.out.below hb13 kbH.out.lt)
  have hr3 := Lib.hid (later_s hrH.out hb13)
  clear hb2 hb3 hb13 kbH hrH hrnH
  go_loopw [18] (fun i wr => ∃ k : Nat, k ≤ n ∧ i = .int .i64 (k : Int) ∧ Hid (allTo (fun i => decide ((imAt ms i).w = N.w ∧ (imAt ms i).h = N.h)) k = true) ∧ Below w3.heap.size w3 wr) (fun i _ => n - (intOf i).toNat)
  case atStart => exact ⟨0, Nat.zero_le _, rfl, Lib.hid rfl, Below.refl _ _⟩
  case round =>
    obtain ⟨k, hk, rfl, hall, hb⟩ := hrel
    have kr := kb3.out.below hb kb3.out.lt
    have hBr := hB3.trans (hb.mono hB3.size)
    by_cases hlt : k < n
    case neg =>
      have hkn : k = n := by omega
      subst hkn
      have hvt : v = 0 := by
        have hf : fitsB N ms = true := by unfold fitsB; rw [hnH.out]; exact hall.out
        rw [← hvH.out]; simp [chkF, e1H.out, e2H.out, hf]
      subst hvt
      clear hall kr
      go_wp2_with fail
      go_ret
      exact ⟨rfl, hBr⟩
    case pos =>
      have hkl : k < ms.length := by have := hnH.out; omega
      obtain ⟨b, o, rfl, hb', pa, pc, hc0, hc1, hc2, hp⟩ := (later_s hr3.out hb).at hkl
      obtain ⟨m, hme⟩ : ∃ m, imAt ms k = m := ⟨_, rfl⟩
      rw [hme] at hc0 hc1 hc2 hp
      have hbad : ¬ (m.w = N.w ∧ m.h = N.h) → v = 21 := fun h => by
        have hf : fitsB N ms = false := allTo_false hkl (by rw [hme]; exact decide_eq_false h)
        rw [← hvH.out]; simp [chkF, e1H.out, e2H.out, hf]
      obtain ⟨iw, ih, xs⟩ := m
      simp only at hc0 hc1 hc2 hbad
      have hmeH := Lib.hid hme
      have hbadH := Lib.hid hbad
      have hB4 : Below w.heap.size w (wr.alloc (.cells #[.int .i64 iw, .int .i64 ih, .slice pa xs.length pc] 27)) := jb_al hBr _
      have hb4 : Below w3.heap.size w3 (wr.alloc (.cells #[.int .i64 iw, .int .i64 ih, .slice pa xs.length pc] 27)) := jb_al hb _
      have kr1 := kr.alloc (.cells #[.int .i64 iw, .int .i64 ih, .slice pa xs.length pc] 27)
      have f0 := kr1.cell (i := 0) rfl
      have f1 := kr1.cell (i := 1) rfl
      clear hme hbad hp kr kr1
      by_cases g1 : iw = N.w
      case neg =>
        have hvf := hbadH.out (fun h => g1 h.1)
        subst hvf
        have g1' : (iw != N.w) = true := by simpa using g1
        go_wp2_with fail
        go_ret
        exact ⟨rfl, hB4⟩
      have g1' : (iw != N.w) = false := by simpa using g1
      have g1H := Lib.hid g1
      clear g1
      by_cases g2 : ih = N.h
      case neg =>
        have hvf := hbadH.out (fun h => g2 h.2)
        subst hvf
        have g2' : (ih != N.h) = true := by simpa using g2
        go_wp2_with fail
        go_ret
        exact ⟨rfl, hB4⟩
      have hnx := Lib.hid (allTo_succ hall.out (show decide ((imAt ms k).w = N.w ∧ (imAt ms k).h = N.h) = true by rw [hmeH.out]; simp [g1H.out, g2]))
      have g2' : (ih != N.h) = false := by simpa using g2
      clear hall g2
      go_wp2_with fail
      go_roundw
      case rel => exact ⟨k + 1, by omega, by go_num, hnx.out, hb4⟩
      case measure => simp [intOf]; omega

theorem allTo_one {p : Nat → Bool} : allTo p 1 = p 0 := by simp [allTo]
set_option maxRecDepth 100000 in
set_option maxHeartbeats 8000000 in
theorem rsized_any (N : NetN) (na : Option Addr) (nn nc : Nat) (hnn : N.Ls.length = nn) (hz : NetSz N) (m : ImN) (pa : Option Addr) (l pc : Nat) (hl : m.px.length = l) (hpm : l ≤ 9223372036854775807)
    (w : World) (hrn : RdLs w.heap.size w na N.Ls) (hp : Rd w.heap.size w pa m.px) (v : Int) (hv : chkF N [m] = v) :
    Calls Try.prog 21 #[netv N na nn nc, imv m.w m.h pa l pc] w fun e w' => e = .returned (.int .i64 v) ∧ Below w.heap.size w w' := by
  have hvH := Lib.hid hv
  clear hv
  have tok1 : True := trivial
  have tok2 : True := trivial
  have hB1 : Below w.heap.size w (w.alloc (.cells #[.int .i64 N.w, .int .i64 N.h, .int .i64 N.gx, .int .i64 N.gy, .slice na nn nc, .int .i64 N.low, .int .i64 N.high] 24)) := jb_al (Below.refl _ w) _
  have kb := Blk.new w 24 #[.int .i64 N.w, .int .i64 N.h, .int .i64 N.gx, .int .i64 N.gy, .slice na nn nc, .int .i64 N.low, .int .i64 N.high]
  obtain ⟨W1, hW1⟩ : ∃ X, w.alloc (.cells #[.int .i64 N.w, .int .i64 N.h, .int .i64 N.gx, .int .i64 N.gy, .slice na nn nc, .int .i64 N.low, .int .i64 N.high] 24) = X := ⟨_, rfl⟩
  rw [hW1] at hB1 kb
  have c0 : W1.cell? ⟨w.heap.size, 0, none⟩ = some (.int .i64 N.w) := kb.cell (i := 0) rfl
  have c1 : W1.cell? ⟨w.heap.size, 1, none⟩ = some (.int .i64 N.h) := kb.cell (i := 1) rfl
  have c2 : W1.cell? ⟨w.heap.size, 2, none⟩ = some (.int .i64 N.gx) := kb.cell (i := 2) rfl
  have c3 : W1.cell? ⟨w.heap.size, 3, none⟩ = some (.int .i64 N.gy) := kb.cell (i := 3) rfl
  have c4 : W1.cell? ⟨w.heap.size, 4, none⟩ = some (.slice na nn nc) := kb.cell (i := 4) rfl
  have c5 : W1.cell? ⟨w.heap.size, 5, none⟩ = some (.int .i64 N.low) := kb.cell (i := 5) rfl
  have c6 : W1.cell? ⟨w.heap.size, 6, none⟩ = some (.int .i64 N.high) := kb.cell (i := 6) rfl
  have hB2 : Below W1.heap.size W1 (W1.alloc (.cells #[.int .i64 m.w, .int .i64 m.h, .slice pa l pc] 27)) := jb_al (Below.refl _ W1) _
  have ki := Blk.new W1 27 #[.int .i64 m.w, .int .i64 m.h, .slice pa l pc]
  have kb' := kb.alloc (.cells #[.int .i64 m.w, .int .i64 m.h, .slice pa l pc] 27)
  obtain ⟨W2, hW2⟩ : ∃ X, W1.alloc (.cells #[.int .i64 m.w, .int .i64 m.h, .slice pa l pc] 27) = X := ⟨_, rfl⟩
  rw [hW2] at hB2 ki kb'
  have hB2' := hB1.trans (hB2.mono hB1.size)
  have d0 : W2.cell? ⟨w.heap.size, 0, none⟩ = some (.int .i64 N.w) := kb'.cell (i := 0) rfl
  have d1 : W2.cell? ⟨w.heap.size, 1, none⟩ = some (.int .i64 N.h) := kb'.cell (i := 1) rfl
  have d2 : W2.cell? ⟨w.heap.size, 2, none⟩ = some (.int .i64 N.gx) := kb'.cell (i := 2) rfl
  have d3 : W2.cell? ⟨w.heap.size, 3, none⟩ = some (.int .i64 N.gy) := kb'.cell (i := 3) rfl
  have d4 : W2.cell? ⟨w.heap.size, 4, none⟩ = some (.slice na nn nc) := kb'.cell (i := 4) rfl
  have d5 : W2.cell? ⟨w.heap.size, 5, none⟩ = some (.int .i64 N.low) := kb'.cell (i := 5) rfl
  have d6 : W2.cell? ⟨w.heap.size, 6, none⟩ = some (.int .i64 N.high) := kb'.cell (i := 6) rfl
  have i0 : W2.cell? ⟨W1.heap.size, 0, none⟩ = some (.int .i64 m.w) := ki.cell (i := 0) rfl
  have i1 : W2.cell? ⟨W1.heap.size, 1, none⟩ = some (.int .i64 m.h) := ki.cell (i := 1) rfl
  have i2 : W2.cell? ⟨W1.heap.size, 2, none⟩ = some (.slice pa l pc) := ki.cell (i := 2) rfl
  have kbH := Lib.hid kb'
  have kiH := Lib.hid ki
  have hrnH := Lib.hid (later_l hrn hB2')
  have hpH := Lib.hid (later_i hp hB2')
  clear hrn hp kb kb' ki
  cases e1 : netOk N with
  | false =>
    have hvf : v = 80 := by rw [← hvH.out]; simp [chkF, e1]
    subst hvf
    have hcallH := Lib.hid (ValidNetwork_any N na nn nc hnn hz W2 hrnH.out false e1)
    clear hnn hz e1
    go_enter Try.func21, Try.ntmps21
    go_wp2_with (go_at_call 24; have _t := tok1; refine (hcallH.out).mono ?_; clear _t tok1; rintro e w2 ⟨rfl, hb2⟩)
    go_ret
    exact ⟨rfl, hB2'.trans (hb2.mono hB2'.size)⟩
  | true =>
  have hcallH := Lib.hid (ValidNetwork_any N na nn nc hnn hz W2 hrnH.out true e1)
  have e1H := Lib.hid e1
  clear hnn hz e1
  have hcs : camsB [m] = camB m := by unfold camsB; exact allTo_one
  have hfs : fitsB N [m] = decide (m.w = N.w ∧ m.h = N.h) := by unfold fitsB; exact allTo_one
  have hvH2 := Lib.hid (show (if camB m = true then if decide (m.w = N.w ∧ m.h = N.h) = true then 0 else 21 else 20) = v by rw [← hvH.out]; simp only [chkF, e1H.out, hcs, hfs, if_true])
  clear hcs hfs hvH
  cases e2 : camB m with
  | false =>
    have hvf : v = 20 := by rw [← hvH2.out]; simp [e2]
    subst hvf
    have hcamH := Lib.hid (fun (W : World) (hb : Below W2.heap.size W2 W) => rCamera_any m pa l pc hl hpm W (later_i hpH.out hb) false e2)
    clear hl e2
    go_enter Try.func21, Try.ntmps21
    go_wp2_with (first
      | (go_at_call 24; have _t := tok1; refine (hcallH.out).mono ?_; clear _t tok1; rintro e w2 ⟨rfl, hb2⟩; have q0 := (hb2.cell (p := ⟨W1.heap.size, 0, none⟩) kiH.out.lt).trans i0; have q1 := (hb2.cell (p := ⟨W1.heap.size, 1, none⟩) kiH.out.lt).trans i1; have q2 := (hb2.cell (p := ⟨W1.heap.size, 2, none⟩) kiH.out.lt).trans i2)
      | (go_at_call 35; have _t := tok2; refine (hcamH.out w2 hb2).mono ?_; clear _t tok2; rintro e w3 ⟨rfl, hb3⟩; have hb13 := hb2.trans (hb3.mono hb2.size); have hB3 := hB2'.trans (hb13.mono hB2'.size); clear q0 q1 q2 hb2 hb3; have r0 := (hb13.cell (p := ⟨W1.heap.size, 0, none⟩) kiH.out.lt).trans i0; have r1 := (hb13.cell (p := ⟨W1.heap.size, 1, none⟩) kiH.out.lt).trans i1; have r2 := (hb13.cell (p := ⟨w.heap.size, 0, none⟩) kbH.out.lt).trans d0; have r3 := (hb13.cell (p := ⟨w.heap.size, 1, none⟩) kbH.out.lt).trans d1))
    go_ret
    exact ⟨rfl, hB3⟩
  | true =>
  have hcamH := Lib.hid (fun (W : World) (hb : Below W2.heap.size W2 W) => rCamera_any m pa l pc hl hpm W (later_i hpH.out hb) true e2)
  have e2H := Lib.hid e2
  clear hl e2
  by_cases g1 : m.w = N.w
  case neg =>
    have hvf : v = 21 := by rw [← hvH2.out]; simp [e2H.out, g1]
    subst hvf
    have g1' : (m.w != N.w) = true := by simpa using g1
    go_enter Try.func21, Try.ntmps21
    go_wp2_with (first
      | (go_at_call 24; have _t := tok1; refine (hcallH.out).mono ?_; clear _t tok1; rintro e w2 ⟨rfl, hb2⟩; have q0 := (hb2.cell (p := ⟨W1.heap.size, 0, none⟩) kiH.out.lt).trans i0; have q1 := (hb2.cell (p := ⟨W1.heap.size, 1, none⟩) kiH.out.lt).trans i1; have q2 := (hb2.cell (p := ⟨W1.heap.size, 2, none⟩) kiH.out.lt).trans i2)
      | (go_at_call 35; have _t := tok2; refine (hcamH.out w2 hb2).mono ?_; clear _t tok2; rintro e w3 ⟨rfl, hb3⟩; have hb13 := hb2.trans (hb3.mono hb2.size); have hB3 := hB2'.trans (hb13.mono hB2'.size); clear q0 q1 q2 hb2 hb3; have r0 := (hb13.cell (p := ⟨W1.heap.size, 0, none⟩) kiH.out.lt).trans i0; have r1 := (hb13.cell (p := ⟨W1.heap.size, 1, none⟩) kiH.out.lt).trans i1; have r2 := (hb13.cell (p := ⟨w.heap.size, 0, none⟩) kbH.out.lt).trans d0; have r3 := (hb13.cell (p := ⟨w.heap.size, 1, none⟩) kbH.out.lt).trans d1))
    go_ret
    exact ⟨rfl, hB3⟩
  have g1' : (m.w != N.w) = false := by simpa using g1
  have g1H := Lib.hid g1
  clear g1
  by_cases g2 : m.h = N.h
  case neg =>
    have hvf : v = 21 := by rw [← hvH2.out]; simp [e2H.out, g2]
    subst hvf
    have g2' : (m.h != N.h) = true := by simpa using g2
    go_enter Try.func21, Try.ntmps21
    go_wp2_with (first
      | (go_at_call 24; have _t := tok1; refine (hcallH.out).mono ?_; clear _t tok1; rintro e w2 ⟨rfl, hb2⟩; have q0 := (hb2.cell (p := ⟨W1.heap.size, 0, none⟩) kiH.out.lt).trans i0; have q1 := (hb2.cell (p := ⟨W1.heap.size, 1, none⟩) kiH.out.lt).trans i1; have q2 := (hb2.cell (p := ⟨W1.heap.size, 2, none⟩) kiH.out.lt).trans i2)
      | (go_at_call 35; have _t := tok2; refine (hcamH.out w2 hb2).mono ?_; clear _t tok2; rintro e w3 ⟨rfl, hb3⟩; have hb13 := hb2.trans (hb3.mono hb2.size); have hB3 := hB2'.trans (hb13.mono hB2'.size); clear q0 q1 q2 hb2 hb3; have r0 := (hb13.cell (p := ⟨W1.heap.size, 0, none⟩) kiH.out.lt).trans i0; have r1 := (hb13.cell (p := ⟨W1.heap.size, 1, none⟩) kiH.out.lt).trans i1; have r2 := (hb13.cell (p := ⟨w.heap.size, 0, none⟩) kbH.out.lt).trans d0; have r3 := (hb13.cell (p := ⟨w.heap.size, 1, none⟩) kbH.out.lt).trans d1))
    go_ret
    exact ⟨rfl, hB3⟩
  have hvf : v = 0 := by rw [← hvH2.out]; simp [e2H.out, g1H.out, g2]
  have g2' : (m.h != N.h) = false := by simpa using g2
  clear g2
  subst hvf
  go_enter Try.func21, Try.ntmps21
  go_wp2_with (first
    | (go_at_call 24; have _t := tok1; refine (hcallH.out).mono ?_; clear _t tok1; rintro e w2 ⟨rfl, hb2⟩; have q0 := (hb2.cell (p := ⟨W1.heap.size, 0, none⟩) kiH.out.lt).trans i0; have q1 := (hb2.cell (p := ⟨W1.heap.size, 1, none⟩) kiH.out.lt).trans i1; have q2 := (hb2.cell (p := ⟨W1.heap.size, 2, none⟩) kiH.out.lt).trans i2)
    | (go_at_call 35; have _t := tok2; refine (hcamH.out w2 hb2).mono ?_; clear _t tok2; rintro e w3 ⟨rfl, hb3⟩; have hb13 := hb2.trans (hb3.mono hb2.size); have hB3 := hB2'.trans (hb13.mono hB2'.size); clear q0 q1 q2 hb2 hb3; have r0 := (hb13.cell (p := ⟨W1.heap.size, 0, none⟩) kiH.out.lt).trans i0; have r1 := (hb13.cell (p := ⟨W1.heap.size, 1, none⟩) kiH.out.lt).trans i1; have r2 := (hb13.cell (p := ⟨w.heap.size, 0, none⟩) kbH.out.lt).trans d0; have r3 := (hb13.cell (p := ⟨w.heap.size, 1, none⟩) kbH.out.lt).trans d1))
  go_ret
  exact ⟨rfl, hB3⟩

end Go.Proofs.Ytbfigbpjoaccdaa

/- Contracts and laws (Cam, Sums, Feat, FeatL, Fe). -/
import Derived.Test.YtbfigbpjoaccdaaGreatQD3
import Derived.Test.YtbfigbpjoaccdaaGreatQD5
import Derived.Test.YtbfigbpjoaccdaaGreatQD1
import Derived.Test.YtbfigbpjoaccdaaGreatQD2
namespace Go.Proofs.YtbfigbpjoaccdaaGreat
open Go Go.RowKit Go.Shelf
set_option linter.unusedVariables false
set_option linter.unusedSimpArgs false

/-- An image, by what it reads as. -/
structure ImN where
  w : Int
  h : Int
  px : List Int
def imAt (ms : List ImN) (i : Nat) : ImN := ms[i]?.getD ⟨0, 0, []⟩
def camB (m : ImN) : Bool := vld m.w m.h m.px && allIn 0 255 m.px
def camsB (ms : List ImN) : Bool := allTo (fun i => camB (imAt ms i)) ms.length
def fitsB (N : NetN) (ms : List ImN) : Bool := allTo (fun i => decide ((imAt ms i).w = N.w ∧ (imAt ms i).h = N.h)) ms.length
def chkF (N : NetN) (ms : List ImN) : Int := if netOk N = true then if camsB ms = true then if fitsB N ms = true then 0 else 21 else 20 else 80
theorem camB_no {m : ImN} {k : Nat} (hk : k < m.px.length) (h : nIn 0 255 (m.px[k]?.getD 0) = false) : camB m = false := by
  unfold camB; rw [allIn_no hk h, Bool.and_false]
theorem camB_vld {m : ImN} (h : vld m.w m.h m.px = false) : camB m = false := by unfold camB; rw [h]; rfl
theorem camB_in {m : ImN} (h : allIn 0 255 m.px = false) : camB m = false := by unfold camB; rw [h, Bool.and_false]

/-- The slice at 'a' reads as the images 'ms', in blocks below 'B'. -/
def RdIs (B : Nat) (W : World) (a : Option Addr) (ms : List ImN) : Prop :=
  ms = [] ∨ ∃ b o, a = some ⟨b, o, none⟩ ∧ b < B ∧ ∀ i, i < ms.length → ∃ pa pc, W.cell? ⟨b, o + i * 3, none⟩ = some (.int .i64 (imAt ms i).w) ∧ W.cell? ⟨b, o + i * 3 + 1, none⟩ = some (.int .i64 (imAt ms i).h) ∧
    W.cell? ⟨b, o + i * 3 + 2, none⟩ = some (.slice pa (imAt ms i).px.length pc) ∧ Rd B W pa (imAt ms i).px
theorem RdIs.below {B B' : Nat} {W W' : World} {a : Option Addr} {ms : List ImN} (h : RdIs B W a ms) (hB : B ≤ B') (hb : Below B' W W') : RdIs B W' a ms := by
  rcases h with h | ⟨b, o, h1, h2, h3⟩
  · exact .inl h
  · refine .inr ⟨b, o, h1, h2, fun i hi => ?_⟩
    obtain ⟨pa, pc, h4, h5, h6, h7⟩ := h3 i hi
    exact ⟨pa, pc, (hb.cell (p := ⟨b, o + i * 3, none⟩) (by show b < B'; omega)).trans h4, (hb.cell (p := ⟨b, o + i * 3 + 1, none⟩) (by show b < B'; omega)).trans h5, (hb.cell (p := ⟨b, o + i * 3 + 2, none⟩) (by show b < B'; omega)).trans h6, h7.below hB hb⟩
theorem RdIs.mono {B B' : Nat} {W : World} {a : Option Addr} {ms : List ImN} (h : RdIs B W a ms) (hB : B ≤ B') : RdIs B' W a ms := by
  rcases h with h | ⟨b, o, h1, h2, h3⟩
  · exact .inl h
  · refine .inr ⟨b, o, h1, by omega, fun i hi => ?_⟩
    obtain ⟨pa, pc, h4, h5, h6, h7⟩ := h3 i hi
    exact ⟨pa, pc, h4, h5, h6, h7.mono hB⟩
theorem RdIs.at {B : Nat} {W : World} {a : Option Addr} {ms : List ImN} (h : RdIs B W a ms) {i : Nat} (hi : i < ms.length) :
    ∃ b o, a = some ⟨b, o, none⟩ ∧ b < B ∧ ∃ pa pc, W.cell? ⟨b, o + i * 3, none⟩ = some (.int .i64 (imAt ms i).w) ∧ W.cell? ⟨b, o + i * 3 + 1, none⟩ = some (.int .i64 (imAt ms i).h) ∧
      W.cell? ⟨b, o + i * 3 + 2, none⟩ = some (.slice pa (imAt ms i).px.length pc) ∧ Rd B W pa (imAt ms i).px := by
  rcases h with h | ⟨b, o, h1, h2, h3⟩
  · subst h; simp at hi
  · exact ⟨b, o, h1, h2, h3 i hi⟩
theorem later_s {W W' : World} {a : Option Addr} {xs : List ImN} (h : RdIs W.heap.size W a xs) (hb : Below W.heap.size W W') : RdIs W'.heap.size W' a xs := (h.below (Nat.le_refl _) hb).mono hb.size

set_option maxRecDepth 100000 in
set_option maxHeartbeats 8000000 in
theorem camera_any (ms : List ImN) (a : Option Addr) (n c : Nat) (hn : ms.length = n) (hm : n ≤ 9223372036854775807) (hpx : ∀ i, (imAt ms i).px.length ≤ 9223372036854775807) (w : World) (hr : RdIs w.heap.size w a ms) (v : Bool) (hv : camsB ms = v) :
    Calls Tryz.prog 55 #[.slice a n c] w fun e w' => e = .returned (.bool v) ∧ Below w.heap.size w w' := by
  have hnH := Lib.hid hn
  have hvH := Lib.hid hv
  have hpxH := Lib.hid hpx
  have hrH := Lib.hid hr
  clear hn hv hpx hr
  have tok1 : True := trivial
  have tok2 : True := trivial
  have tok3 : True := trivial
  go_enter Tryz.func55, Tryz.ntmps55
  go_wp2_with fail
  go_loopw [7] (fun i wr => ∃ k : Nat, k ≤ n ∧ i = .int .i64 (k : Int) ∧ Hid (allTo (fun i => camB (imAt ms i)) k = true) ∧ Below w.heap.size w wr) (fun i _ => n - (intOf i).toNat)
  case atStart => exact ⟨0, Nat.zero_le _, rfl, Lib.hid rfl, Below.refl _ w⟩
  case round =>
    obtain ⟨k, hk, rfl, hall, hB⟩ := hrel
    by_cases hlt : k < n
    case neg =>
      have hkn : k = n := by omega
      subst hkn
      have hvt : v = true := by rw [← hvH.out]; unfold camsB; rw [hnH.out]; exact hall.out
      subst hvt
      clear hall
      go_wp2_with fail
      go_ret
      exact ⟨rfl, hB⟩
    case pos =>
      have hkl : k < ms.length := by have := hnH.out; omega
      obtain ⟨b, o, rfl, hb, pa, pc, hc0, hc1, hc2, hp⟩ := (later_s hrH.out hB).at hkl
      have hpm := hpxH.out k
      obtain ⟨m, hme⟩ : ∃ m, imAt ms k = m := ⟨_, rfl⟩
      rw [hme] at hc0 hc1 hc2 hp hpm
      have hbad : camB m = false → v = false := fun h => by rw [← hvH.out]; unfold camsB; exact allTo_false hkl (by rw [hme]; exact h)
      obtain ⟨iw, ih, xs⟩ := m
      simp only at hc0 hc1 hc2 hp hpm
      obtain ⟨l, hl⟩ : ∃ l, xs.length = l := ⟨_, rfl⟩
      rw [hl] at hc2 hpm
      have hlH := Lib.hid hl
      have hmeH := Lib.hid hme
      have hbadH := Lib.hid hbad
      have hB1 : Below wr.heap.size wr (wr.alloc (.cells #[.int .i64 iw, .int .i64 ih, .slice pa l pc] 27)) := jb_al (Below.refl _ wr) _
      have kb := Blk.new wr 27 #[.int .i64 iw, .int .i64 ih, .slice pa l pc]
      obtain ⟨W1, hW1⟩ : ∃ X, wr.alloc (.cells #[.int .i64 iw, .int .i64 ih, .slice pa l pc] 27) = X := ⟨_, rfl⟩
      rw [hW1] at hB1 kb
      have hBw := hB.trans (hB1.mono hB.size)
      have d0 : W1.cell? ⟨wr.heap.size, 0, none⟩ = some (.int .i64 iw) := kb.cell (i := 0) rfl
      have d1 : W1.cell? ⟨wr.heap.size, 1, none⟩ = some (.int .i64 ih) := kb.cell (i := 1) rfl
      have d2 : W1.cell? ⟨wr.heap.size, 2, none⟩ = some (.slice pa l pc) := kb.cell (i := 2) rfl
      have kbH := Lib.hid kb
      have hpH := Lib.hid (later_i hp hB1)
      clear hl hme hbad hp kb hB1
      cases e1 : vld iw ih xs with
      | false =>
        have hvf := hbadH.out (camB_vld e1)
        subst hvf
        have hcallH := Lib.hid (Check_any iw ih pa pc l xs hlH false e1 W1 hpm hpH.out)
        clear e1
        go_wp2_with (go_at_call 94; have _t := tok1; refine (hcallH.out).mono ?_; clear _t tok1; rintro e w2 ⟨rfl, hb2⟩)
        go_ret
        exact ⟨rfl, hBw.trans (hb2.mono hBw.size)⟩
      | true =>
      have hcallH := Lib.hid (Check_any iw ih pa pc l xs hlH true e1 W1 hpm hpH.out)
      have e1H := Lib.hid e1
      clear e1
      cases e2 : allIn 0 255 xs with
      | false =>
        have hvf := hbadH.out (camB_in e2)
        subst hvf
        have e2H := Lib.hid e2
        clear e2
        go_wp2_with (first
          | (go_at_call 94; have _t := tok1; refine (hcallH.out).mono ?_; clear _t tok1; rintro e w2 ⟨rfl, hb2⟩; have d3 := (hb2.cell (p := ⟨wr.heap.size, 2, none⟩) kbH.out.lt).trans d2)
          | (go_at_call 48; have _t := tok2; refine (jwn 0 255 false xs e2H.out pa pc _ hlH.out hpm w2 (later_i hpH.out hb2)).mono ?_; clear _t tok2; rintro e w' ⟨rfl, rfl⟩))
        go_ret
        exact ⟨rfl, hBw.trans (hb2.mono hBw.size)⟩
      | true =>
        have e2H := Lib.hid e2
        clear e2
        go_wp2_with (first
          | (go_at_call 94; have _t := tok1; refine (hcallH.out).mono ?_; clear _t tok1; rintro e w2 ⟨rfl, hb2⟩; have d3 := (hb2.cell (p := ⟨wr.heap.size, 2, none⟩) kbH.out.lt).trans d2)
          | (go_at_call 48; have _t := tok2; refine (jwn 0 255 true xs e2H.out pa pc _ hlH.out hpm w2 (later_i hpH.out hb2)).mono ?_; clear _t tok2; rintro e w' ⟨rfl, rfl⟩))
        go_roundw
        case rel => exact ⟨k + 1, by omega, by go_num, Lib.hid (allTo_succ hall.out (by rw [hmeH.out]; unfold camB; rw [e1H.out, e2H.out]; rfl)), hBw.trans (hb2.mono hBw.size)⟩
        case measure => simp [intOf]; omega

set_option maxRecDepth 100000 in
set_option maxHeartbeats 8000000 in
theorem rCamera_any (m : ImN) (pa : Option Addr) (l pc : Nat) (hl : m.px.length = l) (hpm : l ≤ 9223372036854775807) (w : World) (hp : Rd w.heap.size w pa m.px) (v : Bool) (hv : camB m = v) :
    Calls Tryz.prog 22 #[imv m.w m.h pa l pc] w fun e w' => e = .returned (.bool v) ∧ Below w.heap.size w w' := by
  obtain ⟨iw, ih, xs⟩ := m
  simp only at hl hp
  have hvH := Lib.hid hv
  have hlH := Lib.hid hl
  have hB1 : Below w.heap.size w (w.alloc (.cells #[.int .i64 iw, .int .i64 ih, .slice pa l pc] 27)) := jb_al (Below.refl _ w) _
  have kb := Blk.new w 27 #[.int .i64 iw, .int .i64 ih, .slice pa l pc]
  obtain ⟨W1, hW1⟩ : ∃ X, w.alloc (.cells #[.int .i64 iw, .int .i64 ih, .slice pa l pc] 27) = X := ⟨_, rfl⟩
  rw [hW1] at hB1 kb
  have d0 : W1.cell? ⟨w.heap.size, 0, none⟩ = some (.int .i64 iw) := kb.cell (i := 0) rfl
  have d1 : W1.cell? ⟨w.heap.size, 1, none⟩ = some (.int .i64 ih) := kb.cell (i := 1) rfl
  have d2 : W1.cell? ⟨w.heap.size, 2, none⟩ = some (.slice pa l pc) := kb.cell (i := 2) rfl
  have kbH := Lib.hid kb
  have hpH := Lib.hid (later_i hp hB1)
  clear hl hp kb hv
  have tok1 : True := trivial
  have tok2 : True := trivial
  cases e1 : vld iw ih xs with
  | false =>
    have hvf : v = false := by rw [← hvH.out]; exact camB_vld e1
    subst hvf
    have hcall := Valid_any iw ih pa pc xs l hlH W1 hpm hpH.out
    rw [e1] at hcall
    have hcallH := Lib.hid hcall
    clear e1 hcall
    go_enter Tryz.func22, Tryz.ntmps22
    go_wp2_with (go_at_call 60; have _t := tok1; refine (hcallH.out).mono ?_; clear _t tok1; rintro e w2 ⟨rfl, hb2⟩)
    go_ret
    exact ⟨rfl, hB1.trans (hb2.mono hB1.size)⟩
  | true =>
  have hcall := Valid_any iw ih pa pc xs l hlH W1 hpm hpH.out
  rw [e1] at hcall
  have hcallH := Lib.hid hcall
  have e1H := Lib.hid e1
  clear e1 hcall
  go_enter Tryz.func22, Tryz.ntmps22
  go_wp2_with (go_at_call 60; have _t := tok1; refine (hcallH.out).mono ?_; clear _t tok1; rintro e w2 ⟨rfl, hb2⟩; have d3 := (hb2.cell (p := ⟨w.heap.size, 2, none⟩) kbH.out.lt).trans d2)
  have hB2 := hB1.trans (hb2.mono hB1.size)
  have hp2H := Lib.hid (later_i hpH.out hb2)
  clear hb2 hW1 d0 d1 d2
  go_loop [3] (fun i => ∃ k : Nat, k ≤ l ∧ i = .int .i64 (k : Int) ∧ Hid (∀ i, i < k → nIn 0 255 (xs[i]?.getD 0) = true)) (fun i => l - (intOf i).toNat)
  case atStart => exact ⟨0, Nat.zero_le _, rfl, Lib.hid (fun i h => absurd h (Nat.not_lt_zero _))⟩
  case round =>
    obtain ⟨k, hk, rfl, hall⟩ := hrel
    by_cases hlt : k < l
    case neg =>
      have hkn : k = l := by omega
      subst hkn
      have hvt : v = true := by
        rw [← hvH.out]
        show (vld iw ih xs && allIn 0 255 xs) = true
        rw [e1H.out, allIn_of fun i hi => nIn_true.1 (hall.out i (by rw [hlH.out] at hi; exact hi))]
        rfl
      subst hvt
      clear hall
      go_wp2_with fail
      go_ret
      exact ⟨rfl, hB2⟩
    case pos =>
      have hkl : k < xs.length := by have := hlH.out; omega
      rcases hp2H.out with h0 | ⟨b, o, rfl, hb, hc⟩
      · rw [h0] at hkl; simp at hkl
      have hcell := hc k hkl
      obtain ⟨x, hx⟩ : ∃ x, xs[k]?.getD 0 = x := ⟨_, rfl⟩
      rw [hx] at hcell
      have hxH := Lib.hid hx
      clear hx hc
      cases f1 : nIn 0 255 x with
      | false =>
        have hvf : v = false := by rw [← hvH.out]; exact camB_no (m := ⟨iw, ih, xs⟩) hkl (by show nIn 0 255 (xs[k]?.getD 0) = false; rw [hxH.out]; exact f1)
        subst hvf
        have f1H := Lib.hid f1
        clear f1
        go_wp2_with (go_at_call 61; have _t := tok2; refine (rw1 0 255 _ false f1H.out _).mono ?_; clear _t tok2; rintro e w' ⟨rfl, rfl⟩)
        go_ret
        exact ⟨rfl, hB2⟩
      | true =>
        have f1H := Lib.hid f1
        clear f1
        go_wp2_with (go_at_call 61; have _t := tok2; refine (rw1 0 255 _ true f1H.out _).mono ?_; clear _t tok2; rintro e w' ⟨rfl, rfl⟩)
        go_round
        case rel =>
          refine ⟨k + 1, by omega, by go_num, Lib.hid fun i hi => ?_⟩
          by_cases e : i = k
          · subst e; rw [hxH.out]; exact f1H.out
          · exact hall.out i (by omega)
        case measure => simp [intOf]; omega

set_option maxRecDepth 100000 in
set_option maxHeartbeats 8000000 in
theorem check_any (N : NetN) (na : Option Addr) (nn nc : Nat) (hnn : N.Ls.length = nn) (hz : NetSz N) (ms : List ImN) (a : Option Addr) (n c : Nat) (hn : ms.length = n) (hm : n ≤ 9223372036854775807) (hpx : ∀ i, (imAt ms i).px.length ≤ 9223372036854775807)
    (w : World) (hrn : RdLs w.heap.size w na N.Ls) (hr : RdIs w.heap.size w a ms) (v : Int) (hv : chkF N ms = v) :
    Calls Tryz.prog 47 #[netv N na nn nc, .slice a n c] w fun e w' => e = .returned (.int .i64 v) ∧ Below w.heap.size w w' := by
  have hnH := Lib.hid hn
  have hvH := Lib.hid hv
  clear hn hv
  have tok1 : True := trivial
  have tok2 : True := trivial
  have hB1 : Below w.heap.size w (w.alloc (.cells #[.int .i64 N.w, .int .i64 N.h, .int .i64 N.gx, .int .i64 N.gy, .slice na nn nc, .int .i64 N.low, .int .i64 N.high] 24)) := jb_al (Below.refl _ w) _
  have kb := Blk.new w 24 #[.int .i64 N.w, .int .i64 N.h, .int .i64 N.gx, .int .i64 N.gy, .slice na nn nc, .int .i64 N.low, .int .i64 N.high]
  obtain ⟨W1, hW1⟩ : ∃ X, w.alloc (.cells #[.int .i64 N.w, .int .i64 N.h, .int .i64 N.gx, .int .i64 N.gy, .slice na nn nc, .int .i64 N.low, .int .i64 N.high] 24) = X := ⟨_, rfl⟩
  rw [hW1] at hB1 kb
  have c0 : W1.cell? ⟨w.heap.size, 0, none⟩ = some (.int .i64 N.w) := kb.cell (i := 0) rfl
  have c1 : W1.cell? ⟨w.heap.size, 1, none⟩ = some (.int .i64 N.h) := kb.cell (i := 1) rfl
  have c2 : W1.cell? ⟨w.heap.size, 2, none⟩ = some (.int .i64 N.gx) := kb.cell (i := 2) rfl
  have c3 : W1.cell? ⟨w.heap.size, 3, none⟩ = some (.int .i64 N.gy) := kb.cell (i := 3) rfl
  have c4 : W1.cell? ⟨w.heap.size, 4, none⟩ = some (.slice na nn nc) := kb.cell (i := 4) rfl
  have c5 : W1.cell? ⟨w.heap.size, 5, none⟩ = some (.int .i64 N.low) := kb.cell (i := 5) rfl
  have c6 : W1.cell? ⟨w.heap.size, 6, none⟩ = some (.int .i64 N.high) := kb.cell (i := 6) rfl
  have hrnH := Lib.hid (later_l hrn hB1)
  have hrH := Lib.hid (later_s hr hB1)
  have kbH := Lib.hid kb
  clear hrn hr kb
  cases e1 : netOk N with
  | false =>
    have hvf : v = 80 := by rw [← hvH.out]; simp [chkF, e1]
    subst hvf
    have hcallH := Lib.hid (CheckNetwork_any N na nn nc hnn hz W1 hrnH.out false e1)
    clear hnn hz e1
    go_enter Tryz.func47, Tryz.ntmps47
    go_wp2_with (go_at_call 88; have _t := tok1; refine (hcallH.out).mono ?_; clear _t tok1; rintro e w2 ⟨rfl, hb2⟩; simp only [Bool.false_eq_true, if_false])
    go_ret
    exact ⟨rfl, hB1.trans (hb2.mono hB1.size)⟩
  | true =>
  have hcallH := Lib.hid (CheckNetwork_any N na nn nc hnn hz W1 hrnH.out true e1)
  have e1H := Lib.hid e1
  clear hnn hz e1
  cases e2 : camsB ms with
  | false =>
    have hvf : v = 20 := by rw [← hvH.out]; simp [chkF, e1H.out, e2]
    subst hvf
    have hcamH := Lib.hid (fun (W : World) (hb : Below W1.heap.size W1 W) => camera_any ms a n c hnH.out hm hpx W (later_s hrH.out hb) false e2)
    clear hpx e2
    go_enter Tryz.func47, Tryz.ntmps47
    go_wp2_with (first
      | (go_at_call 88; have _t := tok1; refine (hcallH.out).mono ?_; clear _t tok1; rintro e w2 ⟨rfl, hb2⟩; simp only [if_true])
      | (go_at_call 55; have _t := tok2; refine (hcamH.out w2 hb2).mono ?_; clear _t tok2; rintro e w3 ⟨rfl, hb3⟩))
    go_ret
    exact ⟨rfl, (hB1.trans (hb2.mono hB1.size)).trans (hb3.mono (hB1.trans (hb2.mono hB1.size)).size)⟩
  | true =>
  have hcamH := Lib.hid (fun (W : World) (hb : Below W1.heap.size W1 W) => camera_any ms a n c hnH.out hm hpx W (later_s hrH.out hb) true e2)
  have e2H := Lib.hid e2
  clear hpx e2
  go_enter Tryz.func47, Tryz.ntmps47
  go_wp2_with (first
    | (go_at_call 88; have _t := tok1; refine (hcallH.out).mono ?_; clear _t tok1; rintro e w2 ⟨rfl, hb2⟩; simp only [if_true])
    | (go_at_call 55; have _t := tok2; refine (hcamH.out w2 hb2).mono ?_; clear _t tok2; rintro e w3 ⟨rfl, hb3⟩))
  clear hW1 c0 c1 c2 c3 c4 c5 c6 hcallH hcamH
  have hb13 := hb2.trans (hb3.mono hb2.size)
  have hB3 := hB1.trans (hb13.mono hB1.size)
  have kb3 := Lib.hid (kbH.out.below hb13 kbH.out.lt)
  have hr3 := Lib.hid (later_s hrH.out hb13)
  clear hb2 hb3 hb13 kbH hrH hrnH
  go_loopw [18] (fun i wr => ∃ k : Nat, k ≤ n ∧ i = .int .i64 (k : Int) ∧ Hid (allTo (fun i => decide ((imAt ms i).w = N.w ∧ (imAt ms i).h = N.h)) k = true) ∧ Below w3.heap.size w3 wr) (fun i _ => n - (intOf i).toNat)
  case atStart => exact ⟨0, Nat.zero_le _, rfl, Lib.hid rfl, Below.refl _ _⟩
  case round =>
    obtain ⟨k, hk, rfl, hall, hb⟩ := hrel
    have kr := kb3.out.below hb kb3.out.lt
    have hBr := hB3.trans (hb.mono hB3.size)
    by_cases hlt : k < n
    case neg =>
      have hkn : k = n := by omega
      subst hkn
      have hvt : v = 0 := by
        have hf : fitsB N ms = true := by unfold fitsB; rw [hnH.out]; exact hall.out
        rw [← hvH.out]; simp [chkF, e1H.out, e2H.out, hf]
      subst hvt
      clear hall kr
      go_wp2_with fail
      go_ret
      exact ⟨rfl, hBr⟩
    case pos =>
      have hkl : k < ms.length := by have := hnH.out; omega
      obtain ⟨b, o, rfl, hb', pa, pc, hc0, hc1, hc2, hp⟩ := (later_s hr3.out hb).at hkl
      obtain ⟨m, hme⟩ : ∃ m, imAt ms k = m := ⟨_, rfl⟩
      rw [hme] at hc0 hc1 hc2 hp
      have hbad : ¬ (m.w = N.w ∧ m.h = N.h) → v = 21 := fun h => by
        have hf : fitsB N ms = false := allTo_false hkl (by rw [hme]; exact decide_eq_false h)
        rw [← hvH.out]; simp [chkF, e1H.out, e2H.out, hf]
      obtain ⟨iw, ih, xs⟩ := m
      simp only at hc0 hc1 hc2 hbad
      have hmeH := Lib.hid hme
      have hbadH := Lib.hid hbad
      have hB4 : Below w.heap.size w (wr.alloc (.cells #[.int .i64 iw, .int .i64 ih, .slice pa xs.length pc] 27)) := jb_al hBr _
      have hb4 : Below w3.heap.size w3 (wr.alloc (.cells #[.int .i64 iw, .int .i64 ih, .slice pa xs.length pc] 27)) := jb_al hb _
      have kr1 := kr.alloc (.cells #[.int .i64 iw, .int .i64 ih, .slice pa xs.length pc] 27)
      have f0 := kr1.cell (i := 0) rfl
      have f1 := kr1.cell (i := 1) rfl
      clear hme hbad hp kr kr1
      by_cases g1 : iw = N.w
      case neg =>
        have hvf := hbadH.out (fun h => g1 h.1)
        subst hvf
        have g1' : (iw != N.w) = true := by simpa using g1
        go_wp2_with fail
        go_ret
        exact ⟨rfl, hB4⟩
      have g1' : (iw != N.w) = false := by simpa using g1
      have g1H := Lib.hid g1
      clear g1
      by_cases g2 : ih = N.h
      case neg =>
        have hvf := hbadH.out (fun h => g2 h.2)
        subst hvf
        have g2' : (ih != N.h) = true := by simpa using g2
        go_wp2_with fail
        go_ret
        exact ⟨rfl, hB4⟩
      have hnx := Lib.hid (allTo_succ hall.out (show decide ((imAt ms k).w = N.w ∧ (imAt ms k).h = N.h) = true by rw [hmeH.out]; simp [g1H.out, g2]))
      have g2' : (ih != N.h) = false := by simpa using g2
      clear hall g2
      go_wp2_with fail
      go_roundw
      case rel => exact ⟨k + 1, by omega, by go_num, hnx.out, hb4⟩
      case measure => simp [intOf]; omega

end Go.Proofs.YtbfigbpjoaccdaaGreat

namespace Go.Proofs.YtbfigbpjoaccdaaGreat
set_option linter.unusedVariables false
set_option linter.unusedSimpArgs false

def sumTo (f : Nat → Int) : Nat → Int
  | 0 => 0
  | k + 1 => sumTo f k + f k

/-- The sum of a line's first x values; that of the values above and to the left; that of a rectangle. -/
def rowTo (g : Nat → Nat → Int) (x y : Nat) : Int := sumTo (fun u => g u y) x
def gridTo (g : Nat → Nat → Int) (x y : Nat) : Int := sumTo (fun v => rowTo g x v) y
def rect (g : Nat → Nat → Int) (x0 y0 x1 y1 : Nat) : Int := gridTo g x1 y1 - gridTo g x1 y0 - gridTo g x0 y1 + gridTo g x0 y0

theorem gridTo_succ (g : Nat → Nat → Int) (x y : Nat) : gridTo g x (y + 1) = gridTo g x y + rowTo g x y := rfl
theorem sumTo_zero {f : Nat → Int} (h : ∀ i, f i = 0) (k : Nat) : sumTo f k = 0 := by
  induction k with
  | zero => rfl
  | succ k ih => simp [sumTo, ih, h]
/-! ### The list of all sums -/

theorem idx_mod {w x : Nat} (y : Nat) (hx : x < w) : (y * w + x) % w = x := by rw [Nat.mul_comm, Nat.mul_add_mod, Nat.mod_eq_of_lt hx]
theorem idx_div {w x : Nat} (y : Nat) (hx : x < w) : (y * w + x) / w = y := by rw [Nat.mul_comm, Nat.mul_add_div (by omega), Nat.div_eq_of_lt hx]; omega
theorem idx_bound {w h x y : Nat} (hx : x < w) (hy : y < h) : y * w + x < w * h := by
  have := Nat.mul_le_mul_right w (show y + 1 ≤ h by omega)
  rw [Nat.add_mul, Nat.mul_comm h w] at this
  omega

/-- A list laid entry by entry, over zeros. -/
def layTo (f : Nat → Int) (n k : Nat) : List Int := (List.range n).map fun i => if i < k then f i else 0
theorem layTo_length (f : Nat → Int) (n k : Nat) : (layTo f n k).length = n := by simp [layTo]
theorem layTo_zero (f : Nat → Int) (n : Nat) : layTo f n 0 = List.replicate n 0 := by simp [layTo, List.map_const']
theorem layTo_all (f : Nat → Int) (n : Nat) : layTo f n n = (List.range n).map f := List.map_congr_left fun i hi => if_pos (List.mem_range.1 hi)
theorem layTo_set (f : Nat → Int) {n k : Nat} (hk : k < n) : (layTo f n k).set k (f k) = layTo f n (k + 1) := by
  refine List.ext_getElem? fun j => ?_
  rw [List.getElem?_set]
  by_cases hj : k = j
  · subst hj
    rw [if_pos rfl, layTo_length, if_pos hk]
    simp [layTo, hk]
  · rw [if_neg hj]
    by_cases hjn : j < n
    · simp only [layTo, List.getElem?_map, List.getElem?_range hjn, Option.map_some]
      congr 1
      by_cases h : j < k
      · rw [if_pos h, if_pos (by omega)]
      · rw [if_neg h, if_neg (by omega)]
    · rw [List.getElem?_eq_none (by rw [layTo_length]; omega), List.getElem?_eq_none (by rw [layTo_length]; omega)]

end Go.Proofs.YtbfigbpjoaccdaaGreat

namespace Go.Proofs.YtbfigbpjoaccdaaGreat
set_option linter.unusedVariables false
set_option linter.unusedSimpArgs false

theorem sumTo_congr' {f g : Nat → Int} {n : Nat} (h : ∀ i, i < n → f i = g i) : sumTo f n = sumTo g n := by
  induction n with
  | zero => rfl
  | succ n ih => simp only [sumTo]; rw [ih fun i hi => h i (by omega), h n (by omega)]
theorem sumTo_plus (f : Nat → Int) (m : Nat) : ∀ n, sumTo f (m + n) = sumTo f m + sumTo (fun i => f (m + i)) n
  | 0 => by simp [sumTo]
  | n + 1 => by
    rw [← Nat.add_assoc]
    simp only [sumTo]
    rw [sumTo_plus f m n]
    omega
/-- A sum over pixels, line by line. -/
theorem sum_lines (f : Nat → Int) (pw : Nat) : ∀ ph, sumTo f (ph * pw) = sumTo (fun y => sumTo (fun x => f (y * pw + x)) pw) ph
  | 0 => by simp [sumTo]
  | ph + 1 => by
    rw [Nat.add_mul, Nat.one_mul, sumTo_plus, sum_lines f pw ph]
    rfl
/-- A sum over the numbers of a segment. -/
theorem sum_seg (f : Nat → Int) {w : Nat} (hw : 0 < w) (c : Nat) : ∀ n, sumTo (fun x => if x / w = c then f x else 0) n = sumTo f (min n ((c + 1) * w)) - sumTo f (min n (c * w))
  | 0 => by simp [sumTo]
  | n + 1 => by
    have ih := sum_seg f hw c n
    simp only [sumTo]
    rw [ih]
    have hlo : n / w = c ↔ c * w ≤ n ∧ n < (c + 1) * w := by
      rw [Nat.div_eq_iff hw]
      constructor
      · intro h; exact ⟨h.1, by rw [Nat.add_mul, Nat.one_mul]; omega⟩
      · intro h; rw [Nat.add_mul, Nat.one_mul] at h; exact ⟨h.1, by omega⟩
    have hle : c * w ≤ (c + 1) * w := Nat.mul_le_mul_right w (by omega)
    obtain ⟨a, ha⟩ : ∃ a, c * w = a := ⟨_, rfl⟩
    obtain ⟨b, hb⟩ : ∃ b, (c + 1) * w = b := ⟨_, rfl⟩
    rw [ha, hb] at hlo hle
    rw [ha, hb]
    by_cases h : n / w = c
    · rw [if_pos h]
      obtain ⟨h1, h2⟩ := hlo.1 h
      rw [Nat.min_eq_left (show n ≤ b by omega), Nat.min_eq_right (show a ≤ n by omega), Nat.min_eq_left (show n + 1 ≤ b by omega), Nat.min_eq_right (show a ≤ n + 1 by omega)]
      simp only [sumTo]
      omega
    · rw [if_neg h]
      by_cases h1 : a ≤ n
      · have h2 : b ≤ n := Nat.le_of_not_lt fun hc => h (hlo.2 ⟨h1, hc⟩)
        rw [Nat.min_eq_right h2, Nat.min_eq_right h1, Nat.min_eq_right (show b ≤ n + 1 by omega), Nat.min_eq_right (show a ≤ n + 1 by omega)]
        omega
      · rw [Nat.min_eq_left (show n ≤ a by omega), Nat.min_eq_left (show n ≤ b by omega), Nat.min_eq_left (show n + 1 ≤ a by omega), Nat.min_eq_left (show n + 1 ≤ b by omega)]
        omega

/-- The cell of a pixel. -/
def cellF (pw cw ch gx i : Nat) : Nat := i / pw / ch * gx + i % pw / cw
/-- What the first k pixels add to a cell. -/
def featTo (pw cw ch gx : Nat) (v : Nat → Int) (c k : Nat) : Int := sumTo (fun i => if cellF pw cw ch gx i = c then v i else 0) k

theorem cell_iff {pw cw ch gx x y cx cy : Nat} (hx : x < pw) (hcw : 0 < cw) (hgx : gx * cw = pw) (hcx : cx < gx) : cellF pw cw ch gx (y * pw + x) = cy * gx + cx ↔ y / ch = cy ∧ x / cw = cx := by
  have e1 := idx_div (w := pw) y hx
  have e2 := idx_mod (w := pw) y hx
  have h1 : x / cw < gx := by
    rw [Nat.div_lt_iff_lt_mul hcw]
    omega
  unfold cellF
  rw [e1, e2]
  constructor
  · intro h
    have m1 := idx_mod (w := gx) (y / ch) h1
    have m2 := idx_mod (w := gx) cy hcx
    have d1 := idx_div (w := gx) (y / ch) h1
    have d2 := idx_div (w := gx) cy hcx
    rw [h] at m1 d1
    exact ⟨d1.symm.trans d2, m1.symm.trans m2⟩
  · rintro ⟨h1, h2⟩
    rw [h1, h2]

/-- The sum of a cell, by its pixels, is that of its rectangle. -/
theorem feat_rect {pw ph cw ch gx gy cx cy : Nat} (hcw : 0 < cw) (hch : 0 < ch) (hgx : gx * cw = pw) (hgy : gy * ch = ph) (hcx : cx < gx) (hcy : cy < gy) (g : Nat → Nat → Int) (v : Nat → Int) (hv : ∀ x y, x < pw → y < ph → v (y * pw + x) = g x y) :
    featTo pw cw ch gx v (cy * gx + cx) (ph * pw) = rect g (cx * cw) (cy * ch) ((cx + 1) * cw) ((cy + 1) * ch) := by
  have hpw : (cx + 1) * cw ≤ pw := by rw [← hgx]; exact Nat.mul_le_mul_right cw hcx
  have hph : (cy + 1) * ch ≤ ph := by rw [← hgy]; exact Nat.mul_le_mul_right ch hcy
  have hpw0 : cx * cw ≤ pw := Nat.le_trans (Nat.mul_le_mul_right cw (by omega)) hpw
  have hph0 : cy * ch ≤ ph := Nat.le_trans (Nat.mul_le_mul_right ch (by omega)) hph
  unfold featTo
  rw [sum_lines]
  have row : ∀ y, y < ph → sumTo (fun x => if cellF pw cw ch gx (y * pw + x) = cy * gx + cx then v (y * pw + x) else 0) pw = if y / ch = cy then rowTo g ((cx + 1) * cw) y - rowTo g (cx * cw) y else 0 := fun y hy => by
    by_cases h : y / ch = cy
    · rw [if_pos h]
      have e := sum_seg (fun x => g x y) hcw cx pw
      rw [Nat.min_eq_right hpw, Nat.min_eq_right hpw0] at e
      rw [← show sumTo (fun x => if x / cw = cx then g x y else 0) pw = rowTo g ((cx + 1) * cw) y - rowTo g (cx * cw) y from e]
      refine sumTo_congr' fun x hx => ?_
      have hc := cell_iff (ch := ch) (y := y) (cy := cy) hx hcw hgx hcx
      by_cases h2 : x / cw = cx
      · rw [if_pos (hc.2 ⟨h, h2⟩), if_pos h2, hv x y hx hy]
      · rw [if_neg (fun e => h2 (hc.1 e).2), if_neg h2]
    · rw [if_neg h, sumTo_congr' (g := fun _ => 0) fun x hx => ?_]
      · exact sumTo_zero (fun _ => rfl) _
      · exact if_neg fun e => h ((cell_iff hx hcw hgx hcx).1 e).1
  rw [sumTo_congr' row]
  have e := sum_seg (fun y => rowTo g ((cx + 1) * cw) y - rowTo g (cx * cw) y) hch cy ph
  rw [Nat.min_eq_right hph, Nat.min_eq_right hph0] at e
  rw [e]
  have sub : ∀ n, sumTo (fun y => rowTo g ((cx + 1) * cw) y - rowTo g (cx * cw) y) n = gridTo g ((cx + 1) * cw) n - gridTo g (cx * cw) n := fun n => by
    induction n with
    | zero => simp [sumTo, gridTo]
    | succ n ih => rw [sumTo, ih, gridTo_succ, gridTo_succ]; omega
  rw [sub, sub]
  unfold rect
  omega
theorem cell_lt {pw ph cw ch gx gy i : Nat} (hcw : 0 < cw) (hch : 0 < ch) (hgx : gx * cw = pw) (hgy : gy * ch = ph) (hi : i < ph * pw) : cellF pw cw ch gx i < gx * gy := by
  have hpw : 0 < pw := Nat.pos_of_ne_zero (by rintro rfl; simp at hi)
  have h1 : i % pw < pw := Nat.mod_lt _ hpw
  have h2 : i / pw < ph := Nat.div_lt_of_lt_mul (by rw [Nat.mul_comm]; exact hi)
  have h3 : i % pw / cw < gx := by rw [Nat.div_lt_iff_lt_mul hcw]; omega
  have h4 : i / pw / ch < gy := by rw [Nat.div_lt_iff_lt_mul hch]; omega
  exact idx_bound h3 h4
theorem feat_succ (pw cw ch gx : Nat) (v : Nat → Int) (c k : Nat) : featTo pw cw ch gx v c (k + 1) = featTo pw cw ch gx v c k + if cellF pw cw ch gx k = c then v k else 0 := rfl
end Go.Proofs.YtbfigbpjoaccdaaGreat

namespace Go.Proofs.YtbfigbpjoaccdaaGreat
set_option linter.unusedVariables false
set_option linter.unusedSimpArgs false

theorem getD_range_map (f : Nat → Int) {k n : Nat} (hk : k < n) : ((List.range n).map f)[k]?.getD 0 = f k := by
  rw [List.getElem?_map, List.getElem?_range hk]; rfl
/-- The features behind k pixels. -/
def featsTo (pw cw ch gx : Nat) (v : Nat → Int) (nf k : Nat) : List Int := (List.range nf).map fun c => featTo pw cw ch gx v c k
theorem featsTo_length (pw cw ch gx : Nat) (v : Nat → Int) (nf k : Nat) : (featsTo pw cw ch gx v nf k).length = nf := by simp [featsTo]
theorem featsTo_zero (pw cw ch gx : Nat) (v : Nat → Int) (nf : Nat) : featsTo pw cw ch gx v nf 0 = List.replicate nf 0 := by
  simp only [featsTo, featTo, sumTo]
  rw [List.map_const', List.length_range]
theorem featsTo_at (pw cw ch gx : Nat) (v : Nat → Int) {nf k c : Nat} (hc : c < nf) : (featsTo pw cw ch gx v nf k)[c]?.getD 0 = featTo pw cw ch gx v c k := getD_range_map _ hc
theorem featsTo_succ (pw cw ch gx : Nat) (v : Nat → Int) {nf k : Nat} (hc : cellF pw cw ch gx k < nf) :
    (featsTo pw cw ch gx v nf k).set (cellF pw cw ch gx k) (featTo pw cw ch gx v (cellF pw cw ch gx k) k + v k) = featsTo pw cw ch gx v nf (k + 1) := by
  refine List.ext_getElem (by simp [featsTo]) fun i h1 h2 => ?_
  simp only [List.length_set, featsTo_length] at h1
  rw [List.getElem_set]
  simp only [featsTo, List.getElem_map, List.getElem_range]
  rw [feat_succ]
  by_cases e : cellF pw cw ch gx k = i
  · rw [if_pos e, if_pos e, e]
  · rw [if_neg e, if_neg e, Int.add_zero]
theorem featTo_bd {pw cw ch gx : Nat} {v : Nat → Int} {c : Nat} : ∀ {k : Nat}, (∀ i, i < k → 0 ≤ v i ∧ v i ≤ 255) → 0 ≤ featTo pw cw ch gx v c k ∧ featTo pw cw ch gx v c k ≤ 255 * k
  | 0, _ => by simp [featTo, sumTo]
  | k + 1, h => by
    have ih := featTo_bd (pw := pw) (cw := cw) (ch := ch) (gx := gx) (c := c) (k := k) fun i hi => h i (by omega)
    have h1 := h k (by omega)
    rw [feat_succ]
    split <;> omega

/-- The features of an image for a network. -/
def featL (N : NetN) (xs : List Int) : List Int := featsTo N.w.toNat (N.w.toNat / N.gx.toNat) (N.h.toNat / N.gy.toNat) N.gx.toNat (fun i => xs[i]?.getD 0) N.nf xs.length
/-- The sum of a rectangle, by the cell's number. -/
def cellR (N : NetN) (g : Nat → Nat → Int) (c : Nat) : Int :=
  rect g (c % N.gx.toNat * (N.w.toNat / N.gx.toNat)) (c / N.gx.toNat * (N.h.toNat / N.gy.toNat)) ((c % N.gx.toNat + 1) * (N.w.toNat / N.gx.toNat)) ((c / N.gx.toNat + 1) * (N.h.toNat / N.gy.toNat))
theorem featL_length (N : NetN) (xs : List Int) : (featL N xs).length = N.nf := featsTo_length ..
structure Cells (pw ph cw ch gx gy : Nat) : Prop where
  w0 : 0 < cw
  h0 : 0 < ch
  ex : gx * cw = pw
  ey : gy * ch = ph
theorem NetOk.cells {N : NetN} (h : NetOk N) : Cells N.w.toNat N.h.toNat (N.w.toNat / N.gx.toNat) (N.h.toNat / N.gy.toNat) N.gx.toNat N.gy.toNat := by
  have h1 := h.gx
  have h2 := h.gy
  have h3 := h.w
  have h4 := h.h
  have mx : N.w.toNat % N.gx.toNat = 0 := by
    have := h.mx
    rw [show N.w = (N.w.toNat : Int) by omega, show N.gx = (N.gx.toNat : Int) by omega] at this
    omega
  have my : N.h.toNat % N.gy.toNat = 0 := by
    have := h.my
    rw [show N.h = (N.h.toNat : Int) by omega, show N.gy = (N.gy.toNat : Int) by omega] at this
    omega
  have e1 : N.gx.toNat * (N.w.toNat / N.gx.toNat) = N.w.toNat := Nat.mul_div_cancel' (Nat.dvd_of_mod_eq_zero mx)
  have e2 : N.gy.toNat * (N.h.toNat / N.gy.toNat) = N.h.toNat := Nat.mul_div_cancel' (Nat.dvd_of_mod_eq_zero my)
  refine ⟨?_, ?_, e1, e2⟩
  · refine Nat.pos_of_ne_zero fun e => ?_
    rw [e] at e1
    omega
  · refine Nat.pos_of_ne_zero fun e => ?_
    rw [e] at e2
    omega
theorem NetOk.nfN {N : NetN} (h : NetOk N) : N.nf = N.gx.toNat * N.gy.toNat := by
  have h1 := h.gx
  have h2 := h.gy
  have e : (N.nf : Int) = N.gx * N.gy := h.nf.2.2
  rw [show N.gx = (N.gx.toNat : Int) by omega, show N.gy = (N.gy.toNat : Int) by omega] at e
  exact_mod_cast e
/-- Pixel by pixel, and by rectangles: the same. -/
theorem featL_rect {N : NetN} (h : NetOk N) {xs : List Int} (hx : xs.length = N.h.toNat * N.w.toNat) (g : Nat → Nat → Int) (hg : ∀ x y, x < N.w.toNat → y < N.h.toNat → xs[y * N.w.toNat + x]?.getD 0 = g x y) :
    featL N xs = (List.range N.nf).map (cellR N g) := by
  unfold featL featsTo
  refine List.map_congr_left fun c hc => ?_
  have hc := List.mem_range.1 hc
  have hn := h.nfN
  have hC := h.cells
  have hgx : 0 < N.gx.toNat := by have := h.gx; omega
  have h1 : c % N.gx.toNat < N.gx.toNat := Nat.mod_lt _ hgx
  have h2 : c / N.gx.toNat < N.gy.toNat := Nat.div_lt_of_lt_mul (by omega)
  have e := feat_rect hC.w0 hC.h0 hC.ex hC.ey h1 h2 g (fun i => xs[i]?.getD 0) hg
  rw [show c / N.gx.toNat * N.gx.toNat + c % N.gx.toNat = c by rw [Nat.mul_comm]; exact Nat.div_add_mod c N.gx.toNat] at e
  rw [hx]
  exact e
theorem featL_bd {N : NetN} (h : NetOk N) {xs : List Int} (hx : xs.length ≤ 256) (hv : allIn 0 255 xs = true) (c : Nat) : 0 ≤ (featL N xs)[c]?.getD 0 ∧ (featL N xs)[c]?.getD 0 ≤ 65280 := by
  by_cases hc : c < N.nf
  · unfold featL
    rw [featsTo_at _ _ _ _ _ hc]
    have := featTo_bd (pw := N.w.toNat) (cw := N.w.toNat / N.gx.toNat) (ch := N.h.toNat / N.gy.toNat) (gx := N.gx.toNat) (c := c) (v := fun i => xs[i]?.getD 0) (k := xs.length) fun i hi => allIn_getD hv hi
    omega
  · rw [List.getElem?_eq_none (by rw [featL_length]; omega)]
    show (0 : Int) ≤ 0 ∧ (0 : Int) ≤ 65280
    omega
theorem featL_le {N : NetN} (h : NetOk N) {xs : List Int} (hx : xs.length ≤ 256) (hv : allIn 0 255 xs = true) : LeB 65280 (featL N xs) := fun c => by
  have := featL_bd h hx hv c
  omega

end Go.Proofs.YtbfigbpjoaccdaaGreat

namespace Go.Proofs.YtbfigbpjoaccdaaGreat
open Go Go.RowKit Go.Shelf
set_option linter.unusedVariables false
set_option linter.unusedSimpArgs false

theorem own_mono_j {W : World} {base base' : Nat} {e : TypeId} {size : Nat} {v : Value} {n : Nat} {xs : List Value} (h : W.ownsRow base e size v n xs) (hb : base' ≤ base) : W.ownsRow base' e size v n xs := by
  refine ⟨h.1, ?_⟩
  rcases h.2 with h2 | ⟨g, cap, cur, h1, h2, h3⟩
  · exact .inl h2
  · exact .inr ⟨g, cap, cur, h1, Nat.le_trans hb h2, h3⟩
set_option maxRecDepth 100000 in
set_option maxHeartbeats 8000000 in
theorem features_walk (pw ph gx gy cw ch nf l : Nat) (hC : Cells pw ph cw ch gx gy) (hnf : nf = gx * gy) (h1 : 1 ≤ gx) (h2 : gx ≤ 4) (h3 : 1 ≤ gy) (h4 : gy ≤ 4) (p1 : 1 ≤ pw) (p2 : pw ≤ 16) (q1 : 1 ≤ ph) (q2 : ph ≤ 16) (xs : List Int) (hl : xs.length = l) (hlen : l = ph * pw) (hv : allIn 0 255 xs = true)
    (low high : Int) (na pa : Option Addr) (nn nc pc : Nat) (w : World) (hp : Rd w.heap.size w pa xs) :
    Calls Tryz.prog 49 #[.agg #[.int .i64 (pw : Int), .int .i64 (ph : Int), .int .i64 (gx : Int), .int .i64 (gy : Int), .slice na nn nc, .int .i64 low, .int .i64 high], .agg #[.int .i64 (pw : Int), .int .i64 (ph : Int), .slice pa l pc]] w fun e w' => ∃ g, e = .returned (.slice (some ⟨g, 0, none⟩) nf nf) ∧
      w'.ownsRow w.heap.size 3 1 (.slice (some ⟨g, 0, none⟩) nf nf) nf ((featsTo pw cw ch gx (fun i => xs[i]?.getD 0) nf l).map (Value.int .i64)) ∧ Below w.heap.size w w' := by
  obtain ⟨i0, hi, hz0, hz1, hz2⟩ := info_parts jinfo_int
  have hlH := Lib.hid hl
  have hvH := Lib.hid hv
  have hCH := Lib.hid hC
  have hnfH := Lib.hid hnf
  have hl256 : l ≤ 256 := by
    have : ph * pw ≤ 16 * 16 := Nat.mul_le_mul q2 p2
    omega
  have hnf16 : nf ≤ 16 := by
    have : gx * gy ≤ 4 * 4 := Nat.mul_le_mul h2 h4
    omega
  have hlenH := Lib.hid hlen
  have hzH := Lib.hid (jmade_int nf)
  have hgg : (gx : Int) * (gy : Int) = (nf : Int) := by rw [hnf]; simp
  have hcw : (pw : Int).tdiv (gx : Int) = (cw : Int) := by
    rw [← hC.ex, ← Int.ofNat_tdiv, Nat.mul_div_cancel_left _ (by omega)]
  have hch : (ph : Int).tdiv (gy : Int) = (ch : Int) := by
    rw [← hC.ey, ← Int.ofNat_tdiv, Nat.mul_div_cancel_left _ (by omega)]
  have hw0 := hC.w0
  have hh0 := hC.h0
  have hgx0 : ¬ gx = 0 := by omega
  have hgy0 : ¬ gy = 0 := by omega
  have hpw0 : ¬ pw = 0 := by omega
  have hcw0 : ¬ cw = 0 := by omega
  have hch0 : ¬ ch = 0 := by omega
  have hcw16 : cw ≤ 16 := by have := Nat.le_mul_of_pos_left cw (show 0 < gx by omega); have := hC.ex; omega
  have hch16 : ch ≤ 16 := by have := Nat.le_mul_of_pos_left ch (show 0 < gy by omega); have := hC.ey; omega
  clear hl hv hC hnf hlen
  have hbW1 : Below w.heap.size w (w.alloc (.cells #[.int .i64 (pw : Int), .int .i64 (ph : Int), .int .i64 (gx : Int), .int .i64 (gy : Int), .slice na nn nc, .int .i64 low, .int .i64 high] 24)) := jb_al (Below.refl _ w) _
  have kn := Blk.new w 24 #[.int .i64 (pw : Int), .int .i64 (ph : Int), .int .i64 (gx : Int), .int .i64 (gy : Int), .slice na nn nc, .int .i64 low, .int .i64 high]
  obtain ⟨W1, hEW1⟩ : ∃ X, w.alloc (.cells #[.int .i64 (pw : Int), .int .i64 (ph : Int), .int .i64 (gx : Int), .int .i64 (gy : Int), .slice na nn nc, .int .i64 low, .int .i64 high] 24) = X := ⟨_, rfl⟩
  rw [hEW1] at hbW1 kn
  have hbW2 : Below W1.heap.size W1 (W1.alloc (.cells #[.int .i64 (pw : Int), .int .i64 (ph : Int), .slice pa l pc] 27)) := jb_al (Below.refl _ W1) _
  have ki := Blk.new W1 27 #[.int .i64 (pw : Int), .int .i64 (ph : Int), .slice pa l pc]
  obtain ⟨W2, hEW2⟩ : ∃ X, W1.alloc (.cells #[.int .i64 (pw : Int), .int .i64 (ph : Int), .slice pa l pc] 27) = X := ⟨_, rfl⟩
  rw [hEW2] at hbW2 ki
  have kn2 := kn.below hbW2 kn.lt
  have c0 : W2.cell? ⟨w.heap.size, 0, none⟩ = some (.int .i64 (pw : Int)) := kn2.cell (i := 0) rfl
  have c1 : W2.cell? ⟨w.heap.size, 1, none⟩ = some (.int .i64 (ph : Int)) := kn2.cell (i := 1) rfl
  have c2 : W2.cell? ⟨w.heap.size, 2, none⟩ = some (.int .i64 (gx : Int)) := kn2.cell (i := 2) rfl
  have c3 : W2.cell? ⟨w.heap.size, 3, none⟩ = some (.int .i64 (gy : Int)) := kn2.cell (i := 3) rfl
  have d0 : W2.cell? ⟨W1.heap.size, 0, none⟩ = some (.int .i64 (pw : Int)) := ki.cell (i := 0) rfl
  have d1 : W2.cell? ⟨W1.heap.size, 1, none⟩ = some (.int .i64 (ph : Int)) := ki.cell (i := 1) rfl
  have d2 : W2.cell? ⟨W1.heap.size, 2, none⟩ = some (.slice pa l pc) := ki.cell (i := 2) rfl
  have hB2 : Below w.heap.size w W2 := hbW1.trans (hbW2.mono hbW1.size)
  have hs12 : W1.heap.size < W2.heap.size := ki.lt
  have hs01 : w.heap.size < W1.heap.size := kn.lt
  have hpH := Lib.hid ((later_i hp hB2))
  have kn2H := Lib.hid kn2
  have kiH := Lib.hid ki
  clear kn kn2 ki hp hbW1 hbW2
  go_enter Tryz.func49, Tryz.ntmps49
  go_wp2_with (at_make; refine wpList_make_full _ rfl _ _ 25 rfl W2.heap.size 3 i0 (.int .i64 0) 1 Tryz.underlying25 hi hz0 hz1 .i64 .i64 (nf : Int) (nf : Int) nf rfl rfl (by simp) (by simp) (by rw [hz2]; omega) (by unfold maxLen; omega) (by simp) ?_; intro W3 hown hg; have kn3 := kn2H.out.kept hg (by simp); have ki3 := kiH.out.kept hg (by simp); clear c0 c1 c2 c3 d0 d1 d2)
  have c0 : W3.cell? ⟨w.heap.size, 0, none⟩ = some (.int .i64 (pw : Int)) := kn3.cell (i := 0) rfl
  have c1 : W3.cell? ⟨w.heap.size, 1, none⟩ = some (.int .i64 (ph : Int)) := kn3.cell (i := 1) rfl
  have c2 : W3.cell? ⟨w.heap.size, 2, none⟩ = some (.int .i64 (gx : Int)) := kn3.cell (i := 2) rfl
  have c3 : W3.cell? ⟨w.heap.size, 3, none⟩ = some (.int .i64 (gy : Int)) := kn3.cell (i := 3) rfl
  have d0 : W3.cell? ⟨W1.heap.size, 0, none⟩ = some (.int .i64 (pw : Int)) := ki3.cell (i := 0) rfl
  have d1 : W3.cell? ⟨W1.heap.size, 1, none⟩ = some (.int .i64 (ph : Int)) := ki3.cell (i := 1) rfl
  have d2 : W3.cell? ⟨W1.heap.size, 2, none⟩ = some (.slice pa l pc) := ki3.cell (i := 2) rfl
  go_wp2_with fail
  have hS0 : W3.drew.heap = W3.heap := rfl
  refine plain_region (fun W' => W'.heap = W3.heap) 12 12 (by kernel_rfl) rfl ?_
  simp only [Array.replicate_succ, Array.replicate_zero, List.push_toArray, List.nil_append, List.cons_append]
  refine take_op 0 (v := ?fv0) rfl (by kernel_rfl) (fun _ _ _ h => h) (by rfl) hS0 (fun w' hS' => ?fy0) ?fz0
  case fy0 =>
    go_simp
    rfl
  simp only [List.setIfInBounds_toArray, List.set_cons_zero, List.set_cons_succ]
  refine take_op 1 (v := ?fv1) rfl (by kernel_rfl) (fun _ _ _ h => h) (by rfl) hS0 (fun w' hS' => ?fy1) ?fz1
  case fy1 =>
    have e0 := (World.cell?_of_block (w := W3) (w' := w') (a := ⟨w.heap.size, 0, none⟩) (by rw [hS'])).trans c0
    have e1 := (World.cell?_of_block (w := W3) (w' := w') (a := ⟨w.heap.size, 1, none⟩) (by rw [hS'])).trans c1
    have e2 := (World.cell?_of_block (w := W3) (w' := w') (a := ⟨w.heap.size, 2, none⟩) (by rw [hS'])).trans c2
    have e3 := (World.cell?_of_block (w := W3) (w' := w') (a := ⟨w.heap.size, 3, none⟩) (by rw [hS'])).trans c3
    clear hS'
    go_simp
    rfl
  simp only [List.setIfInBounds_toArray, List.set_cons_zero, List.set_cons_succ]
  refine take_op 2 (v := ?fv2) rfl (by kernel_rfl) (fun _ _ _ h => h) (by rfl) hS0 (fun w' hS' => ?fy2) ?fz2
  case fy2 =>
    go_simp
    rfl
  simp only [List.setIfInBounds_toArray, List.set_cons_zero, List.set_cons_succ]
  refine take_op 3 (v := ?fv3) rfl (by kernel_rfl) (fun _ _ _ h => h) (by rfl) hS0 (fun w' hS' => ?fy3) ?fz3
  case fy3 =>
    have e0 := (World.cell?_of_block (w := W3) (w' := w') (a := ⟨w.heap.size, 0, none⟩) (by rw [hS'])).trans c0
    have e1 := (World.cell?_of_block (w := W3) (w' := w') (a := ⟨w.heap.size, 1, none⟩) (by rw [hS'])).trans c1
    have e2 := (World.cell?_of_block (w := W3) (w' := w') (a := ⟨w.heap.size, 2, none⟩) (by rw [hS'])).trans c2
    have e3 := (World.cell?_of_block (w := W3) (w' := w') (a := ⟨w.heap.size, 3, none⟩) (by rw [hS'])).trans c3
    clear hS'
    go_simp
    rfl
  simp only [List.setIfInBounds_toArray, List.set_cons_zero, List.set_cons_succ]
  refine take_op 4 (v := ?fv4) rfl (by kernel_rfl) (fun _ _ _ h => h) (by rfl) hS0 (fun w' hS' => ?fy4) ?fz4
  case fy4 =>
    go_simp
    try go_ints
    rfl
  simp only [List.setIfInBounds_toArray, List.set_cons_zero, List.set_cons_succ]
  refine take_op 5 (v := ?fv5) rfl (by kernel_rfl) (fun _ _ _ h => h) (by rfl) hS0 (fun w' hS' => ?fy5) ?fz5
  case fy5 =>
    go_simp
    rfl
  simp only [List.setIfInBounds_toArray, List.set_cons_zero, List.set_cons_succ]
  refine take_op 6 (v := ?fv6) rfl (by kernel_rfl) (fun _ _ _ h => h) (by rfl) hS0 (fun w' hS' => ?fy6) ?fz6
  case fy6 =>
    have e0 := (World.cell?_of_block (w := W3) (w' := w') (a := ⟨w.heap.size, 0, none⟩) (by rw [hS'])).trans c0
    have e1 := (World.cell?_of_block (w := W3) (w' := w') (a := ⟨w.heap.size, 1, none⟩) (by rw [hS'])).trans c1
    have e2 := (World.cell?_of_block (w := W3) (w' := w') (a := ⟨w.heap.size, 2, none⟩) (by rw [hS'])).trans c2
    have e3 := (World.cell?_of_block (w := W3) (w' := w') (a := ⟨w.heap.size, 3, none⟩) (by rw [hS'])).trans c3
    clear hS'
    go_simp
    rfl
  simp only [List.setIfInBounds_toArray, List.set_cons_zero, List.set_cons_succ]
  refine take_op 7 (v := ?fv7) rfl (by kernel_rfl) (fun _ _ _ h => h) (by rfl) hS0 (fun w' hS' => ?fy7) ?fz7
  case fy7 =>
    go_simp
    rfl
  simp only [List.setIfInBounds_toArray, List.set_cons_zero, List.set_cons_succ]
  refine take_op 8 (v := ?fv8) rfl (by kernel_rfl) (fun _ _ _ h => h) (by rfl) hS0 (fun w' hS' => ?fy8) ?fz8
  case fy8 =>
    have e0 := (World.cell?_of_block (w := W3) (w' := w') (a := ⟨w.heap.size, 0, none⟩) (by rw [hS'])).trans c0
    have e1 := (World.cell?_of_block (w := W3) (w' := w') (a := ⟨w.heap.size, 1, none⟩) (by rw [hS'])).trans c1
    have e2 := (World.cell?_of_block (w := W3) (w' := w') (a := ⟨w.heap.size, 2, none⟩) (by rw [hS'])).trans c2
    have e3 := (World.cell?_of_block (w := W3) (w' := w') (a := ⟨w.heap.size, 3, none⟩) (by rw [hS'])).trans c3
    clear hS'
    go_simp
    rfl
  simp only [List.setIfInBounds_toArray, List.set_cons_zero, List.set_cons_succ]
  refine take_op 9 (v := ?fv9) rfl (by kernel_rfl) (fun _ _ _ h => h) (by rfl) hS0 (fun w' hS' => ?fy9) ?fz9
  case fy9 =>
    go_simp
    try go_ints
    rfl
  simp only [List.setIfInBounds_toArray, List.set_cons_zero, List.set_cons_succ]
  refine take_op 10 (v := ?fv10) rfl (by kernel_rfl) (fun _ _ _ h => h) (by rfl) hS0 (fun w' hS' => ?fy10) ?fz10
  case fy10 =>
    go_simp
    rfl
  simp only [List.setIfInBounds_toArray, List.set_cons_zero, List.set_cons_succ]
  refine take_op 11 (v := ?fv11) rfl (by kernel_rfl) (fun _ _ _ h => h) (by rfl) hS0 (fun w' hS' => ?fy11) ?fz11
  case fy11 =>
    go_simp
    rfl
  simp only [List.setIfInBounds_toArray, List.set_cons_zero, List.set_cons_succ]
  refine done_ops (by kernel_rfl) ?_
  go_wp2_with fail
  have kn4 : Blk W3.drew w.heap.size 24 #[.int .i64 (pw : Int), .int .i64 (ph : Int), .int .i64 (gx : Int), .int .i64 (gy : Int), .slice na nn nc, .int .i64 low, .int .i64 high] := kn3
  have ki4 : Blk W3.drew W1.heap.size 27 #[.int .i64 (pw : Int), .int .i64 (ph : Int), .slice pa l pc] := ki3
  have row4 : W3.drew.ownsRow W2.heap.size 3 1 (.slice (some ⟨W2.heap.size, 0, none⟩) nf nf) nf (madeCells (Value.cells (.int .i64 0)) (nf * 1)).toList := hown
  rw [hzH.out, ← featsTo_zero pw cw ch gx (fun i => xs[i]?.getD 0) nf] at row4
  have hB4 : Below W2.heap.size W2 W3.drew := ((Below.refl _ _).grown hg (Nat.le_refl _) (fun k e => by cases e)).drew
  clear hS0 kn3 ki3 hown hg hzH hEW1 hEW2 c0 c1 c2 c3 d0 d1 d2
  go_loopw [29] (fun i wr => ∃ k : Nat, k ≤ l ∧ i = .int .i64 (k : Int) ∧ wr.ownsRow W2.heap.size 3 1 (.slice (some ⟨W2.heap.size, 0, none⟩) nf nf) nf ((featsTo pw cw ch gx (fun i => xs[i]?.getD 0) nf k).map (Value.int .i64)) ∧ Below W2.heap.size W2 wr) (fun i _ => l - (intOf i).toNat)
  case atStart => exact ⟨0, Nat.zero_le _, rfl, row4, hB4⟩
  case round =>
    clear kn4 ki4 row4 hB4
    obtain ⟨k, hk, rfl, rowk, hb⟩ := hrel
    by_cases hlt : k < l
    case neg =>
      have hkl : k = l := by omega
      subst hkl
      go_wp2_with fail
      go_ret
      exact ⟨_, rfl, own_mono_j rowk hB2.size, hB2.trans (hb.mono hB2.size)⟩
    case pos =>
      have hkl : k < xs.length := by have := hlH.out; omega
      rcases hpH.out with h0 | ⟨b, o, rfl, hb', hc⟩
      · rw [h0] at hkl; simp at hkl
      have hcell := (hb.cell (p := ⟨b, o + k, none⟩) hb').trans (hc k hkl)
      have hvb := allIn_getD hvH.out hkl
      have hcl := cell_lt hCH.out.w0 hCH.out.h0 hCH.out.ex hCH.out.ey (i := k) (by rw [← hlenH.out]; exact hlt)
      rw [← hnfH.out] at hcl
      have hfb := featTo_bd (pw := pw) (cw := cw) (ch := ch) (gx := gx) (c := cellF pw cw ch gx k) (v := fun i => xs[i]?.getD 0) (k := k) (fun i hi => allIn_getD hvH.out (by omega))
      have hnext := featsTo_succ pw cw ch gx (fun i => xs[i]?.getD 0) hcl
      have hat := featsTo_at pw cw ch gx (fun i => xs[i]?.getD 0) (k := k) hcl
      obtain ⟨v, hv⟩ : ∃ v, xs[k]?.getD 0 = v := ⟨_, rfl⟩
      obtain ⟨z, hz⟩ : ∃ z, featTo pw cw ch gx (fun i => xs[i]?.getD 0) (cellF pw cw ch gx k) k = z := ⟨_, rfl⟩
      simp only [hv] at hnext hvb hcell
      rw [hz] at hnext hat hfb
      have hyq : (k : Int).tdiv (pw : Int) = ((k / pw : Nat) : Int) := by rw [← Int.ofNat_tdiv]
      have hxq : (k : Int).tmod (pw : Int) = ((k % pw : Nat) : Int) := by rw [← Int.ofNat_tmod]
      have hYq : ((k / pw : Nat) : Int).tdiv (ch : Int) = ((k / pw / ch : Nat) : Int) := by rw [← Int.ofNat_tdiv]
      have hXq : ((k % pw : Nat) : Int).tdiv (cw : Int) = ((k % pw / cw : Nat) : Int) := by rw [← Int.ofNat_tdiv]
      have hPq : ((k / pw / ch : Nat) : Int) * (gx : Int) = ((k / pw / ch * gx : Nat) : Int) := by simp
      have hce : cellF pw cw ch gx k = k / pw / ch * gx + k % pw / cw := rfl
      rw [hce] at hcl hnext hat
      have hy256 : k / pw ≤ 256 := Nat.le_trans (Nat.div_le_self _ _) (by omega)
      have hY256 : k / pw / ch ≤ 256 := Nat.le_trans (Nat.div_le_self _ _) hy256
      have hx16 : k % pw ≤ 16 := Nat.le_trans (Nat.le_of_lt (Nat.mod_lt _ (by omega))) p2
      obtain ⟨y, hye⟩ : ∃ y, k / pw = y := ⟨_, rfl⟩
      obtain ⟨x, hxe⟩ : ∃ x, k % pw = x := ⟨_, rfl⟩
      rw [hye] at hyq hYq hPq hcl hnext hat hy256 hY256
      rw [hxe] at hxq hXq hcl hnext hat hx16
      obtain ⟨Y, hYe⟩ : ∃ Y, y / ch = Y := ⟨_, rfl⟩
      obtain ⟨X, hXe⟩ : ∃ X, x / cw = X := ⟨_, rfl⟩
      rw [hYe] at hYq hPq hcl hnext hat hY256
      rw [hXe] at hXq hcl hnext hat
      obtain ⟨p, hpe⟩ : ∃ p, Y * gx = p := ⟨_, rfl⟩
      rw [hpe] at hPq hcl hnext hat
      have hcz := rowk.cellAt (p + X) (by rw [Nat.mul_one]; exact hcl)
      rw [List.getElem?_map, List.getElem?_eq_getElem (by rw [featsTo_length]; exact hcl)] at hcz
      rw [List.getElem?_eq_getElem (by rw [featsTo_length]; exact hcl)] at hat
      simp only [Option.getD_some] at hat
      simp only [Option.map_some, hat] at hcz
      change wr.cell? ⟨W2.heap.size, p + X, none⟩ = some (.int .i64 z) at hcz
      have hst := (rowk.stored (p + X) (.int .i64 (z + v))).1
      simp only [map_set_i] at hst
      rw [hnext] at hst
      have hfr := rowk.frozenAt (p + X)
      have knr := kn2H.out.below hb (by omega)
      have kir := kiH.out.below hb hs12
      have d0 : wr.cell? ⟨W1.heap.size, 0, none⟩ = some (.int .i64 (pw : Int)) := kir.cell (i := 0) rfl
      have c2 : wr.cell? ⟨w.heap.size, 2, none⟩ = some (.int .i64 (gx : Int)) := knr.cell (i := 2) rfl
      have hS0 : wr.drew.heap = wr.heap := rfl
      have hstH := Lib.hid hst
      clear hst hnext hat hv hz hye hxe hYe hXe hpe hc knr kir hce hkl rowk
      obtain ⟨v1, v2⟩ := hvb
      obtain ⟨z1, z2⟩ := hfb
      have z3 : z ≤ 65280 := by omega
      clear z2
      go_wp2_with fail
      refine plain_region (fun W' => W'.heap = wr.heap) 22 23 (by kernel_rfl) rfl ?_
      simp only [Array.replicate_succ, Array.replicate_zero, List.push_toArray, List.nil_append, List.cons_append]
      refine take_op 0 (v := ?gv0) rfl (by kernel_rfl) (fun _ _ _ h => h) (by rfl) hS0 (fun w' hS' => ?gy0) ?gz0
      case gy0 =>
        go_simp
        rfl
      simp only [List.setIfInBounds_toArray, List.set_cons_zero, List.set_cons_succ]
      refine take_op 1 (v := ?gv1) rfl (by kernel_rfl) (fun _ _ _ h => h) (by rfl) hS0 (fun w' hS' => ?gy1) ?gz1
      case gy1 =>
        go_simp
        rfl
      simp only [List.setIfInBounds_toArray, List.set_cons_zero, List.set_cons_succ]
      refine take_op 2 (v := ?gv2) rfl (by kernel_rfl) (fun _ _ _ h => h) (by rfl) hS0 (fun w' hS' => ?gy2) ?gz2
      case gy2 =>
        go_simp
        rfl
      simp only [List.setIfInBounds_toArray, List.set_cons_zero, List.set_cons_succ]
      refine take_op 3 (v := ?gv3) rfl (by kernel_rfl) (fun _ _ _ h => h) (by rfl) hS0 (fun w' hS' => ?gy3) ?gz3
      case gy3 =>
        have e0 := (World.cell?_of_block (w := wr) (w' := w') (a := ⟨W1.heap.size, 0, none⟩) (by rw [hS'])).trans d0
        have e1 := (World.cell?_of_block (w := wr) (w' := w') (a := ⟨w.heap.size, 2, none⟩) (by rw [hS'])).trans c2
        have e2 := (World.cell?_of_block (w := wr) (w' := w') (a := ⟨W2.heap.size, p + X, none⟩) (by rw [hS'])).trans hcz
        clear hS'
        go_simp
        rfl
      simp only [List.setIfInBounds_toArray, List.set_cons_zero, List.set_cons_succ]
      refine take_op 4 (v := ?gv4) rfl (by kernel_rfl) (fun _ _ _ h => h) (by rfl) hS0 (fun w' hS' => ?gy4) ?gz4
      case gy4 =>
        go_simp
        try go_ints
        rfl
      simp only [List.setIfInBounds_toArray, List.set_cons_zero, List.set_cons_succ]
      refine take_op 5 (v := ?gv5) rfl (by kernel_rfl) (fun _ _ _ h => h) (by rfl) hS0 (fun w' hS' => ?gy5) ?gz5
      case gy5 =>
        go_simp
        rfl
      simp only [List.setIfInBounds_toArray, List.set_cons_zero, List.set_cons_succ]
      refine take_op 6 (v := ?gv6) rfl (by kernel_rfl) (fun _ _ _ h => h) (by rfl) hS0 (fun w' hS' => ?gy6) ?gz6
      case gy6 =>
        go_simp
        try go_ints
        rfl
      simp only [List.setIfInBounds_toArray, List.set_cons_zero, List.set_cons_succ]
      refine take_op 7 (v := ?gv7) rfl (by kernel_rfl) (fun _ _ _ h => h) (by rfl) hS0 (fun w' hS' => ?gy7) ?gz7
      case gy7 =>
        go_simp
        rfl
      simp only [List.setIfInBounds_toArray, List.set_cons_zero, List.set_cons_succ]
      refine take_op 8 (v := ?gv8) rfl (by kernel_rfl) (fun _ _ _ h => h) (by rfl) hS0 (fun w' hS' => ?gy8) ?gz8
      case gy8 =>
        have e0 := (World.cell?_of_block (w := wr) (w' := w') (a := ⟨W1.heap.size, 0, none⟩) (by rw [hS'])).trans d0
        have e1 := (World.cell?_of_block (w := wr) (w' := w') (a := ⟨w.heap.size, 2, none⟩) (by rw [hS'])).trans c2
        have e2 := (World.cell?_of_block (w := wr) (w' := w') (a := ⟨W2.heap.size, p + X, none⟩) (by rw [hS'])).trans hcz
        clear hS'
        go_simp
        rfl
      simp only [List.setIfInBounds_toArray, List.set_cons_zero, List.set_cons_succ]
      refine take_op 9 (v := ?gv9) rfl (by kernel_rfl) (fun _ _ _ h => h) (by rfl) hS0 (fun w' hS' => ?gy9) ?gz9
      case gy9 =>
        go_simp
        try go_ints
        rfl
      simp only [List.setIfInBounds_toArray, List.set_cons_zero, List.set_cons_succ]
      refine take_op 10 (v := ?gv10) rfl (by kernel_rfl) (fun _ _ _ h => h) (by rfl) hS0 (fun w' hS' => ?gy10) ?gz10
      case gy10 =>
        go_simp
        rfl
      simp only [List.setIfInBounds_toArray, List.set_cons_zero, List.set_cons_succ]
      refine take_op 11 (v := ?gv11) rfl (by kernel_rfl) (fun _ _ _ h => h) (by rfl) hS0 (fun w' hS' => ?gy11) ?gz11
      case gy11 =>
        go_simp
        rfl
      simp only [List.setIfInBounds_toArray, List.set_cons_zero, List.set_cons_succ]
      refine take_op 12 (v := ?gv12) rfl (by kernel_rfl) (fun _ _ _ h => h) (by rfl) hS0 (fun w' hS' => ?gy12) ?gz12
      case gy12 =>
        have e0 := (World.cell?_of_block (w := wr) (w' := w') (a := ⟨W1.heap.size, 0, none⟩) (by rw [hS'])).trans d0
        have e1 := (World.cell?_of_block (w := wr) (w' := w') (a := ⟨w.heap.size, 2, none⟩) (by rw [hS'])).trans c2
        have e2 := (World.cell?_of_block (w := wr) (w' := w') (a := ⟨W2.heap.size, p + X, none⟩) (by rw [hS'])).trans hcz
        clear hS'
        go_simp
        rfl
      simp only [List.setIfInBounds_toArray, List.set_cons_zero, List.set_cons_succ]
      refine take_op 13 (v := ?gv13) rfl (by kernel_rfl) (fun _ _ _ h => h) (by rfl) hS0 (fun w' hS' => ?gy13) ?gz13
      case gy13 =>
        go_simp
        try go_ints
        rfl
      simp only [List.setIfInBounds_toArray, List.set_cons_zero, List.set_cons_succ]
      refine take_op 14 (v := ?gv14) rfl (by kernel_rfl) (fun _ _ _ h => h) (by rfl) hS0 (fun w' hS' => ?gy14) ?gz14
      case gy14 =>
        go_simp
        rfl
      simp only [List.setIfInBounds_toArray, List.set_cons_zero, List.set_cons_succ]
      refine take_op 15 (v := ?gv15) rfl (by kernel_rfl) (fun _ _ _ h => h) (by rfl) hS0 (fun w' hS' => ?gy15) ?gz15
      case gy15 =>
        go_simp
        try go_ints
        rfl
      simp only [List.setIfInBounds_toArray, List.set_cons_zero, List.set_cons_succ]
      refine take_op 16 (v := ?gv16) rfl (by kernel_rfl) (fun _ _ _ h => h) (by rfl) hS0 (fun w' hS' => ?gy16) ?gz16
      case gy16 =>
        go_simp
        try go_ints
        rfl
      simp only [List.setIfInBounds_toArray, List.set_cons_zero, List.set_cons_succ]
      refine take_op 17 (v := ?gv17) rfl (by kernel_rfl) (fun _ _ _ h => h) (by rfl) hS0 (fun w' hS' => ?gy17) ?gz17
      case gy17 =>
        go_simp
        try go_ints
        first
        | rfl
        | (rw [if_pos (by omega)]; done)
        | rw [if_pos ⟨by omega, by omega⟩]
      simp only [List.setIfInBounds_toArray, List.set_cons_zero, List.set_cons_succ]
      refine take_op 18 (v := ?gv18) rfl (by kernel_rfl) (fun _ _ _ h => h) (by rfl) hS0 (fun w' hS' => ?gy18) ?gz18
      case gy18 =>
        have e0 := (World.cell?_of_block (w := wr) (w' := w') (a := ⟨W1.heap.size, 0, none⟩) (by rw [hS'])).trans d0
        have e1 := (World.cell?_of_block (w := wr) (w' := w') (a := ⟨w.heap.size, 2, none⟩) (by rw [hS'])).trans c2
        have e2 := (World.cell?_of_block (w := wr) (w' := w') (a := ⟨W2.heap.size, p + X, none⟩) (by rw [hS'])).trans hcz
        clear hS'
        go_simp
        rfl
      simp only [List.setIfInBounds_toArray, List.set_cons_zero, List.set_cons_succ]
      refine take_op 19 (v := ?gv19) rfl (by kernel_rfl) (fun _ _ _ h => h) (by rfl) hS0 (fun w' hS' => ?gy19) ?gz19
      case gy19 =>
        go_simp
        rfl
      simp only [List.setIfInBounds_toArray, List.set_cons_zero, List.set_cons_succ]
      refine take_op 20 (v := ?gv20) rfl (by kernel_rfl) (fun _ _ _ h => h) (by rfl) hS0 (fun w' hS' => ?gy20) ?gz20
      case gy20 =>
        go_simp
        try go_ints
        rfl
      simp only [List.setIfInBounds_toArray, List.set_cons_zero, List.set_cons_succ]
      refine take_op 21 (v := ?gv21) rfl (by kernel_rfl) (fun _ _ _ h => h) (by rfl) hS0 (fun w' hS' => ?gy21) ?gz21
      case gy21 =>
        go_simp
        try go_ints
        first
        | rfl
        | (rw [if_pos (by omega)]; done)
        | rw [if_pos ⟨by omega, by omega⟩]
      simp only [List.setIfInBounds_toArray, List.set_cons_zero, List.set_cons_succ]
      refine step_op 22 (by kernel_rfl) rfl (fun K hK => ?_)
      have hfr2 : wr.drew.frozen? ⟨W2.heap.size, p + X, none⟩ = false := hfr
      have hcs2 : wr.drew.cell? ⟨W2.heap.size, p + X, none⟩ = some (.int .i64 z) := hcz
      rw [if_pos (by rfl)]
      go_simp
      refine hK.out _ _ (fun h => absurd h (by omega)) ?_
      clear hK K
      try simp only [Act.put, List.setIfInBounds_toArray, List.set_cons_zero, List.set_cons_succ]
      refine done_ops (by kernel_rfl) ?_
      go_wp2_with fail
      go_roundw
      case rel => exact ⟨k + 1, by omega, by go_num, hstH.out, (hb.drew).setCell (p := ⟨W2.heap.size, p + X, none⟩) (Nat.le_refl _) _⟩
      case measure => simp [intOf]; omega

end Go.Proofs.YtbfigbpjoaccdaaGreat

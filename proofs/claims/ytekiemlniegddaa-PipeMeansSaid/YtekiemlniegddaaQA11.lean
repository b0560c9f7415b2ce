/- Contracts and laws (PsB). -/
import Derived.Test.YtekiemlniegddaaQA10
import Derived.Test.YtekiemlniegddaaQA8
import Derived.Test.YtekiemlniegddaaQA7
namespace Go.Proofs.Ytekiemlniegddaa
open Go Go.RowKit Go.Shelf
set_option linter.unusedVariables false
set_option linter.unusedSimpArgs false

/-- One image more is fit. -/
theorem fit_succ {ms : List PicN} {w h : Int} {k : Nat} (hk : k < ms.length) : (ms.take (k + 1)).all (fitP w h) = ((ms.take k).all (fitP w h) && fitP w h (picAt ms k)) := by
  rw [List.take_succ_eq_append_getElem hk, List.all_append]; unfold picAt; rw [List.getElem?_eq_getElem hk]; simp
theorem fit_hit {ms : List PicN} {w h : Int} {k : Nat} (hk : k < ms.length) (hf : fitP w h (picAt ms k) = false) : ms.all (fitP w h) = false := by
  unfold picAt at hf
  rw [List.getElem?_eq_getElem hk] at hf
  exact List.all_eq_false.2 ⟨_, List.getElem_mem hk, by simpa using hf⟩
theorem givenB_is (ms : List PicN) (N w h : Int) : givenB ms N w h = (decide ((ms.length : Int) = N) && ms.all (fitP w h)) := rfl
set_option maxRecDepth 100000 in
set_option maxHeartbeats 4000000 in
theorem rgiven_any (ms : List PicN) (a : Option Addr) (c n : Nat) (hn : ms.length = n) (hm : n ≤ 9223372036854775807) (hpl : ∀ i, i < n → (picAt ms i).px.length ≤ 9223372036854775807) (N W H : Int) (v : Bool) (hv : givenB ms N W H = v) (w : World) (hr : RdPs w.heap.size w a ms) :
    Calls Try.prog 35 #[.slice a n c, .int .i64 N, .int .i64 W, .int .i64 H] w fun e w' => e = .returned (.bool v) ∧ Below w.heap.size w w' := by
  rw [givenB_is, hn] at hv
  have hnH := Lib.hid hn
  have hplH := Lib.hid hpl
  have hvH := Lib.hid hv
  clear hn hpl hv
  by_cases hc : (n : Int) = N
  case neg =>
    have f1 : ((n : Int) != N) = true := by simp [hc]
    have hvf : v = false := by rw [← hvH.out]; simp [hc]
    subst hvf
    clear hvH hc
    go_enter Try.func35, Try.ntmps35
    go_wp2_with fail
    go_ret
    exact ⟨rfl, Below.refl _ _⟩
  have f1 : ((n : Int) != N) = false := by simp [hc]
  have hcH := Lib.hid hc
  clear hc
  go_enter Try.func35, Try.ntmps35
  go_wp2_with fail
  go_loopw [9] (fun i wr => ∃ k : Nat, k ≤ n ∧ i = .int .i64 (k : Int) ∧ Hid ((ms.take k).all (fitP W H) = true) ∧ Below w.heap.size w wr) (fun i _ => n - (intOf i).toNat)
  case atStart => exact ⟨0, Nat.zero_le _, rfl, Lib.hid (by simp), Below.refl _ _⟩
  case round =>
    obtain ⟨k, hk, rfl, hall, hB⟩ := hrel
    by_cases hlt : k < n
    case neg =>
      have hkn : k = n := by omega
      subst hkn
      have hvt : v = true := by
        have h1 := hall.out
        rw [List.take_of_length_le (by have := hnH.out; omega)] at h1
        rw [← hvH.out, h1]; simp [hcH.out]
      subst hvt
      go_wp2_with fail
      go_ret
      exact ⟨rfl, hB⟩
    case pos =>
      have hlt' : k < ms.length := by have := hnH.out; omega
      obtain ⟨b, o, rfl, hbl, pa, pc, p0, p1, p2, rA, _⟩ := hr.at hlt'
      have c0 := (hB.cell (p := ⟨b, o + k * 3, none⟩) hbl).trans p0
      have c1 := (hB.cell (p := ⟨b, o + k * 3 + 1, none⟩) hbl).trans p1
      have c2 := (hB.cell (p := ⟨b, o + k * 3 + 2, none⟩) hbl).trans p2
      have hbl2 : b < wr.heap.size := by have := hB.size; omega
      have hsucc := fit_succ (w := W) (h := H) hlt'
      rw [hall.out, Bool.true_and] at hsucc
      have hhit := fun h => fit_hit (w := W) (h := H) hlt' h
      have hpk := hplH.out k hlt
      have hfd : fitP W H (picAt ms k) = (vld (picAt ms k).w (picAt ms k).h (picAt ms k).px && (decide ((picAt ms k).w = W) && decide ((picAt ms k).h = H))) := rfl
      obtain ⟨⟨mw, mh, mx⟩, hM⟩ : ∃ M, picAt ms k = M := ⟨_, rfl⟩
      obtain ⟨fv, hfv⟩ : ∃ v, fitP W H (picAt ms k) = v := ⟨_, rfl⟩
      rw [hfv] at hsucc hfd hhit
      rw [hM] at c0 c1 c2 rA hpk hfd
      simp only at c0 c1 c2 rA hpk hfd
      obtain ⟨v0, hv0⟩ : ∃ v, vld mw mh mx = v := ⟨_, rfl⟩
      rw [hv0] at hfd
      obtain ⟨l, hl⟩ : ∃ l, mx.length = l := ⟨_, rfl⟩
      rw [hl] at c2 hpk
      have hcall := Valid_any mw mh pa pc mx l (Lib.hid hl) wr hpk (later_i rA hB)
      rw [hv0] at hcall
      have hcallH := Lib.hid hcall
      have hsuccH := Lib.hid hsucc
      have hhitH := Lib.hid hhit
      have hfdH := Lib.hid hfd
      clear p0 p1 p2 hM hfv rA hcall hsucc hhit hfd hv0 hl
      have hno : fv = false → v = false := fun h => by rw [← hvH.out, hhitH.out h]; simp
      have hnoH := Lib.hid hno
      clear hno
      cases v0 with
      | false =>
        have hvf : v = false := hnoH.out (by rw [hfdH.out]; rfl)
        subst hvf
        go_wp2_with (go_at_call 76; refine hcallH.out.mono ?_; rintro e w2 ⟨rfl, hb2⟩; have e0 := (hb2.cell (p := ⟨b, o + k * 3, none⟩) hbl2).trans c0; have e1 := (hb2.cell (p := ⟨b, o + k * 3 + 1, none⟩) hbl2).trans c1; have e2 := (hb2.cell (p := ⟨b, o + k * 3 + 2, none⟩) hbl2).trans c2)
        go_ret
        exact ⟨rfl, hB.trans (hb2.mono hB.size)⟩
      | true =>
        by_cases q1 : mw = W
        case neg =>
          have q1d : (mw != W) = true := by simp [q1]
          have hvf : v = false := hnoH.out (by rw [hfdH.out]; simp [q1])
          subst hvf
          clear q1
          go_wp2_with (go_at_call 76; refine hcallH.out.mono ?_; rintro e w2 ⟨rfl, hb2⟩; have e0 := (hb2.cell (p := ⟨b, o + k * 3, none⟩) hbl2).trans c0; have e1 := (hb2.cell (p := ⟨b, o + k * 3 + 1, none⟩) hbl2).trans c1; have e2 := (hb2.cell (p := ⟨b, o + k * 3 + 2, none⟩) hbl2).trans c2)
          go_ret
          exact ⟨rfl, hB.trans (hb2.mono hB.size)⟩
        case pos =>
          have q1d : (mw != W) = false := by simp [q1]
          by_cases q2 : mh = H
          case neg =>
            have q2d : (mh != H) = true := by simp [q2]
            have hvf : v = false := hnoH.out (by rw [hfdH.out]; simp [q2])
            subst hvf
            clear q1 q2
            go_wp2_with (go_at_call 76; refine hcallH.out.mono ?_; rintro e w2 ⟨rfl, hb2⟩; have e0 := (hb2.cell (p := ⟨b, o + k * 3, none⟩) hbl2).trans c0; have e1 := (hb2.cell (p := ⟨b, o + k * 3 + 1, none⟩) hbl2).trans c1; have e2 := (hb2.cell (p := ⟨b, o + k * 3 + 2, none⟩) hbl2).trans c2)
            go_ret
            exact ⟨rfl, hB.trans (hb2.mono hB.size)⟩
          case pos =>
            have q2d : (mh != H) = false := by simp [q2]
            have hft : fv = true := by rw [hfdH.out]; simp [q1, q2]
            have hs2 := hsuccH.out
            rw [hft] at hs2
            have hs2H := Lib.hid hs2
            clear q1 q2 hs2 hft
            go_wp2_with (go_at_call 76; refine hcallH.out.mono ?_; rintro e w2 ⟨rfl, hb2⟩; have e0 := (hb2.cell (p := ⟨b, o + k * 3, none⟩) hbl2).trans c0; have e1 := (hb2.cell (p := ⟨b, o + k * 3 + 1, none⟩) hbl2).trans c1; have e2 := (hb2.cell (p := ⟨b, o + k * 3 + 2, none⟩) hbl2).trans c2)
            go_roundw
            case rel => exact ⟨k + 1, by omega, by go_num, hs2H, hB.trans (hb2.mono hB.size)⟩
            case measure => simp [intOf]; omega
/-- What a call returns that gives one image of its own. -/
def RetPic (B : Nat) (p : PicN) (w : World) (e : Ending) (w' : World) : Prop := (∃ v, e = .returned v ∧ OwnIm B w' v p.w p.h p.px) ∧ Below w.heap.size w w'
set_option maxRecDepth 100000 in
set_option maxHeartbeats 8000000 in
theorem stepped_any (s : StepN) (hs : StepIn s) (ka sa : Option Addr) (kc sc : Nat) (ms : List PicN) (a : Option Addr) (c n : Nat) (hn : ms.length = n) (hpl : ∀ i, i < n → (picAt ms i).px.length ≤ 9223372036854775807) (hA0 : 0 ≤ s.a) (hA1 : s.a < n) (hBb : s.op = 2 → 0 ≤ s.b ∧ s.b < n)
    (w : World) (hr : RdPs w.heap.size w a ms) (ht : Rd w.heap.size w ka s.taps) (hbt : RdB w.heap.size w sa s.bits) :
    Calls Try.prog 77 #[stepv s ka kc sa sc, .slice a n c] w (RetPic w.heap.size (resN (appS s ms)) w) := by
  have hB : Below w.heap.size w w := Below.refl _ _
  have hop := hs.op
  have hhow := hs.how
  have hbdr := hs.bd
  have htl := hs.tl
  have hbl := hs.bl
  obtain ⟨A, hA⟩ : ∃ A : Nat, s.a = (A : Int) := ⟨s.a.toNat, by omega⟩
  have hAn : A < n := by omega
  have hrdA := fun (i : Nat) (hi : i < n) => hr.at (i := i) (by rw [hn]; exact hi)
  have hplH := Lib.hid hpl
  obtain ⟨b, o, hab, hbl0, pa, pc, p0, p1, p2, rA, _⟩ := hrdA A hAn
  obtain ⟨R, hR⟩ : ∃ R, appS s ms = R := ⟨_, rfl⟩
  rw [hR]
  unfold appS at hR
  rw [show s.a.toNat = A by omega] at hR
  obtain ⟨⟨mw, mh, mx⟩, hM⟩ : ∃ M, picAt ms A = M := ⟨_, rfl⟩
  rw [hM] at p0 p1 p2 rA hR
  have hxl : mx.length ≤ 9223372036854775807 := by have := hpl A hAn; rw [hM] at this; exact this
  simp only at p0 p1 p2 rA hR
  obtain ⟨l, hl⟩ : ∃ l, mx.length = l := ⟨_, rfl⟩
  rw [hl] at p2 hxl
  obtain ⟨tl, htl0⟩ : ∃ l, s.taps.length = l := ⟨_, rfl⟩
  obtain ⟨bl, hbl1⟩ : ∃ l, s.bits.length = l := ⟨_, rfl⟩
  subst hab
  unfold stepv
  have hlH := Lib.hid hl
  have htlH := Lib.hid htl0
  have hblH := Lib.hid hbl1
  rw [htl0] at htl ⊢
  rw [hbl1] at hbl ⊢
  clear hpl hl htl0 hbl1 hM
  rw [hA]
  obtain ⟨D0, hD0⟩ : ∃ D : Int, s.b = D := ⟨_, rfl⟩
  rw [hD0] at hBb hR ⊢
  clear hD0
  have rA00 := rA
  have ht00 := ht
  have hbt00 := hbt
  have hbV1 : Below w.heap.size w (w.alloc (.cells #[.int .u8 s.op, .int .i64 (A : Int), .int .i64 D0, .int .i64 s.pt.mul, .int .i64 s.pt.add, .int .i64 s.pt.div, .int .i64 s.pt.lo, .int .i64 s.pt.hi, .int .u8 s.how, .int .i64 s.kw, .int .i64 s.kh, .slice ka tl kc, .int .u8 s.bd, .int .i64 s.sw, .int .i64 s.sh, .slice sa bl sc] 76)) := jb_al (Below.refl _ w) _
  have k2 := Blk.new w 76 #[.int .u8 s.op, .int .i64 (A : Int), .int .i64 D0, .int .i64 s.pt.mul, .int .i64 s.pt.add, .int .i64 s.pt.div, .int .i64 s.pt.lo, .int .i64 s.pt.hi, .int .u8 s.how, .int .i64 s.kw, .int .i64 s.kh, .slice ka tl kc, .int .u8 s.bd, .int .i64 s.sw, .int .i64 s.sh, .slice sa bl sc]
  obtain ⟨V1, hEV1⟩ : ∃ X, w.alloc (.cells #[.int .u8 s.op, .int .i64 (A : Int), .int .i64 D0, .int .i64 s.pt.mul, .int .i64 s.pt.add, .int .i64 s.pt.div, .int .i64 s.pt.lo, .int .i64 s.pt.hi, .int .u8 s.how, .int .i64 s.kw, .int .i64 s.kh, .slice ka tl kc, .int .u8 s.bd, .int .i64 s.sw, .int .i64 s.sh, .slice sa bl sc] 76) = X := ⟨_, rfl⟩
  rw [hEV1] at hbV1 k2
  replace hr := hr.later hbV1
  replace rA := later_i rA hbV1
  replace ht := later_i ht hbV1
  replace hbt := ((hbt.below (Nat.le_refl _) hbV1).mono hbV1.size)
  replace hB := hB.trans (hbV1.mono hB.size)
  clear hbV1
  have m0 := k2.cell (i := 0) rfl
  have m1 := k2.cell (i := 1) rfl
  have m2 := k2.cell (i := 2) rfl
  have m3 := k2.cell (i := 3) rfl
  have m4 := k2.cell (i := 4) rfl
  have m5 := k2.cell (i := 5) rfl
  have m6 := k2.cell (i := 6) rfl
  have m7 := k2.cell (i := 7) rfl
  have m8 := k2.cell (i := 8) rfl
  have m9 := k2.cell (i := 9) rfl
  have m10 := k2.cell (i := 10) rfl
  have m11 := k2.cell (i := 11) rfl
  have m12 := k2.cell (i := 12) rfl
  have m13 := k2.cell (i := 13) rfl
  have m14 := k2.cell (i := 14) rfl
  have m15 := k2.cell (i := 15) rfl
  have hle4 := hB.size
  have l24 := k2.lt
  have hbV2 : Below V1.heap.size V1 (V1.alloc (.cells #[.int .i64 0, .int .i64 0, .slice none 0 0] 29)) := jb_al (Below.refl _ V1) _
  have k4 := Blk.new V1 29 #[.int .i64 0, .int .i64 0, .slice none 0 0]
  obtain ⟨V2, hEV2⟩ : ∃ X, V1.alloc (.cells #[.int .i64 0, .int .i64 0, .slice none 0 0] 29) = X := ⟨_, rfl⟩
  rw [hEV2] at hbV2 k4
  clear m0 m1 m2 m3 m4 m5 m6 m7 m8 m9 m10 m11 m12 m13 m14 m15
  replace k2 := k2.below hbV2 k2.lt
  replace hr := hr.later hbV2
  replace rA := later_i rA hbV2
  replace ht := later_i ht hbV2
  replace hbt := ((hbt.below (Nat.le_refl _) hbV2).mono hbV2.size)
  replace hB := hB.trans (hbV2.mono hB.size)
  clear hbV2
  have m0 := k2.cell (i := 0) rfl
  have m1 := k2.cell (i := 1) rfl
  have m2 := k2.cell (i := 2) rfl
  have m3 := k2.cell (i := 3) rfl
  have m4 := k2.cell (i := 4) rfl
  have m5 := k2.cell (i := 5) rfl
  have m6 := k2.cell (i := 6) rfl
  have m7 := k2.cell (i := 7) rfl
  have m8 := k2.cell (i := 8) rfl
  have m9 := k2.cell (i := 9) rfl
  have m10 := k2.cell (i := 10) rfl
  have m11 := k2.cell (i := 11) rfl
  have m12 := k2.cell (i := 12) rfl
  have m13 := k2.cell (i := 13) rfl
  have m14 := k2.cell (i := 14) rfl
  have m15 := k2.cell (i := 15) rfl
  have z0 := k4.cell (i := 0) rfl
  have fz0 := k4.frozen 0
  have z1 := k4.cell (i := 1) rfl
  have fz1 := k4.frozen 1
  have z2 := k4.cell (i := 2) rfl
  have fz2 := k4.frozen 2
  have hle5 := hB.size
  have l45 := k4.lt
  have hbV3 : Below V2.heap.size V2 (V2.alloc (.cells #[.int .i64 0, .int .i64 0, .slice none 0 0] 29)) := jb_al (Below.refl _ V2) _
  have k5 := Blk.new V2 29 #[.int .i64 0, .int .i64 0, .slice none 0 0]
  obtain ⟨V3, hEV3⟩ : ∃ X, V2.alloc (.cells #[.int .i64 0, .int .i64 0, .slice none 0 0] 29) = X := ⟨_, rfl⟩
  rw [hEV3] at hbV3 k5
  clear m0 m1 m2 m3 m4 m5 m6 m7 m8 m9 m10 m11 m12 m13 m14 m15 z0 z1 z2 fz0 fz1 fz2
  replace k2 := k2.below hbV3 k2.lt
  replace k4 := k4.below hbV3 k4.lt
  replace hr := hr.later hbV3
  replace rA := later_i rA hbV3
  replace ht := later_i ht hbV3
  replace hbt := ((hbt.below (Nat.le_refl _) hbV3).mono hbV3.size)
  replace hB := hB.trans (hbV3.mono hB.size)
  clear hbV3
  have m0 := k2.cell (i := 0) rfl
  have m1 := k2.cell (i := 1) rfl
  have m2 := k2.cell (i := 2) rfl
  have m3 := k2.cell (i := 3) rfl
  have m4 := k2.cell (i := 4) rfl
  have m5 := k2.cell (i := 5) rfl
  have m6 := k2.cell (i := 6) rfl
  have m7 := k2.cell (i := 7) rfl
  have m8 := k2.cell (i := 8) rfl
  have m9 := k2.cell (i := 9) rfl
  have m10 := k2.cell (i := 10) rfl
  have m11 := k2.cell (i := 11) rfl
  have m12 := k2.cell (i := 12) rfl
  have m13 := k2.cell (i := 13) rfl
  have m14 := k2.cell (i := 14) rfl
  have m15 := k2.cell (i := 15) rfl
  have z0 := k4.cell (i := 0) rfl
  have fz0 := k4.frozen 0
  have z1 := k4.cell (i := 1) rfl
  have fz1 := k4.frozen 1
  have z2 := k4.cell (i := 2) rfl
  have fz2 := k4.frozen 2
  have q0 := k5.cell (i := 0) rfl
  have fq0 := k5.frozen 0
  have q1 := k5.cell (i := 1) rfl
  have fq1 := k5.frozen 1
  have q2 := k5.cell (i := 2) rfl
  have fq2 := k5.frozen 2
  have l2 := k2.lt
  have l4 := k4.lt
  have l5 := k5.lt
  have hbV4 : b < V1.heap.size := by omega
  have y0 := (hB.cell (p := ⟨b, o + A * 3, none⟩) hbl0).trans p0
  have y1 := (hB.cell (p := ⟨b, o + A * 3 + 1, none⟩) hbl0).trans p1
  have y2 := (hB.cell (p := ⟨b, o + A * 3 + 2, none⟩) hbl0).trans p2
  by_cases h1 : s.op = 1
  case pos =>
    have f1 : (s.op == 1) = true := by simp [h1]
    rw [if_pos h1] at hR
    clear h1
    go_enter Try.func77, Try.ntmps77
    have hS0 : Below V3.heap.size V3 V3.drew := (Below.refl _ _).drew
    have h4V : V1.heap.size ≤ V3.heap.size := by omega
    have hS := hS0.mono h4V
    go_wp2_with fail
    refine plain_region (fun W' => Below (V1.heap.size) V3 W') 12 12 (by kernel_rfl) rfl ?_
    simp only [Array.replicate_succ, Array.replicate_zero, List.push_toArray, List.nil_append, List.cons_append]
    obtain ⟨X0, hXX0⟩ : ∃ X : World, V3.drew = X := ⟨_, rfl⟩
    rw [hXX0] at hS hS0 ⊢
    clear hXX0
    refine take_op 0 (v := ?r4v0) rfl (by kernel_rfl) (fun _ _ _ h => h) (by rfl) hS (fun w' hS' => ?r4y0) ?r4z0
    case r4y0 =>
      go_simp
      rfl
    simp only [List.setIfInBounds_toArray, List.set_cons_zero, List.set_cons_succ]
    refine take_op 1 (v := ?r4v1) rfl (by kernel_rfl) (fun _ _ _ h => h) (by rfl) hS (fun w' hS' => ?r4y1) ?r4z1
    case r4y1 =>
      go_simp
      rfl
    simp only [List.setIfInBounds_toArray, List.set_cons_zero, List.set_cons_succ]
    refine take_op 2 (v := ?r4v2) rfl (by kernel_rfl) (fun _ _ _ h => h) (by rfl) hS (fun w' hS' => ?r4y2) ?r4z2
    case r4y2 =>
      have fm0 := (k2.below hS' l24).cell (i := 0) rfl
      have fm1 := (k2.below hS' l24).cell (i := 1) rfl
      have fm2 := (k2.below hS' l24).cell (i := 2) rfl
      have fm3 := (k2.below hS' l24).cell (i := 3) rfl
      have fm4 := (k2.below hS' l24).cell (i := 4) rfl
      have fm5 := (k2.below hS' l24).cell (i := 5) rfl
      have fm6 := (k2.below hS' l24).cell (i := 6) rfl
      have fm7 := (k2.below hS' l24).cell (i := 7) rfl
      have fm8 := (k2.below hS' l24).cell (i := 8) rfl
      have fm9 := (k2.below hS' l24).cell (i := 9) rfl
      have fm10 := (k2.below hS' l24).cell (i := 10) rfl
      have fm11 := (k2.below hS' l24).cell (i := 11) rfl
      have fm12 := (k2.below hS' l24).cell (i := 12) rfl
      have fm13 := (k2.below hS' l24).cell (i := 13) rfl
      have fm14 := (k2.below hS' l24).cell (i := 14) rfl
      have fm15 := (k2.below hS' l24).cell (i := 15) rfl
      have fy0 := (hS'.cell (p := ⟨b, o + A * 3, none⟩) hbV4).trans y0
      have fy1 := (hS'.cell (p := ⟨b, o + A * 3 + 1, none⟩) hbV4).trans y1
      have fy2 := (hS'.cell (p := ⟨b, o + A * 3 + 2, none⟩) hbV4).trans y2
      clear hS'
      go_simp
      rfl
    simp only [List.setIfInBounds_toArray, List.set_cons_zero, List.set_cons_succ]
    refine take_op 3 (v := ?r4v3) rfl (by kernel_rfl) (fun _ _ _ h => h) (by rfl) hS (fun w' hS' => ?r4y3) ?r4z3
    case r4y3 =>
      go_simp
      try go_ints
      first
      | rfl
      | (rw [if_pos (by omega)]; done)
      | rw [if_pos ⟨by omega, by omega⟩]
    simp only [List.setIfInBounds_toArray, List.set_cons_zero, List.set_cons_succ]
    refine take_op 4 (v := ?r4v4) rfl (by kernel_rfl) (fun _ _ _ h => h) (by rfl) hS (fun w' hS' => ?r4y4) ?r4z4
    case r4y4 =>
      have fm0 := (k2.below hS' l24).cell (i := 0) rfl
      have fm1 := (k2.below hS' l24).cell (i := 1) rfl
      have fm2 := (k2.below hS' l24).cell (i := 2) rfl
      have fm3 := (k2.below hS' l24).cell (i := 3) rfl
      have fm4 := (k2.below hS' l24).cell (i := 4) rfl
      have fm5 := (k2.below hS' l24).cell (i := 5) rfl
      have fm6 := (k2.below hS' l24).cell (i := 6) rfl
      have fm7 := (k2.below hS' l24).cell (i := 7) rfl
      have fm8 := (k2.below hS' l24).cell (i := 8) rfl
      have fm9 := (k2.below hS' l24).cell (i := 9) rfl
      have fm10 := (k2.below hS' l24).cell (i := 10) rfl
      have fm11 := (k2.below hS' l24).cell (i := 11) rfl
      have fm12 := (k2.below hS' l24).cell (i := 12) rfl
      have fm13 := (k2.below hS' l24).cell (i := 13) rfl
      have fm14 := (k2.below hS' l24).cell (i := 14) rfl
      have fm15 := (k2.below hS' l24).cell (i := 15) rfl
      have fy0 := (hS'.cell (p := ⟨b, o + A * 3, none⟩) hbV4).trans y0
      have fy1 := (hS'.cell (p := ⟨b, o + A * 3 + 1, none⟩) hbV4).trans y1
      have fy2 := (hS'.cell (p := ⟨b, o + A * 3 + 2, none⟩) hbV4).trans y2
      clear hS'
      go_simp
      rfl
    simp only [List.setIfInBounds_toArray, List.set_cons_zero, List.set_cons_succ]
    refine take_op 5 (v := ?r4v5) rfl (by kernel_rfl) (fun _ _ _ h => h) (by rfl) hS (fun w' hS' => ?r4y5) ?r4z5
    case r4y5 =>
      go_simp
      rfl
    simp only [List.setIfInBounds_toArray, List.set_cons_zero, List.set_cons_succ]
    refine take_op 6 (v := ?r4v6) rfl (by kernel_rfl) (fun _ _ _ h => h) (by rfl) hS (fun w' hS' => ?r4y6) ?r4z6
    case r4y6 =>
      have fm0 := (k2.below hS' l24).cell (i := 0) rfl
      have fm1 := (k2.below hS' l24).cell (i := 1) rfl
      have fm2 := (k2.below hS' l24).cell (i := 2) rfl
      have fm3 := (k2.below hS' l24).cell (i := 3) rfl
      have fm4 := (k2.below hS' l24).cell (i := 4) rfl
      have fm5 := (k2.below hS' l24).cell (i := 5) rfl
      have fm6 := (k2.below hS' l24).cell (i := 6) rfl
      have fm7 := (k2.below hS' l24).cell (i := 7) rfl
      have fm8 := (k2.below hS' l24).cell (i := 8) rfl
      have fm9 := (k2.below hS' l24).cell (i := 9) rfl
      have fm10 := (k2.below hS' l24).cell (i := 10) rfl
      have fm11 := (k2.below hS' l24).cell (i := 11) rfl
      have fm12 := (k2.below hS' l24).cell (i := 12) rfl
      have fm13 := (k2.below hS' l24).cell (i := 13) rfl
      have fm14 := (k2.below hS' l24).cell (i := 14) rfl
      have fm15 := (k2.below hS' l24).cell (i := 15) rfl
      have fy0 := (hS'.cell (p := ⟨b, o + A * 3, none⟩) hbV4).trans y0
      have fy1 := (hS'.cell (p := ⟨b, o + A * 3 + 1, none⟩) hbV4).trans y1
      have fy2 := (hS'.cell (p := ⟨b, o + A * 3 + 2, none⟩) hbV4).trans y2
      clear hS'
      go_simp
      rfl
    simp only [List.setIfInBounds_toArray, List.set_cons_zero, List.set_cons_succ]
    refine step_op 7 (by kernel_rfl) rfl (fun K hK => ?_)
    rw [if_pos (by rfl)]
    go_simp
    have hc0 := hB.trans (hS0.mono hB.size)
    have hc := rPoint_any mw mh pa pc l mx hlH s.pt X0 hxl (later_i rA00 hc0)
    unfold RetIm at hc
    rw [hR] at hc
    refine hc.mono ?_
    clear hc
    rintro e X1 ⟨⟨v, rfl, t1, rfl, hrow⟩, hb⟩
    obtain ⟨qa, qc, rfl⟩ := row_slice hrow
    have hrowb := jrow_weaken hrow (show w.heap.size ≤ X0.heap.size by have := hS0.size; have := hB.size; omega)
    have hS1 : Below V3.heap.size V3 X1 := hS0.trans (hb.mono hS0.size)
    have hS1w := hS1.mono h4V
    clear hb hrow hc0
    refine hK.out _ _ (fun h => hS1w) ?_
    clear hK K
    try simp only [Act.put, List.setIfInBounds_toArray, List.set_cons_zero, List.set_cons_succ]
    refine take_op 8 (v := ?r4v8) rfl (by kernel_rfl) (fun _ _ _ h => h) (by rfl) hS1w (fun w' hS' => ?r4y8) ?r4z8
    case r4y8 =>
      go_simp
      rfl
    simp only [List.setIfInBounds_toArray, List.set_cons_zero, List.set_cons_succ]
    refine take_op 9 (v := ?r4v9) rfl (by kernel_rfl) (fun _ _ _ h => h) (by rfl) hS1w (fun w' hS' => ?r4y9) ?r4z9
    case r4y9 =>
      go_simp
      rfl
    simp only [List.setIfInBounds_toArray, List.set_cons_zero, List.set_cons_succ]
    refine take_op 10 (v := ?r4v10) rfl (by kernel_rfl) (fun _ _ _ h => h) (by rfl) hS1w (fun w' hS' => ?r4y10) ?r4z10
    case r4y10 =>
      go_simp
      rfl
    simp only [List.setIfInBounds_toArray, List.set_cons_zero, List.set_cons_succ]
    refine step_op 11 (by kernel_rfl) rfl (fun K hK => ?_)
    have kz := k5.below hS1 l5
    have z0 := kz.cell (i := 0) rfl
    have z1 := kz.cell (i := 1) rfl
    have z2 := kz.cell (i := 2) rfl
    have fz0 := kz.frozen 0
    have fz1 := kz.frozen 1
    have fz2 := kz.frozen 2
    have hS2 : Below (V1.heap.size) V3 (put3 X1 (V2.heap.size) (.int .i64 R.w) (.int .i64 R.h) (.slice qa R.px.length qc)) := hS1w.trans (put3_below (by omega) _ _ _)
    rw [if_pos (by rfl)]
    go_simp
    refine hK.out _ _ (fun h => hS2) ?_
    clear hK K
    try simp only [Act.put, List.setIfInBounds_toArray, List.set_cons_zero, List.set_cons_succ]
    refine done_ops (by kernel_rfl) ?_
    have k5w := put3_blk kz (.int .i64 R.w) (.int .i64 R.h) (.slice qa R.px.length qc)
    have k4w := (k4.below hS1 l4).kept (put3_grow2 X1 (V2.heap.size) (.int .i64 R.w) (.int .i64 R.h) (.slice qa R.px.length qc)) (by simp; omega)
    have roww := row_put3b hrowb (kz.not_row (by decide) hrowb) (.int .i64 R.w) (.int .i64 R.h) (.slice qa R.px.length qc)
    have hBw : Below w.heap.size w (put3 X1 (V2.heap.size) (.int .i64 R.w) (.int .i64 R.h) (.slice qa R.px.length qc)) := (hB.trans (hS1.mono hB.size)).trans (put3_below hle5 _ _ _)
    clear hrowb kz hS1 z0 z1 z2 fz0 fz1 fz2 k2 k4 k5
    obtain ⟨X9, hX9⟩ : ∃ X, put3 X1 (V2.heap.size) (.int .i64 R.w) (.int .i64 R.h) (.slice qa R.px.length qc) = X := ⟨_, rfl⟩
    rw [hX9] at k5w k4w roww hBw
    try rw [hX9]
    try simp only [hX9]
    have z0 := k4w.cell (i := 0) rfl
    have z1 := k4w.cell (i := 1) rfl
    have z2 := k4w.cell (i := 2) rfl
    have fz0 := k4w.frozen 0
    have fz1 := k4w.frozen 1
    have fz2 := k4w.frozen 2
    have q0 := k5w.cell (i := 0) rfl
    have q1 := k5w.cell (i := 1) rfl
    have q2 := k5w.cell (i := 2) rfl
    have kf := put3_blk k4w (.int .i64 R.w) (.int .i64 R.h) (.slice qa R.px.length qc)
    have rowf := row_put3b roww (k4w.not_row (by decide) roww) (.int .i64 R.w) (.int .i64 R.h) (.slice qa R.px.length qc)
    have hbf : Below w.heap.size w (put3 X9 (V1.heap.size) (.int .i64 R.w) (.int .i64 R.h) (.slice qa R.px.length qc)) := hBw.trans (put3_below hle4 _ _ _)
    have g0 := kf.cell (i := 0) rfl
    have g1 := kf.cell (i := 1) rfl
    have g2 := kf.cell (i := 2) rfl
    go_wp2_with fail
    exact bodyPost_ret (v := .agg #[.int .i64 R.w, .int .i64 R.h, .slice qa R.px.length qc]) (by simp [results, Try.results77, go_sem, g0, g1, g2]) rfl ⟨⟨_, rfl, _, rfl, rowf⟩, hbf⟩
  case neg =>
    have f1 : (s.op == 1) = false := by simp [h1]
    rw [if_neg h1] at hR
    clear h1
    by_cases h2 : s.op = 2
    case pos =>
      have f2 : (s.op == 2) = true := by simp [h2]
      rw [if_pos h2] at hR
      obtain ⟨hb1, hb2⟩ := hBb h2
      clear h2
      obtain ⟨D, rfl⟩ : ∃ D : Nat, D0 = (D : Int) := ⟨D0.toNat, by omega⟩
      have hDn : D < n := by omega
      obtain ⟨b', o', hbb, _, pb, pd, t0, t1, t2, rD, _⟩ := hrdA D hDn
      simp only [Option.some.injEq, Addr.mk.injEq, and_true] at hbb
      obtain ⟨rfl, rfl⟩ := hbb
      rw [Int.toNat_natCast] at hR
      obtain ⟨⟨nw, nh, nx⟩, hM2⟩ : ∃ M, picAt ms D = M := ⟨_, rfl⟩
      rw [hM2] at t0 t1 t2 rD hR
      have hyl : nx.length ≤ 9223372036854775807 := by have := hplH.out D hDn; rw [hM2] at this; exact this
      simp only at t0 t1 t2 rD hR
      obtain ⟨l', hl'⟩ : ∃ l, nx.length = l := ⟨_, rfl⟩
      rw [hl'] at t2 hyl
      have hlH' := Lib.hid hl'
      have y0' := (hB.cell (p := ⟨b, o + D * 3, none⟩) hbl0).trans t0
      have y1' := (hB.cell (p := ⟨b, o + D * 3 + 1, none⟩) hbl0).trans t1
      have y2' := (hB.cell (p := ⟨b, o + D * 3 + 2, none⟩) hbl0).trans t2
      clear hl' hM2
      go_enter Try.func77, Try.ntmps77
      have hS0 : Below V3.heap.size V3 V3.drew := (Below.refl _ _).drew
      have h4V : V1.heap.size ≤ V3.heap.size := by omega
      have hS := hS0.mono h4V
      go_wp2_with fail
      refine plain_region (fun W' => Below (V1.heap.size) V3 W') 17 17 (by kernel_rfl) rfl ?_
      simp only [Array.replicate_succ, Array.replicate_zero, List.push_toArray, List.nil_append, List.cons_append]
      obtain ⟨X0, hXX0⟩ : ∃ X : World, V3.drew = X := ⟨_, rfl⟩
      rw [hXX0] at hS hS0 ⊢
      clear hXX0
      refine take_op 0 (v := ?r6v0) rfl (by kernel_rfl) (fun _ _ _ h => h) (by rfl) hS (fun w' hS' => ?r6y0) ?r6z0
      case r6y0 =>
        go_simp
        rfl
      simp only [List.setIfInBounds_toArray, List.set_cons_zero, List.set_cons_succ]
      refine take_op 1 (v := ?r6v1) rfl (by kernel_rfl) (fun _ _ _ h => h) (by rfl) hS (fun w' hS' => ?r6y1) ?r6z1
      case r6y1 =>
        go_simp
        rfl
      simp only [List.setIfInBounds_toArray, List.set_cons_zero, List.set_cons_succ]
      refine take_op 2 (v := ?r6v2) rfl (by kernel_rfl) (fun _ _ _ h => h) (by rfl) hS (fun w' hS' => ?r6y2) ?r6z2
      case r6y2 =>
        have fm0 := (k2.below hS' l24).cell (i := 0) rfl
        have fm1 := (k2.below hS' l24).cell (i := 1) rfl
        have fm2 := (k2.below hS' l24).cell (i := 2) rfl
        have fm3 := (k2.below hS' l24).cell (i := 3) rfl
        have fm4 := (k2.below hS' l24).cell (i := 4) rfl
        have fm5 := (k2.below hS' l24).cell (i := 5) rfl
        have fm6 := (k2.below hS' l24).cell (i := 6) rfl
        have fm7 := (k2.below hS' l24).cell (i := 7) rfl
        have fm8 := (k2.below hS' l24).cell (i := 8) rfl
        have fm9 := (k2.below hS' l24).cell (i := 9) rfl
        have fm10 := (k2.below hS' l24).cell (i := 10) rfl
        have fm11 := (k2.below hS' l24).cell (i := 11) rfl
        have fm12 := (k2.below hS' l24).cell (i := 12) rfl
        have fm13 := (k2.below hS' l24).cell (i := 13) rfl
        have fm14 := (k2.below hS' l24).cell (i := 14) rfl
        have fm15 := (k2.below hS' l24).cell (i := 15) rfl
        have fy0 := (hS'.cell (p := ⟨b, o + A * 3, none⟩) hbV4).trans y0
        have fy1 := (hS'.cell (p := ⟨b, o + A * 3 + 1, none⟩) hbV4).trans y1
        have fy2 := (hS'.cell (p := ⟨b, o + A * 3 + 2, none⟩) hbV4).trans y2
        have fq0 := (hS'.cell (p := ⟨b, o + D * 3, none⟩) hbV4).trans y0'
        have fq1 := (hS'.cell (p := ⟨b, o + D * 3 + 1, none⟩) hbV4).trans y1'
        have fq2 := (hS'.cell (p := ⟨b, o + D * 3 + 2, none⟩) hbV4).trans y2'
        clear hS'
        go_simp
        rfl
      simp only [List.setIfInBounds_toArray, List.set_cons_zero, List.set_cons_succ]
      refine take_op 3 (v := ?r6v3) rfl (by kernel_rfl) (fun _ _ _ h => h) (by rfl) hS (fun w' hS' => ?r6y3) ?r6z3
      case r6y3 =>
        go_simp
        try go_ints
        first
        | rfl
        | (rw [if_pos (by omega)]; done)
        | rw [if_pos ⟨by omega, by omega⟩]
      simp only [List.setIfInBounds_toArray, List.set_cons_zero, List.set_cons_succ]
      refine take_op 4 (v := ?r6v4) rfl (by kernel_rfl) (fun _ _ _ h => h) (by rfl) hS (fun w' hS' => ?r6y4) ?r6z4
      case r6y4 =>
        have fm0 := (k2.below hS' l24).cell (i := 0) rfl
        have fm1 := (k2.below hS' l24).cell (i := 1) rfl
        have fm2 := (k2.below hS' l24).cell (i := 2) rfl
        have fm3 := (k2.below hS' l24).cell (i := 3) rfl
        have fm4 := (k2.below hS' l24).cell (i := 4) rfl
        have fm5 := (k2.below hS' l24).cell (i := 5) rfl
        have fm6 := (k2.below hS' l24).cell (i := 6) rfl
        have fm7 := (k2.below hS' l24).cell (i := 7) rfl
        have fm8 := (k2.below hS' l24).cell (i := 8) rfl
        have fm9 := (k2.below hS' l24).cell (i := 9) rfl
        have fm10 := (k2.below hS' l24).cell (i := 10) rfl
        have fm11 := (k2.below hS' l24).cell (i := 11) rfl
        have fm12 := (k2.below hS' l24).cell (i := 12) rfl
        have fm13 := (k2.below hS' l24).cell (i := 13) rfl
        have fm14 := (k2.below hS' l24).cell (i := 14) rfl
        have fm15 := (k2.below hS' l24).cell (i := 15) rfl
        have fy0 := (hS'.cell (p := ⟨b, o + A * 3, none⟩) hbV4).trans y0
        have fy1 := (hS'.cell (p := ⟨b, o + A * 3 + 1, none⟩) hbV4).trans y1
        have fy2 := (hS'.cell (p := ⟨b, o + A * 3 + 2, none⟩) hbV4).trans y2
        have fq0 := (hS'.cell (p := ⟨b, o + D * 3, none⟩) hbV4).trans y0'
        have fq1 := (hS'.cell (p := ⟨b, o + D * 3 + 1, none⟩) hbV4).trans y1'
        have fq2 := (hS'.cell (p := ⟨b, o + D * 3 + 2, none⟩) hbV4).trans y2'
        clear hS'
        go_simp
        rfl
      simp only [List.setIfInBounds_toArray, List.set_cons_zero, List.set_cons_succ]
      refine take_op 5 (v := ?r6v5) rfl (by kernel_rfl) (fun _ _ _ h => h) (by rfl) hS (fun w' hS' => ?r6y5) ?r6z5
      case r6y5 =>
        go_simp
        rfl
      simp only [List.setIfInBounds_toArray, List.set_cons_zero, List.set_cons_succ]
      refine take_op 6 (v := ?r6v6) rfl (by kernel_rfl) (fun _ _ _ h => h) (by rfl) hS (fun w' hS' => ?r6y6) ?r6z6
      case r6y6 =>
        go_simp
        rfl
      simp only [List.setIfInBounds_toArray, List.set_cons_zero, List.set_cons_succ]
      refine take_op 7 (v := ?r6v7) rfl (by kernel_rfl) (fun _ _ _ h => h) (by rfl) hS (fun w' hS' => ?r6y7) ?r6z7
      case r6y7 =>
        have fm0 := (k2.below hS' l24).cell (i := 0) rfl
        have fm1 := (k2.below hS' l24).cell (i := 1) rfl
        have fm2 := (k2.below hS' l24).cell (i := 2) rfl
        have fm3 := (k2.below hS' l24).cell (i := 3) rfl
        have fm4 := (k2.below hS' l24).cell (i := 4) rfl
        have fm5 := (k2.below hS' l24).cell (i := 5) rfl
        have fm6 := (k2.below hS' l24).cell (i := 6) rfl
        have fm7 := (k2.below hS' l24).cell (i := 7) rfl
        have fm8 := (k2.below hS' l24).cell (i := 8) rfl
        have fm9 := (k2.below hS' l24).cell (i := 9) rfl
        have fm10 := (k2.below hS' l24).cell (i := 10) rfl
        have fm11 := (k2.below hS' l24).cell (i := 11) rfl
        have fm12 := (k2.below hS' l24).cell (i := 12) rfl
        have fm13 := (k2.below hS' l24).cell (i := 13) rfl
        have fm14 := (k2.below hS' l24).cell (i := 14) rfl
        have fm15 := (k2.below hS' l24).cell (i := 15) rfl
        have fy0 := (hS'.cell (p := ⟨b, o + A * 3, none⟩) hbV4).trans y0
        have fy1 := (hS'.cell (p := ⟨b, o + A * 3 + 1, none⟩) hbV4).trans y1
        have fy2 := (hS'.cell (p := ⟨b, o + A * 3 + 2, none⟩) hbV4).trans y2
        have fq0 := (hS'.cell (p := ⟨b, o + D * 3, none⟩) hbV4).trans y0'
        have fq1 := (hS'.cell (p := ⟨b, o + D * 3 + 1, none⟩) hbV4).trans y1'
        have fq2 := (hS'.cell (p := ⟨b, o + D * 3 + 2, none⟩) hbV4).trans y2'
        clear hS'
        go_simp
        rfl
      simp only [List.setIfInBounds_toArray, List.set_cons_zero, List.set_cons_succ]
      refine take_op 8 (v := ?r6v8) rfl (by kernel_rfl) (fun _ _ _ h => h) (by rfl) hS (fun w' hS' => ?r6y8) ?r6z8
      case r6y8 =>
        go_simp
        try go_ints
        first
        | rfl
        | (rw [if_pos (by omega)]; done)
        | rw [if_pos ⟨by omega, by omega⟩]
      simp only [List.setIfInBounds_toArray, List.set_cons_zero, List.set_cons_succ]
      refine take_op 9 (v := ?r6v9) rfl (by kernel_rfl) (fun _ _ _ h => h) (by rfl) hS (fun w' hS' => ?r6y9) ?r6z9
      case r6y9 =>
        have fm0 := (k2.below hS' l24).cell (i := 0) rfl
        have fm1 := (k2.below hS' l24).cell (i := 1) rfl
        have fm2 := (k2.below hS' l24).cell (i := 2) rfl
        have fm3 := (k2.below hS' l24).cell (i := 3) rfl
        have fm4 := (k2.below hS' l24).cell (i := 4) rfl
        have fm5 := (k2.below hS' l24).cell (i := 5) rfl
        have fm6 := (k2.below hS' l24).cell (i := 6) rfl
        have fm7 := (k2.below hS' l24).cell (i := 7) rfl
        have fm8 := (k2.below hS' l24).cell (i := 8) rfl
        have fm9 := (k2.below hS' l24).cell (i := 9) rfl
        have fm10 := (k2.below hS' l24).cell (i := 10) rfl
        have fm11 := (k2.below hS' l24).cell (i := 11) rfl
        have fm12 := (k2.below hS' l24).cell (i := 12) rfl
        have fm13 := (k2.below hS' l24).cell (i := 13) rfl
        have fm14 := (k2.below hS' l24).cell (i := 14) rfl
        have fm15 := (k2.below hS' l24).cell (i := 15) rfl
        have fy0 := (hS'.cell (p := ⟨b, o + A * 3, none⟩) hbV4).trans y0
        have fy1 := (hS'.cell (p := ⟨b, o + A * 3 + 1, none⟩) hbV4).trans y1
        have fy2 := (hS'.cell (p := ⟨b, o + A * 3 + 2, none⟩) hbV4).trans y2
        have fq0 := (hS'.cell (p := ⟨b, o + D * 3, none⟩) hbV4).trans y0'
        have fq1 := (hS'.cell (p := ⟨b, o + D * 3 + 1, none⟩) hbV4).trans y1'
        have fq2 := (hS'.cell (p := ⟨b, o + D * 3 + 2, none⟩) hbV4).trans y2'
        clear hS'
        go_simp
        rfl
      simp only [List.setIfInBounds_toArray, List.set_cons_zero, List.set_cons_succ]
      refine take_op 10 (v := ?r6v10) rfl (by kernel_rfl) (fun _ _ _ h => h) (by rfl) hS (fun w' hS' => ?r6y10) ?r6z10
      case r6y10 =>
        go_simp
        rfl
      simp only [List.setIfInBounds_toArray, List.set_cons_zero, List.set_cons_succ]
      refine take_op 11 (v := ?r6v11) rfl (by kernel_rfl) (fun _ _ _ h => h) (by rfl) hS (fun w' hS' => ?r6y11) ?r6z11
      case r6y11 =>
        have fm0 := (k2.below hS' l24).cell (i := 0) rfl
        have fm1 := (k2.below hS' l24).cell (i := 1) rfl
        have fm2 := (k2.below hS' l24).cell (i := 2) rfl
        have fm3 := (k2.below hS' l24).cell (i := 3) rfl
        have fm4 := (k2.below hS' l24).cell (i := 4) rfl
        have fm5 := (k2.below hS' l24).cell (i := 5) rfl
        have fm6 := (k2.below hS' l24).cell (i := 6) rfl
        have fm7 := (k2.below hS' l24).cell (i := 7) rfl
        have fm8 := (k2.below hS' l24).cell (i := 8) rfl
        have fm9 := (k2.below hS' l24).cell (i := 9) rfl
        have fm10 := (k2.below hS' l24).cell (i := 10) rfl
        have fm11 := (k2.below hS' l24).cell (i := 11) rfl
        have fm12 := (k2.below hS' l24).cell (i := 12) rfl
        have fm13 := (k2.below hS' l24).cell (i := 13) rfl
        have fm14 := (k2.below hS' l24).cell (i := 14) rfl
        have fm15 := (k2.below hS' l24).cell (i := 15) rfl
        have fy0 := (hS'.cell (p := ⟨b, o + A * 3, none⟩) hbV4).trans y0
        have fy1 := (hS'.cell (p := ⟨b, o + A * 3 + 1, none⟩) hbV4).trans y1
        have fy2 := (hS'.cell (p := ⟨b, o + A * 3 + 2, none⟩) hbV4).trans y2
        have fq0 := (hS'.cell (p := ⟨b, o + D * 3, none⟩) hbV4).trans y0'
        have fq1 := (hS'.cell (p := ⟨b, o + D * 3 + 1, none⟩) hbV4).trans y1'
        have fq2 := (hS'.cell (p := ⟨b, o + D * 3 + 2, none⟩) hbV4).trans y2'
        clear hS'
        go_simp
        rfl
      simp only [List.setIfInBounds_toArray, List.set_cons_zero, List.set_cons_succ]
      refine step_op 12 (by kernel_rfl) rfl (fun K hK => ?_)
      rw [if_pos (by rfl)]
      go_simp
      have hc0 := hB.trans (hS0.mono hB.size)
      have hc := rZip_any mw mh pa pc l mx hlH nw nh pb pd l' nx hlH' s.how hhow.1 hhow.2 X0 hxl (later_i rA00 hc0) hyl (later_i rD hc0)
      unfold RetIm at hc
      rw [hR] at hc
      refine hc.mono ?_
      clear hc
      rintro e X1 ⟨⟨v, rfl, t1, rfl, hrow⟩, hb⟩
      obtain ⟨qa, qc, rfl⟩ := row_slice hrow
      have hrowb := jrow_weaken hrow (show w.heap.size ≤ X0.heap.size by have := hS0.size; have := hB.size; omega)
      have hS1 : Below V3.heap.size V3 X1 := hS0.trans (hb.mono hS0.size)
      have hS1w := hS1.mono h4V
      clear hb hrow hc0
      refine hK.out _ _ (fun h => hS1w) ?_
      clear hK K
      try simp only [Act.put, List.setIfInBounds_toArray, List.set_cons_zero, List.set_cons_succ]
      refine take_op 13 (v := ?r6v13) rfl (by kernel_rfl) (fun _ _ _ h => h) (by rfl) hS1w (fun w' hS' => ?r6y13) ?r6z13
      case r6y13 =>
        go_simp
        rfl
      simp only [List.setIfInBounds_toArray, List.set_cons_zero, List.set_cons_succ]
      refine take_op 14 (v := ?r6v14) rfl (by kernel_rfl) (fun _ _ _ h => h) (by rfl) hS1w (fun w' hS' => ?r6y14) ?r6z14
      case r6y14 =>
        go_simp
        rfl
      simp only [List.setIfInBounds_toArray, List.set_cons_zero, List.set_cons_succ]
      refine take_op 15 (v := ?r6v15) rfl (by kernel_rfl) (fun _ _ _ h => h) (by rfl) hS1w (fun w' hS' => ?r6y15) ?r6z15
      case r6y15 =>
        go_simp
        rfl
      simp only [List.setIfInBounds_toArray, List.set_cons_zero, List.set_cons_succ]
      refine step_op 16 (by kernel_rfl) rfl (fun K hK => ?_)
      have kz := k5.below hS1 l5
      have z0 := kz.cell (i := 0) rfl
      have z1 := kz.cell (i := 1) rfl
      have z2 := kz.cell (i := 2) rfl
      have fz0 := kz.frozen 0
      have fz1 := kz.frozen 1
      have fz2 := kz.frozen 2
      have hS2 : Below (V1.heap.size) V3 (put3 X1 (V2.heap.size) (.int .i64 R.w) (.int .i64 R.h) (.slice qa R.px.length qc)) := hS1w.trans (put3_below (by omega) _ _ _)
      rw [if_pos (by rfl)]
      go_simp
      refine hK.out _ _ (fun h => hS2) ?_
      clear hK K
      try simp only [Act.put, List.setIfInBounds_toArray, List.set_cons_zero, List.set_cons_succ]
      refine done_ops (by kernel_rfl) ?_
      have k5w := put3_blk kz (.int .i64 R.w) (.int .i64 R.h) (.slice qa R.px.length qc)
      have k4w := (k4.below hS1 l4).kept (put3_grow2 X1 (V2.heap.size) (.int .i64 R.w) (.int .i64 R.h) (.slice qa R.px.length qc)) (by simp; omega)
      have roww := row_put3b hrowb (kz.not_row (by decide) hrowb) (.int .i64 R.w) (.int .i64 R.h) (.slice qa R.px.length qc)
      have hBw : Below w.heap.size w (put3 X1 (V2.heap.size) (.int .i64 R.w) (.int .i64 R.h) (.slice qa R.px.length qc)) := (hB.trans (hS1.mono hB.size)).trans (put3_below hle5 _ _ _)
      clear hrowb kz hS1 z0 z1 z2 fz0 fz1 fz2 k2 k4 k5
      obtain ⟨X9, hX9⟩ : ∃ X, put3 X1 (V2.heap.size) (.int .i64 R.w) (.int .i64 R.h) (.slice qa R.px.length qc) = X := ⟨_, rfl⟩
      rw [hX9] at k5w k4w roww hBw
      try rw [hX9]
      try simp only [hX9]
      have z0 := k4w.cell (i := 0) rfl
      have z1 := k4w.cell (i := 1) rfl
      have z2 := k4w.cell (i := 2) rfl
      have fz0 := k4w.frozen 0
      have fz1 := k4w.frozen 1
      have fz2 := k4w.frozen 2
      have q0 := k5w.cell (i := 0) rfl
      have q1 := k5w.cell (i := 1) rfl
      have q2 := k5w.cell (i := 2) rfl
      have kf := put3_blk k4w (.int .i64 R.w) (.int .i64 R.h) (.slice qa R.px.length qc)
      have rowf := row_put3b roww (k4w.not_row (by decide) roww) (.int .i64 R.w) (.int .i64 R.h) (.slice qa R.px.length qc)
      have hbf : Below w.heap.size w (put3 X9 (V1.heap.size) (.int .i64 R.w) (.int .i64 R.h) (.slice qa R.px.length qc)) := hBw.trans (put3_below hle4 _ _ _)
      have g0 := kf.cell (i := 0) rfl
      have g1 := kf.cell (i := 1) rfl
      have g2 := kf.cell (i := 2) rfl
      go_wp2_with fail
      exact bodyPost_ret (v := .agg #[.int .i64 R.w, .int .i64 R.h, .slice qa R.px.length qc]) (by simp [results, Try.results77, go_sem, g0, g1, g2]) rfl ⟨⟨_, rfl, _, rfl, rowf⟩, hbf⟩
    case neg =>
      have f2 : (s.op == 2) = false := by simp [h2]
      rw [if_neg h2] at hR
      clear h2
      by_cases h3 : s.op = 3
      case pos =>
        have f3 : (s.op == 3) = true := by simp [h3]
        rw [if_pos h3] at hR
        clear h3
        go_enter Try.func77, Try.ntmps77
        have hS0 : Below V3.heap.size V3 V3.drew := (Below.refl _ _).drew
        have h4V : V1.heap.size ≤ V3.heap.size := by omega
        have hS := hS0.mono h4V
        go_wp2_with fail
        refine plain_region (fun W' => Below (V1.heap.size) V3 W') 14 14 (by kernel_rfl) rfl ?_
        simp only [Array.replicate_succ, Array.replicate_zero, List.push_toArray, List.nil_append, List.cons_append]
        obtain ⟨X0, hXX0⟩ : ∃ X : World, V3.drew = X := ⟨_, rfl⟩
        rw [hXX0] at hS hS0 ⊢
        clear hXX0
        refine take_op 0 (v := ?r8v0) rfl (by kernel_rfl) (fun _ _ _ h => h) (by rfl) hS (fun w' hS' => ?r8y0) ?r8z0
        case r8y0 =>
          go_simp
          rfl
        simp only [List.setIfInBounds_toArray, List.set_cons_zero, List.set_cons_succ]
        refine take_op 1 (v := ?r8v1) rfl (by kernel_rfl) (fun _ _ _ h => h) (by rfl) hS (fun w' hS' => ?r8y1) ?r8z1
        case r8y1 =>
          go_simp
          rfl
        simp only [List.setIfInBounds_toArray, List.set_cons_zero, List.set_cons_succ]
        refine take_op 2 (v := ?r8v2) rfl (by kernel_rfl) (fun _ _ _ h => h) (by rfl) hS (fun w' hS' => ?r8y2) ?r8z2
        case r8y2 =>
          have fm0 := (k2.below hS' l24).cell (i := 0) rfl
          have fm1 := (k2.below hS' l24).cell (i := 1) rfl
          have fm2 := (k2.below hS' l24).cell (i := 2) rfl
          have fm3 := (k2.below hS' l24).cell (i := 3) rfl
          have fm4 := (k2.below hS' l24).cell (i := 4) rfl
          have fm5 := (k2.below hS' l24).cell (i := 5) rfl
          have fm6 := (k2.below hS' l24).cell (i := 6) rfl
          have fm7 := (k2.below hS' l24).cell (i := 7) rfl
          have fm8 := (k2.below hS' l24).cell (i := 8) rfl
          have fm9 := (k2.below hS' l24).cell (i := 9) rfl
          have fm10 := (k2.below hS' l24).cell (i := 10) rfl
          have fm11 := (k2.below hS' l24).cell (i := 11) rfl
          have fm12 := (k2.below hS' l24).cell (i := 12) rfl
          have fm13 := (k2.below hS' l24).cell (i := 13) rfl
          have fm14 := (k2.below hS' l24).cell (i := 14) rfl
          have fm15 := (k2.below hS' l24).cell (i := 15) rfl
          have fy0 := (hS'.cell (p := ⟨b, o + A * 3, none⟩) hbV4).trans y0
          have fy1 := (hS'.cell (p := ⟨b, o + A * 3 + 1, none⟩) hbV4).trans y1
          have fy2 := (hS'.cell (p := ⟨b, o + A * 3 + 2, none⟩) hbV4).trans y2
          clear hS'
          go_simp
          rfl
        simp only [List.setIfInBounds_toArray, List.set_cons_zero, List.set_cons_succ]
        refine take_op 3 (v := ?r8v3) rfl (by kernel_rfl) (fun _ _ _ h => h) (by rfl) hS (fun w' hS' => ?r8y3) ?r8z3
        case r8y3 =>
          go_simp
          try go_ints
          first
          | rfl
          | (rw [if_pos (by omega)]; done)
          | rw [if_pos ⟨by omega, by omega⟩]
        simp only [List.setIfInBounds_toArray, List.set_cons_zero, List.set_cons_succ]
        refine take_op 4 (v := ?r8v4) rfl (by kernel_rfl) (fun _ _ _ h => h) (by rfl) hS (fun w' hS' => ?r8y4) ?r8z4
        case r8y4 =>
          have fm0 := (k2.below hS' l24).cell (i := 0) rfl
          have fm1 := (k2.below hS' l24).cell (i := 1) rfl
          have fm2 := (k2.below hS' l24).cell (i := 2) rfl
          have fm3 := (k2.below hS' l24).cell (i := 3) rfl
          have fm4 := (k2.below hS' l24).cell (i := 4) rfl
          have fm5 := (k2.below hS' l24).cell (i := 5) rfl
          have fm6 := (k2.below hS' l24).cell (i := 6) rfl
          have fm7 := (k2.below hS' l24).cell (i := 7) rfl
          have fm8 := (k2.below hS' l24).cell (i := 8) rfl
          have fm9 := (k2.below hS' l24).cell (i := 9) rfl
          have fm10 := (k2.below hS' l24).cell (i := 10) rfl
          have fm11 := (k2.below hS' l24).cell (i := 11) rfl
          have fm12 := (k2.below hS' l24).cell (i := 12) rfl
          have fm13 := (k2.below hS' l24).cell (i := 13) rfl
          have fm14 := (k2.below hS' l24).cell (i := 14) rfl
          have fm15 := (k2.below hS' l24).cell (i := 15) rfl
          have fy0 := (hS'.cell (p := ⟨b, o + A * 3, none⟩) hbV4).trans y0
          have fy1 := (hS'.cell (p := ⟨b, o + A * 3 + 1, none⟩) hbV4).trans y1
          have fy2 := (hS'.cell (p := ⟨b, o + A * 3 + 2, none⟩) hbV4).trans y2
          clear hS'
          go_simp
          rfl
        simp only [List.setIfInBounds_toArray, List.set_cons_zero, List.set_cons_succ]
        refine take_op 5 (v := ?r8v5) rfl (by kernel_rfl) (fun _ _ _ h => h) (by rfl) hS (fun w' hS' => ?r8y5) ?r8z5
        case r8y5 =>
          go_simp
          rfl
        simp only [List.setIfInBounds_toArray, List.set_cons_zero, List.set_cons_succ]
        refine take_op 6 (v := ?r8v6) rfl (by kernel_rfl) (fun _ _ _ h => h) (by rfl) hS (fun w' hS' => ?r8y6) ?r8z6
        case r8y6 =>
          have fm0 := (k2.below hS' l24).cell (i := 0) rfl
          have fm1 := (k2.below hS' l24).cell (i := 1) rfl
          have fm2 := (k2.below hS' l24).cell (i := 2) rfl
          have fm3 := (k2.below hS' l24).cell (i := 3) rfl
          have fm4 := (k2.below hS' l24).cell (i := 4) rfl
          have fm5 := (k2.below hS' l24).cell (i := 5) rfl
          have fm6 := (k2.below hS' l24).cell (i := 6) rfl
          have fm7 := (k2.below hS' l24).cell (i := 7) rfl
          have fm8 := (k2.below hS' l24).cell (i := 8) rfl
          have fm9 := (k2.below hS' l24).cell (i := 9) rfl
          have fm10 := (k2.below hS' l24).cell (i := 10) rfl
          have fm11 := (k2.below hS' l24).cell (i := 11) rfl
          have fm12 := (k2.below hS' l24).cell (i := 12) rfl
          have fm13 := (k2.below hS' l24).cell (i := 13) rfl
          have fm14 := (k2.below hS' l24).cell (i := 14) rfl
          have fm15 := (k2.below hS' l24).cell (i := 15) rfl
          have fy0 := (hS'.cell (p := ⟨b, o + A * 3, none⟩) hbV4).trans y0
          have fy1 := (hS'.cell (p := ⟨b, o + A * 3 + 1, none⟩) hbV4).trans y1
          have fy2 := (hS'.cell (p := ⟨b, o + A * 3 + 2, none⟩) hbV4).trans y2
          clear hS'
          go_simp
          rfl
        simp only [List.setIfInBounds_toArray, List.set_cons_zero, List.set_cons_succ]
        refine take_op 7 (v := ?r8v7) rfl (by kernel_rfl) (fun _ _ _ h => h) (by rfl) hS (fun w' hS' => ?r8y7) ?r8z7
        case r8y7 =>
          go_simp
          rfl
        simp only [List.setIfInBounds_toArray, List.set_cons_zero, List.set_cons_succ]
        refine take_op 8 (v := ?r8v8) rfl (by kernel_rfl) (fun _ _ _ h => h) (by rfl) hS (fun w' hS' => ?r8y8) ?r8z8
        case r8y8 =>
          have fm0 := (k2.below hS' l24).cell (i := 0) rfl
          have fm1 := (k2.below hS' l24).cell (i := 1) rfl
          have fm2 := (k2.below hS' l24).cell (i := 2) rfl
          have fm3 := (k2.below hS' l24).cell (i := 3) rfl
          have fm4 := (k2.below hS' l24).cell (i := 4) rfl
          have fm5 := (k2.below hS' l24).cell (i := 5) rfl
          have fm6 := (k2.below hS' l24).cell (i := 6) rfl
          have fm7 := (k2.below hS' l24).cell (i := 7) rfl
          have fm8 := (k2.below hS' l24).cell (i := 8) rfl
          have fm9 := (k2.below hS' l24).cell (i := 9) rfl
          have fm10 := (k2.below hS' l24).cell (i := 10) rfl
          have fm11 := (k2.below hS' l24).cell (i := 11) rfl
          have fm12 := (k2.below hS' l24).cell (i := 12) rfl
          have fm13 := (k2.below hS' l24).cell (i := 13) rfl
          have fm14 := (k2.below hS' l24).cell (i := 14) rfl
          have fm15 := (k2.below hS' l24).cell (i := 15) rfl
          have fy0 := (hS'.cell (p := ⟨b, o + A * 3, none⟩) hbV4).trans y0
          have fy1 := (hS'.cell (p := ⟨b, o + A * 3 + 1, none⟩) hbV4).trans y1
          have fy2 := (hS'.cell (p := ⟨b, o + A * 3 + 2, none⟩) hbV4).trans y2
          clear hS'
          go_simp
          rfl
        simp only [List.setIfInBounds_toArray, List.set_cons_zero, List.set_cons_succ]
        refine step_op 9 (by kernel_rfl) rfl (fun K hK => ?_)
        rw [if_pos (by rfl)]
        go_simp
        have hc0 := hB.trans (hS0.mono hB.size)
        have hc := rConvolve_any mw mh pa pc l mx hlH s.kw s.kh ka kc tl s.taps htlH s.bd hbdr.1 hbdr.2 X0 hxl (later_i rA00 hc0) htl (later_i ht00 hc0)
        unfold RetIm at hc
        rw [hR] at hc
        refine hc.mono ?_
        clear hc
        rintro e X1 ⟨⟨v, rfl, t1, rfl, hrow⟩, hb⟩
        obtain ⟨qa, qc, rfl⟩ := row_slice hrow
        have hrowb := jrow_weaken hrow (show w.heap.size ≤ X0.heap.size by have := hS0.size; have := hB.size; omega)
        have hS1 : Below V3.heap.size V3 X1 := hS0.trans (hb.mono hS0.size)
        have hS1w := hS1.mono h4V
        clear hb hrow hc0
        refine hK.out _ _ (fun h => hS1w) ?_
        clear hK K
        try simp only [Act.put, List.setIfInBounds_toArray, List.set_cons_zero, List.set_cons_succ]
        refine take_op 10 (v := ?r8v10) rfl (by kernel_rfl) (fun _ _ _ h => h) (by rfl) hS1w (fun w' hS' => ?r8y10) ?r8z10
        case r8y10 =>
          go_simp
          rfl
        simp only [List.setIfInBounds_toArray, List.set_cons_zero, List.set_cons_succ]
        refine take_op 11 (v := ?r8v11) rfl (by kernel_rfl) (fun _ _ _ h => h) (by rfl) hS1w (fun w' hS' => ?r8y11) ?r8z11
        case r8y11 =>
          go_simp
          rfl
        simp only [List.setIfInBounds_toArray, List.set_cons_zero, List.set_cons_succ]
        refine take_op 12 (v := ?r8v12) rfl (by kernel_rfl) (fun _ _ _ h => h) (by rfl) hS1w (fun w' hS' => ?r8y12) ?r8z12
        case r8y12 =>
          go_simp
          rfl
        simp only [List.setIfInBounds_toArray, List.set_cons_zero, List.set_cons_succ]
        refine step_op 13 (by kernel_rfl) rfl (fun K hK => ?_)
        have kz := k5.below hS1 l5
        have z0 := kz.cell (i := 0) rfl
        have z1 := kz.cell (i := 1) rfl
        have z2 := kz.cell (i := 2) rfl
        have fz0 := kz.frozen 0
        have fz1 := kz.frozen 1
        have fz2 := kz.frozen 2
        have hS2 : Below (V1.heap.size) V3 (put3 X1 (V2.heap.size) (.int .i64 R.w) (.int .i64 R.h) (.slice qa R.px.length qc)) := hS1w.trans (put3_below (by omega) _ _ _)
        rw [if_pos (by rfl)]
        go_simp
        refine hK.out _ _ (fun h => hS2) ?_
        clear hK K
        try simp only [Act.put, List.setIfInBounds_toArray, List.set_cons_zero, List.set_cons_succ]
        refine done_ops (by kernel_rfl) ?_
        have k5w := put3_blk kz (.int .i64 R.w) (.int .i64 R.h) (.slice qa R.px.length qc)
        have k4w := (k4.below hS1 l4).kept (put3_grow2 X1 (V2.heap.size) (.int .i64 R.w) (.int .i64 R.h) (.slice qa R.px.length qc)) (by simp; omega)
        have roww := row_put3b hrowb (kz.not_row (by decide) hrowb) (.int .i64 R.w) (.int .i64 R.h) (.slice qa R.px.length qc)
        have hBw : Below w.heap.size w (put3 X1 (V2.heap.size) (.int .i64 R.w) (.int .i64 R.h) (.slice qa R.px.length qc)) := (hB.trans (hS1.mono hB.size)).trans (put3_below hle5 _ _ _)
        clear hrowb kz hS1 z0 z1 z2 fz0 fz1 fz2 k2 k4 k5
        obtain ⟨X9, hX9⟩ : ∃ X, put3 X1 (V2.heap.size) (.int .i64 R.w) (.int .i64 R.h) (.slice qa R.px.length qc) = X := ⟨_, rfl⟩
        rw [hX9] at k5w k4w roww hBw
        try rw [hX9]
        try simp only [hX9]
        have z0 := k4w.cell (i := 0) rfl
        have z1 := k4w.cell (i := 1) rfl
        have z2 := k4w.cell (i := 2) rfl
        have fz0 := k4w.frozen 0
        have fz1 := k4w.frozen 1
        have fz2 := k4w.frozen 2
        have q0 := k5w.cell (i := 0) rfl
        have q1 := k5w.cell (i := 1) rfl
        have q2 := k5w.cell (i := 2) rfl
        have kf := put3_blk k4w (.int .i64 R.w) (.int .i64 R.h) (.slice qa R.px.length qc)
        have rowf := row_put3b roww (k4w.not_row (by decide) roww) (.int .i64 R.w) (.int .i64 R.h) (.slice qa R.px.length qc)
        have hbf : Below w.heap.size w (put3 X9 (V1.heap.size) (.int .i64 R.w) (.int .i64 R.h) (.slice qa R.px.length qc)) := hBw.trans (put3_below hle4 _ _ _)
        have g0 := kf.cell (i := 0) rfl
        have g1 := kf.cell (i := 1) rfl
        have g2 := kf.cell (i := 2) rfl
        go_wp2_with fail
        exact bodyPost_ret (v := .agg #[.int .i64 R.w, .int .i64 R.h, .slice qa R.px.length qc]) (by simp [results, Try.results77, go_sem, g0, g1, g2]) rfl ⟨⟨_, rfl, _, rfl, rowf⟩, hbf⟩
      case neg =>
        have f3 : (s.op == 3) = false := by simp [h3]
        rw [if_neg h3] at hR
        clear h3
        by_cases h4 : s.op = 4
        case pos =>
          have f4 : (s.op == 4) = true := by simp [h4]
          rw [if_pos h4] at hR
          clear h4
          go_enter Try.func77, Try.ntmps77
          have hS0 : Below V3.heap.size V3 V3.drew := (Below.refl _ _).drew
          have h4V : V1.heap.size ≤ V3.heap.size := by omega
          have hS := hS0.mono h4V
          go_wp2_with fail
          refine plain_region (fun W' => Below (V1.heap.size) V3 W') 12 12 (by kernel_rfl) rfl ?_
          simp only [Array.replicate_succ, Array.replicate_zero, List.push_toArray, List.nil_append, List.cons_append]
          obtain ⟨X0, hXX0⟩ : ∃ X : World, V3.drew = X := ⟨_, rfl⟩
          rw [hXX0] at hS hS0 ⊢
          clear hXX0
          refine take_op 0 (v := ?r10v0) rfl (by kernel_rfl) (fun _ _ _ h => h) (by rfl) hS (fun w' hS' => ?r10y0) ?r10z0
          case r10y0 =>
            go_simp
            rfl
          simp only [List.setIfInBounds_toArray, List.set_cons_zero, List.set_cons_succ]
          refine take_op 1 (v := ?r10v1) rfl (by kernel_rfl) (fun _ _ _ h => h) (by rfl) hS (fun w' hS' => ?r10y1) ?r10z1
          case r10y1 =>
            go_simp
            rfl
          simp only [List.setIfInBounds_toArray, List.set_cons_zero, List.set_cons_succ]
          refine take_op 2 (v := ?r10v2) rfl (by kernel_rfl) (fun _ _ _ h => h) (by rfl) hS (fun w' hS' => ?r10y2) ?r10z2
          case r10y2 =>
            have fm0 := (k2.below hS' l24).cell (i := 0) rfl
            have fm1 := (k2.below hS' l24).cell (i := 1) rfl
            have fm2 := (k2.below hS' l24).cell (i := 2) rfl
            have fm3 := (k2.below hS' l24).cell (i := 3) rfl
            have fm4 := (k2.below hS' l24).cell (i := 4) rfl
            have fm5 := (k2.below hS' l24).cell (i := 5) rfl
            have fm6 := (k2.below hS' l24).cell (i := 6) rfl
            have fm7 := (k2.below hS' l24).cell (i := 7) rfl
            have fm8 := (k2.below hS' l24).cell (i := 8) rfl
            have fm9 := (k2.below hS' l24).cell (i := 9) rfl
            have fm10 := (k2.below hS' l24).cell (i := 10) rfl
            have fm11 := (k2.below hS' l24).cell (i := 11) rfl
            have fm12 := (k2.below hS' l24).cell (i := 12) rfl
            have fm13 := (k2.below hS' l24).cell (i := 13) rfl
            have fm14 := (k2.below hS' l24).cell (i := 14) rfl
            have fm15 := (k2.below hS' l24).cell (i := 15) rfl
            have fy0 := (hS'.cell (p := ⟨b, o + A * 3, none⟩) hbV4).trans y0
            have fy1 := (hS'.cell (p := ⟨b, o + A * 3 + 1, none⟩) hbV4).trans y1
            have fy2 := (hS'.cell (p := ⟨b, o + A * 3 + 2, none⟩) hbV4).trans y2
            clear hS'
            go_simp
            rfl
          simp only [List.setIfInBounds_toArray, List.set_cons_zero, List.set_cons_succ]
          refine take_op 3 (v := ?r10v3) rfl (by kernel_rfl) (fun _ _ _ h => h) (by rfl) hS (fun w' hS' => ?r10y3) ?r10z3
          case r10y3 =>
            go_simp
            try go_ints
            first
            | rfl
            | (rw [if_pos (by omega)]; done)
            | rw [if_pos ⟨by omega, by omega⟩]
          simp only [List.setIfInBounds_toArray, List.set_cons_zero, List.set_cons_succ]
          refine take_op 4 (v := ?r10v4) rfl (by kernel_rfl) (fun _ _ _ h => h) (by rfl) hS (fun w' hS' => ?r10y4) ?r10z4
          case r10y4 =>
            have fm0 := (k2.below hS' l24).cell (i := 0) rfl
            have fm1 := (k2.below hS' l24).cell (i := 1) rfl
            have fm2 := (k2.below hS' l24).cell (i := 2) rfl
            have fm3 := (k2.below hS' l24).cell (i := 3) rfl
            have fm4 := (k2.below hS' l24).cell (i := 4) rfl
            have fm5 := (k2.below hS' l24).cell (i := 5) rfl
            have fm6 := (k2.below hS' l24).cell (i := 6) rfl
            have fm7 := (k2.below hS' l24).cell (i := 7) rfl
            have fm8 := (k2.below hS' l24).cell (i := 8) rfl
            have fm9 := (k2.below hS' l24).cell (i := 9) rfl
            have fm10 := (k2.below hS' l24).cell (i := 10) rfl
            have fm11 := (k2.below hS' l24).cell (i := 11) rfl
            have fm12 := (k2.below hS' l24).cell (i := 12) rfl
            have fm13 := (k2.below hS' l24).cell (i := 13) rfl
            have fm14 := (k2.below hS' l24).cell (i := 14) rfl
            have fm15 := (k2.below hS' l24).cell (i := 15) rfl
            have fy0 := (hS'.cell (p := ⟨b, o + A * 3, none⟩) hbV4).trans y0
            have fy1 := (hS'.cell (p := ⟨b, o + A * 3 + 1, none⟩) hbV4).trans y1
            have fy2 := (hS'.cell (p := ⟨b, o + A * 3 + 2, none⟩) hbV4).trans y2
            clear hS'
            go_simp
            rfl
          simp only [List.setIfInBounds_toArray, List.set_cons_zero, List.set_cons_succ]
          refine take_op 5 (v := ?r10v5) rfl (by kernel_rfl) (fun _ _ _ h => h) (by rfl) hS (fun w' hS' => ?r10y5) ?r10z5
          case r10y5 =>
            go_simp
            rfl
          simp only [List.setIfInBounds_toArray, List.set_cons_zero, List.set_cons_succ]
          refine take_op 6 (v := ?r10v6) rfl (by kernel_rfl) (fun _ _ _ h => h) (by rfl) hS (fun w' hS' => ?r10y6) ?r10z6
          case r10y6 =>
            have fm0 := (k2.below hS' l24).cell (i := 0) rfl
            have fm1 := (k2.below hS' l24).cell (i := 1) rfl
            have fm2 := (k2.below hS' l24).cell (i := 2) rfl
            have fm3 := (k2.below hS' l24).cell (i := 3) rfl
            have fm4 := (k2.below hS' l24).cell (i := 4) rfl
            have fm5 := (k2.below hS' l24).cell (i := 5) rfl
            have fm6 := (k2.below hS' l24).cell (i := 6) rfl
            have fm7 := (k2.below hS' l24).cell (i := 7) rfl
            have fm8 := (k2.below hS' l24).cell (i := 8) rfl
            have fm9 := (k2.below hS' l24).cell (i := 9) rfl
            have fm10 := (k2.below hS' l24).cell (i := 10) rfl
            have fm11 := (k2.below hS' l24).cell (i := 11) rfl
            have fm12 := (k2.below hS' l24).cell (i := 12) rfl
            have fm13 := (k2.below hS' l24).cell (i := 13) rfl
            have fm14 := (k2.below hS' l24).cell (i := 14) rfl
            have fm15 := (k2.below hS' l24).cell (i := 15) rfl
            have fy0 := (hS'.cell (p := ⟨b, o + A * 3, none⟩) hbV4).trans y0
            have fy1 := (hS'.cell (p := ⟨b, o + A * 3 + 1, none⟩) hbV4).trans y1
            have fy2 := (hS'.cell (p := ⟨b, o + A * 3 + 2, none⟩) hbV4).trans y2
            clear hS'
            go_simp
            rfl
          simp only [List.setIfInBounds_toArray, List.set_cons_zero, List.set_cons_succ]
          refine step_op 7 (by kernel_rfl) rfl (fun K hK => ?_)
          rw [if_pos (by rfl)]
          go_simp
          have hc0 := hB.trans (hS0.mono hB.size)
          have hc := rDilate_any mw mh pa pc l mx hlH s.sw s.sh sa sc bl s.bits hblH X0 hxl (later_i rA00 hc0) hbl ((hbt00.below (Nat.le_refl _) hc0).mono hc0.size)
          unfold RetIm at hc
          rw [hR] at hc
          refine hc.mono ?_
          clear hc
          rintro e X1 ⟨⟨v, rfl, t1, rfl, hrow⟩, hb⟩
          obtain ⟨qa, qc, rfl⟩ := row_slice hrow
          have hrowb := jrow_weaken hrow (show w.heap.size ≤ X0.heap.size by have := hS0.size; have := hB.size; omega)
          have hS1 : Below V3.heap.size V3 X1 := hS0.trans (hb.mono hS0.size)
          have hS1w := hS1.mono h4V
          clear hb hrow hc0
          refine hK.out _ _ (fun h => hS1w) ?_
          clear hK K
          try simp only [Act.put, List.setIfInBounds_toArray, List.set_cons_zero, List.set_cons_succ]
          refine take_op 8 (v := ?r10v8) rfl (by kernel_rfl) (fun _ _ _ h => h) (by rfl) hS1w (fun w' hS' => ?r10y8) ?r10z8
          case r10y8 =>
            go_simp
            rfl
          simp only [List.setIfInBounds_toArray, List.set_cons_zero, List.set_cons_succ]
          refine take_op 9 (v := ?r10v9) rfl (by kernel_rfl) (fun _ _ _ h => h) (by rfl) hS1w (fun w' hS' => ?r10y9) ?r10z9
          case r10y9 =>
            go_simp
            rfl
          simp only [List.setIfInBounds_toArray, List.set_cons_zero, List.set_cons_succ]
          refine take_op 10 (v := ?r10v10) rfl (by kernel_rfl) (fun _ _ _ h => h) (by rfl) hS1w (fun w' hS' => ?r10y10) ?r10z10
          case r10y10 =>
            go_simp
            rfl
          simp only [List.setIfInBounds_toArray, List.set_cons_zero, List.set_cons_succ]
          refine step_op 11 (by kernel_rfl) rfl (fun K hK => ?_)
          have kz := k5.below hS1 l5
          have z0 := kz.cell (i := 0) rfl
          have z1 := kz.cell (i := 1) rfl
          have z2 := kz.cell (i := 2) rfl
          have fz0 := kz.frozen 0
          have fz1 := kz.frozen 1
          have fz2 := kz.frozen 2
          have hS2 : Below (V1.heap.size) V3 (put3 X1 (V2.heap.size) (.int .i64 R.w) (.int .i64 R.h) (.slice qa R.px.length qc)) := hS1w.trans (put3_below (by omega) _ _ _)
          rw [if_pos (by rfl)]
          go_simp
          refine hK.out _ _ (fun h => hS2) ?_
          clear hK K
          try simp only [Act.put, List.setIfInBounds_toArray, List.set_cons_zero, List.set_cons_succ]
          refine done_ops (by kernel_rfl) ?_
          have k5w := put3_blk kz (.int .i64 R.w) (.int .i64 R.h) (.slice qa R.px.length qc)
          have k4w := (k4.below hS1 l4).kept (put3_grow2 X1 (V2.heap.size) (.int .i64 R.w) (.int .i64 R.h) (.slice qa R.px.length qc)) (by simp; omega)
          have roww := row_put3b hrowb (kz.not_row (by decide) hrowb) (.int .i64 R.w) (.int .i64 R.h) (.slice qa R.px.length qc)
          have hBw : Below w.heap.size w (put3 X1 (V2.heap.size) (.int .i64 R.w) (.int .i64 R.h) (.slice qa R.px.length qc)) := (hB.trans (hS1.mono hB.size)).trans (put3_below hle5 _ _ _)
          clear hrowb kz hS1 z0 z1 z2 fz0 fz1 fz2 k2 k4 k5
          obtain ⟨X9, hX9⟩ : ∃ X, put3 X1 (V2.heap.size) (.int .i64 R.w) (.int .i64 R.h) (.slice qa R.px.length qc) = X := ⟨_, rfl⟩
          rw [hX9] at k5w k4w roww hBw
          try rw [hX9]
          try simp only [hX9]
          have z0 := k4w.cell (i := 0) rfl
          have z1 := k4w.cell (i := 1) rfl
          have z2 := k4w.cell (i := 2) rfl
          have fz0 := k4w.frozen 0
          have fz1 := k4w.frozen 1
          have fz2 := k4w.frozen 2
          have q0 := k5w.cell (i := 0) rfl
          have q1 := k5w.cell (i := 1) rfl
          have q2 := k5w.cell (i := 2) rfl
          have kf := put3_blk k4w (.int .i64 R.w) (.int .i64 R.h) (.slice qa R.px.length qc)
          have rowf := row_put3b roww (k4w.not_row (by decide) roww) (.int .i64 R.w) (.int .i64 R.h) (.slice qa R.px.length qc)
          have hbf : Below w.heap.size w (put3 X9 (V1.heap.size) (.int .i64 R.w) (.int .i64 R.h) (.slice qa R.px.length qc)) := hBw.trans (put3_below hle4 _ _ _)
          have g0 := kf.cell (i := 0) rfl
          have g1 := kf.cell (i := 1) rfl
          have g2 := kf.cell (i := 2) rfl
          go_wp2_with fail
          exact bodyPost_ret (v := .agg #[.int .i64 R.w, .int .i64 R.h, .slice qa R.px.length qc]) (by simp [results, Try.results77, go_sem, g0, g1, g2]) rfl ⟨⟨_, rfl, _, rfl, rowf⟩, hbf⟩
        case neg =>
          have f4 : (s.op == 4) = false := by simp [h4]
          rw [if_neg h4] at hR
          clear h4
          by_cases h5 : s.op = 5
          case pos =>
            have f5 : (s.op == 5) = true := by simp [h5]
            rw [if_pos h5] at hR
            clear h5
            go_enter Try.func77, Try.ntmps77
            have hS0 : Below V3.heap.size V3 V3.drew := (Below.refl _ _).drew
            have h4V : V1.heap.size ≤ V3.heap.size := by omega
            have hS := hS0.mono h4V
            go_wp2_with fail
            refine plain_region (fun W' => Below (V1.heap.size) V3 W') 12 12 (by kernel_rfl) rfl ?_
            simp only [Array.replicate_succ, Array.replicate_zero, List.push_toArray, List.nil_append, List.cons_append]
            obtain ⟨X0, hXX0⟩ : ∃ X : World, V3.drew = X := ⟨_, rfl⟩
            rw [hXX0] at hS hS0 ⊢
            clear hXX0
            refine take_op 0 (v := ?r12v0) rfl (by kernel_rfl) (fun _ _ _ h => h) (by rfl) hS (fun w' hS' => ?r12y0) ?r12z0
            case r12y0 =>
              go_simp
              rfl
            simp only [List.setIfInBounds_toArray, List.set_cons_zero, List.set_cons_succ]
            refine take_op 1 (v := ?r12v1) rfl (by kernel_rfl) (fun _ _ _ h => h) (by rfl) hS (fun w' hS' => ?r12y1) ?r12z1
            case r12y1 =>
              go_simp
              rfl
            simp only [List.setIfInBounds_toArray, List.set_cons_zero, List.set_cons_succ]
            refine take_op 2 (v := ?r12v2) rfl (by kernel_rfl) (fun _ _ _ h => h) (by rfl) hS (fun w' hS' => ?r12y2) ?r12z2
            case r12y2 =>
              have fm0 := (k2.below hS' l24).cell (i := 0) rfl
              have fm1 := (k2.below hS' l24).cell (i := 1) rfl
              have fm2 := (k2.below hS' l24).cell (i := 2) rfl
              have fm3 := (k2.below hS' l24).cell (i := 3) rfl
              have fm4 := (k2.below hS' l24).cell (i := 4) rfl
              have fm5 := (k2.below hS' l24).cell (i := 5) rfl
              have fm6 := (k2.below hS' l24).cell (i := 6) rfl
              have fm7 := (k2.below hS' l24).cell (i := 7) rfl
              have fm8 := (k2.below hS' l24).cell (i := 8) rfl
              have fm9 := (k2.below hS' l24).cell (i := 9) rfl
              have fm10 := (k2.below hS' l24).cell (i := 10) rfl
              have fm11 := (k2.below hS' l24).cell (i := 11) rfl
              have fm12 := (k2.below hS' l24).cell (i := 12) rfl
              have fm13 := (k2.below hS' l24).cell (i := 13) rfl
              have fm14 := (k2.below hS' l24).cell (i := 14) rfl
              have fm15 := (k2.below hS' l24).cell (i := 15) rfl
              have fy0 := (hS'.cell (p := ⟨b, o + A * 3, none⟩) hbV4).trans y0
              have fy1 := (hS'.cell (p := ⟨b, o + A * 3 + 1, none⟩) hbV4).trans y1
              have fy2 := (hS'.cell (p := ⟨b, o + A * 3 + 2, none⟩) hbV4).trans y2
              clear hS'
              go_simp
              rfl
            simp only [List.setIfInBounds_toArray, List.set_cons_zero, List.set_cons_succ]
            refine take_op 3 (v := ?r12v3) rfl (by kernel_rfl) (fun _ _ _ h => h) (by rfl) hS (fun w' hS' => ?r12y3) ?r12z3
            case r12y3 =>
              go_simp
              try go_ints
              first
              | rfl
              | (rw [if_pos (by omega)]; done)
              | rw [if_pos ⟨by omega, by omega⟩]
            simp only [List.setIfInBounds_toArray, List.set_cons_zero, List.set_cons_succ]
            refine take_op 4 (v := ?r12v4) rfl (by kernel_rfl) (fun _ _ _ h => h) (by rfl) hS (fun w' hS' => ?r12y4) ?r12z4
            case r12y4 =>
              have fm0 := (k2.below hS' l24).cell (i := 0) rfl
              have fm1 := (k2.below hS' l24).cell (i := 1) rfl
              have fm2 := (k2.below hS' l24).cell (i := 2) rfl
              have fm3 := (k2.below hS' l24).cell (i := 3) rfl
              have fm4 := (k2.below hS' l24).cell (i := 4) rfl
              have fm5 := (k2.below hS' l24).cell (i := 5) rfl
              have fm6 := (k2.below hS' l24).cell (i := 6) rfl
              have fm7 := (k2.below hS' l24).cell (i := 7) rfl
              have fm8 := (k2.below hS' l24).cell (i := 8) rfl
              have fm9 := (k2.below hS' l24).cell (i := 9) rfl
              have fm10 := (k2.below hS' l24).cell (i := 10) rfl
              have fm11 := (k2.below hS' l24).cell (i := 11) rfl
              have fm12 := (k2.below hS' l24).cell (i := 12) rfl
              have fm13 := (k2.below hS' l24).cell (i := 13) rfl
              have fm14 := (k2.below hS' l24).cell (i := 14) rfl
              have fm15 := (k2.below hS' l24).cell (i := 15) rfl
              have fy0 := (hS'.cell (p := ⟨b, o + A * 3, none⟩) hbV4).trans y0
              have fy1 := (hS'.cell (p := ⟨b, o + A * 3 + 1, none⟩) hbV4).trans y1
              have fy2 := (hS'.cell (p := ⟨b, o + A * 3 + 2, none⟩) hbV4).trans y2
              clear hS'
              go_simp
              rfl
            simp only [List.setIfInBounds_toArray, List.set_cons_zero, List.set_cons_succ]
            refine take_op 5 (v := ?r12v5) rfl (by kernel_rfl) (fun _ _ _ h => h) (by rfl) hS (fun w' hS' => ?r12y5) ?r12z5
            case r12y5 =>
              go_simp
              rfl
            simp only [List.setIfInBounds_toArray, List.set_cons_zero, List.set_cons_succ]
            refine take_op 6 (v := ?r12v6) rfl (by kernel_rfl) (fun _ _ _ h => h) (by rfl) hS (fun w' hS' => ?r12y6) ?r12z6
            case r12y6 =>
              have fm0 := (k2.below hS' l24).cell (i := 0) rfl
              have fm1 := (k2.below hS' l24).cell (i := 1) rfl
              have fm2 := (k2.below hS' l24).cell (i := 2) rfl
              have fm3 := (k2.below hS' l24).cell (i := 3) rfl
              have fm4 := (k2.below hS' l24).cell (i := 4) rfl
              have fm5 := (k2.below hS' l24).cell (i := 5) rfl
              have fm6 := (k2.below hS' l24).cell (i := 6) rfl
              have fm7 := (k2.below hS' l24).cell (i := 7) rfl
              have fm8 := (k2.below hS' l24).cell (i := 8) rfl
              have fm9 := (k2.below hS' l24).cell (i := 9) rfl
              have fm10 := (k2.below hS' l24).cell (i := 10) rfl
              have fm11 := (k2.below hS' l24).cell (i := 11) rfl
              have fm12 := (k2.below hS' l24).cell (i := 12) rfl
              have fm13 := (k2.below hS' l24).cell (i := 13) rfl
              have fm14 := (k2.below hS' l24).cell (i := 14) rfl
              have fm15 := (k2.below hS' l24).cell (i := 15) rfl
              have fy0 := (hS'.cell (p := ⟨b, o + A * 3, none⟩) hbV4).trans y0
              have fy1 := (hS'.cell (p := ⟨b, o + A * 3 + 1, none⟩) hbV4).trans y1
              have fy2 := (hS'.cell (p := ⟨b, o + A * 3 + 2, none⟩) hbV4).trans y2
              clear hS'
              go_simp
              rfl
            simp only [List.setIfInBounds_toArray, List.set_cons_zero, List.set_cons_succ]
            refine step_op 7 (by kernel_rfl) rfl (fun K hK => ?_)
            rw [if_pos (by rfl)]
            go_simp
            have hc0 := hB.trans (hS0.mono hB.size)
            have hc := rErode_any mw mh pa pc l mx hlH s.sw s.sh sa sc bl s.bits hblH X0 hxl (later_i rA00 hc0) hbl ((hbt00.below (Nat.le_refl _) hc0).mono hc0.size)
            unfold RetIm at hc
            rw [hR] at hc
            refine hc.mono ?_
            clear hc
            rintro e X1 ⟨⟨v, rfl, t1, rfl, hrow⟩, hb⟩
            obtain ⟨qa, qc, rfl⟩ := row_slice hrow
            have hrowb := jrow_weaken hrow (show w.heap.size ≤ X0.heap.size by have := hS0.size; have := hB.size; omega)
            have hS1 : Below V3.heap.size V3 X1 := hS0.trans (hb.mono hS0.size)
            have hS1w := hS1.mono h4V
            clear hb hrow hc0
            refine hK.out _ _ (fun h => hS1w) ?_
            clear hK K
            try simp only [Act.put, List.setIfInBounds_toArray, List.set_cons_zero, List.set_cons_succ]
            refine take_op 8 (v := ?r12v8) rfl (by kernel_rfl) (fun _ _ _ h => h) (by rfl) hS1w (fun w' hS' => ?r12y8) ?r12z8
            case r12y8 =>
              go_simp
              rfl
            simp only [List.setIfInBounds_toArray, List.set_cons_zero, List.set_cons_succ]
            refine take_op 9 (v := ?r12v9) rfl (by kernel_rfl) (fun _ _ _ h => h) (by rfl) hS1w (fun w' hS' => ?r12y9) ?r12z9
            case r12y9 =>
              go_simp
              rfl
            simp only [List.setIfInBounds_toArray, List.set_cons_zero, List.set_cons_succ]
            refine take_op 10 (v := ?r12v10) rfl (by kernel_rfl) (fun _ _ _ h => h) (by rfl) hS1w (fun w' hS' => ?r12y10) ?r12z10
            case r12y10 =>
              go_simp
              rfl
            simp only [List.setIfInBounds_toArray, List.set_cons_zero, List.set_cons_succ]
            refine step_op 11 (by kernel_rfl) rfl (fun K hK => ?_)
            have kz := k5.below hS1 l5
            have z0 := kz.cell (i := 0) rfl
            have z1 := kz.cell (i := 1) rfl
            have z2 := kz.cell (i := 2) rfl
            have fz0 := kz.frozen 0
            have fz1 := kz.frozen 1
            have fz2 := kz.frozen 2
            have hS2 : Below (V1.heap.size) V3 (put3 X1 (V2.heap.size) (.int .i64 R.w) (.int .i64 R.h) (.slice qa R.px.length qc)) := hS1w.trans (put3_below (by omega) _ _ _)
            rw [if_pos (by rfl)]
            go_simp
            refine hK.out _ _ (fun h => hS2) ?_
            clear hK K
            try simp only [Act.put, List.setIfInBounds_toArray, List.set_cons_zero, List.set_cons_succ]
            refine done_ops (by kernel_rfl) ?_
            have k5w := put3_blk kz (.int .i64 R.w) (.int .i64 R.h) (.slice qa R.px.length qc)
            have k4w := (k4.below hS1 l4).kept (put3_grow2 X1 (V2.heap.size) (.int .i64 R.w) (.int .i64 R.h) (.slice qa R.px.length qc)) (by simp; omega)
            have roww := row_put3b hrowb (kz.not_row (by decide) hrowb) (.int .i64 R.w) (.int .i64 R.h) (.slice qa R.px.length qc)
            have hBw : Below w.heap.size w (put3 X1 (V2.heap.size) (.int .i64 R.w) (.int .i64 R.h) (.slice qa R.px.length qc)) := (hB.trans (hS1.mono hB.size)).trans (put3_below hle5 _ _ _)
            clear hrowb kz hS1 z0 z1 z2 fz0 fz1 fz2 k2 k4 k5
            obtain ⟨X9, hX9⟩ : ∃ X, put3 X1 (V2.heap.size) (.int .i64 R.w) (.int .i64 R.h) (.slice qa R.px.length qc) = X := ⟨_, rfl⟩
            rw [hX9] at k5w k4w roww hBw
            try rw [hX9]
            try simp only [hX9]
            have z0 := k4w.cell (i := 0) rfl
            have z1 := k4w.cell (i := 1) rfl
            have z2 := k4w.cell (i := 2) rfl
            have fz0 := k4w.frozen 0
            have fz1 := k4w.frozen 1
            have fz2 := k4w.frozen 2
            have q0 := k5w.cell (i := 0) rfl
            have q1 := k5w.cell (i := 1) rfl
            have q2 := k5w.cell (i := 2) rfl
            have kf := put3_blk k4w (.int .i64 R.w) (.int .i64 R.h) (.slice qa R.px.length qc)
            have rowf := row_put3b roww (k4w.not_row (by decide) roww) (.int .i64 R.w) (.int .i64 R.h) (.slice qa R.px.length qc)
            have hbf : Below w.heap.size w (put3 X9 (V1.heap.size) (.int .i64 R.w) (.int .i64 R.h) (.slice qa R.px.length qc)) := hBw.trans (put3_below hle4 _ _ _)
            have g0 := kf.cell (i := 0) rfl
            have g1 := kf.cell (i := 1) rfl
            have g2 := kf.cell (i := 2) rfl
            go_wp2_with fail
            exact bodyPost_ret (v := .agg #[.int .i64 R.w, .int .i64 R.h, .slice qa R.px.length qc]) (by simp [results, Try.results77, go_sem, g0, g1, g2]) rfl ⟨⟨_, rfl, _, rfl, rowf⟩, hbf⟩
          case neg =>
            have f5 : (s.op == 5) = false := by simp [h5]
            rw [if_neg h5] at hR
            clear h5
            subst hR
            have k4w := k4
            have k5w := k5
            have roww := World.ownsRow_nil V3 w.heap.size 3 1
            have hBw := hB
            go_enter Try.func77, Try.ntmps77
            have z0 := k4w.cell (i := 0) rfl
            have z1 := k4w.cell (i := 1) rfl
            have z2 := k4w.cell (i := 2) rfl
            have fz0 := k4w.frozen 0
            have fz1 := k4w.frozen 1
            have fz2 := k4w.frozen 2
            have q0 := k5w.cell (i := 0) rfl
            have q1 := k5w.cell (i := 1) rfl
            have q2 := k5w.cell (i := 2) rfl
            have kf := put3_blk k4w (.int .i64 0) (.int .i64 0) (.slice none 0 0)
            have rowf := row_put3b roww (k4w.not_row (by decide) roww) (.int .i64 0) (.int .i64 0) (.slice none 0 0)
            have hbf : Below w.heap.size w (put3 V3 (V1.heap.size) (.int .i64 0) (.int .i64 0) (.slice none 0 0)) := hBw.trans (put3_below hle4 _ _ _)
            have g0 := kf.cell (i := 0) rfl
            have g1 := kf.cell (i := 1) rfl
            have g2 := kf.cell (i := 2) rfl
            go_wp2_with fail
            exact bodyPost_ret (v := .agg #[.int .i64 0, .int .i64 0, .slice none 0 0]) (by simp [results, Try.results77, go_sem, g0, g1, g2]) rfl ⟨⟨_, rfl, _, rfl, rowf⟩, hbf⟩

end Go.Proofs.Ytekiemlniegddaa

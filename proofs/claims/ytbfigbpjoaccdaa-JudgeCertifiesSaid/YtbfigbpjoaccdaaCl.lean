/- Verdicts, and both Classify. -/
import Derived.Test.YtbfigbpjoaccdaaSc
import Derived.Test.YtbfigbpjoaccdaaBo
namespace Go.Proofs.Ytbfigbpjoaccdaa
open Go Go.RowKit Go.Shelf
set_option linter.unusedVariables false
set_option linter.unusedSimpArgs false

set_option maxRecDepth 100000 in
set_option maxHeartbeats 2000000 in
theorem verdict_any (N : NetN) (na : Option Addr) (nn nc : Nat) (lo hi : Int) (w : World) :
    Calls Try.prog 27 #[netv N na nn nc, .agg #[.int .i64 lo, .int .i64 hi]] w fun e w' => e = .returned (.int .u8 ((verdB N.low N.high lo hi : Nat) : Int)) ∧ Below w.heap.size w w' := by
  obtain ⟨W, H, GX, GY, Ls, low, high⟩ := N
  simp only
  have hB1 : Below w.heap.size w (w.alloc (.cells #[.int .i64 W, .int .i64 H, .int .i64 GX, .int .i64 GY, .slice na nn nc, .int .i64 low, .int .i64 high] 24)) := jb_al (Below.refl _ w) _
  have hB2 := jb_al hB1 (.cells #[.int .i64 lo, .int .i64 hi] 69)
  by_cases h1 : high ≤ lo
  · have hv := Lib.hid (show verdB low high lo hi = 1 by unfold verdB; rw [if_pos h1])
    go_enter Try.func27, Try.ntmps27
    go_wp2_with fail
    go_ret
    exact ⟨by rw [hv.out]; rfl, hB2⟩
  · by_cases h2 : hi ≤ low
    · have hv := Lib.hid (show verdB low high lo hi = 2 by unfold verdB; rw [if_neg h1, if_pos h2])
      go_enter Try.func27, Try.ntmps27
      go_wp2_with fail
      go_ret
      exact ⟨by rw [hv.out]; rfl, hB2⟩
    · have hv := Lib.hid (show verdB low high lo hi = 3 by unfold verdB; rw [if_neg h1, if_neg h2])
      go_enter Try.func27, Try.ntmps27
      go_wp2_with fail
      go_ret
      exact ⟨by rw [hv.out]; rfl, hB2⟩
set_option maxRecDepth 100000 in
set_option maxHeartbeats 2000000 in
theorem Judged_any (N : NetN) (na : Option Addr) (nn nc : Nat) (lo hi : Int) (w : World) :
    Calls Try.prog 29 #[netv N na nn nc, .int .i64 lo, .int .i64 hi] w fun e w' => e = .returned (.int .u8 ((verdB N.low N.high lo hi : Nat) : Int)) ∧ Below w.heap.size w w' := by
  obtain ⟨W, H, GX, GY, Ls, low, high⟩ := N
  simp only
  have hB1 : Below w.heap.size w (w.alloc (.cells #[.int .i64 W, .int .i64 H, .int .i64 GX, .int .i64 GY, .slice na nn nc, .int .i64 low, .int .i64 high] 24)) := jb_al (Below.refl _ w) _
  have hB2 := hB1
  by_cases h1 : high ≤ lo
  · have hv := Lib.hid (show verdB low high lo hi = 1 by unfold verdB; rw [if_pos h1])
    go_enter Try.func29, Try.ntmps29
    go_wp2_with fail
    go_ret
    exact ⟨by rw [hv.out]; rfl, hB2⟩
  · by_cases h2 : hi ≤ low
    · have hv := Lib.hid (show verdB low high lo hi = 2 by unfold verdB; rw [if_neg h1, if_pos h2])
      go_enter Try.func29, Try.ntmps29
      go_wp2_with fail
      go_ret
      exact ⟨by rw [hv.out]; rfl, hB2⟩
    · have hv := Lib.hid (show verdB low high lo hi = 3 by unfold verdB; rw [if_neg h1, if_neg h2])
      go_enter Try.func29, Try.ntmps29
      go_wp2_with fail
      go_ret
      exact ⟨by rw [hv.out]; rfl, hB2⟩
theorem take_map_i {xs : List Int} {k : Nat} (hk : k < xs.length) {x : Int} (hx : xs[k]?.getD 0 = x) : (xs.take k).map (Value.int .i64) ++ [Value.int .i64 x] = (xs.take (k + 1)).map (Value.int .i64) := by
  rw [List.take_succ_eq_append_getElem hk, List.map_append, ← hx, List.getElem?_eq_getElem hk]; rfl
theorem dup_fst (x : List Int) : (dupL x).map (·.1) = x := by
  unfold dupL; rw [List.map_map]; exact List.map_id' x
theorem dup_snd (x : List Int) : (dupL x).map (·.2) = x := by
  unfold dupL; rw [List.map_map]; exact List.map_id' x
theorem dup_len (x : List Int) : (dupL x).length = x.length := by simp [dupL]
theorem dup_le {B : Int} {x : List Int} (h : LeB B x) : LeP B (dupL x) := fun j => by
  rw [(dupL_at x j).1, (dupL_at x j).2]; exact ⟨h j, h j⟩
theorem fwdB_dup0 (Ls : List LayN) (x : List Int) : loAt (fwdB Ls (dupL x)) 0 = scoreN Ls x ∧ hiAt (fwdB Ls (dupL x)) 0 = scoreN Ls x := by
  rw [fwdB_dup, (dupL_at _ 0).1, (dupL_at _ 0).2]; exact ⟨rfl, rfl⟩
/-- What both Classify answer. -/
def RetCla (N : NetN) (m : ImN) (w : World) (e : Ending) (w' : World) : Prop :=
  ∃ s v : Int, e = .returned (.tuple #[.int .i64 s, .int .u8 v, .int .i64 (chkF N [m])]) ∧ s = (if chkF N [m] = 0 then scoreN N.Ls (featL N m.px) else 0) ∧
    v = (if chkF N [m] = 0 then ((verdB N.low N.high (scoreN N.Ls (featL N m.px)) (scoreN N.Ls (featL N m.px)) : Nat) : Int) else 0) ∧ Below w.heap.size w w'

set_option maxRecDepth 100000 in
set_option maxHeartbeats 4000000 in
theorem Classify_any (N : NetN) (na : Option Addr) (nn nc : Nat) (hnn : N.Ls.length = nn) (hz : NetSz N) (m : ImN) (pa : Option Addr) (l pc : Nat) (hl : m.px.length = l) (hpm : l ≤ 9223372036854775807)
    (w : World) (hrn : RdLs w.heap.size w na N.Ls) (hp : Rd w.heap.size w pa m.px) :
    Calls Try.prog 12 #[netv N na nn nc, imv m.w m.h pa l pc] w (RetCla N m w) := by
  obtain ⟨v, hv⟩ : ∃ v, chkF N [m] = v := ⟨_, rfl⟩
  obtain ⟨i0, hi, hz0, hz1, hz2⟩ := info_parts jinfo_num
  have tok1 : True := trivial
  have tok2 : True := trivial
  have tok3 : True := trivial
  have tok4 : True := trivial
  have hbW1 : Below w.heap.size w (w.alloc (.cells #[.int .i64 N.w, .int .i64 N.h, .int .i64 N.gx, .int .i64 N.gy, .slice na nn nc, .int .i64 N.low, .int .i64 N.high] 24)) := jb_al (Below.refl _ w) _
  have kn := Blk.new w 24 #[.int .i64 N.w, .int .i64 N.h, .int .i64 N.gx, .int .i64 N.gy, .slice na nn nc, .int .i64 N.low, .int .i64 N.high]
  obtain ⟨W1, hEW1⟩ : ∃ X, w.alloc (.cells #[.int .i64 N.w, .int .i64 N.h, .int .i64 N.gx, .int .i64 N.gy, .slice na nn nc, .int .i64 N.low, .int .i64 N.high] 24) = X := ⟨_, rfl⟩
  rw [hEW1] at hbW1 kn
  have hbW2 : Below W1.heap.size W1 (W1.alloc (.cells #[.int .i64 m.w, .int .i64 m.h, .slice pa l pc] 27)) := jb_al (Below.refl _ W1) _
  have ki := Blk.new W1 27 #[.int .i64 m.w, .int .i64 m.h, .slice pa l pc]
  obtain ⟨W2, hEW2⟩ : ∃ X, W1.alloc (.cells #[.int .i64 m.w, .int .i64 m.h, .slice pa l pc] 27) = X := ⟨_, rfl⟩
  rw [hEW2] at hbW2 ki
  have hbW3 : Below W2.heap.size W2 (W2.alloc (.cells #[.int .i64 m.w, .int .i64 m.h, .slice pa l pc] 27)) := jb_al (Below.refl _ W2) _
  have ks := Blk.new W2 27 #[.int .i64 m.w, .int .i64 m.h, .slice pa l pc]
  obtain ⟨W3, hEW3⟩ : ∃ X, W2.alloc (.cells #[.int .i64 m.w, .int .i64 m.h, .slice pa l pc] 27) = X := ⟨_, rfl⟩
  rw [hEW3] at hbW3 ks
  have hB : Below w.heap.size w W3 := hbW1.trans ((hbW2.trans (hbW3.mono hbW2.size)).mono hbW1.size)
  have kn3 := (kn.below hbW2 kn.lt).below hbW3 (Nat.lt_of_lt_of_le kn.lt hbW2.size)
  have ki3 := ki.below hbW3 ki.lt
  have c0 : W2.cell? ⟨w.heap.size, 0, none⟩ = some (.int .i64 N.w) := (kn.below hbW2 kn.lt).cell (i := 0) rfl
  have c1 : W2.cell? ⟨w.heap.size, 1, none⟩ = some (.int .i64 N.h) := (kn.below hbW2 kn.lt).cell (i := 1) rfl
  have c2 : W2.cell? ⟨w.heap.size, 2, none⟩ = some (.int .i64 N.gx) := (kn.below hbW2 kn.lt).cell (i := 2) rfl
  have c3 : W2.cell? ⟨w.heap.size, 3, none⟩ = some (.int .i64 N.gy) := (kn.below hbW2 kn.lt).cell (i := 3) rfl
  have c4 : W2.cell? ⟨w.heap.size, 4, none⟩ = some (.slice na nn nc) := (kn.below hbW2 kn.lt).cell (i := 4) rfl
  have c5 : W2.cell? ⟨w.heap.size, 5, none⟩ = some (.int .i64 N.low) := (kn.below hbW2 kn.lt).cell (i := 5) rfl
  have c6 : W2.cell? ⟨w.heap.size, 6, none⟩ = some (.int .i64 N.high) := (kn.below hbW2 kn.lt).cell (i := 6) rfl
  have d0 : W2.cell? ⟨W1.heap.size, 0, none⟩ = some (.int .i64 m.w) := ki.cell (i := 0) rfl
  have d1 : W2.cell? ⟨W1.heap.size, 1, none⟩ = some (.int .i64 m.h) := ki.cell (i := 1) rfl
  have d2 : W2.cell? ⟨W1.heap.size, 2, none⟩ = some (.slice pa l pc) := ki.cell (i := 2) rfl
  have hcall := check_any N na nn nc hnn hz [m] (some ⟨W2.heap.size, 0, none⟩) 1 1 rfl (by omega) (imAt_len (by simp; omega)) W3 (later_l hrn hB) (rdis_one hl ks (later_i hp hB)) v hv
  have hcallH := Lib.hid hcall
  have hpH := Lib.hid (later_i hp hB)
  have hrnH := Lib.hid (later_l hrn hB)
  have kn3H := Lib.hid kn3
  have ki3H := Lib.hid ki3
  have hlnH := Lib.hid hl
  clear hcall ks kn ki kn3 ki3 hp hl hrn hz
  by_cases h0 : v = 0
  case neg =>
    have h0' : (v != 0) = true := by simpa using h0
    have hfin : ∀ (W : World), Below W3.heap.size W3 W → RetCla N m w (.returned (.tuple #[.int .i64 0, .int .u8 0, .int .i64 v])) W := fun W hb => ⟨0, 0, by rw [hv], by rw [if_neg (by rw [hv]; exact h0)], by rw [if_neg (by rw [hv]; exact h0)], hB.trans (hb.mono hB.size)⟩
    have hfinH := Lib.hid hfin
    clear hfin hv hnn
    go_enter Try.func12, Try.ntmps12
    go_wp2_with (go_at_call 19; have _t := tok1; refine (hcallH.out).mono ?_; clear _t tok1; rintro e w4 ⟨rfl, hb4⟩)
    go_ret3
    exact hfinH.out _ hb4
  subst h0
  obtain ⟨hN, hw, hh, hc⟩ := chkF_zero hv
  have hpx : m.px.length ≤ 256 := by
    obtain ⟨pw, ph, _, _, _, _, _, _, _, _, _, _, _, _, g3, g4, hlen, _⟩ := net_letters hN hw hh hc
    rw [hlen]
    exact Nat.mul_le_mul g4.2 g3.2
  have hca := hc
  simp only [camB, Bool.and_eq_true] at hca
  have hfea := fun (W : World) (hb : Below W3.heap.size W3 W) => features_any N hN na nn nc m hw hh hc pa l pc hlnH.out W (later_i hpH.out hb)
  have hflen := featL_length N m.px
  have hfle := featL_le hN hpx hca.2
  have hnf := hN.nf.2.1
  obtain ⟨S, hS⟩ : ∃ S, scoreN N.Ls (featL N m.px) = S := ⟨_, rfl⟩
  have hfin : ∀ (W : World), Below W3.heap.size W3 W → RetCla N m w (.returned (.tuple #[.int .i64 S, .int .u8 ((verdB N.low N.high S S : Nat) : Int), .int .i64 0])) W := fun W hb =>
    ⟨S, _, by rw [hv], by rw [if_pos hv, hS], by rw [if_pos hv, hS], hB.trans (hb.mono hB.size)⟩
  obtain ⟨F, hF⟩ : ∃ F, featL N m.px = F := ⟨_, rfl⟩
  rw [hF] at hfea hflen hfle hS
  obtain ⟨nf, hnfe⟩ : ∃ n, N.nf = n := ⟨_, rfl⟩
  rw [hnfe] at hfea hflen hnf
  have hsc := fun (a : Option Addr) (c : Nat) (W : World) (hb : Below W3.heap.size W3 W) (hr : Rd W.heap.size W a F) => score_num N hN na nn nc hnn F (hflen.trans hnfe.symm) hfle a c W (later_l hrnH.out hb) hr
  rw [hS, hnfe] at hsc
  have hfeaH := Lib.hid hfea
  have hscH := Lib.hid hsc
  have hfinH := Lib.hid hfin
  have hflenH := Lib.hid hflen
  clear hfin hv hN hw hh hc hca hfea hsc hflen hfle hnn hF hS hnfe hpx
  go_enter Try.func12, Try.ntmps12
  go_wp2_with (first
    | (go_at_call 19; have _t := tok1; refine (hcallH.out).mono ?_; clear _t tok1; rintro e w4 ⟨rfl, hb4⟩; have kn4 := kn3H.out.below hb4 kn3H.out.lt; have ki4 := ki3H.out.below hb4 ki3H.out.lt; have q0 : w4.cell? ⟨w.heap.size, 0, none⟩ = some (.int .i64 N.w) := kn4.cell (i := 0) rfl; have q1 : w4.cell? ⟨w.heap.size, 1, none⟩ = some (.int .i64 N.h) := kn4.cell (i := 1) rfl; have q2 : w4.cell? ⟨w.heap.size, 2, none⟩ = some (.int .i64 N.gx) := kn4.cell (i := 2) rfl; have q3 : w4.cell? ⟨w.heap.size, 3, none⟩ = some (.int .i64 N.gy) := kn4.cell (i := 3) rfl; have q4 : w4.cell? ⟨w.heap.size, 4, none⟩ = some (.slice na nn nc) := kn4.cell (i := 4) rfl; have q5 : w4.cell? ⟨w.heap.size, 5, none⟩ = some (.int .i64 N.low) := kn4.cell (i := 5) rfl; have q6 : w4.cell? ⟨w.heap.size, 6, none⟩ = some (.int .i64 N.high) := kn4.cell (i := 6) rfl; have r0 : w4.cell? ⟨W1.heap.size, 0, none⟩ = some (.int .i64 m.w) := ki4.cell (i := 0) rfl; have r1 : w4.cell? ⟨W1.heap.size, 1, none⟩ = some (.int .i64 m.h) := ki4.cell (i := 1) rfl; have r2 : w4.cell? ⟨W1.heap.size, 2, none⟩ = some (.slice pa l pc) := ki4.cell (i := 2) rfl)
    | (go_at_call 20; have _t := tok2; refine (hfeaH.out w4 hb4).mono ?_; clear _t tok2; rintro e w5 ⟨s, sc, rfl, hrow, hb5⟩))
  have hb45 := hb4.trans (hb5.mono hb4.size)
  have hrdF := Lib.hid (rowI_rd hflenH.out hrow)
  have kn5 := Lib.hid (kn3H.out.below hb45 kn3H.out.lt)
  clear q0 q1 q2 q3 q4 q5 q6 r0 r1 r2 kn4 ki4 c0 c1 c2 c3 c4 c5 c6 d0 d1 d2 hrow hEW1 hEW2 hEW3 hcallH hfeaH
  go_loopw [8, 23] (fun u i wr => ∃ k : Nat, k ≤ nf ∧ i = .int .i64 (k : Int) ∧ wr.ownsRow w5.heap.size 64 1 u k ((F.take k).map (Value.int .i64)) ∧ Below w5.heap.size w5 wr) (fun _ i _ => nf - (intOf i).toNat)
  case atStart => exact ⟨0, Nat.zero_le _, rfl, World.ownsRow_nil _ _ _ _, Below.refl _ _⟩
  case round =>
    obtain ⟨k, hk, rfl, rowk, hb⟩ := hrel
    by_cases hlt : k < nf
    case pos =>
      have hkF : k < F.length := by have := hflenH.out; omega
      rcases hrdF.out with h0 | ⟨b, o, rfl, hb', hc⟩
      · rw [h0] at hkF; simp at hkF
      have hcell := (hb.cell (p := ⟨b, o + k, none⟩) hb').trans (hc k hkF)
      obtain ⟨x, hx⟩ : ∃ x, F[k]?.getD 0 = x := ⟨_, rfl⟩
      have htk := take_map_i hkF hx
      rw [hx] at hcell
      have htkH := Lib.hid htk
      have hownA := rowk.alloc (.cells #[.int .i64 x] 64)
      have hBA : Below w5.heap.size w5 (wr.alloc (.cells #[.int .i64 x] 64)) := jb_al2 hb _
      clear hx htk hc rowk
      go_wp2_with (at_builtin; refine wpList_append_own _ rfl _ _ 63 rfl w5.heap.size 64 i0 (.int .i64 0) 1 8 Try.underlying63 hi hz0 hz1 hz2 rfl (by decide) u8 k ((F.take k).map (Value.int .i64)) rfl hownA ⟨wr.heap.size, 0, none⟩ 1 1 [.int .i64 x] rfl rfl (cell_one_new _ _ _) (by simp [Value.oneCell']) (by unfold maxLen; omega) (by omega) hBA.size ?_; intro v' w4 hown' hgrow hnil)
      rw [htkH.out] at hown'
      have hBB := hBA.trans (below_of_row (n := w5.heap.size) hownA hgrow (Nat.le_refl _) hBA.size)
      go_roundw
      case rel => exact ⟨k + 1, by omega, by go_num, hown', hBB⟩
      case measure => simp [intOf]; omega
    case neg =>
      have hkn : k = nf := by omega
      subst hkn
      obtain ⟨s2, t2, rfl⟩ := jrow_slice rowk
      have hrd := rowU_rd (by rw [List.length_take, hflenH.out]; omega) rowk
      rw [List.take_of_length_le (by rw [hflenH.out]; omega)] at hrd
      have hrdH := Lib.hid hrd
      have kn6 := kn5.out.below hb kn5.out.lt
      have hbr := hb45.trans (hb.mono hb45.size)
      have kn6H := Lib.hid kn6
      have c0 : wr.cell? ⟨w.heap.size, 0, none⟩ = some (.int .i64 N.w) := kn6.cell (i := 0) rfl
      have c1 : wr.cell? ⟨w.heap.size, 1, none⟩ = some (.int .i64 N.h) := kn6.cell (i := 1) rfl
      have c2 : wr.cell? ⟨w.heap.size, 2, none⟩ = some (.int .i64 N.gx) := kn6.cell (i := 2) rfl
      have c3 : wr.cell? ⟨w.heap.size, 3, none⟩ = some (.int .i64 N.gy) := kn6.cell (i := 3) rfl
      have c4 : wr.cell? ⟨w.heap.size, 4, none⟩ = some (.slice na nn nc) := kn6.cell (i := 4) rfl
      have c5 : wr.cell? ⟨w.heap.size, 5, none⟩ = some (.int .i64 N.low) := kn6.cell (i := 5) rfl
      have c6 : wr.cell? ⟨w.heap.size, 6, none⟩ = some (.int .i64 N.high) := kn6.cell (i := 6) rfl
      clear rowk hrd kn6
      go_wp2_with (first
        | (go_at_call 25; have _t := tok3; refine (hscH.out s2 t2 wr hbr hrdH.out).mono ?_; clear _t tok3; rintro e w7 ⟨rfl, hb7⟩; have kn7 := kn6H.out.below hb7 kn6H.out.lt; have q0 : w7.cell? ⟨w.heap.size, 0, none⟩ = some (.int .i64 N.w) := kn7.cell (i := 0) rfl; have q1 : w7.cell? ⟨w.heap.size, 1, none⟩ = some (.int .i64 N.h) := kn7.cell (i := 1) rfl; have q2 : w7.cell? ⟨w.heap.size, 2, none⟩ = some (.int .i64 N.gx) := kn7.cell (i := 2) rfl; have q3 : w7.cell? ⟨w.heap.size, 3, none⟩ = some (.int .i64 N.gy) := kn7.cell (i := 3) rfl; have q4 : w7.cell? ⟨w.heap.size, 4, none⟩ = some (.slice na nn nc) := kn7.cell (i := 4) rfl; have q5 : w7.cell? ⟨w.heap.size, 5, none⟩ = some (.int .i64 N.low) := kn7.cell (i := 5) rfl; have q6 : w7.cell? ⟨w.heap.size, 6, none⟩ = some (.int .i64 N.high) := kn7.cell (i := 6) rfl)
        | (go_at_call 27; have _t := tok4; refine (verdict_any N na nn nc S S _).mono ?_; clear _t tok4; rintro e w8 ⟨rfl, hb8⟩))
      have hb78 := hbr.trans ((hb7.trans (hb8.mono hb7.size)).mono hbr.size)
      go_ret3
      exact hfinH.out _ hb78

set_option maxRecDepth 100000 in
set_option maxHeartbeats 4000000 in
theorem rClassify_any (N : NetN) (na : Option Addr) (nn nc : Nat) (hnn : N.Ls.length = nn) (hz : NetSz N) (m : ImN) (pa : Option Addr) (l pc : Nat) (hl : m.px.length = l) (hpm : l ≤ 9223372036854775807)
    (w : World) (hrn : RdLs w.heap.size w na N.Ls) (hp : Rd w.heap.size w pa m.px) :
    Calls Try.prog 13 #[netv N na nn nc, imv m.w m.h pa l pc] w (RetCla N m w) := by
  obtain ⟨v, hv⟩ : ∃ v, chkF N [m] = v := ⟨_, rfl⟩
  have tok1 : True := trivial
  have tok2 : True := trivial
  have tok3 : True := trivial
  have tok4 : True := trivial
  have hbW1 : Below w.heap.size w (w.alloc (.cells #[.int .i64 N.w, .int .i64 N.h, .int .i64 N.gx, .int .i64 N.gy, .slice na nn nc, .int .i64 N.low, .int .i64 N.high] 24)) := jb_al (Below.refl _ w) _
  have kn := Blk.new w 24 #[.int .i64 N.w, .int .i64 N.h, .int .i64 N.gx, .int .i64 N.gy, .slice na nn nc, .int .i64 N.low, .int .i64 N.high]
  obtain ⟨W1, hEW1⟩ : ∃ X, w.alloc (.cells #[.int .i64 N.w, .int .i64 N.h, .int .i64 N.gx, .int .i64 N.gy, .slice na nn nc, .int .i64 N.low, .int .i64 N.high] 24) = X := ⟨_, rfl⟩
  rw [hEW1] at hbW1 kn
  have hbW2 : Below W1.heap.size W1 (W1.alloc (.cells #[.int .i64 m.w, .int .i64 m.h, .slice pa l pc] 27)) := jb_al (Below.refl _ W1) _
  have ki := Blk.new W1 27 #[.int .i64 m.w, .int .i64 m.h, .slice pa l pc]
  obtain ⟨W2, hEW2⟩ : ∃ X, W1.alloc (.cells #[.int .i64 m.w, .int .i64 m.h, .slice pa l pc] 27) = X := ⟨_, rfl⟩
  rw [hEW2] at hbW2 ki
  have hB : Below w.heap.size w W2 := hbW1.trans ((hbW2).mono hbW1.size)
  have kn3 := kn.below hbW2 kn.lt
  have ki3 := ki
  have c0 : W2.cell? ⟨w.heap.size, 0, none⟩ = some (.int .i64 N.w) := kn3.cell (i := 0) rfl
  have c1 : W2.cell? ⟨w.heap.size, 1, none⟩ = some (.int .i64 N.h) := kn3.cell (i := 1) rfl
  have c2 : W2.cell? ⟨w.heap.size, 2, none⟩ = some (.int .i64 N.gx) := kn3.cell (i := 2) rfl
  have c3 : W2.cell? ⟨w.heap.size, 3, none⟩ = some (.int .i64 N.gy) := kn3.cell (i := 3) rfl
  have c4 : W2.cell? ⟨w.heap.size, 4, none⟩ = some (.slice na nn nc) := kn3.cell (i := 4) rfl
  have c5 : W2.cell? ⟨w.heap.size, 5, none⟩ = some (.int .i64 N.low) := kn3.cell (i := 5) rfl
  have c6 : W2.cell? ⟨w.heap.size, 6, none⟩ = some (.int .i64 N.high) := kn3.cell (i := 6) rfl
  have d0 : W2.cell? ⟨W1.heap.size, 0, none⟩ = some (.int .i64 m.w) := ki3.cell (i := 0) rfl
  have d1 : W2.cell? ⟨W1.heap.size, 1, none⟩ = some (.int .i64 m.h) := ki3.cell (i := 1) rfl
  have d2 : W2.cell? ⟨W1.heap.size, 2, none⟩ = some (.slice pa l pc) := ki3.cell (i := 2) rfl
  have hcall := rsized_any N na nn nc hnn hz m pa l pc hl hpm W2 (later_l hrn hB) (later_i hp hB) v hv
  have hcallH := Lib.hid hcall
  have hpH := Lib.hid (later_i hp hB)
  have hrnH := Lib.hid (later_l hrn hB)
  have kn3H := Lib.hid kn3
  have ki3H := Lib.hid ki3
  have hlnH := Lib.hid hl
  clear hcall kn ki kn3 ki3 hp hl hrn hz
  by_cases h0 : v = 0
  case neg =>
    have h0' : (v != 0) = true := by simpa using h0
    have hfin : ∀ (W : World), Below W2.heap.size W2 W → RetCla N m w (.returned (.tuple #[.int .i64 0, .int .u8 0, .int .i64 v])) W := fun W hb => ⟨0, 0, by rw [hv], by rw [if_neg (by rw [hv]; exact h0)], by rw [if_neg (by rw [hv]; exact h0)], hB.trans (hb.mono hB.size)⟩
    have hfinH := Lib.hid hfin
    clear hfin hv hnn
    go_enter Try.func13, Try.ntmps13
    go_wp2_with (go_at_call 21; have _t := tok1; refine (hcallH.out).mono ?_; clear _t tok1; rintro e w4 ⟨rfl, hb4⟩)
    go_ret3
    exact hfinH.out _ hb4
  subst h0
  obtain ⟨hN, hw, hh, hc⟩ := chkF_zero hv
  have hpx : m.px.length ≤ 256 := by
    obtain ⟨pw, ph, _, _, _, _, _, _, _, _, _, _, _, _, g3, g4, hlen, _⟩ := net_letters hN hw hh hc
    rw [hlen]
    exact Nat.mul_le_mul g4.2 g3.2
  have hca := hc
  simp only [camB, Bool.and_eq_true] at hca
  have hfea := fun (W : World) (hb : Below W2.heap.size W2 W) => Featured_any N hN na nn nc m hw hh hc pa l pc hlnH.out W (later_i hpH.out hb)
  have hflen := featL_length N m.px
  have hfle := featL_le hN hpx hca.2
  have hnf := hN.nf.2.1
  obtain ⟨S, hS⟩ : ∃ S, scoreN N.Ls (featL N m.px) = S := ⟨_, rfl⟩
  have hfin : ∀ (W : World), Below W2.heap.size W2 W → RetCla N m w (.returned (.tuple #[.int .i64 S, .int .u8 ((verdB N.low N.high S S : Nat) : Int), .int .i64 0])) W := fun W hb =>
    ⟨S, _, by rw [hv], by rw [if_pos hv, hS], by rw [if_pos hv, hS], hB.trans (hb.mono hB.size)⟩
  obtain ⟨F, hF⟩ : ∃ F, featL N m.px = F := ⟨_, rfl⟩
  rw [hF] at hfea hflen hfle hS
  obtain ⟨nf, hnfe⟩ : ∃ n, N.nf = n := ⟨_, rfl⟩
  rw [hnfe] at hfea hflen hnf
  have hsc := fun (a : Option Addr) (c : Nat) (W : World) (hb : Below W2.heap.size W2 W) (hr : Rd W.heap.size W a F) => Bounded_any N hN na nn nc hnn (dupL F) ((dup_len F).trans (hflen.trans hnfe.symm)) (dup_le hfle) a a c c W (later_l hrnH.out hb) (by rw [dup_fst]; exact hr) (by rw [dup_snd]; exact hr)
  rw [(fwdB_dup0 N.Ls F).1, (fwdB_dup0 N.Ls F).2, hS, hnfe] at hsc
  have hfeaH := Lib.hid hfea
  have hscH := Lib.hid hsc
  have hfinH := Lib.hid hfin
  have hflenH := Lib.hid hflen
  clear hfin hv hN hw hh hc hca hfea hsc hflen hfle hnn hF hS hnfe hpx
  go_enter Try.func13, Try.ntmps13
  go_wp2_with (first
    | (go_at_call 21; have _t := tok1; refine (hcallH.out).mono ?_; clear _t tok1; rintro e w4 ⟨rfl, hb4⟩; have kn4 := kn3H.out.below hb4 kn3H.out.lt; have ki4 := ki3H.out.below hb4 ki3H.out.lt; have q0 : w4.cell? ⟨w.heap.size, 0, none⟩ = some (.int .i64 N.w) := kn4.cell (i := 0) rfl; have q1 : w4.cell? ⟨w.heap.size, 1, none⟩ = some (.int .i64 N.h) := kn4.cell (i := 1) rfl; have q2 : w4.cell? ⟨w.heap.size, 2, none⟩ = some (.int .i64 N.gx) := kn4.cell (i := 2) rfl; have q3 : w4.cell? ⟨w.heap.size, 3, none⟩ = some (.int .i64 N.gy) := kn4.cell (i := 3) rfl; have q4 : w4.cell? ⟨w.heap.size, 4, none⟩ = some (.slice na nn nc) := kn4.cell (i := 4) rfl; have q5 : w4.cell? ⟨w.heap.size, 5, none⟩ = some (.int .i64 N.low) := kn4.cell (i := 5) rfl; have q6 : w4.cell? ⟨w.heap.size, 6, none⟩ = some (.int .i64 N.high) := kn4.cell (i := 6) rfl; have r0 : w4.cell? ⟨W1.heap.size, 0, none⟩ = some (.int .i64 m.w) := ki4.cell (i := 0) rfl; have r1 : w4.cell? ⟨W1.heap.size, 1, none⟩ = some (.int .i64 m.h) := ki4.cell (i := 1) rfl; have r2 : w4.cell? ⟨W1.heap.size, 2, none⟩ = some (.slice pa l pc) := ki4.cell (i := 2) rfl)
    | (go_at_call 22; have _t := tok2; refine (hfeaH.out w4 hb4).mono ?_; clear _t tok2; rintro e w5 ⟨s, sc, rfl, hrow, hb5⟩; have hb45 := hb4.trans (hb5.mono hb4.size); have kn5 := kn3H.out.below hb45 kn3H.out.lt; have hrdF := Lib.hid (rowI_rd hflenH.out hrow); clear hrow; have s0 : w5.cell? ⟨w.heap.size, 0, none⟩ = some (.int .i64 N.w) := kn5.cell (i := 0) rfl; have s1 : w5.cell? ⟨w.heap.size, 1, none⟩ = some (.int .i64 N.h) := kn5.cell (i := 1) rfl; have s2 : w5.cell? ⟨w.heap.size, 2, none⟩ = some (.int .i64 N.gx) := kn5.cell (i := 2) rfl; have s3 : w5.cell? ⟨w.heap.size, 3, none⟩ = some (.int .i64 N.gy) := kn5.cell (i := 3) rfl; have s4 : w5.cell? ⟨w.heap.size, 4, none⟩ = some (.slice na nn nc) := kn5.cell (i := 4) rfl; have s5 : w5.cell? ⟨w.heap.size, 5, none⟩ = some (.int .i64 N.low) := kn5.cell (i := 5) rfl; have s6 : w5.cell? ⟨w.heap.size, 6, none⟩ = some (.int .i64 N.high) := kn5.cell (i := 6) rfl)
    | (go_at_call 28; have _t := tok3; refine (hscH.out s sc w5 hb45 hrdF.out).mono ?_; clear _t tok3; rintro e w7 ⟨rfl, hb7⟩; have hb57 := hb45.trans (hb7.mono hb45.size); have kn7 := kn3H.out.below hb57 kn3H.out.lt; have u0 : w7.cell? ⟨w.heap.size, 0, none⟩ = some (.int .i64 N.w) := kn7.cell (i := 0) rfl; have u1 : w7.cell? ⟨w.heap.size, 1, none⟩ = some (.int .i64 N.h) := kn7.cell (i := 1) rfl; have u2 : w7.cell? ⟨w.heap.size, 2, none⟩ = some (.int .i64 N.gx) := kn7.cell (i := 2) rfl; have u3 : w7.cell? ⟨w.heap.size, 3, none⟩ = some (.int .i64 N.gy) := kn7.cell (i := 3) rfl; have u4 : w7.cell? ⟨w.heap.size, 4, none⟩ = some (.slice na nn nc) := kn7.cell (i := 4) rfl; have u5 : w7.cell? ⟨w.heap.size, 5, none⟩ = some (.int .i64 N.low) := kn7.cell (i := 5) rfl; have u6 : w7.cell? ⟨w.heap.size, 6, none⟩ = some (.int .i64 N.high) := kn7.cell (i := 6) rfl)
    | (go_at_call 29; have _t := tok4; refine (Judged_any N na nn nc S S _).mono ?_; clear _t tok4; rintro e w8 ⟨rfl, hb8⟩))
  have hb78 := hb57.trans (hb8.mono hb57.size)
  go_ret3
  exact hfinH.out _ hb78

end Go.Proofs.Ytbfigbpjoaccdaa

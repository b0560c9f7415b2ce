/- Contracts and laws (Cl, JW, JR, JS, JU). -/
import Derived.Lib.MinMax
import Derived.Laws.BytesArg
import Derived.Shelf.Bytes.SlSmallAll
import Derived.Test.YtbdnjhnlfpfhcaaGreatQE16
import Derived.Test.YtbdnjhnlfpfhcaaGreatQE1
import Derived.Test.YtbdnjhnlfpfhcaaGreatQE6
import Derived.Test.YtbdnjhnlfpfhcaaGreatQE8
namespace Go.Proofs.YtbdnjhnlfpfhcaaGreat
open Go Go.RowKit Go.Shelf
set_option linter.unusedVariables false
set_option linter.unusedSimpArgs false

set_option maxRecDepth 100000 in
set_option maxHeartbeats 2000000 in
theorem verdict_any (N : NetN) (na : Option Addr) (nn nc : Nat) (lo hi : Int) (w : World) :
    Calls Tryz.prog 38 #[netv N na nn nc, .agg #[.int .i64 lo, .int .i64 hi]] w fun e w' => e = .returned (.int .u8 ((verdB N.low N.high lo hi : Nat) : Int)) ∧ Below w.heap.size w w' := by
  obtain ⟨W, H, GX, GY, Ls, low, high⟩ := N
  simp only
  have hB1 : Below w.heap.size w (w.alloc (.cells #[.int .i64 W, .int .i64 H, .int .i64 GX, .int .i64 GY, .slice na nn nc, .int .i64 low, .int .i64 high] 47)) := jb_al (Below.refl _ w) _
  have hB2 := jb_al hB1 (.cells #[.int .i64 lo, .int .i64 hi] 88)
  by_cases h1 : high ≤ lo
  · have hv := Lib.hid (show verdB low high lo hi = 1 by unfold verdB; rw [if_pos h1])
    go_enter Tryz.func38, Tryz.ntmps38
    go_wp2_with fail
    go_ret
    exact ⟨by rw [hv.out]; rfl, hB2⟩
  · by_cases h2 : hi ≤ low
    · have hv := Lib.hid (show verdB low high lo hi = 2 by unfold verdB; rw [if_neg h1, if_pos h2])
      go_enter Tryz.func38, Tryz.ntmps38
      go_wp2_with fail
      go_ret
      exact ⟨by rw [hv.out]; rfl, hB2⟩
    · have hv := Lib.hid (show verdB low high lo hi = 3 by unfold verdB; rw [if_neg h1, if_neg h2])
      go_enter Tryz.func38, Tryz.ntmps38
      go_wp2_with fail
      go_ret
      exact ⟨by rw [hv.out]; rfl, hB2⟩
theorem take_map_i {xs : List Int} {k : Nat} (hk : k < xs.length) {x : Int} (hx : xs[k]?.getD 0 = x) : (xs.take k).map (Value.int .i64) ++ [Value.int .i64 x] = (xs.take (k + 1)).map (Value.int .i64) := by
  rw [List.take_succ_eq_append_getElem hk, List.map_append, ← hx, List.getElem?_eq_getElem hk]; rfl
/-- What both Classify answer. -/
def RetCla (N : NetN) (m : ImN) (w : World) (e : Ending) (w' : World) : Prop :=
  ∃ s v : Int, e = .returned (.tuple #[.int .i64 s, .int .u8 v, .int .i64 (chkF N [m])]) ∧ s = (if chkF N [m] = 0 then scoreN N.Ls (featL N m.px) else 0) ∧
    v = (if chkF N [m] = 0 then ((verdB N.low N.high (scoreN N.Ls (featL N m.px)) (scoreN N.Ls (featL N m.px)) : Nat) : Int) else 0) ∧ Below w.heap.size w w'

set_option maxRecDepth 100000 in
set_option maxHeartbeats 4000000 in
theorem Classify_any (N : NetN) (na : Option Addr) (nn nc : Nat) (hnn : N.Ls.length = nn) (hz : NetSz N) (m : ImN) (pa : Option Addr) (l pc : Nat) (hl : m.px.length = l) (hpm : l ≤ 9223372036854775807)
    (w : World) (hrn : RdLs w.heap.size w na N.Ls) (hp : Rd w.heap.size w pa m.px) :
    Calls Tryz.prog 12 #[netv N na nn nc, imv m.w m.h pa l pc] w (RetCla N m w) := by
  obtain ⟨v, hv⟩ : ∃ v, chkF N [m] = v := ⟨_, rfl⟩
  obtain ⟨i0, hi, hz0, hz1, hz2⟩ := info_parts jinfo_num
  have tok1 : True := trivial
  have tok2 : True := trivial
  have tok3 : True := trivial
  have tok4 : True := trivial
  have hbW1 : Below w.heap.size w (w.alloc (.cells #[.int .i64 N.w, .int .i64 N.h, .int .i64 N.gx, .int .i64 N.gy, .slice na nn nc, .int .i64 N.low, .int .i64 N.high] 47)) := jb_al (Below.refl _ w) _
  have kn := Blk.new w 47 #[.int .i64 N.w, .int .i64 N.h, .int .i64 N.gx, .int .i64 N.gy, .slice na nn nc, .int .i64 N.low, .int .i64 N.high]
  obtain ⟨W1, hEW1⟩ : ∃ X, w.alloc (.cells #[.int .i64 N.w, .int .i64 N.h, .int .i64 N.gx, .int .i64 N.gy, .slice na nn nc, .int .i64 N.low, .int .i64 N.high] 47) = X := ⟨_, rfl⟩
  rw [hEW1] at hbW1 kn
  have hbW2 : Below W1.heap.size W1 (W1.alloc (.cells #[.int .i64 m.w, .int .i64 m.h, .slice pa l pc] 51)) := jb_al (Below.refl _ W1) _
  have ki := Blk.new W1 51 #[.int .i64 m.w, .int .i64 m.h, .slice pa l pc]
  obtain ⟨W2, hEW2⟩ : ∃ X, W1.alloc (.cells #[.int .i64 m.w, .int .i64 m.h, .slice pa l pc] 51) = X := ⟨_, rfl⟩
  rw [hEW2] at hbW2 ki
  have hbW3 : Below W2.heap.size W2 (W2.alloc (.cells #[.int .i64 m.w, .int .i64 m.h, .slice pa l pc] 51)) := jb_al (Below.refl _ W2) _
  have ks := Blk.new W2 51 #[.int .i64 m.w, .int .i64 m.h, .slice pa l pc]
  obtain ⟨W3, hEW3⟩ : ∃ X, W2.alloc (.cells #[.int .i64 m.w, .int .i64 m.h, .slice pa l pc] 51) = X := ⟨_, rfl⟩
  rw [hEW3] at hbW3 ks
  have hB : Below w.heap.size w W3 := hbW1.trans ((hbW2.trans (hbW3.mono hbW2.size)).mono hbW1.size)
  have kn3 := (kn.below hbW2 kn.lt).below hbW3 (Nat.lt_of_lt_of_le kn.lt hbW2.size)
  have ki3 := ki.below hbW3 ki.lt
  have c0 : W2.cell? ⟨w.heap.size, 0, none⟩ = some (.int .i64 N.w) := (kn.below hbW2 kn.lt).cell (i := 0) rfl
  have c1 : W2.cell? ⟨w.heap.size, 1, none⟩ = some (.int .i64 N.h) := (kn.below hbW2 kn.lt).cell (i := 1) rfl
  have c2 : W2.cell? ⟨w.heap.size, 2, none⟩ = some (.int .i64 N.gx) := (kn.below hbW2 kn.lt).cell (i := 2) rfl
  have c3 : W2.cell? ⟨w.heap.size, 3, none⟩ = some (.int .i64 N.gy) := (kn.below hbW2 kn.lt).cell (i := 3) rfl
  have c4 : W2.cell? ⟨w.heap.size, 4, none⟩ = some (.slice na nn nc) := (kn.below hbW2 kn.lt).cell (i := 4) rfl
  have c5 : W2.cell? ⟨w.heap.size, 5, none⟩ = some (.int .i64 N.low) := (kn.below hbW2 kn.lt).cell (i := 5) rfl
  have c6 : W2.cell? ⟨w.heap.size, 6, none⟩ = some (.int .i64 N.high) := (kn.below hbW2 kn.lt).cell (i := 6) rfl
  have d0 : W2.cell? ⟨W1.heap.size, 0, none⟩ = some (.int .i64 m.w) := ki.cell (i := 0) rfl
  have d1 : W2.cell? ⟨W1.heap.size, 1, none⟩ = some (.int .i64 m.h) := ki.cell (i := 1) rfl
  have d2 : W2.cell? ⟨W1.heap.size, 2, none⟩ = some (.slice pa l pc) := ki.cell (i := 2) rfl
  have hcall := check_any N na nn nc hnn hz [m] (some ⟨W2.heap.size, 0, none⟩) 1 1 rfl (by omega) (imAt_len (by simp; omega)) W3 (later_l hrn hB) (rdis_one hl ks (later_i hp hB)) v hv
  have hcallH := Lib.hid hcall
  have hpH := Lib.hid (later_i hp hB)
  have hrnH := Lib.hid (later_l hrn hB)
  have kn3H := Lib.hid kn3
  have ki3H := Lib.hid ki3
  have hlnH := Lib.hid hl
  clear hcall ks kn ki kn3 ki3 hp hl hrn hz
  by_cases h0 : v = 0
  case neg =>
    have h0' : (v != 0) = true := by simpa using h0
    have hfin : ∀ (W : World), Below W3.heap.size W3 W → RetCla N m w (.returned (.tuple #[.int .i64 0, .int .u8 0, .int .i64 v])) W := fun W hb => ⟨0, 0, by rw [hv], by rw [if_neg (by rw [hv]; exact h0)], by rw [if_neg (by rw [hv]; exact h0)], hB.trans (hb.mono hB.size)⟩
    have hfinH := Lib.hid hfin
    clear hfin hv hnn
    go_enter Tryz.func12, Tryz.ntmps12
    go_wp2_with (go_at_call 34; have _t := tok1; refine (hcallH.out).mono ?_; clear _t tok1; rintro e w4 ⟨rfl, hb4⟩)
    go_ret3
    exact hfinH.out _ hb4
  subst h0
  obtain ⟨hN, hw, hh, hc⟩ := chkF_zero hv
  have hpx : m.px.length ≤ 256 := by
    obtain ⟨pw, ph, _, _, _, _, _, _, _, _, _, _, _, _, g3, g4, hlen, _⟩ := net_letters hN hw hh hc
    rw [hlen]
    exact Nat.mul_le_mul g4.2 g3.2
  have hca := hc
  simp only [camB, Bool.and_eq_true] at hca
  have hfea := fun (W : World) (hb : Below W3.heap.size W3 W) => features_any N hN na nn nc m hw hh hc pa l pc hlnH.out W (later_i hpH.out hb)
  have hflen := featL_length N m.px
  have hfle := featL_le hN hpx hca.2
  have hnf := hN.nf.2.1
  obtain ⟨S, hS⟩ : ∃ S, scoreN N.Ls (featL N m.px) = S := ⟨_, rfl⟩
  have hfin : ∀ (W : World), Below W3.heap.size W3 W → RetCla N m w (.returned (.tuple #[.int .i64 S, .int .u8 ((verdB N.low N.high S S : Nat) : Int), .int .i64 0])) W := fun W hb =>
    ⟨S, _, by rw [hv], by rw [if_pos hv, hS], by rw [if_pos hv, hS], hB.trans (hb.mono hB.size)⟩
  obtain ⟨F, hF⟩ : ∃ F, featL N m.px = F := ⟨_, rfl⟩
  rw [hF] at hfea hflen hfle hS
  obtain ⟨nf, hnfe⟩ : ∃ n, N.nf = n := ⟨_, rfl⟩
  rw [hnfe] at hfea hflen hnf
  have hsc := fun (a : Option Addr) (c : Nat) (W : World) (hb : Below W3.heap.size W3 W) (hr : Rd W.heap.size W a F) => score_num N hN na nn nc hnn F (hflen.trans hnfe.symm) hfle a c W (later_l hrnH.out hb) hr
  rw [hS, hnfe] at hsc
  have hfeaH := Lib.hid hfea
  have hscH := Lib.hid hsc
  have hfinH := Lib.hid hfin
  have hflenH := Lib.hid hflen
  clear hfin hv hN hw hh hc hca hfea hsc hflen hfle hnn hF hS hnfe hpx
  go_enter Tryz.func12, Tryz.ntmps12
  go_wp2_with (first
    | (go_at_call 34; have _t := tok1; refine (hcallH.out).mono ?_; clear _t tok1; rintro e w4 ⟨rfl, hb4⟩; have kn4 := kn3H.out.below hb4 kn3H.out.lt; have ki4 := ki3H.out.below hb4 ki3H.out.lt; have q0 : w4.cell? ⟨w.heap.size, 0, none⟩ = some (.int .i64 N.w) := kn4.cell (i := 0) rfl; have q1 : w4.cell? ⟨w.heap.size, 1, none⟩ = some (.int .i64 N.h) := kn4.cell (i := 1) rfl; have q2 : w4.cell? ⟨w.heap.size, 2, none⟩ = some (.int .i64 N.gx) := kn4.cell (i := 2) rfl; have q3 : w4.cell? ⟨w.heap.size, 3, none⟩ = some (.int .i64 N.gy) := kn4.cell (i := 3) rfl; have q4 : w4.cell? ⟨w.heap.size, 4, none⟩ = some (.slice na nn nc) := kn4.cell (i := 4) rfl; have q5 : w4.cell? ⟨w.heap.size, 5, none⟩ = some (.int .i64 N.low) := kn4.cell (i := 5) rfl; have q6 : w4.cell? ⟨w.heap.size, 6, none⟩ = some (.int .i64 N.high) := kn4.cell (i := 6) rfl; have r0 : w4.cell? ⟨W1.heap.size, 0, none⟩ = some (.int .i64 m.w) := ki4.cell (i := 0) rfl; have r1 : w4.cell? ⟨W1.heap.size, 1, none⟩ = some (.int .i64 m.h) := ki4.cell (i := 1) rfl; have r2 : w4.cell? ⟨W1.heap.size, 2, none⟩ = some (.slice pa l pc) := ki4.cell (i := 2) rfl)
    | (go_at_call 35; have _t := tok2; refine (hfeaH.out w4 hb4).mono ?_; clear _t tok2; rintro e w5 ⟨s, sc, rfl, hrow, hb5⟩))
  have hb45 := hb4.trans (hb5.mono hb4.size)
  have hrdF := Lib.hid (rowI_rd hflenH.out hrow)
  have kn5 := Lib.hid (kn3H.out.below hb45 kn3H.out.lt)
  clear q0 q1 q2 q3 q4 q5 q6 r0 r1 r2 kn4 ki4 c0 c1 c2 c3 c4 c5 c6 d0 d1 d2 hrow hEW1 hEW2 hEW3 hcallH hfeaH
  go_loopw [8, 23] (fun u i wr => ∃ k : Nat, k ≤ nf ∧ i = .int .i64 (k : Int) ∧ wr.ownsRow w5.heap.size 83 1 u k ((F.take k).map (Value.int .i64)) ∧ Below w5.heap.size w5 wr) (fun _ i _ => nf - (intOf i).toNat)
  case atStart => exact ⟨0, Nat.zero_le _, rfl, World.ownsRow_nil _ _ _ _, Below.refl _ _⟩
  case round =>
    obtain ⟨k, hk, rfl, rowk, hb⟩ := hrel
    by_cases hlt : k < nf
    case pos =>
      have hkF : k < F.length := by have := hflenH.out; omega
      rcases hrdF.out with h0 | ⟨b, o, rfl, hb', hc⟩
      · rw [h0] at hkF; simp at hkF
      have hcell := (hb.cell (p := ⟨b, o + k, none⟩) hb').trans (hc k hkF)
      obtain ⟨x, hx⟩ : ∃ x, F[k]?.getD 0 = x := ⟨_, rfl⟩
      have htk := take_map_i hkF hx
      rw [hx] at hcell
      have htkH := Lib.hid htk
      have hownA := rowk.alloc (.cells #[.int .i64 x] 83)
      have hBA : Below w5.heap.size w5 (wr.alloc (.cells #[.int .i64 x] 83)) := jb_al2 hb _
      clear hx htk hc rowk
      go_wp2_with (at_builtin; refine wpList_append_own _ rfl _ _ 81 rfl w5.heap.size 83 i0 (.int .i64 0) 1 8 Tryz.underlying81 hi hz0 hz1 hz2 rfl (by decide) u8 k ((F.take k).map (Value.int .i64)) rfl hownA ⟨wr.heap.size, 0, none⟩ 1 1 [.int .i64 x] rfl rfl (cell_one_new _ _ _) (by simp [Value.oneCell']) (by unfold maxLen; omega) (by omega) hBA.size ?_; intro v' w4 hown' hgrow hnil)
      rw [htkH.out] at hown'
      have hBB := hBA.trans (below_of_row (n := w5.heap.size) hownA hgrow (Nat.le_refl _) hBA.size)
      go_roundw
      case rel => exact ⟨k + 1, by omega, by go_num, hown', hBB⟩
      case measure => simp [intOf]; omega
    case neg =>
      have hkn : k = nf := by omega
      subst hkn
      obtain ⟨s2, t2, rfl⟩ := jrow_slice rowk
      have hrd := rowU_rd (by rw [List.length_take, hflenH.out]; omega) rowk
      rw [List.take_of_length_le (by rw [hflenH.out]; omega)] at hrd
      have hrdH := Lib.hid hrd
      have kn6 := kn5.out.below hb kn5.out.lt
      have hbr := hb45.trans (hb.mono hb45.size)
      have kn6H := Lib.hid kn6
      have c0 : wr.cell? ⟨w.heap.size, 0, none⟩ = some (.int .i64 N.w) := kn6.cell (i := 0) rfl
      have c1 : wr.cell? ⟨w.heap.size, 1, none⟩ = some (.int .i64 N.h) := kn6.cell (i := 1) rfl
      have c2 : wr.cell? ⟨w.heap.size, 2, none⟩ = some (.int .i64 N.gx) := kn6.cell (i := 2) rfl
      have c3 : wr.cell? ⟨w.heap.size, 3, none⟩ = some (.int .i64 N.gy) := kn6.cell (i := 3) rfl
      have c4 : wr.cell? ⟨w.heap.size, 4, none⟩ = some (.slice na nn nc) := kn6.cell (i := 4) rfl
      have c5 : wr.cell? ⟨w.heap.size, 5, none⟩ = some (.int .i64 N.low) := kn6.cell (i := 5) rfl
      have c6 : wr.cell? ⟨w.heap.size, 6, none⟩ = some (.int .i64 N.high) := kn6.cell (i := 6) rfl
      clear rowk hrd kn6
      go_wp2_with (first
        | (go_at_call 36; have _t := tok3; refine (hscH.out s2 t2 wr hbr hrdH.out).mono ?_; clear _t tok3; rintro e w7 ⟨rfl, hb7⟩; have kn7 := kn6H.out.below hb7 kn6H.out.lt; have q0 : w7.cell? ⟨w.heap.size, 0, none⟩ = some (.int .i64 N.w) := kn7.cell (i := 0) rfl; have q1 : w7.cell? ⟨w.heap.size, 1, none⟩ = some (.int .i64 N.h) := kn7.cell (i := 1) rfl; have q2 : w7.cell? ⟨w.heap.size, 2, none⟩ = some (.int .i64 N.gx) := kn7.cell (i := 2) rfl; have q3 : w7.cell? ⟨w.heap.size, 3, none⟩ = some (.int .i64 N.gy) := kn7.cell (i := 3) rfl; have q4 : w7.cell? ⟨w.heap.size, 4, none⟩ = some (.slice na nn nc) := kn7.cell (i := 4) rfl; have q5 : w7.cell? ⟨w.heap.size, 5, none⟩ = some (.int .i64 N.low) := kn7.cell (i := 5) rfl; have q6 : w7.cell? ⟨w.heap.size, 6, none⟩ = some (.int .i64 N.high) := kn7.cell (i := 6) rfl)
        | (go_at_call 38; have _t := tok4; refine (verdict_any N na nn nc S S _).mono ?_; clear _t tok4; rintro e w8 ⟨rfl, hb8⟩))
      have hb78 := hbr.trans ((hb7.trans (hb8.mono hb7.size)).mono hbr.size)
      go_ret3
      exact hfinH.out _ hb78

end Go.Proofs.YtbdnjhnlfpfhcaaGreat

namespace Go.Proofs.YtbdnjhnlfpfhcaaGreat
open Go Go.RowKit Go.Shelf
set_option linter.unusedVariables false
set_option linter.unusedSimpArgs false

/-- What inspector i said of part k. -/
def labF (xss : List (List Nat)) (i k : Nat) : Nat := ((xss[i]?.getD [])[k]?).getD 0

/-- The first k of f, and 0 behind. -/
def layU (f : Nat → Nat) (n k : Nat) : List Nat := (List.range n).map fun i => if i < k then f i else 0
theorem layU_length (f : Nat → Nat) (n k : Nat) : (layU f n k).length = n := by simp [layU]
theorem layU_zero (f : Nat → Nat) (n : Nat) : layU f n 0 = List.replicate n 0 := by
  refine List.ext_getElem (by simp [layU]) fun i h1 h2 => ?_
  simp [layU]
theorem layU_all (f : Nat → Nat) (n : Nat) : layU f n n = (List.range n).map f := by
  refine List.ext_getElem (by simp [layU]) fun i h1 h2 => ?_
  simp only [layU, List.getElem_map, List.getElem_range]
  simp [layU] at h1
  simp [h1]
theorem layU_set (f : Nat → Nat) {n k : Nat} (hk : k < n) : (layU f n k).set k (f k) = layU f n (k + 1) := by
  refine List.ext_getElem (by simp [layU]) fun i h1 h2 => ?_
  simp only [layU, List.getElem_set, List.getElem_map, List.getElem_range]
  by_cases e : k = i
  · subst e; simp
  · rw [if_neg e]
    by_cases h : i < k
    · rw [if_pos h, if_pos (by omega)]
    · rw [if_neg h, if_neg (by omega)]

/-- The three sums of a part, over the first m inspectors. -/
def triJ (lab : Nat → Nat → Nat) (w : Nat → Int) (k m : Nat) : Array Value := #[.int .i64 (sumW lab w 0 k m), .int .i64 (sumW lab w 1 k m), .int .i64 (sumW lab w 2 k m)]
theorem triJ_cell (lab : Nat → Nat → Nat) (w : Nat → Int) (k m : Nat) {l : Nat} (hl : l ≤ 2) : (triJ lab w k m)[l]? = some (.int .i64 (sumW lab w l k m)) := by
  have : l = 0 ∨ l = 1 ∨ l = 2 := by omega
  rcases this with rfl | rfl | rfl <;> rfl
theorem triJ_step (lab : Nat → Nat → Nat) (w : Nat → Int) (k m : Nat) {l : Nat} (hl : l ≤ 2) (h : lab m k = l) : (triJ lab w k m).setIfInBounds l (.int .i64 (sumW lab w l k m + w m)) = triJ lab w k (m + 1) := by
  have : l = 0 ∨ l = 1 ∨ l = 2 := by omega
  rcases this with rfl | rfl | rfl <;> simp [triJ, sumW, sumJ, h]
theorem sumW_bd (lab : Nat → Nat → Nat) (w : Nat → Int) (v k m : Nat) (hm : m ≤ 100) (h : ∀ i, i < m → -1000000 ≤ w i ∧ w i ≤ 1000000) : -100000000 ≤ sumW lab w v k m ∧ sumW lab w v k m ≤ 100000000 := by
  have := sumJ_bd (f := fun i => if lab i k = v then w i else 0) (B := 1000000) (n := m) fun i hi => by
    have := h i hi
    split <;> omega
  unfold sumW
  omega
theorem triJ_zero (lab : Nat → Nat → Nat) (w : Nat → Int) (k : Nat) : triJ lab w k 0 = #[.int .i64 0, .int .i64 0, .int .i64 0] := rfl


set_option maxRecDepth 100000 in
set_option maxHeartbeats 2000000 in
theorem vote_any (xss : List (List Nat)) (J K : Nat) (hJ : xss.length = J) (hJ0 : 0 < J) (hJ1 : J ≤ 100) (hK1 : K ≤ 1000) (hlen : ∀ (i : Nat) (xs : List Nat), xss[i]? = some xs → xs.length = K) (hlab : ∀ i k, labF xss i k ≤ 2) (ws : List Int) (hws : ws.length = J) (hwb : ∀ i : Nat, -1000000 ≤ ws[i]?.getD 0 ∧ ws[i]?.getD 0 ≤ 1000000)
    (a aw : Option Addr) (c cw : Nat) (w : World) (hr : RdL w.heap.size w a xss) (hw : Rd w.heap.size w aw ws) :
    Calls Tryz.prog 50 #[.slice a J c, .slice aw J cw] w fun e w' => ∃ g, e = .returned (.slice (some ⟨g, 0, none⟩) K K) ∧ w'.ownsRow w.heap.size 5 1 (.slice (some ⟨g, 0, none⟩) K K) K ((voteL (labF xss) J K ws).map vu8) ∧ Below w.heap.size w w' := by
  obtain ⟨i0, hi, hz0, hz1, hz2⟩ := info_parts jinfo_u8
  obtain ⟨xs0, hxs0⟩ : ∃ x, xss[0]? = some x := ⟨_, List.getElem?_eq_getElem (by omega)⟩
  obtain ⟨b, o, rfl, hb, a0, c0, hc0, hr0⟩ := hr.at hxs0
  have hl0 := hlen 0 xs0 hxs0
  rw [hl0] at hc0
  have hJH := Lib.hid hJ
  have hzH := Lib.hid (jmade_u8 K)
  have hwsH := Lib.hid hws
  have hlenH := Lib.hid hlen
  have hlabH := Lib.hid hlab
  have hrH := Lib.hid hr
  clear hJ hws hlen hlab hr hl0 hr0
  have hc0' := hc0
  rw [show o + 0 = o from rfl] at hc0'
  go_enter Tryz.func50, Tryz.ntmps50
  go_wp2_with (at_make; refine wpList_make_full _ rfl _ _ 35 rfl w.heap.size 5 i0 (.int .u8 0) 1 Tryz.underlying35 hi hz0 hz1 .i64 .i64 (K : Int) (K : Int) K rfl rfl (by simp) (by simp) (by rw [hz2]; omega) (by unfold maxLen; omega) (by simp) ?_; intro w1 hown hg)
  rw [hzH.out, ← layU_zero (voteF (labF xss) (fun i => ws[i]?.getD 0) J) K] at hown
  obtain ⟨vF, hvF⟩ : ∃ f, voteF (labF xss) (fun i => ws[i]?.getD 0) J = f := ⟨_, rfl⟩
  rw [hvF] at hown
  have hB1 : Below w.heap.size w w1 := (Below.refl _ _).grown hg (Nat.le_refl _) (fun k e => by cases e)
  clear hc0 hc0' hxs0
  go_loopw [18] (fun i wr => ∃ k : Nat, k ≤ K ∧ i = .int .i64 (k : Int) ∧ wr.ownsRow w.heap.size 5 1 (.slice (some ⟨w.heap.size, 0, none⟩) K K) K ((layU vF K k).map vu8) ∧ Below w.heap.size w wr) (fun i _ => K - (intOf i).toNat)
  case atStart => exact ⟨0, Nat.zero_le _, rfl, hown, hB1⟩
  case round =>
    clear hown hB1 hg
    obtain ⟨k, hk, rfl, rowk, hB⟩ := hrel
    by_cases hlt : k < K
    · have hnew := Blk.new wr 112 (triJ (labF xss) (fun i => ws[i]?.getD 0) k 0)
      obtain ⟨V, hV⟩ : ∃ V, wr.alloc (.cells (triJ (labF xss) (fun i => ws[i]?.getD 0) k 0) 112) = V := ⟨_, rfl⟩
      have hBV : Below w.heap.size w V := hV ▸ jb_al hB _
      have hgV : Below wr.heap.size wr V := hV ▸ jb_al (Below.refl _ _) _
      have rowV := row_below rowk hgV
      rw [hV] at hnew
      have hsz : w.heap.size ≤ wr.heap.size := hB.size
      have hzs : w.heap.size < wr.heap.size := by
        rcases rowk.2 with ⟨h, _⟩ | ⟨g, cap, cur, h, _, h2, _⟩
        · cases h
        · simp only [Value.slice.injEq, Option.some.injEq, Addr.mk.injEq, true_and, and_true] at h
          rw [← h.1] at h2
          exact (Array.getElem?_eq_some_iff.1 h2).1
      have hVs : wr.heap.size < V.heap.size := hnew.lt
      clear rowk hB hgV
      rw [triJ_zero] at hV
      go_wp2_with fail
      obtain ⟨B1, hB1⟩ : ∃ n, wr.heap.size = n := ⟨_, rfl⟩
      rw [hB1] at hnew hsz hzs hVs ⊢
      clear hV hB1
      clear wr
      go_loopw [23] (fun i wr => ∃ m : Nat, m ≤ J ∧ i = .int .i64 (m : Int) ∧ Blk wr B1 112 (triJ (labF xss) (fun i => ws[i]?.getD 0) k m) ∧ wr.ownsRow w.heap.size 5 1 (.slice (some ⟨w.heap.size, 0, none⟩) K K) K ((layU vF K k).map vu8) ∧ Below w.heap.size w wr) (fun i _ => J - (intOf i).toNat)
      case atStart => exact ⟨0, Nat.zero_le _, rfl, hnew, rowV, hBV⟩
      case round =>
        clear hnew rowV hBV hVs
        obtain ⟨m, hm, rfl, hbk, rowm, hB⟩ := hrel
        by_cases hmt : m < J
        · obtain ⟨xs, hxs⟩ : ∃ x, xss[m]? = some x := ⟨_, List.getElem?_eq_getElem (by have := hJH.out; omega)⟩
          obtain ⟨b', o', hbo, _, a1, c1, hc1, hr1⟩ := hrH.out.at hxs
          simp only [Option.some.injEq, Addr.mk.injEq, and_true] at hbo
          obtain ⟨rfl, rfl⟩ := hbo
          have hxl := hlenH.out m xs hxs
          rw [hxl] at hc1
          have hc1' := (hB.cell (p := ⟨b, o + m, none⟩) hb).trans hc1
          rcases hr1 with h0 | ⟨b1, o1, rfl, hb1, hcl⟩
          · exfalso; rw [h0] at hxl; simp at hxl; omega
          have hcl1 := (hB.cell (p := ⟨b1, o1 + k, none⟩) hb1).trans (hcl k (by omega))
          have hlk : labF xss m k = xs[k]?.getD 0 := by unfold labF; rw [hxs]; rfl
          rw [← hlk] at hcl1
          obtain ⟨l, hl⟩ : ∃ l, labF xss m k = l := ⟨_, rfl⟩
          have hl2 : l ≤ 2 := hl ▸ hlabH.out m k
          rw [hl] at hcl1
          rcases hw with h0 | ⟨b2, o2, rfl, hb2, hcw⟩
          · exfalso; have := hwsH.out; rw [h0] at this; simp at this; omega
          have hcw1 := (hB.cell (p := ⟨b2, o2 + m, none⟩) hb2).trans (hcw m (by have := hwsH.out; omega))
          obtain ⟨u, hu⟩ : ∃ u, ws[m]?.getD 0 = u := ⟨_, rfl⟩
          have hub : -1000000 ≤ u ∧ u ≤ 1000000 := hu ▸ hwb m
          obtain ⟨ub1, ub2⟩ := hub
          rw [hu] at hcw1
          obtain ⟨s, hs⟩ : ∃ s, sumW (labF xss) (fun i => ws[i]?.getD 0) l k m = s := ⟨_, rfl⟩
          obtain ⟨sb1, sb2⟩ : -100000000 ≤ s ∧ s ≤ 100000000 := hs ▸ sumW_bd _ _ l k m (by omega) (fun i _ => hwb i)
          have hcs := hbk.cell (triJ_cell (labF xss) (fun i => ws[i]?.getD 0) k m hl2)
          rw [hs] at hcs
          have hstep : (triJ (labF xss) (fun i => ws[i]?.getD 0) k m).setIfInBounds l (.int .i64 (s + u)) = triJ (labF xss) (fun i => ws[i]?.getD 0) k (m + 1) := by
            rw [← hs, ← hu]; exact triJ_step _ _ k m hl2 hl
          have hstepH := Lib.hid hstep
          have hfr := hbk.frozen l
          have hS0 : wr.drew.heap = wr.heap := rfl
          clear hc1 hcl hlk hl hu hs hstep hcw hxl hxs
          go_wp2_with fail
          refine plain_region (fun W' => W'.heap = wr.heap) 12 13 (by kernel_rfl) rfl ?_
          simp only [Array.replicate_succ, Array.replicate_zero, List.push_toArray, List.nil_append, List.cons_append]
          refine take_op 0 (v := ?rv0) rfl (by kernel_rfl) (fun _ _ _ h => h) (by rfl) hS0 (fun w' hS' => ?ry0) ?rz0
          case ry0 =>
            go_simp
            rfl
          simp only [List.setIfInBounds_toArray, List.set_cons_zero, List.set_cons_succ]
          refine take_op 1 (v := ?rv1) rfl (by kernel_rfl) (fun _ _ _ h => h) (by rfl) hS0 (fun w' hS' => ?ry1) ?rz1
          case ry1 =>
            go_simp
            rfl
          simp only [List.setIfInBounds_toArray, List.set_cons_zero, List.set_cons_succ]
          refine take_op 2 (v := ?rv2) rfl (by kernel_rfl) (fun _ _ _ h => h) (by rfl) hS0 (fun w' hS' => ?ry2) ?rz2
          case ry2 =>
            go_simp
            try go_ints
            first
            | rfl
            | (rw [if_pos (by omega)]; done)
            | rw [if_pos ⟨by omega, by omega⟩]
          simp only [List.setIfInBounds_toArray, List.set_cons_zero, List.set_cons_succ]
          refine take_op 3 (v := ?rv3) rfl (by kernel_rfl) (fun _ _ _ h => h) (by rfl) hS0 (fun w' hS' => ?ry3) ?rz3
          case ry3 =>
            have e1 := (World.cell?_of_block (w := wr) (w' := w') (a := ⟨b1, o1 + k, none⟩) (by rw [hS'])).trans hcl1
            have e2 := (World.cell?_of_block (w := wr) (w' := w') (a := ⟨b2, o2 + m, none⟩) (by rw [hS'])).trans hcw1
            have e3 := (World.cell?_of_block (w := wr) (w' := w') (a := ⟨B1, l, none⟩) (by rw [hS'])).trans hcs
            clear hS'
            go_simp
            rfl
          simp only [List.setIfInBounds_toArray, List.set_cons_zero, List.set_cons_succ]
          refine take_op 4 (v := ?rv4) rfl (by kernel_rfl) (fun _ _ _ h => h) (by rfl) hS0 (fun w' hS' => ?ry4) ?rz4
          case ry4 =>
            go_simp
            try go_ints
            first
            | rfl
            | (rw [if_pos (by omega)]; done)
            | rw [if_pos ⟨by omega, by omega⟩]
          simp only [List.setIfInBounds_toArray, List.set_cons_zero, List.set_cons_succ]
          refine take_op 5 (v := ?rv5) rfl (by kernel_rfl) (fun _ _ _ h => h) (by rfl) hS0 (fun w' hS' => ?ry5) ?rz5
          case ry5 =>
            have e1 := (World.cell?_of_block (w := wr) (w' := w') (a := ⟨b1, o1 + k, none⟩) (by rw [hS'])).trans hcl1
            have e2 := (World.cell?_of_block (w := wr) (w' := w') (a := ⟨b2, o2 + m, none⟩) (by rw [hS'])).trans hcw1
            have e3 := (World.cell?_of_block (w := wr) (w' := w') (a := ⟨B1, l, none⟩) (by rw [hS'])).trans hcs
            clear hS'
            go_simp
            rfl
          simp only [List.setIfInBounds_toArray, List.set_cons_zero, List.set_cons_succ]
          refine take_op 6 (v := ?rv6) rfl (by kernel_rfl) (fun _ _ _ h => h) (by rfl) hS0 (fun w' hS' => ?ry6) ?rz6
          case ry6 =>
            go_simp
            rfl
          simp only [List.setIfInBounds_toArray, List.set_cons_zero, List.set_cons_succ]
          refine take_op 7 (v := ?rv7) rfl (by kernel_rfl) (fun _ _ _ h => h) (by rfl) hS0 (fun w' hS' => ?ry7) ?rz7
          case ry7 =>
            go_simp
            rfl
          simp only [List.setIfInBounds_toArray, List.set_cons_zero, List.set_cons_succ]
          refine take_op 8 (v := ?rv8) rfl (by kernel_rfl) (fun _ _ _ h => h) (by rfl) hS0 (fun w' hS' => ?ry8) ?rz8
          case ry8 =>
            go_simp
            try go_ints
            first
            | rfl
            | (rw [if_pos (by omega)]; done)
            | rw [if_pos ⟨by omega, by omega⟩]
          simp only [List.setIfInBounds_toArray, List.set_cons_zero, List.set_cons_succ]
          refine take_op 9 (v := ?rv9) rfl (by kernel_rfl) (fun _ _ _ h => h) (by rfl) hS0 (fun w' hS' => ?ry9) ?rz9
          case ry9 =>
            have e1 := (World.cell?_of_block (w := wr) (w' := w') (a := ⟨b1, o1 + k, none⟩) (by rw [hS'])).trans hcl1
            have e2 := (World.cell?_of_block (w := wr) (w' := w') (a := ⟨b2, o2 + m, none⟩) (by rw [hS'])).trans hcw1
            have e3 := (World.cell?_of_block (w := wr) (w' := w') (a := ⟨B1, l, none⟩) (by rw [hS'])).trans hcs
            clear hS'
            go_simp
            rfl
          simp only [List.setIfInBounds_toArray, List.set_cons_zero, List.set_cons_succ]
          refine take_op 10 (v := ?rv10) rfl (by kernel_rfl) (fun _ _ _ h => h) (by rfl) hS0 (fun w' hS' => ?ry10) ?rz10
          case ry10 =>
            go_simp
            try go_ints
            rfl
          simp only [List.setIfInBounds_toArray, List.set_cons_zero, List.set_cons_succ]
          refine take_op 11 (v := ?rv11) rfl (by kernel_rfl) (fun _ _ _ h => h) (by rfl) hS0 (fun w' hS' => ?ry11) ?rz11
          case ry11 =>
            go_simp
            try go_ints
            first
            | rfl
            | (rw [if_pos (by omega)]; done)
            | rw [if_pos ⟨by omega, by omega⟩]
          simp only [List.setIfInBounds_toArray, List.set_cons_zero, List.set_cons_succ]
          refine step_op 12 (by kernel_rfl) rfl (fun K hK => ?_)
          have hfr2 : wr.drew.frozen? ⟨B1, l, none⟩ = false := hfr
          have hcs2 : wr.drew.cell? ⟨B1, l, none⟩ = some (.int .i64 s) := hcs
          rw [if_pos (by rfl)]
          go_simp
          refine hK.out _ _ (fun h => absurd h (by omega)) ?_
          clear hK K
          try simp only [Act.put, List.setIfInBounds_toArray, List.set_cons_zero, List.set_cons_succ]
          refine done_ops (by kernel_rfl) ?_
          go_wp2_with fail
          go_roundw
          case rel =>
            have k1 : Blk wr.drew B1 112 (triJ (labF xss) (fun i => ws[i]?.getD 0) k m) := hbk
            have k2 := k1.set l (.int .i64 (s + u))
            rw [hstepH.out] at k2
            exact ⟨m + 1, by omega, by go_num, k2, row_setCell (W := wr.drew) (a := ⟨B1, l, none⟩) rowm (by simp [Value.ownBlock]; omega) _, (hB.drew).setCell (p := ⟨B1, l, none⟩) hsz _⟩
          case measure => simp [intOf]; omega
        · have hmJ : m = J := by omega
          subst hmJ
          obtain ⟨s1, hs1⟩ : ∃ s, sumW (labF xss) (fun i => ws[i]?.getD 0) 1 k m = s := ⟨_, rfl⟩
          obtain ⟨s2, hs2⟩ : ∃ s, sumW (labF xss) (fun i => ws[i]?.getD 0) 2 k m = s := ⟨_, rfl⟩
          obtain ⟨p1, p2⟩ : -100000000 ≤ s1 ∧ s1 ≤ 100000000 := hs1 ▸ sumW_bd _ _ 1 k m (by omega) (fun i _ => hwb i)
          obtain ⟨p3, p4⟩ : -100000000 ≤ s2 ∧ s2 ≤ 100000000 := hs2 ▸ sumW_bd _ _ 2 k m (by omega) (fun i _ => hwb i)
          have d1 := hbk.cell (triJ_cell (labF xss) (fun i => ws[i]?.getD 0) k m (l := 1) (by omega))
          have d2 := hbk.cell (triJ_cell (labF xss) (fun i => ws[i]?.getD 0) k m (l := 2) (by omega))
          rw [hs1] at d1
          rw [hs2] at d2
          have hvk : vF k = verd s1 s2 := by rw [← hvF, ← hs1, ← hs2]; rfl
          have hst := fun z : Nat => rowm.stored k (.int .u8 (z : Int))
          simp only [map_set_u8] at hst
          have hset : (layU vF K k).set k (verd s1 s2) = layU vF K (k + 1) := by rw [← hvk]; exact layU_set vF hlt
          have hfr := rowm.frozenAt k
          have hcell := rowm.cellAt k (by rw [Nat.mul_one]; exact hlt)
          rw [List.getElem?_map, List.getElem?_eq_getElem (by rw [layU_length]; exact hlt)] at hcell
          simp only [Option.map_some] at hcell
          obtain ⟨y, hy⟩ : ∃ y, (layU vF K k)[k]'(by rw [layU_length]; exact hlt) = y := ⟨_, rfl⟩
          rw [hy] at hcell
          change wr.cell? ⟨w.heap.size, k, none⟩ = some (.int .u8 (y : Int)) at hcell
          have hstH := Lib.hid hst
          have hsetH := Lib.hid hset
          clear hst hset hs1 hs2 hvk hy
          have fin : ∀ z : Nat, z = verd s1 s2 → (wr.setCell ⟨w.heap.size, k, none⟩ (.int .u8 (z : Int))).ownsRow w.heap.size 5 1 (.slice (some ⟨w.heap.size, 0, none⟩) K K) K ((layU vF K (k + 1)).map vu8) ∧ Below w.heap.size w (wr.setCell ⟨w.heap.size, k, none⟩ (.int .u8 (z : Int))) := by
            intro z hz
            have h1 := (hstH.out z).1
            rw [hz, hsetH.out] at h1
            rw [hz]
            exact ⟨h1, hB.setCell (p := ⟨w.heap.size, k, none⟩) (Nat.le_refl _) _⟩
          have finH := Lib.hid fin
          clear fin
          by_cases g1 : s2 < s1
          · have e1 : (decide (0 < s1 - s2)) = true := by simp; omega
            go_wp2_with fail
            go_roundw
            case rel => exact ⟨k + 1, by omega, by go_num, (finH.out 1 (((verd_one _ _).2 g1).symm)).1, (finH.out 1 (((verd_one _ _).2 g1).symm)).2⟩
            case measure => simp [intOf]; omega
          · by_cases g2 : s1 < s2
            · go_wp2_with fail
              go_roundw
              case rel => exact ⟨k + 1, by omega, by go_num, (finH.out 2 (((verd_two _ _).2 g2).symm)).1, (finH.out 2 (((verd_two _ _).2 g2).symm)).2⟩
              case measure => simp [intOf]; omega
            · have g3 := Lib.hid (show 3 = verd s1 s2 by unfold verd; rw [if_neg g1, if_neg g2])
              go_wp2_with fail
              go_roundw
              case rel => exact ⟨k + 1, by omega, by go_num, (finH.out 3 g3.out).1, (finH.out 3 g3.out).2⟩
              case measure => simp [intOf]; omega
    · have hkK : k = K := by omega
      subst hkK
      rw [layU_all, ← hvF] at rowk
      go_wp2_with fail
      go_ret
      exact ⟨_, rfl, rowk, hB⟩

end Go.Proofs.YtbdnjhnlfpfhcaaGreat

namespace Go.Proofs.YtbdnjhnlfpfhcaaGreat
open Go Go.RowKit Go.Shelf
set_option linter.unusedVariables false
set_option linter.unusedSimpArgs false

/-- Labels that a jury may give. -/
def rowOk (l0 : Nat) (xs : List Nat) : Bool := decide (xs.length = l0) && !bigN xs
def len0 (xss : List (List Nat)) : Nat := (xss[0]?.getD []).length
def vldJ (xss : List (List Nat)) : Bool := decide (1 ≤ xss.length) && decide (xss.length ≤ 8) && decide (len0 xss ≤ 100) && xss.all (rowOk (len0 xss))

theorem all_hit {α : Type} {f : α → Bool} {L : List α} {i : Nat} {x : α} (hi : L[i]? = some x) (h : f x = false) : L.all f = false := by
  obtain ⟨hlt, rfl⟩ := List.getElem?_eq_some_iff.1 hi
  exact List.all_eq_false.2 ⟨_, List.getElem_mem hlt, by rw [h]; simp⟩
theorem all_succ {α : Type} {f : α → Bool} {L : List α} {i : Nat} {x : α} (hi : L[i]? = some x) (h : (L.take i).all f = true) (hx : f x = true) : (L.take (i + 1)).all f = true := by
  obtain ⟨hlt, rfl⟩ := List.getElem?_eq_some_iff.1 hi
  rw [List.take_succ_eq_append_getElem hlt, List.all_append, h]
  simp [hx]


end Go.Proofs.YtbdnjhnlfpfhcaaGreat

namespace Go.Proofs.YtbdnjhnlfpfhcaaGreat
open Go Go.RowKit Go.Shelf
set_option linter.unusedVariables false
set_option linter.unusedSimpArgs false

theorem jrow_weaken {W : World} {base base' : Nat} {e : TypeId} {size : Nat} {v : Value} {k : Nat} {xs : List Value} (h : W.ownsRow base e size v k xs) (hb : base' ≤ base) : W.ownsRow base' e size v k xs := by
  refine ⟨h.1, ?_⟩
  rcases h.2 with h1 | ⟨g, cap, cur, h1, h2, h3⟩
  · exact .inl h1
  · exact .inr ⟨g, cap, cur, h1, Nat.le_trans hb h2, h3⟩

end Go.Proofs.YtbdnjhnlfpfhcaaGreat

namespace Go.Proofs.YtbdnjhnlfpfhcaaGreat
open Go Go.RowKit Go.Shelf
set_option linter.unusedVariables false
set_option linter.unusedSimpArgs false

/-! ### Bytes as text -/

def bsN (xs : List Nat) : ByteArray := strOfNums (xs.map fun x : Nat => (x : Int))
theorem conv_bytes {W : World} {B : Nat} {a : Option Addr} {xs : List Nat} {n : Nat} (c : Nat) (hn : xs.length = n) (h : RdN B W a xs) : (convert 35 9 (.slice a n c)).run Tryz.prog W = .ok (.string (bsN xs)) W := by
  rcases h with h | ⟨b, o, h1, h2, h3⟩
  · subst h
    simp at hn
    subst hn
    rw [show bsN [] = ByteArray.empty from rfl]
    exact run_convert_bytes_zero W 35 5 Tryz.underlying35 Tryz.underlying5 a c 9 Tryz.underlying9
  · subst h1
    refine run_convert_bytes_arg W 35 5 Tryz.underlying35 Tryz.underlying5 b o n c (xs.map fun x : Nat => (x : Int)) (by simpa using hn) (fun i hi => ?_) 9 Tryz.underlying9
    rw [h3 i (by omega)]
    rw [List.getD_eq_getElem?_getD, List.getElem?_map, List.getElem?_eq_getElem (by omega)]
    rfl

/-! ### Rows that are written place by place -/

def mixJ (f : Nat → Int) (L : List Int) (k : Nat) : List Int := (List.range L.length).map fun j => if j < k then f j else L[j]?.getD 0
theorem mixJ_length (f : Nat → Int) (L : List Int) (k : Nat) : (mixJ f L k).length = L.length := by simp [mixJ]
theorem mixJ_zero (f : Nat → Int) (L : List Int) : mixJ f L 0 = L := by
  refine List.ext_getElem (by simp [mixJ]) fun i h1 h2 => ?_
  simp [mixJ, h2]
theorem mixJ_all (f : Nat → Int) (L : List Int) {n : Nat} (hn : L.length = n) : mixJ f L n = (List.range n).map f := by
  subst hn
  refine List.ext_getElem (by simp [mixJ]) fun i h1 h2 => ?_
  simp only [List.length_map, List.length_range] at h2
  simp [mixJ, h2]
theorem mixJ_set (f : Nat → Int) (L : List Int) {k : Nat} (hk : k < L.length) : (mixJ f L k).set k (f k) = mixJ f L (k + 1) := by
  refine List.ext_getElem (by simp [mixJ]) fun i h1 h2 => ?_
  simp only [mixJ, List.getElem_set, List.getElem_map, List.getElem_range]
  by_cases e : k = i
  · subst e; simp
  · rw [if_neg e]
    by_cases h : i < k
    · rw [if_pos h, if_pos (by omega)]
    · rw [if_neg h, if_neg (by omega)]

/-! ### What the jury's functions return -/

theorem vldJ_true {xss : List (List Nat)} (h : vldJ xss = true) : 1 ≤ xss.length ∧ xss.length ≤ 8 ∧ len0 xss ≤ 100 ∧ (∀ (i : Nat) (xs : List Nat), xss[i]? = some xs → xs.length = len0 xss) ∧ ∀ i k, labF xss i k ≤ 2 := by
  unfold vldJ at h
  simp only [Bool.and_eq_true, decide_eq_true_eq] at h
  obtain ⟨⟨⟨h1, h2⟩, h3⟩, h4⟩ := h
  have h5 : ∀ (i : Nat) (xs : List Nat), xss[i]? = some xs → rowOk (len0 xss) xs = true := fun i xs hi => List.all_eq_true.1 h4 xs (List.mem_of_getElem? hi)
  refine ⟨h1, h2, h3, fun i xs hi => ?_, fun i k => ?_⟩
  · have := h5 i xs hi
    unfold rowOk at this
    simp only [Bool.and_eq_true, decide_eq_true_eq] at this
    exact this.1
  · unfold labF
    cases e : xss[i]? with
    | none => simp
    | some xs =>
      have := h5 i xs e
      unfold rowOk at this
      simp only [Bool.and_eq_true, Bool.not_eq_true'] at this
      exact bigN_le this.2 k

def recJ (xss : List (List Nat)) : List Nat × List Int × Int :=
  if vldJ xss = true then ((reconS (labF xss) xss.length (len0 xss)).1, (reconS (labF xss) xss.length (len0 xss)).2, 0) else ([], [], 2)

/-- Verdicts, weights and an error, in memory. -/
def RetJ (w : World) (r : List Nat × List Int × Int) (e : Ending) (w' : World) : Prop :=
  ∃ a1 c1 a2 c2, e = .returned (.tuple #[.slice a1 r.1.length c1, .slice a2 r.2.1.length c2, .int .i64 r.2.2]) ∧ RdN w'.heap.size w' a1 r.1 ∧ Rd w'.heap.size w' a2 r.2.1 ∧ Below w.heap.size w w'

theorem voteL_lt (lab : Nat → Nat → Nat) (J K : Nat) (ws : List Int) : ∀ x ∈ voteL lab J K ws, x < 256 := by
  intro x hx
  unfold voteL at hx
  obtain ⟨k, _, rfl⟩ := List.mem_map.1 hx
  unfold voteF
  have := verd_mem (sumW lab (fun i => ws[i]?.getD 0) 1 k J) (sumW lab (fun i => ws[i]?.getD 0) 2 k J)
  omega
theorem weighL_bd (lab : Nat → Nat → Nat) {J K : Nat} (hK : K ≤ 1000) (vs : List Nat) (i : Nat) : -1000000 ≤ (weighL lab J K vs)[i]?.getD 0 ∧ (weighL lab J K vs)[i]?.getD 0 ≤ 1000000 := by
  unfold weighL
  rw [List.getElem?_map]
  cases e : (List.range J)[i]? with
  | none => simp
  | some j =>
    have := weighF_bd (lab := lab) (K := K) (fun k => vs[k]?.getD 0) j
    simp only [Option.map_some, Option.getD_some]
    omega
theorem ones_bd (J i : Nat) : -1000000 ≤ (List.replicate J (1 : Int))[i]?.getD 0 ∧ (List.replicate J (1 : Int))[i]?.getD 0 ≤ 1000000 := by
  rw [List.getElem?_replicate]
  split <;> simp

theorem RdN.later {W W' : World} {a : Option Addr} {xs : List Nat} (h : RdN W.heap.size W a xs) (hb : Below W.heap.size W W') : RdN W'.heap.size W' a xs := (h.below (Nat.le_refl _) hb).mono hb.size
theorem Rd.later {W W' : World} {a : Option Addr} {xs : List Int} (h : Rd W.heap.size W a xs) (hb : Below W.heap.size W W') : Rd W'.heap.size W' a xs := (h.below (Nat.le_refl _) hb).mono hb.size
theorem RdL.later {W W' : World} {a : Option Addr} {xss : List (List Nat)} (h : RdL W.heap.size W a xss) (hb : Below W.heap.size W W') : RdL W'.heap.size W' a xss := (h.below (Nat.le_refl _) hb).mono hb.size


end Go.Proofs.YtbdnjhnlfpfhcaaGreat

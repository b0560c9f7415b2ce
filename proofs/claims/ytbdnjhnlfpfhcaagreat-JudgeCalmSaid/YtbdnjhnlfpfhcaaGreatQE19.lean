/- Contracts and laws (Sb). -/
import Derived.Test.YtbdnjhnlfpfhcaaGreatQE18
import Derived.Test.YtbdnjhnlfpfhcaaGreatQE17
namespace Go.Proofs.YtbdnjhnlfpfhcaaGreat
open Go Go.RowKit Go.Shelf
set_option linter.unusedVariables false
set_option linter.unusedSimpArgs false

set_option maxRecDepth 100000 in
set_option maxHeartbeats 2000000 in
theorem cut_bnd (a b : Int) (W : World) :
    Calls Tryz.prog 143 #[.agg #[.int .i64 a, .int .i64 b]] W fun e w' => e = .returned (.agg #[.int .i64 (cutI true a), .int .i64 (cutI true b)]) ∧ Below W.heap.size W w' := by
  obtain ⟨m, hm⟩ : ∃ m, max a 0 = m := ⟨_, rfl⟩
  obtain ⟨n, hn⟩ : ∃ n, max b 0 = n := ⟨_, rfl⟩
  have hc1H := Lib.hid (show cutI true a = m from hm)
  have hc2H := Lib.hid (show cutI true b = n from hn)
  go_enter Tryz.func143, Tryz.ntmps143
  go_wp2
  have k := Blk.new (W.alloc (.cells #[.int .i64 a, .int .i64 b] 88)) 88 #[.int .i64 m, .int .i64 n]
  simp only [World.size_alloc] at k
  have g0 := k.cell (i := 0) rfl
  have g1 := k.cell (i := 1) rfl
  exact bodyPost_ret (v := .agg #[.int .i64 m, .int .i64 n]) (by simp [results, Tryz.results143, go_sem, g0, g1]) rfl ⟨by rw [hc1H.out, hc2H.out], jb_al (jb_al (Below.refl _ W) _) _⟩
set_option maxRecDepth 100000 in
set_option maxHeartbeats 2000000 in
theorem bias_bnd (a : Int) (W : World) :
    Calls Tryz.prog 76 #[.int .i64 a] W fun e w' => e = .returned (.agg #[.int .i64 a, .int .i64 a]) ∧ Below W.heap.size W w' := by
  go_enter Tryz.func76, Tryz.ntmps76
  go_wp2
  have k := Blk.new W 88 #[.int .i64 a, .int .i64 a]
  have g0 := k.cell (i := 0) rfl
  have g1 := k.cell (i := 1) rfl
  exact bodyPost_ret (v := .agg #[.int .i64 a, .int .i64 a]) (by simp [results, Tryz.results76, go_sem, g0, g1]) rfl ⟨rfl, jb_al (Below.refl _ W) _⟩
set_option maxRecDepth 100000 in
set_option maxHeartbeats 2000000 in
theorem plus_bnd (a b w x y p q : Int) (hp : loT w x y = p) (hq : hiT w x y = q) (h1 : -9223372036854775808 ≤ p) (h2 : p ≤ 9223372036854775807) (h3 : -9223372036854775808 ≤ a + p) (h4 : a + p ≤ 9223372036854775807)
    (h5 : -9223372036854775808 ≤ q) (h6 : q ≤ 9223372036854775807) (h7 : -9223372036854775808 ≤ b + q) (h8 : b + q ≤ 9223372036854775807) (W : World) :
    Calls Tryz.prog 144 #[.agg #[.int .i64 a, .int .i64 b], .int .i64 w, .agg #[.int .i64 x, .int .i64 y]] W fun e w' => e = .returned (.agg #[.int .i64 (a + p), .int .i64 (b + q)]) ∧ Below W.heap.size W w' := by
  have hk := Blk.new ((W.alloc (.cells #[.int .i64 a, .int .i64 b] 88))) 88 #[.int .i64 x, .int .i64 y]
  by_cases hw : w < 0
  · have e1 : w * y = p := by rw [← hp]; unfold loT; rw [if_pos hw]
    have e2 : w * x = q := by rw [← hq]; unfold hiT; rw [if_pos hw]
    clear hp hq hk
    go_enter Tryz.func144, Tryz.ntmps144
    go_wp2
    have k := Blk.new ((W.alloc (.cells #[.int .i64 a, .int .i64 b] 88)).alloc (.cells #[.int .i64 y, .int .i64 x] 88)) 88 #[.int .i64 (a + p), .int .i64 (b + q)]
    simp only [World.size_alloc] at k
    have g0 := k.cell (i := 0) rfl
    have g1 := k.cell (i := 1) rfl
    exact bodyPost_ret (v := .agg #[.int .i64 (a + p), .int .i64 (b + q)]) (by simp [results, Tryz.results144, go_sem, g0, g1]) rfl ⟨rfl, jb_al (jb_al (jb_al (Below.refl _ W) _) _) _⟩
  · have e1 : w * x = p := by rw [← hp]; unfold loT; rw [if_neg hw]
    have e2 : w * y = q := by rw [← hq]; unfold hiT; rw [if_neg hw]
    clear hp hq hk
    go_enter Tryz.func144, Tryz.ntmps144
    go_wp2
    have k := Blk.new ((W.alloc (.cells #[.int .i64 a, .int .i64 b] 88)).alloc (.cells #[.int .i64 x, .int .i64 y] 88)) 88 #[.int .i64 (a + p), .int .i64 (b + q)]
    simp only [World.size_alloc] at k
    have g0 := k.cell (i := 0) rfl
    have g1 := k.cell (i := 1) rfl
    exact bodyPost_ret (v := .agg #[.int .i64 (a + p), .int .i64 (b + q)]) (by simp [results, Tryz.results144, go_sem, g0, g1]) rfl ⟨rfl, jb_al (jb_al (jb_al (Below.refl _ W) _) _) _⟩
theorem plus_bnd_at (a b : Int) (w : World) : (method 314 88 (.agg #[.int .i64 a, .int .i64 b]) "sightbench/judge.plus").run Tryz.prog w = .ok (144, .agg #[.int .i64 a, .int .i64 b]) w := by kernel_rfl
theorem cut_bnd_at (a b : Int) (w : World) : (method 314 88 (.agg #[.int .i64 a, .int .i64 b]) "sightbench/judge.cut").run Tryz.prog w = .ok (143, .agg #[.int .i64 a, .int .i64 b]) w := by kernel_rfl

set_option maxRecDepth 100000 in
set_option maxHeartbeats 8000000 in
theorem score_bnd (N : NetN) (hN : NetOk N) (na : Option Addr) (nn nc : Nat) (hnn : N.Ls.length = nn) (x : List (Int × Int)) (hx : x.length = N.nf) (hxb : LeP 65280 x) (la : Option Addr) (lc : Nat) (w : World) (hrn : RdLs w.heap.size w na N.Ls) (hrl : Rd w.heap.size w la (flat x)) :
    Calls Tryz.prog 75 #[netv N na nn nc, .slice la N.nf lc, .func (.func 76) #[] #[]] w fun e w' => e = .returned (.agg #[.int .i64 (loAt (fwdB N.Ls x) 0), .int .i64 (hiAt (fwdB N.Ls x) 0)]) ∧ Below w.heap.size w w' := by
  obtain ⟨i0, hi, hz0, hz1, hz2⟩ := info_parts jinfo_bnd
  have hpm := plus_bnd_at
  have hcm := cut_bnd_at
  have hNH := Lib.hid hN
  have hnnH := Lib.hid hnn
  have hxH := Lib.hid hx
  have hbdH := Lib.hid (fun i => bndAt_bd hN hx hxb i)
  have hn3 : nn ≤ 3 := by rw [← hnn]; exact hN.l3
  have hn1 : 1 ≤ nn := by rw [← hnn]; exact hN.l1
  have hfin := fwdB_at N.Ls x
  rw [hnn] at hfin
  have hfinH := Lib.hid hfin
  clear hN hnn hx hxb hfin
  have hbW0 : Below w.heap.size w (w.alloc (.cells #[.int .i64 N.w, .int .i64 N.h, .int .i64 N.gx, .int .i64 N.gy, .slice na nn nc, .int .i64 N.low, .int .i64 N.high] 47)) := jb_al (Below.refl _ w) _
  have kn0 := Blk.new w 47 #[.int .i64 N.w, .int .i64 N.h, .int .i64 N.gx, .int .i64 N.gy, .slice na nn nc, .int .i64 N.low, .int .i64 N.high]
  obtain ⟨W0, hEW0⟩ : ∃ X, w.alloc (.cells #[.int .i64 N.w, .int .i64 N.h, .int .i64 N.gx, .int .i64 N.gy, .slice na nn nc, .int .i64 N.low, .int .i64 N.high] 47) = X := ⟨_, rfl⟩
  rw [hEW0] at hbW0 kn0
  have hbW1 : Below W0.heap.size W0 (W0.alloc (.cells #[.int .i64 0, .int .i64 0] 88)) := jb_al (Below.refl _ W0) _
  have ks0 := Blk.new W0 88 #[.int .i64 0, .int .i64 0]
  obtain ⟨W1, hEW1⟩ : ∃ X, W0.alloc (.cells #[.int .i64 0, .int .i64 0] 88) = X := ⟨_, rfl⟩
  rw [hEW1] at hbW1 ks0
  have kn := kn0.below hbW1 kn0.lt
  have hB01 : Below w.heap.size w W1 := hbW0.trans (hbW1.mono hbW0.size)
  have c4 : W1.cell? ⟨w.heap.size, 4, none⟩ = some (.slice na nn nc) := kn.cell (i := 4) rfl
  have knH := Lib.hid kn
  have ksH := Lib.hid ks0
  have hrnH := Lib.hid (later_l hrn hB01)
  have hrlH := Lib.hid (later_i hrl hB01)
  have hw01 : w.heap.size ≤ W0.heap.size := hbW0.size
  clear kn kn0 ks0 hrn hrl
  go_enter Tryz.func75, Tryz.ntmps75
  go_wp2_with fail
  clear hEW1 hEW0 c4
  go_loopw [1, 18] (fun v i wr => ∃ (k : Nat) (a : Option Addr) (c : Nat), k ≤ nn ∧ i = .int .i64 (k : Int) ∧ v = .slice a (widthN N.nf N.Ls k) c ∧ Hid (Rd wr.heap.size wr a (flat (bndAt N.Ls x k))) ∧ Below W1.heap.size W1 wr) (fun _ i _ => nn - (intOf i).toNat)
  case atStart => exact ⟨0, la, lc, Nat.zero_le _, rfl, rfl, hrlH, Below.refl _ _⟩
  case round =>
    obtain ⟨k, a, c, hk, rfl, rfl, hra, hb⟩ := hrel
    obtain ⟨wo, hwo⟩ : ∃ X : World, X = wr := ⟨_, rfl⟩
    subst hwo
    have hB := hB01.trans (hb.mono hB01.size)
    by_cases hlt : k < nn
    case neg =>
      have hkn : k = nn := by omega
      subst hkn
      have hone : widthN N.nf N.Ls k = 1 := by rw [← hnnH.out]; exact hNH.out.one
      have hlen : (bndAt N.Ls x k).length = 1 := by rw [bndAt_len, hxH.out, hone]
      rcases hra.out with h0 | ⟨b1, o1, rfl, hb1, hac1⟩
      · have := congrArg List.length h0; rw [flat_length, List.length_nil] at this; omega
      have hd1 := hac1 (0 * 2) (by rw [flat_length]; omega)
      have hd2 := hac1 (0 * 2 + 1) (by rw [flat_length]; omega)
      rw [flat_lo, ← hfinH.out, Nat.zero_mul, Nat.add_zero] at hd1
      rw [flat_hi, ← hfinH.out, Nat.zero_mul, Nat.zero_add] at hd2
      obtain ⟨z1, hz1'⟩ : ∃ z, loAt (fwdB N.Ls x) 0 = z := ⟨_, rfl⟩
      obtain ⟨z2, hz2'⟩ : ∃ z, hiAt (fwdB N.Ls x) 0 = z := ⟨_, rfl⟩
      rw [hz1'] at hd1
      rw [hz2'] at hd2
      rw [hone]
      have hz1H := Lib.hid hz1'
      have hz2H := Lib.hid hz2'
      have kso := ksH.out.below hb ksH.out.lt
      have s0 := kso.cell (i := 0) rfl
      have s1 := kso.cell (i := 1) rfl
      have f0 := kso.frozen 0
      have f1 := kso.frozen 1
      clear hz1' hz2' hlen hac1 hra
      go_wp2_with fail
      have kse := (kso.set 0 (.int .i64 z1)).set 1 (.int .i64 z2)
      have g0 := kse.cell (i := 0) rfl
      have g1 := kse.cell (i := 1) rfl
      exact bodyPost_ret (v := .agg #[.int .i64 z1, .int .i64 z2]) (by simp [results, Tryz.results75, go_sem, g0, g1]) rfl ⟨by rw [hz1H.out, hz2H.out], (hB.setCell (p := ⟨W0.heap.size, 0, none⟩) hw01 _).setCell (p := ⟨W0.heap.size, 1, none⟩) hw01 _⟩
    case pos =>
      have hkl : k < N.Ls.length := by have := hnnH.out; omega
      obtain ⟨nb, no, rfl, hnb, wa, wc, ba, bc, hc1, hc2, hws, hbs⟩ := (later_l hrnH.out hb).at hkl
      have hLok := hNH.out.ly k hkl
      have hlb := hbdH.out k (by omega)
      have hlw := width_le hNH.out (show k ≤ N.Ls.length by omega)
      have hlen : (bndAt N.Ls x k).length = widthN N.nf N.Ls k := by rw [bndAt_len, hxH.out]
      obtain ⟨L, hL⟩ : ∃ L, layAt N.Ls k = L := ⟨_, rfl⟩
      obtain ⟨B, hBe⟩ : ∃ B, widthN N.nf N.Ls k = B := ⟨_, rfl⟩
      obtain ⟨l, hle⟩ : ∃ l, bndAt N.Ls x k = l := ⟨_, rfl⟩
      rw [hL] at hc1 hc2 hws hbs hLok
      rw [hBe] at hLok hlw hlen ⊢
      rw [hle] at hlb hlen hra
      obtain ⟨wl, hwl⟩ : ∃ y, L.ws.length = y := ⟨_, rfl⟩
      obtain ⟨bl, hbl⟩ : ∃ y, L.bs.length = y := ⟨_, rfl⟩
      rw [hwl] at hc1
      rw [hbl] at hc2
      have hwb : wl = bl := by rw [← hwl, ← hbl]; exact hLok.ws
      have hb1 : 1 ≤ bl := by rw [← hbl]; exact hLok.b1
      have hb8 : bl ≤ 8 := by rw [← hbl]; exact hLok.b8
      subst hwb
      have hLH := Lib.hid hL
      have hBH := Lib.hid hBe
      have hleH := Lib.hid hle
      have hwlH := Lib.hid hwl
      have hblH := Lib.hid hbl
      have hLokH := Lib.hid hLok
      have hlbH := Lib.hid hlb
      have hlenH := Lib.hid hlen
      clear hL hBe hle hwl hbl hLok hlb hlen
      have hbW2 : Below wo.heap.size wo (wo.alloc (.cells #[.slice wa wl wc, .slice ba wl bc] 91)) := jb_al (Below.refl _ wo) _
      have kl := Blk.new wo 91 #[.slice wa wl wc, .slice ba wl bc]
      obtain ⟨W2, hEW2⟩ : ∃ X, wo.alloc (.cells #[.slice wa wl wc, .slice ba wl bc] 91) = X := ⟨_, rfl⟩
      rw [hEW2] at hbW2 kl
      have m0 : W2.cell? ⟨wo.heap.size, 0, none⟩ = some (.slice wa wl wc) := kl.cell (i := 0) rfl
      have m1 : W2.cell? ⟨wo.heap.size, 1, none⟩ = some (.slice ba wl bc) := kl.cell (i := 1) rfl
      have hwsH := Lib.hid (later_w hws hbW2)
      have hbsH := Lib.hid (later_i hbs hbW2)
      have hraH := Lib.hid (later_i hra.out hbW2)
      have klH := Lib.hid kl
      have hb2 := hb.trans (hbW2.mono hb.size)
      have kn2H := Lib.hid (knH.out.below hb2 knH.out.lt)
      have hls : wo.heap.size < W2.heap.size := kl.lt
      have hn2 : w.heap.size < W2.heap.size := kn2H.out.lt
      have hzH := Lib.hid (jmade_bnd wl)
      clear kl hws hbs hra
      go_wp2_with (at_make; refine wpList_make_full _ rfl _ _ 102 rfl W2.heap.size 88 i0 (.agg #[.int .i64 0, .int .i64 0]) 2 Tryz.underlying102 hi hz0 hz1 .i64 .i64 (wl : Int) (wl : Int) wl rfl rfl (by simp) (by simp) (by rw [hz2]; omega) (by unfold maxLen; omega) (by simp) ?_; intro W3 hown hg; have kl3 := klH.out.kept hg (by simp); clear m0 m1; have m0 : W3.cell? ⟨wo.heap.size, 0, none⟩ = some (.slice wa wl wc) := kl3.cell (i := 0) rfl; have m1 : W3.cell? ⟨wo.heap.size, 1, none⟩ = some (.slice ba wl bc) := kl3.cell (i := 1) rfl)
      obtain ⟨F, hF⟩ : ∃ F : Nat → Int × Int, layBF L (decide (k + 1 < nn)) l = F := ⟨_, rfl⟩
      have row3 : W3.ownsRow W2.heap.size 88 2 (.slice (some ⟨W2.heap.size, 0, none⟩) wl wl) wl (madeCells (Value.cells (.agg #[.int .i64 0, .int .i64 0])) (wl * 2)).toList := hown
      rw [hzH.out, ← layP_zero F wl] at row3
      have hb3 : Below W2.heap.size W2 W3 := (Below.refl _ _).grown hg (Nat.le_refl _) (fun k e => by cases e)
      have hFH := Lib.hid hF
      clear hown hg hzH m0 m1 kl3 hEW2 hF
      go_loopw [30] (fun i wr => ∃ j : Nat, j ≤ wl ∧ i = .int .i64 (j : Int) ∧ wr.ownsRow W2.heap.size 88 2 (.slice (some ⟨W2.heap.size, 0, none⟩) wl wl) wl ((flat (layP F wl j)).map (Value.int .i64)) ∧ Below W2.heap.size W2 wr) (fun i _ => wl - (intOf i).toNat)
      case atStart => exact ⟨0, Nat.zero_le _, rfl, row3, hb3⟩
      case round =>
        clear row3 hb3 hc1 hc2
        obtain ⟨j, hj, rfl, rowj, hb4⟩ := hrel
        obtain ⟨wj, hwj⟩ : ∃ X : World, X = wr := ⟨_, rfl⟩
        subst hwj
        have klj := klH.out.below hb4 hls
        have m1 : wj.cell? ⟨wo.heap.size, 1, none⟩ = some (.slice ba wl bc) := klj.cell (i := 1) rfl
        by_cases hlt2 : j < wl
        case neg =>
          have hjw : j = wl := by omega
          subst hjw
          rw [layP_all] at rowj
          have hnxt : bndAt N.Ls x (k + 1) = (List.range j).map F := by
            show layB (layAt N.Ls k) (decide (k + 1 < N.Ls.length)) (bndAt N.Ls x k) = _
            rw [hLH.out, hleH.out, hnnH.out]
            unfold layB
            rw [hblH.out, hFH.out]
          have hwid : widthN N.nf N.Ls (k + 1) = j := by
            show (layAt N.Ls k).bs.length = j
            rw [hLH.out, hblH.out]
          have hrdn := rowP_rd (by rw [flat_length]; simp) rowj
          rw [← hnxt] at hrdn
          have hrdnH := Lib.hid hrdn
          have hwidH := Lib.hid hwid
          have hb5 := hb2.trans (hb4.mono hb2.size)
          clear hnxt hrdn hwid rowj klj
          go_wp2_with fail
          go_roundw
          case rel => exact ⟨k + 1, _, _, by omega, by go_num, by rw [hwidH.out], hrdnH, hb5⟩
          case measure => simp [intOf]; omega
        case pos =>
          have hjb : j < L.bs.length := by have := hblH.out; omega
          have hjw : j < L.ws.length := by have := hwlH.out; omega
          rcases hbsH.out with h0 | ⟨bb, bo, rfl, hbb, hbc⟩
          · rw [h0] at hjb; simp at hjb
          have hcb := (hb4.cell (p := ⟨bb, bo + j, none⟩) hbb).trans (hbc j hjb)
          obtain ⟨wb, wq, rfl, hwb, ra, rc, hcw, hrow⟩ := hwsH.out.at hjw
          obtain ⟨hrl, hrw⟩ := hLokH.out.row j hjb
          obtain ⟨r, hre⟩ : ∃ r, L.ws[j]?.getD [] = r := ⟨_, rfl⟩
          obtain ⟨bv, hbv⟩ : ∃ y, L.bs[j]?.getD 0 = y := ⟨_, rfl⟩
          rw [hre] at hrow hrl hcw
          rw [hrl] at hcw
          rw [hbv] at hcb
          have hbv2 : bAt L j = bv := hbv
          have hreH := Lib.hid hre
          have hbvH := Lib.hid hbv2
          have hrlH := Lib.hid hrl
          have hrowH := Lib.hid hrow
          have rowjH := Lib.hid rowj
          clear hbc hrow hre hbv hbv2 hrl hrw rowj
          have tok1 : True := trivial
          have tok2 : True := trivial
          go_wp2_with (go_at_call 76; have _t := tok1; refine (bias_bnd _ _).mono ?_; clear _t tok1; rintro e w1 ⟨rfl, hbw⟩; have hb5 := hb4.trans (hbw.mono hb4.size); have kl1 := klH.out.below hb5 hls; have n0 : (w1.alloc (.cells #[.int .i64 bv, .int .i64 bv] 88)).cell? ⟨wo.heap.size, 0, none⟩ = some (.slice (some ⟨wb, wq, none⟩) wl wc) := cell_old (kl1.cell (i := 0) rfl); have hcw1 : (w1.alloc (.cells #[.int .i64 bv, .int .i64 bv] 88)).cell? ⟨wb, wq + j, none⟩ = some (.slice ra B rc) := cell_old ((hb5.cell (p := ⟨wb, wq + j, none⟩) hwb).trans hcw); have row1 := row_below rowjH.out hbw; clear hbw kl1 m1 hcb)
          have hg1 : W2.heap.size ≤ w1.heap.size := hb5.size
          have row1H := Lib.hid row1
          have hrow1H := Lib.hid (hrowH.out.below (Nat.le_refl _) hb5)
          have hra1H := Lib.hid (hraH.out.below (Nat.le_refl _) hb5)
          have kn1H := Lib.hid (kn2H.out.below hb5 hn2)
          clear row1 rowjH hrowH klj
          have hbs0 : Below w1.heap.size w1 (w1.alloc (.cells #[.int .i64 bv, .int .i64 bv] 88)) := jb_al (Below.refl _ w1) _
          go_loopw [13, 44] (fun _ i wr => ∃ (q : Nat) (z1 z2 : Int), q ≤ B ∧ i = .int .i64 (q : Int) ∧ Hid (partLo L l j q = z1) ∧ Hid (partHi L l j q = z2) ∧ Blk wr w1.heap.size 88 #[.int .i64 z1, .int .i64 z2] ∧ Below w1.heap.size w1 wr) (fun _ i _ => B - (intOf i).toNat)
          case atStart => exact ⟨0, bv, bv, Nat.zero_le _, rfl, Lib.hid (by unfold partLo; rw [hbvH.out]; simp [sumJ]), Lib.hid (by unfold partHi; rw [hbvH.out]; simp [sumJ]), Blk.new w1 _ _, hbs0⟩
          case round =>
            clear n0 hcw1 hcw hbs0
            obtain ⟨q, z1, z2, hq, rfl, hs1, hs2, ksum, hb6⟩ := hrel
            by_cases hlt3 : q < B
            case neg =>
              have hqB : q = B := by omega
              subst hqB
              have hFj : F j = (cutI (decide (k + 1 < nn)) z1, cutI (decide (k + 1 < nn)) z2) := by
                rw [← hFH.out, ← hs1.out, ← hs2.out]; unfold layBF partLo partHi; rw [hlenH.out]
              have rowq := row_below row1H.out hb6
              have hbq := hb5.trans (hb6.mono hg1)
              have knq := kn1H.out.below hb6 (by omega)
              have c4 : wr.cell? ⟨w.heap.size, 4, none⟩ = some (.slice (some ⟨nb, no, none⟩) nn nc) := knq.cell (i := 4) rfl
              have s0 : wr.cell? ⟨w1.heap.size, 0, none⟩ = some (.int .i64 z1) := ksum.cell (i := 0) rfl
              have s1 : wr.cell? ⟨w1.heap.size, 1, none⟩ = some (.int .i64 z2) := ksum.cell (i := 1) rfl
              have hrowne : w1.heap.size ≠ W2.heap.size := by
                have := (rowq.lt W2.heap.size rfl).2
                have h2 := (row1H.out.lt W2.heap.size rfl).2
                omega
              have rowqH := Lib.hid rowq
              have ksumH := Lib.hid ksum
              clear hs1 hs2 knq rowq ksum
              by_cases hlast : k + 1 < nn
              case pos =>
                rw [decide_eq_true hlast] at hFj
                have hd : decide ((k : Int) < (nn : Int) - 1) = true := by simp; omega
                have hd2 : (k : Int) < (nn : Int) - 1 := by omega
                obtain ⟨v1, hv1⟩ : ∃ v, cutI true z1 = v := ⟨_, rfl⟩
                obtain ⟨v2, hv2⟩ : ∃ v, cutI true z2 = v := ⟨_, rfl⟩
                rw [hv1, hv2] at hFj
                have hcutH := Lib.hid (fun W => cut_bnd z1 z2 W)
                rw [hv1, hv2] at hcutH
                have hFjH := Lib.hid hFj
                clear hFj hv1 hv2
                go_wp2_with (go_at_call 143; have _t := tok2; refine (hcutH.out _).mono ?_; clear _t tok2; rintro e w5 ⟨rfl, hbc⟩; have hbc2 := hb6.trans (hbc.mono hb6.size); have ks5 := ksumH.out.below hbc ksumH.out.lt; have g0 := ks5.frozen 0; have g1 := ks5.frozen 1; have t0 : w5.cell? ⟨w1.heap.size, 0, none⟩ = some (.int .i64 z1) := ks5.cell (i := 0) rfl; have t1 : w5.cell? ⟨w1.heap.size, 1, none⟩ = some (.int .i64 z2) := ks5.cell (i := 1) rfl; have ks6 := (ks5.set 0 (.int .i64 v1)).set 1 (.int .i64 v2); have row5 := row_below rowqH.out hbc; have row6 := row_setCell (row_setCell row5 (a := ⟨w1.heap.size, 0, none⟩) (by simp [Value.ownBlock]; exact hrowne) (.int .i64 v1)) (a := ⟨w1.heap.size, 1, none⟩) (by simp [Value.ownBlock]; exact hrowne) (.int .i64 v2); have hb9 := Lib.hid (((hbq.trans (hbc.mono hbq.size)).setCell (p := ⟨w1.heap.size, 0, none⟩) hg1 (.int .i64 v1)).setCell (p := ⟨w1.heap.size, 1, none⟩) hg1 (.int .i64 v2)); obtain ⟨⟨u0, hr0⟩, ⟨u1, hr1⟩, hf0, hf1, hrow7'⟩ := rowP_store row6 hlt2 hFjH.out; have hrow7 := Lib.hid hrow7'; have x0 : ((w5.setCell ⟨w1.heap.size, 0, none⟩ (.int .i64 v1)).setCell ⟨w1.heap.size, 1, none⟩ (.int .i64 v2)).cell? ⟨w1.heap.size, 0, none⟩ = some (.int .i64 v1) := ks6.cell (i := 0) rfl; have x1 : ((w5.setCell ⟨w1.heap.size, 0, none⟩ (.int .i64 v1)).setCell ⟨w1.heap.size, 1, none⟩ (.int .i64 v2)).cell? ⟨w1.heap.size, 1, none⟩ = some (.int .i64 v2) := ks6.cell (i := 1) rfl; obtain ⟨w6, hE6⟩ : ∃ X, (w5.setCell ⟨w1.heap.size, 0, none⟩ (.int .i64 v1)).setCell ⟨w1.heap.size, 1, none⟩ (.int .i64 v2) = X := ⟨_, rfl⟩; rw [hE6] at hr0 hr1 hf0 hf1 hrow7 x0 x1 hb9; clear s0 s1 row5 row6 ks6 ks5 hrow7' hbc2)
                go_roundw
                case rel => exact ⟨j + 1, by omega, by go_num, hrow7.out, (hb9.out.setCell (p := ⟨W2.heap.size, j * 2, none⟩) (Nat.le_refl _) _).setCell (p := ⟨W2.heap.size, j * 2 + 1, none⟩) (Nat.le_refl _) _⟩
                case measure => simp [intOf]; omega
              case neg =>
                rw [decide_eq_false hlast] at hFj
                have hd : decide ((k : Int) < (nn : Int) - 1) = false := by simp; omega
                have hd2 : ¬ ((k : Int) < (nn : Int) - 1) := by omega
                have hFj2 : F j = (z1, z2) := hFj
                obtain ⟨⟨u0, hr0⟩, ⟨u1, hr1⟩, hf0, hf1, hrow7⟩ := rowP_store rowqH.out hlt2 hFj2
                have hrow7H := Lib.hid hrow7
                clear hFj hFj2 hrow7
                go_wp2_with fail
                go_roundw
                case rel => exact ⟨j + 1, by omega, by go_num, hrow7H.out, (hbq.setCell (p := ⟨W2.heap.size, j * 2, none⟩) (Nat.le_refl _) _).setCell (p := ⟨W2.heap.size, j * 2 + 1, none⟩) (Nat.le_refl _) _⟩
                case measure => simp [intOf]; omega
            case pos =>
              have hqr : q < r.length := by have := hrlH.out; omega
              have hql : q < l.length := by have := hlenH.out; omega
              rcases hrow1H.out with h0 | ⟨rb, ro, rfl, hrb, hrc⟩
              · rw [h0] at hqr; simp at hqr
              rcases hra1H.out with h0 | ⟨ab, ao, rfl, hab, hac⟩
              · have := congrArg List.length h0; rw [flat_length, List.length_nil] at this; omega
              have hcr := (hb6.cell (p := ⟨rb, ro + q, none⟩) (Nat.lt_of_lt_of_le hrb hg1)).trans (hrc q hqr)
              have hcx := hac (q * 2) (by rw [flat_length]; omega)
              have hcy := hac (q * 2 + 1) (by rw [flat_length]; omega)
              rw [flat_lo] at hcx
              rw [flat_hi] at hcy
              have hwv : wAt L j q = r[q]?.getD 0 := by unfold wAt; rw [hreH.out]
              obtain ⟨u, hu⟩ : ∃ u, r[q]?.getD 0 = u := ⟨_, rfl⟩
              obtain ⟨x', hx'⟩ : ∃ y, loAt l q = y := ⟨_, rfl⟩
              obtain ⟨y, hy⟩ : ∃ y, hiAt l q = y := ⟨_, rfl⟩
              rw [hu] at hcr hwv
              rw [hx'] at hcx
              rw [hy] at hcy
              have hub := wAt_bd hLokH.out hjb hlt3
              rw [hwv] at hub
              have hyb := hlbH.out q
              rw [hx', hy] at hyb
              have hBm1 := Bn_max (i := k + 1) (by omega)
              have hBn := Bn_pos k
              have hpb1 := loT_bd hub.1 hub.2 hyb.1 hyb.2
              have hpb2 := hiT_bd hub.1 hub.2 hyb.1 hyb.2
              have hst1 : partLo L l j (q + 1) = z1 + loT u x' y := by
                rw [← hs1.out, ← hx', ← hy, ← hwv]; unfold partLo; simp only [sumJ]; omega
              have hst2 : partHi L l j (q + 1) = z2 + hiT u x' y := by
                rw [← hs2.out, ← hx', ← hy, ← hwv]; unfold partHi; simp only [sumJ]; omega
              have hsb1 := partLo_bd hLokH.out hlw.2 hBn hlbH.out hjb (m := q + 1) (by omega)
              have hsb2 := partHi_bd hLokH.out hlw.2 hBn hlbH.out hjb (m := q + 1) (by omega)
              have hBe1 : Bn (k + 1) = 1000000 + 16000 * Bn k := rfl
              rw [← hBe1] at hsb1 hsb2
              obtain ⟨p1, hp1⟩ : ∃ p, loT u x' y = p := ⟨_, rfl⟩
              obtain ⟨p2, hp2⟩ : ∃ p, hiT u x' y = p := ⟨_, rfl⟩
              rw [hp1] at hst1 hpb1
              rw [hp2] at hst2 hpb2
              rw [hst1] at hsb1
              rw [hst2] at hsb2
              have hcallH := Lib.hid (fun W => plus_bnd z1 z2 u x' y p1 p2 hp1 hp2 (by omega) (by omega) (by omega) (by omega) (by omega) (by omega) (by omega) (by omega) W)
              have hst1H := Lib.hid hst1
              have hst2H := Lib.hid hst2
              clear hrc hac hu hx' hy hwv hub hyb hBe1 hs1 hs2 hBm1 hBn hpb1 hpb2 hst1 hst2 hsb1 hsb2 hp1 hp2
              have hS0 : Below w1.heap.size w1 wr.drew ∧ Blk wr.drew w1.heap.size 88 #[.int .i64 z1, .int .i64 z2] := ⟨hb6.drew, ksum⟩
              go_wp2_with fail
              refine plain_region (fun W' => Below w1.heap.size w1 W' ∧ Blk W' w1.heap.size 88 #[.int .i64 z1, .int .i64 z2]) 8 9 (by kernel_rfl) rfl ?_
              simp only [Array.replicate_succ, Array.replicate_zero, List.push_toArray, List.nil_append, List.cons_append]
              refine take_op 0 (v := ?rv0) rfl (by kernel_rfl) (fun _ _ _ h => h) (by rfl) hS0 (fun w' hS' => ?ry0) ?rz0
              case ry0 =>
                have e1 := (hS'.2.cell (i := 0) rfl)
                have e2 := (hS'.2.cell (i := 1) rfl)
                have e3 := (hS'.1.cell (p := ⟨ab, ao + q * 2, none⟩) (Nat.lt_of_lt_of_le hab hg1)).trans hcx
                have e4 := (hS'.1.cell (p := ⟨ab, ao + q * 2 + 1, none⟩) (Nat.lt_of_lt_of_le hab hg1)).trans hcy
                clear hS'
                go_simp
                rfl
              simp only [List.setIfInBounds_toArray, List.set_cons_zero, List.set_cons_succ]
              refine take_op 1 (v := ?rv1) rfl (by kernel_rfl) (fun _ _ _ h => h) (by rfl) hS0 (fun w' hS' => ?ry1) ?rz1
              case ry1 =>
                go_simp
                rfl
              simp only [List.setIfInBounds_toArray, List.set_cons_zero, List.set_cons_succ]
              refine take_op 2 (v := ?rv2) rfl (by kernel_rfl) (fun _ _ _ h => h) (by rfl) hS0 (fun w' hS' => ?ry2) ?rz2
              case ry2 =>
                go_simp
                rfl
              simp only [List.setIfInBounds_toArray, List.set_cons_zero, List.set_cons_succ]
              refine take_op 3 (v := ?rv3) rfl (by kernel_rfl) (fun _ _ _ h => h) (by rfl) hS0 (fun w' hS' => ?ry3) ?rz3
              case ry3 =>
                go_simp
                rfl
              simp only [List.setIfInBounds_toArray, List.set_cons_zero, List.set_cons_succ]
              refine take_op 4 (v := ?rv4) rfl (by kernel_rfl) (fun _ _ _ h => h) (by rfl) hS0 (fun w' hS' => ?ry4) ?rz4
              case ry4 =>
                go_simp
                rfl
              simp only [List.setIfInBounds_toArray, List.set_cons_zero, List.set_cons_succ]
              refine take_op 5 (v := ?rv5) rfl (by kernel_rfl) (fun _ _ _ h => h) (by rfl) hS0 (fun w' hS' => ?ry5) ?rz5
              case ry5 =>
                go_simp
                try go_ints
                first
                | rfl
                | (rw [if_pos (by omega)]; done)
                | rw [if_pos ⟨by omega, by omega⟩]
              simp only [List.setIfInBounds_toArray, List.set_cons_zero, List.set_cons_succ]
              refine take_op 6 (v := ?rv6) rfl (by kernel_rfl) (fun _ _ _ h => h) (by rfl) hS0 (fun w' hS' => ?ry6) ?rz6
              case ry6 =>
                have e1 := (hS'.2.cell (i := 0) rfl)
                have e2 := (hS'.2.cell (i := 1) rfl)
                have e3 := (hS'.1.cell (p := ⟨ab, ao + q * 2, none⟩) (Nat.lt_of_lt_of_le hab hg1)).trans hcx
                have e4 := (hS'.1.cell (p := ⟨ab, ao + q * 2 + 1, none⟩) (Nat.lt_of_lt_of_le hab hg1)).trans hcy
                clear hS'
                go_simp
                rfl
              simp only [List.setIfInBounds_toArray, List.set_cons_zero, List.set_cons_succ]
              refine step_op 7 (by kernel_rfl) rfl (fun K hK => ?_)
              rw [if_pos (by rfl)]
              go_simp
              refine (hcallH.out _).mono ?_
              rintro e w3 ⟨rfl, hb3⟩
              have hS1 : Below w1.heap.size w1 w3 ∧ Blk w3 w1.heap.size 88 #[.int .i64 z1, .int .i64 z2] := ⟨hS0.1.trans (hb3.mono hS0.1.size), hS0.2.below hb3 hS0.2.lt⟩
              clear hb3
              refine hK.out _ _ (fun h => hS1) ?_
              clear hK K
              try simp only [Act.put, List.setIfInBounds_toArray, List.set_cons_zero, List.set_cons_succ]
              refine step_op 8 (by kernel_rfl) rfl (fun K hK => ?_)
              have hf0 := hS1.2.frozen 0
              have hf1 := hS1.2.frozen 1
              have he0 := hS1.2.cell (i := 0) rfl
              have he1 := hS1.2.cell (i := 1) rfl
              rw [if_pos (by rfl)]
              go_simp
              refine hK.out _ _ (fun h => absurd h (by omega)) ?_
              clear hK K
              try simp only [Act.put, List.setIfInBounds_toArray, List.set_cons_zero, List.set_cons_succ]
              refine done_ops (by kernel_rfl) ?_
              go_wp2_with fail
              go_roundw
              case rel =>
                refine ⟨q + 1, z1 + p1, z2 + p2, by omega, by go_num, hst1H, hst2H, ?_, (hS1.1.setCell (p := ⟨w1.heap.size, 0, none⟩) (Nat.le_refl _) _).setCell (p := ⟨w1.heap.size, 1, none⟩) (Nat.le_refl _) _⟩
                exact (hS1.2.set 0 (.int .i64 (z1 + p1))).set 1 (.int .i64 (z2 + p2))
              case measure => simp [intOf]; omega

end Go.Proofs.YtbdnjhnlfpfhcaaGreat

/- Numbers through the layers of a network. -/
import Derived.Test.YtbfigbpjoaccdaaFt
import Derived.Lib.MinMax
namespace Go.Proofs.Ytbfigbpjoaccdaa
open Go Go.RowKit Go.Shelf
set_option linter.unusedVariables false
set_option linter.unusedSimpArgs false

set_option maxRecDepth 100000 in
set_option maxHeartbeats 2000000 in
theorem plus_num (a w x : Int) (h1 : -9223372036854775808 ≤ w * x) (h2 : w * x ≤ 9223372036854775807) (h3 : -9223372036854775808 ≤ a + w * x) (h4 : a + w * x ≤ 9223372036854775807) (W : World) :
    Calls Try.prog 96 #[.int .i64 a, .int .i64 w, .int .i64 x] W fun e w' => e = .returned (.int .i64 (a + w * x)) ∧ W = w' := by
  go_enter Try.func96, Try.ntmps96
  go_wp2
  go_ret
  exact ⟨rfl, rfl⟩
set_option maxRecDepth 100000 in
set_option maxHeartbeats 2000000 in
theorem cut_num (a : Int) (W : World) :
    Calls Try.prog 95 #[.int .i64 a] W fun e w' => e = .returned (.int .i64 (cutI true a)) ∧ W = w' := by
  obtain ⟨m, hm⟩ : ∃ m, max a 0 = m := ⟨_, rfl⟩
  have hc : cutI true a = m := hm
  have hcH := Lib.hid hc
  clear hc
  go_enter Try.func95, Try.ntmps95
  go_wp2
  go_ret
  exact ⟨ret_int hcH.out.symm, rfl⟩
set_option maxRecDepth 100000 in
set_option maxHeartbeats 2000000 in
theorem bias_num (a : Int) (W : World) :
    Calls Try.prog 26 #[.int .i64 a] W fun e w' => e = .returned (.int .i64 a) ∧ W = w' := by
  go_enter Try.func26, Try.ntmps26
  go_wp2
  go_ret
  exact ⟨rfl, rfl⟩

theorem plus_num_at (z : Int) (w : World) : (method 245 64 (.int .i64 z) "sightbench/judge.plus").run Try.prog w = .ok (96, .int .i64 z) w := by kernel_rfl
theorem cut_num_at (z : Int) (w : World) : (method 245 64 (.int .i64 z) "sightbench/judge.cut").run Try.prog w = .ok (95, .int .i64 z) w := by kernel_rfl

/-- What a row of integers holds can be read, whatever its type's number. -/
theorem rowU_rd {W : World} {base : Nat} {e : TypeId} {a : Option Addr} {c n : Nat} {xs : List Int} (hn : xs.length = n) (h : W.ownsRow base e 1 (.slice a n c) n (xs.map (Value.int .i64))) : Rd W.heap.size W a xs := by
  subst hn
  rcases h.2 with ⟨h1, h2⟩ | ⟨g, cap, cur, h1, _, hg, _⟩
  · exact .inl (List.eq_nil_of_length_eq_zero h2)
  · simp only [Value.slice.injEq, true_and] at h1
    obtain ⟨rfl, rfl⟩ := h1
    refine .inr ⟨g, 0, rfl, (Array.getElem?_eq_some_iff.1 hg).1, fun i hi => ?_⟩
    have := h.cellAt i (by omega)
    rw [Nat.zero_add, this]
    simp [hi]
theorem jinfo_num : (Try.prog.info? 64).map (fun i => (i.zero, i.size, i.bytes)) = some (some (.int .i64 0), 1, 8) := by kernel_rfl

set_option maxRecDepth 100000 in
set_option maxHeartbeats 8000000 in
theorem score_num (N : NetN) (hN : NetOk N) (na : Option Addr) (nn nc : Nat) (hnn : N.Ls.length = nn) (x : List Int) (hx : x.length = N.nf) (hxb : LeB 65280 x) (la : Option Addr) (lc : Nat) (w : World) (hrn : RdLs w.heap.size w na N.Ls) (hrl : Rd w.heap.size w la x) :
    Calls Try.prog 25 #[netv N na nn nc, .slice la N.nf lc, .func (.func 26) #[] #[]] w fun e w' => e = .returned (.int .i64 (scoreN N.Ls x)) ∧ Below w.heap.size w w' := by
  obtain ⟨i0, hi, hz0, hz1, hz2⟩ := info_parts jinfo_num
  have hpm := plus_num_at
  have hcm := cut_num_at
  have hNH := Lib.hid hN
  have hnnH := Lib.hid hnn
  have hxH := Lib.hid hx
  have hbdH := Lib.hid (fun i => numAt_bd hN hx hxb i)
  have hn3 : nn ≤ 3 := by rw [← hnn]; exact hN.l3
  have hn1 : 1 ≤ nn := by rw [← hnn]; exact hN.l1
  clear hN hnn hx hxb
  have hbW1 : Below w.heap.size w (w.alloc (.cells #[.int .i64 N.w, .int .i64 N.h, .int .i64 N.gx, .int .i64 N.gy, .slice na nn nc, .int .i64 N.low, .int .i64 N.high] 24)) := jb_al (Below.refl _ w) _
  have kn := Blk.new w 24 #[.int .i64 N.w, .int .i64 N.h, .int .i64 N.gx, .int .i64 N.gy, .slice na nn nc, .int .i64 N.low, .int .i64 N.high]
  obtain ⟨W1, hEW1⟩ : ∃ X, w.alloc (.cells #[.int .i64 N.w, .int .i64 N.h, .int .i64 N.gx, .int .i64 N.gy, .slice na nn nc, .int .i64 N.low, .int .i64 N.high] 24) = X := ⟨_, rfl⟩
  rw [hEW1] at hbW1 kn
  have c4 : W1.cell? ⟨w.heap.size, 4, none⟩ = some (.slice na nn nc) := kn.cell (i := 4) rfl
  have knH := Lib.hid kn
  have hrnH := Lib.hid (later_l hrn hbW1)
  have hrlH := Lib.hid (later_i hrl hbW1)
  clear kn hrn hrl
  go_enter Try.func25, Try.ntmps25
  go_wp2_with fail
  clear hEW1 c4
  go_loopw [1, 18] (fun v i wr => ∃ (k : Nat) (a : Option Addr) (c : Nat), k ≤ nn ∧ i = .int .i64 (k : Int) ∧ v = .slice a (widthN N.nf N.Ls k) c ∧ Hid (Rd wr.heap.size wr a (numAt N.Ls x k)) ∧ Below W1.heap.size W1 wr) (fun _ i _ => nn - (intOf i).toNat)
  case atStart => exact ⟨0, la, lc, Nat.zero_le _, rfl, rfl, hrlH, Below.refl _ _⟩
  case round =>
    obtain ⟨k, a, c, hk, rfl, rfl, hra, hb⟩ := hrel
    obtain ⟨wo, hwo⟩ : ∃ X : World, X = wr := ⟨_, rfl⟩
    subst hwo
    have hB := hbW1.trans (hb.mono hbW1.size)
    by_cases hlt : k < nn
    case neg =>
      have hkn : k = nn := by omega
      subst hkn
      have hone : widthN N.nf N.Ls k = 1 := by rw [← hnnH.out]; exact hNH.out.one
      have hsc := scoreN_at N.Ls x
      rw [hnnH.out] at hsc
      have hlen : (numAt N.Ls x k).length = 1 := by rw [numAt_len, hxH.out, hone]
      rcases hra.out with h0 | ⟨ab, ao, rfl, hab, hac⟩
      · rw [h0] at hlen; simp at hlen
      have hcl := hac 0 (by omega)
      rw [Nat.add_zero] at hcl
      rw [← hsc] at hcl
      obtain ⟨z, hz⟩ : ∃ z, scoreN N.Ls x = z := ⟨_, rfl⟩
      rw [hz] at hcl
      rw [hone]
      have hzH := Lib.hid hz
      clear hz hsc hlen hac hra
      go_wp2_with fail
      go_ret
      exact ⟨ret_int hzH.out.symm, hB⟩
    case pos =>
      have hkl : k < N.Ls.length := by have := hnnH.out; omega
      obtain ⟨nb, no, rfl, hnb, wa, wc, ba, bc, hc1, hc2, hws, hbs⟩ := (later_l hrnH.out hb).at hkl
      have hLok := hNH.out.ly k hkl
      have hlb := hbdH.out k (by omega)
      have hlw := width_le hNH.out (show k ≤ N.Ls.length by omega)
      have hlen : (numAt N.Ls x k).length = widthN N.nf N.Ls k := by rw [numAt_len, hxH.out]
      obtain ⟨L, hL⟩ : ∃ L, layAt N.Ls k = L := ⟨_, rfl⟩
      obtain ⟨B, hBe⟩ : ∃ B, widthN N.nf N.Ls k = B := ⟨_, rfl⟩
      obtain ⟨l, hle⟩ : ∃ l, numAt N.Ls x k = l := ⟨_, rfl⟩
      rw [hL] at hc1 hc2 hws hbs hLok
      rw [hBe] at hLok hlw hlen ⊢
      rw [hle] at hlb hlen hra
      obtain ⟨wl, hwl⟩ : ∃ y, L.ws.length = y := ⟨_, rfl⟩
      obtain ⟨bl, hbl⟩ : ∃ y, L.bs.length = y := ⟨_, rfl⟩
      rw [hwl] at hc1
      rw [hbl] at hc2
      have hwb : wl = bl := by rw [← hwl, ← hbl]; exact hLok.ws
      have hb1 : 1 ≤ bl := by rw [← hbl]; exact hLok.b1
      have hb8 : bl ≤ 8 := by rw [← hbl]; exact hLok.b8
      subst hwb
      have hLH := Lib.hid hL
      have hBH := Lib.hid hBe
      have hleH := Lib.hid hle
      have hwlH := Lib.hid hwl
      have hblH := Lib.hid hbl
      have hLokH := Lib.hid hLok
      have hlbH := Lib.hid hlb
      have hlenH := Lib.hid hlen
      clear hL hBe hle hwl hbl hLok hlb hlen
      have hbW2 : Below wo.heap.size wo (wo.alloc (.cells #[.slice wa wl wc, .slice ba wl bc] 61)) := jb_al (Below.refl _ wo) _
      have kl := Blk.new wo 61 #[.slice wa wl wc, .slice ba wl bc]
      obtain ⟨W2, hEW2⟩ : ∃ X, wo.alloc (.cells #[.slice wa wl wc, .slice ba wl bc] 61) = X := ⟨_, rfl⟩
      rw [hEW2] at hbW2 kl
      have m0 : W2.cell? ⟨wo.heap.size, 0, none⟩ = some (.slice wa wl wc) := kl.cell (i := 0) rfl
      have m1 : W2.cell? ⟨wo.heap.size, 1, none⟩ = some (.slice ba wl bc) := kl.cell (i := 1) rfl
      have hwsH := Lib.hid (later_w hws hbW2)
      have hbsH := Lib.hid (later_i hbs hbW2)
      have hraH := Lib.hid (later_i hra.out hbW2)
      have klH := Lib.hid kl
      have hb2 := hb.trans (hbW2.mono hb.size)
      have kn2H := Lib.hid (knH.out.below hb2 knH.out.lt)
      have hls : wo.heap.size < W2.heap.size := kl.lt
      have hzH := Lib.hid (jmade_int wl)
      clear kl hws hbs hra
      go_wp2_with (at_make; refine wpList_make_full _ rfl _ _ 63 rfl W2.heap.size 64 i0 (.int .i64 0) 1 Try.underlying63 hi hz0 hz1 .i64 .i64 (wl : Int) (wl : Int) wl rfl rfl (by simp) (by simp) (by rw [hz2]; omega) (by unfold maxLen; omega) (by simp) ?_; intro W3 hown hg; have kl3 := klH.out.kept hg (by simp); clear m0 m1; have m0 : W3.cell? ⟨wo.heap.size, 0, none⟩ = some (.slice wa wl wc) := kl3.cell (i := 0) rfl; have m1 : W3.cell? ⟨wo.heap.size, 1, none⟩ = some (.slice ba wl bc) := kl3.cell (i := 1) rfl)
      obtain ⟨f, hf⟩ : ∃ f, layF L (decide (k + 1 < nn)) l = f := ⟨_, rfl⟩
      have row3 : W3.ownsRow W2.heap.size 64 1 (.slice (some ⟨W2.heap.size, 0, none⟩) wl wl) wl (madeCells (Value.cells (.int .i64 0)) (wl * 1)).toList := hown
      rw [hzH.out, ← layTo_zero f wl] at row3
      have hb3 : Below W2.heap.size W2 W3 := (Below.refl _ _).grown hg (Nat.le_refl _) (fun k e => by cases e)
      have hfH := Lib.hid hf
      clear hown hg hzH m0 m1 kl3 hEW2 hf
      go_loopw [30] (fun i wv => ∃ j : Nat, j ≤ wl ∧ i = .int .i64 (j : Int) ∧ wv.ownsRow W2.heap.size 64 1 (.slice (some ⟨W2.heap.size, 0, none⟩) wl wl) wl ((layTo f wl j).map (Value.int .i64)) ∧ Below W2.heap.size W2 wv) (fun i _ => wl - (intOf i).toNat)
      case atStart => exact ⟨0, Nat.zero_le _, rfl, row3, hb3⟩
      case round =>
        clear row3 hb3 hc1 hc2
        obtain ⟨j, hj, rfl, rowj, hb4⟩ := hrel
        have klj := klH.out.below hb4 hls
        have knj := kn2H.out.below hb4 (by have := hb2.size; have := knH.out.lt; omega)
        have m0 : wr.cell? ⟨wo.heap.size, 0, none⟩ = some (.slice wa wl wc) := klj.cell (i := 0) rfl
        have m1 : wr.cell? ⟨wo.heap.size, 1, none⟩ = some (.slice ba wl bc) := klj.cell (i := 1) rfl
        have c4 : wr.cell? ⟨w.heap.size, 4, none⟩ = some (.slice (some ⟨nb, no, none⟩) nn nc) := knj.cell (i := 4) rfl
        clear klj knj
        by_cases hlt2 : j < wl
        case neg =>
          have hjw : j = wl := by omega
          subst hjw
          rw [layTo_all] at rowj
          have hnxt : numAt N.Ls x (k + 1) = (List.range j).map f := by
            show layL (layAt N.Ls k) (decide (k + 1 < N.Ls.length)) (numAt N.Ls x k) = _
            rw [hLH.out, hleH.out, hnnH.out]
            unfold layL
            rw [hblH.out, hfH.out]
          have hwid : widthN N.nf N.Ls (k + 1) = j := by
            show (layAt N.Ls k).bs.length = j
            rw [hLH.out, hblH.out]
          have hrdn := rowU_rd (by simp) rowj
          rw [← hnxt] at hrdn
          have hrdnH := Lib.hid hrdn
          have hwidH := Lib.hid hwid
          have hb5 := hb2.trans (hb4.mono hb2.size)
          clear hnxt hrdn hwid rowj
          go_wp2_with fail
          go_roundw
          case rel => exact ⟨k + 1, _, _, by omega, by go_num, by rw [hwidH.out], hrdnH, hb5⟩
          case measure => simp [intOf]; omega
        case pos =>
          have hjb : j < L.bs.length := by have := hblH.out; omega
          have hjw : j < L.ws.length := by have := hwlH.out; omega
          rcases hbsH.out with h0 | ⟨bb, bo, rfl, hbb, hbc⟩
          · rw [h0] at hjb; simp at hjb
          have hcb := (hb4.cell (p := ⟨bb, bo + j, none⟩) hbb).trans (hbc j hjb)
          obtain ⟨wb, wq, rfl, hwb, ra, rc, hcw, hrow⟩ := hwsH.out.at hjw
          have hcw1 := (hb4.cell (p := ⟨wb, wq + j, none⟩) hwb).trans hcw
          obtain ⟨hrl, hrw⟩ := hLokH.out.row j hjb
          rw [hrl] at hcw1
          have hrow1 := hrow.below (Nat.le_refl _) hb4
          have hra1 := hraH.out.below (Nat.le_refl _) hb4
          obtain ⟨r, hre⟩ : ∃ r, L.ws[j]?.getD [] = r := ⟨_, rfl⟩
          obtain ⟨bv, hbv⟩ : ∃ y, L.bs[j]?.getD 0 = y := ⟨_, rfl⟩
          rw [hre] at hrow1 hrl hrw
          rw [hbv] at hcb
          have hbv2 : bAt L j = bv := hbv
          have hreH := Lib.hid hre
          have hbvH := Lib.hid hbv2
          have hrlH := Lib.hid hrl
          have hrow1H := Lib.hid hrow1
          have hra1H := Lib.hid hra1
          have hrwH := Lib.hid hrw
          clear hbc hrow hre hbv hbv2 hrl hrow1 hra1 hrw hcw
          have tok1 : True := trivial
          have tok2 : True := trivial
          go_wp2_with (go_at_call 26; have _t := tok1; refine (bias_num _ _).mono ?_; clear _t tok1; rintro e w1 ⟨rfl, rfl⟩)
          go_loop [12, 44] (fun s i => ∃ (q : Nat) (z : Int), q ≤ B ∧ i = .int .i64 (q : Int) ∧ s = .int .i64 z ∧ Hid (partL L l j q = z)) (fun _ i => B - (intOf i).toNat)
          case atStart => exact ⟨0, bv, Nat.zero_le _, rfl, rfl, Lib.hid (by unfold partL; rw [hbvH.out]; simp [sumJ])⟩
          case round =>
            obtain ⟨q, z, hq, rfl, rfl, hz⟩ := hrel
            by_cases hlt3 : q < B
            case neg =>
              have hqB : q = B := by omega
              subst hqB
              have hfj : f j = cutI (decide (k + 1 < nn)) z := by rw [← hfH.out, ← hz.out]; unfold layF partL; rw [hlenH.out]
              have hst := (rowj.stored j (.int .i64 (f j))).1
              simp only [map_set_i] at hst
              rw [layTo_set f hlt2] at hst
              have hcz := rowj.cellAt j (by rw [Nat.mul_one]; exact hlt2)
              rw [List.getElem?_map, List.getElem?_eq_getElem (by rw [layTo_length]; exact hlt2)] at hcz
              simp only [Option.map_some] at hcz
              obtain ⟨y0, hy0⟩ : ∃ y, (layTo f wl j)[j]'(by rw [layTo_length]; exact hlt2) = y := ⟨_, rfl⟩
              rw [hy0] at hcz
              change wr.cell? ⟨W2.heap.size, j, none⟩ = some (.int .i64 y0) at hcz
              have hfr := rowj.frozenAt j
              have hnx : ∀ v, f j = v → (wr.setCell ⟨W2.heap.size, j, none⟩ (.int .i64 v)).ownsRow W2.heap.size 64 1 (.slice (some ⟨W2.heap.size, 0, none⟩) wl wl) wl ((layTo f wl (j + 1)).map (Value.int .i64)) ∧ Below W2.heap.size W2 (wr.setCell ⟨W2.heap.size, j, none⟩ (.int .i64 v)) := fun v hv => by
                rw [← hv]
                exact ⟨hst, hb4.setCell (p := ⟨W2.heap.size, j, none⟩) (Nat.le_refl _) _⟩
              have hnxH := Lib.hid hnx
              clear hst hy0 hz hnx
              by_cases hlast : k + 1 < nn
              case pos =>
                rw [decide_eq_true hlast] at hfj
                have hd : decide ((k : Int) < (nn : Int) - 1) = true := by simp; omega
                have hd2 : (k : Int) < (nn : Int) - 1 := by omega
                have hfjH := Lib.hid hfj
                clear hfj
                go_wp2_with (go_at_call 95; have _t := tok2; refine (cut_num _ _).mono ?_; clear _t tok2; rintro e w1 ⟨rfl, rfl⟩)
                go_roundw
                case rel => exact ⟨j + 1, by omega, by go_num, (hnxH.out _ hfjH.out).1, (hnxH.out _ hfjH.out).2⟩
                case measure => simp [intOf]; omega
              case neg =>
                rw [decide_eq_false hlast] at hfj
                have hd : decide ((k : Int) < (nn : Int) - 1) = false := by simp; omega
                have hd2 : ¬ ((k : Int) < (nn : Int) - 1) := by omega
                have hfjH := Lib.hid (hfj.trans (show cutI false z = z from rfl))
                clear hfj
                go_wp2_with fail
                go_roundw
                case rel => exact ⟨j + 1, by omega, by go_num, (hnxH.out _ hfjH.out).1, (hnxH.out _ hfjH.out).2⟩
                case measure => simp [intOf]; omega
            case pos =>
              have hqr : q < r.length := by have := hrlH.out; omega
              have hql : q < l.length := by have := hlenH.out; omega
              rcases hrow1H.out with h0 | ⟨rb, ro, rfl, hrb, hrc⟩
              · rw [h0] at hqr; simp at hqr
              rcases hra1H.out with h0 | ⟨ab, ao, rfl, hab, hac⟩
              · rw [h0] at hql; simp at hql
              have hcr := hrc q hqr
              have hcl := hac q hql
              have hwv : wAt L j q = r[q]?.getD 0 := by unfold wAt; rw [hreH.out]
              obtain ⟨u, hu⟩ : ∃ u, r[q]?.getD 0 = u := ⟨_, rfl⟩
              obtain ⟨y, hy⟩ : ∃ y, l[q]?.getD 0 = y := ⟨_, rfl⟩
              rw [hu] at hcr hwv
              rw [hy] at hcl
              have hub := wAt_bd hLokH.out hjb hlt3
              rw [hwv] at hub
              have hyb := hlbH.out q
              rw [hy] at hyb
              have hBm := Bn_max (i := k) (by omega)
              have hBm1 := Bn_max (i := k + 1) (by omega)
              have hBn := Bn_pos k
              have hpb := w_mul_bd hub.1 hub.2 hyb.1 hyb.2
              have hst : partL L l j (q + 1) = z + u * y := by
                rw [← hz.out, ← hy, ← hwv]; unfold partL; simp only [sumJ]; omega
              have hsb := partL_bd hLokH.out hlw.2 hBn hlbH.out hjb (m := q + 1) (by omega)
              rw [hst] at hsb
              have hBe1 : Bn (k + 1) = 1000000 + 16000 * Bn k := rfl
              rw [← hBe1] at hsb
              have hcallH := Lib.hid (fun W => plus_num z u y (by omega) (by omega) (by omega) (by omega) W)
              have hstH := Lib.hid hst
              clear hrc hac hu hy hwv hub hyb hBm hBm1 hBn hpb hst hsb hBe1
              go_wp2_with (go_at_call 96; have _t := tok2; refine (hcallH.out _).mono ?_; clear _t tok2; rintro e w1 ⟨rfl, rfl⟩)
              go_round
              case rel => exact ⟨q + 1, z + u * y, by omega, by go_num, rfl, hstH⟩
              case measure => simp [intOf]; omega

end Go.Proofs.Ytbfigbpjoaccdaa

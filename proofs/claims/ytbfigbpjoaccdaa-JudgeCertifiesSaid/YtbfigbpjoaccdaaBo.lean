/- Bounds through the layers of a network, by the specification. -/
import Derived.Test.YtbfigbpjoaccdaaFt
import Derived.Lib.MinMax
import Derived.Maps.AppendAt
namespace Go.Proofs.Ytbfigbpjoaccdaa
open Go Go.RowKit Go.Shelf
set_option linter.unusedVariables false
set_option linter.unusedSimpArgs false

/-- The blocks of two slices are not the same. -/
def Dis (v u : Value) : Prop := ∀ b, v.ownBlock = some b → u.ownBlock ≠ some b
theorem Dis.symm {v u : Value} (h : Dis v u) : Dis u v := fun b hb hv => h b hv hb
theorem Dis.ne {v u : Value} (h : Dis v u) : u.ownBlock = none ∨ u.ownBlock ≠ v.ownBlock := by
  cases e : u.ownBlock with
  | none => exact .inl rfl
  | some b => exact .inr fun hh => h b hh.symm e
theorem Dis.grown {v u v' : Value} {W : World} (h : Dis v u) (hv : v'.ownBlock = v.ownBlock ∨ v'.ownBlock = some W.heap.size) (hu : ∀ b, u.ownBlock = some b → b < W.heap.size) : Dis v' u := fun b hb he => by
  rcases hv with hv | hv
  · exact h b (hv ▸ hb) he
  · rw [hv] at hb
    cases hb
    exact Nat.lt_irrefl _ (hu _ he)
theorem Dis.nil (u : Value) : Dis (.slice none 0 0) u := fun b hb => by cases hb
theorem fst_at (l : List (Int × Int)) (j : Nat) : (l.map (·.1))[j]?.getD 0 = loAt l j := by
  unfold loAt; rw [List.getElem?_map]; cases l[j]? <;> rfl
theorem snd_at (l : List (Int × Int)) (j : Nat) : (l.map (·.2))[j]?.getD 0 = hiAt l j := by
  unfold hiAt; rw [List.getElem?_map]; cases l[j]? <;> rfl
theorem layB_fst (L : LayN) (c : Bool) (l : List (Int × Int)) : (layB L c l).map (·.1) = (List.range L.bs.length).map (fun k => (layBF L c l k).1) := by unfold layB; rw [List.map_map]; rfl
theorem layB_snd (L : LayN) (c : Bool) (l : List (Int × Int)) : (layB L c l).map (·.2) = (List.range L.bs.length).map (fun k => (layBF L c l k).2) := by unfold layB; rw [List.map_map]; rfl
theorem int_snoc (f : Nat → Int) (k : Nat) : ((List.range k).map f).map (Value.int .i64) ++ [Value.int .i64 (f k)] = ((List.range (k + 1)).map f).map (Value.int .i64) := by
  rw [List.range_succ, List.map_append, List.map_append]; rfl
theorem row_drew {W : World} {base : Nat} {e : TypeId} {size : Nat} {v : Value} {k : Nat} {xs : List Value} (h : W.ownsRow base e size v k xs) : W.drew.ownsRow base e size v k xs := h

theorem jb_al2 {a w : World} (h : Below a.heap.size a w) (o : Obj) : Below a.heap.size a (w.alloc o) := h.alloc h.size o
set_option maxRecDepth 100000 in
set_option maxHeartbeats 8000000 in
theorem Bounded_any (N : NetN) (hN : NetOk N) (na : Option Addr) (nn nc : Nat) (hnn : N.Ls.length = nn) (x : List (Int × Int)) (hx : x.length = N.nf) (hxb : LeP 65280 x) (a1 a2 : Option Addr) (c1 c2 : Nat) (w : World) (hrn : RdLs w.heap.size w na N.Ls)
    (hr1 : Rd w.heap.size w a1 (x.map (·.1))) (hr2 : Rd w.heap.size w a2 (x.map (·.2))) :
    Calls Try.prog 28 #[netv N na nn nc, .slice a1 N.nf c1, .slice a2 N.nf c2] w fun e w' => e = .returned (.tuple #[.int .i64 (loAt (fwdB N.Ls x) 0), .int .i64 (hiAt (fwdB N.Ls x) 0)]) ∧ Below w.heap.size w w' := by
  obtain ⟨i0, hi, hz0, hz1, hz2⟩ := info_parts jinfo_int
  have hNH := Lib.hid hN
  have hnnH := Lib.hid hnn
  have hxH := Lib.hid hx
  have hbdH := Lib.hid (fun i => bndAt_bd hN hx hxb i)
  have hn3 : nn ≤ 3 := by rw [← hnn]; exact hN.l3
  have hn1 : 1 ≤ nn := by rw [← hnn]; exact hN.l1
  have hfin := fwdB_at N.Ls x
  rw [hnn] at hfin
  have hfinH := Lib.hid hfin
  clear hN hnn hx hxb hfin
  have hbW1 : Below w.heap.size w (w.alloc (.cells #[.int .i64 N.w, .int .i64 N.h, .int .i64 N.gx, .int .i64 N.gy, .slice na nn nc, .int .i64 N.low, .int .i64 N.high] 24)) := jb_al (Below.refl _ w) _
  have kn := Blk.new w 24 #[.int .i64 N.w, .int .i64 N.h, .int .i64 N.gx, .int .i64 N.gy, .slice na nn nc, .int .i64 N.low, .int .i64 N.high]
  obtain ⟨W1, hEW1⟩ : ∃ X, w.alloc (.cells #[.int .i64 N.w, .int .i64 N.h, .int .i64 N.gx, .int .i64 N.gy, .slice na nn nc, .int .i64 N.low, .int .i64 N.high] 24) = X := ⟨_, rfl⟩
  rw [hEW1] at hbW1 kn
  have knH := Lib.hid kn
  have hrnH := Lib.hid (later_l hrn hbW1)
  have hr1H := Lib.hid (later_i hr1 hbW1)
  have hr2H := Lib.hid (later_i hr2 hbW1)
  clear kn hrn hr1 hr2
  go_enter Try.func28, Try.ntmps28
  go_wp2_with fail
  clear hEW1
  go_loopw [1, 2, 8] (fun v u i wr => ∃ (k : Nat) (a a' : Option Addr) (c c' : Nat), k ≤ nn ∧ i = .int .i64 (k : Int) ∧ v = .slice a (widthN N.nf N.Ls k) c ∧ u = .slice a' (widthN N.nf N.Ls k) c' ∧ Hid (Rd wr.heap.size wr a ((bndAt N.Ls x k).map (·.1))) ∧ Hid (Rd wr.heap.size wr a' ((bndAt N.Ls x k).map (·.2))) ∧ Below W1.heap.size W1 wr) (fun _ _ i _ => nn - (intOf i).toNat)
  case atStart => exact ⟨0, a1, a2, c1, c2, Nat.zero_le _, rfl, rfl, rfl, hr1H, hr2H, Below.refl _ _⟩
  case round =>
    obtain ⟨k, a, a', c, c', hk, rfl, rfl, rfl, hra, hra', hb⟩ := hrel
    obtain ⟨wo, hwo⟩ : ∃ X : World, X = wr := ⟨_, rfl⟩
    subst hwo
    have hB := hbW1.trans (hb.mono hbW1.size)
    have kno := knH.out.below hb knH.out.lt
    have c4 : wo.cell? ⟨w.heap.size, 4, none⟩ = some (.slice na nn nc) := kno.cell (i := 4) rfl
    clear kno
    by_cases hlt : k < nn
    case neg =>
      have hkn : k = nn := by omega
      subst hkn
      have hone : widthN N.nf N.Ls k = 1 := by rw [← hnnH.out]; exact hNH.out.one
      have hlen : (bndAt N.Ls x k).length = 1 := by rw [bndAt_len, hxH.out, hone]
      rcases hra.out with h0 | ⟨b1, o1, rfl, hb1, hac1⟩
      · have := congrArg List.length h0; rw [List.length_map, List.length_nil] at this; omega
      rcases hra'.out with h0 | ⟨b2, o2, rfl, hb2, hac2⟩
      · have := congrArg List.length h0; rw [List.length_map, List.length_nil] at this; omega
      have hd1 := hac1 0 (by simp; omega)
      have hd2 := hac2 0 (by simp; omega)
      rw [Nat.add_zero, fst_at] at hd1
      rw [Nat.add_zero, snd_at] at hd2
      rw [← hfinH.out] at hd1 hd2
      obtain ⟨z1, hz1'⟩ : ∃ z, loAt (fwdB N.Ls x) 0 = z := ⟨_, rfl⟩
      obtain ⟨z2, hz2'⟩ : ∃ z, hiAt (fwdB N.Ls x) 0 = z := ⟨_, rfl⟩
      rw [hz1'] at hd1
      rw [hz2'] at hd2
      rw [hone]
      have hz1H := Lib.hid hz1'
      have hz2H := Lib.hid hz2'
      clear hz1' hz2' hlen hac1 hac2 hra hra'
      go_wp2_with fail
      have hS0 : wo.drew.heap = wo.heap := rfl
      refine plain_region (fun W' => W'.heap = wo.heap) 8 8 (by kernel_rfl) rfl ?_
      simp only [Array.replicate_succ, Array.replicate_zero, List.push_toArray, List.nil_append, List.cons_append]
      refine take_op 0 (v := ?gv0) rfl (by kernel_rfl) (fun _ _ _ h => h) (by rfl) hS0 (fun w' hS' => ?gy0) ?gz0
      case gy0 =>
        go_simp
        rfl
      simp only [List.setIfInBounds_toArray, List.set_cons_zero, List.set_cons_succ]
      refine take_op 1 (v := ?gv1) rfl (by kernel_rfl) (fun _ _ _ h => h) (by rfl) hS0 (fun w' hS' => ?gy1) ?gz1
      case gy1 =>
        go_simp
        try go_ints
        first
        | rfl
        | (rw [if_pos (by omega)]; done)
        | rw [if_pos ⟨by omega, by omega⟩]
      simp only [List.setIfInBounds_toArray, List.set_cons_zero, List.set_cons_succ]
      refine take_op 2 (v := ?gv2) rfl (by kernel_rfl) (fun _ _ _ h => h) (by rfl) hS0 (fun w' hS' => ?gy2) ?gz2
      case gy2 =>
        have e0 := (World.cell?_of_block (w := wo) (w' := w') (a := ⟨b1, o1, none⟩) (by rw [hS'])).trans hd1
        have e1 := (World.cell?_of_block (w := wo) (w' := w') (a := ⟨b2, o2, none⟩) (by rw [hS'])).trans hd2
        clear hS'
        go_simp
        rfl
      simp only [List.setIfInBounds_toArray, List.set_cons_zero, List.set_cons_succ]
      refine take_op 3 (v := ?gv3) rfl (by kernel_rfl) (fun _ _ _ h => h) (by rfl) hS0 (fun w' hS' => ?gy3) ?gz3
      case gy3 =>
        go_simp
        rfl
      simp only [List.setIfInBounds_toArray, List.set_cons_zero, List.set_cons_succ]
      refine take_op 4 (v := ?gv4) rfl (by kernel_rfl) (fun _ _ _ h => h) (by rfl) hS0 (fun w' hS' => ?gy4) ?gz4
      case gy4 =>
        go_simp
        try go_ints
        first
        | rfl
        | (rw [if_pos (by omega)]; done)
        | rw [if_pos ⟨by omega, by omega⟩]
      simp only [List.setIfInBounds_toArray, List.set_cons_zero, List.set_cons_succ]
      refine take_op 5 (v := ?gv5) rfl (by kernel_rfl) (fun _ _ _ h => h) (by rfl) hS0 (fun w' hS' => ?gy5) ?gz5
      case gy5 =>
        have e0 := (World.cell?_of_block (w := wo) (w' := w') (a := ⟨b1, o1, none⟩) (by rw [hS'])).trans hd1
        have e1 := (World.cell?_of_block (w := wo) (w' := w') (a := ⟨b2, o2, none⟩) (by rw [hS'])).trans hd2
        clear hS'
        go_simp
        rfl
      simp only [List.setIfInBounds_toArray, List.set_cons_zero, List.set_cons_succ]
      refine take_op 6 (v := ?gv6) rfl (by kernel_rfl) (fun _ _ _ h => h) (by rfl) hS0 (fun w' hS' => ?gy6) ?gz6
      case gy6 =>
        go_simp
        rfl
      simp only [List.setIfInBounds_toArray, List.set_cons_zero, List.set_cons_succ]
      refine take_op 7 (v := ?gv7) rfl (by kernel_rfl) (fun _ _ _ h => h) (by rfl) hS0 (fun w' hS' => ?gy7) ?gz7
      case gy7 =>
        go_simp
        rfl
      simp only [List.setIfInBounds_toArray, List.set_cons_zero, List.set_cons_succ]
      refine done_ops (by kernel_rfl) ?_
      go_wp2_with fail
      go_ret2
      exact ⟨by rw [hz1H.out, hz2H.out]; rfl, hB.drew⟩
    case pos =>
      have hkl : k < N.Ls.length := by have := hnnH.out; omega
      obtain ⟨nb, no, rfl, hnb, wa, wc, ba, bc, hc1, hc2, hws, hbs⟩ := (later_l hrnH.out hb).at hkl
      have hLok := hNH.out.ly k hkl
      have hlb := hbdH.out k (by omega)
      have hlw := width_le hNH.out (show k ≤ N.Ls.length by omega)
      have hlen : (bndAt N.Ls x k).length = widthN N.nf N.Ls k := by rw [bndAt_len, hxH.out]
      obtain ⟨L, hL⟩ : ∃ L, layAt N.Ls k = L := ⟨_, rfl⟩
      obtain ⟨B, hBe⟩ : ∃ B, widthN N.nf N.Ls k = B := ⟨_, rfl⟩
      obtain ⟨l, hle⟩ : ∃ l, bndAt N.Ls x k = l := ⟨_, rfl⟩
      rw [hL] at hc1 hc2 hws hbs hLok
      rw [hBe] at hLok hlw hlen ⊢
      rw [hle] at hlb hlen hra hra'
      obtain ⟨wl, hwl⟩ : ∃ y, L.ws.length = y := ⟨_, rfl⟩
      obtain ⟨bl, hbl⟩ : ∃ y, L.bs.length = y := ⟨_, rfl⟩
      rw [hwl] at hc1
      rw [hbl] at hc2
      have hwb : wl = bl := by rw [← hwl, ← hbl]; exact hLok.ws
      have hb1 : 1 ≤ bl := by rw [← hbl]; exact hLok.b1
      have hb8 : bl ≤ 8 := by rw [← hbl]; exact hLok.b8
      subst hwb
      have hLH := Lib.hid hL
      have hBH := Lib.hid hBe
      have hleH := Lib.hid hle
      have hwlH := Lib.hid hwl
      have hblH := Lib.hid hbl
      have hLokH := Lib.hid hLok
      have hlbH := Lib.hid hlb
      have hlenH := Lib.hid hlen
      clear hL hBe hle hwl hbl hLok hlb hlen
      have hbW2 : Below wo.heap.size wo (wo.alloc (.cells #[.slice wa wl wc, .slice ba wl bc] 61)) := jb_al (Below.refl _ wo) _
      have kl := Blk.new wo 61 #[.slice wa wl wc, .slice ba wl bc]
      obtain ⟨W2, hEW2⟩ : ∃ X, wo.alloc (.cells #[.slice wa wl wc, .slice ba wl bc] 61) = X := ⟨_, rfl⟩
      rw [hEW2] at hbW2 kl
      have hwsH := Lib.hid (later_w hws hbW2)
      have hbsH := Lib.hid (later_i hbs hbW2)
      have hraH := Lib.hid (later_i hra.out hbW2)
      have hra'H := Lib.hid (later_i hra'.out hbW2)
      have klH := Lib.hid kl
      have hb2 := hb.trans (hbW2.mono hb.size)
      have kn2H := Lib.hid (knH.out.below hb2 knH.out.lt)
      have hls : wo.heap.size < W2.heap.size := kl.lt
      clear kl hws hbs hra hra'
      obtain ⟨flo, hflo⟩ : ∃ f : Nat → Int, (fun j => (layBF L (decide (k + 1 < nn)) l j).1) = f := ⟨_, rfl⟩
      obtain ⟨fhi, hfhi⟩ : ∃ f : Nat → Int, (fun j => (layBF L (decide (k + 1 < nn)) l j).2) = f := ⟨_, rfl⟩
      have hfloH := Lib.hid hflo
      have hfhiH := Lib.hid hfhi
      clear hflo hfhi
      go_wp2_with fail
      clear hEW2 c4 hc1 hc2
      go_loopw [10, 11, 12] (fun v u i wr => ∃ j : Nat, j ≤ wl ∧ i = .int .i64 (j : Int) ∧ wr.ownsRow W2.heap.size 3 1 v j (((List.range j).map flo).map (Value.int .i64)) ∧ wr.ownsRow W2.heap.size 3 1 u j (((List.range j).map fhi).map (Value.int .i64)) ∧ Hid (Dis v u) ∧ Below W2.heap.size W2 wr) (fun _ _ i _ => wl - (intOf i).toNat)
      case atStart => exact ⟨0, Nat.zero_le _, rfl, World.ownsRow_nil _ _ _ _, World.ownsRow_nil _ _ _ _, Lib.hid (Dis.nil _), Below.refl _ _⟩
      case round =>
        obtain ⟨j, hj, rfl, row1, row2, hdis, hb4⟩ := hrel
        have klj := klH.out.below hb4 hls
        have knj := kn2H.out.below hb4 (by have := hb2.size; have := knH.out.lt; omega)
        have m0 : wr.cell? ⟨wo.heap.size, 0, none⟩ = some (.slice wa wl wc) := klj.cell (i := 0) rfl
        have m1 : wr.cell? ⟨wo.heap.size, 1, none⟩ = some (.slice ba wl bc) := klj.cell (i := 1) rfl
        have c4 : wr.cell? ⟨w.heap.size, 4, none⟩ = some (.slice (some ⟨nb, no, none⟩) nn nc) := knj.cell (i := 4) rfl
        by_cases hlt2 : j < wl
        case neg =>
          have hjw : j = wl := by omega
          subst hjw
          have hnxt : bndAt N.Ls x (k + 1) = layB L (decide (k + 1 < nn)) l := by
            show layB (layAt N.Ls k) (decide (k + 1 < N.Ls.length)) (bndAt N.Ls x k) = _
            rw [hLH.out, hleH.out, hnnH.out]
          have hx1 := layB_fst L (decide (k + 1 < nn)) l
          have hx2 := layB_snd L (decide (k + 1 < nn)) l
          rw [← hnxt, hblH.out] at hx1 hx2
          rw [show (fun k_1 => (layBF L (decide (k + 1 < nn)) l k_1).1) = flo from hfloH.out] at hx1
          rw [show (fun k_1 => (layBF L (decide (k + 1 < nn)) l k_1).2) = fhi from hfhiH.out] at hx2
          have hwid : widthN N.nf N.Ls (k + 1) = j := by
            show (layAt N.Ls k).bs.length = j
            rw [hLH.out, hblH.out]
          obtain ⟨s1, t1, rfl⟩ := jrow_slice row1
          obtain ⟨s2, t2, rfl⟩ := jrow_slice row2
          have hrd1 := rowI_rd (by simp) row1
          have hrd2 := rowI_rd (by simp) row2
          rw [← hx1] at hrd1
          rw [← hx2] at hrd2
          have hrd1H := Lib.hid hrd1
          have hrd2H := Lib.hid hrd2
          have hwidH := Lib.hid hwid
          have hb5 := hb2.trans (hb4.mono hb2.size)
          clear hnxt hx1 hx2 hwid row1 row2 hrd1 hrd2 klj knj hdis
          go_wp2_with fail
          go_roundw
          case rel => exact ⟨k + 1, _, _, _, _, by omega, by go_num, by rw [hwidH.out], by rw [hwidH.out], hrd1H, hrd2H, hb5⟩
          case measure => simp [intOf]; omega
        case pos =>
          have hjb : j < L.bs.length := by have := hblH.out; omega
          have hjw : j < L.ws.length := by have := hwlH.out; omega
          rcases hbsH.out with h0 | ⟨bb, bo, rfl, hbb, hbc⟩
          · rw [h0] at hjb; simp at hjb
          have hcb := (hb4.cell (p := ⟨bb, bo + j, none⟩) hbb).trans (hbc j hjb)
          obtain ⟨wb, wq, rfl, hwb, ra, rc, hcw, hrow⟩ := hwsH.out.at hjw
          obtain ⟨hrl, hrw⟩ := hLokH.out.row j hjb
          obtain ⟨r, hre⟩ : ∃ r, L.ws[j]?.getD [] = r := ⟨_, rfl⟩
          obtain ⟨bv, hbv⟩ : ∃ y, L.bs[j]?.getD 0 = y := ⟨_, rfl⟩
          rw [hre] at hrow hrl hcw
          rw [hrl] at hcw
          rw [hbv] at hcb
          have hbv2 : bAt L j = bv := hbv
          have hreH := Lib.hid hre
          have hbvH := Lib.hid hbv2
          have hrlH := Lib.hid hrl
          have hbd : Below W2.heap.size W2 wr.drew := hb4.drew
          have hcw1 := (hbd.cell (p := ⟨wb, wq + j, none⟩) hwb).trans hcw
          have hrow1H := Lib.hid (hrow.below (Nat.le_refl _) hbd)
          have hra1H := Lib.hid (hraH.out.below (Nat.le_refl _) hbd)
          have hra2H := Lib.hid (hra'H.out.below (Nat.le_refl _) hbd)
          have kld : Blk wr.drew wo.heap.size 61 #[.slice (some ⟨wb, wq, none⟩) wl wc, .slice (some ⟨bb, bo, none⟩) wl bc] := klj
          have knd : Blk wr.drew w.heap.size 24 #[.int .i64 N.w, .int .i64 N.h, .int .i64 N.gx, .int .i64 N.gy, .slice (some ⟨nb, no, none⟩) nn nc, .int .i64 N.low, .int .i64 N.high] := knj
          have n0 : wr.drew.cell? ⟨wo.heap.size, 0, none⟩ = some (.slice (some ⟨wb, wq, none⟩) wl wc) := kld.cell (i := 0) rfl
          have d4 : wr.drew.cell? ⟨w.heap.size, 4, none⟩ = some (.slice (some ⟨nb, no, none⟩) nn nc) := knd.cell (i := 4) rfl
          have hS0 : wr.drew.heap = wr.heap := rfl
          clear hbc hrow hre hbv hbv2 hrl hrw hcw klj knj kld knd m0 c4
          go_wp2_with fail
          refine plain_region (fun W' => W'.heap = wr.heap) 12 12 (by kernel_rfl) rfl ?_
          simp only [Array.replicate_succ, Array.replicate_zero, List.push_toArray, List.nil_append, List.cons_append]
          refine take_op 0 (v := ?fv0) rfl (by kernel_rfl) (fun _ _ _ h => h) (by rfl) hS0 (fun w' hS' => ?fy0) ?fz0
          case fy0 =>
            go_simp
            rfl
          simp only [List.setIfInBounds_toArray, List.set_cons_zero, List.set_cons_succ]
          refine take_op 1 (v := ?fv1) rfl (by kernel_rfl) (fun _ _ _ h => h) (by rfl) hS0 (fun w' hS' => ?fy1) ?fz1
          case fy1 =>
            have e0 := (World.cell?_of_block (w := wr) (w' := w') (a := ⟨wo.heap.size, 1, none⟩) (by rw [hS'])).trans m1
            have e1 := (World.cell?_of_block (w := wr) (w' := w') (a := ⟨bb, bo + j, none⟩) (by rw [hS'])).trans hcb
            clear hS'
            go_simp
            rfl
          simp only [List.setIfInBounds_toArray, List.set_cons_zero, List.set_cons_succ]
          refine take_op 2 (v := ?fv2) rfl (by kernel_rfl) (fun _ _ _ h => h) (by rfl) hS0 (fun w' hS' => ?fy2) ?fz2
          case fy2 =>
            go_simp
            rfl
          simp only [List.setIfInBounds_toArray, List.set_cons_zero, List.set_cons_succ]
          refine take_op 3 (v := ?fv3) rfl (by kernel_rfl) (fun _ _ _ h => h) (by rfl) hS0 (fun w' hS' => ?fy3) ?fz3
          case fy3 =>
            go_simp
            try go_ints
            first
            | rfl
            | (rw [if_pos (by omega)]; done)
            | rw [if_pos ⟨by omega, by omega⟩]
          simp only [List.setIfInBounds_toArray, List.set_cons_zero, List.set_cons_succ]
          refine take_op 4 (v := ?fv4) rfl (by kernel_rfl) (fun _ _ _ h => h) (by rfl) hS0 (fun w' hS' => ?fy4) ?fz4
          case fy4 =>
            have e0 := (World.cell?_of_block (w := wr) (w' := w') (a := ⟨wo.heap.size, 1, none⟩) (by rw [hS'])).trans m1
            have e1 := (World.cell?_of_block (w := wr) (w' := w') (a := ⟨bb, bo + j, none⟩) (by rw [hS'])).trans hcb
            clear hS'
            go_simp
            rfl
          simp only [List.setIfInBounds_toArray, List.set_cons_zero, List.set_cons_succ]
          refine take_op 5 (v := ?fv5) rfl (by kernel_rfl) (fun _ _ _ h => h) (by rfl) hS0 (fun w' hS' => ?fy5) ?fz5
          case fy5 =>
            go_simp
            rfl
          simp only [List.setIfInBounds_toArray, List.set_cons_zero, List.set_cons_succ]
          refine take_op 6 (v := ?fv6) rfl (by kernel_rfl) (fun _ _ _ h => h) (by rfl) hS0 (fun w' hS' => ?fy6) ?fz6
          case fy6 =>
            have e0 := (World.cell?_of_block (w := wr) (w' := w') (a := ⟨wo.heap.size, 1, none⟩) (by rw [hS'])).trans m1
            have e1 := (World.cell?_of_block (w := wr) (w' := w') (a := ⟨bb, bo + j, none⟩) (by rw [hS'])).trans hcb
            clear hS'
            go_simp
            rfl
          simp only [List.setIfInBounds_toArray, List.set_cons_zero, List.set_cons_succ]
          refine take_op 7 (v := ?fv7) rfl (by kernel_rfl) (fun _ _ _ h => h) (by rfl) hS0 (fun w' hS' => ?fy7) ?fz7
          case fy7 =>
            go_simp
            rfl
          simp only [List.setIfInBounds_toArray, List.set_cons_zero, List.set_cons_succ]
          refine take_op 8 (v := ?fv8) rfl (by kernel_rfl) (fun _ _ _ h => h) (by rfl) hS0 (fun w' hS' => ?fy8) ?fz8
          case fy8 =>
            go_simp
            try go_ints
            first
            | rfl
            | (rw [if_pos (by omega)]; done)
            | rw [if_pos ⟨by omega, by omega⟩]
          simp only [List.setIfInBounds_toArray, List.set_cons_zero, List.set_cons_succ]
          refine take_op 9 (v := ?fv9) rfl (by kernel_rfl) (fun _ _ _ h => h) (by rfl) hS0 (fun w' hS' => ?fy9) ?fz9
          case fy9 =>
            have e0 := (World.cell?_of_block (w := wr) (w' := w') (a := ⟨wo.heap.size, 1, none⟩) (by rw [hS'])).trans m1
            have e1 := (World.cell?_of_block (w := wr) (w' := w') (a := ⟨bb, bo + j, none⟩) (by rw [hS'])).trans hcb
            clear hS'
            go_simp
            rfl
          simp only [List.setIfInBounds_toArray, List.set_cons_zero, List.set_cons_succ]
          refine take_op 10 (v := ?fv10) rfl (by kernel_rfl) (fun _ _ _ h => h) (by rfl) hS0 (fun w' hS' => ?fy10) ?fz10
          case fy10 =>
            go_simp
            rfl
          simp only [List.setIfInBounds_toArray, List.set_cons_zero, List.set_cons_succ]
          refine take_op 11 (v := ?fv11) rfl (by kernel_rfl) (fun _ _ _ h => h) (by rfl) hS0 (fun w' hS' => ?fy11) ?fz11
          case fy11 =>
            go_simp
            rfl
          simp only [List.setIfInBounds_toArray, List.set_cons_zero, List.set_cons_succ]
          refine done_ops (by kernel_rfl) ?_
          go_wp2_with fail
          clear m1 hcb hS0
          go_loop [13, 14, 15] (fun s s' i => ∃ (q : Nat) (z1 z2 : Int), q ≤ B ∧ i = .int .i64 (q : Int) ∧ s = .int .i64 z1 ∧ s' = .int .i64 z2 ∧ Hid (partLo L l j q = z1) ∧ Hid (partHi L l j q = z2)) (fun _ _ i => B - (intOf i).toNat)
          case atStart => exact ⟨0, bv, bv, Nat.zero_le _, rfl, rfl, rfl, Lib.hid (by unfold partLo; rw [hbvH.out]; simp [sumJ]), Lib.hid (by unfold partHi; rw [hbvH.out]; simp [sumJ])⟩
          case round =>
            obtain ⟨q, z1, z2, hq, rfl, rfl, rfl, hs1, hs2⟩ := hrel
            by_cases hlt3 : q < B
            case neg =>
              have hqB : q = B := by omega
              subst hqB
              have hfl : flo j = cutI (decide (k + 1 < nn)) z1 := by rw [← hfloH.out, ← hs1.out]; unfold layBF partLo; rw [hlenH.out]
              have hfh : fhi j = cutI (decide (k + 1 < nn)) z2 := by rw [← hfhiH.out, ← hs2.out]; unfold layBF partHi; rw [hlenH.out]
              have tok1 : True := trivial
              clear hs1 hs2 n0 hcw1
              by_cases hlast : k + 1 < nn
              case pos =>
                rw [decide_eq_true hlast] at hfl hfh
                obtain ⟨e1, hm1⟩ : ∃ m, max z1 0 = m := ⟨_, rfl⟩
                obtain ⟨e2, hm2⟩ : ∃ m, max z2 0 = m := ⟨_, rfl⟩
                have hv1 := Lib.hid (show flo j = e1 by rw [hfl]; exact hm1)
                have hv2 := Lib.hid (show fhi j = e2 by rw [hfh]; exact hm2)
                have hd : decide ((k : Int) < (nn : Int) - 1) = true := by simp; omega
                have hd2 : (k : Int) < (nn : Int) - 1 := by omega
                clear hfl hfh
                have hownA := (row_drew row1).alloc (.cells #[.int .i64 e1] 3)
                have hBA : Below W2.heap.size W2 (wr.drew.alloc (.cells #[.int .i64 e1] 3)) := jb_al2 hbd _
                have hownB := (row_drew row2).alloc (.cells #[.int .i64 e1] 3)
                go_wp2_with (first
                  | (have _t := tok1; at_builtin; refine wpList_append_own_at _ rfl _ _ 25 rfl W2.heap.size 3 i0 (.int .i64 0) 1 8 Try.underlying25 hi hz0 hz1 hz2 rfl (by decide) u10 j (((List.range j).map flo).map (Value.int .i64)) rfl hownA ⟨wr.drew.heap.size, 0, none⟩ 1 1 [.int .i64 e1] rfl rfl (cell_one_new _ _ _) (by simp [Value.oneCell']) (by unfold maxLen; omega) (by omega) hBA.size ?_; intro v4 w4 hown4 hgrow4 hnil4 hat4; clear _t tok1; have hBB := hBA.trans (below_of_row (n := W2.heap.size) hownA hgrow4 (Nat.le_refl _) hBA.size); have hownC := hownB.kept hgrow4 hdis.out.ne; have hdis2 := hdis.out.grown hat4 (fun b e => (hownB.lt b e).2); have hownD := hownC.alloc (.cells #[.int .i64 e2] 3); have hown4D := hown4.alloc (.cells #[.int .i64 e2] 3); have hBD : Below W2.heap.size W2 (w4.alloc (.cells #[.int .i64 e2] 3)) := jb_al2 hBB _; clear hownA hBA hownB hgrow4 hnil4 hat4)
                  | (at_builtin; refine wpList_append_own_at _ rfl _ _ 25 rfl W2.heap.size 3 i0 (.int .i64 0) 1 8 Try.underlying25 hi hz0 hz1 hz2 rfl (by decide) u11 j (((List.range j).map fhi).map (Value.int .i64)) rfl hownD ⟨w4.heap.size, 0, none⟩ 1 1 [.int .i64 e2] rfl rfl (cell_one_new _ _ _) (by simp [Value.oneCell']) (by unfold maxLen; omega) (by omega) hBD.size ?_; intro v5 w5 hown5 hgrow5 hnil5 hat5))
                have hBE := hBD.trans (below_of_row (n := W2.heap.size) hownD hgrow5 (Nat.le_refl _) hBD.size)
                have hown6 := hown4D.kept hgrow5 hdis2.symm.ne
                have hdis3 := (hdis2.symm.grown hat5 (fun b e => (hown4D.lt b e).2)).symm
                have hs1 := int_snoc flo j
                have hs2 := int_snoc fhi j
                rw [hv1.out] at hs1
                rw [hv2.out] at hs2
                rw [hs1] at hown6
                rw [hs2] at hown5
                go_roundw
                case rel => exact ⟨j + 1, by omega, by go_num, hown6, hown5, Lib.hid hdis3, hBE⟩
                case measure => simp [intOf]; omega
              case neg =>
                rw [decide_eq_false hlast] at hfl hfh
                obtain ⟨e1, hm1⟩ : ∃ m, z1 = m := ⟨_, rfl⟩
                obtain ⟨e2, hm2⟩ : ∃ m, z2 = m := ⟨_, rfl⟩
                have hv1 := Lib.hid (show flo j = e1 by rw [hfl]; exact hm1)
                have hv2 := Lib.hid (show fhi j = e2 by rw [hfh]; exact hm2)
                subst hm1 hm2
                have hd : decide ((k : Int) < (nn : Int) - 1) = false := by simp; omega
                have hd2 : ¬ ((k : Int) < (nn : Int) - 1) := by omega
                clear hfl hfh
                have hownA := (row_drew row1).alloc (.cells #[.int .i64 z1] 3)
                have hBA : Below W2.heap.size W2 (wr.drew.alloc (.cells #[.int .i64 z1] 3)) := jb_al2 hbd _
                have hownB := (row_drew row2).alloc (.cells #[.int .i64 z1] 3)
                go_wp2_with (first
                  | (have _t := tok1; at_builtin; refine wpList_append_own_at _ rfl _ _ 25 rfl W2.heap.size 3 i0 (.int .i64 0) 1 8 Try.underlying25 hi hz0 hz1 hz2 rfl (by decide) u10 j (((List.range j).map flo).map (Value.int .i64)) rfl hownA ⟨wr.drew.heap.size, 0, none⟩ 1 1 [.int .i64 z1] rfl rfl (cell_one_new _ _ _) (by simp [Value.oneCell']) (by unfold maxLen; omega) (by omega) hBA.size ?_; intro v4 w4 hown4 hgrow4 hnil4 hat4; clear _t tok1; have hBB := hBA.trans (below_of_row (n := W2.heap.size) hownA hgrow4 (Nat.le_refl _) hBA.size); have hownC := hownB.kept hgrow4 hdis.out.ne; have hdis2 := hdis.out.grown hat4 (fun b e => (hownB.lt b e).2); have hownD := hownC.alloc (.cells #[.int .i64 z2] 3); have hown4D := hown4.alloc (.cells #[.int .i64 z2] 3); have hBD : Below W2.heap.size W2 (w4.alloc (.cells #[.int .i64 z2] 3)) := jb_al2 hBB _; clear hownA hBA hownB hgrow4 hnil4 hat4)
                  | (at_builtin; refine wpList_append_own_at _ rfl _ _ 25 rfl W2.heap.size 3 i0 (.int .i64 0) 1 8 Try.underlying25 hi hz0 hz1 hz2 rfl (by decide) u11 j (((List.range j).map fhi).map (Value.int .i64)) rfl hownD ⟨w4.heap.size, 0, none⟩ 1 1 [.int .i64 z2] rfl rfl (cell_one_new _ _ _) (by simp [Value.oneCell']) (by unfold maxLen; omega) (by omega) hBD.size ?_; intro v5 w5 hown5 hgrow5 hnil5 hat5))
                have hBE := hBD.trans (below_of_row (n := W2.heap.size) hownD hgrow5 (Nat.le_refl _) hBD.size)
                have hown6 := hown4D.kept hgrow5 hdis2.symm.ne
                have hdis3 := (hdis2.symm.grown hat5 (fun b e => (hown4D.lt b e).2)).symm
                have hs1 := int_snoc flo j
                have hs2 := int_snoc fhi j
                rw [hv1.out] at hs1
                rw [hv2.out] at hs2
                rw [hs1] at hown6
                rw [hs2] at hown5
                go_roundw
                case rel => exact ⟨j + 1, by omega, by go_num, hown6, hown5, Lib.hid hdis3, hBE⟩
                case measure => simp [intOf]; omega
            case pos =>
              have hqr : q < r.length := by have := hrlH.out; omega
              have hql : q < l.length := by have := hlenH.out; omega
              rcases hrow1H.out with h0 | ⟨rb, ro, rfl, hrb, hrc⟩
              · rw [h0] at hqr; simp at hqr
              rcases hra1H.out with h0 | ⟨ab, ao, rfl, hab, hac⟩
              · have := congrArg List.length h0; rw [List.length_map, List.length_nil] at this; omega
              rcases hra2H.out with h0 | ⟨ab2, ao2, rfl, hab2, hac2⟩
              · have := congrArg List.length h0; rw [List.length_map, List.length_nil] at this; omega
              have hcr := hrc q hqr
              have hcx := hac q (by simpa using hql)
              have hcy := hac2 q (by simpa using hql)
              rw [fst_at] at hcx
              rw [snd_at] at hcy
              have hwv : wAt L j q = r[q]?.getD 0 := by unfold wAt; rw [hreH.out]
              obtain ⟨u, hu⟩ : ∃ u, r[q]?.getD 0 = u := ⟨_, rfl⟩
              obtain ⟨x, hx⟩ : ∃ y, loAt l q = y := ⟨_, rfl⟩
              obtain ⟨y, hy⟩ : ∃ y, hiAt l q = y := ⟨_, rfl⟩
              rw [hu] at hcr hwv
              rw [hx] at hcx
              rw [hy] at hcy
              have hub := wAt_bd hLokH.out hjb hlt3
              rw [hwv] at hub
              have hyb := hlbH.out q
              rw [hx, hy] at hyb
              have hBm := Bn_max (i := k) (by omega)
              have hBm1 := Bn_max (i := k + 1) (by omega)
              have hBn := Bn_pos k
              have hpb1 := loT_bd hub.1 hub.2 hyb.1 hyb.2
              have hpb2 := hiT_bd hub.1 hub.2 hyb.1 hyb.2
              have hst1 : partLo L l j (q + 1) = z1 + loT u x y := by
                rw [← hs1.out, ← hx, ← hy, ← hwv]; unfold partLo; simp only [sumJ]; omega
              have hst2 : partHi L l j (q + 1) = z2 + hiT u x y := by
                rw [← hs2.out, ← hx, ← hy, ← hwv]; unfold partHi; simp only [sumJ]; omega
              have hsb1 := partLo_bd hLokH.out hlw.2 hBn hlbH.out hjb (m := q + 1) (by omega)
              have hsb2 := partHi_bd hLokH.out hlw.2 hBn hlbH.out hjb (m := q + 1) (by omega)
              have hBe1 : Bn (k + 1) = 1000000 + 16000 * Bn k := rfl
              rw [← hBe1] at hsb1 hsb2
              obtain ⟨G, hG⟩ : ∃ G, Bn k = G := ⟨_, rfl⟩
              obtain ⟨G1, hG1⟩ : ∃ G, Bn (k + 1) = G := ⟨_, rfl⟩
              rw [hG] at hpb1 hpb2 hBm hBn
              rw [hG1] at hsb1 hsb2 hBm1
              rw [hG, hG1] at hBe1
              have hz1b : -G1 ≤ z1 ∧ z1 ≤ G1 := by have := partLo_bd hLokH.out hlw.2 (Bn_pos k) hlbH.out hjb (m := q) (by omega); rw [hs1.out, hG, ← hBe1] at this; exact this
              have hz2b : -G1 ≤ z2 ∧ z2 ≤ G1 := by have := partHi_bd hLokH.out hlw.2 (Bn_pos k) hlbH.out hjb (m := q) (by omega); rw [hs2.out, hG, ← hBe1] at this; exact this
              have hp1k : 1000 * G ≤ 1000000000000000000 := by omega
              obtain ⟨zb1, zb2⟩ := hz1b
              obtain ⟨zb3, zb4⟩ := hz2b
              clear hrc hac hac2 hu hx hy hwv hub hyb hBe1 hG hG1 hs1 hs2
              by_cases hneg : u < 0
              case pos =>
                obtain ⟨p1, hp1⟩ : ∃ p, u * y = p := ⟨_, rfl⟩
                obtain ⟨p2, hp2⟩ : ∃ p, u * x = p := ⟨_, rfl⟩
                have hl1 : loT u x y = p1 := by unfold loT; rw [if_pos (by omega)]; exact hp1
                have hl2 : hiT u x y = p2 := by unfold hiT; rw [if_pos (by omega)]; exact hp2
                rw [hl1] at hst1 hpb1
                rw [hl2] at hst2 hpb2
                obtain ⟨pb1, pb2⟩ := hpb1
                obtain ⟨pb3, pb4⟩ := hpb2
                rw [hst1] at hsb1
                rw [hst2] at hsb2
                obtain ⟨sb1, sb2⟩ := hsb1
                obtain ⟨sb3, sb4⟩ := hsb2
                have hst1H := Lib.hid hst1
                have hst2H := Lib.hid hst2
                clear hst1 hst2 hl1 hl2
                go_wp2_with fail
                go_round
                case rel => exact ⟨q + 1, z1 + p1, z2 + p2, by omega, by go_num, rfl, rfl, hst1H, hst2H⟩
                case measure => simp [intOf]; omega
              case neg =>
                obtain ⟨p1, hp1⟩ : ∃ p, u * x = p := ⟨_, rfl⟩
                obtain ⟨p2, hp2⟩ : ∃ p, u * y = p := ⟨_, rfl⟩
                have hl1 : loT u x y = p1 := by unfold loT; rw [if_neg (by omega)]; exact hp1
                have hl2 : hiT u x y = p2 := by unfold hiT; rw [if_neg (by omega)]; exact hp2
                rw [hl1] at hst1 hpb1
                rw [hl2] at hst2 hpb2
                obtain ⟨pb1, pb2⟩ := hpb1
                obtain ⟨pb3, pb4⟩ := hpb2
                rw [hst1] at hsb1
                rw [hst2] at hsb2
                obtain ⟨sb1, sb2⟩ := hsb1
                obtain ⟨sb3, sb4⟩ := hsb2
                have hst1H := Lib.hid hst1
                have hst2H := Lib.hid hst2
                clear hst1 hst2 hl1 hl2
                go_wp2_with fail
                go_round
                case rel => exact ⟨q + 1, z1 + p1, z2 + p2, by omega, by go_num, rfl, rfl, hst1H, hst2H⟩
                case measure => simp [intOf]; omega

end Go.Proofs.Ytbfigbpjoaccdaa

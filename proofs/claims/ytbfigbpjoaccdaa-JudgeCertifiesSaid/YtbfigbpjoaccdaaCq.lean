/- Certificates of the specification. -/
import Derived.Test.YtbfigbpjoaccdaaCf
namespace Go.Proofs.Ytbfigbpjoaccdaa
open Go Go.RowKit Go.Shelf
set_option linter.unusedVariables false
set_option linter.unusedSimpArgs false

/-- What a certificate of so many splits answers. -/
def CertR (N : NetN) (na : Option Addr) (nn nc s : Nat) : Prop := ∀ (l : List (Int × Int)), l.length = N.nf → LeP 65280 l → ∀ (a1 a2 : Option Addr) (c1 c2 : Nat) (W : World), RdLs W.heap.size W na N.Ls → Rd W.heap.size W a1 (l.map (·.1)) → Rd W.heap.size W a2 (l.map (·.2)) →
  Calls Try.prog 41 #[netv N na nn nc, .slice a1 N.nf c1, .slice a2 N.nf c2, .int .i64 (s : Int)] W fun e w' => e = .returned (.int .u8 ((certN N.Ls N.low N.high s l : Nat) : Int)) ∧ Below W.heap.size W w'
theorem set_self {L : List Int} {t : Nat} {x : Int} (h : L[t]?.getD 0 = x) : L.set t x = L := by
  refine List.ext_getElem (by simp) fun i h1 h2 => ?_
  rw [List.getElem_set]
  split
  · rename_i e
    subst e
    rw [List.getElem?_eq_getElem h2] at h
    exact h.symm
  · rfl
theorem set_fst (l : List (Int × Int)) (t : Nat) (a b : Int) : (l.set t (a, b)).map (·.1) = (l.map (·.1)).set t a := List.map_set
theorem set_snd (l : List (Int × Int)) (t : Nat) (a b : Int) : (l.set t (a, b)).map (·.2) = (l.map (·.2)).set t b := List.map_set

theorem cell_row {W : World} {base : Nat} {e : TypeId} {g n cap : Nat} {xs : List Value} (h : W.ownsRow base e 1 (.slice (some ⟨g, 0, none⟩) n cap) n xs) (hl : xs.length = n) {t : Nat} (ht : t < n) : ∃ u, W.cell? ⟨g, t, none⟩ = some u := by
  have := h.cellAt t (by omega)
  rw [List.getElem?_eq_getElem (by omega)] at this
  exact ⟨_, this⟩
set_option maxRecDepth 100000 in
set_option maxHeartbeats 16000000 in
theorem certR_step (N : NetN) (hN : NetOk N) (na : Option Addr) (nn nc : Nat) (hnn : N.Ls.length = nn) (s : Nat) (hs : s ≤ 8) (IH : ∀ s', s = s' + 1 → CertR N na nn nc s') : CertR N na nn nc s := by
  intro l hl hle a1 a2 c1 c2 w hrn hr1 hr2
  obtain ⟨i0, hi, hz0, hz1, hz2⟩ := info_parts jinfo_int
  obtain ⟨nf, hnf⟩ : ∃ n, N.nf = n := ⟨_, rfl⟩
  have h1 := hN.nf.1
  have h16 := hN.nf.2.1
  rw [hnf] at h1 h16
  have hll : l.length = nf := by rw [hl, hnf]
  rw [hnf]
  have hbo0 := fun (W : World) (h1 : RdLs W.heap.size W na N.Ls) (h2 : Rd W.heap.size W a1 (l.map (·.1))) (h3 : Rd W.heap.size W a2 (l.map (·.2))) => Bounded_any N hN na nn nc hnn l hl hle a1 a2 c1 c2 W h1 h2 h3
  have hju0 : ∀ W, Calls Try.prog 29 #[netv N na nn nc, .int .i64 (loAt (fwdB N.Ls l) 0), .int .i64 (hiAt (fwdB N.Ls l) 0)] W fun e w' => e = .returned (.int .u8 ((judgeB N.Ls N.low N.high l : Nat) : Int)) ∧ Below W.heap.size W w' := fun W => Judged_any N na nn nc _ _ W
  rw [hnf] at hbo0
  obtain ⟨zl, hzl⟩ : ∃ z, loAt (fwdB N.Ls l) 0 = z := ⟨_, rfl⟩
  obtain ⟨zh, hzh⟩ : ∃ z, hiAt (fwdB N.Ls l) 0 = z := ⟨_, rfl⟩
  rw [hzl, hzh] at hbo0 hju0
  obtain ⟨v, hv⟩ : ∃ v, judgeB N.Ls N.low N.high l = v := ⟨_, rfl⟩
  rw [hv] at hju0
  have hvin : v = 1 ∨ v = 2 ∨ v = 3 := by rw [← hv]; exact verdB_in _ _ _ _
  obtain ⟨R, hR⟩ : ∃ R, certN N.Ls N.low N.high s l = R := ⟨_, rfl⟩
  rw [hR]
  rcases hr1 with h0 | ⟨b1, o1, rfl, hb1, hcc1⟩
  · have := congrArg List.length h0; rw [List.length_map, List.length_nil] at this; omega
  rcases hr2 with h0 | ⟨b2, o2, rfl, hb2, hcc2⟩
  · have := congrArg List.length h0; rw [List.length_map, List.length_nil] at this; omega
  have hr1 : Rd w.heap.size w (some ⟨b1, o1, none⟩) (l.map (·.1)) := .inr ⟨b1, o1, rfl, hb1, hcc1⟩
  have hr2 : Rd w.heap.size w (some ⟨b2, o2, none⟩) (l.map (·.2)) := .inr ⟨b2, o2, rfl, hb2, hcc2⟩
  have hbW1 : Below w.heap.size w (w.alloc (.cells #[.int .i64 N.w, .int .i64 N.h, .int .i64 N.gx, .int .i64 N.gy, .slice na nn nc, .int .i64 N.low, .int .i64 N.high] 24)) := jb_al (Below.refl _ w) _
  have kn := Blk.new w 24 #[.int .i64 N.w, .int .i64 N.h, .int .i64 N.gx, .int .i64 N.gy, .slice na nn nc, .int .i64 N.low, .int .i64 N.high]
  obtain ⟨W1, hEW1⟩ : ∃ X, w.alloc (.cells #[.int .i64 N.w, .int .i64 N.h, .int .i64 N.gx, .int .i64 N.gy, .slice na nn nc, .int .i64 N.low, .int .i64 N.high] 24) = X := ⟨_, rfl⟩
  rw [hEW1] at hbW1 kn
  have c0 : W1.cell? ⟨w.heap.size, 0, none⟩ = some (.int .i64 N.w) := kn.cell (i := 0) rfl
  have c1 : W1.cell? ⟨w.heap.size, 1, none⟩ = some (.int .i64 N.h) := kn.cell (i := 1) rfl
  have c2 : W1.cell? ⟨w.heap.size, 2, none⟩ = some (.int .i64 N.gx) := kn.cell (i := 2) rfl
  have c3 : W1.cell? ⟨w.heap.size, 3, none⟩ = some (.int .i64 N.gy) := kn.cell (i := 3) rfl
  have c4 : W1.cell? ⟨w.heap.size, 4, none⟩ = some (.slice na nn nc) := kn.cell (i := 4) rfl
  have c5 : W1.cell? ⟨w.heap.size, 5, none⟩ = some (.int .i64 N.low) := kn.cell (i := 5) rfl
  have c6 : W1.cell? ⟨w.heap.size, 6, none⟩ = some (.int .i64 N.high) := kn.cell (i := 6) rfl
  have hvH := Lib.hid hv
  have hjuH := Lib.hid hju0
  have hRH := Lib.hid hR
  have hNH := Lib.hid hN
  have hnfH := Lib.hid hnf
  have hlnH := Lib.hid hl
  have hllH := Lib.hid hll
  have hleH := Lib.hid hle
  have hIHH := Lib.hid IH
  have knH := Lib.hid kn
  have hrnH := Lib.hid (fun (W : World) (hb : Below W1.heap.size W1 W) => later_l (later_l hrn hbW1) hb)
  have hr1H := Lib.hid (fun (W : World) (hb : Below W1.heap.size W1 W) => later_i (later_i hr1 hbW1) hb)
  have hr2H := Lib.hid (fun (W : World) (hb : Below W1.heap.size W1 W) => later_i (later_i hr2 hbW1) hb)
  have hboH := Lib.hid (fun (W : World) (hb : Below W1.heap.size W1 W) => hbo0 W (hrnH.out W hb) (hr1H.out W hb) (hr2H.out W hb))
  have hc1w := Lib.hid (fun (W : World) (hb : Below W1.heap.size W1 W) (i : Nat) (hi : i < nf) => (hb.cell (p := ⟨b1, o1 + i, none⟩) (Nat.lt_of_lt_of_le hb1 hbW1.size)).trans ((hbW1.cell (p := ⟨b1, o1 + i, none⟩) hb1).trans (hcc1 i (by rw [List.length_map, hll]; exact hi))))
  have hc2w := Lib.hid (fun (W : World) (hb : Below W1.heap.size W1 W) (i : Nat) (hi : i < nf) => (hb.cell (p := ⟨b2, o2 + i, none⟩) (Nat.lt_of_lt_of_le hb2 hbW1.size)).trans ((hbW1.cell (p := ⟨b2, o2 + i, none⟩) hb2).trans (hcc2 i (by rw [List.length_map, hll]; exact hi))))
  simp only [fst_at] at hc1w
  simp only [snd_at] at hc2w
  clear hv hju0 hR hN hnf hl hll hle IH hzl hzh hrn hr1 hr2 hcc1 hcc2 kn hbo0
  have tok3 : True := trivial
  have tok4 : True := trivial
  go_enter Try.func41, Try.ntmps41
  go_wp2_with (first
    | (go_at_call 28; have _t := tok3; refine (hboH.out W1 (Below.refl _ _)).mono ?_; clear _t tok3; rintro e X1 ⟨rfl, hbx1⟩; have kn1 := knH.out.below hbx1 knH.out.lt; have x0 : X1.cell? ⟨w.heap.size, 0, none⟩ = some (.int .i64 N.w) := kn1.cell (i := 0) rfl; have x1 : X1.cell? ⟨w.heap.size, 1, none⟩ = some (.int .i64 N.h) := kn1.cell (i := 1) rfl; have x2 : X1.cell? ⟨w.heap.size, 2, none⟩ = some (.int .i64 N.gx) := kn1.cell (i := 2) rfl; have x3 : X1.cell? ⟨w.heap.size, 3, none⟩ = some (.int .i64 N.gy) := kn1.cell (i := 3) rfl; have x4 : X1.cell? ⟨w.heap.size, 4, none⟩ = some (.slice na nn nc) := kn1.cell (i := 4) rfl; have x5 : X1.cell? ⟨w.heap.size, 5, none⟩ = some (.int .i64 N.low) := kn1.cell (i := 5) rfl; have x6 : X1.cell? ⟨w.heap.size, 6, none⟩ = some (.int .i64 N.high) := kn1.cell (i := 6) rfl)
    | (go_at_call 29; have _t := tok4; refine (hjuH.out X1).mono ?_; clear _t tok4; rintro e X2 ⟨rfl, hbx2⟩))
  have hbX := hbx1.trans (hbx2.mono hbx1.size)
  clear hboH hjuH hEW1 c0 c1 c2 c3 c4 c5 c6 x0 x1 x2 x3 x4 x5 x6 kn1 hbx1 hbx2
  go_loopw [12, 13] (fun at' i wr => ∃ k : Nat, k ≤ nf ∧ i = .int .i64 (k : Int) ∧ at' = .int .i64 ((wideTo l k : Nat) : Int) ∧ Below X2.heap.size X2 wr) (fun _ i _ => nf - (intOf i).toNat)
  case atStart => exact ⟨0, Nat.zero_le _, rfl, rfl, Below.refl _ _⟩
  case round =>
    obtain ⟨k, hk, rfl, rfl, hbw⟩ := hrel
    have hbr := hbX.trans (hbw.mono hbX.size)
    have htlt := wideTo_lt (l := l) (k := k) (by rw [hllH.out]; omega) (by rw [hllH.out]; exact hk)
    rw [hllH.out] at htlt
    obtain ⟨t, ht⟩ : ∃ t, wideTo l k = t := ⟨_, rfl⟩
    rw [ht] at htlt ⊢
    have p3 := hc1w.out wr hbr t htlt
    have p4 := hc2w.out wr hbr t htlt
    have hbt := hleH.out t
    obtain ⟨x, hx⟩ : ∃ x, loAt l t = x := ⟨_, rfl⟩
    obtain ⟨y, hy⟩ : ∃ y, hiAt l t = y := ⟨_, rfl⟩
    rw [hx] at p3 hbt
    rw [hy] at p4 hbt
    obtain ⟨⟨bx1, bx2⟩, by1, by2⟩ := hbt
    have hS0 : wr.drew.heap = wr.heap := rfl
    by_cases hlt : k < nf
    case pos =>
      have p1 := hc1w.out wr hbr k hlt
      have p2 := hc2w.out wr hbr k hlt
      have hbk := hleH.out k
      obtain ⟨p, hp⟩ : ∃ x, loAt l k = x := ⟨_, rfl⟩
      obtain ⟨q, hq⟩ : ∃ y, hiAt l k = y := ⟨_, rfl⟩
      rw [hp] at p1 hbk
      rw [hq] at p2 hbk
      obtain ⟨⟨bp1, bp2⟩, bq1, bq2⟩ := hbk
      have hwn : wideTo l (k + 1) = if y - x < q - p then k else t := by
        have e1 : widthB l t = y - x := by unfold widthB; rw [hx, hy]
        have e2 : widthB l k = q - p := by unfold widthB; rw [hp, hq]
        simp only [wideTo, ht, e1, e2]
      have hwnH := Lib.hid hwn
      clear hwn hp hq ht hx hy
      by_cases hd : y - x < q - p
      case pos =>
        have ed : decide (y - x < q - p) = true := decide_eq_true hd
        go_wp2_with fail
        refine plain_region (fun W' => W'.heap = wr.heap) 19 19 (by kernel_rfl) rfl ?_
        simp only [Array.replicate_succ, Array.replicate_zero, List.push_toArray, List.nil_append, List.cons_append]
        refine take_op 0 (v := ?bv0) rfl (by kernel_rfl) (fun _ _ _ h => h) (by rfl) hS0 (fun w' hS' => ?by0) ?bz0
        case by0 =>
          go_simp
          rfl
        simp only [List.setIfInBounds_toArray, List.set_cons_zero, List.set_cons_succ]
        refine take_op 1 (v := ?bv1) rfl (by kernel_rfl) (fun _ _ _ h => h) (by rfl) hS0 (fun w' hS' => ?by1) ?bz1
        case by1 =>
          go_simp
          rfl
        simp only [List.setIfInBounds_toArray, List.set_cons_zero, List.set_cons_succ]
        refine take_op 2 (v := ?bv2) rfl (by kernel_rfl) (fun _ _ _ h => h) (by rfl) hS0 (fun w' hS' => ?by2) ?bz2
        case by2 =>
          go_simp
          try go_ints
          first
          | rfl
          | (rw [if_pos (by omega)]; done)
          | rw [if_pos ⟨by omega, by omega⟩]
        simp only [List.setIfInBounds_toArray, List.set_cons_zero, List.set_cons_succ]
        refine take_op 3 (v := ?bv3) rfl (by kernel_rfl) (fun _ _ _ h => h) (by rfl) hS0 (fun w' hS' => ?by3) ?bz3
        case by3 =>
          have e0 := (World.cell?_of_block (w := wr) (w' := w') (a := ⟨b1, o1 + k, none⟩) (by rw [hS'])).trans p1
          have e1 := (World.cell?_of_block (w := wr) (w' := w') (a := ⟨b2, o2 + k, none⟩) (by rw [hS'])).trans p2
          have e2 := (World.cell?_of_block (w := wr) (w' := w') (a := ⟨b1, o1 + t, none⟩) (by rw [hS'])).trans p3
          have e3 := (World.cell?_of_block (w := wr) (w' := w') (a := ⟨b2, o2 + t, none⟩) (by rw [hS'])).trans p4
          clear hS'
          go_simp
          rfl
        simp only [List.setIfInBounds_toArray, List.set_cons_zero, List.set_cons_succ]
        refine take_op 4 (v := ?bv4) rfl (by kernel_rfl) (fun _ _ _ h => h) (by rfl) hS0 (fun w' hS' => ?by4) ?bz4
        case by4 =>
          go_simp
          rfl
        simp only [List.setIfInBounds_toArray, List.set_cons_zero, List.set_cons_succ]
        refine take_op 5 (v := ?bv5) rfl (by kernel_rfl) (fun _ _ _ h => h) (by rfl) hS0 (fun w' hS' => ?by5) ?bz5
        case by5 =>
          go_simp
          rfl
        simp only [List.setIfInBounds_toArray, List.set_cons_zero, List.set_cons_succ]
        refine take_op 6 (v := ?bv6) rfl (by kernel_rfl) (fun _ _ _ h => h) (by rfl) hS0 (fun w' hS' => ?by6) ?bz6
        case by6 =>
          go_simp
          try go_ints
          first
          | rfl
          | (rw [if_pos (by omega)]; done)
          | rw [if_pos ⟨by omega, by omega⟩]
        simp only [List.setIfInBounds_toArray, List.set_cons_zero, List.set_cons_succ]
        refine take_op 7 (v := ?bv7) rfl (by kernel_rfl) (fun _ _ _ h => h) (by rfl) hS0 (fun w' hS' => ?by7) ?bz7
        case by7 =>
          have e0 := (World.cell?_of_block (w := wr) (w' := w') (a := ⟨b1, o1 + k, none⟩) (by rw [hS'])).trans p1
          have e1 := (World.cell?_of_block (w := wr) (w' := w') (a := ⟨b2, o2 + k, none⟩) (by rw [hS'])).trans p2
          have e2 := (World.cell?_of_block (w := wr) (w' := w') (a := ⟨b1, o1 + t, none⟩) (by rw [hS'])).trans p3
          have e3 := (World.cell?_of_block (w := wr) (w' := w') (a := ⟨b2, o2 + t, none⟩) (by rw [hS'])).trans p4
          clear hS'
          go_simp
          rfl
        simp only [List.setIfInBounds_toArray, List.set_cons_zero, List.set_cons_succ]
        refine take_op 8 (v := ?bv8) rfl (by kernel_rfl) (fun _ _ _ h => h) (by rfl) hS0 (fun w' hS' => ?by8) ?bz8
        case by8 =>
          go_simp
          try go_ints
          rfl
        simp only [List.setIfInBounds_toArray, List.set_cons_zero, List.set_cons_succ]
        refine take_op 9 (v := ?bv9) rfl (by kernel_rfl) (fun _ _ _ h => h) (by rfl) hS0 (fun w' hS' => ?by9) ?bz9
        case by9 =>
          go_simp
          rfl
        simp only [List.setIfInBounds_toArray, List.set_cons_zero, List.set_cons_succ]
        refine take_op 10 (v := ?bv10) rfl (by kernel_rfl) (fun _ _ _ h => h) (by rfl) hS0 (fun w' hS' => ?by10) ?bz10
        case by10 =>
          go_simp
          rfl
        simp only [List.setIfInBounds_toArray, List.set_cons_zero, List.set_cons_succ]
        refine take_op 11 (v := ?bv11) rfl (by kernel_rfl) (fun _ _ _ h => h) (by rfl) hS0 (fun w' hS' => ?by11) ?bz11
        case by11 =>
          go_simp
          try go_ints
          first
          | rfl
          | (rw [if_pos (by omega)]; done)
          | rw [if_pos ⟨by omega, by omega⟩]
        simp only [List.setIfInBounds_toArray, List.set_cons_zero, List.set_cons_succ]
        refine take_op 12 (v := ?bv12) rfl (by kernel_rfl) (fun _ _ _ h => h) (by rfl) hS0 (fun w' hS' => ?by12) ?bz12
        case by12 =>
          have e0 := (World.cell?_of_block (w := wr) (w' := w') (a := ⟨b1, o1 + k, none⟩) (by rw [hS'])).trans p1
          have e1 := (World.cell?_of_block (w := wr) (w' := w') (a := ⟨b2, o2 + k, none⟩) (by rw [hS'])).trans p2
          have e2 := (World.cell?_of_block (w := wr) (w' := w') (a := ⟨b1, o1 + t, none⟩) (by rw [hS'])).trans p3
          have e3 := (World.cell?_of_block (w := wr) (w' := w') (a := ⟨b2, o2 + t, none⟩) (by rw [hS'])).trans p4
          clear hS'
          go_simp
          rfl
        simp only [List.setIfInBounds_toArray, List.set_cons_zero, List.set_cons_succ]
        refine take_op 13 (v := ?bv13) rfl (by kernel_rfl) (fun _ _ _ h => h) (by rfl) hS0 (fun w' hS' => ?by13) ?bz13
        case by13 =>
          go_simp
          rfl
        simp only [List.setIfInBounds_toArray, List.set_cons_zero, List.set_cons_succ]
        refine take_op 14 (v := ?bv14) rfl (by kernel_rfl) (fun _ _ _ h => h) (by rfl) hS0 (fun w' hS' => ?by14) ?bz14
        case by14 =>
          go_simp
          rfl
        simp only [List.setIfInBounds_toArray, List.set_cons_zero, List.set_cons_succ]
        refine take_op 15 (v := ?bv15) rfl (by kernel_rfl) (fun _ _ _ h => h) (by rfl) hS0 (fun w' hS' => ?by15) ?bz15
        case by15 =>
          go_simp
          try go_ints
          first
          | rfl
          | (rw [if_pos (by omega)]; done)
          | rw [if_pos ⟨by omega, by omega⟩]
        simp only [List.setIfInBounds_toArray, List.set_cons_zero, List.set_cons_succ]
        refine take_op 16 (v := ?bv16) rfl (by kernel_rfl) (fun _ _ _ h => h) (by rfl) hS0 (fun w' hS' => ?by16) ?bz16
        case by16 =>
          have e0 := (World.cell?_of_block (w := wr) (w' := w') (a := ⟨b1, o1 + k, none⟩) (by rw [hS'])).trans p1
          have e1 := (World.cell?_of_block (w := wr) (w' := w') (a := ⟨b2, o2 + k, none⟩) (by rw [hS'])).trans p2
          have e2 := (World.cell?_of_block (w := wr) (w' := w') (a := ⟨b1, o1 + t, none⟩) (by rw [hS'])).trans p3
          have e3 := (World.cell?_of_block (w := wr) (w' := w') (a := ⟨b2, o2 + t, none⟩) (by rw [hS'])).trans p4
          clear hS'
          go_simp
          rfl
        simp only [List.setIfInBounds_toArray, List.set_cons_zero, List.set_cons_succ]
        refine take_op 17 (v := ?bv17) rfl (by kernel_rfl) (fun _ _ _ h => h) (by rfl) hS0 (fun w' hS' => ?by17) ?bz17
        case by17 =>
          go_simp
          try go_ints
          rfl
        simp only [List.setIfInBounds_toArray, List.set_cons_zero, List.set_cons_succ]
        refine take_op 18 (v := .bool true) rfl (by kernel_rfl) (fun _ _ _ h => h) (by rfl) hS0 (fun w' hS' => ?by18) ?bz18
        case by18 =>
          clear hS'
          go_simp
          try simp only [ed]
          try rfl
          try omega
        simp only [List.setIfInBounds_toArray, List.set_cons_zero, List.set_cons_succ]
        refine done_ops (by kernel_rfl) ?_
        clear p1 p2 p3 p4 hS0
        go_wp2_with fail
        go_roundw
        case rel => exact ⟨k + 1, by omega, by go_num, by rw [hwnH.out, if_pos hd], hbw.drew⟩
        case measure => simp [intOf]; omega
      case neg =>
        have ed : decide (y - x < q - p) = false := decide_eq_false hd
        go_wp2_with fail
        refine plain_region (fun W' => W'.heap = wr.heap) 19 19 (by kernel_rfl) rfl ?_
        simp only [Array.replicate_succ, Array.replicate_zero, List.push_toArray, List.nil_append, List.cons_append]
        refine take_op 0 (v := ?dv0) rfl (by kernel_rfl) (fun _ _ _ h => h) (by rfl) hS0 (fun w' hS' => ?dy0) ?dz0
        case dy0 =>
          go_simp
          rfl
        simp only [List.setIfInBounds_toArray, List.set_cons_zero, List.set_cons_succ]
        refine take_op 1 (v := ?dv1) rfl (by kernel_rfl) (fun _ _ _ h => h) (by rfl) hS0 (fun w' hS' => ?dy1) ?dz1
        case dy1 =>
          go_simp
          rfl
        simp only [List.setIfInBounds_toArray, List.set_cons_zero, List.set_cons_succ]
        refine take_op 2 (v := ?dv2) rfl (by kernel_rfl) (fun _ _ _ h => h) (by rfl) hS0 (fun w' hS' => ?dy2) ?dz2
        case dy2 =>
          go_simp
          try go_ints
          first
          | rfl
          | (rw [if_pos (by omega)]; done)
          | rw [if_pos ⟨by omega, by omega⟩]
        simp only [List.setIfInBounds_toArray, List.set_cons_zero, List.set_cons_succ]
        refine take_op 3 (v := ?dv3) rfl (by kernel_rfl) (fun _ _ _ h => h) (by rfl) hS0 (fun w' hS' => ?dy3) ?dz3
        case dy3 =>
          have e0 := (World.cell?_of_block (w := wr) (w' := w') (a := ⟨b1, o1 + k, none⟩) (by rw [hS'])).trans p1
          have e1 := (World.cell?_of_block (w := wr) (w' := w') (a := ⟨b2, o2 + k, none⟩) (by rw [hS'])).trans p2
          have e2 := (World.cell?_of_block (w := wr) (w' := w') (a := ⟨b1, o1 + t, none⟩) (by rw [hS'])).trans p3
          have e3 := (World.cell?_of_block (w := wr) (w' := w') (a := ⟨b2, o2 + t, none⟩) (by rw [hS'])).trans p4
          clear hS'
          go_simp
          rfl
        simp only [List.setIfInBounds_toArray, List.set_cons_zero, List.set_cons_succ]
        refine take_op 4 (v := ?dv4) rfl (by kernel_rfl) (fun _ _ _ h => h) (by rfl) hS0 (fun w' hS' => ?dy4) ?dz4
        case dy4 =>
          go_simp
          rfl
        simp only [List.setIfInBounds_toArray, List.set_cons_zero, List.set_cons_succ]
        refine take_op 5 (v := ?dv5) rfl (by kernel_rfl) (fun _ _ _ h => h) (by rfl) hS0 (fun w' hS' => ?dy5) ?dz5
        case dy5 =>
          go_simp
          rfl
        simp only [List.setIfInBounds_toArray, List.set_cons_zero, List.set_cons_succ]
        refine take_op 6 (v := ?dv6) rfl (by kernel_rfl) (fun _ _ _ h => h) (by rfl) hS0 (fun w' hS' => ?dy6) ?dz6
        case dy6 =>
          go_simp
          try go_ints
          first
          | rfl
          | (rw [if_pos (by omega)]; done)
          | rw [if_pos ⟨by omega, by omega⟩]
        simp only [List.setIfInBounds_toArray, List.set_cons_zero, List.set_cons_succ]
        refine take_op 7 (v := ?dv7) rfl (by kernel_rfl) (fun _ _ _ h => h) (by rfl) hS0 (fun w' hS' => ?dy7) ?dz7
        case dy7 =>
          have e0 := (World.cell?_of_block (w := wr) (w' := w') (a := ⟨b1, o1 + k, none⟩) (by rw [hS'])).trans p1
          have e1 := (World.cell?_of_block (w := wr) (w' := w') (a := ⟨b2, o2 + k, none⟩) (by rw [hS'])).trans p2
          have e2 := (World.cell?_of_block (w := wr) (w' := w') (a := ⟨b1, o1 + t, none⟩) (by rw [hS'])).trans p3
          have e3 := (World.cell?_of_block (w := wr) (w' := w') (a := ⟨b2, o2 + t, none⟩) (by rw [hS'])).trans p4
          clear hS'
          go_simp
          rfl
        simp only [List.setIfInBounds_toArray, List.set_cons_zero, List.set_cons_succ]
        refine take_op 8 (v := ?dv8) rfl (by kernel_rfl) (fun _ _ _ h => h) (by rfl) hS0 (fun w' hS' => ?dy8) ?dz8
        case dy8 =>
          go_simp
          try go_ints
          rfl
        simp only [List.setIfInBounds_toArray, List.set_cons_zero, List.set_cons_succ]
        refine take_op 9 (v := ?dv9) rfl (by kernel_rfl) (fun _ _ _ h => h) (by rfl) hS0 (fun w' hS' => ?dy9) ?dz9
        case dy9 =>
          go_simp
          rfl
        simp only [List.setIfInBounds_toArray, List.set_cons_zero, List.set_cons_succ]
        refine take_op 10 (v := ?dv10) rfl (by kernel_rfl) (fun _ _ _ h => h) (by rfl) hS0 (fun w' hS' => ?dy10) ?dz10
        case dy10 =>
          go_simp
          rfl
        simp only [List.setIfInBounds_toArray, List.set_cons_zero, List.set_cons_succ]
        refine take_op 11 (v := ?dv11) rfl (by kernel_rfl) (fun _ _ _ h => h) (by rfl) hS0 (fun w' hS' => ?dy11) ?dz11
        case dy11 =>
          go_simp
          try go_ints
          first
          | rfl
          | (rw [if_pos (by omega)]; done)
          | rw [if_pos ⟨by omega, by omega⟩]
        simp only [List.setIfInBounds_toArray, List.set_cons_zero, List.set_cons_succ]
        refine take_op 12 (v := ?dv12) rfl (by kernel_rfl) (fun _ _ _ h => h) (by rfl) hS0 (fun w' hS' => ?dy12) ?dz12
        case dy12 =>
          have e0 := (World.cell?_of_block (w := wr) (w' := w') (a := ⟨b1, o1 + k, none⟩) (by rw [hS'])).trans p1
          have e1 := (World.cell?_of_block (w := wr) (w' := w') (a := ⟨b2, o2 + k, none⟩) (by rw [hS'])).trans p2
          have e2 := (World.cell?_of_block (w := wr) (w' := w') (a := ⟨b1, o1 + t, none⟩) (by rw [hS'])).trans p3
          have e3 := (World.cell?_of_block (w := wr) (w' := w') (a := ⟨b2, o2 + t, none⟩) (by rw [hS'])).trans p4
          clear hS'
          go_simp
          rfl
        simp only [List.setIfInBounds_toArray, List.set_cons_zero, List.set_cons_succ]
        refine take_op 13 (v := ?dv13) rfl (by kernel_rfl) (fun _ _ _ h => h) (by rfl) hS0 (fun w' hS' => ?dy13) ?dz13
        case dy13 =>
          go_simp
          rfl
        simp only [List.setIfInBounds_toArray, List.set_cons_zero, List.set_cons_succ]
        refine take_op 14 (v := ?dv14) rfl (by kernel_rfl) (fun _ _ _ h => h) (by rfl) hS0 (fun w' hS' => ?dy14) ?dz14
        case dy14 =>
          go_simp
          rfl
        simp only [List.setIfInBounds_toArray, List.set_cons_zero, List.set_cons_succ]
        refine take_op 15 (v := ?dv15) rfl (by kernel_rfl) (fun _ _ _ h => h) (by rfl) hS0 (fun w' hS' => ?dy15) ?dz15
        case dy15 =>
          go_simp
          try go_ints
          first
          | rfl
          | (rw [if_pos (by omega)]; done)
          | rw [if_pos ⟨by omega, by omega⟩]
        simp only [List.setIfInBounds_toArray, List.set_cons_zero, List.set_cons_succ]
        refine take_op 16 (v := ?dv16) rfl (by kernel_rfl) (fun _ _ _ h => h) (by rfl) hS0 (fun w' hS' => ?dy16) ?dz16
        case dy16 =>
          have e0 := (World.cell?_of_block (w := wr) (w' := w') (a := ⟨b1, o1 + k, none⟩) (by rw [hS'])).trans p1
          have e1 := (World.cell?_of_block (w := wr) (w' := w') (a := ⟨b2, o2 + k, none⟩) (by rw [hS'])).trans p2
          have e2 := (World.cell?_of_block (w := wr) (w' := w') (a := ⟨b1, o1 + t, none⟩) (by rw [hS'])).trans p3
          have e3 := (World.cell?_of_block (w := wr) (w' := w') (a := ⟨b2, o2 + t, none⟩) (by rw [hS'])).trans p4
          clear hS'
          go_simp
          rfl
        simp only [List.setIfInBounds_toArray, List.set_cons_zero, List.set_cons_succ]
        refine take_op 17 (v := ?dv17) rfl (by kernel_rfl) (fun _ _ _ h => h) (by rfl) hS0 (fun w' hS' => ?dy17) ?dz17
        case dy17 =>
          go_simp
          try go_ints
          rfl
        simp only [List.setIfInBounds_toArray, List.set_cons_zero, List.set_cons_succ]
        refine take_op 18 (v := .bool false) rfl (by kernel_rfl) (fun _ _ _ h => h) (by rfl) hS0 (fun w' hS' => ?dy18) ?dz18
        case dy18 =>
          clear hS'
          go_simp
          try simp only [ed]
          try rfl
          try omega
        simp only [List.setIfInBounds_toArray, List.set_cons_zero, List.set_cons_succ]
        refine done_ops (by kernel_rfl) ?_
        clear p1 p2 p3 p4 hS0
        go_wp2_with fail
        go_roundw
        case rel => exact ⟨k + 1, by omega, by go_num, by rw [hwnH.out, if_neg (by omega)], hbw.drew⟩
        case measure => simp [intOf]; omega
    case neg =>
      have hkn : k = nf := by omega
      subst hkn
      have htw : wideB l = t := by unfold wideB; rw [hllH.out]; exact ht
      have hfin : ∀ W, Below W1.heap.size W1 W → Below w.heap.size w W := fun W hb => hbW1.trans (hb.mono hbW1.size)
      have hfinH := Lib.hid hfin
      have hcw : (loAt l (wideB l) = hiAt l (wideB l)) = (x = y) := by rw [htw, hx, hy]
      have hcwH := Lib.hid hcw
      have hleft : leftB l = l.set t (x, (x + y).tdiv 2) := by unfold leftB midB; rw [htw, hx, hy]
      have hright : rightB l = l.set t ((x + y).tdiv 2 + 1, y) := by unfold rightB midB; rw [htw, hx, hy]
      have hleftH := Lib.hid hleft
      have hrightH := Lib.hid hright
      have hxH := Lib.hid hx
      have hyH := Lib.hid hy
      clear hx hy ht htw hlt hfin hcw hleft hright
      by_cases hv3 : v = 3
      case neg =>
        have hRv : R = v := by rw [← hRH.out, ← hvH.out]; exact certN_judged (by rw [hvH.out]; exact hv3) s
        subst hRv
        have d1 : ((R : Int) != (3 : Int)) = true := by simp; omega
        have d2 : ¬ ((R : Int) = (3 : Int)) := by omega
        go_wp2_with fail
        refine plain_region (fun W' => W'.heap = wr.heap) 17 17 (by kernel_rfl) rfl ?_
        simp only [Array.replicate_succ, Array.replicate_zero, List.push_toArray, List.nil_append, List.cons_append]
        refine take_op 0 (v := ?ev0) rfl (by kernel_rfl) (fun _ _ _ h => h) (by rfl) hS0 (fun w' hS' => ?ey0) ?ez0
        case ey0 =>
          go_simp
          rfl
        simp only [List.setIfInBounds_toArray, List.set_cons_zero, List.set_cons_succ]
        refine take_op 1 (v := .bool true) rfl (by kernel_rfl) (fun _ _ _ h => h) (by rfl) hS0 (fun w' hS' => ?ey1) ?ez1
        case ey1 =>
          clear hS'
          go_simp
          first | done | rfl | (simp; done) | omega
        simp only [List.setIfInBounds_toArray, List.set_cons_zero, List.set_cons_succ]
        refine take_op 2 (v := ?ev2) rfl (by kernel_rfl) (fun _ _ _ h => h) (by rfl) hS0 (fun w' hS' => ?ey2) ?ez2
        case ey2 =>
          go_simp
          rfl
        simp only [List.setIfInBounds_toArray, List.set_cons_zero, List.set_cons_succ]
        refine pass_op 3 rfl (by kernel_rfl) (fun _ _ _ h => h) (by rfl) hS0 ?_
        simp only [List.setIfInBounds_toArray, List.set_cons_zero, List.set_cons_succ]
        refine pass_op 4 rfl (by kernel_rfl) (fun _ _ _ h => h) (by rfl) hS0 ?_
        simp only [List.setIfInBounds_toArray, List.set_cons_zero, List.set_cons_succ]
        refine take_op 5 (v := ?ev5) rfl (by kernel_rfl) (fun _ _ _ h => h) (by rfl) hS0 (fun w' hS' => ?ey5) ?ez5
        case ey5 =>
          go_simp
          rfl
        simp only [List.setIfInBounds_toArray, List.set_cons_zero, List.set_cons_succ]
        refine take_op 6 (v := ?ev6) rfl (by kernel_rfl) (fun _ _ _ h => h) (by rfl) hS0 (fun w' hS' => ?ey6) ?ez6
        case ey6 =>
          go_simp
          rfl
        simp only [List.setIfInBounds_toArray, List.set_cons_zero, List.set_cons_succ]
        refine pass_op 7 rfl (by kernel_rfl) (fun _ _ _ h => h) (by rfl) hS0 ?_
        simp only [List.setIfInBounds_toArray, List.set_cons_zero, List.set_cons_succ]
        refine pass_op 8 rfl (by kernel_rfl) (fun _ _ _ h => h) (by rfl) hS0 ?_
        simp only [List.setIfInBounds_toArray, List.set_cons_zero, List.set_cons_succ]
        refine pass_op 9 rfl (by kernel_rfl) (fun _ _ _ h => h) (by rfl) hS0 ?_
        simp only [List.setIfInBounds_toArray, List.set_cons_zero, List.set_cons_succ]
        refine pass_op 10 rfl (by kernel_rfl) (fun _ _ _ h => h) (by rfl) hS0 ?_
        simp only [List.setIfInBounds_toArray, List.set_cons_zero, List.set_cons_succ]
        refine pass_op 11 rfl (by kernel_rfl) (fun _ _ _ h => h) (by rfl) hS0 ?_
        simp only [List.setIfInBounds_toArray, List.set_cons_zero, List.set_cons_succ]
        refine pass_op 12 rfl (by kernel_rfl) (fun _ _ _ h => h) (by rfl) hS0 ?_
        simp only [List.setIfInBounds_toArray, List.set_cons_zero, List.set_cons_succ]
        refine pass_op 13 rfl (by kernel_rfl) (fun _ _ _ h => h) (by rfl) hS0 ?_
        simp only [List.setIfInBounds_toArray, List.set_cons_zero, List.set_cons_succ]
        refine pass_op 14 rfl (by kernel_rfl) (fun _ _ _ h => h) (by rfl) hS0 ?_
        simp only [List.setIfInBounds_toArray, List.set_cons_zero, List.set_cons_succ]
        refine pass_op 15 rfl (by kernel_rfl) (fun _ _ _ h => h) (by rfl) hS0 ?_
        simp only [List.setIfInBounds_toArray, List.set_cons_zero, List.set_cons_succ]
        refine take_op 16 (v := ?ev16) rfl (by kernel_rfl) (fun _ _ _ h => h) (by rfl) hS0 (fun w' hS' => ?ey16) ?ez16
        case ey16 =>
          go_simp
          rfl
        simp only [List.setIfInBounds_toArray, List.set_cons_zero, List.set_cons_succ]
        refine done_ops (by kernel_rfl) ?_
        go_wp2_with fail
        go_ret
        exact ⟨rfl, hfinH.out _ hbr.drew⟩
      subst hv3
      cases s with
      | zero =>
        have hRv : R = 3 := by rw [← hRH.out, ← hvH.out]; rfl
        subst hRv
        go_wp2_with fail
        refine plain_region (fun W' => W'.heap = wr.heap) 17 17 (by kernel_rfl) rfl ?_
        simp only [Array.replicate_succ, Array.replicate_zero, List.push_toArray, List.nil_append, List.cons_append]
        refine take_op 0 (v := ?fv0) rfl (by kernel_rfl) (fun _ _ _ h => h) (by rfl) hS0 (fun w' hS' => ?fy0) ?fz0
        case fy0 =>
          go_simp
          rfl
        simp only [List.setIfInBounds_toArray, List.set_cons_zero, List.set_cons_succ]
        refine take_op 1 (v := .bool false) rfl (by kernel_rfl) (fun _ _ _ h => h) (by rfl) hS0 (fun w' hS' => ?fy1) ?fz1
        case fy1 =>
          clear hS'
          go_simp
          first | done | rfl | (simp; done) | omega
        simp only [List.setIfInBounds_toArray, List.set_cons_zero, List.set_cons_succ]
        refine take_op 2 (v := ?fv2) rfl (by kernel_rfl) (fun _ _ _ h => h) (by rfl) hS0 (fun w' hS' => ?fy2) ?fz2
        case fy2 =>
          go_simp
          rfl
        simp only [List.setIfInBounds_toArray, List.set_cons_zero, List.set_cons_succ]
        refine take_op 3 (v := ?fv3) rfl (by kernel_rfl) (fun _ _ _ h => h) (by rfl) hS0 (fun w' hS' => ?fy3) ?fz3
        case fy3 =>
          go_simp
          rfl
        simp only [List.setIfInBounds_toArray, List.set_cons_zero, List.set_cons_succ]
        refine take_op 4 (v := .bool true) rfl (by kernel_rfl) (fun _ _ _ h => h) (by rfl) hS0 (fun w' hS' => ?fy4) ?fz4
        case fy4 =>
          clear hS'
          go_simp
          first | done | rfl | (simp; done) | omega
        simp only [List.setIfInBounds_toArray, List.set_cons_zero, List.set_cons_succ]
        refine take_op 5 (v := ?fv5) rfl (by kernel_rfl) (fun _ _ _ h => h) (by rfl) hS0 (fun w' hS' => ?fy5) ?fz5
        case fy5 =>
          go_simp
          rfl
        simp only [List.setIfInBounds_toArray, List.set_cons_zero, List.set_cons_succ]
        refine take_op 6 (v := ?fv6) rfl (by kernel_rfl) (fun _ _ _ h => h) (by rfl) hS0 (fun w' hS' => ?fy6) ?fz6
        case fy6 =>
          go_simp
          rfl
        simp only [List.setIfInBounds_toArray, List.set_cons_zero, List.set_cons_succ]
        refine pass_op 7 rfl (by kernel_rfl) (fun _ _ _ h => h) (by rfl) hS0 ?_
        simp only [List.setIfInBounds_toArray, List.set_cons_zero, List.set_cons_succ]
        refine pass_op 8 rfl (by kernel_rfl) (fun _ _ _ h => h) (by rfl) hS0 ?_
        simp only [List.setIfInBounds_toArray, List.set_cons_zero, List.set_cons_succ]
        refine pass_op 9 rfl (by kernel_rfl) (fun _ _ _ h => h) (by rfl) hS0 ?_
        simp only [List.setIfInBounds_toArray, List.set_cons_zero, List.set_cons_succ]
        refine pass_op 10 rfl (by kernel_rfl) (fun _ _ _ h => h) (by rfl) hS0 ?_
        simp only [List.setIfInBounds_toArray, List.set_cons_zero, List.set_cons_succ]
        refine pass_op 11 rfl (by kernel_rfl) (fun _ _ _ h => h) (by rfl) hS0 ?_
        simp only [List.setIfInBounds_toArray, List.set_cons_zero, List.set_cons_succ]
        refine pass_op 12 rfl (by kernel_rfl) (fun _ _ _ h => h) (by rfl) hS0 ?_
        simp only [List.setIfInBounds_toArray, List.set_cons_zero, List.set_cons_succ]
        refine pass_op 13 rfl (by kernel_rfl) (fun _ _ _ h => h) (by rfl) hS0 ?_
        simp only [List.setIfInBounds_toArray, List.set_cons_zero, List.set_cons_succ]
        refine pass_op 14 rfl (by kernel_rfl) (fun _ _ _ h => h) (by rfl) hS0 ?_
        simp only [List.setIfInBounds_toArray, List.set_cons_zero, List.set_cons_succ]
        refine pass_op 15 rfl (by kernel_rfl) (fun _ _ _ h => h) (by rfl) hS0 ?_
        simp only [List.setIfInBounds_toArray, List.set_cons_zero, List.set_cons_succ]
        refine take_op 16 (v := ?fv16) rfl (by kernel_rfl) (fun _ _ _ h => h) (by rfl) hS0 (fun w' hS' => ?fy16) ?fz16
        case fy16 =>
          go_simp
          rfl
        simp only [List.setIfInBounds_toArray, List.set_cons_zero, List.set_cons_succ]
        refine done_ops (by kernel_rfl) ?_
        go_wp2_with fail
        go_ret
        exact ⟨rfl, hfinH.out _ hbr.drew⟩
      | succ s' =>
        have hsc : ((s' + 1 : Nat) : Int) = (s' : Int) + 1 := rfl
        have d3 : ((s' : Int) + 1 == (0 : Int)) = false := by simp; omega
        have d4 : ¬ ((s' : Int) + 1 = 0) := by omega
        by_cases hxy : x = y
        case pos =>
          have hRv : R = 3 := by rw [← hRH.out, certN, if_pos (.inr (by rw [hcwH.out]; exact hxy)), hvH.out]
          subst hRv
          subst hxy
          go_wp2_with fail
          refine plain_region (fun W' => W'.heap = wr.heap) 17 17 (by kernel_rfl) rfl ?_
          simp only [Array.replicate_succ, Array.replicate_zero, List.push_toArray, List.nil_append, List.cons_append]
          refine take_op 0 (v := ?gv0) rfl (by kernel_rfl) (fun _ _ _ h => h) (by rfl) hS0 (fun w' hS' => ?gy0) ?gz0
          case gy0 =>
            go_simp
            rfl
          simp only [List.setIfInBounds_toArray, List.set_cons_zero, List.set_cons_succ]
          refine take_op 1 (v := .bool false) rfl (by kernel_rfl) (fun _ _ _ h => h) (by rfl) hS0 (fun w' hS' => ?gy1) ?gz1
          case gy1 =>
            clear hS'
            go_simp
            first | done | rfl | (simp; done) | omega
          simp only [List.setIfInBounds_toArray, List.set_cons_zero, List.set_cons_succ]
          refine take_op 2 (v := ?gv2) rfl (by kernel_rfl) (fun _ _ _ h => h) (by rfl) hS0 (fun w' hS' => ?gy2) ?gz2
          case gy2 =>
            go_simp
            rfl
          simp only [List.setIfInBounds_toArray, List.set_cons_zero, List.set_cons_succ]
          refine take_op 3 (v := ?gv3) rfl (by kernel_rfl) (fun _ _ _ h => h) (by rfl) hS0 (fun w' hS' => ?gy3) ?gz3
          case gy3 =>
            go_simp
            rfl
          simp only [List.setIfInBounds_toArray, List.set_cons_zero, List.set_cons_succ]
          refine take_op 4 (v := .bool false) rfl (by kernel_rfl) (fun _ _ _ h => h) (by rfl) hS0 (fun w' hS' => ?gy4) ?gz4
          case gy4 =>
            clear hS'
            go_simp
            first | done | rfl | (simp; done) | omega
          simp only [List.setIfInBounds_toArray, List.set_cons_zero, List.set_cons_succ]
          refine take_op 5 (v := ?gv5) rfl (by kernel_rfl) (fun _ _ _ h => h) (by rfl) hS0 (fun w' hS' => ?gy5) ?gz5
          case gy5 =>
            go_simp
            rfl
          simp only [List.setIfInBounds_toArray, List.set_cons_zero, List.set_cons_succ]
          refine take_op 6 (v := ?gv6) rfl (by kernel_rfl) (fun _ _ _ h => h) (by rfl) hS0 (fun w' hS' => ?gy6) ?gz6
          case gy6 =>
            go_simp
            rfl
          simp only [List.setIfInBounds_toArray, List.set_cons_zero, List.set_cons_succ]
          refine take_op 7 (v := ?gv7) rfl (by kernel_rfl) (fun _ _ _ h => h) (by rfl) hS0 (fun w' hS' => ?gy7) ?gz7
          case gy7 =>
            go_simp
            rfl
          simp only [List.setIfInBounds_toArray, List.set_cons_zero, List.set_cons_succ]
          refine take_op 8 (v := ?gv8) rfl (by kernel_rfl) (fun _ _ _ h => h) (by rfl) hS0 (fun w' hS' => ?gy8) ?gz8
          case gy8 =>
            go_simp
            rfl
          simp only [List.setIfInBounds_toArray, List.set_cons_zero, List.set_cons_succ]
          refine take_op 9 (v := ?gv9) rfl (by kernel_rfl) (fun _ _ _ h => h) (by rfl) hS0 (fun w' hS' => ?gy9) ?gz9
          case gy9 =>
            go_simp
            try go_ints
            first
            | rfl
            | (rw [if_pos (by omega)]; done)
            | rw [if_pos ⟨by omega, by omega⟩]
          simp only [List.setIfInBounds_toArray, List.set_cons_zero, List.set_cons_succ]
          refine take_op 10 (v := ?gv10) rfl (by kernel_rfl) (fun _ _ _ h => h) (by rfl) hS0 (fun w' hS' => ?gy10) ?gz10
          case gy10 =>
            have e0 := (World.cell?_of_block (w := wr) (w' := w') (a := ⟨b1, o1 + t, none⟩) (by rw [hS'])).trans p3
            have e1 := (World.cell?_of_block (w := wr) (w' := w') (a := ⟨b2, o2 + t, none⟩) (by rw [hS'])).trans p4
            clear hS'
            go_simp
            rfl
          simp only [List.setIfInBounds_toArray, List.set_cons_zero, List.set_cons_succ]
          refine take_op 11 (v := ?gv11) rfl (by kernel_rfl) (fun _ _ _ h => h) (by rfl) hS0 (fun w' hS' => ?gy11) ?gz11
          case gy11 =>
            go_simp
            rfl
          simp only [List.setIfInBounds_toArray, List.set_cons_zero, List.set_cons_succ]
          refine take_op 12 (v := ?gv12) rfl (by kernel_rfl) (fun _ _ _ h => h) (by rfl) hS0 (fun w' hS' => ?gy12) ?gz12
          case gy12 =>
            go_simp
            rfl
          simp only [List.setIfInBounds_toArray, List.set_cons_zero, List.set_cons_succ]
          refine take_op 13 (v := ?gv13) rfl (by kernel_rfl) (fun _ _ _ h => h) (by rfl) hS0 (fun w' hS' => ?gy13) ?gz13
          case gy13 =>
            go_simp
            try go_ints
            first
            | rfl
            | (rw [if_pos (by omega)]; done)
            | rw [if_pos ⟨by omega, by omega⟩]
          simp only [List.setIfInBounds_toArray, List.set_cons_zero, List.set_cons_succ]
          refine take_op 14 (v := ?gv14) rfl (by kernel_rfl) (fun _ _ _ h => h) (by rfl) hS0 (fun w' hS' => ?gy14) ?gz14
          case gy14 =>
            have e0 := (World.cell?_of_block (w := wr) (w' := w') (a := ⟨b1, o1 + t, none⟩) (by rw [hS'])).trans p3
            have e1 := (World.cell?_of_block (w := wr) (w' := w') (a := ⟨b2, o2 + t, none⟩) (by rw [hS'])).trans p4
            clear hS'
            go_simp
            rfl
          simp only [List.setIfInBounds_toArray, List.set_cons_zero, List.set_cons_succ]
          refine take_op 15 (v := .bool true) rfl (by kernel_rfl) (fun _ _ _ h => h) (by rfl) hS0 (fun w' hS' => ?gy15) ?gz15
          case gy15 =>
            clear hS'
            go_simp
            first | done | rfl | (simp; done) | omega
          simp only [List.setIfInBounds_toArray, List.set_cons_zero, List.set_cons_succ]
          refine take_op 16 (v := ?gv16) rfl (by kernel_rfl) (fun _ _ _ h => h) (by rfl) hS0 (fun w' hS' => ?gy16) ?gz16
          case gy16 =>
            go_simp
            rfl
          simp only [List.setIfInBounds_toArray, List.set_cons_zero, List.set_cons_succ]
          refine done_ops (by kernel_rfl) ?_
          go_wp2_with fail
          go_ret
          exact ⟨rfl, hfinH.out _ hbr.drew⟩
        case neg =>
        obtain ⟨m, hm⟩ : ∃ m, (x + y).tdiv 2 = m := ⟨_, rfl⟩
        obtain ⟨m1, m2, m3, m4⟩ := mid_bd hm ⟨bx1, bx2⟩ ⟨by1, by2⟩ hxy
        have hIH := hIHH.out s' rfl
        have hc1 := fun (a' : Option Addr) (c' : Nat) (W : World) (h1 : RdLs W.heap.size W na N.Ls) (h2 : Rd W.heap.size W (some ⟨b1, o1, none⟩) (l.map (·.1))) (h3 : Rd W.heap.size W a' ((l.map (·.2)).set t m)) =>
          hIH (l.set t (x, m)) (by rw [List.length_set]; exact hlnH.out) (leP_set hleH.out t ⟨bx1, bx2⟩ ⟨m1, m2⟩) (some ⟨b1, o1, none⟩) a' c1 c' W h1 (by rw [set_fst, set_self (by rw [fst_at]; exact hxH.out)]; exact h2) (by rw [set_snd]; exact h3)
        have hc2 := fun (a' : Option Addr) (c' : Nat) (W : World) (h1 : RdLs W.heap.size W na N.Ls) (h2 : Rd W.heap.size W a' ((l.map (·.1)).set t (m + 1))) (h3 : Rd W.heap.size W (some ⟨b2, o2, none⟩) (l.map (·.2))) =>
          hIH (l.set t (m + 1, y)) (by rw [List.length_set]; exact hlnH.out) (leP_set hleH.out t ⟨m3, m4⟩ ⟨by1, by2⟩) a' (some ⟨b2, o2, none⟩) c' c2 W h1 (by rw [set_fst]; exact h2) (by rw [set_snd, set_self (by rw [snd_at]; exact hyH.out)]; exact h3)
        rw [hnfH.out] at hc1 hc2
        have hRc : R = if certN N.Ls N.low N.high s' (l.set t (x, m)) ≠ 3 ∧ certN N.Ls N.low N.high s' (l.set t (m + 1, y)) ≠ certN N.Ls N.low N.high s' (l.set t (x, m)) then 3 else certN N.Ls N.low N.high s' (l.set t (x, m)) := by
          rw [← hRH.out, certN, if_neg (by rw [hcwH.out, hvH.out]; simp; exact hxy), hleftH.out, hrightH.out, hm]
        obtain ⟨z1, hz1'⟩ : ∃ c, certN N.Ls N.low N.high s' (l.set t (x, m)) = c := ⟨_, rfl⟩
        obtain ⟨z2, hz2'⟩ : ∃ c, certN N.Ls N.low N.high s' (l.set t (m + 1, y)) = c := ⟨_, rfl⟩
        rw [hz1'] at hc1 hRc
        rw [hz2'] at hc2 hRc
        have hRq : R = if z2 = z1 then z1 else 3 := by
          rw [hRc]
          by_cases e1 : z2 = z1
          · rw [if_neg (fun h => h.2 e1), if_pos e1]
          · rw [if_neg e1]
            by_cases e2 : z1 = 3
            · rw [if_neg (fun h => h.1 e2), e2]
            · rw [if_pos ⟨e2, e1⟩]
        have hc1H := Lib.hid hc1
        have hc2H := Lib.hid hc2
        have d5 : (y == x) = false := by simp; omega
        have d6 : ¬ (y = x) := fun h => hxy h.symm
        have tok1 : True := trivial
        have tok2 : True := trivial
        have hm2 : (x + y).tdiv 2 = m := hm
        clear hc1 hc2 hz1' hz2' m3 m4 hRc hm hIH
        go_wp2_with fail
        refine plain_region (fun W' => W'.heap = wr.heap) 17 17 (by kernel_rfl) rfl ?_
        simp only [Array.replicate_succ, Array.replicate_zero, List.push_toArray, List.nil_append, List.cons_append]
        refine take_op 0 (v := ?hv0) rfl (by kernel_rfl) (fun _ _ _ h => h) (by rfl) hS0 (fun w' hS' => ?hy0) ?hz0
        case hy0 =>
          go_simp
          rfl
        simp only [List.setIfInBounds_toArray, List.set_cons_zero, List.set_cons_succ]
        refine take_op 1 (v := .bool false) rfl (by kernel_rfl) (fun _ _ _ h => h) (by rfl) hS0 (fun w' hS' => ?hy1) ?hz1
        case hy1 =>
          clear hS'
          go_simp
          first | done | rfl | (simp; done) | omega
        simp only [List.setIfInBounds_toArray, List.set_cons_zero, List.set_cons_succ]
        refine take_op 2 (v := ?hv2) rfl (by kernel_rfl) (fun _ _ _ h => h) (by rfl) hS0 (fun w' hS' => ?hy2) ?hz2
        case hy2 =>
          go_simp
          rfl
        simp only [List.setIfInBounds_toArray, List.set_cons_zero, List.set_cons_succ]
        refine take_op 3 (v := ?hv3) rfl (by kernel_rfl) (fun _ _ _ h => h) (by rfl) hS0 (fun w' hS' => ?hy3) ?hz3
        case hy3 =>
          go_simp
          rfl
        simp only [List.setIfInBounds_toArray, List.set_cons_zero, List.set_cons_succ]
        refine take_op 4 (v := .bool false) rfl (by kernel_rfl) (fun _ _ _ h => h) (by rfl) hS0 (fun w' hS' => ?hy4) ?hz4
        case hy4 =>
          clear hS'
          go_simp
          first | done | rfl | (simp; done) | omega
        simp only [List.setIfInBounds_toArray, List.set_cons_zero, List.set_cons_succ]
        refine take_op 5 (v := ?hv5) rfl (by kernel_rfl) (fun _ _ _ h => h) (by rfl) hS0 (fun w' hS' => ?hy5) ?hz5
        case hy5 =>
          go_simp
          rfl
        simp only [List.setIfInBounds_toArray, List.set_cons_zero, List.set_cons_succ]
        refine take_op 6 (v := ?hv6) rfl (by kernel_rfl) (fun _ _ _ h => h) (by rfl) hS0 (fun w' hS' => ?hy6) ?hz6
        case hy6 =>
          go_simp
          rfl
        simp only [List.setIfInBounds_toArray, List.set_cons_zero, List.set_cons_succ]
        refine take_op 7 (v := ?hv7) rfl (by kernel_rfl) (fun _ _ _ h => h) (by rfl) hS0 (fun w' hS' => ?hy7) ?hz7
        case hy7 =>
          go_simp
          rfl
        simp only [List.setIfInBounds_toArray, List.set_cons_zero, List.set_cons_succ]
        refine take_op 8 (v := ?hv8) rfl (by kernel_rfl) (fun _ _ _ h => h) (by rfl) hS0 (fun w' hS' => ?hy8) ?hz8
        case hy8 =>
          go_simp
          rfl
        simp only [List.setIfInBounds_toArray, List.set_cons_zero, List.set_cons_succ]
        refine take_op 9 (v := ?hv9) rfl (by kernel_rfl) (fun _ _ _ h => h) (by rfl) hS0 (fun w' hS' => ?hy9) ?hz9
        case hy9 =>
          go_simp
          try go_ints
          first
          | rfl
          | (rw [if_pos (by omega)]; done)
          | rw [if_pos ⟨by omega, by omega⟩]
        simp only [List.setIfInBounds_toArray, List.set_cons_zero, List.set_cons_succ]
        refine take_op 10 (v := ?hv10) rfl (by kernel_rfl) (fun _ _ _ h => h) (by rfl) hS0 (fun w' hS' => ?hy10) ?hz10
        case hy10 =>
          have e0 := (World.cell?_of_block (w := wr) (w' := w') (a := ⟨b1, o1 + t, none⟩) (by rw [hS'])).trans p3
          have e1 := (World.cell?_of_block (w := wr) (w' := w') (a := ⟨b2, o2 + t, none⟩) (by rw [hS'])).trans p4
          clear hS'
          go_simp
          rfl
        simp only [List.setIfInBounds_toArray, List.set_cons_zero, List.set_cons_succ]
        refine take_op 11 (v := ?hv11) rfl (by kernel_rfl) (fun _ _ _ h => h) (by rfl) hS0 (fun w' hS' => ?hy11) ?hz11
        case hy11 =>
          go_simp
          rfl
        simp only [List.setIfInBounds_toArray, List.set_cons_zero, List.set_cons_succ]
        refine take_op 12 (v := ?hv12) rfl (by kernel_rfl) (fun _ _ _ h => h) (by rfl) hS0 (fun w' hS' => ?hy12) ?hz12
        case hy12 =>
          go_simp
          rfl
        simp only [List.setIfInBounds_toArray, List.set_cons_zero, List.set_cons_succ]
        refine take_op 13 (v := ?hv13) rfl (by kernel_rfl) (fun _ _ _ h => h) (by rfl) hS0 (fun w' hS' => ?hy13) ?hz13
        case hy13 =>
          go_simp
          try go_ints
          first
          | rfl
          | (rw [if_pos (by omega)]; done)
          | rw [if_pos ⟨by omega, by omega⟩]
        simp only [List.setIfInBounds_toArray, List.set_cons_zero, List.set_cons_succ]
        refine take_op 14 (v := ?hv14) rfl (by kernel_rfl) (fun _ _ _ h => h) (by rfl) hS0 (fun w' hS' => ?hy14) ?hz14
        case hy14 =>
          have e0 := (World.cell?_of_block (w := wr) (w' := w') (a := ⟨b1, o1 + t, none⟩) (by rw [hS'])).trans p3
          have e1 := (World.cell?_of_block (w := wr) (w' := w') (a := ⟨b2, o2 + t, none⟩) (by rw [hS'])).trans p4
          clear hS'
          go_simp
          rfl
        simp only [List.setIfInBounds_toArray, List.set_cons_zero, List.set_cons_succ]
        refine take_op 15 (v := .bool false) rfl (by kernel_rfl) (fun _ _ _ h => h) (by rfl) hS0 (fun w' hS' => ?hy15) ?hz15
        case hy15 =>
          clear hS'
          go_simp
          first | done | rfl | (simp; done) | omega
        simp only [List.setIfInBounds_toArray, List.set_cons_zero, List.set_cons_succ]
        refine take_op 16 (v := ?hv16) rfl (by kernel_rfl) (fun _ _ _ h => h) (by rfl) hS0 (fun w' hS' => ?hy16) ?hz16
        case hy16 =>
          go_simp
          rfl
        simp only [List.setIfInBounds_toArray, List.set_cons_zero, List.set_cons_succ]
        refine done_ops (by kernel_rfl) ?_
        obtain ⟨Y, hEY⟩ : ∃ X, wr.drew = X := ⟨_, rfl⟩
        have y3 : Y.cell? ⟨b1, o1 + t, none⟩ = some (.int .i64 x) := by rw [← hEY]; exact p3
        have y4 : Y.cell? ⟨b2, o2 + t, none⟩ = some (.int .i64 y) := by rw [← hEY]; exact p4
        have hbY : Below W1.heap.size W1 Y := by rw [← hEY]; exact hbr.drew
        rw [hEY]
        clear hS0 p3 p4 hEY
        have hS0 : Y.drew.heap = Y.heap := rfl
        go_wp2_with fail
        refine plain_region (fun W' => W'.heap = Y.heap) 11 11 (by kernel_rfl) rfl ?_
        simp only [Array.replicate_succ, Array.replicate_zero, List.push_toArray, List.nil_append, List.cons_append]
        refine take_op 0 (v := ?mv0) rfl (by kernel_rfl) (fun _ _ _ h => h) (by rfl) hS0 (fun w' hS' => ?my0) ?mz0
        case my0 =>
          go_simp
          rfl
        simp only [List.setIfInBounds_toArray, List.set_cons_zero, List.set_cons_succ]
        refine take_op 1 (v := ?mv1) rfl (by kernel_rfl) (fun _ _ _ h => h) (by rfl) hS0 (fun w' hS' => ?my1) ?mz1
        case my1 =>
          go_simp
          rfl
        simp only [List.setIfInBounds_toArray, List.set_cons_zero, List.set_cons_succ]
        refine take_op 2 (v := ?mv2) rfl (by kernel_rfl) (fun _ _ _ h => h) (by rfl) hS0 (fun w' hS' => ?my2) ?mz2
        case my2 =>
          go_simp
          try go_ints
          first
          | rfl
          | (rw [if_pos (by omega)]; done)
          | rw [if_pos ⟨by omega, by omega⟩]
        simp only [List.setIfInBounds_toArray, List.set_cons_zero, List.set_cons_succ]
        refine take_op 3 (v := ?mv3) rfl (by kernel_rfl) (fun _ _ _ h => h) (by rfl) hS0 (fun w' hS' => ?my3) ?mz3
        case my3 =>
          have e0 := (World.cell?_of_block (w := Y) (w' := w') (a := ⟨b1, o1 + t, none⟩) (by rw [hS'])).trans y3
          have e1 := (World.cell?_of_block (w := Y) (w' := w') (a := ⟨b2, o2 + t, none⟩) (by rw [hS'])).trans y4
          clear hS'
          go_simp
          rfl
        simp only [List.setIfInBounds_toArray, List.set_cons_zero, List.set_cons_succ]
        refine take_op 4 (v := ?mv4) rfl (by kernel_rfl) (fun _ _ _ h => h) (by rfl) hS0 (fun w' hS' => ?my4) ?mz4
        case my4 =>
          go_simp
          rfl
        simp only [List.setIfInBounds_toArray, List.set_cons_zero, List.set_cons_succ]
        refine take_op 5 (v := ?mv5) rfl (by kernel_rfl) (fun _ _ _ h => h) (by rfl) hS0 (fun w' hS' => ?my5) ?mz5
        case my5 =>
          go_simp
          rfl
        simp only [List.setIfInBounds_toArray, List.set_cons_zero, List.set_cons_succ]
        refine take_op 6 (v := ?mv6) rfl (by kernel_rfl) (fun _ _ _ h => h) (by rfl) hS0 (fun w' hS' => ?my6) ?mz6
        case my6 =>
          go_simp
          try go_ints
          first
          | rfl
          | (rw [if_pos (by omega)]; done)
          | rw [if_pos ⟨by omega, by omega⟩]
        simp only [List.setIfInBounds_toArray, List.set_cons_zero, List.set_cons_succ]
        refine take_op 7 (v := ?mv7) rfl (by kernel_rfl) (fun _ _ _ h => h) (by rfl) hS0 (fun w' hS' => ?my7) ?mz7
        case my7 =>
          have e0 := (World.cell?_of_block (w := Y) (w' := w') (a := ⟨b1, o1 + t, none⟩) (by rw [hS'])).trans y3
          have e1 := (World.cell?_of_block (w := Y) (w' := w') (a := ⟨b2, o2 + t, none⟩) (by rw [hS'])).trans y4
          clear hS'
          go_simp
          rfl
        simp only [List.setIfInBounds_toArray, List.set_cons_zero, List.set_cons_succ]
        refine take_op 8 (v := ?mv8) rfl (by kernel_rfl) (fun _ _ _ h => h) (by rfl) hS0 (fun w' hS' => ?my8) ?mz8
        case my8 =>
          go_simp
          try go_ints
          rfl
        simp only [List.setIfInBounds_toArray, List.set_cons_zero, List.set_cons_succ]
        refine take_op 9 (v := ?mv9) rfl (by kernel_rfl) (fun _ _ _ h => h) (by rfl) hS0 (fun w' hS' => ?my9) ?mz9
        case my9 =>
          go_simp
          try go_ints
          rfl
        simp only [List.setIfInBounds_toArray, List.set_cons_zero, List.set_cons_succ]
        refine take_op 10 (v := ?mv10) rfl (by kernel_rfl) (fun _ _ _ h => h) (by rfl) hS0 (fun w' hS' => ?my10) ?mz10
        case my10 =>
          go_simp
          rfl
        simp only [List.setIfInBounds_toArray, List.set_cons_zero, List.set_cons_succ]
        refine done_ops (by kernel_rfl) ?_
        obtain ⟨Z, hEZ⟩ : ∃ X, Y.drew = X := ⟨_, rfl⟩
        have hbZ : Below W1.heap.size W1 Z := by rw [← hEZ]; exact hbY.drew
        rw [hEZ]
        clear hS0 y3 y4 hEZ hm2
        have own1H := Lib.hid (World.ownsRow_made (e := 3) (size := 1) (base := Z.heap.size) Z #[] 0 (Nat.le_refl _) (by decide) rfl)
        have hBz1 : Below Z.heap.size Z (Z.alloc (.cells #[] 3)) := jb_al (Below.refl _ Z) _
        have hlen1 := Lib.hid (show ((l.map (·.1)).map (Value.int .i64)).length = k by rw [List.length_map, List.length_map, hllH.out])
        have hlen2 := Lib.hid (show ((l.map (·.2)).map (Value.int .i64)).length = k by rw [List.length_map, List.length_map, hllH.out])
        have hone1 := Lib.hid (vint_one (l.map (·.1)))
        have hone2 := Lib.hid (vint_one (l.map (·.2)))
        have hn2H := Lib.hid ((hr2H.out _ (hbZ.trans (hBz1.mono hbZ.size))).news (show (l.map (·.2)).length = k by rw [List.length_map, hllH.out]))
        have hn1H := Lib.hid (fun (W : World) (hb : Below Z.heap.size Z W) => (hr1H.out W (hbZ.trans (hb.mono hbZ.size))).news (show (l.map (·.1)).length = k by rw [List.length_map, hllH.out]))
        by_cases hzz : z2 = z1
        case pos =>
          have hRv : R = z1 := by rw [hRq, if_pos hzz]
          subst hRv
          subst hzz
          clear hRq
          have e3 : ∀ z : Int, (z != z) = false := fun z => by simp
          go_wp2_with (first
            | (at_builtin; refine wpList_append_any rfl (.tmp 82) (.tmp 83) 25 rfl Z.heap.size 3 i0 (.int .i64 0) 8 Try.underlying25 hi hz0 hz1 hz2 rfl (.slice (some ⟨Z.heap.size, 0, none⟩) 0 0) 0 [] rfl own1H.out (some ⟨b2, o2, none⟩) k c2 ((l.map (·.2)).map (Value.int .i64)) rfl hlen2.out hn2H.out hone2.out (by unfold maxLen; omega) (by omega) hBz1.size ?_; intro v2 W2 own2 hg2 _; rw [Nat.zero_add, List.nil_append] at own2; have hB2 := hBz1.grown hg2 hBz1.size (fun k e => (own1H.out.lt k e).1); obtain ⟨a2', cc2, rfl⟩ := jrow_slice own2; obtain ⟨g2, rfl⟩ := row_some own2 (by omega); have hB3 := jb_al2 hB2 (.cells #[] 3); have own3H := Lib.hid (World.ownsRow_made (e := 3) (size := 1) (base := Z.heap.size) W2 #[] 0 hB2.size (by decide) rfl); have own2H := Lib.hid (own2.alloc (.cells #[] 3)); have hg2l := (own2.lt g2 rfl).2; have hn1' := Lib.hid (hn1H.out _ hB3); clear hg2 own2)
            | (at_builtin; refine wpList_append_any rfl (.tmp 85) (.tmp 86) 25 rfl Z.heap.size 3 i0 (.int .i64 0) 8 Try.underlying25 hi hz0 hz1 hz2 rfl (.slice (some ⟨W2.heap.size, 0, none⟩) 0 0) 0 [] rfl own3H.out (some ⟨b1, o1, none⟩) k c1 ((l.map (·.1)).map (Value.int .i64)) rfl hlen1.out hn1'.out hone1.out (by unfold maxLen; omega) (by omega) hB3.size ?_; intro v4 W4 own4 hg4 hblk4; rw [Nat.zero_add, List.nil_append] at own4; have hB4 := hB3.grown hg4 hB3.size (fun k e => (own3H.out.lt k e).1); have own2b := own2H.out.kept hg4 (.inr (by simp [Value.ownBlock]; omega)); obtain ⟨a4, cc4, rfl⟩ := jrow_slice own4; obtain ⟨g4, rfl⟩ := row_some own4 (by omega); have hg24 : g4 ≠ g2 := (by rcases hblk4 with h | h <;> simp [Value.ownBlock] at h <;> omega); obtain ⟨q0, hq0⟩ := cell_row own2b hlen2.out (show t < k from htlt); have hfq := own2b.frozenAt t; have st2 := (own2b.stored t (.int .i64 m)).1; have row4' := row_setCell own4 (a := ⟨g2, t, none⟩) (by simp [Value.ownBlock]; exact fun h => hg24 h.symm) (.int .i64 m); obtain ⟨q1, hq1⟩ := cell_row row4' hlen1.out (show t < k from htlt); have hfq1 := row4'.frozenAt t; have st4 := (row4'.stored t (.int .i64 (m + 1))).1; have st2' := row_setCell st2 (a := ⟨g4, t, none⟩) (by simp [Value.ownBlock]; exact hg24) (.int .i64 (m + 1)); have hBs := (hB4.setCell (p := ⟨g2, t, none⟩) (own2b.lt g2 rfl).1 (.int .i64 m)).setCell (p := ⟨g4, t, none⟩) (own4.lt g4 rfl).1 (.int .i64 (m + 1)); obtain ⟨U, hEU⟩ : ∃ X, W4.setCell ⟨g2, t, none⟩ (.int .i64 m) = X := ⟨_, rfl⟩; rw [hEU] at hq1 hfq1 st4 st2' hBs; obtain ⟨V, hEV⟩ : ∃ X, U.setCell ⟨g4, t, none⟩ (.int .i64 (m + 1)) = X := ⟨_, rfl⟩; rw [hEV] at st4 st2' hBs; simp only [map_set_i] at st4 st2'; have hbV := hbZ.trans (hBs.mono hbZ.size); have knV := knH.out.below hbV knH.out.lt; have v0 : V.cell? ⟨w.heap.size, 0, none⟩ = some (.int .i64 N.w) := knV.cell (i := 0) rfl; have v1 : V.cell? ⟨w.heap.size, 1, none⟩ = some (.int .i64 N.h) := knV.cell (i := 1) rfl; have v2 : V.cell? ⟨w.heap.size, 2, none⟩ = some (.int .i64 N.gx) := knV.cell (i := 2) rfl; have v3 : V.cell? ⟨w.heap.size, 3, none⟩ = some (.int .i64 N.gy) := knV.cell (i := 3) rfl; have v4 : V.cell? ⟨w.heap.size, 4, none⟩ = some (.slice na nn nc) := knV.cell (i := 4) rfl; have v5 : V.cell? ⟨w.heap.size, 5, none⟩ = some (.int .i64 N.low) := knV.cell (i := 5) rfl; have v6 : V.cell? ⟨w.heap.size, 6, none⟩ = some (.int .i64 N.high) := knV.cell (i := 6) rfl; have rdl := Lib.hid (rowI_rd (by rw [List.length_set, List.length_map, hllH.out]) st2'); have rdr := Lib.hid (rowI_rd (by rw [List.length_set, List.length_map, hllH.out]) st4); clear hg4 own4 own2b st2 st2' st4 row4' hblk4 knV own2H own3H hn1')
            | (go_at_call 41; have _t := tok1; refine (hc1H.out _ _ V (hrnH.out V hbV) (hr1H.out V hbV) rdl.out).mono ?_; clear _t tok1; rintro e P1 ⟨rfl, hbp⟩; have hbP := hbV.trans (hbp.mono hbV.size); have knP := knH.out.below hbP knH.out.lt; have u0 : P1.cell? ⟨w.heap.size, 0, none⟩ = some (.int .i64 N.w) := knP.cell (i := 0) rfl; have u1 : P1.cell? ⟨w.heap.size, 1, none⟩ = some (.int .i64 N.h) := knP.cell (i := 1) rfl; have u2 : P1.cell? ⟨w.heap.size, 2, none⟩ = some (.int .i64 N.gx) := knP.cell (i := 2) rfl; have u3 : P1.cell? ⟨w.heap.size, 3, none⟩ = some (.int .i64 N.gy) := knP.cell (i := 3) rfl; have u4 : P1.cell? ⟨w.heap.size, 4, none⟩ = some (.slice na nn nc) := knP.cell (i := 4) rfl; have u5 : P1.cell? ⟨w.heap.size, 5, none⟩ = some (.int .i64 N.low) := knP.cell (i := 5) rfl; have u6 : P1.cell? ⟨w.heap.size, 6, none⟩ = some (.int .i64 N.high) := knP.cell (i := 6) rfl; have rdr2 := later_i rdr.out hbp)
            | (go_at_call 41; have _t := tok2; refine (hc2H.out _ _ P1 (hrnH.out P1 hbP) rdr2 (hr2H.out P1 hbP)).mono ?_; clear _t tok2; rintro e P2 ⟨rfl, hbp2⟩))
          go_ret
          exact ⟨rfl, hfinH.out _ (hbP.trans (hbp2.mono hbP.size))⟩
        case neg =>
          have hRv : R = 3 := by rw [hRq, if_neg hzz]
          subst hRv
          clear hRq
          have e3 : ((z2 : Int) != (z1 : Int)) = true := by simp; omega
          have e4 : ¬ ((z2 : Int) = (z1 : Int)) := by omega
          go_wp2_with (first
            | (at_builtin; refine wpList_append_any rfl (.tmp 82) (.tmp 83) 25 rfl Z.heap.size 3 i0 (.int .i64 0) 8 Try.underlying25 hi hz0 hz1 hz2 rfl (.slice (some ⟨Z.heap.size, 0, none⟩) 0 0) 0 [] rfl own1H.out (some ⟨b2, o2, none⟩) k c2 ((l.map (·.2)).map (Value.int .i64)) rfl hlen2.out hn2H.out hone2.out (by unfold maxLen; omega) (by omega) hBz1.size ?_; intro v2 W2 own2 hg2 _; rw [Nat.zero_add, List.nil_append] at own2; have hB2 := hBz1.grown hg2 hBz1.size (fun k e => (own1H.out.lt k e).1); obtain ⟨a2', cc2, rfl⟩ := jrow_slice own2; obtain ⟨g2, rfl⟩ := row_some own2 (by omega); have hB3 := jb_al2 hB2 (.cells #[] 3); have own3H := Lib.hid (World.ownsRow_made (e := 3) (size := 1) (base := Z.heap.size) W2 #[] 0 hB2.size (by decide) rfl); have own2H := Lib.hid (own2.alloc (.cells #[] 3)); have hg2l := (own2.lt g2 rfl).2; have hn1' := Lib.hid (hn1H.out _ hB3); clear hg2 own2)
            | (at_builtin; refine wpList_append_any rfl (.tmp 85) (.tmp 86) 25 rfl Z.heap.size 3 i0 (.int .i64 0) 8 Try.underlying25 hi hz0 hz1 hz2 rfl (.slice (some ⟨W2.heap.size, 0, none⟩) 0 0) 0 [] rfl own3H.out (some ⟨b1, o1, none⟩) k c1 ((l.map (·.1)).map (Value.int .i64)) rfl hlen1.out hn1'.out hone1.out (by unfold maxLen; omega) (by omega) hB3.size ?_; intro v4 W4 own4 hg4 hblk4; rw [Nat.zero_add, List.nil_append] at own4; have hB4 := hB3.grown hg4 hB3.size (fun k e => (own3H.out.lt k e).1); have own2b := own2H.out.kept hg4 (.inr (by simp [Value.ownBlock]; omega)); obtain ⟨a4, cc4, rfl⟩ := jrow_slice own4; obtain ⟨g4, rfl⟩ := row_some own4 (by omega); have hg24 : g4 ≠ g2 := (by rcases hblk4 with h | h <;> simp [Value.ownBlock] at h <;> omega); obtain ⟨q0, hq0⟩ := cell_row own2b hlen2.out (show t < k from htlt); have hfq := own2b.frozenAt t; have st2 := (own2b.stored t (.int .i64 m)).1; have row4' := row_setCell own4 (a := ⟨g2, t, none⟩) (by simp [Value.ownBlock]; exact fun h => hg24 h.symm) (.int .i64 m); obtain ⟨q1, hq1⟩ := cell_row row4' hlen1.out (show t < k from htlt); have hfq1 := row4'.frozenAt t; have st4 := (row4'.stored t (.int .i64 (m + 1))).1; have st2' := row_setCell st2 (a := ⟨g4, t, none⟩) (by simp [Value.ownBlock]; exact hg24) (.int .i64 (m + 1)); have hBs := (hB4.setCell (p := ⟨g2, t, none⟩) (own2b.lt g2 rfl).1 (.int .i64 m)).setCell (p := ⟨g4, t, none⟩) (own4.lt g4 rfl).1 (.int .i64 (m + 1)); obtain ⟨U, hEU⟩ : ∃ X, W4.setCell ⟨g2, t, none⟩ (.int .i64 m) = X := ⟨_, rfl⟩; rw [hEU] at hq1 hfq1 st4 st2' hBs; obtain ⟨V, hEV⟩ : ∃ X, U.setCell ⟨g4, t, none⟩ (.int .i64 (m + 1)) = X := ⟨_, rfl⟩; rw [hEV] at st4 st2' hBs; simp only [map_set_i] at st4 st2'; have hbV := hbZ.trans (hBs.mono hbZ.size); have knV := knH.out.below hbV knH.out.lt; have v0 : V.cell? ⟨w.heap.size, 0, none⟩ = some (.int .i64 N.w) := knV.cell (i := 0) rfl; have v1 : V.cell? ⟨w.heap.size, 1, none⟩ = some (.int .i64 N.h) := knV.cell (i := 1) rfl; have v2 : V.cell? ⟨w.heap.size, 2, none⟩ = some (.int .i64 N.gx) := knV.cell (i := 2) rfl; have v3 : V.cell? ⟨w.heap.size, 3, none⟩ = some (.int .i64 N.gy) := knV.cell (i := 3) rfl; have v4 : V.cell? ⟨w.heap.size, 4, none⟩ = some (.slice na nn nc) := knV.cell (i := 4) rfl; have v5 : V.cell? ⟨w.heap.size, 5, none⟩ = some (.int .i64 N.low) := knV.cell (i := 5) rfl; have v6 : V.cell? ⟨w.heap.size, 6, none⟩ = some (.int .i64 N.high) := knV.cell (i := 6) rfl; have rdl := Lib.hid (rowI_rd (by rw [List.length_set, List.length_map, hllH.out]) st2'); have rdr := Lib.hid (rowI_rd (by rw [List.length_set, List.length_map, hllH.out]) st4); clear hg4 own4 own2b st2 st2' st4 row4' hblk4 knV own2H own3H hn1')
            | (go_at_call 41; have _t := tok1; refine (hc1H.out _ _ V (hrnH.out V hbV) (hr1H.out V hbV) rdl.out).mono ?_; clear _t tok1; rintro e P1 ⟨rfl, hbp⟩; have hbP := hbV.trans (hbp.mono hbV.size); have knP := knH.out.below hbP knH.out.lt; have u0 : P1.cell? ⟨w.heap.size, 0, none⟩ = some (.int .i64 N.w) := knP.cell (i := 0) rfl; have u1 : P1.cell? ⟨w.heap.size, 1, none⟩ = some (.int .i64 N.h) := knP.cell (i := 1) rfl; have u2 : P1.cell? ⟨w.heap.size, 2, none⟩ = some (.int .i64 N.gx) := knP.cell (i := 2) rfl; have u3 : P1.cell? ⟨w.heap.size, 3, none⟩ = some (.int .i64 N.gy) := knP.cell (i := 3) rfl; have u4 : P1.cell? ⟨w.heap.size, 4, none⟩ = some (.slice na nn nc) := knP.cell (i := 4) rfl; have u5 : P1.cell? ⟨w.heap.size, 5, none⟩ = some (.int .i64 N.low) := knP.cell (i := 5) rfl; have u6 : P1.cell? ⟨w.heap.size, 6, none⟩ = some (.int .i64 N.high) := knP.cell (i := 6) rfl; have rdr2 := later_i rdr.out hbp)
            | (go_at_call 41; have _t := tok2; refine (hc2H.out _ _ P1 (hrnH.out P1 hbP) rdr2 (hr2H.out P1 hbP)).mono ?_; clear _t tok2; rintro e P2 ⟨rfl, hbp2⟩))
          go_ret
          exact ⟨rfl, hfinH.out _ (hbP.trans (hbp2.mono hbP.size))⟩

theorem certR_any (N : NetN) (hN : NetOk N) (na : Option Addr) (nn nc : Nat) (hnn : N.Ls.length = nn) : ∀ s, s ≤ 8 → CertR N na nn nc s
  | 0, h => certR_step N hN na nn nc hnn 0 h fun s' e => by omega
  | s + 1, h => certR_step N hN na nn nc hnn (s + 1) h fun s' e => by
    have e' : s = s' := by omega
    subst e'
    exact certR_any N hN na nn nc hnn s (by omega)

end Go.Proofs.Ytbfigbpjoaccdaa

/- judge.features. -/
import Derived.Test.YtbfigbpjoaccdaaCam
import Derived.Test.YtbfigbpjoaccdaaFeatL
namespace Go.Proofs.Ytbfigbpjoaccdaa
open Go Go.RowKit Go.Shelf
set_option linter.unusedVariables false
set_option linter.unusedSimpArgs false

theorem own_mono_j {W : World} {base base' : Nat} {e : TypeId} {size : Nat} {v : Value} {n : Nat} {xs : List Value} (h : W.ownsRow base e size v n xs) (hb : base' ≤ base) : W.ownsRow base' e size v n xs := by
  refine ⟨h.1, ?_⟩
  rcases h.2 with h2 | ⟨g, cap, cur, h1, h2, h3⟩
  · exact .inl h2
  · exact .inr ⟨g, cap, cur, h1, Nat.le_trans hb h2, h3⟩
set_option maxRecDepth 100000 in
set_option maxHeartbeats 8000000 in
theorem features_walk (pw ph gx gy cw ch nf l : Nat) (hC : Cells pw ph cw ch gx gy) (hnf : nf = gx * gy) (h1 : 1 ≤ gx) (h2 : gx ≤ 4) (h3 : 1 ≤ gy) (h4 : gy ≤ 4) (p1 : 1 ≤ pw) (p2 : pw ≤ 16) (q1 : 1 ≤ ph) (q2 : ph ≤ 16) (xs : List Int) (hl : xs.length = l) (hlen : l = ph * pw) (hv : allIn 0 255 xs = true)
    (low high : Int) (na pa : Option Addr) (nn nc pc : Nat) (w : World) (hp : Rd w.heap.size w pa xs) :
    Calls Try.prog 20 #[.agg #[.int .i64 (pw : Int), .int .i64 (ph : Int), .int .i64 (gx : Int), .int .i64 (gy : Int), .slice na nn nc, .int .i64 low, .int .i64 high], .agg #[.int .i64 (pw : Int), .int .i64 (ph : Int), .slice pa l pc]] w fun e w' => ∃ g, e = .returned (.slice (some ⟨g, 0, none⟩) nf nf) ∧
      w'.ownsRow w.heap.size 3 1 (.slice (some ⟨g, 0, none⟩) nf nf) nf ((featsTo pw cw ch gx (fun i => xs[i]?.getD 0) nf l).map (Value.int .i64)) ∧ Below w.heap.size w w' := by
  obtain ⟨i0, hi, hz0, hz1, hz2⟩ := info_parts jinfo_int
  have hlH := Lib.hid hl
  have hvH := Lib.hid hv
  have hCH := Lib.hid hC
  have hnfH := Lib.hid hnf
  have hl256 : l ≤ 256 := by
    have : ph * pw ≤ 16 * 16 := Nat.mul_le_mul q2 p2
    omega
  have hnf16 : nf ≤ 16 := by
    have : gx * gy ≤ 4 * 4 := Nat.mul_le_mul h2 h4
    omega
  have hlenH := Lib.hid hlen
  have hzH := Lib.hid (jmade_int nf)
  have hgg : (gx : Int) * (gy : Int) = (nf : Int) := by rw [hnf]; simp
  have hcw : (pw : Int).tdiv (gx : Int) = (cw : Int) := by
    rw [← hC.ex, ← Int.ofNat_tdiv, Nat.mul_div_cancel_left _ (by omega)]
  have hch : (ph : Int).tdiv (gy : Int) = (ch : Int) := by
    rw [← hC.ey, ← Int.ofNat_tdiv, Nat.mul_div_cancel_left _ (by omega)]
  have hw0 := hC.w0
  have hh0 := hC.h0
  have hgx0 : ¬ gx = 0 := by omega
  have hgy0 : ¬ gy = 0 := by omega
  have hpw0 : ¬ pw = 0 := by omega
  have hcw0 : ¬ cw = 0 := by omega
  have hch0 : ¬ ch = 0 := by omega
  have hcw16 : cw ≤ 16 := by have := Nat.le_mul_of_pos_left cw (show 0 < gx by omega); have := hC.ex; omega
  have hch16 : ch ≤ 16 := by have := Nat.le_mul_of_pos_left ch (show 0 < gy by omega); have := hC.ey; omega
  clear hl hv hC hnf hlen
  have hbW1 : Below w.heap.size w (w.alloc (.cells #[.int .i64 (pw : Int), .int .i64 (ph : Int), .int .i64 (gx : Int), .int .i64 (gy : Int), .slice na nn nc, .int .i64 low, .int .i64 high] 24)) := jb_al (Below.refl _ w) _
  have kn := Blk.new w 24 #[.int .i64 (pw : Int), .int .i64 (ph : Int), .int .i64 (gx : Int), .int .i64 (gy : Int), .slice na nn nc, .int .i64 low, .int .i64 high]
  obtain ⟨W1, hEW1⟩ : ∃ X, w.alloc (.cells #[.int .i64 (pw : Int), .int .i64 (ph : Int), .int .i64 (gx : Int), .int .i64 (gy : Int), .slice na nn nc, .int .i64 low, .int .i64 high] 24) = X := ⟨_, rfl⟩
  rw [hEW1] at hbW1 kn
  have hbW2 : Below W1.heap.size W1 (W1.alloc (.cells #[.int .i64 (pw : Int), .int .i64 (ph : Int), .slice pa l pc] 27)) := jb_al (Below.refl _ W1) _
  have ki := Blk.new W1 27 #[.int .i64 (pw : Int), .int .i64 (ph : Int), .slice pa l pc]
  obtain ⟨W2, hEW2⟩ : ∃ X, W1.alloc (.cells #[.int .i64 (pw : Int), .int .i64 (ph : Int), .slice pa l pc] 27) = X := ⟨_, rfl⟩
  rw [hEW2] at hbW2 ki
  have kn2 := kn.below hbW2 kn.lt
  have c0 : W2.cell? ⟨w.heap.size, 0, none⟩ = some (.int .i64 (pw : Int)) := kn2.cell (i := 0) rfl
  have c1 : W2.cell? ⟨w.heap.size, 1, none⟩ = some (.int .i64 (ph : Int)) := kn2.cell (i := 1) rfl
  have c2 : W2.cell? ⟨w.heap.size, 2, none⟩ = some (.int .i64 (gx : Int)) := kn2.cell (i := 2) rfl
  have c3 : W2.cell? ⟨w.heap.size, 3, none⟩ = some (.int .i64 (gy : Int)) := kn2.cell (i := 3) rfl
  have d0 : W2.cell? ⟨W1.heap.size, 0, none⟩ = some (.int .i64 (pw : Int)) := ki.cell (i := 0) rfl
  have d1 : W2.cell? ⟨W1.heap.size, 1, none⟩ = some (.int .i64 (ph : Int)) := ki.cell (i := 1) rfl
  have d2 : W2.cell? ⟨W1.heap.size, 2, none⟩ = some (.slice pa l pc) := ki.cell (i := 2) rfl
  have hB2 : Below w.heap.size w W2 := hbW1.trans (hbW2.mono hbW1.size)
  have hs12 : W1.heap.size < W2.heap.size := ki.lt
  have hs01 : w.heap.size < W1.heap.size := kn.lt
  have hpH := Lib.hid ((later_i hp hB2))
  have kn2H := Lib.hid kn2
  have kiH := Lib.hid ki
  clear kn kn2 ki hp hbW1 hbW2
  go_enter Try.func20, Try.ntmps20
  go_wp2_with (at_make; refine wpList_make_full _ rfl _ _ 25 rfl W2.heap.size 3 i0 (.int .i64 0) 1 Try.underlying25 hi hz0 hz1 .i64 .i64 (nf : Int) (nf : Int) nf rfl rfl (by simp) (by simp) (by rw [hz2]; omega) (by unfold maxLen; omega) (by simp) ?_; intro W3 hown hg; have kn3 := kn2H.out.kept hg (by simp); have ki3 := kiH.out.kept hg (by simp); clear c0 c1 c2 c3 d0 d1 d2)
  have c0 : W3.cell? ⟨w.heap.size, 0, none⟩ = some (.int .i64 (pw : Int)) := kn3.cell (i := 0) rfl
  have c1 : W3.cell? ⟨w.heap.size, 1, none⟩ = some (.int .i64 (ph : Int)) := kn3.cell (i := 1) rfl
  have c2 : W3.cell? ⟨w.heap.size, 2, none⟩ = some (.int .i64 (gx : Int)) := kn3.cell (i := 2) rfl
  have c3 : W3.cell? ⟨w.heap.size, 3, none⟩ = some (.int .i64 (gy : Int)) := kn3.cell (i := 3) rfl
  have d0 : W3.cell? ⟨W1.heap.size, 0, none⟩ = some (.int .i64 (pw : Int)) := ki3.cell (i := 0) rfl
  have d1 : W3.cell? ⟨W1.heap.size, 1, none⟩ = some (.int .i64 (ph : Int)) := ki3.cell (i := 1) rfl
  have d2 : W3.cell? ⟨W1.heap.size, 2, none⟩ = some (.slice pa l pc) := ki3.cell (i := 2) rfl
  go_wp2_with fail
  have hS0 : W3.drew.heap = W3.heap := rfl
  refine plain_region (fun W' => W'.heap = W3.heap) 12 12 (by kernel_rfl) rfl ?_
  simp only [Array.replicate_succ, Array.replicate_zero, List.push_toArray, List.nil_append, List.cons_append]
  refine take_op 0 (v := ?fv0) rfl (by kernel_rfl) (fun _ _ _ h => h) (by rfl) hS0 (fun w' hS' => ?fy0) ?fz0
  case fy0 =>
    go_simp
    rfl
  simp only [List.setIfInBounds_toArray, List.set_cons_zero, List.set_cons_succ]
  refine take_op 1 (v := ?fv1) rfl (by kernel_rfl) (fun _ _ _ h => h) (by rfl) hS0 (fun w' hS' => ?fy1) ?fz1
  case fy1 =>
    have e0 := (World.cell?_of_block (w := W3) (w' := w') (a := ⟨w.heap.size, 0, none⟩) (by rw [hS'])).trans c0
    have e1 := (World.cell?_of_block (w := W3) (w' := w') (a := ⟨w.heap.size, 1, none⟩) (by rw [hS'])).trans c1
    have e2 := (World.cell?_of_block (w := W3) (w' := w') (a := ⟨w.heap.size, 2, none⟩) (by rw [hS'])).trans c2
    have e3 := (World.cell?_of_block (w := W3) (w' := w') (a := ⟨w.heap.size, 3, none⟩) (by rw [hS'])).trans c3
    clear hS'
    go_simp
    rfl
  simp only [List.setIfInBounds_toArray, List.set_cons_zero, List.set_cons_succ]
  refine take_op 2 (v := ?fv2) rfl (by kernel_rfl) (fun _ _ _ h => h) (by rfl) hS0 (fun w' hS' => ?fy2) ?fz2
  case fy2 =>
    go_simp
    rfl
  simp only [List.setIfInBounds_toArray, List.set_cons_zero, List.set_cons_succ]
  refine take_op 3 (v := ?fv3) rfl (by kernel_rfl) (fun _ _ _ h => h) (by rfl) hS0 (fun w' hS' => ?fy3) ?fz3
  case fy3 =>
    have e0 := (World.cell?_of_block (w := W3) (w' := w') (a := ⟨w.heap.size, 0, none⟩) (by rw [hS'])).trans c0
    have e1 := (World.cell?_of_block (w := W3) (w' := w') (a := ⟨w.heap.size, 1, none⟩) (by rw [hS'])).trans c1
    have e2 := (World.cell?_of_block (w := W3) (w' := w') (a := ⟨w.heap.size, 2, none⟩) (by rw [hS'])).trans c2
    have e3 := (World.cell?_of_block (w := W3) (w' := w') (a := ⟨w.heap.size, 3, none⟩) (by rw [hS'])).trans c3
    clear hS'
    go_simp
    rfl
  simp only [List.setIfInBounds_toArray, List.set_cons_zero, List.set_cons_succ]
  refine take_op 4 (v := ?fv4) rfl (by kernel_rfl) (fun _ _ _ h => h) (by rfl) hS0 (fun w' hS' => ?fy4) ?fz4
  case fy4 =>
    go_simp
    try go_ints
    rfl
  simp only [List.setIfInBounds_toArray, List.set_cons_zero, List.set_cons_succ]
  refine take_op 5 (v := ?fv5) rfl (by kernel_rfl) (fun _ _ _ h => h) (by rfl) hS0 (fun w' hS' => ?fy5) ?fz5
  case fy5 =>
    go_simp
    rfl
  simp only [List.setIfInBounds_toArray, List.set_cons_zero, List.set_cons_succ]
  refine take_op 6 (v := ?fv6) rfl (by kernel_rfl) (fun _ _ _ h => h) (by rfl) hS0 (fun w' hS' => ?fy6) ?fz6
  case fy6 =>
    have e0 := (World.cell?_of_block (w := W3) (w' := w') (a := ⟨w.heap.size, 0, none⟩) (by rw [hS'])).trans c0
    have e1 := (World.cell?_of_block (w := W3) (w' := w') (a := ⟨w.heap.size, 1, none⟩) (by rw [hS'])).trans c1
    have e2 := (World.cell?_of_block (w := W3) (w' := w') (a := ⟨w.heap.size, 2, none⟩) (by rw [hS'])).trans c2
    have e3 := (World.cell?_of_block (w := W3) (w' := w') (a := ⟨w.heap.size, 3, none⟩) (by rw [hS'])).trans c3
    clear hS'
    go_simp
    rfl
  simp only [List.setIfInBounds_toArray, List.set_cons_zero, List.set_cons_succ]
  refine take_op 7 (v := ?fv7) rfl (by kernel_rfl) (fun _ _ _ h => h) (by rfl) hS0 (fun w' hS' => ?fy7) ?fz7
  case fy7 =>
    go_simp
    rfl
  simp only [List.setIfInBounds_toArray, List.set_cons_zero, List.set_cons_succ]
  refine take_op 8 (v := ?fv8) rfl (by kernel_rfl) (fun _ _ _ h => h) (by rfl) hS0 (fun w' hS' => ?fy8) ?fz8
  case fy8 =>
    have e0 := (World.cell?_of_block (w := W3) (w' := w') (a := ⟨w.heap.size, 0, none⟩) (by rw [hS'])).trans c0
    have e1 := (World.cell?_of_block (w := W3) (w' := w') (a := ⟨w.heap.size, 1, none⟩) (by rw [hS'])).trans c1
    have e2 := (World.cell?_of_block (w := W3) (w' := w') (a := ⟨w.heap.size, 2, none⟩) (by rw [hS'])).trans c2
    have e3 := (World.cell?_of_block (w := W3) (w' := w') (a := ⟨w.heap.size, 3, none⟩) (by rw [hS'])).trans c3
    clear hS'
    go_simp
    rfl
  simp only [List.setIfInBounds_toArray, List.set_cons_zero, List.set_cons_succ]
  refine take_op 9 (v := ?fv9) rfl (by kernel_rfl) (fun _ _ _ h => h) (by rfl) hS0 (fun w' hS' => ?fy9) ?fz9
  case fy9 =>
    go_simp
    try go_ints
    rfl
  simp only [List.setIfInBounds_toArray, List.set_cons_zero, List.set_cons_succ]
  refine take_op 10 (v := ?fv10) rfl (by kernel_rfl) (fun _ _ _ h => h) (by rfl) hS0 (fun w' hS' => ?fy10) ?fz10
  case fy10 =>
    go_simp
    rfl
  simp only [List.setIfInBounds_toArray, List.set_cons_zero, List.set_cons_succ]
  refine take_op 11 (v := ?fv11) rfl (by kernel_rfl) (fun _ _ _ h => h) (by rfl) hS0 (fun w' hS' => ?fy11) ?fz11
  case fy11 =>
    go_simp
    rfl
  simp only [List.setIfInBounds_toArray, List.set_cons_zero, List.set_cons_succ]
  refine done_ops (by kernel_rfl) ?_
  go_wp2_with fail
  have kn4 : Blk W3.drew w.heap.size 24 #[.int .i64 (pw : Int), .int .i64 (ph : Int), .int .i64 (gx : Int), .int .i64 (gy : Int), .slice na nn nc, .int .i64 low, .int .i64 high] := kn3
  have ki4 : Blk W3.drew W1.heap.size 27 #[.int .i64 (pw : Int), .int .i64 (ph : Int), .slice pa l pc] := ki3
  have row4 : W3.drew.ownsRow W2.heap.size 3 1 (.slice (some ⟨W2.heap.size, 0, none⟩) nf nf) nf (madeCells (Value.cells (.int .i64 0)) (nf * 1)).toList := hown
  rw [hzH.out, ← featsTo_zero pw cw ch gx (fun i => xs[i]?.getD 0) nf] at row4
  have hB4 : Below W2.heap.size W2 W3.drew := ((Below.refl _ _).grown hg (Nat.le_refl _) (fun k e => by cases e)).drew
  clear hS0 kn3 ki3 hown hg hzH hEW1 hEW2 c0 c1 c2 c3 d0 d1 d2
  go_loopw [29] (fun i wr => ∃ k : Nat, k ≤ l ∧ i = .int .i64 (k : Int) ∧ wr.ownsRow W2.heap.size 3 1 (.slice (some ⟨W2.heap.size, 0, none⟩) nf nf) nf ((featsTo pw cw ch gx (fun i => xs[i]?.getD 0) nf k).map (Value.int .i64)) ∧ Below W2.heap.size W2 wr) (fun i _ => l - (intOf i).toNat)
  case atStart => exact ⟨0, Nat.zero_le _, rfl, row4, hB4⟩
  case round =>
    clear kn4 ki4 row4 hB4
    obtain ⟨k, hk, rfl, rowk, hb⟩ := hrel
    by_cases hlt : k < l
    case neg =>
      have hkl : k = l := by omega
      subst hkl
      go_wp2_with fail
      go_ret
      exact ⟨_, rfl, own_mono_j rowk hB2.size, hB2.trans (hb.mono hB2.size)⟩
    case pos =>
      have hkl : k < xs.length := by have := hlH.out; omega
      rcases hpH.out with h0 | ⟨b, o, rfl, hb', hc⟩
      · rw [h0] at hkl; simp at hkl
      have hcell := (hb.cell (p := ⟨b, o + k, none⟩) hb').trans (hc k hkl)
      have hvb := allIn_getD hvH.out hkl
      have hcl := cell_lt hCH.out.w0 hCH.out.h0 hCH.out.ex hCH.out.ey (i := k) (by rw [← hlenH.out]; exact hlt)
      rw [← hnfH.out] at hcl
      have hfb := featTo_bd (pw := pw) (cw := cw) (ch := ch) (gx := gx) (c := cellF pw cw ch gx k) (v := fun i => xs[i]?.getD 0) (k := k) (fun i hi => allIn_getD hvH.out (by omega))
      have hnext := featsTo_succ pw cw ch gx (fun i => xs[i]?.getD 0) hcl
      have hat := featsTo_at pw cw ch gx (fun i => xs[i]?.getD 0) (k := k) hcl
      obtain ⟨v, hv⟩ : ∃ v, xs[k]?.getD 0 = v := ⟨_, rfl⟩
      obtain ⟨z, hz⟩ : ∃ z, featTo pw cw ch gx (fun i => xs[i]?.getD 0) (cellF pw cw ch gx k) k = z := ⟨_, rfl⟩
      simp only [hv] at hnext hvb hcell
      rw [hz] at hnext hat hfb
      have hyq : (k : Int).tdiv (pw : Int) = ((k / pw : Nat) : Int) := by rw [← Int.ofNat_tdiv]
      have hxq : (k : Int).tmod (pw : Int) = ((k % pw : Nat) : Int) := by rw [← Int.ofNat_tmod]
      have hYq : ((k / pw : Nat) : Int).tdiv (ch : Int) = ((k / pw / ch : Nat) : Int) := by rw [← Int.ofNat_tdiv]
      have hXq : ((k % pw : Nat) : Int).tdiv (cw : Int) = ((k % pw / cw : Nat) : Int) := by rw [← Int.ofNat_tdiv]
      have hPq : ((k / pw / ch : Nat) : Int) * (gx : Int) = ((k / pw / ch * gx : Nat) : Int) := by simp
      have hce : cellF pw cw ch gx k = k / pw / ch * gx + k % pw / cw := rfl
      rw [hce] at hcl hnext hat
      have hy256 : k / pw ≤ 256 := Nat.le_trans (Nat.div_le_self _ _) (by omega)
      have hY256 : k / pw / ch ≤ 256 := Nat.le_trans (Nat.div_le_self _ _) hy256
      have hx16 : k % pw ≤ 16 := Nat.le_trans (Nat.le_of_lt (Nat.mod_lt _ (by omega))) p2
      obtain ⟨y, hye⟩ : ∃ y, k / pw = y := ⟨_, rfl⟩
      obtain ⟨x, hxe⟩ : ∃ x, k % pw = x := ⟨_, rfl⟩
      rw [hye] at hyq hYq hPq hcl hnext hat hy256 hY256
      rw [hxe] at hxq hXq hcl hnext hat hx16
      obtain ⟨Y, hYe⟩ : ∃ Y, y / ch = Y := ⟨_, rfl⟩
      obtain ⟨X, hXe⟩ : ∃ X, x / cw = X := ⟨_, rfl⟩
      rw [hYe] at hYq hPq hcl hnext hat hY256
      rw [hXe] at hXq hcl hnext hat
      obtain ⟨p, hpe⟩ : ∃ p, Y * gx = p := ⟨_, rfl⟩
      rw [hpe] at hPq hcl hnext hat
      have hcz := rowk.cellAt (p + X) (by rw [Nat.mul_one]; exact hcl)
      rw [List.getElem?_map, List.getElem?_eq_getElem (by rw [featsTo_length]; exact hcl)] at hcz
      rw [List.getElem?_eq_getElem (by rw [featsTo_length]; exact hcl)] at hat
      simp only [Option.getD_some] at hat
      simp only [Option.map_some, hat] at hcz
      change wr.cell? ⟨W2.heap.size, p + X, none⟩ = some (.int .i64 z) at hcz
      have hst := (rowk.stored (p + X) (.int .i64 (z + v))).1
      simp only [map_set_i] at hst
      rw [hnext] at hst
      have hfr := rowk.frozenAt (p + X)
      have knr := kn2H.out.below hb (by omega)
      have kir := kiH.out.below hb hs12
      have d0 : wr.cell? ⟨W1.heap.size, 0, none⟩ = some (.int .i64 (pw : Int)) := kir.cell (i := 0) rfl
      have c2 : wr.cell? ⟨w.heap.size, 2, none⟩ = some (.int .i64 (gx : Int)) := knr.cell (i := 2) rfl
      have hS0 : wr.drew.heap = wr.heap := rfl
      have hstH := Lib.hid hst
      clear hst hnext hat hv hz hye hxe hYe hXe hpe hc knr kir hce hkl rowk
      obtain ⟨v1, v2⟩ := hvb
      obtain ⟨z1, z2⟩ := hfb
      have z3 : z ≤ 65280 := by omega
      clear z2
      go_wp2_with fail
      refine plain_region (fun W' => W'.heap = wr.heap) 22 23 (by kernel_rfl) rfl ?_
      simp only [Array.replicate_succ, Array.replicate_zero, List.push_toArray, List.nil_append, List.cons_append]
      refine take_op 0 (v := ?gv0) rfl (by kernel_rfl) (fun _ _ _ h => h) (by rfl) hS0 (fun w' hS' => ?gy0) ?gz0
      case gy0 =>
        go_simp
        rfl
      simp only [List.setIfInBounds_toArray, List.set_cons_zero, List.set_cons_succ]
      refine take_op 1 (v := ?gv1) rfl (by kernel_rfl) (fun _ _ _ h => h) (by rfl) hS0 (fun w' hS' => ?gy1) ?gz1
      case gy1 =>
        go_simp
        rfl
      simp only [List.setIfInBounds_toArray, List.set_cons_zero, List.set_cons_succ]
      refine take_op 2 (v := ?gv2) rfl (by kernel_rfl) (fun _ _ _ h => h) (by rfl) hS0 (fun w' hS' => ?gy2) ?gz2
      case gy2 =>
        go_simp
        rfl
      simp only [List.setIfInBounds_toArray, List.set_cons_zero, List.set_cons_succ]
      refine take_op 3 (v := ?gv3) rfl (by kernel_rfl) (fun _ _ _ h => h) (by rfl) hS0 (fun w' hS' => ?gy3) ?gz3
      case gy3 =>
        have e0 := (World.cell?_of_block (w := wr) (w' := w') (a := ⟨W1.heap.size, 0, none⟩) (by rw [hS'])).trans d0
        have e1 := (World.cell?_of_block (w := wr) (w' := w') (a := ⟨w.heap.size, 2, none⟩) (by rw [hS'])).trans c2
        have e2 := (World.cell?_of_block (w := wr) (w' := w') (a := ⟨W2.heap.size, p + X, none⟩) (by rw [hS'])).trans hcz
        clear hS'
        go_simp
        rfl
      simp only [List.setIfInBounds_toArray, List.set_cons_zero, List.set_cons_succ]
      refine take_op 4 (v := ?gv4) rfl (by kernel_rfl) (fun _ _ _ h => h) (by rfl) hS0 (fun w' hS' => ?gy4) ?gz4
      case gy4 =>
        go_simp
        try go_ints
        rfl
      simp only [List.setIfInBounds_toArray, List.set_cons_zero, List.set_cons_succ]
      refine take_op 5 (v := ?gv5) rfl (by kernel_rfl) (fun _ _ _ h => h) (by rfl) hS0 (fun w' hS' => ?gy5) ?gz5
      case gy5 =>
        go_simp
        rfl
      simp only [List.setIfInBounds_toArray, List.set_cons_zero, List.set_cons_succ]
      refine take_op 6 (v := ?gv6) rfl (by kernel_rfl) (fun _ _ _ h => h) (by rfl) hS0 (fun w' hS' => ?gy6) ?gz6
      case gy6 =>
        go_simp
        try go_ints
        rfl
      simp only [List.setIfInBounds_toArray, List.set_cons_zero, List.set_cons_succ]
      refine take_op 7 (v := ?gv7) rfl (by kernel_rfl) (fun _ _ _ h => h) (by rfl) hS0 (fun w' hS' => ?gy7) ?gz7
      case gy7 =>
        go_simp
        rfl
      simp only [List.setIfInBounds_toArray, List.set_cons_zero, List.set_cons_succ]
      refine take_op 8 (v := ?gv8) rfl (by kernel_rfl) (fun _ _ _ h => h) (by rfl) hS0 (fun w' hS' => ?gy8) ?gz8
      case gy8 =>
        have e0 := (World.cell?_of_block (w := wr) (w' := w') (a := ⟨W1.heap.size, 0, none⟩) (by rw [hS'])).trans d0
        have e1 := (World.cell?_of_block (w := wr) (w' := w') (a := ⟨w.heap.size, 2, none⟩) (by rw [hS'])).trans c2
        have e2 := (World.cell?_of_block (w := wr) (w' := w') (a := ⟨W2.heap.size, p + X, none⟩) (by rw [hS'])).trans hcz
        clear hS'
        go_simp
        rfl
      simp only [List.setIfInBounds_toArray, List.set_cons_zero, List.set_cons_succ]
      refine take_op 9 (v := ?gv9) rfl (by kernel_rfl) (fun _ _ _ h => h) (by rfl) hS0 (fun w' hS' => ?gy9) ?gz9
      case gy9 =>
        go_simp
        try go_ints
        rfl
      simp only [List.setIfInBounds_toArray, List.set_cons_zero, List.set_cons_succ]
      refine take_op 10 (v := ?gv10) rfl (by kernel_rfl) (fun _ _ _ h => h) (by rfl) hS0 (fun w' hS' => ?gy10) ?gz10
      case gy10 =>
        go_simp
        rfl
      simp only [List.setIfInBounds_toArray, List.set_cons_zero, List.set_cons_succ]
      refine take_op 11 (v := ?gv11) rfl (by kernel_rfl) (fun _ _ _ h => h) (by rfl) hS0 (fun w' hS' => ?gy11) ?gz11
      case gy11 =>
        go_simp
        rfl
      simp only [List.setIfInBounds_toArray, List.set_cons_zero, List.set_cons_succ]
      refine take_op 12 (v := ?gv12) rfl (by kernel_rfl) (fun _ _ _ h => h) (by rfl) hS0 (fun w' hS' => ?gy12) ?gz12
      case gy12 =>
        have e0 := (World.cell?_of_block (w := wr) (w' := w') (a := ⟨W1.heap.size, 0, none⟩) (by rw [hS'])).trans d0
        have e1 := (World.cell?_of_block (w := wr) (w' := w') (a := ⟨w.heap.size, 2, none⟩) (by rw [hS'])).trans c2
        have e2 := (World.cell?_of_block (w := wr) (w' := w') (a := ⟨W2.heap.size, p + X, none⟩) (by rw [hS'])).trans hcz
        clear hS'
        go_simp
        rfl
      simp only [List.setIfInBounds_toArray, List.set_cons_zero, List.set_cons_succ]
      refine take_op 13 (v := ?gv13) rfl (by kernel_rfl) (fun _ _ _ h => h) (by rfl) hS0 (fun w' hS' => ?gy13) ?gz13
      case gy13 =>
        go_simp
        try go_ints
        rfl
      simp only [List.setIfInBounds_toArray, List.set_cons_zero, List.set_cons_succ]
      refine take_op 14 (v := ?gv14) rfl (by kernel_rfl) (fun _ _ _ h => h) (by rfl) hS0 (fun w' hS' => ?gy14) ?gz14
      case gy14 =>
        go_simp
        rfl
      simp only [List.setIfInBounds_toArray, List.set_cons_zero, List.set_cons_succ]
      refine take_op 15 (v := ?gv15) rfl (by kernel_rfl) (fun _ _ _ h => h) (by rfl) hS0 (fun w' hS' => ?gy15) ?gz15
      case gy15 =>
        go_simp
        try go_ints
        rfl
      simp only [List.setIfInBounds_toArray, List.set_cons_zero, List.set_cons_succ]
      refine take_op 16 (v := ?gv16) rfl (by kernel_rfl) (fun _ _ _ h => h) (by rfl) hS0 (fun w' hS' => ?gy16) ?gz16
      case gy16 =>
        go_simp
        try go_ints
        rfl
      simp only [List.setIfInBounds_toArray, List.set_cons_zero, List.set_cons_succ]
      refine take_op 17 (v := ?gv17) rfl (by kernel_rfl) (fun _ _ _ h => h) (by rfl) hS0 (fun w' hS' => ?gy17) ?gz17
      case gy17 =>
        go_simp
        try go_ints
        first
        | rfl
        | (rw [if_pos (by omega)]; done)
        | rw [if_pos ⟨by omega, by omega⟩]
      simp only [List.setIfInBounds_toArray, List.set_cons_zero, List.set_cons_succ]
      refine take_op 18 (v := ?gv18) rfl (by kernel_rfl) (fun _ _ _ h => h) (by rfl) hS0 (fun w' hS' => ?gy18) ?gz18
      case gy18 =>
        have e0 := (World.cell?_of_block (w := wr) (w' := w') (a := ⟨W1.heap.size, 0, none⟩) (by rw [hS'])).trans d0
        have e1 := (World.cell?_of_block (w := wr) (w' := w') (a := ⟨w.heap.size, 2, none⟩) (by rw [hS'])).trans c2
        have e2 := (World.cell?_of_block (w := wr) (w' := w') (a := ⟨W2.heap.size, p + X, none⟩) (by rw [hS'])).trans hcz
        clear hS'
        go_simp
        rfl
      simp only [List.setIfInBounds_toArray, List.set_cons_zero, List.set_cons_succ]
      refine take_op 19 (v := ?gv19) rfl (by kernel_rfl) (fun _ _ _ h => h) (by rfl) hS0 (fun w' hS' => ?gy19) ?gz19
      case gy19 =>
        go_simp
        rfl
      simp only [List.setIfInBounds_toArray, List.set_cons_zero, List.set_cons_succ]
      refine take_op 20 (v := ?gv20) rfl (by kernel_rfl) (fun _ _ _ h => h) (by rfl) hS0 (fun w' hS' => ?gy20) ?gz20
      case gy20 =>
        go_simp
        try go_ints
        rfl
      simp only [List.setIfInBounds_toArray, List.set_cons_zero, List.set_cons_succ]
      refine take_op 21 (v := ?gv21) rfl (by kernel_rfl) (fun _ _ _ h => h) (by rfl) hS0 (fun w' hS' => ?gy21) ?gz21
      case gy21 =>
        go_simp
        try go_ints
        first
        | rfl
        | (rw [if_pos (by omega)]; done)
        | rw [if_pos ⟨by omega, by omega⟩]
      simp only [List.setIfInBounds_toArray, List.set_cons_zero, List.set_cons_succ]
      refine step_op 22 (by kernel_rfl) rfl (fun K hK => ?_)
      have hfr2 : wr.drew.frozen? ⟨W2.heap.size, p + X, none⟩ = false := hfr
      have hcs2 : wr.drew.cell? ⟨W2.heap.size, p + X, none⟩ = some (.int .i64 z) := hcz
      rw [if_pos (by rfl)]
      go_simp
      refine hK.out _ _ (fun h => absurd h (by omega)) ?_
      clear hK K
      try simp only [Act.put, List.setIfInBounds_toArray, List.set_cons_zero, List.set_cons_succ]
      refine done_ops (by kernel_rfl) ?_
      go_wp2_with fail
      go_roundw
      case rel => exact ⟨k + 1, by omega, by go_num, hstH.out, (hb.drew).setCell (p := ⟨W2.heap.size, p + X, none⟩) (Nat.le_refl _) _⟩
      case measure => simp [intOf]; omega

end Go.Proofs.Ytbfigbpjoaccdaa

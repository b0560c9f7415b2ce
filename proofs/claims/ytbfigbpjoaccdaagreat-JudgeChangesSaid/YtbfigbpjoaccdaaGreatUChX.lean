/- A changed value, as the judge's law package has it. -/
import Derived.Lib.MinMax
import Derived.Test.YtbfigbpjoaccdaaGreatQD21
import Derived.Test.YtbfigbpjoaccdaaGreatUSpV
namespace Go.Proofs.YtbfigbpjoaccdaaGreat
open Go Go.RowKit Go.Shelf
set_option linter.unusedVariables false
set_option linter.unusedSimpArgs false

theorem cl_idx {iw ih x y : Int} (i1 : 1 ≤ iw) (i2 : iw ≤ 16) (i3 : 1 ≤ ih) (i4 : ih ≤ 16) : 0 ≤ clamp y 0 (ih - 1) * iw + clamp x 0 (iw - 1) ∧ clamp y 0 (ih - 1) * iw + clamp x 0 (iw - 1) < iw * ih := by
  have hx : 0 ≤ clamp x 0 (iw - 1) ∧ clamp x 0 (iw - 1) ≤ iw - 1 := by unfold clamp; omega
  have hy : 0 ≤ clamp y 0 (ih - 1) ∧ clamp y 0 (ih - 1) ≤ ih - 1 := by unfold clamp; omega
  have h1 := Int.mul_nonneg hy.1 (show 0 ≤ iw by omega)
  have h2 := Int.mul_le_mul_of_nonneg_right hy.2 (show 0 ≤ iw by omega)
  rw [Int.sub_mul, Int.one_mul, Int.mul_comm ih iw] at h2
  omega
set_option maxRecDepth 100000 in
set_option maxHeartbeats 4000000 in
theorem changed_any (iw ih : Int) (a : Option Addr) (c n : Nat) (xs : List Int) (hn : Hid (xs.length = n)) (i1 : 1 ≤ iw) (i2 : iw ≤ 16) (i3 : 1 ≤ ih) (i4 : ih ≤ 16) (hnn : Hid ((n : Int) = iw * ih)) (hby : Hid (allIn 0 255 xs = true))
    (x y g ad : Int) (x1 : -2 ≤ x) (x1' : x ≤ 17) (y1 : -2 ≤ y) (y1' : y ≤ 17) (g1 : 0 ≤ g) (g2 : g ≤ 400) (d1 : -1000 ≤ ad) (d2 : ad ≤ 1000) (r : Int) (hres : Hid (spV g ad (beyF 2 iw ih xs x y) = r)) (w : World) (hr : Rd w.heap.size w a xs) :
    Calls Tryz.prog 24 #[imv iw ih a n c, .int .i64 x, .int .i64 y, .int .i64 g, .int .i64 ad] w fun e w' => e = .returned (.int .i64 r) ∧ Below w.heap.size w w' := by
  have hbW1 : Below w.heap.size w (w.alloc (.cells #[.int .i64 iw, .int .i64 ih, .slice a n c] 27)) := jb_al (Below.refl _ w) _
  have k1 := Blk.new w 27 #[.int .i64 iw, .int .i64 ih, .slice a n c]
  obtain ⟨W1, hEW1⟩ : ∃ X, w.alloc (.cells #[.int .i64 iw, .int .i64 ih, .slice a n c] 27) = X := ⟨_, rfl⟩
  rw [hEW1] at hbW1 k1
  have hB := hbW1
  have hri := later_i hr hbW1
  have hix := cl_idx (x := x) (y := y) i1 i2 i3 i4
  obtain ⟨b1, hm1⟩ : ∃ z, min x (iw - 1) = z := ⟨_, rfl⟩
  obtain ⟨x2, hm2⟩ : ∃ z, max 0 b1 = z := ⟨_, rfl⟩
  obtain ⟨b2, hm3⟩ : ∃ z, min y (ih - 1) = z := ⟨_, rfl⟩
  obtain ⟨y2, hm4⟩ : ∃ z, max 0 b2 = z := ⟨_, rfl⟩
  have ex : clamp x 0 (iw - 1) = x2 := by unfold clamp; rw [hm1, hm2]
  have ey : clamp y 0 (ih - 1) = y2 := by unfold clamp; rw [hm3, hm4]
  rw [ex, ey] at hix
  have hxb : 0 ≤ x2 ∧ x2 ≤ 15 := by omega
  have hyb : 0 ≤ y2 ∧ y2 ≤ 15 := by omega
  obtain ⟨P, hP⟩ : ∃ z, y2 * iw = z := ⟨_, rfl⟩
  rw [hP] at hix
  obtain ⟨q, hq⟩ : ∃ q : Nat, P + x2 = (q : Int) := ⟨(P + x2).toNat, by omega⟩
  have hqn : q < n := by have := hnn.out; omega
  have hPb : 0 ≤ P ∧ P ≤ 240 := by
    have h2 := Int.mul_le_mul hyb.2 i2 (show 0 ≤ iw by omega) (by omega)
    have h3 := Int.mul_nonneg hyb.1 (show 0 ≤ iw by omega)
    omega
  have hbe : beyF 2 iw ih xs x y = xs[q]?.getD 0 := by
    rw [beyF_2, ex, ey, hP, hq]; rfl
  have hvb := bey_byte hby.out iw ih x y
  have hres' := hres.out
  rw [hbe] at hvb hres'
  rcases hri with h0 | ⟨b, o, rfl, hb, hc⟩
  · subst h0; have := hn.out; simp at this; omega
  have hcell := hc q (by have := hn.out; omega)
  obtain ⟨v, hv⟩ : ∃ v, xs[q]?.getD 0 = v := ⟨_, rfl⟩
  rw [hv] at hvb hres' hcell
  unfold spV at hres'
  obtain ⟨G, hG⟩ : ∃ G, g * v = G := ⟨_, rfl⟩
  have p1 : 0 ≤ G := by rw [← hG]; exact Int.mul_nonneg g1 hvb.1
  have p2 : G ≤ 102000 := by
    have := Int.mul_le_mul g2 hvb.2 hvb.1 (by omega)
    omega
  obtain ⟨Q, hQ⟩ : ∃ Q, G / 100 = Q := ⟨_, rfl⟩
  have hQt : G.tdiv 100 = Q := by rw [Int.tdiv_eq_ediv_of_nonneg p1, hQ]
  have q1 : 0 ≤ Q := by omega
  have q2 : Q ≤ 1020 := by omega
  rw [hG, hQ] at hres'
  unfold clamp at hres'
  obtain ⟨u1, hu1⟩ : ∃ z, min (Q + ad) 255 = z := ⟨_, rfl⟩
  rw [hu1] at hres'
  obtain ⟨vb1, vb2⟩ := hvb
  have hcH := Lib.hid hcell
  have hub : -1000 ≤ u1 ∧ u1 ≤ 255 := by omega
  clear hbe hc hQ hv ex ey hr hnn hby hres hn hcell
  go_enter Tryz.func24, Tryz.ntmps24
  go_wp2_with fail
  clear hEW1
  have hS : Below W1.heap.size W1 W1.drew := (Below.refl _ _).drew
  refine plain_region (fun W' => Below W1.heap.size W1 W') 14 14 (by kernel_rfl) rfl ?_
  simp only [Array.replicate_succ, Array.replicate_zero, List.push_toArray, List.nil_append, List.cons_append]
  refine take_op 0 (v := ?rv0) rfl (by kernel_rfl) (fun _ _ _ h => h) (by rfl) hS (fun w' hS' => ?ry0) ?rz0
  case ry0 =>
    go_simp
    rfl
  simp only [List.setIfInBounds_toArray, List.set_cons_zero, List.set_cons_succ]
  refine take_op 1 (v := ?rv1) rfl (by kernel_rfl) (fun _ _ _ h => h) (by rfl) hS (fun w' hS' => ?ry1) ?rz1
  case ry1 =>
    go_simp
    rfl
  simp only [List.setIfInBounds_toArray, List.set_cons_zero, List.set_cons_succ]
  refine take_op 2 (v := ?rv2) rfl (by kernel_rfl) (fun _ _ _ h => h) (by rfl) hS (fun w' hS' => ?ry2) ?rz2
  case ry2 =>
    have c0 := (k1.below hS' k1.lt).cell (i := 0) rfl
    have c1 := (k1.below hS' k1.lt).cell (i := 1) rfl
    clear hS'
    go_simp
    rfl
  simp only [List.setIfInBounds_toArray, List.set_cons_zero, List.set_cons_succ]
  refine take_op 3 (v := ?rv3) rfl (by kernel_rfl) (fun _ _ _ h => h) (by rfl) hS (fun w' hS' => ?ry3) ?rz3
  case ry3 =>
    go_simp
    try go_ints
    rfl
  simp only [List.setIfInBounds_toArray, List.set_cons_zero, List.set_cons_succ]
  refine take_op 4 (v := .int .i64 b1) rfl (by kernel_rfl) (fun _ _ _ h => h) (by rfl) hS (fun w' hS' => ?ry4) ?rz4
  case ry4 =>
    clear hS'
    go_simp
    try simp only [hm1, hm2, hm3, hm4]
    try rfl
  simp only [List.setIfInBounds_toArray, List.set_cons_zero, List.set_cons_succ]
  refine take_op 5 (v := .int .i64 x2) rfl (by kernel_rfl) (fun _ _ _ h => h) (by rfl) hS (fun w' hS' => ?ry5) ?rz5
  case ry5 =>
    clear hS'
    go_simp
    try simp only [hm1, hm2, hm3, hm4]
    try rfl
  simp only [List.setIfInBounds_toArray, List.set_cons_zero, List.set_cons_succ]
  refine take_op 6 (v := ?rv6) rfl (by kernel_rfl) (fun _ _ _ h => h) (by rfl) hS (fun w' hS' => ?ry6) ?rz6
  case ry6 =>
    go_simp
    rfl
  simp only [List.setIfInBounds_toArray, List.set_cons_zero, List.set_cons_succ]
  refine take_op 7 (v := ?rv7) rfl (by kernel_rfl) (fun _ _ _ h => h) (by rfl) hS (fun w' hS' => ?ry7) ?rz7
  case ry7 =>
    go_simp
    rfl
  simp only [List.setIfInBounds_toArray, List.set_cons_zero, List.set_cons_succ]
  refine take_op 8 (v := ?rv8) rfl (by kernel_rfl) (fun _ _ _ h => h) (by rfl) hS (fun w' hS' => ?ry8) ?rz8
  case ry8 =>
    have c0 := (k1.below hS' k1.lt).cell (i := 0) rfl
    have c1 := (k1.below hS' k1.lt).cell (i := 1) rfl
    clear hS'
    go_simp
    rfl
  simp only [List.setIfInBounds_toArray, List.set_cons_zero, List.set_cons_succ]
  refine take_op 9 (v := ?rv9) rfl (by kernel_rfl) (fun _ _ _ h => h) (by rfl) hS (fun w' hS' => ?ry9) ?rz9
  case ry9 =>
    go_simp
    try go_ints
    rfl
  simp only [List.setIfInBounds_toArray, List.set_cons_zero, List.set_cons_succ]
  refine take_op 10 (v := .int .i64 b2) rfl (by kernel_rfl) (fun _ _ _ h => h) (by rfl) hS (fun w' hS' => ?ry10) ?rz10
  case ry10 =>
    clear hS'
    go_simp
    try simp only [hm1, hm2, hm3, hm4]
    try rfl
  simp only [List.setIfInBounds_toArray, List.set_cons_zero, List.set_cons_succ]
  refine take_op 11 (v := .int .i64 y2) rfl (by kernel_rfl) (fun _ _ _ h => h) (by rfl) hS (fun w' hS' => ?ry11) ?rz11
  case ry11 =>
    clear hS'
    go_simp
    try simp only [hm1, hm2, hm3, hm4]
    try rfl
  simp only [List.setIfInBounds_toArray, List.set_cons_zero, List.set_cons_succ]
  refine take_op 12 (v := ?rv12) rfl (by kernel_rfl) (fun _ _ _ h => h) (by rfl) hS (fun w' hS' => ?ry12) ?rz12
  case ry12 =>
    go_simp
    rfl
  simp only [List.setIfInBounds_toArray, List.set_cons_zero, List.set_cons_succ]
  refine take_op 13 (v := ?rv13) rfl (by kernel_rfl) (fun _ _ _ h => h) (by rfl) hS (fun w' hS' => ?ry13) ?rz13
  case ry13 =>
    go_simp
    rfl
  simp only [List.setIfInBounds_toArray, List.set_cons_zero, List.set_cons_succ]
  refine done_ops (by kernel_rfl) ?_
  have k2 := k1.below hS k1.lt
  have c0 := k2.cell (i := 0) rfl
  have c1 := k2.cell (i := 1) rfl
  have c2 := k2.cell (i := 2) rfl
  have e0 := (hS.cell (p := ⟨b, o + q, none⟩) hb).trans hcH.out
  go_wp2_with fail
  go_ret
  exact ⟨ret_int (by first | rfl | (simp only [hres']; done) | exact hres'), hB.trans (hS.mono hB.size)⟩

end Go.Proofs.YtbfigbpjoaccdaaGreat

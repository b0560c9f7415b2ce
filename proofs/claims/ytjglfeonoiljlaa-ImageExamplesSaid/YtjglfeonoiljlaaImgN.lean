/- The contract of box: the sum of a rectangle off the list of all sums. -/
import Derived.Test.YtjglfeonoiljlaaImgM
namespace Go.Proofs.Ytjglfeonoiljlaa
open Go Go.RowKit Go.Shelf
set_option linter.unusedVariables false
set_option linter.unusedSimpArgs false

/-- What box computes off a list. -/
def boxF (iw : Int) (l : List Int) (x0 y0 x1 y1 : Int) : Int := px l (y1 * (iw + 1) + x1) - px l (y0 * (iw + 1) + x1) - px l (y1 * (iw + 1) + x0) + px l (y0 * (iw + 1) + x0)

theorem px_bdB {l : List Int} {B : Int} (hB : 0 ≤ B) (h : allIn (-B) B l = true) (i : Int) : -B ≤ px l i ∧ px l i ≤ B := by
  unfold px
  rcases Nat.lt_or_ge i.toNat l.length with h1 | h1
  · rw [List.getElem?_eq_getElem h1]
    exact allIn_mem h (List.getElem_mem h1)
  · rw [List.getElem?_eq_none h1]
    simp; omega

set_option maxRecDepth 100000 in
set_option maxHeartbeats 4000000 in
theorem box_any (iw ih : Int) (a : Option Addr) (c n : Nat) (al : Option Addr) (cl m : Nat) (l : List Int) (hl : Hid (l.length = m)) (hm : Hid ((m : Int) = (iw + 1) * (ih + 1))) (hall : Hid (allIn (-549755813888) 549755813888 l = true)) (x0 y0 x1 y1 : Int) (hw1 : 1 ≤ iw) (hw2 : iw ≤ 16) (hh1 : 1 ≤ ih) (hh2 : ih ≤ 16) (hx0 : 0 ≤ x0) (hx1 : x0 ≤ x1) (hx2 : x1 ≤ iw) (hy0 : 0 ≤ y0) (hy1 : y0 ≤ y1) (hy2 : y1 ≤ ih) (w : World) (hr : Rd w.heap.size w al l) :
    Calls Try.prog 97 #[imv iw ih a n c, .slice al m cl, .int .i64 x0, .int .i64 y0, .int .i64 x1, .int .i64 y1] w fun e w' => e = .returned (.int .i64 (boxF iw l x0 y0 x1 y1)) ∧ Below w.heap.size w w' := by
  have hB0 : Below w.heap.size w (w.alloc (.cells #[.int .i64 iw, .int .i64 ih, .slice a n c] 24)) := below_al (Below.refl _ _) _
  have k5 := Blk.new w 24 #[.int .i64 iw, .int .i64 ih, .slice a n c]
  have a0 : 0 ≤ y0 * (iw + 1) ∧ y0 * (iw + 1) ≤ 16 * 17 := mul_small hy0 (by omega) (by omega) (by omega)
  have a1 : 0 ≤ y1 * (iw + 1) ∧ y1 * (iw + 1) ≤ 16 * 17 := mul_small (by omega) (by omega) (by omega) (by omega)
  have b0 : y0 * (iw + 1) + (iw + 1) ≤ (m : Int) := by
    rw [hm.out, Int.mul_comm (iw + 1) (ih + 1)]
    have := Int.mul_le_mul_of_nonneg_right (show y0 + 1 ≤ ih + 1 by omega) (show 0 ≤ iw + 1 by omega)
    rw [Int.add_mul, Int.one_mul] at this
    omega
  have b1 : y1 * (iw + 1) + (iw + 1) ≤ (m : Int) := by
    rw [hm.out, Int.mul_comm (iw + 1) (ih + 1)]
    have := Int.mul_le_mul_of_nonneg_right (show y1 + 1 ≤ ih + 1 by omega) (show 0 ≤ iw + 1 by omega)
    rw [Int.add_mul, Int.one_mul] at this
    omega
  have hm9 : m ≤ 289 := by
    have := mul_small (a := iw + 1) (b := ih + 1) (m := 17) (n := 17) (by omega) (by omega) (by omega) (by omega)
    have := hm.out
    omega
  obtain ⟨bl, ol, rfl, hbl, hcl⟩ := rd_at hr hl.out (by omega)
  obtain ⟨u11, hu11⟩ : ∃ v, px l (y1 * (iw + 1) + x1) = v := ⟨_, rfl⟩
  obtain ⟨u01, hu01⟩ : ∃ v, px l (y0 * (iw + 1) + x1) = v := ⟨_, rfl⟩
  obtain ⟨u10, hu10⟩ : ∃ v, px l (y1 * (iw + 1) + x0) = v := ⟨_, rfl⟩
  obtain ⟨u00, hu00⟩ : ∃ v, px l (y0 * (iw + 1) + x0) = v := ⟨_, rfl⟩
  have e11 := px_bdB (by decide) hall.out (y1 * (iw + 1) + x1)
  have e01 := px_bdB (by decide) hall.out (y0 * (iw + 1) + x1)
  have e10 := px_bdB (by decide) hall.out (y1 * (iw + 1) + x0)
  have e00 := px_bdB (by decide) hall.out (y0 * (iw + 1) + x0)
  have cell : ∀ i : Int, 0 ≤ i → i < m → w.cell? ⟨bl, ol + i.toNat, none⟩ = some (.int .i64 (px l i)) := fun i h1 h2 => by
    rw [hcl i.toNat (by omega)]
    unfold px
    rw [Int.toNat_of_nonneg h1]
  have d11 := cell (y1 * (iw + 1) + x1) (by omega) (by omega)
  have d01 := cell (y0 * (iw + 1) + x1) (by omega) (by omega)
  have d10 := cell (y1 * (iw + 1) + x0) (by omega) (by omega)
  have d00 := cell (y0 * (iw + 1) + x0) (by omega) (by omega)
  rw [hu11] at d11 e11
  rw [hu01] at d01 e01
  rw [hu10] at d10 e10
  rw [hu00] at d00 e00
  have huH := Lib.hid (show boxF iw l x0 y0 x1 y1 = u11 - u01 - u10 + u00 by unfold boxF; rw [hu11, hu01, hu10, hu00])
  have dH := Lib.hid (⟨d11, d01, d10, d00⟩ : w.cell? ⟨bl, ol + (y1 * (iw + 1) + x1).toNat, none⟩ = some (.int .i64 u11) ∧ w.cell? ⟨bl, ol + (y0 * (iw + 1) + x1).toNat, none⟩ = some (.int .i64 u01) ∧ w.cell? ⟨bl, ol + (y1 * (iw + 1) + x0).toNat, none⟩ = some (.int .i64 u10) ∧ w.cell? ⟨bl, ol + (y0 * (iw + 1) + x0).toNat, none⟩ = some (.int .i64 u00))
  clear hu11 hu01 hu10 hu00 cell hcl d11 d01 d10 d00
  have r11a : 0 ≤ y1 * (iw + 1) + x1 := by omega
  have r11b : y1 * (iw + 1) + x1 < (m : Int) := by omega
  have r01a : 0 ≤ y0 * (iw + 1) + x1 := by omega
  have r01b : y0 * (iw + 1) + x1 < (m : Int) := by omega
  have r10a : 0 ≤ y1 * (iw + 1) + x0 := by omega
  have r10b : y1 * (iw + 1) + x0 < (m : Int) := by omega
  have r00a : 0 ≤ y0 * (iw + 1) + x0 := by omega
  have r00b : y0 * (iw + 1) + x0 < (m : Int) := by omega
  rw [huH.out]
  obtain ⟨W, hW⟩ : ∃ W, w.alloc (.cells #[.int .i64 iw, .int .i64 ih, .slice a n c] 24) = W := ⟨_, rfl⟩
  rw [hW] at hB0 k5
  have m0 := k5.cell (i := 0) rfl
  have hS0 : W.drew.heap = W.heap := rfl
  go_enter Try.func97, Try.ntmps97
  go_wp2_with fail
  clear hW
  refine plain_region (fun W' => W'.heap = W.heap) 36 36 (by kernel_rfl) rfl ?_
  simp only [Array.replicate_succ, Array.replicate_zero, List.push_toArray, List.nil_append, List.cons_append]
  refine take_op 0 (v := ?rv0) rfl (by kernel_rfl) (fun _ _ _ h => h) (by rfl) hS0 (fun w' hS' => ?ry0) ?rz0
  case ry0 =>
    go_simp
    rfl
  simp only [List.setIfInBounds_toArray, List.set_cons_zero, List.set_cons_succ]
  refine take_op 1 (v := ?rv1) rfl (by kernel_rfl) (fun _ _ _ h => h) (by rfl) hS0 (fun w' hS' => ?ry1) ?rz1
  case ry1 =>
    go_simp
    rfl
  simp only [List.setIfInBounds_toArray, List.set_cons_zero, List.set_cons_succ]
  refine take_op 2 (v := ?rv2) rfl (by kernel_rfl) (fun _ _ _ h => h) (by rfl) hS0 (fun w' hS' => ?ry2) ?rz2
  case ry2 =>
    go_simp
    rfl
  simp only [List.setIfInBounds_toArray, List.set_cons_zero, List.set_cons_succ]
  refine take_op 3 (v := ?rv3) rfl (by kernel_rfl) (fun _ _ _ h => h) (by rfl) hS0 (fun w' hS' => ?ry3) ?rz3
  case ry3 =>
    go_simp
    try go_ints
    rfl
  simp only [List.setIfInBounds_toArray, List.set_cons_zero, List.set_cons_succ]
  refine take_op 4 (v := ?rv4) rfl (by kernel_rfl) (fun _ _ _ h => h) (by rfl) hS0 (fun w' hS' => ?ry4) ?rz4
  case ry4 =>
    go_simp
    rfl
  simp only [List.setIfInBounds_toArray, List.set_cons_zero, List.set_cons_succ]
  refine take_op 5 (v := ?rv5) rfl (by kernel_rfl) (fun _ _ _ h => h) (by rfl) hS0 (fun w' hS' => ?ry5) ?rz5
  case ry5 =>
    go_simp
    try go_ints
    rfl
  simp only [List.setIfInBounds_toArray, List.set_cons_zero, List.set_cons_succ]
  refine take_op 6 (v := ?rv6) rfl (by kernel_rfl) (fun _ _ _ h => h) (by rfl) hS0 (fun w' hS' => ?ry6) ?rz6
  case ry6 =>
    go_simp
    try go_ints
    rfl
  simp only [List.setIfInBounds_toArray, List.set_cons_zero, List.set_cons_succ]
  refine take_op 7 (v := ?rv7) rfl (by kernel_rfl) (fun _ _ _ h => h) (by rfl) hS0 (fun w' hS' => ?ry7) ?rz7
  case ry7 =>
    have dd := (World.cell?_of_block (w := W) (w' := w') (a := ⟨bl, ol + (y1 * (iw + 1) + x1).toNat, none⟩) (by rw [hS'])).trans ((hB0.cell (p := ⟨bl, ol + (y1 * (iw + 1) + x1).toNat, none⟩) hbl).trans dH.out.1)
    clear hS'
    go_simp
    rfl
  simp only [List.setIfInBounds_toArray, List.set_cons_zero, List.set_cons_succ]
  refine take_op 8 (v := ?rv8) rfl (by kernel_rfl) (fun _ _ _ h => h) (by rfl) hS0 (fun w' hS' => ?ry8) ?rz8
  case ry8 =>
    go_simp
    rfl
  simp only [List.setIfInBounds_toArray, List.set_cons_zero, List.set_cons_succ]
  refine take_op 9 (v := ?rv9) rfl (by kernel_rfl) (fun _ _ _ h => h) (by rfl) hS0 (fun w' hS' => ?ry9) ?rz9
  case ry9 =>
    go_simp
    rfl
  simp only [List.setIfInBounds_toArray, List.set_cons_zero, List.set_cons_succ]
  refine take_op 10 (v := ?rv10) rfl (by kernel_rfl) (fun _ _ _ h => h) (by rfl) hS0 (fun w' hS' => ?ry10) ?rz10
  case ry10 =>
    go_simp
    rfl
  simp only [List.setIfInBounds_toArray, List.set_cons_zero, List.set_cons_succ]
  refine take_op 11 (v := ?rv11) rfl (by kernel_rfl) (fun _ _ _ h => h) (by rfl) hS0 (fun w' hS' => ?ry11) ?rz11
  case ry11 =>
    go_simp
    try go_ints
    rfl
  simp only [List.setIfInBounds_toArray, List.set_cons_zero, List.set_cons_succ]
  refine take_op 12 (v := ?rv12) rfl (by kernel_rfl) (fun _ _ _ h => h) (by rfl) hS0 (fun w' hS' => ?ry12) ?rz12
  case ry12 =>
    go_simp
    rfl
  simp only [List.setIfInBounds_toArray, List.set_cons_zero, List.set_cons_succ]
  refine take_op 13 (v := ?rv13) rfl (by kernel_rfl) (fun _ _ _ h => h) (by rfl) hS0 (fun w' hS' => ?ry13) ?rz13
  case ry13 =>
    go_simp
    try go_ints
    rfl
  simp only [List.setIfInBounds_toArray, List.set_cons_zero, List.set_cons_succ]
  refine take_op 14 (v := ?rv14) rfl (by kernel_rfl) (fun _ _ _ h => h) (by rfl) hS0 (fun w' hS' => ?ry14) ?rz14
  case ry14 =>
    go_simp
    try go_ints
    rfl
  simp only [List.setIfInBounds_toArray, List.set_cons_zero, List.set_cons_succ]
  refine take_op 15 (v := ?rv15) rfl (by kernel_rfl) (fun _ _ _ h => h) (by rfl) hS0 (fun w' hS' => ?ry15) ?rz15
  case ry15 =>
    have dd := (World.cell?_of_block (w := W) (w' := w') (a := ⟨bl, ol + (y0 * (iw + 1) + x1).toNat, none⟩) (by rw [hS'])).trans ((hB0.cell (p := ⟨bl, ol + (y0 * (iw + 1) + x1).toNat, none⟩) hbl).trans dH.out.2.1)
    clear hS'
    go_simp
    rfl
  simp only [List.setIfInBounds_toArray, List.set_cons_zero, List.set_cons_succ]
  refine take_op 16 (v := ?rv16) rfl (by kernel_rfl) (fun _ _ _ h => h) (by rfl) hS0 (fun w' hS' => ?ry16) ?rz16
  case ry16 =>
    go_simp
    try go_ints
    rfl
  simp only [List.setIfInBounds_toArray, List.set_cons_zero, List.set_cons_succ]
  refine take_op 17 (v := ?rv17) rfl (by kernel_rfl) (fun _ _ _ h => h) (by rfl) hS0 (fun w' hS' => ?ry17) ?rz17
  case ry17 =>
    go_simp
    rfl
  simp only [List.setIfInBounds_toArray, List.set_cons_zero, List.set_cons_succ]
  refine take_op 18 (v := ?rv18) rfl (by kernel_rfl) (fun _ _ _ h => h) (by rfl) hS0 (fun w' hS' => ?ry18) ?rz18
  case ry18 =>
    go_simp
    rfl
  simp only [List.setIfInBounds_toArray, List.set_cons_zero, List.set_cons_succ]
  refine take_op 19 (v := ?rv19) rfl (by kernel_rfl) (fun _ _ _ h => h) (by rfl) hS0 (fun w' hS' => ?ry19) ?rz19
  case ry19 =>
    go_simp
    rfl
  simp only [List.setIfInBounds_toArray, List.set_cons_zero, List.set_cons_succ]
  refine take_op 20 (v := ?rv20) rfl (by kernel_rfl) (fun _ _ _ h => h) (by rfl) hS0 (fun w' hS' => ?ry20) ?rz20
  case ry20 =>
    go_simp
    try go_ints
    rfl
  simp only [List.setIfInBounds_toArray, List.set_cons_zero, List.set_cons_succ]
  refine take_op 21 (v := ?rv21) rfl (by kernel_rfl) (fun _ _ _ h => h) (by rfl) hS0 (fun w' hS' => ?ry21) ?rz21
  case ry21 =>
    go_simp
    rfl
  simp only [List.setIfInBounds_toArray, List.set_cons_zero, List.set_cons_succ]
  refine take_op 22 (v := ?rv22) rfl (by kernel_rfl) (fun _ _ _ h => h) (by rfl) hS0 (fun w' hS' => ?ry22) ?rz22
  case ry22 =>
    go_simp
    try go_ints
    rfl
  simp only [List.setIfInBounds_toArray, List.set_cons_zero, List.set_cons_succ]
  refine take_op 23 (v := ?rv23) rfl (by kernel_rfl) (fun _ _ _ h => h) (by rfl) hS0 (fun w' hS' => ?ry23) ?rz23
  case ry23 =>
    go_simp
    try go_ints
    rfl
  simp only [List.setIfInBounds_toArray, List.set_cons_zero, List.set_cons_succ]
  refine take_op 24 (v := ?rv24) rfl (by kernel_rfl) (fun _ _ _ h => h) (by rfl) hS0 (fun w' hS' => ?ry24) ?rz24
  case ry24 =>
    have dd := (World.cell?_of_block (w := W) (w' := w') (a := ⟨bl, ol + (y1 * (iw + 1) + x0).toNat, none⟩) (by rw [hS'])).trans ((hB0.cell (p := ⟨bl, ol + (y1 * (iw + 1) + x0).toNat, none⟩) hbl).trans dH.out.2.2.1)
    clear hS'
    go_simp
    rfl
  simp only [List.setIfInBounds_toArray, List.set_cons_zero, List.set_cons_succ]
  refine take_op 25 (v := ?rv25) rfl (by kernel_rfl) (fun _ _ _ h => h) (by rfl) hS0 (fun w' hS' => ?ry25) ?rz25
  case ry25 =>
    go_simp
    try go_ints
    rfl
  simp only [List.setIfInBounds_toArray, List.set_cons_zero, List.set_cons_succ]
  refine take_op 26 (v := ?rv26) rfl (by kernel_rfl) (fun _ _ _ h => h) (by rfl) hS0 (fun w' hS' => ?ry26) ?rz26
  case ry26 =>
    go_simp
    rfl
  simp only [List.setIfInBounds_toArray, List.set_cons_zero, List.set_cons_succ]
  refine take_op 27 (v := ?rv27) rfl (by kernel_rfl) (fun _ _ _ h => h) (by rfl) hS0 (fun w' hS' => ?ry27) ?rz27
  case ry27 =>
    go_simp
    rfl
  simp only [List.setIfInBounds_toArray, List.set_cons_zero, List.set_cons_succ]
  refine take_op 28 (v := ?rv28) rfl (by kernel_rfl) (fun _ _ _ h => h) (by rfl) hS0 (fun w' hS' => ?ry28) ?rz28
  case ry28 =>
    go_simp
    rfl
  simp only [List.setIfInBounds_toArray, List.set_cons_zero, List.set_cons_succ]
  refine take_op 29 (v := ?rv29) rfl (by kernel_rfl) (fun _ _ _ h => h) (by rfl) hS0 (fun w' hS' => ?ry29) ?rz29
  case ry29 =>
    go_simp
    try go_ints
    rfl
  simp only [List.setIfInBounds_toArray, List.set_cons_zero, List.set_cons_succ]
  refine take_op 30 (v := ?rv30) rfl (by kernel_rfl) (fun _ _ _ h => h) (by rfl) hS0 (fun w' hS' => ?ry30) ?rz30
  case ry30 =>
    go_simp
    rfl
  simp only [List.setIfInBounds_toArray, List.set_cons_zero, List.set_cons_succ]
  refine take_op 31 (v := ?rv31) rfl (by kernel_rfl) (fun _ _ _ h => h) (by rfl) hS0 (fun w' hS' => ?ry31) ?rz31
  case ry31 =>
    go_simp
    try go_ints
    rfl
  simp only [List.setIfInBounds_toArray, List.set_cons_zero, List.set_cons_succ]
  refine take_op 32 (v := ?rv32) rfl (by kernel_rfl) (fun _ _ _ h => h) (by rfl) hS0 (fun w' hS' => ?ry32) ?rz32
  case ry32 =>
    go_simp
    try go_ints
    rfl
  simp only [List.setIfInBounds_toArray, List.set_cons_zero, List.set_cons_succ]
  refine take_op 33 (v := ?rv33) rfl (by kernel_rfl) (fun _ _ _ h => h) (by rfl) hS0 (fun w' hS' => ?ry33) ?rz33
  case ry33 =>
    have dd := (World.cell?_of_block (w := W) (w' := w') (a := ⟨bl, ol + (y0 * (iw + 1) + x0).toNat, none⟩) (by rw [hS'])).trans ((hB0.cell (p := ⟨bl, ol + (y0 * (iw + 1) + x0).toNat, none⟩) hbl).trans dH.out.2.2.2)
    clear hS'
    go_simp
    rfl
  simp only [List.setIfInBounds_toArray, List.set_cons_zero, List.set_cons_succ]
  refine take_op 34 (v := ?rv34) rfl (by kernel_rfl) (fun _ _ _ h => h) (by rfl) hS0 (fun w' hS' => ?ry34) ?rz34
  case ry34 =>
    go_simp
    try go_ints
    rfl
  simp only [List.setIfInBounds_toArray, List.set_cons_zero, List.set_cons_succ]
  refine take_op 35 (v := ?rv35) rfl (by kernel_rfl) (fun _ _ _ h => h) (by rfl) hS0 (fun w' hS' => ?ry35) ?rz35
  case ry35 =>
    go_simp
    rfl
  simp only [List.setIfInBounds_toArray, List.set_cons_zero, List.set_cons_succ]
  refine done_ops (by kernel_rfl) ?_
  go_wp2_with fail
  go_ret
  exact ⟨rfl, hB0.trans ((Below.refl _ W).drew.mono hB0.size)⟩

end Go.Proofs.Ytjglfeonoiljlaa

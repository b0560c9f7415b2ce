/- Contracts and laws (ImgN, ImgO). -/
import Derived.Test.YtbfigbpjoaccdaaGreatQC3
namespace Go.Proofs.YtbfigbpjoaccdaaGreat
open Go Go.RowKit Go.Shelf
set_option linter.unusedVariables false
set_option linter.unusedSimpArgs false

/-- What box computes off a list. -/
def boxF (iw : Int) (l : List Int) (x0 y0 x1 y1 : Int) : Int := px l (y1 * (iw + 1) + x1) - px l (y0 * (iw + 1) + x1) - px l (y1 * (iw + 1) + x0) + px l (y0 * (iw + 1) + x0)

theorem px_bdB {l : List Int} {B : Int} (hB : 0 ≤ B) (h : allIn (-B) B l = true) (i : Int) : -B ≤ px l i ∧ px l i ≤ B := by
  unfold px
  rcases Nat.lt_or_ge i.toNat l.length with h1 | h1
  · rw [List.getElem?_eq_getElem h1]
    exact allIn_mem h (List.getElem_mem h1)
  · rw [List.getElem?_eq_none h1]
    simp; omega

set_option maxRecDepth 100000 in
set_option maxHeartbeats 4000000 in
theorem box_any (iw ih : Int) (a : Option Addr) (c n : Nat) (al : Option Addr) (cl m : Nat) (l : List Int) (hl : Hid (l.length = m)) (hm : Hid ((m : Int) = (iw + 1) * (ih + 1))) (hall : Hid (allIn (-549755813888) 549755813888 l = true)) (x0 y0 x1 y1 : Int) (hw1 : 1 ≤ iw) (hw2 : iw ≤ 16) (hh1 : 1 ≤ ih) (hh2 : ih ≤ 16) (hx0 : 0 ≤ x0) (hx1 : x0 ≤ x1) (hx2 : x1 ≤ iw) (hy0 : 0 ≤ y0) (hy1 : y0 ≤ y1) (hy2 : y1 ≤ ih) (w : World) (hr : Rd w.heap.size w al l) :
    Calls Tryz.prog 81 #[imv iw ih a n c, .slice al m cl, .int .i64 x0, .int .i64 y0, .int .i64 x1, .int .i64 y1] w fun e w' => e = .returned (.int .i64 (boxF iw l x0 y0 x1 y1)) ∧ Below w.heap.size w w' := by
  have hB0 : Below w.heap.size w (w.alloc (.cells #[.int .i64 iw, .int .i64 ih, .slice a n c] 27)) := below_al (Below.refl _ _) _
  have k5 := Blk.new w 27 #[.int .i64 iw, .int .i64 ih, .slice a n c]
  have a0 : 0 ≤ y0 * (iw + 1) ∧ y0 * (iw + 1) ≤ 16 * 17 := mul_small hy0 (by omega) (by omega) (by omega)
  have a1 : 0 ≤ y1 * (iw + 1) ∧ y1 * (iw + 1) ≤ 16 * 17 := mul_small (by omega) (by omega) (by omega) (by omega)
  have b0 : y0 * (iw + 1) + (iw + 1) ≤ (m : Int) := by
    rw [hm.out, Int.mul_comm (iw + 1) (ih + 1)]
    have := Int.mul_le_mul_of_nonneg_right (show y0 + 1 ≤ ih + 1 by omega) (show 0 ≤ iw + 1 by omega)
    rw [Int.add_mul, Int.one_mul] at this
    omega
  have b1 : y1 * (iw + 1) + (iw + 1) ≤ (m : Int) := by
    rw [hm.out, Int.mul_comm (iw + 1) (ih + 1)]
    have := Int.mul_le_mul_of_nonneg_right (show y1 + 1 ≤ ih + 1 by omega) (show 0 ≤ iw + 1 by omega)
    rw [Int.add_mul, Int.one_mul] at this
    omega
  have hm9 : m ≤ 289 := by
    have := mul_small (a := iw + 1) (b := ih + 1) (m := 17) (n := 17) (by omega) (by omega) (by omega) (by omega)
    have := hm.out
    omega
  obtain ⟨bl, ol, rfl, hbl, hcl⟩ := rd_at hr hl.out (by omega)
  obtain ⟨u11, hu11⟩ : ∃ v, px l (y1 * (iw + 1) + x1) = v := ⟨_, rfl⟩
  obtain ⟨u01, hu01⟩ : ∃ v, px l (y0 * (iw + 1) + x1) = v := ⟨_, rfl⟩
  obtain ⟨u10, hu10⟩ : ∃ v, px l (y1 * (iw + 1) + x0) = v := ⟨_, rfl⟩
  obtain ⟨u00, hu00⟩ : ∃ v, px l (y0 * (iw + 1) + x0) = v := ⟨_, rfl⟩
  have e11 := px_bdB (by decide) hall.out (y1 * (iw + 1) + x1)
  have e01 := px_bdB (by decide) hall.out (y0 * (iw + 1) + x1)
  have e10 := px_bdB (by decide) hall.out (y1 * (iw + 1) + x0)
  have e00 := px_bdB (by decide) hall.out (y0 * (iw + 1) + x0)
  have cell : ∀ i : Int, 0 ≤ i → i < m → w.cell? ⟨bl, ol + i.toNat, none⟩ = some (.int .i64 (px l i)) := fun i h1 h2 => by
    rw [hcl i.toNat (by omega)]
    unfold px
    rw [Int.toNat_of_nonneg h1]
  have d11 := cell (y1 * (iw + 1) + x1) (by omega) (by omega)
  have d01 := cell (y0 * (iw + 1) + x1) (by omega) (by omega)
  have d10 := cell (y1 * (iw + 1) + x0) (by omega) (by omega)
  have d00 := cell (y0 * (iw + 1) + x0) (by omega) (by omega)
  rw [hu11] at d11 e11
  rw [hu01] at d01 e01
  rw [hu10] at d10 e10
  rw [hu00] at d00 e00
  have huH := Lib.hid (show boxF iw l x0 y0 x1 y1 = u11 - u01 - u10 + u00 by unfold boxF; rw [hu11, hu01, hu10, hu00])
  have dH := Lib.hid (⟨d11, d01, d10, d00⟩ : w.cell? ⟨bl, ol + (y1 * (iw + 1) + x1).toNat, none⟩ = some (.int .i64 u11) ∧ w.cell? ⟨bl, ol + (y0 * (iw + 1) + x1).toNat, none⟩ = some (.int .i64 u01) ∧ w.cell? ⟨bl, ol + (y1 * (iw + 1) + x0).toNat, none⟩ = some (.int .i64 u10) ∧ w.cell? ⟨bl, ol + (y0 * (iw + 1) + x0).toNat, none⟩ = some (.int .i64 u00))
  clear hu11 hu01 hu10 hu00 cell hcl d11 d01 d10 d00
  have r11a : 0 ≤ y1 * (iw + 1) + x1 := by omega
  have r11b : y1 * (iw + 1) + x1 < (m : Int) := by omega
  have r01a : 0 ≤ y0 * (iw + 1) + x1 := by omega
  have r01b : y0 * (iw + 1) + x1 < (m : Int) := by omega
  have r10a : 0 ≤ y1 * (iw + 1) + x0 := by omega
  have r10b : y1 * (iw + 1) + x0 < (m : Int) := by omega
  have r00a : 0 ≤ y0 * (iw + 1) + x0 := by omega
  have r00b : y0 * (iw + 1) + x0 < (m : Int) := by omega
  rw [huH.out]
  obtain ⟨W, hW⟩ : ∃ W, w.alloc (.cells #[.int .i64 iw, .int .i64 ih, .slice a n c] 27) = W := ⟨_, rfl⟩
  rw [hW] at hB0 k5
  have m0 := k5.cell (i := 0) rfl
  have hS0 : W.drew.heap = W.heap := rfl
  go_enter Tryz.func81, Tryz.ntmps81
  go_wp2_with fail
  clear hW
  refine plain_region (fun W' => W'.heap = W.heap) 36 36 (by kernel_rfl) rfl ?_
  simp only [Array.replicate_succ, Array.replicate_zero, List.push_toArray, List.nil_append, List.cons_append]
  refine take_op 0 (v := ?rv0) rfl (by kernel_rfl) (fun _ _ _ h => h) (by rfl) hS0 (fun w' hS' => ?ry0) ?rz0
  case ry0 =>
    go_simp
    rfl
  simp only [List.setIfInBounds_toArray, List.set_cons_zero, List.set_cons_succ]
  refine take_op 1 (v := ?rv1) rfl (by kernel_rfl) (fun _ _ _ h => h) (by rfl) hS0 (fun w' hS' => ?ry1) ?rz1
  case ry1 =>
    go_simp
    rfl
  simp only [List.setIfInBounds_toArray, List.set_cons_zero, List.set_cons_succ]
  refine take_op 2 (v := ?rv2) rfl (by kernel_rfl) (fun _ _ _ h => h) (by rfl) hS0 (fun w' hS' => ?ry2) ?rz2
  case ry2 =>
    go_simp
    rfl
  simp only [List.setIfInBounds_toArray, List.set_cons_zero, List.set_cons_succ]
  refine take_op 3 (v := ?rv3) rfl (by kernel_rfl) (fun _ _ _ h => h) (by rfl) hS0 (fun w' hS' => ?ry3) ?rz3
  case ry3 =>
    go_simp
    try go_ints
    rfl
  simp only [List.setIfInBounds_toArray, List.set_cons_zero, List.set_cons_succ]
  refine take_op 4 (v := ?rv4) rfl (by kernel_rfl) (fun _ _ _ h => h) (by rfl) hS0 (fun w' hS' => ?ry4) ?rz4
  case ry4 =>
    go_simp
    rfl
  simp only [List.setIfInBounds_toArray, List.set_cons_zero, List.set_cons_succ]
  refine take_op 5 (v := ?rv5) rfl (by kernel_rfl) (fun _ _ _ h => h) (by rfl) hS0 (fun w' hS' => ?ry5) ?rz5
  case ry5 =>
    go_simp
    try go_ints
    rfl
  simp only [List.setIfInBounds_toArray, List.set_cons_zero, List.set_cons_succ]
  refine take_op 6 (v := ?rv6) rfl (by kernel_rfl) (fun _ _ _ h => h) (by rfl) hS0 (fun w' hS' => ?ry6) ?rz6
  case ry6 =>
    go_simp
    try go_ints
    rfl
  simp only [List.setIfInBounds_toArray, List.set_cons_zero, List.set_cons_succ]
  refine take_op 7 (v := ?rv7) rfl (by kernel_rfl) (fun _ _ _ h => h) (by rfl) hS0 (fun w' hS' => ?ry7) ?rz7
  case ry7 =>
    have dd := (World.cell?_of_block (w := W) (w' := w') (a := ⟨bl, ol + (y1 * (iw + 1) + x1).toNat, none⟩) (by rw [hS'])).trans ((hB0.cell (p := ⟨bl, ol + (y1 * (iw + 1) + x1).toNat, none⟩) hbl).trans dH.out.1)
    clear hS'
    go_simp
    rfl
  simp only [List.setIfInBounds_toArray, List.set_cons_zero, List.set_cons_succ]
  refine take_op 8 (v := ?rv8) rfl (by kernel_rfl) (fun _ _ _ h => h) (by rfl) hS0 (fun w' hS' => ?ry8) ?rz8
  case ry8 =>
    go_simp
    rfl
  simp only [List.setIfInBounds_toArray, List.set_cons_zero, List.set_cons_succ]
  refine take_op 9 (v := ?rv9) rfl (by kernel_rfl) (fun _ _ _ h => h) (by rfl) hS0 (fun w' hS' => ?ry9) ?rz9
  case ry9 =>
    go_simp
    rfl
  simp only [List.setIfInBounds_toArray, List.set_cons_zero, List.set_cons_succ]
  refine take_op 10 (v := ?rv10) rfl (by kernel_rfl) (fun _ _ _ h => h) (by rfl) hS0 (fun w' hS' => ?ry10) ?rz10
  case ry10 =>
    go_simp
    rfl
  simp only [List.setIfInBounds_toArray, List.set_cons_zero, List.set_cons_succ]
  refine take_op 11 (v := ?rv11) rfl (by kernel_rfl) (fun _ _ _ h => h) (by rfl) hS0 (fun w' hS' => ?ry11) ?rz11
  case ry11 =>
    go_simp
    try go_ints
    rfl
  simp only [List.setIfInBounds_toArray, List.set_cons_zero, List.set_cons_succ]
  refine take_op 12 (v := ?rv12) rfl (by kernel_rfl) (fun _ _ _ h => h) (by rfl) hS0 (fun w' hS' => ?ry12) ?rz12
  case ry12 =>
    go_simp
    rfl
  simp only [List.setIfInBounds_toArray, List.set_cons_zero, List.set_cons_succ]
  refine take_op 13 (v := ?rv13) rfl (by kernel_rfl) (fun _ _ _ h => h) (by rfl) hS0 (fun w' hS' => ?ry13) ?rz13
  case ry13 =>
    go_simp
    try go_ints
    rfl
  simp only [List.setIfInBounds_toArray, List.set_cons_zero, List.set_cons_succ]
  refine take_op 14 (v := ?rv14) rfl (by kernel_rfl) (fun _ _ _ h => h) (by rfl) hS0 (fun w' hS' => ?ry14) ?rz14
  case ry14 =>
    go_simp
    try go_ints
    rfl
  simp only [List.setIfInBounds_toArray, List.set_cons_zero, List.set_cons_succ]
  refine take_op 15 (v := ?rv15) rfl (by kernel_rfl) (fun _ _ _ h => h) (by rfl) hS0 (fun w' hS' => ?ry15) ?rz15
  case ry15 =>
    have dd := (World.cell?_of_block (w := W) (w' := w') (a := ⟨bl, ol + (y0 * (iw + 1) + x1).toNat, none⟩) (by rw [hS'])).trans ((hB0.cell (p := ⟨bl, ol + (y0 * (iw + 1) + x1).toNat, none⟩) hbl).trans dH.out.2.1)
    clear hS'
    go_simp
    rfl
  simp only [List.setIfInBounds_toArray, List.set_cons_zero, List.set_cons_succ]
  refine take_op 16 (v := ?rv16) rfl (by kernel_rfl) (fun _ _ _ h => h) (by rfl) hS0 (fun w' hS' => ?ry16) ?rz16
  case ry16 =>
    go_simp
    try go_ints
    rfl
  simp only [List.setIfInBounds_toArray, List.set_cons_zero, List.set_cons_succ]
  refine take_op 17 (v := ?rv17) rfl (by kernel_rfl) (fun _ _ _ h => h) (by rfl) hS0 (fun w' hS' => ?ry17) ?rz17
  case ry17 =>
    go_simp
    rfl
  simp only [List.setIfInBounds_toArray, List.set_cons_zero, List.set_cons_succ]
  refine take_op 18 (v := ?rv18) rfl (by kernel_rfl) (fun _ _ _ h => h) (by rfl) hS0 (fun w' hS' => ?ry18) ?rz18
  case ry18 =>
    go_simp
    rfl
  simp only [List.setIfInBounds_toArray, List.set_cons_zero, List.set_cons_succ]
  refine take_op 19 (v := ?rv19) rfl (by kernel_rfl) (fun _ _ _ h => h) (by rfl) hS0 (fun w' hS' => ?ry19) ?rz19
  case ry19 =>
    go_simp
    rfl
  simp only [List.setIfInBounds_toArray, List.set_cons_zero, List.set_cons_succ]
  refine take_op 20 (v := ?rv20) rfl (by kernel_rfl) (fun _ _ _ h => h) (by rfl) hS0 (fun w' hS' => ?ry20) ?rz20
  case ry20 =>
    go_simp
    try go_ints
    rfl
  simp only [List.setIfInBounds_toArray, List.set_cons_zero, List.set_cons_succ]
  refine take_op 21 (v := ?rv21) rfl (by kernel_rfl) (fun _ _ _ h => h) (by rfl) hS0 (fun w' hS' => ?ry21) ?rz21
  case ry21 =>
    go_simp
    rfl
  simp only [List.setIfInBounds_toArray, List.set_cons_zero, List.set_cons_succ]
  refine take_op 22 (v := ?rv22) rfl (by kernel_rfl) (fun _ _ _ h => h) (by rfl) hS0 (fun w' hS' => ?ry22) ?rz22
  case ry22 =>
    go_simp
    try go_ints
    rfl
  simp only [List.setIfInBounds_toArray, List.set_cons_zero, List.set_cons_succ]
  refine take_op 23 (v := ?rv23) rfl (by kernel_rfl) (fun _ _ _ h => h) (by rfl) hS0 (fun w' hS' => ?ry23) ?rz23
  case ry23 =>
    go_simp
    try go_ints
    rfl
  simp only [List.setIfInBounds_toArray, List.set_cons_zero, List.set_cons_succ]
  refine take_op 24 (v := ?rv24) rfl (by kernel_rfl) (fun _ _ _ h => h) (by rfl) hS0 (fun w' hS' => ?ry24) ?rz24
  case ry24 =>
    have dd := (World.cell?_of_block (w := W) (w' := w') (a := ⟨bl, ol + (y1 * (iw + 1) + x0).toNat, none⟩) (by rw [hS'])).trans ((hB0.cell (p := ⟨bl, ol + (y1 * (iw + 1) + x0).toNat, none⟩) hbl).trans dH.out.2.2.1)
    clear hS'
    go_simp
    rfl
  simp only [List.setIfInBounds_toArray, List.set_cons_zero, List.set_cons_succ]
  refine take_op 25 (v := ?rv25) rfl (by kernel_rfl) (fun _ _ _ h => h) (by rfl) hS0 (fun w' hS' => ?ry25) ?rz25
  case ry25 =>
    go_simp
    try go_ints
    rfl
  simp only [List.setIfInBounds_toArray, List.set_cons_zero, List.set_cons_succ]
  refine take_op 26 (v := ?rv26) rfl (by kernel_rfl) (fun _ _ _ h => h) (by rfl) hS0 (fun w' hS' => ?ry26) ?rz26
  case ry26 =>
    go_simp
    rfl
  simp only [List.setIfInBounds_toArray, List.set_cons_zero, List.set_cons_succ]
  refine take_op 27 (v := ?rv27) rfl (by kernel_rfl) (fun _ _ _ h => h) (by rfl) hS0 (fun w' hS' => ?ry27) ?rz27
  case ry27 =>
    go_simp
    rfl
  simp only [List.setIfInBounds_toArray, List.set_cons_zero, List.set_cons_succ]
  refine take_op 28 (v := ?rv28) rfl (by kernel_rfl) (fun _ _ _ h => h) (by rfl) hS0 (fun w' hS' => ?ry28) ?rz28
  case ry28 =>
    go_simp
    rfl
  simp only [List.setIfInBounds_toArray, List.set_cons_zero, List.set_cons_succ]
  refine take_op 29 (v := ?rv29) rfl (by kernel_rfl) (fun _ _ _ h => h) (by rfl) hS0 (fun w' hS' => ?ry29) ?rz29
  case ry29 =>
    go_simp
    try go_ints
    rfl
  simp only [List.setIfInBounds_toArray, List.set_cons_zero, List.set_cons_succ]
  refine take_op 30 (v := ?rv30) rfl (by kernel_rfl) (fun _ _ _ h => h) (by rfl) hS0 (fun w' hS' => ?ry30) ?rz30
  case ry30 =>
    go_simp
    rfl
  simp only [List.setIfInBounds_toArray, List.set_cons_zero, List.set_cons_succ]
  refine take_op 31 (v := ?rv31) rfl (by kernel_rfl) (fun _ _ _ h => h) (by rfl) hS0 (fun w' hS' => ?ry31) ?rz31
  case ry31 =>
    go_simp
    try go_ints
    rfl
  simp only [List.setIfInBounds_toArray, List.set_cons_zero, List.set_cons_succ]
  refine take_op 32 (v := ?rv32) rfl (by kernel_rfl) (fun _ _ _ h => h) (by rfl) hS0 (fun w' hS' => ?ry32) ?rz32
  case ry32 =>
    go_simp
    try go_ints
    rfl
  simp only [List.setIfInBounds_toArray, List.set_cons_zero, List.set_cons_succ]
  refine take_op 33 (v := ?rv33) rfl (by kernel_rfl) (fun _ _ _ h => h) (by rfl) hS0 (fun w' hS' => ?ry33) ?rz33
  case ry33 =>
    have dd := (World.cell?_of_block (w := W) (w' := w') (a := ⟨bl, ol + (y0 * (iw + 1) + x0).toNat, none⟩) (by rw [hS'])).trans ((hB0.cell (p := ⟨bl, ol + (y0 * (iw + 1) + x0).toNat, none⟩) hbl).trans dH.out.2.2.2)
    clear hS'
    go_simp
    rfl
  simp only [List.setIfInBounds_toArray, List.set_cons_zero, List.set_cons_succ]
  refine take_op 34 (v := ?rv34) rfl (by kernel_rfl) (fun _ _ _ h => h) (by rfl) hS0 (fun w' hS' => ?ry34) ?rz34
  case ry34 =>
    go_simp
    try go_ints
    rfl
  simp only [List.setIfInBounds_toArray, List.set_cons_zero, List.set_cons_succ]
  refine take_op 35 (v := ?rv35) rfl (by kernel_rfl) (fun _ _ _ h => h) (by rfl) hS0 (fun w' hS' => ?ry35) ?rz35
  case ry35 =>
    go_simp
    rfl
  simp only [List.setIfInBounds_toArray, List.set_cons_zero, List.set_cons_succ]
  refine done_ops (by kernel_rfl) ?_
  go_wp2_with fail
  go_ret
  exact ⟨rfl, hB0.trans ((Below.refl _ W).drew.mono hB0.size)⟩

end Go.Proofs.YtbfigbpjoaccdaaGreat

namespace Go.Proofs.YtbfigbpjoaccdaaGreat
open Go Go.RowKit Go.Shelf
set_option linter.unusedVariables false
set_option linter.unusedSimpArgs false

attribute [local go_sem] Oper.semAt_some

/-- A slice made at full length, in fenced code. -/
theorem wpListIn_make_full {F : Fence} {n : Nat} {P : Program} (w : World) {ops : Array Oper} {rest : List Oper} {o : Oper} {a : Act} {Q : Exit → Act → World → Prop}
    (hg : o.guard = none) (l c : Operand) (t : TypeId) (hop : o.op = Op.makeSlice t l c)
    (base : Nat) (e : TypeId) (i : TypeInfo) (z : Value) (size : Nat) (h1 : P.underlying t = some (.slice e)) (h2 : P.info? e = some i) (h3 : i.zero = some z) (h4 : i.size = size)
    (kl kc : IntKind) (L C : Int) (m : Nat) (hl : a.eval l = .int kl L) (hc : a.eval c = .int kc C) (hL : L = (m : Int)) (hC : C = (m : Int)) (b2 : i.bytes * m ≤ 281474976710656) (b3 : m ≤ maxLen) (b4 : base ≤ w.heap.size)
    (hK : ∀ w', w'.ownsRow base e size (.slice (some ⟨w.heap.size, 0, none⟩) m m) m (madeCells z.cells (m * size)).toList → w.grownBy w' none → wpListIn F n P ops Q rest (a.put o.dst (.slice (some ⟨w.heap.size, 0, none⟩) m m)) w') :
    wpListIn F n P ops Q (o :: rest) a w := by
  refine wpListIn_plain hg fun K hK' => ?_
  obtain ⟨w', hrun, r1, r2⟩ := run_make_full (P := P) w base t e i z size h1 h2 h3 h4 kl kc m b2 b3 b4
  subst hL
  subst hC
  unfold Oper.wpIn
  refine ⟨?_, ?_⟩
  · simp [Oper.about, hop]
  · rw [Oper.semAt_plain F _ _ (by rw [hop]; intro c hc'; cases hc')]
    simp [execOp, hop, hl, hc, hrun, Result.andThen]
    exact hK' _ _ (hK w' r1 r2)

theorem px_some {L : List Int} {j : Nat} {v : Int} (h : L[j]? = some v) {i : Int} (hi : i.toNat = j) : px L i = v := by unfold px; rw [hi, h]; rfl

/-- One round: the list of all sums grows by one. -/
theorem integ_round (pw ph : Nat) (h2 : pw ≤ 16) (h4 : ph ≤ 16) {g : Nat → Nat → Int} (hb : ∀ u v, -2147483648 ≤ g u v ∧ g u v ≤ 2147483648) {k X Y : Nat} (hk : k < pw * ph) (hX : k % pw = X) (hY : k / pw = Y) {L : List Int} (hL : L = integ pw ph g k) {v : Int} (hv : g X Y = v) :
    L.set ((Y + 1) * (pw + 1) + X + 1) (wrap64 (wrap64 (wrap64 (v + px L (((Y : Int) + 1) * ((pw : Int) + 1) + X)) + px L (((Y : Int) + 1) * ((pw : Int) + 1) + X + 1 - ((pw : Int) + 1))) - px L (((((Y : Int) + 1) * ((pw : Int) + 1) + X + 1 - ((pw : Int) + 1)).toNat - 1 : Nat)))) = integ pw ph g (k + 1) := by
  have hp0 : 0 < pw := Nat.pos_of_ne_zero (by rintro rfl; simp at hk)
  have hx : X < pw := by rw [← hX]; exact Nat.mod_lt _ hp0
  have hy : Y < ph := by rw [← hY]; exact Nat.div_lt_of_lt_mul hk
  have hsp := idx_split pw k
  rw [hX, hY] at hsp
  have e0 : ((Y : Int) + 1) * ((pw : Int) + 1) = (((Y + 1) * (pw + 1) : Nat) : Int) := by simp
  have e1 : (Y + 1) * (pw + 1) = Y * (pw + 1) + (pw + 1) := by rw [Nat.add_mul, Nat.one_mul]
  have a1 := integ_at pw ph g k (x := X) (y := Y + 1) (by omega) (by omega) (by
    rcases Nat.eq_zero_or_pos X with h | h
    · exact .inl h
    · exact .inr (.inr (by rw [Nat.add_sub_cancel]; omega)))
  have a2 := integ_at pw ph g k (x := X + 1) (y := Y) (by omega) (by omega) (by
    rcases Nat.eq_zero_or_pos Y with h | h
    · exact .inr (.inl h)
    · refine .inr (.inr ?_)
      have : (Y - 1) * pw + pw = Y * pw := by
        have := Nat.add_mul (Y - 1) 1 pw
        rw [Nat.sub_add_cancel h, Nat.one_mul] at this
        omega
      rw [Nat.add_sub_cancel]; omega)
  have a3 := integ_at pw ph g k (x := X) (y := Y) (by omega) (by omega) (by
    rcases Nat.eq_zero_or_pos Y with h | h
    · exact .inr (.inl h)
    · rcases Nat.eq_zero_or_pos X with h' | h'
      · exact .inl h'
      refine .inr (.inr ?_)
      have : (Y - 1) * pw + pw = Y * pw := by
        have := Nat.add_mul (Y - 1) 1 pw
        rw [Nat.sub_add_cancel h, Nat.one_mul] at this
        omega
      omega)
  rw [← hL] at a1 a2 a3
  rw [px_some a1 (by rw [e0]; omega), px_some a2 (by rw [e0]; omega), px_some a3 (by rw [e0]; omega)]
  have b1 := gridTo_bd hb (x := X) (y := Y + 1) (by omega) (by omega)
  have b2 := gridTo_bd hb (x := X + 1) (y := Y) (by omega) (by omega)
  have b3 := gridTo_bd hb (x := X) (y := Y) (by omega) (by omega)
  have b4 := hb X Y
  rw [hv] at b4
  have hn := gridTo_next g X Y
  rw [hv] at hn
  rw [IntWalk.wrap64_in (v + _) ⟨by omega, by omega⟩, IntWalk.wrap64_in (v + gridTo g X (Y + 1) + _) ⟨by omega, by omega⟩, IntWalk.wrap64_in _ ⟨by omega, by omega⟩, hn, hL, ← integ_set pw ph g k hk, hX, hY]
  rfl

set_option maxRecDepth 100000 in
set_option maxHeartbeats 4000000 in
theorem integral_any (pw ph : Nat) (a : Option Addr) (c n : Nat) (xs : List Int) (hn : Hid (xs.length = n)) (h1 : 1 ≤ pw) (h2 : pw ≤ 16) (h3 : 1 ≤ ph) (h4 : ph ≤ 16) (hnn : Hid ((n : Int) = (pw : Int) * ph)) (hall : Hid (allIn (-2147483648) 2147483648 xs = true)) (N : Nat) (hN : Hid ((pw + 1) * (ph + 1) = N)) (w : World) (hr : Rd w.heap.size w a xs) :
    Calls Tryz.prog 82 #[imv pw ph a n c] w fun e W' => ∃ g, e = .returned (.slice (some ⟨g, 0, none⟩) N N) ∧ W'.ownsRow w.heap.size 3 1 (.slice (some ⟨g, 0, none⟩) N N) N ((integAll pw ph (gpx pw xs)).map (Value.int .i64)) ∧ Below w.heap.size w W' := by
  obtain ⟨i0, hi, hz0, hz1, hz2⟩ := info_parts info_int
  have hN9 : N ≤ 289 ∧ ((pw : Int) + 1) * ((ph : Int) + 1) = N := by
    have h := hN.out
    have e : (((pw + 1) * (ph + 1) : Nat) : Int) = ((pw : Int) + 1) * ((ph : Int) + 1) := by simp
    obtain ⟨m1, m2⟩ := mul_small (a := (pw : Int) + 1) (b := (ph : Int) + 1) (m := 17) (n := 17) (by omega) (by omega) (by omega) (by omega)
    omega
  obtain ⟨hN9, hNi⟩ := hN9
  have hWr := Lib.hid (show wrap64 (((pw : Int) + 1) * ((ph : Int) + 1)) = (N : Int) by rw [hNi]; exact IntWalk.wrap64_in _ ⟨by omega, by omega⟩)
  have hNiH := Lib.hid hNi
  clear hNi
  have hzH := Lib.hid (made_zero N)
  refine (callsIn_wide (n := 10)).1 ?_
  refine callsIn_of_wp_marks Tryz.func82 rfl trivial ?_
  simp only [Tryz.ntmps82, List.size_toArray, List.length_cons, List.length_nil, Nat.reduceAdd, Nat.reduceSub, Array.replicate_succ, Array.replicate_zero, List.push_toArray, List.append_toArray, List.nil_append, List.cons_append]
  have hg0 : (0 : Nat) = 0 := rfl
  have hg0 : (0 : Nat) = 0 := rfl
  have hg0 : (0 : Nat) = 0 := rfl
  have hg0 : (0 : Nat) = 0 := rfl
  have hg0 : (0 : Nat) = 0 := rfl
  have hg0 : (0 : Nat) = 0 := rfl
  have hg0 : (0 : Nat) = 0 := rfl
  have hg0 : (0 : Nat) = 0 := rfl
  gi_wp2_with (gi_at_make; refine wpListIn_make_full _ rfl _ _ 25 rfl w.heap.size 3 i0 (.int .i64 0) 1 Tryz.underlying25 hi hz0 hz1 .i64 .i64 (wrap64 (((pw : Int) + 1) * ((ph : Int) + 1))) (wrap64 (((pw : Int) + 1) * ((ph : Int) + 1))) N rfl rfl hWr.out hWr.out (by rw [hz2]; omega) (by unfold maxLen; omega) (by simp <;> omega) ?_; intro w1 hown hg; have k5 := (((Blk.new w 27 #[.int .i64 pw, .int .i64 ph, .slice a n c]).alloc (.cells #[.int .i64 ((pw : Int) + 1)] 3)).kept hg (by simp)).alloc (.cells #[.slice (some ⟨w.heap.size + 1 + 1, 0, none⟩) N N] 25); have c0 := k5.cell (i := 0) rfl; have c1 := k5.cell (i := 1) rfl)
  have kw := ((Blk.new (w.alloc (.cells #[.int .i64 pw, .int .i64 ph, .slice a n c] 27)) 3 #[.int .i64 ((pw : Int) + 1)]).kept hg (by simp)).alloc (.cells #[.slice (some ⟨w.heap.size + 1 + 1, 0, none⟩) N N] 25)
  have kS := Blk.new w1 25 #[.slice (some ⟨w.heap.size + 1 + 1, 0, none⟩) N N]
  have hb1 : Below w.heap.size w w1 := (below_al (below_al (Below.refl _ _) _) _).grown hg (by simp <;> omega) (fun k e => by cases e)
  have hsz1 := hg.size
  simp only [World.size_alloc] at hsz1 kw hown
  have hB0 := below_al hb1 (.cells #[.slice (some ⟨w.heap.size + 1 + 1, 0, none⟩) N N] 25)
  rw [hzH.out] at hown
  have row0 := hown.alloc (.cells #[.slice (some ⟨w.heap.size + 1 + 1, 0, none⟩) N N] 25)
  have hsz2 : (w1.alloc (.cells #[.slice (some ⟨w.heap.size + 1 + 1, 0, none⟩) N N] 25)).heap.size = w1.heap.size + 1 := by simp
  obtain ⟨M, hM⟩ : ∃ M, w1.heap.size = M := ⟨_, rfl⟩
  rw [hM] at hsz1 hsz2 kS ⊢
  obtain ⟨W2, hW2⟩ : ∃ W2, w1.alloc (.cells #[.slice (some ⟨w.heap.size + 1 + 1, 0, none⟩) N N] 25) = W2 := ⟨_, rfl⟩
  rw [hW2] at k5 kw kS hB0 row0 hsz2 c0 c1 ⊢
  clear hW2 hown hg hb1 hM hg0
  clear w1
  refine ⟨trivial, (callsIn_wide.2 (places_any _ _ _)).mono ?_⟩
  rintro e w' ⟨rfl, rfl⟩
  clear c0 c1
  gi_wp2_with fail
  replace k5 := (k5.alloc (.cells #[.int .i64 pw] 3)).alloc (.cells #[.int .i64 ph] 3)
  replace kw := (kw.alloc (.cells #[.int .i64 pw] 3)).alloc (.cells #[.int .i64 ph] 3)
  replace kS := (kS.alloc (.cells #[.int .i64 pw] 3)).alloc (.cells #[.int .i64 ph] 3)
  have kpw := (Blk.new W2 3 #[.int .i64 pw]).alloc (.cells #[.int .i64 ph] 3)
  have kph := Blk.new (W2.alloc (.cells #[.int .i64 pw] 3)) 3 #[.int .i64 ph]
  replace row0 := (row0.alloc (.cells #[.int .i64 pw] 3)).alloc (.cells #[.int .i64 ph] 3)
  replace hB0 := below_al (below_al hB0 (.cells #[.int .i64 pw] 3)) (.cells #[.int .i64 ph] 3)
  simp only [World.size_alloc, hsz2] at kpw kph
  have hsz : ((W2.alloc (.cells #[.int .i64 pw] 3)).alloc (.cells #[.int .i64 ph] 3)).heap.size = M + 3 := by simp <;> omega
  obtain ⟨W0, hW0⟩ : ∃ W0, (W2.alloc (.cells #[.int .i64 pw] 3)).alloc (.cells #[.int .i64 ph] 3) = W0 := ⟨_, rfl⟩
  rw [hW0] at k5 kw kS kpw kph row0 hB0 hsz ⊢
  clear hW0 hsz2
  clear W2
  have hrowH := Lib.hid (show List.replicate N (0 : Int) = integ pw ph (gpx pw xs) 0 by rw [integ_zero, hN.out])
  refine wpIn_rangeFunc_ownG (n := 10) rfl (by omega) (gf := 146) (lb := #[.pointer (some ⟨M + 1 + 1, 0, none⟩), .pointer (some ⟨M + 1, 0, none⟩)]) rfl trivial (enters_of Tryz.func146 (by kernel_rfl) rfl)
    (Kp := fun A B => B.heap[M + 1]? = A.heap[M + 1]?)
    (places_stopsK Fence.wide 9 trivial rfl (by omega) (M + 1 + 1) (M + 1) pw ph (by omega) (by omega) W0 (by omega) (by omega) (kph.cell rfl) (kpw.cell rfl)) (fun h k => k.trans h) (fun W l o o' hl _ _ _ => World.putObj_heap_other (by omega)) (Below.refl _ _) (fun _ => rfl)
    (fun pre W => (((Blk W w.heap.size 27 #[.int .i64 pw, .int .i64 ph, .slice a n c] ∧ Blk W (w.heap.size + 1) 3 #[.int .i64 ((pw : Int) + 1)]) ∧ Blk W M 25 #[.slice (some ⟨w.heap.size + 1 + 1, 0, none⟩) N N]) ∧ (M + 3 ≤ W.heap.size ∧ ∃ L : List Int, L.length = N ∧ W.ownsRow w.heap.size 3 1 (.slice (some ⟨w.heap.size + 1 + 1, 0, none⟩) N N) N (L.map (Value.int .i64)) ∧ (pre.map Fin.val = List.range pre.length → L = integ pw ph (gpx pw xs) pre.length))) ∧ Below w.heap.size w W)
    (fun _ _ _ => False)
    (OwnFrom.and (fun s A B row hs hg hr => ⟨⟨⟨blk_keeps hs.1.1.1 hg (fun r e => (hr r e).2), blk_keeps hs.1.1.2 hg (fun r e => (hr r e).2)⟩, blk_keeps hs.1.2 hg (fun r e => (hr r e).2)⟩, Nat.le_trans hs.2.1 hg.size, by obtain ⟨L, g1, g2, g3⟩ := hs.2.2; exact ⟨L, g1, row_keeps g2 hg (fun r e => (hr r e).2), g3⟩⟩) (ownFrom_below (Nat.le_refl _) (by omega)))
    (fun _ _ _ _ _ hs _ _ => hs)
    ⟨⟨⟨⟨k5, kw⟩, kS⟩, by omega, _, by simp, row0, fun _ => hrowH.out⟩, hB0⟩
    ?act
    ?assign ?body ?done ?stop
  case assign =>
    intro l x W K hK
    simp only [enc2]
    gi_wp2
    exact hK
  case body =>
    rintro l pre ⟨i, hi'⟩ W ⟨⟨⟨⟨k5, kw⟩, kS⟩, hs1, L, hL, row1, hLx⟩, hB1⟩ hlt
    have hp0 : 0 < pw := by omega
    have hx : i % pw < pw := Nat.mod_lt _ hp0
    have hy : i / pw < ph := Nat.div_lt_of_lt_mul hi'
    have hsp := idx_split pw i
    have hord : (pre ++ [(⟨i, hi'⟩ : Fin (pw * ph))]).map Fin.val = List.range (pre ++ [(⟨i, hi'⟩ : Fin (pw * ph))]).length → pre.map Fin.val = List.range pre.length ∧ i = pre.length := by
      intro h
      rw [List.map_append, List.length_append, List.length_singleton, List.range_succ] at h
      have h5 := List.append_inj h (by simp)
      exact ⟨h5.1, by simpa using h5.2⟩
    have hordH := Lib.hid hord
    clear hord
    have hg1 : gpx pw xs (i % pw) (i / pw) = px xs (((i / pw : Nat) : Int) * pw + ((i % pw : Nat) : Int)) := rfl
    have ecX : cX pw i = ((i % pw : Nat) : Int) := rfl
    have ecY : cY pw i = ((i / pw : Nat) : Int) := rfl
    have hn9 : n ≤ 256 := by
      have := hnn.out
      obtain ⟨m1, m2⟩ := mul_small (a := (pw : Int)) (b := (ph : Int)) (m := 16) (n := 16) (by omega) (by omega) (by omega) (by omega)
      omega
    have hround := Lib.hid (fun (X Y : Nat) (e1 : i % pw = X) (e2 : i / pw = Y) (L : List Int) (hL : L = integ pw ph (gpx pw xs) i) (v : Int) (hv : gpx pw xs X Y = v) => integ_round pw ph h2 h4 (gpx_bd hall.out pw) hi' e1 e2 hL hv)
    have hil := idx_bound (w := pw + 1) (h := ph + 1) (x := i % pw + 1) (y := i / pw + 1) (by omega) (by omega)
    rw [hN.out] at hil
    dsimp only
    rw [ecX, ecY]
    obtain ⟨X, hX⟩ : ∃ X, i % pw = X := ⟨_, rfl⟩
    obtain ⟨Y, hY⟩ : ∃ Y, i / pw = Y := ⟨_, rfl⟩
    rw [hX] at hx hsp hg1 ecX hil ⊢
    rw [hY] at hy hsp hg1 ecY hil ⊢
    have hXH := Lib.hid hX
    have hYH := Lib.hid hY
    clear hX hY ecX ecY
    have hP := hil
    have eP : (((Y + 1) * (pw + 1) + (X + 1) : Nat) : Int) = ((Y : Int) + 1) * ((pw : Int) + 1) + ((X : Int) + 1) := by simp
    obtain ⟨p1, p2⟩ := mul_small (a := (Y : Int) + 1) (b := (pw : Int) + 1) (m := 17) (n := 17) (by omega) (by omega) (by omega) (by omega)
    have p3 : (pw : Int) + 1 ≤ ((Y : Int) + 1) * ((pw : Int) + 1) := by
      have := Int.mul_le_mul_of_nonneg_right (show (1 : Int) ≤ (Y : Int) + 1 by omega) (show (0 : Int) ≤ (pw : Int) + 1 by omega)
      omega
    have p4 : ((Y : Int) + 1) * ((pw : Int) + 1) + ((X : Int) + 1) < N := by omega
    clear eP hP
    obtain ⟨q1, q2, q3, q4⟩ := in_idx (iw := pw) (ih := ph) (u := (X : Int)) (v := (Y : Int)) (by omega) hnn.out (by omega) (by omega) (by omega) (by omega)
    have hcells : ∀ W', Below W.heap.size W W' → ∀ j : Int, 0 ≤ j → j < N → W'.cell? ⟨w.heap.size + 1 + 1, j.toNat, none⟩ = some (.int .i64 (px L j)) := by
      intro W' hb j hj1 hj2
      rw [(row_below row1 hb).cellAt j.toNat (by omega)]
      unfold px
      rw [List.getElem?_map, List.getElem?_eq_getElem (by omega)]
      simp
    have hcellsN := Lib.hid (fun W' hb (j : Nat) (hj : j < N) => (show W'.cell? ⟨w.heap.size + 1 + 1, j, none⟩ = some (.int .i64 (px L j)) from hcells W' hb j (by omega) (by omega)))
    have hcellsH := Lib.hid hcells
    obtain ⟨v, hv⟩ : ∃ v, px xs ((Y : Int) * pw + X) = v := ⟨_, rfl⟩
    rw [hv] at hg1
    have hvH := Lib.hid hv
    have hgH := Lib.hid hg1
    have hLxH := Lib.hid hLx
    clear hcells hv hg1 hLx hsp
    have c0 := kw.cell (i := 0) rfl
    gi_wp2_with fail
    clear c0
    have hS : Below W.heap.size W W.drew := (Below.refl _ _).drew
    refine round_region (fun W' => Below W.heap.size W W') 28 29 l _ (by kernel_rfl) (by kernel_rfl) (fun ⟨_, _, h⟩ => h) rfl ?_
    simp only [Array.replicate_succ, Array.replicate_zero, List.push_toArray, List.nil_append, List.cons_append]
    refine take_op 0 (v := ?rv0) rfl (by kernel_rfl) (fun _ _ _ h => h) (by rfl) hS (fun w' hS' => ?ry0) ?rz0
    case ry0 =>
      have a0 := (k5.below hS' k5.lt).cell (i := 0) rfl
      have a1 := (k5.below hS' k5.lt).cell (i := 1) rfl
      have a2 := (k5.below hS' k5.lt).cell (i := 2) rfl
      have b0 := (kw.below hS' kw.lt).cell (i := 0) rfl
      have c0 := (kS.below hS' kS.lt).cell (i := 0) rfl
      go_simp
      rfl
    simp only [List.setIfInBounds_toArray, List.set_cons_zero, List.set_cons_succ]
    refine take_op 1 (v := ?rv1) rfl (by kernel_rfl) (fun _ _ _ h => h) (by rfl) hS (fun w' hS' => ?ry1) ?rz1
    case ry1 =>
      go_simp
      rfl
    simp only [List.setIfInBounds_toArray, List.set_cons_zero, List.set_cons_succ]
    refine take_op 2 (v := ?rv2) rfl (by kernel_rfl) (fun _ _ _ h => h) (by rfl) hS (fun w' hS' => ?ry2) ?rz2
    case ry2 =>
      have a0 := (k5.below hS' k5.lt).cell (i := 0) rfl
      have a1 := (k5.below hS' k5.lt).cell (i := 1) rfl
      have a2 := (k5.below hS' k5.lt).cell (i := 2) rfl
      have b0 := (kw.below hS' kw.lt).cell (i := 0) rfl
      have c0 := (kS.below hS' kS.lt).cell (i := 0) rfl
      go_simp
      rfl
    simp only [List.setIfInBounds_toArray, List.set_cons_zero, List.set_cons_succ]
    refine take_op 3 (v := ?rv3) rfl (by kernel_rfl) (fun _ _ _ h => h) (by rfl) hS (fun w' hS' => ?ry3) ?rz3
    case ry3 =>
      go_simp
      rfl
    simp only [List.setIfInBounds_toArray, List.set_cons_zero, List.set_cons_succ]
    refine take_op 4 (v := ?rv4) rfl (by kernel_rfl) (fun _ _ _ h => h) (by rfl) hS (fun w' hS' => ?ry4) ?rz4
    case ry4 =>
      go_simp
      rfl
    simp only [List.setIfInBounds_toArray, List.set_cons_zero, List.set_cons_succ]
    refine take_op 6 (v := ?rv6) rfl (by kernel_rfl) (fun _ _ _ h => h) (by rfl) hS (fun w' hS' => ?ry6) ?rz6
    case ry6 =>
      have a0 := (k5.below hS' k5.lt).cell (i := 0) rfl
      have a1 := (k5.below hS' k5.lt).cell (i := 1) rfl
      have a2 := (k5.below hS' k5.lt).cell (i := 2) rfl
      have b0 := (kw.below hS' kw.lt).cell (i := 0) rfl
      have c0 := (kS.below hS' kS.lt).cell (i := 0) rfl
      go_simp
      rfl
    simp only [List.setIfInBounds_toArray, List.set_cons_zero, List.set_cons_succ]
    refine take_op 7 (v := ?rv7) rfl (by kernel_rfl) (fun _ _ _ h => h) (by rfl) hS (fun w' hS' => ?ry7) ?rz7
    case ry7 =>
      go_simp
      rfl
    simp only [List.setIfInBounds_toArray, List.set_cons_zero, List.set_cons_succ]
    refine take_op 8 (v := ?rv8) rfl (by kernel_rfl) (fun _ _ _ h => h) (by rfl) hS (fun w' hS' => ?ry8) ?rz8
    case ry8 =>
      go_simp
      try go_ints
      rfl
    simp only [List.setIfInBounds_toArray, List.set_cons_zero, List.set_cons_succ]
    refine take_op 9 (v := ?rv9) rfl (by kernel_rfl) (fun _ _ _ h => h) (by rfl) hS (fun w' hS' => ?ry9) ?rz9
    case ry9 =>
      go_simp
      try go_ints
      first
      | rfl
      | rw [if_pos ⟨by omega, by omega⟩]
    simp only [List.setIfInBounds_toArray, List.set_cons_zero, List.set_cons_succ]
    refine take_op 10 (v := ?rv10) rfl (by kernel_rfl) (fun _ _ _ h => h) (by rfl) hS (fun w' hS' => ?ry10) ?rz10
    case ry10 =>
      have dd := hcellsN.out w' hS' ((Y + 1) * (pw + 1) + X) (by omega)
      go_simp
      rfl
    simp only [List.setIfInBounds_toArray, List.set_cons_zero, List.set_cons_succ]
    refine take_op 12 (v := ?rv12) rfl (by kernel_rfl) (fun _ _ _ h => h) (by rfl) hS (fun w' hS' => ?ry12) ?rz12
    case ry12 =>
      have a0 := (k5.below hS' k5.lt).cell (i := 0) rfl
      have a1 := (k5.below hS' k5.lt).cell (i := 1) rfl
      have a2 := (k5.below hS' k5.lt).cell (i := 2) rfl
      have b0 := (kw.below hS' kw.lt).cell (i := 0) rfl
      have c0 := (kS.below hS' kS.lt).cell (i := 0) rfl
      go_simp
      rfl
    simp only [List.setIfInBounds_toArray, List.set_cons_zero, List.set_cons_succ]
    refine take_op 13 (v := ?rv13) rfl (by kernel_rfl) (fun _ _ _ h => h) (by rfl) hS (fun w' hS' => ?ry13) ?rz13
    case ry13 =>
      go_simp
      rfl
    simp only [List.setIfInBounds_toArray, List.set_cons_zero, List.set_cons_succ]
    refine take_op 14 (v := ?rv14) rfl (by kernel_rfl) (fun _ _ _ h => h) (by rfl) hS (fun w' hS' => ?ry14) ?rz14
    case ry14 =>
      have a0 := (k5.below hS' k5.lt).cell (i := 0) rfl
      have a1 := (k5.below hS' k5.lt).cell (i := 1) rfl
      have a2 := (k5.below hS' k5.lt).cell (i := 2) rfl
      have b0 := (kw.below hS' kw.lt).cell (i := 0) rfl
      have c0 := (kS.below hS' kS.lt).cell (i := 0) rfl
      go_simp
      rfl
    simp only [List.setIfInBounds_toArray, List.set_cons_zero, List.set_cons_succ]
    refine take_op 15 (v := ?rv15) rfl (by kernel_rfl) (fun _ _ _ h => h) (by rfl) hS (fun w' hS' => ?ry15) ?rz15
    case ry15 =>
      go_simp
      try go_ints
      rfl
    simp only [List.setIfInBounds_toArray, List.set_cons_zero, List.set_cons_succ]
    refine take_op 16 (v := ?rv16) rfl (by kernel_rfl) (fun _ _ _ h => h) (by rfl) hS (fun w' hS' => ?ry16) ?rz16
    case ry16 =>
      go_simp
      try go_ints
      first
      | rfl
      | rw [if_pos ⟨by omega, by omega⟩]
    simp only [List.setIfInBounds_toArray, List.set_cons_zero, List.set_cons_succ]
    refine take_op 17 (v := ?rv17) rfl (by kernel_rfl) (fun _ _ _ h => h) (by rfl) hS (fun w' hS' => ?ry17) ?rz17
    case ry17 =>
      have dd := hcellsH.out w' hS' (((Y : Int) + 1) * ((pw : Int) + 1) + X + 1 - ((pw : Int) + 1)) (by omega) (by omega)
      go_simp
      rfl
    simp only [List.setIfInBounds_toArray, List.set_cons_zero, List.set_cons_succ]
    refine take_op 19 (v := ?rv19) rfl (by kernel_rfl) (fun _ _ _ h => h) (by rfl) hS (fun w' hS' => ?ry19) ?rz19
    case ry19 =>
      have a0 := (k5.below hS' k5.lt).cell (i := 0) rfl
      have a1 := (k5.below hS' k5.lt).cell (i := 1) rfl
      have a2 := (k5.below hS' k5.lt).cell (i := 2) rfl
      have b0 := (kw.below hS' kw.lt).cell (i := 0) rfl
      have c0 := (kS.below hS' kS.lt).cell (i := 0) rfl
      go_simp
      rfl
    simp only [List.setIfInBounds_toArray, List.set_cons_zero, List.set_cons_succ]
    refine take_op 20 (v := ?rv20) rfl (by kernel_rfl) (fun _ _ _ h => h) (by rfl) hS (fun w' hS' => ?ry20) ?rz20
    case ry20 =>
      go_simp
      rfl
    simp only [List.setIfInBounds_toArray, List.set_cons_zero, List.set_cons_succ]
    refine take_op 21 (v := ?rv21) rfl (by kernel_rfl) (fun _ _ _ h => h) (by rfl) hS (fun w' hS' => ?ry21) ?rz21
    case ry21 =>
      have a0 := (k5.below hS' k5.lt).cell (i := 0) rfl
      have a1 := (k5.below hS' k5.lt).cell (i := 1) rfl
      have a2 := (k5.below hS' k5.lt).cell (i := 2) rfl
      have b0 := (kw.below hS' kw.lt).cell (i := 0) rfl
      have c0 := (kS.below hS' kS.lt).cell (i := 0) rfl
      go_simp
      rfl
    simp only [List.setIfInBounds_toArray, List.set_cons_zero, List.set_cons_succ]
    refine take_op 22 (v := ?rv22) rfl (by kernel_rfl) (fun _ _ _ h => h) (by rfl) hS (fun w' hS' => ?ry22) ?rz22
    case ry22 =>
      go_simp
      try go_ints
      rfl
    simp only [List.setIfInBounds_toArray, List.set_cons_zero, List.set_cons_succ]
    refine take_op 23 (v := ?rv23) rfl (by kernel_rfl) (fun _ _ _ h => h) (by rfl) hS (fun w' hS' => ?ry23) ?rz23
    case ry23 =>
      go_simp
      try go_ints
      rfl
    simp only [List.setIfInBounds_toArray, List.set_cons_zero, List.set_cons_succ]
    refine take_op 24 (v := ?rv24) rfl (by kernel_rfl) (fun _ _ _ h => h) (by rfl) hS (fun w' hS' => ?ry24) ?rz24
    case ry24 =>
      go_simp
      try go_ints
      first
      | rfl
      | rw [if_pos ⟨by omega, by omega⟩]
    simp only [List.setIfInBounds_toArray, List.set_cons_zero, List.set_cons_succ]
    refine take_op 25 (v := ?rv25) rfl (by kernel_rfl) (fun _ _ _ h => h) (by rfl) hS (fun w' hS' => ?ry25) ?rz25
    case ry25 =>
      have dd := hcellsN.out w' hS' ((((Y : Int) + 1) * ((pw : Int) + 1) + X + 1 - ((pw : Int) + 1)).toNat - 1) (by omega)
      go_simp
      rfl
    simp only [List.setIfInBounds_toArray, List.set_cons_zero, List.set_cons_succ]
    refine step_op 5 (by kernel_rfl) rfl (fun K hK => ?_)
    rw [if_pos (by rfl)]
    go_simp
    refine (at_any pw ph X Y a c xs n hn _ (Int.le_trans (by decide) q1) (Int.le_trans (Int.le_of_lt q4) (by omega)) q2 q3 (by omega) ((hr.below (Nat.le_refl _) (hB1.trans (hS.mono hB1.size))).mono (hB1.trans (hS.mono hB1.size)).size)).mono ?_
    rintro e W1 ⟨rfl, hb2⟩
    rw [hvH.out]
    have hS1 : Below W.heap.size W W1 := hS.trans (hb2.mono hS.size)
    refine hK.out _ _ (fun h => hS1) ?_
    clear hK K
    try simp only [Act.put, List.setIfInBounds_toArray, List.set_cons_zero, List.set_cons_succ]
    refine take_op 11 (v := ?rv11) rfl (by kernel_rfl) (fun _ _ _ h => h) (by rfl) hS1 (fun w' hS' => ?ry11) ?rz11
    case ry11 =>
      go_simp
      try go_ints
      rfl
    simp only [List.setIfInBounds_toArray, List.set_cons_zero, List.set_cons_succ]
    refine take_op 18 (v := ?rv18) rfl (by kernel_rfl) (fun _ _ _ h => h) (by rfl) hS1 (fun w' hS' => ?ry18) ?rz18
    case ry18 =>
      go_simp
      try go_ints
      rfl
    simp only [List.setIfInBounds_toArray, List.set_cons_zero, List.set_cons_succ]
    refine take_op 26 (v := ?rv26) rfl (by kernel_rfl) (fun _ _ _ h => h) (by rfl) hS1 (fun w' hS' => ?ry26) ?rz26
    case ry26 =>
      go_simp
      try go_ints
      rfl
    simp only [List.setIfInBounds_toArray, List.set_cons_zero, List.set_cons_succ]
    refine take_op 27 (v := ?rv27) rfl (by kernel_rfl) (fun _ _ _ h => h) (by rfl) hS1 (fun w' hS' => ?ry27) ?rz27
    case ry27 =>
      go_simp
      try go_ints
      first
      | rfl
      | rw [if_pos ⟨by omega, by omega⟩]
    simp only [List.setIfInBounds_toArray, List.set_cons_zero, List.set_cons_succ]
    refine step_op 28 (by kernel_rfl) rfl (fun K hK => ?_)
    have row4 := row_below row1 hS1
    have hfr := row4.frozenAt ((Y + 1) * (pw + 1) + X + 1)
    have dd := hcellsN.out _ hS1 ((Y + 1) * (pw + 1) + X + 1) (by omega)
    rw [if_pos (by rfl)]
    go_simp
    obtain ⟨z, hz⟩ : ∃ z, wrap64 (wrap64 (wrap64 (v + px L (((Y : Int) + 1) * ((pw : Int) + 1) + X)) + px L (((Y : Int) + 1) * ((pw : Int) + 1) + X + 1 - ((pw : Int) + 1))) - px L (((((Y : Int) + 1) * ((pw : Int) + 1) + X + 1 - ((pw : Int) + 1)).toNat - 1 : Nat))) = z := ⟨_, rfl⟩
    rw [hz]
    refine hK.out _ _ (fun h => absurd h (by omega)) ?_
    clear hK K
    try simp only [Act.put, List.setIfInBounds_toArray, List.set_cons_zero, List.set_cons_succ]
    refine done_ops (by kernel_rfl) ?_
    have hnr := kS.not_row (by decide) row1
    have hst := row4.stored ((Y + 1) * (pw + 1) + X + 1) (.int .i64 z)
    have hgA : W.grownBy (W1.setCell ⟨w.heap.size + 1 + 1, (Y + 1) * (pw + 1) + X + 1, none⟩ (.int .i64 z)) (some (w.heap.size + 1 + 1)) := grown_trans (grown_of_below hS1 _) hst.2
    have hst1 := hst.1
    rw [map_set_int] at hst1
    refine ⟨(others_of_row row1 hgA).from _, hgA.block _ (by omega) (by simp <;> omega), ⟨⟨⟨k5.kept hgA (k5.not_row (by decide) row1), kw.kept hgA (by simp)⟩, kS.kept hgA hnr⟩, Nat.le_trans hs1 hgA.size, _, by rw [List.length_set]; exact hL, hst1, ?_⟩, hB1.trans (below_of_row (n := w.heap.size) row1 hgA (Nat.le_refl _) hB1.size)⟩
    intro hoo
    obtain ⟨g1, g2⟩ := hordH.out hoo
    rw [← hz, hround.out X Y hXH.out hYH.out L (by rw [hLxH.out g1, g2]) v hgH.out, List.length_append, List.length_singleton, g2]
  case done =>
    rintro D ys W hD hys ⟨⟨⟨⟨k5, kw⟩, kS⟩, hs1, L, hL, row1, hLx⟩, hB1⟩ hK
    have hlen : ys.length = pw * ph := by have := congrArg List.length hys; simpa using this
    have c0 := kS.cell (i := 0) rfl
    have hLL := Lib.hid (show L = integAll pw ph (gpx pw xs) by rw [hLx (by rw [hlen]; exact hys), hlen, integ_all pw ph _ h1 h3])
    clear hLx
    gi_wp2
    refine ⟨by simp, .inl ⟨_, _, rfl, run_takeDeferred hK, ?_⟩⟩
    have rowf := ownsRow_putObj row1 (.deferred none) hK rfl
    rw [hLL.out] at rowf
    exact ⟨_, results_tmp rfl _ _ _, _, rfl, rowf, hB1.trans (belowK_b (w := w) (Nat.le_refl _) W D _ _ (by omega) hK rfl rfl)⟩
  case stop =>
    rintro D c pre W _ _ h _
    exact h.elim

end Go.Proofs.YtbfigbpjoaccdaaGreat

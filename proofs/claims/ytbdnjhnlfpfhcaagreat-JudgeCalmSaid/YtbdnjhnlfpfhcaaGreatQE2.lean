/- Contracts and laws (Wd). -/
import Derived.Test.YtbdnjhnlfpfhcaaGreatProg
import Derived.Shelf.Spec.BitsCarry
import Derived.Test.YtbdnjhnlfpfhcaaGreatQE1
namespace Go.Proofs.YtbdnjhnlfpfhcaaGreat
open Go Go.RowKit Go.Shelf
set_option linter.unusedVariables false
set_option linter.unusedSimpArgs false

theorem run_add_any (x y c : Nat) (hc : c ≤ 1) (w : World) : (callFunc 83 #[.int .u64 (x : Int), .int .u64 (y : Int), .int .u64 (c : Int)]).run Tryz.prog w =
    .ok (.value (.tuple #[.int .u64 (((x + y + c) % 18446744073709551616 : Nat) : Int), .int .u64 (((x + y + c) / 18446744073709551616 : Nat) : Int)])) w := by
  rw [run_callFunc_extern Tryz.func83 (by kernel_rfl) (by kernel_rfl) (by kernel_rfl) (e := add64Entry) (by kernel_rfl), run_add64 x y c (by omega) (by omega) (by omega) (by omega)]
  simp only [Result.andThen]
  congr 5 <;> omega
theorem run_sub_any (x y b : Nat) (hb : b ≤ 1) (w : World) : (callFunc 124 #[.int .u64 (x : Int), .int .u64 (y : Int), .int .u64 (b : Int)]).run Tryz.prog w =
    .ok (.value (.tuple #[.int .u64 (((x + 18446744073709551616 - y - b) % 18446744073709551616 : Nat) : Int), .int .u64 ((if x < y + b then 1 else 0 : Nat) : Int)])) w := by
  rw [run_callFunc_extern Tryz.func124 (by kernel_rfl) (by kernel_rfl) (by kernel_rfl) (e := sub64Entry) (by kernel_rfl), run_sub64 x y b hb]
  rfl

abbrev wdv (x : Nat) : Value := .agg #[.int .u64 0, .int .u64 (x : Int)]

theorem jwd_al {a w : World} (h : Below a.heap.size a w) (o : Obj) : Below a.heap.size a (w.alloc o) := h.alloc h.size o

















def two64 : Nat := 18446744073709551616
def two63 : Nat := 9223372036854775808
theorem lt_two64 {n : Nat} : n < two64 ↔ n < 18446744073709551616 := Iff.rfl
theorem lt_two63 {n : Nat} : n < two63 ↔ n < 9223372036854775808 := Iff.rfl

set_option maxHeartbeats 1000000 in
theorem wplus_any (x y z : Nat) (hz : x + y = z) (h : z < two64) (w : World) :
    Calls Tryz.prog 118 #[wdv x, wdv y] w fun e w' => e = .returned (wdv z) ∧ Below w.heap.size w w' := by
  have hadd : ∀ w, (callFunc 83 #[.int .u64 (x : Int), .int .u64 (y : Int), .int .u64 0]).run Tryz.prog w = .ok (.value (.tuple #[.int .u64 (z : Int), .int .u64 0])) w := fun w => by
    have := run_add_any x y 0 (by omega) w
    rw [lt_two64] at h
    rw [Nat.add_zero, hz, Nat.mod_eq_of_lt h, Nat.div_eq_of_lt h] at this
    exact this
  clear hz h
  go_enter Tryz.func118, Tryz.ntmps118
  go_wp2_with fail
  exact bodyPost_ret (v := wdv z) (by simp [results, Tryz.results118, go_sem]) rfl ⟨rfl, jwd_al (jwd_al (jwd_al (Below.refl _ _) _) _) _⟩

set_option maxHeartbeats 1000000 in
theorem wminus_any (x y z : Nat) (hx : x < two64) (hz : x = y + z) (w : World) :
    Calls Tryz.prog 121 #[wdv x, wdv y] w fun e w' => e = .returned (wdv z) ∧ Below w.heap.size w w' := by
  have hadd : ∀ w, (callFunc 124 #[.int .u64 (x : Int), .int .u64 (y : Int), .int .u64 0]).run Tryz.prog w = .ok (.value (.tuple #[.int .u64 (z : Int), .int .u64 0])) w := fun w => by
    have := run_sub_any x y 0 (by omega) w
    rw [lt_two64] at hx
    rw [Nat.sub_zero, Nat.add_zero, if_neg (by omega), show (x + 18446744073709551616 - y) % 18446744073709551616 = z by omega] at this
    exact this
  clear hz hx
  go_enter Tryz.func121, Tryz.ntmps121
  go_wp2_with fail
  exact bodyPost_ret (v := wdv z) (by simp [results, Tryz.results121, go_sem]) rfl ⟨rfl, jwd_al (jwd_al (jwd_al (Below.refl _ _) _) _) _⟩

set_option maxHeartbeats 1000000 in
theorem wless_any (x y : Nat) (v : Bool) (hv : decide (x < y) = v) (w : World) :
    Calls Tryz.prog 120 #[wdv x, wdv y] w fun e w' => e = .returned (.bool v) ∧ Below w.heap.size w w' := by
  subst hv
  go_enter Tryz.func120, Tryz.ntmps120
  go_wp2_with fail
  go_ret
  exact ⟨by simp, jwd_al (jwd_al (Below.refl _ _) _) _⟩

theorem shr_bit (x k : Nat) (hx : x < two64) (h : 64 ≤ k) : x >>> k = 0 := by
  rw [Nat.shiftRight_eq_div_pow]
  have : 2 ^ 64 ≤ 2 ^ k := Nat.pow_le_pow_right (by decide) h
  exact Nat.div_eq_of_lt (Nat.lt_of_lt_of_le (by rw [lt_two64] at hx; exact hx) this)

theorem ret_u64 {a b : Int} (h : a = b) : Ending.returned (.int .u64 a) = .returned (.int .u64 b) := by rw [h]
theorem bits_low (a : Nat) (ha : a < two64) : bits .and .u64 (a : Int) 1 = ((a % 2 : Nat) : Int) := by
  have h := bits_and_u64_nat a 1 ha (by omega)
  have e : a &&& 1 = a % 2 := Nat.and_two_pow_sub_one_eq_mod a 1
  rw [e] at h
  exact h

set_option maxHeartbeats 1000000 in
theorem wbit_any (x k t : Nat) (hx : x < two64) (hk : k < 128) (ht : x >>> k % 2 = t) (w : World) :
    Calls Tryz.prog 119 #[wdv x, .int .i64 (k : Int)] w fun e w' => e = .returned (.int .u64 (t : Int)) ∧ Below w.heap.size w w' := by
  by_cases h : 64 ≤ k
  · rw [shr_bit x k hx h] at ht
    have e := bits_low 0 (by decide)
    rw [ht] at e
    have eH := Lib.hid e
    clear hx ht e
    go_enter Tryz.func119, Tryz.ntmps119
    go_wp2_with fail
    go_ret
    exact ⟨ret_u64 eH.out, jwd_al (Below.refl _ _) _⟩
  · have e : bits .and .u64 ((x : Int) / 2 ^ k) 1 = (t : Int) := by
      have h1 : x / 2 ^ k < two64 := Nat.lt_of_le_of_lt (Nat.div_le_self _ _) hx
      rw [← ht, Nat.shiftRight_eq_div_pow, ← bits_low _ h1]
      congr 1
    have eH := Lib.hid e
    clear hx e ht
    go_enter Tryz.func119, Tryz.ntmps119
    go_wp2_with fail
    go_ret
    exact ⟨ret_u64 eH.out, jwd_al (Below.refl _ _) _⟩

theorem shr_succ (a k : Nat) : a >>> k = 2 * (a >>> (k + 1)) + a >>> k % 2 := by
  have : a >>> (k + 1) = a >>> k / 2 := Nat.shiftRight_succ a k
  omega
/-- One step of the division, bit by bit. -/
theorem part_step {a b k r q : Nat} (hb : 0 < b) (hr : r = a >>> (k + 1) % b) (hq : q = a >>> (k + 1) / b) :
    (b ≤ r + r + a >>> k % 2 → r + r + a >>> k % 2 - b = a >>> k % b ∧ q + q + 1 = a >>> k / b) ∧ (r + r + a >>> k % 2 < b → r + r + a >>> k % 2 = a >>> k % b ∧ q + q = a >>> k / b) := by
  have h1 := shr_succ a k
  have h2 := Nat.div_add_mod (a >>> (k + 1)) b
  have h3 := Nat.mod_lt (a >>> (k + 1)) hb
  rw [← hr, ← hq] at h2
  rw [← hr] at h3
  obtain ⟨t, ht⟩ : ∃ t, a >>> k % 2 = t := ⟨_, rfl⟩
  have ht2 : t < 2 := by omega
  rw [ht] at h1 ⊢
  have h4 : a >>> k = b * (q + q) + (r + r + t) := by rw [h1, ← h2]; simp only [Nat.mul_add]; omega
  constructor
  · intro h
    have h5 : a >>> k = b * (q + q + 1) + (r + r + t - b) := by rw [h4, Nat.mul_add b (q + q) 1]; omega
    rw [h5]
    exact ⟨by rw [Nat.mul_add_mod, Nat.mod_eq_of_lt (by omega)], by rw [Nat.mul_add_div hb, Nat.div_eq_of_lt (show r + r + t - b < b by omega)]⟩
  · intro h
    rw [h4]
    exact ⟨by rw [Nat.mul_add_mod, Nat.mod_eq_of_lt h], by rw [Nat.mul_add_div hb, Nat.div_eq_of_lt h, Nat.add_zero]⟩

/-- The memory of the division. -/
structure PW (w : World) (a b q r : Nat) (W : World) : Prop where
  k2 : Blk W w.heap.size 156 #[.int .u64 0, .int .u64 (a : Int)]
  k3 : Blk W (w.heap.size + 1) 156 #[.int .u64 0, .int .u64 (b : Int)]
  k4 : Blk W (w.heap.size + 1 + 1) 156 #[.int .u64 0, .int .u64 0]
  k5 : Blk W (w.heap.size + 1 + 1 + 1) 156 #[.int .u64 0, .int .u64 0]
  k6 : Blk W (w.heap.size + 1 + 1 + 1 + 1) 156 #[.int .u64 0, .int .u64 (q : Int)]
  k7 : Blk W (w.heap.size + 1 + 1 + 1 + 1 + 1) 156 #[.int .u64 0, .int .u64 (r : Int)]
  low : Below w.heap.size w W
theorem PW.start (w : World) (a b : Nat) : PW w a b 0 0 ((((((w.alloc (.cells #[.int .u64 0, .int .u64 (a : Int)] 156)).alloc (.cells #[.int .u64 0, .int .u64 (b : Int)] 156)).alloc (.cells #[.int .u64 0, .int .u64 0] 156)).alloc (.cells #[.int .u64 0, .int .u64 0] 156)).alloc (.cells #[.int .u64 0, .int .u64 0] 156)).alloc (.cells #[.int .u64 0, .int .u64 0] 156)) where
  k2 := (((((Blk.new w _ _).alloc _).alloc _).alloc _).alloc _).alloc _
  k3 := by simpa only [World.size_alloc] using ((((Blk.new (w.alloc (.cells #[.int .u64 0, .int .u64 (a : Int)] 156)) 156 #[.int .u64 0, .int .u64 (b : Int)]).alloc _).alloc _).alloc _).alloc _
  k4 := by simpa only [World.size_alloc] using (((Blk.new ((w.alloc (.cells #[.int .u64 0, .int .u64 (a : Int)] 156)).alloc (.cells #[.int .u64 0, .int .u64 (b : Int)] 156)) 156 #[.int .u64 0, .int .u64 0]).alloc _).alloc _).alloc _
  k5 := by simpa only [World.size_alloc] using ((Blk.new (((w.alloc (.cells #[.int .u64 0, .int .u64 (a : Int)] 156)).alloc (.cells #[.int .u64 0, .int .u64 (b : Int)] 156)).alloc (.cells #[.int .u64 0, .int .u64 0] 156)) 156 #[.int .u64 0, .int .u64 0]).alloc _).alloc _
  k6 := by
    have h := (Blk.new ((((w.alloc (.cells #[.int .u64 0, .int .u64 (a : Int)] 156)).alloc (.cells #[.int .u64 0, .int .u64 (b : Int)] 156)).alloc (.cells #[.int .u64 0, .int .u64 0] 156)).alloc (.cells #[.int .u64 0, .int .u64 0] 156)) 156 #[.int .u64 0, .int .u64 0]).alloc (.cells #[.int .u64 0, .int .u64 0] 156)
    simp only [World.size_alloc] at h
    exact h
  k7 := by
    have h := (Blk.new (((((w.alloc (.cells #[.int .u64 0, .int .u64 (a : Int)] 156)).alloc (.cells #[.int .u64 0, .int .u64 (b : Int)] 156)).alloc (.cells #[.int .u64 0, .int .u64 0] 156)).alloc (.cells #[.int .u64 0, .int .u64 0] 156)).alloc (.cells #[.int .u64 0, .int .u64 0] 156)) 156 #[.int .u64 0, .int .u64 0])
    simp only [World.size_alloc] at h
    exact h
  low := jwd_al (jwd_al (jwd_al (jwd_al (jwd_al (jwd_al (Below.refl _ _) _) _) _) _) _) _
theorem PW.below {w : World} {a b q r : Nat} {W W' : World} (h : PW w a b q r W) (hb : Below W.heap.size W W') : PW w a b q r W' where
  k2 := h.k2.below hb h.k2.lt
  k3 := h.k3.below hb h.k3.lt
  k4 := h.k4.below hb h.k4.lt
  k5 := h.k5.below hb h.k5.lt
  k6 := h.k6.below hb h.k6.lt
  k7 := h.k7.below hb h.k7.lt
  low := h.low.trans (hb.mono h.low.size)
theorem PW.setR {w : World} {a b q r : Nat} {W : World} (h : PW w a b q r W) (x : Nat) : PW w a b q x ((W.setCell ⟨w.heap.size + 1 + 1 + 1 + 1 + 1, 0, none⟩ (.int .u64 0)).setCell ⟨w.heap.size + 1 + 1 + 1 + 1 + 1, 1, none⟩ (.int .u64 (x : Int))) where
  k2 := (h.k2.other (by simp; omega) _).other (by simp; omega) _
  k3 := (h.k3.other (by simp) _).other (by simp) _
  k4 := (h.k4.other (by simp) _).other (by simp) _
  k5 := (h.k5.other (by simp) _).other (by simp) _
  k6 := (h.k6.other (by simp) _).other (by simp) _
  k7 := (h.k7.set 0 _).set 1 _
  low := (h.low.setCell (by simp; omega) _).setCell (by simp; omega) _
theorem PW.setQ {w : World} {a b q r : Nat} {W : World} (h : PW w a b q r W) (x : Nat) : PW w a b x r ((W.setCell ⟨w.heap.size + 1 + 1 + 1 + 1, 0, none⟩ (.int .u64 0)).setCell ⟨w.heap.size + 1 + 1 + 1 + 1, 1, none⟩ (.int .u64 (x : Int))) where
  k2 := (h.k2.other (by simp; omega) _).other (by simp; omega) _
  k3 := (h.k3.other (by simp) _).other (by simp) _
  k4 := (h.k4.other (by simp) _).other (by simp) _
  k5 := (h.k5.other (by simp) _).other (by simp) _
  k6 := (h.k6.set 0 _).set 1 _
  k7 := (h.k7.other (by simp) _).other (by simp) _
  low := (h.low.setCell (by simp; omega) _).setCell (by simp; omega) _
theorem PW.setQ1 {w : World} {a b q r : Nat} {W : World} (h : PW w a b q r W) (x : Nat) : PW w a b x r (W.setCell ⟨w.heap.size + 1 + 1 + 1 + 1, 1, none⟩ (.int .u64 (x : Int))) where
  k2 := (h.k2.other (by simp; omega) _)
  k3 := (h.k3.other (by simp) _)
  k4 := (h.k4.other (by simp) _)
  k5 := (h.k5.other (by simp) _)
  k6 := (h.k6.set 1 _)
  k7 := (h.k7.other (by simp) _)
  low := (h.low.setCell (by simp; omega) _)

set_option maxRecDepth 100000 in
set_option maxHeartbeats 4000000 in
theorem parted_any (a b q0 r0 : Nat) (hq0 : a / b = q0) (hr0 : a % b = r0) (ha : a < two63) (hb : b < two63) (hb0 : 0 < b) (w : World) :
    Calls Tryz.prog 108 #[wdv a, wdv b] w fun e w' => e = .returned (.tuple #[wdv q0, wdv r0]) ∧ Below w.heap.size w w' := by
  have hst := PW.start w a b
  have haH := Lib.hid ha
  have hq0H := Lib.hid hq0
  have hr0H := Lib.hid hr0
  have hbH := Lib.hid hb
  have ha0 : a >>> 128 = 0 := shr_bit a 128 (by rw [lt_two63] at ha; rw [lt_two64]; omega) (by omega)
  have hrel0 : PW w a b (a >>> 128 / b) (a >>> 128 % b) ((((((w.alloc (.cells #[.int .u64 0, .int .u64 (a : Int)] 156)).alloc (.cells #[.int .u64 0, .int .u64 (b : Int)] 156)).alloc (.cells #[.int .u64 0, .int .u64 0] 156)).alloc (.cells #[.int .u64 0, .int .u64 0] 156)).alloc (.cells #[.int .u64 0, .int .u64 0] 156)).alloc (.cells #[.int .u64 0, .int .u64 0] 156)) := by
    rw [ha0, Nat.zero_div, Nat.zero_mod]; exact hst
  have hrel0H := Lib.hid hrel0
  clear ha hb ha0 hst hrel0 hq0 hr0
  go_enter Tryz.func108, Tryz.ntmps108
  go_wp2_with fail
  go_loopw [8] (fun i wr => ∃ k : Nat, k ≤ 128 ∧ i = .int .i64 ((k : Int) - 1) ∧ PW w a b (a >>> k / b) (a >>> k % b) wr) (fun i _ => (intOf i + 1).toNat)
  case atStart => exact ⟨128, by omega, rfl, hrel0H.out⟩
  case round =>
    clear hrel0H
    obtain ⟨k, hk, hi, hP⟩ := hrel
    rcases k with _ | j
    · obtain rfl : u8 = .int .i64 (-1) := hi
      rw [show a >>> 0 = a from rfl, hq0H.out, hr0H.out] at hP
      have c60 := hP.k6.cell (i := 0) rfl
      have c61 := hP.k6.cell (i := 1) rfl
      have c70 := hP.k7.cell (i := 0) rfl
      have c71 := hP.k7.cell (i := 1) rfl
      have hPH := Lib.hid hP
      clear hP
      have P0 := hPH.out.below (Below.refl _ _).drew
      have c40 := P0.k4.cell (i := 0) rfl
      have c41 := P0.k4.cell (i := 1) rfl
      have c50 := P0.k5.cell (i := 0) rfl
      have c51 := P0.k5.cell (i := 1) rfl
      have f40 := P0.k4.frozen 0
      have f41 := P0.k4.frozen 1
      have f50 := P0.k5.frozen 0
      have f51 := P0.k5.frozen 1
      have p4 := P0.k4
      have p5 := P0.k5
      have p6 := P0.k6
      have p7 := P0.k7
      have hS : Blk wr.drew (w.heap.size + 1 + 1 + 1 + 1) 156 #[.int .u64 0, .int .u64 (q0 : Int)] ∧ Blk wr.drew (w.heap.size + 1 + 1 + 1 + 1 + 1) 156 #[.int .u64 0, .int .u64 (r0 : Int)] := ⟨p6, p7⟩
      have low0 := P0.low
      clear P0 c60 c61 c70 c71
      go_wp2_with fail
      refine plain_region (fun W' => Blk W' (w.heap.size + 1 + 1 + 1 + 1) 156 #[.int .u64 0, .int .u64 (q0 : Int)] ∧ Blk W' (w.heap.size + 1 + 1 + 1 + 1 + 1) 156 #[.int .u64 0, .int .u64 (r0 : Int)]) 3 4 (by kernel_rfl) rfl ?_
      obtain ⟨V, hV⟩ : ∃ V, wr.drew = V := ⟨_, rfl⟩
      rw [hV] at c40 c41 c50 c51 f40 f41 f50 f51 p4 p5 p6 p7 hS low0 ⊢
      clear hV
      simp only [Array.replicate_succ, Array.replicate_zero, List.push_toArray, List.nil_append, List.cons_append]
      refine take_op 0 (v := ?zv0) rfl (by kernel_rfl) (fun _ _ _ h => h) (by rfl) hS (fun w' hS' => ?zy0) ?zz0
      case zy0 =>
        have z0 := hS'.1.cell (i := 0) rfl
        have z1 := hS'.1.cell (i := 1) rfl
        have y0 := hS'.2.cell (i := 0) rfl
        have y1 := hS'.2.cell (i := 1) rfl
        clear hS'
        go_simp
        rfl
      simp only [List.setIfInBounds_toArray, List.set_cons_zero, List.set_cons_succ]
      refine take_op 1 (v := ?zv1) rfl (by kernel_rfl) (fun _ _ _ h => h) (by rfl) hS (fun w' hS' => ?zy1) ?zz1
      case zy1 =>
        have z0 := hS'.1.cell (i := 0) rfl
        have z1 := hS'.1.cell (i := 1) rfl
        have y0 := hS'.2.cell (i := 0) rfl
        have y1 := hS'.2.cell (i := 1) rfl
        clear hS'
        go_simp
        rfl
      simp only [List.setIfInBounds_toArray, List.set_cons_zero, List.set_cons_succ]
      refine step_op 2 (by kernel_rfl) rfl (fun K hK => ?_)
      rw [if_pos (by rfl)]
      go_simp
      refine hK.out _ _ (fun h => ⟨(p6.other (by simp <;> omega) _).other (by simp <;> omega) _, (p7.other (by simp <;> omega) _).other (by simp <;> omega) _⟩) ?_
      clear hK K
      try simp only [Act.put, List.setIfInBounds_toArray, List.set_cons_zero, List.set_cons_succ]
      refine step_op 3 (by kernel_rfl) rfl (fun K hK => ?_)
      rw [if_pos (by rfl)]
      go_simp
      refine hK.out _ _ (fun h => absurd h (by omega)) ?_
      clear hK K
      try simp only [Act.put, List.setIfInBounds_toArray, List.set_cons_zero, List.set_cons_succ]
      refine done_ops (by kernel_rfl) ?_
      have K4 := (((p4.set 0 (.int .u64 0)).set 1 (.int .u64 (q0 : Int))).other (a := ⟨w.heap.size + 1 + 1 + 1, 0, none⟩) (by simp <;> omega) (.int .u64 0)).other (a := ⟨w.heap.size + 1 + 1 + 1, 1, none⟩) (by simp <;> omega) (.int .u64 (r0 : Int))
      have K5 := (((p5.other (a := ⟨w.heap.size + 1 + 1, 0, none⟩) (by simp <;> omega) (.int .u64 0)).other (a := ⟨w.heap.size + 1 + 1, 1, none⟩) (by simp <;> omega) (.int .u64 (q0 : Int))).set 0 (.int .u64 0)).set 1 (.int .u64 (r0 : Int))
      have L := (((low0.setCell (p := ⟨w.heap.size + 1 + 1, 0, none⟩) (by simp; omega) (.int .u64 0)).setCell (p := ⟨w.heap.size + 1 + 1, 1, none⟩) (by simp; omega) (.int .u64 (q0 : Int))).setCell (p := ⟨w.heap.size + 1 + 1 + 1, 0, none⟩) (by simp; omega) (.int .u64 0)).setCell (p := ⟨w.heap.size + 1 + 1 + 1, 1, none⟩) (by simp; omega) (.int .u64 (r0 : Int))
      clear c40 c41 c50 c51 f40 f41 f50 f51 p4 p5 p6 p7 hS low0
      revert K4 K5 L
      generalize (((V.setCell ⟨w.heap.size + 1 + 1, 0, none⟩ (.int .u64 0)).setCell ⟨w.heap.size + 1 + 1, 1, none⟩ (.int .u64 (q0 : Int))).setCell ⟨w.heap.size + 1 + 1 + 1, 0, none⟩ (.int .u64 0)).setCell ⟨w.heap.size + 1 + 1 + 1, 1, none⟩ (.int .u64 (r0 : Int)) = Vf
      intro K4 K5 L
      have g40 := K4.cell (i := 0) rfl
      have g41 := K4.cell (i := 1) rfl
      have g50 := K5.cell (i := 0) rfl
      have g51 := K5.cell (i := 1) rfl
      go_wp2_with fail
      exact bodyPost_ret (v := .tuple #[wdv q0, wdv r0]) (by simp [results, Tryz.results108, go_sem, g40, g41, g50, g51]) rfl ⟨rfl, L⟩
    · rw [show (((j + 1 : Nat) : Int) - 1) = (j : Int) by omega] at hi
      subst hi
      obtain ⟨q, hq⟩ : ∃ q, a >>> (j + 1) / b = q := ⟨_, rfl⟩
      obtain ⟨r, hr⟩ : ∃ r, a >>> (j + 1) % b = r := ⟨_, rfl⟩
      rw [hq, hr] at hP
      have hrb : r < b := by rw [← hr]; exact Nat.mod_lt _ hb0
      have hqa : q + q + 1 < two63 + two63 := by
        have h1 : q ≤ a >>> (j + 1) := by rw [← hq]; exact Nat.div_le_self _ _
        have h2 : a >>> (j + 1) ≤ a / 2 := by
          rw [Nat.shiftRight_succ]; exact Nat.div_le_div_right (by rw [Nat.shiftRight_eq_div_pow]; exact Nat.div_le_self _ _)
        have h3 := haH.out
        rw [lt_two63] at h3
        show _ < 9223372036854775808 + 9223372036854775808
        omega
      have p7 := hP.k7
      have p2 := hP.k2
      obtain ⟨t, ht⟩ : ∃ t, a >>> j % 2 = t := ⟨_, rfl⟩
      have ht2 : t < 2 := by rw [← ht]; exact Nat.mod_lt _ (by omega)
      obtain ⟨rr, hrr⟩ : ∃ x, r + r = x := ⟨_, rfl⟩
      obtain ⟨r2, hr2⟩ : ∃ x, rr + t = x := ⟨_, rfl⟩
      have hps := part_step hb0 hr.symm hq.symm
      rw [ht, hrr, hr2] at hps
      have hpsH := Lib.hid hps
      have hrrH := Lib.hid hrr
      have hr2H := Lib.hid hr2
      have htH := Lib.hid ht
      have ht2H := Lib.hid ht2
      have hS := (Below.refl wr.heap.size wr).drew
      have hPH := Lib.hid hP
      have hqH := Lib.hid hqa
      have hrH := Lib.hid hrb
      clear hq hr hP hqa hrb hps hrr hr2 ht ht2
      go_wp2_with fail
      refine plain_region (fun W' => Below wr.heap.size wr W') 8 9 (by kernel_rfl) rfl ?_
      simp only [Array.replicate_succ, Array.replicate_zero, List.push_toArray, List.nil_append, List.cons_append]
      refine take_op 0 (v := ?rv0) rfl (by kernel_rfl) (fun _ _ _ h => h) (by rfl) hS (fun w' hS' => ?ry0) ?rz0
      case ry0 =>
        have z0 := (p7.below hS' p7.lt).cell (i := 0) rfl
        have z1 := (p7.below hS' p7.lt).cell (i := 1) rfl
        have y0 := (p2.below hS' p2.lt).cell (i := 0) rfl
        have y1 := (p2.below hS' p2.lt).cell (i := 1) rfl
        clear hS'
        go_simp
        rfl
      simp only [List.setIfInBounds_toArray, List.set_cons_zero, List.set_cons_succ]
      refine take_op 1 (v := ?rv1) rfl (by kernel_rfl) (fun _ _ _ h => h) (by rfl) hS (fun w' hS' => ?ry1) ?rz1
      case ry1 =>
        have z0 := (p7.below hS' p7.lt).cell (i := 0) rfl
        have z1 := (p7.below hS' p7.lt).cell (i := 1) rfl
        have y0 := (p2.below hS' p2.lt).cell (i := 0) rfl
        have y1 := (p2.below hS' p2.lt).cell (i := 1) rfl
        clear hS'
        go_simp
        rfl
      simp only [List.setIfInBounds_toArray, List.set_cons_zero, List.set_cons_succ]
      refine take_op 3 (v := ?rv3) rfl (by kernel_rfl) (fun _ _ _ h => h) (by rfl) hS (fun w' hS' => ?ry3) ?rz3
      case ry3 =>
        have z0 := (p7.below hS' p7.lt).cell (i := 0) rfl
        have z1 := (p7.below hS' p7.lt).cell (i := 1) rfl
        have y0 := (p2.below hS' p2.lt).cell (i := 0) rfl
        have y1 := (p2.below hS' p2.lt).cell (i := 1) rfl
        clear hS'
        go_simp
        rfl
      simp only [List.setIfInBounds_toArray, List.set_cons_zero, List.set_cons_succ]
      refine take_op 4 (v := ?rv4) rfl (by kernel_rfl) (fun _ _ _ h => h) (by rfl) hS (fun w' hS' => ?ry4) ?rz4
      case ry4 =>
        go_simp
        rfl
      simp only [List.setIfInBounds_toArray, List.set_cons_zero, List.set_cons_succ]
      refine step_op 2 (by kernel_rfl) rfl (fun K hK => ?_)
      rw [if_pos (by rfl)]
      go_simp
      refine (wplus_any r r rr hrrH.out (by have := hrrH.out; have := hrH.out; have := hbH.out; rw [lt_two63] at this; rw [lt_two64]; omega) _).mono ?_
      rintro e W2 ⟨rfl, hb2⟩
      have hS2 := hS.trans (hb2.mono hS.size)
      refine hK.out _ _ (fun h => hS2) ?_
      clear hK K
      try simp only [Act.put, List.setIfInBounds_toArray, List.set_cons_zero, List.set_cons_succ]
      refine step_op 5 (by kernel_rfl) rfl (fun K hK => ?_)
      rw [if_pos (by rfl)]
      go_simp
      refine (wbit_any a j t (by have := haH.out; rw [lt_two63] at this; rw [lt_two64]; omega) (by omega) htH.out _).mono ?_
      rintro e W3 ⟨rfl, hb3⟩
      have hS3 := hS2.trans (hb3.mono hS2.size)
      refine hK.out _ _ (fun h => hS3) ?_
      clear hK K
      try simp only [Act.put, List.setIfInBounds_toArray, List.set_cons_zero, List.set_cons_succ]
      refine take_op 6 (v := ?rv6) rfl (by kernel_rfl) (fun _ _ _ h => h) (by rfl) hS3 (fun w' hS' => ?ry6) ?rz6
      case ry6 =>
        go_simp
        rfl
      simp only [List.setIfInBounds_toArray, List.set_cons_zero, List.set_cons_succ]
      refine step_op 7 (by kernel_rfl) rfl (fun K hK => ?_)
      rw [if_pos (by rfl)]
      go_simp
      refine (wplus_any rr t r2 hr2H.out (by have := hr2H.out; have := hrrH.out; have := ht2H.out; have := hrH.out; have := hbH.out; rw [lt_two63] at this; rw [lt_two64]; omega) _).mono ?_
      rintro e W4 ⟨rfl, hb4⟩
      have hS4 := hS3.trans (hb4.mono hS3.size)
      refine hK.out _ _ (fun h => hS4) ?_
      clear hK K
      try simp only [Act.put, List.setIfInBounds_toArray, List.set_cons_zero, List.set_cons_succ]
      refine step_op 8 (by kernel_rfl) rfl (fun K hK => ?_)
      rw [if_pos (by rfl)]
      have z0 := (p7.below hS4 p7.lt).cell (i := 0) rfl
      have z1 := (p7.below hS4 p7.lt).cell (i := 1) rfl
      have f0 := (p7.below hS4 p7.lt).frozen 0
      have f1 := (p7.below hS4 p7.lt).frozen 1
      go_simp
      refine hK.out _ _ (fun h => absurd h (by omega)) ?_
      clear hK K
      try simp only [Act.put, List.setIfInBounds_toArray, List.set_cons_zero, List.set_cons_succ]
      refine done_ops (by kernel_rfl) ?_
      have P5 := (hPH.out.below hS4).setR r2
      have hr2b : r2 < b + b := by have := hrH.out; have := hr2H.out; have := hrrH.out; have := ht2H.out; omega
      clear hb2 hb3 hb4 hS hS2 hS3 hS4 p7 p2
      revert P5
      generalize (W4.setCell ⟨w.heap.size + 1 + 1 + 1 + 1 + 1, 0, none⟩ (.int .u64 0)).setCell ⟨w.heap.size + 1 + 1 + 1 + 1 + 1, 1, none⟩ (.int .u64 (r2 : Int)) = V5
      intro P5
      clear z0 z1 f0 f1
      clear W2 W3 W4
      have q0 := P5.k6.cell (i := 0) rfl
      have q1 := P5.k6.cell (i := 1) rfl
      have P5H := Lib.hid P5
      clear P5
      obtain ⟨qq, hqq⟩ : ∃ x, q + q = x := ⟨_, rfl⟩
      have hqqb : qq < two64 := by have := hqH.out; have e : two63 + two63 = two64 := rfl; omega
      have hqqH := Lib.hid hqq
      have hqqbH := Lib.hid hqqb
      clear hqq hqqb
      by_cases hlt : r2 < b
      · have hl := hpsH.out.2 hlt
        have hlH := Lib.hid hl
        have hdH := Lib.hid (show decide (r2 < b) = true by simp [hlt])
        clear hl hlt
        go_wp2_with (first
          | (go_at_call 118; refine (wplus_any q q qq hqqH.out hqqbH.out _).mono ?_; rintro e V6 ⟨rfl, hb6⟩; have P6 := P5H.out.below hb6; clear hb6 q0 q1; have q0 := P6.k6.cell (i := 0) rfl; have q1 := P6.k6.cell (i := 1) rfl; have qf0 := P6.k6.frozen 0; have qf1 := P6.k6.frozen 1; have r0 := P6.k7.cell (i := 0) rfl; have r1 := P6.k7.cell (i := 1) rfl; have b0 := P6.k3.cell (i := 0) rfl; have b1 := P6.k3.cell (i := 1) rfl; have P6' := P6.setQ qq; have P6H := Lib.hid P6'; clear P6 P6' P5H)
          | (go_at_call 120; refine (wless_any r2 b true hdH.out _).mono ?_; rintro e V7 ⟨rfl, hb7⟩; have P7 := P6H.out.below hb7; clear hb7))
        go_roundw
        case rel => exact ⟨j, by omega, rfl, by rw [← hlH.out.1, ← hlH.out.2, hqqH.out]; exact P7⟩
        case measure => simp [intOf] <;> omega
      · obtain ⟨r3, hr3⟩ : ∃ x, r2 - b = x := ⟨_, rfl⟩
        obtain ⟨q3, hq3⟩ : ∃ x, qq + 1 = x := ⟨_, rfl⟩
        have hl := hpsH.out.1 (by omega)
        rw [hr3, hqqH.out, hq3] at hl
        have hlH := Lib.hid hl
        have hdH := Lib.hid (show decide (r2 < b) = false by simp; omega)
        have hmH := Lib.hid (show r2 = b + r3 by omega)
        have hw : IntKind.u64.wrap ((qq : Int) + 1) = (q3 : Int) := by
          have := hqH.out
          have e : two63 + two63 = 18446744073709551616 := rfl
          have := hqqH.out
          rw [IntKind.wrap_u64]
          omega
        have hr2H := Lib.hid hr2b
        clear hl hlt hr3 hq3 hr2b
        go_wp2_with (first
          | (go_at_call 118; refine (wplus_any q q qq hqqH.out hqqbH.out _).mono ?_; rintro e V6 ⟨rfl, hb6⟩; have P6 := P5H.out.below hb6; clear hb6 q0 q1; have q0 := P6.k6.cell (i := 0) rfl; have q1 := P6.k6.cell (i := 1) rfl; have qf0 := P6.k6.frozen 0; have qf1 := P6.k6.frozen 1; have r0 := P6.k7.cell (i := 0) rfl; have r1 := P6.k7.cell (i := 1) rfl; have b0 := P6.k3.cell (i := 0) rfl; have b1 := P6.k3.cell (i := 1) rfl; have P6' := P6.setQ qq; have P6H := Lib.hid P6'; clear P6 P6' P5H)
          | (go_at_call 120; refine (wless_any r2 b false hdH.out _).mono ?_; rintro e V7 ⟨rfl, hb7⟩; have P7 := P6H.out.below hb7; clear hb7 q0 q1 qf0 qf1 r0 r1 b0 b1 P6H; have r0 := P7.k7.cell (i := 0) rfl; have r1 := P7.k7.cell (i := 1) rfl; have b0 := P7.k3.cell (i := 0) rfl; have b1 := P7.k3.cell (i := 1) rfl; have P7H := Lib.hid P7; clear P7)
          | (go_at_call 121; refine (wminus_any r2 b r3 (by have := hr2H.out; have := hbH.out; rw [lt_two63] at this; rw [lt_two64]; omega) hmH.out _).mono ?_; rintro e V8 ⟨rfl, hb8⟩; have P8 := P7H.out.below hb8; clear hb8 r0 r1 b0 b1 P7H; have r0 := P8.k7.cell (i := 0) rfl; have r1 := P8.k7.cell (i := 1) rfl; have rf0 := P8.k7.frozen 0; have rf1 := P8.k7.frozen 1; have q0 := P8.k6.cell (i := 0) rfl; have q1 := P8.k6.cell (i := 1) rfl; have qf0 := P8.k6.frozen 0; have qf1 := P8.k6.frozen 1; have P9 := (P8.setR r3).setQ1 q3; have P9H := Lib.hid P9; clear P8 P9))
        go_roundw
        case rel => exact ⟨j, by omega, rfl, by rw [← hlH.out.1, ← hlH.out.2]; exact P9H.out⟩
        case measure => simp [intOf] <;> omega

/-! ### The greatest common divisor -/

/-- The memory of it. -/
structure GW (w : World) (a b : Nat) (W : World) : Prop where
  k2 : Blk W w.heap.size 156 #[.int .u64 0, .int .u64 (a : Int)]
  k3 : Blk W (w.heap.size + 1) 156 #[.int .u64 0, .int .u64 (b : Int)]
  k4 : Blk W (w.heap.size + 1 + 1) 156 #[.int .u64 0, .int .u64 0]
  low : Below w.heap.size w W
theorem GW.start (w : World) (a b : Nat) : GW w a b (((w.alloc (.cells #[.int .u64 0, .int .u64 (a : Int)] 156)).alloc (.cells #[.int .u64 0, .int .u64 (b : Int)] 156)).alloc (.cells #[.int .u64 0, .int .u64 0] 156)) where
  k2 := ((Blk.new w _ _).alloc _).alloc _
  k3 := by simpa only [World.size_alloc] using (Blk.new (w.alloc (.cells #[.int .u64 0, .int .u64 (a : Int)] 156)) 156 #[.int .u64 0, .int .u64 (b : Int)]).alloc _
  k4 := by simpa only [World.size_alloc] using Blk.new ((w.alloc (.cells #[.int .u64 0, .int .u64 (a : Int)] 156)).alloc (.cells #[.int .u64 0, .int .u64 (b : Int)] 156)) 156 #[.int .u64 0, .int .u64 0]
  low := jwd_al (jwd_al (jwd_al (Below.refl _ _) _) _) _
theorem GW.below {w : World} {a b : Nat} {W W' : World} (h : GW w a b W) (hb : Below W.heap.size W W') : GW w a b W' where
  k2 := h.k2.below hb h.k2.lt
  k3 := h.k3.below hb h.k3.lt
  k4 := h.k4.below hb h.k4.lt
  low := h.low.trans (hb.mono h.low.size)

theorem GW.next {w : World} {x y : Nat} {V : World} (h : GW w x y V) (q r : Nat) : GW w y r ((((((V.setCell ⟨w.heap.size, 0, none⟩ (.int .u64 0)).setCell ⟨w.heap.size, 1, none⟩ (.int .u64 (y : Int))).setCell ⟨w.heap.size + 1, 0, none⟩ (.int .u64 0)).setCell ⟨w.heap.size + 1, 1, none⟩ (.int .u64 (r : Int))).alloc (.cells #[.int .u64 0, .int .u64 (q : Int)] 156)).alloc (.cells #[.int .u64 0, .int .u64 (r : Int)] 156)) where
  k2 := (((((h.k2.set 0 _).set 1 _).other (by simp) _).other (by simp) _).alloc _).alloc _
  k3 := (((((h.k3.other (by simp) _).other (by simp) _).set 0 _).set 1 _).alloc _).alloc _
  k4 := (((((h.k4.other (by simp <;> omega) _).other (by simp <;> omega) _).other (by simp) _).other (by simp) _).alloc _).alloc _
  low := by
    have h4 := (((h.low.setCell (p := ⟨w.heap.size, 0, none⟩) (by simp) (.int .u64 0)).setCell (p := ⟨w.heap.size, 1, none⟩) (by simp) (.int .u64 (y : Int))).setCell (p := ⟨w.heap.size + 1, 0, none⟩) (by simp) (.int .u64 0)).setCell (p := ⟨w.heap.size + 1, 1, none⟩) (by simp) (.int .u64 (r : Int))
    exact jwd_al (jwd_al h4 _) _

theorem gcd_rec (a b : Nat) : Nat.gcd a b = Nat.gcd b (a % b) := by rw [Nat.gcd_comm a b, Nat.gcd_rec b a, Nat.gcd_comm]

set_option maxRecDepth 100000 in
set_option maxHeartbeats 4000000 in
theorem common_any (a b : Nat) (ha : a < two63) (hb : b < two63) (w : World) :
    Calls Tryz.prog 87 #[wdv a, wdv b] w fun e w' => e = .returned (wdv (Nat.gcd a b)) ∧ Below w.heap.size w w' := by
  have hrel0H := Lib.hid (GW.start w a b)
  have haH := Lib.hid ha
  have hbH := Lib.hid hb
  clear ha hb
  go_enter Tryz.func87, Tryz.ntmps87
  go_wp2_with fail
  go_loopw [] (fun wr => ∃ x y : Nat, Hid (x < two63) ∧ Hid (y < two63) ∧ Hid (Nat.gcd x y = Nat.gcd a b) ∧ GW w x y wr) (fun wr => match wr.cell? ⟨w.heap.size + 1, 1, none⟩ with | some v => (intOf v).toNat | none => 0)
  case atStart => exact ⟨a, b, haH, hbH, Lib.hid rfl, hrel0H.out⟩
  case round =>
    clear hrel0H
    obtain ⟨x, y, hx, hy, hg, hP⟩ := hrel
    have a0 := hP.k2.cell (i := 0) rfl
    have a1 := hP.k2.cell (i := 1) rfl
    have b0 := hP.k3.cell (i := 0) rfl
    have b1 := hP.k3.cell (i := 1) rfl
    have hmH := Lib.hid b1
    have hPH := Lib.hid hP
    by_cases e : y = 0
    · subst e
      have d0 := hP.k4.cell (i := 0) rfl
      have d1 := hP.k4.cell (i := 1) rfl
      have df0 := hP.k4.frozen 0
      have df1 := hP.k4.frozen 1
      clear hP
      go_wp2_with fail
      have hgx : x = Nat.gcd a b := by rw [← hg.out, Nat.gcd_zero_right]
      have L := (hPH.out.low.setCell (p := ⟨w.heap.size + 1 + 1, 0, none⟩) (by simp; omega) (.int .u64 0)).setCell (p := ⟨w.heap.size + 1 + 1, 1, none⟩) (by simp; omega) (.int .u64 (x : Int))
      have K4 := (hPH.out.k4.set 0 (.int .u64 0)).set 1 (.int .u64 (x : Int))
      clear hg a0 a1 b0 b1 d0 d1 df0 df1
      revert L K4
      generalize (wr.setCell ⟨w.heap.size + 1 + 1, 0, none⟩ (.int .u64 0)).setCell ⟨w.heap.size + 1 + 1, 1, none⟩ (.int .u64 (x : Int)) = Vf
      intro L K4
      have g0 := K4.cell (i := 0) rfl
      have g1 := K4.cell (i := 1) rfl
      rw [← hgx]
      exact bodyPost_ret (v := wdv x) (by simp [results, Tryz.results87, go_sem, g0, g1]) rfl ⟨rfl, L⟩
    · have e1 : ((y : Int) == 0) = false := by simp; omega
      have e2 : ((y : Int) != 0) = true := by simp; omega
      clear hP
      obtain ⟨q, hq⟩ : ∃ q, x / y = q := ⟨_, rfl⟩
      obtain ⟨r, hr⟩ : ∃ r, x % y = r := ⟨_, rfl⟩
      have hqH := Lib.hid hq
      have hrH := Lib.hid hr
      have hry : r < y := by rw [← hr]; exact Nat.mod_lt _ (by omega)
      have hpos : 0 < y := by omega
      clear hq hr e
      go_wp2_with (go_at_call 108; refine (parted_any x y q r hqH.out hrH.out hx.out hy.out hpos _).mono ?_; rintro e V1 ⟨rfl, hb1⟩; have P1 := hPH.out.below hb1; clear hb1 a0 a1 b0 b1 hPH; have a0 := P1.k2.cell (i := 0) rfl; have a1 := P1.k2.cell (i := 1) rfl; have b0 := P1.k3.cell (i := 0) rfl; have b1 := P1.k3.cell (i := 1) rfl; have af0 := P1.k2.frozen 0; have af1 := P1.k2.frozen 1; have bf0 := P1.k3.frozen 0; have bf1 := P1.k3.frozen 1; have l2 := P1.k2.lt; have l3 := P1.k3.lt; have P1H := Lib.hid P1; clear P1)
      go_roundw
      case rel => exact ⟨y, r, hy, Lib.hid (Nat.lt_trans hry hy.out), Lib.hid (by rw [← hg.out, gcd_rec x y, hrH.out]), P1H.out.next q r⟩
      case measure =>
        have h1 := (P1H.out.next q r).k3.cell (i := 1) rfl
        rw [h1, hmH.out]
        simp [intOf] <;> omega

/-! ### The absolute value; valid fractions -/

set_option maxHeartbeats 1000000 in
theorem rsize_any (n : Int) (hn : (Lit.int .i64 n).wf = true) (w : World) :
    Calls Tryz.prog 88 #[.int .i64 n] w fun e w' => e = .returned (.int .u64 (n.natAbs : Int)) ∧ w = w' := by
  have h0 : -9223372036854775808 ≤ n ∧ n ≤ 9223372036854775807 := by simpa [Lit.wf, IntKind.min, IntKind.max, IntKind.signed, IntKind.bits] using hn
  clear hn
  by_cases h : n < 0
  · have e : IntKind.u64.wrap (-IntKind.u64.wrap n) = (n.natAbs : Int) := by
      rw [IntKind.wrap_u64, IntKind.wrap_u64]
      omega
    have eH := Lib.hid e
    clear e h0
    go_enter Tryz.func88, Tryz.ntmps88
    go_wp2_with fail
    go_ret
    exact ⟨ret_u64 eH.out, rfl⟩
  · have e : IntKind.u64.wrap n = (n.natAbs : Int) := by
      rw [IntKind.wrap_u64]
      omega
    have eH := Lib.hid e
    clear e h0
    go_enter Tryz.func88, Tryz.ntmps88
    go_wp2_with fail
    go_ret
    exact ⟨ret_u64 eH.out, rfl⟩

/-- A fraction in lowest terms, of parts that are not too large. -/
def fracOk (num den : Int) : Bool := decide (1 ≤ den ∧ den ≤ 4611686018427387903 ∧ -4611686018427387903 ≤ num ∧ num ≤ 4611686018427387903) && (Nat.gcd num.natAbs den.natAbs == 1)
abbrev frv (num den : Int) : Value := .agg #[.int .i64 num, .int .i64 den]

theorem fracOk_bad {num den : Int} (h : den < 1 ∨ 4611686018427387903 < den ∨ num < -4611686018427387903 ∨ 4611686018427387903 < num) : fracOk num den = false := by
  unfold fracOk
  rw [show decide (1 ≤ den ∧ den ≤ 4611686018427387903 ∧ -4611686018427387903 ≤ num ∧ num ≤ 4611686018427387903) = false by simp only [decide_eq_false_iff_not]; omega]
  rfl
theorem fracOk_good {num den : Int} (h1 : ¬ den < 1) (h2 : ¬ 4611686018427387903 < den) (h3 : ¬ num < -4611686018427387903) (h4 : ¬ 4611686018427387903 < num) : fracOk num den = (Nat.gcd num.natAbs den.natAbs == 1) := by
  unfold fracOk
  rw [show decide (1 ≤ den ∧ den ≤ 4611686018427387903 ∧ -4611686018427387903 ≤ num ∧ num ≤ 4611686018427387903) = true by simp only [decide_eq_true_eq]; omega]
  rfl
theorem ret_b {a b : Bool} (h : a = b) : Ending.returned (.bool a) = .returned (.bool b) := by rw [h]

set_option maxRecDepth 100000 in
set_option maxHeartbeats 4000000 in
theorem rValid_any (num den : Int) (hn : (Lit.int .i64 num).wf = true) (hd : (Lit.int .i64 den).wf = true) (w : World) :
    Calls Tryz.prog 60 #[frv num den] w fun e w' => e = .returned (.bool (fracOk num den)) ∧ Below w.heap.size w w' := by
  have k1 := Blk.new w 23 #[.int .i64 num, .int .i64 den]
  have hB1 : Below w.heap.size w (w.alloc (.cells #[.int .i64 num, .int .i64 den] 23)) := jwd_al (Below.refl _ _) _
  by_cases h1 : den < 1
  · have hb := Lib.hid (fracOk_bad (num := num) (den := den) (.inl h1))
    clear hn hd k1
    go_enter Tryz.func60, Tryz.ntmps60
    go_wp2_with fail
    go_ret
    exact ⟨ret_b hb.out.symm, hB1⟩
  by_cases h2 : 4611686018427387903 < den
  · have hb := Lib.hid (fracOk_bad (num := num) (den := den) (.inr (.inl h2)))
    clear hn hd k1
    go_enter Tryz.func60, Tryz.ntmps60
    go_wp2_with fail
    go_ret
    exact ⟨ret_b hb.out.symm, hB1⟩
  by_cases h3 : num < -4611686018427387903
  · have hb := Lib.hid (fracOk_bad (num := num) (den := den) (.inr (.inr (.inl h3))))
    clear hn hd k1
    go_enter Tryz.func60, Tryz.ntmps60
    go_wp2_with fail
    go_ret
    exact ⟨ret_b hb.out.symm, hB1⟩
  by_cases h4 : 4611686018427387903 < num
  · have hb := Lib.hid (fracOk_bad (num := num) (den := den) (.inr (.inr (.inr h4))))
    clear hn hd k1
    go_enter Tryz.func60, Tryz.ntmps60
    go_wp2_with fail
    go_ret
    exact ⟨ret_b hb.out.symm, hB1⟩
  have hg := fracOk_good h1 h2 h3 h4
  have n1 : num.natAbs < two63 := by rw [lt_two63]; omega
  have n2 : den.natAbs < two63 := by rw [lt_two63]; omega
  obtain ⟨x, hx⟩ : ∃ x, num.natAbs = x := ⟨_, rfl⟩
  obtain ⟨y, hy⟩ : ∃ y, den.natAbs = y := ⟨_, rfl⟩
  have c1 := fun (W : World) => rsize_any num hn W
  have c2 := fun (W : World) => rsize_any den hd W
  rw [hx] at n1 hg c1
  rw [hy] at n2 hg c2
  have c3 := fun (W : World) => common_any x y n1 n2 W
  obtain ⟨g, hgx⟩ : ∃ g, Nat.gcd x y = g := ⟨_, rfl⟩
  rw [hgx] at hg c3
  have hgH := Lib.hid hg
  have c1H := Lib.hid c1
  have c2H := Lib.hid c2
  have c3H := Lib.hid c3
  have hB1H := Lib.hid hB1
  obtain ⟨W1, hW1⟩ : ∃ W, w.alloc (.cells #[.int .i64 num, .int .i64 den] 23) = W := ⟨_, rfl⟩
  rw [hW1] at k1 hB1H
  have m0 := k1.cell (i := 0) rfl
  have m1 := k1.cell (i := 1) rfl
  clear hx hy hgx hg c1 c2 c3 n1 n2 hn hd hB1
  go_enter Tryz.func60, Tryz.ntmps60
  go_wp2_with fail
  clear hW1 m0 m1
  have hS := (Below.refl W1.heap.size W1).drew
  refine plain_region (fun W' => Below W1.heap.size W1 W') 12 12 (by kernel_rfl) rfl ?_
  simp only [Array.replicate_succ, Array.replicate_zero, List.push_toArray, List.nil_append, List.cons_append]
  refine take_op 0 (v := ?vv0) rfl (by kernel_rfl) (fun _ _ _ h => h) (by rfl) hS (fun w' hS' => ?vy0) ?vz0
  case vy0 =>
    go_simp
    rfl
  simp only [List.setIfInBounds_toArray, List.set_cons_zero, List.set_cons_succ]
  refine take_op 1 (v := ?vv1) rfl (by kernel_rfl) (fun _ _ _ h => h) (by rfl) hS (fun w' hS' => ?vy1) ?vz1
  case vy1 =>
    have z0 := (k1.below hS' k1.lt).cell (i := 0) rfl
    have z1 := (k1.below hS' k1.lt).cell (i := 1) rfl
    clear hS'
    go_simp
    rfl
  simp only [List.setIfInBounds_toArray, List.set_cons_zero, List.set_cons_succ]
  refine take_op 4 (v := ?vv4) rfl (by kernel_rfl) (fun _ _ _ h => h) (by rfl) hS (fun w' hS' => ?vy4) ?vz4
  case vy4 =>
    go_simp
    rfl
  simp only [List.setIfInBounds_toArray, List.set_cons_zero, List.set_cons_succ]
  refine take_op 5 (v := ?vv5) rfl (by kernel_rfl) (fun _ _ _ h => h) (by rfl) hS (fun w' hS' => ?vy5) ?vz5
  case vy5 =>
    have z0 := (k1.below hS' k1.lt).cell (i := 0) rfl
    have z1 := (k1.below hS' k1.lt).cell (i := 1) rfl
    clear hS'
    go_simp
    rfl
  simp only [List.setIfInBounds_toArray, List.set_cons_zero, List.set_cons_succ]
  refine take_op 9 (v := ?vv9) rfl (by kernel_rfl) (fun _ _ _ h => h) (by rfl) hS (fun w' hS' => ?vy9) ?vz9
  case vy9 =>
    go_simp
    rfl
  simp only [List.setIfInBounds_toArray, List.set_cons_zero, List.set_cons_succ]
  refine step_op 2 (by kernel_rfl) rfl (fun K hK => ?_)
  rw [if_pos (by rfl)]
  go_simp
  refine (c1H.out _).mono ?_
  rintro e W2 ⟨rfl, rfl⟩
  refine hK.out _ _ (fun h => hS) ?_
  clear hK K
  try simp only [Act.put, List.setIfInBounds_toArray, List.set_cons_zero, List.set_cons_succ]
  refine take_op 3 (v := ?vv3) rfl (by kernel_rfl) (fun _ _ _ h => h) (by rfl) hS (fun w' hS' => ?vy3) ?vz3
  case vy3 =>
    go_simp
    rfl
  simp only [List.setIfInBounds_toArray, List.set_cons_zero, List.set_cons_succ]
  refine step_op 6 (by kernel_rfl) rfl (fun K hK => ?_)
  rw [if_pos (by rfl)]
  go_simp
  refine (c2H.out _).mono ?_
  rintro e W3 ⟨rfl, rfl⟩
  refine hK.out _ _ (fun h => hS) ?_
  clear hK K
  try simp only [Act.put, List.setIfInBounds_toArray, List.set_cons_zero, List.set_cons_succ]
  refine take_op 7 (v := ?vv7) rfl (by kernel_rfl) (fun _ _ _ h => h) (by rfl) hS (fun w' hS' => ?vy7) ?vz7
  case vy7 =>
    go_simp
    rfl
  simp only [List.setIfInBounds_toArray, List.set_cons_zero, List.set_cons_succ]
  refine step_op 8 (by kernel_rfl) rfl (fun K hK => ?_)
  rw [if_pos (by rfl)]
  go_simp
  refine (c3H.out _).mono ?_
  rintro e W4 ⟨rfl, hb4⟩
  have hS4 := hS.trans (hb4.mono hS.size)
  refine hK.out _ _ (fun h => hS4) ?_
  clear hK K
  try simp only [Act.put, List.setIfInBounds_toArray, List.set_cons_zero, List.set_cons_succ]
  refine take_op 10 (v := .bool (g == 1)) rfl (by kernel_rfl) (fun _ _ _ h => h) (by rfl) hS4 (fun w' hS' => ?vy10) ?vz10
  case vy10 =>
    clear hS'
    go_simp
    by_cases e : g = 1
    · subst e
      rfl
    · rw [if_neg (show ¬ (g : Int) = 1 by omega), show (g == 1) = false by simp [e]]
  simp only [List.setIfInBounds_toArray, List.set_cons_zero, List.set_cons_succ]
  refine take_op 11 (v := ?vv11) rfl (by kernel_rfl) (fun _ _ _ h => h) (by rfl) hS4 (fun w' hS' => ?vy11) ?vz11
  case vy11 =>
    go_simp
    rfl
  simp only [List.setIfInBounds_toArray, List.set_cons_zero, List.set_cons_succ]
  refine done_ops (by kernel_rfl) ?_
  go_wp2_with fail
  go_ret
  exact ⟨ret_b hgH.out.symm, hB1H.out.trans (hS4.mono hB1H.out.size)⟩

end Go.Proofs.YtbdnjhnlfpfhcaaGreat

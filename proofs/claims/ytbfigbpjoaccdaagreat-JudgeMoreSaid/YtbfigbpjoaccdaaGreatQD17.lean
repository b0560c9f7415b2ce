/- Contracts and laws (AlA, ImgR, ImgS). -/
import Derived.Test.YtbfigbpjoaccdaaGreatQD7
import Derived.Test.YtbfigbpjoaccdaaGreatQD15
import Derived.Test.YtbfigbpjoaccdaaGreatQD16
import Derived.Test.YtbfigbpjoaccdaaGreatQD4
namespace Go.Proofs.YtbfigbpjoaccdaaGreat
open Go Go.RowKit Go.Shelf
set_option linter.unusedVariables false
set_option linter.unusedSimpArgs false

theorem rd_litA {W : World} {b : Nat} {A : Array Value} {t : TypeId} {xs : List Int} (k : Blk W b t A) (h : A.toList = xs.map (Value.int .i64)) : Rd W.heap.size W (some ⟨b, 0, none⟩) xs := by
  refine .inr ⟨b, 0, rfl, k.lt, fun i hi => ?_⟩
  rw [Nat.zero_add]
  refine k.cell ?_
  have : A.toList[i]? = some (.int .i64 (xs[i]?.getD 0)) := by rw [h, List.getElem?_map, List.getElem?_eq_getElem hi]; rfl
  simpa using this
theorem rdn_litA {W : World} {b : Nat} {A : Array Value} {t : TypeId} {xs : List Nat} (k : Blk W b t A) (h : A.toList = xs.map vu8) : RdN W.heap.size W (some ⟨b, 0, none⟩) xs := by
  refine .inr ⟨b, 0, rfl, k.lt, fun i hi => ?_⟩
  rw [Nat.zero_add]
  refine k.cell ?_
  have : A.toList[i]? = some (vu8 (xs[i]?.getD 0)) := by rw [h, List.getElem?_map, List.getElem?_eq_getElem hi]; rfl
  simpa [vu8] using this
set_option maxRecDepth 100000 in
set_option maxHeartbeats 2000000 in
theorem row8_any (a : Option Addr) (n c : Nat) (w : World) :
    Calls Tryz.prog 38 #[.slice a n c] w fun e w' => e = .returned (imv n 1 a n c) ∧ Below w.heap.size w w' := by
  have k2 := Blk.new w 27 #[.int .i64 n, .int .i64 1, .slice a n c]
  have hb : Below w.heap.size w (w.alloc (.cells #[.int .i64 n, .int .i64 1, .slice a n c] 27)) := jb_al (Below.refl _ w) _
  have g0 := k2.cell (i := 0) rfl
  have g1 := k2.cell (i := 1) rfl
  have g2 := k2.cell (i := 2) rfl
  go_enter Tryz.func38, Tryz.ntmps38
  go_wp2_with fail
  exact bodyPost_ret (v := imv n 1 a n c) (by simp [results, Tryz.results38, go_sem, g0, g1, g2]) rfl ⟨rfl, hb⟩
set_option maxRecDepth 100000 in
set_option maxHeartbeats 2000000 in
theorem quarter8_any (w : World) : Calls Tryz.prog 41 #[] w fun e w' => e = .returned (frv 1 4) ∧ Below w.heap.size w w' := by
  have k2 := Blk.new w 60 #[.int .i64 1, .int .i64 4]
  have hb : Below w.heap.size w (w.alloc (.cells #[.int .i64 1, .int .i64 4] 60)) := jb_al (Below.refl _ w) _
  have g0 := k2.cell (i := 0) rfl
  have g1 := k2.cell (i := 1) rfl
  go_enter Tryz.func41, Tryz.ntmps41
  go_wp2_with fail
  exact bodyPost_ret (v := frv 1 4) (by simp [results, Tryz.results41, go_sem, g0, g1]) rfl ⟨rfl, hb⟩
/-- The network of the chapter's examples. -/
def twoN : NetN := ⟨2, 1, 2, 1, [⟨[[1, -1], [-1, 1]], [0, 0]⟩, ⟨[[1, 1]], [0]⟩], 10, 20⟩
theorem twoN_sz : NetSz twoN where
  n := by decide
  ly := fun i => by
    match i with
    | 0 => decide
    | 1 => decide
    | _ + 2 => simp [layAt, twoN]
  row := fun i k => by
    match i, k with
    | 0, 0 => decide
    | 0, 1 => decide
    | 0, _ + 2 => simp [layAt, twoN]
    | 1, 0 => decide
    | 1, _ + 1 => simp [layAt, twoN]
    | _ + 2, _ => simp [layAt, twoN]
set_option maxRecDepth 100000 in
set_option maxHeartbeats 4000000 in
theorem two_any (w : World) : Calls Tryz.prog 37 #[] w fun e w' => ∃ na nc, e = .returned (netv twoN na 2 nc) ∧ RdLs w'.heap.size w' na twoN.Ls ∧ Below w.heap.size w w' := by
  have hbA0 : Below w.heap.size w (w.alloc (.cells #[.int .i64 0, .int .i64 0, .int .i64 0, .int .i64 0, .slice none 0 0, .int .i64 0, .int .i64 0] 24)) := jb_al (Below.refl _ w) _
  have k0 := Blk.new w 24 #[.int .i64 0, .int .i64 0, .int .i64 0, .int .i64 0, .slice none 0 0, .int .i64 0, .int .i64 0]
  obtain ⟨A0, hEA0⟩ : ∃ X, w.alloc (.cells #[.int .i64 0, .int .i64 0, .int .i64 0, .int .i64 0, .slice none 0 0, .int .i64 0, .int .i64 0] 24) = X := ⟨_, rfl⟩
  rw [hEA0] at hbA0 k0
  have l0 := k0.lt
  have hbA1 : Below A0.heap.size A0 (A0.alloc (.cells #[.int .i64 1, .int .i64 (-1)] 3)) := jb_al (Below.refl _ A0) _
  have k1 := Blk.new A0 3 #[.int .i64 1, .int .i64 (-1)]
  obtain ⟨A1, hEA1⟩ : ∃ X, A0.alloc (.cells #[.int .i64 1, .int .i64 (-1)] 3) = X := ⟨_, rfl⟩
  rw [hEA1] at hbA1 k1
  replace k0 := k0.below hbA1 k0.lt
  have l1 := k1.lt
  have hbA2 : Below A1.heap.size A1 (A1.alloc (.cells #[.int .i64 (-1), .int .i64 1] 3)) := jb_al (Below.refl _ A1) _
  have k2 := Blk.new A1 3 #[.int .i64 (-1), .int .i64 1]
  obtain ⟨A2, hEA2⟩ : ∃ X, A1.alloc (.cells #[.int .i64 (-1), .int .i64 1] 3) = X := ⟨_, rfl⟩
  rw [hEA2] at hbA2 k2
  replace k0 := k0.below hbA2 k0.lt
  replace k1 := k1.below hbA2 k1.lt
  have l2 := k2.lt
  have hbA3 : Below A2.heap.size A2 (A2.alloc (.cells #[.slice (some ⟨A0.heap.size, 0, none⟩) 2 2, .slice (some ⟨A1.heap.size, 0, none⟩) 2 2] 25)) := jb_al (Below.refl _ A2) _
  have k3 := Blk.new A2 25 #[.slice (some ⟨A0.heap.size, 0, none⟩) 2 2, .slice (some ⟨A1.heap.size, 0, none⟩) 2 2]
  obtain ⟨A3, hEA3⟩ : ∃ X, A2.alloc (.cells #[.slice (some ⟨A0.heap.size, 0, none⟩) 2 2, .slice (some ⟨A1.heap.size, 0, none⟩) 2 2] 25) = X := ⟨_, rfl⟩
  rw [hEA3] at hbA3 k3
  replace k0 := k0.below hbA3 k0.lt
  replace k1 := k1.below hbA3 k1.lt
  replace k2 := k2.below hbA3 k2.lt
  have l3 := k3.lt
  have hbA4 : Below A3.heap.size A3 (A3.alloc (.cells #[.int .i64 0, .int .i64 0] 3)) := jb_al (Below.refl _ A3) _
  have k4 := Blk.new A3 3 #[.int .i64 0, .int .i64 0]
  obtain ⟨A4, hEA4⟩ : ∃ X, A3.alloc (.cells #[.int .i64 0, .int .i64 0] 3) = X := ⟨_, rfl⟩
  rw [hEA4] at hbA4 k4
  replace k0 := k0.below hbA4 k0.lt
  replace k1 := k1.below hbA4 k1.lt
  replace k2 := k2.below hbA4 k2.lt
  replace k3 := k3.below hbA4 k3.lt
  have l4 := k4.lt
  have hbA5 : Below A4.heap.size A4 (A4.alloc (.cells #[.int .i64 1, .int .i64 1] 3)) := jb_al (Below.refl _ A4) _
  have k5 := Blk.new A4 3 #[.int .i64 1, .int .i64 1]
  obtain ⟨A5, hEA5⟩ : ∃ X, A4.alloc (.cells #[.int .i64 1, .int .i64 1] 3) = X := ⟨_, rfl⟩
  rw [hEA5] at hbA5 k5
  replace k0 := k0.below hbA5 k0.lt
  replace k1 := k1.below hbA5 k1.lt
  replace k2 := k2.below hbA5 k2.lt
  replace k3 := k3.below hbA5 k3.lt
  replace k4 := k4.below hbA5 k4.lt
  have l5 := k5.lt
  have hbA6 : Below A5.heap.size A5 (A5.alloc (.cells #[.slice (some ⟨A4.heap.size, 0, none⟩) 2 2] 25)) := jb_al (Below.refl _ A5) _
  have k6 := Blk.new A5 25 #[.slice (some ⟨A4.heap.size, 0, none⟩) 2 2]
  obtain ⟨A6, hEA6⟩ : ∃ X, A5.alloc (.cells #[.slice (some ⟨A4.heap.size, 0, none⟩) 2 2] 25) = X := ⟨_, rfl⟩
  rw [hEA6] at hbA6 k6
  replace k0 := k0.below hbA6 k0.lt
  replace k1 := k1.below hbA6 k1.lt
  replace k2 := k2.below hbA6 k2.lt
  replace k3 := k3.below hbA6 k3.lt
  replace k4 := k4.below hbA6 k4.lt
  replace k5 := k5.below hbA6 k5.lt
  have l6 := k6.lt
  have hbA7 : Below A6.heap.size A6 (A6.alloc (.cells #[.int .i64 0] 3)) := jb_al (Below.refl _ A6) _
  have k7 := Blk.new A6 3 #[.int .i64 0]
  obtain ⟨A7, hEA7⟩ : ∃ X, A6.alloc (.cells #[.int .i64 0] 3) = X := ⟨_, rfl⟩
  rw [hEA7] at hbA7 k7
  replace k0 := k0.below hbA7 k0.lt
  replace k1 := k1.below hbA7 k1.lt
  replace k2 := k2.below hbA7 k2.lt
  replace k3 := k3.below hbA7 k3.lt
  replace k4 := k4.below hbA7 k4.lt
  replace k5 := k5.below hbA7 k5.lt
  replace k6 := k6.below hbA7 k6.lt
  have l7 := k7.lt
  have hbA8 : Below A7.heap.size A7 (A7.alloc (.cells #[.slice (some ⟨A2.heap.size, 0, none⟩) 2 2, .slice (some ⟨A3.heap.size, 0, none⟩) 2 2, .slice (some ⟨A5.heap.size, 0, none⟩) 1 1, .slice (some ⟨A6.heap.size, 0, none⟩) 1 1] 87)) := jb_al (Below.refl _ A7) _
  have k8 := Blk.new A7 87 #[.slice (some ⟨A2.heap.size, 0, none⟩) 2 2, .slice (some ⟨A3.heap.size, 0, none⟩) 2 2, .slice (some ⟨A5.heap.size, 0, none⟩) 1 1, .slice (some ⟨A6.heap.size, 0, none⟩) 1 1]
  obtain ⟨A8, hEA8⟩ : ∃ X, A7.alloc (.cells #[.slice (some ⟨A2.heap.size, 0, none⟩) 2 2, .slice (some ⟨A3.heap.size, 0, none⟩) 2 2, .slice (some ⟨A5.heap.size, 0, none⟩) 1 1, .slice (some ⟨A6.heap.size, 0, none⟩) 1 1] 87) = X := ⟨_, rfl⟩
  rw [hEA8] at hbA8 k8
  replace k0 := k0.below hbA8 k0.lt
  replace k1 := k1.below hbA8 k1.lt
  replace k2 := k2.below hbA8 k2.lt
  replace k3 := k3.below hbA8 k3.lt
  replace k4 := k4.below hbA8 k4.lt
  replace k5 := k5.below hbA8 k5.lt
  replace k6 := k6.below hbA8 k6.lt
  replace k7 := k7.below hbA8 k7.lt
  have l8 := k8.lt
  have hc0 := hbA0
  have hc1 := hc0.trans (hbA1.mono hc0.size)
  have hc2 := hc1.trans (hbA2.mono hc1.size)
  have hc3 := hc2.trans (hbA3.mono hc2.size)
  have hc4 := hc3.trans (hbA4.mono hc3.size)
  have hc5 := hc4.trans (hbA5.mono hc4.size)
  have hc6 := hc5.trans (hbA6.mono hc5.size)
  have hc7 := hc6.trans (hbA7.mono hc6.size)
  have hc8 := hc7.trans (hbA8.mono hc7.size)
  have x0 := k0.cell (i := 0) rfl
  have fx0 := k0.frozen 0
  have x1 := k0.cell (i := 1) rfl
  have fx1 := k0.frozen 1
  have x2 := k0.cell (i := 2) rfl
  have fx2 := k0.frozen 2
  have x3 := k0.cell (i := 3) rfl
  have fx3 := k0.frozen 3
  have x4 := k0.cell (i := 4) rfl
  have fx4 := k0.frozen 4
  have x5 := k0.cell (i := 5) rfl
  have fx5 := k0.frozen 5
  have x6 := k0.cell (i := 6) rfl
  have fx6 := k0.frozen 6
  have s1 := hbA1.size
  have s2 := hbA2.size
  have s3 := hbA3.size
  have s4 := hbA4.size
  have s5 := hbA5.size
  have s6 := hbA6.size
  have s7 := hbA7.size
  have s8 := hbA8.size
  have kz := (((((((k0.set 0 (.int .i64 2)).set 1 (.int .i64 1)).set 2 (.int .i64 2)).set 3 (.int .i64 1)).set 4 (.slice (some ⟨A7.heap.size, 0, none⟩) 2 2)).set 5 (.int .i64 10)).set 6 (.int .i64 20))
  have hz := (((((((hc8.setCell (p := ⟨w.heap.size, 0, none⟩) (Nat.le_refl _) (.int .i64 2)).setCell (p := ⟨w.heap.size, 1, none⟩) (Nat.le_refl _) (.int .i64 1)).setCell (p := ⟨w.heap.size, 2, none⟩) (Nat.le_refl _) (.int .i64 2)).setCell (p := ⟨w.heap.size, 3, none⟩) (Nat.le_refl _) (.int .i64 1)).setCell (p := ⟨w.heap.size, 4, none⟩) (Nat.le_refl _) (.slice (some ⟨A7.heap.size, 0, none⟩) 2 2)).setCell (p := ⟨w.heap.size, 5, none⟩) (Nat.le_refl _) (.int .i64 10)).setCell (p := ⟨w.heap.size, 6, none⟩) (Nat.le_refl _) (.int .i64 20))
  have n1 := hc0.size
  replace k1 := (((((((k1.other (a := ⟨w.heap.size, 0, none⟩) (by show _ ≠ w.heap.size; omega) (.int .i64 2)).other (a := ⟨w.heap.size, 1, none⟩) (by show _ ≠ w.heap.size; omega) (.int .i64 1)).other (a := ⟨w.heap.size, 2, none⟩) (by show _ ≠ w.heap.size; omega) (.int .i64 2)).other (a := ⟨w.heap.size, 3, none⟩) (by show _ ≠ w.heap.size; omega) (.int .i64 1)).other (a := ⟨w.heap.size, 4, none⟩) (by show _ ≠ w.heap.size; omega) (.slice (some ⟨A7.heap.size, 0, none⟩) 2 2)).other (a := ⟨w.heap.size, 5, none⟩) (by show _ ≠ w.heap.size; omega) (.int .i64 10)).other (a := ⟨w.heap.size, 6, none⟩) (by show _ ≠ w.heap.size; omega) (.int .i64 20))
  have n2 := hc1.size
  replace k2 := (((((((k2.other (a := ⟨w.heap.size, 0, none⟩) (by show _ ≠ w.heap.size; omega) (.int .i64 2)).other (a := ⟨w.heap.size, 1, none⟩) (by show _ ≠ w.heap.size; omega) (.int .i64 1)).other (a := ⟨w.heap.size, 2, none⟩) (by show _ ≠ w.heap.size; omega) (.int .i64 2)).other (a := ⟨w.heap.size, 3, none⟩) (by show _ ≠ w.heap.size; omega) (.int .i64 1)).other (a := ⟨w.heap.size, 4, none⟩) (by show _ ≠ w.heap.size; omega) (.slice (some ⟨A7.heap.size, 0, none⟩) 2 2)).other (a := ⟨w.heap.size, 5, none⟩) (by show _ ≠ w.heap.size; omega) (.int .i64 10)).other (a := ⟨w.heap.size, 6, none⟩) (by show _ ≠ w.heap.size; omega) (.int .i64 20))
  have n3 := hc2.size
  replace k3 := (((((((k3.other (a := ⟨w.heap.size, 0, none⟩) (by show _ ≠ w.heap.size; omega) (.int .i64 2)).other (a := ⟨w.heap.size, 1, none⟩) (by show _ ≠ w.heap.size; omega) (.int .i64 1)).other (a := ⟨w.heap.size, 2, none⟩) (by show _ ≠ w.heap.size; omega) (.int .i64 2)).other (a := ⟨w.heap.size, 3, none⟩) (by show _ ≠ w.heap.size; omega) (.int .i64 1)).other (a := ⟨w.heap.size, 4, none⟩) (by show _ ≠ w.heap.size; omega) (.slice (some ⟨A7.heap.size, 0, none⟩) 2 2)).other (a := ⟨w.heap.size, 5, none⟩) (by show _ ≠ w.heap.size; omega) (.int .i64 10)).other (a := ⟨w.heap.size, 6, none⟩) (by show _ ≠ w.heap.size; omega) (.int .i64 20))
  have n4 := hc3.size
  replace k4 := (((((((k4.other (a := ⟨w.heap.size, 0, none⟩) (by show _ ≠ w.heap.size; omega) (.int .i64 2)).other (a := ⟨w.heap.size, 1, none⟩) (by show _ ≠ w.heap.size; omega) (.int .i64 1)).other (a := ⟨w.heap.size, 2, none⟩) (by show _ ≠ w.heap.size; omega) (.int .i64 2)).other (a := ⟨w.heap.size, 3, none⟩) (by show _ ≠ w.heap.size; omega) (.int .i64 1)).other (a := ⟨w.heap.size, 4, none⟩) (by show _ ≠ w.heap.size; omega) (.slice (some ⟨A7.heap.size, 0, none⟩) 2 2)).other (a := ⟨w.heap.size, 5, none⟩) (by show _ ≠ w.heap.size; omega) (.int .i64 10)).other (a := ⟨w.heap.size, 6, none⟩) (by show _ ≠ w.heap.size; omega) (.int .i64 20))
  have n5 := hc4.size
  replace k5 := (((((((k5.other (a := ⟨w.heap.size, 0, none⟩) (by show _ ≠ w.heap.size; omega) (.int .i64 2)).other (a := ⟨w.heap.size, 1, none⟩) (by show _ ≠ w.heap.size; omega) (.int .i64 1)).other (a := ⟨w.heap.size, 2, none⟩) (by show _ ≠ w.heap.size; omega) (.int .i64 2)).other (a := ⟨w.heap.size, 3, none⟩) (by show _ ≠ w.heap.size; omega) (.int .i64 1)).other (a := ⟨w.heap.size, 4, none⟩) (by show _ ≠ w.heap.size; omega) (.slice (some ⟨A7.heap.size, 0, none⟩) 2 2)).other (a := ⟨w.heap.size, 5, none⟩) (by show _ ≠ w.heap.size; omega) (.int .i64 10)).other (a := ⟨w.heap.size, 6, none⟩) (by show _ ≠ w.heap.size; omega) (.int .i64 20))
  have n6 := hc5.size
  replace k6 := (((((((k6.other (a := ⟨w.heap.size, 0, none⟩) (by show _ ≠ w.heap.size; omega) (.int .i64 2)).other (a := ⟨w.heap.size, 1, none⟩) (by show _ ≠ w.heap.size; omega) (.int .i64 1)).other (a := ⟨w.heap.size, 2, none⟩) (by show _ ≠ w.heap.size; omega) (.int .i64 2)).other (a := ⟨w.heap.size, 3, none⟩) (by show _ ≠ w.heap.size; omega) (.int .i64 1)).other (a := ⟨w.heap.size, 4, none⟩) (by show _ ≠ w.heap.size; omega) (.slice (some ⟨A7.heap.size, 0, none⟩) 2 2)).other (a := ⟨w.heap.size, 5, none⟩) (by show _ ≠ w.heap.size; omega) (.int .i64 10)).other (a := ⟨w.heap.size, 6, none⟩) (by show _ ≠ w.heap.size; omega) (.int .i64 20))
  have n7 := hc6.size
  replace k7 := (((((((k7.other (a := ⟨w.heap.size, 0, none⟩) (by show _ ≠ w.heap.size; omega) (.int .i64 2)).other (a := ⟨w.heap.size, 1, none⟩) (by show _ ≠ w.heap.size; omega) (.int .i64 1)).other (a := ⟨w.heap.size, 2, none⟩) (by show _ ≠ w.heap.size; omega) (.int .i64 2)).other (a := ⟨w.heap.size, 3, none⟩) (by show _ ≠ w.heap.size; omega) (.int .i64 1)).other (a := ⟨w.heap.size, 4, none⟩) (by show _ ≠ w.heap.size; omega) (.slice (some ⟨A7.heap.size, 0, none⟩) 2 2)).other (a := ⟨w.heap.size, 5, none⟩) (by show _ ≠ w.heap.size; omega) (.int .i64 10)).other (a := ⟨w.heap.size, 6, none⟩) (by show _ ≠ w.heap.size; omega) (.int .i64 20))
  have n8 := hc7.size
  replace k8 := (((((((k8.other (a := ⟨w.heap.size, 0, none⟩) (by show _ ≠ w.heap.size; omega) (.int .i64 2)).other (a := ⟨w.heap.size, 1, none⟩) (by show _ ≠ w.heap.size; omega) (.int .i64 1)).other (a := ⟨w.heap.size, 2, none⟩) (by show _ ≠ w.heap.size; omega) (.int .i64 2)).other (a := ⟨w.heap.size, 3, none⟩) (by show _ ≠ w.heap.size; omega) (.int .i64 1)).other (a := ⟨w.heap.size, 4, none⟩) (by show _ ≠ w.heap.size; omega) (.slice (some ⟨A7.heap.size, 0, none⟩) 2 2)).other (a := ⟨w.heap.size, 5, none⟩) (by show _ ≠ w.heap.size; omega) (.int .i64 10)).other (a := ⟨w.heap.size, 6, none⟩) (by show _ ≠ w.heap.size; omega) (.int .i64 20))
  obtain ⟨Z, hZ⟩ : ∃ X, (((((((A8.setCell ⟨w.heap.size, 0, none⟩ (.int .i64 2)).setCell ⟨w.heap.size, 1, none⟩ (.int .i64 1)).setCell ⟨w.heap.size, 2, none⟩ (.int .i64 2)).setCell ⟨w.heap.size, 3, none⟩ (.int .i64 1)).setCell ⟨w.heap.size, 4, none⟩ (.slice (some ⟨A7.heap.size, 0, none⟩) 2 2)).setCell ⟨w.heap.size, 5, none⟩ (.int .i64 10)).setCell ⟨w.heap.size, 6, none⟩ (.int .i64 20)) = X := ⟨_, rfl⟩
  rw [hZ] at kz hz k1 k2 k3 k4 k5 k6 k7 k8
  have g0 := kz.cell (i := 0) rfl
  have g1 := kz.cell (i := 1) rfl
  have g2 := kz.cell (i := 2) rfl
  have g3 := kz.cell (i := 3) rfl
  have g4 := kz.cell (i := 4) rfl
  have g5 := kz.cell (i := 5) rfl
  have g6 := kz.cell (i := 6) rfl
  have hP : RdLs Z.heap.size Z (some ⟨A7.heap.size, 0, none⟩) twoN.Ls := by
    refine .inr ⟨A7.heap.size, 0, rfl, k8.lt, fun i hi => ?_⟩
    have hi2 : i < 2 := hi
    rcases (show i = 0 ∨ i = 1 by omega) with rfl | rfl
    · refine ⟨_, _, _, _, k8.cell (i := 0) rfl, k8.cell (i := 1) rfl, .inr ⟨A2.heap.size, 0, rfl, k3.lt, fun j hj => ?_⟩, rd_litA k4 rfl⟩
      have hj2 : j < 2 := hj
      rcases (show j = 0 ∨ j = 1 by omega) with rfl | rfl
      · exact ⟨_, _, k3.cell (i := 0) rfl, rd_litA k1 rfl⟩
      · exact ⟨_, _, k3.cell (i := 1) rfl, rd_litA k2 rfl⟩
    · refine ⟨_, _, _, _, k8.cell (i := 2) rfl, k8.cell (i := 3) rfl, .inr ⟨A5.heap.size, 0, rfl, k6.lt, fun j hj => ?_⟩, rd_litA k7 rfl⟩
      have hj2 : j < 1 := hj
      obtain rfl : j = 0 := by omega
      exact ⟨_, _, k6.cell (i := 0) rfl, rd_litA k5 rfl⟩
  go_enter Tryz.func37, Tryz.ntmps37
  go_wp2_with fail
  exact bodyPost_ret (v := netv twoN (some ⟨A7.heap.size, 0, none⟩) 2 2) (by simp [results, Tryz.results37, go_sem, g0, g1, g2, g3, g4, g5, g6, twoN]) rfl ⟨some ⟨A7.heap.size, 0, none⟩, 2, rfl, hP, hz⟩

end Go.Proofs.YtbfigbpjoaccdaaGreat

namespace Go.Proofs.YtbfigbpjoaccdaaGreat
open Go Go.RowKit Go.Shelf
set_option linter.unusedVariables false
set_option linter.unusedSimpArgs false

/-- The slice at 'a' reads as the truth values 'bs', in blocks below 'B'. -/
def RdB (B : Nat) (W : World) (a : Option Addr) (bs : List Bool) : Prop :=
  bs = [] ∨ ∃ b o, a = some ⟨b, o, none⟩ ∧ b < B ∧ ∀ i, i < bs.length → W.cell? ⟨b, o + i, none⟩ = some (.bool (bs[i]?.getD false))

theorem RdB.below {B B' : Nat} {W W' : World} {a : Option Addr} {bs : List Bool} (h : RdB B W a bs) (hB : B ≤ B') (hb : Below B' W W') : RdB B W' a bs := by
  rcases h with h | ⟨b, o, h1, h2, h3⟩
  · exact .inl h
  · exact .inr ⟨b, o, h1, h2, fun i hi => (hb.cell (p := ⟨b, o + i, none⟩) (by show b < B'; omega)).trans (h3 i hi)⟩

theorem RdB.mono {B B' : Nat} {W : World} {a : Option Addr} {bs : List Bool} (h : RdB B W a bs) (hB : B ≤ B') : RdB B' W a bs := by
  rcases h with h | ⟨b, o, h1, h2, h3⟩
  · exact .inl h
  · exact .inr ⟨b, o, h1, by omega, h3⟩

theorem rdB_at {B : Nat} {W : World} {a : Option Addr} {bs : List Bool} {n : Nat} (h : RdB B W a bs) (hn : bs.length = n) (h0 : 0 < n) : ∃ b o, a = some ⟨b, o, none⟩ ∧ b < B ∧ ∀ i, i < n → W.cell? ⟨b, o + i, none⟩ = some (.bool (bs[i]?.getD false)) := by
  rcases h with h | ⟨b, o, h1, h2, h3⟩
  · subst h; simp at hn; omega
  · exact ⟨b, o, h1, h2, fun i hi => h3 i (by omega)⟩

/-- A number may be a side. -/
def sideB (n : Int) : Bool := decide (n = 1 ∨ n = 3 ∨ n = 5)
theorem sideB_true {n : Int} (h : sideB n = true) : n = 1 ∨ n = 3 ∨ n = 5 := of_decide_eq_true h

/-! ### Lists that contain a value -/

theorem anyTo_succ {α : Type} (p : α → Bool) {xs : List α} {k : Nat} {x : α} (hx : xs[k]? = some x) : (xs.take (k + 1)).any p = ((xs.take k).any p || p x) := by
  rw [List.take_add_one, hx, List.any_append]
  simp

set_option maxHeartbeats 1000000 in
theorem index_int (v : Int) (a : Option Addr) (c n : Nat) (xs : List Int) (hn : Hid (xs.length = n)) (w : World) (hm : n ≤ 9223372036854775807) (hr : Rd w.heap.size w a xs) :
    Calls Tryz.prog 157 #[.slice a n c, .int .i64 v] w fun e w' => (∃ r : Int, e = .returned (.int .i64 r) ∧ decide (0 ≤ r) = xs.any (fun x => decide (v = x))) ∧ w = w' := by
  go_enter Tryz.func157, Tryz.ntmps157
  go_wp2_with fail
  go_loop [5, 8] (fun u i => ∃ k : Nat, k ≤ n ∧ i = .int .i64 (k : Int) ∧ Hid ((xs.take k).any (fun x => decide (v = x)) = false)) (fun u i => n - (intOf i).toNat)
  case atStart => exact ⟨0, Nat.zero_le _, rfl, Lib.hid rfl⟩
  case round =>
    obtain ⟨k, hk, rfl, hall⟩ := hrel
    by_cases hlt : k < n
    · obtain ⟨b, o, rfl, hb, hc⟩ := rd_at hr hn.out (by omega)
      have hcell := hc k hlt
      have hs := anyTo_succ (fun x => decide (v = x)) (xs := xs) (k := k) (x := px xs k) (by unfold px; simp only [Int.toNat_natCast]; rw [List.getElem?_eq_getElem (by rw [hn.out]; exact hlt)]; rfl)
      rw [hall.out, Bool.false_or] at hs
      have hany : decide (v = px xs k) = true → xs.any (fun x => decide (v = x)) = true := by
        intro h
        rw [h] at hs
        rw [← List.take_append_drop (k + 1) xs, List.any_append, hs]; rfl
      generalize px xs k = x at *
      have hsH := Lib.hid hs
      have haH := Lib.hid hany
      clear hc hs hany
      by_cases hx : v = x
      · subst hx
        go_wp2_with fail
        go_ret
        exact ⟨⟨k, rfl, by rw [haH.out (by simp)]; simp⟩, rfl⟩
      · go_wp2_with fail
        go_round
        case rel => exact ⟨k + 1, by omega, by go_num, Lib.hid (by rw [hsH.out]; simp [hx])⟩
        case measure => simp [intOf]; omega
    · go_wp2_with fail
      go_ret
      refine ⟨⟨-1, rfl, ?_⟩, rfl⟩
      have h := hall.out
      rw [List.take_of_length_le (by have := hn.out; omega)] at h
      rw [h]; rfl

set_option maxHeartbeats 1000000 in
theorem index_bool (v : Bool) (a : Option Addr) (c n : Nat) (xs : List Bool) (hn : Hid (xs.length = n)) (w : World) (hm : n ≤ 9223372036854775807) (hr : RdB w.heap.size w a xs) :
    Calls Tryz.prog 148 #[.slice a n c, .bool v] w fun e w' => (∃ r : Int, e = .returned (.int .i64 r) ∧ decide (0 ≤ r) = xs.any (fun x => decide (v = x))) ∧ w = w' := by
  go_enter Tryz.func148, Tryz.ntmps148
  go_wp2_with fail
  go_loop [5, 8] (fun u i => ∃ k : Nat, k ≤ n ∧ i = .int .i64 (k : Int) ∧ Hid ((xs.take k).any (fun x => decide (v = x)) = false)) (fun u i => n - (intOf i).toNat)
  case atStart => exact ⟨0, Nat.zero_le _, rfl, Lib.hid rfl⟩
  case round =>
    obtain ⟨k, hk, rfl, hall⟩ := hrel
    by_cases hlt : k < n
    · obtain ⟨b, o, rfl, hb, hc⟩ := rdB_at hr hn.out (by omega)
      have hcell := hc k hlt
      have hs := anyTo_succ (fun x => decide (v = x)) (xs := xs) (k := k) (x := xs[k]?.getD false) (by rw [List.getElem?_eq_getElem (by rw [hn.out]; exact hlt)]; rfl)
      rw [hall.out, Bool.false_or] at hs
      have hany : decide (v = xs[k]?.getD false) = true → xs.any (fun x => decide (v = x)) = true := by
        intro h
        rw [h] at hs
        rw [← List.take_append_drop (k + 1) xs, List.any_append, hs]; rfl
      generalize xs[k]?.getD false = x at *
      have hsH := Lib.hid hs
      have haH := Lib.hid hany
      clear hc hs hany
      by_cases hx : v = x
      · subst hx
        go_wp2_with fail
        go_ret
        exact ⟨⟨k, rfl, by rw [haH.out (by simp)]; simp⟩, rfl⟩
      · have hxb : (v == x) = false := by simpa using hx
        have hx2 := Lib.hid (show decide (v = x) = false by simpa using hx)
        clear hx
        go_wp2_with fail
        go_round
        case rel => exact ⟨k + 1, by omega, by go_num, Lib.hid (by rw [hsH.out, hx2.out])⟩
        case measure => simp [intOf]; omega
    · go_wp2_with fail
      go_ret
      refine ⟨⟨-1, rfl, ?_⟩, rfl⟩
      have h := hall.out
      rw [List.take_of_length_le (by have := hn.out; omega)] at h
      rw [h]; rfl

theorem contains_int (v : Int) (r : Bool) (a : Option Addr) (c n : Nat) (xs : List Int) (hn : Hid (xs.length = n)) (hres : Hid (xs.any (fun x => decide (v = x)) = r)) (w : World) (hm : n ≤ 9223372036854775807) (hr : Rd w.heap.size w a xs) :
    Calls Tryz.prog 147 #[.slice a n c, .int .i64 v] w fun e w' => e = .returned (.bool r) ∧ w = w' := by
  go_enter Tryz.func147, Tryz.ntmps147
  go_wp2_with fail
  refine (index_int v a c n xs hn w hm hr).mono ?_
  rintro e w' ⟨⟨i, rfl, hi⟩, rfl⟩
  have hiH := Lib.hid (hi.trans hres.out)
  clear hi
  go_wp2_with fail
  go_ret
  exact ⟨ret_bool hiH.out, rfl⟩

theorem contains_bool (v r : Bool) (a : Option Addr) (c n : Nat) (xs : List Bool) (hn : Hid (xs.length = n)) (hres : Hid (xs.any (fun x => decide (v = x)) = r)) (w : World) (hm : n ≤ 9223372036854775807) (hr : RdB w.heap.size w a xs) :
    Calls Tryz.prog 127 #[.slice a n c, .bool v] w fun e w' => e = .returned (.bool r) ∧ w = w' := by
  go_enter Tryz.func127, Tryz.ntmps127
  go_wp2_with fail
  refine (index_bool v a c n xs hn w hm hr).mono ?_
  rintro e w' ⟨⟨i, rfl, hi⟩, rfl⟩
  have hiH := Lib.hid (hi.trans hres.out)
  clear hi
  go_wp2_with fail
  go_ret
  exact ⟨ret_bool hiH.out, rfl⟩

theorem contains3 (v : Int) (r : Bool) (hres : Hid (sideB v = r)) (c : Nat) (w : World) (b : Nat) (k : Blk w b 3 #[.int .i64 1, .int .i64 3, .int .i64 5]) :
    Calls Tryz.prog 147 #[.slice (some ⟨b, 0, none⟩) 3 c, .int .i64 v] w fun e w' => e = .returned (.bool r) ∧ w = w' :=
  contains_int v r (some ⟨b, 0, none⟩) c 3 [1, 3, 5] (Lib.hid rfl) (Lib.hid (by rw [← hres.out]; simp [sideB, Bool.or_assoc])) w (by omega) (.inr ⟨b, 0, rfl, k.lt, fun i hi => by
    have : i = 0 ∨ i = 1 ∨ i = 2 := by simp at hi; omega
    rcases this with rfl | rfl | rfl <;> exact k.cell rfl⟩)

/-- Two numbers are sides of something with n entries. -/
def sidesB (sw sh : Int) (n : Nat) : Bool := (sideB sw && sideB sh) && decide ((n : Int) = sw * sh)
theorem sidesB_true {sw sh : Int} {n : Nat} (h : sidesB sw sh n = true) : (sw = 1 ∨ sw = 3 ∨ sw = 5) ∧ (sh = 1 ∨ sh = 3 ∨ sh = 5) ∧ (n : Int) = sw * sh := by
  simp only [sidesB, Bool.and_eq_true, decide_eq_true_eq] at h
  exact ⟨sideB_true h.1.1, sideB_true h.1.2, h.2⟩

set_option maxHeartbeats 1000000 in
theorem sides_any (sw sh : Int) (n : Nat) (r : Bool) (hres : Hid (sidesB sw sh n = r)) (w : World) :
    Calls Tryz.prog 126 #[.int .i64 sw, .int .i64 sh, .int .i64 n] w fun e w' => e = .returned (.bool r) ∧ Below w.heap.size w w' := by
  have k1 := Blk.new w 3 #[.int .i64 1, .int .i64 3, .int .i64 5]
  have k2 := Blk.new (w.alloc (.cells #[.int .i64 1, .int .i64 3, .int .i64 5] 3)) 3 #[.int .i64 1, .int .i64 3, .int .i64 5]
  simp only [World.size_alloc] at k2
  have hB1 := below_al (Below.refl _ w) (.cells #[.int .i64 1, .int .i64 3, .int .i64 5] 3)
  have hB2 := below_al hB1 (.cells #[.int .i64 1, .int .i64 3, .int .i64 5] 3)
  obtain ⟨v1, hv1⟩ : ∃ v, sideB sw = v := ⟨_, rfl⟩
  have h1 := Lib.hid hv1
  obtain ⟨v2, hv2⟩ : ∃ v, sideB sh = v := ⟨_, rfl⟩
  have h2 := Lib.hid hv2
  have hres' : ((v1 && v2) && decide ((n : Int) = sw * sh)) = r := by rw [← hv1, ← hv2]; exact hres.out
  have hr' := Lib.hid hres'
  clear hv1 hv2 hres'
  cases v1 with
  | false =>
    go_enter Tryz.func126, Tryz.ntmps126
    go_wp2_with fail
    refine (contains3 sw false h1 _ _ _ k1).mono ?_
    rintro e w' ⟨rfl, rfl⟩
    go_wp2_with fail
    go_ret
    exact ⟨ret_bool hr'.out, hB1⟩
  | true =>
    cases v2 with
    | false =>
      go_enter Tryz.func126, Tryz.ntmps126
      go_wp2_with fail
      refine (contains3 sw true h1 _ _ _ k1).mono ?_
      rintro e w' ⟨rfl, rfl⟩
      go_wp2_with fail
      refine (contains3 sh false h2 _ _ _ k2).mono ?_
      rintro e w' ⟨rfl, rfl⟩
      go_wp2_with fail
      go_ret
      exact ⟨ret_bool hr'.out, hB2⟩
    | true =>
      have m := sideB_true h1.out
      have m' := sideB_true h2.out
      obtain ⟨m1, m2⟩ := mul_small (a := sw) (b := sh) (m := 5) (n := 5) (by omega) (by omega) (by omega) (by omega)
      clear m m'
      go_enter Tryz.func126, Tryz.ntmps126
      go_wp2_with fail
      refine (contains3 sw true h1 _ _ _ k1).mono ?_
      rintro e w' ⟨rfl, rfl⟩
      go_wp2_with fail
      refine (contains3 sh true h2 _ _ _ k2).mono ?_
      rintro e w' ⟨rfl, rfl⟩
      go_wp2_with fail
      go_ret
      exact ⟨ret_bool (by rw [← hr'.out]; simp [len_dec]), hB2⟩

/-- A shape is valid. -/
def shapeOk (sw sh : Int) (bs : List Bool) : Bool := sidesB sw sh bs.length && bs.any (fun x => decide (true = x))

end Go.Proofs.YtbfigbpjoaccdaaGreat

namespace Go.Proofs.YtbfigbpjoaccdaaGreat
open Go Go.RowKit Go.Shelf
set_option linter.unusedVariables false
set_option linter.unusedSimpArgs false

attribute [local go_sem] Oper.semAt_some

/-- Entry t of a shape. -/
def shIn (bs : List Bool) (t : Nat) : Bool := bs[t]?.getD false
def morU (sg : Int) (sw : Nat) (x : Int) (t : Nat) : Int := x + sg * (((t % sw : Nat) : Int) - ((sw / 2 : Nat) : Int))
def morV (sg : Int) (sw sh : Nat) (y : Int) (t : Nat) : Int := y + sg * (((t / sw : Nat) : Int) - ((sh / 2 : Nat) : Int))
/-- Entry t counts at (x, y); the value it gives. -/
def morOk (sg iw ih : Int) (sw sh : Nat) (bs : List Bool) (x y : Int) (t : Nat) : Bool := shIn bs t && (inR (morU sg sw x t) 0 (iw - 1) && inR (morV sg sw sh y t) 0 (ih - 1))
def morVal (sg iw : Int) (xs : List Int) (sw sh : Nat) (x y : Int) (t : Nat) : Int := px xs (morV sg sw sh y t * iw + morU sg sw x t)
def morSg (mx : Bool) : Int := if mx = true then -1 else 1
/-- The value of a dilated (mx) or an eroded image at a place. -/
def morG (mx : Bool) (iw ih : Int) (xs : List Int) (sw sh : Nat) (bs : List Bool) (x y : Int) : Int := morTo mx (morOk (morSg mx) iw ih sw sh bs x y) (morVal (morSg mx) iw xs sw sh x y) (sw * sh)

/-- The fold by a list of numbers. -/
def morL (mx : Bool) (ok : Nat → Bool) (val : Nat → Int) (l : List Nat) : Int :=
  l.foldl (fun b t => if ok t = true then (if mx = true then max b (val t) else min b (val t)) else b) (if mx = true then -2147483648 else 2147483648)
theorem morL_snoc (mx : Bool) (ok : Nat → Bool) (val : Nat → Int) (l : List Nat) (t : Nat) : morL mx ok val (l ++ [t]) = if ok t = true then (if mx = true then max (morL mx ok val l) (val t) else min (morL mx ok val l) (val t)) else morL mx ok val l := by
  unfold morL; rw [List.foldl_append]; rfl
theorem morL_range (mx : Bool) (ok : Nat → Bool) (val : Nat → Int) (n : Nat) : morL mx ok val (List.range n) = morTo mx ok val n := by
  induction n with
  | zero => rfl
  | succ n ih => rw [List.range_succ, morL_snoc, ih]; rfl

set_option maxRecDepth 100000 in
set_option maxHeartbeats 8000000 in
theorem Morph1_any (mx : Bool) (iw ih : Int) (a : Option Addr) (c n : Nat) (xs : List Int) (hn : Hid (xs.length = n)) (hall : Hid (allIn (-2147483648) 2147483648 xs = true)) (sw sh : Nat) (as' : Option Addr) (cs ns : Nat) (bits : List Bool) (hbn : Hid (bits.length = ns)) (hsw : sw = 1 ∨ sw = 3 ∨ sw = 5) (hsh : sh = 1 ∨ sh = 3 ∨ sh = 5) (hns : Hid (sw * sh = ns))
    (fo : Nat) (eg : ∀ args w, (callFunc fo args).run Tryz.prog w = .ok (.enter fo args) w) (hfo : ∀ (u v : Int) (w : World), Calls Tryz.prog fo #[.int .i64 u, .int .i64 v] w fun e w' => e = .returned (.int .i64 (if mx = true then max u v else min u v)) ∧ w = w')
    (x y : Int) (bst bs bsg bm bf : Nat) (W0 : World) (hi1 : 1 ≤ iw) (hi2 : iw ≤ 16) (hi3 : 1 ≤ ih) (hi4 : ih ≤ 16) (hnn : Hid ((n : Int) = iw * ih)) (hx1 : 0 ≤ x) (hx2 : x ≤ iw - 1) (hy1 : 0 ≤ y) (hy2 : y ≤ ih - 1)
    (kst : Blk W0 bst 3 #[.int .i64 (if mx = true then -2147483648 else 2147483648)]) (ks : Blk W0 bs 111 #[.int .i64 sw, .int .i64 sh, .slice as' ns cs]) (ksg : Blk W0 bsg 3 #[.int .i64 (morSg mx)]) (km : Blk W0 bm 27 #[.int .i64 iw, .int .i64 ih, .slice a n c]) (kf : Blk W0 bf 131 #[.func (.func fo) #[] #[]]) (hr : Rd W0.heap.size W0 a xs) (hrb : RdB W0.heap.size W0 as' bits) :
    Calls Tryz.prog 128 (#[.int .i64 x, .int .i64 y] ++ #[.pointer (some ⟨bst, 0, none⟩), .pointer (some ⟨bs, 0, none⟩), .pointer (some ⟨bsg, 0, none⟩), .pointer (some ⟨bm, 0, none⟩), .pointer (some ⟨bf, 0, none⟩)]) W0 fun e W' => e = .returned (.int .i64 (morG mx iw ih xs sw sh bits x y)) ∧ Below W0.heap.size W0 W' := by
  have hnsP : 1 ≤ ns ∧ ns ≤ 25 := by
    have := hns.out
    rcases hsw with rfl | rfl | rfl <;> rcases hsh with rfl | rfl | rfl <;> omega
  obtain ⟨bb, ob, rfl, hbb, hbc⟩ := rdB_at hrb hbn.out (by omega)
  have hbcH := Lib.hid hbc
  clear hbc hrb
  obtain ⟨hw, ehw⟩ : ∃ v, (sw : Int).tdiv 2 = v := ⟨_, rfl⟩
  obtain ⟨hh, ehh⟩ : ∃ v, (sh : Int).tdiv 2 = v := ⟨_, rfl⟩
  have hw1 : ((sw / 2 : Nat) : Int) = hw ∧ 0 ≤ hw ∧ hw ≤ 2 := by rw [← ehw]; rcases hsw with rfl | rfl | rfl <;> decide
  have hh1 : ((sh / 2 : Nat) : Int) = hh ∧ 0 ≤ hh ∧ hh ≤ 2 := by rw [← ehh]; rcases hsh with rfl | rfl | rfl <;> decide
  obtain ⟨hwe, hw2, hw3⟩ := hw1
  obtain ⟨hhe, hh2, hh3⟩ := hh1
  have hweH := Lib.hid hwe
  have hheH := Lib.hid hhe
  clear hwe hhe
  obtain ⟨sg, hsg⟩ : ∃ v, morSg mx = v := ⟨_, rfl⟩
  have hsg1 : sg = -1 ∨ sg = 1 := by rw [← hsg]; unfold morSg; split <;> simp
  obtain ⟨st, hst⟩ : ∃ v : Int, (if mx = true then (-2147483648 : Int) else 2147483648) = v := ⟨_, rfl⟩
  rw [hsg] at ksg
  rw [hst] at kst
  obtain ⟨OK, hOK⟩ : ∃ f, morOk sg iw ih sw sh bits x y = f := ⟨_, rfl⟩
  obtain ⟨VAL, hVAL⟩ : ∃ f, morVal sg iw xs sw sh x y = f := ⟨_, rfl⟩
  have hG := Lib.hid (show morG mx iw ih xs sw sh bits x y = morTo mx OK VAL (sw * sh) by unfold morG; rw [hsg, hOK, hVAL])
  have hst0 := Lib.hid (show st = morL mx OK VAL [] by rw [← hst]; rfl)
  have hOKH := Lib.hid hOK
  have hVALH := Lib.hid hVAL
  clear hsg hst hOK hVAL
  refine (callsIn_wide (n := 10)).1 ?_
  refine callsIn_of_wp_marks Tryz.func128 rfl trivial ?_
  simp only [Tryz.ntmps128, List.size_toArray, List.length_cons, List.length_nil, Nat.reduceAdd, Nat.reduceSub, Array.replicate_succ, Array.replicate_zero, List.push_toArray, List.append_toArray, List.nil_append, List.cons_append]
  obtain ⟨B0, hB0⟩ : ∃ B, W0.heap.size = B := ⟨_, rfl⟩
  have d0 := ((kst.alloc (.cells #[.int .i64 x] 3)).alloc (.cells #[.int .i64 y] 3)).cell (i := 0) rfl
  have e0 := (((ks.alloc (.cells #[.int .i64 x] 3)).alloc (.cells #[.int .i64 y] 3)).alloc (.cells #[.int .i64 st] 3)).cell (i := 0) rfl
  have e1' := (((ks.alloc (.cells #[.int .i64 x] 3)).alloc (.cells #[.int .i64 y] 3)).alloc (.cells #[.int .i64 st] 3)).cell (i := 1) rfl
  gi_wp2_with fail
  clear d0 e0 e1'
  refine ⟨trivial, (callsIn_wide.2 (places_any _ _ _)).mono ?_⟩
  rintro e w' ⟨rfl, rfl⟩
  gi_wp2_with fail
  have kx := ((((Blk.new W0 3 #[.int .i64 x]).alloc (.cells #[.int .i64 y] 3)).alloc (.cells #[.int .i64 st] 3)).alloc (.cells #[.int .i64 sw] 3)).alloc (.cells #[.int .i64 sh] 3)
  have ky := (((Blk.new (W0.alloc (.cells #[.int .i64 x] 3)) 3 #[.int .i64 y]).alloc (.cells #[.int .i64 st] 3)).alloc (.cells #[.int .i64 sw] 3)).alloc (.cells #[.int .i64 sh] 3)
  have ko := ((Blk.new ((W0.alloc (.cells #[.int .i64 x] 3)).alloc (.cells #[.int .i64 y] 3)) 3 #[.int .i64 st]).alloc (.cells #[.int .i64 sw] 3)).alloc (.cells #[.int .i64 sh] 3)
  have kpw := (Blk.new (((W0.alloc (.cells #[.int .i64 x] 3)).alloc (.cells #[.int .i64 y] 3)).alloc (.cells #[.int .i64 st] 3)) 3 #[.int .i64 sw]).alloc (.cells #[.int .i64 sh] 3)
  have kph := Blk.new ((((W0.alloc (.cells #[.int .i64 x] 3)).alloc (.cells #[.int .i64 y] 3)).alloc (.cells #[.int .i64 st] 3)).alloc (.cells #[.int .i64 sw] 3)) 3 #[.int .i64 sh]
  have hbw := below_al (below_al (below_al (below_al (below_al (Below.refl _ W0) (.cells #[.int .i64 x] 3)) (.cells #[.int .i64 y] 3)) (.cells #[.int .i64 st] 3)) (.cells #[.int .i64 sw] 3)) (.cells #[.int .i64 sh] 3)
  have hsz : (((((W0.alloc (.cells #[.int .i64 x] 3)).alloc (.cells #[.int .i64 y] 3)).alloc (.cells #[.int .i64 st] 3)).alloc (.cells #[.int .i64 sw] 3)).alloc (.cells #[.int .i64 sh] 3)).heap.size = W0.heap.size + 1 + 1 + 1 + 1 + 1 := by simp
  simp only [World.size_alloc] at ky ko kpw kph
  obtain ⟨V0, hV0⟩ : ∃ V, ((((W0.alloc (.cells #[.int .i64 x] 3)).alloc (.cells #[.int .i64 y] 3)).alloc (.cells #[.int .i64 st] 3)).alloc (.cells #[.int .i64 sw] 3)).alloc (.cells #[.int .i64 sh] 3) = V := ⟨_, rfl⟩
  rw [hV0] at kx ky ko kpw kph hbw hsz ⊢
  clear hV0
  have lst := kst.lt
  have ls := ks.lt
  have lsg := ksg.lt
  have lm := km.lt
  have lf := kf.lt
  rw [hB0] at lst ls lsg lm lf kx ky ko kpw kph hbw hsz hbb hr
  refine wpIn_rangeFunc_ownG (n := 10) rfl (by omega) (gf := 146) (lb := #[.pointer (some ⟨B0 + 1 + 1 + 1 + 1, 0, none⟩), .pointer (some ⟨B0 + 1 + 1 + 1, 0, none⟩)]) rfl trivial (enters_of Tryz.func146 (by kernel_rfl) rfl)
    (Kp := fun A B => B.heap[B0 + 1 + 1 + 1]? = A.heap[B0 + 1 + 1 + 1]?)
    (places_stopsK Fence.wide 9 trivial rfl (by omega) (B0 + 1 + 1 + 1 + 1) (B0 + 1 + 1 + 1) sw sh (by omega) (by omega) V0 (by omega) (by omega) (kph.cell rfl) (kpw.cell rfl)) (fun h k => k.trans h) (fun W l o o' hl _ _ _ => World.putObj_heap_other (by omega)) (Below.refl _ _) (fun _ => rfl)
    (fun pre W => ((Blk W B0 3 #[.int .i64 x] ∧ Blk W (B0 + 1) 3 #[.int .i64 y]) ∧ (Blk W (B0 + 2) 3 #[.int .i64 (morL mx OK VAL (pre.map Fin.val))] ∧ B0 + 5 ≤ W.heap.size)) ∧ Below B0 W0 W)
    (fun _ _ _ => False)
    (OwnFrom.and (fun s A B row hs hg hr => ⟨⟨blk_keeps hs.1.1 hg (fun r e => (hr r e).2), blk_keeps hs.1.2 hg (fun r e => (hr r e).2)⟩, blk_keeps hs.2.1 hg (fun r e => (hr r e).2), Nat.le_trans hs.2.2 hg.size⟩) (ownFrom_below (by omega) (by omega)))
    (fun _ _ _ _ _ hs _ _ => hs)
    ⟨⟨⟨kx, ky⟩, by rw [List.map_nil, ← hst0.out]; exact ko, by omega⟩, hbw⟩
    ?act
    ?assign ?body ?done ?stop
  case assign =>
    intro l u W K hK
    simp only [enc2]
    gi_wp2
    exact hK
  case body =>
    rintro l pre ⟨i, hi'⟩ W ⟨⟨⟨kx, ky⟩, ko, hs1⟩, hB1⟩ hlt
    have hp0 : 0 < sw := by omega
    have hx : i % sw < sw := Nat.mod_lt _ hp0
    have hy : i / sw < sh := Nat.div_lt_of_lt_mul hi'
    have hsp := idx_split sw i
    have hsn := Lib.hid (morL_snoc mx OK VAL (pre.map Fin.val) i)
    have hpre : (pre ++ [(⟨i, hi'⟩ : Fin (sw * sh))]).map Fin.val = pre.map Fin.val ++ [i] := by simp
    have hpreH := Lib.hid hpre
    clear hpre
    have ecX : cX sw i = ((i % sw : Nat) : Int) := rfl
    have ecY : cY sw i = ((i / sw : Nat) : Int) := rfl
    dsimp only
    rw [ecX, ecY]
    have hin : i < ns := by rw [← hns.out]; exact hi'
    have hokE : OK i = (shIn bits i && (inR (x + sg * (((i % sw : Nat) : Int) - hw)) 0 (iw - 1) && inR (y + sg * (((i / sw : Nat) : Int) - hh)) 0 (ih - 1))) := by rw [← hOKH.out]; unfold morOk morU morV; rw [hweH.out, hheH.out]
    have hvalE : VAL i = px xs ((y + sg * (((i / sw : Nat) : Int) - hh)) * iw + (x + sg * (((i % sw : Nat) : Int) - hw))) := by rw [← hVALH.out]; unfold morVal morU morV; rw [hweH.out, hheH.out]
    have hbit := hbcH.out i hin
    rw [show bits[i]?.getD false = shIn bits i from rfl] at hbit
    obtain ⟨X, hX⟩ : ∃ X, i % sw = X := ⟨_, rfl⟩
    obtain ⟨Y, hY⟩ : ∃ Y, i / sw = Y := ⟨_, rfl⟩
    rw [hX] at hx hsp hokE hvalE ⊢
    rw [hY] at hy hsp hokE hvalE ⊢
    clear hX hY ecX ecY
    obtain ⟨β, hβ⟩ : ∃ β, shIn bits i = β := ⟨_, rfl⟩
    rw [hβ] at hbit hokE
    have p1 : -8 ≤ sg * ((X : Int) - hw) ∧ sg * ((X : Int) - hw) ≤ 8 := by rcases hsg1 with h | h <;> rw [h] <;> omega
    have p2 : -8 ≤ sg * ((Y : Int) - hh) ∧ sg * ((Y : Int) - hh) ≤ 8 := by rcases hsg1 with h | h <;> rw [h] <;> omega
    have p3 : ((Y : Int) * (sw : Int) + (X : Int)) < (ns : Int) := by
      have e : ((Y * sw + X : Nat) : Int) = (Y : Int) * (sw : Int) + (X : Int) := by simp
      omega
    have p4 : 0 ≤ (Y : Int) * (sw : Int) := Int.mul_nonneg (by omega) (by omega)
    obtain ⟨ov, hov⟩ : ∃ v, morL mx OK VAL (pre.map Fin.val) = v := ⟨_, rfl⟩
    rw [hov] at ko
    have hsn2 : morL mx OK VAL (pre.map Fin.val ++ [i]) = if OK i = true then (if mx = true then max ov (VAL i) else min ov (VAL i)) else ov := by rw [hsn.out, hov]
    have hokH := Lib.hid hokE
    have hvalH := Lib.hid hvalE
    have hsn2H := Lib.hid hsn2
    clear hokE hvalE hsn2 hβ hov hsn
    gi_wp2_with fail
    have hS : Below W.heap.size W W.drew := (Below.refl _ _).drew
    refine round_region (fun W' => Below W.heap.size W W') 20 20 l _ (by kernel_rfl) (by kernel_rfl) (fun ⟨_, _, h⟩ => h) rfl ?_
    simp only [Array.replicate_succ, Array.replicate_zero, List.push_toArray, List.nil_append, List.cons_append]
    refine take_op 0 (v := ?rv0) rfl (by kernel_rfl) (fun _ _ _ h => h) (by rfl) hS (fun w' hS' => ?ry0) ?rz0
    case ry0 =>
      have a0 := (ks.below (hB1.trans (hS'.mono (by omega))) (by omega)).cell (i := 0) rfl
      have a1 := (ks.below (hB1.trans (hS'.mono (by omega))) (by omega)).cell (i := 1) rfl
      have b0 := (ksg.below (hB1.trans (hS'.mono (by omega))) (by omega)).cell (i := 0) rfl
      have c0 := (kx.below hS' kx.lt).cell (i := 0) rfl
      have d0 := (ky.below hS' ky.lt).cell (i := 0) rfl
      go_simp
      rfl
    simp only [List.setIfInBounds_toArray, List.set_cons_zero, List.set_cons_succ]
    refine take_op 1 (v := ?rv1) rfl (by kernel_rfl) (fun _ _ _ h => h) (by rfl) hS (fun w' hS' => ?ry1) ?rz1
    case ry1 =>
      have a0 := (ks.below (hB1.trans (hS'.mono (by omega))) (by omega)).cell (i := 0) rfl
      have a1 := (ks.below (hB1.trans (hS'.mono (by omega))) (by omega)).cell (i := 1) rfl
      have b0 := (ksg.below (hB1.trans (hS'.mono (by omega))) (by omega)).cell (i := 0) rfl
      have c0 := (kx.below hS' kx.lt).cell (i := 0) rfl
      have d0 := (ky.below hS' ky.lt).cell (i := 0) rfl
      go_simp
      rfl
    simp only [List.setIfInBounds_toArray, List.set_cons_zero, List.set_cons_succ]
    refine take_op 2 (v := ?rv2) rfl (by kernel_rfl) (fun _ _ _ h => h) (by rfl) hS (fun w' hS' => ?ry2) ?rz2
    case ry2 =>
      go_simp
      rfl
    simp only [List.setIfInBounds_toArray, List.set_cons_zero, List.set_cons_succ]
    refine take_op 3 (v := ?rv3) rfl (by kernel_rfl) (fun _ _ _ h => h) (by rfl) hS (fun w' hS' => ?ry3) ?rz3
    case ry3 =>
      go_simp
      rfl
    simp only [List.setIfInBounds_toArray, List.set_cons_zero, List.set_cons_succ]
    refine take_op 4 (v := ?rv4) rfl (by kernel_rfl) (fun _ _ _ h => h) (by rfl) hS (fun w' hS' => ?ry4) ?rz4
    case ry4 =>
      have a0 := (ks.below (hB1.trans (hS'.mono (by omega))) (by omega)).cell (i := 0) rfl
      have a1 := (ks.below (hB1.trans (hS'.mono (by omega))) (by omega)).cell (i := 1) rfl
      have b0 := (ksg.below (hB1.trans (hS'.mono (by omega))) (by omega)).cell (i := 0) rfl
      have c0 := (kx.below hS' kx.lt).cell (i := 0) rfl
      have d0 := (ky.below hS' ky.lt).cell (i := 0) rfl
      go_simp
      rfl
    simp only [List.setIfInBounds_toArray, List.set_cons_zero, List.set_cons_succ]
    refine take_op 5 (v := ?rv5) rfl (by kernel_rfl) (fun _ _ _ h => h) (by rfl) hS (fun w' hS' => ?ry5) ?rz5
    case ry5 =>
      go_simp
      try go_ints
      rfl
    simp only [List.setIfInBounds_toArray, List.set_cons_zero, List.set_cons_succ]
    refine take_op 6 (v := ?rv6) rfl (by kernel_rfl) (fun _ _ _ h => h) (by rfl) hS (fun w' hS' => ?ry6) ?rz6
    case ry6 =>
      go_simp
      try go_ints
      rfl
    simp only [List.setIfInBounds_toArray, List.set_cons_zero, List.set_cons_succ]
    refine take_op 7 (v := ?rv7) rfl (by kernel_rfl) (fun _ _ _ h => h) (by rfl) hS (fun w' hS' => ?ry7) ?rz7
    case ry7 =>
      go_simp
      try go_ints
      rfl
    simp only [List.setIfInBounds_toArray, List.set_cons_zero, List.set_cons_succ]
    refine take_op 8 (v := ?rv8) rfl (by kernel_rfl) (fun _ _ _ h => h) (by rfl) hS (fun w' hS' => ?ry8) ?rz8
    case ry8 =>
      go_simp
      try go_ints
      rfl
    simp only [List.setIfInBounds_toArray, List.set_cons_zero, List.set_cons_succ]
    refine take_op 9 (v := ?rv9) rfl (by kernel_rfl) (fun _ _ _ h => h) (by rfl) hS (fun w' hS' => ?ry9) ?rz9
    case ry9 =>
      have a0 := (ks.below (hB1.trans (hS'.mono (by omega))) (by omega)).cell (i := 0) rfl
      have a1 := (ks.below (hB1.trans (hS'.mono (by omega))) (by omega)).cell (i := 1) rfl
      have b0 := (ksg.below (hB1.trans (hS'.mono (by omega))) (by omega)).cell (i := 0) rfl
      have c0 := (kx.below hS' kx.lt).cell (i := 0) rfl
      have d0 := (ky.below hS' ky.lt).cell (i := 0) rfl
      go_simp
      rfl
    simp only [List.setIfInBounds_toArray, List.set_cons_zero, List.set_cons_succ]
    refine take_op 10 (v := ?rv10) rfl (by kernel_rfl) (fun _ _ _ h => h) (by rfl) hS (fun w' hS' => ?ry10) ?rz10
    case ry10 =>
      have a0 := (ks.below (hB1.trans (hS'.mono (by omega))) (by omega)).cell (i := 0) rfl
      have a1 := (ks.below (hB1.trans (hS'.mono (by omega))) (by omega)).cell (i := 1) rfl
      have b0 := (ksg.below (hB1.trans (hS'.mono (by omega))) (by omega)).cell (i := 0) rfl
      have c0 := (kx.below hS' kx.lt).cell (i := 0) rfl
      have d0 := (ky.below hS' ky.lt).cell (i := 0) rfl
      go_simp
      rfl
    simp only [List.setIfInBounds_toArray, List.set_cons_zero, List.set_cons_succ]
    refine take_op 11 (v := ?rv11) rfl (by kernel_rfl) (fun _ _ _ h => h) (by rfl) hS (fun w' hS' => ?ry11) ?rz11
    case ry11 =>
      go_simp
      rfl
    simp only [List.setIfInBounds_toArray, List.set_cons_zero, List.set_cons_succ]
    refine take_op 12 (v := ?rv12) rfl (by kernel_rfl) (fun _ _ _ h => h) (by rfl) hS (fun w' hS' => ?ry12) ?rz12
    case ry12 =>
      go_simp
      rfl
    simp only [List.setIfInBounds_toArray, List.set_cons_zero, List.set_cons_succ]
    refine take_op 13 (v := ?rv13) rfl (by kernel_rfl) (fun _ _ _ h => h) (by rfl) hS (fun w' hS' => ?ry13) ?rz13
    case ry13 =>
      have a0 := (ks.below (hB1.trans (hS'.mono (by omega))) (by omega)).cell (i := 0) rfl
      have a1 := (ks.below (hB1.trans (hS'.mono (by omega))) (by omega)).cell (i := 1) rfl
      have b0 := (ksg.below (hB1.trans (hS'.mono (by omega))) (by omega)).cell (i := 0) rfl
      have c0 := (kx.below hS' kx.lt).cell (i := 0) rfl
      have d0 := (ky.below hS' ky.lt).cell (i := 0) rfl
      go_simp
      rfl
    simp only [List.setIfInBounds_toArray, List.set_cons_zero, List.set_cons_succ]
    refine take_op 14 (v := ?rv14) rfl (by kernel_rfl) (fun _ _ _ h => h) (by rfl) hS (fun w' hS' => ?ry14) ?rz14
    case ry14 =>
      go_simp
      try go_ints
      rfl
    simp only [List.setIfInBounds_toArray, List.set_cons_zero, List.set_cons_succ]
    refine take_op 15 (v := ?rv15) rfl (by kernel_rfl) (fun _ _ _ h => h) (by rfl) hS (fun w' hS' => ?ry15) ?rz15
    case ry15 =>
      go_simp
      try go_ints
      rfl
    simp only [List.setIfInBounds_toArray, List.set_cons_zero, List.set_cons_succ]
    refine take_op 16 (v := ?rv16) rfl (by kernel_rfl) (fun _ _ _ h => h) (by rfl) hS (fun w' hS' => ?ry16) ?rz16
    case ry16 =>
      go_simp
      try go_ints
      rfl
    simp only [List.setIfInBounds_toArray, List.set_cons_zero, List.set_cons_succ]
    refine take_op 17 (v := ?rv17) rfl (by kernel_rfl) (fun _ _ _ h => h) (by rfl) hS (fun w' hS' => ?ry17) ?rz17
    case ry17 =>
      go_simp
      try go_ints
      rfl
    simp only [List.setIfInBounds_toArray, List.set_cons_zero, List.set_cons_succ]
    refine take_op 18 (v := ?rv18) rfl (by kernel_rfl) (fun _ _ _ h => h) (by rfl) hS (fun w' hS' => ?ry18) ?rz18
    case ry18 =>
      go_simp
      rfl
    simp only [List.setIfInBounds_toArray, List.set_cons_zero, List.set_cons_succ]
    refine take_op 19 (v := ?rv19) rfl (by kernel_rfl) (fun _ _ _ h => h) (by rfl) hS (fun w' hS' => ?ry19) ?rz19
    case ry19 =>
      go_simp
      rfl
    simp only [List.setIfInBounds_toArray, List.set_cons_zero, List.set_cons_succ]
    refine done_ops (by kernel_rfl) ?_
    have hBV : Below B0 W0 W.drew := hB1.trans (hS.mono (by omega))
    have k1x := kx.below hS kx.lt
    have k1y := ky.below hS ky.lt
    have k1o := ko.below hS ko.lt
    have k1s := ks.below hBV (by omega)
    have k1m := km.below hBV (by omega)
    have k1f := kf.below hBV (by omega)
    have hbit1 := (hBV.cell (p := ⟨bb, ob + i, none⟩) hbb).trans hbit
    have hsV : B0 + 5 ≤ W.drew.heap.size := Nat.le_trans hs1 hS.size
    obtain ⟨V, hV⟩ : ∃ V, W.drew = V := ⟨_, rfl⟩
    rw [hV] at hS hBV k1x k1y k1o k1s k1m k1f hbit1 hsV ⊢
    clear hV
    have a0 := k1s.cell (i := 0) rfl
    have a1 := k1s.cell (i := 1) rfl
    have a2 := k1s.cell (i := 2) rfl
    have b0 := k1m.cell (i := 0) rfl
    have b1 := k1m.cell (i := 1) rfl
    have b2 := k1m.cell (i := 2) rfl
    cases β with
    | false =>
      have hno := Lib.hid (show morL mx OK VAL (pre.map Fin.val ++ [i]) = ov by rw [hsn2H.out, hokH.out]; rfl)
      gi_wp2_with fail
      refine ⟨trivial, ?_⟩
      gi_wp2_with fail
      exact ⟨(others_of_below hS).from _, hS.block _ (by omega), ⟨⟨k1x, k1y⟩, by rw [hpreH.out, hno.out]; exact k1o, hsV⟩, hBV⟩
    | true =>
      gi_wp2_with fail
      refine ⟨trivial, (CallsIn.inRound l (callsIn_wide.2 (inside_any iw ih (x + sg * ((X : Int) - hw)) (y + sg * ((Y : Int) - hh)) (.slice a n c) V (by omega) (by omega) (by omega) (by omega) ⟨_, _, _, rfl⟩))).mono ?_⟩
      rintro e V1 ⟨rfl, hb1⟩
      obtain ⟨γ, hγ⟩ : ∃ γ, (inR (x + sg * ((X : Int) - hw)) 0 (iw - 1) && inR (y + sg * ((Y : Int) - hh)) 0 (ih - 1)) = γ := ⟨_, rfl⟩
      rw [hγ]
      have hokE := hokH.out
      rw [hγ, Bool.true_and] at hokE
      have hokH2 := Lib.hid hokE
      clear hokE a0 a1 a2 b0 b1 b2
      have hS1 : Below W.heap.size W V1 := hS.trans (hb1.mono hS.size)
      replace hBV := hBV.trans (hb1.mono (by omega))
      replace k1x := k1x.below hb1 k1x.lt
      replace k1y := k1y.below hb1 k1y.lt
      replace k1o := k1o.below hb1 k1o.lt
      replace k1m := k1m.below hb1 k1m.lt
      replace k1f := k1f.below hb1 k1f.lt
      replace hsV := Nat.le_trans hsV hb1.size
      cases γ with
      | false =>
        have hno := Lib.hid (show morL mx OK VAL (pre.map Fin.val ++ [i]) = ov by rw [hsn2H.out, hokH2.out]; rfl)
        gi_wp2_with fail
        exact ⟨(others_of_below hS1).from _, hS1.block _ (by omega), ⟨⟨k1x, k1y⟩, by rw [hpreH.out, hno.out]; exact k1o, hsV⟩, hBV⟩
      | true =>
        have hyes := Lib.hid (show morL mx OK VAL (pre.map Fin.val ++ [i]) = (if mx = true then max ov (VAL i) else min ov (VAL i)) by rw [hsn2H.out, hokH2.out]; rfl)
        simp only [Bool.and_eq_true, inR_true] at hγ
        obtain ⟨⟨g1, g2⟩, g3, g4⟩ := hγ
        obtain ⟨q1, q2, q3, q4⟩ := in_idx (iw := iw) (ih := ih) (u := x + sg * ((X : Int) - hw)) (v := y + sg * ((Y : Int) - hh)) hi1 hnn.out g1 g2 g3 g4
        have hn9 : n ≤ 256 := by
          have := hnn.out
          obtain ⟨m1, m2⟩ := mul_small (a := iw) (b := ih) (m := 16) (n := 16) (by omega) (by omega) (by omega) (by omega)
          omega
        obtain ⟨pv, hpv⟩ : ∃ v, VAL i = v := ⟨_, rfl⟩
        have hpvH := Lib.hid (hvalH.out.symm.trans hpv)
        obtain ⟨nv, hnv⟩ : ∃ v, (if mx = true then max ov pv else min ov pv) = v := ⟨_, rfl⟩
        have hnvH := Lib.hid hnv
        have hyes2 := Lib.hid (show morL mx OK VAL (pre.map Fin.val ++ [i]) = nv by rw [hyes.out, hpv, hnv])
        clear hpv hnv hyes
        have hS : Below V1.heap.size V1 V1.drew := (Below.refl _ _).drew
        gi_wp2_with fail
        refine round_region (fun W' => Below V1.heap.size V1 W') 7 8 l _ (by kernel_rfl) (by kernel_rfl) (fun ⟨_, _, h⟩ => h) rfl ?_
        simp only [Array.replicate_succ, Array.replicate_zero, List.push_toArray, List.nil_append, List.cons_append]
        refine take_op 0 (v := ?sv0) rfl (by kernel_rfl) (fun _ _ _ h => h) (by rfl) hS (fun w' hS' => ?sy0) ?sz0
        case sy0 =>
          have a0 := (k1m.below hS' k1m.lt).cell (i := 0) rfl
          have a1 := (k1m.below hS' k1m.lt).cell (i := 1) rfl
          have a2 := (k1m.below hS' k1m.lt).cell (i := 2) rfl
          have b0 := (k1f.below hS' k1f.lt).cell (i := 0) rfl
          have c0 := (k1o.below hS' k1o.lt).cell (i := 0) rfl
          go_simp
          rfl
        simp only [List.setIfInBounds_toArray, List.set_cons_zero, List.set_cons_succ]
        refine take_op 1 (v := ?sv1) rfl (by kernel_rfl) (fun _ _ _ h => h) (by rfl) hS (fun w' hS' => ?sy1) ?sz1
        case sy1 =>
          have a0 := (k1m.below hS' k1m.lt).cell (i := 0) rfl
          have a1 := (k1m.below hS' k1m.lt).cell (i := 1) rfl
          have a2 := (k1m.below hS' k1m.lt).cell (i := 2) rfl
          have b0 := (k1f.below hS' k1f.lt).cell (i := 0) rfl
          have c0 := (k1o.below hS' k1o.lt).cell (i := 0) rfl
          go_simp
          rfl
        simp only [List.setIfInBounds_toArray, List.set_cons_zero, List.set_cons_succ]
        refine take_op 2 (v := ?sv2) rfl (by kernel_rfl) (fun _ _ _ h => h) (by rfl) hS (fun w' hS' => ?sy2) ?sz2
        case sy2 =>
          have a0 := (k1m.below hS' k1m.lt).cell (i := 0) rfl
          have a1 := (k1m.below hS' k1m.lt).cell (i := 1) rfl
          have a2 := (k1m.below hS' k1m.lt).cell (i := 2) rfl
          have b0 := (k1f.below hS' k1f.lt).cell (i := 0) rfl
          have c0 := (k1o.below hS' k1o.lt).cell (i := 0) rfl
          go_simp
          rfl
        simp only [List.setIfInBounds_toArray, List.set_cons_zero, List.set_cons_succ]
        refine take_op 3 (v := ?sv3) rfl (by kernel_rfl) (fun _ _ _ h => h) (by rfl) hS (fun w' hS' => ?sy3) ?sz3
        case sy3 =>
          go_simp
          rfl
        simp only [List.setIfInBounds_toArray, List.set_cons_zero, List.set_cons_succ]
        refine take_op 4 (v := ?sv4) rfl (by kernel_rfl) (fun _ _ _ h => h) (by rfl) hS (fun w' hS' => ?sy4) ?sz4
        case sy4 =>
          go_simp
          rfl
        simp only [List.setIfInBounds_toArray, List.set_cons_zero, List.set_cons_succ]
        refine step_op 5 (by kernel_rfl) rfl (fun K hK => ?_)
        rw [if_pos (by rfl)]
        go_simp
        refine (at_any iw ih _ _ a c xs n hn _ (Int.le_trans (by decide) q1) (Int.le_trans (Int.le_of_lt q4) (by omega)) q2 q3 (by omega) ((hr.below (by omega) (hBV.trans (hS.mono (by omega)))).mono (by have := hS.size; omega))).mono ?_
        rintro e W2 ⟨rfl, hb2⟩
        rw [hpvH.out]
        have hS2 : Below V1.heap.size V1 W2 := hS.trans (hb2.mono hS.size)
        refine hK.out _ _ (fun h => hS2) ?_
        clear hK K
        try simp only [Act.put, List.setIfInBounds_toArray, List.set_cons_zero, List.set_cons_succ]
        refine step_op 6 (by kernel_rfl) rfl (fun K hK => ?_)
        rw [if_pos (by rfl)]
        go_simp
        refine (hfo ov pv _).mono ?_
        rintro e W3 ⟨rfl, rfl⟩
        rw [hnvH.out]
        refine hK.out _ _ (fun h => hS2) ?_
        clear hK K
        try simp only [Act.put, List.setIfInBounds_toArray, List.set_cons_zero, List.set_cons_succ]
        refine step_op 7 (by kernel_rfl) rfl (fun K hK => ?_)
        have k2o := k1o.below hS2 k1o.lt
        have c0 := k2o.cell (i := 0) rfl
        have f0 := k2o.frozen 0
        rw [if_pos (by rfl)]
        go_simp
        refine hK.out _ _ (fun h => absurd h (by omega)) ?_
        clear hK K
        try simp only [Act.put, List.setIfInBounds_toArray, List.set_cons_zero, List.set_cons_succ]
        refine done_ops (by kernel_rfl) ?_
        have hS3 : Below W.heap.size W W2 := hS1.trans (hS2.mono hS1.size)
        have hB3 : Below B0 W0 W2 := hBV.trans (hS2.mono (by omega))
        have hgA : W.grownBy (W2.setCell ⟨B0 + 1 + 1, 0, none⟩ (.int .i64 nv)) (some (B0 + 1 + 1)) := grown_trans (grown_of_below hS3 _) (grownBy_setCell' W2 _ _)
        exact ⟨((others_of_below hS3).trans (KeepsOthers.setCell _ _ _)).from _, hgA.block _ (by omega) (by simp), ⟨⟨kx.kept hgA (by simp <;> omega), ky.kept hgA (by simp <;> omega)⟩, by rw [hpreH.out, hyes2.out]; exact k2o.set 0 (.int .i64 nv), Nat.le_trans hs1 hgA.size⟩, hB3.setCell (p := ⟨B0 + 1 + 1, 0, none⟩) (by simp; omega) _⟩

  case done =>
    rintro D ys W hD hys ⟨⟨⟨kx, ky⟩, ko, hs1⟩, hB1⟩ hK
    have hfin := Lib.hid (show morL mx OK VAL (ys.map Fin.val) = morG mx iw ih xs sw sh bits x y by rw [hys, morL_range, hG.out])
    rw [hfin.out] at ko
    have c0 := ko.cell (i := 0) rfl
    gi_wp2
    refine ⟨by simp, .inl ⟨_, _, rfl, run_takeDeferred hK, ?_⟩⟩
    exact ⟨_, results_tmp rfl _ _ _, rfl, by rw [hB0]; exact hB1.trans (belowK_b (w := V0) (by omega) W D _ _ (by omega) hK rfl rfl)⟩
  case stop =>
    rintro D c pre W _ _ h _
    exact h.elim

end Go.Proofs.YtbfigbpjoaccdaaGreat

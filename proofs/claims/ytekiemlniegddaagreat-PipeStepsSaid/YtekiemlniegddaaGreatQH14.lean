/- Contracts and laws (PAd, PCm, PEm, PPc, PLd, PHd). -/
import Derived.Test.YtekiemlniegddaaGreatQH10
import Derived.Test.YtekiemlniegddaaGreatQH13
import Derived.Test.YtekiemlniegddaaGreatQH6
set_option linter.unusedVariables false
set_option linter.unusedSimpArgs false
namespace Go.Proofs.YtekiemlniegddaaGreat
open Go Go.Maps Go.RowKit Go.Shelf
set_option maxRecDepth 100000 in
set_option maxHeartbeats 8000000 in
theorem addresses_any (w : World) (bc bm : Nat) (WW HH I vr vm : Int) (L : Nat) (a : Option Addr) (n c : Nat) (fv cv : Value) (kc : Blk w bc 103 #[.int .i64 WW, .int .i64 HH, .int .i64 I, .slice a n c, .int .i64 (L : Int), .int .i64 vr, .int .i64 vm, .map (some bm), fv, cv]) (hw : 1 ≤ WW ∧ WW ≤ 16) (hh : 1 ≤ HH ∧ HH ≤ 16) (hL : 1 ≤ L ∧ L ≤ 16) (gr : Nat) (hgr : gr ≤ 256) (place dx dy bd : Int) (hpl : 0 ≤ place ∧ place ≤ 100000) (hdx : -100 ≤ dx ∧ dx ≤ 100) (hdy : -100 ≤ dy ∧ dy ≤ 100) (hbd : 0 ≤ bd ∧ bd ≤ 255) :
  Calls Tryz.prog 109 #[.pointer (some ⟨bc, 0, none⟩), .int .i64 (gr : Int), .int .i64 place, .int .i64 dx, .int .i64 dy, .int .u8 bd] w fun e w' => ∃ b, e = .returned (srow b L L) ∧ w'.ownsRow w.heap.size 3 1 (srow b L L) L (intL L (adrAt WW HH L gr place dx dy bd)) ∧ Below w.heap.size w w' := by
 have hB : Below w.heap.size w w := Below.refl _ _
 obtain ⟨i0, hi, hz0, hz1, hz2⟩ := info_parts info_num
 obtain ⟨A, hA⟩ : ∃ A : Nat → Int, (fun t => adrAt WW HH L gr place dx dy bd t) = A := ⟨_, rfl⟩
 have hAt : ∀ t, A t = adrAt WW HH L gr place dx dy bd t := fun t => by rw [← hA]
 have hAH := Lib.hid hAt
 rw [show (adrAt WW HH L gr place dx dy bd) = A from hA]
 clear hA hAt
 obtain ⟨GL, hGL⟩ : ∃ GL : Nat, gr * L = GL := ⟨_, rfl⟩
 have hGLi : (gr : Int) * (L : Int) = (GL : Int) := by rw [← hGL]; push_cast; rfl
 have hGLH := Lib.hid hGL
 have hGLb : GL ≤ 4096 := by have := Nat.mul_le_mul hgr hL.2; omega
 have hm1 := prod_bd (a := WW) (x := HH) (m := 16) (n := 16) (by omega) (by omega) (by omega) (by omega) (by omega)
 simp only [Int.reduceMul] at hm1
 obtain ⟨p, hp⟩ : ∃ p, WW * HH = p := ⟨_, rfl⟩
 rw [hp] at hm1
 have hpH := Lib.hid hp
 have hcon := fun W k2 x y h1 h2 => cell_any W bc bm WW HH I (L : Int) vr vm a n c fv cv k2 hw hh x y bd h1 h2 hbd
 have hconH := Lib.hid hcon
 have ne : Value.int .i64 0 = .int .i64 0 := rfl
 clear hGL hcon ne
 have hb0 := kc.lt
 have y0 := kc.cell (i := 0) rfl
 have y1 := kc.cell (i := 1) rfl
 have y4 := kc.cell (i := 4) rfl
 go_enter Tryz.func109, Tryz.ntmps109
 go_wp2_with (at_make; refine wpList_make_full _ rfl _ _ 30 rfl w.heap.size 3 i0 (.int .i64 0) 1 Tryz.underlying30 hi hz0 hz1 .i64 .i64 (L : Int) (L : Int) L rfl rfl (by simp) (by simp) (by rw [hz2]; omega) (by unfold maxLen; omega) (by simp) ?_; intro w1 hown hg; have kc1 := kc.kept hg (by simp))
 clear y0 y1 y4
 rw [made_row] at hown
 have hB1 : Below w.heap.size w w1 := hB.grown hg hB.size (fun k e => by cases e)
 obtain ⟨g, hgw⟩ : ∃ g, w.heap.size = g := ⟨_, rfl⟩
 have hbcg : bc ≠ g := by omega
 have hgwH := Lib.hid hgw
 rw [hgw] at hown ⊢
 clear hgw hg kc
 have hown0 : w1.ownsRow g 3 1 (srow g L L) L (intL L (fun t => if t < 0 then A t else 0)) := by rw [intL_congr (g := fun _ => 0) (fun j _ => if_neg (by omega))]; exact hown
 clear hown
 go_loopw [25] (fun i wr => ∃ j : Nat, j ≤ L ∧ i = .int .i64 (j : Int) ∧ wr.ownsRow g 3 1 (srow g L L) L (intL L (fun t => if t < j then A t else 0)) ∧ Blk wr bc 103 #[.int .i64 WW, .int .i64 HH, .int .i64 I, .slice a n c, .int .i64 (L : Int), .int .i64 vr, .int .i64 vm, .map (some bm), fv, cv] ∧ Below g w wr) (fun i _ => L - (intOf i).toNat)
 case atStart => exact ⟨0, Nat.zero_le _, rfl, hown0, kc1, by rw [← hgwH.out]; exact hB1⟩
 case round =>
  clear hown0 kc1 hB1 hB
  obtain ⟨j, hj, rfl, hown, kc, hB⟩ := hrel
  by_cases hlt : j < L
  case neg =>
   have hltd : decide ((j : Int) < (L : Int)) = false := by simp; omega
   have hjn : L = j := by omega
   subst hjn
   rw [intL_congr (g := A) (fun j h => if_pos h)] at hown
   go_wp2_with fail
   go_ret
   exact ⟨g, rfl, by rw [hgwH.out]; exact hown, by rw [hgwH.out]; exact hB⟩
  case pos =>
   have hltd : decide ((j : Int) < (L : Int)) = true := by simp; omega
   have hc0 := row_cellAt hown j (intL_at hlt)
   have hf0 := row_frz hown j
   obtain ⟨hown1, hg1⟩ := hown.stored j (.int .i64 (-1))
   rw [intL_set] at hown1
   have hgl := (hown.lt g rfl).2
   have kc1 := kc.kept hg1 (by simp; exact hbcg)
   have hB1 := hB.setCell (p := ⟨g, j, none⟩) (Nat.le_refl _) (.int .i64 (-1))
   obtain ⟨W1, hW1⟩ : ∃ X, wr.setCell ⟨g, j, none⟩ (.int .i64 (-1)) = X := ⟨_, rfl⟩
   rw [hW1] at hown1 kc1 hB1
   have y4 := kc1.cell (i := 4) rfl
   have hlt2 : (j : Int) < (L : Int) := by omega
   have hS : Blk W1.drew bc 103 #[.int .i64 WW, .int .i64 HH, .int .i64 I, .slice a n c, .int .i64 (L : Int), .int .i64 vr, .int .i64 vm, .map (some bm), fv, cv] := kc1.below (Below.refl _ W1).drew kc1.lt
   go_wp2_with fail
   clear hW1 y4 hc0 hf0
   refine plain_region (fun W' => Blk W' bc 103 #[.int .i64 WW, .int .i64 HH, .int .i64 I, .slice a n c, .int .i64 (L : Int), .int .i64 vr, .int .i64 vm, .map (some bm), fv, cv]) 13 13 (by kernel_rfl) rfl ?_
   simp only [Array.replicate_succ, Array.replicate_zero, List.push_toArray, List.nil_append, List.cons_append]
   have FA0 := Lib.hid (fun w' (hS' : (fun W' => Blk W' bc 103 #[.int .i64 WW, .int .i64 HH, .int .i64 I, .slice a n c, .int .i64 (L : Int), .int .i64 vr, .int .i64 vm, .map (some bm), fv, cv]) w') => And.intro (hS'.cell (i := 0) rfl) (hS'.cell (i := 1) rfl))
   refine tkz 0 rfl hS (fun w' hS' => by go_simp; rfl) ?_
   simp only [nrz]
   refine tkz 1 rfl hS (fun w' hS' => by go_simp; rfl) ?_
   simp only [nrz]
   refine tkz 2 rfl hS (fun w' hS' => by go_simp; rfl) ?_
   simp only [nrz]
   refine tkz 3 rfl hS (fun w' hS' => by go_simp; rfl) ?_
   simp only [nrz]
   refine tkz 4 rfl hS (fun w' hS' => by go_simp; rfl) ?_
   simp only [nrz]
   refine tkz 5 rfl hS (fun w' hS' => by obtain ⟨y0, y1⟩ := FA0.out w' hS'; clear hS'; go_simp; rfl) ?_
   simp only [nrz]
   refine tkz 6 rfl hS (fun w' hS' => by go_simp; rfl) ?_
   simp only [nrz]
   refine tkz 7 rfl hS (fun w' hS' => by go_simp; rfl) ?_
   simp only [nrz]
   refine tkz 8 rfl hS (fun w' hS' => by go_simp; rfl) ?_
   simp only [nrz]
   refine tkz 9 rfl hS (fun w' hS' => by go_simp; rfl) ?_
   simp only [nrz]
   refine tkz 10 rfl hS (fun w' hS' => by obtain ⟨y0, y1⟩ := FA0.out w' hS'; clear hS'; go_simp; rfl) ?_
   simp only [nrz]
   refine tkz 11 rfl hS (fun w' hS' => by go_simp; (try go_ints); rfl) ?_
   simp only [nrz]
   refine tkz 12 rfl hS (fun w' hS' => by go_simp; (try go_ints); rfl) ?_
   simp only [nrz]
   refine done_ops (by kernel_rfl) ?_
   have hAj := hAH.out j
   unfold adrAt at hAj
   rw [hGLH.out, hpH.out] at hAj
   have hcast : ((GL + j : Nat) : Int) = (GL : Int) + (j : Int) := by push_cast; rfl
   rw [hcast] at hAj
   clear hcast
   have hB2 := hB1.drew
   have hown2 := row_below hown1 ((Below.refl _ W1).drew)
   have kc2 := hS
   obtain ⟨W2, hW2⟩ : ∃ X, W1.drew = X := ⟨_, rfl⟩
   rw [hW2] at hown2 hB2 kc2 ⊢
   clear hW2 hown1 hB1 kc1 hS hg1 hown hB kc
   by_cases hip : (GL : Int) + (j : Int) < p
   case neg =>
    have hipd : decide ((GL : Int) + (j : Int) < p) = false := decide_eq_false hip
    rw [if_neg hip] at hAj
    have hown3 : W2.ownsRow g 3 1 (srow g L L) L (intL L (fun t => if t < j + 1 then A t else 0)) := by
     rw [intL_congr (g := fun i => if i = j then -1 else if i < j then A i else 0) (fun t _ => ?_)]
     ·exact hown2
     ·by_cases e : t = j
      ·subst e; rw [if_pos (by omega), if_pos rfl, hAj]
      ·rw [if_neg e]
       by_cases e2 : t < j
       ·rw [if_pos e2, if_pos (by omega)]
       ·rw [if_neg e2, if_neg (by omega)]
    clear hAj hown2
    go_wp2_with fail
    go_roundw
    case rel => exact ⟨j + 1, by omega, by go_num, hown3, kc2, hB2⟩
    case measure => simp [intOf]; omega
   case pos =>
    have hipd : decide ((GL : Int) + (j : Int) < p) = true := decide_eq_true hip
    rw [if_pos hip] at hAj
    have hq1 : ((GL : Int) + (j : Int)).tmod WW = ((GL : Int) + (j : Int)) % WW := Int.tmod_eq_emod_of_nonneg (by omega)
    have hq2 : ((GL : Int) + (j : Int)).tdiv WW = ((GL : Int) + (j : Int)) / WW := Int.tdiv_eq_ediv_of_nonneg (by omega)
    have hq3 := Int.emod_nonneg ((GL : Int) + (j : Int)) (show WW ≠ 0 by omega)
    have hq4 := Int.emod_lt_of_pos ((GL : Int) + (j : Int)) (show 0 < WW by omega)
    have hq5 : 0 ≤ ((GL : Int) + (j : Int)) / WW := Int.ediv_nonneg (by omega) (by omega)
    have hq6 : ((GL : Int) + (j : Int)) / WW ≤ (GL : Int) + (j : Int) := Int.ediv_le_self _ (by omega)
    obtain ⟨mx, hmx⟩ : ∃ m, ((GL : Int) + (j : Int)) % WW = m := ⟨_, rfl⟩
    obtain ⟨dv, hdv⟩ : ∃ m, ((GL : Int) + (j : Int)) / WW = m := ⟨_, rfl⟩
    rw [hmx] at hq1 hq3 hq4 hAj
    rw [hdv] at hq2 hq5 hq6 hAj
    clear hmx hdv
    have hip2 : (GL : Int) + (j : Int) < 256 := by omega
    have z1 : ¬ WW = 0 := by omega
    have z1b : (WW == 0) = false := by simp [z1]
    obtain ⟨K0, hK0⟩ : ∃ k, cellN WW HH (mx + dx) (dv + dy) bd = k := ⟨_, rfl⟩
    rw [hK0] at hAj
    have hcall := fun W k2 => hconH.out W k2 (mx + dx) (dv + dy) (by omega) (by omega)
    rw [hK0] at hcall
    have hKb := cell_bd (w := WW) (h := HH) (x := mx + dx) (y := dv + dy) (bd := bd) hw.1 hh.1
    rw [hK0, hpH.out] at hKb
    have hcallH := Lib.hid hcall
    have hAjH := Lib.hid hAj
    clear hcall hAj hK0
    have hS : Blk W2.drew bc 103 #[.int .i64 WW, .int .i64 HH, .int .i64 I, .slice a n c, .int .i64 (L : Int), .int .i64 vr, .int .i64 vm, .map (some bm), fv, cv] := kc2.below (Below.refl _ W2).drew kc2.lt
    have hown3 := row_below hown2 ((Below.refl _ W2).drew)
    have hB3 := hB2.drew
    clear hown2 hB2 kc2
    go_wp2_with fail
    refine plain_region (fun W' => Blk W' bc 103 #[.int .i64 WW, .int .i64 HH, .int .i64 I, .slice a n c, .int .i64 (L : Int), .int .i64 vr, .int .i64 vm, .map (some bm), fv, cv]) 22 22 (by kernel_rfl) rfl ?_
    simp only [Array.replicate_succ, Array.replicate_zero, List.push_toArray, List.nil_append, List.cons_append]
    obtain ⟨X0, hXX0⟩ : ∃ X : World, W2.drew = X := ⟨_, rfl⟩
    rw [hXX0] at hS hown3 hB3 ⊢
    clear hXX0
    refine tkz 0 rfl hS (fun w' hS' => by go_simp; rfl) ?_
    simp only [nrz]
    refine tkz 1 rfl hS (fun w' hS' => by go_simp; rfl) ?_
    simp only [nrz]
    refine tkz 2 rfl hS (fun w' hS' => by go_simp; rfl) ?_
    simp only [nrz]
    refine tkz 3 rfl hS (fun w' hS' => by go_simp; rfl) ?_
    simp only [nrz]
    refine tkz 4 rfl hS (fun w' hS' => by go_simp; rfl) ?_
    simp only [nrz]
    refine tkz 5 rfl hS (fun w' hS' => by go_simp; rfl) ?_
    simp only [nrz]
    refine tkz 6 (v := ?bv6) rfl hS (fun w' hS' => ?by6) ?bz6
    case by6 =>
     have y0 := hS'.cell (i := 0) rfl
     clear hS'
     go_simp
     rfl
    simp only [nrz]
    refine tkz 7 rfl hS (fun w' hS' => by go_simp; (try go_ints); rfl) ?_
    simp only [nrz]
    refine tkz 8 rfl hS (fun w' hS' => by go_simp; rfl) ?_
    simp only [nrz]
    refine tkz 9 rfl hS (fun w' hS' => by go_simp; (try go_ints); rfl) ?_
    simp only [nrz]
    refine tkz 10 rfl hS (fun w' hS' => by go_simp; rfl) ?_
    simp only [nrz]
    refine tkz 11 rfl hS (fun w' hS' => by go_simp; rfl) ?_
    simp only [nrz]
    refine tkz 12 rfl hS (fun w' hS' => by go_simp; rfl) ?_
    simp only [nrz]
    refine tkz 13 rfl hS (fun w' hS' => by go_simp; rfl) ?_
    simp only [nrz]
    refine tkz 14 rfl hS (fun w' hS' => by go_simp; rfl) ?_
    simp only [nrz]
    refine tkz 15 (v := ?bv15) rfl hS (fun w' hS' => ?by15) ?bz15
    case by15 =>
     have y0 := hS'.cell (i := 0) rfl
     clear hS'
     go_simp
     rfl
    simp only [nrz]
    refine tkz 16 rfl hS (fun w' hS' => by go_simp; (try go_ints); rfl) ?_
    simp only [nrz]
    refine tkz 17 rfl hS (fun w' hS' => by go_simp; rfl) ?_
    simp only [nrz]
    refine tkz 18 rfl hS (fun w' hS' => by go_simp; (try go_ints); rfl) ?_
    simp only [nrz]
    refine tkz 19 rfl hS (fun w' hS' => by go_simp; rfl) ?_
    simp only [nrz]
    refine step_op 20 (by kernel_rfl) rfl (fun K hK => ?_)
    rw [if_pos (by rfl)]
    go_simp
    refine (hcallH.out X0 hS).mono ?_
    rintro e X9 ⟨rfl, hb9⟩
    have hS9 := hS.below hb9 hS.lt
    have hown9 := row_below hown3 hb9
    have hB9 := hB3.trans (hb9.mono (by have := (hown3.lt g rfl).2; omega))
    clear hS hown3 hB3 hb9
    refine hK.out _ _ (fun h => hS9) ?_
    clear hK K
    try simp only [Act.put, nrz]
    refine tkz 21 rfl hS9 (fun w' hS' => by go_simp; rfl) ?_
    simp only [nrz]
    refine done_ops (by kernel_rfl) ?_
    by_cases hk0 : 0 ≤ K0
    case neg =>
     have hk0d : decide (0 ≤ K0) = false := decide_eq_false hk0
     have hAj := hAjH.out
     rw [if_neg hk0] at hAj
     have hown4 : X9.ownsRow g 3 1 (srow g L L) L (intL L (fun t => if t < j + 1 then A t else 0)) := by
      rw [intL_congr (g := fun i => if i = j then -1 else if i < j then A i else 0) (fun t _ => ?_)]
      ·exact hown9
      ·by_cases e : t = j
       ·subst e; rw [if_pos (by omega), if_pos rfl, hAj]
       ·rw [if_neg e]
        by_cases e2 : t < j
        ·rw [if_pos e2, if_pos (by omega)]
        ·rw [if_neg e2, if_neg (by omega)]
     clear hAj hown9
     go_wp2_with fail
     go_roundw
     case rel => exact ⟨j + 1, by omega, by go_num, hown4, hS9, hB9⟩
     case measure => simp [intOf]; omega
    case pos =>
     have hk0d : decide (0 ≤ K0) = true := decide_eq_true hk0
     have hAj := hAjH.out
     rw [if_pos hk0] at hAj
     have hc0 := row_cellAt hown9 j (intL_at hlt)
     have hf0 := row_frz hown9 j
     obtain ⟨hown10, hg1⟩ := hown9.stored j (.int .i64 (place + K0))
     rw [intL_set] at hown10
     have kc10 := hS9.kept hg1 (by simp; exact hbcg)
     have hB10 := hB9.setCell (p := ⟨g, j, none⟩) (Nat.le_refl _) (.int .i64 (place + K0))
     obtain ⟨W1', hW1⟩ : ∃ X, X9.setCell ⟨g, j, none⟩ (.int .i64 (place + K0)) = X := ⟨_, rfl⟩
     rw [hW1] at hown10 kc10 hB10
     have hown4 : W1'.ownsRow g 3 1 (srow g L L) L (intL L (fun t => if t < j + 1 then A t else 0)) := by
      rw [intL_congr (g := fun i => if i = j then place + K0 else if i = j then -1 else if i < j then A i else 0) (fun t _ => ?_)]
      ·exact hown10
      ·by_cases e : t = j
       ·subst e; rw [if_pos (by omega), if_pos rfl, hAj]
       ·rw [if_neg e, if_neg e]
        by_cases e2 : t < j
        ·rw [if_pos e2, if_pos (by omega)]
        ·rw [if_neg e2, if_neg (by omega)]
     clear hAj hown9 hown10 hg1 hS9 hB9
     go_wp2_with fail
     clear hc0 hf0 hW1
     go_roundw
     case rel => exact ⟨j + 1, by omega, by go_num, hown4, kc10, hB10⟩
     case measure => simp [intOf]; omega
end Go.Proofs.YtekiemlniegddaaGreat
namespace Go.Proofs.YtekiemlniegddaaGreat
open Go Go.Maps Go.RowKit Go.Shelf
/-- An instruction in memory. -/
structure InsA where
 x : InsN
 a : Option Addr
 c : Nat
def insCell (y : InsA) : Nat → Value := fun j => (insCells y.x y.a y.c)[j]?.getD .nilFunc
theorem insCells_len (x : InsN) (a : Option Addr) (c : Nat) : (insCells x a c).length = 12 := rfl
theorem insCells_at (y : InsA) {j : Nat} (hj : j < 12) : (insCells y.x y.a y.c)[j]? = some (insCell y j) := by
 unfold insCell
 rw [List.getElem?_eq_getElem (by rw [insCells_len]; exact hj)]; rfl
theorem insCells_one (x : InsN) (a : Option Addr) (c : Nat) : ∀ u ∈ insCells x a c, u.oneCell' = true := by
 intro u hu
 unfold insCells at hu
 simp only [List.mem_cons, List.not_mem_nil, or_false] at hu
 rcases hu with rfl | rfl | rfl | rfl | rfl | rfl | rfl | rfl | rfl | rfl | rfl | rfl <;> rfl
/-- The addresses of an instruction: none, or a row of the call's own. -/
def AdAt (B : Nat) (W : World) (y : InsA) : Prop := (y.a = none ∧ y.c = 0 ∧ y.x.ad = []) ∨ ∃ b, y.a = some ⟨b, 0, none⟩ ∧ W.ownsRow B 3 1 (.slice (some ⟨b, 0, none⟩) y.x.ad.length y.c) y.x.ad.length (y.x.ad.map (Value.int .i64))
/-- The instruction's addresses lie in block b. -/
def AdBlk (y : InsA) (b : Nat) : Prop := ∃ ad, y.a = some ad ∧ ad.block = b
theorem AdAt.blk {B : Nat} {W : World} {y : InsA} (h : AdAt B W y) {b : Nat} (hb : AdBlk y b) : y.a = some ⟨b, 0, none⟩ ∧ B ≤ b ∧ b < W.heap.size ∧ ∃ cur, W.heap[b]? = some (.cells cur 3 (0, 0)) := by
 obtain ⟨ad, e1, e2⟩ := hb
 rcases h with ⟨h0, _⟩ | ⟨b', h1, h2⟩
 ·rw [h0] at e1; cases e1
 ·rw [h1] at e1; cases e1
  simp only at e2
  subst e2
  refine ⟨h1, (h2.lt b' rfl).1, (h2.lt b' rfl).2, ?_⟩
  rcases h2.2 with ⟨h3, _⟩ | ⟨g, cap, cur, h3, _, h4, _⟩
  ·cases h3
  ·simp only [Value.slice.injEq, Option.some.injEq, Addr.mk.injEq, and_true] at h3
   exact ⟨cur, by rw [h3.1]; exact h4⟩
theorem AdAt.trn {B : Nat} {W W' : World} {y : InsA} {S : Nat → Prop} (h : AdAt B W y) (ht : Trn S W W') (hS : ∀ b, AdBlk y b → ¬ S b) : AdAt B W' y := by
 rcases h with h | ⟨b, h1, h2⟩
 ·exact .inl h
 ·exact .inr ⟨b, h1, ht.row h2 (fun c hc => by injection hc with hc; subst hc; exact hS _ ⟨_, h1, rfl⟩)⟩
/-- The fixed cells of a compiler: the pipe's and the machine's numbers. -/
structure CmP where
 w : Int
 h : Int
 I : Int
 a : Option Addr
 n : Nat
 c : Nat
 vl : Int
 vr : Int
 vm : Int
abbrev cmC (P : CmP) (bm : Nat) (fv cv : Value) : Array Value := #[.int .i64 P.w, .int .i64 P.h, .int .i64 P.I, .slice P.a P.n P.c, .int .i64 P.vl, .int .i64 P.vr, .int .i64 P.vm, .map (some bm), fv, cv]
structure CmAt (B : Nat) (W : World) (P : CmP) (bc bm km M : Nat) (C : CmN) (fv cv : Value) (l : Nat → InsA) : Prop where
 c : Blk W bc 103 (cmC P bm fv cv)
 at_ : OwnF Tryz.prog 3 3 W bm km C.at_ M
 free : W.ownsRow B 3 1 fv C.free.length (C.free.map (Value.int .i64))
 code : W.ownsRow B 143 12 cv C.code.length (flat 12 (fun q j => insCell (l q) j) C.code.length)
 ads : ∀ q, q < C.code.length → (l q).x = insAt C.code q ∧ AdAt B W (l q) ∧ ∀ b, AdBlk (l q) b → fv.ownBlock ≠ some b
 lo : B ≤ bc ∧ B ≤ bm
/-- The blocks of a compiler. -/
def CmS (bc bm n : Nat) (fv cv : Value) (l : Nat → InsA) : Nat → Prop := fun b => b = bc ∨ b = bm ∨ fv.ownBlock = some b ∨ cv.ownBlock = some b ∨ ∃ q, q < n ∧ AdBlk (l q) b
theorem int_ne_cmp : (103 : TypeId) ≠ 3 := by decide
theorem ins_ne_cmp : (103 : TypeId) ≠ 143 := by decide
theorem int_ne_ins : (3 : TypeId) ≠ 143 := by decide
section
variable {B : Nat} {W W' : World} {P : CmP} {bc bm km M : Nat} {C : CmN} {fv cv : Value} {l : Nat → InsA}
theorem CmAt.frame (h : CmAt B W P bc bm km M C fv cv l) (ht : Trn (fun b => ¬ CmS bc bm C.code.length fv cv l b) W W') : CmAt B W' P bc bm km M C fv cv l where
 c := ht.blk h.c (fun hn => hn (.inl rfl))
 at_ := h.at_.trn ht (fun hn => hn (.inr (.inl rfl)))
 free := ht.row h.free (fun b hb hn => hn (.inr (.inr (.inl hb))))
 code := ht.row h.code (fun b hb hn => hn (.inr (.inr (.inr (.inl hb)))))
 ads := fun q hq => by
  obtain ⟨h1, h2, h3⟩ := h.ads q hq
  exact ⟨h1, h2.trn ht (fun b hb hn => hn (.inr (.inr (.inr (.inr ⟨q, hq, hb⟩))))), h3⟩
 lo := h.lo
theorem CmAt.own (h : CmAt B W P bc bm km M C fv cv l) : ∀ b, CmS bc bm C.code.length fv cv l b → B ≤ b ∧ b < W.heap.size := by
 rintro b (rfl | rfl | hb | hb | ⟨q, hq, hb⟩)
 ·exact ⟨h.lo.1, h.c.lt⟩
 ·exact ⟨h.lo.2, h.at_.lt⟩
 ·exact h.free.lt b hb
 ·exact h.code.lt b hb
 ·have := (h.ads q hq).2.1.blk hb; exact ⟨this.2.1, this.2.2.1⟩
theorem CmAt.below (h : CmAt B W P bc bm km M C fv cv l) (hb : Below W.heap.size W W') : CmAt B W' P bc bm km M C fv cv l := h.frame (Below.trn0 hb _)
/-- An instruction is emitted: the row of code grows, the compiler's slice of it is written. -/
theorem CmAt.emit (h : CmAt B W P bc bm km M C fv cv l) {y : InsA} (hy : AdAt B W y) (hyf : ∀ b, AdBlk y b → fv.ownBlock ≠ some b) {cv' : Value} (hrow : W'.ownsRow B 143 12 cv' (C.code.length + 1) (flat 12 (fun q j => insCell (l q) j) C.code.length ++ insCells y.x y.a y.c)) (hg : W.grownBy W' cv.ownBlock) :
  CmAt B (W'.setCell ⟨bc, 9, none⟩ cv') P bc bm km M ⟨C.at_, C.free, C.code ++ [y.x]⟩ fv cv' (fun q => if q = C.code.length then y else l q) ∧ Trn (fun b => b = bc ∨ cv.ownBlock = some b) W (W'.setCell ⟨bc, 9, none⟩ cv') := by
 have k1 := grown_trn hg (fun b => cv.ownBlock = some b) (fun b e => e)
 have k2 := setCell_trn W' ⟨bc, 9, none⟩ cv' (fun b => b = bc) rfl
 have hc1 := k1.blk h.c (fun e => h.c.not_row ins_ne_cmp h.code e.symm)
 have hcell : ∀ b cur, W.heap[b]? = some (.cells cur 3 (0, 0)) → ¬ cv.ownBlock = some b ∧ ¬ b = bc := fun b cur hb => by
  refine ⟨fun e => ?_, fun e => ?_⟩
  ·rcases h.code.2 with ⟨h0, _⟩ | ⟨g, cap, cu, h0, _, hg2, _⟩
   ·rw [h0] at e; cases e
   ·rw [h0] at e
    obtain rfl : g = b := by simpa [Value.ownBlock] using e
    rw [hb] at hg2; injection hg2 with hg2; injection hg2 with _ hg2 _; exact int_ne_ins hg2
  ·subst e
   have := h.c
   unfold Blk at this
   rw [hb] at this; injection this with this; injection this with _ this _; exact int_ne_cmp this.symm
 refine ⟨{ c := ?_, at_ := ?_, free := ?_, code := ?_, ads := fun q hq => ?_, lo := h.lo }, (k1.mono (fun b _ e => .inr e)).trans (k2.mono (fun b _ e => .inl e))⟩
 ·exact hc1.set 9 cv'
 ·exact (h.at_.trn k1 (h.at_.not_row h.code)).trn k2 (fun e => h.at_.not_cells h.c e.symm)
 ·have hf1 := k1.row h.free (fun b hb e => rows_apart h.free h.code int_ne_ins hb e)
  exact k2.row hf1 (fun b hb e => by subst e; exact h.c.not_row int_ne_cmp h.free hb.symm)
 ·rw [List.length_append, List.length_singleton]
  have hr2 := k2.row hrow (fun b hb e => by subst e; exact hc1.not_row ins_ne_cmp hrow hb.symm)
  rw [← flat_snoc (fun q j => insCell (if q = C.code.length then y else l q) j) (insCells y.x y.a y.c) (insCells_len _ _ _) (fun j hj => by rw [if_pos rfl]; exact insCells_at y hj)]
  rw [flat_congr (S := 12) (n := C.code.length) (f := fun q j => insCell (if q = C.code.length then y else l q) j) (g := fun q j => insCell (l q) j) (fun i hi j _ => by rw [if_neg (by omega)])]
  exact hr2
 ·rw [List.length_append, List.length_singleton] at hq
  by_cases e : q = C.code.length
  ·simp only [e, if_true]
   refine ⟨by unfold insAt; rw [List.getElem?_append_right (Nat.le_refl _)]; simp, ?_, hyf⟩
   have hd : ∀ b, AdBlk y b → ¬ cv.ownBlock = some b ∧ ¬ b = bc := fun b hb => by
    obtain ⟨_, _, _, cur, hcur⟩ := hy.blk hb
    exact hcell b cur hcur
   exact (hy.trn k1 (fun b hb => (hd b hb).1)).trn k2 (fun b hb => (hd b hb).2)
  ·simp only [if_neg e]
   obtain ⟨h1, h2, h3⟩ := h.ads q (by omega)
   have hd : ∀ b, AdBlk (l q) b → ¬ cv.ownBlock = some b ∧ ¬ b = bc := fun b hb => by
    obtain ⟨_, _, _, cur, hcur⟩ := h2.blk hb
    exact hcell b cur hcur
   refine ⟨?_, (h2.trn k1 (fun b hb => (hd b hb).1)).trn k2 (fun b hb => (hd b hb).2), h3⟩
   rw [h1]; unfold insAt; rw [List.getElem?_append_left (by omega)]
end
end Go.Proofs.YtekiemlniegddaaGreat
namespace Go.Proofs.YtekiemlniegddaaGreat
open Go Go.Maps Go.RowKit Go.Shelf
theorem info_ins : (Tryz.prog.info? 143).map (fun i => (i.zero, i.size, i.bytes)) = some (some (.agg #[.int .u8 0, .int .i64 0, .int .i64 0, .int .i64 0, .int .i64 0, .int .i64 0, .int .i64 0, .int .i64 0, .int .i64 0, .int .i64 0, .int .u8 0, .slice none 0 0]), 12, 112) := by kernel_rfl
set_option maxRecDepth 100000 in
set_option maxHeartbeats 4000000 in
theorem emit_any (B : Nat) (w : World) (P : CmP) (bc bm km M : Nat) (C : CmN) (fv cv : Value) (l : Nat → InsA) (hcm : CmAt B w P bc bm km M C fv cv l) (hlen : C.code.length ≤ 1000000) (x : InsN) (a : Option Addr) (c : Nat) (hy : AdAt B w ⟨x, a, c⟩) (hyf : ∀ b, AdBlk ⟨x, a, c⟩ b → fv.ownBlock ≠ some b) :
  Calls Tryz.prog 108 #[.pointer (some ⟨bc, 0, none⟩), insv x a c] w fun e w' => (∃ vv, e = .returned vv) ∧ ∃ cv', CmAt B w' P bc bm km M ⟨C.at_, C.free, C.code ++ [x]⟩ fv cv' (fun q => if q = C.code.length then ⟨x, a, c⟩ else l q) ∧ Trn (fun b => b = bc ∨ cv.ownBlock = some b) w w' ∧ (cv'.ownBlock = cv.ownBlock ∨ ∃ b, cv'.ownBlock = some b ∧ w.heap.size ≤ b) := by
 have hB : Below w.heap.size w w := Below.refl _ _
 obtain ⟨i0, hi, hz0, hz1, hz2⟩ := info_partsQ info_ins
 obtain ⟨al, hal⟩ : ∃ n, x.ad.length = n := ⟨_, rfl⟩
 have halH := Lib.hid hal
 unfold insv
 rw [hal]
 have hkx : cv.ownBlock ≠ some w.heap.size := fun e => by have := (hcm.code.lt _ e).2; omega
 clear hal
 have hBw : B ≤ w.heap.size := by have := hcm.lo; have := hcm.c.lt; omega
 obtain ⟨V1, hEV1, hbV1, kx⟩ := newB w 143 #[.int .u8 x.op, .int .i64 x.d, .int .i64 x.a, .int .i64 x.b, .int .i64 x.val, .int .i64 x.pt.mul, .int .i64 x.pt.add, .int .i64 x.pt.div, .int .i64 x.pt.lo, .int .i64 x.pt.hi, .int .u8 x.how, .slice a al c]
 replace hcm := hcm.below hbV1
 replace hy := hy.trn (Below.trn0 hbV1 (fun _ => False)) (fun _ _ h => h)
 replace hB := tmB hB hbV1
 clear hbV1
 go_enter Tryz.func108, Tryz.ntmps108
 go_wp2_with fail
 clear hEV1
 have hcm2 := hcm.below (Below.refl _ V1).drew
 have hy2 := hy.trn (Below.trn0 (Below.refl _ V1).drew (fun _ => False)) (fun _ _ h => h)
 have hB2 := hB.drew
 have hS : Blk V1.drew bc 103 (cmC P bm fv cv) ∧ Blk V1.drew w.heap.size 143 #[.int .u8 x.op, .int .i64 x.d, .int .i64 x.a, .int .i64 x.b, .int .i64 x.val, .int .i64 x.pt.mul, .int .i64 x.pt.add, .int .i64 x.pt.div, .int .i64 x.pt.lo, .int .i64 x.pt.hi, .int .u8 x.how, .slice a al c] := ⟨hcm2.c, kx.below (Below.refl _ V1).drew kx.lt⟩
 clear hcm hy hB kx
 refine plain_region (fun W' => Blk W' bc 103 (cmC P bm fv cv) ∧ Blk W' w.heap.size 143 #[.int .u8 x.op, .int .i64 x.d, .int .i64 x.a, .int .i64 x.b, .int .i64 x.val, .int .i64 x.pt.mul, .int .i64 x.pt.add, .int .i64 x.pt.div, .int .i64 x.pt.lo, .int .i64 x.pt.hi, .int .u8 x.how, .slice a al c]) 10 11 (by kernel_rfl) rfl ?_
 simp only [Array.replicate_succ, Array.replicate_zero, List.push_toArray, List.nil_append, List.cons_append]
 obtain ⟨X0, hXX0⟩ : ∃ X : World, V1.drew = X := ⟨_, rfl⟩
 rw [hXX0] at hS hcm2 hy2 hB2 ⊢
 clear hXX0
 have FA0 := Lib.hid (fun w' (hS' : (fun W' => Blk W' bc 103 (cmC P bm fv cv) ∧ Blk W' w.heap.size 143 #[.int .u8 x.op, .int .i64 x.d, .int .i64 x.a, .int .i64 x.b, .int .i64 x.val, .int .i64 x.pt.mul, .int .i64 x.pt.add, .int .i64 x.pt.div, .int .i64 x.pt.lo, .int .i64 x.pt.hi, .int .u8 x.how, .slice a al c]) w') => And.intro (hS'.1.cell (i := 9) rfl) (cz12 hS'.2))
 refine tkz 0 rfl hS (fun w' hS' => by go_simp; rfl) ?_
 simp only [nrz]
 refine tkz 1 rfl hS (fun w' hS' => by go_simp; rfl) ?_
 simp only [nrz]
 refine tkz 2 rfl hS (fun w' hS' => by go_simp; rfl) ?_
 simp only [nrz]
 refine tkz 3 rfl hS (fun w' hS' => by go_simp; rfl) ?_
 simp only [nrz]
 refine tkz 4 rfl hS (fun w' hS' => by obtain ⟨y9, ⟨x0, x1, x2, x3, x4, x5, x6, x7, x8, x9, x10, x11⟩⟩ := FA0.out w' hS'; clear hS'; go_simp; rfl) ?_
 simp only [nrz]
 refine tkz 5 rfl hS (fun w' hS' => by obtain ⟨y9, ⟨x0, x1, x2, x3, x4, x5, x6, x7, x8, x9, x10, x11⟩⟩ := FA0.out w' hS'; clear hS'; go_simp; rfl) ?_
 simp only [nrz]
 refine step_op 6 (by kernel_rfl) rfl (fun K hK => ?_)
 rw [if_pos (by rfl)]
 go_simp
 have hbA := jb_al (Below.refl _ X0) (.cells #[.int .u8 x.op, .int .i64 x.d, .int .i64 x.a, .int .i64 x.b, .int .i64 x.val, .int .i64 x.pt.mul, .int .i64 x.pt.add, .int .i64 x.pt.div, .int .i64 x.pt.lo, .int .i64 x.pt.hi, .int .u8 x.how, .slice a al c] 143)
 have ky := Blk.new X0 143 #[.int .u8 x.op, .int .i64 x.d, .int .i64 x.a, .int .i64 x.b, .int .i64 x.val, .int .i64 x.pt.mul, .int .i64 x.pt.add, .int .i64 x.pt.div, .int .i64 x.pt.lo, .int .i64 x.pt.hi, .int .u8 x.how, .slice a al c]
 have hcm6 := hcm2.below hbA
 have hy6 := hy2.trn (Below.trn0 hbA (fun _ => False)) (fun _ _ h => h)
 have hB6 := hB2.trans (hbA.mono hB2.size)
 have hS6 : Blk (X0.alloc (.cells #[.int .u8 x.op, .int .i64 x.d, .int .i64 x.a, .int .i64 x.b, .int .i64 x.val, .int .i64 x.pt.mul, .int .i64 x.pt.add, .int .i64 x.pt.div, .int .i64 x.pt.lo, .int .i64 x.pt.hi, .int .u8 x.how, .slice a al c] 143)) bc 103 (cmC P bm fv cv) ∧ Blk (X0.alloc (.cells #[.int .u8 x.op, .int .i64 x.d, .int .i64 x.a, .int .i64 x.b, .int .i64 x.val, .int .i64 x.pt.mul, .int .i64 x.pt.add, .int .i64 x.pt.div, .int .i64 x.pt.lo, .int .i64 x.pt.hi, .int .u8 x.how, .slice a al c] 143)) w.heap.size 143 #[.int .u8 x.op, .int .i64 x.d, .int .i64 x.a, .int .i64 x.b, .int .i64 x.val, .int .i64 x.pt.mul, .int .i64 x.pt.add, .int .i64 x.pt.div, .int .i64 x.pt.lo, .int .i64 x.pt.hi, .int .u8 x.how, .slice a al c] := ⟨hS.1.below hbA hS.1.lt, hS.2.below hbA hS.2.lt⟩
 obtain ⟨by_, hby⟩ : ∃ b, X0.heap.size = b := ⟨_, rfl⟩
 obtain ⟨X6, hX6⟩ : ∃ X, X0.alloc (.cells #[.int .u8 x.op, .int .i64 x.d, .int .i64 x.a, .int .i64 x.b, .int .i64 x.val, .int .i64 x.pt.mul, .int .i64 x.pt.add, .int .i64 x.pt.div, .int .i64 x.pt.lo, .int .i64 x.pt.hi, .int .u8 x.how, .slice a al c] 143) = X := ⟨_, rfl⟩
 rw [hX6] at ky hcm6 hy6 hS6 hB6 ⊢
 rw [hby] at ky ⊢
 clear hX6 hby hbA hcm2 hy2 hS hB2
 refine hK.out _ _ (fun h => hS6) ?_
 clear hK K
 try simp only [Act.put, nrz]
 refine step_op 7 (by kernel_rfl) rfl (fun K hK => ?_)
 have hnews : ∀ j u, (insCells x a c)[j]? = some u → X6.cell? ((⟨by_, 0, none⟩ : Addr).add j) = some u := by
  unfold insCells
  rw [halH.out]
  exact blk_news ky
 refine step_append_atQ rfl (.tmp 8) (.tmp 10) 41 rfl B 143 i0 (.agg #[.int .u8 0, .int .i64 0, .int .i64 0, .int .i64 0, .int .i64 0, .int .i64 0, .int .i64 0, .int .i64 0, .int .i64 0, .int .i64 0, .int .u8 0, .slice none 0 0]) 12 112 Tryz.underlying41 hi hz0 hz1 hz2 rfl (by decide) cv C.code.length _ rfl hcm6.code ⟨by_, 0, none⟩ 1 1 (insCells x a c) rfl rfl hnews (insCells_one x a c) (by unfold maxLen; omega) (by omega) (Nat.le_trans hBw hB6.size) ?_
 intro cv' X7 hown7 hg7 hat7
 obtain ⟨ca, cc, rfl⟩ := row_slice hown7
 obtain ⟨hcm7, ht7⟩ := hcm6.emit (y := ⟨x, a, c⟩) hy6 hyf hown7 hg7
 have k1 := grown_trn hg7 (fun b => cv.ownBlock = some b) (fun b e => e)
 have hS7 : Blk X7 bc 103 (cmC P bm fv cv) ∧ Blk X7 w.heap.size 143 #[.int .u8 x.op, .int .i64 x.d, .int .i64 x.a, .int .i64 x.b, .int .i64 x.val, .int .i64 x.pt.mul, .int .i64 x.pt.add, .int .i64 x.pt.div, .int .i64 x.pt.lo, .int .i64 x.pt.hi, .int .u8 x.how, .slice a al c] := ⟨k1.blk hS6.1 (fun e => hS6.1.not_row ins_ne_cmp hcm6.code e.symm), k1.blk hS6.2 (fun e => hkx e)⟩
 have e9 := hS7.1.cell (i := 9) rfl
 have f9 := hS7.1.frozen 9
 have hsz6 := hB6.size
 clear hown7 hg7 hcm6 hy6 ky hS6 k1 hnews
 refine hK.out _ _ (fun h => hS7) ?_
 clear hK K
 try simp only [Act.put, nrz]
 refine step_op 8 (by kernel_rfl) rfl (fun K hK => ?_)
 rw [if_pos (by rfl)]
 go_simp
 refine hK.out _ _ (fun h => hS7) ?_
 clear hK K
 try simp only [Act.put, nrz]
 refine tkz 9 rfl hS7 (fun w' hS' => by go_simp; rfl) ?_
 simp only [nrz]
 refine step_op 10 (by kernel_rfl) rfl (fun K hK => ?_)
 rw [if_pos (by rfl)]
 go_simp
 clear e9 f9
 refine hK.out _ _ (fun h => absurd h (by omega)) ?_
 clear hK K
 try simp only [Act.put, nrz]
 refine done_ops (by kernel_rfl) ?_
 clear hS7
 have hT : Trn (fun b => b = bc ∨ cv.ownBlock = some b) w (X7.setCell ⟨bc, 9, none⟩ (.slice ca (C.code.length + 1) cc)) := (Below.trn0 hB6 _).trans ht7
 go_wp2_with fail
 go_end0
 exact ⟨⟨_, rfl⟩, _, hcm7, hT, hat7.elim .inl (fun h => .inr ⟨_, h, hsz6⟩)⟩
end Go.Proofs.YtekiemlniegddaaGreat
namespace Go.Proofs.YtekiemlniegddaaGreat
open Go Go.Maps Go.RowKit Go.Shelf
theorem row_shrink {W : World} {base : Nat} {e : TypeId} {g n c k : Nat} {xs : List Value} (h : W.ownsRow base e 1 (.slice (some ⟨g, 0, none⟩) n c) n xs) (hk : k ≤ n) : W.ownsRow base e 1 (.slice (some ⟨g, 0, none⟩) k c) k (xs.take k) := by
 refine ⟨by rw [List.length_take, h.1]; omega, ?_⟩
 rcases h.2 with ⟨h0, _⟩ | ⟨g', cap, cur, h0, h1, h2, h3, h4, h5, h6⟩
 ·cases h0
 ·simp only [Value.slice.injEq, Option.some.injEq, Addr.mk.injEq, and_true, true_and] at h0
  obtain ⟨rfl, rfl⟩ := h0
  refine .inr ⟨g, c, cur, rfl, h1, h2, by omega, h4, h5, ?_⟩
  rw [← h6, List.take_take]
  congr 1; omega
theorem CmAt.place {B : Nat} {W W' : World} {P : CmP} {bc bm km km' M g k cap : Nat} {C : CmN} {cv : Value} {l : Nat → InsA} {F' : FnL} (h : CmAt B W P bc bm km M C (.slice (some ⟨g, 0, none⟩) (k + 1) cap) cv l) (hk : C.free.length = k + 1) (hF : OwnF Tryz.prog 3 3 W' bm km' F' M) (hg : W.grownBy W' (some bm)) :
  CmAt B (W'.setCell ⟨bc, 8, none⟩ (.slice (some ⟨g, 0, none⟩) k cap)) P bc bm km' M ⟨F', C.free.take k, C.code⟩ (.slice (some ⟨g, 0, none⟩) k cap) cv l ∧ Trn (fun b => b = bc ∨ b = bm) W (W'.setCell ⟨bc, 8, none⟩ (.slice (some ⟨g, 0, none⟩) k cap)) := by
 have k1 := grown_trn hg (fun b => b = bm) (fun b e => by injection e with e; exact e.symm)
 have k2 := setCell_trn W' ⟨bc, 8, none⟩ (.slice (some ⟨g, 0, none⟩) k cap) (fun b => b = bc) rfl
 have hcb := h.at_.not_cells h.c
 have hc1 := k1.blk h.c hcb
 have hfree := h.free
 rw [hk] at hfree
 have hf1 := k1.row hfree (fun b hb e => by subst e; exact h.at_.not_row hfree hb)
 have hf2 := k2.row hf1 (fun b hb e => by subst e; exact h.c.not_row int_ne_cmp hfree hb.symm)
 have hd1 := k1.row h.code (fun b hb e => by subst e; exact h.at_.not_row h.code hb)
 have hd2 := k2.row hd1 (fun b hb e => by subst e; exact h.c.not_row ins_ne_cmp h.code hb.symm)
 refine ⟨{ c := hc1.set 8 _, at_ := hF.trn k2 (fun e => hcb e.symm), free := ?_, code := hd2, ads := fun q hq => ?_, lo := h.lo }, (k1.mono (fun b _ e => .inr e)).trans (k2.mono (fun b _ e => .inl e))⟩
 ·have := row_shrink hf2 (k := k) (by omega)
  rw [← List.map_take] at this
  rw [show (C.free.take k).length = k by rw [List.length_take]; omega]
  exact this
 ·obtain ⟨h1, h2, h3⟩ := h.ads q hq
  refine ⟨h1, (h2.trn k1 (fun b hb e => ?_)).trn k2 (fun b hb e => ?_), h3⟩
  ·obtain ⟨_, _, _, cur, hcur⟩ := h2.blk hb
   exact h.at_.not_cells hcur e
  ·obtain ⟨_, _, _, cur, hcur⟩ := h2.blk hb
   subst e
   have := h.c
   unfold Blk at this
   rw [hcur] at this; injection this with this; injection this with _ this _; exact int_ne_cmp this.symm
set_option maxRecDepth 100000 in
set_option maxHeartbeats 4000000 in
theorem place_any (B : Nat) (w : World) (P : CmP) (bc bm km M : Nat) (C : CmN) (fv cv : Value) (l : Nat → InsA) (hcm : CmAt B w P bc bm km M C fv cv l) (k : Nat) (hk : C.free.length = k + 1) (hk1 : k ≤ 1000) (m : Nat) (hm : m < M) (hM : M < 100) (hkm : km < 100) (hvb : 0 ≤ lastN C ∧ lastN C ≤ 100000) :
  Calls Tryz.prog 52 #[.pointer (some ⟨bc, 0, none⟩), .int .i64 (m : Int)] w fun e w' => e = .returned (.int .i64 (lastN C)) ∧ ∃ fv', CmAt B w' P bc bm (km + 1) M (placeN C (m : Int)) fv' cv l ∧ Trn (fun b => b = bc ∨ b = bm) w w' ∧ fv'.ownBlock = fv.ownBlock := by
 obtain ⟨g, cap, hfv⟩ : ∃ g cap, fv = .slice (some ⟨g, 0, none⟩) (k + 1) cap := by
  have h := hcm.free
  rw [hk] at h
  rcases h.2 with ⟨_, h0⟩ | ⟨g, cap, cur, h0, _⟩
  ·omega
  ·exact ⟨g, cap, h0⟩
 subst hfv
 have hB : Below w.heap.size w w := Below.refl _ _
 have hBw : B ≤ w.heap.size := by have := hcm.lo; have := hcm.c.lt; omega
 have hrow := hcm.free
 rw [hk] at hrow
 have hlast : lastN C = C.free[k]?.getD 0 := by unfold lastN; rw [hk]; rfl
 have hkl : k < C.free.length := by omega
 have hcl : w.cell? ⟨g, k, none⟩ = some (.int .i64 (lastN C)) := row_cellAt hrow k (by rw [hlast, List.getElem?_map, List.getElem?_eq_getElem hkl]; rfl)
 clear hkl
 obtain ⟨v, hv⟩ : ∃ v, lastN C = v := ⟨_, rfl⟩
 rw [hv] at hcl hvb ⊢
 have hpl : placeN C (m : Int) = ⟨putF C.at_ (m : Int) (ilit v), C.free.take k, C.code⟩ := by unfold placeN; rw [hv, hk]; rfl
 have hplH := Lib.hid hpl
 rw [hpl]
 have hkH := Lib.hid hk
 clear hv hlast hpl hrow
 have y8 := hcm.c.cell (i := 8) rfl
 go_enter Tryz.func52, Tryz.ntmps52
 go_wp2_with fail
 have hcm2 := hcm.below (Below.refl _ w).drew
 have hS : Blk w.drew bc 103 (cmC P bm (.slice (some ⟨g, 0, none⟩) (k + 1) cap) cv) ∧ w.drew.cell? ⟨g, k, none⟩ = some (.int .i64 v) := ⟨hcm2.c, hcl⟩
 have hB2 := hB.drew
 clear y8 hcl hcm hB
 refine plain_region (fun W' => Blk W' bc 103 (cmC P bm (.slice (some ⟨g, 0, none⟩) (k + 1) cap) cv) ∧ W'.cell? ⟨g, k, none⟩ = some (.int .i64 v)) 12 13 (by kernel_rfl) rfl ?_
 simp only [Array.replicate_succ, Array.replicate_zero, List.push_toArray, List.nil_append, List.cons_append]
 obtain ⟨X0, hXX0⟩ : ∃ X : World, w.drew = X := ⟨_, rfl⟩
 rw [hXX0] at hS hcm2 hB2 ⊢
 clear hXX0
 have FA0 := Lib.hid (fun w' (hS' : (fun W' => Blk W' bc 103 (cmC P bm (.slice (some ⟨g, 0, none⟩) (k + 1) cap) cv) ∧ W'.cell? ⟨g, k, none⟩ = some (.int .i64 v)) w') => And.intro (hS'.1.cell (i := 7) rfl) (And.intro (hS'.1.cell (i := 8) rfl) (hS'.2)))
 refine tkz 0 rfl hS (fun w' hS' => by go_simp; rfl) ?_
 simp only [nrz]
 refine tkz 1 rfl hS (fun w' hS' => by go_simp; rfl) ?_
 simp only [nrz]
 refine tkz 2 rfl hS (fun w' hS' => by go_simp; rfl) ?_
 simp only [nrz]
 refine tkz 3 rfl hS (fun w' hS' => by obtain ⟨y7, y8, yc⟩ := FA0.out w' hS'; clear hS'; go_simp; rfl) ?_
 simp only [nrz]
 refine tkz 4 rfl hS (fun w' hS' => by go_simp; rfl) ?_
 simp only [nrz]
 refine tkz 5 rfl hS (fun w' hS' => by go_simp; rfl) ?_
 simp only [nrz]
 refine tkz 6 rfl hS (fun w' hS' => by go_simp; rfl) ?_
 simp only [nrz]
 refine tkz 7 rfl hS (fun w' hS' => by go_simp; rfl) ?_
 simp only [nrz]
 refine tkz 8 rfl hS (fun w' hS' => by obtain ⟨y7, y8, yc⟩ := FA0.out w' hS'; clear hS'; go_simp; rfl) ?_
 simp only [nrz]
 refine tkz 9 rfl hS (fun w' hS' => by go_simp; rfl) ?_
 simp only [nrz]
 refine tkz 10 (v := ?av10) rfl hS (fun w' hS' => ?ay10) ?az10
 case ay10 =>
  go_simp
  try go_ints
  first
  | rfl
  | (rw [if_pos (by omega)]; done)
  | rw [if_pos ⟨by omega, by omega⟩]
 simp only [nrz]
 refine tkz 11 rfl hS (fun w' hS' => by obtain ⟨y7, y8, yc⟩ := FA0.out w' hS'; clear hS'; go_simp; rfl) ?_
 simp only [nrz]
 refine step_op 12 (by kernel_rfl) rfl (fun K hK => ?_)
 obtain ⟨X1, hput, hat1, hg1⟩ := hcm2.at_.run_put Tryz.underlying3 Tryz.underlying101 hkm (m : Int) (by omega) hM (.int .i64 v) _ (plainElem_int Tryz.underlying3 (wf_num ⟨by omega, by omega⟩))
 rw [if_pos (by rfl)]
 go_simp
 clear hput
 refine hK.out _ _ (fun h => absurd h (by omega)) ?_
 clear hK K
 try simp only [Act.put, nrz]
 refine done_ops (by kernel_rfl) ?_
 obtain ⟨hcm3, ht3⟩ := hcm2.place hkH.out hat1 hg1
 have kc1 := hcm2.c.kept hg1 (fun e => hcm2.at_.not_cells hcm2.c (by injection e))
 have y8 := kc1.cell (i := 8) rfl
 have f8 := kc1.frozen 8
 obtain ⟨X2, hX2⟩ : ∃ X, X1.setCell ⟨bc, 8, none⟩ (.slice (some ⟨g, 0, none⟩) k cap) = X := ⟨_, rfl⟩
 rw [hX2] at hcm3 ht3
 have z7 := hcm3.c.cell (i := 7) rfl
 have hlk := hcm3.at_.run_look Tryz.underlying3 Tryz.underlying101 Tryz.underlying3 (zero_num _) (m : Int) (wf_num ⟨by omega, by omega⟩)
 dsimp only at hlk
 rw [putF_same, numF_lit] at hlk
 have hcap : k ≤ cap := by
  have h := hcm3.free
  rcases h.2 with ⟨h0, _⟩ | ⟨g', c', cur, h0, _, _, h1, _⟩
  ·cases h0
  ·injection h0 with _ h2 h3
   have h4 := hkH.out
   simp only [List.length_take] at h1 h2
   omega
 have hkc : ¬ cap < k := by omega
 have hT : Trn (fun b => b = bc ∨ b = bm) w X2 := (Below.trn0 hB2 _).trans ht3
 clear hat1 hg1 ht3 hcm2 hS
 go_wp2_with fail
 go_ret
 exact ⟨rfl, _, hcm3, hT, rfl⟩
end Go.Proofs.YtekiemlniegddaaGreat
namespace Go.Proofs.YtekiemlniegddaaGreat
open Go Go.Maps Go.RowKit Go.Shelf
theorem adrN_len (w h : Int) (lanes g : Nat) (p dx dy bd : Int) : (adrN w h lanes g p dx dy bd).length = lanes := by simp [adrN]
theorem adrN_row (w h : Int) (lanes g : Nat) (p dx dy bd : Int) : (adrN w h lanes g p dx dy bd).map (Value.int .i64) = intL lanes (adrAt w h lanes g p dx dy bd) := by unfold adrN; exact intL_map _ _
theorem CmS.emit {bc bm n : Nat} {fv cv cv' : Value} {l : Nat → InsA} {y : InsA} {N : Nat} (hcv : cv'.ownBlock = cv.ownBlock ∨ ∃ b, cv'.ownBlock = some b ∧ N ≤ b) : ∀ b, CmS bc bm (n + 1) fv cv' (fun q => if q = n then y else l q) b → CmS bc bm n fv cv l b ∨ N ≤ b ∨ AdBlk y b := by
 rintro b (h | h | h | h | ⟨q, hq, h⟩)
 ·exact .inl (.inl h)
 ·exact .inl (.inr (.inl h))
 ·exact .inl (.inr (.inr (.inl h)))
 ·rcases hcv with e | ⟨b', e, hb⟩
  ·exact .inl (.inr (.inr (.inr (.inl (by rw [← e]; exact h)))))
  ·rw [e] at h; injection h with h; subst h; exact .inr (.inl hb)
 ·by_cases e : q = n
  ·simp only [e, if_true] at h; exact .inr (.inr h)
  ·simp only [if_neg e] at h; exact .inl (.inr (.inr (.inr (.inr ⟨q, by omega, h⟩))))
set_option maxRecDepth 100000 in
set_option maxHeartbeats 8000000 in
theorem load_any (B : Nat) (w : World) (P : CmP) (bc bm km M : Nat) (C : CmN) (fv cv : Value) (l : Nat → InsA) (hcm : CmAt B w P bc bm km M C fv cv l) (hlen : C.code.length ≤ 1000000) (L : Nat) (hvl : P.vl = (L : Int)) (hw : 1 ≤ P.w ∧ P.w ≤ 16) (hh : 1 ≤ P.h ∧ P.h ≤ 16) (hL : 1 ≤ L ∧ L ≤ 16) (gr : Nat) (hgr : gr ≤ 256) (bp bg : Nat) (kp : Blk w bp 100 #[.pointer (some ⟨bc, 0, none⟩)]) (kg : Blk w bg 3 #[.int .i64 (gr : Int)])
  (d : Int) (m : Nat) (hm : m < M) (hM : M < 100) (dx dy val bd : Int) (hvb : 0 ≤ numF (C.at_ (m : Int)) ∧ numF (C.at_ (m : Int)) ≤ 100000) (hdx : -100 ≤ dx ∧ dx ≤ 100) (hdy : -100 ≤ dy ∧ dy ≤ 100) (hbd : 0 ≤ bd ∧ bd ≤ 255) :
  Calls Tryz.prog 147 #[.int .i64 d, .int .i64 (m : Int), .int .i64 dx, .int .i64 dy, .int .i64 val, .int .u8 bd, .pointer (some ⟨bp, 0, none⟩), .pointer (some ⟨bg, 0, none⟩)] w fun e w' => (∃ vv, e = .returned vv) ∧ ∃ cv' l', CmAt B w' P bc bm km M ⟨C.at_, C.free, C.code ++ [insL P.w P.h L gr d (numF (C.at_ (m : Int))) dx dy val bd]⟩ fv cv' l' ∧ Trn (fun b => b = bc ∨ cv.ownBlock = some b) w w' ∧ ∀ b, CmS bc bm (C.code.length + 1) fv cv' l' b → CmS bc bm C.code.length fv cv l b ∨ w.heap.size ≤ b := by
 have hB : Below w.heap.size w w := Below.refl _ _
 obtain ⟨v, hv⟩ : ∃ v, numF (C.at_ (m : Int)) = v := ⟨_, rfl⟩
 rw [hv] at hvb ⊢
 have hlk0 := fun W (hc : CmAt B W P bc bm km M C fv cv l) => hc.at_.run_look (t := 101) Tryz.underlying3 Tryz.underlying101 Tryz.underlying3 (zero_num _) (m : Int) (wf_num ⟨by omega, by omega⟩)
 rw [hv] at hlk0
 have hlkH := Lib.hid hlk0
 clear hv hlk0
 have had := fun W (kc : Blk W bc 103 (cmC P bm fv cv)) => addresses_any W bc bm P.w P.h P.I P.vr P.vm L P.a P.n P.c fv cv (by have h := kc; unfold cmC at h; rw [hvl] at h; exact h) hw hh hL gr hgr v dx dy bd hvb hdx hdy hbd
 have hadH := Lib.hid had
 have hbp := kp.lt
 have hbg := kg.lt
 clear had
 go_enter Tryz.func147, Tryz.ntmps147
 have hcm2 := hcm.below (Below.refl _ w).drew
 have hB2 := hB.drew
 have hS : Blk w.drew bp 100 #[.pointer (some ⟨bc, 0, none⟩)] ∧ Blk w.drew bg 3 #[.int .i64 (gr : Int)] ∧ ∃ cx, Blk w.drew bc 103 (cmC P bm fv cx) := ⟨kp.below (Below.refl _ w).drew kp.lt, kg.below (Below.refl _ w).drew kg.lt, cv, hcm2.c⟩
 clear hcm hB kp kg
 go_wp2_with fail
 refine plain_region (fun W' => Blk W' bp 100 #[.pointer (some ⟨bc, 0, none⟩)] ∧ Blk W' bg 3 #[.int .i64 (gr : Int)] ∧ ∃ cx, Blk W' bc 103 (cmC P bm fv cx)) 17 17 (by kernel_rfl) rfl ?_
 simp only [Array.replicate_succ, Array.replicate_zero, List.push_toArray, List.nil_append, List.cons_append]
 obtain ⟨X0, hXX0⟩ : ∃ X : World, w.drew = X := ⟨_, rfl⟩
 rw [hXX0] at hS hcm2 hB2 ⊢
 clear hXX0
 refine tkz 0 (v := ?av0) rfl hS (fun w' hS' => ?ay0) ?az0
 case ay0 =>
  have y0 := hS'.1.cell (i := 0) rfl
  have y1 := hS'.2.1.cell (i := 0) rfl
  obtain ⟨_, _, cx, hcx⟩ := hS'
  have y7 := hcx.cell (i := 7) rfl
  clear hcx
  go_simp
  rfl
 simp only [nrz]
 refine tkz 1 rfl hS (fun w' hS' => by go_simp; rfl) ?_
 simp only [nrz]
 refine tkz 2 rfl hS (fun w' hS' => by go_simp; rfl) ?_
 simp only [nrz]
 refine tkz 3 (v := ?av3) rfl hS (fun w' hS' => ?ay3) ?az3
 case ay3 =>
  have y0 := hS'.1.cell (i := 0) rfl
  have y1 := hS'.2.1.cell (i := 0) rfl
  obtain ⟨_, _, cx, hcx⟩ := hS'
  have y7 := hcx.cell (i := 7) rfl
  clear hcx
  go_simp
  rfl
 simp only [nrz]
 refine tkz 4 (v := ?av4) rfl hS (fun w' hS' => ?ay4) ?az4
 case ay4 =>
  have y0 := hS'.1.cell (i := 0) rfl
  have y1 := hS'.2.1.cell (i := 0) rfl
  obtain ⟨_, _, cx, hcx⟩ := hS'
  have y7 := hcx.cell (i := 7) rfl
  clear hcx
  go_simp
  rfl
 simp only [nrz]
 refine tkz 5 (v := ?av5) rfl hS (fun w' hS' => ?ay5) ?az5
 case ay5 =>
  have y0 := hS'.1.cell (i := 0) rfl
  have y1 := hS'.2.1.cell (i := 0) rfl
  obtain ⟨_, _, cx, hcx⟩ := hS'
  have y7 := hcx.cell (i := 7) rfl
  clear hcx
  go_simp
  rfl
 simp only [nrz]
 refine tkz 6 rfl hS (fun w' hS' => by go_simp; rfl) ?_
 simp only [nrz]
 refine tkz 7 rfl hS (fun w' hS' => by go_simp; rfl) ?_
 simp only [nrz]
 refine tkz 8 (v := ?av8) rfl hS (fun w' hS' => ?ay8) ?az8
 case ay8 =>
  have y0 := hS'.1.cell (i := 0) rfl
  have y1 := hS'.2.1.cell (i := 0) rfl
  obtain ⟨_, _, cx, hcx⟩ := hS'
  have y7 := hcx.cell (i := 7) rfl
  clear hcx
  go_simp
  rfl
 simp only [nrz]
 refine tkz 9 rfl hS (fun w' hS' => by go_simp; rfl) ?_
 simp only [nrz]
 refine tkz 11 rfl hS (fun w' hS' => by go_simp; rfl) ?_
 simp only [nrz]
 refine tkz 12 rfl hS (fun w' hS' => by go_simp; rfl) ?_
 simp only [nrz]
 refine tkz 13 rfl hS (fun w' hS' => by go_simp; rfl) ?_
 simp only [nrz]
 refine step_op 10 (by kernel_rfl) rfl (fun K hK => ?_)
 have hlk := hlkH.out X0 hcm2
 rw [if_pos (by rfl)]
 go_simp
 clear hlk
 refine hK.out _ _ (fun h => hS) ?_
 clear hK K
 try simp only [Act.put, nrz]
 refine step_op 14 (by kernel_rfl) rfl (fun K hK => ?_)
 rw [if_pos (by rfl)]
 go_simp
 refine (hadH.out X0 hcm2.c).mono ?_
 rintro e X9 ⟨b, rfl, hrow, hb9⟩
 have hS9 : Blk X9 bp 100 #[.pointer (some ⟨bc, 0, none⟩)] ∧ Blk X9 bg 3 #[.int .i64 (gr : Int)] ∧ ∃ cx, Blk X9 bc 103 (cmC P bm fv cx) := ⟨hS.1.below hb9 hS.1.lt, hS.2.1.below hb9 hS.2.1.lt, cv, (hcm2.below hb9).c⟩
 have hcm9 := hcm2.below hb9
 have hBX : B ≤ X0.heap.size := by have := hcm2.lo; have := hcm2.c.lt; omega
 have hfl := hcm2.free.lt
 have hB9 := hB2.trans (hb9.mono hB2.size)
 have hrb := hrow.lt b rfl
 have hX0 := hB2.size
 rw [← adrN_row] at hrow
 clear hS hcm2
 refine hK.out _ _ (fun h => hS9) ?_
 clear hK K
 try simp only [Act.put, nrz]
 refine tkz 15 rfl hS9 (fun w' hS' => by go_simp; rfl) ?_
 simp only [nrz]
 refine step_op 16 (by kernel_rfl) rfl (fun K hK => ?_)
 have hem := emit_any B X9 P bc bm km M C fv cv l hcm9 hlen (insL P.w P.h L gr d v dx dy val bd) (some ⟨b, 0, none⟩) L (.inr ⟨b, rfl, by show X9.ownsRow B 3 1 (.slice (some ⟨b, 0, none⟩) (adrN P.w P.h L gr v dx dy bd).length L) (adrN P.w P.h L gr v dx dy bd).length _; rw [adrN_len]; exact jrow_weaken hrow hBX⟩) (fun b' hb' e => by obtain ⟨ad, h1, h2⟩ := hb'; cases h1; have h2' : b = b' := h2; subst h2'; have h3 : b < X0.heap.size := (hfl b e).2; have h4 : X0.heap.size ≤ b := hrb.1; omega)
 unfold insv at hem
 rw [show (insL P.w P.h L gr d v dx dy val bd).ad.length = L from adrN_len _ _ _ _ _ _ _ _] at hem
 rw [if_pos (by rfl)]
 go_simp
 refine hem.mono ?_
 rintro e X10 ⟨⟨vv, rfl⟩, cv', hcm10, hT10, hcv10⟩
 have hS10 : Blk X10 bp 100 #[.pointer (some ⟨bc, 0, none⟩)] ∧ Blk X10 bg 3 #[.int .i64 (gr : Int)] ∧ ∃ cx, Blk X10 bc 103 (cmC P bm fv cx) := ⟨hT10.blk hS9.1 (fun e => e.elim (fun e => by have h1 : X9.heap[bp]? = _ := hS9.1; rw [e, show X9.heap[bc]? = _ from hcm9.c] at h1; injection h1 with h1; injection h1 with _ h1 _; exact absurd h1 (by decide)) (fun e => hS9.1.not_row (by decide) hcm9.code e.symm)), hT10.blk hS9.2.1 (fun e => e.elim (fun e => by have h1 : X9.heap[bg]? = _ := hS9.2.1; rw [e, show X9.heap[bc]? = _ from hcm9.c] at h1; injection h1 with h1; injection h1 with _ h1 _; exact absurd h1 (by decide)) (fun e => hS9.2.1.not_row (by decide) hcm9.code e.symm)), cv', hcm10.c⟩
 refine hK.out _ _ (fun h => hS10) ?_
 clear hK K
 try simp only [Act.put, nrz]
 refine done_ops (by kernel_rfl) ?_
 go_wp2_with fail
 go_end0
 exact ⟨⟨_, rfl⟩, cv', _, hcm10, (Below.trn0 hB9 _).trans hT10, fun b' hb' => (CmS.emit (N := w.heap.size) (hcv10.elim .inl (fun h => .inr (by obtain ⟨b', h1, h2⟩ := h; exact ⟨b', h1, Nat.le_trans hB9.size h2⟩))) b' hb').elim .inl (fun h => .inr (h.elim id (fun h => by obtain ⟨ad, h1, h2⟩ := h; cases h1; have h2' : b = b' := h2; subst h2'; exact Nat.le_trans hX0 hrb.1)))⟩
end Go.Proofs.YtekiemlniegddaaGreat
namespace Go.Proofs.YtekiemlniegddaaGreat
open Go Go.Maps Go.RowKit Go.Shelf
theorem CmAt.apart {B : Nat} {W : World} {P : CmP} {bc bm km M : Nat} {C : CmN} {fv cv : Value} {l : Nat → InsA} (h : CmAt B W P bc bm km M C fv cv l) {b : Nat} {t : TypeId} {cs : Array Value} (hb : Blk W b t cs) (h1 : t ≠ 103) (h2 : t ≠ 143) : ¬ (b = bc ∨ cv.ownBlock = some b) := by
 rintro (e | e)
 ·subst e
  have h3 : W.heap[b]? = _ := h.c
  rw [show W.heap[b]? = _ from hb] at h3
  injection h3 with h3; injection h3 with _ h3 _; exact h1 h3
 ·exact hb.not_row h2 h.code e.symm
/-- The compiler, the captured cells, the step's box; S0, W0: the compiler's blocks and the world at the call. -/
structure HdAt (B : Nat) (S0 : Nat → Prop) (W0 W : World) (P : CmP) (bc bm km M : Nat) (C : CmN) (fv : Value) (bp bs bg gr : Nat) (sc : Array Value) (cv : Value) (l : Nat → InsA) : Prop where
 cm : CmAt B W P bc bm km M C fv cv l
 kp : Blk W bp 100 #[.pointer (some ⟨bc, 0, none⟩)]
 ks : Blk W bs 76 sc
 kg : Blk W bg 3 #[.int .i64 (gr : Int)]
 ht : Trn S0 W0 W
 sub : ∀ b, CmS bc bm C.code.length fv cv l b → S0 b ∨ W0.heap.size ≤ b
def Hd (B : Nat) (S0 : Nat → Prop) (W0 W : World) (P : CmP) (bc bm km M : Nat) (C : CmN) (fv : Value) (bp bs bg gr : Nat) (sc : Array Value) : Prop := ∃ cv l, HdAt B S0 W0 W P bc bm km M C fv bp bs bg gr sc cv l
theorem ptr_ne_cmp : (100 : TypeId) ≠ 103 := by decide
theorem ptr_ne_ins : (100 : TypeId) ≠ 143 := by decide
theorem st_ne_cmp : (76 : TypeId) ≠ 103 := by decide
theorem st_ne_ins : (76 : TypeId) ≠ 143 := by decide
theorem int_ne_cmp2 : (3 : TypeId) ≠ 103 := by decide
section
variable {B : Nat} {S0 : Nat → Prop} {W0 W W' : World} {P : CmP} {bc bm km M : Nat} {C : CmN} {fv : Value} {bp bs bg gr : Nat} {sc : Array Value}
theorem Hd.below (h : Hd B S0 W0 W P bc bm km M C fv bp bs bg gr sc) (hb : Below W.heap.size W W') : Hd B S0 W0 W' P bc bm km M C fv bp bs bg gr sc := by
 obtain ⟨cv, l, h⟩ := h
 exact ⟨cv, l, ⟨h.cm.below hb, h.kp.below hb h.kp.lt, h.ks.below hb h.ks.lt, h.kg.below hb h.kg.lt, h.ht.trans (Below.trn0 hb S0), h.sub⟩⟩
theorem HdAt.step {cv : Value} {l : Nat → InsA} (h : HdAt B S0 W0 W P bc bm km M C fv bp bs bg gr sc cv l) {C' : CmN} {cv' : Value} {l' : Nat → InsA} (hcm : CmAt B W' P bc bm km M C' fv cv' l') (hT : Trn (fun b => b = bc ∨ cv.ownBlock = some b) W W')
  (hsub : ∀ b, CmS bc bm C'.code.length fv cv' l' b → CmS bc bm C.code.length fv cv l b ∨ W.heap.size ≤ b) : Hd B S0 W0 W' P bc bm km M C' fv bp bs bg gr sc := by
 refine ⟨cv', l', ⟨hcm, hT.blk h.kp (h.cm.apart h.kp ptr_ne_cmp ptr_ne_ins), hT.blk h.ks (h.cm.apart h.ks st_ne_cmp st_ne_ins), hT.blk h.kg (h.cm.apart h.kg int_ne_cmp2 int_ne_ins), ?_, fun b hb => ?_⟩⟩
 ·exact h.ht.step hT (fun b hb => h.sub b (hb.elim (fun e => .inl e) (fun e => .inr (.inr (.inr (.inl e))))))
 ·rcases hsub b hb with h1 | h1
  ·exact h.sub b h1
  ·exact .inr (Nat.le_trans h.ht.size h1)
theorem Hd.scell (h : Hd B S0 W0 W P bc bm km M C fv bp bs bg gr sc) {j : Nat} {v : Value} (hv : sc[j]? = some v) : W.cell? ⟨bs, j, none⟩ = some v := by
 obtain ⟨cv, l, h⟩ := h
 exact h.ks.cell hv
theorem Hd.pcell (h : Hd B S0 W0 W P bc bm km M C fv bp bs bg gr sc) : W.cell? ⟨bp, 0, none⟩ = some (.pointer (some ⟨bc, 0, none⟩)) := by
 obtain ⟨cv, l, h⟩ := h
 exact h.kp.cell rfl
theorem Hd.low (h : Hd B S0 W0 W P bc bm km M C fv bp bs bg gr sc) (hB : B ≤ W0.heap.size) (hS : ∀ b, S0 b → B ≤ b) : Below B W0 W := by
 obtain ⟨cv, l, h⟩ := h
 exact h.ht.below hB (fun b hb hs => by have := hS b hs; omega)
theorem Hd.box (h : Hd B S0 W0 W P bc bm km M C fv bp bs bg gr sc) : Blk W bs 76 sc := by
 obtain ⟨cv, l, h⟩ := h
 exact h.ks
/-- An instruction without addresses is emitted. -/
theorem Hd.emit (h : Hd B S0 W0 W P bc bm km M C fv bp bs bg gr sc) (hlen : C.code.length ≤ 1000000) (x : InsN) (hx : x.ad = []) :
  Calls Tryz.prog 108 #[.pointer (some ⟨bc, 0, none⟩), insv x none 0] W fun e W' => (∃ vv, e = .returned vv) ∧ Hd B S0 W0 W' P bc bm km M ⟨C.at_, C.free, C.code ++ [x]⟩ fv bp bs bg gr sc := by
 obtain ⟨cv, l, h⟩ := h
 refine (emit_any B W P bc bm km M C fv cv l h.cm hlen x none 0 (.inl ⟨rfl, rfl, hx⟩) (fun b hb => by obtain ⟨ad, h1, _⟩ := hb; cases h1)).mono ?_
 rintro e W' ⟨h1, cv', hcm, hT, hcv⟩
 refine ⟨h1, h.step hcm hT (fun b hb => ?_)⟩
 rw [List.length_append, List.length_singleton] at hb
 rcases CmS.emit hcv b hb with h2 | h2 | h2
 ·exact .inl h2
 ·exact .inr h2
 ·obtain ⟨ad, h1, _⟩ := h2; cases h1
/-- A load is emitted. -/
theorem Hd.load (h : Hd B S0 W0 W P bc bm km M C fv bp bs bg gr sc) (hlen : C.code.length ≤ 1000000) (L : Nat) (hvl : P.vl = (L : Int)) (hw : 1 ≤ P.w ∧ P.w ≤ 16) (hh : 1 ≤ P.h ∧ P.h ≤ 16) (hL : 1 ≤ L ∧ L ≤ 16) (hgr : gr ≤ 256)
  (d : Int) (m : Nat) (hm : m < M) (hM : M < 100) (dx dy val bd : Int) (hvb : 0 ≤ numF (C.at_ (m : Int)) ∧ numF (C.at_ (m : Int)) ≤ 100000) (hdx : -100 ≤ dx ∧ dx ≤ 100) (hdy : -100 ≤ dy ∧ dy ≤ 100) (hbd : 0 ≤ bd ∧ bd ≤ 255) :
  Calls Tryz.prog 147 #[.int .i64 d, .int .i64 (m : Int), .int .i64 dx, .int .i64 dy, .int .i64 val, .int .u8 bd, .pointer (some ⟨bp, 0, none⟩), .pointer (some ⟨bg, 0, none⟩)] W fun e W' => (∃ vv, e = .returned vv) ∧
   Hd B S0 W0 W' P bc bm km M ⟨C.at_, C.free, C.code ++ [insL P.w P.h L gr d (numF (C.at_ (m : Int))) dx dy val bd]⟩ fv bp bs bg gr sc := by
 obtain ⟨cv, l, h⟩ := h
 refine (load_any B W P bc bm km M C fv cv l h.cm hlen L hvl hw hh hL gr hgr bp bg h.kp h.kg d m hm hM dx dy val bd hvb hdx hdy hbd).mono ?_
 rintro e W' ⟨h1, cv', l', hcm, hT, hsub⟩
 refine ⟨h1, h.step hcm hT (fun b hb => ?_)⟩
 rw [List.length_append, List.length_singleton] at hb
 exact hsub b hb
end
end Go.Proofs.YtekiemlniegddaaGreat

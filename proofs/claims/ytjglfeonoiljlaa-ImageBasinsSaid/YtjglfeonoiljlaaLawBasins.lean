/- The walk of the law ImageBasins: it returns true, and nothing that lay has turned. -/
import Derived.Test.YtjglfeonoiljlaaLawNearest
namespace Go.Proofs.Ytjglfeonoiljlaa
open Go Go.RowKit Go.Shelf
set_option linter.unusedVariables false
set_option linter.unusedSimpArgs false

set_option maxRecDepth 100000 in
set_option maxHeartbeats 16000000 in
theorem law_basins (iw ih : Int) (a : Option Addr) (c n : Nat) (xs : List Int) (hn : Hid (xs.length = n)) (w : World) (hm : n ≤ 9223372036854775807) (hr : Rd w.heap.size w a xs) :
    Calls Try.prog 12 #[imv iw ih a n c] w fun e w' => e = .returned (.bool true) ∧ Below w.heap.size w w' := by
  obtain ⟨zv, hzv0⟩ : ∃ v, vld iw ih xs = v := ⟨_, rfl⟩
  have hzv := Lib.hid hzv0
  clear hzv0
  cases zv with
  | false =>
    have hSD := Lib.hid (show basS iw ih xs = { im := { w := 0, h := 0, px := [], err := 20 }, n := 0 } by unfold basS; rw [if_neg (by rw [hzv.out]; decide)]; rfl)
    have hlD := Lib.hid (show ([] : List Int).length = 0 from rfl)
    have hB : Below w.heap.size w (w.alloc (.cells #[.int .i64 iw, .int .i64 ih, .slice a n c] 24)) := below_al (Below.refl _ _) _
    have ka := (Blk.new w 24 #[.int .i64 iw, .int .i64 ih, .slice a n c])
    obtain ⟨W0, hW⟩ : ∃ W, (w.alloc (.cells #[.int .i64 iw, .int .i64 ih, .slice a n c] 24)) = W := ⟨_, rfl⟩
    rw [hW] at hB ka
    have m0 := ka.cell (i := 0) rfl
    have m1 := ka.cell (i := 1) rfl
    have m2 := ka.cell (i := 2) rfl
    go_enter Try.func12, Try.ntmps12
    go_wp2_with fail
    clear hW
    refine (alive_any _).mono ?_
    rintro e V1 ⟨rfl, hb⟩
    clear m0 m1 m2
    replace ka := ka.below hb ka.lt
    replace hB := hB.trans (hb.mono hB.size)
    have m0 := ka.cell (i := 0) rfl
    have m1 := ka.cell (i := 1) rfl
    have m2 := ka.cell (i := 2) rfl
    clear hb
    go_wp2_with fail
    have hcall := Basins_any iw ih a c n xs hn _ (by omega) ((hr.below (Nat.le_refl _) hB).mono hB.size)
    rw [hSD.out] at hcall
    refine hcall.mono ?_
    clear hcall
    rintro e V2 ⟨⟨v, hev, sl, hvl, hrow⟩, hb⟩
    have rD : V2.ownsRow w.heap.size 3 1 sl 0 ((([] : List Int)).map (Value.int .i64)) := row_base (row_len (k := (([] : List Int)).length) hlD.out hrow) hB.size
    obtain ⟨srDa, srDc, rfl⟩ := row_slice rD
    have he : e = .returned (.tuple #[.agg #[.int .i64 0, .int .i64 0, .slice srDa 0 srDc], .int .i64 0, .int .i64 20]) := by rw [hev, hvl]
    subst he
    clear hrow hev hvl
    clear m0 m1 m2
    replace ka := ka.below hb ka.lt
    replace hB := hB.trans (hb.mono hB.size)
    have m0 := ka.cell (i := 0) rfl
    have m1 := ka.cell (i := 1) rfl
    have m2 := ka.cell (i := 2) rfl
    clear hb
    obtain ⟨V3, hW⟩ : ∃ V3, V2.alloc (.cells #[.int .i64 0, .int .i64 0, .slice srDa 0 srDc] 24) = V3 := ⟨_, rfl⟩
    obtain ⟨bkD, hbx⟩ : ∃ bkD, V2.heap.size = bkD := ⟨_, rfl⟩
    have kD := Blk.new V2 24 #[.int .i64 0, .int .i64 0, .slice srDa 0 srDc]
    rw [hW, hbx] at kD
    have hb : Below V2.heap.size V2 V3 := alloc_below hW
    have ka' := ka.below hb ka.lt
    have lkakD := ka.lt
    rw [hbx] at lkakD
    have m0' := ka'.cell (i := 0) rfl
    have m1' := ka'.cell (i := 1) rfl
    have m2' := ka'.cell (i := 2) rfl
    have xd0 := kD.cell (i := 0) rfl
    have xd1 := kD.cell (i := 1) rfl
    have xd2 := kD.cell (i := 2) rfl
    have fxd0 := kD.frozen 0
    have fxd1 := kD.frozen 1
    have fxd2 := kD.frozen 2
    go_wp2_with fail
    clear hW
    clear hbx
    clear m0 m1 m2
    clear m0' m1' m2'
    replace ka := ka'
    clear ka'
    have m0 := ka.cell (i := 0) rfl
    have m1 := ka.cell (i := 1) rfl
    have m2 := ka.cell (i := 2) rfl
    replace rD := row_below rD hb
    replace hB := hB.trans (hb.mono hB.size)
    clear hb
    refine (Valid_any iw ih a c xs n hn _ (by omega) ((hr.below (Nat.le_refl _) hB).mono hB.size)).mono ?_
    rintro e V8 ⟨rfl, hb⟩
    rw [hzv.out]
    clear m0 m1 m2 xd0 xd1 xd2 fxd0 fxd1 fxd2
    replace ka := ka.below hb ka.lt
    replace kD := kD.below hb kD.lt
    replace rD := row_below rD hb
    replace hB := hB.trans (hb.mono hB.size)
    have m0 := ka.cell (i := 0) rfl
    have m1 := ka.cell (i := 1) rfl
    have m2 := ka.cell (i := 2) rfl
    have xd0 := kD.cell (i := 0) rfl
    have xd1 := kD.cell (i := 1) rfl
    have xd2 := kD.cell (i := 2) rfl
    have fxd0 := kD.frozen 0
    have fxd1 := kD.frozen 1
    have fxd2 := kD.frozen 2
    clear hb
    go_wp2_with fail
    go_ret
    exact ⟨rfl, hB⟩
  | true =>
    obtain ⟨⟨i1, i2⟩, ⟨i3, i4⟩, hl, ha⟩ := vld_true hzv.out
    obtain ⟨pw, rfl⟩ : ∃ pw : Nat, iw = (pw : Int) := ⟨iw.toNat, by omega⟩
    obtain ⟨ph, rfl⟩ : ∃ ph : Nat, ih = (ph : Int) := ⟨ih.toNat, by omega⟩
    have hN : pw * ph = n := by
      have h2 : ((pw * ph : Nat) : Int) = (pw : Int) * ph := by simp
      have := hn.out
      omega
    have hn0 : 0 < n := by rw [← hN]; exact Nat.mul_pos (by omega) (by omega)
    have hn256 : n ≤ 256 := by rw [← hN]; exact Nat.mul_le_mul (show pw ≤ 16 by omega) (show ph ≤ 16 by omega)
    have hmin : ∀ k : Nat, -2147483648 ≤ px xs k := fun k => (px_bd ha k).1
    have hSD := Lib.hid (show basS pw ph xs = { im := { w := pw, h := ph, px := basinL pw ph (fun k => px xs k), err := 0 }, n := (endsTo pw ph (fun k => px xs k) n : Nat) } by
      unfold basS
      rw [if_pos hzv.out, ← hN]
      rfl)
    have hlD := Lib.hid (show (basinL pw ph (fun k => px xs k)).length = n by unfold basinL; rw [List.length_map, List.length_range, hN])
    have hlaw := Lib.hid (fun (k : Nat) (hk : k < n) => show lowest pw ph (fun i => px xs i) k < n ∧ px (basinL pw ph (fun i => px xs i)) k = px (basinL pw ph (fun i => px xs i)) (lowest pw ph (fun i => px xs i) k) ∧
        (lowest pw ph (fun i => px xs i) k = k → px (basinL pw ph (fun i => px xs i)) k = (endsTo pw ph (fun i => px xs i) k : Int) + 1 ∧ endsTo pw ph (fun i => px xs i) (k + 1) = endsTo pw ph (fun i => px xs i) k + 1) ∧
        (lowest pw ph (fun i => px xs i) k ≠ k → endsTo pw ph (fun i => px xs i) (k + 1) = endsTo pw ph (fun i => px xs i) k) by
      have hk' : k < pw * ph := by rw [hN]; exact hk
      refine ⟨by rw [← hN]; exact lowest_lt hk', basinL_low hmin hk', fun h => ⟨?_, ends_end h⟩, ends_skip⟩
      rw [basinL_end hk' h]; rfl)
    have hEb := Lib.hid (fun k : Nat => endsTo_le pw ph (fun i => px xs i) k)
    have hE0 := Lib.hid (show endsTo pw ph (fun i => px xs i) 0 = 0 from rfl)
    have hfull := Lib.hid (fun (k : Nat) (hk : k < n) => lowAt_all (pw := pw) (ph := ph) (m := fun i => px xs i) (show k < pw * ph by rw [hN]; exact hk))
    have hnbr := Lib.hid (fun (k : Nat) (hk : k < n) (j : Nat) (hj : j ∈ nbrL pw ph k) => show j < n by rw [← hN]; exact (nbrL_near (by rw [hN]; exact hk) hj).1)
    have hlows := Lib.hid (fun (k : Nat) (hk : k < n) (q : Nat) => show lowAt (fun i => px xs i) k (nbrL pw ph k) q < n by rw [← hN]; exact lowAt_lt (by rw [hN]; exact hk) q)
    have hNH := Lib.hid hN
    obtain ⟨ba, oa, hae, hba, hca⟩ := rd_at hr hn.out hn0
    have hcaH := Lib.hid hca
    clear hca hl ha hN hmin
    generalize basinL pw ph (fun i => px xs i) = D at *
    generalize endsTo pw ph (fun i => px xs i) = E at *
    subst hae
    have hB : Below w.heap.size w (w.alloc (.cells #[.int .i64 pw, .int .i64 ph, .slice (some ⟨ba, oa, none⟩) n c] 24)) := below_al (Below.refl _ _) _
    have ka := (Blk.new w 24 #[.int .i64 pw, .int .i64 ph, .slice (some ⟨ba, oa, none⟩) n c])
    obtain ⟨W0, hW⟩ : ∃ W, (w.alloc (.cells #[.int .i64 pw, .int .i64 ph, .slice (some ⟨ba, oa, none⟩) n c] 24)) = W := ⟨_, rfl⟩
    rw [hW] at hB ka
    have m0 := ka.cell (i := 0) rfl
    have m1 := ka.cell (i := 1) rfl
    have m2 := ka.cell (i := 2) rfl
    go_enter Try.func12, Try.ntmps12
    go_wp2_with fail
    clear hW
    refine (alive_any _).mono ?_
    rintro e V1 ⟨rfl, hb⟩
    clear m0 m1 m2
    replace ka := ka.below hb ka.lt
    replace hB := hB.trans (hb.mono hB.size)
    have m0 := ka.cell (i := 0) rfl
    have m1 := ka.cell (i := 1) rfl
    have m2 := ka.cell (i := 2) rfl
    clear hb
    go_wp2_with fail
    have hcall := Basins_any pw ph (some ⟨ba, oa, none⟩) c n xs hn _ (by omega) ((hr.below (Nat.le_refl _) hB).mono hB.size)
    rw [hSD.out] at hcall
    refine hcall.mono ?_
    clear hcall
    rintro e V2 ⟨⟨v, hev, sl, hvl, hrow⟩, hb⟩
    have rD : V2.ownsRow w.heap.size 3 1 sl n ((D).map (Value.int .i64)) := row_base (row_len (k := (D).length) hlD.out hrow) hB.size
    obtain ⟨srDa, srDc, rfl⟩ := row_slice rD
    have he : e = .returned (.tuple #[.agg #[.int .i64 pw, .int .i64 ph, .slice srDa n srDc], .int .i64 (E n : Int), .int .i64 0]) := by rw [hev, hvl]
    subst he
    clear hrow hev hvl
    clear m0 m1 m2
    replace ka := ka.below hb ka.lt
    replace hB := hB.trans (hb.mono hB.size)
    have m0 := ka.cell (i := 0) rfl
    have m1 := ka.cell (i := 1) rfl
    have m2 := ka.cell (i := 2) rfl
    clear hb
    obtain ⟨V3, hW⟩ : ∃ V3, V2.alloc (.cells #[.int .i64 pw, .int .i64 ph, .slice srDa n srDc] 24) = V3 := ⟨_, rfl⟩
    obtain ⟨bkD, hbx⟩ : ∃ bkD, V2.heap.size = bkD := ⟨_, rfl⟩
    have kD := Blk.new V2 24 #[.int .i64 pw, .int .i64 ph, .slice srDa n srDc]
    rw [hW, hbx] at kD
    have hb : Below V2.heap.size V2 V3 := alloc_below hW
    have ka' := ka.below hb ka.lt
    have lkakD := ka.lt
    rw [hbx] at lkakD
    have m0' := ka'.cell (i := 0) rfl
    have m1' := ka'.cell (i := 1) rfl
    have m2' := ka'.cell (i := 2) rfl
    have xd0 := kD.cell (i := 0) rfl
    have xd1 := kD.cell (i := 1) rfl
    have xd2 := kD.cell (i := 2) rfl
    have fxd0 := kD.frozen 0
    have fxd1 := kD.frozen 1
    have fxd2 := kD.frozen 2
    go_wp2_with fail
    clear hW
    clear hbx
    clear m0 m1 m2
    clear m0' m1' m2'
    replace ka := ka'
    clear ka'
    have m0 := ka.cell (i := 0) rfl
    have m1 := ka.cell (i := 1) rfl
    have m2 := ka.cell (i := 2) rfl
    replace rD := row_below rD hb
    replace hB := hB.trans (hb.mono hB.size)
    clear hb
    refine (Valid_any pw ph (some ⟨ba, oa, none⟩) c xs n hn _ (by omega) ((hr.below (Nat.le_refl _) hB).mono hB.size)).mono ?_
    rintro e V8 ⟨rfl, hb⟩
    rw [hzv.out]
    clear m0 m1 m2 xd0 xd1 xd2 fxd0 fxd1 fxd2
    replace ka := ka.below hb ka.lt
    replace kD := kD.below hb kD.lt
    replace rD := row_below rD hb
    replace hB := hB.trans (hb.mono hB.size)
    have m0 := ka.cell (i := 0) rfl
    have m1 := ka.cell (i := 1) rfl
    have m2 := ka.cell (i := 2) rfl
    have xd0 := kD.cell (i := 0) rfl
    have xd1 := kD.cell (i := 1) rfl
    have xd2 := kD.cell (i := 2) rfl
    have fxd0 := kD.frozen 0
    have fxd1 := kD.frozen 1
    have fxd2 := kD.frozen 2
    clear hb
    go_wp2_with fail
    clear m0 m1 m2 xd0 xd1 xd2 fxd0 fxd1 fxd2
    obtain ⟨bD, oD, hDa, hbD, hcD⟩ := rd_at (row_rd' hlD.out rD) hlD.out hn0
    subst hDa
    have hcDH := Lib.hid hcD
    clear hcD
    go_loopw [7, 8] (fun en i wr => ∃ k : Nat, k ≤ n ∧ i = .int .i64 (k : Int) ∧ en = .int .i64 (E k : Int) ∧ Below V8.heap.size V8 wr) (fun en i _ => n - (intOf i).toNat)
    case atStart => exact ⟨0, Nat.zero_le _, rfl, by rw [hE0.out]; rfl, Below.refl _ _⟩
    case round =>
      obtain ⟨k, hkn, rfl, rfl, hBw⟩ := hrel
      have hBr : Below w.heap.size w wr := hB.trans (hBw.mono hB.size)
      have ka' := ka.below hBw ka.lt
      have kD' := kD.below hBw kD.lt
      have m2 := ka'.cell (i := 2) rfl
      by_cases hk : k < n
      · have m0 := ka'.cell (i := 0) rfl
        have m1 := ka'.cell (i := 1) rfl
        have hEk := hEb.out k
        go_wp2_with fail
        refine (lneighbours_any pw ph k (some ⟨ba, oa, none⟩) c n (by omega) (by omega) (by omega) (by omega) (by rw [hNH.out]; exact hk) _).mono ?_
        rintro e V12 ⟨⟨va, vc, rfl, hL⟩, hb⟩
        have hB12 := hBw.trans (hb.mono hBw.size)
        have kD1 := kD.below hB12 kD.lt
        have ka1 := ka.below hB12 ka.lt
        clear hb m0 m1 m2 ka' kD'
        obtain ⟨LL, hLL⟩ : ∃ LL, nbrL pw ph k = LL := ⟨_, rfl⟩
        obtain ⟨lo, hlo0⟩ : ∃ lo, lo = lowest pw ph (fun i => px xs i) k := ⟨_, rfl⟩
        have hall : Hid (lowAt (fun i => px xs i) k LL LL.length = lo) := Lib.hid (by rw [← hLL, hlo0]; exact hfull.out k hk)
        have hnb : Hid (∀ j, j ∈ LL → j < n) := Lib.hid (by rw [← hLL]; exact hnbr.out k hk)
        have hlt : Hid (∀ q, lowAt (fun i => px xs i) k LL q < n) := Lib.hid (by rw [← hLL]; exact hlows.out k hk)
        have hk3 := hlaw.out k hk
        rw [← hlo0] at hk3
        obtain ⟨hlo, hsame, hyes, hno⟩ := hk3
        have hyes := Lib.hid hyes
        have hno := Lib.hid hno
        rw [hLL] at hL ⊢
        have hl4 : LL.length ≤ 4 := by rw [← hLL]; exact nbrL_length _ _ _
        obtain ⟨dv, hdv0⟩ : ∃ v, px D (k : Int) = v := ⟨_, rfl⟩
        have hdv := Lib.hid hdv0
        have hov : Hid (px D (lo : Int) = dv) := Lib.hid (by rw [← hsame, hdv0])
        clear hLL hlo0 hsame hdv0
        go_wp2_with fail
        go_loopw [9, 11] (fun b i wr => ∃ q : Nat, q ≤ LL.length ∧ i = .int .i64 (q : Int) ∧ b = .int .i64 (lowAt (fun i => px xs i) k LL q : Nat) ∧ Below V12.heap.size V12 wr) (fun b i _ => LL.length - (intOf i).toNat)
        case atStart => exact ⟨0, Nat.zero_le _, rfl, by rw [lowAt_zero], Below.refl _ _⟩
        case round =>
          clear hBr
          obtain ⟨q, hq, rfl, rfl, hBL⟩ := hrel
          have hBq := hB12.trans (hBL.mono hB12.size)
          have hBrq : Below w.heap.size w wr := hB.trans (hBq.mono hB.size)
          have kD2 := kD1.below hBL kD1.lt
          have ka2 := ka1.below hBL ka1.lt
          by_cases hql : q < LL.length
          · obtain ⟨j, hj⟩ : ∃ j, LL[q]? = some j := ⟨_, List.getElem?_eq_getElem hql⟩
            have hjn := hnb.out j (List.mem_of_getElem? hj)
            have hsn0 := lowAt_succ (fun i => px xs i) k LL hj
            obtain ⟨bL, oL, hLa, hbL, hcl0⟩ := rowN_at hL hj
            subst hLa
            have hclH : Hid (V12.cell? ⟨bL, oL + q, none⟩ = some (.int .i64 (j : Int))) := Lib.hid hcl0
            have hbn := hlt.out q
            obtain ⟨b, hb0⟩ : ∃ b, lowAt (fun i => px xs i) k LL q = b := ⟨_, rfl⟩
            rw [hb0] at hsn0 hbn ⊢
            have hsn := Lib.hid hsn0
            obtain ⟨jv, hjv0⟩ : ∃ v, px xs (j : Int) = v := ⟨_, rfl⟩
            obtain ⟨bv, hbv0⟩ : ∃ v, px xs (b : Int) = v := ⟨_, rfl⟩
            have hjv := Lib.hid hjv0
            have hbv := Lib.hid hbv0
            have hbt0 : ((fun i : Nat => px xs i) j < (fun i : Nat => px xs i) b ∨ ((fun i : Nat => px xs i) j = (fun i : Nat => px xs i) b ∧ j < b)) ↔ (jv < bv ∨ (jv = bv ∧ j < b)) := by simp only [hjv0, hbv0]
            clear hj hcl0 hb0 hsn0 hjv0 hbv0
            have hS2 : Below wr.heap.size wr wr.drew := (Below.refl _ _).drew
            by_cases c1 : jv < bv
            · have e1 : decide (jv < bv) = true := decide_eq_true c1
              have hbt := hbt0.2 (.inl c1)
              clear hbt0 c1
              have hsn2 : Hid (lowAt (fun i => px xs i) k LL (q + 1) = j) := Lib.hid (by rw [hsn.out, if_pos (better_iff.2 hbt)])
              clear hsn hbt
              go_wp2_with fail
              refine plain_region (fun W' => Below wr.heap.size wr W') 38 38 (by kernel_rfl) rfl ?_
              simp only [Array.replicate_succ, Array.replicate_zero, List.push_toArray, List.nil_append, List.cons_append]
              refine take_op 0 (v := ?av0) rfl (by kernel_rfl) (fun _ _ _ h => h) (by rfl) hS2 (fun w' hS' => ?ay0) ?az0
              case ay0 =>
                go_simp
                rfl
              simp only [List.setIfInBounds_toArray, List.set_cons_zero, List.set_cons_succ]
              refine take_op 1 (v := ?av1) rfl (by kernel_rfl) (fun _ _ _ h => h) (by rfl) hS2 (fun w' hS' => ?ay1) ?az1
              case ay1 =>
                have m2 := (ka2.below hS' ka2.lt).cell (i := 2) rfl
                have cj := ((hBrq.trans (hS'.mono hBrq.size)).cell (p := ⟨ba, oa + j, none⟩) hba).trans (hcaH.out j hjn)
                have cb := ((hBrq.trans (hS'.mono hBrq.size)).cell (p := ⟨ba, oa + b, none⟩) hba).trans (hcaH.out b hbn)
                have cl := ((hBL.trans (hS'.mono hBL.size)).cell (p := ⟨bL, oL + q, none⟩) hbL).trans hclH.out
                rw [hjv.out] at cj
                rw [hbv.out] at cb
                go_simp
                rfl
              simp only [List.setIfInBounds_toArray, List.set_cons_zero, List.set_cons_succ]
              refine take_op 2 (v := ?av2) rfl (by kernel_rfl) (fun _ _ _ h => h) (by rfl) hS2 (fun w' hS' => ?ay2) ?az2
              case ay2 =>
                go_simp
                rfl
              simp only [List.setIfInBounds_toArray, List.set_cons_zero, List.set_cons_succ]
              refine take_op 3 (v := ?av3) rfl (by kernel_rfl) (fun _ _ _ h => h) (by rfl) hS2 (fun w' hS' => ?ay3) ?az3
              case ay3 =>
                go_simp
                rfl
              simp only [List.setIfInBounds_toArray, List.set_cons_zero, List.set_cons_succ]
              refine take_op 4 (v := ?av4) rfl (by kernel_rfl) (fun _ _ _ h => h) (by rfl) hS2 (fun w' hS' => ?ay4) ?az4
              case ay4 =>
                go_simp
                try go_ints
                first
                | rfl
                | rw [if_pos ⟨by omega, by omega⟩]
              simp only [List.setIfInBounds_toArray, List.set_cons_zero, List.set_cons_succ]
              refine take_op 5 (v := ?av5) rfl (by kernel_rfl) (fun _ _ _ h => h) (by rfl) hS2 (fun w' hS' => ?ay5) ?az5
              case ay5 =>
                have m2 := (ka2.below hS' ka2.lt).cell (i := 2) rfl
                have cj := ((hBrq.trans (hS'.mono hBrq.size)).cell (p := ⟨ba, oa + j, none⟩) hba).trans (hcaH.out j hjn)
                have cb := ((hBrq.trans (hS'.mono hBrq.size)).cell (p := ⟨ba, oa + b, none⟩) hba).trans (hcaH.out b hbn)
                have cl := ((hBL.trans (hS'.mono hBL.size)).cell (p := ⟨bL, oL + q, none⟩) hbL).trans hclH.out
                rw [hjv.out] at cj
                rw [hbv.out] at cb
                go_simp
                rfl
              simp only [List.setIfInBounds_toArray, List.set_cons_zero, List.set_cons_succ]
              refine take_op 6 (v := ?av6) rfl (by kernel_rfl) (fun _ _ _ h => h) (by rfl) hS2 (fun w' hS' => ?ay6) ?az6
              case ay6 =>
                go_simp
                try go_ints
                first
                | rfl
                | rw [if_pos ⟨by omega, by omega⟩]
              simp only [List.setIfInBounds_toArray, List.set_cons_zero, List.set_cons_succ]
              refine take_op 7 (v := ?av7) rfl (by kernel_rfl) (fun _ _ _ h => h) (by rfl) hS2 (fun w' hS' => ?ay7) ?az7
              case ay7 =>
                have m2 := (ka2.below hS' ka2.lt).cell (i := 2) rfl
                have cj := ((hBrq.trans (hS'.mono hBrq.size)).cell (p := ⟨ba, oa + j, none⟩) hba).trans (hcaH.out j hjn)
                have cb := ((hBrq.trans (hS'.mono hBrq.size)).cell (p := ⟨ba, oa + b, none⟩) hba).trans (hcaH.out b hbn)
                have cl := ((hBL.trans (hS'.mono hBL.size)).cell (p := ⟨bL, oL + q, none⟩) hbL).trans hclH.out
                rw [hjv.out] at cj
                rw [hbv.out] at cb
                go_simp
                rfl
              simp only [List.setIfInBounds_toArray, List.set_cons_zero, List.set_cons_succ]
              refine take_op 8 (v := ?av8) rfl (by kernel_rfl) (fun _ _ _ h => h) (by rfl) hS2 (fun w' hS' => ?ay8) ?az8
              case ay8 =>
                go_simp
                rfl
              simp only [List.setIfInBounds_toArray, List.set_cons_zero, List.set_cons_succ]
              refine take_op 9 (v := ?av9) rfl (by kernel_rfl) (fun _ _ _ h => h) (by rfl) hS2 (fun w' hS' => ?ay9) ?az9
              case ay9 =>
                have m2 := (ka2.below hS' ka2.lt).cell (i := 2) rfl
                have cj := ((hBrq.trans (hS'.mono hBrq.size)).cell (p := ⟨ba, oa + j, none⟩) hba).trans (hcaH.out j hjn)
                have cb := ((hBrq.trans (hS'.mono hBrq.size)).cell (p := ⟨ba, oa + b, none⟩) hba).trans (hcaH.out b hbn)
                have cl := ((hBL.trans (hS'.mono hBL.size)).cell (p := ⟨bL, oL + q, none⟩) hbL).trans hclH.out
                rw [hjv.out] at cj
                rw [hbv.out] at cb
                go_simp
                rfl
              simp only [List.setIfInBounds_toArray, List.set_cons_zero, List.set_cons_succ]
              refine take_op 10 (v := ?av10) rfl (by kernel_rfl) (fun _ _ _ h => h) (by rfl) hS2 (fun w' hS' => ?ay10) ?az10
              case ay10 =>
                go_simp
                rfl
              simp only [List.setIfInBounds_toArray, List.set_cons_zero, List.set_cons_succ]
              refine take_op 11 (v := ?av11) rfl (by kernel_rfl) (fun _ _ _ h => h) (by rfl) hS2 (fun w' hS' => ?ay11) ?az11
              case ay11 =>
                go_simp
                try go_ints
                first
                | rfl
                | rw [if_pos ⟨by omega, by omega⟩]
              simp only [List.setIfInBounds_toArray, List.set_cons_zero, List.set_cons_succ]
              refine take_op 12 (v := ?av12) rfl (by kernel_rfl) (fun _ _ _ h => h) (by rfl) hS2 (fun w' hS' => ?ay12) ?az12
              case ay12 =>
                have m2 := (ka2.below hS' ka2.lt).cell (i := 2) rfl
                have cj := ((hBrq.trans (hS'.mono hBrq.size)).cell (p := ⟨ba, oa + j, none⟩) hba).trans (hcaH.out j hjn)
                have cb := ((hBrq.trans (hS'.mono hBrq.size)).cell (p := ⟨ba, oa + b, none⟩) hba).trans (hcaH.out b hbn)
                have cl := ((hBL.trans (hS'.mono hBL.size)).cell (p := ⟨bL, oL + q, none⟩) hbL).trans hclH.out
                rw [hjv.out] at cj
                rw [hbv.out] at cb
                go_simp
                rfl
              simp only [List.setIfInBounds_toArray, List.set_cons_zero, List.set_cons_succ]
              refine take_op 13 (v := .bool true) rfl (by kernel_rfl) (fun _ _ _ h => h) (by rfl) hS2 (fun w' hS' => ?ay13) ?az13
              case ay13 =>
                go_simp
                first
                | done
                | (simp only [e1]; done)
                | rfl
                | (simp [e1]; done)
              simp only [List.setIfInBounds_toArray, List.set_cons_zero, List.set_cons_succ]
              refine take_op 14 (v := ?av14) rfl (by kernel_rfl) (fun _ _ _ h => h) (by rfl) hS2 (fun w' hS' => ?ay14) ?az14
              case ay14 =>
                go_simp
                rfl
              simp only [List.setIfInBounds_toArray, List.set_cons_zero, List.set_cons_succ]
              refine pass_op 15 rfl (by kernel_rfl) (fun _ _ _ h => h) (by rfl) hS2 ?_
              simp only [List.setIfInBounds_toArray, List.set_cons_zero, List.set_cons_succ]
              refine pass_op 16 rfl (by kernel_rfl) (fun _ _ _ h => h) (by rfl) hS2 ?_
              simp only [List.setIfInBounds_toArray, List.set_cons_zero, List.set_cons_succ]
              refine pass_op 17 rfl (by kernel_rfl) (fun _ _ _ h => h) (by rfl) hS2 ?_
              simp only [List.setIfInBounds_toArray, List.set_cons_zero, List.set_cons_succ]
              refine pass_op 18 rfl (by kernel_rfl) (fun _ _ _ h => h) (by rfl) hS2 ?_
              simp only [List.setIfInBounds_toArray, List.set_cons_zero, List.set_cons_succ]
              refine pass_op 19 rfl (by kernel_rfl) (fun _ _ _ h => h) (by rfl) hS2 ?_
              simp only [List.setIfInBounds_toArray, List.set_cons_zero, List.set_cons_succ]
              refine pass_op 20 rfl (by kernel_rfl) (fun _ _ _ h => h) (by rfl) hS2 ?_
              simp only [List.setIfInBounds_toArray, List.set_cons_zero, List.set_cons_succ]
              refine pass_op 21 rfl (by kernel_rfl) (fun _ _ _ h => h) (by rfl) hS2 ?_
              simp only [List.setIfInBounds_toArray, List.set_cons_zero, List.set_cons_succ]
              refine pass_op 22 rfl (by kernel_rfl) (fun _ _ _ h => h) (by rfl) hS2 ?_
              simp only [List.setIfInBounds_toArray, List.set_cons_zero, List.set_cons_succ]
              refine pass_op 23 rfl (by kernel_rfl) (fun _ _ _ h => h) (by rfl) hS2 ?_
              simp only [List.setIfInBounds_toArray, List.set_cons_zero, List.set_cons_succ]
              refine pass_op 24 rfl (by kernel_rfl) (fun _ _ _ h => h) (by rfl) hS2 ?_
              simp only [List.setIfInBounds_toArray, List.set_cons_zero, List.set_cons_succ]
              refine pass_op 25 rfl (by kernel_rfl) (fun _ _ _ h => h) (by rfl) hS2 ?_
              simp only [List.setIfInBounds_toArray, List.set_cons_zero, List.set_cons_succ]
              refine pass_op 26 rfl (by kernel_rfl) (fun _ _ _ h => h) (by rfl) hS2 ?_
              simp only [List.setIfInBounds_toArray, List.set_cons_zero, List.set_cons_succ]
              refine pass_op 27 rfl (by kernel_rfl) (fun _ _ _ h => h) (by rfl) hS2 ?_
              simp only [List.setIfInBounds_toArray, List.set_cons_zero, List.set_cons_succ]
              refine pass_op 28 rfl (by kernel_rfl) (fun _ _ _ h => h) (by rfl) hS2 ?_
              simp only [List.setIfInBounds_toArray, List.set_cons_zero, List.set_cons_succ]
              refine pass_op 29 rfl (by kernel_rfl) (fun _ _ _ h => h) (by rfl) hS2 ?_
              simp only [List.setIfInBounds_toArray, List.set_cons_zero, List.set_cons_succ]
              refine pass_op 30 rfl (by kernel_rfl) (fun _ _ _ h => h) (by rfl) hS2 ?_
              simp only [List.setIfInBounds_toArray, List.set_cons_zero, List.set_cons_succ]
              refine pass_op 31 rfl (by kernel_rfl) (fun _ _ _ h => h) (by rfl) hS2 ?_
              simp only [List.setIfInBounds_toArray, List.set_cons_zero, List.set_cons_succ]
              refine pass_op 32 rfl (by kernel_rfl) (fun _ _ _ h => h) (by rfl) hS2 ?_
              simp only [List.setIfInBounds_toArray, List.set_cons_zero, List.set_cons_succ]
              refine pass_op 33 rfl (by kernel_rfl) (fun _ _ _ h => h) (by rfl) hS2 ?_
              simp only [List.setIfInBounds_toArray, List.set_cons_zero, List.set_cons_succ]
              refine pass_op 34 rfl (by kernel_rfl) (fun _ _ _ h => h) (by rfl) hS2 ?_
              simp only [List.setIfInBounds_toArray, List.set_cons_zero, List.set_cons_succ]
              refine pass_op 35 rfl (by kernel_rfl) (fun _ _ _ h => h) (by rfl) hS2 ?_
              simp only [List.setIfInBounds_toArray, List.set_cons_zero, List.set_cons_succ]
              refine pass_op 36 rfl (by kernel_rfl) (fun _ _ _ h => h) (by rfl) hS2 ?_
              simp only [List.setIfInBounds_toArray, List.set_cons_zero, List.set_cons_succ]
              refine take_op 37 (v := ?av37) rfl (by kernel_rfl) (fun _ _ _ h => h) (by rfl) hS2 (fun w' hS' => ?ay37) ?az37
              case ay37 =>
                go_simp
                rfl
              simp only [List.setIfInBounds_toArray, List.set_cons_zero, List.set_cons_succ]
              refine done_ops (by kernel_rfl) ?_
              have cl2 := ((hBL.trans (hS2.mono hBL.size)).cell (p := ⟨bL, oL + q, none⟩) hbL).trans hclH.out
              go_wp2_with fail
              go_roundw
              case rel => exact ⟨q + 1, by omega, by go_num, by rw [hsn2.out], hBL.trans (hS2.mono hBL.size)⟩
              case measure => simp [intOf]; omega
            · have e1 : decide (jv < bv) = false := decide_eq_false c1
              by_cases c2 : jv = bv
              · have e2 : (jv == bv) = true := by rw [beq_iff_eq]; exact c2
                by_cases c3 : j < b
                · have e3 : decide ((j : Int) < (b : Int)) = true := decide_eq_true (by omega)
                  have e3' : decide (j < b) = true := decide_eq_true c3
                  have hbt := hbt0.2 (.inr ⟨c2, c3⟩)
                  clear hbt0 c1 c2 c3
                  have hsn2 : Hid (lowAt (fun i => px xs i) k LL (q + 1) = j) := Lib.hid (by rw [hsn.out, if_pos (better_iff.2 hbt)])
                  clear hsn hbt
                  go_wp2_with fail
                  refine plain_region (fun W' => Below wr.heap.size wr W') 38 38 (by kernel_rfl) rfl ?_
                  simp only [Array.replicate_succ, Array.replicate_zero, List.push_toArray, List.nil_append, List.cons_append]
                  refine take_op 0 (v := ?bv0) rfl (by kernel_rfl) (fun _ _ _ h => h) (by rfl) hS2 (fun w' hS' => ?by0) ?bz0
                  case by0 =>
                    go_simp
                    rfl
                  simp only [List.setIfInBounds_toArray, List.set_cons_zero, List.set_cons_succ]
                  refine take_op 1 (v := ?bv1) rfl (by kernel_rfl) (fun _ _ _ h => h) (by rfl) hS2 (fun w' hS' => ?by1) ?bz1
                  case by1 =>
                    have m2 := (ka2.below hS' ka2.lt).cell (i := 2) rfl
                    have cj := ((hBrq.trans (hS'.mono hBrq.size)).cell (p := ⟨ba, oa + j, none⟩) hba).trans (hcaH.out j hjn)
                    have cb := ((hBrq.trans (hS'.mono hBrq.size)).cell (p := ⟨ba, oa + b, none⟩) hba).trans (hcaH.out b hbn)
                    have cl := ((hBL.trans (hS'.mono hBL.size)).cell (p := ⟨bL, oL + q, none⟩) hbL).trans hclH.out
                    rw [hjv.out] at cj
                    rw [hbv.out] at cb
                    go_simp
                    rfl
                  simp only [List.setIfInBounds_toArray, List.set_cons_zero, List.set_cons_succ]
                  refine take_op 2 (v := ?bv2) rfl (by kernel_rfl) (fun _ _ _ h => h) (by rfl) hS2 (fun w' hS' => ?by2) ?bz2
                  case by2 =>
                    go_simp
                    rfl
                  simp only [List.setIfInBounds_toArray, List.set_cons_zero, List.set_cons_succ]
                  refine take_op 3 (v := ?bv3) rfl (by kernel_rfl) (fun _ _ _ h => h) (by rfl) hS2 (fun w' hS' => ?by3) ?bz3
                  case by3 =>
                    go_simp
                    rfl
                  simp only [List.setIfInBounds_toArray, List.set_cons_zero, List.set_cons_succ]
                  refine take_op 4 (v := ?bv4) rfl (by kernel_rfl) (fun _ _ _ h => h) (by rfl) hS2 (fun w' hS' => ?by4) ?bz4
                  case by4 =>
                    go_simp
                    try go_ints
                    first
                    | rfl
                    | rw [if_pos ⟨by omega, by omega⟩]
                  simp only [List.setIfInBounds_toArray, List.set_cons_zero, List.set_cons_succ]
                  refine take_op 5 (v := ?bv5) rfl (by kernel_rfl) (fun _ _ _ h => h) (by rfl) hS2 (fun w' hS' => ?by5) ?bz5
                  case by5 =>
                    have m2 := (ka2.below hS' ka2.lt).cell (i := 2) rfl
                    have cj := ((hBrq.trans (hS'.mono hBrq.size)).cell (p := ⟨ba, oa + j, none⟩) hba).trans (hcaH.out j hjn)
                    have cb := ((hBrq.trans (hS'.mono hBrq.size)).cell (p := ⟨ba, oa + b, none⟩) hba).trans (hcaH.out b hbn)
                    have cl := ((hBL.trans (hS'.mono hBL.size)).cell (p := ⟨bL, oL + q, none⟩) hbL).trans hclH.out
                    rw [hjv.out] at cj
                    rw [hbv.out] at cb
                    go_simp
                    rfl
                  simp only [List.setIfInBounds_toArray, List.set_cons_zero, List.set_cons_succ]
                  refine take_op 6 (v := ?bv6) rfl (by kernel_rfl) (fun _ _ _ h => h) (by rfl) hS2 (fun w' hS' => ?by6) ?bz6
                  case by6 =>
                    go_simp
                    try go_ints
                    first
                    | rfl
                    | rw [if_pos ⟨by omega, by omega⟩]
                  simp only [List.setIfInBounds_toArray, List.set_cons_zero, List.set_cons_succ]
                  refine take_op 7 (v := ?bv7) rfl (by kernel_rfl) (fun _ _ _ h => h) (by rfl) hS2 (fun w' hS' => ?by7) ?bz7
                  case by7 =>
                    have m2 := (ka2.below hS' ka2.lt).cell (i := 2) rfl
                    have cj := ((hBrq.trans (hS'.mono hBrq.size)).cell (p := ⟨ba, oa + j, none⟩) hba).trans (hcaH.out j hjn)
                    have cb := ((hBrq.trans (hS'.mono hBrq.size)).cell (p := ⟨ba, oa + b, none⟩) hba).trans (hcaH.out b hbn)
                    have cl := ((hBL.trans (hS'.mono hBL.size)).cell (p := ⟨bL, oL + q, none⟩) hbL).trans hclH.out
                    rw [hjv.out] at cj
                    rw [hbv.out] at cb
                    go_simp
                    rfl
                  simp only [List.setIfInBounds_toArray, List.set_cons_zero, List.set_cons_succ]
                  refine take_op 8 (v := ?bv8) rfl (by kernel_rfl) (fun _ _ _ h => h) (by rfl) hS2 (fun w' hS' => ?by8) ?bz8
                  case by8 =>
                    go_simp
                    rfl
                  simp only [List.setIfInBounds_toArray, List.set_cons_zero, List.set_cons_succ]
                  refine take_op 9 (v := ?bv9) rfl (by kernel_rfl) (fun _ _ _ h => h) (by rfl) hS2 (fun w' hS' => ?by9) ?bz9
                  case by9 =>
                    have m2 := (ka2.below hS' ka2.lt).cell (i := 2) rfl
                    have cj := ((hBrq.trans (hS'.mono hBrq.size)).cell (p := ⟨ba, oa + j, none⟩) hba).trans (hcaH.out j hjn)
                    have cb := ((hBrq.trans (hS'.mono hBrq.size)).cell (p := ⟨ba, oa + b, none⟩) hba).trans (hcaH.out b hbn)
                    have cl := ((hBL.trans (hS'.mono hBL.size)).cell (p := ⟨bL, oL + q, none⟩) hbL).trans hclH.out
                    rw [hjv.out] at cj
                    rw [hbv.out] at cb
                    go_simp
                    rfl
                  simp only [List.setIfInBounds_toArray, List.set_cons_zero, List.set_cons_succ]
                  refine take_op 10 (v := ?bv10) rfl (by kernel_rfl) (fun _ _ _ h => h) (by rfl) hS2 (fun w' hS' => ?by10) ?bz10
                  case by10 =>
                    go_simp
                    rfl
                  simp only [List.setIfInBounds_toArray, List.set_cons_zero, List.set_cons_succ]
                  refine take_op 11 (v := ?bv11) rfl (by kernel_rfl) (fun _ _ _ h => h) (by rfl) hS2 (fun w' hS' => ?by11) ?bz11
                  case by11 =>
                    go_simp
                    try go_ints
                    first
                    | rfl
                    | rw [if_pos ⟨by omega, by omega⟩]
                  simp only [List.setIfInBounds_toArray, List.set_cons_zero, List.set_cons_succ]
                  refine take_op 12 (v := ?bv12) rfl (by kernel_rfl) (fun _ _ _ h => h) (by rfl) hS2 (fun w' hS' => ?by12) ?bz12
                  case by12 =>
                    have m2 := (ka2.below hS' ka2.lt).cell (i := 2) rfl
                    have cj := ((hBrq.trans (hS'.mono hBrq.size)).cell (p := ⟨ba, oa + j, none⟩) hba).trans (hcaH.out j hjn)
                    have cb := ((hBrq.trans (hS'.mono hBrq.size)).cell (p := ⟨ba, oa + b, none⟩) hba).trans (hcaH.out b hbn)
                    have cl := ((hBL.trans (hS'.mono hBL.size)).cell (p := ⟨bL, oL + q, none⟩) hbL).trans hclH.out
                    rw [hjv.out] at cj
                    rw [hbv.out] at cb
                    go_simp
                    rfl
                  simp only [List.setIfInBounds_toArray, List.set_cons_zero, List.set_cons_succ]
                  refine take_op 13 (v := .bool false) rfl (by kernel_rfl) (fun _ _ _ h => h) (by rfl) hS2 (fun w' hS' => ?by13) ?bz13
                  case by13 =>
                    go_simp
                    first
                    | done
                    | (simp only [e1]; done)
                    | rfl
                    | (simp [e1]; done)
                  simp only [List.setIfInBounds_toArray, List.set_cons_zero, List.set_cons_succ]
                  refine take_op 14 (v := ?bv14) rfl (by kernel_rfl) (fun _ _ _ h => h) (by rfl) hS2 (fun w' hS' => ?by14) ?bz14
                  case by14 =>
                    go_simp
                    rfl
                  simp only [List.setIfInBounds_toArray, List.set_cons_zero, List.set_cons_succ]
                  refine take_op 15 (v := ?bv15) rfl (by kernel_rfl) (fun _ _ _ h => h) (by rfl) hS2 (fun w' hS' => ?by15) ?bz15
                  case by15 =>
                    go_simp
                    rfl
                  simp only [List.setIfInBounds_toArray, List.set_cons_zero, List.set_cons_succ]
                  refine take_op 16 (v := ?bv16) rfl (by kernel_rfl) (fun _ _ _ h => h) (by rfl) hS2 (fun w' hS' => ?by16) ?bz16
                  case by16 =>
                    have m2 := (ka2.below hS' ka2.lt).cell (i := 2) rfl
                    have cj := ((hBrq.trans (hS'.mono hBrq.size)).cell (p := ⟨ba, oa + j, none⟩) hba).trans (hcaH.out j hjn)
                    have cb := ((hBrq.trans (hS'.mono hBrq.size)).cell (p := ⟨ba, oa + b, none⟩) hba).trans (hcaH.out b hbn)
                    have cl := ((hBL.trans (hS'.mono hBL.size)).cell (p := ⟨bL, oL + q, none⟩) hbL).trans hclH.out
                    rw [hjv.out] at cj
                    rw [hbv.out] at cb
                    go_simp
                    rfl
                  simp only [List.setIfInBounds_toArray, List.set_cons_zero, List.set_cons_succ]
                  refine take_op 17 (v := ?bv17) rfl (by kernel_rfl) (fun _ _ _ h => h) (by rfl) hS2 (fun w' hS' => ?by17) ?bz17
                  case by17 =>
                    go_simp
                    rfl
                  simp only [List.setIfInBounds_toArray, List.set_cons_zero, List.set_cons_succ]
                  refine take_op 18 (v := ?bv18) rfl (by kernel_rfl) (fun _ _ _ h => h) (by rfl) hS2 (fun w' hS' => ?by18) ?bz18
                  case by18 =>
                    go_simp
                    rfl
                  simp only [List.setIfInBounds_toArray, List.set_cons_zero, List.set_cons_succ]
                  refine take_op 19 (v := ?bv19) rfl (by kernel_rfl) (fun _ _ _ h => h) (by rfl) hS2 (fun w' hS' => ?by19) ?bz19
                  case by19 =>
                    go_simp
                    try go_ints
                    first
                    | rfl
                    | rw [if_pos ⟨by omega, by omega⟩]
                  simp only [List.setIfInBounds_toArray, List.set_cons_zero, List.set_cons_succ]
                  refine take_op 20 (v := ?bv20) rfl (by kernel_rfl) (fun _ _ _ h => h) (by rfl) hS2 (fun w' hS' => ?by20) ?bz20
                  case by20 =>
                    have m2 := (ka2.below hS' ka2.lt).cell (i := 2) rfl
                    have cj := ((hBrq.trans (hS'.mono hBrq.size)).cell (p := ⟨ba, oa + j, none⟩) hba).trans (hcaH.out j hjn)
                    have cb := ((hBrq.trans (hS'.mono hBrq.size)).cell (p := ⟨ba, oa + b, none⟩) hba).trans (hcaH.out b hbn)
                    have cl := ((hBL.trans (hS'.mono hBL.size)).cell (p := ⟨bL, oL + q, none⟩) hbL).trans hclH.out
                    rw [hjv.out] at cj
                    rw [hbv.out] at cb
                    go_simp
                    rfl
                  simp only [List.setIfInBounds_toArray, List.set_cons_zero, List.set_cons_succ]
                  refine take_op 21 (v := ?bv21) rfl (by kernel_rfl) (fun _ _ _ h => h) (by rfl) hS2 (fun w' hS' => ?by21) ?bz21
                  case by21 =>
                    go_simp
                    try go_ints
                    first
                    | rfl
                    | rw [if_pos ⟨by omega, by omega⟩]
                  simp only [List.setIfInBounds_toArray, List.set_cons_zero, List.set_cons_succ]
                  refine take_op 22 (v := ?bv22) rfl (by kernel_rfl) (fun _ _ _ h => h) (by rfl) hS2 (fun w' hS' => ?by22) ?bz22
                  case by22 =>
                    have m2 := (ka2.below hS' ka2.lt).cell (i := 2) rfl
                    have cj := ((hBrq.trans (hS'.mono hBrq.size)).cell (p := ⟨ba, oa + j, none⟩) hba).trans (hcaH.out j hjn)
                    have cb := ((hBrq.trans (hS'.mono hBrq.size)).cell (p := ⟨ba, oa + b, none⟩) hba).trans (hcaH.out b hbn)
                    have cl := ((hBL.trans (hS'.mono hBL.size)).cell (p := ⟨bL, oL + q, none⟩) hbL).trans hclH.out
                    rw [hjv.out] at cj
                    rw [hbv.out] at cb
                    go_simp
                    rfl
                  simp only [List.setIfInBounds_toArray, List.set_cons_zero, List.set_cons_succ]
                  refine take_op 23 (v := ?bv23) rfl (by kernel_rfl) (fun _ _ _ h => h) (by rfl) hS2 (fun w' hS' => ?by23) ?bz23
                  case by23 =>
                    go_simp
                    rfl
                  simp only [List.setIfInBounds_toArray, List.set_cons_zero, List.set_cons_succ]
                  refine take_op 24 (v := ?bv24) rfl (by kernel_rfl) (fun _ _ _ h => h) (by rfl) hS2 (fun w' hS' => ?by24) ?bz24
                  case by24 =>
                    have m2 := (ka2.below hS' ka2.lt).cell (i := 2) rfl
                    have cj := ((hBrq.trans (hS'.mono hBrq.size)).cell (p := ⟨ba, oa + j, none⟩) hba).trans (hcaH.out j hjn)
                    have cb := ((hBrq.trans (hS'.mono hBrq.size)).cell (p := ⟨ba, oa + b, none⟩) hba).trans (hcaH.out b hbn)
                    have cl := ((hBL.trans (hS'.mono hBL.size)).cell (p := ⟨bL, oL + q, none⟩) hbL).trans hclH.out
                    rw [hjv.out] at cj
                    rw [hbv.out] at cb
                    go_simp
                    rfl
                  simp only [List.setIfInBounds_toArray, List.set_cons_zero, List.set_cons_succ]
                  refine take_op 25 (v := ?bv25) rfl (by kernel_rfl) (fun _ _ _ h => h) (by rfl) hS2 (fun w' hS' => ?by25) ?bz25
                  case by25 =>
                    go_simp
                    rfl
                  simp only [List.setIfInBounds_toArray, List.set_cons_zero, List.set_cons_succ]
                  refine take_op 26 (v := ?bv26) rfl (by kernel_rfl) (fun _ _ _ h => h) (by rfl) hS2 (fun w' hS' => ?by26) ?bz26
                  case by26 =>
                    go_simp
                    try go_ints
                    first
                    | rfl
                    | rw [if_pos ⟨by omega, by omega⟩]
                  simp only [List.setIfInBounds_toArray, List.set_cons_zero, List.set_cons_succ]
                  refine take_op 27 (v := ?bv27) rfl (by kernel_rfl) (fun _ _ _ h => h) (by rfl) hS2 (fun w' hS' => ?by27) ?bz27
                  case by27 =>
                    have m2 := (ka2.below hS' ka2.lt).cell (i := 2) rfl
                    have cj := ((hBrq.trans (hS'.mono hBrq.size)).cell (p := ⟨ba, oa + j, none⟩) hba).trans (hcaH.out j hjn)
                    have cb := ((hBrq.trans (hS'.mono hBrq.size)).cell (p := ⟨ba, oa + b, none⟩) hba).trans (hcaH.out b hbn)
                    have cl := ((hBL.trans (hS'.mono hBL.size)).cell (p := ⟨bL, oL + q, none⟩) hbL).trans hclH.out
                    rw [hjv.out] at cj
                    rw [hbv.out] at cb
                    go_simp
                    rfl
                  simp only [List.setIfInBounds_toArray, List.set_cons_zero, List.set_cons_succ]
                  refine take_op 28 (v := .bool true) rfl (by kernel_rfl) (fun _ _ _ h => h) (by rfl) hS2 (fun w' hS' => ?by28) ?bz28
                  case by28 =>
                    go_simp
                    first
                    | done
                    | (simp only [e2]; done)
                    | rfl
                    | (simp [e2]; done)
                  simp only [List.setIfInBounds_toArray, List.set_cons_zero, List.set_cons_succ]
                  refine take_op 29 (v := ?bv29) rfl (by kernel_rfl) (fun _ _ _ h => h) (by rfl) hS2 (fun w' hS' => ?by29) ?bz29
                  case by29 =>
                    go_simp
                    rfl
                  simp only [List.setIfInBounds_toArray, List.set_cons_zero, List.set_cons_succ]
                  refine take_op 30 (v := ?bv30) rfl (by kernel_rfl) (fun _ _ _ h => h) (by rfl) hS2 (fun w' hS' => ?by30) ?bz30
                  case by30 =>
                    go_simp
                    rfl
                  simp only [List.setIfInBounds_toArray, List.set_cons_zero, List.set_cons_succ]
                  refine take_op 31 (v := ?bv31) rfl (by kernel_rfl) (fun _ _ _ h => h) (by rfl) hS2 (fun w' hS' => ?by31) ?bz31
                  case by31 =>
                    go_simp
                    rfl
                  simp only [List.setIfInBounds_toArray, List.set_cons_zero, List.set_cons_succ]
                  refine take_op 32 (v := ?bv32) rfl (by kernel_rfl) (fun _ _ _ h => h) (by rfl) hS2 (fun w' hS' => ?by32) ?bz32
                  case by32 =>
                    go_simp
                    try go_ints
                    first
                    | rfl
                    | rw [if_pos ⟨by omega, by omega⟩]
                  simp only [List.setIfInBounds_toArray, List.set_cons_zero, List.set_cons_succ]
                  refine take_op 33 (v := ?bv33) rfl (by kernel_rfl) (fun _ _ _ h => h) (by rfl) hS2 (fun w' hS' => ?by33) ?bz33
                  case by33 =>
                    have m2 := (ka2.below hS' ka2.lt).cell (i := 2) rfl
                    have cj := ((hBrq.trans (hS'.mono hBrq.size)).cell (p := ⟨ba, oa + j, none⟩) hba).trans (hcaH.out j hjn)
                    have cb := ((hBrq.trans (hS'.mono hBrq.size)).cell (p := ⟨ba, oa + b, none⟩) hba).trans (hcaH.out b hbn)
                    have cl := ((hBL.trans (hS'.mono hBL.size)).cell (p := ⟨bL, oL + q, none⟩) hbL).trans hclH.out
                    rw [hjv.out] at cj
                    rw [hbv.out] at cb
                    go_simp
                    rfl
                  simp only [List.setIfInBounds_toArray, List.set_cons_zero, List.set_cons_succ]
                  refine take_op 34 (v := ?bv34) rfl (by kernel_rfl) (fun _ _ _ h => h) (by rfl) hS2 (fun w' hS' => ?by34) ?bz34
                  case by34 =>
                    go_simp
                    rfl
                  simp only [List.setIfInBounds_toArray, List.set_cons_zero, List.set_cons_succ]
                  refine take_op 35 (v := .bool true) rfl (by kernel_rfl) (fun _ _ _ h => h) (by rfl) hS2 (fun w' hS' => ?by35) ?bz35
                  case by35 =>
                    go_simp
                    first
                    | done
                    | (simp only [e3]; done)
                    | (simp only [e3']; done)
                    | rfl
                    | (simp [e3, e3']; done)
                  simp only [List.setIfInBounds_toArray, List.set_cons_zero, List.set_cons_succ]
                  refine take_op 36 (v := ?bv36) rfl (by kernel_rfl) (fun _ _ _ h => h) (by rfl) hS2 (fun w' hS' => ?by36) ?bz36
                  case by36 =>
                    go_simp
                    rfl
                  simp only [List.setIfInBounds_toArray, List.set_cons_zero, List.set_cons_succ]
                  refine take_op 37 (v := ?bv37) rfl (by kernel_rfl) (fun _ _ _ h => h) (by rfl) hS2 (fun w' hS' => ?by37) ?bz37
                  case by37 =>
                    go_simp
                    rfl
                  simp only [List.setIfInBounds_toArray, List.set_cons_zero, List.set_cons_succ]
                  refine done_ops (by kernel_rfl) ?_
                  have cl2 := ((hBL.trans (hS2.mono hBL.size)).cell (p := ⟨bL, oL + q, none⟩) hbL).trans hclH.out
                  go_wp2_with fail
                  go_roundw
                  case rel => exact ⟨q + 1, by omega, by go_num, by rw [hsn2.out], hBL.trans (hS2.mono hBL.size)⟩
                  case measure => simp [intOf]; omega
                · have e3 : decide ((j : Int) < (b : Int)) = false := decide_eq_false (by omega)
                  have e3' : decide (j < b) = false := decide_eq_false c3
                  have hbt := fun h => (show ¬ (jv < bv ∨ (jv = bv ∧ j < b)) by omega) (hbt0.1 h)
                  clear hbt0 c1 c2 c3
                  have hsn2 : Hid (lowAt (fun i => px xs i) k LL (q + 1) = b) := Lib.hid (by rw [hsn.out, if_neg (by rw [better_iff]; exact hbt)])
                  clear hsn hbt
                  go_wp2_with fail
                  refine plain_region (fun W' => Below wr.heap.size wr W') 38 38 (by kernel_rfl) rfl ?_
                  simp only [Array.replicate_succ, Array.replicate_zero, List.push_toArray, List.nil_append, List.cons_append]
                  refine take_op 0 (v := ?cv0) rfl (by kernel_rfl) (fun _ _ _ h => h) (by rfl) hS2 (fun w' hS' => ?cy0) ?cz0
                  case cy0 =>
                    go_simp
                    rfl
                  simp only [List.setIfInBounds_toArray, List.set_cons_zero, List.set_cons_succ]
                  refine take_op 1 (v := ?cv1) rfl (by kernel_rfl) (fun _ _ _ h => h) (by rfl) hS2 (fun w' hS' => ?cy1) ?cz1
                  case cy1 =>
                    have m2 := (ka2.below hS' ka2.lt).cell (i := 2) rfl
                    have cj := ((hBrq.trans (hS'.mono hBrq.size)).cell (p := ⟨ba, oa + j, none⟩) hba).trans (hcaH.out j hjn)
                    have cb := ((hBrq.trans (hS'.mono hBrq.size)).cell (p := ⟨ba, oa + b, none⟩) hba).trans (hcaH.out b hbn)
                    have cl := ((hBL.trans (hS'.mono hBL.size)).cell (p := ⟨bL, oL + q, none⟩) hbL).trans hclH.out
                    rw [hjv.out] at cj
                    rw [hbv.out] at cb
                    go_simp
                    rfl
                  simp only [List.setIfInBounds_toArray, List.set_cons_zero, List.set_cons_succ]
                  refine take_op 2 (v := ?cv2) rfl (by kernel_rfl) (fun _ _ _ h => h) (by rfl) hS2 (fun w' hS' => ?cy2) ?cz2
                  case cy2 =>
                    go_simp
                    rfl
                  simp only [List.setIfInBounds_toArray, List.set_cons_zero, List.set_cons_succ]
                  refine take_op 3 (v := ?cv3) rfl (by kernel_rfl) (fun _ _ _ h => h) (by rfl) hS2 (fun w' hS' => ?cy3) ?cz3
                  case cy3 =>
                    go_simp
                    rfl
                  simp only [List.setIfInBounds_toArray, List.set_cons_zero, List.set_cons_succ]
                  refine take_op 4 (v := ?cv4) rfl (by kernel_rfl) (fun _ _ _ h => h) (by rfl) hS2 (fun w' hS' => ?cy4) ?cz4
                  case cy4 =>
                    go_simp
                    try go_ints
                    first
                    | rfl
                    | rw [if_pos ⟨by omega, by omega⟩]
                  simp only [List.setIfInBounds_toArray, List.set_cons_zero, List.set_cons_succ]
                  refine take_op 5 (v := ?cv5) rfl (by kernel_rfl) (fun _ _ _ h => h) (by rfl) hS2 (fun w' hS' => ?cy5) ?cz5
                  case cy5 =>
                    have m2 := (ka2.below hS' ka2.lt).cell (i := 2) rfl
                    have cj := ((hBrq.trans (hS'.mono hBrq.size)).cell (p := ⟨ba, oa + j, none⟩) hba).trans (hcaH.out j hjn)
                    have cb := ((hBrq.trans (hS'.mono hBrq.size)).cell (p := ⟨ba, oa + b, none⟩) hba).trans (hcaH.out b hbn)
                    have cl := ((hBL.trans (hS'.mono hBL.size)).cell (p := ⟨bL, oL + q, none⟩) hbL).trans hclH.out
                    rw [hjv.out] at cj
                    rw [hbv.out] at cb
                    go_simp
                    rfl
                  simp only [List.setIfInBounds_toArray, List.set_cons_zero, List.set_cons_succ]
                  refine take_op 6 (v := ?cv6) rfl (by kernel_rfl) (fun _ _ _ h => h) (by rfl) hS2 (fun w' hS' => ?cy6) ?cz6
                  case cy6 =>
                    go_simp
                    try go_ints
                    first
                    | rfl
                    | rw [if_pos ⟨by omega, by omega⟩]
                  simp only [List.setIfInBounds_toArray, List.set_cons_zero, List.set_cons_succ]
                  refine take_op 7 (v := ?cv7) rfl (by kernel_rfl) (fun _ _ _ h => h) (by rfl) hS2 (fun w' hS' => ?cy7) ?cz7
                  case cy7 =>
                    have m2 := (ka2.below hS' ka2.lt).cell (i := 2) rfl
                    have cj := ((hBrq.trans (hS'.mono hBrq.size)).cell (p := ⟨ba, oa + j, none⟩) hba).trans (hcaH.out j hjn)
                    have cb := ((hBrq.trans (hS'.mono hBrq.size)).cell (p := ⟨ba, oa + b, none⟩) hba).trans (hcaH.out b hbn)
                    have cl := ((hBL.trans (hS'.mono hBL.size)).cell (p := ⟨bL, oL + q, none⟩) hbL).trans hclH.out
                    rw [hjv.out] at cj
                    rw [hbv.out] at cb
                    go_simp
                    rfl
                  simp only [List.setIfInBounds_toArray, List.set_cons_zero, List.set_cons_succ]
                  refine take_op 8 (v := ?cv8) rfl (by kernel_rfl) (fun _ _ _ h => h) (by rfl) hS2 (fun w' hS' => ?cy8) ?cz8
                  case cy8 =>
                    go_simp
                    rfl
                  simp only [List.setIfInBounds_toArray, List.set_cons_zero, List.set_cons_succ]
                  refine take_op 9 (v := ?cv9) rfl (by kernel_rfl) (fun _ _ _ h => h) (by rfl) hS2 (fun w' hS' => ?cy9) ?cz9
                  case cy9 =>
                    have m2 := (ka2.below hS' ka2.lt).cell (i := 2) rfl
                    have cj := ((hBrq.trans (hS'.mono hBrq.size)).cell (p := ⟨ba, oa + j, none⟩) hba).trans (hcaH.out j hjn)
                    have cb := ((hBrq.trans (hS'.mono hBrq.size)).cell (p := ⟨ba, oa + b, none⟩) hba).trans (hcaH.out b hbn)
                    have cl := ((hBL.trans (hS'.mono hBL.size)).cell (p := ⟨bL, oL + q, none⟩) hbL).trans hclH.out
                    rw [hjv.out] at cj
                    rw [hbv.out] at cb
                    go_simp
                    rfl
                  simp only [List.setIfInBounds_toArray, List.set_cons_zero, List.set_cons_succ]
                  refine take_op 10 (v := ?cv10) rfl (by kernel_rfl) (fun _ _ _ h => h) (by rfl) hS2 (fun w' hS' => ?cy10) ?cz10
                  case cy10 =>
                    go_simp
                    rfl
                  simp only [List.setIfInBounds_toArray, List.set_cons_zero, List.set_cons_succ]
                  refine take_op 11 (v := ?cv11) rfl (by kernel_rfl) (fun _ _ _ h => h) (by rfl) hS2 (fun w' hS' => ?cy11) ?cz11
                  case cy11 =>
                    go_simp
                    try go_ints
                    first
                    | rfl
                    | rw [if_pos ⟨by omega, by omega⟩]
                  simp only [List.setIfInBounds_toArray, List.set_cons_zero, List.set_cons_succ]
                  refine take_op 12 (v := ?cv12) rfl (by kernel_rfl) (fun _ _ _ h => h) (by rfl) hS2 (fun w' hS' => ?cy12) ?cz12
                  case cy12 =>
                    have m2 := (ka2.below hS' ka2.lt).cell (i := 2) rfl
                    have cj := ((hBrq.trans (hS'.mono hBrq.size)).cell (p := ⟨ba, oa + j, none⟩) hba).trans (hcaH.out j hjn)
                    have cb := ((hBrq.trans (hS'.mono hBrq.size)).cell (p := ⟨ba, oa + b, none⟩) hba).trans (hcaH.out b hbn)
                    have cl := ((hBL.trans (hS'.mono hBL.size)).cell (p := ⟨bL, oL + q, none⟩) hbL).trans hclH.out
                    rw [hjv.out] at cj
                    rw [hbv.out] at cb
                    go_simp
                    rfl
                  simp only [List.setIfInBounds_toArray, List.set_cons_zero, List.set_cons_succ]
                  refine take_op 13 (v := .bool false) rfl (by kernel_rfl) (fun _ _ _ h => h) (by rfl) hS2 (fun w' hS' => ?cy13) ?cz13
                  case cy13 =>
                    go_simp
                    first
                    | done
                    | (simp only [e1]; done)
                    | rfl
                    | (simp [e1]; done)
                  simp only [List.setIfInBounds_toArray, List.set_cons_zero, List.set_cons_succ]
                  refine take_op 14 (v := ?cv14) rfl (by kernel_rfl) (fun _ _ _ h => h) (by rfl) hS2 (fun w' hS' => ?cy14) ?cz14
                  case cy14 =>
                    go_simp
                    rfl
                  simp only [List.setIfInBounds_toArray, List.set_cons_zero, List.set_cons_succ]
                  refine take_op 15 (v := ?cv15) rfl (by kernel_rfl) (fun _ _ _ h => h) (by rfl) hS2 (fun w' hS' => ?cy15) ?cz15
                  case cy15 =>
                    go_simp
                    rfl
                  simp only [List.setIfInBounds_toArray, List.set_cons_zero, List.set_cons_succ]
                  refine take_op 16 (v := ?cv16) rfl (by kernel_rfl) (fun _ _ _ h => h) (by rfl) hS2 (fun w' hS' => ?cy16) ?cz16
                  case cy16 =>
                    have m2 := (ka2.below hS' ka2.lt).cell (i := 2) rfl
                    have cj := ((hBrq.trans (hS'.mono hBrq.size)).cell (p := ⟨ba, oa + j, none⟩) hba).trans (hcaH.out j hjn)
                    have cb := ((hBrq.trans (hS'.mono hBrq.size)).cell (p := ⟨ba, oa + b, none⟩) hba).trans (hcaH.out b hbn)
                    have cl := ((hBL.trans (hS'.mono hBL.size)).cell (p := ⟨bL, oL + q, none⟩) hbL).trans hclH.out
                    rw [hjv.out] at cj
                    rw [hbv.out] at cb
                    go_simp
                    rfl
                  simp only [List.setIfInBounds_toArray, List.set_cons_zero, List.set_cons_succ]
                  refine take_op 17 (v := ?cv17) rfl (by kernel_rfl) (fun _ _ _ h => h) (by rfl) hS2 (fun w' hS' => ?cy17) ?cz17
                  case cy17 =>
                    go_simp
                    rfl
                  simp only [List.setIfInBounds_toArray, List.set_cons_zero, List.set_cons_succ]
                  refine take_op 18 (v := ?cv18) rfl (by kernel_rfl) (fun _ _ _ h => h) (by rfl) hS2 (fun w' hS' => ?cy18) ?cz18
                  case cy18 =>
                    go_simp
                    rfl
                  simp only [List.setIfInBounds_toArray, List.set_cons_zero, List.set_cons_succ]
                  refine take_op 19 (v := ?cv19) rfl (by kernel_rfl) (fun _ _ _ h => h) (by rfl) hS2 (fun w' hS' => ?cy19) ?cz19
                  case cy19 =>
                    go_simp
                    try go_ints
                    first
                    | rfl
                    | rw [if_pos ⟨by omega, by omega⟩]
                  simp only [List.setIfInBounds_toArray, List.set_cons_zero, List.set_cons_succ]
                  refine take_op 20 (v := ?cv20) rfl (by kernel_rfl) (fun _ _ _ h => h) (by rfl) hS2 (fun w' hS' => ?cy20) ?cz20
                  case cy20 =>
                    have m2 := (ka2.below hS' ka2.lt).cell (i := 2) rfl
                    have cj := ((hBrq.trans (hS'.mono hBrq.size)).cell (p := ⟨ba, oa + j, none⟩) hba).trans (hcaH.out j hjn)
                    have cb := ((hBrq.trans (hS'.mono hBrq.size)).cell (p := ⟨ba, oa + b, none⟩) hba).trans (hcaH.out b hbn)
                    have cl := ((hBL.trans (hS'.mono hBL.size)).cell (p := ⟨bL, oL + q, none⟩) hbL).trans hclH.out
                    rw [hjv.out] at cj
                    rw [hbv.out] at cb
                    go_simp
                    rfl
                  simp only [List.setIfInBounds_toArray, List.set_cons_zero, List.set_cons_succ]
                  refine take_op 21 (v := ?cv21) rfl (by kernel_rfl) (fun _ _ _ h => h) (by rfl) hS2 (fun w' hS' => ?cy21) ?cz21
                  case cy21 =>
                    go_simp
                    try go_ints
                    first
                    | rfl
                    | rw [if_pos ⟨by omega, by omega⟩]
                  simp only [List.setIfInBounds_toArray, List.set_cons_zero, List.set_cons_succ]
                  refine take_op 22 (v := ?cv22) rfl (by kernel_rfl) (fun _ _ _ h => h) (by rfl) hS2 (fun w' hS' => ?cy22) ?cz22
                  case cy22 =>
                    have m2 := (ka2.below hS' ka2.lt).cell (i := 2) rfl
                    have cj := ((hBrq.trans (hS'.mono hBrq.size)).cell (p := ⟨ba, oa + j, none⟩) hba).trans (hcaH.out j hjn)
                    have cb := ((hBrq.trans (hS'.mono hBrq.size)).cell (p := ⟨ba, oa + b, none⟩) hba).trans (hcaH.out b hbn)
                    have cl := ((hBL.trans (hS'.mono hBL.size)).cell (p := ⟨bL, oL + q, none⟩) hbL).trans hclH.out
                    rw [hjv.out] at cj
                    rw [hbv.out] at cb
                    go_simp
                    rfl
                  simp only [List.setIfInBounds_toArray, List.set_cons_zero, List.set_cons_succ]
                  refine take_op 23 (v := ?cv23) rfl (by kernel_rfl) (fun _ _ _ h => h) (by rfl) hS2 (fun w' hS' => ?cy23) ?cz23
                  case cy23 =>
                    go_simp
                    rfl
                  simp only [List.setIfInBounds_toArray, List.set_cons_zero, List.set_cons_succ]
                  refine take_op 24 (v := ?cv24) rfl (by kernel_rfl) (fun _ _ _ h => h) (by rfl) hS2 (fun w' hS' => ?cy24) ?cz24
                  case cy24 =>
                    have m2 := (ka2.below hS' ka2.lt).cell (i := 2) rfl
                    have cj := ((hBrq.trans (hS'.mono hBrq.size)).cell (p := ⟨ba, oa + j, none⟩) hba).trans (hcaH.out j hjn)
                    have cb := ((hBrq.trans (hS'.mono hBrq.size)).cell (p := ⟨ba, oa + b, none⟩) hba).trans (hcaH.out b hbn)
                    have cl := ((hBL.trans (hS'.mono hBL.size)).cell (p := ⟨bL, oL + q, none⟩) hbL).trans hclH.out
                    rw [hjv.out] at cj
                    rw [hbv.out] at cb
                    go_simp
                    rfl
                  simp only [List.setIfInBounds_toArray, List.set_cons_zero, List.set_cons_succ]
                  refine take_op 25 (v := ?cv25) rfl (by kernel_rfl) (fun _ _ _ h => h) (by rfl) hS2 (fun w' hS' => ?cy25) ?cz25
                  case cy25 =>
                    go_simp
                    rfl
                  simp only [List.setIfInBounds_toArray, List.set_cons_zero, List.set_cons_succ]
                  refine take_op 26 (v := ?cv26) rfl (by kernel_rfl) (fun _ _ _ h => h) (by rfl) hS2 (fun w' hS' => ?cy26) ?cz26
                  case cy26 =>
                    go_simp
                    try go_ints
                    first
                    | rfl
                    | rw [if_pos ⟨by omega, by omega⟩]
                  simp only [List.setIfInBounds_toArray, List.set_cons_zero, List.set_cons_succ]
                  refine take_op 27 (v := ?cv27) rfl (by kernel_rfl) (fun _ _ _ h => h) (by rfl) hS2 (fun w' hS' => ?cy27) ?cz27
                  case cy27 =>
                    have m2 := (ka2.below hS' ka2.lt).cell (i := 2) rfl
                    have cj := ((hBrq.trans (hS'.mono hBrq.size)).cell (p := ⟨ba, oa + j, none⟩) hba).trans (hcaH.out j hjn)
                    have cb := ((hBrq.trans (hS'.mono hBrq.size)).cell (p := ⟨ba, oa + b, none⟩) hba).trans (hcaH.out b hbn)
                    have cl := ((hBL.trans (hS'.mono hBL.size)).cell (p := ⟨bL, oL + q, none⟩) hbL).trans hclH.out
                    rw [hjv.out] at cj
                    rw [hbv.out] at cb
                    go_simp
                    rfl
                  simp only [List.setIfInBounds_toArray, List.set_cons_zero, List.set_cons_succ]
                  refine take_op 28 (v := .bool true) rfl (by kernel_rfl) (fun _ _ _ h => h) (by rfl) hS2 (fun w' hS' => ?cy28) ?cz28
                  case cy28 =>
                    go_simp
                    first
                    | done
                    | (simp only [e2]; done)
                    | rfl
                    | (simp [e2]; done)
                  simp only [List.setIfInBounds_toArray, List.set_cons_zero, List.set_cons_succ]
                  refine take_op 29 (v := ?cv29) rfl (by kernel_rfl) (fun _ _ _ h => h) (by rfl) hS2 (fun w' hS' => ?cy29) ?cz29
                  case cy29 =>
                    go_simp
                    rfl
                  simp only [List.setIfInBounds_toArray, List.set_cons_zero, List.set_cons_succ]
                  refine take_op 30 (v := ?cv30) rfl (by kernel_rfl) (fun _ _ _ h => h) (by rfl) hS2 (fun w' hS' => ?cy30) ?cz30
                  case cy30 =>
                    go_simp
                    rfl
                  simp only [List.setIfInBounds_toArray, List.set_cons_zero, List.set_cons_succ]
                  refine take_op 31 (v := ?cv31) rfl (by kernel_rfl) (fun _ _ _ h => h) (by rfl) hS2 (fun w' hS' => ?cy31) ?cz31
                  case cy31 =>
                    go_simp
                    rfl
                  simp only [List.setIfInBounds_toArray, List.set_cons_zero, List.set_cons_succ]
                  refine take_op 32 (v := ?cv32) rfl (by kernel_rfl) (fun _ _ _ h => h) (by rfl) hS2 (fun w' hS' => ?cy32) ?cz32
                  case cy32 =>
                    go_simp
                    try go_ints
                    first
                    | rfl
                    | rw [if_pos ⟨by omega, by omega⟩]
                  simp only [List.setIfInBounds_toArray, List.set_cons_zero, List.set_cons_succ]
                  refine take_op 33 (v := ?cv33) rfl (by kernel_rfl) (fun _ _ _ h => h) (by rfl) hS2 (fun w' hS' => ?cy33) ?cz33
                  case cy33 =>
                    have m2 := (ka2.below hS' ka2.lt).cell (i := 2) rfl
                    have cj := ((hBrq.trans (hS'.mono hBrq.size)).cell (p := ⟨ba, oa + j, none⟩) hba).trans (hcaH.out j hjn)
                    have cb := ((hBrq.trans (hS'.mono hBrq.size)).cell (p := ⟨ba, oa + b, none⟩) hba).trans (hcaH.out b hbn)
                    have cl := ((hBL.trans (hS'.mono hBL.size)).cell (p := ⟨bL, oL + q, none⟩) hbL).trans hclH.out
                    rw [hjv.out] at cj
                    rw [hbv.out] at cb
                    go_simp
                    rfl
                  simp only [List.setIfInBounds_toArray, List.set_cons_zero, List.set_cons_succ]
                  refine take_op 34 (v := ?cv34) rfl (by kernel_rfl) (fun _ _ _ h => h) (by rfl) hS2 (fun w' hS' => ?cy34) ?cz34
                  case cy34 =>
                    go_simp
                    rfl
                  simp only [List.setIfInBounds_toArray, List.set_cons_zero, List.set_cons_succ]
                  refine take_op 35 (v := .bool false) rfl (by kernel_rfl) (fun _ _ _ h => h) (by rfl) hS2 (fun w' hS' => ?cy35) ?cz35
                  case cy35 =>
                    go_simp
                    first
                    | done
                    | (simp only [e3]; done)
                    | (simp only [e3']; done)
                    | rfl
                    | (simp [e3, e3']; done)
                  simp only [List.setIfInBounds_toArray, List.set_cons_zero, List.set_cons_succ]
                  refine take_op 36 (v := ?cv36) rfl (by kernel_rfl) (fun _ _ _ h => h) (by rfl) hS2 (fun w' hS' => ?cy36) ?cz36
                  case cy36 =>
                    go_simp
                    rfl
                  simp only [List.setIfInBounds_toArray, List.set_cons_zero, List.set_cons_succ]
                  refine take_op 37 (v := ?cv37) rfl (by kernel_rfl) (fun _ _ _ h => h) (by rfl) hS2 (fun w' hS' => ?cy37) ?cz37
                  case cy37 =>
                    go_simp
                    rfl
                  simp only [List.setIfInBounds_toArray, List.set_cons_zero, List.set_cons_succ]
                  refine done_ops (by kernel_rfl) ?_
                  go_wp2_with fail
                  go_roundw
                  case rel => exact ⟨q + 1, by omega, by go_num, by rw [hsn2.out], hBL.trans (hS2.mono hBL.size)⟩
                  case measure => simp [intOf]; omega
              · have e2 : (jv == bv) = false := by rw [beq_eq_false_iff_ne]; exact c2
                have hbt := fun h => (show ¬ (jv < bv ∨ (jv = bv ∧ j < b)) by omega) (hbt0.1 h)
                clear hbt0 c1 c2
                have hsn2 : Hid (lowAt (fun i => px xs i) k LL (q + 1) = b) := Lib.hid (by rw [hsn.out, if_neg (by rw [better_iff]; exact hbt)])
                clear hsn hbt
                go_wp2_with fail
                refine plain_region (fun W' => Below wr.heap.size wr W') 38 38 (by kernel_rfl) rfl ?_
                simp only [Array.replicate_succ, Array.replicate_zero, List.push_toArray, List.nil_append, List.cons_append]
                refine take_op 0 (v := ?dv0) rfl (by kernel_rfl) (fun _ _ _ h => h) (by rfl) hS2 (fun w' hS' => ?dy0) ?dz0
                case dy0 =>
                  go_simp
                  rfl
                simp only [List.setIfInBounds_toArray, List.set_cons_zero, List.set_cons_succ]
                refine take_op 1 (v := ?dv1) rfl (by kernel_rfl) (fun _ _ _ h => h) (by rfl) hS2 (fun w' hS' => ?dy1) ?dz1
                case dy1 =>
                  have m2 := (ka2.below hS' ka2.lt).cell (i := 2) rfl
                  have cj := ((hBrq.trans (hS'.mono hBrq.size)).cell (p := ⟨ba, oa + j, none⟩) hba).trans (hcaH.out j hjn)
                  have cb := ((hBrq.trans (hS'.mono hBrq.size)).cell (p := ⟨ba, oa + b, none⟩) hba).trans (hcaH.out b hbn)
                  have cl := ((hBL.trans (hS'.mono hBL.size)).cell (p := ⟨bL, oL + q, none⟩) hbL).trans hclH.out
                  rw [hjv.out] at cj
                  rw [hbv.out] at cb
                  go_simp
                  rfl
                simp only [List.setIfInBounds_toArray, List.set_cons_zero, List.set_cons_succ]
                refine take_op 2 (v := ?dv2) rfl (by kernel_rfl) (fun _ _ _ h => h) (by rfl) hS2 (fun w' hS' => ?dy2) ?dz2
                case dy2 =>
                  go_simp
                  rfl
                simp only [List.setIfInBounds_toArray, List.set_cons_zero, List.set_cons_succ]
                refine take_op 3 (v := ?dv3) rfl (by kernel_rfl) (fun _ _ _ h => h) (by rfl) hS2 (fun w' hS' => ?dy3) ?dz3
                case dy3 =>
                  go_simp
                  rfl
                simp only [List.setIfInBounds_toArray, List.set_cons_zero, List.set_cons_succ]
                refine take_op 4 (v := ?dv4) rfl (by kernel_rfl) (fun _ _ _ h => h) (by rfl) hS2 (fun w' hS' => ?dy4) ?dz4
                case dy4 =>
                  go_simp
                  try go_ints
                  first
                  | rfl
                  | rw [if_pos ⟨by omega, by omega⟩]
                simp only [List.setIfInBounds_toArray, List.set_cons_zero, List.set_cons_succ]
                refine take_op 5 (v := ?dv5) rfl (by kernel_rfl) (fun _ _ _ h => h) (by rfl) hS2 (fun w' hS' => ?dy5) ?dz5
                case dy5 =>
                  have m2 := (ka2.below hS' ka2.lt).cell (i := 2) rfl
                  have cj := ((hBrq.trans (hS'.mono hBrq.size)).cell (p := ⟨ba, oa + j, none⟩) hba).trans (hcaH.out j hjn)
                  have cb := ((hBrq.trans (hS'.mono hBrq.size)).cell (p := ⟨ba, oa + b, none⟩) hba).trans (hcaH.out b hbn)
                  have cl := ((hBL.trans (hS'.mono hBL.size)).cell (p := ⟨bL, oL + q, none⟩) hbL).trans hclH.out
                  rw [hjv.out] at cj
                  rw [hbv.out] at cb
                  go_simp
                  rfl
                simp only [List.setIfInBounds_toArray, List.set_cons_zero, List.set_cons_succ]
                refine take_op 6 (v := ?dv6) rfl (by kernel_rfl) (fun _ _ _ h => h) (by rfl) hS2 (fun w' hS' => ?dy6) ?dz6
                case dy6 =>
                  go_simp
                  try go_ints
                  first
                  | rfl
                  | rw [if_pos ⟨by omega, by omega⟩]
                simp only [List.setIfInBounds_toArray, List.set_cons_zero, List.set_cons_succ]
                refine take_op 7 (v := ?dv7) rfl (by kernel_rfl) (fun _ _ _ h => h) (by rfl) hS2 (fun w' hS' => ?dy7) ?dz7
                case dy7 =>
                  have m2 := (ka2.below hS' ka2.lt).cell (i := 2) rfl
                  have cj := ((hBrq.trans (hS'.mono hBrq.size)).cell (p := ⟨ba, oa + j, none⟩) hba).trans (hcaH.out j hjn)
                  have cb := ((hBrq.trans (hS'.mono hBrq.size)).cell (p := ⟨ba, oa + b, none⟩) hba).trans (hcaH.out b hbn)
                  have cl := ((hBL.trans (hS'.mono hBL.size)).cell (p := ⟨bL, oL + q, none⟩) hbL).trans hclH.out
                  rw [hjv.out] at cj
                  rw [hbv.out] at cb
                  go_simp
                  rfl
                simp only [List.setIfInBounds_toArray, List.set_cons_zero, List.set_cons_succ]
                refine take_op 8 (v := ?dv8) rfl (by kernel_rfl) (fun _ _ _ h => h) (by rfl) hS2 (fun w' hS' => ?dy8) ?dz8
                case dy8 =>
                  go_simp
                  rfl
                simp only [List.setIfInBounds_toArray, List.set_cons_zero, List.set_cons_succ]
                refine take_op 9 (v := ?dv9) rfl (by kernel_rfl) (fun _ _ _ h => h) (by rfl) hS2 (fun w' hS' => ?dy9) ?dz9
                case dy9 =>
                  have m2 := (ka2.below hS' ka2.lt).cell (i := 2) rfl
                  have cj := ((hBrq.trans (hS'.mono hBrq.size)).cell (p := ⟨ba, oa + j, none⟩) hba).trans (hcaH.out j hjn)
                  have cb := ((hBrq.trans (hS'.mono hBrq.size)).cell (p := ⟨ba, oa + b, none⟩) hba).trans (hcaH.out b hbn)
                  have cl := ((hBL.trans (hS'.mono hBL.size)).cell (p := ⟨bL, oL + q, none⟩) hbL).trans hclH.out
                  rw [hjv.out] at cj
                  rw [hbv.out] at cb
                  go_simp
                  rfl
                simp only [List.setIfInBounds_toArray, List.set_cons_zero, List.set_cons_succ]
                refine take_op 10 (v := ?dv10) rfl (by kernel_rfl) (fun _ _ _ h => h) (by rfl) hS2 (fun w' hS' => ?dy10) ?dz10
                case dy10 =>
                  go_simp
                  rfl
                simp only [List.setIfInBounds_toArray, List.set_cons_zero, List.set_cons_succ]
                refine take_op 11 (v := ?dv11) rfl (by kernel_rfl) (fun _ _ _ h => h) (by rfl) hS2 (fun w' hS' => ?dy11) ?dz11
                case dy11 =>
                  go_simp
                  try go_ints
                  first
                  | rfl
                  | rw [if_pos ⟨by omega, by omega⟩]
                simp only [List.setIfInBounds_toArray, List.set_cons_zero, List.set_cons_succ]
                refine take_op 12 (v := ?dv12) rfl (by kernel_rfl) (fun _ _ _ h => h) (by rfl) hS2 (fun w' hS' => ?dy12) ?dz12
                case dy12 =>
                  have m2 := (ka2.below hS' ka2.lt).cell (i := 2) rfl
                  have cj := ((hBrq.trans (hS'.mono hBrq.size)).cell (p := ⟨ba, oa + j, none⟩) hba).trans (hcaH.out j hjn)
                  have cb := ((hBrq.trans (hS'.mono hBrq.size)).cell (p := ⟨ba, oa + b, none⟩) hba).trans (hcaH.out b hbn)
                  have cl := ((hBL.trans (hS'.mono hBL.size)).cell (p := ⟨bL, oL + q, none⟩) hbL).trans hclH.out
                  rw [hjv.out] at cj
                  rw [hbv.out] at cb
                  go_simp
                  rfl
                simp only [List.setIfInBounds_toArray, List.set_cons_zero, List.set_cons_succ]
                refine take_op 13 (v := .bool false) rfl (by kernel_rfl) (fun _ _ _ h => h) (by rfl) hS2 (fun w' hS' => ?dy13) ?dz13
                case dy13 =>
                  go_simp
                  first
                  | done
                  | (simp only [e1]; done)
                  | rfl
                  | (simp [e1]; done)
                simp only [List.setIfInBounds_toArray, List.set_cons_zero, List.set_cons_succ]
                refine take_op 14 (v := ?dv14) rfl (by kernel_rfl) (fun _ _ _ h => h) (by rfl) hS2 (fun w' hS' => ?dy14) ?dz14
                case dy14 =>
                  go_simp
                  rfl
                simp only [List.setIfInBounds_toArray, List.set_cons_zero, List.set_cons_succ]
                refine take_op 15 (v := ?dv15) rfl (by kernel_rfl) (fun _ _ _ h => h) (by rfl) hS2 (fun w' hS' => ?dy15) ?dz15
                case dy15 =>
                  go_simp
                  rfl
                simp only [List.setIfInBounds_toArray, List.set_cons_zero, List.set_cons_succ]
                refine take_op 16 (v := ?dv16) rfl (by kernel_rfl) (fun _ _ _ h => h) (by rfl) hS2 (fun w' hS' => ?dy16) ?dz16
                case dy16 =>
                  have m2 := (ka2.below hS' ka2.lt).cell (i := 2) rfl
                  have cj := ((hBrq.trans (hS'.mono hBrq.size)).cell (p := ⟨ba, oa + j, none⟩) hba).trans (hcaH.out j hjn)
                  have cb := ((hBrq.trans (hS'.mono hBrq.size)).cell (p := ⟨ba, oa + b, none⟩) hba).trans (hcaH.out b hbn)
                  have cl := ((hBL.trans (hS'.mono hBL.size)).cell (p := ⟨bL, oL + q, none⟩) hbL).trans hclH.out
                  rw [hjv.out] at cj
                  rw [hbv.out] at cb
                  go_simp
                  rfl
                simp only [List.setIfInBounds_toArray, List.set_cons_zero, List.set_cons_succ]
                refine take_op 17 (v := ?dv17) rfl (by kernel_rfl) (fun _ _ _ h => h) (by rfl) hS2 (fun w' hS' => ?dy17) ?dz17
                case dy17 =>
                  go_simp
                  rfl
                simp only [List.setIfInBounds_toArray, List.set_cons_zero, List.set_cons_succ]
                refine take_op 18 (v := ?dv18) rfl (by kernel_rfl) (fun _ _ _ h => h) (by rfl) hS2 (fun w' hS' => ?dy18) ?dz18
                case dy18 =>
                  go_simp
                  rfl
                simp only [List.setIfInBounds_toArray, List.set_cons_zero, List.set_cons_succ]
                refine take_op 19 (v := ?dv19) rfl (by kernel_rfl) (fun _ _ _ h => h) (by rfl) hS2 (fun w' hS' => ?dy19) ?dz19
                case dy19 =>
                  go_simp
                  try go_ints
                  first
                  | rfl
                  | rw [if_pos ⟨by omega, by omega⟩]
                simp only [List.setIfInBounds_toArray, List.set_cons_zero, List.set_cons_succ]
                refine take_op 20 (v := ?dv20) rfl (by kernel_rfl) (fun _ _ _ h => h) (by rfl) hS2 (fun w' hS' => ?dy20) ?dz20
                case dy20 =>
                  have m2 := (ka2.below hS' ka2.lt).cell (i := 2) rfl
                  have cj := ((hBrq.trans (hS'.mono hBrq.size)).cell (p := ⟨ba, oa + j, none⟩) hba).trans (hcaH.out j hjn)
                  have cb := ((hBrq.trans (hS'.mono hBrq.size)).cell (p := ⟨ba, oa + b, none⟩) hba).trans (hcaH.out b hbn)
                  have cl := ((hBL.trans (hS'.mono hBL.size)).cell (p := ⟨bL, oL + q, none⟩) hbL).trans hclH.out
                  rw [hjv.out] at cj
                  rw [hbv.out] at cb
                  go_simp
                  rfl
                simp only [List.setIfInBounds_toArray, List.set_cons_zero, List.set_cons_succ]
                refine take_op 21 (v := ?dv21) rfl (by kernel_rfl) (fun _ _ _ h => h) (by rfl) hS2 (fun w' hS' => ?dy21) ?dz21
                case dy21 =>
                  go_simp
                  try go_ints
                  first
                  | rfl
                  | rw [if_pos ⟨by omega, by omega⟩]
                simp only [List.setIfInBounds_toArray, List.set_cons_zero, List.set_cons_succ]
                refine take_op 22 (v := ?dv22) rfl (by kernel_rfl) (fun _ _ _ h => h) (by rfl) hS2 (fun w' hS' => ?dy22) ?dz22
                case dy22 =>
                  have m2 := (ka2.below hS' ka2.lt).cell (i := 2) rfl
                  have cj := ((hBrq.trans (hS'.mono hBrq.size)).cell (p := ⟨ba, oa + j, none⟩) hba).trans (hcaH.out j hjn)
                  have cb := ((hBrq.trans (hS'.mono hBrq.size)).cell (p := ⟨ba, oa + b, none⟩) hba).trans (hcaH.out b hbn)
                  have cl := ((hBL.trans (hS'.mono hBL.size)).cell (p := ⟨bL, oL + q, none⟩) hbL).trans hclH.out
                  rw [hjv.out] at cj
                  rw [hbv.out] at cb
                  go_simp
                  rfl
                simp only [List.setIfInBounds_toArray, List.set_cons_zero, List.set_cons_succ]
                refine take_op 23 (v := ?dv23) rfl (by kernel_rfl) (fun _ _ _ h => h) (by rfl) hS2 (fun w' hS' => ?dy23) ?dz23
                case dy23 =>
                  go_simp
                  rfl
                simp only [List.setIfInBounds_toArray, List.set_cons_zero, List.set_cons_succ]
                refine take_op 24 (v := ?dv24) rfl (by kernel_rfl) (fun _ _ _ h => h) (by rfl) hS2 (fun w' hS' => ?dy24) ?dz24
                case dy24 =>
                  have m2 := (ka2.below hS' ka2.lt).cell (i := 2) rfl
                  have cj := ((hBrq.trans (hS'.mono hBrq.size)).cell (p := ⟨ba, oa + j, none⟩) hba).trans (hcaH.out j hjn)
                  have cb := ((hBrq.trans (hS'.mono hBrq.size)).cell (p := ⟨ba, oa + b, none⟩) hba).trans (hcaH.out b hbn)
                  have cl := ((hBL.trans (hS'.mono hBL.size)).cell (p := ⟨bL, oL + q, none⟩) hbL).trans hclH.out
                  rw [hjv.out] at cj
                  rw [hbv.out] at cb
                  go_simp
                  rfl
                simp only [List.setIfInBounds_toArray, List.set_cons_zero, List.set_cons_succ]
                refine take_op 25 (v := ?dv25) rfl (by kernel_rfl) (fun _ _ _ h => h) (by rfl) hS2 (fun w' hS' => ?dy25) ?dz25
                case dy25 =>
                  go_simp
                  rfl
                simp only [List.setIfInBounds_toArray, List.set_cons_zero, List.set_cons_succ]
                refine take_op 26 (v := ?dv26) rfl (by kernel_rfl) (fun _ _ _ h => h) (by rfl) hS2 (fun w' hS' => ?dy26) ?dz26
                case dy26 =>
                  go_simp
                  try go_ints
                  first
                  | rfl
                  | rw [if_pos ⟨by omega, by omega⟩]
                simp only [List.setIfInBounds_toArray, List.set_cons_zero, List.set_cons_succ]
                refine take_op 27 (v := ?dv27) rfl (by kernel_rfl) (fun _ _ _ h => h) (by rfl) hS2 (fun w' hS' => ?dy27) ?dz27
                case dy27 =>
                  have m2 := (ka2.below hS' ka2.lt).cell (i := 2) rfl
                  have cj := ((hBrq.trans (hS'.mono hBrq.size)).cell (p := ⟨ba, oa + j, none⟩) hba).trans (hcaH.out j hjn)
                  have cb := ((hBrq.trans (hS'.mono hBrq.size)).cell (p := ⟨ba, oa + b, none⟩) hba).trans (hcaH.out b hbn)
                  have cl := ((hBL.trans (hS'.mono hBL.size)).cell (p := ⟨bL, oL + q, none⟩) hbL).trans hclH.out
                  rw [hjv.out] at cj
                  rw [hbv.out] at cb
                  go_simp
                  rfl
                simp only [List.setIfInBounds_toArray, List.set_cons_zero, List.set_cons_succ]
                refine take_op 28 (v := .bool false) rfl (by kernel_rfl) (fun _ _ _ h => h) (by rfl) hS2 (fun w' hS' => ?dy28) ?dz28
                case dy28 =>
                  go_simp
                  first
                  | done
                  | (simp only [e2]; done)
                  | rfl
                  | (simp [e2]; done)
                simp only [List.setIfInBounds_toArray, List.set_cons_zero, List.set_cons_succ]
                refine take_op 29 (v := ?dv29) rfl (by kernel_rfl) (fun _ _ _ h => h) (by rfl) hS2 (fun w' hS' => ?dy29) ?dz29
                case dy29 =>
                  go_simp
                  rfl
                simp only [List.setIfInBounds_toArray, List.set_cons_zero, List.set_cons_succ]
                refine pass_op 30 rfl (by kernel_rfl) (fun _ _ _ h => h) (by rfl) hS2 ?_
                simp only [List.setIfInBounds_toArray, List.set_cons_zero, List.set_cons_succ]
                refine pass_op 31 rfl (by kernel_rfl) (fun _ _ _ h => h) (by rfl) hS2 ?_
                simp only [List.setIfInBounds_toArray, List.set_cons_zero, List.set_cons_succ]
                refine pass_op 32 rfl (by kernel_rfl) (fun _ _ _ h => h) (by rfl) hS2 ?_
                simp only [List.setIfInBounds_toArray, List.set_cons_zero, List.set_cons_succ]
                refine pass_op 33 rfl (by kernel_rfl) (fun _ _ _ h => h) (by rfl) hS2 ?_
                simp only [List.setIfInBounds_toArray, List.set_cons_zero, List.set_cons_succ]
                refine pass_op 34 rfl (by kernel_rfl) (fun _ _ _ h => h) (by rfl) hS2 ?_
                simp only [List.setIfInBounds_toArray, List.set_cons_zero, List.set_cons_succ]
                refine pass_op 35 rfl (by kernel_rfl) (fun _ _ _ h => h) (by rfl) hS2 ?_
                simp only [List.setIfInBounds_toArray, List.set_cons_zero, List.set_cons_succ]
                refine take_op 36 (v := ?dv36) rfl (by kernel_rfl) (fun _ _ _ h => h) (by rfl) hS2 (fun w' hS' => ?dy36) ?dz36
                case dy36 =>
                  go_simp
                  rfl
                simp only [List.setIfInBounds_toArray, List.set_cons_zero, List.set_cons_succ]
                refine take_op 37 (v := ?dv37) rfl (by kernel_rfl) (fun _ _ _ h => h) (by rfl) hS2 (fun w' hS' => ?dy37) ?dz37
                case dy37 =>
                  go_simp
                  rfl
                simp only [List.setIfInBounds_toArray, List.set_cons_zero, List.set_cons_succ]
                refine done_ops (by kernel_rfl) ?_
                go_wp2_with fail
                go_roundw
                case rel => exact ⟨q + 1, by omega, by go_num, by rw [hsn2.out], hBL.trans (hS2.mono hBL.size)⟩
                case measure => simp [intOf]; omega
          · have hqq : q = LL.length := by omega
            subst hqq
            rw [hall.out]
            have hS2 : Below wr.heap.size wr wr.drew := (Below.refl _ _).drew
            go_wp2_with fail
            refine plain_region (fun W' => Below wr.heap.size wr W') 11 11 (by kernel_rfl) rfl ?_
            simp only [Array.replicate_succ, Array.replicate_zero, List.push_toArray, List.nil_append, List.cons_append]
            refine take_op 0 (v := ?gv0) rfl (by kernel_rfl) (fun _ _ _ h => h) (by rfl) hS2 (fun w' hS' => ?gy0) ?gz0
            case gy0 =>
              go_simp
              rfl
            simp only [List.setIfInBounds_toArray, List.set_cons_zero, List.set_cons_succ]
            refine take_op 1 (v := ?gv1) rfl (by kernel_rfl) (fun _ _ _ h => h) (by rfl) hS2 (fun w' hS' => ?gy1) ?gz1
            case gy1 =>
              have x2 := (kD2.below hS' kD2.lt).cell (i := 2) rfl
              have cd := ((hBq.trans (hS'.mono hBq.size)).cell (p := ⟨bD, oD + k, none⟩) hbD).trans (hcDH.out k hk)
              have co := ((hBq.trans (hS'.mono hBq.size)).cell (p := ⟨bD, oD + lo, none⟩) hbD).trans (hcDH.out lo hlo)
              rw [hdv.out] at cd
              rw [hov.out] at co
              go_simp
              rfl
            simp only [List.setIfInBounds_toArray, List.set_cons_zero, List.set_cons_succ]
            refine take_op 2 (v := ?gv2) rfl (by kernel_rfl) (fun _ _ _ h => h) (by rfl) hS2 (fun w' hS' => ?gy2) ?gz2
            case gy2 =>
              go_simp
              rfl
            simp only [List.setIfInBounds_toArray, List.set_cons_zero, List.set_cons_succ]
            refine take_op 3 (v := ?gv3) rfl (by kernel_rfl) (fun _ _ _ h => h) (by rfl) hS2 (fun w' hS' => ?gy3) ?gz3
            case gy3 =>
              go_simp
              try go_ints
              first
              | rfl
              | rw [if_pos ⟨by omega, by omega⟩]
            simp only [List.setIfInBounds_toArray, List.set_cons_zero, List.set_cons_succ]
            refine take_op 4 (v := ?gv4) rfl (by kernel_rfl) (fun _ _ _ h => h) (by rfl) hS2 (fun w' hS' => ?gy4) ?gz4
            case gy4 =>
              have x2 := (kD2.below hS' kD2.lt).cell (i := 2) rfl
              have cd := ((hBq.trans (hS'.mono hBq.size)).cell (p := ⟨bD, oD + k, none⟩) hbD).trans (hcDH.out k hk)
              have co := ((hBq.trans (hS'.mono hBq.size)).cell (p := ⟨bD, oD + lo, none⟩) hbD).trans (hcDH.out lo hlo)
              rw [hdv.out] at cd
              rw [hov.out] at co
              go_simp
              rfl
            simp only [List.setIfInBounds_toArray, List.set_cons_zero, List.set_cons_succ]
            refine take_op 5 (v := ?gv5) rfl (by kernel_rfl) (fun _ _ _ h => h) (by rfl) hS2 (fun w' hS' => ?gy5) ?gz5
            case gy5 =>
              go_simp
              rfl
            simp only [List.setIfInBounds_toArray, List.set_cons_zero, List.set_cons_succ]
            refine take_op 6 (v := ?gv6) rfl (by kernel_rfl) (fun _ _ _ h => h) (by rfl) hS2 (fun w' hS' => ?gy6) ?gz6
            case gy6 =>
              have x2 := (kD2.below hS' kD2.lt).cell (i := 2) rfl
              have cd := ((hBq.trans (hS'.mono hBq.size)).cell (p := ⟨bD, oD + k, none⟩) hbD).trans (hcDH.out k hk)
              have co := ((hBq.trans (hS'.mono hBq.size)).cell (p := ⟨bD, oD + lo, none⟩) hbD).trans (hcDH.out lo hlo)
              rw [hdv.out] at cd
              rw [hov.out] at co
              go_simp
              rfl
            simp only [List.setIfInBounds_toArray, List.set_cons_zero, List.set_cons_succ]
            refine take_op 7 (v := ?gv7) rfl (by kernel_rfl) (fun _ _ _ h => h) (by rfl) hS2 (fun w' hS' => ?gy7) ?gz7
            case gy7 =>
              go_simp
              rfl
            simp only [List.setIfInBounds_toArray, List.set_cons_zero, List.set_cons_succ]
            refine take_op 8 (v := ?gv8) rfl (by kernel_rfl) (fun _ _ _ h => h) (by rfl) hS2 (fun w' hS' => ?gy8) ?gz8
            case gy8 =>
              go_simp
              try go_ints
              first
              | rfl
              | rw [if_pos ⟨by omega, by omega⟩]
            simp only [List.setIfInBounds_toArray, List.set_cons_zero, List.set_cons_succ]
            refine take_op 9 (v := ?gv9) rfl (by kernel_rfl) (fun _ _ _ h => h) (by rfl) hS2 (fun w' hS' => ?gy9) ?gz9
            case gy9 =>
              have x2 := (kD2.below hS' kD2.lt).cell (i := 2) rfl
              have cd := ((hBq.trans (hS'.mono hBq.size)).cell (p := ⟨bD, oD + k, none⟩) hbD).trans (hcDH.out k hk)
              have co := ((hBq.trans (hS'.mono hBq.size)).cell (p := ⟨bD, oD + lo, none⟩) hbD).trans (hcDH.out lo hlo)
              rw [hdv.out] at cd
              rw [hov.out] at co
              go_simp
              rfl
            simp only [List.setIfInBounds_toArray, List.set_cons_zero, List.set_cons_succ]
            refine take_op 10 (v := .bool false) rfl (by kernel_rfl) (fun _ _ _ h => h) (by rfl) hS2 (fun w' hS' => ?gy10) ?gz10
            case gy10 =>
              go_simp
              try simp
              try rfl
            simp only [List.setIfInBounds_toArray, List.set_cons_zero, List.set_cons_succ]
            refine done_ops (by kernel_rfl) ?_
            have x2 := (kD2.below hS2 kD2.lt).cell (i := 2) rfl
            have cd := ((hBq.trans (hS2.mono hBq.size)).cell (p := ⟨bD, oD + k, none⟩) hbD).trans (hcDH.out k hk)
            by_cases hlk : lo = k
            · obtain ⟨hy1, hy2⟩ := hyes.out hlk
              have hy2H := Lib.hid hy2
              subst hlk
              rw [hy1] at cd
              clear hy1 hy2
              go_wp2_with fail
              go_roundw
              case rel => exact ⟨lo + 1, by omega, by go_num, by rw [hy2H.out]; go_num, hBq.trans (hS2.mono hBq.size)⟩
              case measure => simp [intOf]; omega
            · have e5 : ((lo : Int) == (k : Int)) = false := by rw [beq_eq_false_iff_ne]; omega
              have e6 : (lo == k) = false := by rw [beq_eq_false_iff_ne]; exact hlk
              have hy2H := Lib.hid (hno.out hlk)
              clear cd
              go_wp2_with fail
              go_roundw
              case rel => exact ⟨k + 1, by omega, by go_num, by rw [hy2H.out], hBq.trans (hS2.mono hBq.size)⟩
              case measure => simp [intOf]; omega
      · have hkk : n = k := by omega
        subst hkk
        go_wp2_with fail
        go_ret
        exact ⟨rfl, hBr⟩

end Go.Proofs.Ytjglfeonoiljlaa

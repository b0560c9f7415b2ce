/- The walk of the law ImageNearest: it returns true, and nothing that lay has turned. -/
import Derived.Test.YtjglfeonoiljlaaNbrsW
import Derived.Test.YtjglfeonoiljlaaNbrLaws
import Derived.Test.YtjglfeonoiljlaaAlive
namespace Go.Proofs.Ytjglfeonoiljlaa
open Go Go.RowKit Go.Shelf
set_option linter.unusedVariables false
set_option linter.unusedSimpArgs false

theorem any_congr' {l : List Nat} {p q : Nat → Bool} (h : ∀ j, j ∈ l → p j = q j) : l.any p = l.any q := by
  induction l with
  | nil => rfl
  | cons x r ih => simp only [List.any_cons, h x List.mem_cons_self, ih fun j hj => h j (List.mem_cons_of_mem _ hj)]
/-- An entry of a row of indexes. -/
theorem rowN_at {W : World} {B : Nat} {va : Option Addr} {vc : Nat} {L : List Nat} (h : W.ownsRow B 3 1 (.slice va L.length vc) L.length (L.map fun k : Nat => Value.int .i64 (k : Int))) {q j : Nat} (hj : L[q]? = some j) :
    ∃ b o, va = some ⟨b, o, none⟩ ∧ b < W.heap.size ∧ W.cell? ⟨b, o + q, none⟩ = some (.int .i64 (j : Int)) := by
  have hlt := (List.getElem?_eq_some_iff.1 hj).1
  have h2 : W.ownsRow B 3 1 (.slice va L.length vc) L.length ((L.map fun k : Nat => (k : Int)).map (Value.int .i64)) := by
    rw [List.map_map]; exact h
  obtain ⟨b, o, e1, e2, e3⟩ := rd_at (row_rd' (by simp) h2) (by simp) (show 0 < L.length by omega)
  refine ⟨b, o, e1, e2, ?_⟩
  rw [e3 q hlt, px_nat, List.getElem?_map, hj]
  rfl

set_option maxRecDepth 100000 in
set_option maxHeartbeats 16000000 in
theorem law_nearest (iw ih : Int) (a : Option Addr) (c n : Nat) (xs : List Int) (hn : Hid (xs.length = n)) (w : World) (hm : n ≤ 9223372036854775807) (hr : Rd w.heap.size w a xs) :
    Calls Try.prog 9 #[imv iw ih a n c] w fun e w' => e = .returned (.bool true) ∧ Below w.heap.size w w' := by
  obtain ⟨zv, hzv0⟩ : ∃ v, vld iw ih xs = v := ⟨_, rfl⟩
  have hzv := Lib.hid hzv0
  clear hzv0
  cases zv with
  | false =>
    have hSD := Lib.hid (show distS iw ih xs = { w := 0, h := 0, px := [], err := 20 } by unfold distS; rw [if_neg (by rw [hzv.out]; decide)]; rfl)
    have hlD := Lib.hid (show ([] : List Int).length = 0 from rfl)
    have hB : Below w.heap.size w (w.alloc (.cells #[.int .i64 iw, .int .i64 ih, .slice a n c] 24)) := below_al (Below.refl _ _) _
    have ka := (Blk.new w 24 #[.int .i64 iw, .int .i64 ih, .slice a n c])
    obtain ⟨W0, hW⟩ : ∃ W, (w.alloc (.cells #[.int .i64 iw, .int .i64 ih, .slice a n c] 24)) = W := ⟨_, rfl⟩
    rw [hW] at hB ka
    have m0 := ka.cell (i := 0) rfl
    have m1 := ka.cell (i := 1) rfl
    have m2 := ka.cell (i := 2) rfl
    go_enter Try.func9, Try.ntmps9
    go_wp2_with fail
    clear hW
    refine (alive_any _).mono ?_
    rintro e V1 ⟨rfl, hb⟩
    clear m0 m1 m2
    replace ka := ka.below hb ka.lt
    replace hB := hB.trans (hb.mono hB.size)
    have m0 := ka.cell (i := 0) rfl
    have m1 := ka.cell (i := 1) rfl
    have m2 := ka.cell (i := 2) rfl
    clear hb
    go_wp2_with fail
    have hcall := Distance_any iw ih a c n xs hn _ (by omega) ((hr.below (Nat.le_refl _) hB).mono hB.size)
    rw [hSD.out] at hcall
    refine hcall.mono ?_
    clear hcall
    rintro e V2 ⟨⟨v, hev, sl, hvl, hrow⟩, hb⟩
    have rD : V2.ownsRow w.heap.size 3 1 sl 0 ((([] : List Int)).map (Value.int .i64)) := row_base (row_len (k := (([] : List Int)).length) hlD.out hrow) hB.size
    obtain ⟨srDa, srDc, rfl⟩ := row_slice rD
    have he : e = .returned (.tuple #[.agg #[.int .i64 0, .int .i64 0, .slice srDa 0 srDc], .int .i64 20]) := by rw [hev, hvl]
    subst he
    clear hrow hev hvl
    clear m0 m1 m2
    replace ka := ka.below hb ka.lt
    replace hB := hB.trans (hb.mono hB.size)
    have m0 := ka.cell (i := 0) rfl
    have m1 := ka.cell (i := 1) rfl
    have m2 := ka.cell (i := 2) rfl
    clear hb
    obtain ⟨V3, hW⟩ : ∃ V3, V2.alloc (.cells #[.int .i64 0, .int .i64 0, .slice srDa 0 srDc] 24) = V3 := ⟨_, rfl⟩
    obtain ⟨bkD, hbx⟩ : ∃ bkD, V2.heap.size = bkD := ⟨_, rfl⟩
    have kD := Blk.new V2 24 #[.int .i64 0, .int .i64 0, .slice srDa 0 srDc]
    rw [hW, hbx] at kD
    have hb : Below V2.heap.size V2 V3 := alloc_below hW
    have ka' := ka.below hb ka.lt
    have lkakD := ka.lt
    rw [hbx] at lkakD
    have m0' := ka'.cell (i := 0) rfl
    have m1' := ka'.cell (i := 1) rfl
    have m2' := ka'.cell (i := 2) rfl
    have xd0 := kD.cell (i := 0) rfl
    have xd1 := kD.cell (i := 1) rfl
    have xd2 := kD.cell (i := 2) rfl
    have fxd0 := kD.frozen 0
    have fxd1 := kD.frozen 1
    have fxd2 := kD.frozen 2
    go_wp2_with fail
    clear hW
    clear hbx
    clear m0 m1 m2
    clear m0' m1' m2'
    replace ka := ka'
    clear ka'
    have m0 := ka.cell (i := 0) rfl
    have m1 := ka.cell (i := 1) rfl
    have m2 := ka.cell (i := 2) rfl
    replace rD := row_below rD hb
    replace hB := hB.trans (hb.mono hB.size)
    clear hb
    refine (Valid_any iw ih a c xs n hn _ (by omega) ((hr.below (Nat.le_refl _) hB).mono hB.size)).mono ?_
    rintro e V8 ⟨rfl, hb⟩
    rw [hzv.out]
    clear m0 m1 m2 xd0 xd1 xd2 fxd0 fxd1 fxd2
    replace ka := ka.below hb ka.lt
    replace kD := kD.below hb kD.lt
    replace rD := row_below rD hb
    replace hB := hB.trans (hb.mono hB.size)
    have m0 := ka.cell (i := 0) rfl
    have m1 := ka.cell (i := 1) rfl
    have m2 := ka.cell (i := 2) rfl
    have xd0 := kD.cell (i := 0) rfl
    have xd1 := kD.cell (i := 1) rfl
    have xd2 := kD.cell (i := 2) rfl
    have fxd0 := kD.frozen 0
    have fxd1 := kD.frozen 1
    have fxd2 := kD.frozen 2
    clear hb
    go_wp2_with fail
    go_ret
    exact ⟨rfl, hB⟩
  | true =>
    obtain ⟨⟨i1, i2⟩, ⟨i3, i4⟩, hl, ha⟩ := vld_true hzv.out
    obtain ⟨pw, rfl⟩ : ∃ pw : Nat, iw = (pw : Int) := ⟨iw.toNat, by omega⟩
    obtain ⟨ph, rfl⟩ : ∃ ph : Nat, ih = (ph : Int) := ⟨ih.toNat, by omega⟩
    have hN : pw * ph = n := by
      have h2 : ((pw * ph : Nat) : Int) = (pw : Int) * ph := by simp
      have := hn.out
      omega
    have hn0 : 0 < n := by rw [← hN]; exact Nat.mul_pos (by omega) (by omega)
    have hn256 : n ≤ 256 := by rw [← hN]; exact Nat.mul_le_mul (show pw ≤ 16 by omega) (show ph ≤ 16 by omega)
    have hSD := Lib.hid (show distS pw ph xs = { w := pw, h := ph, px := img pw ph (distG pw ph xs), err := 0 } by unfold distS; rw [if_pos hzv.out]; rfl)
    have hD : ∀ k, k < n → px (img pw ph (distG pw ph xs)) k = nearest pw ph (isZ xs) k := fun k hk => by
      rw [← distG_img xs (by omega) (by omega) (by omega)]
      exact px_map_range _ (by rw [hN]; exact hk)
    have hlD := Lib.hid (show (img pw ph (distG pw ph xs)).length = n from (img_length _ _ _).trans hN)
    have hpos := Lib.hid (fun k : Nat => show 0 ≤ px (img pw ph (distG pw ph xs)) k by
      by_cases hk : k < n
      · rw [hD k hk]; exact nearest_pos k
      · rw [px_out (by rw [hlD.out]; omega)]; exact Int.le_refl _)
    have hcase0 := Lib.hid (fun hz : anyTo (isZ xs) n = false => fun (k : Nat) (hk : k < n) => show px (img pw ph (distG pw ph xs)) k = (pw : Int) + ph by
      rw [hD k hk]
      refine nearest_none (fun j hj => ?_) k
      cases hzj : isZ xs j with
      | false => rfl
      | true => rw [anyTo_iff.2 ⟨j, by rw [← hN]; exact hj, hzj⟩] at hz; cases hz)
    have hcase1 := Lib.hid (fun hz : anyTo (isZ xs) n = true => show
        (∀ k : Nat, k < n → (px (img pw ph (distG pw ph xs)) k = 0 ↔ px xs k = 0)) ∧
        (∀ k : Nat, k < n → ∀ j : Nat, j ∈ nbrL pw ph k → j < n ∧ px (img pw ph (distG pw ph xs)) k - px (img pw ph (distG pw ph xs)) j ≤ 1 ∧ -1 ≤ px (img pw ph (distG pw ph xs)) k - px (img pw ph (distG pw ph xs)) j) ∧
        (∀ k : Nat, k < n → nearerTo (fun i => px (img pw ph (distG pw ph xs)) i) k (nbrL pw ph k) (nbrL pw ph k).length = true) by
      have hz' : ∃ k, k < pw * ph ∧ isZ xs k = true := by rw [hN]; exact anyTo_iff.1 hz
      refine ⟨fun k hk => ?_, fun k hk j hj => ?_, fun k hk => ?_⟩
      · rw [hD k hk, nearest_zero_iff (by rw [hN]; exact hk) hz']
        unfold isZ
        exact decide_eq_true_iff
      · have hjn := (nbrL_near (by rw [hN]; exact hk) hj).1
        rw [hN] at hjn
        rw [hD k hk, hD j hjn]
        exact ⟨hjn, nearest_nbr (by rw [hN]; exact hk) hj⟩
      · have h := nearerTo_all (z := isZ xs) (show k < pw * ph by rw [hN]; exact hk) hz'
        rw [← h]
        unfold nearerTo
        simp only [hD k hk]
        congr 1
        refine any_congr' fun j hj => ?_
        have hjn := (nbrL_near (by rw [hN]; exact hk) (List.mem_of_mem_take hj)).1
        rw [hN] at hjn
        simp only [hD j hjn])
    have hZ0 := Lib.hid (show anyTo (isZ xs) 0 = false from rfl)
    have hZs := Lib.hid (fun k : Nat => show anyTo (isZ xs) (k + 1) = (anyTo (isZ xs) k || decide (px xs k = 0)) from rfl)
    have hNH := Lib.hid hN
    obtain ⟨ba, oa, hae, hba, hca⟩ := rd_at hr hn.out hn0
    have hcaH := Lib.hid hca
    clear hca hl ha hN hD
    generalize anyTo (isZ xs) = Z at *
    generalize img pw ph (distG pw ph xs) = D at *
    subst hae
    have hB : Below w.heap.size w (w.alloc (.cells #[.int .i64 pw, .int .i64 ph, .slice (some ⟨ba, oa, none⟩) n c] 24)) := below_al (Below.refl _ _) _
    have ka := (Blk.new w 24 #[.int .i64 pw, .int .i64 ph, .slice (some ⟨ba, oa, none⟩) n c])
    obtain ⟨W0, hW⟩ : ∃ W, (w.alloc (.cells #[.int .i64 pw, .int .i64 ph, .slice (some ⟨ba, oa, none⟩) n c] 24)) = W := ⟨_, rfl⟩
    rw [hW] at hB ka
    have m0 := ka.cell (i := 0) rfl
    have m1 := ka.cell (i := 1) rfl
    have m2 := ka.cell (i := 2) rfl
    go_enter Try.func9, Try.ntmps9
    go_wp2_with fail
    clear hW
    refine (alive_any _).mono ?_
    rintro e V1 ⟨rfl, hb⟩
    clear m0 m1 m2
    replace ka := ka.below hb ka.lt
    replace hB := hB.trans (hb.mono hB.size)
    have m0 := ka.cell (i := 0) rfl
    have m1 := ka.cell (i := 1) rfl
    have m2 := ka.cell (i := 2) rfl
    clear hb
    go_wp2_with fail
    have hcall := Distance_any pw ph (some ⟨ba, oa, none⟩) c n xs hn _ (by omega) ((hr.below (Nat.le_refl _) hB).mono hB.size)
    rw [hSD.out] at hcall
    refine hcall.mono ?_
    clear hcall
    rintro e V2 ⟨⟨v, hev, sl, hvl, hrow⟩, hb⟩
    have rD : V2.ownsRow w.heap.size 3 1 sl n ((D).map (Value.int .i64)) := row_base (row_len (k := (D).length) hlD.out hrow) hB.size
    obtain ⟨srDa, srDc, rfl⟩ := row_slice rD
    have he : e = .returned (.tuple #[.agg #[.int .i64 pw, .int .i64 ph, .slice srDa n srDc], .int .i64 0]) := by rw [hev, hvl]
    subst he
    clear hrow hev hvl
    clear m0 m1 m2
    replace ka := ka.below hb ka.lt
    replace hB := hB.trans (hb.mono hB.size)
    have m0 := ka.cell (i := 0) rfl
    have m1 := ka.cell (i := 1) rfl
    have m2 := ka.cell (i := 2) rfl
    clear hb
    obtain ⟨V3, hW⟩ : ∃ V3, V2.alloc (.cells #[.int .i64 pw, .int .i64 ph, .slice srDa n srDc] 24) = V3 := ⟨_, rfl⟩
    obtain ⟨bkD, hbx⟩ : ∃ bkD, V2.heap.size = bkD := ⟨_, rfl⟩
    have kD := Blk.new V2 24 #[.int .i64 pw, .int .i64 ph, .slice srDa n srDc]
    rw [hW, hbx] at kD
    have hb : Below V2.heap.size V2 V3 := alloc_below hW
    have ka' := ka.below hb ka.lt
    have lkakD := ka.lt
    rw [hbx] at lkakD
    have m0' := ka'.cell (i := 0) rfl
    have m1' := ka'.cell (i := 1) rfl
    have m2' := ka'.cell (i := 2) rfl
    have xd0 := kD.cell (i := 0) rfl
    have xd1 := kD.cell (i := 1) rfl
    have xd2 := kD.cell (i := 2) rfl
    have fxd0 := kD.frozen 0
    have fxd1 := kD.frozen 1
    have fxd2 := kD.frozen 2
    go_wp2_with fail
    clear hW
    clear hbx
    clear m0 m1 m2
    clear m0' m1' m2'
    replace ka := ka'
    clear ka'
    have m0 := ka.cell (i := 0) rfl
    have m1 := ka.cell (i := 1) rfl
    have m2 := ka.cell (i := 2) rfl
    replace rD := row_below rD hb
    replace hB := hB.trans (hb.mono hB.size)
    clear hb
    refine (Valid_any pw ph (some ⟨ba, oa, none⟩) c xs n hn _ (by omega) ((hr.below (Nat.le_refl _) hB).mono hB.size)).mono ?_
    rintro e V8 ⟨rfl, hb⟩
    rw [hzv.out]
    clear m0 m1 m2 xd0 xd1 xd2 fxd0 fxd1 fxd2
    replace ka := ka.below hb ka.lt
    replace kD := kD.below hb kD.lt
    replace rD := row_below rD hb
    replace hB := hB.trans (hb.mono hB.size)
    have m0 := ka.cell (i := 0) rfl
    have m1 := ka.cell (i := 1) rfl
    have m2 := ka.cell (i := 2) rfl
    have xd0 := kD.cell (i := 0) rfl
    have xd1 := kD.cell (i := 1) rfl
    have xd2 := kD.cell (i := 2) rfl
    have fxd0 := kD.frozen 0
    have fxd1 := kD.frozen 1
    have fxd2 := kD.frozen 2
    clear hb
    go_wp2_with fail
    clear m0 m1 m2 xd0 xd1 xd2 fxd0 fxd1 fxd2
    obtain ⟨bD, oD, hDa, hbD, hcD⟩ := rd_at (row_rd' hlD.out rD) hlD.out hn0
    subst hDa
    have hcDH := Lib.hid hcD
    clear hcD
    go_loopw [6, 7] (fun z i wr => ∃ k : Nat, k ≤ n ∧ i = .int .i64 (k : Int) ∧ z = .bool (Z k) ∧ Below V8.heap.size V8 wr) (fun z i _ => n - (intOf i).toNat)
    case atStart => exact ⟨0, Nat.zero_le _, rfl, by rw [hZ0.out], Below.refl _ _⟩
    case round =>
      obtain ⟨k, hkn, rfl, rfl, hBw⟩ := hrel
      have hBr : Below w.heap.size w wr := hB.trans (hBw.mono hB.size)
      have m2 := (ka.below hBw ka.lt).cell (i := 2) rfl
      by_cases hk : k < n
      · have hZk := hZs.out k
        obtain ⟨zk, hzk⟩ : ∃ b, Z k = b := ⟨_, rfl⟩
        rw [hzk] at hZk ⊢
        obtain ⟨pv, hpv⟩ : ∃ v, px xs (k : Int) = v := ⟨_, rfl⟩
        rw [hpv] at hZk
        have ca := (hBr.cell (p := ⟨ba, oa + k, none⟩) hba).trans (hcaH.out k hk)
        rw [hpv] at ca
        clear hzk hpv
        cases zk with
        | true =>
          have hZkH := Lib.hid hZk
          clear hZk
          go_wp2_with fail
          go_roundw
          case rel => exact ⟨k + 1, by omega, by go_num, by rw [hZkH.out]; rfl, hBw⟩
          case measure => simp [intOf]; omega
        | false =>
          by_cases h0 : pv = 0
          · have e1 : (pv == 0) = true := by rw [beq_iff_eq]; exact h0
            have hZkH := Lib.hid (show Z (k + 1) = true by rw [hZk, decide_eq_true h0]; rfl)
            clear hZk h0
            go_wp2_with fail
            go_roundw
            case rel => exact ⟨k + 1, by omega, by go_num, by rw [hZkH.out], hBw⟩
            case measure => simp [intOf]; omega
          · have e1 : (pv == 0) = false := by rw [beq_eq_false_iff_ne]; exact h0
            have hZkH := Lib.hid (show Z (k + 1) = false by rw [hZk, decide_eq_false h0]; rfl)
            clear hZk h0
            go_wp2_with fail
            go_roundw
            case rel => exact ⟨k + 1, by omega, by go_num, by rw [hZkH.out], hBw⟩
            case measure => simp [intOf]; omega
      · have hkk : n = k := by omega
        subst hkk
        have hBw1 := hBw
        clear hBr
        obtain ⟨zn, hzn⟩ : ∃ b, Z n = b := ⟨_, rfl⟩
        rw [hzn]
        cases zn with
        | false =>
          have hnone := Lib.hid (hcase0.out hzn)
          clear hzn
          go_wp2_with fail
          clear m2
          clear hBw
          go_loopw [8] (fun i wr => ∃ k : Nat, k ≤ n ∧ i = .int .i64 (k : Int) ∧ Below V8.heap.size V8 wr) (fun i _ => n - (intOf i).toNat)
          case atStart => exact ⟨0, Nat.zero_le _, rfl, hBw1⟩
          case round =>
            clear hBw1
            obtain ⟨k, hkn, rfl, hBw⟩ := hrel
            have hBr : Below w.heap.size w wr := hB.trans (hBw.mono hB.size)
            have ka' := ka.below hBw ka.lt
            have kD' := kD.below hBw kD.lt
            have m2 := ka'.cell (i := 2) rfl
            have hS : Below wr.heap.size wr wr.drew := (Below.refl _ _).drew
            by_cases hk : k < n
            · have hDv := Lib.hid (hnone.out k hk)
              go_wp2_with fail
              clear m2
              refine plain_region (fun W' => Below wr.heap.size wr W') 11 11 (by kernel_rfl) rfl ?_
              simp only [Array.replicate_succ, Array.replicate_zero, List.push_toArray, List.nil_append, List.cons_append]
              refine take_op 0 (v := ?uv0) rfl (by kernel_rfl) (fun _ _ _ h => h) (by rfl) hS (fun w' hS' => ?uy0) ?uz0
              case uy0 =>
                go_simp
                rfl
              simp only [List.setIfInBounds_toArray, List.set_cons_zero, List.set_cons_succ]
              refine take_op 1 (v := ?uv1) rfl (by kernel_rfl) (fun _ _ _ h => h) (by rfl) hS (fun w' hS' => ?uy1) ?uz1
              case uy1 =>
                have m0 := (ka'.below hS' ka'.lt).cell (i := 0) rfl
                have m1 := (ka'.below hS' ka'.lt).cell (i := 1) rfl
                have x2 := (kD'.below hS' kD'.lt).cell (i := 2) rfl
                have cd := ((hBw.trans (hS'.mono hBw.size)).cell (p := ⟨bD, oD + k, none⟩) hbD).trans (hcDH.out k hk)
                rw [hDv.out] at cd
                go_simp
                rfl
              simp only [List.setIfInBounds_toArray, List.set_cons_zero, List.set_cons_succ]
              refine take_op 2 (v := ?uv2) rfl (by kernel_rfl) (fun _ _ _ h => h) (by rfl) hS (fun w' hS' => ?uy2) ?uz2
              case uy2 =>
                go_simp
                rfl
              simp only [List.setIfInBounds_toArray, List.set_cons_zero, List.set_cons_succ]
              refine take_op 3 (v := ?uv3) rfl (by kernel_rfl) (fun _ _ _ h => h) (by rfl) hS (fun w' hS' => ?uy3) ?uz3
              case uy3 =>
                go_simp
                try go_ints
                first
                | rfl
                | rw [if_pos ⟨by omega, by omega⟩]
              simp only [List.setIfInBounds_toArray, List.set_cons_zero, List.set_cons_succ]
              refine take_op 4 (v := ?uv4) rfl (by kernel_rfl) (fun _ _ _ h => h) (by rfl) hS (fun w' hS' => ?uy4) ?uz4
              case uy4 =>
                have m0 := (ka'.below hS' ka'.lt).cell (i := 0) rfl
                have m1 := (ka'.below hS' ka'.lt).cell (i := 1) rfl
                have x2 := (kD'.below hS' kD'.lt).cell (i := 2) rfl
                have cd := ((hBw.trans (hS'.mono hBw.size)).cell (p := ⟨bD, oD + k, none⟩) hbD).trans (hcDH.out k hk)
                rw [hDv.out] at cd
                go_simp
                rfl
              simp only [List.setIfInBounds_toArray, List.set_cons_zero, List.set_cons_succ]
              refine take_op 5 (v := ?uv5) rfl (by kernel_rfl) (fun _ _ _ h => h) (by rfl) hS (fun w' hS' => ?uy5) ?uz5
              case uy5 =>
                go_simp
                rfl
              simp only [List.setIfInBounds_toArray, List.set_cons_zero, List.set_cons_succ]
              refine take_op 6 (v := ?uv6) rfl (by kernel_rfl) (fun _ _ _ h => h) (by rfl) hS (fun w' hS' => ?uy6) ?uz6
              case uy6 =>
                have m0 := (ka'.below hS' ka'.lt).cell (i := 0) rfl
                have m1 := (ka'.below hS' ka'.lt).cell (i := 1) rfl
                have x2 := (kD'.below hS' kD'.lt).cell (i := 2) rfl
                have cd := ((hBw.trans (hS'.mono hBw.size)).cell (p := ⟨bD, oD + k, none⟩) hbD).trans (hcDH.out k hk)
                rw [hDv.out] at cd
                go_simp
                rfl
              simp only [List.setIfInBounds_toArray, List.set_cons_zero, List.set_cons_succ]
              refine take_op 7 (v := ?uv7) rfl (by kernel_rfl) (fun _ _ _ h => h) (by rfl) hS (fun w' hS' => ?uy7) ?uz7
              case uy7 =>
                go_simp
                rfl
              simp only [List.setIfInBounds_toArray, List.set_cons_zero, List.set_cons_succ]
              refine take_op 8 (v := ?uv8) rfl (by kernel_rfl) (fun _ _ _ h => h) (by rfl) hS (fun w' hS' => ?uy8) ?uz8
              case uy8 =>
                have m0 := (ka'.below hS' ka'.lt).cell (i := 0) rfl
                have m1 := (ka'.below hS' ka'.lt).cell (i := 1) rfl
                have x2 := (kD'.below hS' kD'.lt).cell (i := 2) rfl
                have cd := ((hBw.trans (hS'.mono hBw.size)).cell (p := ⟨bD, oD + k, none⟩) hbD).trans (hcDH.out k hk)
                rw [hDv.out] at cd
                go_simp
                rfl
              simp only [List.setIfInBounds_toArray, List.set_cons_zero, List.set_cons_succ]
              refine take_op 9 (v := ?uv9) rfl (by kernel_rfl) (fun _ _ _ h => h) (by rfl) hS (fun w' hS' => ?uy9) ?uz9
              case uy9 =>
                go_simp
                try go_ints
                rfl
              simp only [List.setIfInBounds_toArray, List.set_cons_zero, List.set_cons_succ]
              refine take_op 10 (v := ?uv10) rfl (by kernel_rfl) (fun _ _ _ h => h) (by rfl) hS (fun w' hS' => ?uy10) ?uz10
              case uy10 =>
                go_simp
                try go_ints
                rfl
              simp only [List.setIfInBounds_toArray, List.set_cons_zero, List.set_cons_succ]
              refine done_ops (by kernel_rfl) ?_
              go_wp2_with fail
              go_roundw
              case rel => exact ⟨k + 1, by omega, by go_num, hBw.trans (hS.mono hBw.size)⟩
              case measure => simp [intOf]; omega
            · have hkk : n = k := by omega
              subst hkk
              go_wp2_with fail
              go_ret
              exact ⟨rfl, hBr⟩
        | true =>
          obtain ⟨hzero0, hnbr0, hfull0⟩ := hcase1.out hzn
          have hzero := Lib.hid hzero0
          have hnbr := Lib.hid hnbr0
          have hfull := Lib.hid hfull0
          clear hzn hzero0 hnbr0 hfull0
          go_wp2_with fail
          clear m2
          clear hBw
          go_loopw [8] (fun i wr => ∃ k : Nat, k ≤ n ∧ i = .int .i64 (k : Int) ∧ Below V8.heap.size V8 wr) (fun i _ => n - (intOf i).toNat)
          case atStart => exact ⟨0, Nat.zero_le _, rfl, hBw1⟩
          case round =>
            clear hBw1
            obtain ⟨k, hkn, rfl, hBw⟩ := hrel
            have hBr : Below w.heap.size w wr := hB.trans (hBw.mono hB.size)
            have ka' := ka.below hBw ka.lt
            have kD' := kD.below hBw kD.lt
            have m2 := ka'.cell (i := 2) rfl
            have hS : Below wr.heap.size wr wr.drew := (Below.refl _ _).drew
            by_cases hk : k < n
            · have hz0 := hzero.out k hk
              have hdp := hpos.out k
              obtain ⟨dv, hdv0⟩ : ∃ v, px D (k : Int) = v := ⟨_, rfl⟩
              obtain ⟨pv, hpv0⟩ : ∃ v, px xs (k : Int) = v := ⟨_, rfl⟩
              rw [hdv0] at hz0 hdp
              rw [hpv0] at hz0
              have hdv := Lib.hid hdv0
              have hpv := Lib.hid hpv0
              clear hdv0 hpv0
              by_cases hd0 : dv = 0
              · have e1 : (dv == 0) = true := by rw [beq_iff_eq]; exact hd0
                have e2 : (pv == 0) = true := by rw [beq_iff_eq]; exact hz0.1 hd0
                have e3 : decide (dv < 0) = false := decide_eq_false (by omega)
                have hd0H := Lib.hid (show decide (dv = 0) = true from decide_eq_true hd0)
                clear hd0 hz0
                go_wp2_with fail
                clear m2
                refine plain_region (fun W' => Below wr.heap.size wr W') 21 21 (by kernel_rfl) rfl ?_
                simp only [Array.replicate_succ, Array.replicate_zero, List.push_toArray, List.nil_append, List.cons_append]
                refine take_op 0 (v := ?sv0) rfl (by kernel_rfl) (fun _ _ _ h => h) (by rfl) hS (fun w' hS' => ?sy0) ?sz0
                case sy0 =>
                  go_simp
                  rfl
                simp only [List.setIfInBounds_toArray, List.set_cons_zero, List.set_cons_succ]
                refine take_op 1 (v := ?sv1) rfl (by kernel_rfl) (fun _ _ _ h => h) (by rfl) hS (fun w' hS' => ?sy1) ?sz1
                case sy1 =>
                  have m2 := (ka'.below hS' ka'.lt).cell (i := 2) rfl
                  have x2 := (kD'.below hS' kD'.lt).cell (i := 2) rfl
                  have cd := ((hBw.trans (hS'.mono hBw.size)).cell (p := ⟨bD, oD + k, none⟩) hbD).trans (hcDH.out k hk)
                  have ca := ((hBr.trans (hS'.mono hBr.size)).cell (p := ⟨ba, oa + k, none⟩) hba).trans (hcaH.out k hk)
                  rw [hdv.out] at cd
                  rw [hpv.out] at ca
                  go_simp
                  rfl
                simp only [List.setIfInBounds_toArray, List.set_cons_zero, List.set_cons_succ]
                refine take_op 2 (v := ?sv2) rfl (by kernel_rfl) (fun _ _ _ h => h) (by rfl) hS (fun w' hS' => ?sy2) ?sz2
                case sy2 =>
                  go_simp
                  rfl
                simp only [List.setIfInBounds_toArray, List.set_cons_zero, List.set_cons_succ]
                refine take_op 3 (v := ?sv3) rfl (by kernel_rfl) (fun _ _ _ h => h) (by rfl) hS (fun w' hS' => ?sy3) ?sz3
                case sy3 =>
                  go_simp
                  try go_ints
                  first
                  | rfl
                  | rw [if_pos ⟨by omega, by omega⟩]
                simp only [List.setIfInBounds_toArray, List.set_cons_zero, List.set_cons_succ]
                refine take_op 4 (v := ?sv4) rfl (by kernel_rfl) (fun _ _ _ h => h) (by rfl) hS (fun w' hS' => ?sy4) ?sz4
                case sy4 =>
                  have m2 := (ka'.below hS' ka'.lt).cell (i := 2) rfl
                  have x2 := (kD'.below hS' kD'.lt).cell (i := 2) rfl
                  have cd := ((hBw.trans (hS'.mono hBw.size)).cell (p := ⟨bD, oD + k, none⟩) hbD).trans (hcDH.out k hk)
                  have ca := ((hBr.trans (hS'.mono hBr.size)).cell (p := ⟨ba, oa + k, none⟩) hba).trans (hcaH.out k hk)
                  rw [hdv.out] at cd
                  rw [hpv.out] at ca
                  go_simp
                  rfl
                simp only [List.setIfInBounds_toArray, List.set_cons_zero, List.set_cons_succ]
                refine take_op 5 (v := .bool true) rfl (by kernel_rfl) (fun _ _ _ h => h) (by rfl) hS (fun w' hS' => ?sy5) ?sz5
                case sy5 =>
                  go_simp
                  try simp only [e1]
                  try rfl
                simp only [List.setIfInBounds_toArray, List.set_cons_zero, List.set_cons_succ]
                refine take_op 6 (v := ?sv6) rfl (by kernel_rfl) (fun _ _ _ h => h) (by rfl) hS (fun w' hS' => ?sy6) ?sz6
                case sy6 =>
                  go_simp
                  rfl
                simp only [List.setIfInBounds_toArray, List.set_cons_zero, List.set_cons_succ]
                refine take_op 7 (v := ?sv7) rfl (by kernel_rfl) (fun _ _ _ h => h) (by rfl) hS (fun w' hS' => ?sy7) ?sz7
                case sy7 =>
                  have m2 := (ka'.below hS' ka'.lt).cell (i := 2) rfl
                  have x2 := (kD'.below hS' kD'.lt).cell (i := 2) rfl
                  have cd := ((hBw.trans (hS'.mono hBw.size)).cell (p := ⟨bD, oD + k, none⟩) hbD).trans (hcDH.out k hk)
                  have ca := ((hBr.trans (hS'.mono hBr.size)).cell (p := ⟨ba, oa + k, none⟩) hba).trans (hcaH.out k hk)
                  rw [hdv.out] at cd
                  rw [hpv.out] at ca
                  go_simp
                  rfl
                simp only [List.setIfInBounds_toArray, List.set_cons_zero, List.set_cons_succ]
                refine take_op 8 (v := ?sv8) rfl (by kernel_rfl) (fun _ _ _ h => h) (by rfl) hS (fun w' hS' => ?sy8) ?sz8
                case sy8 =>
                  go_simp
                  rfl
                simp only [List.setIfInBounds_toArray, List.set_cons_zero, List.set_cons_succ]
                refine take_op 9 (v := ?sv9) rfl (by kernel_rfl) (fun _ _ _ h => h) (by rfl) hS (fun w' hS' => ?sy9) ?sz9
                case sy9 =>
                  go_simp
                  try go_ints
                  first
                  | rfl
                  | rw [if_pos ⟨by omega, by omega⟩]
                simp only [List.setIfInBounds_toArray, List.set_cons_zero, List.set_cons_succ]
                refine take_op 10 (v := ?sv10) rfl (by kernel_rfl) (fun _ _ _ h => h) (by rfl) hS (fun w' hS' => ?sy10) ?sz10
                case sy10 =>
                  have m2 := (ka'.below hS' ka'.lt).cell (i := 2) rfl
                  have x2 := (kD'.below hS' kD'.lt).cell (i := 2) rfl
                  have cd := ((hBw.trans (hS'.mono hBw.size)).cell (p := ⟨bD, oD + k, none⟩) hbD).trans (hcDH.out k hk)
                  have ca := ((hBr.trans (hS'.mono hBr.size)).cell (p := ⟨ba, oa + k, none⟩) hba).trans (hcaH.out k hk)
                  rw [hdv.out] at cd
                  rw [hpv.out] at ca
                  go_simp
                  rfl
                simp only [List.setIfInBounds_toArray, List.set_cons_zero, List.set_cons_succ]
                refine take_op 11 (v := .bool true) rfl (by kernel_rfl) (fun _ _ _ h => h) (by rfl) hS (fun w' hS' => ?sy11) ?sz11
                case sy11 =>
                  go_simp
                  try simp only [e2]
                  try rfl
                simp only [List.setIfInBounds_toArray, List.set_cons_zero, List.set_cons_succ]
                refine take_op 12 (v := .bool false) rfl (by kernel_rfl) (fun _ _ _ h => h) (by rfl) hS (fun w' hS' => ?sy12) ?sz12
                case sy12 =>
                  go_simp
                  try rfl
                simp only [List.setIfInBounds_toArray, List.set_cons_zero, List.set_cons_succ]
                refine take_op 13 (v := ?sv13) rfl (by kernel_rfl) (fun _ _ _ h => h) (by rfl) hS (fun w' hS' => ?sy13) ?sz13
                case sy13 =>
                  go_simp
                  rfl
                simp only [List.setIfInBounds_toArray, List.set_cons_zero, List.set_cons_succ]
                refine take_op 14 (v := ?sv14) rfl (by kernel_rfl) (fun _ _ _ h => h) (by rfl) hS (fun w' hS' => ?sy14) ?sz14
                case sy14 =>
                  go_simp
                  rfl
                simp only [List.setIfInBounds_toArray, List.set_cons_zero, List.set_cons_succ]
                refine take_op 15 (v := ?sv15) rfl (by kernel_rfl) (fun _ _ _ h => h) (by rfl) hS (fun w' hS' => ?sy15) ?sz15
                case sy15 =>
                  have m2 := (ka'.below hS' ka'.lt).cell (i := 2) rfl
                  have x2 := (kD'.below hS' kD'.lt).cell (i := 2) rfl
                  have cd := ((hBw.trans (hS'.mono hBw.size)).cell (p := ⟨bD, oD + k, none⟩) hbD).trans (hcDH.out k hk)
                  have ca := ((hBr.trans (hS'.mono hBr.size)).cell (p := ⟨ba, oa + k, none⟩) hba).trans (hcaH.out k hk)
                  rw [hdv.out] at cd
                  rw [hpv.out] at ca
                  go_simp
                  rfl
                simp only [List.setIfInBounds_toArray, List.set_cons_zero, List.set_cons_succ]
                refine take_op 16 (v := ?sv16) rfl (by kernel_rfl) (fun _ _ _ h => h) (by rfl) hS (fun w' hS' => ?sy16) ?sz16
                case sy16 =>
                  go_simp
                  rfl
                simp only [List.setIfInBounds_toArray, List.set_cons_zero, List.set_cons_succ]
                refine take_op 17 (v := ?sv17) rfl (by kernel_rfl) (fun _ _ _ h => h) (by rfl) hS (fun w' hS' => ?sy17) ?sz17
                case sy17 =>
                  go_simp
                  try go_ints
                  first
                  | rfl
                  | rw [if_pos ⟨by omega, by omega⟩]
                simp only [List.setIfInBounds_toArray, List.set_cons_zero, List.set_cons_succ]
                refine take_op 18 (v := ?sv18) rfl (by kernel_rfl) (fun _ _ _ h => h) (by rfl) hS (fun w' hS' => ?sy18) ?sz18
                case sy18 =>
                  have m2 := (ka'.below hS' ka'.lt).cell (i := 2) rfl
                  have x2 := (kD'.below hS' kD'.lt).cell (i := 2) rfl
                  have cd := ((hBw.trans (hS'.mono hBw.size)).cell (p := ⟨bD, oD + k, none⟩) hbD).trans (hcDH.out k hk)
                  have ca := ((hBr.trans (hS'.mono hBr.size)).cell (p := ⟨ba, oa + k, none⟩) hba).trans (hcaH.out k hk)
                  rw [hdv.out] at cd
                  rw [hpv.out] at ca
                  go_simp
                  rfl
                simp only [List.setIfInBounds_toArray, List.set_cons_zero, List.set_cons_succ]
                refine take_op 19 (v := .bool false) rfl (by kernel_rfl) (fun _ _ _ h => h) (by rfl) hS (fun w' hS' => ?sy19) ?sz19
                case sy19 =>
                  go_simp
                  try simp only [e3]
                  try rfl
                simp only [List.setIfInBounds_toArray, List.set_cons_zero, List.set_cons_succ]
                refine take_op 20 (v := ?sv20) rfl (by kernel_rfl) (fun _ _ _ h => h) (by rfl) hS (fun w' hS' => ?sy20) ?sz20
                case sy20 =>
                  go_simp
                  rfl
                simp only [List.setIfInBounds_toArray, List.set_cons_zero, List.set_cons_succ]
                refine done_ops (by kernel_rfl) ?_
                have x2 := (kD'.below hS kD'.lt).cell (i := 2) rfl
                have cd := ((hBw.trans (hS.mono hBw.size)).cell (p := ⟨bD, oD + k, none⟩) hbD).trans (hcDH.out k hk)
                rw [hdv.out] at cd
                have m2 := (ka'.below hS ka'.lt).cell (i := 2) rfl
                have m0 := (ka'.below hS ka'.lt).cell (i := 0) rfl
                have m1 := (ka'.below hS ka'.lt).cell (i := 1) rfl
                go_wp2_with fail
                refine (lneighbours_any pw ph k (some ⟨ba, oa, none⟩) c n (by omega) (by omega) (by omega) (by omega) (by rw [hNH.out]; exact hk) _).mono ?_
                rintro e V12 ⟨⟨va, vc, rfl, hL⟩, hb⟩
                have hB12 := hBw.trans ((hS.trans (hb.mono hS.size)).mono hBw.size)
                have kD1 := kD.below hB12 kD.lt
                clear hb m0 m1 m2 x2 cd
                obtain ⟨LL, hLL⟩ : ∃ LL, nbrL pw ph k = LL := ⟨_, rfl⟩
                have hnear := Lib.hid (fun q => (show nearerTo (fun i => px D i) k LL q = nearerTo (fun i => px D i) k LL q from rfl))
                have hall : Hid (nearerTo (fun i => px D i) k LL LL.length = true) := Lib.hid (by rw [← hLL]; exact hfull.out k hk)
                have hnb : Hid (∀ j, j ∈ LL → j < n ∧ px D k - px D j ≤ 1 ∧ -1 ≤ px D k - px D j) := Lib.hid (by rw [← hLL]; exact hnbr.out k hk)
                rw [hLL] at hL ⊢
                have hl4 : LL.length ≤ 4 := by rw [← hLL]; exact nbrL_length _ _ _
                clear hLL hnear
                go_wp2_with fail
                go_loopw [9, 11] (fun b i wr => ∃ q : Nat, q ≤ LL.length ∧ i = .int .i64 (q : Int) ∧ b = .bool (nearerTo (fun i => px D i) k LL q) ∧ Below V12.heap.size V12 wr) (fun b i _ => LL.length - (intOf i).toNat)
                case atStart => exact ⟨0, Nat.zero_le _, rfl, by rw [nearerTo_zero]; show _ = Value.bool (decide (px D k = 0)); rw [hdv.out, hd0H.out], Below.refl _ _⟩
                case round =>
                  obtain ⟨q, hq, rfl, rfl, hBL⟩ := hrel
                  have hBq := hB12.trans (hBL.mono hB12.size)
                  have kD2 := kD1.below hBL kD1.lt
                  by_cases hql : q < LL.length
                  · obtain ⟨j, hj⟩ : ∃ j, LL[q]? = some j := ⟨_, List.getElem?_eq_getElem hql⟩
                    obtain ⟨hjn, hd1, hd2⟩ := hnb.out j (List.mem_of_getElem? hj)
                    have hsn := Lib.hid (nearerTo_succ (fun i => px D i) k LL hj)
                    obtain ⟨bL, oL, hLa, hbL, hcl0⟩ := rowN_at hL hj
                    subst hLa
                    have hcl : V12.cell? ⟨bL, oL + q, none⟩ = some (.int .i64 (j : Int)) := hcl0
                    have hclH := Lib.hid hcl
                    obtain ⟨nb, hnbv⟩ : ∃ b, nearerTo (fun i => px D i) k LL q = b := ⟨_, rfl⟩
                    obtain ⟨jv, hjv0⟩ : ∃ v, px D (j : Int) = v := ⟨_, rfl⟩
                    have hjv := Lib.hid hjv0
                    have hsn' : Hid (nearerTo (fun i => px D i) k LL (q + 1) = (nb || decide (dv - jv = 1))) := Lib.hid (by rw [hsn.out, hnbv, ← hjv0, ← hdv.out])
                    rw [hnbv]
                    rw [hjv0, hdv.out] at hd1 hd2
                    have hj256 : j < 256 := by omega
                    clear hj hsn hcl0 hcl hnbv hjv0
                    have hS2 : Below wr.heap.size wr wr.drew := (Below.refl _ _).drew
                    have e1 : decide (1 < dv - jv) = false := decide_eq_false (by omega)
                    have e2 : decide (dv - jv < -1) = false := decide_eq_false (by omega)
                    go_wp2_with fail
                    refine plain_region (fun W' => Below wr.heap.size wr W') 15 15 (by kernel_rfl) rfl ?_
                    simp only [Array.replicate_succ, Array.replicate_zero, List.push_toArray, List.nil_append, List.cons_append]
                    refine take_op 0 (v := ?vv0) rfl (by kernel_rfl) (fun _ _ _ h => h) (by rfl) hS2 (fun w' hS' => ?vy0) ?vz0
                    case vy0 =>
                      go_simp
                      rfl
                    simp only [List.setIfInBounds_toArray, List.set_cons_zero, List.set_cons_succ]
                    refine take_op 1 (v := ?vv1) rfl (by kernel_rfl) (fun _ _ _ h => h) (by rfl) hS2 (fun w' hS' => ?vy1) ?vz1
                    case vy1 =>
                      have x2 := (kD2.below hS' kD2.lt).cell (i := 2) rfl
                      have cd := ((hBq.trans (hS'.mono hBq.size)).cell (p := ⟨bD, oD + k, none⟩) hbD).trans (hcDH.out k hk)
                      have cj := ((hBq.trans (hS'.mono hBq.size)).cell (p := ⟨bD, oD + j, none⟩) hbD).trans (hcDH.out j hjn)
                      have cl := ((hBL.trans (hS'.mono hBL.size)).cell (p := ⟨bL, oL + q, none⟩) hbL).trans hclH.out
                      rw [hdv.out] at cd
                      rw [hjv.out] at cj
                      go_simp
                      rfl
                    simp only [List.setIfInBounds_toArray, List.set_cons_zero, List.set_cons_succ]
                    refine take_op 2 (v := ?vv2) rfl (by kernel_rfl) (fun _ _ _ h => h) (by rfl) hS2 (fun w' hS' => ?vy2) ?vz2
                    case vy2 =>
                      go_simp
                      rfl
                    simp only [List.setIfInBounds_toArray, List.set_cons_zero, List.set_cons_succ]
                    refine take_op 3 (v := ?vv3) rfl (by kernel_rfl) (fun _ _ _ h => h) (by rfl) hS2 (fun w' hS' => ?vy3) ?vz3
                    case vy3 =>
                      go_simp
                      try go_ints
                      first
                      | rfl
                      | rw [if_pos ⟨by omega, by omega⟩]
                    simp only [List.setIfInBounds_toArray, List.set_cons_zero, List.set_cons_succ]
                    refine take_op 4 (v := ?vv4) rfl (by kernel_rfl) (fun _ _ _ h => h) (by rfl) hS2 (fun w' hS' => ?vy4) ?vz4
                    case vy4 =>
                      have x2 := (kD2.below hS' kD2.lt).cell (i := 2) rfl
                      have cd := ((hBq.trans (hS'.mono hBq.size)).cell (p := ⟨bD, oD + k, none⟩) hbD).trans (hcDH.out k hk)
                      have cj := ((hBq.trans (hS'.mono hBq.size)).cell (p := ⟨bD, oD + j, none⟩) hbD).trans (hcDH.out j hjn)
                      have cl := ((hBL.trans (hS'.mono hBL.size)).cell (p := ⟨bL, oL + q, none⟩) hbL).trans hclH.out
                      rw [hdv.out] at cd
                      rw [hjv.out] at cj
                      go_simp
                      rfl
                    simp only [List.setIfInBounds_toArray, List.set_cons_zero, List.set_cons_succ]
                    refine take_op 5 (v := ?vv5) rfl (by kernel_rfl) (fun _ _ _ h => h) (by rfl) hS2 (fun w' hS' => ?vy5) ?vz5
                    case vy5 =>
                      go_simp
                      rfl
                    simp only [List.setIfInBounds_toArray, List.set_cons_zero, List.set_cons_succ]
                    refine take_op 6 (v := ?vv6) rfl (by kernel_rfl) (fun _ _ _ h => h) (by rfl) hS2 (fun w' hS' => ?vy6) ?vz6
                    case vy6 =>
                      have x2 := (kD2.below hS' kD2.lt).cell (i := 2) rfl
                      have cd := ((hBq.trans (hS'.mono hBq.size)).cell (p := ⟨bD, oD + k, none⟩) hbD).trans (hcDH.out k hk)
                      have cj := ((hBq.trans (hS'.mono hBq.size)).cell (p := ⟨bD, oD + j, none⟩) hbD).trans (hcDH.out j hjn)
                      have cl := ((hBL.trans (hS'.mono hBL.size)).cell (p := ⟨bL, oL + q, none⟩) hbL).trans hclH.out
                      rw [hdv.out] at cd
                      rw [hjv.out] at cj
                      go_simp
                      rfl
                    simp only [List.setIfInBounds_toArray, List.set_cons_zero, List.set_cons_succ]
                    refine take_op 7 (v := ?vv7) rfl (by kernel_rfl) (fun _ _ _ h => h) (by rfl) hS2 (fun w' hS' => ?vy7) ?vz7
                    case vy7 =>
                      go_simp
                      rfl
                    simp only [List.setIfInBounds_toArray, List.set_cons_zero, List.set_cons_succ]
                    refine take_op 8 (v := ?vv8) rfl (by kernel_rfl) (fun _ _ _ h => h) (by rfl) hS2 (fun w' hS' => ?vy8) ?vz8
                    case vy8 =>
                      go_simp
                      rfl
                    simp only [List.setIfInBounds_toArray, List.set_cons_zero, List.set_cons_succ]
                    refine take_op 9 (v := ?vv9) rfl (by kernel_rfl) (fun _ _ _ h => h) (by rfl) hS2 (fun w' hS' => ?vy9) ?vz9
                    case vy9 =>
                      go_simp
                      try go_ints
                      first
                      | rfl
                      | rw [if_pos ⟨by omega, by omega⟩]
                    simp only [List.setIfInBounds_toArray, List.set_cons_zero, List.set_cons_succ]
                    refine take_op 10 (v := ?vv10) rfl (by kernel_rfl) (fun _ _ _ h => h) (by rfl) hS2 (fun w' hS' => ?vy10) ?vz10
                    case vy10 =>
                      have x2 := (kD2.below hS' kD2.lt).cell (i := 2) rfl
                      have cd := ((hBq.trans (hS'.mono hBq.size)).cell (p := ⟨bD, oD + k, none⟩) hbD).trans (hcDH.out k hk)
                      have cj := ((hBq.trans (hS'.mono hBq.size)).cell (p := ⟨bD, oD + j, none⟩) hbD).trans (hcDH.out j hjn)
                      have cl := ((hBL.trans (hS'.mono hBL.size)).cell (p := ⟨bL, oL + q, none⟩) hbL).trans hclH.out
                      rw [hdv.out] at cd
                      rw [hjv.out] at cj
                      go_simp
                      rfl
                    simp only [List.setIfInBounds_toArray, List.set_cons_zero, List.set_cons_succ]
                    refine take_op 11 (v := ?vv11) rfl (by kernel_rfl) (fun _ _ _ h => h) (by rfl) hS2 (fun w' hS' => ?vy11) ?vz11
                    case vy11 =>
                      go_simp
                      try go_ints
                      first
                      | rfl
                      | rw [if_pos ⟨by omega, by omega⟩]
                    simp only [List.setIfInBounds_toArray, List.set_cons_zero, List.set_cons_succ]
                    refine take_op 12 (v := ?vv12) rfl (by kernel_rfl) (fun _ _ _ h => h) (by rfl) hS2 (fun w' hS' => ?vy12) ?vz12
                    case vy12 =>
                      have x2 := (kD2.below hS' kD2.lt).cell (i := 2) rfl
                      have cd := ((hBq.trans (hS'.mono hBq.size)).cell (p := ⟨bD, oD + k, none⟩) hbD).trans (hcDH.out k hk)
                      have cj := ((hBq.trans (hS'.mono hBq.size)).cell (p := ⟨bD, oD + j, none⟩) hbD).trans (hcDH.out j hjn)
                      have cl := ((hBL.trans (hS'.mono hBL.size)).cell (p := ⟨bL, oL + q, none⟩) hbL).trans hclH.out
                      rw [hdv.out] at cd
                      rw [hjv.out] at cj
                      go_simp
                      rfl
                    simp only [List.setIfInBounds_toArray, List.set_cons_zero, List.set_cons_succ]
                    refine take_op 13 (v := ?vv13) rfl (by kernel_rfl) (fun _ _ _ h => h) (by rfl) hS2 (fun w' hS' => ?vy13) ?vz13
                    case vy13 =>
                      go_simp
                      try go_ints
                      rfl
                    simp only [List.setIfInBounds_toArray, List.set_cons_zero, List.set_cons_succ]
                    refine take_op 14 (v := ?vv14) rfl (by kernel_rfl) (fun _ _ _ h => h) (by rfl) hS2 (fun w' hS' => ?vy14) ?vz14
                    case vy14 =>
                      go_simp
                      rfl
                    simp only [List.setIfInBounds_toArray, List.set_cons_zero, List.set_cons_succ]
                    refine done_ops (by kernel_rfl) ?_
                    obtain ⟨df, hdf⟩ : ∃ d, dv - jv = d := ⟨_, rfl⟩
                    rw [hdf] at hsn' e1 e2 ⊢
                    clear hdf hd1 hd2
                    cases nb with
                    | true =>
                      go_wp2_with fail
                      go_roundw
                      case rel => exact ⟨q + 1, by omega, by go_num, by rw [hsn'.out]; rfl, hBL.trans (hS2.mono hBL.size)⟩
                      case measure => simp [intOf]; omega
                    | false =>
                      by_cases h1 : df = 1
                      · have e5 : (df == 1) = true := by rw [beq_iff_eq]; exact h1
                        have hsn2 : Hid (nearerTo (fun i => px D i) k LL (q + 1) = true) := Lib.hid (by rw [hsn'.out, decide_eq_true h1]; rfl)
                        clear hsn' h1
                        go_wp2_with fail
                        go_roundw
                        case rel => exact ⟨q + 1, by omega, by go_num, by rw [hsn2.out], hBL.trans (hS2.mono hBL.size)⟩
                        case measure => simp [intOf]; omega
                      · have e5 : (df == 1) = false := by rw [beq_eq_false_iff_ne]; exact h1
                        have hsn2 : Hid (nearerTo (fun i => px D i) k LL (q + 1) = false) := Lib.hid (by rw [hsn'.out, decide_eq_false h1]; rfl)
                        clear hsn' h1
                        go_wp2_with fail
                        go_roundw
                        case rel => exact ⟨q + 1, by omega, by go_num, by rw [hsn2.out], hBL.trans (hS2.mono hBL.size)⟩
                        case measure => simp [intOf]; omega
                  · have hqq : q = LL.length := by omega
                    subst hqq
                    rw [hall.out]
                    go_wp2_with fail
                    go_roundw
                    case rel => exact ⟨k + 1, by omega, by go_num, hBq⟩
                    case measure => simp [intOf]; omega
              · have e1 : (dv == 0) = false := by rw [beq_eq_false_iff_ne]; exact hd0
                have e2 : (pv == 0) = false := by rw [beq_eq_false_iff_ne]; exact fun h => hd0 (hz0.2 h)
                have e3 : decide (dv < 0) = false := decide_eq_false (by omega)
                have hd0H := Lib.hid (show decide (dv = 0) = false from decide_eq_false hd0)
                clear hd0 hz0
                go_wp2_with fail
                clear m2
                refine plain_region (fun W' => Below wr.heap.size wr W') 21 21 (by kernel_rfl) rfl ?_
                simp only [Array.replicate_succ, Array.replicate_zero, List.push_toArray, List.nil_append, List.cons_append]
                refine take_op 0 (v := ?tv0) rfl (by kernel_rfl) (fun _ _ _ h => h) (by rfl) hS (fun w' hS' => ?ty0) ?tz0
                case ty0 =>
                  go_simp
                  rfl
                simp only [List.setIfInBounds_toArray, List.set_cons_zero, List.set_cons_succ]
                refine take_op 1 (v := ?tv1) rfl (by kernel_rfl) (fun _ _ _ h => h) (by rfl) hS (fun w' hS' => ?ty1) ?tz1
                case ty1 =>
                  have m2 := (ka'.below hS' ka'.lt).cell (i := 2) rfl
                  have x2 := (kD'.below hS' kD'.lt).cell (i := 2) rfl
                  have cd := ((hBw.trans (hS'.mono hBw.size)).cell (p := ⟨bD, oD + k, none⟩) hbD).trans (hcDH.out k hk)
                  have ca := ((hBr.trans (hS'.mono hBr.size)).cell (p := ⟨ba, oa + k, none⟩) hba).trans (hcaH.out k hk)
                  rw [hdv.out] at cd
                  rw [hpv.out] at ca
                  go_simp
                  rfl
                simp only [List.setIfInBounds_toArray, List.set_cons_zero, List.set_cons_succ]
                refine take_op 2 (v := ?tv2) rfl (by kernel_rfl) (fun _ _ _ h => h) (by rfl) hS (fun w' hS' => ?ty2) ?tz2
                case ty2 =>
                  go_simp
                  rfl
                simp only [List.setIfInBounds_toArray, List.set_cons_zero, List.set_cons_succ]
                refine take_op 3 (v := ?tv3) rfl (by kernel_rfl) (fun _ _ _ h => h) (by rfl) hS (fun w' hS' => ?ty3) ?tz3
                case ty3 =>
                  go_simp
                  try go_ints
                  first
                  | rfl
                  | rw [if_pos ⟨by omega, by omega⟩]
                simp only [List.setIfInBounds_toArray, List.set_cons_zero, List.set_cons_succ]
                refine take_op 4 (v := ?tv4) rfl (by kernel_rfl) (fun _ _ _ h => h) (by rfl) hS (fun w' hS' => ?ty4) ?tz4
                case ty4 =>
                  have m2 := (ka'.below hS' ka'.lt).cell (i := 2) rfl
                  have x2 := (kD'.below hS' kD'.lt).cell (i := 2) rfl
                  have cd := ((hBw.trans (hS'.mono hBw.size)).cell (p := ⟨bD, oD + k, none⟩) hbD).trans (hcDH.out k hk)
                  have ca := ((hBr.trans (hS'.mono hBr.size)).cell (p := ⟨ba, oa + k, none⟩) hba).trans (hcaH.out k hk)
                  rw [hdv.out] at cd
                  rw [hpv.out] at ca
                  go_simp
                  rfl
                simp only [List.setIfInBounds_toArray, List.set_cons_zero, List.set_cons_succ]
                refine take_op 5 (v := .bool false) rfl (by kernel_rfl) (fun _ _ _ h => h) (by rfl) hS (fun w' hS' => ?ty5) ?tz5
                case ty5 =>
                  go_simp
                  try simp only [e1]
                  try rfl
                simp only [List.setIfInBounds_toArray, List.set_cons_zero, List.set_cons_succ]
                refine take_op 6 (v := ?tv6) rfl (by kernel_rfl) (fun _ _ _ h => h) (by rfl) hS (fun w' hS' => ?ty6) ?tz6
                case ty6 =>
                  go_simp
                  rfl
                simp only [List.setIfInBounds_toArray, List.set_cons_zero, List.set_cons_succ]
                refine take_op 7 (v := ?tv7) rfl (by kernel_rfl) (fun _ _ _ h => h) (by rfl) hS (fun w' hS' => ?ty7) ?tz7
                case ty7 =>
                  have m2 := (ka'.below hS' ka'.lt).cell (i := 2) rfl
                  have x2 := (kD'.below hS' kD'.lt).cell (i := 2) rfl
                  have cd := ((hBw.trans (hS'.mono hBw.size)).cell (p := ⟨bD, oD + k, none⟩) hbD).trans (hcDH.out k hk)
                  have ca := ((hBr.trans (hS'.mono hBr.size)).cell (p := ⟨ba, oa + k, none⟩) hba).trans (hcaH.out k hk)
                  rw [hdv.out] at cd
                  rw [hpv.out] at ca
                  go_simp
                  rfl
                simp only [List.setIfInBounds_toArray, List.set_cons_zero, List.set_cons_succ]
                refine take_op 8 (v := ?tv8) rfl (by kernel_rfl) (fun _ _ _ h => h) (by rfl) hS (fun w' hS' => ?ty8) ?tz8
                case ty8 =>
                  go_simp
                  rfl
                simp only [List.setIfInBounds_toArray, List.set_cons_zero, List.set_cons_succ]
                refine take_op 9 (v := ?tv9) rfl (by kernel_rfl) (fun _ _ _ h => h) (by rfl) hS (fun w' hS' => ?ty9) ?tz9
                case ty9 =>
                  go_simp
                  try go_ints
                  first
                  | rfl
                  | rw [if_pos ⟨by omega, by omega⟩]
                simp only [List.setIfInBounds_toArray, List.set_cons_zero, List.set_cons_succ]
                refine take_op 10 (v := ?tv10) rfl (by kernel_rfl) (fun _ _ _ h => h) (by rfl) hS (fun w' hS' => ?ty10) ?tz10
                case ty10 =>
                  have m2 := (ka'.below hS' ka'.lt).cell (i := 2) rfl
                  have x2 := (kD'.below hS' kD'.lt).cell (i := 2) rfl
                  have cd := ((hBw.trans (hS'.mono hBw.size)).cell (p := ⟨bD, oD + k, none⟩) hbD).trans (hcDH.out k hk)
                  have ca := ((hBr.trans (hS'.mono hBr.size)).cell (p := ⟨ba, oa + k, none⟩) hba).trans (hcaH.out k hk)
                  rw [hdv.out] at cd
                  rw [hpv.out] at ca
                  go_simp
                  rfl
                simp only [List.setIfInBounds_toArray, List.set_cons_zero, List.set_cons_succ]
                refine take_op 11 (v := .bool false) rfl (by kernel_rfl) (fun _ _ _ h => h) (by rfl) hS (fun w' hS' => ?ty11) ?tz11
                case ty11 =>
                  go_simp
                  try simp only [e2]
                  try rfl
                simp only [List.setIfInBounds_toArray, List.set_cons_zero, List.set_cons_succ]
                refine take_op 12 (v := .bool false) rfl (by kernel_rfl) (fun _ _ _ h => h) (by rfl) hS (fun w' hS' => ?ty12) ?tz12
                case ty12 =>
                  go_simp
                  try rfl
                simp only [List.setIfInBounds_toArray, List.set_cons_zero, List.set_cons_succ]
                refine take_op 13 (v := ?tv13) rfl (by kernel_rfl) (fun _ _ _ h => h) (by rfl) hS (fun w' hS' => ?ty13) ?tz13
                case ty13 =>
                  go_simp
                  rfl
                simp only [List.setIfInBounds_toArray, List.set_cons_zero, List.set_cons_succ]
                refine take_op 14 (v := ?tv14) rfl (by kernel_rfl) (fun _ _ _ h => h) (by rfl) hS (fun w' hS' => ?ty14) ?tz14
                case ty14 =>
                  go_simp
                  rfl
                simp only [List.setIfInBounds_toArray, List.set_cons_zero, List.set_cons_succ]
                refine take_op 15 (v := ?tv15) rfl (by kernel_rfl) (fun _ _ _ h => h) (by rfl) hS (fun w' hS' => ?ty15) ?tz15
                case ty15 =>
                  have m2 := (ka'.below hS' ka'.lt).cell (i := 2) rfl
                  have x2 := (kD'.below hS' kD'.lt).cell (i := 2) rfl
                  have cd := ((hBw.trans (hS'.mono hBw.size)).cell (p := ⟨bD, oD + k, none⟩) hbD).trans (hcDH.out k hk)
                  have ca := ((hBr.trans (hS'.mono hBr.size)).cell (p := ⟨ba, oa + k, none⟩) hba).trans (hcaH.out k hk)
                  rw [hdv.out] at cd
                  rw [hpv.out] at ca
                  go_simp
                  rfl
                simp only [List.setIfInBounds_toArray, List.set_cons_zero, List.set_cons_succ]
                refine take_op 16 (v := ?tv16) rfl (by kernel_rfl) (fun _ _ _ h => h) (by rfl) hS (fun w' hS' => ?ty16) ?tz16
                case ty16 =>
                  go_simp
                  rfl
                simp only [List.setIfInBounds_toArray, List.set_cons_zero, List.set_cons_succ]
                refine take_op 17 (v := ?tv17) rfl (by kernel_rfl) (fun _ _ _ h => h) (by rfl) hS (fun w' hS' => ?ty17) ?tz17
                case ty17 =>
                  go_simp
                  try go_ints
                  first
                  | rfl
                  | rw [if_pos ⟨by omega, by omega⟩]
                simp only [List.setIfInBounds_toArray, List.set_cons_zero, List.set_cons_succ]
                refine take_op 18 (v := ?tv18) rfl (by kernel_rfl) (fun _ _ _ h => h) (by rfl) hS (fun w' hS' => ?ty18) ?tz18
                case ty18 =>
                  have m2 := (ka'.below hS' ka'.lt).cell (i := 2) rfl
                  have x2 := (kD'.below hS' kD'.lt).cell (i := 2) rfl
                  have cd := ((hBw.trans (hS'.mono hBw.size)).cell (p := ⟨bD, oD + k, none⟩) hbD).trans (hcDH.out k hk)
                  have ca := ((hBr.trans (hS'.mono hBr.size)).cell (p := ⟨ba, oa + k, none⟩) hba).trans (hcaH.out k hk)
                  rw [hdv.out] at cd
                  rw [hpv.out] at ca
                  go_simp
                  rfl
                simp only [List.setIfInBounds_toArray, List.set_cons_zero, List.set_cons_succ]
                refine take_op 19 (v := .bool false) rfl (by kernel_rfl) (fun _ _ _ h => h) (by rfl) hS (fun w' hS' => ?ty19) ?tz19
                case ty19 =>
                  go_simp
                  try simp only [e3]
                  try rfl
                simp only [List.setIfInBounds_toArray, List.set_cons_zero, List.set_cons_succ]
                refine take_op 20 (v := ?tv20) rfl (by kernel_rfl) (fun _ _ _ h => h) (by rfl) hS (fun w' hS' => ?ty20) ?tz20
                case ty20 =>
                  go_simp
                  rfl
                simp only [List.setIfInBounds_toArray, List.set_cons_zero, List.set_cons_succ]
                refine done_ops (by kernel_rfl) ?_
                have x2 := (kD'.below hS kD'.lt).cell (i := 2) rfl
                have cd := ((hBw.trans (hS.mono hBw.size)).cell (p := ⟨bD, oD + k, none⟩) hbD).trans (hcDH.out k hk)
                rw [hdv.out] at cd
                have m2 := (ka'.below hS ka'.lt).cell (i := 2) rfl
                have m0 := (ka'.below hS ka'.lt).cell (i := 0) rfl
                have m1 := (ka'.below hS ka'.lt).cell (i := 1) rfl
                go_wp2_with fail
                refine (lneighbours_any pw ph k (some ⟨ba, oa, none⟩) c n (by omega) (by omega) (by omega) (by omega) (by rw [hNH.out]; exact hk) _).mono ?_
                rintro e V12 ⟨⟨va, vc, rfl, hL⟩, hb⟩
                have hB12 := hBw.trans ((hS.trans (hb.mono hS.size)).mono hBw.size)
                have kD1 := kD.below hB12 kD.lt
                clear hb m0 m1 m2 x2 cd
                obtain ⟨LL, hLL⟩ : ∃ LL, nbrL pw ph k = LL := ⟨_, rfl⟩
                have hnear := Lib.hid (fun q => (show nearerTo (fun i => px D i) k LL q = nearerTo (fun i => px D i) k LL q from rfl))
                have hall : Hid (nearerTo (fun i => px D i) k LL LL.length = true) := Lib.hid (by rw [← hLL]; exact hfull.out k hk)
                have hnb : Hid (∀ j, j ∈ LL → j < n ∧ px D k - px D j ≤ 1 ∧ -1 ≤ px D k - px D j) := Lib.hid (by rw [← hLL]; exact hnbr.out k hk)
                rw [hLL] at hL ⊢
                have hl4 : LL.length ≤ 4 := by rw [← hLL]; exact nbrL_length _ _ _
                clear hLL hnear
                go_wp2_with fail
                go_loopw [9, 11] (fun b i wr => ∃ q : Nat, q ≤ LL.length ∧ i = .int .i64 (q : Int) ∧ b = .bool (nearerTo (fun i => px D i) k LL q) ∧ Below V12.heap.size V12 wr) (fun b i _ => LL.length - (intOf i).toNat)
                case atStart => exact ⟨0, Nat.zero_le _, rfl, by rw [nearerTo_zero]; show _ = Value.bool (decide (px D k = 0)); rw [hdv.out, hd0H.out], Below.refl _ _⟩
                case round =>
                  obtain ⟨q, hq, rfl, rfl, hBL⟩ := hrel
                  have hBq := hB12.trans (hBL.mono hB12.size)
                  have kD2 := kD1.below hBL kD1.lt
                  by_cases hql : q < LL.length
                  · obtain ⟨j, hj⟩ : ∃ j, LL[q]? = some j := ⟨_, List.getElem?_eq_getElem hql⟩
                    obtain ⟨hjn, hd1, hd2⟩ := hnb.out j (List.mem_of_getElem? hj)
                    have hsn := Lib.hid (nearerTo_succ (fun i => px D i) k LL hj)
                    obtain ⟨bL, oL, hLa, hbL, hcl0⟩ := rowN_at hL hj
                    subst hLa
                    have hcl : V12.cell? ⟨bL, oL + q, none⟩ = some (.int .i64 (j : Int)) := hcl0
                    have hclH := Lib.hid hcl
                    obtain ⟨nb, hnbv⟩ : ∃ b, nearerTo (fun i => px D i) k LL q = b := ⟨_, rfl⟩
                    obtain ⟨jv, hjv0⟩ : ∃ v, px D (j : Int) = v := ⟨_, rfl⟩
                    have hjv := Lib.hid hjv0
                    have hsn' : Hid (nearerTo (fun i => px D i) k LL (q + 1) = (nb || decide (dv - jv = 1))) := Lib.hid (by rw [hsn.out, hnbv, ← hjv0, ← hdv.out])
                    rw [hnbv]
                    rw [hjv0, hdv.out] at hd1 hd2
                    have hj256 : j < 256 := by omega
                    clear hj hsn hcl0 hcl hnbv hjv0
                    have hS2 : Below wr.heap.size wr wr.drew := (Below.refl _ _).drew
                    have e1 : decide (1 < dv - jv) = false := decide_eq_false (by omega)
                    have e2 : decide (dv - jv < -1) = false := decide_eq_false (by omega)
                    go_wp2_with fail
                    refine plain_region (fun W' => Below wr.heap.size wr W') 15 15 (by kernel_rfl) rfl ?_
                    simp only [Array.replicate_succ, Array.replicate_zero, List.push_toArray, List.nil_append, List.cons_append]
                    refine take_op 0 (v := ?xv0) rfl (by kernel_rfl) (fun _ _ _ h => h) (by rfl) hS2 (fun w' hS' => ?xy0) ?xz0
                    case xy0 =>
                      go_simp
                      rfl
                    simp only [List.setIfInBounds_toArray, List.set_cons_zero, List.set_cons_succ]
                    refine take_op 1 (v := ?xv1) rfl (by kernel_rfl) (fun _ _ _ h => h) (by rfl) hS2 (fun w' hS' => ?xy1) ?xz1
                    case xy1 =>
                      have x2 := (kD2.below hS' kD2.lt).cell (i := 2) rfl
                      have cd := ((hBq.trans (hS'.mono hBq.size)).cell (p := ⟨bD, oD + k, none⟩) hbD).trans (hcDH.out k hk)
                      have cj := ((hBq.trans (hS'.mono hBq.size)).cell (p := ⟨bD, oD + j, none⟩) hbD).trans (hcDH.out j hjn)
                      have cl := ((hBL.trans (hS'.mono hBL.size)).cell (p := ⟨bL, oL + q, none⟩) hbL).trans hclH.out
                      rw [hdv.out] at cd
                      rw [hjv.out] at cj
                      go_simp
                      rfl
                    simp only [List.setIfInBounds_toArray, List.set_cons_zero, List.set_cons_succ]
                    refine take_op 2 (v := ?xv2) rfl (by kernel_rfl) (fun _ _ _ h => h) (by rfl) hS2 (fun w' hS' => ?xy2) ?xz2
                    case xy2 =>
                      go_simp
                      rfl
                    simp only [List.setIfInBounds_toArray, List.set_cons_zero, List.set_cons_succ]
                    refine take_op 3 (v := ?xv3) rfl (by kernel_rfl) (fun _ _ _ h => h) (by rfl) hS2 (fun w' hS' => ?xy3) ?xz3
                    case xy3 =>
                      go_simp
                      try go_ints
                      first
                      | rfl
                      | rw [if_pos ⟨by omega, by omega⟩]
                    simp only [List.setIfInBounds_toArray, List.set_cons_zero, List.set_cons_succ]
                    refine take_op 4 (v := ?xv4) rfl (by kernel_rfl) (fun _ _ _ h => h) (by rfl) hS2 (fun w' hS' => ?xy4) ?xz4
                    case xy4 =>
                      have x2 := (kD2.below hS' kD2.lt).cell (i := 2) rfl
                      have cd := ((hBq.trans (hS'.mono hBq.size)).cell (p := ⟨bD, oD + k, none⟩) hbD).trans (hcDH.out k hk)
                      have cj := ((hBq.trans (hS'.mono hBq.size)).cell (p := ⟨bD, oD + j, none⟩) hbD).trans (hcDH.out j hjn)
                      have cl := ((hBL.trans (hS'.mono hBL.size)).cell (p := ⟨bL, oL + q, none⟩) hbL).trans hclH.out
                      rw [hdv.out] at cd
                      rw [hjv.out] at cj
                      go_simp
                      rfl
                    simp only [List.setIfInBounds_toArray, List.set_cons_zero, List.set_cons_succ]
                    refine take_op 5 (v := ?xv5) rfl (by kernel_rfl) (fun _ _ _ h => h) (by rfl) hS2 (fun w' hS' => ?xy5) ?xz5
                    case xy5 =>
                      go_simp
                      rfl
                    simp only [List.setIfInBounds_toArray, List.set_cons_zero, List.set_cons_succ]
                    refine take_op 6 (v := ?xv6) rfl (by kernel_rfl) (fun _ _ _ h => h) (by rfl) hS2 (fun w' hS' => ?xy6) ?xz6
                    case xy6 =>
                      have x2 := (kD2.below hS' kD2.lt).cell (i := 2) rfl
                      have cd := ((hBq.trans (hS'.mono hBq.size)).cell (p := ⟨bD, oD + k, none⟩) hbD).trans (hcDH.out k hk)
                      have cj := ((hBq.trans (hS'.mono hBq.size)).cell (p := ⟨bD, oD + j, none⟩) hbD).trans (hcDH.out j hjn)
                      have cl := ((hBL.trans (hS'.mono hBL.size)).cell (p := ⟨bL, oL + q, none⟩) hbL).trans hclH.out
                      rw [hdv.out] at cd
                      rw [hjv.out] at cj
                      go_simp
                      rfl
                    simp only [List.setIfInBounds_toArray, List.set_cons_zero, List.set_cons_succ]
                    refine take_op 7 (v := ?xv7) rfl (by kernel_rfl) (fun _ _ _ h => h) (by rfl) hS2 (fun w' hS' => ?xy7) ?xz7
                    case xy7 =>
                      go_simp
                      rfl
                    simp only [List.setIfInBounds_toArray, List.set_cons_zero, List.set_cons_succ]
                    refine take_op 8 (v := ?xv8) rfl (by kernel_rfl) (fun _ _ _ h => h) (by rfl) hS2 (fun w' hS' => ?xy8) ?xz8
                    case xy8 =>
                      go_simp
                      rfl
                    simp only [List.setIfInBounds_toArray, List.set_cons_zero, List.set_cons_succ]
                    refine take_op 9 (v := ?xv9) rfl (by kernel_rfl) (fun _ _ _ h => h) (by rfl) hS2 (fun w' hS' => ?xy9) ?xz9
                    case xy9 =>
                      go_simp
                      try go_ints
                      first
                      | rfl
                      | rw [if_pos ⟨by omega, by omega⟩]
                    simp only [List.setIfInBounds_toArray, List.set_cons_zero, List.set_cons_succ]
                    refine take_op 10 (v := ?xv10) rfl (by kernel_rfl) (fun _ _ _ h => h) (by rfl) hS2 (fun w' hS' => ?xy10) ?xz10
                    case xy10 =>
                      have x2 := (kD2.below hS' kD2.lt).cell (i := 2) rfl
                      have cd := ((hBq.trans (hS'.mono hBq.size)).cell (p := ⟨bD, oD + k, none⟩) hbD).trans (hcDH.out k hk)
                      have cj := ((hBq.trans (hS'.mono hBq.size)).cell (p := ⟨bD, oD + j, none⟩) hbD).trans (hcDH.out j hjn)
                      have cl := ((hBL.trans (hS'.mono hBL.size)).cell (p := ⟨bL, oL + q, none⟩) hbL).trans hclH.out
                      rw [hdv.out] at cd
                      rw [hjv.out] at cj
                      go_simp
                      rfl
                    simp only [List.setIfInBounds_toArray, List.set_cons_zero, List.set_cons_succ]
                    refine take_op 11 (v := ?xv11) rfl (by kernel_rfl) (fun _ _ _ h => h) (by rfl) hS2 (fun w' hS' => ?xy11) ?xz11
                    case xy11 =>
                      go_simp
                      try go_ints
                      first
                      | rfl
                      | rw [if_pos ⟨by omega, by omega⟩]
                    simp only [List.setIfInBounds_toArray, List.set_cons_zero, List.set_cons_succ]
                    refine take_op 12 (v := ?xv12) rfl (by kernel_rfl) (fun _ _ _ h => h) (by rfl) hS2 (fun w' hS' => ?xy12) ?xz12
                    case xy12 =>
                      have x2 := (kD2.below hS' kD2.lt).cell (i := 2) rfl
                      have cd := ((hBq.trans (hS'.mono hBq.size)).cell (p := ⟨bD, oD + k, none⟩) hbD).trans (hcDH.out k hk)
                      have cj := ((hBq.trans (hS'.mono hBq.size)).cell (p := ⟨bD, oD + j, none⟩) hbD).trans (hcDH.out j hjn)
                      have cl := ((hBL.trans (hS'.mono hBL.size)).cell (p := ⟨bL, oL + q, none⟩) hbL).trans hclH.out
                      rw [hdv.out] at cd
                      rw [hjv.out] at cj
                      go_simp
                      rfl
                    simp only [List.setIfInBounds_toArray, List.set_cons_zero, List.set_cons_succ]
                    refine take_op 13 (v := ?xv13) rfl (by kernel_rfl) (fun _ _ _ h => h) (by rfl) hS2 (fun w' hS' => ?xy13) ?xz13
                    case xy13 =>
                      go_simp
                      try go_ints
                      rfl
                    simp only [List.setIfInBounds_toArray, List.set_cons_zero, List.set_cons_succ]
                    refine take_op 14 (v := ?xv14) rfl (by kernel_rfl) (fun _ _ _ h => h) (by rfl) hS2 (fun w' hS' => ?xy14) ?xz14
                    case xy14 =>
                      go_simp
                      rfl
                    simp only [List.setIfInBounds_toArray, List.set_cons_zero, List.set_cons_succ]
                    refine done_ops (by kernel_rfl) ?_
                    obtain ⟨df, hdf⟩ : ∃ d, dv - jv = d := ⟨_, rfl⟩
                    rw [hdf] at hsn' e1 e2 ⊢
                    clear hdf hd1 hd2
                    cases nb with
                    | true =>
                      go_wp2_with fail
                      go_roundw
                      case rel => exact ⟨q + 1, by omega, by go_num, by rw [hsn'.out]; rfl, hBL.trans (hS2.mono hBL.size)⟩
                      case measure => simp [intOf]; omega
                    | false =>
                      by_cases h1 : df = 1
                      · have e5 : (df == 1) = true := by rw [beq_iff_eq]; exact h1
                        have hsn2 : Hid (nearerTo (fun i => px D i) k LL (q + 1) = true) := Lib.hid (by rw [hsn'.out, decide_eq_true h1]; rfl)
                        clear hsn' h1
                        go_wp2_with fail
                        go_roundw
                        case rel => exact ⟨q + 1, by omega, by go_num, by rw [hsn2.out], hBL.trans (hS2.mono hBL.size)⟩
                        case measure => simp [intOf]; omega
                      · have e5 : (df == 1) = false := by rw [beq_eq_false_iff_ne]; exact h1
                        have hsn2 : Hid (nearerTo (fun i => px D i) k LL (q + 1) = false) := Lib.hid (by rw [hsn'.out, decide_eq_false h1]; rfl)
                        clear hsn' h1
                        go_wp2_with fail
                        go_roundw
                        case rel => exact ⟨q + 1, by omega, by go_num, by rw [hsn2.out], hBL.trans (hS2.mono hBL.size)⟩
                        case measure => simp [intOf]; omega
                  · have hqq : q = LL.length := by omega
                    subst hqq
                    rw [hall.out]
                    go_wp2_with fail
                    go_roundw
                    case rel => exact ⟨k + 1, by omega, by go_num, hBq⟩
                    case measure => simp [intOf]; omega
            · have hkk : n = k := by omega
              subst hkk
              go_wp2_with fail
              go_ret
              exact ⟨rfl, hBr⟩

end Go.Proofs.Ytjglfeonoiljlaa

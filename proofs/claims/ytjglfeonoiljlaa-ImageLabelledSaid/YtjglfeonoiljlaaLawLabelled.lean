/- The walk of the law ImageLabelled: it returns true, and nothing that lay has turned. -/
import Derived.Test.YtjglfeonoiljlaaLawNearest
import Derived.Test.YtjglfeonoiljlaaLabLaws
import Derived.Lib.MinMax
namespace Go.Proofs.Ytjglfeonoiljlaa
open Go Go.RowKit Go.Shelf
set_option linter.unusedVariables false
set_option linter.unusedSimpArgs false

/-- The table of the numbers in the sense of eight, by those in the sense of four, after the first k pixels. -/
structure TP (n : Nat) (A B T : List Int) (k : Nat) : Prop where
  len : T.length = n + 1
  put : ∀ j, j < k → px T (px A j) = px B j
  none : ∀ x : Nat, x ≤ n → px T x = 0 ∨ ∃ j, j < k ∧ px A j = (x : Int)
theorem TP.zero {n : Nat} {A B : List Int} : TP n A B (List.replicate (n + 1) 0) 0 where
  len := by simp
  put j hj := by omega
  none x hx := .inl (by rw [px_nat, List.getElem?_replicate]; split <;> rfl)
theorem TP.step {n : Nat} {A B T : List Int} {k X : Nat} (h : TP n A B T k) (hb : ∀ j : Nat, 0 ≤ px A j) (hX : X ≤ n) (hA : px A k = (X : Int)) (hc : ∀ j, j < k → px A j = px A k → px B j = px B k) : TP n A B (T.set X (px B k)) (k + 1) where
  len := by rw [List.length_set, h.len]
  put j hj := by
    have hl : X < T.length := by rw [h.len]; omega
    by_cases e : px A j = px A k
    · rw [e, hA, px_set _ hl, if_pos rfl]
      by_cases ej : j = k
      · subst ej; rfl
      · exact (hc j (by omega) e).symm
    · have ej : j ≠ k := fun h => e (by rw [h])
      rw [← h.put j (by omega)]
      obtain ⟨x, hx⟩ : ∃ x : Nat, px A j = (x : Int) := ⟨(px A j).toNat, by have := hb j; omega⟩
      rw [hx, px_set _ hl, if_neg]
      intro hxX
      rw [hx, hA, hxX] at e
      exact e rfl
  none x hx := by
    have hl : X < T.length := by rw [h.len]; omega
    rw [px_set _ hl]
    by_cases e : x = X
    · exact .inr ⟨k, by omega, by rw [hA, e]⟩
    · rw [if_neg e]
      rcases h.none x hx with h1 | ⟨j, h1, h2⟩
      · exact .inl h1
      · exact .inr ⟨j, by omega, h2⟩
theorem TP.look {n : Nat} {A B T : List Int} {k X : Nat} (h : TP n A B T k) (hX : X ≤ n) (hA : px A k = (X : Int)) (hc : ∀ j, j < k → px A j = px A k → px B j = px B k) : px T X = 0 ∨ px T X = px B k := by
  rcases h.none X hX with h1 | ⟨j, h1, h2⟩
  · exact .inl h1
  · refine .inr ?_
    rw [← hc j h1 (by rw [h2, hA]), ← h.put j h1, h2]

set_option maxRecDepth 100000 in
set_option maxHeartbeats 16000000 in
theorem law_labelled (iw ih : Int) (a : Option Addr) (c n : Nat) (xs : List Int) (hn : Hid (xs.length = n)) (w : World) (hm : n ≤ 9223372036854775807) (hr : Rd w.heap.size w a xs) :
    Calls Try.prog 10 #[imv iw ih a n c] w fun e w' => e = .returned (.bool true) ∧ Below w.heap.size w w' := by
  obtain ⟨i0, hi, hz0, hz1, hz2⟩ := info_parts info_int
  obtain ⟨zv, hzv0⟩ : ∃ v, vld iw ih xs = v := ⟨_, rfl⟩
  have hzv := Lib.hid hzv0
  clear hzv0
  cases zv with
  | false =>
    have hSA := Lib.hid (show labS iw ih xs false = { im := { w := 0, h := 0, px := [], err := 20 }, n := 0 } by unfold labS; rw [if_neg (by rw [hzv.out]; decide)]; rfl)
    have hSB := Lib.hid (show labS iw ih xs true = { im := { w := 0, h := 0, px := [], err := 20 }, n := 0 } by unfold labS; rw [if_neg (by rw [hzv.out]; decide)]; rfl)
    have hlD := Lib.hid (show ([] : List Int).length = 0 from rfl)
    have hB : Below w.heap.size w (w.alloc (.cells #[.int .i64 iw, .int .i64 ih, .slice a n c] 24)) := below_al (Below.refl _ _) _
    have ka := (Blk.new w 24 #[.int .i64 iw, .int .i64 ih, .slice a n c])
    obtain ⟨W0, hW⟩ : ∃ W, (w.alloc (.cells #[.int .i64 iw, .int .i64 ih, .slice a n c] 24)) = W := ⟨_, rfl⟩
    rw [hW] at hB ka
    have m0 := ka.cell (i := 0) rfl
    have m1 := ka.cell (i := 1) rfl
    have m2 := ka.cell (i := 2) rfl
    go_enter Try.func10, Try.ntmps10
    go_wp2_with fail
    clear hW
    refine (alive_any _).mono ?_
    rintro e V1 ⟨rfl, hb⟩
    clear m0 m1 m2
    replace ka := ka.below hb ka.lt
    replace hB := hB.trans (hb.mono hB.size)
    have m0 := ka.cell (i := 0) rfl
    have m1 := ka.cell (i := 1) rfl
    have m2 := ka.cell (i := 2) rfl
    clear hb
    go_wp2_with fail
    have hcall := Label_any iw ih a c n xs hn false _ (by omega) ((hr.below (Nat.le_refl _) hB).mono hB.size)
    rw [hSA.out] at hcall
    refine hcall.mono ?_
    clear hcall
    rintro e V2 ⟨⟨v, hev, sl, hvl, hrow⟩, hb⟩
    have rA : V2.ownsRow w.heap.size 3 1 sl 0 ((([] : List Int)).map (Value.int .i64)) := row_base (row_len (k := (([] : List Int)).length) hlD.out hrow) hB.size
    obtain ⟨srAa, srAc, rfl⟩ := row_slice rA
    have he : e = .returned (.tuple #[.agg #[.int .i64 0, .int .i64 0, .slice srAa 0 srAc], .int .i64 0, .int .i64 20]) := by rw [hev, hvl]
    subst he
    clear hrow hev hvl
    clear m0 m1 m2
    replace ka := ka.below hb ka.lt
    replace hB := hB.trans (hb.mono hB.size)
    have m0 := ka.cell (i := 0) rfl
    have m1 := ka.cell (i := 1) rfl
    have m2 := ka.cell (i := 2) rfl
    clear hb
    obtain ⟨V3, hW⟩ : ∃ V3, V2.alloc (.cells #[.int .i64 0, .int .i64 0, .slice srAa 0 srAc] 24) = V3 := ⟨_, rfl⟩
    obtain ⟨bkA, hbx⟩ : ∃ bkA, V2.heap.size = bkA := ⟨_, rfl⟩
    have kA := Blk.new V2 24 #[.int .i64 0, .int .i64 0, .slice srAa 0 srAc]
    rw [hW, hbx] at kA
    have hb : Below V2.heap.size V2 V3 := alloc_below hW
    have ka' := ka.below hb ka.lt
    have lkakA := ka.lt
    rw [hbx] at lkakA
    have m0' := ka'.cell (i := 0) rfl
    have m1' := ka'.cell (i := 1) rfl
    have m2' := ka'.cell (i := 2) rfl
    have xa0 := kA.cell (i := 0) rfl
    have xa1 := kA.cell (i := 1) rfl
    have xa2 := kA.cell (i := 2) rfl
    have fxa0 := kA.frozen 0
    have fxa1 := kA.frozen 1
    have fxa2 := kA.frozen 2
    go_wp2_with fail
    clear hW
    clear hbx
    clear m0 m1 m2
    clear m0' m1' m2'
    replace ka := ka'
    clear ka'
    have m0 := ka.cell (i := 0) rfl
    have m1 := ka.cell (i := 1) rfl
    have m2 := ka.cell (i := 2) rfl
    replace rA := row_below rA hb
    replace hB := hB.trans (hb.mono hB.size)
    clear hb
    have hcall := Label_any iw ih a c n xs hn true _ (by omega) ((hr.below (Nat.le_refl _) hB).mono hB.size)
    rw [hSB.out] at hcall
    refine hcall.mono ?_
    clear hcall
    rintro e V4 ⟨⟨v, hev, sl, hvl, hrow⟩, hb⟩
    have rB : V4.ownsRow w.heap.size 3 1 sl 0 ((([] : List Int)).map (Value.int .i64)) := row_base (row_len (k := (([] : List Int)).length) hlD.out hrow) hB.size
    obtain ⟨srBa, srBc, rfl⟩ := row_slice rB
    have he : e = .returned (.tuple #[.agg #[.int .i64 0, .int .i64 0, .slice srBa 0 srBc], .int .i64 0, .int .i64 20]) := by rw [hev, hvl]
    subst he
    clear hrow hev hvl
    clear m0 m1 m2 xa0 xa1 xa2 fxa0 fxa1 fxa2
    replace ka := ka.below hb ka.lt
    replace kA := kA.below hb kA.lt
    replace rA := row_below rA hb
    replace hB := hB.trans (hb.mono hB.size)
    have m0 := ka.cell (i := 0) rfl
    have m1 := ka.cell (i := 1) rfl
    have m2 := ka.cell (i := 2) rfl
    have xa0 := kA.cell (i := 0) rfl
    have xa1 := kA.cell (i := 1) rfl
    have xa2 := kA.cell (i := 2) rfl
    have fxa0 := kA.frozen 0
    have fxa1 := kA.frozen 1
    have fxa2 := kA.frozen 2
    clear hb
    obtain ⟨V5, hW⟩ : ∃ V5, V4.alloc (.cells #[.int .i64 0, .int .i64 0, .slice srBa 0 srBc] 24) = V5 := ⟨_, rfl⟩
    obtain ⟨bkB, hbx⟩ : ∃ bkB, V4.heap.size = bkB := ⟨_, rfl⟩
    have kB := Blk.new V4 24 #[.int .i64 0, .int .i64 0, .slice srBa 0 srBc]
    rw [hW, hbx] at kB
    have hb : Below V4.heap.size V4 V5 := alloc_below hW
    have ka' := ka.below hb ka.lt
    have lkakB := ka.lt
    rw [hbx] at lkakB
    have kA' := kA.below hb kA.lt
    have lkAkB := kA.lt
    rw [hbx] at lkAkB
    have m0' := ka'.cell (i := 0) rfl
    have m1' := ka'.cell (i := 1) rfl
    have m2' := ka'.cell (i := 2) rfl
    have xa0' := kA'.cell (i := 0) rfl
    have xa1' := kA'.cell (i := 1) rfl
    have xa2' := kA'.cell (i := 2) rfl
    have fxa0' := kA'.frozen 0
    have fxa1' := kA'.frozen 1
    have fxa2' := kA'.frozen 2
    have xb0 := kB.cell (i := 0) rfl
    have xb1 := kB.cell (i := 1) rfl
    have xb2 := kB.cell (i := 2) rfl
    have fxb0 := kB.frozen 0
    have fxb1 := kB.frozen 1
    have fxb2 := kB.frozen 2
    go_wp2_with fail
    clear hW
    clear hbx
    clear m0 m1 m2 xa0 xa1 xa2 fxa0 fxa1 fxa2
    clear m0' m1' m2' xa0' xa1' xa2' fxa0' fxa1' fxa2'
    replace ka := ka'
    clear ka'
    replace kA := kA'
    clear kA'
    have m0 := ka.cell (i := 0) rfl
    have m1 := ka.cell (i := 1) rfl
    have m2 := ka.cell (i := 2) rfl
    have xa0 := kA.cell (i := 0) rfl
    have xa1 := kA.cell (i := 1) rfl
    have xa2 := kA.cell (i := 2) rfl
    have fxa0 := kA.frozen 0
    have fxa1 := kA.frozen 1
    have fxa2 := kA.frozen 2
    replace rA := row_below rA hb
    replace rB := row_below rB hb
    replace hB := hB.trans (hb.mono hB.size)
    clear hb
    refine (Valid_any iw ih a c xs n hn _ (by omega) ((hr.below (Nat.le_refl _) hB).mono hB.size)).mono ?_
    rintro e V8 ⟨rfl, hb⟩
    rw [hzv.out]
    clear m0 m1 m2 xa0 xa1 xa2 fxa0 fxa1 fxa2 xb0 xb1 xb2 fxb0 fxb1 fxb2
    replace ka := ka.below hb ka.lt
    replace kA := kA.below hb kA.lt
    replace kB := kB.below hb kB.lt
    replace rA := row_below rA hb
    replace rB := row_below rB hb
    replace hB := hB.trans (hb.mono hB.size)
    have m0 := ka.cell (i := 0) rfl
    have m1 := ka.cell (i := 1) rfl
    have m2 := ka.cell (i := 2) rfl
    have xa0 := kA.cell (i := 0) rfl
    have xa1 := kA.cell (i := 1) rfl
    have xa2 := kA.cell (i := 2) rfl
    have fxa0 := kA.frozen 0
    have fxa1 := kA.frozen 1
    have fxa2 := kA.frozen 2
    have xb0 := kB.cell (i := 0) rfl
    have xb1 := kB.cell (i := 1) rfl
    have xb2 := kB.cell (i := 2) rfl
    have fxb0 := kB.frozen 0
    have fxb1 := kB.frozen 1
    have fxb2 := kB.frozen 2
    clear hb
    go_wp2_with fail
    go_ret
    exact ⟨rfl, hB⟩
  | true =>
    obtain ⟨⟨i1, i2⟩, ⟨i3, i4⟩, hl, ha⟩ := vld_true hzv.out
    obtain ⟨pw, rfl⟩ : ∃ pw : Nat, iw = (pw : Int) := ⟨iw.toNat, by omega⟩
    obtain ⟨ph, rfl⟩ : ∃ ph : Nat, ih = (ph : Int) := ⟨ih.toNat, by omega⟩
    have hN : pw * ph = n := by
      have h2 : ((pw * ph : Nat) : Int) = (pw : Int) * ph := by simp
      have := hn.out
      omega
    have hn0 : 0 < n := by rw [← hN]; exact Nat.mul_pos (by omega) (by omega)
    have hn256 : n ≤ 256 := by rw [← hN]; exact Nat.mul_le_mul (show pw ≤ 16 by omega) (show ph ≤ 16 by omega)
    obtain ⟨nz, hnz⟩ : ∃ f, isNz xs = f := ⟨_, rfl⟩
    have hnzx : ∀ k : Nat, nz k = true ↔ px xs k ≠ 0 := fun k => by rw [← hnz]; unfold isNz; exact decide_eq_true_iff
    have hSe := fun e => show labS pw ph xs e = { im := { w := pw, h := ph, px := (labTo n pw e nz n).1, err := 0 }, n := (ln n pw e nz n : Nat) } by
      unfold labS ln
      rw [if_pos hzv.out]
      simp only [Int.toNat_natCast, hN, hnz]
    have hSA := Lib.hid (hSe false)
    have hSB := Lib.hid (hSe true)
    have hlA := Lib.hid (show (labTo n pw false nz n).1.length = n from labTo_len n)
    have hlB := Lib.hid (show (labTo n pw true nz n).1.length = n from labTo_len n)
    have hF : ∀ (e : Bool) (k : Nat), px (labTo n pw e nz n).1 k = fin n pw e nz k := fun _ _ => rfl
    have hzi : ∀ (e : Bool) (k : Nat), k < n → (fin n pw e nz k = 0 ↔ px xs k = 0) := fun e k hk => by
      rw [fin_zero hk]
      have := hnzx k
      cases hz : nz k with
      | true => rw [hz] at this; simp at this; simp [this]
      | false => rw [hz] at this; simp at this; simp [this]
    have hlab := Lib.hid (fun (k : Nat) (hk : k < n) => show (px (labTo n pw false nz n).1 k = 0 ↔ px xs k = 0) ∧ (px (labTo n pw true nz n).1 k = 0 ↔ px xs k = 0) ∧
        (ln n pw false nz (k + 1) : Int) = max (ln n pw false nz k : Int) (px (labTo n pw false nz n).1 k) ∧ px (labTo n pw false nz n).1 k ≤ (ln n pw false nz k : Int) + 1 ∧
        (ln n pw true nz (k + 1) : Int) = max (ln n pw true nz k : Int) (px (labTo n pw true nz n).1 k) ∧ px (labTo n pw true nz n).1 k ≤ (ln n pw true nz k : Int) + 1 from
      ⟨hzi false k hk, hzi true k hk, (ln_max hk).1, (ln_max hk).2, (ln_max hk).1, (ln_max hk).2⟩)
    have hln : ∀ (e : Bool) (i : Nat), ln n pw e nz i ≤ i := fun e i => labTo_n i
    have habd := Lib.hid (fun k : Nat => show 0 ≤ px (labTo n pw false nz n).1 k ∧ px (labTo n pw false nz n).1 k ≤ (n : Int) ∧ 0 ≤ px (labTo n pw true nz n).1 k ∧ px (labTo n pw true nz n).1 k ≤ (n : Int) by
      have h1 := fin_bd (N := n) (pw := pw) (e := false) (nz := nz) k
      have h2 := fin_bd (N := n) (pw := pw) (e := true) (nz := nz) k
      have h3 := hln false n
      have h4 := hln true n
      rw [hF, hF]
      omega)
    have hnbr := Lib.hid (fun (k : Nat) (hk : k < n) (j : Nat) (hj : j ∈ nbrL pw ph k) => show j < n ∧ (px (labTo n pw false nz n).1 k ≠ 0 → px (labTo n pw false nz n).1 j ≠ 0 → px (labTo n pw false nz n).1 j = px (labTo n pw false nz n).1 k) by
      have h1 := nbrL_near (show k < pw * ph by rw [hN]; exact hk) hj
      rw [hN] at h1
      exact ⟨h1.1, fun h2 h3 => fin_near hk h1.1 h1.2 h2 h3⟩)
    have habs := Lib.hid (fun (j k : Nat) (hj : j < n) (hk : k < n) (h0 : px (labTo n pw false nz n).1 k ≠ 0) (h : px (labTo n pw false nz n).1 j = px (labTo n pw false nz n).1 k) => show px (labTo n pw true nz n).1 j = px (labTo n pw true nz n).1 k from fin_eight hk hj h0 h)
    have hzz := Lib.hid (fun (j : Nat) (hj : j < n) (h : px (labTo n pw false nz n).1 j = 0) => show px (labTo n pw true nz n).1 j = 0 from (hzi true j hj).2 ((hzi false j hj).1 h))
    have hGS := Lib.hid (fun i : Nat => show ln n pw true nz i ≤ ln n pw false nz i ∨ n < i by
      by_cases h : i ≤ n
      · exact .inl (ln_eight i h)
      · exact .inr (by omega))
    have hSb := Lib.hid (fun i : Nat => fun (_ : i ≤ n) => hln false i)
    have hS0 := Lib.hid (show ln n pw false nz 0 = 0 from rfl)
    have hG0 := Lib.hid (show ln n pw true nz 0 = 0 from rfl)
    have hNH := Lib.hid hN
    obtain ⟨ba, oa, hae, hba, hca⟩ := rd_at hr hn.out hn0
    have hcaH := Lib.hid hca
    clear hca hl ha hN hnz hnzx hSe hF hzi hln
    generalize (labTo n pw false nz n).1 = A at *
    generalize (labTo n pw true nz n).1 = B at *
    generalize ln n pw false nz = S at *
    generalize ln n pw true nz = G at *
    subst hae
    have hB : Below w.heap.size w (w.alloc (.cells #[.int .i64 pw, .int .i64 ph, .slice (some ⟨ba, oa, none⟩) n c] 24)) := below_al (Below.refl _ _) _
    have ka := (Blk.new w 24 #[.int .i64 pw, .int .i64 ph, .slice (some ⟨ba, oa, none⟩) n c])
    obtain ⟨W0, hW⟩ : ∃ W, (w.alloc (.cells #[.int .i64 pw, .int .i64 ph, .slice (some ⟨ba, oa, none⟩) n c] 24)) = W := ⟨_, rfl⟩
    rw [hW] at hB ka
    have m0 := ka.cell (i := 0) rfl
    have m1 := ka.cell (i := 1) rfl
    have m2 := ka.cell (i := 2) rfl
    go_enter Try.func10, Try.ntmps10
    go_wp2_with fail
    clear hW
    refine (alive_any _).mono ?_
    rintro e V1 ⟨rfl, hb⟩
    clear m0 m1 m2
    replace ka := ka.below hb ka.lt
    replace hB := hB.trans (hb.mono hB.size)
    have m0 := ka.cell (i := 0) rfl
    have m1 := ka.cell (i := 1) rfl
    have m2 := ka.cell (i := 2) rfl
    clear hb
    go_wp2_with fail
    have hcall := Label_any pw ph (some ⟨ba, oa, none⟩) c n xs hn false _ (by omega) ((hr.below (Nat.le_refl _) hB).mono hB.size)
    rw [hSA.out] at hcall
    refine hcall.mono ?_
    clear hcall
    rintro e V2 ⟨⟨v, hev, sl, hvl, hrow⟩, hb⟩
    have rA : V2.ownsRow w.heap.size 3 1 sl n ((A).map (Value.int .i64)) := row_base (row_len (k := (A).length) hlA.out hrow) hB.size
    obtain ⟨srAa, srAc, rfl⟩ := row_slice rA
    have he : e = .returned (.tuple #[.agg #[.int .i64 pw, .int .i64 ph, .slice srAa n srAc], .int .i64 (S n : Int), .int .i64 0]) := by rw [hev, hvl]
    subst he
    clear hrow hev hvl
    clear m0 m1 m2
    replace ka := ka.below hb ka.lt
    replace hB := hB.trans (hb.mono hB.size)
    have m0 := ka.cell (i := 0) rfl
    have m1 := ka.cell (i := 1) rfl
    have m2 := ka.cell (i := 2) rfl
    clear hb
    obtain ⟨V3, hW⟩ : ∃ V3, V2.alloc (.cells #[.int .i64 pw, .int .i64 ph, .slice srAa n srAc] 24) = V3 := ⟨_, rfl⟩
    obtain ⟨bkA, hbx⟩ : ∃ bkA, V2.heap.size = bkA := ⟨_, rfl⟩
    have kA := Blk.new V2 24 #[.int .i64 pw, .int .i64 ph, .slice srAa n srAc]
    rw [hW, hbx] at kA
    have hb : Below V2.heap.size V2 V3 := alloc_below hW
    have ka' := ka.below hb ka.lt
    have lkakA := ka.lt
    rw [hbx] at lkakA
    have m0' := ka'.cell (i := 0) rfl
    have m1' := ka'.cell (i := 1) rfl
    have m2' := ka'.cell (i := 2) rfl
    have xa0 := kA.cell (i := 0) rfl
    have xa1 := kA.cell (i := 1) rfl
    have xa2 := kA.cell (i := 2) rfl
    have fxa0 := kA.frozen 0
    have fxa1 := kA.frozen 1
    have fxa2 := kA.frozen 2
    go_wp2_with fail
    clear hW
    clear hbx
    clear m0 m1 m2
    clear m0' m1' m2'
    replace ka := ka'
    clear ka'
    have m0 := ka.cell (i := 0) rfl
    have m1 := ka.cell (i := 1) rfl
    have m2 := ka.cell (i := 2) rfl
    replace rA := row_below rA hb
    replace hB := hB.trans (hb.mono hB.size)
    clear hb
    have hcall := Label_any pw ph (some ⟨ba, oa, none⟩) c n xs hn true _ (by omega) ((hr.below (Nat.le_refl _) hB).mono hB.size)
    rw [hSB.out] at hcall
    refine hcall.mono ?_
    clear hcall
    rintro e V4 ⟨⟨v, hev, sl, hvl, hrow⟩, hb⟩
    have rB : V4.ownsRow w.heap.size 3 1 sl n ((B).map (Value.int .i64)) := row_base (row_len (k := (B).length) hlB.out hrow) hB.size
    obtain ⟨srBa, srBc, rfl⟩ := row_slice rB
    have he : e = .returned (.tuple #[.agg #[.int .i64 pw, .int .i64 ph, .slice srBa n srBc], .int .i64 (G n : Int), .int .i64 0]) := by rw [hev, hvl]
    subst he
    clear hrow hev hvl
    clear m0 m1 m2 xa0 xa1 xa2 fxa0 fxa1 fxa2
    replace ka := ka.below hb ka.lt
    replace kA := kA.below hb kA.lt
    replace rA := row_below rA hb
    replace hB := hB.trans (hb.mono hB.size)
    have m0 := ka.cell (i := 0) rfl
    have m1 := ka.cell (i := 1) rfl
    have m2 := ka.cell (i := 2) rfl
    have xa0 := kA.cell (i := 0) rfl
    have xa1 := kA.cell (i := 1) rfl
    have xa2 := kA.cell (i := 2) rfl
    have fxa0 := kA.frozen 0
    have fxa1 := kA.frozen 1
    have fxa2 := kA.frozen 2
    clear hb
    obtain ⟨V5, hW⟩ : ∃ V5, V4.alloc (.cells #[.int .i64 pw, .int .i64 ph, .slice srBa n srBc] 24) = V5 := ⟨_, rfl⟩
    obtain ⟨bkB, hbx⟩ : ∃ bkB, V4.heap.size = bkB := ⟨_, rfl⟩
    have kB := Blk.new V4 24 #[.int .i64 pw, .int .i64 ph, .slice srBa n srBc]
    rw [hW, hbx] at kB
    have hb : Below V4.heap.size V4 V5 := alloc_below hW
    have ka' := ka.below hb ka.lt
    have lkakB := ka.lt
    rw [hbx] at lkakB
    have kA' := kA.below hb kA.lt
    have lkAkB := kA.lt
    rw [hbx] at lkAkB
    have m0' := ka'.cell (i := 0) rfl
    have m1' := ka'.cell (i := 1) rfl
    have m2' := ka'.cell (i := 2) rfl
    have xa0' := kA'.cell (i := 0) rfl
    have xa1' := kA'.cell (i := 1) rfl
    have xa2' := kA'.cell (i := 2) rfl
    have fxa0' := kA'.frozen 0
    have fxa1' := kA'.frozen 1
    have fxa2' := kA'.frozen 2
    have xb0 := kB.cell (i := 0) rfl
    have xb1 := kB.cell (i := 1) rfl
    have xb2 := kB.cell (i := 2) rfl
    have fxb0 := kB.frozen 0
    have fxb1 := kB.frozen 1
    have fxb2 := kB.frozen 2
    go_wp2_with fail
    clear hW
    clear hbx
    clear m0 m1 m2 xa0 xa1 xa2 fxa0 fxa1 fxa2
    clear m0' m1' m2' xa0' xa1' xa2' fxa0' fxa1' fxa2'
    replace ka := ka'
    clear ka'
    replace kA := kA'
    clear kA'
    have m0 := ka.cell (i := 0) rfl
    have m1 := ka.cell (i := 1) rfl
    have m2 := ka.cell (i := 2) rfl
    have xa0 := kA.cell (i := 0) rfl
    have xa1 := kA.cell (i := 1) rfl
    have xa2 := kA.cell (i := 2) rfl
    have fxa0 := kA.frozen 0
    have fxa1 := kA.frozen 1
    have fxa2 := kA.frozen 2
    replace rA := row_below rA hb
    replace rB := row_below rB hb
    replace hB := hB.trans (hb.mono hB.size)
    clear hb
    refine (Valid_any pw ph (some ⟨ba, oa, none⟩) c xs n hn _ (by omega) ((hr.below (Nat.le_refl _) hB).mono hB.size)).mono ?_
    rintro e V8 ⟨rfl, hb⟩
    rw [hzv.out]
    clear m0 m1 m2 xa0 xa1 xa2 fxa0 fxa1 fxa2 xb0 xb1 xb2 fxb0 fxb1 fxb2
    replace ka := ka.below hb ka.lt
    replace kA := kA.below hb kA.lt
    replace kB := kB.below hb kB.lt
    replace rA := row_below rA hb
    replace rB := row_below rB hb
    replace hB := hB.trans (hb.mono hB.size)
    have m0 := ka.cell (i := 0) rfl
    have m1 := ka.cell (i := 1) rfl
    have m2 := ka.cell (i := 2) rfl
    have xa0 := kA.cell (i := 0) rfl
    have xa1 := kA.cell (i := 1) rfl
    have xa2 := kA.cell (i := 2) rfl
    have fxa0 := kA.frozen 0
    have fxa1 := kA.frozen 1
    have fxa2 := kA.frozen 2
    have xb0 := kB.cell (i := 0) rfl
    have xb1 := kB.cell (i := 1) rfl
    have xb2 := kB.cell (i := 2) rfl
    have fxb0 := kB.frozen 0
    have fxb1 := kB.frozen 1
    have fxb2 := kB.frozen 2
    clear hb
    have hSG := hGS.out n
    have hSG1 : decide ((S n : Int) < (G n : Int)) = false := decide_eq_false (by omega)
    have hSG2 : decide (S n < G n) = false := decide_eq_false (by omega)
    go_wp2_with (at_make; refine wpList_make_full _ rfl _ _ 22 rfl w.heap.size 3 i0 (.int .i64 0) 1 Try.underlying22 hi hz0 hz1 .i64 .i64 ((n : Int) + 1) ((n : Int) + 1) (n + 1) rfl rfl (by simp) (by simp) (by rw [hz2]; omega) (by unfold maxLen; omega) hB.size ?_; intro w1 hown hg)
    clear m0 m1 m2 xa0 xa1 xa2 fxa0 fxa1 fxa2 xb0 xb1 xb2 fxb0 fxb1 fxb2
    clear hSG1 hSG2
    have rowT : w1.ownsRow w.heap.size 3 1 (.slice (some ⟨V8.heap.size, 0, none⟩) (n + 1) (n + 1)) (n + 1) ((List.replicate (n + 1) (0 : Int)).map (Value.int .i64)) := by
      rw [List.map_replicate]
      have h := hown
      rw [show (n + 1) * 1 = n + 1 by omega, show (Value.int .i64 0).cells = #[.int .i64 0] from rfl, toList_madeCells_one] at h
      exact h
    have hB9 : Below V8.heap.size V8 w1 := (Below.refl _ _).grown hg (Nat.le_refl _) (fun k e => by cases e)
    clear hown hg
    obtain ⟨bA, oA, hAa, hbA, hcA⟩ := rd_at (row_rd' hlA.out rA) hlA.out hn0
    subst hAa
    have hcAH := Lib.hid hcA
    clear hcA
    obtain ⟨bB, oB, hBa, hbB, hcB⟩ := rd_at (row_rd' hlB.out rB) hlB.out hn0
    subst hBa
    have hcBH := Lib.hid hcB
    clear hcB rA rB
    go_loopw [10, 11, 13] (fun s f i wr => ∃ (k : Nat) (T : List Int), k ≤ n ∧ i = .int .i64 (k : Int) ∧ s = .int .i64 (S k : Int) ∧ f = .int .i64 (G k : Int) ∧ TP n A B T k ∧ Below V8.heap.size V8 wr ∧ wr.ownsRow w.heap.size 3 1 (.slice (some ⟨V8.heap.size, 0, none⟩) (n + 1) (n + 1)) (n + 1) (T.map (Value.int .i64))) (fun s f i _ => n - (intOf i).toNat)
    case atStart => exact ⟨0, List.replicate (n + 1) 0, Nat.zero_le _, rfl, by rw [hS0.out]; rfl, by rw [hG0.out]; rfl, TP.zero, hB9, rowT⟩
    case round =>
      clear rowT hB9
      obtain ⟨k, T, hkn, rfl, rfl, rfl, hTP, hBw, rowT⟩ := hrel
      have hBr : Below w.heap.size w wr := hB.trans (hBw.mono hB.size)
      have ka' := ka.below hBw ka.lt
      have kA' := kA.below hBw kA.lt
      have kB' := kB.below hBw kB.lt
      have m2 := ka'.cell (i := 2) rfl
      have hS : Below wr.heap.size wr wr.drew := (Below.refl _ _).drew
      by_cases hk : k < n
      · obtain ⟨hxz, hyz, hs1, hx2, hs2, hy2⟩ := hlab.out k hk
        have hSk := hSb.out k (by omega)
        have hGk := hGS.out k
        have hxb := habd.out k
        obtain ⟨xv, hxv0⟩ : ∃ v, px A (k : Int) = v := ⟨_, rfl⟩
        obtain ⟨yv, hyv0⟩ : ∃ v, px B (k : Int) = v := ⟨_, rfl⟩
        obtain ⟨pv, hpv0⟩ : ∃ v, px xs (k : Int) = v := ⟨_, rfl⟩
        rw [hxv0, hyv0] at hxb
        rw [hxv0, hpv0] at hxz
        rw [hyv0, hpv0] at hyz
        rw [hxv0] at hs1 hx2
        rw [hyv0] at hs2 hy2
        obtain ⟨hxb1, hxb2, hyb1, hyb2⟩ := hxb
        have hsk0 : 0 ≤ (S k : Int) ∧ (S k : Int) ≤ 256 := by omega
        have hgk0 : 0 ≤ (G k : Int) ∧ (G k : Int) ≤ 256 := by omega
        obtain ⟨sk, hsk⟩ : ∃ v : Int, (S k : Int) = v := ⟨_, rfl⟩
        obtain ⟨gk, hgk⟩ : ∃ v : Int, (G k : Int) = v := ⟨_, rfl⟩
        rw [hsk] at hs1 hx2 hsk0 ⊢
        rw [hgk] at hs2 hy2 hgk0 ⊢
        clear hsk hgk hSk hGk
        obtain ⟨hsk1, hsk2⟩ := hsk0
        obtain ⟨hgk1, hgk2⟩ := hgk0
        have hxv := Lib.hid hxv0
        have hyv := Lib.hid hyv0
        have hpv := Lib.hid hpv0
        clear hxv0 hyv0 hpv0
        by_cases hp0 : pv = 0
        · obtain rfl : xv = 0 := hxz.2 hp0
          obtain rfl : yv = 0 := hyz.2 hp0
          subst hp0
          have hTP2 : Hid (TP n A B (T.set 0 0) (k + 1)) := Lib.hid (by have := hTP.step (X := 0) (fun j => (habd.out j).1) (by omega) hxv.out (fun j hj h => by rw [hyv.out]; exact hzz.out j (by omega) (by rw [h, hxv.out])); rw [hyv.out] at this; exact this)
          have e1 : decide (sk + 1 < 0) = false := decide_eq_false (by omega)
          have e2 : decide (gk + 1 < 0) = false := decide_eq_false (by omega)
          have hSs : Hid ((S (k + 1) : Int) = sk) := Lib.hid (by omega)
          have hGs : Hid ((G (k + 1) : Int) = gk) := Lib.hid (by omega)
          have em1 : max sk 0 = sk := by omega
          have em2 : max gk 0 = gk := by omega
          clear hxz hyz hs1 hs2 hx2 hy2
          go_wp2_with fail
          clear m2
          refine plain_region (fun W' => Below wr.heap.size wr W') 12 12 (by kernel_rfl) rfl ?_
          simp only [Array.replicate_succ, Array.replicate_zero, List.push_toArray, List.nil_append, List.cons_append]
          refine take_op 0 (v := ?zv0) rfl (by kernel_rfl) (fun _ _ _ h => h) (by rfl) hS (fun w' hS' => ?zy0) ?zz0
          case zy0 =>
            go_simp
            rfl
          simp only [List.setIfInBounds_toArray, List.set_cons_zero, List.set_cons_succ]
          refine take_op 1 (v := ?zv1) rfl (by kernel_rfl) (fun _ _ _ h => h) (by rfl) hS (fun w' hS' => ?zy1) ?zz1
          case zy1 =>
            have xa2 := (kA'.below hS' kA'.lt).cell (i := 2) rfl
            have xb2 := (kB'.below hS' kB'.lt).cell (i := 2) rfl
            have cA := ((hBw.trans (hS'.mono hBw.size)).cell (p := ⟨bA, oA + k, none⟩) hbA).trans (hcAH.out k hk)
            have cB := ((hBw.trans (hS'.mono hBw.size)).cell (p := ⟨bB, oB + k, none⟩) hbB).trans (hcBH.out k hk)
            rw [hxv.out] at cA
            rw [hyv.out] at cB
            go_simp
            rfl
          simp only [List.setIfInBounds_toArray, List.set_cons_zero, List.set_cons_succ]
          refine take_op 2 (v := ?zv2) rfl (by kernel_rfl) (fun _ _ _ h => h) (by rfl) hS (fun w' hS' => ?zy2) ?zz2
          case zy2 =>
            go_simp
            rfl
          simp only [List.setIfInBounds_toArray, List.set_cons_zero, List.set_cons_succ]
          refine take_op 3 (v := ?zv3) rfl (by kernel_rfl) (fun _ _ _ h => h) (by rfl) hS (fun w' hS' => ?zy3) ?zz3
          case zy3 =>
            go_simp
            try go_ints
            first
            | rfl
            | rw [if_pos ⟨by omega, by omega⟩]
          simp only [List.setIfInBounds_toArray, List.set_cons_zero, List.set_cons_succ]
          refine take_op 4 (v := ?zv4) rfl (by kernel_rfl) (fun _ _ _ h => h) (by rfl) hS (fun w' hS' => ?zy4) ?zz4
          case zy4 =>
            have xa2 := (kA'.below hS' kA'.lt).cell (i := 2) rfl
            have xb2 := (kB'.below hS' kB'.lt).cell (i := 2) rfl
            have cA := ((hBw.trans (hS'.mono hBw.size)).cell (p := ⟨bA, oA + k, none⟩) hbA).trans (hcAH.out k hk)
            have cB := ((hBw.trans (hS'.mono hBw.size)).cell (p := ⟨bB, oB + k, none⟩) hbB).trans (hcBH.out k hk)
            rw [hxv.out] at cA
            rw [hyv.out] at cB
            go_simp
            rfl
          simp only [List.setIfInBounds_toArray, List.set_cons_zero, List.set_cons_succ]
          refine take_op 5 (v := ?zv5) rfl (by kernel_rfl) (fun _ _ _ h => h) (by rfl) hS (fun w' hS' => ?zy5) ?zz5
          case zy5 =>
            go_simp
            rfl
          simp only [List.setIfInBounds_toArray, List.set_cons_zero, List.set_cons_succ]
          refine take_op 6 (v := ?zv6) rfl (by kernel_rfl) (fun _ _ _ h => h) (by rfl) hS (fun w' hS' => ?zy6) ?zz6
          case zy6 =>
            have xa2 := (kA'.below hS' kA'.lt).cell (i := 2) rfl
            have xb2 := (kB'.below hS' kB'.lt).cell (i := 2) rfl
            have cA := ((hBw.trans (hS'.mono hBw.size)).cell (p := ⟨bA, oA + k, none⟩) hbA).trans (hcAH.out k hk)
            have cB := ((hBw.trans (hS'.mono hBw.size)).cell (p := ⟨bB, oB + k, none⟩) hbB).trans (hcBH.out k hk)
            rw [hxv.out] at cA
            rw [hyv.out] at cB
            go_simp
            rfl
          simp only [List.setIfInBounds_toArray, List.set_cons_zero, List.set_cons_succ]
          refine take_op 7 (v := ?zv7) rfl (by kernel_rfl) (fun _ _ _ h => h) (by rfl) hS (fun w' hS' => ?zy7) ?zz7
          case zy7 =>
            go_simp
            rfl
          simp only [List.setIfInBounds_toArray, List.set_cons_zero, List.set_cons_succ]
          refine take_op 8 (v := ?zv8) rfl (by kernel_rfl) (fun _ _ _ h => h) (by rfl) hS (fun w' hS' => ?zy8) ?zz8
          case zy8 =>
            go_simp
            try go_ints
            first
            | rfl
            | rw [if_pos ⟨by omega, by omega⟩]
          simp only [List.setIfInBounds_toArray, List.set_cons_zero, List.set_cons_succ]
          refine take_op 9 (v := ?zv9) rfl (by kernel_rfl) (fun _ _ _ h => h) (by rfl) hS (fun w' hS' => ?zy9) ?zz9
          case zy9 =>
            have xa2 := (kA'.below hS' kA'.lt).cell (i := 2) rfl
            have xb2 := (kB'.below hS' kB'.lt).cell (i := 2) rfl
            have cA := ((hBw.trans (hS'.mono hBw.size)).cell (p := ⟨bA, oA + k, none⟩) hbA).trans (hcAH.out k hk)
            have cB := ((hBw.trans (hS'.mono hBw.size)).cell (p := ⟨bB, oB + k, none⟩) hbB).trans (hcBH.out k hk)
            rw [hxv.out] at cA
            rw [hyv.out] at cB
            go_simp
            rfl
          simp only [List.setIfInBounds_toArray, List.set_cons_zero, List.set_cons_succ]
          refine take_op 10 (v := ?zv10) rfl (by kernel_rfl) (fun _ _ _ h => h) (by rfl) hS (fun w' hS' => ?zy10) ?zz10
          case zy10 =>
            go_simp
            rfl
          simp only [List.setIfInBounds_toArray, List.set_cons_zero, List.set_cons_succ]
          refine take_op 11 (v := ?zv11) rfl (by kernel_rfl) (fun _ _ _ h => h) (by rfl) hS (fun w' hS' => ?zy11) ?zz11
          case zy11 =>
            go_simp
            rfl
          simp only [List.setIfInBounds_toArray, List.set_cons_zero, List.set_cons_succ]
          refine done_ops (by kernel_rfl) ?_
          obtain ⟨wd, hwd⟩ : ∃ X, wr.drew = X := ⟨_, rfl⟩
          rw [hwd] at hS ⊢
          clear hwd
          have row4 := row_below rowT hS
          have hfr := row4.frozenAt 0
          have ct := row4.cellAt 0 (by omega)
          have ct2 : wd.cell? ⟨V8.heap.size, 0, none⟩ = some (.int .i64 (px T 0)) := by rw [ct, List.getElem?_map, List.getElem?_eq_getElem (by rw [hTP.len]; omega), show px T 0 = px T ((0 : Nat) : Int) from rfl, px_nat, List.getElem?_eq_getElem (by rw [hTP.len]; omega)]; rfl
          clear ct
          have m2 := (ka'.below hS ka'.lt).cell (i := 2) rfl
          have m1 := (ka'.below hS ka'.lt).cell (i := 1) rfl
          have m0 := (ka'.below hS ka'.lt).cell (i := 0) rfl
          have ca := ((hBr.trans (hS.mono hBr.size)).cell (p := ⟨ba, oa + k, none⟩) hba).trans (hcaH.out k hk)
          rw [hpv.out] at ca
          have kas := (ka'.below hS ka'.lt).other (a := ⟨V8.heap.size, 0, none⟩) (by show w.heap.size ≠ V8.heap.size; have := ka.lt; omega) (.int .i64 0)
          have n0 := kas.cell (i := 0) rfl
          have n1 := kas.cell (i := 1) rfl
          have n2 := kas.cell (i := 2) rfl
          have hn1 : (0 : Int) < (n : Int) + 1 := by omega
          go_wp2_with fail
          refine (lneighbours_any pw ph k (some ⟨ba, oa, none⟩) c n (by omega) (by omega) (by omega) (by omega) (by rw [hNH.out]; exact hk) _).mono ?_
          rintro e V12 ⟨⟨va, vc, rfl, hL⟩, hb⟩
          have hst := row4.stored 0 (.int .i64 0)
          have row5 := row_below hst.1 hb
          rw [map_set_int] at row5
          have hB12 : Below V8.heap.size V8 V12 := ((hBw.trans (hS.mono hBw.size)).setCell (p := ⟨V8.heap.size, 0, none⟩) (Nat.le_refl _) (.int .i64 0)).trans (hb.mono ((hBw.trans (hS.mono hBw.size)).setCell (p := ⟨V8.heap.size, 0, none⟩) (Nat.le_refl _) (.int .i64 0)).size)
          have kA1 := kA.below hB12 kA.lt
          clear hb hst row4 m2 m1 m0 n2 n1 n0 kas ca ct2 hfr
          obtain ⟨LL, hLL⟩ : ∃ LL, nbrL pw ph k = LL := ⟨_, rfl⟩
          have hnb : Hid (∀ j, j ∈ LL → j < n ∧ (px A k ≠ 0 → px A j ≠ 0 → px A j = px A k)) := Lib.hid (by rw [← hLL]; exact hnbr.out k hk)
          rw [hLL] at hL ⊢
          have hl4 : LL.length ≤ 4 := by rw [← hLL]; exact nbrL_length _ _ _
          clear hLL
          go_wp2_with fail
          go_loopw [17] (fun i wr => ∃ q : Nat, q ≤ LL.length ∧ i = .int .i64 (q : Int) ∧ Below V12.heap.size V12 wr) (fun i _ => LL.length - (intOf i).toNat)
          case atStart => exact ⟨0, Nat.zero_le _, rfl, Below.refl _ _⟩
          case round =>
            clear hBr hS
            obtain ⟨q, hq, rfl, hBL⟩ := hrel
            have hBq := hB12.trans (hBL.mono hB12.size)
            have kA2 := kA1.below hBL kA1.lt
            by_cases hql : q < LL.length
            · obtain ⟨j, hj⟩ : ∃ j, LL[q]? = some j := ⟨_, List.getElem?_eq_getElem hql⟩
              obtain ⟨hjn, hjs⟩ := hnb.out j (List.mem_of_getElem? hj)
              obtain ⟨bL, oL, hLa, hbL, hcl0⟩ := rowN_at hL hj
              subst hLa
              have hclH : Hid (V12.cell? ⟨bL, oL + q, none⟩ = some (.int .i64 (j : Int))) := Lib.hid hcl0
              obtain ⟨jv, hjv0⟩ : ∃ v, px A (j : Int) = v := ⟨_, rfl⟩
              rw [hjv0, hxv.out] at hjs
              have hj0 := (habd.out j).1
              rw [hjv0] at hj0
              have hjv := Lib.hid hjv0
              clear hj hcl0 hjv0
              have hS2 : Below wr.heap.size wr wr.drew := (Below.refl _ _).drew
              clear hjs
              go_wp2_with fail
              refine plain_region (fun W' => Below wr.heap.size wr W') 25 25 (by kernel_rfl) rfl ?_
              simp only [Array.replicate_succ, Array.replicate_zero, List.push_toArray, List.nil_append, List.cons_append]
              refine take_op 0 (v := ?zav0) rfl (by kernel_rfl) (fun _ _ _ h => h) (by rfl) hS2 (fun w' hS' => ?zay0) ?zaz0
              case zay0 =>
                go_simp
                rfl
              simp only [List.setIfInBounds_toArray, List.set_cons_zero, List.set_cons_succ]
              refine take_op 1 (v := .bool false) rfl (by kernel_rfl) (fun _ _ _ h => h) (by rfl) hS2 (fun w' hS' => ?zay1) ?zaz1
              case zay1 =>
                go_simp
                try rfl
              simp only [List.setIfInBounds_toArray, List.set_cons_zero, List.set_cons_succ]
              refine take_op 2 (v := ?zav2) rfl (by kernel_rfl) (fun _ _ _ h => h) (by rfl) hS2 (fun w' hS' => ?zay2) ?zaz2
              case zay2 =>
                go_simp
                rfl
              simp only [List.setIfInBounds_toArray, List.set_cons_zero, List.set_cons_succ]
              refine pass_op 3 rfl (by kernel_rfl) (fun _ _ _ h => h) (by rfl) hS2 ?_
              simp only [List.setIfInBounds_toArray, List.set_cons_zero, List.set_cons_succ]
              refine pass_op 4 rfl (by kernel_rfl) (fun _ _ _ h => h) (by rfl) hS2 ?_
              simp only [List.setIfInBounds_toArray, List.set_cons_zero, List.set_cons_succ]
              refine pass_op 5 rfl (by kernel_rfl) (fun _ _ _ h => h) (by rfl) hS2 ?_
              simp only [List.setIfInBounds_toArray, List.set_cons_zero, List.set_cons_succ]
              refine pass_op 6 rfl (by kernel_rfl) (fun _ _ _ h => h) (by rfl) hS2 ?_
              simp only [List.setIfInBounds_toArray, List.set_cons_zero, List.set_cons_succ]
              refine pass_op 7 rfl (by kernel_rfl) (fun _ _ _ h => h) (by rfl) hS2 ?_
              simp only [List.setIfInBounds_toArray, List.set_cons_zero, List.set_cons_succ]
              refine pass_op 8 rfl (by kernel_rfl) (fun _ _ _ h => h) (by rfl) hS2 ?_
              simp only [List.setIfInBounds_toArray, List.set_cons_zero, List.set_cons_succ]
              refine pass_op 9 rfl (by kernel_rfl) (fun _ _ _ h => h) (by rfl) hS2 ?_
              simp only [List.setIfInBounds_toArray, List.set_cons_zero, List.set_cons_succ]
              refine pass_op 10 rfl (by kernel_rfl) (fun _ _ _ h => h) (by rfl) hS2 ?_
              simp only [List.setIfInBounds_toArray, List.set_cons_zero, List.set_cons_succ]
              refine pass_op 11 rfl (by kernel_rfl) (fun _ _ _ h => h) (by rfl) hS2 ?_
              simp only [List.setIfInBounds_toArray, List.set_cons_zero, List.set_cons_succ]
              refine take_op 12 (v := ?zav12) rfl (by kernel_rfl) (fun _ _ _ h => h) (by rfl) hS2 (fun w' hS' => ?zay12) ?zaz12
              case zay12 =>
                go_simp
                rfl
              simp only [List.setIfInBounds_toArray, List.set_cons_zero, List.set_cons_succ]
              refine take_op 13 (v := ?zav13) rfl (by kernel_rfl) (fun _ _ _ h => h) (by rfl) hS2 (fun w' hS' => ?zay13) ?zaz13
              case zay13 =>
                go_simp
                rfl
              simp only [List.setIfInBounds_toArray, List.set_cons_zero, List.set_cons_succ]
              refine pass_op 14 rfl (by kernel_rfl) (fun _ _ _ h => h) (by rfl) hS2 ?_
              simp only [List.setIfInBounds_toArray, List.set_cons_zero, List.set_cons_succ]
              refine pass_op 15 rfl (by kernel_rfl) (fun _ _ _ h => h) (by rfl) hS2 ?_
              simp only [List.setIfInBounds_toArray, List.set_cons_zero, List.set_cons_succ]
              refine pass_op 16 rfl (by kernel_rfl) (fun _ _ _ h => h) (by rfl) hS2 ?_
              simp only [List.setIfInBounds_toArray, List.set_cons_zero, List.set_cons_succ]
              refine pass_op 17 rfl (by kernel_rfl) (fun _ _ _ h => h) (by rfl) hS2 ?_
              simp only [List.setIfInBounds_toArray, List.set_cons_zero, List.set_cons_succ]
              refine pass_op 18 rfl (by kernel_rfl) (fun _ _ _ h => h) (by rfl) hS2 ?_
              simp only [List.setIfInBounds_toArray, List.set_cons_zero, List.set_cons_succ]
              refine pass_op 19 rfl (by kernel_rfl) (fun _ _ _ h => h) (by rfl) hS2 ?_
              simp only [List.setIfInBounds_toArray, List.set_cons_zero, List.set_cons_succ]
              refine pass_op 20 rfl (by kernel_rfl) (fun _ _ _ h => h) (by rfl) hS2 ?_
              simp only [List.setIfInBounds_toArray, List.set_cons_zero, List.set_cons_succ]
              refine pass_op 21 rfl (by kernel_rfl) (fun _ _ _ h => h) (by rfl) hS2 ?_
              simp only [List.setIfInBounds_toArray, List.set_cons_zero, List.set_cons_succ]
              refine pass_op 22 rfl (by kernel_rfl) (fun _ _ _ h => h) (by rfl) hS2 ?_
              simp only [List.setIfInBounds_toArray, List.set_cons_zero, List.set_cons_succ]
              refine pass_op 23 rfl (by kernel_rfl) (fun _ _ _ h => h) (by rfl) hS2 ?_
              simp only [List.setIfInBounds_toArray, List.set_cons_zero, List.set_cons_succ]
              refine take_op 24 (v := ?zav24) rfl (by kernel_rfl) (fun _ _ _ h => h) (by rfl) hS2 (fun w' hS' => ?zay24) ?zaz24
              case zay24 =>
                go_simp
                rfl
              simp only [List.setIfInBounds_toArray, List.set_cons_zero, List.set_cons_succ]
              refine done_ops (by kernel_rfl) ?_
              go_wp2_with fail
              go_roundw
              case rel => exact ⟨q + 1, by omega, by go_num, hBL.trans (hS2.mono hBL.size)⟩
              case measure => simp [intOf]; omega
            · have hqq : q = LL.length := by omega
              subst hqq
              go_wp2_with fail
              go_roundw
              case rel => exact ⟨k + 1, (T.set 0 0), by omega, by go_num, by rw [hSs.out], by rw [hGs.out], hTP2.out, hBq, row_below row5 hBL⟩
              case measure => simp [intOf]; omega
        · have hx0 : 0 < xv := by have : ¬ xv = 0 := fun h => hp0 (hxz.1 h); omega
          have hy0 : 0 < yv := by have : ¬ yv = 0 := fun h => hp0 (hyz.1 h); omega
          obtain ⟨X, rfl⟩ : ∃ X : Nat, xv = (X : Int) := ⟨xv.toNat, by omega⟩
          have hTX := hTP.look (X := X) (by omega) hxv.out (fun j hj h => habs.out j k (by omega) hk (by rw [hxv.out]; omega) h)
          have hTP2 : Hid (TP n A B (T.set X yv) (k + 1)) := Lib.hid (by have := hTP.step (X := X) (fun j => (habd.out j).1) (by omega) hxv.out (fun j hj h => habs.out j k (by omega) hk (by rw [hxv.out]; omega) h); rw [hyv.out] at this; exact this)
          rw [hyv.out] at hTX
          have a1 : ((X : Int) == 0) = false := by rw [beq_eq_false_iff_ne]; omega
          have a2 : (yv == 0) = false := by rw [beq_eq_false_iff_ne]; omega
          have a3 : (pv == 0) = false := by rw [beq_eq_false_iff_ne]; exact hp0
          have a4 : decide ((X : Int) < 0) = false := decide_eq_false (by omega)
          have a5 : decide (yv < 0) = false := decide_eq_false (by omega)
          have e1 : decide (sk + 1 < (X : Int)) = false := decide_eq_false (by omega)
          have e2 : decide (gk + 1 < yv) = false := decide_eq_false (by omega)
          have hxp : decide (0 < (X : Int)) = true := decide_eq_true hx0
          have hXn : X < n + 1 := by omega
          have hXn2 : (X : Int) < (n : Int) + 1 := by omega
          have hX0 : 0 < X := by omega
          have a6 : (X == 0) = false := by rw [beq_eq_false_iff_ne]; omega
          have hxp2 : decide (0 < X) = true := decide_eq_true hX0
          obtain ⟨s1, hs1v⟩ : ∃ v : Int, (S (k + 1) : Int) = v := ⟨_, rfl⟩
          obtain ⟨g1, hg1v⟩ : ∃ v : Int, (G (k + 1) : Int) = v := ⟨_, rfl⟩
          have em1 : max sk (X : Int) = s1 := by rw [← hs1v]; exact hs1.symm
          have em2 : max gk yv = g1 := by rw [← hg1v]; exact hs2.symm
          have hSs := Lib.hid hs1v
          have hGs := Lib.hid hg1v
          clear hs1v hg1v
          obtain ⟨tv, htv0⟩ : ∃ v, px T (X : Int) = v := ⟨_, rfl⟩
          rw [htv0] at hTX
          have htv := Lib.hid htv0
          clear hxz hyz hs1 hs2 htv0 hp0
          go_wp2_with fail
          clear m2
          refine plain_region (fun W' => Below wr.heap.size wr W') 12 12 (by kernel_rfl) rfl ?_
          simp only [Array.replicate_succ, Array.replicate_zero, List.push_toArray, List.nil_append, List.cons_append]
          refine take_op 0 (v := ?pv0) rfl (by kernel_rfl) (fun _ _ _ h => h) (by rfl) hS (fun w' hS' => ?py0) ?pz0
          case py0 =>
            go_simp
            rfl
          simp only [List.setIfInBounds_toArray, List.set_cons_zero, List.set_cons_succ]
          refine take_op 1 (v := ?pv1) rfl (by kernel_rfl) (fun _ _ _ h => h) (by rfl) hS (fun w' hS' => ?py1) ?pz1
          case py1 =>
            have xa2 := (kA'.below hS' kA'.lt).cell (i := 2) rfl
            have xb2 := (kB'.below hS' kB'.lt).cell (i := 2) rfl
            have cA := ((hBw.trans (hS'.mono hBw.size)).cell (p := ⟨bA, oA + k, none⟩) hbA).trans (hcAH.out k hk)
            have cB := ((hBw.trans (hS'.mono hBw.size)).cell (p := ⟨bB, oB + k, none⟩) hbB).trans (hcBH.out k hk)
            rw [hxv.out] at cA
            rw [hyv.out] at cB
            go_simp
            rfl
          simp only [List.setIfInBounds_toArray, List.set_cons_zero, List.set_cons_succ]
          refine take_op 2 (v := ?pv2) rfl (by kernel_rfl) (fun _ _ _ h => h) (by rfl) hS (fun w' hS' => ?py2) ?pz2
          case py2 =>
            go_simp
            rfl
          simp only [List.setIfInBounds_toArray, List.set_cons_zero, List.set_cons_succ]
          refine take_op 3 (v := ?pv3) rfl (by kernel_rfl) (fun _ _ _ h => h) (by rfl) hS (fun w' hS' => ?py3) ?pz3
          case py3 =>
            go_simp
            try go_ints
            first
            | rfl
            | rw [if_pos ⟨by omega, by omega⟩]
          simp only [List.setIfInBounds_toArray, List.set_cons_zero, List.set_cons_succ]
          refine take_op 4 (v := ?pv4) rfl (by kernel_rfl) (fun _ _ _ h => h) (by rfl) hS (fun w' hS' => ?py4) ?pz4
          case py4 =>
            have xa2 := (kA'.below hS' kA'.lt).cell (i := 2) rfl
            have xb2 := (kB'.below hS' kB'.lt).cell (i := 2) rfl
            have cA := ((hBw.trans (hS'.mono hBw.size)).cell (p := ⟨bA, oA + k, none⟩) hbA).trans (hcAH.out k hk)
            have cB := ((hBw.trans (hS'.mono hBw.size)).cell (p := ⟨bB, oB + k, none⟩) hbB).trans (hcBH.out k hk)
            rw [hxv.out] at cA
            rw [hyv.out] at cB
            go_simp
            rfl
          simp only [List.setIfInBounds_toArray, List.set_cons_zero, List.set_cons_succ]
          refine take_op 5 (v := ?pv5) rfl (by kernel_rfl) (fun _ _ _ h => h) (by rfl) hS (fun w' hS' => ?py5) ?pz5
          case py5 =>
            go_simp
            rfl
          simp only [List.setIfInBounds_toArray, List.set_cons_zero, List.set_cons_succ]
          refine take_op 6 (v := ?pv6) rfl (by kernel_rfl) (fun _ _ _ h => h) (by rfl) hS (fun w' hS' => ?py6) ?pz6
          case py6 =>
            have xa2 := (kA'.below hS' kA'.lt).cell (i := 2) rfl
            have xb2 := (kB'.below hS' kB'.lt).cell (i := 2) rfl
            have cA := ((hBw.trans (hS'.mono hBw.size)).cell (p := ⟨bA, oA + k, none⟩) hbA).trans (hcAH.out k hk)
            have cB := ((hBw.trans (hS'.mono hBw.size)).cell (p := ⟨bB, oB + k, none⟩) hbB).trans (hcBH.out k hk)
            rw [hxv.out] at cA
            rw [hyv.out] at cB
            go_simp
            rfl
          simp only [List.setIfInBounds_toArray, List.set_cons_zero, List.set_cons_succ]
          refine take_op 7 (v := ?pv7) rfl (by kernel_rfl) (fun _ _ _ h => h) (by rfl) hS (fun w' hS' => ?py7) ?pz7
          case py7 =>
            go_simp
            rfl
          simp only [List.setIfInBounds_toArray, List.set_cons_zero, List.set_cons_succ]
          refine take_op 8 (v := ?pv8) rfl (by kernel_rfl) (fun _ _ _ h => h) (by rfl) hS (fun w' hS' => ?py8) ?pz8
          case py8 =>
            go_simp
            try go_ints
            first
            | rfl
            | rw [if_pos ⟨by omega, by omega⟩]
          simp only [List.setIfInBounds_toArray, List.set_cons_zero, List.set_cons_succ]
          refine take_op 9 (v := ?pv9) rfl (by kernel_rfl) (fun _ _ _ h => h) (by rfl) hS (fun w' hS' => ?py9) ?pz9
          case py9 =>
            have xa2 := (kA'.below hS' kA'.lt).cell (i := 2) rfl
            have xb2 := (kB'.below hS' kB'.lt).cell (i := 2) rfl
            have cA := ((hBw.trans (hS'.mono hBw.size)).cell (p := ⟨bA, oA + k, none⟩) hbA).trans (hcAH.out k hk)
            have cB := ((hBw.trans (hS'.mono hBw.size)).cell (p := ⟨bB, oB + k, none⟩) hbB).trans (hcBH.out k hk)
            rw [hxv.out] at cA
            rw [hyv.out] at cB
            go_simp
            rfl
          simp only [List.setIfInBounds_toArray, List.set_cons_zero, List.set_cons_succ]
          refine take_op 10 (v := ?pv10) rfl (by kernel_rfl) (fun _ _ _ h => h) (by rfl) hS (fun w' hS' => ?py10) ?pz10
          case py10 =>
            go_simp
            rfl
          simp only [List.setIfInBounds_toArray, List.set_cons_zero, List.set_cons_succ]
          refine take_op 11 (v := ?pv11) rfl (by kernel_rfl) (fun _ _ _ h => h) (by rfl) hS (fun w' hS' => ?py11) ?pz11
          case py11 =>
            go_simp
            rfl
          simp only [List.setIfInBounds_toArray, List.set_cons_zero, List.set_cons_succ]
          refine done_ops (by kernel_rfl) ?_
          obtain ⟨wd, hwd⟩ : ∃ X, wr.drew = X := ⟨_, rfl⟩
          rw [hwd] at hS ⊢
          clear hwd
          have row4 := row_below rowT hS
          have hfr := row4.frozenAt X
          have ct := row4.cellAt X (by omega)
          have ct2 : wd.cell? ⟨V8.heap.size, X, none⟩ = some (.int .i64 tv) := by rw [ct, List.getElem?_map, List.getElem?_eq_getElem (by rw [hTP.len]; exact hXn), ← htv.out, px_nat, List.getElem?_eq_getElem (by rw [hTP.len]; exact hXn)]; rfl
          clear ct
          have m2 := (ka'.below hS ka'.lt).cell (i := 2) rfl
          have m1 := (ka'.below hS ka'.lt).cell (i := 1) rfl
          have m0 := (ka'.below hS ka'.lt).cell (i := 0) rfl
          have ca := ((hBr.trans (hS.mono hBr.size)).cell (p := ⟨ba, oa + k, none⟩) hba).trans (hcaH.out k hk)
          rw [hpv.out] at ca
          have kas := (ka'.below hS ka'.lt).other (a := ⟨V8.heap.size, X, none⟩) (by show w.heap.size ≠ V8.heap.size; have := ka.lt; omega) (.int .i64 yv)
          have n0 := kas.cell (i := 0) rfl
          have n1 := kas.cell (i := 1) rfl
          have n2 := kas.cell (i := 2) rfl
          by_cases ht0 : tv = 0
          · subst ht0
            clear hTX
            go_wp2_with fail
            refine (lneighbours_any pw ph k (some ⟨ba, oa, none⟩) c n (by omega) (by omega) (by omega) (by omega) (by rw [hNH.out]; exact hk) _).mono ?_
            rintro e V12 ⟨⟨va, vc, rfl, hL⟩, hb⟩
            have hst := row4.stored X (.int .i64 yv)
            have row5 := row_below hst.1 hb
            rw [map_set_int] at row5
            have hB12 : Below V8.heap.size V8 V12 := ((hBw.trans (hS.mono hBw.size)).setCell (p := ⟨V8.heap.size, X, none⟩) (Nat.le_refl _) (.int .i64 yv)).trans (hb.mono ((hBw.trans (hS.mono hBw.size)).setCell (p := ⟨V8.heap.size, X, none⟩) (Nat.le_refl _) (.int .i64 yv)).size)
            have kA1 := kA.below hB12 kA.lt
            clear hb hst row4 m2 m1 m0 n2 n1 n0 kas ca ct2 hfr
            obtain ⟨LL, hLL⟩ : ∃ LL, nbrL pw ph k = LL := ⟨_, rfl⟩
            have hnb : Hid (∀ j, j ∈ LL → j < n ∧ (px A k ≠ 0 → px A j ≠ 0 → px A j = px A k)) := Lib.hid (by rw [← hLL]; exact hnbr.out k hk)
            rw [hLL] at hL ⊢
            have hl4 : LL.length ≤ 4 := by rw [← hLL]; exact nbrL_length _ _ _
            clear hLL
            go_wp2_with fail
            go_loopw [17] (fun i wr => ∃ q : Nat, q ≤ LL.length ∧ i = .int .i64 (q : Int) ∧ Below V12.heap.size V12 wr) (fun i _ => LL.length - (intOf i).toNat)
            case atStart => exact ⟨0, Nat.zero_le _, rfl, Below.refl _ _⟩
            case round =>
              clear hBr hS
              obtain ⟨q, hq, rfl, hBL⟩ := hrel
              have hBq := hB12.trans (hBL.mono hB12.size)
              have kA2 := kA1.below hBL kA1.lt
              by_cases hql : q < LL.length
              · obtain ⟨j, hj⟩ : ∃ j, LL[q]? = some j := ⟨_, List.getElem?_eq_getElem hql⟩
                obtain ⟨hjn, hjs⟩ := hnb.out j (List.mem_of_getElem? hj)
                obtain ⟨bL, oL, hLa, hbL, hcl0⟩ := rowN_at hL hj
                subst hLa
                have hclH : Hid (V12.cell? ⟨bL, oL + q, none⟩ = some (.int .i64 (j : Int))) := Lib.hid hcl0
                obtain ⟨jv, hjv0⟩ : ∃ v, px A (j : Int) = v := ⟨_, rfl⟩
                rw [hjv0, hxv.out] at hjs
                have hj0 := (habd.out j).1
                rw [hjv0] at hj0
                have hjv := Lib.hid hjv0
                clear hj hcl0 hjv0
                have hS2 : Below wr.heap.size wr wr.drew := (Below.refl _ _).drew
                by_cases hj1 : 0 < jv
                · have e5 : decide (0 < jv) = true := decide_eq_true hj1
                  have hjx : jv = (X : Int) := hjs (by omega) (by omega)
                  subst hjx
                  clear hjs hj1
                  go_wp2_with fail
                  refine plain_region (fun W' => Below wr.heap.size wr W') 25 25 (by kernel_rfl) rfl ?_
                  simp only [Array.replicate_succ, Array.replicate_zero, List.push_toArray, List.nil_append, List.cons_append]
                  refine take_op 0 (v := ?pbv0) rfl (by kernel_rfl) (fun _ _ _ h => h) (by rfl) hS2 (fun w' hS' => ?pby0) ?pbz0
                  case pby0 =>
                    go_simp
                    rfl
                  simp only [List.setIfInBounds_toArray, List.set_cons_zero, List.set_cons_succ]
                  refine take_op 1 (v := .bool true) rfl (by kernel_rfl) (fun _ _ _ h => h) (by rfl) hS2 (fun w' hS' => ?pby1) ?pbz1
                  case pby1 =>
                    go_simp
                    first
                    | done
                    | (simp only [hxp]; done)
                    | (simp only [hxp2]; done)
                    | rfl
                    | (simp [hxp, hxp2]; done)
                  simp only [List.setIfInBounds_toArray, List.set_cons_zero, List.set_cons_succ]
                  refine take_op 2 (v := ?pbv2) rfl (by kernel_rfl) (fun _ _ _ h => h) (by rfl) hS2 (fun w' hS' => ?pby2) ?pbz2
                  case pby2 =>
                    go_simp
                    rfl
                  simp only [List.setIfInBounds_toArray, List.set_cons_zero, List.set_cons_succ]
                  refine take_op 3 (v := ?pbv3) rfl (by kernel_rfl) (fun _ _ _ h => h) (by rfl) hS2 (fun w' hS' => ?pby3) ?pbz3
                  case pby3 =>
                    go_simp
                    rfl
                  simp only [List.setIfInBounds_toArray, List.set_cons_zero, List.set_cons_succ]
                  refine take_op 4 (v := ?pbv4) rfl (by kernel_rfl) (fun _ _ _ h => h) (by rfl) hS2 (fun w' hS' => ?pby4) ?pbz4
                  case pby4 =>
                    have xa2 := (kA2.below hS' kA2.lt).cell (i := 2) rfl
                    have cj := ((hBq.trans (hS'.mono hBq.size)).cell (p := ⟨bA, oA + j, none⟩) hbA).trans (hcAH.out j hjn)
                    have cl := ((hBL.trans (hS'.mono hBL.size)).cell (p := ⟨bL, oL + q, none⟩) hbL).trans hclH.out
                    rw [hjv.out] at cj
                    go_simp
                    rfl
                  simp only [List.setIfInBounds_toArray, List.set_cons_zero, List.set_cons_succ]
                  refine take_op 5 (v := ?pbv5) rfl (by kernel_rfl) (fun _ _ _ h => h) (by rfl) hS2 (fun w' hS' => ?pby5) ?pbz5
                  case pby5 =>
                    go_simp
                    rfl
                  simp only [List.setIfInBounds_toArray, List.set_cons_zero, List.set_cons_succ]
                  refine take_op 6 (v := ?pbv6) rfl (by kernel_rfl) (fun _ _ _ h => h) (by rfl) hS2 (fun w' hS' => ?pby6) ?pbz6
                  case pby6 =>
                    go_simp
                    rfl
                  simp only [List.setIfInBounds_toArray, List.set_cons_zero, List.set_cons_succ]
                  refine take_op 7 (v := ?pbv7) rfl (by kernel_rfl) (fun _ _ _ h => h) (by rfl) hS2 (fun w' hS' => ?pby7) ?pbz7
                  case pby7 =>
                    go_simp
                    try go_ints
                    first
                    | rfl
                    | rw [if_pos ⟨by omega, by omega⟩]
                  simp only [List.setIfInBounds_toArray, List.set_cons_zero, List.set_cons_succ]
                  refine take_op 8 (v := ?pbv8) rfl (by kernel_rfl) (fun _ _ _ h => h) (by rfl) hS2 (fun w' hS' => ?pby8) ?pbz8
                  case pby8 =>
                    have xa2 := (kA2.below hS' kA2.lt).cell (i := 2) rfl
                    have cj := ((hBq.trans (hS'.mono hBq.size)).cell (p := ⟨bA, oA + j, none⟩) hbA).trans (hcAH.out j hjn)
                    have cl := ((hBL.trans (hS'.mono hBL.size)).cell (p := ⟨bL, oL + q, none⟩) hbL).trans hclH.out
                    rw [hjv.out] at cj
                    go_simp
                    rfl
                  simp only [List.setIfInBounds_toArray, List.set_cons_zero, List.set_cons_succ]
                  refine take_op 9 (v := ?pbv9) rfl (by kernel_rfl) (fun _ _ _ h => h) (by rfl) hS2 (fun w' hS' => ?pby9) ?pbz9
                  case pby9 =>
                    go_simp
                    try go_ints
                    first
                    | rfl
                    | rw [if_pos ⟨by omega, by omega⟩]
                  simp only [List.setIfInBounds_toArray, List.set_cons_zero, List.set_cons_succ]
                  refine take_op 10 (v := ?pbv10) rfl (by kernel_rfl) (fun _ _ _ h => h) (by rfl) hS2 (fun w' hS' => ?pby10) ?pbz10
                  case pby10 =>
                    have xa2 := (kA2.below hS' kA2.lt).cell (i := 2) rfl
                    have cj := ((hBq.trans (hS'.mono hBq.size)).cell (p := ⟨bA, oA + j, none⟩) hbA).trans (hcAH.out j hjn)
                    have cl := ((hBL.trans (hS'.mono hBL.size)).cell (p := ⟨bL, oL + q, none⟩) hbL).trans hclH.out
                    rw [hjv.out] at cj
                    go_simp
                    rfl
                  simp only [List.setIfInBounds_toArray, List.set_cons_zero, List.set_cons_succ]
                  refine take_op 11 (v := .bool true) rfl (by kernel_rfl) (fun _ _ _ h => h) (by rfl) hS2 (fun w' hS' => ?pby11) ?pbz11
                  case pby11 =>
                    go_simp
                    first
                    | done
                    | (simp only [e5]; done)
                    | (simp only [hxp]; done)
                    | (simp only [hxp2]; done)
                    | rfl
                    | (simp [e5, hxp, hxp2]; done)
                  simp only [List.setIfInBounds_toArray, List.set_cons_zero, List.set_cons_succ]
                  refine take_op 12 (v := ?pbv12) rfl (by kernel_rfl) (fun _ _ _ h => h) (by rfl) hS2 (fun w' hS' => ?pby12) ?pbz12
                  case pby12 =>
                    go_simp
                    rfl
                  simp only [List.setIfInBounds_toArray, List.set_cons_zero, List.set_cons_succ]
                  refine take_op 13 (v := ?pbv13) rfl (by kernel_rfl) (fun _ _ _ h => h) (by rfl) hS2 (fun w' hS' => ?pby13) ?pbz13
                  case pby13 =>
                    go_simp
                    rfl
                  simp only [List.setIfInBounds_toArray, List.set_cons_zero, List.set_cons_succ]
                  refine take_op 14 (v := ?pbv14) rfl (by kernel_rfl) (fun _ _ _ h => h) (by rfl) hS2 (fun w' hS' => ?pby14) ?pbz14
                  case pby14 =>
                    go_simp
                    rfl
                  simp only [List.setIfInBounds_toArray, List.set_cons_zero, List.set_cons_succ]
                  refine take_op 15 (v := ?pbv15) rfl (by kernel_rfl) (fun _ _ _ h => h) (by rfl) hS2 (fun w' hS' => ?pby15) ?pbz15
                  case pby15 =>
                    have xa2 := (kA2.below hS' kA2.lt).cell (i := 2) rfl
                    have cj := ((hBq.trans (hS'.mono hBq.size)).cell (p := ⟨bA, oA + j, none⟩) hbA).trans (hcAH.out j hjn)
                    have cl := ((hBL.trans (hS'.mono hBL.size)).cell (p := ⟨bL, oL + q, none⟩) hbL).trans hclH.out
                    rw [hjv.out] at cj
                    go_simp
                    rfl
                  simp only [List.setIfInBounds_toArray, List.set_cons_zero, List.set_cons_succ]
                  refine take_op 16 (v := ?pbv16) rfl (by kernel_rfl) (fun _ _ _ h => h) (by rfl) hS2 (fun w' hS' => ?pby16) ?pbz16
                  case pby16 =>
                    go_simp
                    rfl
                  simp only [List.setIfInBounds_toArray, List.set_cons_zero, List.set_cons_succ]
                  refine take_op 17 (v := ?pbv17) rfl (by kernel_rfl) (fun _ _ _ h => h) (by rfl) hS2 (fun w' hS' => ?pby17) ?pbz17
                  case pby17 =>
                    go_simp
                    rfl
                  simp only [List.setIfInBounds_toArray, List.set_cons_zero, List.set_cons_succ]
                  refine take_op 18 (v := ?pbv18) rfl (by kernel_rfl) (fun _ _ _ h => h) (by rfl) hS2 (fun w' hS' => ?pby18) ?pbz18
                  case pby18 =>
                    go_simp
                    try go_ints
                    first
                    | rfl
                    | rw [if_pos ⟨by omega, by omega⟩]
                  simp only [List.setIfInBounds_toArray, List.set_cons_zero, List.set_cons_succ]
                  refine take_op 19 (v := ?pbv19) rfl (by kernel_rfl) (fun _ _ _ h => h) (by rfl) hS2 (fun w' hS' => ?pby19) ?pbz19
                  case pby19 =>
                    have xa2 := (kA2.below hS' kA2.lt).cell (i := 2) rfl
                    have cj := ((hBq.trans (hS'.mono hBq.size)).cell (p := ⟨bA, oA + j, none⟩) hbA).trans (hcAH.out j hjn)
                    have cl := ((hBL.trans (hS'.mono hBL.size)).cell (p := ⟨bL, oL + q, none⟩) hbL).trans hclH.out
                    rw [hjv.out] at cj
                    go_simp
                    rfl
                  simp only [List.setIfInBounds_toArray, List.set_cons_zero, List.set_cons_succ]
                  refine take_op 20 (v := ?pbv20) rfl (by kernel_rfl) (fun _ _ _ h => h) (by rfl) hS2 (fun w' hS' => ?pby20) ?pbz20
                  case pby20 =>
                    go_simp
                    try go_ints
                    first
                    | rfl
                    | rw [if_pos ⟨by omega, by omega⟩]
                  simp only [List.setIfInBounds_toArray, List.set_cons_zero, List.set_cons_succ]
                  refine take_op 21 (v := ?pbv21) rfl (by kernel_rfl) (fun _ _ _ h => h) (by rfl) hS2 (fun w' hS' => ?pby21) ?pbz21
                  case pby21 =>
                    have xa2 := (kA2.below hS' kA2.lt).cell (i := 2) rfl
                    have cj := ((hBq.trans (hS'.mono hBq.size)).cell (p := ⟨bA, oA + j, none⟩) hbA).trans (hcAH.out j hjn)
                    have cl := ((hBL.trans (hS'.mono hBL.size)).cell (p := ⟨bL, oL + q, none⟩) hbL).trans hclH.out
                    rw [hjv.out] at cj
                    go_simp
                    rfl
                  simp only [List.setIfInBounds_toArray, List.set_cons_zero, List.set_cons_succ]
                  refine take_op 22 (v := ?pbv22) rfl (by kernel_rfl) (fun _ _ _ h => h) (by rfl) hS2 (fun w' hS' => ?pby22) ?pbz22
                  case pby22 =>
                    go_simp
                    rfl
                  simp only [List.setIfInBounds_toArray, List.set_cons_zero, List.set_cons_succ]
                  refine take_op 23 (v := .bool false) rfl (by kernel_rfl) (fun _ _ _ h => h) (by rfl) hS2 (fun w' hS' => ?pby23) ?pbz23
                  case pby23 =>
                    go_simp
                    first
                    | done
                    | rfl
                    | (simp; done)
                  simp only [List.setIfInBounds_toArray, List.set_cons_zero, List.set_cons_succ]
                  refine take_op 24 (v := ?pbv24) rfl (by kernel_rfl) (fun _ _ _ h => h) (by rfl) hS2 (fun w' hS' => ?pby24) ?pbz24
                  case pby24 =>
                    go_simp
                    rfl
                  simp only [List.setIfInBounds_toArray, List.set_cons_zero, List.set_cons_succ]
                  refine done_ops (by kernel_rfl) ?_
                  go_wp2_with fail
                  go_roundw
                  case rel => exact ⟨q + 1, by omega, by go_num, hBL.trans (hS2.mono hBL.size)⟩
                  case measure => simp [intOf]; omega
                · have e5 : decide (0 < jv) = false := decide_eq_false hj1
                  clear hjs hj1
                  go_wp2_with fail
                  refine plain_region (fun W' => Below wr.heap.size wr W') 25 25 (by kernel_rfl) rfl ?_
                  simp only [Array.replicate_succ, Array.replicate_zero, List.push_toArray, List.nil_append, List.cons_append]
                  refine take_op 0 (v := ?pcv0) rfl (by kernel_rfl) (fun _ _ _ h => h) (by rfl) hS2 (fun w' hS' => ?pcy0) ?pcz0
                  case pcy0 =>
                    go_simp
                    rfl
                  simp only [List.setIfInBounds_toArray, List.set_cons_zero, List.set_cons_succ]
                  refine take_op 1 (v := .bool true) rfl (by kernel_rfl) (fun _ _ _ h => h) (by rfl) hS2 (fun w' hS' => ?pcy1) ?pcz1
                  case pcy1 =>
                    go_simp
                    first
                    | done
                    | (simp only [hxp]; done)
                    | (simp only [hxp2]; done)
                    | rfl
                    | (simp [hxp, hxp2]; done)
                  simp only [List.setIfInBounds_toArray, List.set_cons_zero, List.set_cons_succ]
                  refine take_op 2 (v := ?pcv2) rfl (by kernel_rfl) (fun _ _ _ h => h) (by rfl) hS2 (fun w' hS' => ?pcy2) ?pcz2
                  case pcy2 =>
                    go_simp
                    rfl
                  simp only [List.setIfInBounds_toArray, List.set_cons_zero, List.set_cons_succ]
                  refine take_op 3 (v := ?pcv3) rfl (by kernel_rfl) (fun _ _ _ h => h) (by rfl) hS2 (fun w' hS' => ?pcy3) ?pcz3
                  case pcy3 =>
                    go_simp
                    rfl
                  simp only [List.setIfInBounds_toArray, List.set_cons_zero, List.set_cons_succ]
                  refine take_op 4 (v := ?pcv4) rfl (by kernel_rfl) (fun _ _ _ h => h) (by rfl) hS2 (fun w' hS' => ?pcy4) ?pcz4
                  case pcy4 =>
                    have xa2 := (kA2.below hS' kA2.lt).cell (i := 2) rfl
                    have cj := ((hBq.trans (hS'.mono hBq.size)).cell (p := ⟨bA, oA + j, none⟩) hbA).trans (hcAH.out j hjn)
                    have cl := ((hBL.trans (hS'.mono hBL.size)).cell (p := ⟨bL, oL + q, none⟩) hbL).trans hclH.out
                    rw [hjv.out] at cj
                    go_simp
                    rfl
                  simp only [List.setIfInBounds_toArray, List.set_cons_zero, List.set_cons_succ]
                  refine take_op 5 (v := ?pcv5) rfl (by kernel_rfl) (fun _ _ _ h => h) (by rfl) hS2 (fun w' hS' => ?pcy5) ?pcz5
                  case pcy5 =>
                    go_simp
                    rfl
                  simp only [List.setIfInBounds_toArray, List.set_cons_zero, List.set_cons_succ]
                  refine take_op 6 (v := ?pcv6) rfl (by kernel_rfl) (fun _ _ _ h => h) (by rfl) hS2 (fun w' hS' => ?pcy6) ?pcz6
                  case pcy6 =>
                    go_simp
                    rfl
                  simp only [List.setIfInBounds_toArray, List.set_cons_zero, List.set_cons_succ]
                  refine take_op 7 (v := ?pcv7) rfl (by kernel_rfl) (fun _ _ _ h => h) (by rfl) hS2 (fun w' hS' => ?pcy7) ?pcz7
                  case pcy7 =>
                    go_simp
                    try go_ints
                    first
                    | rfl
                    | rw [if_pos ⟨by omega, by omega⟩]
                  simp only [List.setIfInBounds_toArray, List.set_cons_zero, List.set_cons_succ]
                  refine take_op 8 (v := ?pcv8) rfl (by kernel_rfl) (fun _ _ _ h => h) (by rfl) hS2 (fun w' hS' => ?pcy8) ?pcz8
                  case pcy8 =>
                    have xa2 := (kA2.below hS' kA2.lt).cell (i := 2) rfl
                    have cj := ((hBq.trans (hS'.mono hBq.size)).cell (p := ⟨bA, oA + j, none⟩) hbA).trans (hcAH.out j hjn)
                    have cl := ((hBL.trans (hS'.mono hBL.size)).cell (p := ⟨bL, oL + q, none⟩) hbL).trans hclH.out
                    rw [hjv.out] at cj
                    go_simp
                    rfl
                  simp only [List.setIfInBounds_toArray, List.set_cons_zero, List.set_cons_succ]
                  refine take_op 9 (v := ?pcv9) rfl (by kernel_rfl) (fun _ _ _ h => h) (by rfl) hS2 (fun w' hS' => ?pcy9) ?pcz9
                  case pcy9 =>
                    go_simp
                    try go_ints
                    first
                    | rfl
                    | rw [if_pos ⟨by omega, by omega⟩]
                  simp only [List.setIfInBounds_toArray, List.set_cons_zero, List.set_cons_succ]
                  refine take_op 10 (v := ?pcv10) rfl (by kernel_rfl) (fun _ _ _ h => h) (by rfl) hS2 (fun w' hS' => ?pcy10) ?pcz10
                  case pcy10 =>
                    have xa2 := (kA2.below hS' kA2.lt).cell (i := 2) rfl
                    have cj := ((hBq.trans (hS'.mono hBq.size)).cell (p := ⟨bA, oA + j, none⟩) hbA).trans (hcAH.out j hjn)
                    have cl := ((hBL.trans (hS'.mono hBL.size)).cell (p := ⟨bL, oL + q, none⟩) hbL).trans hclH.out
                    rw [hjv.out] at cj
                    go_simp
                    rfl
                  simp only [List.setIfInBounds_toArray, List.set_cons_zero, List.set_cons_succ]
                  refine take_op 11 (v := .bool false) rfl (by kernel_rfl) (fun _ _ _ h => h) (by rfl) hS2 (fun w' hS' => ?pcy11) ?pcz11
                  case pcy11 =>
                    go_simp
                    first
                    | done
                    | (simp only [e5]; done)
                    | rfl
                    | (simp [e5]; done)
                  simp only [List.setIfInBounds_toArray, List.set_cons_zero, List.set_cons_succ]
                  refine take_op 12 (v := ?pcv12) rfl (by kernel_rfl) (fun _ _ _ h => h) (by rfl) hS2 (fun w' hS' => ?pcy12) ?pcz12
                  case pcy12 =>
                    go_simp
                    rfl
                  simp only [List.setIfInBounds_toArray, List.set_cons_zero, List.set_cons_succ]
                  refine take_op 13 (v := ?pcv13) rfl (by kernel_rfl) (fun _ _ _ h => h) (by rfl) hS2 (fun w' hS' => ?pcy13) ?pcz13
                  case pcy13 =>
                    go_simp
                    rfl
                  simp only [List.setIfInBounds_toArray, List.set_cons_zero, List.set_cons_succ]
                  refine pass_op 14 rfl (by kernel_rfl) (fun _ _ _ h => h) (by rfl) hS2 ?_
                  simp only [List.setIfInBounds_toArray, List.set_cons_zero, List.set_cons_succ]
                  refine pass_op 15 rfl (by kernel_rfl) (fun _ _ _ h => h) (by rfl) hS2 ?_
                  simp only [List.setIfInBounds_toArray, List.set_cons_zero, List.set_cons_succ]
                  refine pass_op 16 rfl (by kernel_rfl) (fun _ _ _ h => h) (by rfl) hS2 ?_
                  simp only [List.setIfInBounds_toArray, List.set_cons_zero, List.set_cons_succ]
                  refine pass_op 17 rfl (by kernel_rfl) (fun _ _ _ h => h) (by rfl) hS2 ?_
                  simp only [List.setIfInBounds_toArray, List.set_cons_zero, List.set_cons_succ]
                  refine pass_op 18 rfl (by kernel_rfl) (fun _ _ _ h => h) (by rfl) hS2 ?_
                  simp only [List.setIfInBounds_toArray, List.set_cons_zero, List.set_cons_succ]
                  refine pass_op 19 rfl (by kernel_rfl) (fun _ _ _ h => h) (by rfl) hS2 ?_
                  simp only [List.setIfInBounds_toArray, List.set_cons_zero, List.set_cons_succ]
                  refine pass_op 20 rfl (by kernel_rfl) (fun _ _ _ h => h) (by rfl) hS2 ?_
                  simp only [List.setIfInBounds_toArray, List.set_cons_zero, List.set_cons_succ]
                  refine pass_op 21 rfl (by kernel_rfl) (fun _ _ _ h => h) (by rfl) hS2 ?_
                  simp only [List.setIfInBounds_toArray, List.set_cons_zero, List.set_cons_succ]
                  refine pass_op 22 rfl (by kernel_rfl) (fun _ _ _ h => h) (by rfl) hS2 ?_
                  simp only [List.setIfInBounds_toArray, List.set_cons_zero, List.set_cons_succ]
                  refine pass_op 23 rfl (by kernel_rfl) (fun _ _ _ h => h) (by rfl) hS2 ?_
                  simp only [List.setIfInBounds_toArray, List.set_cons_zero, List.set_cons_succ]
                  refine take_op 24 (v := ?pcv24) rfl (by kernel_rfl) (fun _ _ _ h => h) (by rfl) hS2 (fun w' hS' => ?pcy24) ?pcz24
                  case pcy24 =>
                    go_simp
                    rfl
                  simp only [List.setIfInBounds_toArray, List.set_cons_zero, List.set_cons_succ]
                  refine done_ops (by kernel_rfl) ?_
                  go_wp2_with fail
                  go_roundw
                  case rel => exact ⟨q + 1, by omega, by go_num, hBL.trans (hS2.mono hBL.size)⟩
                  case measure => simp [intOf]; omega
              · have hqq : q = LL.length := by omega
                subst hqq
                go_wp2_with fail
                go_roundw
                case rel => exact ⟨k + 1, (T.set X yv), by omega, by go_num, by rw [hSs.out], by rw [hGs.out], hTP2.out, hBq, row_below row5 hBL⟩
                case measure => simp [intOf]; omega
          · have b1 : (tv == 0) = false := by rw [beq_eq_false_iff_ne]; exact ht0
            have b1' : (tv != 0) = true := by simp [ht0]
            obtain rfl : yv = tv := (hTX.resolve_left ht0).symm
            clear hTX ht0
            go_wp2_with fail
            refine (lneighbours_any pw ph k (some ⟨ba, oa, none⟩) c n (by omega) (by omega) (by omega) (by omega) (by rw [hNH.out]; exact hk) _).mono ?_
            rintro e V12 ⟨⟨va, vc, rfl, hL⟩, hb⟩
            have hst := row4.stored X (.int .i64 yv)
            have row5 := row_below hst.1 hb
            rw [map_set_int] at row5
            have hB12 : Below V8.heap.size V8 V12 := ((hBw.trans (hS.mono hBw.size)).setCell (p := ⟨V8.heap.size, X, none⟩) (Nat.le_refl _) (.int .i64 yv)).trans (hb.mono ((hBw.trans (hS.mono hBw.size)).setCell (p := ⟨V8.heap.size, X, none⟩) (Nat.le_refl _) (.int .i64 yv)).size)
            have kA1 := kA.below hB12 kA.lt
            clear hb hst row4 m2 m1 m0 n2 n1 n0 kas ca ct2 hfr
            obtain ⟨LL, hLL⟩ : ∃ LL, nbrL pw ph k = LL := ⟨_, rfl⟩
            have hnb : Hid (∀ j, j ∈ LL → j < n ∧ (px A k ≠ 0 → px A j ≠ 0 → px A j = px A k)) := Lib.hid (by rw [← hLL]; exact hnbr.out k hk)
            rw [hLL] at hL ⊢
            have hl4 : LL.length ≤ 4 := by rw [← hLL]; exact nbrL_length _ _ _
            clear hLL
            go_wp2_with fail
            go_loopw [17] (fun i wr => ∃ q : Nat, q ≤ LL.length ∧ i = .int .i64 (q : Int) ∧ Below V12.heap.size V12 wr) (fun i _ => LL.length - (intOf i).toNat)
            case atStart => exact ⟨0, Nat.zero_le _, rfl, Below.refl _ _⟩
            case round =>
              clear hBr hS
              obtain ⟨q, hq, rfl, hBL⟩ := hrel
              have hBq := hB12.trans (hBL.mono hB12.size)
              have kA2 := kA1.below hBL kA1.lt
              by_cases hql : q < LL.length
              · obtain ⟨j, hj⟩ : ∃ j, LL[q]? = some j := ⟨_, List.getElem?_eq_getElem hql⟩
                obtain ⟨hjn, hjs⟩ := hnb.out j (List.mem_of_getElem? hj)
                obtain ⟨bL, oL, hLa, hbL, hcl0⟩ := rowN_at hL hj
                subst hLa
                have hclH : Hid (V12.cell? ⟨bL, oL + q, none⟩ = some (.int .i64 (j : Int))) := Lib.hid hcl0
                obtain ⟨jv, hjv0⟩ : ∃ v, px A (j : Int) = v := ⟨_, rfl⟩
                rw [hjv0, hxv.out] at hjs
                have hj0 := (habd.out j).1
                rw [hjv0] at hj0
                have hjv := Lib.hid hjv0
                clear hj hcl0 hjv0
                have hS2 : Below wr.heap.size wr wr.drew := (Below.refl _ _).drew
                by_cases hj1 : 0 < jv
                · have e5 : decide (0 < jv) = true := decide_eq_true hj1
                  have hjx : jv = (X : Int) := hjs (by omega) (by omega)
                  subst hjx
                  clear hjs hj1
                  go_wp2_with fail
                  refine plain_region (fun W' => Below wr.heap.size wr W') 25 25 (by kernel_rfl) rfl ?_
                  simp only [Array.replicate_succ, Array.replicate_zero, List.push_toArray, List.nil_append, List.cons_append]
                  refine take_op 0 (v := ?qbv0) rfl (by kernel_rfl) (fun _ _ _ h => h) (by rfl) hS2 (fun w' hS' => ?qby0) ?qbz0
                  case qby0 =>
                    go_simp
                    rfl
                  simp only [List.setIfInBounds_toArray, List.set_cons_zero, List.set_cons_succ]
                  refine take_op 1 (v := .bool true) rfl (by kernel_rfl) (fun _ _ _ h => h) (by rfl) hS2 (fun w' hS' => ?qby1) ?qbz1
                  case qby1 =>
                    go_simp
                    first
                    | done
                    | (simp only [hxp]; done)
                    | (simp only [hxp2]; done)
                    | rfl
                    | (simp [hxp, hxp2]; done)
                  simp only [List.setIfInBounds_toArray, List.set_cons_zero, List.set_cons_succ]
                  refine take_op 2 (v := ?qbv2) rfl (by kernel_rfl) (fun _ _ _ h => h) (by rfl) hS2 (fun w' hS' => ?qby2) ?qbz2
                  case qby2 =>
                    go_simp
                    rfl
                  simp only [List.setIfInBounds_toArray, List.set_cons_zero, List.set_cons_succ]
                  refine take_op 3 (v := ?qbv3) rfl (by kernel_rfl) (fun _ _ _ h => h) (by rfl) hS2 (fun w' hS' => ?qby3) ?qbz3
                  case qby3 =>
                    go_simp
                    rfl
                  simp only [List.setIfInBounds_toArray, List.set_cons_zero, List.set_cons_succ]
                  refine take_op 4 (v := ?qbv4) rfl (by kernel_rfl) (fun _ _ _ h => h) (by rfl) hS2 (fun w' hS' => ?qby4) ?qbz4
                  case qby4 =>
                    have xa2 := (kA2.below hS' kA2.lt).cell (i := 2) rfl
                    have cj := ((hBq.trans (hS'.mono hBq.size)).cell (p := ⟨bA, oA + j, none⟩) hbA).trans (hcAH.out j hjn)
                    have cl := ((hBL.trans (hS'.mono hBL.size)).cell (p := ⟨bL, oL + q, none⟩) hbL).trans hclH.out
                    rw [hjv.out] at cj
                    go_simp
                    rfl
                  simp only [List.setIfInBounds_toArray, List.set_cons_zero, List.set_cons_succ]
                  refine take_op 5 (v := ?qbv5) rfl (by kernel_rfl) (fun _ _ _ h => h) (by rfl) hS2 (fun w' hS' => ?qby5) ?qbz5
                  case qby5 =>
                    go_simp
                    rfl
                  simp only [List.setIfInBounds_toArray, List.set_cons_zero, List.set_cons_succ]
                  refine take_op 6 (v := ?qbv6) rfl (by kernel_rfl) (fun _ _ _ h => h) (by rfl) hS2 (fun w' hS' => ?qby6) ?qbz6
                  case qby6 =>
                    go_simp
                    rfl
                  simp only [List.setIfInBounds_toArray, List.set_cons_zero, List.set_cons_succ]
                  refine take_op 7 (v := ?qbv7) rfl (by kernel_rfl) (fun _ _ _ h => h) (by rfl) hS2 (fun w' hS' => ?qby7) ?qbz7
                  case qby7 =>
                    go_simp
                    try go_ints
                    first
                    | rfl
                    | rw [if_pos ⟨by omega, by omega⟩]
                  simp only [List.setIfInBounds_toArray, List.set_cons_zero, List.set_cons_succ]
                  refine take_op 8 (v := ?qbv8) rfl (by kernel_rfl) (fun _ _ _ h => h) (by rfl) hS2 (fun w' hS' => ?qby8) ?qbz8
                  case qby8 =>
                    have xa2 := (kA2.below hS' kA2.lt).cell (i := 2) rfl
                    have cj := ((hBq.trans (hS'.mono hBq.size)).cell (p := ⟨bA, oA + j, none⟩) hbA).trans (hcAH.out j hjn)
                    have cl := ((hBL.trans (hS'.mono hBL.size)).cell (p := ⟨bL, oL + q, none⟩) hbL).trans hclH.out
                    rw [hjv.out] at cj
                    go_simp
                    rfl
                  simp only [List.setIfInBounds_toArray, List.set_cons_zero, List.set_cons_succ]
                  refine take_op 9 (v := ?qbv9) rfl (by kernel_rfl) (fun _ _ _ h => h) (by rfl) hS2 (fun w' hS' => ?qby9) ?qbz9
                  case qby9 =>
                    go_simp
                    try go_ints
                    first
                    | rfl
                    | rw [if_pos ⟨by omega, by omega⟩]
                  simp only [List.setIfInBounds_toArray, List.set_cons_zero, List.set_cons_succ]
                  refine take_op 10 (v := ?qbv10) rfl (by kernel_rfl) (fun _ _ _ h => h) (by rfl) hS2 (fun w' hS' => ?qby10) ?qbz10
                  case qby10 =>
                    have xa2 := (kA2.below hS' kA2.lt).cell (i := 2) rfl
                    have cj := ((hBq.trans (hS'.mono hBq.size)).cell (p := ⟨bA, oA + j, none⟩) hbA).trans (hcAH.out j hjn)
                    have cl := ((hBL.trans (hS'.mono hBL.size)).cell (p := ⟨bL, oL + q, none⟩) hbL).trans hclH.out
                    rw [hjv.out] at cj
                    go_simp
                    rfl
                  simp only [List.setIfInBounds_toArray, List.set_cons_zero, List.set_cons_succ]
                  refine take_op 11 (v := .bool true) rfl (by kernel_rfl) (fun _ _ _ h => h) (by rfl) hS2 (fun w' hS' => ?qby11) ?qbz11
                  case qby11 =>
                    go_simp
                    first
                    | done
                    | (simp only [e5]; done)
                    | (simp only [hxp]; done)
                    | (simp only [hxp2]; done)
                    | rfl
                    | (simp [e5, hxp, hxp2]; done)
                  simp only [List.setIfInBounds_toArray, List.set_cons_zero, List.set_cons_succ]
                  refine take_op 12 (v := ?qbv12) rfl (by kernel_rfl) (fun _ _ _ h => h) (by rfl) hS2 (fun w' hS' => ?qby12) ?qbz12
                  case qby12 =>
                    go_simp
                    rfl
                  simp only [List.setIfInBounds_toArray, List.set_cons_zero, List.set_cons_succ]
                  refine take_op 13 (v := ?qbv13) rfl (by kernel_rfl) (fun _ _ _ h => h) (by rfl) hS2 (fun w' hS' => ?qby13) ?qbz13
                  case qby13 =>
                    go_simp
                    rfl
                  simp only [List.setIfInBounds_toArray, List.set_cons_zero, List.set_cons_succ]
                  refine take_op 14 (v := ?qbv14) rfl (by kernel_rfl) (fun _ _ _ h => h) (by rfl) hS2 (fun w' hS' => ?qby14) ?qbz14
                  case qby14 =>
                    go_simp
                    rfl
                  simp only [List.setIfInBounds_toArray, List.set_cons_zero, List.set_cons_succ]
                  refine take_op 15 (v := ?qbv15) rfl (by kernel_rfl) (fun _ _ _ h => h) (by rfl) hS2 (fun w' hS' => ?qby15) ?qbz15
                  case qby15 =>
                    have xa2 := (kA2.below hS' kA2.lt).cell (i := 2) rfl
                    have cj := ((hBq.trans (hS'.mono hBq.size)).cell (p := ⟨bA, oA + j, none⟩) hbA).trans (hcAH.out j hjn)
                    have cl := ((hBL.trans (hS'.mono hBL.size)).cell (p := ⟨bL, oL + q, none⟩) hbL).trans hclH.out
                    rw [hjv.out] at cj
                    go_simp
                    rfl
                  simp only [List.setIfInBounds_toArray, List.set_cons_zero, List.set_cons_succ]
                  refine take_op 16 (v := ?qbv16) rfl (by kernel_rfl) (fun _ _ _ h => h) (by rfl) hS2 (fun w' hS' => ?qby16) ?qbz16
                  case qby16 =>
                    go_simp
                    rfl
                  simp only [List.setIfInBounds_toArray, List.set_cons_zero, List.set_cons_succ]
                  refine take_op 17 (v := ?qbv17) rfl (by kernel_rfl) (fun _ _ _ h => h) (by rfl) hS2 (fun w' hS' => ?qby17) ?qbz17
                  case qby17 =>
                    go_simp
                    rfl
                  simp only [List.setIfInBounds_toArray, List.set_cons_zero, List.set_cons_succ]
                  refine take_op 18 (v := ?qbv18) rfl (by kernel_rfl) (fun _ _ _ h => h) (by rfl) hS2 (fun w' hS' => ?qby18) ?qbz18
                  case qby18 =>
                    go_simp
                    try go_ints
                    first
                    | rfl
                    | rw [if_pos ⟨by omega, by omega⟩]
                  simp only [List.setIfInBounds_toArray, List.set_cons_zero, List.set_cons_succ]
                  refine take_op 19 (v := ?qbv19) rfl (by kernel_rfl) (fun _ _ _ h => h) (by rfl) hS2 (fun w' hS' => ?qby19) ?qbz19
                  case qby19 =>
                    have xa2 := (kA2.below hS' kA2.lt).cell (i := 2) rfl
                    have cj := ((hBq.trans (hS'.mono hBq.size)).cell (p := ⟨bA, oA + j, none⟩) hbA).trans (hcAH.out j hjn)
                    have cl := ((hBL.trans (hS'.mono hBL.size)).cell (p := ⟨bL, oL + q, none⟩) hbL).trans hclH.out
                    rw [hjv.out] at cj
                    go_simp
                    rfl
                  simp only [List.setIfInBounds_toArray, List.set_cons_zero, List.set_cons_succ]
                  refine take_op 20 (v := ?qbv20) rfl (by kernel_rfl) (fun _ _ _ h => h) (by rfl) hS2 (fun w' hS' => ?qby20) ?qbz20
                  case qby20 =>
                    go_simp
                    try go_ints
                    first
                    | rfl
                    | rw [if_pos ⟨by omega, by omega⟩]
                  simp only [List.setIfInBounds_toArray, List.set_cons_zero, List.set_cons_succ]
                  refine take_op 21 (v := ?qbv21) rfl (by kernel_rfl) (fun _ _ _ h => h) (by rfl) hS2 (fun w' hS' => ?qby21) ?qbz21
                  case qby21 =>
                    have xa2 := (kA2.below hS' kA2.lt).cell (i := 2) rfl
                    have cj := ((hBq.trans (hS'.mono hBq.size)).cell (p := ⟨bA, oA + j, none⟩) hbA).trans (hcAH.out j hjn)
                    have cl := ((hBL.trans (hS'.mono hBL.size)).cell (p := ⟨bL, oL + q, none⟩) hbL).trans hclH.out
                    rw [hjv.out] at cj
                    go_simp
                    rfl
                  simp only [List.setIfInBounds_toArray, List.set_cons_zero, List.set_cons_succ]
                  refine take_op 22 (v := ?qbv22) rfl (by kernel_rfl) (fun _ _ _ h => h) (by rfl) hS2 (fun w' hS' => ?qby22) ?qbz22
                  case qby22 =>
                    go_simp
                    rfl
                  simp only [List.setIfInBounds_toArray, List.set_cons_zero, List.set_cons_succ]
                  refine take_op 23 (v := .bool false) rfl (by kernel_rfl) (fun _ _ _ h => h) (by rfl) hS2 (fun w' hS' => ?qby23) ?qbz23
                  case qby23 =>
                    go_simp
                    first
                    | done
                    | rfl
                    | (simp; done)
                  simp only [List.setIfInBounds_toArray, List.set_cons_zero, List.set_cons_succ]
                  refine take_op 24 (v := ?qbv24) rfl (by kernel_rfl) (fun _ _ _ h => h) (by rfl) hS2 (fun w' hS' => ?qby24) ?qbz24
                  case qby24 =>
                    go_simp
                    rfl
                  simp only [List.setIfInBounds_toArray, List.set_cons_zero, List.set_cons_succ]
                  refine done_ops (by kernel_rfl) ?_
                  go_wp2_with fail
                  go_roundw
                  case rel => exact ⟨q + 1, by omega, by go_num, hBL.trans (hS2.mono hBL.size)⟩
                  case measure => simp [intOf]; omega
                · have e5 : decide (0 < jv) = false := decide_eq_false hj1
                  clear hjs hj1
                  go_wp2_with fail
                  refine plain_region (fun W' => Below wr.heap.size wr W') 25 25 (by kernel_rfl) rfl ?_
                  simp only [Array.replicate_succ, Array.replicate_zero, List.push_toArray, List.nil_append, List.cons_append]
                  refine take_op 0 (v := ?qcv0) rfl (by kernel_rfl) (fun _ _ _ h => h) (by rfl) hS2 (fun w' hS' => ?qcy0) ?qcz0
                  case qcy0 =>
                    go_simp
                    rfl
                  simp only [List.setIfInBounds_toArray, List.set_cons_zero, List.set_cons_succ]
                  refine take_op 1 (v := .bool true) rfl (by kernel_rfl) (fun _ _ _ h => h) (by rfl) hS2 (fun w' hS' => ?qcy1) ?qcz1
                  case qcy1 =>
                    go_simp
                    first
                    | done
                    | (simp only [hxp]; done)
                    | (simp only [hxp2]; done)
                    | rfl
                    | (simp [hxp, hxp2]; done)
                  simp only [List.setIfInBounds_toArray, List.set_cons_zero, List.set_cons_succ]
                  refine take_op 2 (v := ?qcv2) rfl (by kernel_rfl) (fun _ _ _ h => h) (by rfl) hS2 (fun w' hS' => ?qcy2) ?qcz2
                  case qcy2 =>
                    go_simp
                    rfl
                  simp only [List.setIfInBounds_toArray, List.set_cons_zero, List.set_cons_succ]
                  refine take_op 3 (v := ?qcv3) rfl (by kernel_rfl) (fun _ _ _ h => h) (by rfl) hS2 (fun w' hS' => ?qcy3) ?qcz3
                  case qcy3 =>
                    go_simp
                    rfl
                  simp only [List.setIfInBounds_toArray, List.set_cons_zero, List.set_cons_succ]
                  refine take_op 4 (v := ?qcv4) rfl (by kernel_rfl) (fun _ _ _ h => h) (by rfl) hS2 (fun w' hS' => ?qcy4) ?qcz4
                  case qcy4 =>
                    have xa2 := (kA2.below hS' kA2.lt).cell (i := 2) rfl
                    have cj := ((hBq.trans (hS'.mono hBq.size)).cell (p := ⟨bA, oA + j, none⟩) hbA).trans (hcAH.out j hjn)
                    have cl := ((hBL.trans (hS'.mono hBL.size)).cell (p := ⟨bL, oL + q, none⟩) hbL).trans hclH.out
                    rw [hjv.out] at cj
                    go_simp
                    rfl
                  simp only [List.setIfInBounds_toArray, List.set_cons_zero, List.set_cons_succ]
                  refine take_op 5 (v := ?qcv5) rfl (by kernel_rfl) (fun _ _ _ h => h) (by rfl) hS2 (fun w' hS' => ?qcy5) ?qcz5
                  case qcy5 =>
                    go_simp
                    rfl
                  simp only [List.setIfInBounds_toArray, List.set_cons_zero, List.set_cons_succ]
                  refine take_op 6 (v := ?qcv6) rfl (by kernel_rfl) (fun _ _ _ h => h) (by rfl) hS2 (fun w' hS' => ?qcy6) ?qcz6
                  case qcy6 =>
                    go_simp
                    rfl
                  simp only [List.setIfInBounds_toArray, List.set_cons_zero, List.set_cons_succ]
                  refine take_op 7 (v := ?qcv7) rfl (by kernel_rfl) (fun _ _ _ h => h) (by rfl) hS2 (fun w' hS' => ?qcy7) ?qcz7
                  case qcy7 =>
                    go_simp
                    try go_ints
                    first
                    | rfl
                    | rw [if_pos ⟨by omega, by omega⟩]
                  simp only [List.setIfInBounds_toArray, List.set_cons_zero, List.set_cons_succ]
                  refine take_op 8 (v := ?qcv8) rfl (by kernel_rfl) (fun _ _ _ h => h) (by rfl) hS2 (fun w' hS' => ?qcy8) ?qcz8
                  case qcy8 =>
                    have xa2 := (kA2.below hS' kA2.lt).cell (i := 2) rfl
                    have cj := ((hBq.trans (hS'.mono hBq.size)).cell (p := ⟨bA, oA + j, none⟩) hbA).trans (hcAH.out j hjn)
                    have cl := ((hBL.trans (hS'.mono hBL.size)).cell (p := ⟨bL, oL + q, none⟩) hbL).trans hclH.out
                    rw [hjv.out] at cj
                    go_simp
                    rfl
                  simp only [List.setIfInBounds_toArray, List.set_cons_zero, List.set_cons_succ]
                  refine take_op 9 (v := ?qcv9) rfl (by kernel_rfl) (fun _ _ _ h => h) (by rfl) hS2 (fun w' hS' => ?qcy9) ?qcz9
                  case qcy9 =>
                    go_simp
                    try go_ints
                    first
                    | rfl
                    | rw [if_pos ⟨by omega, by omega⟩]
                  simp only [List.setIfInBounds_toArray, List.set_cons_zero, List.set_cons_succ]
                  refine take_op 10 (v := ?qcv10) rfl (by kernel_rfl) (fun _ _ _ h => h) (by rfl) hS2 (fun w' hS' => ?qcy10) ?qcz10
                  case qcy10 =>
                    have xa2 := (kA2.below hS' kA2.lt).cell (i := 2) rfl
                    have cj := ((hBq.trans (hS'.mono hBq.size)).cell (p := ⟨bA, oA + j, none⟩) hbA).trans (hcAH.out j hjn)
                    have cl := ((hBL.trans (hS'.mono hBL.size)).cell (p := ⟨bL, oL + q, none⟩) hbL).trans hclH.out
                    rw [hjv.out] at cj
                    go_simp
                    rfl
                  simp only [List.setIfInBounds_toArray, List.set_cons_zero, List.set_cons_succ]
                  refine take_op 11 (v := .bool false) rfl (by kernel_rfl) (fun _ _ _ h => h) (by rfl) hS2 (fun w' hS' => ?qcy11) ?qcz11
                  case qcy11 =>
                    go_simp
                    first
                    | done
                    | (simp only [e5]; done)
                    | rfl
                    | (simp [e5]; done)
                  simp only [List.setIfInBounds_toArray, List.set_cons_zero, List.set_cons_succ]
                  refine take_op 12 (v := ?qcv12) rfl (by kernel_rfl) (fun _ _ _ h => h) (by rfl) hS2 (fun w' hS' => ?qcy12) ?qcz12
                  case qcy12 =>
                    go_simp
                    rfl
                  simp only [List.setIfInBounds_toArray, List.set_cons_zero, List.set_cons_succ]
                  refine take_op 13 (v := ?qcv13) rfl (by kernel_rfl) (fun _ _ _ h => h) (by rfl) hS2 (fun w' hS' => ?qcy13) ?qcz13
                  case qcy13 =>
                    go_simp
                    rfl
                  simp only [List.setIfInBounds_toArray, List.set_cons_zero, List.set_cons_succ]
                  refine pass_op 14 rfl (by kernel_rfl) (fun _ _ _ h => h) (by rfl) hS2 ?_
                  simp only [List.setIfInBounds_toArray, List.set_cons_zero, List.set_cons_succ]
                  refine pass_op 15 rfl (by kernel_rfl) (fun _ _ _ h => h) (by rfl) hS2 ?_
                  simp only [List.setIfInBounds_toArray, List.set_cons_zero, List.set_cons_succ]
                  refine pass_op 16 rfl (by kernel_rfl) (fun _ _ _ h => h) (by rfl) hS2 ?_
                  simp only [List.setIfInBounds_toArray, List.set_cons_zero, List.set_cons_succ]
                  refine pass_op 17 rfl (by kernel_rfl) (fun _ _ _ h => h) (by rfl) hS2 ?_
                  simp only [List.setIfInBounds_toArray, List.set_cons_zero, List.set_cons_succ]
                  refine pass_op 18 rfl (by kernel_rfl) (fun _ _ _ h => h) (by rfl) hS2 ?_
                  simp only [List.setIfInBounds_toArray, List.set_cons_zero, List.set_cons_succ]
                  refine pass_op 19 rfl (by kernel_rfl) (fun _ _ _ h => h) (by rfl) hS2 ?_
                  simp only [List.setIfInBounds_toArray, List.set_cons_zero, List.set_cons_succ]
                  refine pass_op 20 rfl (by kernel_rfl) (fun _ _ _ h => h) (by rfl) hS2 ?_
                  simp only [List.setIfInBounds_toArray, List.set_cons_zero, List.set_cons_succ]
                  refine pass_op 21 rfl (by kernel_rfl) (fun _ _ _ h => h) (by rfl) hS2 ?_
                  simp only [List.setIfInBounds_toArray, List.set_cons_zero, List.set_cons_succ]
                  refine pass_op 22 rfl (by kernel_rfl) (fun _ _ _ h => h) (by rfl) hS2 ?_
                  simp only [List.setIfInBounds_toArray, List.set_cons_zero, List.set_cons_succ]
                  refine pass_op 23 rfl (by kernel_rfl) (fun _ _ _ h => h) (by rfl) hS2 ?_
                  simp only [List.setIfInBounds_toArray, List.set_cons_zero, List.set_cons_succ]
                  refine take_op 24 (v := ?qcv24) rfl (by kernel_rfl) (fun _ _ _ h => h) (by rfl) hS2 (fun w' hS' => ?qcy24) ?qcz24
                  case qcy24 =>
                    go_simp
                    rfl
                  simp only [List.setIfInBounds_toArray, List.set_cons_zero, List.set_cons_succ]
                  refine done_ops (by kernel_rfl) ?_
                  go_wp2_with fail
                  go_roundw
                  case rel => exact ⟨q + 1, by omega, by go_num, hBL.trans (hS2.mono hBL.size)⟩
                  case measure => simp [intOf]; omega
              · have hqq : q = LL.length := by omega
                subst hqq
                go_wp2_with fail
                go_roundw
                case rel => exact ⟨k + 1, (T.set X yv), by omega, by go_num, by rw [hSs.out], by rw [hGs.out], hTP2.out, hBq, row_below row5 hBL⟩
                case measure => simp [intOf]; omega
      · have hkk : n = k := by omega
        subst hkk
        go_wp2_with fail
        go_ret
        exact ⟨rfl, hBr⟩

end Go.Proofs.Ytjglfeonoiljlaa

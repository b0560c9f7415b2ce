/- The law package's 'sized' and 'below'. -/
import Derived.Test.YtjglfeonoiljlaaImgI
import Derived.Test.YtjglfeonoiljlaaLab
namespace Go.Proofs.Ytjglfeonoiljlaa
open Go Go.RowKit Go.Shelf
set_option linter.unusedVariables false
set_option linter.unusedSimpArgs false

/-- Nowhere greater, on the first n pixels. -/
def belowB (n : Nat) (xs ys : List Int) : Bool := (List.range n).all fun i => decide (px xs i ≤ px ys i)
theorem belowB_iff {n : Nat} {xs ys : List Int} : belowB n xs ys = true ↔ ∀ i, i < n → px xs i ≤ px ys i := by
  simp [belowB, List.all_eq_true]

def sizedB (iw ih : Int) (xs : List Int) (jw jh : Int) (ys : List Int) : Bool := ((vld iw ih xs && vld jw jh ys) && decide (iw = jw)) && decide (ih = jh)

set_option maxRecDepth 100000 in
set_option maxHeartbeats 4000000 in
theorem sized_any (iw ih : Int) (a : Option Addr) (c n : Nat) (xs : List Int) (hn : Hid (xs.length = n)) (jw jh : Int) (a' : Option Addr) (c' n' : Nat) (ys : List Int) (hn' : Hid (ys.length = n')) (r : Bool) (hres : Hid (sizedB iw ih xs jw jh ys = r)) (w : World) (hm : n ≤ 9223372036854775807) (hr : Rd w.heap.size w a xs) (hm' : n' ≤ 9223372036854775807) (hr' : Rd w.heap.size w a' ys) :
    Calls Try.prog 64 #[imv iw ih a n c, imv jw jh a' n' c'] w fun e w' => e = .returned (.bool r) ∧ Below w.heap.size w w' := by
  have hB0 : Below w.heap.size w ((w.alloc (.cells #[.int .i64 iw, .int .i64 ih, .slice a n c] 24)).alloc (.cells #[.int .i64 jw, .int .i64 jh, .slice a' n' c'] 24)) := below_al (below_al (Below.refl _ _) _) _
  have ka := (Blk.new w 24 #[.int .i64 iw, .int .i64 ih, .slice a n c]).alloc (.cells #[.int .i64 jw, .int .i64 jh, .slice a' n' c'] 24)
  have kb := Blk.new (w.alloc (.cells #[.int .i64 iw, .int .i64 ih, .slice a n c] 24)) 24 #[.int .i64 jw, .int .i64 jh, .slice a' n' c']
  simp only [World.size_alloc] at kb
  obtain ⟨v1, hv1⟩ : ∃ v, vld iw ih xs = v := ⟨_, rfl⟩
  obtain ⟨v2, hv2⟩ : ∃ v, vld jw jh ys = v := ⟨_, rfl⟩
  have v1H := Lib.hid hv1
  have v2H := Lib.hid hv2
  have hrz : (((v1 && v2) && decide (iw = jw)) && decide (ih = jh)) = r := by rw [← hres.out, ← hv1, ← hv2]; rfl
  have hrzH := Lib.hid hrz
  clear hv1 hv2 hrz
  have ma0 := ka.cell (i := 0) rfl
  have ma1 := ka.cell (i := 1) rfl
  have ma2 := ka.cell (i := 2) rfl
  have mb0 := kb.cell (i := 0) rfl
  have mb1 := kb.cell (i := 1) rfl
  have mb2 := kb.cell (i := 2) rfl
  cases v1 with
  | false =>
    have hrf : r = false := by have := hrzH.out; simpa using this.symm
    subst hrf
    go_enter Try.func64, Try.ntmps64
    go_wp2_with fail
    refine (Valid_any iw ih a c xs n hn _ hm ((hr.below (Nat.le_refl _) hB0).mono hB0.size)).mono ?_
    rintro e W1 ⟨rfl, hb1⟩
    rw [v1H.out]
    have hB1 := hB0.trans (hb1.mono hB0.size)
    have ka1 := ka.below hb1 ka.lt
    have kb1 := kb.below hb1 kb.lt
    clear ma0 ma1 ma2 mb0 mb1 mb2
    have ma0 := ka1.cell (i := 0) rfl
    have ma1 := ka1.cell (i := 1) rfl
    have ma2 := ka1.cell (i := 2) rfl
    have mb0 := kb1.cell (i := 0) rfl
    have mb1 := kb1.cell (i := 1) rfl
    have mb2 := kb1.cell (i := 2) rfl
    go_wp2_with fail
    go_ret
    exact ⟨rfl, hB1⟩
  | true =>
    cases v2 with
    | false =>
      have hrf : r = false := by have := hrzH.out; simpa using this.symm
      subst hrf
      go_enter Try.func64, Try.ntmps64
      go_wp2_with fail
      refine (Valid_any iw ih a c xs n hn _ hm ((hr.below (Nat.le_refl _) hB0).mono hB0.size)).mono ?_
      rintro e W1 ⟨rfl, hb1⟩
      rw [v1H.out]
      have hB1 := hB0.trans (hb1.mono hB0.size)
      have ka1 := ka.below hb1 ka.lt
      have kb1 := kb.below hb1 kb.lt
      clear ma0 ma1 ma2 mb0 mb1 mb2
      have ma0 := ka1.cell (i := 0) rfl
      have ma1 := ka1.cell (i := 1) rfl
      have ma2 := ka1.cell (i := 2) rfl
      have mb0 := kb1.cell (i := 0) rfl
      have mb1 := kb1.cell (i := 1) rfl
      have mb2 := kb1.cell (i := 2) rfl
      go_wp2_with fail
      refine (Valid_any jw jh a' c' ys n' hn' _ hm' ((hr'.below (Nat.le_refl _) hB1).mono hB1.size)).mono ?_
      rintro e W2 ⟨rfl, hb2⟩
      rw [v2H.out]
      have hB2 := hB1.trans (hb2.mono hB1.size)
      have ka2 := ka1.below hb2 ka1.lt
      have kb2 := kb1.below hb2 kb1.lt
      clear ma0 ma1 ma2 mb0 mb1 mb2
      have ma0 := ka2.cell (i := 0) rfl
      have ma1 := ka2.cell (i := 1) rfl
      have ma2 := ka2.cell (i := 2) rfl
      have mb0 := kb2.cell (i := 0) rfl
      have mb1 := kb2.cell (i := 1) rfl
      have mb2 := kb2.cell (i := 2) rfl
      go_wp2_with fail
      go_ret
      exact ⟨rfl, hB2⟩
    | true =>
      by_cases h1 : iw = jw
      · have e1 : (iw == jw) = true := by rw [beq_iff_eq]; exact h1
        by_cases h2 : ih = jh
        · have e2 : (ih == jh) = true := by rw [beq_iff_eq]; exact h2
          have hrf : r = true := by have := hrzH.out; simp [h1, h2] at this; exact this
          subst hrf
          clear h1 h2
          go_enter Try.func64, Try.ntmps64
          go_wp2_with fail
          refine (Valid_any iw ih a c xs n hn _ hm ((hr.below (Nat.le_refl _) hB0).mono hB0.size)).mono ?_
          rintro e W1 ⟨rfl, hb1⟩
          rw [v1H.out]
          have hB1 := hB0.trans (hb1.mono hB0.size)
          have ka1 := ka.below hb1 ka.lt
          have kb1 := kb.below hb1 kb.lt
          clear ma0 ma1 ma2 mb0 mb1 mb2
          have ma0 := ka1.cell (i := 0) rfl
          have ma1 := ka1.cell (i := 1) rfl
          have ma2 := ka1.cell (i := 2) rfl
          have mb0 := kb1.cell (i := 0) rfl
          have mb1 := kb1.cell (i := 1) rfl
          have mb2 := kb1.cell (i := 2) rfl
          go_wp2_with fail
          refine (Valid_any jw jh a' c' ys n' hn' _ hm' ((hr'.below (Nat.le_refl _) hB1).mono hB1.size)).mono ?_
          rintro e W2 ⟨rfl, hb2⟩
          rw [v2H.out]
          have hB2 := hB1.trans (hb2.mono hB1.size)
          have ka2 := ka1.below hb2 ka1.lt
          have kb2 := kb1.below hb2 kb1.lt
          clear ma0 ma1 ma2 mb0 mb1 mb2
          have ma0 := ka2.cell (i := 0) rfl
          have ma1 := ka2.cell (i := 1) rfl
          have ma2 := ka2.cell (i := 2) rfl
          have mb0 := kb2.cell (i := 0) rfl
          have mb1 := kb2.cell (i := 1) rfl
          have mb2 := kb2.cell (i := 2) rfl
          go_wp2_with fail
          go_ret
          exact ⟨rfl, hB2⟩
        · have e2 : (ih == jh) = false := by rw [beq_eq_false_iff_ne]; exact h2
          have hrf : r = false := by have := hrzH.out; simp [h1, h2] at this; exact this
          subst hrf
          clear h1 h2
          go_enter Try.func64, Try.ntmps64
          go_wp2_with fail
          refine (Valid_any iw ih a c xs n hn _ hm ((hr.below (Nat.le_refl _) hB0).mono hB0.size)).mono ?_
          rintro e W1 ⟨rfl, hb1⟩
          rw [v1H.out]
          have hB1 := hB0.trans (hb1.mono hB0.size)
          have ka1 := ka.below hb1 ka.lt
          have kb1 := kb.below hb1 kb.lt
          clear ma0 ma1 ma2 mb0 mb1 mb2
          have ma0 := ka1.cell (i := 0) rfl
          have ma1 := ka1.cell (i := 1) rfl
          have ma2 := ka1.cell (i := 2) rfl
          have mb0 := kb1.cell (i := 0) rfl
          have mb1 := kb1.cell (i := 1) rfl
          have mb2 := kb1.cell (i := 2) rfl
          go_wp2_with fail
          refine (Valid_any jw jh a' c' ys n' hn' _ hm' ((hr'.below (Nat.le_refl _) hB1).mono hB1.size)).mono ?_
          rintro e W2 ⟨rfl, hb2⟩
          rw [v2H.out]
          have hB2 := hB1.trans (hb2.mono hB1.size)
          have ka2 := ka1.below hb2 ka1.lt
          have kb2 := kb1.below hb2 kb1.lt
          clear ma0 ma1 ma2 mb0 mb1 mb2
          have ma0 := ka2.cell (i := 0) rfl
          have ma1 := ka2.cell (i := 1) rfl
          have ma2 := ka2.cell (i := 2) rfl
          have mb0 := kb2.cell (i := 0) rfl
          have mb1 := kb2.cell (i := 1) rfl
          have mb2 := kb2.cell (i := 2) rfl
          go_wp2_with fail
          go_ret
          exact ⟨rfl, hB2⟩
      · have e1 : (iw == jw) = false := by rw [beq_eq_false_iff_ne]; exact h1
        have hrf : r = false := by have := hrzH.out; simp [h1] at this; exact this
        subst hrf
        clear h1
        go_enter Try.func64, Try.ntmps64
        go_wp2_with fail
        refine (Valid_any iw ih a c xs n hn _ hm ((hr.below (Nat.le_refl _) hB0).mono hB0.size)).mono ?_
        rintro e W1 ⟨rfl, hb1⟩
        rw [v1H.out]
        have hB1 := hB0.trans (hb1.mono hB0.size)
        have ka1 := ka.below hb1 ka.lt
        have kb1 := kb.below hb1 kb.lt
        clear ma0 ma1 ma2 mb0 mb1 mb2
        have ma0 := ka1.cell (i := 0) rfl
        have ma1 := ka1.cell (i := 1) rfl
        have ma2 := ka1.cell (i := 2) rfl
        have mb0 := kb1.cell (i := 0) rfl
        have mb1 := kb1.cell (i := 1) rfl
        have mb2 := kb1.cell (i := 2) rfl
        go_wp2_with fail
        refine (Valid_any jw jh a' c' ys n' hn' _ hm' ((hr'.below (Nat.le_refl _) hB1).mono hB1.size)).mono ?_
        rintro e W2 ⟨rfl, hb2⟩
        rw [v2H.out]
        have hB2 := hB1.trans (hb2.mono hB1.size)
        have ka2 := ka1.below hb2 ka1.lt
        have kb2 := kb1.below hb2 kb1.lt
        clear ma0 ma1 ma2 mb0 mb1 mb2
        have ma0 := ka2.cell (i := 0) rfl
        have ma1 := ka2.cell (i := 1) rfl
        have ma2 := ka2.cell (i := 2) rfl
        have mb0 := kb2.cell (i := 0) rfl
        have mb1 := kb2.cell (i := 1) rfl
        have mb2 := kb2.cell (i := 2) rfl
        go_wp2_with fail
        go_ret
        exact ⟨rfl, hB2⟩


set_option maxRecDepth 100000 in
set_option maxHeartbeats 4000000 in
theorem below_any (iw ih : Int) (a a' : Option Addr) (c c' n : Nat) (xs ys : List Int) (hn : Hid (xs.length = n)) (hn' : Hid (ys.length = n)) (r : Bool) (hres : Hid (belowB n xs ys = r)) (h0 : 0 < n) (w : World) (hm : n ≤ 9223372036854775807) (hr : Rd w.heap.size w a xs) (hr' : Rd w.heap.size w a' ys) :
    Calls Try.prog 66 #[imv iw ih a n c, imv iw ih a' n c'] w fun e w' => e = .returned (.bool r) ∧ Below w.heap.size w w' := by
  obtain ⟨ba, oa, rfl, hba, hca⟩ := rd_at hr hn.out h0
  obtain ⟨bb, ob, rfl, hbb, hcb⟩ := rd_at hr' hn'.out h0
  have hB0 : Below w.heap.size w ((w.alloc (.cells #[.int .i64 iw, .int .i64 ih, .slice (some ⟨ba, oa, none⟩) n c] 24)).alloc (.cells #[.int .i64 iw, .int .i64 ih, .slice (some ⟨bb, ob, none⟩) n c'] 24)) := below_al (below_al (Below.refl _ _) _) _
  have ka := (Blk.new w 24 #[.int .i64 iw, .int .i64 ih, .slice (some ⟨ba, oa, none⟩) n c]).alloc (.cells #[.int .i64 iw, .int .i64 ih, .slice (some ⟨bb, ob, none⟩) n c'] 24)
  have kb := Blk.new (w.alloc (.cells #[.int .i64 iw, .int .i64 ih, .slice (some ⟨ba, oa, none⟩) n c] 24)) 24 #[.int .i64 iw, .int .i64 ih, .slice (some ⟨bb, ob, none⟩) n c']
  simp only [World.size_alloc] at kb
  obtain ⟨W, hW⟩ : ∃ W, (w.alloc (.cells #[.int .i64 iw, .int .i64 ih, .slice (some ⟨ba, oa, none⟩) n c] 24)).alloc (.cells #[.int .i64 iw, .int .i64 ih, .slice (some ⟨bb, ob, none⟩) n c'] 24) = W := ⟨_, rfl⟩
  rw [hW] at hB0 ka kb
  have ma0 := ka.cell (i := 0) rfl
  have ma1 := ka.cell (i := 1) rfl
  have ma2 := ka.cell (i := 2) rfl
  have mb0 := kb.cell (i := 0) rfl
  have mb1 := kb.cell (i := 1) rfl
  have mb2 := kb.cell (i := 2) rfl
  go_enter Try.func66, Try.ntmps66
  go_wp2_with fail
  clear hW ma0 ma1 ma2 mb0 mb1 mb2
  go_loopw [5] (fun i wr => ∃ k : Nat, k ≤ n ∧ i = .int .i64 (k : Int) ∧ Hid (∀ j, j < k → px xs j ≤ px ys j) ∧ Below W.heap.size W wr) (fun i _ => n - (intOf i).toNat)
  case atStart => exact ⟨0, Nat.zero_le _, rfl, Lib.hid (fun j hj => by omega), Below.refl _ _⟩
  case round =>
    obtain ⟨k, hkn, rfl, hle, hBw⟩ := hrel
    have hBr : Below w.heap.size w wr := hB0.trans (hBw.mono hB0.size)
    have ma2 := (ka.below hBw ka.lt).cell (i := 2) rfl
    have hS : Below wr.heap.size wr wr.drew := (Below.refl _ _).drew
    by_cases hk : k < n
    · by_cases hg : px ys k < px xs k
      · have e1 : decide (px ys k < px xs k) = true := decide_eq_true hg
        have hrf : r = false := by
          rw [← hres.out]
          cases hb : belowB n xs ys with
          | false => rfl
          | true => have := belowB_iff.1 hb k hk; omega
        subst hrf
        go_wp2_with fail
        refine plain_region (fun W' => Below wr.heap.size wr W') 11 11 (by kernel_rfl) rfl ?_
        simp only [Array.replicate_succ, Array.replicate_zero, List.push_toArray, List.nil_append, List.cons_append]
        refine take_op 0 (v := ?uv0) rfl (by kernel_rfl) (fun _ _ _ h => h) (by rfl) hS (fun w' hS' => ?uy0) ?uz0
        case uy0 =>
          go_simp
          rfl
        simp only [List.setIfInBounds_toArray, List.set_cons_zero, List.set_cons_succ]
        refine take_op 1 (v := ?uv1) rfl (by kernel_rfl) (fun _ _ _ h => h) (by rfl) hS (fun w' hS' => ?uy1) ?uz1
        case uy1 =>
          have a2 := (ka.below (hBw.trans (hS'.mono hBw.size)) ka.lt).cell (i := 2) rfl
          have b2 := (kb.below (hBw.trans (hS'.mono hBw.size)) kb.lt).cell (i := 2) rfl
          have ca := (hBr.trans (hS'.mono hBr.size)).cell (p := ⟨ba, oa + k, none⟩) hba |>.trans (hca k hk)
          have cb := (hBr.trans (hS'.mono hBr.size)).cell (p := ⟨bb, ob + k, none⟩) hbb |>.trans (hcb k hk)
          go_simp
          rfl
        simp only [List.setIfInBounds_toArray, List.set_cons_zero, List.set_cons_succ]
        refine take_op 2 (v := ?uv2) rfl (by kernel_rfl) (fun _ _ _ h => h) (by rfl) hS (fun w' hS' => ?uy2) ?uz2
        case uy2 =>
          go_simp
          rfl
        simp only [List.setIfInBounds_toArray, List.set_cons_zero, List.set_cons_succ]
        refine take_op 3 (v := ?uv3) rfl (by kernel_rfl) (fun _ _ _ h => h) (by rfl) hS (fun w' hS' => ?uy3) ?uz3
        case uy3 =>
          go_simp
          try go_ints
          first
          | rfl
          | rw [if_pos ⟨by omega, by omega⟩]
        simp only [List.setIfInBounds_toArray, List.set_cons_zero, List.set_cons_succ]
        refine take_op 4 (v := ?uv4) rfl (by kernel_rfl) (fun _ _ _ h => h) (by rfl) hS (fun w' hS' => ?uy4) ?uz4
        case uy4 =>
          have a2 := (ka.below (hBw.trans (hS'.mono hBw.size)) ka.lt).cell (i := 2) rfl
          have b2 := (kb.below (hBw.trans (hS'.mono hBw.size)) kb.lt).cell (i := 2) rfl
          have ca := (hBr.trans (hS'.mono hBr.size)).cell (p := ⟨ba, oa + k, none⟩) hba |>.trans (hca k hk)
          have cb := (hBr.trans (hS'.mono hBr.size)).cell (p := ⟨bb, ob + k, none⟩) hbb |>.trans (hcb k hk)
          go_simp
          rfl
        simp only [List.setIfInBounds_toArray, List.set_cons_zero, List.set_cons_succ]
        refine take_op 5 (v := ?uv5) rfl (by kernel_rfl) (fun _ _ _ h => h) (by rfl) hS (fun w' hS' => ?uy5) ?uz5
        case uy5 =>
          go_simp
          rfl
        simp only [List.setIfInBounds_toArray, List.set_cons_zero, List.set_cons_succ]
        refine take_op 6 (v := ?uv6) rfl (by kernel_rfl) (fun _ _ _ h => h) (by rfl) hS (fun w' hS' => ?uy6) ?uz6
        case uy6 =>
          have a2 := (ka.below (hBw.trans (hS'.mono hBw.size)) ka.lt).cell (i := 2) rfl
          have b2 := (kb.below (hBw.trans (hS'.mono hBw.size)) kb.lt).cell (i := 2) rfl
          have ca := (hBr.trans (hS'.mono hBr.size)).cell (p := ⟨ba, oa + k, none⟩) hba |>.trans (hca k hk)
          have cb := (hBr.trans (hS'.mono hBr.size)).cell (p := ⟨bb, ob + k, none⟩) hbb |>.trans (hcb k hk)
          go_simp
          rfl
        simp only [List.setIfInBounds_toArray, List.set_cons_zero, List.set_cons_succ]
        refine take_op 7 (v := ?uv7) rfl (by kernel_rfl) (fun _ _ _ h => h) (by rfl) hS (fun w' hS' => ?uy7) ?uz7
        case uy7 =>
          go_simp
          rfl
        simp only [List.setIfInBounds_toArray, List.set_cons_zero, List.set_cons_succ]
        refine take_op 8 (v := ?uv8) rfl (by kernel_rfl) (fun _ _ _ h => h) (by rfl) hS (fun w' hS' => ?uy8) ?uz8
        case uy8 =>
          go_simp
          try go_ints
          first
          | rfl
          | rw [if_pos ⟨by omega, by omega⟩]
        simp only [List.setIfInBounds_toArray, List.set_cons_zero, List.set_cons_succ]
        refine take_op 9 (v := ?uv9) rfl (by kernel_rfl) (fun _ _ _ h => h) (by rfl) hS (fun w' hS' => ?uy9) ?uz9
        case uy9 =>
          have a2 := (ka.below (hBw.trans (hS'.mono hBw.size)) ka.lt).cell (i := 2) rfl
          have b2 := (kb.below (hBw.trans (hS'.mono hBw.size)) kb.lt).cell (i := 2) rfl
          have ca := (hBr.trans (hS'.mono hBr.size)).cell (p := ⟨ba, oa + k, none⟩) hba |>.trans (hca k hk)
          have cb := (hBr.trans (hS'.mono hBr.size)).cell (p := ⟨bb, ob + k, none⟩) hbb |>.trans (hcb k hk)
          go_simp
          rfl
        simp only [List.setIfInBounds_toArray, List.set_cons_zero, List.set_cons_succ]
        refine take_op 10 (v := .bool true) rfl (by kernel_rfl) (fun _ _ _ h => h) (by rfl) hS (fun w' hS' => ?uy10) ?uz10
        case uy10 =>
          go_simp
          try simp only [e1]
        simp only [List.setIfInBounds_toArray, List.set_cons_zero, List.set_cons_succ]
        refine done_ops (by kernel_rfl) ?_
        go_wp2_with fail
        go_ret
        exact ⟨rfl, hBr.trans (hS.mono hBr.size)⟩
      · have e1 : decide (px ys k < px xs k) = false := decide_eq_false hg
        have hle2 : Hid (∀ j, j < k + 1 → px xs j ≤ px ys j) := Lib.hid (fun j hj => by
          by_cases hjk : j = k
          · subst hjk; omega
          · exact hle.out j (by omega))
        go_wp2_with fail
        refine plain_region (fun W' => Below wr.heap.size wr W') 11 11 (by kernel_rfl) rfl ?_
        simp only [Array.replicate_succ, Array.replicate_zero, List.push_toArray, List.nil_append, List.cons_append]
        refine take_op 0 (v := ?vv0) rfl (by kernel_rfl) (fun _ _ _ h => h) (by rfl) hS (fun w' hS' => ?vy0) ?vz0
        case vy0 =>
          go_simp
          rfl
        simp only [List.setIfInBounds_toArray, List.set_cons_zero, List.set_cons_succ]
        refine take_op 1 (v := ?vv1) rfl (by kernel_rfl) (fun _ _ _ h => h) (by rfl) hS (fun w' hS' => ?vy1) ?vz1
        case vy1 =>
          have a2 := (ka.below (hBw.trans (hS'.mono hBw.size)) ka.lt).cell (i := 2) rfl
          have b2 := (kb.below (hBw.trans (hS'.mono hBw.size)) kb.lt).cell (i := 2) rfl
          have ca := (hBr.trans (hS'.mono hBr.size)).cell (p := ⟨ba, oa + k, none⟩) hba |>.trans (hca k hk)
          have cb := (hBr.trans (hS'.mono hBr.size)).cell (p := ⟨bb, ob + k, none⟩) hbb |>.trans (hcb k hk)
          go_simp
          rfl
        simp only [List.setIfInBounds_toArray, List.set_cons_zero, List.set_cons_succ]
        refine take_op 2 (v := ?vv2) rfl (by kernel_rfl) (fun _ _ _ h => h) (by rfl) hS (fun w' hS' => ?vy2) ?vz2
        case vy2 =>
          go_simp
          rfl
        simp only [List.setIfInBounds_toArray, List.set_cons_zero, List.set_cons_succ]
        refine take_op 3 (v := ?vv3) rfl (by kernel_rfl) (fun _ _ _ h => h) (by rfl) hS (fun w' hS' => ?vy3) ?vz3
        case vy3 =>
          go_simp
          try go_ints
          first
          | rfl
          | rw [if_pos ⟨by omega, by omega⟩]
        simp only [List.setIfInBounds_toArray, List.set_cons_zero, List.set_cons_succ]
        refine take_op 4 (v := ?vv4) rfl (by kernel_rfl) (fun _ _ _ h => h) (by rfl) hS (fun w' hS' => ?vy4) ?vz4
        case vy4 =>
          have a2 := (ka.below (hBw.trans (hS'.mono hBw.size)) ka.lt).cell (i := 2) rfl
          have b2 := (kb.below (hBw.trans (hS'.mono hBw.size)) kb.lt).cell (i := 2) rfl
          have ca := (hBr.trans (hS'.mono hBr.size)).cell (p := ⟨ba, oa + k, none⟩) hba |>.trans (hca k hk)
          have cb := (hBr.trans (hS'.mono hBr.size)).cell (p := ⟨bb, ob + k, none⟩) hbb |>.trans (hcb k hk)
          go_simp
          rfl
        simp only [List.setIfInBounds_toArray, List.set_cons_zero, List.set_cons_succ]
        refine take_op 5 (v := ?vv5) rfl (by kernel_rfl) (fun _ _ _ h => h) (by rfl) hS (fun w' hS' => ?vy5) ?vz5
        case vy5 =>
          go_simp
          rfl
        simp only [List.setIfInBounds_toArray, List.set_cons_zero, List.set_cons_succ]
        refine take_op 6 (v := ?vv6) rfl (by kernel_rfl) (fun _ _ _ h => h) (by rfl) hS (fun w' hS' => ?vy6) ?vz6
        case vy6 =>
          have a2 := (ka.below (hBw.trans (hS'.mono hBw.size)) ka.lt).cell (i := 2) rfl
          have b2 := (kb.below (hBw.trans (hS'.mono hBw.size)) kb.lt).cell (i := 2) rfl
          have ca := (hBr.trans (hS'.mono hBr.size)).cell (p := ⟨ba, oa + k, none⟩) hba |>.trans (hca k hk)
          have cb := (hBr.trans (hS'.mono hBr.size)).cell (p := ⟨bb, ob + k, none⟩) hbb |>.trans (hcb k hk)
          go_simp
          rfl
        simp only [List.setIfInBounds_toArray, List.set_cons_zero, List.set_cons_succ]
        refine take_op 7 (v := ?vv7) rfl (by kernel_rfl) (fun _ _ _ h => h) (by rfl) hS (fun w' hS' => ?vy7) ?vz7
        case vy7 =>
          go_simp
          rfl
        simp only [List.setIfInBounds_toArray, List.set_cons_zero, List.set_cons_succ]
        refine take_op 8 (v := ?vv8) rfl (by kernel_rfl) (fun _ _ _ h => h) (by rfl) hS (fun w' hS' => ?vy8) ?vz8
        case vy8 =>
          go_simp
          try go_ints
          first
          | rfl
          | rw [if_pos ⟨by omega, by omega⟩]
        simp only [List.setIfInBounds_toArray, List.set_cons_zero, List.set_cons_succ]
        refine take_op 9 (v := ?vv9) rfl (by kernel_rfl) (fun _ _ _ h => h) (by rfl) hS (fun w' hS' => ?vy9) ?vz9
        case vy9 =>
          have a2 := (ka.below (hBw.trans (hS'.mono hBw.size)) ka.lt).cell (i := 2) rfl
          have b2 := (kb.below (hBw.trans (hS'.mono hBw.size)) kb.lt).cell (i := 2) rfl
          have ca := (hBr.trans (hS'.mono hBr.size)).cell (p := ⟨ba, oa + k, none⟩) hba |>.trans (hca k hk)
          have cb := (hBr.trans (hS'.mono hBr.size)).cell (p := ⟨bb, ob + k, none⟩) hbb |>.trans (hcb k hk)
          go_simp
          rfl
        simp only [List.setIfInBounds_toArray, List.set_cons_zero, List.set_cons_succ]
        refine take_op 10 (v := .bool false) rfl (by kernel_rfl) (fun _ _ _ h => h) (by rfl) hS (fun w' hS' => ?vy10) ?vz10
        case vy10 =>
          go_simp
          try simp only [e1]
        simp only [List.setIfInBounds_toArray, List.set_cons_zero, List.set_cons_succ]
        refine done_ops (by kernel_rfl) ?_
        go_wp2_with fail
        go_roundw
        case rel => exact ⟨k + 1, by omega, by go_num, hle2, hBw.trans (hS.mono hBw.size)⟩
        case measure => simp [intOf]; omega
    · have hkk : n = k := by omega
      subst hkk
      have hrf : r = true := by rw [← hres.out]; exact belowB_iff.2 hle.out
      subst hrf
      go_wp2_with fail
      go_ret
      exact ⟨rfl, hBr⟩

end Go.Proofs.Ytjglfeonoiljlaa

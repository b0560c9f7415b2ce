/- The walk of the law ImageExamples: it returns true, and nothing that lay has turned. -/
import Derived.Test.YtjglfeonoiljlaaAlive
import Derived.Test.YtjglfeonoiljlaaImgK
import Derived.Test.YtjglfeonoiljlaaImgZ
namespace Go.Proofs.Ytjglfeonoiljlaa
open Go Go.RowKit Go.Shelf
set_option linter.unusedVariables false
set_option linter.unusedSimpArgs false

attribute [local go_sem] Oper.semAt_some

theorem put3_grownE (W : World) (B : Nat) (x y z : Value) : W.grownBy (put3 W B x y z) (some B) :=
  ⟨rfl, rfl, rfl, by simp [put3], fun b _ hb => put3_below_block W B b (fun e => hb (by rw [e])) x y z⟩

def OthersB (V : World) (b : Nat) (W : World) : Prop := ∀ B, B < V.heap.size → B ≠ b → W.heap[B]? = V.heap[B]?
theorem OthersB.of {V W : World} {b : Nat} (h : Below V.heap.size V W) : OthersB V b W := fun B hB _ => h.block B hB
theorem OthersB.put {V W : World} {b : Nat} (h : OthersB V b W) (x y z : Value) : OthersB V b (put3 W b x y z) := fun B hB hne => (put3_below_block W b B hne x y z).trans (h B hB hne)
theorem OthersB.blk {V W : World} {b B : Nat} {t : TypeId} {cs : Array Value} (h : OthersB V b W) (k : Blk V B t cs) (hne : B ≠ b) : Blk W B t cs := (h B k.lt hne).trans k

/-- Label's example of the chapter, with neighbours in the sense of eight. -/
theorem labS_exT : labS 2 2 [1, 0, 0, 9] true = { im := { w := 2, h := 2, px := [1, 0, 0, 1], err := 0 }, n := 1 } := by
  have h0 : labTo 4 2 true (isNz [1, 0, 0, 9]) 0 = ([0, 0, 0, 0], 0) := rfl
  have d1 : ∀ k, k < 4 → ∀ l, l < 4 → px [1, 0, 0, 1] (k : Nat) = ((0 + 1 : Nat) : Int) → nearB 2 true k l = true → isNz [1, 0, 0, 9] l = true → px [1, 0, 0, 1] (l : Nat) ≠ 0 := by decide
  have h1 : labTo 4 2 true (isNz [1, 0, 0, 9]) 1 = ([1, 0, 0, 1], 1) := by
    refine labTo_fill h0 (by decide) (by decide) (by decide) rfl ⟨by decide, fun k hk => ?_, fun k hk => ?_⟩
    · match k, hk with
      | 0, _ => exact .inr ⟨by decide, by decide, .base⟩
      | 1, _ => exact .inl (by decide)
      | 2, _ => exact .inl (by decide)
      | 3, _ => exact .inr ⟨by decide, by decide, .step .base (by decide) (by decide) (by decide) (by decide)⟩
    · exact fun hv _ l hl a b => d1 k hk l hl hv a b
  have h2 := labTo_skip h1 (by decide)
  have h3 := labTo_skip h2 (by decide)
  have h4 := labTo_skip h3 (by decide)
  have hv : vld 2 2 [1, 0, 0, 9] = true := by decide
  unfold labS
  rw [if_pos hv]
  have e1 : (2 : Int).toNat * (2 : Int).toNat = 4 := rfl
  have e2 : (2 : Int).toNat = 2 := rfl
  rw [e1, e2, h4]; rfl

set_option maxRecDepth 100000 in
set_option maxHeartbeats 64000000 in
theorem law_examples (w : World) : Calls Try.prog 22 #[] w fun e w' => e = .returned (.bool true) ∧ Below w.heap.size w w' := by
  have hB : Below w.heap.size w w := Below.refl _ _
  refine (callsIn_wide (n := 10)).1 ?_
  refine callsIn_of_wp_marks Try.func22 rfl trivial ?_
  simp only [Try.ntmps22, List.size_toArray, List.length_nil, Nat.reduceAdd, Nat.reduceSub, Array.replicate_succ, Array.replicate_zero, List.push_toArray, List.append_toArray, List.nil_append, List.cons_append]
  gi_wp2_with fail
  refine ⟨trivial, (callsIn_wide.2 (rows_lit [[7]] [7] rfl (by decide) (by decide) 1 1 [7] 1 rfl rfl rfl rfl _ 1 _ (rdss1 w (w.heap.size) (by simp) [7] #[.int .i64 7] rfl 1 rfl))).mono ?_⟩
  rintro e V1 ⟨⟨v, rfl, hv⟩, hb⟩
  obtain ⟨sl, rfl, hrow⟩ := hv
  obtain ⟨sxa, sxc, rfl⟩ := row_slice hrow
  have rx : V1.ownsRow w.heap.size 3 1 (.slice sxa 1 sxc) 1 ([7].map (Value.int .i64)) := row_base hrow (Nat.le_trans hB.size (by simp <;> omega))
  clear hrow
  have hbf := chain2 hb
  clear hb
  replace hB := hB.trans (hbf.mono hB.size)
  clear hbf
  try simp only [List.length_cons, List.length_nil, Nat.reduceAdd]
  gi_wp2_with fail
  have hcall := Point_any 1 1 sxa sxc 1 [7] (Lib.hid rfl) ⟨100, 0, 1, 0, 255⟩ V1 (by decide) (row_rd' rfl (xs := [7]) rx)
  rw [show pointS 1 1 [7] ⟨100, 0, 1, 0, 255⟩ = { w := 1, h := 1, px := [255], err := 0 } from by kernel_rfl] at hcall
  refine ⟨trivial, (callsIn_wide.2 hcall).mono ?_⟩
  clear hcall
  rintro e V2 ⟨⟨v, rfl, hv⟩, hb⟩
  obtain ⟨sl, rfl, hrow⟩ := hv
  obtain ⟨saa, sac, rfl⟩ := row_slice hrow
  have ra : V2.ownsRow w.heap.size 3 1 (.slice saa 1 sac) 1 ([255].map (Value.int .i64)) := row_base hrow (Nat.le_trans hB.size (by simp <;> omega))
  clear hrow
  have hbf := chain0 hb
  clear hb
  replace rx := row_below rx hbf
  replace hB := hB.trans (hbf.mono hB.size)
  clear hbf
  clear rx
  gi_wp2_with fail
  refine ⟨trivial, (callsIn_wide.2 (rows_lit [[2147483648]] [2147483648] rfl (by decide) (by decide) 1 1 [2147483648] 1 rfl rfl rfl rfl _ 1 _ (rdss1 (V2.alloc (.cells #[.int .i64 1, .int .i64 1, .slice saa 1 sac] 24)) (V2.heap.size + 1) (by simp) [2147483648] #[.int .i64 2147483648] rfl 1 rfl))).mono ?_⟩
  rintro e V3 ⟨⟨v, rfl, hv⟩, hb⟩
  obtain ⟨sl, rfl, hrow⟩ := hv
  obtain ⟨sxa, sxc, rfl⟩ := row_slice hrow
  have rx : V3.ownsRow w.heap.size 3 1 (.slice sxa 1 sxc) 1 ([2147483648].map (Value.int .i64)) := row_base hrow (Nat.le_trans hB.size (by simp <;> omega))
  clear hrow
  have ka : Blk V3 (V2.heap.size) 24 #[.int .i64 1, .int .i64 1, .slice saa 1 sac] := ((((Blk.new V2 24 #[.int .i64 1, .int .i64 1, .slice saa 1 sac]).alloc (.cells #[.int .i64 2147483648] 3)).alloc (.cells #[.slice (some ⟨V2.heap.size + 1, 0, none⟩) 1 1] 22)).below hb (by simp <;> omega))
  have gka : w.heap.size ≤ V2.heap.size := by have := hB.size; omega
  have hbf := chain3 hb
  clear hb
  replace ra := row_below ra hbf
  replace hB := hB.trans (hbf.mono hB.size)
  clear hbf
  try simp only [List.length_cons, List.length_nil, Nat.reduceAdd]
  gi_wp2_with fail
  refine ⟨trivial, (callsIn_wide.2 (rows_lit [[1]] [1] rfl (by decide) (by decide) 1 1 [1] 1 rfl rfl rfl rfl _ 1 _ (rdss1 V3 (V3.heap.size) (by simp) [1] #[.int .i64 1] rfl 1 rfl))).mono ?_⟩
  rintro e V4 ⟨⟨v, rfl, hv⟩, hb⟩
  obtain ⟨sl, rfl, hrow⟩ := hv
  obtain ⟨sya, syc, rfl⟩ := row_slice hrow
  have ry : V4.ownsRow w.heap.size 3 1 (.slice sya 1 syc) 1 ([1].map (Value.int .i64)) := row_base hrow (Nat.le_trans hB.size (by simp <;> omega))
  clear hrow
  have hbf := chain2 hb
  clear hb
  replace ka := ka.below hbf ka.lt
  replace ra := row_below ra hbf
  replace rx := row_below rx hbf
  replace hB := hB.trans (hbf.mono hB.size)
  clear hbf
  try simp only [List.length_cons, List.length_nil, Nat.reduceAdd]
  gi_wp2_with fail
  have hcall := Zip_any 1 1 sxa sxc 1 [2147483648] (Lib.hid rfl) 1 1 sya syc 1 [1] (Lib.hid rfl) 1 (by decide) (by decide) V4 (by decide) (by decide) (row_rd' rfl (xs := [2147483648]) rx) (row_rd' rfl (xs := [1]) ry)
  rw [show zipS 1 1 [2147483648] 1 1 [1] 1 = { w := 1, h := 1, px := [2147483648], err := 0 } from by kernel_rfl] at hcall
  refine ⟨trivial, (callsIn_wide.2 hcall).mono ?_⟩
  clear hcall
  rintro e V5 ⟨⟨v, rfl, hv⟩, hb⟩
  obtain ⟨sl, rfl, hrow⟩ := hv
  obtain ⟨sba, sbc, rfl⟩ := row_slice hrow
  have rb : V5.ownsRow w.heap.size 3 1 (.slice sba 1 sbc) 1 ([2147483648].map (Value.int .i64)) := row_base hrow (Nat.le_trans hB.size (by simp <;> omega))
  clear hrow
  have hbf := chain0 hb
  clear hb
  replace ka := ka.below hbf ka.lt
  replace ra := row_below ra hbf
  replace rx := row_below rx hbf
  replace ry := row_below ry hbf
  replace hB := hB.trans (hbf.mono hB.size)
  clear hbf
  clear rx ry
  gi_wp2_with fail
  refine ⟨trivial, (callsIn_wide.2 (rows_lit [[2147483648]] [2147483648] rfl (by decide) (by decide) 1 1 [2147483648] 1 rfl rfl rfl rfl _ 1 _ (rdss1 (V5.alloc (.cells #[.int .i64 1, .int .i64 1, .slice sba 1 sbc] 24)) (V5.heap.size + 1) (by simp) [2147483648] #[.int .i64 2147483648] rfl 1 rfl))).mono ?_⟩
  rintro e V6 ⟨⟨v, rfl, hv⟩, hb⟩
  obtain ⟨sl, rfl, hrow⟩ := hv
  obtain ⟨sxa, sxc, rfl⟩ := row_slice hrow
  have rx : V6.ownsRow w.heap.size 3 1 (.slice sxa 1 sxc) 1 ([2147483648].map (Value.int .i64)) := row_base hrow (Nat.le_trans hB.size (by simp <;> omega))
  clear hrow
  have kb : Blk V6 (V5.heap.size) 24 #[.int .i64 1, .int .i64 1, .slice sba 1 sbc] := ((((Blk.new V5 24 #[.int .i64 1, .int .i64 1, .slice sba 1 sbc]).alloc (.cells #[.int .i64 2147483648] 3)).alloc (.cells #[.slice (some ⟨V5.heap.size + 1, 0, none⟩) 1 1] 22)).below hb (by simp <;> omega))
  have gkb : w.heap.size ≤ V5.heap.size := by have := hB.size; omega
  have lkakb : V2.heap.size < V5.heap.size := by have := ka.lt; omega
  have hbf := chain3 hb
  clear hb
  replace ka := ka.below hbf ka.lt
  replace ra := row_below ra hbf
  replace rb := row_below rb hbf
  replace hB := hB.trans (hbf.mono hB.size)
  clear hbf
  try simp only [List.length_cons, List.length_nil, Nat.reduceAdd]
  gi_wp2_with fail
  refine ⟨trivial, (callsIn_wide.2 (rows_lit [[1]] [1] rfl (by decide) (by decide) 1 1 [1] 1 rfl rfl rfl rfl _ 1 _ (rdss1 V6 (V6.heap.size) (by simp) [1] #[.int .i64 1] rfl 1 rfl))).mono ?_⟩
  rintro e V7 ⟨⟨v, rfl, hv⟩, hb⟩
  obtain ⟨sl, rfl, hrow⟩ := hv
  obtain ⟨sya, syc, rfl⟩ := row_slice hrow
  have ry : V7.ownsRow w.heap.size 3 1 (.slice sya 1 syc) 1 ([1].map (Value.int .i64)) := row_base hrow (Nat.le_trans hB.size (by simp <;> omega))
  clear hrow
  have hbf := chain2 hb
  clear hb
  replace ka := ka.below hbf ka.lt
  replace kb := kb.below hbf kb.lt
  replace ra := row_below ra hbf
  replace rb := row_below rb hbf
  replace rx := row_below rx hbf
  replace hB := hB.trans (hbf.mono hB.size)
  clear hbf
  try simp only [List.length_cons, List.length_nil, Nat.reduceAdd]
  gi_wp2_with fail
  have hcall := Zip_any 1 1 sxa sxc 1 [2147483648] (Lib.hid rfl) 1 1 sya syc 1 [1] (Lib.hid rfl) 5 (by decide) (by decide) V7 (by decide) (by decide) (row_rd' rfl (xs := [2147483648]) rx) (row_rd' rfl (xs := [1]) ry)
  rw [show zipS 1 1 [2147483648] 1 1 [1] 5 = { w := 1, h := 1, px := [2147483648], err := 0 } from by kernel_rfl] at hcall
  refine ⟨trivial, (callsIn_wide.2 hcall).mono ?_⟩
  clear hcall
  rintro e V8 ⟨⟨v, rfl, hv⟩, hb⟩
  obtain ⟨sl, rfl, hrow⟩ := hv
  obtain ⟨sca, scc, rfl⟩ := row_slice hrow
  have rc : V8.ownsRow w.heap.size 3 1 (.slice sca 1 scc) 1 ([2147483648].map (Value.int .i64)) := row_base hrow (Nat.le_trans hB.size (by simp <;> omega))
  clear hrow
  have hbf := chain0 hb
  clear hb
  replace ka := ka.below hbf ka.lt
  replace kb := kb.below hbf kb.lt
  replace ra := row_below ra hbf
  replace rb := row_below rb hbf
  replace rx := row_below rx hbf
  replace ry := row_below ry hbf
  replace hB := hB.trans (hbf.mono hB.size)
  clear hbf
  clear rx ry
  gi_wp2_with fail
  refine ⟨trivial, (callsIn_wide.2 (rows_lit [[-2147483648]] [-2147483648] rfl (by decide) (by decide) 1 1 [-2147483648] 1 rfl rfl rfl rfl _ 1 _ (rdss1 (V8.alloc (.cells #[.int .i64 1, .int .i64 1, .slice sca 1 scc] 24)) (V8.heap.size + 1) (by simp) [-2147483648] #[.int .i64 (-2147483648)] rfl 1 rfl))).mono ?_⟩
  rintro e V9 ⟨⟨v, rfl, hv⟩, hb⟩
  obtain ⟨sl, rfl, hrow⟩ := hv
  obtain ⟨sxa, sxc, rfl⟩ := row_slice hrow
  have rx : V9.ownsRow w.heap.size 3 1 (.slice sxa 1 sxc) 1 ([-2147483648].map (Value.int .i64)) := row_base hrow (Nat.le_trans hB.size (by simp <;> omega))
  clear hrow
  have kc : Blk V9 (V8.heap.size) 24 #[.int .i64 1, .int .i64 1, .slice sca 1 scc] := ((((Blk.new V8 24 #[.int .i64 1, .int .i64 1, .slice sca 1 scc]).alloc (.cells #[.int .i64 (-2147483648)] 3)).alloc (.cells #[.slice (some ⟨V8.heap.size + 1, 0, none⟩) 1 1] 22)).below hb (by simp <;> omega))
  have gkc : w.heap.size ≤ V8.heap.size := by have := hB.size; omega
  have lkakc : V2.heap.size < V8.heap.size := by have := ka.lt; omega
  have lkbkc : V5.heap.size < V8.heap.size := by have := kb.lt; omega
  have hbf := chain3 hb
  clear hb
  replace ka := ka.below hbf ka.lt
  replace kb := kb.below hbf kb.lt
  replace ra := row_below ra hbf
  replace rb := row_below rb hbf
  replace rc := row_below rc hbf
  replace hB := hB.trans (hbf.mono hB.size)
  clear hbf
  try simp only [List.length_cons, List.length_nil, Nat.reduceAdd]
  gi_wp2_with fail
  refine ⟨trivial, (callsIn_wide.2 (rows_lit [[1]] [1] rfl (by decide) (by decide) 1 1 [1] 1 rfl rfl rfl rfl _ 1 _ (rdss1 V9 (V9.heap.size) (by simp) [1] #[.int .i64 1] rfl 1 rfl))).mono ?_⟩
  rintro e V10 ⟨⟨v, rfl, hv⟩, hb⟩
  obtain ⟨sl, rfl, hrow⟩ := hv
  obtain ⟨sya, syc, rfl⟩ := row_slice hrow
  have ry : V10.ownsRow w.heap.size 3 1 (.slice sya 1 syc) 1 ([1].map (Value.int .i64)) := row_base hrow (Nat.le_trans hB.size (by simp <;> omega))
  clear hrow
  have hbf := chain2 hb
  clear hb
  replace ka := ka.below hbf ka.lt
  replace kb := kb.below hbf kb.lt
  replace kc := kc.below hbf kc.lt
  replace ra := row_below ra hbf
  replace rb := row_below rb hbf
  replace rc := row_below rc hbf
  replace rx := row_below rx hbf
  replace hB := hB.trans (hbf.mono hB.size)
  clear hbf
  try simp only [List.length_cons, List.length_nil, Nat.reduceAdd]
  gi_wp2_with fail
  have hcall := Zip_any 1 1 sxa sxc 1 [-2147483648] (Lib.hid rfl) 1 1 sya syc 1 [1] (Lib.hid rfl) 2 (by decide) (by decide) V10 (by decide) (by decide) (row_rd' rfl (xs := [-2147483648]) rx) (row_rd' rfl (xs := [1]) ry)
  rw [show zipS 1 1 [-2147483648] 1 1 [1] 2 = { w := 1, h := 1, px := [-2147483648], err := 0 } from by kernel_rfl] at hcall
  refine ⟨trivial, (callsIn_wide.2 hcall).mono ?_⟩
  clear hcall
  rintro e V11 ⟨⟨v, rfl, hv⟩, hb⟩
  obtain ⟨sl, rfl, hrow⟩ := hv
  obtain ⟨sda, sdc, rfl⟩ := row_slice hrow
  have rd : V11.ownsRow w.heap.size 3 1 (.slice sda 1 sdc) 1 ([-2147483648].map (Value.int .i64)) := row_base hrow (Nat.le_trans hB.size (by simp <;> omega))
  clear hrow
  have hbf := chain0 hb
  clear hb
  replace ka := ka.below hbf ka.lt
  replace kb := kb.below hbf kb.lt
  replace kc := kc.below hbf kc.lt
  replace ra := row_below ra hbf
  replace rb := row_below rb hbf
  replace rc := row_below rc hbf
  replace rx := row_below rx hbf
  replace ry := row_below ry hbf
  replace hB := hB.trans (hbf.mono hB.size)
  clear hbf
  clear rx ry
  gi_wp2_with fail
  refine ⟨trivial, (callsIn_wide.2 (rows_lit [[-2147483648]] [-2147483648] rfl (by decide) (by decide) 1 1 [-2147483648] 1 rfl rfl rfl rfl _ 1 _ (rdss1 (V11.alloc (.cells #[.int .i64 1, .int .i64 1, .slice sda 1 sdc] 24)) (V11.heap.size + 1) (by simp) [-2147483648] #[.int .i64 (-2147483648)] rfl 1 rfl))).mono ?_⟩
  rintro e V12 ⟨⟨v, rfl, hv⟩, hb⟩
  obtain ⟨sl, rfl, hrow⟩ := hv
  obtain ⟨sxa, sxc, rfl⟩ := row_slice hrow
  have rx : V12.ownsRow w.heap.size 3 1 (.slice sxa 1 sxc) 1 ([-2147483648].map (Value.int .i64)) := row_base hrow (Nat.le_trans hB.size (by simp <;> omega))
  clear hrow
  have kd : Blk V12 (V11.heap.size) 24 #[.int .i64 1, .int .i64 1, .slice sda 1 sdc] := ((((Blk.new V11 24 #[.int .i64 1, .int .i64 1, .slice sda 1 sdc]).alloc (.cells #[.int .i64 (-2147483648)] 3)).alloc (.cells #[.slice (some ⟨V11.heap.size + 1, 0, none⟩) 1 1] 22)).below hb (by simp <;> omega))
  have gkd : w.heap.size ≤ V11.heap.size := by have := hB.size; omega
  have lkakd : V2.heap.size < V11.heap.size := by have := ka.lt; omega
  have lkbkd : V5.heap.size < V11.heap.size := by have := kb.lt; omega
  have lkckd : V8.heap.size < V11.heap.size := by have := kc.lt; omega
  have hbf := chain3 hb
  clear hb
  replace ka := ka.below hbf ka.lt
  replace kb := kb.below hbf kb.lt
  replace kc := kc.below hbf kc.lt
  replace ra := row_below ra hbf
  replace rb := row_below rb hbf
  replace rc := row_below rc hbf
  replace rd := row_below rd hbf
  replace hB := hB.trans (hbf.mono hB.size)
  clear hbf
  try simp only [List.length_cons, List.length_nil, Nat.reduceAdd]
  gi_wp2_with fail
  refine ⟨trivial, (callsIn_wide.2 (rows_lit [[1]] [1] rfl (by decide) (by decide) 1 1 [1] 1 rfl rfl rfl rfl _ 1 _ (rdss1 V12 (V12.heap.size) (by simp) [1] #[.int .i64 1] rfl 1 rfl))).mono ?_⟩
  rintro e V13 ⟨⟨v, rfl, hv⟩, hb⟩
  obtain ⟨sl, rfl, hrow⟩ := hv
  obtain ⟨sya, syc, rfl⟩ := row_slice hrow
  have ry : V13.ownsRow w.heap.size 3 1 (.slice sya 1 syc) 1 ([1].map (Value.int .i64)) := row_base hrow (Nat.le_trans hB.size (by simp <;> omega))
  clear hrow
  have hbf := chain2 hb
  clear hb
  replace ka := ka.below hbf ka.lt
  replace kb := kb.below hbf kb.lt
  replace kc := kc.below hbf kc.lt
  replace kd := kd.below hbf kd.lt
  replace ra := row_below ra hbf
  replace rb := row_below rb hbf
  replace rc := row_below rc hbf
  replace rd := row_below rd hbf
  replace rx := row_below rx hbf
  replace hB := hB.trans (hbf.mono hB.size)
  clear hbf
  try simp only [List.length_cons, List.length_nil, Nat.reduceAdd]
  gi_wp2_with fail
  have hcall := Zip_any 1 1 sxa sxc 1 [-2147483648] (Lib.hid rfl) 1 1 sya syc 1 [1] (Lib.hid rfl) 6 (by decide) (by decide) V13 (by decide) (by decide) (row_rd' rfl (xs := [-2147483648]) rx) (row_rd' rfl (xs := [1]) ry)
  rw [show zipS 1 1 [-2147483648] 1 1 [1] 6 = { w := 1, h := 1, px := [2147483648], err := 0 } from by kernel_rfl] at hcall
  refine ⟨trivial, (callsIn_wide.2 hcall).mono ?_⟩
  clear hcall
  rintro e V14 ⟨⟨v, rfl, hv⟩, hb⟩
  obtain ⟨sl, rfl, hrow⟩ := hv
  obtain ⟨sia, sic, rfl⟩ := row_slice hrow
  have ri : V14.ownsRow w.heap.size 3 1 (.slice sia 1 sic) 1 ([2147483648].map (Value.int .i64)) := row_base hrow (Nat.le_trans hB.size (by simp <;> omega))
  clear hrow
  have hbf := chain0 hb
  clear hb
  replace ka := ka.below hbf ka.lt
  replace kb := kb.below hbf kb.lt
  replace kc := kc.below hbf kc.lt
  replace kd := kd.below hbf kd.lt
  replace ra := row_below ra hbf
  replace rb := row_below rb hbf
  replace rc := row_below rc hbf
  replace rd := row_below rd hbf
  replace rx := row_below rx hbf
  replace ry := row_below ry hbf
  replace hB := hB.trans (hbf.mono hB.size)
  clear hbf
  clear rx ry
  gi_wp2_with fail
  refine ⟨trivial, (callsIn_wide.2 (alive_any _)).mono ?_⟩
  rintro e V15 ⟨rfl, hb⟩
  have ki : Blk V15 (V14.heap.size) 24 #[.int .i64 1, .int .i64 1, .slice sia 1 sic] := ((Blk.new V14 24 #[.int .i64 1, .int .i64 1, .slice sia 1 sic]).below hb (by simp <;> omega))
  have gki : w.heap.size ≤ V14.heap.size := by have := hB.size; omega
  have lkaki : V2.heap.size < V14.heap.size := by have := ka.lt; omega
  have lkbki : V5.heap.size < V14.heap.size := by have := kb.lt; omega
  have lkcki : V8.heap.size < V14.heap.size := by have := kc.lt; omega
  have lkdki : V11.heap.size < V14.heap.size := by have := kd.lt; omega
  have hbf := chain1 hb
  clear hb
  replace ka := ka.below hbf ka.lt
  replace kb := kb.below hbf kb.lt
  replace kc := kc.below hbf kc.lt
  replace kd := kd.below hbf kd.lt
  replace ra := row_below ra hbf
  replace rb := row_below rb hbf
  replace rc := row_below rc hbf
  replace rd := row_below rd hbf
  replace ri := row_below ri hbf
  replace hB := hB.trans (hbf.mono hB.size)
  clear hbf
  have y0 := ka.cell (i := 0) rfl
  have y1 := ka.cell (i := 1) rfl
  have y2 := ka.cell (i := 2) rfl
  gi_wp2_with fail
  clear y0 y1 y2
  refine ⟨trivial, (callsIn_wide.2 (is_true [[255]] [255] rfl (by decide) (by decide) 1 1 [255] 1 rfl rfl rfl rfl saa sac 1 (Lib.hid rfl) (by decide) _ 1 _ (row_rd' rfl (xs := [255]) ((ra.alloc (.cells #[.int .i64 255] 3)).alloc (.cells #[.slice (some ⟨V15.heap.size, 0, none⟩) 1 1] 22))) (rdss1 V15 (V15.heap.size) (by simp) [255] #[.int .i64 255] rfl 1 rfl))).mono ?_⟩
  rintro e V16 ⟨rfl, hb⟩
  have hbf := chain2 hb
  clear hb
  replace ka := ka.below hbf ka.lt
  replace kb := kb.below hbf kb.lt
  replace kc := kc.below hbf kc.lt
  replace kd := kd.below hbf kd.lt
  replace ki := ki.below hbf ki.lt
  replace ra := row_below ra hbf
  replace rb := row_below rb hbf
  replace rc := row_below rc hbf
  replace rd := row_below rd hbf
  replace ri := row_below ri hbf
  replace hB := hB.trans (hbf.mono hB.size)
  clear hbf
  have y0 := kb.cell (i := 0) rfl
  have y1 := kb.cell (i := 1) rfl
  have y2 := kb.cell (i := 2) rfl
  gi_wp2_with fail
  clear y0 y1 y2
  refine ⟨trivial, (callsIn_wide.2 (is_true [[2147483648]] [2147483648] rfl (by decide) (by decide) 1 1 [2147483648] 1 rfl rfl rfl rfl sba sbc 1 (Lib.hid rfl) (by decide) _ 1 _ (row_rd' rfl (xs := [2147483648]) ((rb.alloc (.cells #[.int .i64 2147483648] 3)).alloc (.cells #[.slice (some ⟨V16.heap.size, 0, none⟩) 1 1] 22))) (rdss1 V16 (V16.heap.size) (by simp) [2147483648] #[.int .i64 2147483648] rfl 1 rfl))).mono ?_⟩
  rintro e V17 ⟨rfl, hb⟩
  have hbf := chain2 hb
  clear hb
  replace ka := ka.below hbf ka.lt
  replace kb := kb.below hbf kb.lt
  replace kc := kc.below hbf kc.lt
  replace kd := kd.below hbf kd.lt
  replace ki := ki.below hbf ki.lt
  replace ra := row_below ra hbf
  replace rb := row_below rb hbf
  replace rc := row_below rc hbf
  replace rd := row_below rd hbf
  replace ri := row_below ri hbf
  replace hB := hB.trans (hbf.mono hB.size)
  clear hbf
  have y0 := kc.cell (i := 0) rfl
  have y1 := kc.cell (i := 1) rfl
  have y2 := kc.cell (i := 2) rfl
  gi_wp2_with fail
  clear y0 y1 y2
  refine ⟨trivial, (callsIn_wide.2 (is_true [[2147483648]] [2147483648] rfl (by decide) (by decide) 1 1 [2147483648] 1 rfl rfl rfl rfl sca scc 1 (Lib.hid rfl) (by decide) _ 1 _ (row_rd' rfl (xs := [2147483648]) ((rc.alloc (.cells #[.int .i64 2147483648] 3)).alloc (.cells #[.slice (some ⟨V17.heap.size, 0, none⟩) 1 1] 22))) (rdss1 V17 (V17.heap.size) (by simp) [2147483648] #[.int .i64 2147483648] rfl 1 rfl))).mono ?_⟩
  rintro e V18 ⟨rfl, hb⟩
  have hbf := chain2 hb
  clear hb
  replace ka := ka.below hbf ka.lt
  replace kb := kb.below hbf kb.lt
  replace kc := kc.below hbf kc.lt
  replace kd := kd.below hbf kd.lt
  replace ki := ki.below hbf ki.lt
  replace ra := row_below ra hbf
  replace rb := row_below rb hbf
  replace rc := row_below rc hbf
  replace rd := row_below rd hbf
  replace ri := row_below ri hbf
  replace hB := hB.trans (hbf.mono hB.size)
  clear hbf
  have y0 := kd.cell (i := 0) rfl
  have y1 := kd.cell (i := 1) rfl
  have y2 := kd.cell (i := 2) rfl
  gi_wp2_with fail
  clear y0 y1 y2
  refine ⟨trivial, (callsIn_wide.2 (is_true [[-2147483648]] [-2147483648] rfl (by decide) (by decide) 1 1 [-2147483648] 1 rfl rfl rfl rfl sda sdc 1 (Lib.hid rfl) (by decide) _ 1 _ (row_rd' rfl (xs := [-2147483648]) ((rd.alloc (.cells #[.int .i64 (-2147483648)] 3)).alloc (.cells #[.slice (some ⟨V18.heap.size, 0, none⟩) 1 1] 22))) (rdss1 V18 (V18.heap.size) (by simp) [-2147483648] #[.int .i64 (-2147483648)] rfl 1 rfl))).mono ?_⟩
  rintro e V19 ⟨rfl, hb⟩
  have hbf := chain2 hb
  clear hb
  replace ka := ka.below hbf ka.lt
  replace kb := kb.below hbf kb.lt
  replace kc := kc.below hbf kc.lt
  replace kd := kd.below hbf kd.lt
  replace ki := ki.below hbf ki.lt
  replace ra := row_below ra hbf
  replace rb := row_below rb hbf
  replace rc := row_below rc hbf
  replace rd := row_below rd hbf
  replace ri := row_below ri hbf
  replace hB := hB.trans (hbf.mono hB.size)
  clear hbf
  have y0 := ki.cell (i := 0) rfl
  have y1 := ki.cell (i := 1) rfl
  have y2 := ki.cell (i := 2) rfl
  gi_wp2_with fail
  clear y0 y1 y2
  refine ⟨trivial, (callsIn_wide.2 (is_true [[2147483648]] [2147483648] rfl (by decide) (by decide) 1 1 [2147483648] 1 rfl rfl rfl rfl sia sic 1 (Lib.hid rfl) (by decide) _ 1 _ (row_rd' rfl (xs := [2147483648]) ((ri.alloc (.cells #[.int .i64 2147483648] 3)).alloc (.cells #[.slice (some ⟨V19.heap.size, 0, none⟩) 1 1] 22))) (rdss1 V19 (V19.heap.size) (by simp) [2147483648] #[.int .i64 2147483648] rfl 1 rfl))).mono ?_⟩
  rintro e V20 ⟨rfl, hb⟩
  have hbf := chain2 hb
  clear hb
  replace ka := ka.below hbf ka.lt
  replace kb := kb.below hbf kb.lt
  replace kc := kc.below hbf kc.lt
  replace kd := kd.below hbf kd.lt
  replace ki := ki.below hbf ki.lt
  replace ra := row_below ra hbf
  replace rb := row_below rb hbf
  replace rc := row_below rc hbf
  replace rd := row_below rd hbf
  replace ri := row_below ri hbf
  replace hB := hB.trans (hbf.mono hB.size)
  clear hbf
  clear ra rb rc rd ri
  clear ki gki lkaki lkbki lkcki lkdki
  gi_wp2_with fail
  refine ⟨trivial, (callsIn_wide.2 (rows_lit [[1, 2, 3]] [1, 2, 3] rfl (by decide) (by decide) 3 1 [1, 2, 3] 1 rfl rfl rfl rfl _ 1 _ (rdss1 V20 (V20.heap.size) (by simp) [1, 2, 3] #[.int .i64 1, .int .i64 2, .int .i64 3] rfl 3 rfl))).mono ?_⟩
  rintro e V21 ⟨⟨v, rfl, hv⟩, hb⟩
  obtain ⟨sl, rfl, hrow⟩ := hv
  obtain ⟨sxa, sxc, rfl⟩ := row_slice hrow
  have rx : V21.ownsRow w.heap.size 3 1 (.slice sxa 3 sxc) 3 ([1, 2, 3].map (Value.int .i64)) := row_base hrow (Nat.le_trans hB.size (by simp <;> omega))
  clear hrow
  have hbf := chain2 hb
  clear hb
  replace ka := ka.below hbf ka.lt
  replace kb := kb.below hbf kb.lt
  replace kc := kc.below hbf kc.lt
  replace kd := kd.below hbf kd.lt
  replace hB := hB.trans (hbf.mono hB.size)
  clear hbf
  try simp only [List.length_cons, List.length_nil, Nat.reduceAdd]
  gi_wp2_with fail
  refine ⟨trivial, (callsIn_wide.2 (line_any (some ⟨V21.heap.size, 0, none⟩) 3 3 _)).mono ?_⟩
  rintro e V22 ⟨rfl, hb⟩
  have kt : Blk V22 (V21.heap.size) 3 #[.int .i64 1, .int .i64 0, .int .i64 (-1)] := ((Blk.new V21 3 #[.int .i64 1, .int .i64 0, .int .i64 (-1)]).below hb (by simp <;> omega))
  have gkt : w.heap.size ≤ V21.heap.size := by have := hB.size; omega
  have lkakt : V2.heap.size < V21.heap.size := by have := ka.lt; omega
  have lkbkt : V5.heap.size < V21.heap.size := by have := kb.lt; omega
  have lkckt : V8.heap.size < V21.heap.size := by have := kc.lt; omega
  have lkdkt : V11.heap.size < V21.heap.size := by have := kd.lt; omega
  have hbf := chain1 hb
  clear hb
  replace ka := ka.below hbf ka.lt
  replace kb := kb.below hbf kb.lt
  replace kc := kc.below hbf kc.lt
  replace kd := kd.below hbf kd.lt
  replace rx := row_below rx hbf
  replace hB := hB.trans (hbf.mono hB.size)
  clear hbf
  gi_wp2_with fail
  have hcall := Convolve_any 3 1 sxa sxc 3 [1, 2, 3] (Lib.hid rfl) 3 1 (some ⟨V21.heap.size, 0, none⟩) 3 3 [1, 0, -1] (Lib.hid rfl) 1 (by decide) (by decide) V22 (by decide) (row_rd' rfl (xs := [1, 2, 3]) rx) (by decide) (.inr ⟨_, 0, rfl, kt.lt, fun i hi => rd_litG kt rfl i hi⟩)
  rw [show convS 3 1 [1, 2, 3] 3 1 [1, 0, -1] 1 = { w := 3, h := 1, px := [2, 2, -2], err := 0 } from by kernel_rfl] at hcall
  refine ⟨trivial, (callsIn_wide.2 hcall).mono ?_⟩
  clear hcall
  rintro e V23 ⟨⟨v, rfl, hv⟩, hb⟩
  obtain ⟨sl, rfl, hrow⟩ := hv
  obtain ⟨saa, sac, rfl⟩ := row_slice hrow
  have ra : V23.ownsRow w.heap.size 3 1 (.slice saa 3 sac) 3 ([2, 2, -2].map (Value.int .i64)) := row_base hrow (Nat.le_trans hB.size (by simp <;> omega))
  clear hrow
  have hbf := chain0 hb
  clear hb
  replace ka := ka.below hbf ka.lt
  replace kb := kb.below hbf kb.lt
  replace kc := kc.below hbf kc.lt
  replace kd := kd.below hbf kd.lt
  replace kt := kt.below hbf kt.lt
  replace rx := row_below rx hbf
  replace hB := hB.trans (hbf.mono hB.size)
  clear hbf
  clear rx
  clear kt gkt lkakt lkbkt lkckt lkdkt
  obtain ⟨V24, hW⟩ : ∃ X, put3 V23 (V2.heap.size) (.int .i64 3) (.int .i64 1) (.slice saa 3 sac) = X := ⟨_, rfl⟩
  have hg : V23.grownBy V24 (some (V2.heap.size)) := hW ▸ put3_grownE _ _ _ _ _
  have ka' := put3_blk ka (.int .i64 3) (.int .i64 1) (.slice saa 3 sac)
  rw [hW] at ka'
  have ra' := put3_row ra (ka.not_row (by decide) ra) (.int .i64 3) (.int .i64 1) (.slice saa 3 sac)
  rw [hW] at ra'
  have kb' := kb.kept hg (by have := lkakb; simp; omega)
  have kc' := kc.kept hg (by have := lkakc; simp; omega)
  have kd' := kd.kept hg (by have := lkakd; simp; omega)
  have hB' := hB.trans (put3_below gka (.int .i64 3) (.int .i64 1) (.slice saa 3 sac))
  rw [hW] at hB'
  have z0 := ka.cell (i := 0) rfl
  have fz0 := ka.frozen 0
  have z1 := ka.cell (i := 1) rfl
  have fz1 := ka.frozen 1
  have z2 := ka.cell (i := 2) rfl
  have fz2 := ka.frozen 2
  clear hg
  gi_wp2_with fail
  clear hW z0 z1 z2 fz0 fz1 fz2
  replace ka := ka'
  clear ka'
  replace kb := kb'
  clear kb'
  replace kc := kc'
  clear kc'
  replace kd := kd'
  clear kd'
  replace ra := ra'
  clear ra'
  replace hB := hB'
  clear hB'
  refine ⟨trivial, (callsIn_wide.2 (rows_lit [[1, 2, 3]] [1, 2, 3] rfl (by decide) (by decide) 3 1 [1, 2, 3] 1 rfl rfl rfl rfl _ 1 _ (rdss1 V24 (V24.heap.size) (by simp) [1, 2, 3] #[.int .i64 1, .int .i64 2, .int .i64 3] rfl 3 rfl))).mono ?_⟩
  rintro e V25 ⟨⟨v, rfl, hv⟩, hb⟩
  obtain ⟨sl, rfl, hrow⟩ := hv
  obtain ⟨sxa, sxc, rfl⟩ := row_slice hrow
  have rx : V25.ownsRow w.heap.size 3 1 (.slice sxa 3 sxc) 3 ([1, 2, 3].map (Value.int .i64)) := row_base hrow (Nat.le_trans hB.size (by simp <;> omega))
  clear hrow
  have hbf := chain2 hb
  clear hb
  replace ka := ka.below hbf ka.lt
  replace kb := kb.below hbf kb.lt
  replace kc := kc.below hbf kc.lt
  replace kd := kd.below hbf kd.lt
  replace ra := row_below ra hbf
  replace hB := hB.trans (hbf.mono hB.size)
  clear hbf
  try simp only [List.length_cons, List.length_nil, Nat.reduceAdd]
  gi_wp2_with fail
  refine ⟨trivial, (callsIn_wide.2 (line_any (some ⟨V25.heap.size, 0, none⟩) 3 3 _)).mono ?_⟩
  rintro e V26 ⟨rfl, hb⟩
  have kt : Blk V26 (V25.heap.size) 3 #[.int .i64 1, .int .i64 0, .int .i64 (-1)] := ((Blk.new V25 3 #[.int .i64 1, .int .i64 0, .int .i64 (-1)]).below hb (by simp <;> omega))
  have gkt : w.heap.size ≤ V25.heap.size := by have := hB.size; omega
  have lkakt : V2.heap.size < V25.heap.size := by have := ka.lt; omega
  have lkbkt : V5.heap.size < V25.heap.size := by have := kb.lt; omega
  have lkckt : V8.heap.size < V25.heap.size := by have := kc.lt; omega
  have lkdkt : V11.heap.size < V25.heap.size := by have := kd.lt; omega
  have hbf := chain1 hb
  clear hb
  replace ka := ka.below hbf ka.lt
  replace kb := kb.below hbf kb.lt
  replace kc := kc.below hbf kc.lt
  replace kd := kd.below hbf kd.lt
  replace ra := row_below ra hbf
  replace rx := row_below rx hbf
  replace hB := hB.trans (hbf.mono hB.size)
  clear hbf
  gi_wp2_with fail
  have hcall := Convolve_any 3 1 sxa sxc 3 [1, 2, 3] (Lib.hid rfl) 3 1 (some ⟨V25.heap.size, 0, none⟩) 3 3 [1, 0, -1] (Lib.hid rfl) 2 (by decide) (by decide) V26 (by decide) (row_rd' rfl (xs := [1, 2, 3]) rx) (by decide) (.inr ⟨_, 0, rfl, kt.lt, fun i hi => rd_litG kt rfl i hi⟩)
  rw [show convS 3 1 [1, 2, 3] 3 1 [1, 0, -1] 2 = { w := 3, h := 1, px := [1, 2, 1], err := 0 } from by kernel_rfl] at hcall
  refine ⟨trivial, (callsIn_wide.2 hcall).mono ?_⟩
  clear hcall
  rintro e V27 ⟨⟨v, rfl, hv⟩, hb⟩
  obtain ⟨sl, rfl, hrow⟩ := hv
  obtain ⟨sba, sbc, rfl⟩ := row_slice hrow
  have rb : V27.ownsRow w.heap.size 3 1 (.slice sba 3 sbc) 3 ([1, 2, 1].map (Value.int .i64)) := row_base hrow (Nat.le_trans hB.size (by simp <;> omega))
  clear hrow
  have hbf := chain0 hb
  clear hb
  replace ka := ka.below hbf ka.lt
  replace kb := kb.below hbf kb.lt
  replace kc := kc.below hbf kc.lt
  replace kd := kd.below hbf kd.lt
  replace kt := kt.below hbf kt.lt
  replace ra := row_below ra hbf
  replace rx := row_below rx hbf
  replace hB := hB.trans (hbf.mono hB.size)
  clear hbf
  clear rx
  clear kt gkt lkakt lkbkt lkckt lkdkt
  obtain ⟨V28, hW⟩ : ∃ X, put3 V27 (V5.heap.size) (.int .i64 3) (.int .i64 1) (.slice sba 3 sbc) = X := ⟨_, rfl⟩
  have hg : V27.grownBy V28 (some (V5.heap.size)) := hW ▸ put3_grownE _ _ _ _ _
  have kb' := put3_blk kb (.int .i64 3) (.int .i64 1) (.slice sba 3 sbc)
  rw [hW] at kb'
  have ra' := put3_row ra (kb.not_row (by decide) ra) (.int .i64 3) (.int .i64 1) (.slice sba 3 sbc)
  rw [hW] at ra'
  have rb' := put3_row rb (kb.not_row (by decide) rb) (.int .i64 3) (.int .i64 1) (.slice sba 3 sbc)
  rw [hW] at rb'
  have ka' := ka.kept hg (by have := lkakb; simp; omega)
  have kc' := kc.kept hg (by have := lkbkc; simp; omega)
  have kd' := kd.kept hg (by have := lkbkd; simp; omega)
  have hB' := hB.trans (put3_below gkb (.int .i64 3) (.int .i64 1) (.slice sba 3 sbc))
  rw [hW] at hB'
  have z0 := kb.cell (i := 0) rfl
  have fz0 := kb.frozen 0
  have z1 := kb.cell (i := 1) rfl
  have fz1 := kb.frozen 1
  have z2 := kb.cell (i := 2) rfl
  have fz2 := kb.frozen 2
  clear hg
  gi_wp2_with fail
  clear hW z0 z1 z2 fz0 fz1 fz2
  replace ka := ka'
  clear ka'
  replace kb := kb'
  clear kb'
  replace kc := kc'
  clear kc'
  replace kd := kd'
  clear kd'
  replace ra := ra'
  clear ra'
  replace rb := rb'
  clear rb'
  replace hB := hB'
  clear hB'
  refine ⟨trivial, (callsIn_wide.2 (line_any (some ⟨V28.heap.size, 0, none⟩) 3 3 _)).mono ?_⟩
  rintro e V29 ⟨rfl, hb⟩
  have kp : Blk V29 (V28.heap.size) 3 #[.int .i64 1, .int .i64 1, .int .i64 1] := ((Blk.new V28 3 #[.int .i64 1, .int .i64 1, .int .i64 1]).below hb (by simp <;> omega))
  have gkp : w.heap.size ≤ V28.heap.size := by have := hB.size; omega
  have lkakp : V2.heap.size < V28.heap.size := by have := ka.lt; omega
  have lkbkp : V5.heap.size < V28.heap.size := by have := kb.lt; omega
  have lkckp : V8.heap.size < V28.heap.size := by have := kc.lt; omega
  have lkdkp : V11.heap.size < V28.heap.size := by have := kd.lt; omega
  have hbf := chain1 hb
  clear hb
  replace ka := ka.below hbf ka.lt
  replace kb := kb.below hbf kb.lt
  replace kc := kc.below hbf kc.lt
  replace kd := kd.below hbf kd.lt
  replace ra := row_below ra hbf
  replace rb := row_below rb hbf
  replace hB := hB.trans (hbf.mono hB.size)
  clear hbf
  gi_wp2_with fail
  refine ⟨trivial, (callsIn_wide.2 (line_any (some ⟨V29.heap.size, 0, none⟩) 3 3 _)).mono ?_⟩
  rintro e V30 ⟨rfl, hb⟩
  have kq : Blk V30 (V29.heap.size) 3 #[.int .i64 1, .int .i64 0, .int .i64 (-1)] := ((Blk.new V29 3 #[.int .i64 1, .int .i64 0, .int .i64 (-1)]).below hb (by simp <;> omega))
  have gkq : w.heap.size ≤ V29.heap.size := by have := hB.size; omega
  have lkakq : V2.heap.size < V29.heap.size := by have := ka.lt; omega
  have lkbkq : V5.heap.size < V29.heap.size := by have := kb.lt; omega
  have lkckq : V8.heap.size < V29.heap.size := by have := kc.lt; omega
  have lkdkq : V11.heap.size < V29.heap.size := by have := kd.lt; omega
  have lkpkq : V28.heap.size < V29.heap.size := by have := kp.lt; omega
  have hbf := chain1 hb
  clear hb
  replace ka := ka.below hbf ka.lt
  replace kb := kb.below hbf kb.lt
  replace kc := kc.below hbf kc.lt
  replace kd := kd.below hbf kd.lt
  replace kp := kp.below hbf kp.lt
  replace ra := row_below ra hbf
  replace rb := row_below rb hbf
  replace hB := hB.trans (hbf.mono hB.size)
  clear hbf
  gi_wp2_with fail
  have hcall := Compose_any 3 1 (some ⟨V28.heap.size, 0, none⟩) 3 3 [1, 1, 1] (Lib.hid rfl) 3 1 (some ⟨V29.heap.size, 0, none⟩) 3 3 [1, 0, -1] (Lib.hid rfl) V30 (by decide) (.inr ⟨_, 0, rfl, kp.lt, fun i hi => rd_litG kp rfl i hi⟩) (by decide) (.inr ⟨_, 0, rfl, kq.lt, fun i hi => rd_litG kq rfl i hi⟩)
  rw [show compS 3 1 [1, 1, 1] 3 1 [1, 0, -1] = { w := 5, h := 1, px := [1, 1, 0, -1, -1], err := 0 } from by kernel_rfl] at hcall
  refine ⟨trivial, (callsIn_wide.2 hcall).mono ?_⟩
  clear hcall
  rintro e V31 ⟨⟨v, rfl, hv⟩, hb⟩
  obtain ⟨sl, rfl, hrow⟩ := hv
  obtain ⟨ska, skc, rfl⟩ := row_slice hrow
  have rk : V31.ownsRow w.heap.size 3 1 (.slice ska 5 skc) 5 ([1, 1, 0, -1, -1].map (Value.int .i64)) := row_base hrow (Nat.le_trans hB.size (by simp <;> omega))
  clear hrow
  have hbf := chain0 hb
  clear hb
  replace ka := ka.below hbf ka.lt
  replace kb := kb.below hbf kb.lt
  replace kc := kc.below hbf kc.lt
  replace kd := kd.below hbf kd.lt
  replace kp := kp.below hbf kp.lt
  replace kq := kq.below hbf kq.lt
  replace ra := row_below ra hbf
  replace rb := row_below rb hbf
  replace hB := hB.trans (hbf.mono hB.size)
  clear hbf
  clear kp gkp lkakp lkbkp lkckp lkdkp lkpkq kq gkq lkakq lkbkq lkckq lkdkq
  gi_wp2_with fail
  refine ⟨trivial, (callsIn_wide.2 (line_any (some ⟨V31.heap.size + 1, 0, none⟩) 3 3 _)).mono ?_⟩
  rintro e V32 ⟨rfl, hb⟩
  have kk : Blk V32 (V31.heap.size) 64 #[.int .i64 5, .int .i64 1, .slice ska 5 skc] := (((Blk.new V31 64 #[.int .i64 5, .int .i64 1, .slice ska 5 skc]).alloc (.cells #[.int .i64 1, .int .i64 1, .int .i64 1] 3)).below hb (by simp <;> omega))
  have gkk : w.heap.size ≤ V31.heap.size := by have := hB.size; omega
  have lkakk : V2.heap.size < V31.heap.size := by have := ka.lt; omega
  have lkbkk : V5.heap.size < V31.heap.size := by have := kb.lt; omega
  have lkckk : V8.heap.size < V31.heap.size := by have := kc.lt; omega
  have lkdkk : V11.heap.size < V31.heap.size := by have := kd.lt; omega
  have kp : Blk V32 (V31.heap.size + 1) 3 #[.int .i64 1, .int .i64 1, .int .i64 1] := (by have h := (Blk.new (V31.alloc (.cells #[.int .i64 5, .int .i64 1, .slice ska 5 skc] 64)) 3 #[.int .i64 1, .int .i64 1, .int .i64 1]).below hb (by simp <;> omega); simpa only [World.size_alloc] using h)
  have gkp : w.heap.size ≤ V31.heap.size + 1 := by have := hB.size; omega
  have lkakp : V2.heap.size < V31.heap.size + 1 := by have := ka.lt; omega
  have lkbkp : V5.heap.size < V31.heap.size + 1 := by have := kb.lt; omega
  have lkckp : V8.heap.size < V31.heap.size + 1 := by have := kc.lt; omega
  have lkdkp : V11.heap.size < V31.heap.size + 1 := by have := kd.lt; omega
  have lkkkp : V31.heap.size < V31.heap.size + 1 := by omega
  have hbf := chain2 hb
  clear hb
  replace ka := ka.below hbf ka.lt
  replace kb := kb.below hbf kb.lt
  replace kc := kc.below hbf kc.lt
  replace kd := kd.below hbf kd.lt
  replace ra := row_below ra hbf
  replace rb := row_below rb hbf
  replace rk := row_below rk hbf
  replace hB := hB.trans (hbf.mono hB.size)
  clear hbf
  gi_wp2_with fail
  refine ⟨trivial, (callsIn_wide.2 (line_any (some ⟨V32.heap.size, 0, none⟩) 5 5 _)).mono ?_⟩
  rintro e V33 ⟨rfl, hb⟩
  have kq : Blk V33 (V32.heap.size) 3 #[.int .i64 1, .int .i64 0, .int .i64 0, .int .i64 0, .int .i64 1] := ((Blk.new V32 3 #[.int .i64 1, .int .i64 0, .int .i64 0, .int .i64 0, .int .i64 1]).below hb (by simp <;> omega))
  have gkq : w.heap.size ≤ V32.heap.size := by have := hB.size; omega
  have lkakq : V2.heap.size < V32.heap.size := by have := ka.lt; omega
  have lkbkq : V5.heap.size < V32.heap.size := by have := kb.lt; omega
  have lkckq : V8.heap.size < V32.heap.size := by have := kc.lt; omega
  have lkdkq : V11.heap.size < V32.heap.size := by have := kd.lt; omega
  have lkkkq : V31.heap.size < V32.heap.size := by have := kk.lt; omega
  have lkpkq : V31.heap.size + 1 < V32.heap.size := by have := kp.lt; omega
  have hbf := chain1 hb
  clear hb
  replace ka := ka.below hbf ka.lt
  replace kb := kb.below hbf kb.lt
  replace kc := kc.below hbf kc.lt
  replace kd := kd.below hbf kd.lt
  replace kk := kk.below hbf kk.lt
  replace kp := kp.below hbf kp.lt
  replace ra := row_below ra hbf
  replace rb := row_below rb hbf
  replace rk := row_below rk hbf
  replace hB := hB.trans (hbf.mono hB.size)
  clear hbf
  gi_wp2_with fail
  have hcall := Compose_any 3 1 (some ⟨V31.heap.size + 1, 0, none⟩) 3 3 [1, 1, 1] (Lib.hid rfl) 5 1 (some ⟨V32.heap.size, 0, none⟩) 5 5 [1, 0, 0, 0, 1] (Lib.hid rfl) V33 (by decide) (.inr ⟨_, 0, rfl, kp.lt, fun i hi => rd_litG kp rfl i hi⟩) (by decide) (.inr ⟨_, 0, rfl, kq.lt, fun i hi => rd_litG kq rfl i hi⟩)
  rw [show compS 3 1 [1, 1, 1] 5 1 [1, 0, 0, 0, 1] = { w := 0, h := 0, px := [], err := 21 } from by kernel_rfl] at hcall
  refine ⟨trivial, (callsIn_wide.2 hcall).mono ?_⟩
  clear hcall
  rintro e V34 ⟨⟨v, rfl, hv⟩, hb⟩
  obtain ⟨sl, rfl, hrow⟩ := hv
  obtain ⟨sza, szc, rfl⟩ := row_slice hrow
  have rz : V34.ownsRow w.heap.size 3 1 (.slice sza 0 szc) 0 ([].map (Value.int .i64)) := row_base hrow (Nat.le_trans hB.size (by simp <;> omega))
  clear hrow
  have hbf := chain0 hb
  clear hb
  replace ka := ka.below hbf ka.lt
  replace kb := kb.below hbf kb.lt
  replace kc := kc.below hbf kc.lt
  replace kd := kd.below hbf kd.lt
  replace kk := kk.below hbf kk.lt
  replace kp := kp.below hbf kp.lt
  replace kq := kq.below hbf kq.lt
  replace ra := row_below ra hbf
  replace rb := row_below rb hbf
  replace rk := row_below rk hbf
  replace hB := hB.trans (hbf.mono hB.size)
  clear hbf
  clear kp gkp lkakp lkbkp lkckp lkdkp lkkkp lkpkq kq gkq lkakq lkbkq lkckq lkdkq lkkkq
  clear rz
  have y0 := ka.cell (i := 0) rfl
  have y1 := ka.cell (i := 1) rfl
  have y2 := ka.cell (i := 2) rfl
  gi_wp2_with fail
  clear y0 y1 y2
  refine ⟨trivial, (callsIn_wide.2 (is_true [[2, 2, -2]] [2, 2, -2] rfl (by decide) (by decide) 3 1 [2, 2, -2] 1 rfl rfl rfl rfl saa sac 3 (Lib.hid rfl) (by decide) _ 1 _ (row_rd' rfl (xs := [2, 2, -2]) ((ra.alloc (.cells #[.int .i64 2, .int .i64 2, .int .i64 (-2)] 3)).alloc (.cells #[.slice (some ⟨V34.heap.size, 0, none⟩) 3 3] 22))) (rdss1 V34 (V34.heap.size) (by simp) [2, 2, -2] #[.int .i64 2, .int .i64 2, .int .i64 (-2)] rfl 3 rfl))).mono ?_⟩
  rintro e V35 ⟨rfl, hb⟩
  have hbf := chain2 hb
  clear hb
  replace ka := ka.below hbf ka.lt
  replace kb := kb.below hbf kb.lt
  replace kc := kc.below hbf kc.lt
  replace kd := kd.below hbf kd.lt
  replace kk := kk.below hbf kk.lt
  replace ra := row_below ra hbf
  replace rb := row_below rb hbf
  replace rk := row_below rk hbf
  replace hB := hB.trans (hbf.mono hB.size)
  clear hbf
  have y0 := kb.cell (i := 0) rfl
  have y1 := kb.cell (i := 1) rfl
  have y2 := kb.cell (i := 2) rfl
  gi_wp2_with fail
  clear y0 y1 y2
  refine ⟨trivial, (callsIn_wide.2 (is_true [[1, 2, 1]] [1, 2, 1] rfl (by decide) (by decide) 3 1 [1, 2, 1] 1 rfl rfl rfl rfl sba sbc 3 (Lib.hid rfl) (by decide) _ 1 _ (row_rd' rfl (xs := [1, 2, 1]) ((rb.alloc (.cells #[.int .i64 1, .int .i64 2, .int .i64 1] 3)).alloc (.cells #[.slice (some ⟨V35.heap.size, 0, none⟩) 3 3] 22))) (rdss1 V35 (V35.heap.size) (by simp) [1, 2, 1] #[.int .i64 1, .int .i64 2, .int .i64 1] rfl 3 rfl))).mono ?_⟩
  rintro e V36 ⟨rfl, hb⟩
  have hbf := chain2 hb
  clear hb
  replace ka := ka.below hbf ka.lt
  replace kb := kb.below hbf kb.lt
  replace kc := kc.below hbf kc.lt
  replace kd := kd.below hbf kd.lt
  replace kk := kk.below hbf kk.lt
  replace ra := row_below ra hbf
  replace rb := row_below rb hbf
  replace rk := row_below rk hbf
  replace hB := hB.trans (hbf.mono hB.size)
  clear hbf
  have y0 := kk.cell (i := 0) rfl
  have y1 := kk.cell (i := 1) rfl
  have y2 := kk.cell (i := 2) rfl
  gi_wp2_with fail
  clear y0 y1 y2
  refine ⟨trivial, (callsIn_wide.2 (SameInts_eq ska (some ⟨V36.heap.size, 0, none⟩) skc 5 5 [1, 1, 0, -1, -1] (Lib.hid rfl) _ (by decide) (row_rd' rfl (xs := [1, 1, 0, -1, -1]) (rk.alloc (.cells #[.int .i64 1, .int .i64 1, .int .i64 0, .int .i64 (-1), .int .i64 (-1)] 3))) (.inr ⟨_, 0, rfl, by simp, fun i hi => rd_litG (Blk.new V36 3 #[.int .i64 1, .int .i64 1, .int .i64 0, .int .i64 (-1), .int .i64 (-1)]) rfl i hi⟩))).mono ?_⟩
  rintro e V37 ⟨rfl, hb⟩
  have hbf := chain1 hb
  clear hb
  replace ka := ka.below hbf ka.lt
  replace kb := kb.below hbf kb.lt
  replace kc := kc.below hbf kc.lt
  replace kd := kd.below hbf kd.lt
  replace kk := kk.below hbf kk.lt
  replace ra := row_below ra hbf
  replace rb := row_below rb hbf
  replace rk := row_below rk hbf
  replace hB := hB.trans (hbf.mono hB.size)
  clear hbf
  clear ra rb rk
  clear kk gkk lkakk lkbkk lkckk lkdkk
  gi_wp2_with fail
  obtain ⟨V38, hW⟩ : ∃ X, ((((V37.alloc (.cells #[.bool true, .bool true, .bool true] 4)).alloc (.cells #[.bool false, .bool false, .bool true] 4)).alloc (.cells #[.int .i64 3, .int .i64 1, .slice (some ⟨V37.heap.size, 0, none⟩) 3 3] 40)).alloc (.cells #[.int .i64 3, .int .i64 1, .slice (some ⟨V37.heap.size + 1, 0, none⟩) 3 3] 40)) = X := ⟨_, rfl⟩
  have hb : Below (((((V37.alloc (.cells #[.bool true, .bool true, .bool true] 4)).alloc (.cells #[.bool false, .bool false, .bool true] 4)).alloc (.cells #[.int .i64 3, .int .i64 1, .slice (some ⟨V37.heap.size, 0, none⟩) 3 3] 40)).alloc (.cells #[.int .i64 3, .int .i64 1, .slice (some ⟨V37.heap.size + 1, 0, none⟩) 3 3] 40))).heap.size (((((V37.alloc (.cells #[.bool true, .bool true, .bool true] 4)).alloc (.cells #[.bool false, .bool false, .bool true] 4)).alloc (.cells #[.int .i64 3, .int .i64 1, .slice (some ⟨V37.heap.size, 0, none⟩) 3 3] 40)).alloc (.cells #[.int .i64 3, .int .i64 1, .slice (some ⟨V37.heap.size + 1, 0, none⟩) 3 3] 40))) V38 := hW ▸ Below.refl _ _
  rw [hW]
  clear hW
  have kfb : Blk V38 (V37.heap.size) 4 #[.bool true, .bool true, .bool true] := (((((Blk.new V37 4 #[.bool true, .bool true, .bool true]).alloc (.cells #[.bool false, .bool false, .bool true] 4)).alloc (.cells #[.int .i64 3, .int .i64 1, .slice (some ⟨V37.heap.size, 0, none⟩) 3 3] 40)).alloc (.cells #[.int .i64 3, .int .i64 1, .slice (some ⟨V37.heap.size + 1, 0, none⟩) 3 3] 40)).below hb (by simp <;> omega))
  have gkfb : w.heap.size ≤ V37.heap.size := by have := hB.size; omega
  have lkakfb : V2.heap.size < V37.heap.size := by have := ka.lt; omega
  have lkbkfb : V5.heap.size < V37.heap.size := by have := kb.lt; omega
  have lkckfb : V8.heap.size < V37.heap.size := by have := kc.lt; omega
  have lkdkfb : V11.heap.size < V37.heap.size := by have := kd.lt; omega
  have krb : Blk V38 (V37.heap.size + 1) 4 #[.bool false, .bool false, .bool true] := (by have h := (((Blk.new (V37.alloc (.cells #[.bool true, .bool true, .bool true] 4)) 4 #[.bool false, .bool false, .bool true]).alloc (.cells #[.int .i64 3, .int .i64 1, .slice (some ⟨V37.heap.size, 0, none⟩) 3 3] 40)).alloc (.cells #[.int .i64 3, .int .i64 1, .slice (some ⟨V37.heap.size + 1, 0, none⟩) 3 3] 40)).below hb (by simp <;> omega); simpa only [World.size_alloc] using h)
  have gkrb : w.heap.size ≤ V37.heap.size + 1 := by have := hB.size; omega
  have lkakrb : V2.heap.size < V37.heap.size + 1 := by have := ka.lt; omega
  have lkbkrb : V5.heap.size < V37.heap.size + 1 := by have := kb.lt; omega
  have lkckrb : V8.heap.size < V37.heap.size + 1 := by have := kc.lt; omega
  have lkdkrb : V11.heap.size < V37.heap.size + 1 := by have := kd.lt; omega
  have lkfbkrb : V37.heap.size < V37.heap.size + 1 := by omega
  have kf : Blk V38 (V37.heap.size + 1 + 1) 40 #[.int .i64 3, .int .i64 1, .slice (some ⟨V37.heap.size, 0, none⟩) 3 3] := (by have h := ((Blk.new ((V37.alloc (.cells #[.bool true, .bool true, .bool true] 4)).alloc (.cells #[.bool false, .bool false, .bool true] 4)) 40 #[.int .i64 3, .int .i64 1, .slice (some ⟨V37.heap.size, 0, none⟩) 3 3]).alloc (.cells #[.int .i64 3, .int .i64 1, .slice (some ⟨V37.heap.size + 1, 0, none⟩) 3 3] 40)).below hb (by simp <;> omega); simpa only [World.size_alloc] using h)
  have gkf : w.heap.size ≤ V37.heap.size + 1 + 1 := by have := hB.size; omega
  have lkakf : V2.heap.size < V37.heap.size + 1 + 1 := by have := ka.lt; omega
  have lkbkf : V5.heap.size < V37.heap.size + 1 + 1 := by have := kb.lt; omega
  have lkckf : V8.heap.size < V37.heap.size + 1 + 1 := by have := kc.lt; omega
  have lkdkf : V11.heap.size < V37.heap.size + 1 + 1 := by have := kd.lt; omega
  have lkfbkf : V37.heap.size < V37.heap.size + 1 + 1 := by omega
  have lkrbkf : V37.heap.size + 1 < V37.heap.size + 1 + 1 := by omega
  have kr : Blk V38 (V37.heap.size + 1 + 1 + 1) 40 #[.int .i64 3, .int .i64 1, .slice (some ⟨V37.heap.size + 1, 0, none⟩) 3 3] := (by have h := (Blk.new (((V37.alloc (.cells #[.bool true, .bool true, .bool true] 4)).alloc (.cells #[.bool false, .bool false, .bool true] 4)).alloc (.cells #[.int .i64 3, .int .i64 1, .slice (some ⟨V37.heap.size, 0, none⟩) 3 3] 40)) 40 #[.int .i64 3, .int .i64 1, .slice (some ⟨V37.heap.size + 1, 0, none⟩) 3 3]).below hb (by simp <;> omega); simpa only [World.size_alloc] using h)
  have gkr : w.heap.size ≤ V37.heap.size + 1 + 1 + 1 := by have := hB.size; omega
  have lkakr : V2.heap.size < V37.heap.size + 1 + 1 + 1 := by have := ka.lt; omega
  have lkbkr : V5.heap.size < V37.heap.size + 1 + 1 + 1 := by have := kb.lt; omega
  have lkckr : V8.heap.size < V37.heap.size + 1 + 1 + 1 := by have := kc.lt; omega
  have lkdkr : V11.heap.size < V37.heap.size + 1 + 1 + 1 := by have := kd.lt; omega
  have lkfbkr : V37.heap.size < V37.heap.size + 1 + 1 + 1 := by omega
  have lkrbkr : V37.heap.size + 1 < V37.heap.size + 1 + 1 + 1 := by omega
  have lkfkr : V37.heap.size + 1 + 1 < V37.heap.size + 1 + 1 + 1 := by omega
  have hbf := chain4 hb
  clear hb
  replace ka := ka.below hbf ka.lt
  replace kb := kb.below hbf kb.lt
  replace kc := kc.below hbf kc.lt
  replace kd := kd.below hbf kd.lt
  replace hB := hB.trans (hbf.mono hB.size)
  clear hbf
  refine wpIn_mono (Q := fun e' a' w' => e' = .normal ∧ ∃ (X : World) (saa : Option Addr) (sac : Nat), Below V38.heap.size V38 X ∧ X.ownsRow w.heap.size 3 1 (.slice saa 3 sac) 3 ([1, 1, 1].map (Value.int .i64)) ∧ put3 X (V2.heap.size) (.int .i64 3) (.int .i64 1) (.slice saa 3 sac) = w' ∧ ∃ u : Nat → Value, a' = ⟨#[u 0, .pointer (some ⟨V2.heap.size, 0, none⟩), .int .i64 0, .pointer (some ⟨V5.heap.size, 0, none⟩), .int .i64 0, .pointer (some ⟨V8.heap.size, 0, none⟩), .int .i64 0, .pointer (some ⟨V11.heap.size, 0, none⟩), u 8, u 9, u 10, u 11, .pointer (some ⟨V37.heap.size + 1 + 1, 0, none⟩), .pointer (some ⟨V37.heap.size + 1 + 1 + 1, 0, none⟩), u 14, u 15, u 16, u 17, u 18, u 19, u 20, u 21, u 22, u 23, u 24, u 25, u 26, u 27, u 28, u 29, u 30, u 31, u 32, u 33, u 34, u 35, u 36, u 37, u 38, u 39, u 40, u 41, u 42, u 43, u 44, u 45, u 46, u 47, u 48, u 49, u 50, u 51, u 52, u 53, u 54, u 55, u 56, u 57, u 58, u 59, u 60, u 61, u 62, u 63, u 64, u 65, u 66, u 67, u 68, u 69, u 70, u 71, u 72, u 73, u 74, u 75, u 76, u 77, u 78, u 79, u 80, u 81, u 82, u 83, u 84, u 85, u 86, u 87, u 88, u 89, u 90, u 91, u 92, u 93, u 94, u 95, u 96, u 97, u 98, u 99, u 100, u 101, u 102, u 103, u 104, u 105, u 106, u 107, u 108, u 109, u 110, u 111, u 112, u 113, u 114, u 115, u 116, u 117, u 118, u 119, u 120, u 121, u 122, u 123, u 124, u 125, u 126, u 127, u 128, u 129, u 130, u 131, u 132, u 133, u 134, u 135, u 136, u 137, u 138, u 139, u 140, u 141, u 142, u 143, u 144, u 145, u 146, u 147, u 148, u 149, u 150, u 151, u 152, u 153, u 154, u 155, u 156, u 157, u 158, u 159, u 160, u 161, u 162, u 163, u 164, u 165, u 166, u 167, u 168, u 169, u 170, u 171, u 172, u 173, u 174, u 175, u 176, u 177, u 178, u 179, u 180, u 181, u 182, u 183, u 184, u 185, u 186, u 187, u 188, u 189, u 190, u 191, u 192, u 193, u 194, u 195, u 196, u 197, u 198, u 199, u 200, u 201, u 202, u 203, u 204, u 205, u 206, u 207, u 208, u 209, u 210, u 211, u 212, u 213, u 214, u 215, u 216, u 217, u 218, u 219, u 220, u 221, u 222, u 223, u 224, u 225, u 226, u 227, u 228, u 229, u 230, u 231, u 232, u 233, u 234, u 235, u 236, u 237, u 238, u 239, u 240, u 241, u 242, u 243, u 244, u 245, u 246, u 247, u 248, u 249, u 250, u 251, u 252, u 253, u 254, u 255, u 256, u 257, u 258, u 259, u 260, u 261, u 262, u 263, u 264, u 265, u 266, u 267, u 268, u 269, u 270, u 271, u 272, u 273, u 274, u 275, u 276, u 277, u 278, u 279, u 280, u 281, u 282, u 283, u 284, u 285, u 286, u 287, u 288, u 289, u 290, u 291, u 292, u 293, u 294, u 295, u 296, u 297, u 298, u 299, u 300, u 301, u 302, u 303, u 304, u 305, u 306, u 307, u 308, u 309, u 310, u 311, u 312, u 313, u 314, u 315, u 316, u 317, u 318, u 319, u 320, u 321, u 322, u 323, u 324, u 325, u 326, u 327, u 328, u 329, u 330, u 331, u 332, u 333, u 334, u 335, u 336, u 337, u 338, u 339, u 340, u 341, u 342, u 343, u 344, u 345, u 346], []⟩) ?d15 ?c15
  case d15 =>
    refine wpIn_wide.2 ?_
    have hD : Below V38.heap.size V38 V38.drew := (Below.refl _ _).drew
    have hS : OthersB V38 (V2.heap.size) V38.drew := OthersB.of hD
    refine plain_region (OthersB V38 (V2.heap.size)) 10 10 (by kernel_rfl) rfl ?_
    simp only [Array.replicate_succ, Array.replicate_zero, List.push_toArray, List.nil_append, List.cons_append]
    obtain ⟨Xd, hXd⟩ : ∃ X, V38.drew = X := ⟨_, rfl⟩
    rw [hXd] at hD hS ⊢
    clear hXd
    refine take_op 3 (v := ?qv3) rfl (by kernel_rfl) (fun _ _ _ h => nomatch h.1) (by rfl) hS (fun w' hS' => ?qy3) ?qz3
    case qy3 =>
      have kq := OthersB.blk hS' kf (by have := lkakf; omega)
      have c0 := kq.cell (i := 0) rfl
      have c1 := kq.cell (i := 1) rfl
      have c2 := kq.cell (i := 2) rfl
      go_simp
      rfl
    simp only [List.setIfInBounds_toArray, List.set_cons_zero, List.set_cons_succ]
    refine step_op 0 (by kernel_rfl) rfl (fun K hK => ?_)
    rw [if_pos (by rfl)]
    go_simp
    refine hK.out _ _ (fun h => (OthersB.of (below_al hD (.cells #[.int .i64 5, .int .i64 1, .int .i64 4] 3)))) ?_
    clear hK K
    try simp only [Act.put, List.setIfInBounds_toArray, List.set_cons_zero, List.set_cons_succ]
    refine step_op 1 (by kernel_rfl) rfl (fun K hK => ?_)
    rw [if_pos (by rfl)]
    go_simp
    refine hK.out _ _ (fun h => (OthersB.of (below_al (below_al hD (.cells #[.int .i64 5, .int .i64 1, .int .i64 4] 3)) (.cells #[.slice (some ⟨Xd.heap.size, 0, none⟩) 3 3] 22)))) ?_
    clear hK K
    try simp only [Act.put, List.setIfInBounds_toArray, List.set_cons_zero, List.set_cons_succ]
    refine step_op 2 (by kernel_rfl) rfl (fun K hK => ?_)
    rw [if_pos (by rfl)]
    go_simp
    refine (rows_lit [[5, 1, 4]] [5, 1, 4] rfl (by decide) (by decide) 3 1 [5, 1, 4] 1 rfl rfl rfl rfl _ 1 _ (rdss1 Xd Xd.heap.size rfl [5, 1, 4] #[.int .i64 5, .int .i64 1, .int .i64 4] rfl 3 rfl)).mono ?_
    rintro e X2 ⟨⟨v, rfl, hv⟩, hb⟩
    obtain ⟨sl, rfl, hrow⟩ := hv
    obtain ⟨sxa, sxc, rfl⟩ := row_slice hrow
    try simp only [List.length_cons, List.length_nil, Nat.reduceAdd]
    have rx : X2.ownsRow Xd.heap.size 3 1 (.slice sxa 3 sxc) 3 ([5, 1, 4].map (Value.int .i64)) := row_base hrow (by simp <;> omega)
    have hS2 : Below V38.heap.size V38 X2 := (below_al (below_al hD (.cells #[.int .i64 5, .int .i64 1, .int .i64 4] 3)) (.cells #[.slice (some ⟨Xd.heap.size, 0, none⟩) 3 3] 22)).trans (hb.mono (below_al (below_al hD (.cells #[.int .i64 5, .int .i64 1, .int .i64 4] 3)) (.cells #[.slice (some ⟨Xd.heap.size, 0, none⟩) 3 3] 22)).size)
    clear hb hrow
    refine hK.out _ _ (fun h => (OthersB.of hS2)) ?_
    clear hK K
    try simp only [Act.put, List.setIfInBounds_toArray, List.set_cons_zero, List.set_cons_succ]
    refine step_op 4 (by kernel_rfl) rfl (fun K hK => ?_)
    rw [if_pos (by rfl)]
    go_simp
    have hcall := Erode_any 3 1 sxa sxc 3 [5, 1, 4] (Lib.hid rfl) 3 1 (some ⟨V37.heap.size, 0, none⟩) 3 3 [true, true, true] (Lib.hid rfl) X2 (by decide) (row_rd' rfl rx) (by decide) (.inr ⟨_, 0, rfl, (kfb.below hS2 kfb.lt).lt, fun i hi => rdb_lit (kfb.below hS2 kfb.lt) rfl i hi⟩)
    rw [show morS false 3 1 [5, 1, 4] 3 1 [true, true, true] = { w := 3, h := 1, px := [1, 1, 1], err := 0 } from by kernel_rfl] at hcall
    refine hcall.mono ?_
    clear hcall
    rintro e X4 ⟨⟨v, rfl, hv⟩, hb⟩
    obtain ⟨sl, rfl, hrow⟩ := hv
    obtain ⟨saa, sac, rfl⟩ := row_slice hrow
    try simp only [List.length_cons, List.length_nil, Nat.reduceAdd]
    have ra : X4.ownsRow w.heap.size 3 1 (.slice saa 3 sac) 3 ([1, 1, 1].map (Value.int .i64)) := row_base hrow (Nat.le_trans hB.size hS2.size)
    have hS4 := hS2.trans (hb.mono hS2.size)
    clear hb hrow rx
    refine hK.out _ _ (fun h => (OthersB.of hS4)) ?_
    clear hK K
    try simp only [Act.put, List.setIfInBounds_toArray, List.set_cons_zero, List.set_cons_succ]
    refine take_op 5 (v := ?qv5) rfl (by kernel_rfl) (fun _ _ _ h => nomatch h.1) (by rfl) (OthersB.of hS4) (fun w' hS' => ?qy5) ?qz5
    case qy5 =>
      go_simp
      rfl
    simp only [List.setIfInBounds_toArray, List.set_cons_zero, List.set_cons_succ]
    refine take_op 6 (v := ?qv6) rfl (by kernel_rfl) (fun _ _ _ h => nomatch h.1) (by rfl) (OthersB.of hS4) (fun w' hS' => ?qy6) ?qz6
    case qy6 =>
      go_simp
      rfl
    simp only [List.setIfInBounds_toArray, List.set_cons_zero, List.set_cons_succ]
    refine take_op 7 (v := ?qv7) rfl (by kernel_rfl) (fun _ _ _ h => nomatch h.1) (by rfl) (OthersB.of hS4) (fun w' hS' => ?qy7) ?qz7
    case qy7 =>
      go_simp
      rfl
    simp only [List.setIfInBounds_toArray, List.set_cons_zero, List.set_cons_succ]
    refine step_op 8 (by kernel_rfl) rfl (fun K hK => ?_)
    have kd := ka.below hS4 ka.lt
    have o0 := kd.cell (i := 0) rfl
    have o1 := kd.cell (i := 1) rfl
    have o2 := kd.cell (i := 2) rfl
    have fo0 := kd.frozen 0
    have fo1 := kd.frozen 1
    have fo2 := kd.frozen 2
    rw [if_pos (by rfl)]
    go_simp
    refine hK.out _ _ (fun h => (OthersB.put (OthersB.of hS4) _ _ _)) ?_
    clear hK K
    try simp only [Act.put, List.setIfInBounds_toArray, List.set_cons_zero, List.set_cons_succ]
    refine take_op 9 (v := ?qv9) rfl (by kernel_rfl) (fun _ _ _ h => nomatch h.1) (by rfl) (OthersB.put (OthersB.of hS4) _ _ _) (fun w' hS' => ?qy9) ?qz9
    case qy9 =>
      go_simp
      rfl
    simp only [List.setIfInBounds_toArray, List.set_cons_zero, List.set_cons_succ]
    refine done_ops (by kernel_rfl) ?_
    exact ⟨rfl, X4, saa, sac, hS4, ra, rfl, ex_fn rfl⟩
  case c15 =>
  rintro e' a' V40 ⟨rfl, V39, saa, sac, hb, ra, hW, u, rfl⟩
  replace ka := ka.below hb ka.lt
  replace kb := kb.below hb kb.lt
  replace kc := kc.below hb kc.lt
  replace kd := kd.below hb kd.lt
  replace kfb := kfb.below hb kfb.lt
  replace krb := krb.below hb krb.lt
  replace kf := kf.below hb kf.lt
  replace kr := kr.below hb kr.lt
  replace hB := hB.trans (hb.mono hB.size)
  clear hb
  have hg : V39.grownBy V40 (some (V2.heap.size)) := hW ▸ put3_grownE _ _ _ _ _
  have ka' := put3_blk ka (.int .i64 3) (.int .i64 1) (.slice saa 3 sac)
  rw [hW] at ka'
  have ra' := put3_row ra (ka.not_row (by decide) ra) (.int .i64 3) (.int .i64 1) (.slice saa 3 sac)
  rw [hW] at ra'
  have kb' := kb.kept hg (by have := lkakb; simp; omega)
  have kc' := kc.kept hg (by have := lkakc; simp; omega)
  have kd' := kd.kept hg (by have := lkakd; simp; omega)
  have kfb' := kfb.kept hg (by have := lkakfb; simp; omega)
  have krb' := krb.kept hg (by have := lkakrb; simp; omega)
  have kf' := kf.kept hg (by have := lkakf; simp; omega)
  have kr' := kr.kept hg (by have := lkakr; simp; omega)
  have hB' := hB.trans (put3_below gka (.int .i64 3) (.int .i64 1) (.slice saa 3 sac))
  rw [hW] at hB'
  clear hg hW
  replace ka := ka'
  clear ka'
  replace kb := kb'
  clear kb'
  replace kc := kc'
  clear kc'
  replace kd := kd'
  clear kd'
  replace kfb := kfb'
  clear kfb'
  replace krb := krb'
  clear krb'
  replace kf := kf'
  clear kf'
  replace kr := kr'
  clear kr'
  replace ra := ra'
  clear ra'
  replace hB := hB'
  clear hB'
  gi_wp2_with fail
  refine wpIn_mono (Q := fun e' a' w' => e' = .normal ∧ ∃ (X : World) (sba : Option Addr) (sbc : Nat), Below V40.heap.size V40 X ∧ X.ownsRow w.heap.size 3 1 (.slice sba 3 sbc) 3 ([-2147483648, 5, 1].map (Value.int .i64)) ∧ put3 X (V5.heap.size) (.int .i64 3) (.int .i64 1) (.slice sba 3 sbc) = w' ∧ ∃ u : Nat → Value, a' = ⟨#[u 0, .pointer (some ⟨V2.heap.size, 0, none⟩), .int .i64 0, .pointer (some ⟨V5.heap.size, 0, none⟩), .int .i64 0, .pointer (some ⟨V8.heap.size, 0, none⟩), .int .i64 0, .pointer (some ⟨V11.heap.size, 0, none⟩), u 8, u 9, u 10, u 11, .pointer (some ⟨V37.heap.size + 1 + 1, 0, none⟩), .pointer (some ⟨V37.heap.size + 1 + 1 + 1, 0, none⟩), u 14, u 15, u 16, u 17, u 18, u 19, u 20, u 21, u 22, u 23, u 24, u 25, u 26, u 27, u 28, u 29, u 30, u 31, u 32, u 33, u 34, u 35, u 36, u 37, u 38, u 39, u 40, u 41, u 42, u 43, u 44, u 45, u 46, u 47, u 48, u 49, u 50, u 51, u 52, u 53, u 54, u 55, u 56, u 57, u 58, u 59, u 60, u 61, u 62, u 63, u 64, u 65, u 66, u 67, u 68, u 69, u 70, u 71, u 72, u 73, u 74, u 75, u 76, u 77, u 78, u 79, u 80, u 81, u 82, u 83, u 84, u 85, u 86, u 87, u 88, u 89, u 90, u 91, u 92, u 93, u 94, u 95, u 96, u 97, u 98, u 99, u 100, u 101, u 102, u 103, u 104, u 105, u 106, u 107, u 108, u 109, u 110, u 111, u 112, u 113, u 114, u 115, u 116, u 117, u 118, u 119, u 120, u 121, u 122, u 123, u 124, u 125, u 126, u 127, u 128, u 129, u 130, u 131, u 132, u 133, u 134, u 135, u 136, u 137, u 138, u 139, u 140, u 141, u 142, u 143, u 144, u 145, u 146, u 147, u 148, u 149, u 150, u 151, u 152, u 153, u 154, u 155, u 156, u 157, u 158, u 159, u 160, u 161, u 162, u 163, u 164, u 165, u 166, u 167, u 168, u 169, u 170, u 171, u 172, u 173, u 174, u 175, u 176, u 177, u 178, u 179, u 180, u 181, u 182, u 183, u 184, u 185, u 186, u 187, u 188, u 189, u 190, u 191, u 192, u 193, u 194, u 195, u 196, u 197, u 198, u 199, u 200, u 201, u 202, u 203, u 204, u 205, u 206, u 207, u 208, u 209, u 210, u 211, u 212, u 213, u 214, u 215, u 216, u 217, u 218, u 219, u 220, u 221, u 222, u 223, u 224, u 225, u 226, u 227, u 228, u 229, u 230, u 231, u 232, u 233, u 234, u 235, u 236, u 237, u 238, u 239, u 240, u 241, u 242, u 243, u 244, u 245, u 246, u 247, u 248, u 249, u 250, u 251, u 252, u 253, u 254, u 255, u 256, u 257, u 258, u 259, u 260, u 261, u 262, u 263, u 264, u 265, u 266, u 267, u 268, u 269, u 270, u 271, u 272, u 273, u 274, u 275, u 276, u 277, u 278, u 279, u 280, u 281, u 282, u 283, u 284, u 285, u 286, u 287, u 288, u 289, u 290, u 291, u 292, u 293, u 294, u 295, u 296, u 297, u 298, u 299, u 300, u 301, u 302, u 303, u 304, u 305, u 306, u 307, u 308, u 309, u 310, u 311, u 312, u 313, u 314, u 315, u 316, u 317, u 318, u 319, u 320, u 321, u 322, u 323, u 324, u 325, u 326, u 327, u 328, u 329, u 330, u 331, u 332, u 333, u 334, u 335, u 336, u 337, u 338, u 339, u 340, u 341, u 342, u 343, u 344, u 345, u 346], []⟩) ?d16 ?c16
  case d16 =>
    refine wpIn_wide.2 ?_
    have hD : Below V40.heap.size V40 V40.drew := (Below.refl _ _).drew
    have hS : OthersB V40 (V5.heap.size) V40.drew := OthersB.of hD
    refine plain_region (OthersB V40 (V5.heap.size)) 10 10 (by kernel_rfl) rfl ?_
    simp only [Array.replicate_succ, Array.replicate_zero, List.push_toArray, List.nil_append, List.cons_append]
    obtain ⟨Xd, hXd⟩ : ∃ X, V40.drew = X := ⟨_, rfl⟩
    rw [hXd] at hD hS ⊢
    clear hXd
    refine take_op 3 (v := ?rv3) rfl (by kernel_rfl) (fun _ _ _ h => nomatch h.1) (by rfl) hS (fun w' hS' => ?ry3) ?rz3
    case ry3 =>
      have kq := OthersB.blk hS' kr (by have := lkbkr; omega)
      have c0 := kq.cell (i := 0) rfl
      have c1 := kq.cell (i := 1) rfl
      have c2 := kq.cell (i := 2) rfl
      go_simp
      rfl
    simp only [List.setIfInBounds_toArray, List.set_cons_zero, List.set_cons_succ]
    refine step_op 0 (by kernel_rfl) rfl (fun K hK => ?_)
    rw [if_pos (by rfl)]
    go_simp
    refine hK.out _ _ (fun h => (OthersB.of (below_al hD (.cells #[.int .i64 5, .int .i64 1, .int .i64 4] 3)))) ?_
    clear hK K
    try simp only [Act.put, List.setIfInBounds_toArray, List.set_cons_zero, List.set_cons_succ]
    refine step_op 1 (by kernel_rfl) rfl (fun K hK => ?_)
    rw [if_pos (by rfl)]
    go_simp
    refine hK.out _ _ (fun h => (OthersB.of (below_al (below_al hD (.cells #[.int .i64 5, .int .i64 1, .int .i64 4] 3)) (.cells #[.slice (some ⟨Xd.heap.size, 0, none⟩) 3 3] 22)))) ?_
    clear hK K
    try simp only [Act.put, List.setIfInBounds_toArray, List.set_cons_zero, List.set_cons_succ]
    refine step_op 2 (by kernel_rfl) rfl (fun K hK => ?_)
    rw [if_pos (by rfl)]
    go_simp
    refine (rows_lit [[5, 1, 4]] [5, 1, 4] rfl (by decide) (by decide) 3 1 [5, 1, 4] 1 rfl rfl rfl rfl _ 1 _ (rdss1 Xd Xd.heap.size rfl [5, 1, 4] #[.int .i64 5, .int .i64 1, .int .i64 4] rfl 3 rfl)).mono ?_
    rintro e X2 ⟨⟨v, rfl, hv⟩, hb⟩
    obtain ⟨sl, rfl, hrow⟩ := hv
    obtain ⟨sxa, sxc, rfl⟩ := row_slice hrow
    try simp only [List.length_cons, List.length_nil, Nat.reduceAdd]
    have rx : X2.ownsRow Xd.heap.size 3 1 (.slice sxa 3 sxc) 3 ([5, 1, 4].map (Value.int .i64)) := row_base hrow (by simp <;> omega)
    have hS2 : Below V40.heap.size V40 X2 := (below_al (below_al hD (.cells #[.int .i64 5, .int .i64 1, .int .i64 4] 3)) (.cells #[.slice (some ⟨Xd.heap.size, 0, none⟩) 3 3] 22)).trans (hb.mono (below_al (below_al hD (.cells #[.int .i64 5, .int .i64 1, .int .i64 4] 3)) (.cells #[.slice (some ⟨Xd.heap.size, 0, none⟩) 3 3] 22)).size)
    clear hb hrow
    refine hK.out _ _ (fun h => (OthersB.of hS2)) ?_
    clear hK K
    try simp only [Act.put, List.setIfInBounds_toArray, List.set_cons_zero, List.set_cons_succ]
    refine step_op 4 (by kernel_rfl) rfl (fun K hK => ?_)
    rw [if_pos (by rfl)]
    go_simp
    have hcall := Dilate_any 3 1 sxa sxc 3 [5, 1, 4] (Lib.hid rfl) 3 1 (some ⟨V37.heap.size + 1, 0, none⟩) 3 3 [false, false, true] (Lib.hid rfl) X2 (by decide) (row_rd' rfl rx) (by decide) (.inr ⟨_, 0, rfl, (krb.below hS2 krb.lt).lt, fun i hi => rdb_lit (krb.below hS2 krb.lt) rfl i hi⟩)
    rw [show morS true 3 1 [5, 1, 4] 3 1 [false, false, true] = { w := 3, h := 1, px := [-2147483648, 5, 1], err := 0 } from by kernel_rfl] at hcall
    refine hcall.mono ?_
    clear hcall
    rintro e X4 ⟨⟨v, rfl, hv⟩, hb⟩
    obtain ⟨sl, rfl, hrow⟩ := hv
    obtain ⟨sba, sbc, rfl⟩ := row_slice hrow
    try simp only [List.length_cons, List.length_nil, Nat.reduceAdd]
    have rb : X4.ownsRow w.heap.size 3 1 (.slice sba 3 sbc) 3 ([-2147483648, 5, 1].map (Value.int .i64)) := row_base hrow (Nat.le_trans hB.size hS2.size)
    have hS4 := hS2.trans (hb.mono hS2.size)
    clear hb hrow rx
    refine hK.out _ _ (fun h => (OthersB.of hS4)) ?_
    clear hK K
    try simp only [Act.put, List.setIfInBounds_toArray, List.set_cons_zero, List.set_cons_succ]
    refine take_op 5 (v := ?rv5) rfl (by kernel_rfl) (fun _ _ _ h => nomatch h.1) (by rfl) (OthersB.of hS4) (fun w' hS' => ?ry5) ?rz5
    case ry5 =>
      go_simp
      rfl
    simp only [List.setIfInBounds_toArray, List.set_cons_zero, List.set_cons_succ]
    refine take_op 6 (v := ?rv6) rfl (by kernel_rfl) (fun _ _ _ h => nomatch h.1) (by rfl) (OthersB.of hS4) (fun w' hS' => ?ry6) ?rz6
    case ry6 =>
      go_simp
      rfl
    simp only [List.setIfInBounds_toArray, List.set_cons_zero, List.set_cons_succ]
    refine take_op 7 (v := ?rv7) rfl (by kernel_rfl) (fun _ _ _ h => nomatch h.1) (by rfl) (OthersB.of hS4) (fun w' hS' => ?ry7) ?rz7
    case ry7 =>
      go_simp
      rfl
    simp only [List.setIfInBounds_toArray, List.set_cons_zero, List.set_cons_succ]
    refine step_op 8 (by kernel_rfl) rfl (fun K hK => ?_)
    have kd := kb.below hS4 kb.lt
    have o0 := kd.cell (i := 0) rfl
    have o1 := kd.cell (i := 1) rfl
    have o2 := kd.cell (i := 2) rfl
    have fo0 := kd.frozen 0
    have fo1 := kd.frozen 1
    have fo2 := kd.frozen 2
    rw [if_pos (by rfl)]
    go_simp
    refine hK.out _ _ (fun h => (OthersB.put (OthersB.of hS4) _ _ _)) ?_
    clear hK K
    try simp only [Act.put, List.setIfInBounds_toArray, List.set_cons_zero, List.set_cons_succ]
    refine take_op 9 (v := ?rv9) rfl (by kernel_rfl) (fun _ _ _ h => nomatch h.1) (by rfl) (OthersB.put (OthersB.of hS4) _ _ _) (fun w' hS' => ?ry9) ?rz9
    case ry9 =>
      go_simp
      rfl
    simp only [List.setIfInBounds_toArray, List.set_cons_zero, List.set_cons_succ]
    refine done_ops (by kernel_rfl) ?_
    exact ⟨rfl, X4, sba, sbc, hS4, rb, rfl, ex_fn rfl⟩
  case c16 =>
  rintro e' a' V42 ⟨rfl, V41, sba, sbc, hb, rb, hW, u, rfl⟩
  replace ka := ka.below hb ka.lt
  replace kb := kb.below hb kb.lt
  replace kc := kc.below hb kc.lt
  replace kd := kd.below hb kd.lt
  replace kfb := kfb.below hb kfb.lt
  replace krb := krb.below hb krb.lt
  replace kf := kf.below hb kf.lt
  replace kr := kr.below hb kr.lt
  replace ra := row_below ra hb
  replace hB := hB.trans (hb.mono hB.size)
  clear hb
  have hg : V41.grownBy V42 (some (V5.heap.size)) := hW ▸ put3_grownE _ _ _ _ _
  have kb' := put3_blk kb (.int .i64 3) (.int .i64 1) (.slice sba 3 sbc)
  rw [hW] at kb'
  have ra' := put3_row ra (kb.not_row (by decide) ra) (.int .i64 3) (.int .i64 1) (.slice sba 3 sbc)
  rw [hW] at ra'
  have rb' := put3_row rb (kb.not_row (by decide) rb) (.int .i64 3) (.int .i64 1) (.slice sba 3 sbc)
  rw [hW] at rb'
  have ka' := ka.kept hg (by have := lkakb; simp; omega)
  have kc' := kc.kept hg (by have := lkbkc; simp; omega)
  have kd' := kd.kept hg (by have := lkbkd; simp; omega)
  have kfb' := kfb.kept hg (by have := lkbkfb; simp; omega)
  have krb' := krb.kept hg (by have := lkbkrb; simp; omega)
  have kf' := kf.kept hg (by have := lkbkf; simp; omega)
  have kr' := kr.kept hg (by have := lkbkr; simp; omega)
  have hB' := hB.trans (put3_below gkb (.int .i64 3) (.int .i64 1) (.slice sba 3 sbc))
  rw [hW] at hB'
  clear hg hW
  replace ka := ka'
  clear ka'
  replace kb := kb'
  clear kb'
  replace kc := kc'
  clear kc'
  replace kd := kd'
  clear kd'
  replace kfb := kfb'
  clear kfb'
  replace krb := krb'
  clear krb'
  replace kf := kf'
  clear kf'
  replace kr := kr'
  clear kr'
  replace ra := ra'
  clear ra'
  replace rb := rb'
  clear rb'
  replace hB := hB'
  clear hB'
  gi_wp2_with fail
  refine wpIn_mono (Q := fun e' a' w' => e' = .normal ∧ ∃ (X : World) (sca : Option Addr) (scc : Nat), Below V42.heap.size V42 X ∧ X.ownsRow w.heap.size 3 1 (.slice sca 3 scc) 3 ([1, 4, 2147483648].map (Value.int .i64)) ∧ put3 X (V8.heap.size) (.int .i64 3) (.int .i64 1) (.slice sca 3 scc) = w' ∧ ∃ u : Nat → Value, a' = ⟨#[u 0, .pointer (some ⟨V2.heap.size, 0, none⟩), .int .i64 0, .pointer (some ⟨V5.heap.size, 0, none⟩), .int .i64 0, .pointer (some ⟨V8.heap.size, 0, none⟩), .int .i64 0, .pointer (some ⟨V11.heap.size, 0, none⟩), u 8, u 9, u 10, u 11, .pointer (some ⟨V37.heap.size + 1 + 1, 0, none⟩), .pointer (some ⟨V37.heap.size + 1 + 1 + 1, 0, none⟩), u 14, u 15, u 16, u 17, u 18, u 19, u 20, u 21, u 22, u 23, u 24, u 25, u 26, u 27, u 28, u 29, u 30, u 31, u 32, u 33, u 34, u 35, u 36, u 37, u 38, u 39, u 40, u 41, u 42, u 43, u 44, u 45, u 46, u 47, u 48, u 49, u 50, u 51, u 52, u 53, u 54, u 55, u 56, u 57, u 58, u 59, u 60, u 61, u 62, u 63, u 64, u 65, u 66, u 67, u 68, u 69, u 70, u 71, u 72, u 73, u 74, u 75, u 76, u 77, u 78, u 79, u 80, u 81, u 82, u 83, u 84, u 85, u 86, u 87, u 88, u 89, u 90, u 91, u 92, u 93, u 94, u 95, u 96, u 97, u 98, u 99, u 100, u 101, u 102, u 103, u 104, u 105, u 106, u 107, u 108, u 109, u 110, u 111, u 112, u 113, u 114, u 115, u 116, u 117, u 118, u 119, u 120, u 121, u 122, u 123, u 124, u 125, u 126, u 127, u 128, u 129, u 130, u 131, u 132, u 133, u 134, u 135, u 136, u 137, u 138, u 139, u 140, u 141, u 142, u 143, u 144, u 145, u 146, u 147, u 148, u 149, u 150, u 151, u 152, u 153, u 154, u 155, u 156, u 157, u 158, u 159, u 160, u 161, u 162, u 163, u 164, u 165, u 166, u 167, u 168, u 169, u 170, u 171, u 172, u 173, u 174, u 175, u 176, u 177, u 178, u 179, u 180, u 181, u 182, u 183, u 184, u 185, u 186, u 187, u 188, u 189, u 190, u 191, u 192, u 193, u 194, u 195, u 196, u 197, u 198, u 199, u 200, u 201, u 202, u 203, u 204, u 205, u 206, u 207, u 208, u 209, u 210, u 211, u 212, u 213, u 214, u 215, u 216, u 217, u 218, u 219, u 220, u 221, u 222, u 223, u 224, u 225, u 226, u 227, u 228, u 229, u 230, u 231, u 232, u 233, u 234, u 235, u 236, u 237, u 238, u 239, u 240, u 241, u 242, u 243, u 244, u 245, u 246, u 247, u 248, u 249, u 250, u 251, u 252, u 253, u 254, u 255, u 256, u 257, u 258, u 259, u 260, u 261, u 262, u 263, u 264, u 265, u 266, u 267, u 268, u 269, u 270, u 271, u 272, u 273, u 274, u 275, u 276, u 277, u 278, u 279, u 280, u 281, u 282, u 283, u 284, u 285, u 286, u 287, u 288, u 289, u 290, u 291, u 292, u 293, u 294, u 295, u 296, u 297, u 298, u 299, u 300, u 301, u 302, u 303, u 304, u 305, u 306, u 307, u 308, u 309, u 310, u 311, u 312, u 313, u 314, u 315, u 316, u 317, u 318, u 319, u 320, u 321, u 322, u 323, u 324, u 325, u 326, u 327, u 328, u 329, u 330, u 331, u 332, u 333, u 334, u 335, u 336, u 337, u 338, u 339, u 340, u 341, u 342, u 343, u 344, u 345, u 346], []⟩) ?d17 ?c17
  case d17 =>
    refine wpIn_wide.2 ?_
    have hD : Below V42.heap.size V42 V42.drew := (Below.refl _ _).drew
    have hS : OthersB V42 (V8.heap.size) V42.drew := OthersB.of hD
    refine plain_region (OthersB V42 (V8.heap.size)) 10 10 (by kernel_rfl) rfl ?_
    simp only [Array.replicate_succ, Array.replicate_zero, List.push_toArray, List.nil_append, List.cons_append]
    obtain ⟨Xd, hXd⟩ : ∃ X, V42.drew = X := ⟨_, rfl⟩
    rw [hXd] at hD hS ⊢
    clear hXd
    refine take_op 3 (v := ?sv3) rfl (by kernel_rfl) (fun _ _ _ h => nomatch h.1) (by rfl) hS (fun w' hS' => ?sy3) ?sz3
    case sy3 =>
      have kq := OthersB.blk hS' kr (by have := lkckr; omega)
      have c0 := kq.cell (i := 0) rfl
      have c1 := kq.cell (i := 1) rfl
      have c2 := kq.cell (i := 2) rfl
      go_simp
      rfl
    simp only [List.setIfInBounds_toArray, List.set_cons_zero, List.set_cons_succ]
    refine step_op 0 (by kernel_rfl) rfl (fun K hK => ?_)
    rw [if_pos (by rfl)]
    go_simp
    refine hK.out _ _ (fun h => (OthersB.of (below_al hD (.cells #[.int .i64 5, .int .i64 1, .int .i64 4] 3)))) ?_
    clear hK K
    try simp only [Act.put, List.setIfInBounds_toArray, List.set_cons_zero, List.set_cons_succ]
    refine step_op 1 (by kernel_rfl) rfl (fun K hK => ?_)
    rw [if_pos (by rfl)]
    go_simp
    refine hK.out _ _ (fun h => (OthersB.of (below_al (below_al hD (.cells #[.int .i64 5, .int .i64 1, .int .i64 4] 3)) (.cells #[.slice (some ⟨Xd.heap.size, 0, none⟩) 3 3] 22)))) ?_
    clear hK K
    try simp only [Act.put, List.setIfInBounds_toArray, List.set_cons_zero, List.set_cons_succ]
    refine step_op 2 (by kernel_rfl) rfl (fun K hK => ?_)
    rw [if_pos (by rfl)]
    go_simp
    refine (rows_lit [[5, 1, 4]] [5, 1, 4] rfl (by decide) (by decide) 3 1 [5, 1, 4] 1 rfl rfl rfl rfl _ 1 _ (rdss1 Xd Xd.heap.size rfl [5, 1, 4] #[.int .i64 5, .int .i64 1, .int .i64 4] rfl 3 rfl)).mono ?_
    rintro e X2 ⟨⟨v, rfl, hv⟩, hb⟩
    obtain ⟨sl, rfl, hrow⟩ := hv
    obtain ⟨sxa, sxc, rfl⟩ := row_slice hrow
    try simp only [List.length_cons, List.length_nil, Nat.reduceAdd]
    have rx : X2.ownsRow Xd.heap.size 3 1 (.slice sxa 3 sxc) 3 ([5, 1, 4].map (Value.int .i64)) := row_base hrow (by simp <;> omega)
    have hS2 : Below V42.heap.size V42 X2 := (below_al (below_al hD (.cells #[.int .i64 5, .int .i64 1, .int .i64 4] 3)) (.cells #[.slice (some ⟨Xd.heap.size, 0, none⟩) 3 3] 22)).trans (hb.mono (below_al (below_al hD (.cells #[.int .i64 5, .int .i64 1, .int .i64 4] 3)) (.cells #[.slice (some ⟨Xd.heap.size, 0, none⟩) 3 3] 22)).size)
    clear hb hrow
    refine hK.out _ _ (fun h => (OthersB.of hS2)) ?_
    clear hK K
    try simp only [Act.put, List.setIfInBounds_toArray, List.set_cons_zero, List.set_cons_succ]
    refine step_op 4 (by kernel_rfl) rfl (fun K hK => ?_)
    rw [if_pos (by rfl)]
    go_simp
    have hcall := Erode_any 3 1 sxa sxc 3 [5, 1, 4] (Lib.hid rfl) 3 1 (some ⟨V37.heap.size + 1, 0, none⟩) 3 3 [false, false, true] (Lib.hid rfl) X2 (by decide) (row_rd' rfl rx) (by decide) (.inr ⟨_, 0, rfl, (krb.below hS2 krb.lt).lt, fun i hi => rdb_lit (krb.below hS2 krb.lt) rfl i hi⟩)
    rw [show morS false 3 1 [5, 1, 4] 3 1 [false, false, true] = { w := 3, h := 1, px := [1, 4, 2147483648], err := 0 } from by kernel_rfl] at hcall
    refine hcall.mono ?_
    clear hcall
    rintro e X4 ⟨⟨v, rfl, hv⟩, hb⟩
    obtain ⟨sl, rfl, hrow⟩ := hv
    obtain ⟨sca, scc, rfl⟩ := row_slice hrow
    try simp only [List.length_cons, List.length_nil, Nat.reduceAdd]
    have rc : X4.ownsRow w.heap.size 3 1 (.slice sca 3 scc) 3 ([1, 4, 2147483648].map (Value.int .i64)) := row_base hrow (Nat.le_trans hB.size hS2.size)
    have hS4 := hS2.trans (hb.mono hS2.size)
    clear hb hrow rx
    refine hK.out _ _ (fun h => (OthersB.of hS4)) ?_
    clear hK K
    try simp only [Act.put, List.setIfInBounds_toArray, List.set_cons_zero, List.set_cons_succ]
    refine take_op 5 (v := ?sv5) rfl (by kernel_rfl) (fun _ _ _ h => nomatch h.1) (by rfl) (OthersB.of hS4) (fun w' hS' => ?sy5) ?sz5
    case sy5 =>
      go_simp
      rfl
    simp only [List.setIfInBounds_toArray, List.set_cons_zero, List.set_cons_succ]
    refine take_op 6 (v := ?sv6) rfl (by kernel_rfl) (fun _ _ _ h => nomatch h.1) (by rfl) (OthersB.of hS4) (fun w' hS' => ?sy6) ?sz6
    case sy6 =>
      go_simp
      rfl
    simp only [List.setIfInBounds_toArray, List.set_cons_zero, List.set_cons_succ]
    refine take_op 7 (v := ?sv7) rfl (by kernel_rfl) (fun _ _ _ h => nomatch h.1) (by rfl) (OthersB.of hS4) (fun w' hS' => ?sy7) ?sz7
    case sy7 =>
      go_simp
      rfl
    simp only [List.setIfInBounds_toArray, List.set_cons_zero, List.set_cons_succ]
    refine step_op 8 (by kernel_rfl) rfl (fun K hK => ?_)
    have kd := kc.below hS4 kc.lt
    have o0 := kd.cell (i := 0) rfl
    have o1 := kd.cell (i := 1) rfl
    have o2 := kd.cell (i := 2) rfl
    have fo0 := kd.frozen 0
    have fo1 := kd.frozen 1
    have fo2 := kd.frozen 2
    rw [if_pos (by rfl)]
    go_simp
    refine hK.out _ _ (fun h => (OthersB.put (OthersB.of hS4) _ _ _)) ?_
    clear hK K
    try simp only [Act.put, List.setIfInBounds_toArray, List.set_cons_zero, List.set_cons_succ]
    refine take_op 9 (v := ?sv9) rfl (by kernel_rfl) (fun _ _ _ h => nomatch h.1) (by rfl) (OthersB.put (OthersB.of hS4) _ _ _) (fun w' hS' => ?sy9) ?sz9
    case sy9 =>
      go_simp
      rfl
    simp only [List.setIfInBounds_toArray, List.set_cons_zero, List.set_cons_succ]
    refine done_ops (by kernel_rfl) ?_
    exact ⟨rfl, X4, sca, scc, hS4, rc, rfl, ex_fn rfl⟩
  case c17 =>
  rintro e' a' V44 ⟨rfl, V43, sca, scc, hb, rc, hW, u, rfl⟩
  replace ka := ka.below hb ka.lt
  replace kb := kb.below hb kb.lt
  replace kc := kc.below hb kc.lt
  replace kd := kd.below hb kd.lt
  replace kfb := kfb.below hb kfb.lt
  replace krb := krb.below hb krb.lt
  replace kf := kf.below hb kf.lt
  replace kr := kr.below hb kr.lt
  replace ra := row_below ra hb
  replace rb := row_below rb hb
  replace hB := hB.trans (hb.mono hB.size)
  clear hb
  have hg : V43.grownBy V44 (some (V8.heap.size)) := hW ▸ put3_grownE _ _ _ _ _
  have kc' := put3_blk kc (.int .i64 3) (.int .i64 1) (.slice sca 3 scc)
  rw [hW] at kc'
  have ra' := put3_row ra (kc.not_row (by decide) ra) (.int .i64 3) (.int .i64 1) (.slice sca 3 scc)
  rw [hW] at ra'
  have rb' := put3_row rb (kc.not_row (by decide) rb) (.int .i64 3) (.int .i64 1) (.slice sca 3 scc)
  rw [hW] at rb'
  have rc' := put3_row rc (kc.not_row (by decide) rc) (.int .i64 3) (.int .i64 1) (.slice sca 3 scc)
  rw [hW] at rc'
  have ka' := ka.kept hg (by have := lkakc; simp; omega)
  have kb' := kb.kept hg (by have := lkbkc; simp; omega)
  have kd' := kd.kept hg (by have := lkckd; simp; omega)
  have kfb' := kfb.kept hg (by have := lkckfb; simp; omega)
  have krb' := krb.kept hg (by have := lkckrb; simp; omega)
  have kf' := kf.kept hg (by have := lkckf; simp; omega)
  have kr' := kr.kept hg (by have := lkckr; simp; omega)
  have hB' := hB.trans (put3_below gkc (.int .i64 3) (.int .i64 1) (.slice sca 3 scc))
  rw [hW] at hB'
  clear hg hW
  replace ka := ka'
  clear ka'
  replace kb := kb'
  clear kb'
  replace kc := kc'
  clear kc'
  replace kd := kd'
  clear kd'
  replace kfb := kfb'
  clear kfb'
  replace krb := krb'
  clear krb'
  replace kf := kf'
  clear kf'
  replace kr := kr'
  clear kr'
  replace ra := ra'
  clear ra'
  replace rb := rb'
  clear rb'
  replace rc := rc'
  clear rc'
  replace hB := hB'
  clear hB'
  clear kf gkf lkakf lkbkf lkckf lkdkf lkfbkf lkrbkf lkfkr kfb gkfb lkakfb lkbkfb lkckfb lkdkfb lkfbkrb lkfbkr kr gkr lkakr lkbkr lkckr lkdkr lkrbkr krb gkrb lkakrb lkbkrb lkckrb lkdkrb
  gi_wp2_with fail
  refine ⟨trivial, (callsIn_wide.2 (rows_lit [[4]] [4] rfl (by decide) (by decide) 1 1 [4] 1 rfl rfl rfl rfl _ 1 _ (rdss1 V44 (V44.heap.size) (by simp) [4] #[.int .i64 4] rfl 1 rfl))).mono ?_⟩
  rintro e V45 ⟨⟨v, rfl, hv⟩, hb⟩
  obtain ⟨sl, rfl, hrow⟩ := hv
  obtain ⟨sxa, sxc, rfl⟩ := row_slice hrow
  have rx : V45.ownsRow w.heap.size 3 1 (.slice sxa 1 sxc) 1 ([4].map (Value.int .i64)) := row_base hrow (Nat.le_trans hB.size (by simp <;> omega))
  clear hrow
  have hbf := chain2 hb
  clear hb
  replace ka := ka.below hbf ka.lt
  replace kb := kb.below hbf kb.lt
  replace kc := kc.below hbf kc.lt
  replace kd := kd.below hbf kd.lt
  replace ra := row_below ra hbf
  replace rb := row_below rb hbf
  replace rc := row_below rc hbf
  replace hB := hB.trans (hbf.mono hB.size)
  clear hbf
  try simp only [List.length_cons, List.length_nil, Nat.reduceAdd]
  gi_wp2_with fail
  have hcall := Distance_any 1 1 sxa sxc 1 [4] (Lib.hid rfl) V45 (by decide) (row_rd' rfl (xs := [4]) rx)
  rw [show distS 1 1 [4] = { w := 1, h := 1, px := [2], err := 0 } from by kernel_rfl] at hcall
  refine ⟨trivial, (callsIn_wide.2 hcall).mono ?_⟩
  clear hcall
  rintro e V46 ⟨⟨v, rfl, hv⟩, hb⟩
  obtain ⟨sl, rfl, hrow⟩ := hv
  obtain ⟨sda, sdc, rfl⟩ := row_slice hrow
  have rd : V46.ownsRow w.heap.size 3 1 (.slice sda 1 sdc) 1 ([2].map (Value.int .i64)) := row_base hrow (Nat.le_trans hB.size (by simp <;> omega))
  clear hrow
  have hbf := chain0 hb
  clear hb
  replace ka := ka.below hbf ka.lt
  replace kb := kb.below hbf kb.lt
  replace kc := kc.below hbf kc.lt
  replace kd := kd.below hbf kd.lt
  replace ra := row_below ra hbf
  replace rb := row_below rb hbf
  replace rc := row_below rc hbf
  replace rx := row_below rx hbf
  replace hB := hB.trans (hbf.mono hB.size)
  clear hbf
  clear rx
  obtain ⟨V47, hW⟩ : ∃ X, put3 V46 (V11.heap.size) (.int .i64 1) (.int .i64 1) (.slice sda 1 sdc) = X := ⟨_, rfl⟩
  have hg : V46.grownBy V47 (some (V11.heap.size)) := hW ▸ put3_grownE _ _ _ _ _
  have kd' := put3_blk kd (.int .i64 1) (.int .i64 1) (.slice sda 1 sdc)
  rw [hW] at kd'
  have ra' := put3_row ra (kd.not_row (by decide) ra) (.int .i64 1) (.int .i64 1) (.slice sda 1 sdc)
  rw [hW] at ra'
  have rb' := put3_row rb (kd.not_row (by decide) rb) (.int .i64 1) (.int .i64 1) (.slice sda 1 sdc)
  rw [hW] at rb'
  have rc' := put3_row rc (kd.not_row (by decide) rc) (.int .i64 1) (.int .i64 1) (.slice sda 1 sdc)
  rw [hW] at rc'
  have rd' := put3_row rd (kd.not_row (by decide) rd) (.int .i64 1) (.int .i64 1) (.slice sda 1 sdc)
  rw [hW] at rd'
  have ka' := ka.kept hg (by have := lkakd; simp; omega)
  have kb' := kb.kept hg (by have := lkbkd; simp; omega)
  have kc' := kc.kept hg (by have := lkckd; simp; omega)
  have hB' := hB.trans (put3_below gkd (.int .i64 1) (.int .i64 1) (.slice sda 1 sdc))
  rw [hW] at hB'
  have z0 := kd.cell (i := 0) rfl
  have fz0 := kd.frozen 0
  have z1 := kd.cell (i := 1) rfl
  have fz1 := kd.frozen 1
  have z2 := kd.cell (i := 2) rfl
  have fz2 := kd.frozen 2
  clear hg
  gi_wp2_with fail
  clear hW z0 z1 z2 fz0 fz1 fz2
  replace ka := ka'
  clear ka'
  replace kb := kb'
  clear kb'
  replace kc := kc'
  clear kc'
  replace kd := kd'
  clear kd'
  replace ra := ra'
  clear ra'
  replace rb := rb'
  clear rb'
  replace rc := rc'
  clear rc'
  replace rd := rd'
  clear rd'
  replace hB := hB'
  clear hB'
  refine ⟨trivial, (callsIn_wide.2 (rows_lit [[1, 0], [0, 9]] [1, 0] rfl (by decide) (by decide) 2 2 [1, 0, 0, 9] 2 rfl rfl rfl rfl _ 2 _ (rdss2 V47 (V47.heap.size) (by simp) [1, 0] #[.int .i64 1, .int .i64 0] rfl 2 rfl [0, 9] #[.int .i64 0, .int .i64 9] rfl 2 rfl))).mono ?_⟩
  rintro e V48 ⟨⟨v, rfl, hv⟩, hb⟩
  obtain ⟨sl, rfl, hrow⟩ := hv
  obtain ⟨sxa, sxc, rfl⟩ := row_slice hrow
  have rx : V48.ownsRow w.heap.size 3 1 (.slice sxa 4 sxc) 4 ([1, 0, 0, 9].map (Value.int .i64)) := row_base hrow (Nat.le_trans hB.size (by simp <;> omega))
  clear hrow
  have hbf := chain3 hb
  clear hb
  replace ka := ka.below hbf ka.lt
  replace kb := kb.below hbf kb.lt
  replace kc := kc.below hbf kc.lt
  replace kd := kd.below hbf kd.lt
  replace ra := row_below ra hbf
  replace rb := row_below rb hbf
  replace rc := row_below rc hbf
  replace rd := row_below rd hbf
  replace hB := hB.trans (hbf.mono hB.size)
  clear hbf
  try simp only [List.length_cons, List.length_nil, Nat.reduceAdd]
  gi_wp2_with fail
  have hcall := Label_any 2 2 sxa sxc 4 [1, 0, 0, 9] (Lib.hid rfl) true V48 (by decide) (row_rd' rfl (xs := [1, 0, 0, 9]) rx)
  rw [show labS 2 2 [1, 0, 0, 9] true = { im := { w := 2, h := 2, px := [1, 0, 0, 1], err := 0 }, n := 1 } from labS_exT] at hcall
  refine ⟨trivial, (callsIn_wide.2 hcall).mono ?_⟩
  clear hcall
  rintro e V49 ⟨⟨v, rfl, hv⟩, hb⟩
  obtain ⟨sl, rfl, hrow⟩ := hv
  obtain ⟨sla, slc, rfl⟩ := row_slice hrow
  have rl : V49.ownsRow w.heap.size 3 1 (.slice sla 4 slc) 4 ([1, 0, 0, 1].map (Value.int .i64)) := row_base hrow (Nat.le_trans hB.size (by simp <;> omega))
  clear hrow
  have hbf := chain0 hb
  clear hb
  replace ka := ka.below hbf ka.lt
  replace kb := kb.below hbf kb.lt
  replace kc := kc.below hbf kc.lt
  replace kd := kd.below hbf kd.lt
  replace ra := row_below ra hbf
  replace rb := row_below rb hbf
  replace rc := row_below rc hbf
  replace rd := row_below rd hbf
  replace rx := row_below rx hbf
  replace hB := hB.trans (hbf.mono hB.size)
  clear hbf
  clear rx
  have y0 := (ka.alloc (.cells #[.int .i64 2, .int .i64 2, .slice sla 4 slc] 24)).cell (i := 0) rfl
  have y1 := (ka.alloc (.cells #[.int .i64 2, .int .i64 2, .slice sla 4 slc] 24)).cell (i := 1) rfl
  have y2 := (ka.alloc (.cells #[.int .i64 2, .int .i64 2, .slice sla 4 slc] 24)).cell (i := 2) rfl
  gi_wp2_with fail
  clear y0 y1 y2
  refine ⟨trivial, (callsIn_wide.2 (is_true [[1, 1, 1]] [1, 1, 1] rfl (by decide) (by decide) 3 1 [1, 1, 1] 1 rfl rfl rfl rfl saa sac 3 (Lib.hid rfl) (by decide) _ 1 _ (row_rd' rfl (xs := [1, 1, 1]) (((ra.alloc (.cells #[.int .i64 2, .int .i64 2, .slice sla 4 slc] 24)).alloc (.cells #[.int .i64 1, .int .i64 1, .int .i64 1] 3)).alloc (.cells #[.slice (some ⟨V49.heap.size + 1, 0, none⟩) 3 3] 22))) (rdss1 (V49.alloc (.cells #[.int .i64 2, .int .i64 2, .slice sla 4 slc] 24)) (V49.heap.size + 1) (by simp) [1, 1, 1] #[.int .i64 1, .int .i64 1, .int .i64 1] rfl 3 rfl))).mono ?_⟩
  rintro e V50 ⟨rfl, hb⟩
  have kl : Blk V50 (V49.heap.size) 24 #[.int .i64 2, .int .i64 2, .slice sla 4 slc] := ((((Blk.new V49 24 #[.int .i64 2, .int .i64 2, .slice sla 4 slc]).alloc (.cells #[.int .i64 1, .int .i64 1, .int .i64 1] 3)).alloc (.cells #[.slice (some ⟨V49.heap.size + 1, 0, none⟩) 3 3] 22)).below hb (by simp <;> omega))
  have gkl : w.heap.size ≤ V49.heap.size := by have := hB.size; omega
  have lkakl : V2.heap.size < V49.heap.size := by have := ka.lt; omega
  have lkbkl : V5.heap.size < V49.heap.size := by have := kb.lt; omega
  have lkckl : V8.heap.size < V49.heap.size := by have := kc.lt; omega
  have lkdkl : V11.heap.size < V49.heap.size := by have := kd.lt; omega
  have hbf := chain3 hb
  clear hb
  replace ka := ka.below hbf ka.lt
  replace kb := kb.below hbf kb.lt
  replace kc := kc.below hbf kc.lt
  replace kd := kd.below hbf kd.lt
  replace ra := row_below ra hbf
  replace rb := row_below rb hbf
  replace rc := row_below rc hbf
  replace rd := row_below rd hbf
  replace rl := row_below rl hbf
  replace hB := hB.trans (hbf.mono hB.size)
  clear hbf
  have y0 := kb.cell (i := 0) rfl
  have y1 := kb.cell (i := 1) rfl
  have y2 := kb.cell (i := 2) rfl
  gi_wp2_with fail
  clear y0 y1 y2
  refine ⟨trivial, (callsIn_wide.2 (is_true [[-2147483648, 5, 1]] [-2147483648, 5, 1] rfl (by decide) (by decide) 3 1 [-2147483648, 5, 1] 1 rfl rfl rfl rfl sba sbc 3 (Lib.hid rfl) (by decide) _ 1 _ (row_rd' rfl (xs := [-2147483648, 5, 1]) ((rb.alloc (.cells #[.int .i64 (-2147483648), .int .i64 5, .int .i64 1] 3)).alloc (.cells #[.slice (some ⟨V50.heap.size, 0, none⟩) 3 3] 22))) (rdss1 V50 (V50.heap.size) (by simp) [-2147483648, 5, 1] #[.int .i64 (-2147483648), .int .i64 5, .int .i64 1] rfl 3 rfl))).mono ?_⟩
  rintro e V51 ⟨rfl, hb⟩
  have hbf := chain2 hb
  clear hb
  replace ka := ka.below hbf ka.lt
  replace kb := kb.below hbf kb.lt
  replace kc := kc.below hbf kc.lt
  replace kd := kd.below hbf kd.lt
  replace kl := kl.below hbf kl.lt
  replace ra := row_below ra hbf
  replace rb := row_below rb hbf
  replace rc := row_below rc hbf
  replace rd := row_below rd hbf
  replace rl := row_below rl hbf
  replace hB := hB.trans (hbf.mono hB.size)
  clear hbf
  have y0 := kc.cell (i := 0) rfl
  have y1 := kc.cell (i := 1) rfl
  have y2 := kc.cell (i := 2) rfl
  gi_wp2_with fail
  clear y0 y1 y2
  refine ⟨trivial, (callsIn_wide.2 (is_true [[1, 4, 2147483648]] [1, 4, 2147483648] rfl (by decide) (by decide) 3 1 [1, 4, 2147483648] 1 rfl rfl rfl rfl sca scc 3 (Lib.hid rfl) (by decide) _ 1 _ (row_rd' rfl (xs := [1, 4, 2147483648]) ((rc.alloc (.cells #[.int .i64 1, .int .i64 4, .int .i64 2147483648] 3)).alloc (.cells #[.slice (some ⟨V51.heap.size, 0, none⟩) 3 3] 22))) (rdss1 V51 (V51.heap.size) (by simp) [1, 4, 2147483648] #[.int .i64 1, .int .i64 4, .int .i64 2147483648] rfl 3 rfl))).mono ?_⟩
  rintro e V52 ⟨rfl, hb⟩
  have hbf := chain2 hb
  clear hb
  replace ka := ka.below hbf ka.lt
  replace kb := kb.below hbf kb.lt
  replace kc := kc.below hbf kc.lt
  replace kd := kd.below hbf kd.lt
  replace kl := kl.below hbf kl.lt
  replace ra := row_below ra hbf
  replace rb := row_below rb hbf
  replace rc := row_below rc hbf
  replace rd := row_below rd hbf
  replace rl := row_below rl hbf
  replace hB := hB.trans (hbf.mono hB.size)
  clear hbf
  have y0 := kd.cell (i := 0) rfl
  have y1 := kd.cell (i := 1) rfl
  have y2 := kd.cell (i := 2) rfl
  gi_wp2_with fail
  clear y0 y1 y2
  refine ⟨trivial, (callsIn_wide.2 (is_true [[2]] [2] rfl (by decide) (by decide) 1 1 [2] 1 rfl rfl rfl rfl sda sdc 1 (Lib.hid rfl) (by decide) _ 1 _ (row_rd' rfl (xs := [2]) ((rd.alloc (.cells #[.int .i64 2] 3)).alloc (.cells #[.slice (some ⟨V52.heap.size, 0, none⟩) 1 1] 22))) (rdss1 V52 (V52.heap.size) (by simp) [2] #[.int .i64 2] rfl 1 rfl))).mono ?_⟩
  rintro e V53 ⟨rfl, hb⟩
  have hbf := chain2 hb
  clear hb
  replace ka := ka.below hbf ka.lt
  replace kb := kb.below hbf kb.lt
  replace kc := kc.below hbf kc.lt
  replace kd := kd.below hbf kd.lt
  replace kl := kl.below hbf kl.lt
  replace ra := row_below ra hbf
  replace rb := row_below rb hbf
  replace rc := row_below rc hbf
  replace rd := row_below rd hbf
  replace rl := row_below rl hbf
  replace hB := hB.trans (hbf.mono hB.size)
  clear hbf
  have y0 := kl.cell (i := 0) rfl
  have y1 := kl.cell (i := 1) rfl
  have y2 := kl.cell (i := 2) rfl
  gi_wp2_with fail
  clear y0 y1 y2
  refine ⟨trivial, (callsIn_wide.2 (is_true [[1, 0], [0, 1]] [1, 0] rfl (by decide) (by decide) 2 2 [1, 0, 0, 1] 2 rfl rfl rfl rfl sla slc 4 (Lib.hid rfl) (by decide) _ 2 _ (row_rd' rfl (xs := [1, 0, 0, 1]) (((rl.alloc (.cells #[.int .i64 1, .int .i64 0] 3)).alloc (.cells #[.int .i64 0, .int .i64 1] 3)).alloc (.cells #[.slice (some ⟨V53.heap.size, 0, none⟩) 2 2, .slice (some ⟨V53.heap.size + 1, 0, none⟩) 2 2] 22))) (rdss2 V53 (V53.heap.size) (by simp) [1, 0] #[.int .i64 1, .int .i64 0] rfl 2 rfl [0, 1] #[.int .i64 0, .int .i64 1] rfl 2 rfl))).mono ?_⟩
  rintro e V54 ⟨rfl, hb⟩
  have hbf := chain3 hb
  clear hb
  replace ka := ka.below hbf ka.lt
  replace kb := kb.below hbf kb.lt
  replace kc := kc.below hbf kc.lt
  replace kd := kd.below hbf kd.lt
  replace kl := kl.below hbf kl.lt
  replace ra := row_below ra hbf
  replace rb := row_below rb hbf
  replace rc := row_below rc hbf
  replace rd := row_below rd hbf
  replace rl := row_below rl hbf
  replace hB := hB.trans (hbf.mono hB.size)
  clear hbf
  clear ra rb rc rd rl
  clear kc gkc lkakc lkbkc lkckd lkckl kd gkd lkakd lkbkd lkdkl kl gkl lkakl lkbkl
  gi_wp2_with fail
  refine ⟨trivial, (callsIn_wide.2 (rows_lit [[1, 2], [3, 4]] [1, 2] rfl (by decide) (by decide) 2 2 [1, 2, 3, 4] 2 rfl rfl rfl rfl _ 2 _ (rdss2 V54 (V54.heap.size) (by simp) [1, 2] #[.int .i64 1, .int .i64 2] rfl 2 rfl [3, 4] #[.int .i64 3, .int .i64 4] rfl 2 rfl))).mono ?_⟩
  rintro e V55 ⟨⟨v, rfl, hv⟩, hb⟩
  obtain ⟨sl, rfl, hrow⟩ := hv
  obtain ⟨sma, smc, rfl⟩ := row_slice hrow
  have rm : V55.ownsRow w.heap.size 3 1 (.slice sma 4 smc) 4 ([1, 2, 3, 4].map (Value.int .i64)) := row_base hrow (Nat.le_trans hB.size (by simp <;> omega))
  clear hrow
  have hbf := chain3 hb
  clear hb
  replace ka := ka.below hbf ka.lt
  replace kb := kb.below hbf kb.lt
  replace hB := hB.trans (hbf.mono hB.size)
  clear hbf
  try simp only [List.length_cons, List.length_nil, Nat.reduceAdd]
  have y0 := (Blk.new V55 24 #[.int .i64 2, .int .i64 2, .slice sma 4 smc]).cell (i := 0) rfl
  have y1 := (Blk.new V55 24 #[.int .i64 2, .int .i64 2, .slice sma 4 smc]).cell (i := 1) rfl
  have y2 := (Blk.new V55 24 #[.int .i64 2, .int .i64 2, .slice sma 4 smc]).cell (i := 2) rfl
  gi_wp2_with fail
  clear y0 y1 y2
  obtain ⟨V56, hW⟩ : ∃ X, (V55.alloc (.cells #[.int .i64 2, .int .i64 2, .slice sma 4 smc] 24)) = X := ⟨_, rfl⟩
  have hb : Below ((V55.alloc (.cells #[.int .i64 2, .int .i64 2, .slice sma 4 smc] 24))).heap.size ((V55.alloc (.cells #[.int .i64 2, .int .i64 2, .slice sma 4 smc] 24))) V56 := hW ▸ Below.refl _ _
  rw [hW]
  clear hW
  have km : Blk V56 (V55.heap.size) 24 #[.int .i64 2, .int .i64 2, .slice sma 4 smc] := ((Blk.new V55 24 #[.int .i64 2, .int .i64 2, .slice sma 4 smc]).below hb (by simp <;> omega))
  have gkm : w.heap.size ≤ V55.heap.size := by have := hB.size; omega
  have lkakm : V2.heap.size < V55.heap.size := by have := ka.lt; omega
  have lkbkm : V5.heap.size < V55.heap.size := by have := kb.lt; omega
  have hbf := chain1 hb
  clear hb
  replace ka := ka.below hbf ka.lt
  replace kb := kb.below hbf kb.lt
  replace rm := row_below rm hbf
  replace hB := hB.trans (hbf.mono hB.size)
  clear hbf
  have hcall := Rows_any 2 2 sma smc 4 [1, 2, 3, 4] (Lib.hid rfl) V56 (by decide) (row_rd' rfl (xs := [1, 2, 3, 4]) rm)
  rw [show rowsS 2 2 [1, 2, 3, 4] = { px := [3, 7], err := 0 } from by kernel_rfl] at hcall
  refine ⟨trivial, (callsIn_wide.2 hcall).mono ?_⟩
  clear hcall
  rintro e V57 ⟨⟨spa, spc, rfl, hrow⟩, hb⟩
  have rp : V57.ownsRow w.heap.size 3 1 (.slice spa 2 spc) 2 ([3, 7].map (Value.int .i64)) := row_base hrow (Nat.le_trans hB.size (by simp <;> omega))
  clear hrow
  try simp only [List.length_cons, List.length_nil, Nat.reduceAdd]
  have hbf := chain0 hb
  clear hb
  replace ka := ka.below hbf ka.lt
  replace kb := kb.below hbf kb.lt
  replace km := km.below hbf km.lt
  replace rm := row_below rm hbf
  replace hB := hB.trans (hbf.mono hB.size)
  clear hbf
  have y0 := km.cell (i := 0) rfl
  have y1 := km.cell (i := 1) rfl
  have y2 := km.cell (i := 2) rfl
  gi_wp2_with fail
  clear y0 y1 y2
  have hcall := Cols_any 2 2 sma smc 4 [1, 2, 3, 4] (Lib.hid rfl) V57 (by decide) (row_rd' rfl (xs := [1, 2, 3, 4]) rm)
  rw [show colsS 2 2 [1, 2, 3, 4] = { px := [4, 6], err := 0 } from by kernel_rfl] at hcall
  refine ⟨trivial, (callsIn_wide.2 hcall).mono ?_⟩
  clear hcall
  rintro e V58 ⟨⟨sqa, sqc, rfl, hrow⟩, hb⟩
  have rq : V58.ownsRow w.heap.size 3 1 (.slice sqa 2 sqc) 2 ([4, 6].map (Value.int .i64)) := row_base hrow (Nat.le_trans hB.size (by simp <;> omega))
  clear hrow
  try simp only [List.length_cons, List.length_nil, Nat.reduceAdd]
  have hbf := chain0 hb
  clear hb
  replace ka := ka.below hbf ka.lt
  replace kb := kb.below hbf kb.lt
  replace km := km.below hbf km.lt
  replace rm := row_below rm hbf
  replace rp := row_below rp hbf
  replace hB := hB.trans (hbf.mono hB.size)
  clear hbf
  have y0 := km.cell (i := 0) rfl
  have y1 := km.cell (i := 1) rfl
  have y2 := km.cell (i := 2) rfl
  gi_wp2_with fail
  clear y0 y1 y2
  have hcall := Integral_any 2 2 sma smc 4 [1, 2, 3, 4] (Lib.hid rfl) V58 (by decide) (row_rd' rfl (xs := [1, 2, 3, 4]) rm)
  rw [show integralS 2 2 [1, 2, 3, 4] = { px := [0, 0, 0, 0, 1, 3, 0, 4, 10], err := 0 } from by kernel_rfl] at hcall
  refine ⟨trivial, (callsIn_wide.2 hcall).mono ?_⟩
  clear hcall
  rintro e V59 ⟨⟨sra, src, rfl, hrow⟩, hb⟩
  have rr : V59.ownsRow w.heap.size 3 1 (.slice sra 9 src) 9 ([0, 0, 0, 0, 1, 3, 0, 4, 10].map (Value.int .i64)) := row_base hrow (Nat.le_trans hB.size (by simp <;> omega))
  clear hrow
  try simp only [List.length_cons, List.length_nil, Nat.reduceAdd]
  have hbf := chain0 hb
  clear hb
  replace ka := ka.below hbf ka.lt
  replace kb := kb.below hbf kb.lt
  replace km := km.below hbf km.lt
  replace rm := row_below rm hbf
  replace rp := row_below rp hbf
  replace rq := row_below rq hbf
  replace hB := hB.trans (hbf.mono hB.size)
  clear hbf
  clear rm
  clear km gkm lkakm lkbkm
  gi_wp2_with fail
  refine ⟨trivial, (callsIn_wide.2 (rows_lit [[1, 2, 3], [4, 5, 6]] [1, 2, 3] rfl (by decide) (by decide) 3 2 [1, 2, 3, 4, 5, 6] 2 rfl rfl rfl rfl _ 2 _ (rdss2 V59 (V59.heap.size) (by simp) [1, 2, 3] #[.int .i64 1, .int .i64 2, .int .i64 3] rfl 3 rfl [4, 5, 6] #[.int .i64 4, .int .i64 5, .int .i64 6] rfl 3 rfl))).mono ?_⟩
  rintro e V60 ⟨⟨v, rfl, hv⟩, hb⟩
  obtain ⟨sl, rfl, hrow⟩ := hv
  obtain ⟨sxa, sxc, rfl⟩ := row_slice hrow
  have rx : V60.ownsRow w.heap.size 3 1 (.slice sxa 6 sxc) 6 ([1, 2, 3, 4, 5, 6].map (Value.int .i64)) := row_base hrow (Nat.le_trans hB.size (by simp <;> omega))
  clear hrow
  have hbf := chain3 hb
  clear hb
  replace ka := ka.below hbf ka.lt
  replace kb := kb.below hbf kb.lt
  replace rp := row_below rp hbf
  replace rq := row_below rq hbf
  replace rr := row_below rr hbf
  replace hB := hB.trans (hbf.mono hB.size)
  clear hbf
  try simp only [List.length_cons, List.length_nil, Nat.reduceAdd]
  gi_wp2_with fail
  have hcall := Flip_any 3 2 sxa sxc 6 [1, 2, 3, 4, 5, 6] (Lib.hid rfl) V60 (by decide) (row_rd' rfl (xs := [1, 2, 3, 4, 5, 6]) rx)
  rw [show flipS 3 2 [1, 2, 3, 4, 5, 6] = { w := 3, h := 2, px := [3, 2, 1, 6, 5, 4], err := 0 } from by kernel_rfl] at hcall
  refine ⟨trivial, (callsIn_wide.2 hcall).mono ?_⟩
  clear hcall
  rintro e V61 ⟨⟨v, rfl, hv⟩, hb⟩
  obtain ⟨sl, rfl, hrow⟩ := hv
  obtain ⟨saa, sac, rfl⟩ := row_slice hrow
  have ra : V61.ownsRow w.heap.size 3 1 (.slice saa 6 sac) 6 ([3, 2, 1, 6, 5, 4].map (Value.int .i64)) := row_base hrow (Nat.le_trans hB.size (by simp <;> omega))
  clear hrow
  have hbf := chain0 hb
  clear hb
  replace ka := ka.below hbf ka.lt
  replace kb := kb.below hbf kb.lt
  replace rp := row_below rp hbf
  replace rq := row_below rq hbf
  replace rr := row_below rr hbf
  replace rx := row_below rx hbf
  replace hB := hB.trans (hbf.mono hB.size)
  clear hbf
  clear rx
  obtain ⟨V62, hW⟩ : ∃ X, put3 V61 (V2.heap.size) (.int .i64 3) (.int .i64 2) (.slice saa 6 sac) = X := ⟨_, rfl⟩
  have hg : V61.grownBy V62 (some (V2.heap.size)) := hW ▸ put3_grownE _ _ _ _ _
  have ka' := put3_blk ka (.int .i64 3) (.int .i64 2) (.slice saa 6 sac)
  rw [hW] at ka'
  have rp' := put3_row rp (ka.not_row (by decide) rp) (.int .i64 3) (.int .i64 2) (.slice saa 6 sac)
  rw [hW] at rp'
  have rq' := put3_row rq (ka.not_row (by decide) rq) (.int .i64 3) (.int .i64 2) (.slice saa 6 sac)
  rw [hW] at rq'
  have rr' := put3_row rr (ka.not_row (by decide) rr) (.int .i64 3) (.int .i64 2) (.slice saa 6 sac)
  rw [hW] at rr'
  have ra' := put3_row ra (ka.not_row (by decide) ra) (.int .i64 3) (.int .i64 2) (.slice saa 6 sac)
  rw [hW] at ra'
  have kb' := kb.kept hg (by have := lkakb; simp; omega)
  have hB' := hB.trans (put3_below gka (.int .i64 3) (.int .i64 2) (.slice saa 6 sac))
  rw [hW] at hB'
  have z0 := ka.cell (i := 0) rfl
  have fz0 := ka.frozen 0
  have z1 := ka.cell (i := 1) rfl
  have fz1 := ka.frozen 1
  have z2 := ka.cell (i := 2) rfl
  have fz2 := ka.frozen 2
  clear hg
  gi_wp2_with fail
  clear hW z0 z1 z2 fz0 fz1 fz2
  replace ka := ka'
  clear ka'
  replace kb := kb'
  clear kb'
  replace rp := rp'
  clear rp'
  replace rq := rq'
  clear rq'
  replace rr := rr'
  clear rr'
  replace ra := ra'
  clear ra'
  replace hB := hB'
  clear hB'
  refine ⟨trivial, (callsIn_wide.2 (rows_lit [[1, 2, 3]] [1, 2, 3] rfl (by decide) (by decide) 3 1 [1, 2, 3] 1 rfl rfl rfl rfl _ 1 _ (rdss1 V62 (V62.heap.size) (by simp) [1, 2, 3] #[.int .i64 1, .int .i64 2, .int .i64 3] rfl 3 rfl))).mono ?_⟩
  rintro e V63 ⟨⟨v, rfl, hv⟩, hb⟩
  obtain ⟨sl, rfl, hrow⟩ := hv
  obtain ⟨sxa, sxc, rfl⟩ := row_slice hrow
  have rx : V63.ownsRow w.heap.size 3 1 (.slice sxa 3 sxc) 3 ([1, 2, 3].map (Value.int .i64)) := row_base hrow (Nat.le_trans hB.size (by simp <;> omega))
  clear hrow
  have hbf := chain2 hb
  clear hb
  replace ka := ka.below hbf ka.lt
  replace kb := kb.below hbf kb.lt
  replace rp := row_below rp hbf
  replace rq := row_below rq hbf
  replace rr := row_below rr hbf
  replace ra := row_below ra hbf
  replace hB := hB.trans (hbf.mono hB.size)
  clear hbf
  try simp only [List.length_cons, List.length_nil, Nat.reduceAdd]
  gi_wp2_with fail
  have hcall := Warp_any 3 1 sxa sxc 3 [1, 2, 3] (Lib.hid rfl) ⟨1, 0, 1, 0, 1, 0, 2⟩ 4 1 9 V63 (by decide) (row_rd' rfl (xs := [1, 2, 3]) rx)
  rw [show warpS 3 1 [1, 2, 3] ⟨1, 0, 1, 0, 1, 0, 2⟩ 4 1 9 = { w := 4, h := 1, px := [2, 2, 3, 3], err := 0 } from by kernel_rfl] at hcall
  refine ⟨trivial, (callsIn_wide.2 hcall).mono ?_⟩
  clear hcall
  rintro e V64 ⟨⟨v, rfl, hv⟩, hb⟩
  obtain ⟨sl, rfl, hrow⟩ := hv
  obtain ⟨sba, sbc, rfl⟩ := row_slice hrow
  have rb : V64.ownsRow w.heap.size 3 1 (.slice sba 4 sbc) 4 ([2, 2, 3, 3].map (Value.int .i64)) := row_base hrow (Nat.le_trans hB.size (by simp <;> omega))
  clear hrow
  have hbf := chain0 hb
  clear hb
  replace ka := ka.below hbf ka.lt
  replace kb := kb.below hbf kb.lt
  replace rp := row_below rp hbf
  replace rq := row_below rq hbf
  replace rr := row_below rr hbf
  replace ra := row_below ra hbf
  replace rx := row_below rx hbf
  replace hB := hB.trans (hbf.mono hB.size)
  clear hbf
  clear rx
  obtain ⟨V65, hW⟩ : ∃ X, put3 V64 (V5.heap.size) (.int .i64 4) (.int .i64 1) (.slice sba 4 sbc) = X := ⟨_, rfl⟩
  have hg : V64.grownBy V65 (some (V5.heap.size)) := hW ▸ put3_grownE _ _ _ _ _
  have kb' := put3_blk kb (.int .i64 4) (.int .i64 1) (.slice sba 4 sbc)
  rw [hW] at kb'
  have rp' := put3_row rp (kb.not_row (by decide) rp) (.int .i64 4) (.int .i64 1) (.slice sba 4 sbc)
  rw [hW] at rp'
  have rq' := put3_row rq (kb.not_row (by decide) rq) (.int .i64 4) (.int .i64 1) (.slice sba 4 sbc)
  rw [hW] at rq'
  have rr' := put3_row rr (kb.not_row (by decide) rr) (.int .i64 4) (.int .i64 1) (.slice sba 4 sbc)
  rw [hW] at rr'
  have ra' := put3_row ra (kb.not_row (by decide) ra) (.int .i64 4) (.int .i64 1) (.slice sba 4 sbc)
  rw [hW] at ra'
  have rb' := put3_row rb (kb.not_row (by decide) rb) (.int .i64 4) (.int .i64 1) (.slice sba 4 sbc)
  rw [hW] at rb'
  have ka' := ka.kept hg (by have := lkakb; simp; omega)
  have hB' := hB.trans (put3_below gkb (.int .i64 4) (.int .i64 1) (.slice sba 4 sbc))
  rw [hW] at hB'
  have z0 := kb.cell (i := 0) rfl
  have fz0 := kb.frozen 0
  have z1 := kb.cell (i := 1) rfl
  have fz1 := kb.frozen 1
  have z2 := kb.cell (i := 2) rfl
  have fz2 := kb.frozen 2
  clear hg
  gi_wp2_with fail
  clear hW z0 z1 z2 fz0 fz1 fz2
  replace ka := ka'
  clear ka'
  replace kb := kb'
  clear kb'
  replace rp := rp'
  clear rp'
  replace rq := rq'
  clear rq'
  replace rr := rr'
  clear rr'
  replace ra := ra'
  clear ra'
  replace rb := rb'
  clear rb'
  replace hB := hB'
  clear hB'
  refine ⟨trivial, (callsIn_wide.2 (SameInts_eq spa (some ⟨V65.heap.size, 0, none⟩) spc 2 2 [3, 7] (Lib.hid rfl) _ (by decide) (row_rd' rfl (xs := [3, 7]) (rp.alloc (.cells #[.int .i64 3, .int .i64 7] 3))) (.inr ⟨_, 0, rfl, by simp, fun i hi => rd_litG (Blk.new V65 3 #[.int .i64 3, .int .i64 7]) rfl i hi⟩))).mono ?_⟩
  rintro e V66 ⟨rfl, hb⟩
  have hbf := chain1 hb
  clear hb
  replace ka := ka.below hbf ka.lt
  replace kb := kb.below hbf kb.lt
  replace rp := row_below rp hbf
  replace rq := row_below rq hbf
  replace rr := row_below rr hbf
  replace ra := row_below ra hbf
  replace rb := row_below rb hbf
  replace hB := hB.trans (hbf.mono hB.size)
  clear hbf
  gi_wp2_with fail
  refine ⟨trivial, (callsIn_wide.2 (SameInts_eq sqa (some ⟨V66.heap.size, 0, none⟩) sqc 2 2 [4, 6] (Lib.hid rfl) _ (by decide) (row_rd' rfl (xs := [4, 6]) (rq.alloc (.cells #[.int .i64 4, .int .i64 6] 3))) (.inr ⟨_, 0, rfl, by simp, fun i hi => rd_litG (Blk.new V66 3 #[.int .i64 4, .int .i64 6]) rfl i hi⟩))).mono ?_⟩
  rintro e V67 ⟨rfl, hb⟩
  have hbf := chain1 hb
  clear hb
  replace ka := ka.below hbf ka.lt
  replace kb := kb.below hbf kb.lt
  replace rp := row_below rp hbf
  replace rq := row_below rq hbf
  replace rr := row_below rr hbf
  replace ra := row_below ra hbf
  replace rb := row_below rb hbf
  replace hB := hB.trans (hbf.mono hB.size)
  clear hbf
  gi_wp2_with fail
  refine ⟨trivial, (callsIn_wide.2 (SameInts_eq sra (some ⟨V67.heap.size, 0, none⟩) src 9 9 [0, 0, 0, 0, 1, 3, 0, 4, 10] (Lib.hid rfl) _ (by decide) (row_rd' rfl (xs := [0, 0, 0, 0, 1, 3, 0, 4, 10]) (rr.alloc (.cells #[.int .i64 0, .int .i64 0, .int .i64 0, .int .i64 0, .int .i64 1, .int .i64 3, .int .i64 0, .int .i64 4, .int .i64 10] 3))) (.inr ⟨_, 0, rfl, by simp, fun i hi => rd_litG (Blk.new V67 3 #[.int .i64 0, .int .i64 0, .int .i64 0, .int .i64 0, .int .i64 1, .int .i64 3, .int .i64 0, .int .i64 4, .int .i64 10]) rfl i hi⟩))).mono ?_⟩
  rintro e V68 ⟨rfl, hb⟩
  have hbf := chain1 hb
  clear hb
  replace ka := ka.below hbf ka.lt
  replace kb := kb.below hbf kb.lt
  replace rp := row_below rp hbf
  replace rq := row_below rq hbf
  replace rr := row_below rr hbf
  replace ra := row_below ra hbf
  replace rb := row_below rb hbf
  replace hB := hB.trans (hbf.mono hB.size)
  clear hbf
  have y0 := ka.cell (i := 0) rfl
  have y1 := ka.cell (i := 1) rfl
  have y2 := ka.cell (i := 2) rfl
  gi_wp2_with fail
  clear y0 y1 y2
  refine ⟨trivial, (callsIn_wide.2 (is_true [[3, 2, 1], [6, 5, 4]] [3, 2, 1] rfl (by decide) (by decide) 3 2 [3, 2, 1, 6, 5, 4] 2 rfl rfl rfl rfl saa sac 6 (Lib.hid rfl) (by decide) _ 2 _ (row_rd' rfl (xs := [3, 2, 1, 6, 5, 4]) (((ra.alloc (.cells #[.int .i64 3, .int .i64 2, .int .i64 1] 3)).alloc (.cells #[.int .i64 6, .int .i64 5, .int .i64 4] 3)).alloc (.cells #[.slice (some ⟨V68.heap.size, 0, none⟩) 3 3, .slice (some ⟨V68.heap.size + 1, 0, none⟩) 3 3] 22))) (rdss2 V68 (V68.heap.size) (by simp) [3, 2, 1] #[.int .i64 3, .int .i64 2, .int .i64 1] rfl 3 rfl [6, 5, 4] #[.int .i64 6, .int .i64 5, .int .i64 4] rfl 3 rfl))).mono ?_⟩
  rintro e V69 ⟨rfl, hb⟩
  have hbf := chain3 hb
  clear hb
  replace ka := ka.below hbf ka.lt
  replace kb := kb.below hbf kb.lt
  replace rp := row_below rp hbf
  replace rq := row_below rq hbf
  replace rr := row_below rr hbf
  replace ra := row_below ra hbf
  replace rb := row_below rb hbf
  replace hB := hB.trans (hbf.mono hB.size)
  clear hbf
  have y0 := kb.cell (i := 0) rfl
  have y1 := kb.cell (i := 1) rfl
  have y2 := kb.cell (i := 2) rfl
  gi_wp2_with fail
  clear y0 y1 y2
  refine ⟨trivial, (callsIn_wide.2 (is_true [[2, 2, 3, 3]] [2, 2, 3, 3] rfl (by decide) (by decide) 4 1 [2, 2, 3, 3] 1 rfl rfl rfl rfl sba sbc 4 (Lib.hid rfl) (by decide) _ 1 _ (row_rd' rfl (xs := [2, 2, 3, 3]) ((rb.alloc (.cells #[.int .i64 2, .int .i64 2, .int .i64 3, .int .i64 3] 3)).alloc (.cells #[.slice (some ⟨V69.heap.size, 0, none⟩) 4 4] 22))) (rdss1 V69 (V69.heap.size) (by simp) [2, 2, 3, 3] #[.int .i64 2, .int .i64 2, .int .i64 3, .int .i64 3] rfl 4 rfl))).mono ?_⟩
  rintro e V70 ⟨rfl, hb⟩
  have hbf := chain2 hb
  clear hb
  replace ka := ka.below hbf ka.lt
  replace kb := kb.below hbf kb.lt
  replace rp := row_below rp hbf
  replace rq := row_below rq hbf
  replace rr := row_below rr hbf
  replace ra := row_below ra hbf
  replace rb := row_below rb hbf
  replace hB := hB.trans (hbf.mono hB.size)
  clear hbf
  gi_wp2_with fail
  exact ⟨_, results_tmp rfl _ _ _, rfl, hB⟩

end Go.Proofs.Ytjglfeonoiljlaa

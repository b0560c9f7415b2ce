/- Contracts and laws (Tk). -/
import Derived.Test.YtbdnjhnlfpfhcaaGreatQE13
import Derived.Test.YtbdnjhnlfpfhcaaGreatQE3
import Derived.Test.YtbdnjhnlfpfhcaaGreatQE12
namespace Go.Proofs.YtbdnjhnlfpfhcaaGreat
open Go Go.RowKit Go.Shelf
set_option linter.unusedVariables false
set_option linter.unusedSimpArgs false

theorem LgR.one {W : World} {b x : Nat} (h : Blk W b 70 #[.int .u64 (x : Int)]) (hx : x < two64) (h0 : x ≠ 0) : LgR W (some ⟨b, 0, none⟩) [x] x where
  rd := .inr ⟨b, 0, rfl, h.lt, fun i hi => by
    have : i = 0 := by simp at hi; exact hi
    subst this
    exact h.cell rfl⟩
  words := fun y hy => by simp at hy; subst hy; exact hx
  trim := fun i hi => by
    have : i = 0 := by simp at hi; exact hi
    subst this
    exact h0
  val := by simp [valB]

set_option maxRecDepth 100000 in
set_option maxHeartbeats 2000000 in
theorem jside_any (rate f h r : Nat) (hrate : rate ≤ 256) (hf : f ≤ 1073741824) (hf0 : f ≠ 0) (hh : h ≤ r) (hr : r ≤ 1000) (bh br : Nat) (w : World) (kh : w.cell? ⟨bh, 0, none⟩ = some (.int .i64 (h : Int))) (kr : w.cell? ⟨br, 0, none⟩ = some (.int .i64 (r : Int))) (hbh : bh < w.heap.size) (hbr : br < w.heap.size) :
    Calls Tryz.prog 61 (#[.int .i64 (rate : Int), .int .i64 (f : Int)] ++ #[.pointer (some ⟨bh, 0, none⟩), .pointer (some ⟨br, 0, none⟩)]) w (RetLg w (f * rate ^ h * (256 - rate) ^ (r - h)) (1 + h + (r - h))) := by
  obtain ⟨q, hq⟩ : ∃ q, 256 - rate = q := ⟨_, rfl⟩
  obtain ⟨d, hd⟩ : ∃ d, r - h = d := ⟨_, rfl⟩
  rw [hq, hd]
  have hw1 : IntKind.u64.wrap (f : Int) = (f : Int) := by rw [IntKind.wrap_u64]; omega
  have hw2 : IntKind.u64.wrap (rate : Int) = (rate : Int) := by rw [IntKind.wrap_u64]; omega
  have hw3 : (256 : Int) - (rate : Int) = (q : Int) := by omega
  have hw4 : (r : Int) - (h : Int) = (d : Int) := by omega
  have hw5 : IntKind.u64.wrap (q : Int) = (q : Int) := by rw [IntKind.wrap_u64]; omega
  have hq2 : q ≤ 256 := by omega
  have hd2 : d ≤ 1000 := by omega
  have hrH := Lib.hid hrate
  have hfH := Lib.hid hf
  have hf0H := Lib.hid hf0
  have hhH := Lib.hid (show h ≤ 1000 by omega)
  clear hq hd hrate hf hf0 hh hr
  simp only [List.append_toArray, List.cons_append, List.nil_append]
  go_enter Tryz.func61, Tryz.ntmps61
  go_wp2_with fail
  have hS := (Below.refl w.heap.size w).drew
  refine plain_region (fun W' => Below w.heap.size w W') 15 15 (by kernel_rfl) rfl ?_
  simp only [Array.replicate_succ, Array.replicate_zero, List.push_toArray, List.nil_append, List.cons_append]
  refine take_op 0 (v := ?rv0) rfl (by kernel_rfl) (fun _ _ _ h => h) (by rfl) hS (fun w' hS' => ?ry0) ?rz0
  case ry0 =>
    go_simp
    rfl
  simp only [List.setIfInBounds_toArray, List.set_cons_zero, List.set_cons_succ]
  refine take_op 1 (v := ?rv1) rfl (by kernel_rfl) (fun _ _ _ h => h) (by rfl) hS (fun w' hS' => ?ry1) ?rz1
  case ry1 =>
    go_simp
    rfl
  simp only [List.setIfInBounds_toArray, List.set_cons_zero, List.set_cons_succ]
  refine take_op 3 (v := ?rv3) rfl (by kernel_rfl) (fun _ _ _ h => h) (by rfl) hS (fun w' hS' => ?ry3) ?rz3
  case ry3 =>
    go_simp
    rfl
  simp only [List.setIfInBounds_toArray, List.set_cons_zero, List.set_cons_succ]
  refine take_op 4 (v := ?rv4) rfl (by kernel_rfl) (fun _ _ _ h => h) (by rfl) hS (fun w' hS' => ?ry4) ?rz4
  case ry4 =>
    go_simp
    rfl
  simp only [List.setIfInBounds_toArray, List.set_cons_zero, List.set_cons_succ]
  refine take_op 5 (v := ?rv5) rfl (by kernel_rfl) (fun _ _ _ h => h) (by rfl) hS (fun w' hS' => ?ry5) ?rz5
  case ry5 =>
    have z0 := (hS'.cell (p := ⟨bh, 0, none⟩) hbh).trans kh
    have z1 := (hS'.cell (p := ⟨br, 0, none⟩) hbr).trans kr
    clear hS'
    go_simp
    rfl
  simp only [List.setIfInBounds_toArray, List.set_cons_zero, List.set_cons_succ]
  refine take_op 7 (v := ?rv7) rfl (by kernel_rfl) (fun _ _ _ h => h) (by rfl) hS (fun w' hS' => ?ry7) ?rz7
  case ry7 =>
    go_simp
    rfl
  simp only [List.setIfInBounds_toArray, List.set_cons_zero, List.set_cons_succ]
  refine take_op 8 (v := ?rv8) rfl (by kernel_rfl) (fun _ _ _ h => h) (by rfl) hS (fun w' hS' => ?ry8) ?rz8
  case ry8 =>
    go_simp
    try go_ints
    rfl
  simp only [List.setIfInBounds_toArray, List.set_cons_zero, List.set_cons_succ]
  refine take_op 9 (v := ?rv9) rfl (by kernel_rfl) (fun _ _ _ h => h) (by rfl) hS (fun w' hS' => ?ry9) ?rz9
  case ry9 =>
    go_simp
    rfl
  simp only [List.setIfInBounds_toArray, List.set_cons_zero, List.set_cons_succ]
  refine take_op 10 (v := ?rv10) rfl (by kernel_rfl) (fun _ _ _ h => h) (by rfl) hS (fun w' hS' => ?ry10) ?rz10
  case ry10 =>
    have z0 := (hS'.cell (p := ⟨bh, 0, none⟩) hbh).trans kh
    have z1 := (hS'.cell (p := ⟨br, 0, none⟩) hbr).trans kr
    clear hS'
    go_simp
    rfl
  simp only [List.setIfInBounds_toArray, List.set_cons_zero, List.set_cons_succ]
  refine take_op 11 (v := ?rv11) rfl (by kernel_rfl) (fun _ _ _ h => h) (by rfl) hS (fun w' hS' => ?ry11) ?rz11
  case ry11 =>
    have z0 := (hS'.cell (p := ⟨bh, 0, none⟩) hbh).trans kh
    have z1 := (hS'.cell (p := ⟨br, 0, none⟩) hbr).trans kr
    clear hS'
    go_simp
    rfl
  simp only [List.setIfInBounds_toArray, List.set_cons_zero, List.set_cons_succ]
  refine take_op 12 (v := ?rv12) rfl (by kernel_rfl) (fun _ _ _ h => h) (by rfl) hS (fun w' hS' => ?ry12) ?rz12
  case ry12 =>
    go_simp
    try go_ints
    rfl
  simp only [List.setIfInBounds_toArray, List.set_cons_zero, List.set_cons_succ]
  refine step_op 2 (by kernel_rfl) rfl (fun K hK => ?_)
  rw [if_pos (by rfl)]
  have kx := Blk.new w.drew 70 #[.int .u64 (f : Int)]
  have hS2 : Below w.heap.size w (w.drew.alloc (.cells #[.int .u64 (f : Int)] 70)) := hS.alloc (Nat.le_refl _) _
  go_simp
  refine hK.out _ _ (fun h => hS2) ?_
  clear hK K
  try simp only [Act.put, List.setIfInBounds_toArray, List.set_cons_zero, List.set_cons_succ]
  refine step_op 6 (by kernel_rfl) rfl (fun K hK => ?_)
  rw [if_pos (by rfl)]
  go_simp
  refine (power_any (some ⟨w.heap.size, 0, none⟩) 1 1 [f] f rate h rfl (by have := hhH.out; omega) (by have := hrH.out; rw [lt_two64]; omega) _ (LgR.one kx (by have := hfH.out; rw [lt_two64]; omega) hf0H.out)).mono ?_
  rintro e W3 ⟨ys, a2, c2, rfl, hr2, hl2, hb2⟩
  have hS3 := hS2.trans (hb2.mono hS2.size)
  obtain ⟨l2, hl2'⟩ : ∃ l, ys.length = l := ⟨_, rfl⟩
  rw [hl2'] at hl2 ⊢
  have hl2H := Lib.hid hl2'
  clear hl2' hb2 kx hS2
  refine hK.out _ _ (fun h => hS3) ?_
  clear hK K
  try simp only [Act.put, List.setIfInBounds_toArray, List.set_cons_zero, List.set_cons_succ]
  refine step_op 13 (by kernel_rfl) rfl (fun K hK => ?_)
  rw [if_pos (by rfl)]
  go_simp
  refine (power_any a2 c2 l2 ys (f * rate ^ h) q d hl2H.out (by have := hhH.out; omega) (by rw [lt_two64]; omega) _ hr2).mono ?_
  rintro e W4 ⟨zs, a3, c3, rfl, hr3, hl3, hb3⟩
  have hS4 := hS3.trans (hb3.mono hS3.size)
  refine hK.out _ _ (fun h => hS4) ?_
  clear hK K
  try simp only [Act.put, List.setIfInBounds_toArray, List.set_cons_zero, List.set_cons_succ]
  refine take_op 14 (v := ?rv14) rfl (by kernel_rfl) (fun _ _ _ h => h) (by rfl) hS4 (fun w' hS' => ?ry14) ?rz14
  case ry14 =>
    go_simp
    rfl
  simp only [List.setIfInBounds_toArray, List.set_cons_zero, List.set_cons_succ]
  refine done_ops (by kernel_rfl) ?_
  go_wp2_with fail
  go_ret
  exact ⟨zs, a3, c3, rfl, hr3, by omega, hS4⟩

abbrev tsv (p q num den : Int) : Value := .agg #[.int .i64 p, .int .i64 q, .int .i64 num, .int .i64 den]

set_option maxRecDepth 100000 in
set_option maxHeartbeats 2000000 in
theorem raises_any (p q num den h r : Nat) (hp : p ≤ 256) (hq : q ≤ 256) (hn : num ≤ 1073741824) (hn0 : num ≠ 0) (hd : den ≤ 1073741824) (hd0 : den ≠ 0) (hh : h ≤ r) (hr : r ≤ 1000) (v : Bool) (hv : raiseB p q num den h (r - h) = v) (w : World) :
    Calls Tryz.prog 33 #[tsv p q num den, .int .i64 (h : Int), .int .i64 (r : Int)] w fun e w' => e = .returned (.bool v) ∧ Below w.heap.size w w' := by
  have k3 := ((Blk.new w 34 #[.int .i64 (p : Int), .int .i64 (q : Int), .int .i64 (num : Int), .int .i64 (den : Int)]).alloc (.cells #[.int .i64 (h : Int)] 3)).alloc (.cells #[.int .i64 (r : Int)] 3)
  have k4 := by simpa only [World.size_alloc] using (Blk.new (w.alloc (.cells #[.int .i64 (p : Int), .int .i64 (q : Int), .int .i64 (num : Int), .int .i64 (den : Int)] 34)) 3 #[.int .i64 (h : Int)]).alloc (.cells #[.int .i64 (r : Int)] 3)
  have k5 := by simpa only [World.size_alloc] using Blk.new ((w.alloc (.cells #[.int .i64 (p : Int), .int .i64 (q : Int), .int .i64 (num : Int), .int .i64 (den : Int)] 34)).alloc (.cells #[.int .i64 (h : Int)] 3)) 3 #[.int .i64 (r : Int)]
  have hB := jwd_al (jwd_al (jwd_al (Below.refl _ w) (.cells #[.int .i64 (p : Int), .int .i64 (q : Int), .int .i64 (num : Int), .int .i64 (den : Int)] 34)) (.cells #[.int .i64 (h : Int)] 3)) (.cells #[.int .i64 (r : Int)] 3)
  obtain ⟨W0, hW0⟩ : ∃ W0, ((w.alloc (.cells #[.int .i64 (p : Int), .int .i64 (q : Int), .int .i64 (num : Int), .int .i64 (den : Int)] 34)).alloc (.cells #[.int .i64 (h : Int)] 3)).alloc (.cells #[.int .i64 (r : Int)] 3) = W0 := ⟨_, rfl⟩
  rw [hW0] at k3 k4 k5 hB
  have hs1 := fun (W : World) (hb : Below W0.heap.size W0 W) => jside_any p den h r hp hd hd0 hh hr (w.heap.size + 1) (w.heap.size + 1 + 1) W ((k4.below hb k4.lt).cell rfl) ((k5.below hb k5.lt).cell rfl) (k4.below hb k4.lt).lt (k5.below hb k5.lt).lt
  have hs2 := fun (W : World) (hb : Below W0.heap.size W0 W) => jside_any q num h r hq hn hn0 hh hr (w.heap.size + 1) (w.heap.size + 1 + 1) W ((k4.below hb k4.lt).cell rfl) ((k5.below hb k5.lt).cell rfl) (k4.below hb k4.lt).lt (k5.below hb k5.lt).lt
  simp only [List.append_toArray, List.cons_append, List.nil_append] at hs1 hs2
  unfold raiseB at hv
  obtain ⟨V1, hV1⟩ : ∃ V, den * p ^ h * (256 - p) ^ (r - h) = V := ⟨_, rfl⟩
  obtain ⟨V2, hV2⟩ : ∃ V, num * q ^ h * (256 - q) ^ (r - h) = V := ⟨_, rfl⟩
  rw [hV1] at hv hs1
  rw [hV2] at hv hs2
  have hlen : 1 + h + (r - h) ≤ 100000 := by omega
  obtain ⟨L, hL⟩ : ∃ L, 1 + h + (r - h) = L := ⟨_, rfl⟩
  rw [hL] at hs1 hs2 hlen
  have hs1H := Lib.hid hs1
  have hs2H := Lib.hid hs2
  have hvH := Lib.hid hv
  have hWH := Lib.hid hW0
  have hS := (Below.refl W0.heap.size W0).drew
  clear hv hs1 hs2 hV1 hV2 hW0 hp hq hn hd hn0 hd0 k4 k5 hL hh hr
  go_enter Tryz.func33, Tryz.ntmps33
  go_wp2_with fail
  rw [hWH.out]
  refine plain_region (fun W' => Below W0.heap.size W0 W') 16 16 (by kernel_rfl) rfl ?_
  simp only [Array.replicate_succ, Array.replicate_zero, List.push_toArray, List.nil_append, List.cons_append]
  refine take_op 0 (v := ?sv0) rfl (by kernel_rfl) (fun _ _ _ h => h) (by rfl) hS (fun w' hS' => ?sy0) ?sz0
  case sy0 =>
    go_simp
    rfl
  simp only [List.setIfInBounds_toArray, List.set_cons_zero, List.set_cons_succ]
  refine take_op 1 (v := ?sv1) rfl (by kernel_rfl) (fun _ _ _ h => h) (by rfl) hS (fun w' hS' => ?sy1) ?sz1
  case sy1 =>
    go_simp
    rfl
  simp only [List.setIfInBounds_toArray, List.set_cons_zero, List.set_cons_succ]
  refine take_op 2 (v := ?sv2) rfl (by kernel_rfl) (fun _ _ _ h => h) (by rfl) hS (fun w' hS' => ?sy2) ?sz2
  case sy2 =>
    have z0 := (k3.below hS' k3.lt).cell (i := 0) rfl
    have z1 := (k3.below hS' k3.lt).cell (i := 1) rfl
    have z2 := (k3.below hS' k3.lt).cell (i := 2) rfl
    have z3 := (k3.below hS' k3.lt).cell (i := 3) rfl
    clear hS'
    go_simp
    rfl
  simp only [List.setIfInBounds_toArray, List.set_cons_zero, List.set_cons_succ]
  refine take_op 3 (v := ?sv3) rfl (by kernel_rfl) (fun _ _ _ h => h) (by rfl) hS (fun w' hS' => ?sy3) ?sz3
  case sy3 =>
    go_simp
    rfl
  simp only [List.setIfInBounds_toArray, List.set_cons_zero, List.set_cons_succ]
  refine take_op 4 (v := ?sv4) rfl (by kernel_rfl) (fun _ _ _ h => h) (by rfl) hS (fun w' hS' => ?sy4) ?sz4
  case sy4 =>
    go_simp
    rfl
  simp only [List.setIfInBounds_toArray, List.set_cons_zero, List.set_cons_succ]
  refine take_op 5 (v := ?sv5) rfl (by kernel_rfl) (fun _ _ _ h => h) (by rfl) hS (fun w' hS' => ?sy5) ?sz5
  case sy5 =>
    have z0 := (k3.below hS' k3.lt).cell (i := 0) rfl
    have z1 := (k3.below hS' k3.lt).cell (i := 1) rfl
    have z2 := (k3.below hS' k3.lt).cell (i := 2) rfl
    have z3 := (k3.below hS' k3.lt).cell (i := 3) rfl
    clear hS'
    go_simp
    rfl
  simp only [List.setIfInBounds_toArray, List.set_cons_zero, List.set_cons_succ]
  refine take_op 7 (v := ?sv7) rfl (by kernel_rfl) (fun _ _ _ h => h) (by rfl) hS (fun w' hS' => ?sy7) ?sz7
  case sy7 =>
    go_simp
    rfl
  simp only [List.setIfInBounds_toArray, List.set_cons_zero, List.set_cons_succ]
  refine take_op 8 (v := ?sv8) rfl (by kernel_rfl) (fun _ _ _ h => h) (by rfl) hS (fun w' hS' => ?sy8) ?sz8
  case sy8 =>
    go_simp
    rfl
  simp only [List.setIfInBounds_toArray, List.set_cons_zero, List.set_cons_succ]
  refine take_op 9 (v := ?sv9) rfl (by kernel_rfl) (fun _ _ _ h => h) (by rfl) hS (fun w' hS' => ?sy9) ?sz9
  case sy9 =>
    have z0 := (k3.below hS' k3.lt).cell (i := 0) rfl
    have z1 := (k3.below hS' k3.lt).cell (i := 1) rfl
    have z2 := (k3.below hS' k3.lt).cell (i := 2) rfl
    have z3 := (k3.below hS' k3.lt).cell (i := 3) rfl
    clear hS'
    go_simp
    rfl
  simp only [List.setIfInBounds_toArray, List.set_cons_zero, List.set_cons_succ]
  refine take_op 10 (v := ?sv10) rfl (by kernel_rfl) (fun _ _ _ h => h) (by rfl) hS (fun w' hS' => ?sy10) ?sz10
  case sy10 =>
    go_simp
    rfl
  simp only [List.setIfInBounds_toArray, List.set_cons_zero, List.set_cons_succ]
  refine take_op 11 (v := ?sv11) rfl (by kernel_rfl) (fun _ _ _ h => h) (by rfl) hS (fun w' hS' => ?sy11) ?sz11
  case sy11 =>
    go_simp
    rfl
  simp only [List.setIfInBounds_toArray, List.set_cons_zero, List.set_cons_succ]
  refine take_op 12 (v := ?sv12) rfl (by kernel_rfl) (fun _ _ _ h => h) (by rfl) hS (fun w' hS' => ?sy12) ?sz12
  case sy12 =>
    have z0 := (k3.below hS' k3.lt).cell (i := 0) rfl
    have z1 := (k3.below hS' k3.lt).cell (i := 1) rfl
    have z2 := (k3.below hS' k3.lt).cell (i := 2) rfl
    have z3 := (k3.below hS' k3.lt).cell (i := 3) rfl
    clear hS'
    go_simp
    rfl
  simp only [List.setIfInBounds_toArray, List.set_cons_zero, List.set_cons_succ]
  refine step_op 6 (by kernel_rfl) rfl (fun K hK => ?_)
  rw [if_pos (by rfl)]
  go_simp
  refine (hs1H.out _ hS).mono ?_
  rintro e W3 ⟨ys, a2, c2, rfl, hr2, hl2, hb2⟩
  have hS3 := hS.trans (hb2.mono hS.size)
  obtain ⟨l2, hl2'⟩ : ∃ l, ys.length = l := ⟨_, rfl⟩
  rw [hl2'] at hl2 ⊢
  have hl2H := Lib.hid hl2'
  clear hl2' hb2
  refine hK.out _ _ (fun h => hS3) ?_
  clear hK K
  try simp only [Act.put, List.setIfInBounds_toArray, List.set_cons_zero, List.set_cons_succ]
  refine step_op 13 (by kernel_rfl) rfl (fun K hK => ?_)
  rw [if_pos (by rfl)]
  go_simp
  refine (hs2H.out _ hS3).mono ?_
  rintro e W4 ⟨zs, a3, c3, rfl, hr3, hl3, hb3⟩
  have hS4 := hS3.trans (hb3.mono hS3.size)
  have hr2' := hr2.later hb3
  obtain ⟨l3, hl3'⟩ : ∃ l, zs.length = l := ⟨_, rfl⟩
  rw [hl3'] at hl3 ⊢
  have hl3H := Lib.hid hl3'
  clear hl3' hb3 hr2
  refine hK.out _ _ (fun h => hS4) ?_
  clear hK K
  try simp only [Act.put, List.setIfInBounds_toArray, List.set_cons_zero, List.set_cons_succ]
  refine step_op 14 (by kernel_rfl) rfl (fun K hK => ?_)
  rw [if_pos (by rfl)]
  go_simp
  refine (atMost_any a2 a3 c2 c3 l2 l3 ys zs V1 V2 v hvH.out hl2H.out hl3H.out (by omega) _ hr2' hr3).mono ?_
  rintro e W5 ⟨rfl, hb4⟩
  have hS5 := hS4.trans (hb4.mono hS4.size)
  refine hK.out _ _ (fun h => hS5) ?_
  clear hK K
  try simp only [Act.put, List.setIfInBounds_toArray, List.set_cons_zero, List.set_cons_succ]
  refine take_op 15 (v := ?sv15) rfl (by kernel_rfl) (fun _ _ _ h => h) (by rfl) hS5 (fun w' hS' => ?sy15) ?sz15
  case sy15 =>
    go_simp
    rfl
  simp only [List.setIfInBounds_toArray, List.set_cons_zero, List.set_cons_succ]
  refine done_ops (by kernel_rfl) ?_
  go_wp2_with fail
  go_ret
  exact ⟨rfl, hB.trans (hS5.mono hB.size)⟩

/-- Whether a sequential test is valid. -/
def testB (p q num den : Int) : Bool := decide (1 ≤ p ∧ p < q ∧ q ≤ 255) && limB num den
theorem testB_no {p q num den : Int} (h : ¬ (1 ≤ p ∧ p < q ∧ q ≤ 255) ∨ limB num den = false) : testB p q num den = false := by
  unfold testB
  rcases h with h | h
  · rw [show decide (1 ≤ p ∧ p < q ∧ q ≤ 255) = false by simpa using h]; rfl
  · rw [h, Bool.and_false]
theorem testB_yes {p q num den : Int} (h1 : 1 ≤ p) (h2 : p < q) (h3 : q ≤ 255) : testB p q num den = limB num den := by
  unfold testB
  rw [show decide (1 ≤ p ∧ p < q ∧ q ≤ 255) = true by simp only [decide_eq_true_eq]; omega]; rfl
theorem testB_true {p q num den : Int} (h : testB p q num den = true) : (1 ≤ p ∧ p < q ∧ q ≤ 255) ∧ 0 < num ∧ num < den ∧ den ≤ 1073741824 := by
  unfold testB at h
  simp only [Bool.and_eq_true, decide_eq_true_eq] at h
  exact ⟨h.1, limB_true h.2⟩

theorem tk_two (lo hi p q : Int) (v : Bool) (hv : decide ((lo ≤ p ∧ p ≤ hi) ∧ lo ≤ q ∧ q ≤ hi) = v) (b c : Nat) (w : World) (t : TypeId) (h : Blk w b t #[.int .i64 p, .int .i64 q]) :
    Calls Tryz.prog 23 #[.int .i64 lo, .int .i64 hi, .slice (some ⟨b, 0, none⟩) 2 c] w fun e w' => e = .returned (.bool v) ∧ w = w' := by
  have hrd : Rd w.heap.size w (some ⟨b, 0, none⟩) [p, q] := .inr ⟨b, 0, rfl, h.lt, fun i hi => by
    have : i = 0 ∨ i = 1 := by simp at hi; omega
    rcases this with rfl | rfl
    · exact h.cell rfl
    · exact h.cell rfl⟩
  have := jwithin_any lo hi (some ⟨b, 0, none⟩) c [p, q] w (by simp) hrd
  rw [show allIn lo hi [p, q] = v by rw [← hv]; simp [allIn, Bool.and_assoc]] at this
  exact this
theorem tk_one (lo hi p : Int) (v : Bool) (hv : decide (lo ≤ p ∧ p ≤ hi) = v) (b c : Nat) (w : World) (t : TypeId) (h : Blk w b t #[.int .i64 p]) :
    Calls Tryz.prog 23 #[.int .i64 lo, .int .i64 hi, .slice (some ⟨b, 0, none⟩) 1 c] w fun e w' => e = .returned (.bool v) ∧ w = w' := by
  have hrd : Rd w.heap.size w (some ⟨b, 0, none⟩) [p] := .inr ⟨b, 0, rfl, h.lt, fun i hi => by
    have : i = 0 := by simp at hi; exact hi
    subst this
    exact h.cell rfl⟩
  have := jwithin_any lo hi (some ⟨b, 0, none⟩) c [p] w (by simp) hrd
  rw [show allIn lo hi [p] = v by rw [← hv]; simp [allIn]] at this
  exact this

set_option maxRecDepth 100000 in
set_option maxHeartbeats 2000000 in
theorem CheckTest_any (p q num den : Int) (hn : (Lit.int .i64 num).wf = true) (hd : (Lit.int .i64 den).wf = true) (v : Bool) (hv : testB p q num den = v) (w : World) :
    Calls Tryz.prog 32 #[tsv p q num den] w fun e w' => e = .returned (.int .i64 (if v = true then 0 else 81)) ∧ Below w.heap.size w w' := by
  have k1 := (Blk.new w 34 #[.int .i64 p, .int .i64 q, .int .i64 num, .int .i64 den]).alloc (.cells #[.int .i64 p, .int .i64 q] 3)
  have k2 := by simpa only [World.size_alloc] using Blk.new (w.alloc (.cells #[.int .i64 p, .int .i64 q, .int .i64 num, .int .i64 den] 34)) 3 #[.int .i64 p, .int .i64 q]
  have hB := jwd_al (jwd_al (Below.refl _ w) (.cells #[.int .i64 p, .int .i64 q, .int .i64 num, .int .i64 den] 34)) (.cells #[.int .i64 p, .int .i64 q] 3)
  by_cases hw : (1 ≤ p ∧ p ≤ 255) ∧ 1 ≤ q ∧ q ≤ 255
  case neg =>
    have hwc := tk_two 1 255 p q false (by simp only [decide_eq_false_iff_not]; exact hw) _ 2 _ _ k2
    have hvf : v = false := by rw [← hv]; exact testB_no (.inl (by omega))
    subst hvf
    have hwcH := Lib.hid hwc
    clear hv hwc hw hn hd k1 k2
    go_enter Tryz.func32, Tryz.ntmps32
    go_wp2_with (go_at_call 23; refine hwcH.out.mono ?_; rintro e w' ⟨rfl, rfl⟩)
    go_ret
    exact ⟨rfl, hB⟩
  have hwc := tk_two 1 255 p q true (by simp only [decide_eq_true_eq]; exact hw) _ 2 _ _ k2
  have hwcH := Lib.hid hwc
  clear hwc k2
  obtain ⟨W1, hW1⟩ : ∃ W, (w.alloc (.cells #[.int .i64 p, .int .i64 q, .int .i64 num, .int .i64 den] 34)).alloc (.cells #[.int .i64 p, .int .i64 q] 3) = W := ⟨_, rfl⟩
  rw [hW1] at k1 hB hwcH
  have hWH := Lib.hid hW1
  have c0 := k1.cell (i := 0) rfl
  have c1 := k1.cell (i := 1) rfl
  have c2 := k1.cell (i := 2) rfl
  have c3 := k1.cell (i := 3) rfl
  clear hW1
  by_cases hpq : q ≤ p
  · have hvf : v = false := by rw [← hv]; exact testB_no (.inl (by omega))
    subst hvf
    clear hv hw hn hd
    go_enter Tryz.func32, Tryz.ntmps32
    go_wp2_with (go_at_call 23; rw [hWH.out]; refine hwcH.out.mono ?_; rintro e w' ⟨rfl, rfl⟩)
    go_ret
    exact ⟨rfl, hB⟩
  rw [testB_yes (by omega) (by omega) (by omega)] at hv
  have hlc := fun W => limit_any num den hn hd W
  rw [hv] at hlc
  have hlcH := Lib.hid hlc
  clear hv hlc hn hd hw
  cases v with
  | true =>
    go_enter Tryz.func32, Tryz.ntmps32
    go_wp2_with (first
      | (go_at_call 23; rw [hWH.out]; refine hwcH.out.mono ?_; rintro e w' ⟨rfl, rfl⟩)
      | (go_at_call 24; refine (hlcH.out _).mono ?_; rintro e W2 ⟨rfl, hb2⟩; have hB2 := hB.trans (hb2.mono hB.size)))
    go_ret
    exact ⟨rfl, hB2⟩
  | false =>
    go_enter Tryz.func32, Tryz.ntmps32
    go_wp2_with (first
      | (go_at_call 23; rw [hWH.out]; refine hwcH.out.mono ?_; rintro e w' ⟨rfl, rfl⟩)
      | (go_at_call 24; refine (hlcH.out _).mono ?_; rintro e W2 ⟨rfl, hb2⟩; have hB2 := hB.trans (hb2.mono hB.size)))
    go_ret
    exact ⟨rfl, hB2⟩

abbrev drv (h r : Int) (a : Bool) : Value := .agg #[.int .i64 h, .int .i64 r, .bool a]
set_option maxHeartbeats 1000000 in
theorem Start_any (w : World) : Calls Tryz.prog 10 #[] w fun e w' => e = .returned (drv 0 0 false) ∧ Below w.heap.size w w' := by
  go_enter Tryz.func10, Tryz.ntmps10
  go_wp2_with fail
  exact bodyPost_ret (v := drv 0 0 false) (by simp [results, Tryz.results10, go_sem]) rfl ⟨rfl, jwd_al (Below.refl _ _) _⟩

/-- The state after one more round, or an error. -/
def takeS (p q num den h r : Int) (al hit : Bool) : (Int × Int × Bool) × Int :=
  if testB p q num den = false then ((0, 0, false), 81)
  else if ¬ ((0 ≤ r ∧ r ≤ 500) ∧ 0 ≤ h ∧ h ≤ r) then ((0, 0, false), 2)
  else if r = 500 then ((0, 0, false), 9)
  else ((if hit = true then h + 1 else h, r + 1, al || raiseB p.toNat q.toNat num.toNat den.toNat (if hit = true then h + 1 else h).toNat ((r + 1).toNat - (if hit = true then h + 1 else h).toNat)), 0)
abbrev tkv (x : (Int × Int × Bool) × Int) : Value := .tuple #[drv x.1.1 x.1.2.1 x.1.2.2, .int .i64 x.2]

set_option maxRecDepth 100000 in
set_option maxHeartbeats 4000000 in
theorem Take_any (p q num den h r : Int) (al hit : Bool) (hn : (Lit.int .i64 num).wf = true) (hd : (Lit.int .i64 den).wf = true) (w : World) :
    Calls Tryz.prog 11 #[tsv p q num den, drv h r al, .bool hit] w fun e w' => e = .returned (tkv (takeS p q num den h r al hit)) ∧ Below w.heap.size w w' := by
  have k3 := ((Blk.new w 34 #[.int .i64 p, .int .i64 q, .int .i64 num, .int .i64 den]).alloc (.cells #[.int .i64 h, .int .i64 r, .bool al] 38)).alloc (.cells #[.int .i64 0, .int .i64 0, .bool false] 38)
  have k4 := by simpa only [World.size_alloc] using (Blk.new (w.alloc (.cells #[.int .i64 p, .int .i64 q, .int .i64 num, .int .i64 den] 34)) 38 #[.int .i64 h, .int .i64 r, .bool al]).alloc (.cells #[.int .i64 0, .int .i64 0, .bool false] 38)
  have k6 := by simpa only [World.size_alloc] using Blk.new ((w.alloc (.cells #[.int .i64 p, .int .i64 q, .int .i64 num, .int .i64 den] 34)).alloc (.cells #[.int .i64 h, .int .i64 r, .bool al] 38)) 38 #[.int .i64 0, .int .i64 0, .bool false]
  have hB := jwd_al (jwd_al (jwd_al (Below.refl _ w) (.cells #[.int .i64 p, .int .i64 q, .int .i64 num, .int .i64 den] 34)) (.cells #[.int .i64 h, .int .i64 r, .bool al] 38)) (.cells #[.int .i64 0, .int .i64 0, .bool false] 38)
  obtain ⟨W1, hW1⟩ : ∃ W, ((w.alloc (.cells #[.int .i64 p, .int .i64 q, .int .i64 num, .int .i64 den] 34)).alloc (.cells #[.int .i64 h, .int .i64 r, .bool al] 38)).alloc (.cells #[.int .i64 0, .int .i64 0, .bool false] 38) = W := ⟨_, rfl⟩
  rw [hW1] at k3 k4 k6 hB
  have hWH := Lib.hid hW1
  have c30 := k3.cell (i := 0) rfl
  have c31 := k3.cell (i := 1) rfl
  have c32 := k3.cell (i := 2) rfl
  have c33 := k3.cell (i := 3) rfl
  obtain ⟨v, hv⟩ : ∃ v, testB p q num den = v := ⟨_, rfl⟩
  have hct := fun W => CheckTest_any p q num den hn hd v hv W
  have hctH := Lib.hid hct
  have hvH := Lib.hid hv
  clear hW1 hct hv hn hd
  cases v with
  | false =>
    have hres : takeS p q num den h r al hit = ((0, 0, false), 81) := by unfold takeS; rw [hvH.out]; rfl
    rw [hres]
    clear hres
    go_enter Tryz.func11, Tryz.ntmps11
    go_wp2_with (go_at_call 32; rw [hWH.out]; refine (hctH.out _).mono ?_; rintro e W2 ⟨rfl, hb2⟩; have hB2 := hB.trans (hb2.mono hB.size); have l3 := k3.below hb2 k3.lt; have l4 := k4.below hb2 k4.lt; have l6 := k6.below hb2 k6.lt; clear c30 c31 c32 c33 hb2; have c30 := l3.cell (i := 0) rfl; have c31 := l3.cell (i := 1) rfl; have c32 := l3.cell (i := 2) rfl; have c33 := l3.cell (i := 3) rfl; have c40 := l4.cell (i := 0) rfl; have c41 := l4.cell (i := 1) rfl; have c42 := l4.cell (i := 2) rfl; have c60 := l6.cell (i := 0) rfl; have c61 := l6.cell (i := 1) rfl; have c62 := l6.cell (i := 2) rfl; have f60 := l6.frozen 0; have f61 := l6.frozen 1; have f62 := l6.frozen 2; have f40 := l4.frozen 0; have f41 := l4.frozen 1; have f42 := l4.frozen 2; have s2 := l6.lt; have s4 := l4.lt; have s3 := l3.lt)
    exact bodyPost_ret (v := tkv ((0, 0, false), 81)) (by simp [results, Tryz.results11, go_sem, c60, c61, c62]) rfl ⟨rfl, by simpa using ((hB2.setCell (p := ⟨w.heap.size + 1 + 1, 0, none⟩) (by simp; omega) (.int .i64 0)).setCell (p := ⟨w.heap.size + 1 + 1, 1, none⟩) (by simp; omega) (.int .i64 0)).setCell (p := ⟨w.heap.size + 1 + 1, 2, none⟩) (by simp; omega) (.bool false)⟩
  | true =>
    by_cases hr5 : 0 ≤ r ∧ r ≤ 500
    case neg =>
      have hres : takeS p q num den h r al hit = ((0, 0, false), 2) := by unfold takeS; rw [hvH.out, if_neg (by decide), if_pos (by omega)]
      rw [hres]
      clear hres
      have hw1 := Lib.hid (fun W b k => tk_one 0 500 r false (by simp only [decide_eq_false_iff_not]; exact hr5) b 1 W 3 k)
      clear hr5
      go_enter Tryz.func11, Tryz.ntmps11
      go_wp2_with (first
        | (go_at_call 32; rw [hWH.out]; refine (hctH.out _).mono ?_; rintro e W2 ⟨rfl, hb2⟩; have hB2 := hB.trans (hb2.mono hB.size); have l3 := k3.below hb2 k3.lt; have l4 := k4.below hb2 k4.lt; have l6 := k6.below hb2 k6.lt; clear c30 c31 c32 c33 hb2; have c30 := l3.cell (i := 0) rfl; have c31 := l3.cell (i := 1) rfl; have c32 := l3.cell (i := 2) rfl; have c33 := l3.cell (i := 3) rfl; have c40 := l4.cell (i := 0) rfl; have c41 := l4.cell (i := 1) rfl; have c42 := l4.cell (i := 2) rfl; have c60 := l6.cell (i := 0) rfl; have c61 := l6.cell (i := 1) rfl; have c62 := l6.cell (i := 2) rfl; have f60 := l6.frozen 0; have f61 := l6.frozen 1; have f62 := l6.frozen 2; have f40 := l4.frozen 0; have f41 := l4.frozen 1; have f42 := l4.frozen 2; have s2 := l6.lt; have s4 := l4.lt; have s3 := l3.lt)
        | (go_at_call 23; refine (hw1.out _ _ (Blk.new _ _ _)).mono ?_; rintro e w' ⟨rfl, rfl⟩))
      have K := (((l6.set 0 (.int .i64 0)).set 1 (.int .i64 0)).set 2 (.bool false)).alloc (.cells #[.int .i64 r] 3)
      have L := jwd_al (((hB2.setCell (p := ⟨w.heap.size + 1 + 1, 0, none⟩) (by simp; omega) (.int .i64 0)).setCell (p := ⟨w.heap.size + 1 + 1, 1, none⟩) (by simp; omega) (.int .i64 0)).setCell (p := ⟨w.heap.size + 1 + 1, 2, none⟩) (by simp; omega) (.bool false)) (.cells #[.int .i64 r] 3)
      clear c60 c61 c62 f60 f61 f62 f40 f41 f42 c40 c41 c42
      revert K L
      generalize (((W2.setCell ⟨w.heap.size + 1 + 1, 0, none⟩ (.int .i64 0)).setCell ⟨w.heap.size + 1 + 1, 1, none⟩ (.int .i64 0)).setCell ⟨w.heap.size + 1 + 1, 2, none⟩ (.bool false)).alloc (.cells #[.int .i64 r] 3) = Vf
      intro K L
      have g0 := K.cell (i := 0) rfl
      have g1 := K.cell (i := 1) rfl
      have g2 := K.cell (i := 2) rfl
      exact bodyPost_ret (v := tkv ((0, 0, false), 2)) (by simp [results, Tryz.results11, go_sem, g0, g1, g2]) rfl ⟨rfl, L⟩
    have tok1 : True := trivial
    have hw1 := Lib.hid (fun W b k => tk_one 0 500 r true (by simp only [decide_eq_true_eq]; exact hr5) b 1 W 3 k)
    by_cases hh5 : 0 ≤ h ∧ h ≤ r
    case neg =>
      have hres : takeS p q num den h r al hit = ((0, 0, false), 2) := by unfold takeS; rw [hvH.out, if_neg (by decide), if_pos (by omega)]
      rw [hres]
      clear hres
      have hw2 := Lib.hid (fun W b k => tk_one 0 r h false (by simp only [decide_eq_false_iff_not]; exact hh5) b 1 W 3 k)
      clear hr5 hh5
      go_enter Tryz.func11, Tryz.ntmps11
      go_wp2_with (first
        | (go_at_call 32; rw [hWH.out]; refine (hctH.out _).mono ?_; rintro e W2 ⟨rfl, hb2⟩; have hB2 := hB.trans (hb2.mono hB.size); have l3 := k3.below hb2 k3.lt; have l4 := k4.below hb2 k4.lt; have l6 := k6.below hb2 k6.lt; clear c30 c31 c32 c33 hb2; have c30 := l3.cell (i := 0) rfl; have c31 := l3.cell (i := 1) rfl; have c32 := l3.cell (i := 2) rfl; have c33 := l3.cell (i := 3) rfl; have c40 := l4.cell (i := 0) rfl; have c41 := l4.cell (i := 1) rfl; have c42 := l4.cell (i := 2) rfl; have c60 := l6.cell (i := 0) rfl; have c61 := l6.cell (i := 1) rfl; have c62 := l6.cell (i := 2) rfl; have f60 := l6.frozen 0; have f61 := l6.frozen 1; have f62 := l6.frozen 2; have f40 := l4.frozen 0; have f41 := l4.frozen 1; have f42 := l4.frozen 2; have s2 := l6.lt; have s4 := l4.lt; have s3 := l3.lt)
        | (go_at_call 23; first | (have _t := tok1; refine (hw1.out _ _ (Blk.new _ _ _)).mono ?_; clear _t tok1; rintro e w' ⟨rfl, rfl⟩; have kz := by simpa only [World.size_alloc] using Blk.new (W2.alloc (.cells #[.int .i64 r] 3)) 3 #[.int .i64 h]) | (refine (hw2.out _ _ kz).mono ?_; rintro e w' ⟨rfl, rfl⟩; clear kz)))
      have K := ((((l6.set 0 (.int .i64 0)).set 1 (.int .i64 0)).set 2 (.bool false)).alloc (.cells #[.int .i64 r] 3)).alloc (.cells #[.int .i64 h] 3)
      have L := jwd_al (jwd_al (((hB2.setCell (p := ⟨w.heap.size + 1 + 1, 0, none⟩) (by simp; omega) (.int .i64 0)).setCell (p := ⟨w.heap.size + 1 + 1, 1, none⟩) (by simp; omega) (.int .i64 0)).setCell (p := ⟨w.heap.size + 1 + 1, 2, none⟩) (by simp; omega) (.bool false)) (.cells #[.int .i64 r] 3)) (.cells #[.int .i64 h] 3)
      clear c60 c61 c62 f60 f61 f62 f40 f41 f42 c40 c41 c42
      revert K L
      generalize ((((W2.setCell ⟨w.heap.size + 1 + 1, 0, none⟩ (.int .i64 0)).setCell ⟨w.heap.size + 1 + 1, 1, none⟩ (.int .i64 0)).setCell ⟨w.heap.size + 1 + 1, 2, none⟩ (.bool false)).alloc (.cells #[.int .i64 r] 3)).alloc (.cells #[.int .i64 h] 3) = Vf
      intro K L
      have g0 := K.cell (i := 0) rfl
      have g1 := K.cell (i := 1) rfl
      have g2 := K.cell (i := 2) rfl
      exact bodyPost_ret (v := tkv ((0, 0, false), 2)) (by simp [results, Tryz.results11, go_sem, g0, g1, g2]) rfl ⟨rfl, L⟩
    have hw2 := Lib.hid (fun W b k => tk_one 0 r h true (by simp only [decide_eq_true_eq]; exact hh5) b 1 W 3 k)
    by_cases hrm : r = 500
    · have hres : takeS p q num den h r al hit = ((0, 0, false), 9) := by unfold takeS; rw [hvH.out, if_neg (by decide), if_neg (by omega), if_pos hrm]
      rw [hres]
      subst hrm
      clear hres hr5 hh5
      go_enter Tryz.func11, Tryz.ntmps11
      go_wp2_with (first
        | (go_at_call 32; rw [hWH.out]; refine (hctH.out _).mono ?_; rintro e W2 ⟨rfl, hb2⟩; have hB2 := hB.trans (hb2.mono hB.size); have l3 := k3.below hb2 k3.lt; have l4 := k4.below hb2 k4.lt; have l6 := k6.below hb2 k6.lt; clear c30 c31 c32 c33 hb2; have c30 := l3.cell (i := 0) rfl; have c31 := l3.cell (i := 1) rfl; have c32 := l3.cell (i := 2) rfl; have c33 := l3.cell (i := 3) rfl; have c40 := l4.cell (i := 0) rfl; have c41 := l4.cell (i := 1) rfl; have c42 := l4.cell (i := 2) rfl; have c60 := l6.cell (i := 0) rfl; have c61 := l6.cell (i := 1) rfl; have c62 := l6.cell (i := 2) rfl; have f60 := l6.frozen 0; have f61 := l6.frozen 1; have f62 := l6.frozen 2; have f40 := l4.frozen 0; have f41 := l4.frozen 1; have f42 := l4.frozen 2; have s2 := l6.lt; have s4 := l4.lt; have s3 := l3.lt)
        | (go_at_call 23; first | (have _t := tok1; refine (hw1.out _ _ (Blk.new _ _ _)).mono ?_; clear _t tok1; rintro e w' ⟨rfl, rfl⟩; have kz := by simpa only [World.size_alloc] using Blk.new (W2.alloc (.cells #[.int .i64 500] 3)) 3 #[.int .i64 h]) | (refine (hw2.out _ _ kz).mono ?_; rintro e w' ⟨rfl, rfl⟩; clear kz)))
      have K := ((((l6.set 0 (.int .i64 0)).set 1 (.int .i64 0)).set 2 (.bool false)).alloc (.cells #[.int .i64 500] 3)).alloc (.cells #[.int .i64 h] 3)
      have L := jwd_al (jwd_al (((hB2.setCell (p := ⟨w.heap.size + 1 + 1, 0, none⟩) (by simp; omega) (.int .i64 0)).setCell (p := ⟨w.heap.size + 1 + 1, 1, none⟩) (by simp; omega) (.int .i64 0)).setCell (p := ⟨w.heap.size + 1 + 1, 2, none⟩) (by simp; omega) (.bool false)) (.cells #[.int .i64 500] 3)) (.cells #[.int .i64 h] 3)
      clear c60 c61 c62 f60 f61 f62 f40 f41 f42 c40 c41 c42
      revert K L
      generalize ((((W2.setCell ⟨w.heap.size + 1 + 1, 0, none⟩ (.int .i64 0)).setCell ⟨w.heap.size + 1 + 1, 1, none⟩ (.int .i64 0)).setCell ⟨w.heap.size + 1 + 1, 2, none⟩ (.bool false)).alloc (.cells #[.int .i64 500] 3)).alloc (.cells #[.int .i64 h] 3) = Vf
      intro K L
      have g0 := K.cell (i := 0) rfl
      have g1 := K.cell (i := 1) rfl
      have g2 := K.cell (i := 2) rfl
      exact bodyPost_ret (v := tkv ((0, 0, false), 9)) (by simp [results, Tryz.results11, go_sem, g0, g1, g2]) rfl ⟨rfl, L⟩
    obtain ⟨⟨tp1, tp2, tp3⟩, tn1, tn2, tn3⟩ := testB_true hvH.out
    obtain ⟨P, rfl⟩ := Int.eq_ofNat_of_zero_le (show 0 ≤ p by omega)
    obtain ⟨Q, rfl⟩ := Int.eq_ofNat_of_zero_le (show 0 ≤ q by omega)
    obtain ⟨A, rfl⟩ := Int.eq_ofNat_of_zero_le (show 0 ≤ num by omega)
    obtain ⟨D, rfl⟩ := Int.eq_ofNat_of_zero_le (show 0 ≤ den by omega)
    obtain ⟨H, rfl⟩ := Int.eq_ofNat_of_zero_le (show 0 ≤ h by omega)
    obtain ⟨R, rfl⟩ := Int.eq_ofNat_of_zero_le (show 0 ≤ r by omega)
    have hR : R < 500 := by omega
    have hHR : H ≤ R := by omega
    obtain ⟨h2, hh2⟩ : ∃ x : Nat, (if hit = true then H + 1 else H) = x := ⟨_, rfl⟩
    have hh2b : h2 ≤ R + 1 := by rw [← hh2]; split <;> omega
    obtain ⟨v2, hv2⟩ : ∃ v, raiseB P Q A D h2 (R + 1 - h2) = v := ⟨_, rfl⟩
    have hh2i : (if hit = true then (H : Int) + 1 else (H : Int)) = (h2 : Int) := by rw [← hh2]; split <;> simp
    have hres : takeS P Q A D H R al hit = (((h2 : Int), (R : Int) + 1, al || v2), 0) := by
      unfold takeS
      rw [hvH.out, if_neg (by decide), if_neg (by omega), if_neg hrm, hh2i]
      simp only [Int.toNat_natCast, show ((R : Int) + 1).toNat = R + 1 by omega, hv2]
    rw [hres]
    have hrs := fun W => raises_any P Q A D h2 (R + 1) (by omega) (by omega) (by omega) (by omega) (by omega) (by omega) hh2b (by omega) v2 hv2 W
    have hrsH := Lib.hid hrs
    have hrm2 : ((R : Int) == 500) = false := by simp; omega
    clear hres hrs hv2 hh2b tp1 tp2 tp3 tn1 tn2 tn3 hr5 hh5 hvH hh2i
    by_cases hx : hit = true ∧ al = true
    · obtain ⟨rfl, rfl⟩ := hx
      obtain rfl : H + 1 = h2 := hh2
      go_enter Tryz.func11, Tryz.ntmps11
      go_wp2_with (first
        | (go_at_call 32; rw [hWH.out]; refine (hctH.out _).mono ?_; rintro e W2 ⟨rfl, hb2⟩; have hB2 := hB.trans (hb2.mono hB.size); have l3 := k3.below hb2 k3.lt; have l4 := k4.below hb2 k4.lt; have l6 := k6.below hb2 k6.lt; clear c30 c31 c32 c33 hb2; have c30 := l3.cell (i := 0) rfl; have c31 := l3.cell (i := 1) rfl; have c32 := l3.cell (i := 2) rfl; have c33 := l3.cell (i := 3) rfl; have c40 := l4.cell (i := 0) rfl; have c41 := l4.cell (i := 1) rfl; have c42 := l4.cell (i := 2) rfl; have c60 := l6.cell (i := 0) rfl; have c61 := l6.cell (i := 1) rfl; have c62 := l6.cell (i := 2) rfl; have f60 := l6.frozen 0; have f61 := l6.frozen 1; have f62 := l6.frozen 2; have f40 := l4.frozen 0; have f41 := l4.frozen 1; have f42 := l4.frozen 2; have s2 := l6.lt; have s4 := l4.lt; have s3 := l3.lt)
        | (go_at_call 23; first | (have _t := tok1; refine (hw1.out _ _ (Blk.new _ _ _)).mono ?_; clear _t tok1; rintro e w' ⟨rfl, rfl⟩; have kz := by simpa only [World.size_alloc] using Blk.new (W2.alloc (.cells #[.int .i64 (R : Int)] 3)) 3 #[.int .i64 (H : Int)]) | (refine (hw2.out _ _ kz).mono ?_; rintro e w' ⟨rfl, rfl⟩; clear kz))
        | (go_at_call 33; have K4 := ((((l4).set 1 (.int .i64 ((R : Int) + 1))).set 0 (.int .i64 ((H : Int) + 1))).alloc (.cells #[.int .i64 (R : Int)] 3)).alloc (.cells #[.int .i64 (H : Int)] 3); have K6 := ((((l6).other (a := ⟨w.heap.size + 1, 1, none⟩) (by simp <;> omega) (.int .i64 ((R : Int) + 1))).other (a := ⟨w.heap.size + 1, 0, none⟩) (by simp <;> omega) (.int .i64 ((H : Int) + 1))).alloc (.cells #[.int .i64 (R : Int)] 3)).alloc (.cells #[.int .i64 (H : Int)] 3); have L := jwd_al (jwd_al (((hB2).setCell (p := ⟨w.heap.size + 1, 1, none⟩) (by simp) (.int .i64 ((R : Int) + 1))).setCell (p := ⟨w.heap.size + 1, 0, none⟩) (by simp) (.int .i64 ((H : Int) + 1))) (.cells #[.int .i64 (R : Int)] 3)) (.cells #[.int .i64 (H : Int)] 3); refine (hrs2H.out _).mono ?_; rintro e W3 ⟨rfl, hb3⟩; have m4 := K4.below hb3 K4.lt; have m6 := K6.below hb3 K6.lt; have L3 := L.trans (hb3.mono L.size); clear hb3 K4 K6 L c30 c31 c32 c33 c40 c41 c42 c60 c61 c62 f60 f61 f62 f40 f41 f42 l3 l4 l6; have c40 := m4.cell (i := 0) rfl; have c41 := m4.cell (i := 1) rfl; have c42 := m4.cell (i := 2) rfl; have c60 := m6.cell (i := 0) rfl; have c61 := m6.cell (i := 1) rfl; have c62 := m6.cell (i := 2) rfl; have f60 := m6.frozen 0; have f61 := m6.frozen 1; have f62 := m6.frozen 2; have f42 := m4.frozen 2))
      have K := ((((((((l6).other (a := ⟨w.heap.size + 1, 1, none⟩) (by simp <;> omega) (.int .i64 ((R : Int) + 1))).other (a := ⟨w.heap.size + 1, 0, none⟩) (by simp <;> omega) (.int .i64 ((H : Int) + 1))).other (a := ⟨w.heap.size + 1, 2, none⟩) (by simp <;> omega) (.bool true)).set 0 (.int .i64 ((H : Int) + 1))).set 1 (.int .i64 ((R : Int) + 1))).set 2 (.bool true)).alloc (.cells #[.int .i64 (R : Int)] 3)).alloc (.cells #[.int .i64 (H : Int)] 3)
      have L := jwd_al (jwd_al (((((((hB2).setCell (p := ⟨w.heap.size + 1, 1, none⟩) (by simp) (.int .i64 ((R : Int) + 1))).setCell (p := ⟨w.heap.size + 1, 0, none⟩) (by simp) (.int .i64 ((H : Int) + 1))).setCell (p := ⟨w.heap.size + 1, 2, none⟩) (by simp) (.bool true)).setCell (p := ⟨w.heap.size + 1 + 1, 0, none⟩) (by simp; omega) (.int .i64 ((H : Int) + 1))).setCell (p := ⟨w.heap.size + 1 + 1, 1, none⟩) (by simp; omega) (.int .i64 ((R : Int) + 1))).setCell (p := ⟨w.heap.size + 1 + 1, 2, none⟩) (by simp; omega) (.bool true)) (.cells #[.int .i64 (R : Int)] 3)) (.cells #[.int .i64 (H : Int)] 3)
      clear c60 c61 c62 f60 f61 f62 c40 c41 c42 f42
      revert K L
      generalize (((((((W2.setCell ⟨w.heap.size + 1, 1, none⟩ (.int .i64 ((R : Int) + 1))).setCell ⟨w.heap.size + 1, 0, none⟩ (.int .i64 ((H : Int) + 1))).setCell ⟨w.heap.size + 1, 2, none⟩ (.bool true)).setCell ⟨w.heap.size + 1 + 1, 0, none⟩ (.int .i64 ((H : Int) + 1))).setCell ⟨w.heap.size + 1 + 1, 1, none⟩ (.int .i64 ((R : Int) + 1))).setCell ⟨w.heap.size + 1 + 1, 2, none⟩ (.bool true)).alloc (.cells #[.int .i64 (R : Int)] 3)).alloc (.cells #[.int .i64 (H : Int)] 3) = Vf
      intro K L
      have g0 := K.cell (i := 0) (v := (.int .i64 ((H : Int) + 1))) (by simp)
      have g1 := K.cell (i := 1) (v := (.int .i64 ((R : Int) + 1))) (by simp)
      have g2 := K.cell (i := 2) (v := (.bool true)) (by simp)
      exact bodyPost_ret (v := tkv ((((H : Int) + 1), (R : Int) + 1, true), 0)) (by simp [results, Tryz.results11, go_sem, g0, g1, g2]) rfl ⟨by simp, L⟩
    by_cases hx : hit = true ∧ al = false
    · obtain ⟨rfl, rfl⟩ := hx
      obtain rfl : H + 1 = h2 := hh2
      have hrs2 : ∀ W, Calls Tryz.prog 33 #[tsv P Q A D, .int .i64 ((H : Int) + 1), .int .i64 ((R : Int) + 1)] W fun e w' => e = .returned (.bool v2) ∧ Below W.heap.size W w' := fun W => by
        have := hrsH.out W
        push_cast at this
        exact this
      have hrs2H := Lib.hid hrs2
      clear hrs2 hrsH
      go_enter Tryz.func11, Tryz.ntmps11
      go_wp2_with (first
        | (go_at_call 32; rw [hWH.out]; refine (hctH.out _).mono ?_; rintro e W2 ⟨rfl, hb2⟩; have hB2 := hB.trans (hb2.mono hB.size); have l3 := k3.below hb2 k3.lt; have l4 := k4.below hb2 k4.lt; have l6 := k6.below hb2 k6.lt; clear c30 c31 c32 c33 hb2; have c30 := l3.cell (i := 0) rfl; have c31 := l3.cell (i := 1) rfl; have c32 := l3.cell (i := 2) rfl; have c33 := l3.cell (i := 3) rfl; have c40 := l4.cell (i := 0) rfl; have c41 := l4.cell (i := 1) rfl; have c42 := l4.cell (i := 2) rfl; have c60 := l6.cell (i := 0) rfl; have c61 := l6.cell (i := 1) rfl; have c62 := l6.cell (i := 2) rfl; have f60 := l6.frozen 0; have f61 := l6.frozen 1; have f62 := l6.frozen 2; have f40 := l4.frozen 0; have f41 := l4.frozen 1; have f42 := l4.frozen 2; have s2 := l6.lt; have s4 := l4.lt; have s3 := l3.lt)
        | (go_at_call 23; first | (have _t := tok1; refine (hw1.out _ _ (Blk.new _ _ _)).mono ?_; clear _t tok1; rintro e w' ⟨rfl, rfl⟩; have kz := by simpa only [World.size_alloc] using Blk.new (W2.alloc (.cells #[.int .i64 (R : Int)] 3)) 3 #[.int .i64 (H : Int)]) | (refine (hw2.out _ _ kz).mono ?_; rintro e w' ⟨rfl, rfl⟩; clear kz))
        | (go_at_call 33; have K4 := ((((l4).set 1 (.int .i64 ((R : Int) + 1))).set 0 (.int .i64 ((H : Int) + 1))).alloc (.cells #[.int .i64 (R : Int)] 3)).alloc (.cells #[.int .i64 (H : Int)] 3); have K6 := ((((l6).other (a := ⟨w.heap.size + 1, 1, none⟩) (by simp <;> omega) (.int .i64 ((R : Int) + 1))).other (a := ⟨w.heap.size + 1, 0, none⟩) (by simp <;> omega) (.int .i64 ((H : Int) + 1))).alloc (.cells #[.int .i64 (R : Int)] 3)).alloc (.cells #[.int .i64 (H : Int)] 3); have L := jwd_al (jwd_al (((hB2).setCell (p := ⟨w.heap.size + 1, 1, none⟩) (by simp) (.int .i64 ((R : Int) + 1))).setCell (p := ⟨w.heap.size + 1, 0, none⟩) (by simp) (.int .i64 ((H : Int) + 1))) (.cells #[.int .i64 (R : Int)] 3)) (.cells #[.int .i64 (H : Int)] 3); refine (hrs2H.out _).mono ?_; rintro e W3 ⟨rfl, hb3⟩; have m4 := K4.below hb3 K4.lt; have m6 := K6.below hb3 K6.lt; have L3 := L.trans (hb3.mono L.size); clear hb3 K4 K6 L c30 c31 c32 c33 c40 c41 c42 c60 c61 c62 f60 f61 f62 f40 f41 f42 l3 l4 l6; have c40 := m4.cell (i := 0) rfl; have c41 := m4.cell (i := 1) rfl; have c42 := m4.cell (i := 2) rfl; have c60 := m6.cell (i := 0) rfl; have c61 := m6.cell (i := 1) rfl; have c62 := m6.cell (i := 2) rfl; have f60 := m6.frozen 0; have f61 := m6.frozen 1; have f62 := m6.frozen 2; have f42 := m4.frozen 2))
      have K := ((((m6).other (a := ⟨w.heap.size + 1, 2, none⟩) (by simp <;> omega) (.bool v2)).set 0 (.int .i64 ((H : Int) + 1))).set 1 (.int .i64 ((R : Int) + 1))).set 2 (.bool v2)
      have L := ((((L3).setCell (p := ⟨w.heap.size + 1, 2, none⟩) (by simp) (.bool v2)).setCell (p := ⟨w.heap.size + 1 + 1, 0, none⟩) (by simp; omega) (.int .i64 ((H : Int) + 1))).setCell (p := ⟨w.heap.size + 1 + 1, 1, none⟩) (by simp; omega) (.int .i64 ((R : Int) + 1))).setCell (p := ⟨w.heap.size + 1 + 1, 2, none⟩) (by simp; omega) (.bool v2)
      clear c60 c61 c62 f60 f61 f62 c40 c41 c42 f42
      revert K L
      generalize (((W3.setCell ⟨w.heap.size + 1, 2, none⟩ (.bool v2)).setCell ⟨w.heap.size + 1 + 1, 0, none⟩ (.int .i64 ((H : Int) + 1))).setCell ⟨w.heap.size + 1 + 1, 1, none⟩ (.int .i64 ((R : Int) + 1))).setCell ⟨w.heap.size + 1 + 1, 2, none⟩ (.bool v2) = Vf
      intro K L
      have g0 := K.cell (i := 0) (v := (.int .i64 ((H : Int) + 1))) (by simp)
      have g1 := K.cell (i := 1) (v := (.int .i64 ((R : Int) + 1))) (by simp)
      have g2 := K.cell (i := 2) (v := (.bool v2)) (by simp)
      exact bodyPost_ret (v := tkv ((((H : Int) + 1), (R : Int) + 1, v2), 0)) (by simp [results, Tryz.results11, go_sem, g0, g1, g2]) rfl ⟨by simp, L⟩
    by_cases hx : hit = false ∧ al = true
    · obtain ⟨rfl, rfl⟩ := hx
      obtain rfl : H = h2 := hh2
      go_enter Tryz.func11, Tryz.ntmps11
      go_wp2_with (first
        | (go_at_call 32; rw [hWH.out]; refine (hctH.out _).mono ?_; rintro e W2 ⟨rfl, hb2⟩; have hB2 := hB.trans (hb2.mono hB.size); have l3 := k3.below hb2 k3.lt; have l4 := k4.below hb2 k4.lt; have l6 := k6.below hb2 k6.lt; clear c30 c31 c32 c33 hb2; have c30 := l3.cell (i := 0) rfl; have c31 := l3.cell (i := 1) rfl; have c32 := l3.cell (i := 2) rfl; have c33 := l3.cell (i := 3) rfl; have c40 := l4.cell (i := 0) rfl; have c41 := l4.cell (i := 1) rfl; have c42 := l4.cell (i := 2) rfl; have c60 := l6.cell (i := 0) rfl; have c61 := l6.cell (i := 1) rfl; have c62 := l6.cell (i := 2) rfl; have f60 := l6.frozen 0; have f61 := l6.frozen 1; have f62 := l6.frozen 2; have f40 := l4.frozen 0; have f41 := l4.frozen 1; have f42 := l4.frozen 2; have s2 := l6.lt; have s4 := l4.lt; have s3 := l3.lt)
        | (go_at_call 23; first | (have _t := tok1; refine (hw1.out _ _ (Blk.new _ _ _)).mono ?_; clear _t tok1; rintro e w' ⟨rfl, rfl⟩; have kz := by simpa only [World.size_alloc] using Blk.new (W2.alloc (.cells #[.int .i64 (R : Int)] 3)) 3 #[.int .i64 (H : Int)]) | (refine (hw2.out _ _ kz).mono ?_; rintro e w' ⟨rfl, rfl⟩; clear kz))
        | (go_at_call 33; have K4 := (((l4).set 1 (.int .i64 ((R : Int) + 1))).alloc (.cells #[.int .i64 (R : Int)] 3)).alloc (.cells #[.int .i64 (H : Int)] 3); have K6 := (((l6).other (a := ⟨w.heap.size + 1, 1, none⟩) (by simp <;> omega) (.int .i64 ((R : Int) + 1))).alloc (.cells #[.int .i64 (R : Int)] 3)).alloc (.cells #[.int .i64 (H : Int)] 3); have L := jwd_al (jwd_al ((hB2).setCell (p := ⟨w.heap.size + 1, 1, none⟩) (by simp) (.int .i64 ((R : Int) + 1))) (.cells #[.int .i64 (R : Int)] 3)) (.cells #[.int .i64 (H : Int)] 3); refine (hrs2H.out _).mono ?_; rintro e W3 ⟨rfl, hb3⟩; have m4 := K4.below hb3 K4.lt; have m6 := K6.below hb3 K6.lt; have L3 := L.trans (hb3.mono L.size); clear hb3 K4 K6 L c30 c31 c32 c33 c40 c41 c42 c60 c61 c62 f60 f61 f62 f40 f41 f42 l3 l4 l6; have c40 := m4.cell (i := 0) rfl; have c41 := m4.cell (i := 1) rfl; have c42 := m4.cell (i := 2) rfl; have c60 := m6.cell (i := 0) rfl; have c61 := m6.cell (i := 1) rfl; have c62 := m6.cell (i := 2) rfl; have f60 := m6.frozen 0; have f61 := m6.frozen 1; have f62 := m6.frozen 2; have f42 := m4.frozen 2))
      have K := (((((((l6).other (a := ⟨w.heap.size + 1, 1, none⟩) (by simp <;> omega) (.int .i64 ((R : Int) + 1))).other (a := ⟨w.heap.size + 1, 2, none⟩) (by simp <;> omega) (.bool true)).set 0 (.int .i64 (H : Int))).set 1 (.int .i64 ((R : Int) + 1))).set 2 (.bool true)).alloc (.cells #[.int .i64 (R : Int)] 3)).alloc (.cells #[.int .i64 (H : Int)] 3)
      have L := jwd_al (jwd_al ((((((hB2).setCell (p := ⟨w.heap.size + 1, 1, none⟩) (by simp) (.int .i64 ((R : Int) + 1))).setCell (p := ⟨w.heap.size + 1, 2, none⟩) (by simp) (.bool true)).setCell (p := ⟨w.heap.size + 1 + 1, 0, none⟩) (by simp; omega) (.int .i64 (H : Int))).setCell (p := ⟨w.heap.size + 1 + 1, 1, none⟩) (by simp; omega) (.int .i64 ((R : Int) + 1))).setCell (p := ⟨w.heap.size + 1 + 1, 2, none⟩) (by simp; omega) (.bool true)) (.cells #[.int .i64 (R : Int)] 3)) (.cells #[.int .i64 (H : Int)] 3)
      clear c60 c61 c62 f60 f61 f62 c40 c41 c42 f42
      revert K L
      generalize ((((((W2.setCell ⟨w.heap.size + 1, 1, none⟩ (.int .i64 ((R : Int) + 1))).setCell ⟨w.heap.size + 1, 2, none⟩ (.bool true)).setCell ⟨w.heap.size + 1 + 1, 0, none⟩ (.int .i64 (H : Int))).setCell ⟨w.heap.size + 1 + 1, 1, none⟩ (.int .i64 ((R : Int) + 1))).setCell ⟨w.heap.size + 1 + 1, 2, none⟩ (.bool true)).alloc (.cells #[.int .i64 (R : Int)] 3)).alloc (.cells #[.int .i64 (H : Int)] 3) = Vf
      intro K L
      have g0 := K.cell (i := 0) (v := (.int .i64 (H : Int))) (by simp)
      have g1 := K.cell (i := 1) (v := (.int .i64 ((R : Int) + 1))) (by simp)
      have g2 := K.cell (i := 2) (v := (.bool true)) (by simp)
      exact bodyPost_ret (v := tkv (((H : Int), (R : Int) + 1, true), 0)) (by simp [results, Tryz.results11, go_sem, g0, g1, g2]) rfl ⟨by simp, L⟩
    by_cases hx : hit = false ∧ al = false
    · obtain ⟨rfl, rfl⟩ := hx
      obtain rfl : H = h2 := hh2
      have hrs2 : ∀ W, Calls Tryz.prog 33 #[tsv P Q A D, .int .i64 (H : Int), .int .i64 ((R : Int) + 1)] W fun e w' => e = .returned (.bool v2) ∧ Below W.heap.size W w' := fun W => by
        have := hrsH.out W
        push_cast at this
        exact this
      have hrs2H := Lib.hid hrs2
      clear hrs2 hrsH
      go_enter Tryz.func11, Tryz.ntmps11
      go_wp2_with (first
        | (go_at_call 32; rw [hWH.out]; refine (hctH.out _).mono ?_; rintro e W2 ⟨rfl, hb2⟩; have hB2 := hB.trans (hb2.mono hB.size); have l3 := k3.below hb2 k3.lt; have l4 := k4.below hb2 k4.lt; have l6 := k6.below hb2 k6.lt; clear c30 c31 c32 c33 hb2; have c30 := l3.cell (i := 0) rfl; have c31 := l3.cell (i := 1) rfl; have c32 := l3.cell (i := 2) rfl; have c33 := l3.cell (i := 3) rfl; have c40 := l4.cell (i := 0) rfl; have c41 := l4.cell (i := 1) rfl; have c42 := l4.cell (i := 2) rfl; have c60 := l6.cell (i := 0) rfl; have c61 := l6.cell (i := 1) rfl; have c62 := l6.cell (i := 2) rfl; have f60 := l6.frozen 0; have f61 := l6.frozen 1; have f62 := l6.frozen 2; have f40 := l4.frozen 0; have f41 := l4.frozen 1; have f42 := l4.frozen 2; have s2 := l6.lt; have s4 := l4.lt; have s3 := l3.lt)
        | (go_at_call 23; first | (have _t := tok1; refine (hw1.out _ _ (Blk.new _ _ _)).mono ?_; clear _t tok1; rintro e w' ⟨rfl, rfl⟩; have kz := by simpa only [World.size_alloc] using Blk.new (W2.alloc (.cells #[.int .i64 (R : Int)] 3)) 3 #[.int .i64 (H : Int)]) | (refine (hw2.out _ _ kz).mono ?_; rintro e w' ⟨rfl, rfl⟩; clear kz))
        | (go_at_call 33; have K4 := (((l4).set 1 (.int .i64 ((R : Int) + 1))).alloc (.cells #[.int .i64 (R : Int)] 3)).alloc (.cells #[.int .i64 (H : Int)] 3); have K6 := (((l6).other (a := ⟨w.heap.size + 1, 1, none⟩) (by simp <;> omega) (.int .i64 ((R : Int) + 1))).alloc (.cells #[.int .i64 (R : Int)] 3)).alloc (.cells #[.int .i64 (H : Int)] 3); have L := jwd_al (jwd_al ((hB2).setCell (p := ⟨w.heap.size + 1, 1, none⟩) (by simp) (.int .i64 ((R : Int) + 1))) (.cells #[.int .i64 (R : Int)] 3)) (.cells #[.int .i64 (H : Int)] 3); refine (hrs2H.out _).mono ?_; rintro e W3 ⟨rfl, hb3⟩; have m4 := K4.below hb3 K4.lt; have m6 := K6.below hb3 K6.lt; have L3 := L.trans (hb3.mono L.size); clear hb3 K4 K6 L c30 c31 c32 c33 c40 c41 c42 c60 c61 c62 f60 f61 f62 f40 f41 f42 l3 l4 l6; have c40 := m4.cell (i := 0) rfl; have c41 := m4.cell (i := 1) rfl; have c42 := m4.cell (i := 2) rfl; have c60 := m6.cell (i := 0) rfl; have c61 := m6.cell (i := 1) rfl; have c62 := m6.cell (i := 2) rfl; have f60 := m6.frozen 0; have f61 := m6.frozen 1; have f62 := m6.frozen 2; have f42 := m4.frozen 2))
      have K := ((((m6).other (a := ⟨w.heap.size + 1, 2, none⟩) (by simp <;> omega) (.bool v2)).set 0 (.int .i64 (H : Int))).set 1 (.int .i64 ((R : Int) + 1))).set 2 (.bool v2)
      have L := ((((L3).setCell (p := ⟨w.heap.size + 1, 2, none⟩) (by simp) (.bool v2)).setCell (p := ⟨w.heap.size + 1 + 1, 0, none⟩) (by simp; omega) (.int .i64 (H : Int))).setCell (p := ⟨w.heap.size + 1 + 1, 1, none⟩) (by simp; omega) (.int .i64 ((R : Int) + 1))).setCell (p := ⟨w.heap.size + 1 + 1, 2, none⟩) (by simp; omega) (.bool v2)
      clear c60 c61 c62 f60 f61 f62 c40 c41 c42 f42
      revert K L
      generalize (((W3.setCell ⟨w.heap.size + 1, 2, none⟩ (.bool v2)).setCell ⟨w.heap.size + 1 + 1, 0, none⟩ (.int .i64 (H : Int))).setCell ⟨w.heap.size + 1 + 1, 1, none⟩ (.int .i64 ((R : Int) + 1))).setCell ⟨w.heap.size + 1 + 1, 2, none⟩ (.bool v2) = Vf
      intro K L
      have g0 := K.cell (i := 0) (v := (.int .i64 (H : Int))) (by simp)
      have g1 := K.cell (i := 1) (v := (.int .i64 ((R : Int) + 1))) (by simp)
      have g2 := K.cell (i := 2) (v := (.bool v2)) (by simp)
      exact bodyPost_ret (v := tkv (((H : Int), (R : Int) + 1, v2), 0)) (by simp [results, Tryz.results11, go_sem, g0, g1, g2]) rfl ⟨by simp, L⟩
    exfalso
    cases hit <;> cases al <;> simp_all

end Go.Proofs.YtbdnjhnlfpfhcaaGreat

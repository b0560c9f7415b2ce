/- The contracts of what tells neighbours, and the lowest of them, in the specification. -/
import Derived.Test.YtjglfeonoiljlaaImgRD
import Derived.Test.YtjglfeonoiljlaaLow
namespace Go.Proofs.Ytjglfeonoiljlaa
open Go Go.RowKit Go.Shelf
set_option linter.unusedVariables false
set_option linter.unusedSimpArgs false

set_option maxRecDepth 100000 in
set_option maxHeartbeats 8000000 in
theorem near_any (pw ph : Nat) (a : Option Addr) (c n : Nat) (h1 : 1 ≤ pw) (h2 : pw ≤ 16) (i k : Nat) (hi : i ≤ 1000) (hk : k ≤ 1000) (e v : Bool) (hv : Hid (nearB pw e i k = v)) (w : World) :
    Calls Try.prog 114 #[imv pw ph a n c, .int .i64 i, .int .i64 k, .bool e] w fun e' w' => e' = .returned (.bool v) ∧ Below w.heap.size w w' := by
  have hB0 : Below w.heap.size w (w.alloc (.cells #[.int .i64 pw, .int .i64 ph, .slice a n c] 24)) := below_al (Below.refl _ _) _
  have k4 := Blk.new w 24 #[.int .i64 pw, .int .i64 ph, .slice a n c]
  obtain ⟨W, hW⟩ : ∃ W, w.alloc (.cells #[.int .i64 pw, .int .i64 ph, .slice a n c] 24) = W := ⟨_, rfl⟩
  rw [hW] at hB0 k4
  have hpw0 : pw ≠ 0 := by omega
  obtain ⟨x1, x2⟩ := cX_bd (pw := pw) (i := i) (by omega)
  obtain ⟨x3, x4⟩ := cX_bd (pw := pw) (i := k) (by omega)
  rw [cX_eq] at x1 x2 x3 x4
  have y1 : 0 ≤ (i : Int) / (pw : Int) ∧ (i : Int) / (pw : Int) ≤ 1000 := by
    have h := Nat.div_le_self i pw
    have e : (i : Int) / (pw : Int) = ((i / pw : Nat) : Int) := rfl
    rw [e]
    obtain ⟨q, hq⟩ : ∃ q, i / pw = q := ⟨_, rfl⟩
    rw [hq] at h ⊢
    omega
  have y2 : 0 ≤ (k : Int) / (pw : Int) ∧ (k : Int) / (pw : Int) ≤ 1000 := by
    have h := Nat.div_le_self k pw
    have e : (k : Int) / (pw : Int) = ((k / pw : Nat) : Int) := rfl
    rw [e]
    obtain ⟨q, hq⟩ : ∃ q, k / pw = q := ⟨_, rfl⟩
    rw [hq] at h ⊢
    omega
  have hdx : ((i : Int) % (pw : Int) - (k : Int) % (pw : Int)).natAbs = dX pw i k := rfl
  have hdy : ((i : Int) / (pw : Int) - (k : Int) / (pw : Int)).natAbs = dY pw i k := rfl
  have hdx2 : dX pw i k ≤ 2000 := by omega
  have hdy2 : dY pw i k ≤ 2000 := by omega
  obtain ⟨DX, hDX⟩ : ∃ d, dX pw i k = d := ⟨_, rfl⟩
  obtain ⟨DY, hDY⟩ : ∃ d, dY pw i k = d := ⟨_, rfl⟩
  rw [hDX] at hdx hdx2
  rw [hDY] at hdy hdy2
  have hv2 := hv.out
  have ho : nearB pw e i k = (decide (DX + DY = 1) || (e && (decide (DX = 1) && decide (DY = 1)))) := by unfold nearB l1; rw [hDX, hDY]
  have hS : Below W.heap.size W W.drew := (Below.refl _ _).drew
  go_enter Try.func114, Try.ntmps114
  go_wp2_with fail
  clear hW
  refine plain_region (fun W' => Below W.heap.size W W') 22 22 (by kernel_rfl) rfl ?_
  simp only [Array.replicate_succ, Array.replicate_zero, List.push_toArray, List.nil_append, List.cons_append]
  refine take_op 0 (v := ?rv0) rfl (by kernel_rfl) (fun _ _ _ h => h) (by rfl) hS (fun w' hS' => ?ry0) ?rz0
  case ry0 =>
    go_simp
    rfl
  simp only [List.setIfInBounds_toArray, List.set_cons_zero, List.set_cons_succ]
  refine take_op 1 (v := ?rv1) rfl (by kernel_rfl) (fun _ _ _ h => h) (by rfl) hS (fun w' hS' => ?ry1) ?rz1
  case ry1 =>
    go_simp
    rfl
  simp only [List.setIfInBounds_toArray, List.set_cons_zero, List.set_cons_succ]
  refine take_op 2 (v := ?rv2) rfl (by kernel_rfl) (fun _ _ _ h => h) (by rfl) hS (fun w' hS' => ?ry2) ?rz2
  case ry2 =>
    have a0 := (k4.below hS' k4.lt).cell (i := 0) rfl
    go_simp
    rfl
  simp only [List.setIfInBounds_toArray, List.set_cons_zero, List.set_cons_succ]
  refine take_op 3 (v := ?rv3) rfl (by kernel_rfl) (fun _ _ _ h => h) (by rfl) hS (fun w' hS' => ?ry3) ?rz3
  case ry3 =>
    go_simp
    try go_ints
    rfl
  simp only [List.setIfInBounds_toArray, List.set_cons_zero, List.set_cons_succ]
  refine take_op 4 (v := ?rv4) rfl (by kernel_rfl) (fun _ _ _ h => h) (by rfl) hS (fun w' hS' => ?ry4) ?rz4
  case ry4 =>
    go_simp
    rfl
  simp only [List.setIfInBounds_toArray, List.set_cons_zero, List.set_cons_succ]
  refine take_op 5 (v := ?rv5) rfl (by kernel_rfl) (fun _ _ _ h => h) (by rfl) hS (fun w' hS' => ?ry5) ?rz5
  case ry5 =>
    go_simp
    rfl
  simp only [List.setIfInBounds_toArray, List.set_cons_zero, List.set_cons_succ]
  refine take_op 6 (v := ?rv6) rfl (by kernel_rfl) (fun _ _ _ h => h) (by rfl) hS (fun w' hS' => ?ry6) ?rz6
  case ry6 =>
    have a0 := (k4.below hS' k4.lt).cell (i := 0) rfl
    go_simp
    rfl
  simp only [List.setIfInBounds_toArray, List.set_cons_zero, List.set_cons_succ]
  refine take_op 7 (v := ?rv7) rfl (by kernel_rfl) (fun _ _ _ h => h) (by rfl) hS (fun w' hS' => ?ry7) ?rz7
  case ry7 =>
    go_simp
    try go_ints
    rfl
  simp only [List.setIfInBounds_toArray, List.set_cons_zero, List.set_cons_succ]
  refine take_op 8 (v := ?rv8) rfl (by kernel_rfl) (fun _ _ _ h => h) (by rfl) hS (fun w' hS' => ?ry8) ?rz8
  case ry8 =>
    go_simp
    try go_ints
    rfl
  simp only [List.setIfInBounds_toArray, List.set_cons_zero, List.set_cons_succ]
  refine take_op 10 (v := ?rv10) rfl (by kernel_rfl) (fun _ _ _ h => h) (by rfl) hS (fun w' hS' => ?ry10) ?rz10
  case ry10 =>
    go_simp
    rfl
  simp only [List.setIfInBounds_toArray, List.set_cons_zero, List.set_cons_succ]
  refine take_op 11 (v := ?rv11) rfl (by kernel_rfl) (fun _ _ _ h => h) (by rfl) hS (fun w' hS' => ?ry11) ?rz11
  case ry11 =>
    go_simp
    rfl
  simp only [List.setIfInBounds_toArray, List.set_cons_zero, List.set_cons_succ]
  refine take_op 12 (v := ?rv12) rfl (by kernel_rfl) (fun _ _ _ h => h) (by rfl) hS (fun w' hS' => ?ry12) ?rz12
  case ry12 =>
    have a0 := (k4.below hS' k4.lt).cell (i := 0) rfl
    go_simp
    rfl
  simp only [List.setIfInBounds_toArray, List.set_cons_zero, List.set_cons_succ]
  refine take_op 13 (v := ?rv13) rfl (by kernel_rfl) (fun _ _ _ h => h) (by rfl) hS (fun w' hS' => ?ry13) ?rz13
  case ry13 =>
    go_simp
    try go_ints
    rfl
  simp only [List.setIfInBounds_toArray, List.set_cons_zero, List.set_cons_succ]
  refine take_op 14 (v := ?rv14) rfl (by kernel_rfl) (fun _ _ _ h => h) (by rfl) hS (fun w' hS' => ?ry14) ?rz14
  case ry14 =>
    go_simp
    rfl
  simp only [List.setIfInBounds_toArray, List.set_cons_zero, List.set_cons_succ]
  refine take_op 15 (v := ?rv15) rfl (by kernel_rfl) (fun _ _ _ h => h) (by rfl) hS (fun w' hS' => ?ry15) ?rz15
  case ry15 =>
    go_simp
    rfl
  simp only [List.setIfInBounds_toArray, List.set_cons_zero, List.set_cons_succ]
  refine take_op 16 (v := ?rv16) rfl (by kernel_rfl) (fun _ _ _ h => h) (by rfl) hS (fun w' hS' => ?ry16) ?rz16
  case ry16 =>
    have a0 := (k4.below hS' k4.lt).cell (i := 0) rfl
    go_simp
    rfl
  simp only [List.setIfInBounds_toArray, List.set_cons_zero, List.set_cons_succ]
  refine take_op 17 (v := ?rv17) rfl (by kernel_rfl) (fun _ _ _ h => h) (by rfl) hS (fun w' hS' => ?ry17) ?rz17
  case ry17 =>
    go_simp
    try go_ints
    rfl
  simp only [List.setIfInBounds_toArray, List.set_cons_zero, List.set_cons_succ]
  refine take_op 18 (v := ?rv18) rfl (by kernel_rfl) (fun _ _ _ h => h) (by rfl) hS (fun w' hS' => ?ry18) ?rz18
  case ry18 =>
    go_simp
    try go_ints
    rfl
  simp only [List.setIfInBounds_toArray, List.set_cons_zero, List.set_cons_succ]
  refine step_op 9 (by kernel_rfl) rfl (fun K hK => ?_)
  rw [if_pos (by rfl)]
  go_simp
  refine (abs_any _ _ (by omega) (by omega)).mono ?_
  rintro e' W2 ⟨rfl, rfl⟩
  refine hK.out _ _ (fun h => hS) ?_
  clear hK K
  try simp only [Act.put, List.setIfInBounds_toArray, List.set_cons_zero, List.set_cons_succ]
  refine step_op 19 (by kernel_rfl) rfl (fun K hK => ?_)
  rw [if_pos (by rfl)]
  go_simp
  refine (abs_any _ _ (by omega) (by omega)).mono ?_
  rintro e' W2 ⟨rfl, rfl⟩
  refine hK.out _ _ (fun h => hS) ?_
  clear hK K
  try simp only [Act.put, List.setIfInBounds_toArray, List.set_cons_zero, List.set_cons_succ]
  refine take_op 20 (v := ?rv20) rfl (by kernel_rfl) (fun _ _ _ h => h) (by rfl) hS (fun w' hS' => ?ry20) ?rz20
  case ry20 =>
    go_simp
    rfl
  simp only [List.setIfInBounds_toArray, List.set_cons_zero, List.set_cons_succ]
  refine take_op 21 (v := ?rv21) rfl (by kernel_rfl) (fun _ _ _ h => h) (by rfl) hS (fun w' hS' => ?ry21) ?rz21
  case ry21 =>
    go_simp
    rfl
  simp only [List.setIfInBounds_toArray, List.set_cons_zero, List.set_cons_succ]
  refine done_ops (by kernel_rfl) ?_
  try simp only [hdx]
  try simp only [hdy]
  have hB2 := hB0.trans (hS.mono hB0.size)
  by_cases h1 : DX + DY = 1
  · have e1 : ((DX : Int) + (DY : Int) == 1) = true := by rw [beq_iff_eq]; omega
    obtain rfl : v = true := by rw [← hv2, ho]; simp [h1] <;> omega
    clear h1 hv hv2 ho
    go_wp2_with fail
    go_ret
    exact ⟨rfl, hB2⟩
  · have e1 : ((DX : Int) + (DY : Int) == 1) = false := by rw [beq_eq_false_iff_ne]; omega
    cases e with
    | false =>
      obtain rfl : v = false := by rw [← hv2, ho]; simp [h1] <;> omega
      clear h1 hv hv2 ho
      go_wp2_with fail
      go_ret
      exact ⟨rfl, hB2⟩
    | true =>
      by_cases h2 : DX = 1
      · have e2 : ((DX : Int) == 1) = true := by rw [beq_iff_eq]; omega
        by_cases h3 : DY = 1
        · have e3 : ((DY : Int) == 1) = true := by rw [beq_iff_eq]; omega
          obtain rfl : v = true := by rw [← hv2, ho]; simp [h1, h2, h3] <;> omega
          clear h1 h2 h3 hv hv2 ho
          go_wp2_with fail
          go_ret
          exact ⟨rfl, hB2⟩
        · have e3 : ((DY : Int) == 1) = false := by rw [beq_eq_false_iff_ne]; omega
          obtain rfl : v = false := by rw [← hv2, ho]; simp [h1, h2, h3] <;> omega
          clear h1 h2 h3 hv hv2 ho
          go_wp2_with fail
          go_ret
          exact ⟨rfl, hB2⟩
      · have e2 : ((DX : Int) == 1) = false := by rw [beq_eq_false_iff_ne]; omega
        obtain rfl : v = false := by rw [← hv2, ho]; simp [h1, h2] <;> omega
        clear h1 h2 hv hv2 ho
        go_wp2_with fail
        go_ret
        exact ⟨rfl, hB2⟩


theorem lowTo_lt {pw N : Nat} {m : Nat → Int} {i : Nat} (hi : i < N) : ∀ k, k ≤ N → lowTo pw m i k < N := fun k hk => by
  rcases (lowTo_isLow pw m i k).mem with h | h
  · rw [h]; exact hi
  · omega

set_option maxRecDepth 100000 in
set_option maxHeartbeats 8000000 in
theorem Lowest_any (pw ph : Nat) (a : Option Addr) (c n : Nat) (xs : List Int) (hn : Hid (xs.length = n)) (hN : Hid (pw * ph = n)) (h1 : 1 ≤ pw) (h2 : pw ≤ 16) (h3 : 1 ≤ ph) (h4 : ph ≤ 16) (mm : Nat → Int) (hmm : Hid ((fun k : Nat => px xs k) = mm)) (i : Nat) (hi : i < n) (w : World) (hr : Rd w.heap.size w a xs) :
    Calls Try.prog 115 #[imv pw ph a n c, .int .i64 i] w fun e w' => e = .returned (.int .i64 (lowest pw ph mm i : Nat)) ∧ Below w.heap.size w w' := by
  have hn256 : n ≤ 256 := by
    have h := hN.out
    obtain ⟨m1, m2⟩ := mul_small (a := (pw : Int)) (b := (ph : Int)) (m := 16) (n := 16) (by omega) (by omega) (by omega) (by omega)
    have e : ((pw * ph : Nat) : Int) = (pw : Int) * ph := by simp
    omega
  obtain ⟨ba, oa, rfl, hba, hca⟩ := rd_at hr hn.out (by omega)
  have hcaM := Lib.hid (show ∀ k, k < n → w.cell? ⟨ba, oa + k, none⟩ = some (.int .i64 (mm k)) from fun k hk => by rw [← hmm.out]; exact hca k hk)
  clear hca hr
  have hB0 : Below w.heap.size w (w.alloc (.cells #[.int .i64 pw, .int .i64 ph, .slice (some ⟨ba, oa, none⟩) n c] 24)) := below_al (Below.refl _ _) _
  have k4 := Blk.new w 24 #[.int .i64 pw, .int .i64 ph, .slice (some ⟨ba, oa, none⟩) n c]
  obtain ⟨W, hW⟩ : ∃ W, w.alloc (.cells #[.int .i64 pw, .int .i64 ph, .slice (some ⟨ba, oa, none⟩) n c] 24) = W := ⟨_, rfl⟩
  rw [hW] at hB0 k4
  have hfin := Lib.hid (show lowTo pw mm i n = lowest pw ph mm i by rw [← hN.out]; rfl)
  go_enter Try.func115, Try.ntmps115
  go_wp2_with fail
  clear hW
  go_loopw [5, 6] (fun o q wr => ∃ k : Nat, k ≤ n ∧ q = .int .i64 (k : Int) ∧ o = .int .i64 (lowTo pw mm i k : Nat) ∧ Below W.heap.size W wr) (fun o q _ => n - (intOf q).toNat)
  case atStart => exact ⟨0, Nat.zero_le _, rfl, rfl, Below.refl _ _⟩
  case round =>
    obtain ⟨k, hk, rfl, rfl, hBw⟩ := hrel
    have hBr : Below w.heap.size w wr := hB0.trans (hBw.mono hB0.size)
    have kiB := k4.below hBw k4.lt
    have m2 := kiB.cell (i := 2) rfl
    by_cases hkn : k < n
    · have hbn := lowTo_lt (pw := pw) (m := mm) hi k (by omega)
      have hsn := Lib.hid (show lowTo pw mm i (k + 1) = if (nearB pw false i k && better mm (lowTo pw mm i k) k) = true then k else lowTo pw mm i k from rfl)
      obtain ⟨b, hb⟩ : ∃ b, lowTo pw mm i k = b := ⟨_, rfl⟩
      rw [hb] at hbn hsn ⊢
      clear hb
      have hS : Below wr.heap.size wr wr.drew := (Below.refl _ _).drew
      obtain ⟨nv, hnv0⟩ : ∃ v, nearB pw false i k = v := ⟨_, rfl⟩
      have hnv := Lib.hid hnv0
      rw [hnv0] at hsn
      clear hnv0
      cases nv with
      | false =>
        have hsn2 := Lib.hid (show lowTo pw mm i (k + 1) = b by rw [hsn.out, if_neg (by simp)])
        go_wp2_with fail
        refine plain_region (fun W' => Below wr.heap.size wr W') 35 35 (by kernel_rfl) rfl ?_
        simp only [Array.replicate_succ, Array.replicate_zero, List.push_toArray, List.nil_append, List.cons_append]
        refine take_op 0 (v := ?rav0) rfl (by kernel_rfl) (fun _ _ _ h => h) (by rfl) hS (fun w' hS' => ?ray0) ?raz0
        case ray0 =>
          have a0 := (kiB.below hS' kiB.lt).cell (i := 0) rfl
          have a1 := (kiB.below hS' kiB.lt).cell (i := 1) rfl
          have a2 := (kiB.below hS' kiB.lt).cell (i := 2) rfl
          have pk := (hBr.trans (hS'.mono hBr.size)).cell (p := ⟨ba, oa + k, none⟩) hba |>.trans (hcaM.out k hkn)
          have pb := (hBr.trans (hS'.mono hBr.size)).cell (p := ⟨ba, oa + b, none⟩) hba |>.trans (hcaM.out b hbn)
          go_simp
          rfl
        simp only [List.setIfInBounds_toArray, List.set_cons_zero, List.set_cons_succ]
        refine take_op 1 (v := ?rav1) rfl (by kernel_rfl) (fun _ _ _ h => h) (by rfl) hS (fun w' hS' => ?ray1) ?raz1
        case ray1 =>
          go_simp
          rfl
        simp only [List.setIfInBounds_toArray, List.set_cons_zero, List.set_cons_succ]
        refine take_op 2 (v := ?rav2) rfl (by kernel_rfl) (fun _ _ _ h => h) (by rfl) hS (fun w' hS' => ?ray2) ?raz2
        case ray2 =>
          go_simp
          rfl
        simp only [List.setIfInBounds_toArray, List.set_cons_zero, List.set_cons_succ]
        refine step_op 3 (by kernel_rfl) rfl (fun K hK => ?_)
        rw [if_pos (by rfl)]
        go_simp
        refine (near_any pw ph (some ⟨ba, oa, none⟩) c n h1 h2 i k (by omega) (by omega) false false hnv _).mono ?_
        rintro e' W2 ⟨rfl, hb2⟩
        have hS2 := hS.trans (hb2.mono hS.size)
        refine hK.out _ _ (fun h => hS2) ?_
        clear hK K
        try simp only [Act.put, List.setIfInBounds_toArray, List.set_cons_zero, List.set_cons_succ]
        refine take_op 4 (v := ?rav4) rfl (by kernel_rfl) (fun _ _ _ h => h) (by rfl) hS2 (fun w' hS' => ?ray4) ?raz4
        case ray4 =>
          go_simp
          rfl
        simp only [List.setIfInBounds_toArray, List.set_cons_zero, List.set_cons_succ]
        refine pass_op 5 rfl (by kernel_rfl) (fun _ _ _ h => h) (by rfl) hS2 ?_
        simp only [List.setIfInBounds_toArray, List.set_cons_zero, List.set_cons_succ]
        refine pass_op 6 rfl (by kernel_rfl) (fun _ _ _ h => h) (by rfl) hS2 ?_
        simp only [List.setIfInBounds_toArray, List.set_cons_zero, List.set_cons_succ]
        refine pass_op 7 rfl (by kernel_rfl) (fun _ _ _ h => h) (by rfl) hS2 ?_
        simp only [List.setIfInBounds_toArray, List.set_cons_zero, List.set_cons_succ]
        refine pass_op 8 rfl (by kernel_rfl) (fun _ _ _ h => h) (by rfl) hS2 ?_
        simp only [List.setIfInBounds_toArray, List.set_cons_zero, List.set_cons_succ]
        refine pass_op 9 rfl (by kernel_rfl) (fun _ _ _ h => h) (by rfl) hS2 ?_
        simp only [List.setIfInBounds_toArray, List.set_cons_zero, List.set_cons_succ]
        refine pass_op 10 rfl (by kernel_rfl) (fun _ _ _ h => h) (by rfl) hS2 ?_
        simp only [List.setIfInBounds_toArray, List.set_cons_zero, List.set_cons_succ]
        refine pass_op 11 rfl (by kernel_rfl) (fun _ _ _ h => h) (by rfl) hS2 ?_
        simp only [List.setIfInBounds_toArray, List.set_cons_zero, List.set_cons_succ]
        refine pass_op 12 rfl (by kernel_rfl) (fun _ _ _ h => h) (by rfl) hS2 ?_
        simp only [List.setIfInBounds_toArray, List.set_cons_zero, List.set_cons_succ]
        refine pass_op 13 rfl (by kernel_rfl) (fun _ _ _ h => h) (by rfl) hS2 ?_
        simp only [List.setIfInBounds_toArray, List.set_cons_zero, List.set_cons_succ]
        refine pass_op 14 rfl (by kernel_rfl) (fun _ _ _ h => h) (by rfl) hS2 ?_
        simp only [List.setIfInBounds_toArray, List.set_cons_zero, List.set_cons_succ]
        refine pass_op 15 rfl (by kernel_rfl) (fun _ _ _ h => h) (by rfl) hS2 ?_
        simp only [List.setIfInBounds_toArray, List.set_cons_zero, List.set_cons_succ]
        refine pass_op 16 rfl (by kernel_rfl) (fun _ _ _ h => h) (by rfl) hS2 ?_
        simp only [List.setIfInBounds_toArray, List.set_cons_zero, List.set_cons_succ]
        refine pass_op 17 rfl (by kernel_rfl) (fun _ _ _ h => h) (by rfl) hS2 ?_
        simp only [List.setIfInBounds_toArray, List.set_cons_zero, List.set_cons_succ]
        refine pass_op 18 rfl (by kernel_rfl) (fun _ _ _ h => h) (by rfl) hS2 ?_
        simp only [List.setIfInBounds_toArray, List.set_cons_zero, List.set_cons_succ]
        refine pass_op 19 rfl (by kernel_rfl) (fun _ _ _ h => h) (by rfl) hS2 ?_
        simp only [List.setIfInBounds_toArray, List.set_cons_zero, List.set_cons_succ]
        refine pass_op 20 rfl (by kernel_rfl) (fun _ _ _ h => h) (by rfl) hS2 ?_
        simp only [List.setIfInBounds_toArray, List.set_cons_zero, List.set_cons_succ]
        refine pass_op 21 rfl (by kernel_rfl) (fun _ _ _ h => h) (by rfl) hS2 ?_
        simp only [List.setIfInBounds_toArray, List.set_cons_zero, List.set_cons_succ]
        refine pass_op 22 rfl (by kernel_rfl) (fun _ _ _ h => h) (by rfl) hS2 ?_
        simp only [List.setIfInBounds_toArray, List.set_cons_zero, List.set_cons_succ]
        refine pass_op 23 rfl (by kernel_rfl) (fun _ _ _ h => h) (by rfl) hS2 ?_
        simp only [List.setIfInBounds_toArray, List.set_cons_zero, List.set_cons_succ]
        refine pass_op 24 rfl (by kernel_rfl) (fun _ _ _ h => h) (by rfl) hS2 ?_
        simp only [List.setIfInBounds_toArray, List.set_cons_zero, List.set_cons_succ]
        refine pass_op 25 rfl (by kernel_rfl) (fun _ _ _ h => h) (by rfl) hS2 ?_
        simp only [List.setIfInBounds_toArray, List.set_cons_zero, List.set_cons_succ]
        refine pass_op 26 rfl (by kernel_rfl) (fun _ _ _ h => h) (by rfl) hS2 ?_
        simp only [List.setIfInBounds_toArray, List.set_cons_zero, List.set_cons_succ]
        refine pass_op 27 rfl (by kernel_rfl) (fun _ _ _ h => h) (by rfl) hS2 ?_
        simp only [List.setIfInBounds_toArray, List.set_cons_zero, List.set_cons_succ]
        refine pass_op 28 rfl (by kernel_rfl) (fun _ _ _ h => h) (by rfl) hS2 ?_
        simp only [List.setIfInBounds_toArray, List.set_cons_zero, List.set_cons_succ]
        refine pass_op 29 rfl (by kernel_rfl) (fun _ _ _ h => h) (by rfl) hS2 ?_
        simp only [List.setIfInBounds_toArray, List.set_cons_zero, List.set_cons_succ]
        refine pass_op 30 rfl (by kernel_rfl) (fun _ _ _ h => h) (by rfl) hS2 ?_
        simp only [List.setIfInBounds_toArray, List.set_cons_zero, List.set_cons_succ]
        refine pass_op 31 rfl (by kernel_rfl) (fun _ _ _ h => h) (by rfl) hS2 ?_
        simp only [List.setIfInBounds_toArray, List.set_cons_zero, List.set_cons_succ]
        refine pass_op 32 rfl (by kernel_rfl) (fun _ _ _ h => h) (by rfl) hS2 ?_
        simp only [List.setIfInBounds_toArray, List.set_cons_zero, List.set_cons_succ]
        refine pass_op 33 rfl (by kernel_rfl) (fun _ _ _ h => h) (by rfl) hS2 ?_
        simp only [List.setIfInBounds_toArray, List.set_cons_zero, List.set_cons_succ]
        refine take_op 34 (v := ?rav34) rfl (by kernel_rfl) (fun _ _ _ h => h) (by rfl) hS2 (fun w' hS' => ?ray34) ?raz34
        case ray34 =>
          go_simp
          rfl
        simp only [List.setIfInBounds_toArray, List.set_cons_zero, List.set_cons_succ]
        refine done_ops (by kernel_rfl) ?_
        go_wp2_with fail
        go_roundw
        case rel => exact ⟨k + 1, by omega, by go_num, by rw [hsn2.out], hBw.trans (hS2.mono hBw.size)⟩
        case measure => simp [intOf]; omega
      | true =>
        by_cases h5 : mm k < mm b
        · have hsn2 := Lib.hid (show lowTo pw mm i (k + 1) = k by rw [hsn.out, if_pos (by simp [better_iff, h5])])
          have e1 : decide (mm k < mm b) = true := decide_eq_true h5
          go_wp2_with fail
          refine plain_region (fun W' => Below wr.heap.size wr W') 35 35 (by kernel_rfl) rfl ?_
          simp only [Array.replicate_succ, Array.replicate_zero, List.push_toArray, List.nil_append, List.cons_append]
          refine take_op 0 (v := ?rbv0) rfl (by kernel_rfl) (fun _ _ _ h => h) (by rfl) hS (fun w' hS' => ?rby0) ?rbz0
          case rby0 =>
            have a0 := (kiB.below hS' kiB.lt).cell (i := 0) rfl
            have a1 := (kiB.below hS' kiB.lt).cell (i := 1) rfl
            have a2 := (kiB.below hS' kiB.lt).cell (i := 2) rfl
            have pk := (hBr.trans (hS'.mono hBr.size)).cell (p := ⟨ba, oa + k, none⟩) hba |>.trans (hcaM.out k hkn)
            have pb := (hBr.trans (hS'.mono hBr.size)).cell (p := ⟨ba, oa + b, none⟩) hba |>.trans (hcaM.out b hbn)
            go_simp
            rfl
          simp only [List.setIfInBounds_toArray, List.set_cons_zero, List.set_cons_succ]
          refine take_op 1 (v := ?rbv1) rfl (by kernel_rfl) (fun _ _ _ h => h) (by rfl) hS (fun w' hS' => ?rby1) ?rbz1
          case rby1 =>
            go_simp
            rfl
          simp only [List.setIfInBounds_toArray, List.set_cons_zero, List.set_cons_succ]
          refine take_op 2 (v := ?rbv2) rfl (by kernel_rfl) (fun _ _ _ h => h) (by rfl) hS (fun w' hS' => ?rby2) ?rbz2
          case rby2 =>
            go_simp
            rfl
          simp only [List.setIfInBounds_toArray, List.set_cons_zero, List.set_cons_succ]
          refine step_op 3 (by kernel_rfl) rfl (fun K hK => ?_)
          rw [if_pos (by rfl)]
          go_simp
          refine (near_any pw ph (some ⟨ba, oa, none⟩) c n h1 h2 i k (by omega) (by omega) false true hnv _).mono ?_
          rintro e' W2 ⟨rfl, hb2⟩
          have hS2 := hS.trans (hb2.mono hS.size)
          refine hK.out _ _ (fun h => hS2) ?_
          clear hK K
          try simp only [Act.put, List.setIfInBounds_toArray, List.set_cons_zero, List.set_cons_succ]
          refine take_op 4 (v := ?rbv4) rfl (by kernel_rfl) (fun _ _ _ h => h) (by rfl) hS2 (fun w' hS' => ?rby4) ?rbz4
          case rby4 =>
            go_simp
            rfl
          simp only [List.setIfInBounds_toArray, List.set_cons_zero, List.set_cons_succ]
          refine take_op 5 (v := ?rbv5) rfl (by kernel_rfl) (fun _ _ _ h => h) (by rfl) hS2 (fun w' hS' => ?rby5) ?rbz5
          case rby5 =>
            go_simp
            rfl
          simp only [List.setIfInBounds_toArray, List.set_cons_zero, List.set_cons_succ]
          refine take_op 6 (v := ?rbv6) rfl (by kernel_rfl) (fun _ _ _ h => h) (by rfl) hS2 (fun w' hS' => ?rby6) ?rbz6
          case rby6 =>
            have a0 := (kiB.below hS' kiB.lt).cell (i := 0) rfl
            have a1 := (kiB.below hS' kiB.lt).cell (i := 1) rfl
            have a2 := (kiB.below hS' kiB.lt).cell (i := 2) rfl
            have pk := (hBr.trans (hS'.mono hBr.size)).cell (p := ⟨ba, oa + k, none⟩) hba |>.trans (hcaM.out k hkn)
            have pb := (hBr.trans (hS'.mono hBr.size)).cell (p := ⟨ba, oa + b, none⟩) hba |>.trans (hcaM.out b hbn)
            go_simp
            rfl
          simp only [List.setIfInBounds_toArray, List.set_cons_zero, List.set_cons_succ]
          refine take_op 7 (v := ?rbv7) rfl (by kernel_rfl) (fun _ _ _ h => h) (by rfl) hS2 (fun w' hS' => ?rby7) ?rbz7
          case rby7 =>
            go_simp
            rfl
          simp only [List.setIfInBounds_toArray, List.set_cons_zero, List.set_cons_succ]
          refine take_op 8 (v := ?rbv8) rfl (by kernel_rfl) (fun _ _ _ h => h) (by rfl) hS2 (fun w' hS' => ?rby8) ?rbz8
          case rby8 =>
            go_simp
            try go_ints
            first
            | rfl
            | rw [if_pos ⟨by omega, by omega⟩]
          simp only [List.setIfInBounds_toArray, List.set_cons_zero, List.set_cons_succ]
          refine take_op 9 (v := ?rbv9) rfl (by kernel_rfl) (fun _ _ _ h => h) (by rfl) hS2 (fun w' hS' => ?rby9) ?rbz9
          case rby9 =>
            have a0 := (kiB.below hS' kiB.lt).cell (i := 0) rfl
            have a1 := (kiB.below hS' kiB.lt).cell (i := 1) rfl
            have a2 := (kiB.below hS' kiB.lt).cell (i := 2) rfl
            have pk := (hBr.trans (hS'.mono hBr.size)).cell (p := ⟨ba, oa + k, none⟩) hba |>.trans (hcaM.out k hkn)
            have pb := (hBr.trans (hS'.mono hBr.size)).cell (p := ⟨ba, oa + b, none⟩) hba |>.trans (hcaM.out b hbn)
            go_simp
            rfl
          simp only [List.setIfInBounds_toArray, List.set_cons_zero, List.set_cons_succ]
          refine take_op 10 (v := ?rbv10) rfl (by kernel_rfl) (fun _ _ _ h => h) (by rfl) hS2 (fun w' hS' => ?rby10) ?rbz10
          case rby10 =>
            go_simp
            rfl
          simp only [List.setIfInBounds_toArray, List.set_cons_zero, List.set_cons_succ]
          refine take_op 11 (v := ?rbv11) rfl (by kernel_rfl) (fun _ _ _ h => h) (by rfl) hS2 (fun w' hS' => ?rby11) ?rbz11
          case rby11 =>
            have a0 := (kiB.below hS' kiB.lt).cell (i := 0) rfl
            have a1 := (kiB.below hS' kiB.lt).cell (i := 1) rfl
            have a2 := (kiB.below hS' kiB.lt).cell (i := 2) rfl
            have pk := (hBr.trans (hS'.mono hBr.size)).cell (p := ⟨ba, oa + k, none⟩) hba |>.trans (hcaM.out k hkn)
            have pb := (hBr.trans (hS'.mono hBr.size)).cell (p := ⟨ba, oa + b, none⟩) hba |>.trans (hcaM.out b hbn)
            go_simp
            rfl
          simp only [List.setIfInBounds_toArray, List.set_cons_zero, List.set_cons_succ]
          refine take_op 12 (v := ?rbv12) rfl (by kernel_rfl) (fun _ _ _ h => h) (by rfl) hS2 (fun w' hS' => ?rby12) ?rbz12
          case rby12 =>
            go_simp
            rfl
          simp only [List.setIfInBounds_toArray, List.set_cons_zero, List.set_cons_succ]
          refine take_op 13 (v := ?rbv13) rfl (by kernel_rfl) (fun _ _ _ h => h) (by rfl) hS2 (fun w' hS' => ?rby13) ?rbz13
          case rby13 =>
            go_simp
            try go_ints
            first
            | rfl
            | rw [if_pos ⟨by omega, by omega⟩]
          simp only [List.setIfInBounds_toArray, List.set_cons_zero, List.set_cons_succ]
          refine take_op 14 (v := ?rbv14) rfl (by kernel_rfl) (fun _ _ _ h => h) (by rfl) hS2 (fun w' hS' => ?rby14) ?rbz14
          case rby14 =>
            have a0 := (kiB.below hS' kiB.lt).cell (i := 0) rfl
            have a1 := (kiB.below hS' kiB.lt).cell (i := 1) rfl
            have a2 := (kiB.below hS' kiB.lt).cell (i := 2) rfl
            have pk := (hBr.trans (hS'.mono hBr.size)).cell (p := ⟨ba, oa + k, none⟩) hba |>.trans (hcaM.out k hkn)
            have pb := (hBr.trans (hS'.mono hBr.size)).cell (p := ⟨ba, oa + b, none⟩) hba |>.trans (hcaM.out b hbn)
            go_simp
            rfl
          simp only [List.setIfInBounds_toArray, List.set_cons_zero, List.set_cons_succ]
          refine take_op 15 (v := .bool true) rfl (by kernel_rfl) (fun _ _ _ h => h) (by rfl) hS2 (fun w' hS' => ?rby15) ?rbz15
          case rby15 =>
            go_simp
            try simp only [e1]
          simp only [List.setIfInBounds_toArray, List.set_cons_zero, List.set_cons_succ]
          refine take_op 16 (v := ?rbv16) rfl (by kernel_rfl) (fun _ _ _ h => h) (by rfl) hS2 (fun w' hS' => ?rby16) ?rbz16
          case rby16 =>
            go_simp
            rfl
          simp only [List.setIfInBounds_toArray, List.set_cons_zero, List.set_cons_succ]
          refine pass_op 17 rfl (by kernel_rfl) (fun _ _ _ h => h) (by rfl) hS2 ?_
          simp only [List.setIfInBounds_toArray, List.set_cons_zero, List.set_cons_succ]
          refine pass_op 18 rfl (by kernel_rfl) (fun _ _ _ h => h) (by rfl) hS2 ?_
          simp only [List.setIfInBounds_toArray, List.set_cons_zero, List.set_cons_succ]
          refine pass_op 19 rfl (by kernel_rfl) (fun _ _ _ h => h) (by rfl) hS2 ?_
          simp only [List.setIfInBounds_toArray, List.set_cons_zero, List.set_cons_succ]
          refine pass_op 20 rfl (by kernel_rfl) (fun _ _ _ h => h) (by rfl) hS2 ?_
          simp only [List.setIfInBounds_toArray, List.set_cons_zero, List.set_cons_succ]
          refine pass_op 21 rfl (by kernel_rfl) (fun _ _ _ h => h) (by rfl) hS2 ?_
          simp only [List.setIfInBounds_toArray, List.set_cons_zero, List.set_cons_succ]
          refine pass_op 22 rfl (by kernel_rfl) (fun _ _ _ h => h) (by rfl) hS2 ?_
          simp only [List.setIfInBounds_toArray, List.set_cons_zero, List.set_cons_succ]
          refine pass_op 23 rfl (by kernel_rfl) (fun _ _ _ h => h) (by rfl) hS2 ?_
          simp only [List.setIfInBounds_toArray, List.set_cons_zero, List.set_cons_succ]
          refine pass_op 24 rfl (by kernel_rfl) (fun _ _ _ h => h) (by rfl) hS2 ?_
          simp only [List.setIfInBounds_toArray, List.set_cons_zero, List.set_cons_succ]
          refine pass_op 25 rfl (by kernel_rfl) (fun _ _ _ h => h) (by rfl) hS2 ?_
          simp only [List.setIfInBounds_toArray, List.set_cons_zero, List.set_cons_succ]
          refine pass_op 26 rfl (by kernel_rfl) (fun _ _ _ h => h) (by rfl) hS2 ?_
          simp only [List.setIfInBounds_toArray, List.set_cons_zero, List.set_cons_succ]
          refine pass_op 27 rfl (by kernel_rfl) (fun _ _ _ h => h) (by rfl) hS2 ?_
          simp only [List.setIfInBounds_toArray, List.set_cons_zero, List.set_cons_succ]
          refine pass_op 28 rfl (by kernel_rfl) (fun _ _ _ h => h) (by rfl) hS2 ?_
          simp only [List.setIfInBounds_toArray, List.set_cons_zero, List.set_cons_succ]
          refine pass_op 29 rfl (by kernel_rfl) (fun _ _ _ h => h) (by rfl) hS2 ?_
          simp only [List.setIfInBounds_toArray, List.set_cons_zero, List.set_cons_succ]
          refine pass_op 30 rfl (by kernel_rfl) (fun _ _ _ h => h) (by rfl) hS2 ?_
          simp only [List.setIfInBounds_toArray, List.set_cons_zero, List.set_cons_succ]
          refine pass_op 31 rfl (by kernel_rfl) (fun _ _ _ h => h) (by rfl) hS2 ?_
          simp only [List.setIfInBounds_toArray, List.set_cons_zero, List.set_cons_succ]
          refine pass_op 32 rfl (by kernel_rfl) (fun _ _ _ h => h) (by rfl) hS2 ?_
          simp only [List.setIfInBounds_toArray, List.set_cons_zero, List.set_cons_succ]
          refine take_op 33 (v := ?rbv33) rfl (by kernel_rfl) (fun _ _ _ h => h) (by rfl) hS2 (fun w' hS' => ?rby33) ?rbz33
          case rby33 =>
            go_simp
            rfl
          simp only [List.setIfInBounds_toArray, List.set_cons_zero, List.set_cons_succ]
          refine take_op 34 (v := ?rbv34) rfl (by kernel_rfl) (fun _ _ _ h => h) (by rfl) hS2 (fun w' hS' => ?rby34) ?rbz34
          case rby34 =>
            go_simp
            rfl
          simp only [List.setIfInBounds_toArray, List.set_cons_zero, List.set_cons_succ]
          refine done_ops (by kernel_rfl) ?_
          go_wp2_with fail
          go_roundw
          case rel => exact ⟨k + 1, by omega, by go_num, by rw [hsn2.out], hBw.trans (hS2.mono hBw.size)⟩
          case measure => simp [intOf]; omega
        · have e1 : decide (mm k < mm b) = false := decide_eq_false h5
          by_cases h6 : mm k = mm b
          · have e2 : (mm k == mm b) = true := beq_iff_eq.2 h6
            by_cases h7 : k < b
            · have hsn2 := Lib.hid (show lowTo pw mm i (k + 1) = k by rw [hsn.out, if_pos (by simp [better_iff, h6, h7])])
              have e3 : decide ((k : Int) < (b : Int)) = true := decide_eq_true (by omega)
              go_wp2_with fail
              refine plain_region (fun W' => Below wr.heap.size wr W') 35 35 (by kernel_rfl) rfl ?_
              simp only [Array.replicate_succ, Array.replicate_zero, List.push_toArray, List.nil_append, List.cons_append]
              refine take_op 0 (v := ?rdv0) rfl (by kernel_rfl) (fun _ _ _ h => h) (by rfl) hS (fun w' hS' => ?rdy0) ?rdz0
              case rdy0 =>
                have a0 := (kiB.below hS' kiB.lt).cell (i := 0) rfl
                have a1 := (kiB.below hS' kiB.lt).cell (i := 1) rfl
                have a2 := (kiB.below hS' kiB.lt).cell (i := 2) rfl
                have pk := (hBr.trans (hS'.mono hBr.size)).cell (p := ⟨ba, oa + k, none⟩) hba |>.trans (hcaM.out k hkn)
                have pb := (hBr.trans (hS'.mono hBr.size)).cell (p := ⟨ba, oa + b, none⟩) hba |>.trans (hcaM.out b hbn)
                go_simp
                rfl
              simp only [List.setIfInBounds_toArray, List.set_cons_zero, List.set_cons_succ]
              refine take_op 1 (v := ?rdv1) rfl (by kernel_rfl) (fun _ _ _ h => h) (by rfl) hS (fun w' hS' => ?rdy1) ?rdz1
              case rdy1 =>
                go_simp
                rfl
              simp only [List.setIfInBounds_toArray, List.set_cons_zero, List.set_cons_succ]
              refine take_op 2 (v := ?rdv2) rfl (by kernel_rfl) (fun _ _ _ h => h) (by rfl) hS (fun w' hS' => ?rdy2) ?rdz2
              case rdy2 =>
                go_simp
                rfl
              simp only [List.setIfInBounds_toArray, List.set_cons_zero, List.set_cons_succ]
              refine step_op 3 (by kernel_rfl) rfl (fun K hK => ?_)
              rw [if_pos (by rfl)]
              go_simp
              refine (near_any pw ph (some ⟨ba, oa, none⟩) c n h1 h2 i k (by omega) (by omega) false true hnv _).mono ?_
              rintro e' W2 ⟨rfl, hb2⟩
              have hS2 := hS.trans (hb2.mono hS.size)
              refine hK.out _ _ (fun h => hS2) ?_
              clear hK K
              try simp only [Act.put, List.setIfInBounds_toArray, List.set_cons_zero, List.set_cons_succ]
              refine take_op 4 (v := ?rdv4) rfl (by kernel_rfl) (fun _ _ _ h => h) (by rfl) hS2 (fun w' hS' => ?rdy4) ?rdz4
              case rdy4 =>
                go_simp
                rfl
              simp only [List.setIfInBounds_toArray, List.set_cons_zero, List.set_cons_succ]
              refine take_op 5 (v := ?rdv5) rfl (by kernel_rfl) (fun _ _ _ h => h) (by rfl) hS2 (fun w' hS' => ?rdy5) ?rdz5
              case rdy5 =>
                go_simp
                rfl
              simp only [List.setIfInBounds_toArray, List.set_cons_zero, List.set_cons_succ]
              refine take_op 6 (v := ?rdv6) rfl (by kernel_rfl) (fun _ _ _ h => h) (by rfl) hS2 (fun w' hS' => ?rdy6) ?rdz6
              case rdy6 =>
                have a0 := (kiB.below hS' kiB.lt).cell (i := 0) rfl
                have a1 := (kiB.below hS' kiB.lt).cell (i := 1) rfl
                have a2 := (kiB.below hS' kiB.lt).cell (i := 2) rfl
                have pk := (hBr.trans (hS'.mono hBr.size)).cell (p := ⟨ba, oa + k, none⟩) hba |>.trans (hcaM.out k hkn)
                have pb := (hBr.trans (hS'.mono hBr.size)).cell (p := ⟨ba, oa + b, none⟩) hba |>.trans (hcaM.out b hbn)
                go_simp
                rfl
              simp only [List.setIfInBounds_toArray, List.set_cons_zero, List.set_cons_succ]
              refine take_op 7 (v := ?rdv7) rfl (by kernel_rfl) (fun _ _ _ h => h) (by rfl) hS2 (fun w' hS' => ?rdy7) ?rdz7
              case rdy7 =>
                go_simp
                rfl
              simp only [List.setIfInBounds_toArray, List.set_cons_zero, List.set_cons_succ]
              refine take_op 8 (v := ?rdv8) rfl (by kernel_rfl) (fun _ _ _ h => h) (by rfl) hS2 (fun w' hS' => ?rdy8) ?rdz8
              case rdy8 =>
                go_simp
                try go_ints
                first
                | rfl
                | rw [if_pos ⟨by omega, by omega⟩]
              simp only [List.setIfInBounds_toArray, List.set_cons_zero, List.set_cons_succ]
              refine take_op 9 (v := ?rdv9) rfl (by kernel_rfl) (fun _ _ _ h => h) (by rfl) hS2 (fun w' hS' => ?rdy9) ?rdz9
              case rdy9 =>
                have a0 := (kiB.below hS' kiB.lt).cell (i := 0) rfl
                have a1 := (kiB.below hS' kiB.lt).cell (i := 1) rfl
                have a2 := (kiB.below hS' kiB.lt).cell (i := 2) rfl
                have pk := (hBr.trans (hS'.mono hBr.size)).cell (p := ⟨ba, oa + k, none⟩) hba |>.trans (hcaM.out k hkn)
                have pb := (hBr.trans (hS'.mono hBr.size)).cell (p := ⟨ba, oa + b, none⟩) hba |>.trans (hcaM.out b hbn)
                go_simp
                rfl
              simp only [List.setIfInBounds_toArray, List.set_cons_zero, List.set_cons_succ]
              refine take_op 10 (v := ?rdv10) rfl (by kernel_rfl) (fun _ _ _ h => h) (by rfl) hS2 (fun w' hS' => ?rdy10) ?rdz10
              case rdy10 =>
                go_simp
                rfl
              simp only [List.setIfInBounds_toArray, List.set_cons_zero, List.set_cons_succ]
              refine take_op 11 (v := ?rdv11) rfl (by kernel_rfl) (fun _ _ _ h => h) (by rfl) hS2 (fun w' hS' => ?rdy11) ?rdz11
              case rdy11 =>
                have a0 := (kiB.below hS' kiB.lt).cell (i := 0) rfl
                have a1 := (kiB.below hS' kiB.lt).cell (i := 1) rfl
                have a2 := (kiB.below hS' kiB.lt).cell (i := 2) rfl
                have pk := (hBr.trans (hS'.mono hBr.size)).cell (p := ⟨ba, oa + k, none⟩) hba |>.trans (hcaM.out k hkn)
                have pb := (hBr.trans (hS'.mono hBr.size)).cell (p := ⟨ba, oa + b, none⟩) hba |>.trans (hcaM.out b hbn)
                go_simp
                rfl
              simp only [List.setIfInBounds_toArray, List.set_cons_zero, List.set_cons_succ]
              refine take_op 12 (v := ?rdv12) rfl (by kernel_rfl) (fun _ _ _ h => h) (by rfl) hS2 (fun w' hS' => ?rdy12) ?rdz12
              case rdy12 =>
                go_simp
                rfl
              simp only [List.setIfInBounds_toArray, List.set_cons_zero, List.set_cons_succ]
              refine take_op 13 (v := ?rdv13) rfl (by kernel_rfl) (fun _ _ _ h => h) (by rfl) hS2 (fun w' hS' => ?rdy13) ?rdz13
              case rdy13 =>
                go_simp
                try go_ints
                first
                | rfl
                | rw [if_pos ⟨by omega, by omega⟩]
              simp only [List.setIfInBounds_toArray, List.set_cons_zero, List.set_cons_succ]
              refine take_op 14 (v := ?rdv14) rfl (by kernel_rfl) (fun _ _ _ h => h) (by rfl) hS2 (fun w' hS' => ?rdy14) ?rdz14
              case rdy14 =>
                have a0 := (kiB.below hS' kiB.lt).cell (i := 0) rfl
                have a1 := (kiB.below hS' kiB.lt).cell (i := 1) rfl
                have a2 := (kiB.below hS' kiB.lt).cell (i := 2) rfl
                have pk := (hBr.trans (hS'.mono hBr.size)).cell (p := ⟨ba, oa + k, none⟩) hba |>.trans (hcaM.out k hkn)
                have pb := (hBr.trans (hS'.mono hBr.size)).cell (p := ⟨ba, oa + b, none⟩) hba |>.trans (hcaM.out b hbn)
                go_simp
                rfl
              simp only [List.setIfInBounds_toArray, List.set_cons_zero, List.set_cons_succ]
              refine take_op 15 (v := .bool false) rfl (by kernel_rfl) (fun _ _ _ h => h) (by rfl) hS2 (fun w' hS' => ?rdy15) ?rdz15
              case rdy15 =>
                go_simp
                try simp only [e1]
              simp only [List.setIfInBounds_toArray, List.set_cons_zero, List.set_cons_succ]
              refine take_op 16 (v := ?rdv16) rfl (by kernel_rfl) (fun _ _ _ h => h) (by rfl) hS2 (fun w' hS' => ?rdy16) ?rdz16
              case rdy16 =>
                go_simp
                rfl
              simp only [List.setIfInBounds_toArray, List.set_cons_zero, List.set_cons_succ]
              refine take_op 17 (v := ?rdv17) rfl (by kernel_rfl) (fun _ _ _ h => h) (by rfl) hS2 (fun w' hS' => ?rdy17) ?rdz17
              case rdy17 =>
                go_simp
                rfl
              simp only [List.setIfInBounds_toArray, List.set_cons_zero, List.set_cons_succ]
              refine take_op 18 (v := ?rdv18) rfl (by kernel_rfl) (fun _ _ _ h => h) (by rfl) hS2 (fun w' hS' => ?rdy18) ?rdz18
              case rdy18 =>
                have a0 := (kiB.below hS' kiB.lt).cell (i := 0) rfl
                have a1 := (kiB.below hS' kiB.lt).cell (i := 1) rfl
                have a2 := (kiB.below hS' kiB.lt).cell (i := 2) rfl
                have pk := (hBr.trans (hS'.mono hBr.size)).cell (p := ⟨ba, oa + k, none⟩) hba |>.trans (hcaM.out k hkn)
                have pb := (hBr.trans (hS'.mono hBr.size)).cell (p := ⟨ba, oa + b, none⟩) hba |>.trans (hcaM.out b hbn)
                go_simp
                rfl
              simp only [List.setIfInBounds_toArray, List.set_cons_zero, List.set_cons_succ]
              refine take_op 19 (v := ?rdv19) rfl (by kernel_rfl) (fun _ _ _ h => h) (by rfl) hS2 (fun w' hS' => ?rdy19) ?rdz19
              case rdy19 =>
                go_simp
                rfl
              simp only [List.setIfInBounds_toArray, List.set_cons_zero, List.set_cons_succ]
              refine take_op 20 (v := ?rdv20) rfl (by kernel_rfl) (fun _ _ _ h => h) (by rfl) hS2 (fun w' hS' => ?rdy20) ?rdz20
              case rdy20 =>
                go_simp
                try go_ints
                first
                | rfl
                | rw [if_pos ⟨by omega, by omega⟩]
              simp only [List.setIfInBounds_toArray, List.set_cons_zero, List.set_cons_succ]
              refine take_op 21 (v := ?rdv21) rfl (by kernel_rfl) (fun _ _ _ h => h) (by rfl) hS2 (fun w' hS' => ?rdy21) ?rdz21
              case rdy21 =>
                have a0 := (kiB.below hS' kiB.lt).cell (i := 0) rfl
                have a1 := (kiB.below hS' kiB.lt).cell (i := 1) rfl
                have a2 := (kiB.below hS' kiB.lt).cell (i := 2) rfl
                have pk := (hBr.trans (hS'.mono hBr.size)).cell (p := ⟨ba, oa + k, none⟩) hba |>.trans (hcaM.out k hkn)
                have pb := (hBr.trans (hS'.mono hBr.size)).cell (p := ⟨ba, oa + b, none⟩) hba |>.trans (hcaM.out b hbn)
                go_simp
                rfl
              simp only [List.setIfInBounds_toArray, List.set_cons_zero, List.set_cons_succ]
              refine take_op 22 (v := ?rdv22) rfl (by kernel_rfl) (fun _ _ _ h => h) (by rfl) hS2 (fun w' hS' => ?rdy22) ?rdz22
              case rdy22 =>
                go_simp
                rfl
              simp only [List.setIfInBounds_toArray, List.set_cons_zero, List.set_cons_succ]
              refine take_op 23 (v := ?rdv23) rfl (by kernel_rfl) (fun _ _ _ h => h) (by rfl) hS2 (fun w' hS' => ?rdy23) ?rdz23
              case rdy23 =>
                have a0 := (kiB.below hS' kiB.lt).cell (i := 0) rfl
                have a1 := (kiB.below hS' kiB.lt).cell (i := 1) rfl
                have a2 := (kiB.below hS' kiB.lt).cell (i := 2) rfl
                have pk := (hBr.trans (hS'.mono hBr.size)).cell (p := ⟨ba, oa + k, none⟩) hba |>.trans (hcaM.out k hkn)
                have pb := (hBr.trans (hS'.mono hBr.size)).cell (p := ⟨ba, oa + b, none⟩) hba |>.trans (hcaM.out b hbn)
                go_simp
                rfl
              simp only [List.setIfInBounds_toArray, List.set_cons_zero, List.set_cons_succ]
              refine take_op 24 (v := ?rdv24) rfl (by kernel_rfl) (fun _ _ _ h => h) (by rfl) hS2 (fun w' hS' => ?rdy24) ?rdz24
              case rdy24 =>
                go_simp
                rfl
              simp only [List.setIfInBounds_toArray, List.set_cons_zero, List.set_cons_succ]
              refine take_op 25 (v := ?rdv25) rfl (by kernel_rfl) (fun _ _ _ h => h) (by rfl) hS2 (fun w' hS' => ?rdy25) ?rdz25
              case rdy25 =>
                go_simp
                try go_ints
                first
                | rfl
                | rw [if_pos ⟨by omega, by omega⟩]
              simp only [List.setIfInBounds_toArray, List.set_cons_zero, List.set_cons_succ]
              refine take_op 26 (v := ?rdv26) rfl (by kernel_rfl) (fun _ _ _ h => h) (by rfl) hS2 (fun w' hS' => ?rdy26) ?rdz26
              case rdy26 =>
                have a0 := (kiB.below hS' kiB.lt).cell (i := 0) rfl
                have a1 := (kiB.below hS' kiB.lt).cell (i := 1) rfl
                have a2 := (kiB.below hS' kiB.lt).cell (i := 2) rfl
                have pk := (hBr.trans (hS'.mono hBr.size)).cell (p := ⟨ba, oa + k, none⟩) hba |>.trans (hcaM.out k hkn)
                have pb := (hBr.trans (hS'.mono hBr.size)).cell (p := ⟨ba, oa + b, none⟩) hba |>.trans (hcaM.out b hbn)
                go_simp
                rfl
              simp only [List.setIfInBounds_toArray, List.set_cons_zero, List.set_cons_succ]
              refine take_op 27 (v := .bool true) rfl (by kernel_rfl) (fun _ _ _ h => h) (by rfl) hS2 (fun w' hS' => ?rdy27) ?rdz27
              case rdy27 =>
                go_simp
                try simp only [e2]
              simp only [List.setIfInBounds_toArray, List.set_cons_zero, List.set_cons_succ]
              refine take_op 28 (v := ?rdv28) rfl (by kernel_rfl) (fun _ _ _ h => h) (by rfl) hS2 (fun w' hS' => ?rdy28) ?rdz28
              case rdy28 =>
                go_simp
                rfl
              simp only [List.setIfInBounds_toArray, List.set_cons_zero, List.set_cons_succ]
              refine take_op 29 (v := ?rdv29) rfl (by kernel_rfl) (fun _ _ _ h => h) (by rfl) hS2 (fun w' hS' => ?rdy29) ?rdz29
              case rdy29 =>
                go_simp
                rfl
              simp only [List.setIfInBounds_toArray, List.set_cons_zero, List.set_cons_succ]
              refine take_op 30 (v := ?rdv30) rfl (by kernel_rfl) (fun _ _ _ h => h) (by rfl) hS2 (fun w' hS' => ?rdy30) ?rdz30
              case rdy30 =>
                go_simp
                rfl
              simp only [List.setIfInBounds_toArray, List.set_cons_zero, List.set_cons_succ]
              refine take_op 31 (v := .bool true) rfl (by kernel_rfl) (fun _ _ _ h => h) (by rfl) hS2 (fun w' hS' => ?rdy31) ?rdz31
              case rdy31 =>
                go_simp
                try simp only [e3]
              simp only [List.setIfInBounds_toArray, List.set_cons_zero, List.set_cons_succ]
              refine take_op 32 (v := ?rdv32) rfl (by kernel_rfl) (fun _ _ _ h => h) (by rfl) hS2 (fun w' hS' => ?rdy32) ?rdz32
              case rdy32 =>
                go_simp
                rfl
              simp only [List.setIfInBounds_toArray, List.set_cons_zero, List.set_cons_succ]
              refine take_op 33 (v := ?rdv33) rfl (by kernel_rfl) (fun _ _ _ h => h) (by rfl) hS2 (fun w' hS' => ?rdy33) ?rdz33
              case rdy33 =>
                go_simp
                rfl
              simp only [List.setIfInBounds_toArray, List.set_cons_zero, List.set_cons_succ]
              refine take_op 34 (v := ?rdv34) rfl (by kernel_rfl) (fun _ _ _ h => h) (by rfl) hS2 (fun w' hS' => ?rdy34) ?rdz34
              case rdy34 =>
                go_simp
                rfl
              simp only [List.setIfInBounds_toArray, List.set_cons_zero, List.set_cons_succ]
              refine done_ops (by kernel_rfl) ?_
              go_wp2_with fail
              go_roundw
              case rel => exact ⟨k + 1, by omega, by go_num, by rw [hsn2.out], hBw.trans (hS2.mono hBw.size)⟩
              case measure => simp [intOf]; omega
            · have hsn2 := Lib.hid (show lowTo pw mm i (k + 1) = b by rw [hsn.out, if_neg (by simp [better_iff, h6, h7])])
              have e3 : decide ((k : Int) < (b : Int)) = false := decide_eq_false (by omega)
              go_wp2_with fail
              refine plain_region (fun W' => Below wr.heap.size wr W') 35 35 (by kernel_rfl) rfl ?_
              simp only [Array.replicate_succ, Array.replicate_zero, List.push_toArray, List.nil_append, List.cons_append]
              refine take_op 0 (v := ?rev0) rfl (by kernel_rfl) (fun _ _ _ h => h) (by rfl) hS (fun w' hS' => ?rey0) ?rez0
              case rey0 =>
                have a0 := (kiB.below hS' kiB.lt).cell (i := 0) rfl
                have a1 := (kiB.below hS' kiB.lt).cell (i := 1) rfl
                have a2 := (kiB.below hS' kiB.lt).cell (i := 2) rfl
                have pk := (hBr.trans (hS'.mono hBr.size)).cell (p := ⟨ba, oa + k, none⟩) hba |>.trans (hcaM.out k hkn)
                have pb := (hBr.trans (hS'.mono hBr.size)).cell (p := ⟨ba, oa + b, none⟩) hba |>.trans (hcaM.out b hbn)
                go_simp
                rfl
              simp only [List.setIfInBounds_toArray, List.set_cons_zero, List.set_cons_succ]
              refine take_op 1 (v := ?rev1) rfl (by kernel_rfl) (fun _ _ _ h => h) (by rfl) hS (fun w' hS' => ?rey1) ?rez1
              case rey1 =>
                go_simp
                rfl
              simp only [List.setIfInBounds_toArray, List.set_cons_zero, List.set_cons_succ]
              refine take_op 2 (v := ?rev2) rfl (by kernel_rfl) (fun _ _ _ h => h) (by rfl) hS (fun w' hS' => ?rey2) ?rez2
              case rey2 =>
                go_simp
                rfl
              simp only [List.setIfInBounds_toArray, List.set_cons_zero, List.set_cons_succ]
              refine step_op 3 (by kernel_rfl) rfl (fun K hK => ?_)
              rw [if_pos (by rfl)]
              go_simp
              refine (near_any pw ph (some ⟨ba, oa, none⟩) c n h1 h2 i k (by omega) (by omega) false true hnv _).mono ?_
              rintro e' W2 ⟨rfl, hb2⟩
              have hS2 := hS.trans (hb2.mono hS.size)
              refine hK.out _ _ (fun h => hS2) ?_
              clear hK K
              try simp only [Act.put, List.setIfInBounds_toArray, List.set_cons_zero, List.set_cons_succ]
              refine take_op 4 (v := ?rev4) rfl (by kernel_rfl) (fun _ _ _ h => h) (by rfl) hS2 (fun w' hS' => ?rey4) ?rez4
              case rey4 =>
                go_simp
                rfl
              simp only [List.setIfInBounds_toArray, List.set_cons_zero, List.set_cons_succ]
              refine take_op 5 (v := ?rev5) rfl (by kernel_rfl) (fun _ _ _ h => h) (by rfl) hS2 (fun w' hS' => ?rey5) ?rez5
              case rey5 =>
                go_simp
                rfl
              simp only [List.setIfInBounds_toArray, List.set_cons_zero, List.set_cons_succ]
              refine take_op 6 (v := ?rev6) rfl (by kernel_rfl) (fun _ _ _ h => h) (by rfl) hS2 (fun w' hS' => ?rey6) ?rez6
              case rey6 =>
                have a0 := (kiB.below hS' kiB.lt).cell (i := 0) rfl
                have a1 := (kiB.below hS' kiB.lt).cell (i := 1) rfl
                have a2 := (kiB.below hS' kiB.lt).cell (i := 2) rfl
                have pk := (hBr.trans (hS'.mono hBr.size)).cell (p := ⟨ba, oa + k, none⟩) hba |>.trans (hcaM.out k hkn)
                have pb := (hBr.trans (hS'.mono hBr.size)).cell (p := ⟨ba, oa + b, none⟩) hba |>.trans (hcaM.out b hbn)
                go_simp
                rfl
              simp only [List.setIfInBounds_toArray, List.set_cons_zero, List.set_cons_succ]
              refine take_op 7 (v := ?rev7) rfl (by kernel_rfl) (fun _ _ _ h => h) (by rfl) hS2 (fun w' hS' => ?rey7) ?rez7
              case rey7 =>
                go_simp
                rfl
              simp only [List.setIfInBounds_toArray, List.set_cons_zero, List.set_cons_succ]
              refine take_op 8 (v := ?rev8) rfl (by kernel_rfl) (fun _ _ _ h => h) (by rfl) hS2 (fun w' hS' => ?rey8) ?rez8
              case rey8 =>
                go_simp
                try go_ints
                first
                | rfl
                | rw [if_pos ⟨by omega, by omega⟩]
              simp only [List.setIfInBounds_toArray, List.set_cons_zero, List.set_cons_succ]
              refine take_op 9 (v := ?rev9) rfl (by kernel_rfl) (fun _ _ _ h => h) (by rfl) hS2 (fun w' hS' => ?rey9) ?rez9
              case rey9 =>
                have a0 := (kiB.below hS' kiB.lt).cell (i := 0) rfl
                have a1 := (kiB.below hS' kiB.lt).cell (i := 1) rfl
                have a2 := (kiB.below hS' kiB.lt).cell (i := 2) rfl
                have pk := (hBr.trans (hS'.mono hBr.size)).cell (p := ⟨ba, oa + k, none⟩) hba |>.trans (hcaM.out k hkn)
                have pb := (hBr.trans (hS'.mono hBr.size)).cell (p := ⟨ba, oa + b, none⟩) hba |>.trans (hcaM.out b hbn)
                go_simp
                rfl
              simp only [List.setIfInBounds_toArray, List.set_cons_zero, List.set_cons_succ]
              refine take_op 10 (v := ?rev10) rfl (by kernel_rfl) (fun _ _ _ h => h) (by rfl) hS2 (fun w' hS' => ?rey10) ?rez10
              case rey10 =>
                go_simp
                rfl
              simp only [List.setIfInBounds_toArray, List.set_cons_zero, List.set_cons_succ]
              refine take_op 11 (v := ?rev11) rfl (by kernel_rfl) (fun _ _ _ h => h) (by rfl) hS2 (fun w' hS' => ?rey11) ?rez11
              case rey11 =>
                have a0 := (kiB.below hS' kiB.lt).cell (i := 0) rfl
                have a1 := (kiB.below hS' kiB.lt).cell (i := 1) rfl
                have a2 := (kiB.below hS' kiB.lt).cell (i := 2) rfl
                have pk := (hBr.trans (hS'.mono hBr.size)).cell (p := ⟨ba, oa + k, none⟩) hba |>.trans (hcaM.out k hkn)
                have pb := (hBr.trans (hS'.mono hBr.size)).cell (p := ⟨ba, oa + b, none⟩) hba |>.trans (hcaM.out b hbn)
                go_simp
                rfl
              simp only [List.setIfInBounds_toArray, List.set_cons_zero, List.set_cons_succ]
              refine take_op 12 (v := ?rev12) rfl (by kernel_rfl) (fun _ _ _ h => h) (by rfl) hS2 (fun w' hS' => ?rey12) ?rez12
              case rey12 =>
                go_simp
                rfl
              simp only [List.setIfInBounds_toArray, List.set_cons_zero, List.set_cons_succ]
              refine take_op 13 (v := ?rev13) rfl (by kernel_rfl) (fun _ _ _ h => h) (by rfl) hS2 (fun w' hS' => ?rey13) ?rez13
              case rey13 =>
                go_simp
                try go_ints
                first
                | rfl
                | rw [if_pos ⟨by omega, by omega⟩]
              simp only [List.setIfInBounds_toArray, List.set_cons_zero, List.set_cons_succ]
              refine take_op 14 (v := ?rev14) rfl (by kernel_rfl) (fun _ _ _ h => h) (by rfl) hS2 (fun w' hS' => ?rey14) ?rez14
              case rey14 =>
                have a0 := (kiB.below hS' kiB.lt).cell (i := 0) rfl
                have a1 := (kiB.below hS' kiB.lt).cell (i := 1) rfl
                have a2 := (kiB.below hS' kiB.lt).cell (i := 2) rfl
                have pk := (hBr.trans (hS'.mono hBr.size)).cell (p := ⟨ba, oa + k, none⟩) hba |>.trans (hcaM.out k hkn)
                have pb := (hBr.trans (hS'.mono hBr.size)).cell (p := ⟨ba, oa + b, none⟩) hba |>.trans (hcaM.out b hbn)
                go_simp
                rfl
              simp only [List.setIfInBounds_toArray, List.set_cons_zero, List.set_cons_succ]
              refine take_op 15 (v := .bool false) rfl (by kernel_rfl) (fun _ _ _ h => h) (by rfl) hS2 (fun w' hS' => ?rey15) ?rez15
              case rey15 =>
                go_simp
                try simp only [e1]
              simp only [List.setIfInBounds_toArray, List.set_cons_zero, List.set_cons_succ]
              refine take_op 16 (v := ?rev16) rfl (by kernel_rfl) (fun _ _ _ h => h) (by rfl) hS2 (fun w' hS' => ?rey16) ?rez16
              case rey16 =>
                go_simp
                rfl
              simp only [List.setIfInBounds_toArray, List.set_cons_zero, List.set_cons_succ]
              refine take_op 17 (v := ?rev17) rfl (by kernel_rfl) (fun _ _ _ h => h) (by rfl) hS2 (fun w' hS' => ?rey17) ?rez17
              case rey17 =>
                go_simp
                rfl
              simp only [List.setIfInBounds_toArray, List.set_cons_zero, List.set_cons_succ]
              refine take_op 18 (v := ?rev18) rfl (by kernel_rfl) (fun _ _ _ h => h) (by rfl) hS2 (fun w' hS' => ?rey18) ?rez18
              case rey18 =>
                have a0 := (kiB.below hS' kiB.lt).cell (i := 0) rfl
                have a1 := (kiB.below hS' kiB.lt).cell (i := 1) rfl
                have a2 := (kiB.below hS' kiB.lt).cell (i := 2) rfl
                have pk := (hBr.trans (hS'.mono hBr.size)).cell (p := ⟨ba, oa + k, none⟩) hba |>.trans (hcaM.out k hkn)
                have pb := (hBr.trans (hS'.mono hBr.size)).cell (p := ⟨ba, oa + b, none⟩) hba |>.trans (hcaM.out b hbn)
                go_simp
                rfl
              simp only [List.setIfInBounds_toArray, List.set_cons_zero, List.set_cons_succ]
              refine take_op 19 (v := ?rev19) rfl (by kernel_rfl) (fun _ _ _ h => h) (by rfl) hS2 (fun w' hS' => ?rey19) ?rez19
              case rey19 =>
                go_simp
                rfl
              simp only [List.setIfInBounds_toArray, List.set_cons_zero, List.set_cons_succ]
              refine take_op 20 (v := ?rev20) rfl (by kernel_rfl) (fun _ _ _ h => h) (by rfl) hS2 (fun w' hS' => ?rey20) ?rez20
              case rey20 =>
                go_simp
                try go_ints
                first
                | rfl
                | rw [if_pos ⟨by omega, by omega⟩]
              simp only [List.setIfInBounds_toArray, List.set_cons_zero, List.set_cons_succ]
              refine take_op 21 (v := ?rev21) rfl (by kernel_rfl) (fun _ _ _ h => h) (by rfl) hS2 (fun w' hS' => ?rey21) ?rez21
              case rey21 =>
                have a0 := (kiB.below hS' kiB.lt).cell (i := 0) rfl
                have a1 := (kiB.below hS' kiB.lt).cell (i := 1) rfl
                have a2 := (kiB.below hS' kiB.lt).cell (i := 2) rfl
                have pk := (hBr.trans (hS'.mono hBr.size)).cell (p := ⟨ba, oa + k, none⟩) hba |>.trans (hcaM.out k hkn)
                have pb := (hBr.trans (hS'.mono hBr.size)).cell (p := ⟨ba, oa + b, none⟩) hba |>.trans (hcaM.out b hbn)
                go_simp
                rfl
              simp only [List.setIfInBounds_toArray, List.set_cons_zero, List.set_cons_succ]
              refine take_op 22 (v := ?rev22) rfl (by kernel_rfl) (fun _ _ _ h => h) (by rfl) hS2 (fun w' hS' => ?rey22) ?rez22
              case rey22 =>
                go_simp
                rfl
              simp only [List.setIfInBounds_toArray, List.set_cons_zero, List.set_cons_succ]
              refine take_op 23 (v := ?rev23) rfl (by kernel_rfl) (fun _ _ _ h => h) (by rfl) hS2 (fun w' hS' => ?rey23) ?rez23
              case rey23 =>
                have a0 := (kiB.below hS' kiB.lt).cell (i := 0) rfl
                have a1 := (kiB.below hS' kiB.lt).cell (i := 1) rfl
                have a2 := (kiB.below hS' kiB.lt).cell (i := 2) rfl
                have pk := (hBr.trans (hS'.mono hBr.size)).cell (p := ⟨ba, oa + k, none⟩) hba |>.trans (hcaM.out k hkn)
                have pb := (hBr.trans (hS'.mono hBr.size)).cell (p := ⟨ba, oa + b, none⟩) hba |>.trans (hcaM.out b hbn)
                go_simp
                rfl
              simp only [List.setIfInBounds_toArray, List.set_cons_zero, List.set_cons_succ]
              refine take_op 24 (v := ?rev24) rfl (by kernel_rfl) (fun _ _ _ h => h) (by rfl) hS2 (fun w' hS' => ?rey24) ?rez24
              case rey24 =>
                go_simp
                rfl
              simp only [List.setIfInBounds_toArray, List.set_cons_zero, List.set_cons_succ]
              refine take_op 25 (v := ?rev25) rfl (by kernel_rfl) (fun _ _ _ h => h) (by rfl) hS2 (fun w' hS' => ?rey25) ?rez25
              case rey25 =>
                go_simp
                try go_ints
                first
                | rfl
                | rw [if_pos ⟨by omega, by omega⟩]
              simp only [List.setIfInBounds_toArray, List.set_cons_zero, List.set_cons_succ]
              refine take_op 26 (v := ?rev26) rfl (by kernel_rfl) (fun _ _ _ h => h) (by rfl) hS2 (fun w' hS' => ?rey26) ?rez26
              case rey26 =>
                have a0 := (kiB.below hS' kiB.lt).cell (i := 0) rfl
                have a1 := (kiB.below hS' kiB.lt).cell (i := 1) rfl
                have a2 := (kiB.below hS' kiB.lt).cell (i := 2) rfl
                have pk := (hBr.trans (hS'.mono hBr.size)).cell (p := ⟨ba, oa + k, none⟩) hba |>.trans (hcaM.out k hkn)
                have pb := (hBr.trans (hS'.mono hBr.size)).cell (p := ⟨ba, oa + b, none⟩) hba |>.trans (hcaM.out b hbn)
                go_simp
                rfl
              simp only [List.setIfInBounds_toArray, List.set_cons_zero, List.set_cons_succ]
              refine take_op 27 (v := .bool true) rfl (by kernel_rfl) (fun _ _ _ h => h) (by rfl) hS2 (fun w' hS' => ?rey27) ?rez27
              case rey27 =>
                go_simp
                try simp only [e2]
              simp only [List.setIfInBounds_toArray, List.set_cons_zero, List.set_cons_succ]
              refine take_op 28 (v := ?rev28) rfl (by kernel_rfl) (fun _ _ _ h => h) (by rfl) hS2 (fun w' hS' => ?rey28) ?rez28
              case rey28 =>
                go_simp
                rfl
              simp only [List.setIfInBounds_toArray, List.set_cons_zero, List.set_cons_succ]
              refine take_op 29 (v := ?rev29) rfl (by kernel_rfl) (fun _ _ _ h => h) (by rfl) hS2 (fun w' hS' => ?rey29) ?rez29
              case rey29 =>
                go_simp
                rfl
              simp only [List.setIfInBounds_toArray, List.set_cons_zero, List.set_cons_succ]
              refine take_op 30 (v := ?rev30) rfl (by kernel_rfl) (fun _ _ _ h => h) (by rfl) hS2 (fun w' hS' => ?rey30) ?rez30
              case rey30 =>
                go_simp
                rfl
              simp only [List.setIfInBounds_toArray, List.set_cons_zero, List.set_cons_succ]
              refine take_op 31 (v := .bool false) rfl (by kernel_rfl) (fun _ _ _ h => h) (by rfl) hS2 (fun w' hS' => ?rey31) ?rez31
              case rey31 =>
                go_simp
                try simp only [e3]
              simp only [List.setIfInBounds_toArray, List.set_cons_zero, List.set_cons_succ]
              refine take_op 32 (v := ?rev32) rfl (by kernel_rfl) (fun _ _ _ h => h) (by rfl) hS2 (fun w' hS' => ?rey32) ?rez32
              case rey32 =>
                go_simp
                rfl
              simp only [List.setIfInBounds_toArray, List.set_cons_zero, List.set_cons_succ]
              refine take_op 33 (v := ?rev33) rfl (by kernel_rfl) (fun _ _ _ h => h) (by rfl) hS2 (fun w' hS' => ?rey33) ?rez33
              case rey33 =>
                go_simp
                rfl
              simp only [List.setIfInBounds_toArray, List.set_cons_zero, List.set_cons_succ]
              refine take_op 34 (v := ?rev34) rfl (by kernel_rfl) (fun _ _ _ h => h) (by rfl) hS2 (fun w' hS' => ?rey34) ?rez34
              case rey34 =>
                go_simp
                rfl
              simp only [List.setIfInBounds_toArray, List.set_cons_zero, List.set_cons_succ]
              refine done_ops (by kernel_rfl) ?_
              go_wp2_with fail
              go_roundw
              case rel => exact ⟨k + 1, by omega, by go_num, by rw [hsn2.out], hBw.trans (hS2.mono hBw.size)⟩
              case measure => simp [intOf]; omega
          · have e2 : (mm k == mm b) = false := beq_eq_false_iff_ne.2 h6
            have hsn2 := Lib.hid (show lowTo pw mm i (k + 1) = b by rw [hsn.out, if_neg (by simp [better_iff, h5, h6])])
            go_wp2_with fail
            refine plain_region (fun W' => Below wr.heap.size wr W') 35 35 (by kernel_rfl) rfl ?_
            simp only [Array.replicate_succ, Array.replicate_zero, List.push_toArray, List.nil_append, List.cons_append]
            refine take_op 0 (v := ?rcv0) rfl (by kernel_rfl) (fun _ _ _ h => h) (by rfl) hS (fun w' hS' => ?rcy0) ?rcz0
            case rcy0 =>
              have a0 := (kiB.below hS' kiB.lt).cell (i := 0) rfl
              have a1 := (kiB.below hS' kiB.lt).cell (i := 1) rfl
              have a2 := (kiB.below hS' kiB.lt).cell (i := 2) rfl
              have pk := (hBr.trans (hS'.mono hBr.size)).cell (p := ⟨ba, oa + k, none⟩) hba |>.trans (hcaM.out k hkn)
              have pb := (hBr.trans (hS'.mono hBr.size)).cell (p := ⟨ba, oa + b, none⟩) hba |>.trans (hcaM.out b hbn)
              go_simp
              rfl
            simp only [List.setIfInBounds_toArray, List.set_cons_zero, List.set_cons_succ]
            refine take_op 1 (v := ?rcv1) rfl (by kernel_rfl) (fun _ _ _ h => h) (by rfl) hS (fun w' hS' => ?rcy1) ?rcz1
            case rcy1 =>
              go_simp
              rfl
            simp only [List.setIfInBounds_toArray, List.set_cons_zero, List.set_cons_succ]
            refine take_op 2 (v := ?rcv2) rfl (by kernel_rfl) (fun _ _ _ h => h) (by rfl) hS (fun w' hS' => ?rcy2) ?rcz2
            case rcy2 =>
              go_simp
              rfl
            simp only [List.setIfInBounds_toArray, List.set_cons_zero, List.set_cons_succ]
            refine step_op 3 (by kernel_rfl) rfl (fun K hK => ?_)
            rw [if_pos (by rfl)]
            go_simp
            refine (near_any pw ph (some ⟨ba, oa, none⟩) c n h1 h2 i k (by omega) (by omega) false true hnv _).mono ?_
            rintro e' W2 ⟨rfl, hb2⟩
            have hS2 := hS.trans (hb2.mono hS.size)
            refine hK.out _ _ (fun h => hS2) ?_
            clear hK K
            try simp only [Act.put, List.setIfInBounds_toArray, List.set_cons_zero, List.set_cons_succ]
            refine take_op 4 (v := ?rcv4) rfl (by kernel_rfl) (fun _ _ _ h => h) (by rfl) hS2 (fun w' hS' => ?rcy4) ?rcz4
            case rcy4 =>
              go_simp
              rfl
            simp only [List.setIfInBounds_toArray, List.set_cons_zero, List.set_cons_succ]
            refine take_op 5 (v := ?rcv5) rfl (by kernel_rfl) (fun _ _ _ h => h) (by rfl) hS2 (fun w' hS' => ?rcy5) ?rcz5
            case rcy5 =>
              go_simp
              rfl
            simp only [List.setIfInBounds_toArray, List.set_cons_zero, List.set_cons_succ]
            refine take_op 6 (v := ?rcv6) rfl (by kernel_rfl) (fun _ _ _ h => h) (by rfl) hS2 (fun w' hS' => ?rcy6) ?rcz6
            case rcy6 =>
              have a0 := (kiB.below hS' kiB.lt).cell (i := 0) rfl
              have a1 := (kiB.below hS' kiB.lt).cell (i := 1) rfl
              have a2 := (kiB.below hS' kiB.lt).cell (i := 2) rfl
              have pk := (hBr.trans (hS'.mono hBr.size)).cell (p := ⟨ba, oa + k, none⟩) hba |>.trans (hcaM.out k hkn)
              have pb := (hBr.trans (hS'.mono hBr.size)).cell (p := ⟨ba, oa + b, none⟩) hba |>.trans (hcaM.out b hbn)
              go_simp
              rfl
            simp only [List.setIfInBounds_toArray, List.set_cons_zero, List.set_cons_succ]
            refine take_op 7 (v := ?rcv7) rfl (by kernel_rfl) (fun _ _ _ h => h) (by rfl) hS2 (fun w' hS' => ?rcy7) ?rcz7
            case rcy7 =>
              go_simp
              rfl
            simp only [List.setIfInBounds_toArray, List.set_cons_zero, List.set_cons_succ]
            refine take_op 8 (v := ?rcv8) rfl (by kernel_rfl) (fun _ _ _ h => h) (by rfl) hS2 (fun w' hS' => ?rcy8) ?rcz8
            case rcy8 =>
              go_simp
              try go_ints
              first
              | rfl
              | rw [if_pos ⟨by omega, by omega⟩]
            simp only [List.setIfInBounds_toArray, List.set_cons_zero, List.set_cons_succ]
            refine take_op 9 (v := ?rcv9) rfl (by kernel_rfl) (fun _ _ _ h => h) (by rfl) hS2 (fun w' hS' => ?rcy9) ?rcz9
            case rcy9 =>
              have a0 := (kiB.below hS' kiB.lt).cell (i := 0) rfl
              have a1 := (kiB.below hS' kiB.lt).cell (i := 1) rfl
              have a2 := (kiB.below hS' kiB.lt).cell (i := 2) rfl
              have pk := (hBr.trans (hS'.mono hBr.size)).cell (p := ⟨ba, oa + k, none⟩) hba |>.trans (hcaM.out k hkn)
              have pb := (hBr.trans (hS'.mono hBr.size)).cell (p := ⟨ba, oa + b, none⟩) hba |>.trans (hcaM.out b hbn)
              go_simp
              rfl
            simp only [List.setIfInBounds_toArray, List.set_cons_zero, List.set_cons_succ]
            refine take_op 10 (v := ?rcv10) rfl (by kernel_rfl) (fun _ _ _ h => h) (by rfl) hS2 (fun w' hS' => ?rcy10) ?rcz10
            case rcy10 =>
              go_simp
              rfl
            simp only [List.setIfInBounds_toArray, List.set_cons_zero, List.set_cons_succ]
            refine take_op 11 (v := ?rcv11) rfl (by kernel_rfl) (fun _ _ _ h => h) (by rfl) hS2 (fun w' hS' => ?rcy11) ?rcz11
            case rcy11 =>
              have a0 := (kiB.below hS' kiB.lt).cell (i := 0) rfl
              have a1 := (kiB.below hS' kiB.lt).cell (i := 1) rfl
              have a2 := (kiB.below hS' kiB.lt).cell (i := 2) rfl
              have pk := (hBr.trans (hS'.mono hBr.size)).cell (p := ⟨ba, oa + k, none⟩) hba |>.trans (hcaM.out k hkn)
              have pb := (hBr.trans (hS'.mono hBr.size)).cell (p := ⟨ba, oa + b, none⟩) hba |>.trans (hcaM.out b hbn)
              go_simp
              rfl
            simp only [List.setIfInBounds_toArray, List.set_cons_zero, List.set_cons_succ]
            refine take_op 12 (v := ?rcv12) rfl (by kernel_rfl) (fun _ _ _ h => h) (by rfl) hS2 (fun w' hS' => ?rcy12) ?rcz12
            case rcy12 =>
              go_simp
              rfl
            simp only [List.setIfInBounds_toArray, List.set_cons_zero, List.set_cons_succ]
            refine take_op 13 (v := ?rcv13) rfl (by kernel_rfl) (fun _ _ _ h => h) (by rfl) hS2 (fun w' hS' => ?rcy13) ?rcz13
            case rcy13 =>
              go_simp
              try go_ints
              first
              | rfl
              | rw [if_pos ⟨by omega, by omega⟩]
            simp only [List.setIfInBounds_toArray, List.set_cons_zero, List.set_cons_succ]
            refine take_op 14 (v := ?rcv14) rfl (by kernel_rfl) (fun _ _ _ h => h) (by rfl) hS2 (fun w' hS' => ?rcy14) ?rcz14
            case rcy14 =>
              have a0 := (kiB.below hS' kiB.lt).cell (i := 0) rfl
              have a1 := (kiB.below hS' kiB.lt).cell (i := 1) rfl
              have a2 := (kiB.below hS' kiB.lt).cell (i := 2) rfl
              have pk := (hBr.trans (hS'.mono hBr.size)).cell (p := ⟨ba, oa + k, none⟩) hba |>.trans (hcaM.out k hkn)
              have pb := (hBr.trans (hS'.mono hBr.size)).cell (p := ⟨ba, oa + b, none⟩) hba |>.trans (hcaM.out b hbn)
              go_simp
              rfl
            simp only [List.setIfInBounds_toArray, List.set_cons_zero, List.set_cons_succ]
            refine take_op 15 (v := .bool false) rfl (by kernel_rfl) (fun _ _ _ h => h) (by rfl) hS2 (fun w' hS' => ?rcy15) ?rcz15
            case rcy15 =>
              go_simp
              try simp only [e1]
            simp only [List.setIfInBounds_toArray, List.set_cons_zero, List.set_cons_succ]
            refine take_op 16 (v := ?rcv16) rfl (by kernel_rfl) (fun _ _ _ h => h) (by rfl) hS2 (fun w' hS' => ?rcy16) ?rcz16
            case rcy16 =>
              go_simp
              rfl
            simp only [List.setIfInBounds_toArray, List.set_cons_zero, List.set_cons_succ]
            refine take_op 17 (v := ?rcv17) rfl (by kernel_rfl) (fun _ _ _ h => h) (by rfl) hS2 (fun w' hS' => ?rcy17) ?rcz17
            case rcy17 =>
              go_simp
              rfl
            simp only [List.setIfInBounds_toArray, List.set_cons_zero, List.set_cons_succ]
            refine take_op 18 (v := ?rcv18) rfl (by kernel_rfl) (fun _ _ _ h => h) (by rfl) hS2 (fun w' hS' => ?rcy18) ?rcz18
            case rcy18 =>
              have a0 := (kiB.below hS' kiB.lt).cell (i := 0) rfl
              have a1 := (kiB.below hS' kiB.lt).cell (i := 1) rfl
              have a2 := (kiB.below hS' kiB.lt).cell (i := 2) rfl
              have pk := (hBr.trans (hS'.mono hBr.size)).cell (p := ⟨ba, oa + k, none⟩) hba |>.trans (hcaM.out k hkn)
              have pb := (hBr.trans (hS'.mono hBr.size)).cell (p := ⟨ba, oa + b, none⟩) hba |>.trans (hcaM.out b hbn)
              go_simp
              rfl
            simp only [List.setIfInBounds_toArray, List.set_cons_zero, List.set_cons_succ]
            refine take_op 19 (v := ?rcv19) rfl (by kernel_rfl) (fun _ _ _ h => h) (by rfl) hS2 (fun w' hS' => ?rcy19) ?rcz19
            case rcy19 =>
              go_simp
              rfl
            simp only [List.setIfInBounds_toArray, List.set_cons_zero, List.set_cons_succ]
            refine take_op 20 (v := ?rcv20) rfl (by kernel_rfl) (fun _ _ _ h => h) (by rfl) hS2 (fun w' hS' => ?rcy20) ?rcz20
            case rcy20 =>
              go_simp
              try go_ints
              first
              | rfl
              | rw [if_pos ⟨by omega, by omega⟩]
            simp only [List.setIfInBounds_toArray, List.set_cons_zero, List.set_cons_succ]
            refine take_op 21 (v := ?rcv21) rfl (by kernel_rfl) (fun _ _ _ h => h) (by rfl) hS2 (fun w' hS' => ?rcy21) ?rcz21
            case rcy21 =>
              have a0 := (kiB.below hS' kiB.lt).cell (i := 0) rfl
              have a1 := (kiB.below hS' kiB.lt).cell (i := 1) rfl
              have a2 := (kiB.below hS' kiB.lt).cell (i := 2) rfl
              have pk := (hBr.trans (hS'.mono hBr.size)).cell (p := ⟨ba, oa + k, none⟩) hba |>.trans (hcaM.out k hkn)
              have pb := (hBr.trans (hS'.mono hBr.size)).cell (p := ⟨ba, oa + b, none⟩) hba |>.trans (hcaM.out b hbn)
              go_simp
              rfl
            simp only [List.setIfInBounds_toArray, List.set_cons_zero, List.set_cons_succ]
            refine take_op 22 (v := ?rcv22) rfl (by kernel_rfl) (fun _ _ _ h => h) (by rfl) hS2 (fun w' hS' => ?rcy22) ?rcz22
            case rcy22 =>
              go_simp
              rfl
            simp only [List.setIfInBounds_toArray, List.set_cons_zero, List.set_cons_succ]
            refine take_op 23 (v := ?rcv23) rfl (by kernel_rfl) (fun _ _ _ h => h) (by rfl) hS2 (fun w' hS' => ?rcy23) ?rcz23
            case rcy23 =>
              have a0 := (kiB.below hS' kiB.lt).cell (i := 0) rfl
              have a1 := (kiB.below hS' kiB.lt).cell (i := 1) rfl
              have a2 := (kiB.below hS' kiB.lt).cell (i := 2) rfl
              have pk := (hBr.trans (hS'.mono hBr.size)).cell (p := ⟨ba, oa + k, none⟩) hba |>.trans (hcaM.out k hkn)
              have pb := (hBr.trans (hS'.mono hBr.size)).cell (p := ⟨ba, oa + b, none⟩) hba |>.trans (hcaM.out b hbn)
              go_simp
              rfl
            simp only [List.setIfInBounds_toArray, List.set_cons_zero, List.set_cons_succ]
            refine take_op 24 (v := ?rcv24) rfl (by kernel_rfl) (fun _ _ _ h => h) (by rfl) hS2 (fun w' hS' => ?rcy24) ?rcz24
            case rcy24 =>
              go_simp
              rfl
            simp only [List.setIfInBounds_toArray, List.set_cons_zero, List.set_cons_succ]
            refine take_op 25 (v := ?rcv25) rfl (by kernel_rfl) (fun _ _ _ h => h) (by rfl) hS2 (fun w' hS' => ?rcy25) ?rcz25
            case rcy25 =>
              go_simp
              try go_ints
              first
              | rfl
              | rw [if_pos ⟨by omega, by omega⟩]
            simp only [List.setIfInBounds_toArray, List.set_cons_zero, List.set_cons_succ]
            refine take_op 26 (v := ?rcv26) rfl (by kernel_rfl) (fun _ _ _ h => h) (by rfl) hS2 (fun w' hS' => ?rcy26) ?rcz26
            case rcy26 =>
              have a0 := (kiB.below hS' kiB.lt).cell (i := 0) rfl
              have a1 := (kiB.below hS' kiB.lt).cell (i := 1) rfl
              have a2 := (kiB.below hS' kiB.lt).cell (i := 2) rfl
              have pk := (hBr.trans (hS'.mono hBr.size)).cell (p := ⟨ba, oa + k, none⟩) hba |>.trans (hcaM.out k hkn)
              have pb := (hBr.trans (hS'.mono hBr.size)).cell (p := ⟨ba, oa + b, none⟩) hba |>.trans (hcaM.out b hbn)
              go_simp
              rfl
            simp only [List.setIfInBounds_toArray, List.set_cons_zero, List.set_cons_succ]
            refine take_op 27 (v := .bool false) rfl (by kernel_rfl) (fun _ _ _ h => h) (by rfl) hS2 (fun w' hS' => ?rcy27) ?rcz27
            case rcy27 =>
              go_simp
              try simp only [e2]
            simp only [List.setIfInBounds_toArray, List.set_cons_zero, List.set_cons_succ]
            refine take_op 28 (v := ?rcv28) rfl (by kernel_rfl) (fun _ _ _ h => h) (by rfl) hS2 (fun w' hS' => ?rcy28) ?rcz28
            case rcy28 =>
              go_simp
              rfl
            simp only [List.setIfInBounds_toArray, List.set_cons_zero, List.set_cons_succ]
            refine pass_op 29 rfl (by kernel_rfl) (fun _ _ _ h => h) (by rfl) hS2 ?_
            simp only [List.setIfInBounds_toArray, List.set_cons_zero, List.set_cons_succ]
            refine pass_op 30 rfl (by kernel_rfl) (fun _ _ _ h => h) (by rfl) hS2 ?_
            simp only [List.setIfInBounds_toArray, List.set_cons_zero, List.set_cons_succ]
            refine pass_op 31 rfl (by kernel_rfl) (fun _ _ _ h => h) (by rfl) hS2 ?_
            simp only [List.setIfInBounds_toArray, List.set_cons_zero, List.set_cons_succ]
            refine take_op 32 (v := ?rcv32) rfl (by kernel_rfl) (fun _ _ _ h => h) (by rfl) hS2 (fun w' hS' => ?rcy32) ?rcz32
            case rcy32 =>
              go_simp
              rfl
            simp only [List.setIfInBounds_toArray, List.set_cons_zero, List.set_cons_succ]
            refine take_op 33 (v := ?rcv33) rfl (by kernel_rfl) (fun _ _ _ h => h) (by rfl) hS2 (fun w' hS' => ?rcy33) ?rcz33
            case rcy33 =>
              go_simp
              rfl
            simp only [List.setIfInBounds_toArray, List.set_cons_zero, List.set_cons_succ]
            refine take_op 34 (v := ?rcv34) rfl (by kernel_rfl) (fun _ _ _ h => h) (by rfl) hS2 (fun w' hS' => ?rcy34) ?rcz34
            case rcy34 =>
              go_simp
              rfl
            simp only [List.setIfInBounds_toArray, List.set_cons_zero, List.set_cons_succ]
            refine done_ops (by kernel_rfl) ?_
            go_wp2_with fail
            go_roundw
            case rel => exact ⟨k + 1, by omega, by go_num, by rw [hsn2.out], hBw.trans (hS2.mono hBw.size)⟩
            case measure => simp [intOf]; omega
    · have hkk : n = k := by omega
      subst hkk
      rw [hfin.out]
      go_wp2_with fail
      go_ret
      exact ⟨rfl, hBr⟩

end Go.Proofs.Ytjglfeonoiljlaa

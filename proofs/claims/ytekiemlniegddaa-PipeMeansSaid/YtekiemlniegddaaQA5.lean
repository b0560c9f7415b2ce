/- Contracts and laws (ImgU). -/
import Derived.Test.YtekiemlniegddaaQA4
namespace Go.Proofs.Ytekiemlniegddaa
open Go Go.RowKit Go.Shelf
set_option linter.unusedVariables false
set_option linter.unusedSimpArgs false

theorem side1 (n : Int) (r : Bool) (h : Hid (sideB n = r)) (w : World) :
    Calls Try.prog 149 #[.int .i64 n] w fun e w' => e = .returned (.bool r) ∧ w = w' := by
  rw [← h.out]; exact side_any n w

set_option maxRecDepth 100000 in
set_option maxHeartbeats 1000000 in
theorem ValidShape_any (sw sh : Int) (as' : Option Addr) (cs ns : Nat) (bits : List Bool) (hbn : Hid (bits.length = ns)) (r : Bool) (hres : Hid (shapeOk sw sh bits = r)) (w : World) (hm : ns ≤ 9223372036854775807) (hrb : RdB w.heap.size w as' bits) :
    Calls Try.prog 122 #[imv sw sh as' ns cs] w fun e w' => e = .returned (.bool r) ∧ Below w.heap.size w w' := by
  obtain ⟨v1, hv1⟩ : ∃ v, sideB sw = v := ⟨_, rfl⟩
  obtain ⟨v2, hv2⟩ : ∃ v, sideB sh = v := ⟨_, rfl⟩
  have hres' : (((v1 && v2) && decide ((ns : Int) = sw * sh)) && bits.any (fun x => decide (true = x))) = r := by
    rw [← hv1, ← hv2, ← hres.out]; unfold shapeOk sidesB; rw [hbn.out]
  have h1 := Lib.hid hv1
  have h2 := Lib.hid hv2
  have hr := Lib.hid hres'
  clear hv1 hv2 hres'
  have hB : Below w.heap.size w (w.alloc (.cells #[.int .i64 sw, .int .i64 sh, .slice as' ns cs] 74)) := below_al (Below.refl _ _) _
  have k := Blk.new w 74 #[.int .i64 sw, .int .i64 sh, .slice as' ns cs]
  have m0 := k.cell (i := 0) rfl
  have m1 := k.cell (i := 1) rfl
  have m2 := k.cell (i := 2) rfl
  cases v1 with
  | false =>
    go_enter Try.func122, Try.ntmps122
    go_wp2_with fail
    refine (side1 sw false h1 _).mono ?_
    rintro e w' ⟨rfl, rfl⟩
    go_wp2_with fail
    go_ret
    exact ⟨ret_bool hr.out, hB⟩
  | true =>
    cases v2 with
    | false =>
      go_enter Try.func122, Try.ntmps122
      go_wp2_with fail
      refine (side1 sw true h1 _).mono ?_
      rintro e w' ⟨rfl, rfl⟩
      go_wp2_with fail
      refine (side1 sh false h2 _).mono ?_
      rintro e w' ⟨rfl, rfl⟩
      go_wp2_with fail
      go_ret
      exact ⟨ret_bool hr.out, hB⟩
    | true =>
      have s1 := sideB_true h1.out
      have s2 := sideB_true h2.out
      obtain ⟨p1, p2⟩ := mul_small (a := sw) (b := sh) (m := 5) (n := 5) (by omega) (by omega) (by omega) (by omega)
      clear s1 s2
      by_cases hl : (ns : Int) = sw * sh
      · have hlb : ((ns : Int) != sw * sh) = false := by simp [hl]
        have hr2 := Lib.hid (show bits.any (fun x => decide (true = x)) = r by rw [← hr.out]; simp [hl])
        have hlH := Lib.hid hl
        clear hl
        go_enter Try.func122, Try.ntmps122
        go_wp2_with fail
        refine (side1 sw true h1 _).mono ?_
        rintro e w' ⟨rfl, rfl⟩
        go_wp2_with fail
        refine (side1 sh true h2 _).mono ?_
        rintro e w' ⟨rfl, rfl⟩
        go_wp2_with fail
        obtain ⟨W, hW⟩ : ∃ W, w.alloc (.cells #[.int .i64 sw, .int .i64 sh, .slice as' ns cs] 74) = W := ⟨_, rfl⟩
        rw [hW] at hB k m0 m1 m2 ⊢
        clear hW
        go_loop [3] (fun i => ∃ k : Nat, k ≤ ns ∧ i = .int .i64 (k : Int) ∧ Hid ((bits.take k).any (fun x => decide (true = x)) = false)) (fun i => ns - (intOf i).toNat)
        case atStart => exact ⟨0, Nat.zero_le _, rfl, Lib.hid rfl⟩
        case round =>
          obtain ⟨j, hj, rfl, hall⟩ := hrel
          by_cases hlt : j < ns
          · obtain ⟨b, o, rfl, hb, hc⟩ := rdB_at hrb hbn.out (by omega)
            have hcell := (hB.cell (p := ⟨b, o + j, none⟩) hb).trans (hc j hlt)
            have hs := anyTo_succ (fun x => decide (true = x)) (xs := bits) (k := j) (x := bits[j]?.getD false) (by rw [List.getElem?_eq_getElem (by rw [hbn.out]; exact hlt)]; rfl)
            rw [hall.out, Bool.false_or] at hs
            have hany : decide (true = bits[j]?.getD false) = true → bits.any (fun x => decide (true = x)) = true := by
              intro h
              rw [h] at hs
              rw [← List.take_append_drop (j + 1) bits, List.any_append, hs]; rfl
            generalize bits[j]?.getD false = x at *
            have hsH := Lib.hid hs
            have haH := Lib.hid hany
            clear hc hs hany
            cases x with
            | true =>
              go_wp2_with fail
              go_ret
              exact ⟨ret_bool (by rw [← hr2.out, haH.out rfl]), hB⟩
            | false =>
              go_wp2_with fail
              go_round
              case rel => exact ⟨j + 1, by omega, by go_num, Lib.hid (by rw [hsH.out]; rfl)⟩
              case measure => simp [intOf]; omega
          · have hall2 := Lib.hid (show bits.any (fun x => decide (true = x)) = false by
              have h := hall.out
              rwa [List.take_of_length_le (by have := hbn.out; omega)] at h)
            go_wp2_with fail
            go_ret
            exact ⟨ret_bool (by rw [← hr2.out, hall2.out]), hB⟩
      · have hlb : ((ns : Int) != sw * sh) = true := by simp [hl]
        have hr2 := Lib.hid (show false = r by rw [← hr.out]; simp [hl])
        clear hl
        go_enter Try.func122, Try.ntmps122
        go_wp2_with fail
        refine (side1 sw true h1 _).mono ?_
        rintro e w' ⟨rfl, rfl⟩
        go_wp2_with fail
        refine (side1 sh true h2 _).mono ?_
        rintro e w' ⟨rfl, rfl⟩
        go_wp2_with fail
        go_ret
        exact ⟨ret_bool hr2.out, hB⟩

set_option maxHeartbeats 1000000 in
theorem shaped_any (iw ih : Int) (a : Option Addr) (c n : Nat) (xs : List Int) (hn : Hid (xs.length = n)) (sw sh : Int) (as' : Option Addr) (cs ns : Nat) (bits : List Bool) (hbn : Hid (bits.length = ns)) (v0 v1 : Bool) (h0 : Hid (vld iw ih xs = v0)) (h1 : Hid (shapeOk sw sh bits = v1)) (w : World) (hm : n ≤ 9223372036854775807) (hr : Rd w.heap.size w a xs) (hms : ns ≤ 9223372036854775807) (hrb : RdB w.heap.size w as' bits) :
    Calls Try.prog 153 #[imv iw ih a n c, imv sw sh as' ns cs] w fun e w' => e = .returned (.int .i64 (if v0 = true then (if v1 = true then 0 else 22) else 20)) ∧ Below w.heap.size w w' := by
  have hB : Below w.heap.size w ((w.alloc (.cells #[.int .i64 iw, .int .i64 ih, .slice a n c] 29)).alloc (.cells #[.int .i64 sw, .int .i64 sh, .slice as' ns cs] 74)) := below_al (below_al (Below.refl _ _) _) _
  have k := Blk.new (w.alloc (.cells #[.int .i64 iw, .int .i64 ih, .slice a n c] 29)) 74 #[.int .i64 sw, .int .i64 sh, .slice as' ns cs]
  have ki := (Blk.new w 29 #[.int .i64 iw, .int .i64 ih, .slice a n c]).alloc (.cells #[.int .i64 sw, .int .i64 sh, .slice as' ns cs] 74)
  simp only [World.size_alloc] at k
  obtain ⟨W, hW⟩ : ∃ W, (w.alloc (.cells #[.int .i64 iw, .int .i64 ih, .slice a n c] 29)).alloc (.cells #[.int .i64 sw, .int .i64 sh, .slice as' ns cs] 74) = W := ⟨_, rfl⟩
  rw [hW] at hB k ki
  have i0 := ki.cell (i := 0) rfl
  have i1 := ki.cell (i := 1) rfl
  have i2 := ki.cell (i := 2) rfl
  go_enter Try.func153, Try.ntmps153
  go_wp2_with fail
  clear hW i0 i1 i2
  refine (Valid_any iw ih a c xs n hn W hm ((hr.below (Nat.le_refl _) hB).mono hB.size)).mono ?_
  rintro e W1 ⟨rfl, hb⟩
  rw [h0.out]
  replace k := k.below hb k.lt
  replace hB := hB.trans (hb.mono hB.size)
  clear hb
  have m0 := k.cell (i := 0) rfl
  have m1 := k.cell (i := 1) rfl
  have m2 := k.cell (i := 2) rfl
  cases v0 with
  | false =>
    go_wp2_with fail
    go_ret
    exact ⟨rfl, hB⟩
  | true =>
    go_wp2_with fail
    refine (ValidShape_any sw sh as' cs ns bits hbn v1 h1 W1 hms ((hrb.below (Nat.le_refl _) hB).mono hB.size)).mono ?_
    rintro e W2 ⟨rfl, hb⟩
    have hB2 := hB.trans (hb.mono hB.size)
    cases v1 with
    | false =>
      go_wp2_with fail
      go_ret
      exact ⟨rfl, hB2⟩
    | true =>
      go_wp2_with fail
      go_ret
      exact ⟨rfl, hB2⟩

set_option maxRecDepth 100000 in
set_option maxHeartbeats 4000000 in
theorem Dilated_any (iw ih : Int) (a : Option Addr) (c n : Nat) (xs : List Int) (hn : Hid (xs.length = n)) (sw sh : Nat) (as' : Option Addr) (cs ns : Nat) (bits : List Bool) (hbn : Hid (bits.length = ns)) (hsw : sw = 1 ∨ sw = 3 ∨ sw = 5) (hsh : sh = 1 ∨ sh = 3 ∨ sh = 5) (hns : Hid (sw * sh = ns))
    (x y : Int) (w : World) (hi1 : 1 ≤ iw) (hi2 : iw ≤ 16) (hi3 : 1 ≤ ih) (hi4 : ih ≤ 16) (hnn : Hid ((n : Int) = iw * ih)) (hx1 : 0 ≤ x) (hx2 : x ≤ iw - 1) (hy1 : 0 ≤ y) (hy2 : y ≤ ih - 1) (r : Int) (hres : Hid (morG true iw ih xs sw sh bits x y = r)) (hr : Rd w.heap.size w a xs) (hrb : RdB w.heap.size w as' bits) :
    Calls Try.prog 154 #[imv iw ih a n c, imv sw sh as' ns cs, .int .i64 x, .int .i64 y] w fun e w' => e = .returned (.int .i64 r) ∧ Below w.heap.size w w' := by
  have hnsP : 1 ≤ ns ∧ ns ≤ 25 := by
    have := hns.out
    rcases hsw with rfl | rfl | rfl <;> rcases hsh with rfl | rfl | rfl <;> omega
  obtain ⟨bb, ob, rfl, hbb, hbc⟩ := rdB_at hrb hbn.out (by omega)
  have hbcH := Lib.hid hbc
  clear hbc hrb
  obtain ⟨hw, ehw⟩ : ∃ v, (sw : Int).tdiv 2 = v := ⟨_, rfl⟩
  obtain ⟨hh, ehh⟩ : ∃ v, (sh : Int).tdiv 2 = v := ⟨_, rfl⟩
  have hw1 : ((sw / 2 : Nat) : Int) = hw ∧ (sw : Int) / 2 = hw ∧ 0 ≤ hw ∧ hw ≤ 2 := by rw [← ehw]; rcases hsw with rfl | rfl | rfl <;> decide
  have hh1 : ((sh / 2 : Nat) : Int) = hh ∧ (sh : Int) / 2 = hh ∧ 0 ≤ hh ∧ hh ≤ 2 := by rw [← ehh]; rcases hsh with rfl | rfl | rfl <;> decide
  obtain ⟨hwe, ehw', hw2, hw3⟩ := hw1
  obtain ⟨hhe, ehh', hh2, hh3⟩ := hh1
  have hweH := Lib.hid hwe
  have hheH := Lib.hid hhe
  clear hwe hhe
  obtain ⟨OK, hOK⟩ : ∃ f, morOk (morSg true) iw ih sw sh bits x y = f := ⟨_, rfl⟩
  obtain ⟨VAL, hVAL⟩ : ∃ f, morVal (morSg true) iw xs sw sh x y = f := ⟨_, rfl⟩
  have hG := Lib.hid (show morTo true OK VAL (sw * sh) = r by rw [← hres.out]; unfold morG; rw [hOK, hVAL])
  have hOKH := Lib.hid hOK
  have hVALH := Lib.hid hVAL
  clear hOK hVAL
  have hB0 : Below w.heap.size w ((w.alloc (.cells #[.int .i64 iw, .int .i64 ih, .slice a n c] 29)).alloc (.cells #[.int .i64 sw, .int .i64 sh, .slice (some ⟨bb, ob, none⟩) ns cs] 74)) := below_al (below_al (Below.refl _ _) _) _
  have ki := (Blk.new w 29 #[.int .i64 iw, .int .i64 ih, .slice a n c]).alloc (.cells #[.int .i64 sw, .int .i64 sh, .slice (some ⟨bb, ob, none⟩) ns cs] 74)
  have ks := Blk.new (w.alloc (.cells #[.int .i64 iw, .int .i64 ih, .slice a n c] 29)) 74 #[.int .i64 sw, .int .i64 sh, .slice (some ⟨bb, ob, none⟩) ns cs]
  simp only [World.size_alloc] at ks
  obtain ⟨W, hW⟩ : ∃ W, (w.alloc (.cells #[.int .i64 iw, .int .i64 ih, .slice a n c] 29)).alloc (.cells #[.int .i64 sw, .int .i64 sh, .slice (some ⟨bb, ob, none⟩) ns cs] 74) = W := ⟨_, rfl⟩
  rw [hW] at hB0 ki ks
  go_enter Try.func154, Try.ntmps154
  go_wp2_with fail
  clear hW
  go_loopw [9, 10] (fun o i wr => ∃ k : Nat, k ≤ ns ∧ i = .int .i64 (k : Int) ∧ o = .int .i64 (morTo true OK VAL k) ∧ Below W.heap.size W wr) (fun o i _ => ns - (intOf i).toNat)
  case atStart => exact ⟨0, Nat.zero_le _, rfl, rfl, Below.refl _ _⟩
  case round =>
    obtain ⟨k, hk, rfl, rfl, hBw⟩ := hrel
    have lw := ki.lt
    replace ki := ki.below hBw ki.lt
    replace ks := ks.below hBw ks.lt
    have hBr : Below w.heap.size w wr := hB0.trans (hBw.mono hB0.size)
    have m0 := ks.cell (i := 0) rfl
    have m1 := ks.cell (i := 1) rfl
    have m2 := ks.cell (i := 2) rfl
    by_cases hlt : k < ns
    · obtain ⟨X, eX⟩ : ∃ X, (k : Int) % (sw : Int) = X := ⟨_, rfl⟩
      obtain ⟨Y, eY⟩ : ∃ Y, (k : Int) / (sw : Int) = Y := ⟨_, rfl⟩
      have bX := Nat.mod_lt k (show 0 < sw by omega)
      have bY : k / sw < sh := Nat.div_lt_of_lt_mul (by rw [hns.out]; exact hlt)
      have cX' : ((k % sw : Nat) : Int) = X := by rw [← eX]; simp
      have cY' : ((k / sw : Nat) : Int) = Y := by rw [← eY]; simp
      have bX2 : 0 ≤ X ∧ X ≤ 4 := by rw [← cX']; generalize k % sw = q at bX ⊢; omega
      have bY2 : 0 ≤ Y ∧ Y ≤ 4 := by rw [← cY']; generalize k / sw = q at bY ⊢; omega
      have hs0 : sw ≠ 0 := by omega
      have hokE : OK k = (shIn bits k && (inR (x - (X - hw)) 0 (iw - 1) && inR (y - (Y - hh)) 0 (ih - 1))) := by
        rw [← hOKH.out]; unfold morOk morU morV morSg
        rw [hweH.out, hheH.out, cX', cY']
        rw [if_pos rfl, show x + -1 * (X - hw) = x - (X - hw) by omega, show y + -1 * (Y - hh) = y - (Y - hh) by omega]
      have hvalE : VAL k = px xs ((y - (Y - hh)) * iw + (x - (X - hw))) := by
        rw [← hVALH.out]; unfold morVal morU morV morSg
        rw [hweH.out, hheH.out, cX', cY']
        rw [if_pos rfl, show x + -1 * (X - hw) = x - (X - hw) by omega, show y + -1 * (Y - hh) = y - (Y - hh) by omega]
      have hbit := (hBr.cell (p := ⟨bb, ob + k, none⟩) hbb).trans (hbcH.out k hlt)
      rw [show bits[k]?.getD false = shIn bits k from rfl] at hbit
      obtain ⟨β, hβ⟩ : ∃ β, shIn bits k = β := ⟨_, rfl⟩
      rw [hβ] at hbit hokE
      obtain ⟨ov, hov⟩ : ∃ v, morTo true OK VAL k = v := ⟨_, rfl⟩
      have hsn : morTo true OK VAL (k + 1) = if OK k = true then max ov (VAL k) else ov := by rw [← hov]; rfl
      rw [hov]
      have hokH := Lib.hid hokE
      have hvalH := Lib.hid hvalE
      have hsnH := Lib.hid hsn
      clear hokE hvalE hsn hβ hov bX bY cX' cY'
      have hS : Below wr.heap.size wr wr.drew := (Below.refl _ _).drew
      go_wp2_with fail
      refine plain_region (fun W' => Below wr.heap.size wr W') 22 22 (by kernel_rfl) rfl ?_
      simp only [Array.replicate_succ, Array.replicate_zero, List.push_toArray, List.nil_append, List.cons_append]
      refine take_op 0 (v := ?rv0) rfl (by kernel_rfl) (fun _ _ _ h => h) (by rfl) hS (fun w' hS' => ?ry0) ?rz0
      case ry0 =>
        go_simp
        rfl
      simp only [List.setIfInBounds_toArray, List.set_cons_zero, List.set_cons_succ]
      refine take_op 1 (v := ?rv1) rfl (by kernel_rfl) (fun _ _ _ h => h) (by rfl) hS (fun w' hS' => ?ry1) ?rz1
      case ry1 =>
        go_simp
        rfl
      simp only [List.setIfInBounds_toArray, List.set_cons_zero, List.set_cons_succ]
      refine take_op 2 (v := ?rv2) rfl (by kernel_rfl) (fun _ _ _ h => h) (by rfl) hS (fun w' hS' => ?ry2) ?rz2
      case ry2 =>
        go_simp
        rfl
      simp only [List.setIfInBounds_toArray, List.set_cons_zero, List.set_cons_succ]
      refine take_op 3 (v := ?rv3) rfl (by kernel_rfl) (fun _ _ _ h => h) (by rfl) hS (fun w' hS' => ?ry3) ?rz3
      case ry3 =>
        have a0 := (ks.below hS' ks.lt).cell (i := 0) rfl
        have a1 := (ks.below hS' ks.lt).cell (i := 1) rfl
        go_simp
        rfl
      simp only [List.setIfInBounds_toArray, List.set_cons_zero, List.set_cons_succ]
      refine take_op 4 (v := ?rv4) rfl (by kernel_rfl) (fun _ _ _ h => h) (by rfl) hS (fun w' hS' => ?ry4) ?rz4
      case ry4 =>
        go_simp
        try go_ints
        rfl
      simp only [List.setIfInBounds_toArray, List.set_cons_zero, List.set_cons_succ]
      refine take_op 5 (v := ?rv5) rfl (by kernel_rfl) (fun _ _ _ h => h) (by rfl) hS (fun w' hS' => ?ry5) ?rz5
      case ry5 =>
        go_simp
        rfl
      simp only [List.setIfInBounds_toArray, List.set_cons_zero, List.set_cons_succ]
      refine take_op 6 (v := ?rv6) rfl (by kernel_rfl) (fun _ _ _ h => h) (by rfl) hS (fun w' hS' => ?ry6) ?rz6
      case ry6 =>
        have a0 := (ks.below hS' ks.lt).cell (i := 0) rfl
        have a1 := (ks.below hS' ks.lt).cell (i := 1) rfl
        go_simp
        rfl
      simp only [List.setIfInBounds_toArray, List.set_cons_zero, List.set_cons_succ]
      refine take_op 7 (v := ?rv7) rfl (by kernel_rfl) (fun _ _ _ h => h) (by rfl) hS (fun w' hS' => ?ry7) ?rz7
      case ry7 =>
        go_simp
        try go_ints
        rfl
      simp only [List.setIfInBounds_toArray, List.set_cons_zero, List.set_cons_succ]
      refine take_op 8 (v := ?rv8) rfl (by kernel_rfl) (fun _ _ _ h => h) (by rfl) hS (fun w' hS' => ?ry8) ?rz8
      case ry8 =>
        go_simp
        try go_ints
        rfl
      simp only [List.setIfInBounds_toArray, List.set_cons_zero, List.set_cons_succ]
      refine take_op 9 (v := ?rv9) rfl (by kernel_rfl) (fun _ _ _ h => h) (by rfl) hS (fun w' hS' => ?ry9) ?rz9
      case ry9 =>
        go_simp
        try go_ints
        rfl
      simp only [List.setIfInBounds_toArray, List.set_cons_zero, List.set_cons_succ]
      refine take_op 10 (v := ?rv10) rfl (by kernel_rfl) (fun _ _ _ h => h) (by rfl) hS (fun w' hS' => ?ry10) ?rz10
      case ry10 =>
        go_simp
        rfl
      simp only [List.setIfInBounds_toArray, List.set_cons_zero, List.set_cons_succ]
      refine take_op 11 (v := ?rv11) rfl (by kernel_rfl) (fun _ _ _ h => h) (by rfl) hS (fun w' hS' => ?ry11) ?rz11
      case ry11 =>
        go_simp
        rfl
      simp only [List.setIfInBounds_toArray, List.set_cons_zero, List.set_cons_succ]
      refine take_op 12 (v := ?rv12) rfl (by kernel_rfl) (fun _ _ _ h => h) (by rfl) hS (fun w' hS' => ?ry12) ?rz12
      case ry12 =>
        go_simp
        rfl
      simp only [List.setIfInBounds_toArray, List.set_cons_zero, List.set_cons_succ]
      refine take_op 13 (v := ?rv13) rfl (by kernel_rfl) (fun _ _ _ h => h) (by rfl) hS (fun w' hS' => ?ry13) ?rz13
      case ry13 =>
        have a0 := (ks.below hS' ks.lt).cell (i := 0) rfl
        have a1 := (ks.below hS' ks.lt).cell (i := 1) rfl
        go_simp
        rfl
      simp only [List.setIfInBounds_toArray, List.set_cons_zero, List.set_cons_succ]
      refine take_op 14 (v := ?rv14) rfl (by kernel_rfl) (fun _ _ _ h => h) (by rfl) hS (fun w' hS' => ?ry14) ?rz14
      case ry14 =>
        go_simp
        try go_ints
        rfl
      simp only [List.setIfInBounds_toArray, List.set_cons_zero, List.set_cons_succ]
      refine take_op 15 (v := ?rv15) rfl (by kernel_rfl) (fun _ _ _ h => h) (by rfl) hS (fun w' hS' => ?ry15) ?rz15
      case ry15 =>
        go_simp
        rfl
      simp only [List.setIfInBounds_toArray, List.set_cons_zero, List.set_cons_succ]
      refine take_op 16 (v := ?rv16) rfl (by kernel_rfl) (fun _ _ _ h => h) (by rfl) hS (fun w' hS' => ?ry16) ?rz16
      case ry16 =>
        have a0 := (ks.below hS' ks.lt).cell (i := 0) rfl
        have a1 := (ks.below hS' ks.lt).cell (i := 1) rfl
        go_simp
        rfl
      simp only [List.setIfInBounds_toArray, List.set_cons_zero, List.set_cons_succ]
      refine take_op 17 (v := ?rv17) rfl (by kernel_rfl) (fun _ _ _ h => h) (by rfl) hS (fun w' hS' => ?ry17) ?rz17
      case ry17 =>
        go_simp
        try go_ints
        rfl
      simp only [List.setIfInBounds_toArray, List.set_cons_zero, List.set_cons_succ]
      refine take_op 18 (v := ?rv18) rfl (by kernel_rfl) (fun _ _ _ h => h) (by rfl) hS (fun w' hS' => ?ry18) ?rz18
      case ry18 =>
        go_simp
        try go_ints
        rfl
      simp only [List.setIfInBounds_toArray, List.set_cons_zero, List.set_cons_succ]
      refine take_op 19 (v := ?rv19) rfl (by kernel_rfl) (fun _ _ _ h => h) (by rfl) hS (fun w' hS' => ?ry19) ?rz19
      case ry19 =>
        go_simp
        try go_ints
        rfl
      simp only [List.setIfInBounds_toArray, List.set_cons_zero, List.set_cons_succ]
      refine take_op 20 (v := ?rv20) rfl (by kernel_rfl) (fun _ _ _ h => h) (by rfl) hS (fun w' hS' => ?ry20) ?rz20
      case ry20 =>
        go_simp
        rfl
      simp only [List.setIfInBounds_toArray, List.set_cons_zero, List.set_cons_succ]
      refine take_op 21 (v := ?rv21) rfl (by kernel_rfl) (fun _ _ _ h => h) (by rfl) hS (fun w' hS' => ?ry21) ?rz21
      case ry21 =>
        go_simp
        rfl
      simp only [List.setIfInBounds_toArray, List.set_cons_zero, List.set_cons_succ]
      refine done_ops (by kernel_rfl) ?_
      replace hbit := (hS.cell (p := ⟨bb, ob + k, none⟩) (by show bb < wr.heap.size; have := hBr.size; omega)).trans hbit
      replace ki := ki.below hS ki.lt
      replace ks := ks.below hS ks.lt
      replace hBw := hBw.trans (hS.mono hBw.size)
      replace hBr := hBr.trans (hS.mono hBr.size)
      obtain ⟨V, hV⟩ : ∃ V, wr.drew = V := ⟨_, rfl⟩
      rw [hV] at hbit ki ks hBw hBr ⊢
      clear hV hS m0 m1 m2
      clear wr
      have m0 := ks.cell (i := 0) rfl
      have m1 := ks.cell (i := 1) rfl
      have m2 := ks.cell (i := 2) rfl
      have n0 := ki.cell (i := 0) rfl
      have n1 := ki.cell (i := 1) rfl
      have n2 := ki.cell (i := 2) rfl
      cases β with
      | false =>
        have hno := Lib.hid (show morTo true OK VAL (k + 1) = ov by rw [hsnH.out, hokH.out]; rfl)
        go_wp2_with fail
        go_roundw
        case rel => exact ⟨k + 1, by omega, by go_num, by rw [hno.out], hBw⟩
        case measure => simp [intOf]; omega
      | true =>
        go_wp2_with fail
        refine (Inside_any iw ih (x - (X - hw)) (y - (Y - hh)) (.slice a n c) V (by omega) (by omega) (by omega) (by omega) ⟨_, _, _, rfl⟩).mono ?_
        rintro e V1 ⟨rfl, hb1⟩
        obtain ⟨γ, hγ⟩ : ∃ γ, (inR (x - (X - hw)) 0 (iw - 1) && inR (y - (Y - hh)) 0 (ih - 1)) = γ := ⟨_, rfl⟩
        rw [hγ]
        have hokE := hokH.out
        rw [hγ, Bool.true_and] at hokE
        have hokH2 := Lib.hid hokE
        clear hokE m0 m1 m2 n0 n1 n2
        replace hBw := hBw.trans (hb1.mono hBw.size)
        replace hBr := hBr.trans (hb1.mono hBr.size)
        replace ki := ki.below hb1 ki.lt
        have n0 := ki.cell (i := 0) rfl
        have n1 := ki.cell (i := 1) rfl
        have n2 := ki.cell (i := 2) rfl
        cases γ with
        | false =>
          have hno := Lib.hid (show morTo true OK VAL (k + 1) = ov by rw [hsnH.out, hokH2.out]; rfl)
          go_wp2_with fail
          go_roundw
          case rel => exact ⟨k + 1, by omega, by go_num, by rw [hno.out], hBw⟩
          case measure => simp [intOf]; omega
        | true =>
          simp only [Bool.and_eq_true, inR_true] at hγ
          obtain ⟨⟨g1, g2⟩, g3, g4⟩ := hγ
          obtain ⟨q1, q2, q3, q4⟩ := in_idx (iw := iw) (ih := ih) (u := x - (X - hw)) (v := y - (Y - hh)) hi1 hnn.out g1 g2 g3 g4
          have hn9 : n ≤ 256 := by
            have := hnn.out
            obtain ⟨m1, m2⟩ := mul_small (a := iw) (b := ih) (m := 16) (n := 16) (by omega) (by omega) (by omega) (by omega)
            omega
          obtain ⟨pv, hpv⟩ : ∃ v, VAL k = v := ⟨_, rfl⟩
          have hpvH := Lib.hid (hvalH.out.symm.trans hpv)
          have hyes := Lib.hid (show morTo true OK VAL (k + 1) = max ov pv by rw [hsnH.out, hokH2.out, hpv]; rfl)
          clear hpv
          go_wp2_with fail
          refine (At_any iw ih (x - (X - hw)) (y - (Y - hh)) a c xs n hn _ (Int.le_trans (by decide) q1) (Int.le_trans (Int.le_of_lt q4) (by omega)) q2 q3 (by omega) ((hr.below (Nat.le_refl _) hBr).mono hBr.size)).mono ?_
          rintro e V2 ⟨rfl, hb2⟩
          rw [hpvH.out]
          have hBw2 := hBw.trans (hb2.mono hBw.size)
          clear n0 n1 n2
          go_wp2_with fail
          all_goals go_roundw
          all_goals first
            | exact ⟨k + 1, by omega, by go_num, by rw [hyes.out]; congr 1; omega, hBw2⟩
            | (simp [intOf]; omega)
    · have hkn : k = ns := by omega
      have hfin := Lib.hid (show morTo true OK VAL k = r by rw [hkn, ← hns.out, hG.out])
      go_wp2_with fail
      go_ret
      exact ⟨ret_int hfin.out, hBr⟩

set_option maxRecDepth 100000 in
set_option maxHeartbeats 4000000 in
theorem Eroded_any (iw ih : Int) (a : Option Addr) (c n : Nat) (xs : List Int) (hn : Hid (xs.length = n)) (sw sh : Nat) (as' : Option Addr) (cs ns : Nat) (bits : List Bool) (hbn : Hid (bits.length = ns)) (hsw : sw = 1 ∨ sw = 3 ∨ sw = 5) (hsh : sh = 1 ∨ sh = 3 ∨ sh = 5) (hns : Hid (sw * sh = ns))
    (x y : Int) (w : World) (hi1 : 1 ≤ iw) (hi2 : iw ≤ 16) (hi3 : 1 ≤ ih) (hi4 : ih ≤ 16) (hnn : Hid ((n : Int) = iw * ih)) (hx1 : 0 ≤ x) (hx2 : x ≤ iw - 1) (hy1 : 0 ≤ y) (hy2 : y ≤ ih - 1) (r : Int) (hres : Hid (morG false iw ih xs sw sh bits x y = r)) (hr : Rd w.heap.size w a xs) (hrb : RdB w.heap.size w as' bits) :
    Calls Try.prog 155 #[imv iw ih a n c, imv sw sh as' ns cs, .int .i64 x, .int .i64 y] w fun e w' => e = .returned (.int .i64 r) ∧ Below w.heap.size w w' := by
  have hnsP : 1 ≤ ns ∧ ns ≤ 25 := by
    have := hns.out
    rcases hsw with rfl | rfl | rfl <;> rcases hsh with rfl | rfl | rfl <;> omega
  obtain ⟨bb, ob, rfl, hbb, hbc⟩ := rdB_at hrb hbn.out (by omega)
  have hbcH := Lib.hid hbc
  clear hbc hrb
  obtain ⟨hw, ehw⟩ : ∃ v, (sw : Int).tdiv 2 = v := ⟨_, rfl⟩
  obtain ⟨hh, ehh⟩ : ∃ v, (sh : Int).tdiv 2 = v := ⟨_, rfl⟩
  have hw1 : ((sw / 2 : Nat) : Int) = hw ∧ (sw : Int) / 2 = hw ∧ 0 ≤ hw ∧ hw ≤ 2 := by rw [← ehw]; rcases hsw with rfl | rfl | rfl <;> decide
  have hh1 : ((sh / 2 : Nat) : Int) = hh ∧ (sh : Int) / 2 = hh ∧ 0 ≤ hh ∧ hh ≤ 2 := by rw [← ehh]; rcases hsh with rfl | rfl | rfl <;> decide
  obtain ⟨hwe, ehw', hw2, hw3⟩ := hw1
  obtain ⟨hhe, ehh', hh2, hh3⟩ := hh1
  have hweH := Lib.hid hwe
  have hheH := Lib.hid hhe
  clear hwe hhe
  obtain ⟨OK, hOK⟩ : ∃ f, morOk (morSg false) iw ih sw sh bits x y = f := ⟨_, rfl⟩
  obtain ⟨VAL, hVAL⟩ : ∃ f, morVal (morSg false) iw xs sw sh x y = f := ⟨_, rfl⟩
  have hG := Lib.hid (show morTo false OK VAL (sw * sh) = r by rw [← hres.out]; unfold morG; rw [hOK, hVAL])
  have hOKH := Lib.hid hOK
  have hVALH := Lib.hid hVAL
  clear hOK hVAL
  have hB0 : Below w.heap.size w ((w.alloc (.cells #[.int .i64 iw, .int .i64 ih, .slice a n c] 29)).alloc (.cells #[.int .i64 sw, .int .i64 sh, .slice (some ⟨bb, ob, none⟩) ns cs] 74)) := below_al (below_al (Below.refl _ _) _) _
  have ki := (Blk.new w 29 #[.int .i64 iw, .int .i64 ih, .slice a n c]).alloc (.cells #[.int .i64 sw, .int .i64 sh, .slice (some ⟨bb, ob, none⟩) ns cs] 74)
  have ks := Blk.new (w.alloc (.cells #[.int .i64 iw, .int .i64 ih, .slice a n c] 29)) 74 #[.int .i64 sw, .int .i64 sh, .slice (some ⟨bb, ob, none⟩) ns cs]
  simp only [World.size_alloc] at ks
  obtain ⟨W, hW⟩ : ∃ W, (w.alloc (.cells #[.int .i64 iw, .int .i64 ih, .slice a n c] 29)).alloc (.cells #[.int .i64 sw, .int .i64 sh, .slice (some ⟨bb, ob, none⟩) ns cs] 74) = W := ⟨_, rfl⟩
  rw [hW] at hB0 ki ks
  go_enter Try.func155, Try.ntmps155
  go_wp2_with fail
  clear hW
  go_loopw [9, 10] (fun o i wr => ∃ k : Nat, k ≤ ns ∧ i = .int .i64 (k : Int) ∧ o = .int .i64 (morTo false OK VAL k) ∧ Below W.heap.size W wr) (fun o i _ => ns - (intOf i).toNat)
  case atStart => exact ⟨0, Nat.zero_le _, rfl, rfl, Below.refl _ _⟩
  case round =>
    obtain ⟨k, hk, rfl, rfl, hBw⟩ := hrel
    have lw := ki.lt
    replace ki := ki.below hBw ki.lt
    replace ks := ks.below hBw ks.lt
    have hBr : Below w.heap.size w wr := hB0.trans (hBw.mono hB0.size)
    have m0 := ks.cell (i := 0) rfl
    have m1 := ks.cell (i := 1) rfl
    have m2 := ks.cell (i := 2) rfl
    by_cases hlt : k < ns
    · obtain ⟨X, eX⟩ : ∃ X, (k : Int) % (sw : Int) = X := ⟨_, rfl⟩
      obtain ⟨Y, eY⟩ : ∃ Y, (k : Int) / (sw : Int) = Y := ⟨_, rfl⟩
      have bX := Nat.mod_lt k (show 0 < sw by omega)
      have bY : k / sw < sh := Nat.div_lt_of_lt_mul (by rw [hns.out]; exact hlt)
      have cX' : ((k % sw : Nat) : Int) = X := by rw [← eX]; simp
      have cY' : ((k / sw : Nat) : Int) = Y := by rw [← eY]; simp
      have bX2 : 0 ≤ X ∧ X ≤ 4 := by rw [← cX']; generalize k % sw = q at bX ⊢; omega
      have bY2 : 0 ≤ Y ∧ Y ≤ 4 := by rw [← cY']; generalize k / sw = q at bY ⊢; omega
      have hs0 : sw ≠ 0 := by omega
      have hokE : OK k = (shIn bits k && (inR (x + (X - hw)) 0 (iw - 1) && inR (y + (Y - hh)) 0 (ih - 1))) := by
        rw [← hOKH.out]; unfold morOk morU morV morSg
        rw [hweH.out, hheH.out, cX', cY']
        rw [if_neg (by decide), show x + 1 * (X - hw) = x + (X - hw) by omega, show y + 1 * (Y - hh) = y + (Y - hh) by omega]
      have hvalE : VAL k = px xs ((y + (Y - hh)) * iw + (x + (X - hw))) := by
        rw [← hVALH.out]; unfold morVal morU morV morSg
        rw [hweH.out, hheH.out, cX', cY']
        rw [if_neg (by decide), show x + 1 * (X - hw) = x + (X - hw) by omega, show y + 1 * (Y - hh) = y + (Y - hh) by omega]
      have hbit := (hBr.cell (p := ⟨bb, ob + k, none⟩) hbb).trans (hbcH.out k hlt)
      rw [show bits[k]?.getD false = shIn bits k from rfl] at hbit
      obtain ⟨β, hβ⟩ : ∃ β, shIn bits k = β := ⟨_, rfl⟩
      rw [hβ] at hbit hokE
      obtain ⟨ov, hov⟩ : ∃ v, morTo false OK VAL k = v := ⟨_, rfl⟩
      have hsn : morTo false OK VAL (k + 1) = if OK k = true then min ov (VAL k) else ov := by rw [← hov]; rfl
      rw [hov]
      have hokH := Lib.hid hokE
      have hvalH := Lib.hid hvalE
      have hsnH := Lib.hid hsn
      clear hokE hvalE hsn hβ hov bX bY cX' cY'
      have hS : Below wr.heap.size wr wr.drew := (Below.refl _ _).drew
      go_wp2_with fail
      refine plain_region (fun W' => Below wr.heap.size wr W') 22 22 (by kernel_rfl) rfl ?_
      simp only [Array.replicate_succ, Array.replicate_zero, List.push_toArray, List.nil_append, List.cons_append]
      refine take_op 0 (v := ?rv0) rfl (by kernel_rfl) (fun _ _ _ h => h) (by rfl) hS (fun w' hS' => ?ry0) ?rz0
      case ry0 =>
        go_simp
        rfl
      simp only [List.setIfInBounds_toArray, List.set_cons_zero, List.set_cons_succ]
      refine take_op 1 (v := ?rv1) rfl (by kernel_rfl) (fun _ _ _ h => h) (by rfl) hS (fun w' hS' => ?ry1) ?rz1
      case ry1 =>
        go_simp
        rfl
      simp only [List.setIfInBounds_toArray, List.set_cons_zero, List.set_cons_succ]
      refine take_op 2 (v := ?rv2) rfl (by kernel_rfl) (fun _ _ _ h => h) (by rfl) hS (fun w' hS' => ?ry2) ?rz2
      case ry2 =>
        go_simp
        rfl
      simp only [List.setIfInBounds_toArray, List.set_cons_zero, List.set_cons_succ]
      refine take_op 3 (v := ?rv3) rfl (by kernel_rfl) (fun _ _ _ h => h) (by rfl) hS (fun w' hS' => ?ry3) ?rz3
      case ry3 =>
        have a0 := (ks.below hS' ks.lt).cell (i := 0) rfl
        have a1 := (ks.below hS' ks.lt).cell (i := 1) rfl
        go_simp
        rfl
      simp only [List.setIfInBounds_toArray, List.set_cons_zero, List.set_cons_succ]
      refine take_op 4 (v := ?rv4) rfl (by kernel_rfl) (fun _ _ _ h => h) (by rfl) hS (fun w' hS' => ?ry4) ?rz4
      case ry4 =>
        go_simp
        try go_ints
        rfl
      simp only [List.setIfInBounds_toArray, List.set_cons_zero, List.set_cons_succ]
      refine take_op 5 (v := ?rv5) rfl (by kernel_rfl) (fun _ _ _ h => h) (by rfl) hS (fun w' hS' => ?ry5) ?rz5
      case ry5 =>
        go_simp
        rfl
      simp only [List.setIfInBounds_toArray, List.set_cons_zero, List.set_cons_succ]
      refine take_op 6 (v := ?rv6) rfl (by kernel_rfl) (fun _ _ _ h => h) (by rfl) hS (fun w' hS' => ?ry6) ?rz6
      case ry6 =>
        have a0 := (ks.below hS' ks.lt).cell (i := 0) rfl
        have a1 := (ks.below hS' ks.lt).cell (i := 1) rfl
        go_simp
        rfl
      simp only [List.setIfInBounds_toArray, List.set_cons_zero, List.set_cons_succ]
      refine take_op 7 (v := ?rv7) rfl (by kernel_rfl) (fun _ _ _ h => h) (by rfl) hS (fun w' hS' => ?ry7) ?rz7
      case ry7 =>
        go_simp
        try go_ints
        rfl
      simp only [List.setIfInBounds_toArray, List.set_cons_zero, List.set_cons_succ]
      refine take_op 8 (v := ?rv8) rfl (by kernel_rfl) (fun _ _ _ h => h) (by rfl) hS (fun w' hS' => ?ry8) ?rz8
      case ry8 =>
        go_simp
        try go_ints
        rfl
      simp only [List.setIfInBounds_toArray, List.set_cons_zero, List.set_cons_succ]
      refine take_op 9 (v := ?rv9) rfl (by kernel_rfl) (fun _ _ _ h => h) (by rfl) hS (fun w' hS' => ?ry9) ?rz9
      case ry9 =>
        go_simp
        try go_ints
        rfl
      simp only [List.setIfInBounds_toArray, List.set_cons_zero, List.set_cons_succ]
      refine take_op 10 (v := ?rv10) rfl (by kernel_rfl) (fun _ _ _ h => h) (by rfl) hS (fun w' hS' => ?ry10) ?rz10
      case ry10 =>
        go_simp
        rfl
      simp only [List.setIfInBounds_toArray, List.set_cons_zero, List.set_cons_succ]
      refine take_op 11 (v := ?rv11) rfl (by kernel_rfl) (fun _ _ _ h => h) (by rfl) hS (fun w' hS' => ?ry11) ?rz11
      case ry11 =>
        go_simp
        rfl
      simp only [List.setIfInBounds_toArray, List.set_cons_zero, List.set_cons_succ]
      refine take_op 12 (v := ?rv12) rfl (by kernel_rfl) (fun _ _ _ h => h) (by rfl) hS (fun w' hS' => ?ry12) ?rz12
      case ry12 =>
        go_simp
        rfl
      simp only [List.setIfInBounds_toArray, List.set_cons_zero, List.set_cons_succ]
      refine take_op 13 (v := ?rv13) rfl (by kernel_rfl) (fun _ _ _ h => h) (by rfl) hS (fun w' hS' => ?ry13) ?rz13
      case ry13 =>
        have a0 := (ks.below hS' ks.lt).cell (i := 0) rfl
        have a1 := (ks.below hS' ks.lt).cell (i := 1) rfl
        go_simp
        rfl
      simp only [List.setIfInBounds_toArray, List.set_cons_zero, List.set_cons_succ]
      refine take_op 14 (v := ?rv14) rfl (by kernel_rfl) (fun _ _ _ h => h) (by rfl) hS (fun w' hS' => ?ry14) ?rz14
      case ry14 =>
        go_simp
        try go_ints
        rfl
      simp only [List.setIfInBounds_toArray, List.set_cons_zero, List.set_cons_succ]
      refine take_op 15 (v := ?rv15) rfl (by kernel_rfl) (fun _ _ _ h => h) (by rfl) hS (fun w' hS' => ?ry15) ?rz15
      case ry15 =>
        go_simp
        rfl
      simp only [List.setIfInBounds_toArray, List.set_cons_zero, List.set_cons_succ]
      refine take_op 16 (v := ?rv16) rfl (by kernel_rfl) (fun _ _ _ h => h) (by rfl) hS (fun w' hS' => ?ry16) ?rz16
      case ry16 =>
        have a0 := (ks.below hS' ks.lt).cell (i := 0) rfl
        have a1 := (ks.below hS' ks.lt).cell (i := 1) rfl
        go_simp
        rfl
      simp only [List.setIfInBounds_toArray, List.set_cons_zero, List.set_cons_succ]
      refine take_op 17 (v := ?rv17) rfl (by kernel_rfl) (fun _ _ _ h => h) (by rfl) hS (fun w' hS' => ?ry17) ?rz17
      case ry17 =>
        go_simp
        try go_ints
        rfl
      simp only [List.setIfInBounds_toArray, List.set_cons_zero, List.set_cons_succ]
      refine take_op 18 (v := ?rv18) rfl (by kernel_rfl) (fun _ _ _ h => h) (by rfl) hS (fun w' hS' => ?ry18) ?rz18
      case ry18 =>
        go_simp
        try go_ints
        rfl
      simp only [List.setIfInBounds_toArray, List.set_cons_zero, List.set_cons_succ]
      refine take_op 19 (v := ?rv19) rfl (by kernel_rfl) (fun _ _ _ h => h) (by rfl) hS (fun w' hS' => ?ry19) ?rz19
      case ry19 =>
        go_simp
        try go_ints
        rfl
      simp only [List.setIfInBounds_toArray, List.set_cons_zero, List.set_cons_succ]
      refine take_op 20 (v := ?rv20) rfl (by kernel_rfl) (fun _ _ _ h => h) (by rfl) hS (fun w' hS' => ?ry20) ?rz20
      case ry20 =>
        go_simp
        rfl
      simp only [List.setIfInBounds_toArray, List.set_cons_zero, List.set_cons_succ]
      refine take_op 21 (v := ?rv21) rfl (by kernel_rfl) (fun _ _ _ h => h) (by rfl) hS (fun w' hS' => ?ry21) ?rz21
      case ry21 =>
        go_simp
        rfl
      simp only [List.setIfInBounds_toArray, List.set_cons_zero, List.set_cons_succ]
      refine done_ops (by kernel_rfl) ?_
      replace hbit := (hS.cell (p := ⟨bb, ob + k, none⟩) (by show bb < wr.heap.size; have := hBr.size; omega)).trans hbit
      replace ki := ki.below hS ki.lt
      replace ks := ks.below hS ks.lt
      replace hBw := hBw.trans (hS.mono hBw.size)
      replace hBr := hBr.trans (hS.mono hBr.size)
      obtain ⟨V, hV⟩ : ∃ V, wr.drew = V := ⟨_, rfl⟩
      rw [hV] at hbit ki ks hBw hBr ⊢
      clear hV hS m0 m1 m2
      clear wr
      have m0 := ks.cell (i := 0) rfl
      have m1 := ks.cell (i := 1) rfl
      have m2 := ks.cell (i := 2) rfl
      have n0 := ki.cell (i := 0) rfl
      have n1 := ki.cell (i := 1) rfl
      have n2 := ki.cell (i := 2) rfl
      cases β with
      | false =>
        have hno := Lib.hid (show morTo false OK VAL (k + 1) = ov by rw [hsnH.out, hokH.out]; rfl)
        go_wp2_with fail
        go_roundw
        case rel => exact ⟨k + 1, by omega, by go_num, by rw [hno.out], hBw⟩
        case measure => simp [intOf]; omega
      | true =>
        go_wp2_with fail
        refine (Inside_any iw ih (x + (X - hw)) (y + (Y - hh)) (.slice a n c) V (by omega) (by omega) (by omega) (by omega) ⟨_, _, _, rfl⟩).mono ?_
        rintro e V1 ⟨rfl, hb1⟩
        obtain ⟨γ, hγ⟩ : ∃ γ, (inR (x + (X - hw)) 0 (iw - 1) && inR (y + (Y - hh)) 0 (ih - 1)) = γ := ⟨_, rfl⟩
        rw [hγ]
        have hokE := hokH.out
        rw [hγ, Bool.true_and] at hokE
        have hokH2 := Lib.hid hokE
        clear hokE m0 m1 m2 n0 n1 n2
        replace hBw := hBw.trans (hb1.mono hBw.size)
        replace hBr := hBr.trans (hb1.mono hBr.size)
        replace ki := ki.below hb1 ki.lt
        have n0 := ki.cell (i := 0) rfl
        have n1 := ki.cell (i := 1) rfl
        have n2 := ki.cell (i := 2) rfl
        cases γ with
        | false =>
          have hno := Lib.hid (show morTo false OK VAL (k + 1) = ov by rw [hsnH.out, hokH2.out]; rfl)
          go_wp2_with fail
          go_roundw
          case rel => exact ⟨k + 1, by omega, by go_num, by rw [hno.out], hBw⟩
          case measure => simp [intOf]; omega
        | true =>
          simp only [Bool.and_eq_true, inR_true] at hγ
          obtain ⟨⟨g1, g2⟩, g3, g4⟩ := hγ
          obtain ⟨q1, q2, q3, q4⟩ := in_idx (iw := iw) (ih := ih) (u := x + (X - hw)) (v := y + (Y - hh)) hi1 hnn.out g1 g2 g3 g4
          have hn9 : n ≤ 256 := by
            have := hnn.out
            obtain ⟨m1, m2⟩ := mul_small (a := iw) (b := ih) (m := 16) (n := 16) (by omega) (by omega) (by omega) (by omega)
            omega
          obtain ⟨pv, hpv⟩ : ∃ v, VAL k = v := ⟨_, rfl⟩
          have hpvH := Lib.hid (hvalH.out.symm.trans hpv)
          have hyes := Lib.hid (show morTo false OK VAL (k + 1) = min ov pv by rw [hsnH.out, hokH2.out, hpv]; rfl)
          clear hpv
          go_wp2_with fail
          refine (At_any iw ih (x + (X - hw)) (y + (Y - hh)) a c xs n hn _ (Int.le_trans (by decide) q1) (Int.le_trans (Int.le_of_lt q4) (by omega)) q2 q3 (by omega) ((hr.below (Nat.le_refl _) hBr).mono hBr.size)).mono ?_
          rintro e V2 ⟨rfl, hb2⟩
          rw [hpvH.out]
          have hBw2 := hBw.trans (hb2.mono hBw.size)
          clear n0 n1 n2
          go_wp2_with fail
          all_goals go_roundw
          all_goals first
            | exact ⟨k + 1, by omega, by go_num, by rw [hyes.out]; congr 1; omega, hBw2⟩
            | (simp [intOf]; omega)
    · have hkn : k = ns := by omega
      have hfin := Lib.hid (show morTo false OK VAL k = r by rw [hkn, ← hns.out, hG.out])
      go_wp2_with fail
      go_ret
      exact ⟨ret_int hfin.out, hBr⟩

theorem mor_img {mx : Bool} {xs : List Int} (h : allIn (-2147483648) 2147483648 xs = true) (iw ih : Int) (sw sh : Nat) (bits : List Bool) (x y : Int) : -2147483648 ≤ morG mx iw ih xs sw sh bits x y ∧ morG mx iw ih xs sw sh bits x y ≤ 2147483648 := mor_bd (fun _ => px_bd h _) _

set_option maxRecDepth 100000 in
set_option maxHeartbeats 4000000 in
theorem rDilate_any (iw ih : Int) (a : Option Addr) (c n : Nat) (xs : List Int) (hn : Hid (xs.length = n)) (sw sh : Int) (as' : Option Addr) (cs ns : Nat) (bits : List Bool) (hbn : Hid (bits.length = ns)) (w : World) (hm : n ≤ 9223372036854775807) (hr : Rd w.heap.size w a xs) (hms : ns ≤ 9223372036854775807) (hrb : RdB w.heap.size w as' bits) :
    Calls Try.prog 127 #[imv iw ih a n c, imv sw sh as' ns cs] w (RetIm w.heap.size (morS true iw ih xs sw sh bits) w) := by
  have hB0 : Below w.heap.size w (((w.alloc (.cells #[.int .i64 iw, .int .i64 ih, .slice a n c] 29)).alloc (.cells #[.int .i64 sw, .int .i64 sh, .slice as' ns cs] 74)).alloc (.cells #[.int .i64 0, .int .i64 0, .slice none 0 0] 29)) := below_al (below_al (below_al (Below.refl _ _) _) _) _
  obtain ⟨v0, hv⟩ : ∃ v, vld iw ih xs = v := ⟨_, rfl⟩
  have v0H := Lib.hid hv
  obtain ⟨v1, hv1⟩ : ∃ v, shapeOk sw sh bits = v := ⟨_, rfl⟩
  have v1H := Lib.hid hv1
  have hsp0 : morS true iw ih xs sw sh bits = if v0 = true then (if v1 = true then { w := iw, h := ih, px := img iw.toNat ih.toNat (morG true iw ih xs sw.toNat sh.toNat bits), err := 0 } else noIm 22) else noIm 20 := by
    simp only [morS, hv, hv1]
  have hsp := Lib.hid hsp0
  clear hv hsp0 hv1
  go_enter Try.func127, Try.ntmps127
  go_wp2_with fail
  refine (shaped_any iw ih a c n xs hn sw sh as' cs ns bits hbn v0 v1 v0H v1H _ hm ((hr.below (Nat.le_refl _) hB0).mono hB0.size) hms ((hrb.below (Nat.le_refl _) hB0).mono hB0.size)).mono ?_
  rintro e W1 ⟨rfl, hb1⟩
  have hB1 : Below w.heap.size w W1 := hB0.trans (hb1.mono hB0.size)
  have k5 := (((Blk.new w 29 #[.int .i64 iw, .int .i64 ih, .slice a n c]).alloc (.cells #[.int .i64 sw, .int .i64 sh, .slice as' ns cs] 74)).alloc (.cells #[.int .i64 0, .int .i64 0, .slice none 0 0] 29)).below hb1 (by simp <;> omega)
  have k6 := ((Blk.new (w.alloc (.cells #[.int .i64 iw, .int .i64 ih, .slice a n c] 29)) 74 #[.int .i64 sw, .int .i64 sh, .slice as' ns cs]).alloc (.cells #[.int .i64 0, .int .i64 0, .slice none 0 0] 29)).below hb1 (by simp <;> omega)
  have k := (Blk.new ((w.alloc (.cells #[.int .i64 iw, .int .i64 ih, .slice a n c] 29)).alloc (.cells #[.int .i64 sw, .int .i64 sh, .slice as' ns cs] 74)) 29 #[.int .i64 0, .int .i64 0, .slice none 0 0]).below hb1 (by simp <;> omega)
  simp only [World.size_alloc] at k6 k
  clear hb1 hB0
  have hlt := k.lt
  have m0 := k5.cell (i := 0) rfl
  have m1 := k5.cell (i := 1) rfl
  have m2 := k5.cell (i := 2) rfl
  have a0 := k6.cell (i := 0) rfl
  have a1 := k6.cell (i := 1) rfl
  have a2 := k6.cell (i := 2) rfl
  have c0 := k.cell (i := 0) rfl
  have c1 := k.cell (i := 1) rfl
  have c2 := k.cell (i := 2) rfl
  have fc0 := k.frozen 0
  have fc1 := k.frozen 1
  have fc2 := k.frozen 2
  cases v0 with
  | false =>
    simp only [Bool.false_eq_true, if_false]
    go_wp2_with fail
    have kf := put3_blk k (.int .i64 0) (.int .i64 0) (.slice none 0 0)
    have g0 := kf.cell (i := 0) rfl
    have g1 := kf.cell (i := 1) rfl
    have g2 := kf.cell (i := 2) rfl
    exact bodyPost_ret (v := .tuple #[.agg #[.int .i64 0, .int .i64 0, .slice none 0 0], .int .i64 20]) (by simp [results, Try.results127, go_sem, g0, g1, g2]) rfl ⟨⟨_, by rw [hsp.out]; rfl, by rw [hsp.out]; exact OwnIm_nil _ _⟩, hB1.trans (put3_below (by omega) _ _ _)⟩
  | true =>
    cases v1 with
    | false =>
      simp only [if_true, Bool.false_eq_true, if_false]
      go_wp2_with fail
      have kf := put3_blk k (.int .i64 0) (.int .i64 0) (.slice none 0 0)
      have g0 := kf.cell (i := 0) rfl
      have g1 := kf.cell (i := 1) rfl
      have g2 := kf.cell (i := 2) rfl
      exact bodyPost_ret (v := .tuple #[.agg #[.int .i64 0, .int .i64 0, .slice none 0 0], .int .i64 22]) (by simp [results, Try.results127, go_sem, g0, g1, g2]) rfl ⟨⟨_, by rw [hsp.out]; rfl, by rw [hsp.out]; exact OwnIm_nil _ _⟩, hB1.trans (put3_below (by omega) _ _ _)⟩
    | true =>
      simp only [if_true]
      obtain ⟨s1, s2, s3⟩ := sidesB_true (Bool.and_eq_true _ _ ▸ v1H.out : sidesB sw sh bits.length = true ∧ _).1
      rw [hbn.out] at s3
      obtain ⟨tw, rfl⟩ : ∃ tw : Nat, sw = (tw : Int) := ⟨sw.toNat, by omega⟩
      obtain ⟨th, rfl⟩ : ∃ th : Nat, sh = (th : Int) := ⟨sh.toNat, by omega⟩
      have htn := Lib.hid (show tw * th = ns by
        have e : ((tw * th : Nat) : Int) = (tw : Int) * (th : Int) := by simp
        omega)
      have t1 : tw = 1 ∨ tw = 3 ∨ tw = 5 := by omega
      have t2 : th = 1 ∨ th = 3 ∨ th = 5 := by omega
      clear s1 s2 s3
      obtain ⟨⟨i1, i2⟩, ⟨i3, i4⟩, hlen, hall⟩ := vld_true v0H.out
      rw [hn.out] at hlen
      have hlenH := Lib.hid hlen
      have hallH := Lib.hid hall
      clear hlen hall
      obtain ⟨pw, rfl⟩ : ∃ pw : Nat, iw = (pw : Int) := ⟨iw.toNat, by omega⟩
      obtain ⟨ph, rfl⟩ : ∃ ph : Nat, ih = (ph : Int) := ⟨ih.toNat, by omega⟩
      have hN : pw * ph = n ∧ n ≤ 256 := by
        have h1 := hlenH.out
        obtain ⟨m1, m2⟩ := mul_small (a := (pw : Int)) (b := (ph : Int)) (m := 16) (n := 16) (by omega) (by omega) (by omega) (by omega)
        have h2 : ((pw * ph : Nat) : Int) = (pw : Int) * ph := by simp
        omega
      obtain ⟨hN1, hN2⟩ := hN
      have hN1H := Lib.hid hN1
      clear hN1
      go_wp2_with fail
      refine (Blank_any pw ph (by omega) (by omega) W1).mono ?_
      rintro e WB ⟨g, cap, rfl, hrow, hg, hb2⟩
      rw [hN1H.out] at hrow ⊢
      replace hrow := row_base hrow hB1.size
      replace hg := Nat.le_trans hB1.size hg
      clear m0 m1 m2
      replace k5 := k5.below hb2 k5.lt
      have m0 := k5.cell (i := 0) rfl
      have m1 := k5.cell (i := 1) rfl
      have m2 := k5.cell (i := 2) rfl
      clear a0 a1 a2
      replace k6 := k6.below hb2 k6.lt
      have a0 := k6.cell (i := 0) rfl
      have a1 := k6.cell (i := 1) rfl
      have a2 := k6.cell (i := 2) rfl
      clear c0 c1 c2 fc0 fc1 fc2
      replace k := k.below hb2 k.lt
      have c0 := k.cell (i := 0) rfl
      have c1 := k.cell (i := 1) rfl
      have c2 := k.cell (i := 2) rfl
      have fc0 := k.frozen 0
      have fc1 := k.frozen 1
      have fc2 := k.frozen 2
      go_wp2_with fail
      have hBB := hB1.trans (hb2.mono hB1.size)
      have ko := Blk.new WB 29 #[.int .i64 pw, .int .i64 ph, .slice (some ⟨g, 0, none⟩) n cap]
      have row3 := hrow.alloc (.cells #[.int .i64 pw, .int .i64 ph, .slice (some ⟨g, 0, none⟩) n cap] 29)
      obtain ⟨W3, hW3⟩ : ∃ W3, WB.alloc (.cells #[.int .i64 pw, .int .i64 ph, .slice (some ⟨g, 0, none⟩) n cap] 29) = W3 := ⟨_, rfl⟩
      have hb3 : Below WB.heap.size WB W3 := alloc_below hW3
      rw [hW3] at ko row3 ⊢
      clear hW3
      have hB3 := hBB.trans (hb3.mono hBB.size)
      clear m0 m1 m2
      replace k5 := k5.below hb3 k5.lt
      have m0 := k5.cell (i := 0) rfl
      have m1 := k5.cell (i := 1) rfl
      have m2 := k5.cell (i := 2) rfl
      clear a0 a1 a2
      replace k6 := k6.below hb3 k6.lt
      have a0 := k6.cell (i := 0) rfl
      have a1 := k6.cell (i := 1) rfl
      have a2 := k6.cell (i := 2) rfl
      clear c0 c1 c2 fc0 fc1 fc2
      replace k := k.below hb3 k.lt
      have c0 := k.cell (i := 0) rfl
      have c1 := k.cell (i := 1) rfl
      have c2 := k.cell (i := 2) rfl
      have fc0 := k.frozen 0
      have fc1 := k.frozen 1
      have fc2 := k.frozen 2
      obtain ⟨M, hM⟩ : ∃ M, WB.heap.size = M := ⟨_, rfl⟩
      rw [hM] at ko ⊢
      clear hb2 hb3 hrow hM hBB hB1
      clear m0 m1 m2 a0 a1 a2 c0 c1 c2 fc0 fc1 fc2
      clear WB
      clear hlt
      have row3' := row3
      rw [← upto_zero (fun i => (morG true pw ph xs tw th bits) (cX pw i) (cY pw i)) n] at row3'
      clear row3
      have hgl := row3'.lt g rfl
      have ngoH := Lib.hid (ko.not_row (by decide) row3')
      have ngk5H := Lib.hid (k5.not_row (by decide) row3')
      have ngk6H := Lib.hid (k6.not_row (by decide) row3')
      have ngkH := Lib.hid (k.not_row (by decide) row3')
      go_loopw [8] (fun i wr => ∃ k : Nat, k ≤ n ∧ i = .int .i64 k ∧ W3.grownBy wr (some g) ∧ wr.ownsRow w.heap.size 3 1 (.slice (some ⟨g, 0, none⟩) n cap) n ((upto (fun i => (morG true pw ph xs tw th bits) (cX pw i) (cY pw i)) n k).map (Value.int .i64))) (fun i _ => n - (intOf i).toNat)
      case atStart => exact ⟨0, Nat.zero_le _, rfl, ⟨rfl, rfl, rfl, Nat.le_refl _, fun _ _ _ => rfl⟩, row3'⟩
      case round =>
        obtain ⟨k', hk, rfl, hG, rowk⟩ := hrel
        have k5r := k5.kept hG ngk5H.out
        have k6r := k6.kept hG ngk6H.out
        have kor := ko.kept hG ngoH.out
        have hS : Below wr.heap.size wr wr.drew := (Below.refl _ _).drew
        have hBr : Below w.heap.size w wr := hB3.grown hG hB3.size (fun j e => by cases e; exact hg)
        have m2 := k5r.cell (i := 2) rfl
        have hpw0 : pw ≠ 0 := by omega
        by_cases hlt : k' < n
        · obtain ⟨x1, x2⟩ := cX_bd (pw := pw) (i := k') (by omega)
          obtain ⟨y1, y2⟩ := cY_bd (pw := pw) (ph := ph) (i := k') (by rw [hN1H.out]; exact hlt)
          rw [cX_eq] at x1 x2
          rw [cY_eq] at y1 y2
          go_wp2_with fail
          refine plain_region (fun W' => Below wr.heap.size wr W') 15 16 (by kernel_rfl) rfl ?_
          simp only [Array.replicate_succ, Array.replicate_zero, List.push_toArray, List.nil_append, List.cons_append]
          refine take_op 0 (v := ?rv0) rfl (by kernel_rfl) (fun _ _ _ h => h) (by rfl) hS (fun w' hS' => ?ry0) ?rz0
          case ry0 =>
            go_simp
            rfl
          simp only [List.setIfInBounds_toArray, List.set_cons_zero, List.set_cons_succ]
          refine take_op 1 (v := ?rv1) rfl (by kernel_rfl) (fun _ _ _ h => h) (by rfl) hS (fun w' hS' => ?ry1) ?rz1
          case ry1 =>
            have a2 := (kor.below hS' kor.lt).cell (i := 2) rfl
            have b0 := (k5r.below hS' k5r.lt).cell (i := 0) rfl
            have b1 := (k5r.below hS' k5r.lt).cell (i := 1) rfl
            have b2 := (k5r.below hS' k5r.lt).cell (i := 2) rfl
            have d0 := (k6r.below hS' k6r.lt).cell (i := 0) rfl
            have d1 := (k6r.below hS' k6r.lt).cell (i := 1) rfl
            have d2 := (k6r.below hS' k6r.lt).cell (i := 2) rfl
            go_simp
            rfl
          simp only [List.setIfInBounds_toArray, List.set_cons_zero, List.set_cons_succ]
          refine take_op 2 (v := ?rv2) rfl (by kernel_rfl) (fun _ _ _ h => h) (by rfl) hS (fun w' hS' => ?ry2) ?rz2
          case ry2 =>
            go_simp
            rfl
          simp only [List.setIfInBounds_toArray, List.set_cons_zero, List.set_cons_succ]
          refine take_op 3 (v := ?rv3) rfl (by kernel_rfl) (fun _ _ _ h => h) (by rfl) hS (fun w' hS' => ?ry3) ?rz3
          case ry3 =>
            have a2 := (kor.below hS' kor.lt).cell (i := 2) rfl
            have b0 := (k5r.below hS' k5r.lt).cell (i := 0) rfl
            have b1 := (k5r.below hS' k5r.lt).cell (i := 1) rfl
            have b2 := (k5r.below hS' k5r.lt).cell (i := 2) rfl
            have d0 := (k6r.below hS' k6r.lt).cell (i := 0) rfl
            have d1 := (k6r.below hS' k6r.lt).cell (i := 1) rfl
            have d2 := (k6r.below hS' k6r.lt).cell (i := 2) rfl
            go_simp
            rfl
          simp only [List.setIfInBounds_toArray, List.set_cons_zero, List.set_cons_succ]
          refine take_op 4 (v := ?rv4) rfl (by kernel_rfl) (fun _ _ _ h => h) (by rfl) hS (fun w' hS' => ?ry4) ?rz4
          case ry4 =>
            have a2 := (kor.below hS' kor.lt).cell (i := 2) rfl
            have b0 := (k5r.below hS' k5r.lt).cell (i := 0) rfl
            have b1 := (k5r.below hS' k5r.lt).cell (i := 1) rfl
            have b2 := (k5r.below hS' k5r.lt).cell (i := 2) rfl
            have d0 := (k6r.below hS' k6r.lt).cell (i := 0) rfl
            have d1 := (k6r.below hS' k6r.lt).cell (i := 1) rfl
            have d2 := (k6r.below hS' k6r.lt).cell (i := 2) rfl
            go_simp
            rfl
          simp only [List.setIfInBounds_toArray, List.set_cons_zero, List.set_cons_succ]
          refine take_op 5 (v := ?rv5) rfl (by kernel_rfl) (fun _ _ _ h => h) (by rfl) hS (fun w' hS' => ?ry5) ?rz5
          case ry5 =>
            go_simp
            rfl
          simp only [List.setIfInBounds_toArray, List.set_cons_zero, List.set_cons_succ]
          refine take_op 6 (v := ?rv6) rfl (by kernel_rfl) (fun _ _ _ h => h) (by rfl) hS (fun w' hS' => ?ry6) ?rz6
          case ry6 =>
            go_simp
            rfl
          simp only [List.setIfInBounds_toArray, List.set_cons_zero, List.set_cons_succ]
          refine take_op 7 (v := ?rv7) rfl (by kernel_rfl) (fun _ _ _ h => h) (by rfl) hS (fun w' hS' => ?ry7) ?rz7
          case ry7 =>
            have a2 := (kor.below hS' kor.lt).cell (i := 2) rfl
            have b0 := (k5r.below hS' k5r.lt).cell (i := 0) rfl
            have b1 := (k5r.below hS' k5r.lt).cell (i := 1) rfl
            have b2 := (k5r.below hS' k5r.lt).cell (i := 2) rfl
            have d0 := (k6r.below hS' k6r.lt).cell (i := 0) rfl
            have d1 := (k6r.below hS' k6r.lt).cell (i := 1) rfl
            have d2 := (k6r.below hS' k6r.lt).cell (i := 2) rfl
            go_simp
            rfl
          simp only [List.setIfInBounds_toArray, List.set_cons_zero, List.set_cons_succ]
          refine take_op 8 (v := ?rv8) rfl (by kernel_rfl) (fun _ _ _ h => h) (by rfl) hS (fun w' hS' => ?ry8) ?rz8
          case ry8 =>
            go_simp
            try go_ints
            rfl
          simp only [List.setIfInBounds_toArray, List.set_cons_zero, List.set_cons_succ]
          refine take_op 9 (v := ?rv9) rfl (by kernel_rfl) (fun _ _ _ h => h) (by rfl) hS (fun w' hS' => ?ry9) ?rz9
          case ry9 =>
            go_simp
            rfl
          simp only [List.setIfInBounds_toArray, List.set_cons_zero, List.set_cons_succ]
          refine take_op 10 (v := ?rv10) rfl (by kernel_rfl) (fun _ _ _ h => h) (by rfl) hS (fun w' hS' => ?ry10) ?rz10
          case ry10 =>
            go_simp
            rfl
          simp only [List.setIfInBounds_toArray, List.set_cons_zero, List.set_cons_succ]
          refine take_op 11 (v := ?rv11) rfl (by kernel_rfl) (fun _ _ _ h => h) (by rfl) hS (fun w' hS' => ?ry11) ?rz11
          case ry11 =>
            have a2 := (kor.below hS' kor.lt).cell (i := 2) rfl
            have b0 := (k5r.below hS' k5r.lt).cell (i := 0) rfl
            have b1 := (k5r.below hS' k5r.lt).cell (i := 1) rfl
            have b2 := (k5r.below hS' k5r.lt).cell (i := 2) rfl
            have d0 := (k6r.below hS' k6r.lt).cell (i := 0) rfl
            have d1 := (k6r.below hS' k6r.lt).cell (i := 1) rfl
            have d2 := (k6r.below hS' k6r.lt).cell (i := 2) rfl
            go_simp
            rfl
          simp only [List.setIfInBounds_toArray, List.set_cons_zero, List.set_cons_succ]
          refine take_op 12 (v := ?rv12) rfl (by kernel_rfl) (fun _ _ _ h => h) (by rfl) hS (fun w' hS' => ?ry12) ?rz12
          case ry12 =>
            go_simp
            try go_ints
            rfl
          simp only [List.setIfInBounds_toArray, List.set_cons_zero, List.set_cons_succ]
          refine step_op 13 (by kernel_rfl) rfl (fun K hK => ?_)
          rw [if_pos (by rfl)]
          go_simp
          refine (Dilated_any pw ph a c n xs hn tw th as' cs ns bits hbn t1 t2 htn _ _ _ (by omega) (by omega) (by omega) (by omega) hlenH x1 x2 y1 y2 (morG true pw ph xs tw th bits (cX pw k') (cY pw k')) (Lib.hid rfl) ((hr.below (Nat.le_refl _) (hBr.trans (hS.mono hBr.size))).mono (hBr.trans (hS.mono hBr.size)).size) ((hrb.below (Nat.le_refl _) (hBr.trans (hS.mono hBr.size))).mono (hBr.trans (hS.mono hBr.size)).size)).mono ?_
          rintro e W4 ⟨rfl, hb4⟩
          have hS4 : Below wr.heap.size wr W4 := hS.trans (hb4.mono hS.size)
          refine hK.out _ _ (fun h => hS4) ?_
          clear hK K
          try simp only [Act.put, List.setIfInBounds_toArray, List.set_cons_zero, List.set_cons_succ]
          have row4 := row_below rowk hS4
          have hcell := row4.cellAt k' (by omega)
          have hfr := row4.frozenAt k'
          have hcell2 : ((upto (fun i => (morG true pw ph xs tw th bits) (cX pw i) (cY pw i)) n k').map (Value.int .i64))[k']? = some (.int .i64 0) := by simp [upto, hlt]
          rw [hcell2] at hcell
          clear hcell2
          refine take_op 14 (v := ?rv14) rfl (by kernel_rfl) (fun _ _ _ h => h) (by rfl) hS4 (fun w' hS' => ?ry14) ?rz14
          case ry14 =>
            go_simp
            try go_ints
            first
            | rfl
            | rw [if_pos ⟨by omega, by omega⟩]
          simp only [List.setIfInBounds_toArray, List.set_cons_zero, List.set_cons_succ]
          refine step_op 15 (by kernel_rfl) rfl (fun K hK => ?_)
          rw [if_pos (by rfl)]
          go_simp
          refine hK.out _ _ (fun h => absurd h (by omega)) ?_
          clear hK K
          try simp only [Act.put, List.setIfInBounds_toArray, List.set_cons_zero, List.set_cons_succ]
          refine done_ops (by kernel_rfl) ?_
          go_wp2_with fail
          go_roundw
          case rel =>
            have hst := (row4.stored k' (.int .i64 ((morG true pw ph xs tw th bits) (cX pw k') (cY pw k')))).1
            rw [map_set_int, upto_set (fun i => (morG true pw ph xs tw th bits) (cX pw i) (cY pw i)) n k' hlt] at hst
            exact ⟨k' + 1, by omega, by go_num, grown_trans hG (grown_trans (grown_of_below hS4 _) (row4.stored k' (.int .i64 ((morG true pw ph xs tw th bits) (cX pw k') (cY pw k')))).2), hst⟩
          case measure => simp [intOf]; omega
        · have hkn : n = k' := by omega
          subst hkn
          have kr := k.kept hG ngkH.out
          have o0 := kor.cell (i := 0) rfl
          have o1 := kor.cell (i := 1) rfl
          have o2 := kor.cell (i := 2) rfl
          have c0 := kr.cell (i := 0) rfl
          have c1 := kr.cell (i := 1) rfl
          have c2 := kr.cell (i := 2) rfl
          have fc0 := kr.frozen 0
          have fc1 := kr.frozen 1
          have fc2 := kr.frozen 2
          go_wp2_with fail
          have kf := put3_blk kr (.int .i64 pw) (.int .i64 ph) (.slice (some ⟨g, 0, none⟩) n cap)
          have g0 := kf.cell (i := 0) rfl
          have g1 := kf.cell (i := 1) rfl
          have g2 := kf.cell (i := 2) rfl
          have hpx : (List.range n).map (fun i => (morG true pw ph xs tw th bits) (cX pw i) (cY pw i)) = img pw ph (morG true pw ph xs tw th bits) := by
            rw [← hN1H.out]
            exact img_plain fun i hi => mor_img hallH.out _ _ _ _ _ _ _
          rw [upto_all, hpx] at rowk
          have hlen2 : (img pw ph (morG true pw ph xs tw th bits)).length = n := by rw [img_length]; exact hN1H.out
          exact bodyPost_ret (v := .tuple #[.agg #[.int .i64 pw, .int .i64 ph, .slice (some ⟨g, 0, none⟩) n cap], .int .i64 0]) (by simp [results, Try.results127, go_sem, g0, g1, g2]) rfl ⟨⟨_, by rw [hsp.out]; rfl, by rw [hsp.out]; exact ⟨_, rfl, row_len hlen2.symm (put3_row rowk (kr.not_row (by decide) rowk) _ _ _)⟩⟩, hBr.trans (put3_below (by omega) _ _ _)⟩

set_option maxRecDepth 100000 in
set_option maxHeartbeats 4000000 in
theorem rErode_any (iw ih : Int) (a : Option Addr) (c n : Nat) (xs : List Int) (hn : Hid (xs.length = n)) (sw sh : Int) (as' : Option Addr) (cs ns : Nat) (bits : List Bool) (hbn : Hid (bits.length = ns)) (w : World) (hm : n ≤ 9223372036854775807) (hr : Rd w.heap.size w a xs) (hms : ns ≤ 9223372036854775807) (hrb : RdB w.heap.size w as' bits) :
    Calls Try.prog 128 #[imv iw ih a n c, imv sw sh as' ns cs] w (RetIm w.heap.size (morS false iw ih xs sw sh bits) w) := by
  have hB0 : Below w.heap.size w (((w.alloc (.cells #[.int .i64 iw, .int .i64 ih, .slice a n c] 29)).alloc (.cells #[.int .i64 sw, .int .i64 sh, .slice as' ns cs] 74)).alloc (.cells #[.int .i64 0, .int .i64 0, .slice none 0 0] 29)) := below_al (below_al (below_al (Below.refl _ _) _) _) _
  obtain ⟨v0, hv⟩ : ∃ v, vld iw ih xs = v := ⟨_, rfl⟩
  have v0H := Lib.hid hv
  obtain ⟨v1, hv1⟩ : ∃ v, shapeOk sw sh bits = v := ⟨_, rfl⟩
  have v1H := Lib.hid hv1
  have hsp0 : morS false iw ih xs sw sh bits = if v0 = true then (if v1 = true then { w := iw, h := ih, px := img iw.toNat ih.toNat (morG false iw ih xs sw.toNat sh.toNat bits), err := 0 } else noIm 22) else noIm 20 := by
    simp only [morS, hv, hv1]
  have hsp := Lib.hid hsp0
  clear hv hsp0 hv1
  go_enter Try.func128, Try.ntmps128
  go_wp2_with fail
  refine (shaped_any iw ih a c n xs hn sw sh as' cs ns bits hbn v0 v1 v0H v1H _ hm ((hr.below (Nat.le_refl _) hB0).mono hB0.size) hms ((hrb.below (Nat.le_refl _) hB0).mono hB0.size)).mono ?_
  rintro e W1 ⟨rfl, hb1⟩
  have hB1 : Below w.heap.size w W1 := hB0.trans (hb1.mono hB0.size)
  have k5 := (((Blk.new w 29 #[.int .i64 iw, .int .i64 ih, .slice a n c]).alloc (.cells #[.int .i64 sw, .int .i64 sh, .slice as' ns cs] 74)).alloc (.cells #[.int .i64 0, .int .i64 0, .slice none 0 0] 29)).below hb1 (by simp <;> omega)
  have k6 := ((Blk.new (w.alloc (.cells #[.int .i64 iw, .int .i64 ih, .slice a n c] 29)) 74 #[.int .i64 sw, .int .i64 sh, .slice as' ns cs]).alloc (.cells #[.int .i64 0, .int .i64 0, .slice none 0 0] 29)).below hb1 (by simp <;> omega)
  have k := (Blk.new ((w.alloc (.cells #[.int .i64 iw, .int .i64 ih, .slice a n c] 29)).alloc (.cells #[.int .i64 sw, .int .i64 sh, .slice as' ns cs] 74)) 29 #[.int .i64 0, .int .i64 0, .slice none 0 0]).below hb1 (by simp <;> omega)
  simp only [World.size_alloc] at k6 k
  clear hb1 hB0
  have hlt := k.lt
  have m0 := k5.cell (i := 0) rfl
  have m1 := k5.cell (i := 1) rfl
  have m2 := k5.cell (i := 2) rfl
  have a0 := k6.cell (i := 0) rfl
  have a1 := k6.cell (i := 1) rfl
  have a2 := k6.cell (i := 2) rfl
  have c0 := k.cell (i := 0) rfl
  have c1 := k.cell (i := 1) rfl
  have c2 := k.cell (i := 2) rfl
  have fc0 := k.frozen 0
  have fc1 := k.frozen 1
  have fc2 := k.frozen 2
  cases v0 with
  | false =>
    simp only [Bool.false_eq_true, if_false]
    go_wp2_with fail
    have kf := put3_blk k (.int .i64 0) (.int .i64 0) (.slice none 0 0)
    have g0 := kf.cell (i := 0) rfl
    have g1 := kf.cell (i := 1) rfl
    have g2 := kf.cell (i := 2) rfl
    exact bodyPost_ret (v := .tuple #[.agg #[.int .i64 0, .int .i64 0, .slice none 0 0], .int .i64 20]) (by simp [results, Try.results128, go_sem, g0, g1, g2]) rfl ⟨⟨_, by rw [hsp.out]; rfl, by rw [hsp.out]; exact OwnIm_nil _ _⟩, hB1.trans (put3_below (by omega) _ _ _)⟩
  | true =>
    cases v1 with
    | false =>
      simp only [if_true, Bool.false_eq_true, if_false]
      go_wp2_with fail
      have kf := put3_blk k (.int .i64 0) (.int .i64 0) (.slice none 0 0)
      have g0 := kf.cell (i := 0) rfl
      have g1 := kf.cell (i := 1) rfl
      have g2 := kf.cell (i := 2) rfl
      exact bodyPost_ret (v := .tuple #[.agg #[.int .i64 0, .int .i64 0, .slice none 0 0], .int .i64 22]) (by simp [results, Try.results128, go_sem, g0, g1, g2]) rfl ⟨⟨_, by rw [hsp.out]; rfl, by rw [hsp.out]; exact OwnIm_nil _ _⟩, hB1.trans (put3_below (by omega) _ _ _)⟩
    | true =>
      simp only [if_true]
      obtain ⟨s1, s2, s3⟩ := sidesB_true (Bool.and_eq_true _ _ ▸ v1H.out : sidesB sw sh bits.length = true ∧ _).1
      rw [hbn.out] at s3
      obtain ⟨tw, rfl⟩ : ∃ tw : Nat, sw = (tw : Int) := ⟨sw.toNat, by omega⟩
      obtain ⟨th, rfl⟩ : ∃ th : Nat, sh = (th : Int) := ⟨sh.toNat, by omega⟩
      have htn := Lib.hid (show tw * th = ns by
        have e : ((tw * th : Nat) : Int) = (tw : Int) * (th : Int) := by simp
        omega)
      have t1 : tw = 1 ∨ tw = 3 ∨ tw = 5 := by omega
      have t2 : th = 1 ∨ th = 3 ∨ th = 5 := by omega
      clear s1 s2 s3
      obtain ⟨⟨i1, i2⟩, ⟨i3, i4⟩, hlen, hall⟩ := vld_true v0H.out
      rw [hn.out] at hlen
      have hlenH := Lib.hid hlen
      have hallH := Lib.hid hall
      clear hlen hall
      obtain ⟨pw, rfl⟩ : ∃ pw : Nat, iw = (pw : Int) := ⟨iw.toNat, by omega⟩
      obtain ⟨ph, rfl⟩ : ∃ ph : Nat, ih = (ph : Int) := ⟨ih.toNat, by omega⟩
      have hN : pw * ph = n ∧ n ≤ 256 := by
        have h1 := hlenH.out
        obtain ⟨m1, m2⟩ := mul_small (a := (pw : Int)) (b := (ph : Int)) (m := 16) (n := 16) (by omega) (by omega) (by omega) (by omega)
        have h2 : ((pw * ph : Nat) : Int) = (pw : Int) * ph := by simp
        omega
      obtain ⟨hN1, hN2⟩ := hN
      have hN1H := Lib.hid hN1
      clear hN1
      go_wp2_with fail
      refine (Blank_any pw ph (by omega) (by omega) W1).mono ?_
      rintro e WB ⟨g, cap, rfl, hrow, hg, hb2⟩
      rw [hN1H.out] at hrow ⊢
      replace hrow := row_base hrow hB1.size
      replace hg := Nat.le_trans hB1.size hg
      clear m0 m1 m2
      replace k5 := k5.below hb2 k5.lt
      have m0 := k5.cell (i := 0) rfl
      have m1 := k5.cell (i := 1) rfl
      have m2 := k5.cell (i := 2) rfl
      clear a0 a1 a2
      replace k6 := k6.below hb2 k6.lt
      have a0 := k6.cell (i := 0) rfl
      have a1 := k6.cell (i := 1) rfl
      have a2 := k6.cell (i := 2) rfl
      clear c0 c1 c2 fc0 fc1 fc2
      replace k := k.below hb2 k.lt
      have c0 := k.cell (i := 0) rfl
      have c1 := k.cell (i := 1) rfl
      have c2 := k.cell (i := 2) rfl
      have fc0 := k.frozen 0
      have fc1 := k.frozen 1
      have fc2 := k.frozen 2
      go_wp2_with fail
      have hBB := hB1.trans (hb2.mono hB1.size)
      have ko := Blk.new WB 29 #[.int .i64 pw, .int .i64 ph, .slice (some ⟨g, 0, none⟩) n cap]
      have row3 := hrow.alloc (.cells #[.int .i64 pw, .int .i64 ph, .slice (some ⟨g, 0, none⟩) n cap] 29)
      obtain ⟨W3, hW3⟩ : ∃ W3, WB.alloc (.cells #[.int .i64 pw, .int .i64 ph, .slice (some ⟨g, 0, none⟩) n cap] 29) = W3 := ⟨_, rfl⟩
      have hb3 : Below WB.heap.size WB W3 := alloc_below hW3
      rw [hW3] at ko row3 ⊢
      clear hW3
      have hB3 := hBB.trans (hb3.mono hBB.size)
      clear m0 m1 m2
      replace k5 := k5.below hb3 k5.lt
      have m0 := k5.cell (i := 0) rfl
      have m1 := k5.cell (i := 1) rfl
      have m2 := k5.cell (i := 2) rfl
      clear a0 a1 a2
      replace k6 := k6.below hb3 k6.lt
      have a0 := k6.cell (i := 0) rfl
      have a1 := k6.cell (i := 1) rfl
      have a2 := k6.cell (i := 2) rfl
      clear c0 c1 c2 fc0 fc1 fc2
      replace k := k.below hb3 k.lt
      have c0 := k.cell (i := 0) rfl
      have c1 := k.cell (i := 1) rfl
      have c2 := k.cell (i := 2) rfl
      have fc0 := k.frozen 0
      have fc1 := k.frozen 1
      have fc2 := k.frozen 2
      obtain ⟨M, hM⟩ : ∃ M, WB.heap.size = M := ⟨_, rfl⟩
      rw [hM] at ko ⊢
      clear hb2 hb3 hrow hM hBB hB1
      clear m0 m1 m2 a0 a1 a2 c0 c1 c2 fc0 fc1 fc2
      clear WB
      clear hlt
      have row3' := row3
      rw [← upto_zero (fun i => (morG false pw ph xs tw th bits) (cX pw i) (cY pw i)) n] at row3'
      clear row3
      have hgl := row3'.lt g rfl
      have ngoH := Lib.hid (ko.not_row (by decide) row3')
      have ngk5H := Lib.hid (k5.not_row (by decide) row3')
      have ngk6H := Lib.hid (k6.not_row (by decide) row3')
      have ngkH := Lib.hid (k.not_row (by decide) row3')
      go_loopw [8] (fun i wr => ∃ k : Nat, k ≤ n ∧ i = .int .i64 k ∧ W3.grownBy wr (some g) ∧ wr.ownsRow w.heap.size 3 1 (.slice (some ⟨g, 0, none⟩) n cap) n ((upto (fun i => (morG false pw ph xs tw th bits) (cX pw i) (cY pw i)) n k).map (Value.int .i64))) (fun i _ => n - (intOf i).toNat)
      case atStart => exact ⟨0, Nat.zero_le _, rfl, ⟨rfl, rfl, rfl, Nat.le_refl _, fun _ _ _ => rfl⟩, row3'⟩
      case round =>
        obtain ⟨k', hk, rfl, hG, rowk⟩ := hrel
        have k5r := k5.kept hG ngk5H.out
        have k6r := k6.kept hG ngk6H.out
        have kor := ko.kept hG ngoH.out
        have hS : Below wr.heap.size wr wr.drew := (Below.refl _ _).drew
        have hBr : Below w.heap.size w wr := hB3.grown hG hB3.size (fun j e => by cases e; exact hg)
        have m2 := k5r.cell (i := 2) rfl
        have hpw0 : pw ≠ 0 := by omega
        by_cases hlt : k' < n
        · obtain ⟨x1, x2⟩ := cX_bd (pw := pw) (i := k') (by omega)
          obtain ⟨y1, y2⟩ := cY_bd (pw := pw) (ph := ph) (i := k') (by rw [hN1H.out]; exact hlt)
          rw [cX_eq] at x1 x2
          rw [cY_eq] at y1 y2
          go_wp2_with fail
          refine plain_region (fun W' => Below wr.heap.size wr W') 15 16 (by kernel_rfl) rfl ?_
          simp only [Array.replicate_succ, Array.replicate_zero, List.push_toArray, List.nil_append, List.cons_append]
          refine take_op 0 (v := ?rv0) rfl (by kernel_rfl) (fun _ _ _ h => h) (by rfl) hS (fun w' hS' => ?ry0) ?rz0
          case ry0 =>
            go_simp
            rfl
          simp only [List.setIfInBounds_toArray, List.set_cons_zero, List.set_cons_succ]
          refine take_op 1 (v := ?rv1) rfl (by kernel_rfl) (fun _ _ _ h => h) (by rfl) hS (fun w' hS' => ?ry1) ?rz1
          case ry1 =>
            have a2 := (kor.below hS' kor.lt).cell (i := 2) rfl
            have b0 := (k5r.below hS' k5r.lt).cell (i := 0) rfl
            have b1 := (k5r.below hS' k5r.lt).cell (i := 1) rfl
            have b2 := (k5r.below hS' k5r.lt).cell (i := 2) rfl
            have d0 := (k6r.below hS' k6r.lt).cell (i := 0) rfl
            have d1 := (k6r.below hS' k6r.lt).cell (i := 1) rfl
            have d2 := (k6r.below hS' k6r.lt).cell (i := 2) rfl
            go_simp
            rfl
          simp only [List.setIfInBounds_toArray, List.set_cons_zero, List.set_cons_succ]
          refine take_op 2 (v := ?rv2) rfl (by kernel_rfl) (fun _ _ _ h => h) (by rfl) hS (fun w' hS' => ?ry2) ?rz2
          case ry2 =>
            go_simp
            rfl
          simp only [List.setIfInBounds_toArray, List.set_cons_zero, List.set_cons_succ]
          refine take_op 3 (v := ?rv3) rfl (by kernel_rfl) (fun _ _ _ h => h) (by rfl) hS (fun w' hS' => ?ry3) ?rz3
          case ry3 =>
            have a2 := (kor.below hS' kor.lt).cell (i := 2) rfl
            have b0 := (k5r.below hS' k5r.lt).cell (i := 0) rfl
            have b1 := (k5r.below hS' k5r.lt).cell (i := 1) rfl
            have b2 := (k5r.below hS' k5r.lt).cell (i := 2) rfl
            have d0 := (k6r.below hS' k6r.lt).cell (i := 0) rfl
            have d1 := (k6r.below hS' k6r.lt).cell (i := 1) rfl
            have d2 := (k6r.below hS' k6r.lt).cell (i := 2) rfl
            go_simp
            rfl
          simp only [List.setIfInBounds_toArray, List.set_cons_zero, List.set_cons_succ]
          refine take_op 4 (v := ?rv4) rfl (by kernel_rfl) (fun _ _ _ h => h) (by rfl) hS (fun w' hS' => ?ry4) ?rz4
          case ry4 =>
            have a2 := (kor.below hS' kor.lt).cell (i := 2) rfl
            have b0 := (k5r.below hS' k5r.lt).cell (i := 0) rfl
            have b1 := (k5r.below hS' k5r.lt).cell (i := 1) rfl
            have b2 := (k5r.below hS' k5r.lt).cell (i := 2) rfl
            have d0 := (k6r.below hS' k6r.lt).cell (i := 0) rfl
            have d1 := (k6r.below hS' k6r.lt).cell (i := 1) rfl
            have d2 := (k6r.below hS' k6r.lt).cell (i := 2) rfl
            go_simp
            rfl
          simp only [List.setIfInBounds_toArray, List.set_cons_zero, List.set_cons_succ]
          refine take_op 5 (v := ?rv5) rfl (by kernel_rfl) (fun _ _ _ h => h) (by rfl) hS (fun w' hS' => ?ry5) ?rz5
          case ry5 =>
            go_simp
            rfl
          simp only [List.setIfInBounds_toArray, List.set_cons_zero, List.set_cons_succ]
          refine take_op 6 (v := ?rv6) rfl (by kernel_rfl) (fun _ _ _ h => h) (by rfl) hS (fun w' hS' => ?ry6) ?rz6
          case ry6 =>
            go_simp
            rfl
          simp only [List.setIfInBounds_toArray, List.set_cons_zero, List.set_cons_succ]
          refine take_op 7 (v := ?rv7) rfl (by kernel_rfl) (fun _ _ _ h => h) (by rfl) hS (fun w' hS' => ?ry7) ?rz7
          case ry7 =>
            have a2 := (kor.below hS' kor.lt).cell (i := 2) rfl
            have b0 := (k5r.below hS' k5r.lt).cell (i := 0) rfl
            have b1 := (k5r.below hS' k5r.lt).cell (i := 1) rfl
            have b2 := (k5r.below hS' k5r.lt).cell (i := 2) rfl
            have d0 := (k6r.below hS' k6r.lt).cell (i := 0) rfl
            have d1 := (k6r.below hS' k6r.lt).cell (i := 1) rfl
            have d2 := (k6r.below hS' k6r.lt).cell (i := 2) rfl
            go_simp
            rfl
          simp only [List.setIfInBounds_toArray, List.set_cons_zero, List.set_cons_succ]
          refine take_op 8 (v := ?rv8) rfl (by kernel_rfl) (fun _ _ _ h => h) (by rfl) hS (fun w' hS' => ?ry8) ?rz8
          case ry8 =>
            go_simp
            try go_ints
            rfl
          simp only [List.setIfInBounds_toArray, List.set_cons_zero, List.set_cons_succ]
          refine take_op 9 (v := ?rv9) rfl (by kernel_rfl) (fun _ _ _ h => h) (by rfl) hS (fun w' hS' => ?ry9) ?rz9
          case ry9 =>
            go_simp
            rfl
          simp only [List.setIfInBounds_toArray, List.set_cons_zero, List.set_cons_succ]
          refine take_op 10 (v := ?rv10) rfl (by kernel_rfl) (fun _ _ _ h => h) (by rfl) hS (fun w' hS' => ?ry10) ?rz10
          case ry10 =>
            go_simp
            rfl
          simp only [List.setIfInBounds_toArray, List.set_cons_zero, List.set_cons_succ]
          refine take_op 11 (v := ?rv11) rfl (by kernel_rfl) (fun _ _ _ h => h) (by rfl) hS (fun w' hS' => ?ry11) ?rz11
          case ry11 =>
            have a2 := (kor.below hS' kor.lt).cell (i := 2) rfl
            have b0 := (k5r.below hS' k5r.lt).cell (i := 0) rfl
            have b1 := (k5r.below hS' k5r.lt).cell (i := 1) rfl
            have b2 := (k5r.below hS' k5r.lt).cell (i := 2) rfl
            have d0 := (k6r.below hS' k6r.lt).cell (i := 0) rfl
            have d1 := (k6r.below hS' k6r.lt).cell (i := 1) rfl
            have d2 := (k6r.below hS' k6r.lt).cell (i := 2) rfl
            go_simp
            rfl
          simp only [List.setIfInBounds_toArray, List.set_cons_zero, List.set_cons_succ]
          refine take_op 12 (v := ?rv12) rfl (by kernel_rfl) (fun _ _ _ h => h) (by rfl) hS (fun w' hS' => ?ry12) ?rz12
          case ry12 =>
            go_simp
            try go_ints
            rfl
          simp only [List.setIfInBounds_toArray, List.set_cons_zero, List.set_cons_succ]
          refine step_op 13 (by kernel_rfl) rfl (fun K hK => ?_)
          rw [if_pos (by rfl)]
          go_simp
          refine (Eroded_any pw ph a c n xs hn tw th as' cs ns bits hbn t1 t2 htn _ _ _ (by omega) (by omega) (by omega) (by omega) hlenH x1 x2 y1 y2 (morG false pw ph xs tw th bits (cX pw k') (cY pw k')) (Lib.hid rfl) ((hr.below (Nat.le_refl _) (hBr.trans (hS.mono hBr.size))).mono (hBr.trans (hS.mono hBr.size)).size) ((hrb.below (Nat.le_refl _) (hBr.trans (hS.mono hBr.size))).mono (hBr.trans (hS.mono hBr.size)).size)).mono ?_
          rintro e W4 ⟨rfl, hb4⟩
          have hS4 : Below wr.heap.size wr W4 := hS.trans (hb4.mono hS.size)
          refine hK.out _ _ (fun h => hS4) ?_
          clear hK K
          try simp only [Act.put, List.setIfInBounds_toArray, List.set_cons_zero, List.set_cons_succ]
          have row4 := row_below rowk hS4
          have hcell := row4.cellAt k' (by omega)
          have hfr := row4.frozenAt k'
          have hcell2 : ((upto (fun i => (morG false pw ph xs tw th bits) (cX pw i) (cY pw i)) n k').map (Value.int .i64))[k']? = some (.int .i64 0) := by simp [upto, hlt]
          rw [hcell2] at hcell
          clear hcell2
          refine take_op 14 (v := ?rv14) rfl (by kernel_rfl) (fun _ _ _ h => h) (by rfl) hS4 (fun w' hS' => ?ry14) ?rz14
          case ry14 =>
            go_simp
            try go_ints
            first
            | rfl
            | rw [if_pos ⟨by omega, by omega⟩]
          simp only [List.setIfInBounds_toArray, List.set_cons_zero, List.set_cons_succ]
          refine step_op 15 (by kernel_rfl) rfl (fun K hK => ?_)
          rw [if_pos (by rfl)]
          go_simp
          refine hK.out _ _ (fun h => absurd h (by omega)) ?_
          clear hK K
          try simp only [Act.put, List.setIfInBounds_toArray, List.set_cons_zero, List.set_cons_succ]
          refine done_ops (by kernel_rfl) ?_
          go_wp2_with fail
          go_roundw
          case rel =>
            have hst := (row4.stored k' (.int .i64 ((morG false pw ph xs tw th bits) (cX pw k') (cY pw k')))).1
            rw [map_set_int, upto_set (fun i => (morG false pw ph xs tw th bits) (cX pw i) (cY pw i)) n k' hlt] at hst
            exact ⟨k' + 1, by omega, by go_num, grown_trans hG (grown_trans (grown_of_below hS4 _) (row4.stored k' (.int .i64 ((morG false pw ph xs tw th bits) (cX pw k') (cY pw k')))).2), hst⟩
          case measure => simp [intOf]; omega
        · have hkn : n = k' := by omega
          subst hkn
          have kr := k.kept hG ngkH.out
          have o0 := kor.cell (i := 0) rfl
          have o1 := kor.cell (i := 1) rfl
          have o2 := kor.cell (i := 2) rfl
          have c0 := kr.cell (i := 0) rfl
          have c1 := kr.cell (i := 1) rfl
          have c2 := kr.cell (i := 2) rfl
          have fc0 := kr.frozen 0
          have fc1 := kr.frozen 1
          have fc2 := kr.frozen 2
          go_wp2_with fail
          have kf := put3_blk kr (.int .i64 pw) (.int .i64 ph) (.slice (some ⟨g, 0, none⟩) n cap)
          have g0 := kf.cell (i := 0) rfl
          have g1 := kf.cell (i := 1) rfl
          have g2 := kf.cell (i := 2) rfl
          have hpx : (List.range n).map (fun i => (morG false pw ph xs tw th bits) (cX pw i) (cY pw i)) = img pw ph (morG false pw ph xs tw th bits) := by
            rw [← hN1H.out]
            exact img_plain fun i hi => mor_img hallH.out _ _ _ _ _ _ _
          rw [upto_all, hpx] at rowk
          have hlen2 : (img pw ph (morG false pw ph xs tw th bits)).length = n := by rw [img_length]; exact hN1H.out
          exact bodyPost_ret (v := .tuple #[.agg #[.int .i64 pw, .int .i64 ph, .slice (some ⟨g, 0, none⟩) n cap], .int .i64 0]) (by simp [results, Try.results128, go_sem, g0, g1, g2]) rfl ⟨⟨_, by rw [hsp.out]; rfl, by rw [hsp.out]; exact ⟨_, rfl, row_len hlen2.symm (put3_row rowk (kr.not_row (by decide) rowk) _ _ _)⟩⟩, hBr.trans (put3_below (by omega) _ _ _)⟩

end Go.Proofs.Ytekiemlniegddaa

/- The contracts of the specification's kernels and Convolve. -/
import Derived.Test.YtjglfeonoiljlaaImgW
import Derived.Test.YtjglfeonoiljlaaImgJ
namespace Go.Proofs.Ytjglfeonoiljlaa
open Go Go.RowKit Go.Shelf
set_option linter.unusedVariables false
set_option linter.unusedSimpArgs false

def convC (bd iw ih : Int) (xs : List Int) (kw kh : Nat) (taps : List Int) (x y : Int) : Int := clamp (convG bd iw ih xs kw kh taps x y) (-2147483648) 2147483648
theorem convC_img (pw ph : Nat) (bd iw ih : Int) (xs : List Int) (kw kh : Nat) (taps : List Int) : img pw ph (convC bd iw ih xs kw kh taps) = img pw ph (convG bd iw ih xs kw kh taps) := img_congr fun _ _ => clamp_clamp _

set_option maxRecDepth 100000 in
set_option maxHeartbeats 1000000 in
theorem ValidKernel_any (kw kh : Int) (ak : Option Addr) (ck nk : Nat) (taps : List Int) (hkn : Hid (taps.length = nk)) (r : Bool) (hres : Hid (kernOk kw kh taps = r)) (w : World) (hm : nk ≤ 9223372036854775807) (hrk : Rd w.heap.size w ak taps) :
    Calls Try.prog 68 #[imv kw kh ak nk ck] w fun e w' => e = .returned (.bool r) ∧ Below w.heap.size w w' := by
  obtain ⟨v1, hv1⟩ : ∃ v, sideB kw = v := ⟨_, rfl⟩
  obtain ⟨v2, hv2⟩ : ∃ v, sideB kh = v := ⟨_, rfl⟩
  have hres' : (((v1 && v2) && decide ((nk : Int) = kw * kh)) && allIn (-65536) 65536 taps) = r := by
    rw [← hv1, ← hv2, ← hres.out]; unfold kernOk sidesB; rw [hkn.out]
  have h1 := Lib.hid hv1
  have h2 := Lib.hid hv2
  have hr := Lib.hid hres'
  clear hv1 hv2 hres'
  have hB : Below w.heap.size w (w.alloc (.cells #[.int .i64 kw, .int .i64 kh, .slice ak nk ck] 64)) := below_al (Below.refl _ _) _
  have k := Blk.new w 64 #[.int .i64 kw, .int .i64 kh, .slice ak nk ck]
  have m0 := k.cell (i := 0) rfl
  have m1 := k.cell (i := 1) rfl
  have m2 := k.cell (i := 2) rfl
  cases v1 with
  | false =>
    go_enter Try.func68, Try.ntmps68
    go_wp2_with fail
    refine (side1 kw false h1 _).mono ?_
    rintro e w' ⟨rfl, rfl⟩
    go_wp2_with fail
    go_ret
    exact ⟨ret_bool hr.out, hB⟩
  | true =>
    cases v2 with
    | false =>
      go_enter Try.func68, Try.ntmps68
      go_wp2_with fail
      refine (side1 kw true h1 _).mono ?_
      rintro e w' ⟨rfl, rfl⟩
      go_wp2_with fail
      refine (side1 kh false h2 _).mono ?_
      rintro e w' ⟨rfl, rfl⟩
      go_wp2_with fail
      go_ret
      exact ⟨ret_bool hr.out, hB⟩
    | true =>
      have s1 := sideB_true h1.out
      have s2 := sideB_true h2.out
      obtain ⟨p1, p2⟩ := mul_small (a := kw) (b := kh) (m := 5) (n := 5) (by omega) (by omega) (by omega) (by omega)
      clear s1 s2
      by_cases hl : (nk : Int) = kw * kh
      · have hlb : ((nk : Int) != kw * kh) = false := by simp [hl]
        have hr2 := Lib.hid (show allIn (-65536) 65536 taps = r by rw [← hr.out]; simp [hl])
        clear hl
        go_enter Try.func68, Try.ntmps68
        go_wp2_with fail
        refine (side1 kw true h1 _).mono ?_
        rintro e w' ⟨rfl, rfl⟩
        go_wp2_with fail
        refine (side1 kh true h2 _).mono ?_
        rintro e w' ⟨rfl, rfl⟩
        go_wp2_with fail
        obtain ⟨W, hW⟩ : ∃ W, w.alloc (.cells #[.int .i64 kw, .int .i64 kh, .slice ak nk ck] 64) = W := ⟨_, rfl⟩
        rw [hW] at hB k m0 m1 m2 ⊢
        clear hW
        go_loop [3] (fun i => ∃ k : Nat, k ≤ nk ∧ i = .int .i64 (k : Int) ∧ Hid (allIn (-65536) 65536 (taps.take k) = true)) (fun i => nk - (intOf i).toNat)
        case atStart => exact ⟨0, Nat.zero_le _, rfl, Lib.hid rfl⟩
        case round =>
          obtain ⟨j, hj, rfl, hall⟩ := hrel
          by_cases hlt : j < nk
          · obtain ⟨b, o, rfl, hb, hc⟩ := rd_at hrk hkn.out (by omega)
            have hcell := (hB.cell (p := ⟨b, o + j, none⟩) hb).trans (hc j hlt)
            have hpx : px taps (j : Int) = taps[j]?.getD 0 := by unfold px; simp
            have hlt' : j < taps.length := by rw [hkn.out]; exact hlt
            have hs1 : inR (px taps (j : Int)) (-65536) 65536 = true → allIn (-65536) 65536 (taps.take (j + 1)) = true := fun h => by
              obtain ⟨g1, g2⟩ := inR_true.1 h
              rw [hpx] at g1 g2
              exact allIn_succ hlt' hall.out g1 g2
            have hs2 : inR (px taps (j : Int)) (-65536) 65536 = false → allIn (-65536) 65536 taps = false := fun h => by
              refine allIn_false hlt' ?_
              rw [← hpx]
              simp [inR] at h
              omega
            generalize px taps (j : Int) = x at *
            obtain ⟨v, hv⟩ : ∃ v, inR x (-65536) 65536 = v := ⟨_, rfl⟩
            rw [hv] at hs1 hs2
            have hvH := Lib.hid hv
            have hs1H := Lib.hid hs1
            have hs2H := Lib.hid hs2
            clear hc hs1 hs2 hv hpx hlt'
            cases v with
            | true =>
              go_wp2_with fail
              refine (rwithin1 x (-65536) 65536 true hvH.out _).mono ?_
              rintro e w' ⟨rfl, rfl⟩
              go_wp2_with fail
              go_round
              case rel => exact ⟨j + 1, by omega, by go_num, Lib.hid (hs1H.out (by first | rfl | trivial))⟩
              case measure => simp [intOf]; omega
            | false =>
              go_wp2_with fail
              refine (rwithin1 x (-65536) 65536 false hvH.out _).mono ?_
              rintro e w' ⟨rfl, rfl⟩
              go_wp2_with fail
              go_ret
              exact ⟨ret_bool (by rw [← hr2.out, hs2H.out (by first | rfl | trivial)]), hB⟩
          · have hall2 := Lib.hid (show allIn (-65536) 65536 taps = true by
              have h := hall.out
              rwa [List.take_of_length_le (by have := hkn.out; omega)] at h)
            go_wp2_with fail
            go_ret
            exact ⟨ret_bool (by rw [← hr2.out, hall2.out]), hB⟩
      · have hlb : ((nk : Int) != kw * kh) = true := by simp [hl]
        have hr2 := Lib.hid (show false = r by rw [← hr.out]; simp [hl])
        clear hl
        go_enter Try.func68, Try.ntmps68
        go_wp2_with fail
        refine (side1 kw true h1 _).mono ?_
        rintro e w' ⟨rfl, rfl⟩
        go_wp2_with fail
        refine (side1 kh true h2 _).mono ?_
        rintro e w' ⟨rfl, rfl⟩
        go_wp2_with fail
        go_ret
        exact ⟨ret_bool hr2.out, hB⟩

set_option maxRecDepth 100000 in
set_option maxHeartbeats 8000000 in
theorem Convolved_any (bd : Int) (hbd1 : 1 ≤ bd) (hbd2 : bd ≤ 3) (iw ih : Int) (a : Option Addr) (c n : Nat) (xs : List Int) (hn : Hid (xs.length = n)) (hall : Hid (allIn (-2147483648) 2147483648 xs = true)) (kw kh : Nat) (ak : Option Addr) (ck nk : Nat) (taps : List Int) (hkn : Hid (taps.length = nk)) (htall : Hid (allIn (-65536) 65536 taps = true)) (hkw : kw = 1 ∨ kw = 3 ∨ kw = 5) (hkh : kh = 1 ∨ kh = 3 ∨ kh = 5) (hns : Hid (kw * kh = nk))
    (x y : Int) (w : World) (hi1 : 1 ≤ iw) (hi2 : iw ≤ 16) (hi3 : 1 ≤ ih) (hi4 : ih ≤ 16) (hnn : Hid ((n : Int) = iw * ih)) (hx1 : 0 ≤ x) (hx2 : x ≤ iw - 1) (hy1 : 0 ≤ y) (hy2 : y ≤ ih - 1) (r : Int) (hres : Hid (convG bd iw ih xs kw kh taps x y = r)) (hr : Rd w.heap.size w a xs) (hrk : Rd w.heap.size w ak taps) :
    Calls Try.prog 110 #[imv iw ih a n c, imv kw kh ak nk ck, .int .u8 bd, .int .i64 x, .int .i64 y] w fun e w' => e = .returned (.int .i64 r) ∧ Below w.heap.size w w' := by
  have hnsP : 1 ≤ nk ∧ nk ≤ 25 := by
    have := hns.out
    rcases hkw with rfl | rfl | rfl <;> rcases hkh with rfl | rfl | rfl <;> omega
  obtain ⟨bt, ot, rfl, hbt, hbc⟩ := rd_at hrk hkn.out (by omega)
  have hbcH := Lib.hid hbc
  clear hbc hrk
  obtain ⟨hw, ehw⟩ : ∃ v, (kw : Int).tdiv 2 = v := ⟨_, rfl⟩
  obtain ⟨hh, ehh⟩ : ∃ v, (kh : Int).tdiv 2 = v := ⟨_, rfl⟩
  have hw1 : ((kw / 2 : Nat) : Int) = hw ∧ (kw : Int) / 2 = hw ∧ 0 ≤ hw ∧ hw ≤ 2 := by rw [← ehw]; rcases hkw with rfl | rfl | rfl <;> decide
  have hh1 : ((kh / 2 : Nat) : Int) = hh ∧ (kh : Int) / 2 = hh ∧ 0 ≤ hh ∧ hh ≤ 2 := by rw [← ehh]; rcases hkh with rfl | rfl | rfl <;> decide
  obtain ⟨hwe, ehw', hw2, hw3⟩ := hw1
  obtain ⟨hhe, ehh', hh2, hh3⟩ := hh1
  have hweH := Lib.hid hwe
  have hheH := Lib.hid hhe
  clear hwe hhe
  obtain ⟨TT, hTT⟩ : ∃ f, convT bd iw ih xs kw kh taps x y = f := ⟨_, rfl⟩
  have hG := Lib.hid (show sumTo TT (kw * kh) = r by rw [← hres.out]; unfold convG; rw [hTT])
  have hTB := Lib.hid (fun t => (show -140737488355328 ≤ TT t ∧ TT t ≤ 140737488355328 by rw [← hTT]; exact convT_bd hall.out htall.out bd iw ih kw kh x y t))
  have hTTH := Lib.hid hTT
  clear hTT
  have hB0 : Below w.heap.size w ((w.alloc (.cells #[.int .i64 iw, .int .i64 ih, .slice a n c] 24)).alloc (.cells #[.int .i64 kw, .int .i64 kh, .slice (some ⟨bt, ot, none⟩) nk ck] 64)) := below_al (below_al (Below.refl _ _) _) _
  have ki := (Blk.new w 24 #[.int .i64 iw, .int .i64 ih, .slice a n c]).alloc (.cells #[.int .i64 kw, .int .i64 kh, .slice (some ⟨bt, ot, none⟩) nk ck] 64)
  have ks := Blk.new (w.alloc (.cells #[.int .i64 iw, .int .i64 ih, .slice a n c] 24)) 64 #[.int .i64 kw, .int .i64 kh, .slice (some ⟨bt, ot, none⟩) nk ck]
  simp only [World.size_alloc] at ks
  obtain ⟨W, hW⟩ : ∃ W, (w.alloc (.cells #[.int .i64 iw, .int .i64 ih, .slice a n c] 24)).alloc (.cells #[.int .i64 kw, .int .i64 kh, .slice (some ⟨bt, ot, none⟩) nk ck] 64) = W := ⟨_, rfl⟩
  rw [hW] at hB0 ki ks
  have h0s := Lib.hid hns.out
  go_enter Try.func110, Try.ntmps110
  go_wp2_with fail
  clear hW
  go_loopw [11, 12] (fun o i wr => ∃ j : Nat, j ≤ kh ∧ i = .int .i64 (j : Int) ∧ o = .int .i64 (sumTo TT (j * kw)) ∧ Below W.heap.size W wr) (fun o i _ => kh - (intOf i).toNat)
  case atStart => exact ⟨0, Nat.zero_le _, rfl, by simp [sumTo], Below.refl _ _⟩
  case round =>
    obtain ⟨j, hj, rfl, rfl, hBw⟩ := hrel
    have hBr : Below w.heap.size w wr := hB0.trans (hBw.mono hB0.size)
    have m0 := (ks.below hBw ks.lt).cell (i := 0) rfl
    have m1 := (ks.below hBw ks.lt).cell (i := 1) rfl
    have m2 := (ks.below hBw ks.lt).cell (i := 2) rfl
    by_cases hlt : j < kh
    · have hdec : decide ((j : Int) < (kh : Int)) = true := by simp; omega
      have hjk : j * kw + kw ≤ nk := by
        rw [← hns.out]
        have := Nat.mul_le_mul_right kw (show j + 1 ≤ kh by omega)
        rw [Nat.add_mul, Nat.one_mul, Nat.mul_comm kh kw] at this
        exact this
      go_wp2_with fail
      try simp only [hdec]
      clear hdec m0 m1 m2
      go_loopw [11, 13] (fun o i wr => ∃ i0 : Nat, i0 ≤ kw ∧ i = .int .i64 (i0 : Int) ∧ o = .int .i64 (sumTo TT (j * kw + i0)) ∧ Below W.heap.size W wr) (fun o i _ => kw - (intOf i).toNat)
      case atStart => exact ⟨0, Nat.zero_le _, rfl, rfl, hBw⟩
      case round =>
        clear hBr hBw
        obtain ⟨q, hq, rfl, rfl, hBw⟩ := hrel
        have hBr : Below w.heap.size w wr := hB0.trans (hBw.mono hB0.size)
        have ki0 := ki.lt
        replace ki := ki.below hBw ki.lt
        replace ks := ks.below hBw ks.lt
        have m0 := ks.cell (i := 0) rfl
        have m1 := ks.cell (i := 1) rfl
        have m2 := ks.cell (i := 2) rfl
        by_cases hltq : q < kw
        · obtain ⟨i0, hi0⟩ : ∃ i0, j * kw + q = i0 := ⟨_, rfl⟩
          have em : i0 % kw = q := by rw [← hi0]; exact idx_mod j hltq
          have ed : i0 / kw = j := by rw [← hi0]; exact idx_div j hltq
          have hin : i0 < nk := by omega
          have hTE : TT i0 = px taps i0 * beyF bd iw ih xs (x - ((q : Int) - hw)) (y - ((j : Int) - hh)) := by
            rw [← hTTH.out]; unfold convT; rw [hweH.out, hheH.out, em, ed, show x + hw - (q : Int) = x - ((q : Int) - hw) by omega, show y + hh - (j : Int) = y - ((j : Int) - hh) by omega]
          have htap := (hBr.cell (p := ⟨bt, ot + i0, none⟩) hbt).trans (hbcH.out i0 hin)
          have htb := px_bdB (B := 65536) (by decide) htall.out (i0 : Int)
          obtain ⟨tp, htp⟩ : ∃ v, px taps (i0 : Int) = v := ⟨_, rfl⟩
          rw [htp] at htap htb hTE
          obtain ⟨bv, hbv⟩ : ∃ v, beyF bd iw ih xs (x - ((q : Int) - hw)) (y - ((j : Int) - hh)) = v := ⟨_, rfl⟩
          have hbb := beyF_bd hall.out bd iw ih (x - ((q : Int) - hw)) (y - ((j : Int) - hh))
          rw [hbv] at hbb hTE
          have hbvH := Lib.hid hbv
          have hmb := mul_bd htb.1 htb.2 hbb.1 hbb.2 (by decide) (by decide)
          have hsb := sumTo_bd (f := TT) (B := 140737488355328) (k := i0) (fun t _ => hTB.out t)
          have hsn : sumTo TT (j * kw + (q + 1)) = sumTo TT i0 + tp * bv := by rw [← Nat.add_assoc, hi0, ← hTE]; rfl
          rw [hi0]
          obtain ⟨sv, hsv⟩ : ∃ v, sumTo TT i0 = v := ⟨_, rfl⟩
          rw [hsv] at hsb hsn ⊢
          have hsnH := Lib.hid hsn
          clear hsn hsv hbv htp hTE em ed
          have p3 : ((j : Int) * (kw : Int) + (q : Int)) < (nk : Int) := by
            have e : ((j * kw + q : Nat) : Int) = (j : Int) * (kw : Int) + (q : Int) := by simp
            omega
          have p4 : 0 ≤ (j : Int) * (kw : Int) := Int.mul_nonneg (by omega) (by omega)
          have hS : Below wr.heap.size wr wr.drew := (Below.refl _ _).drew
          go_wp2_with fail
          refine plain_region (fun W' => Below wr.heap.size wr W') 31 31 (by kernel_rfl) rfl ?_
          simp only [Array.replicate_succ, Array.replicate_zero, List.push_toArray, List.nil_append, List.cons_append]
          refine take_op 0 (v := ?rv0) rfl (by kernel_rfl) (fun _ _ _ h => h) (by rfl) hS (fun w' hS' => ?ry0) ?rz0
          case ry0 =>
            go_simp
            rfl
          simp only [List.setIfInBounds_toArray, List.set_cons_zero, List.set_cons_succ]
          refine take_op 1 (v := ?rv1) rfl (by kernel_rfl) (fun _ _ _ h => h) (by rfl) hS (fun w' hS' => ?ry1) ?rz1
          case ry1 =>
            go_simp
            rfl
          simp only [List.setIfInBounds_toArray, List.set_cons_zero, List.set_cons_succ]
          refine take_op 2 (v := ?rv2) rfl (by kernel_rfl) (fun _ _ _ h => h) (by rfl) hS (fun w' hS' => ?ry2) ?rz2
          case ry2 =>
            have a0 := (ks.below hS' ks.lt).cell (i := 0) rfl
            have a1 := (ks.below hS' ks.lt).cell (i := 1) rfl
            have a2 := (ks.below hS' ks.lt).cell (i := 2) rfl
            have m0 := (ki.below hS' ki.lt).cell (i := 0) rfl
            have m1 := (ki.below hS' ki.lt).cell (i := 1) rfl
            have m2 := (ki.below hS' ki.lt).cell (i := 2) rfl
            have t0 := (hS'.cell (p := ⟨bt, ot + i0, none⟩) (by show bt < wr.heap.size; have := hBr.size; omega)).trans htap
            go_simp
            rfl
          simp only [List.setIfInBounds_toArray, List.set_cons_zero, List.set_cons_succ]
          refine take_op 3 (v := ?rv3) rfl (by kernel_rfl) (fun _ _ _ h => h) (by rfl) hS (fun w' hS' => ?ry3) ?rz3
          case ry3 =>
            go_simp
            rfl
          simp only [List.setIfInBounds_toArray, List.set_cons_zero, List.set_cons_succ]
          refine take_op 4 (v := ?rv4) rfl (by kernel_rfl) (fun _ _ _ h => h) (by rfl) hS (fun w' hS' => ?ry4) ?rz4
          case ry4 =>
            go_simp
            rfl
          simp only [List.setIfInBounds_toArray, List.set_cons_zero, List.set_cons_succ]
          refine take_op 5 (v := ?rv5) rfl (by kernel_rfl) (fun _ _ _ h => h) (by rfl) hS (fun w' hS' => ?ry5) ?rz5
          case ry5 =>
            have a0 := (ks.below hS' ks.lt).cell (i := 0) rfl
            have a1 := (ks.below hS' ks.lt).cell (i := 1) rfl
            have a2 := (ks.below hS' ks.lt).cell (i := 2) rfl
            have m0 := (ki.below hS' ki.lt).cell (i := 0) rfl
            have m1 := (ki.below hS' ki.lt).cell (i := 1) rfl
            have m2 := (ki.below hS' ki.lt).cell (i := 2) rfl
            have t0 := (hS'.cell (p := ⟨bt, ot + i0, none⟩) (by show bt < wr.heap.size; have := hBr.size; omega)).trans htap
            go_simp
            rfl
          simp only [List.setIfInBounds_toArray, List.set_cons_zero, List.set_cons_succ]
          refine take_op 6 (v := ?rv6) rfl (by kernel_rfl) (fun _ _ _ h => h) (by rfl) hS (fun w' hS' => ?ry6) ?rz6
          case ry6 =>
            go_simp
            try go_ints
            rfl
          simp only [List.setIfInBounds_toArray, List.set_cons_zero, List.set_cons_succ]
          refine take_op 7 (v := ?rv7) rfl (by kernel_rfl) (fun _ _ _ h => h) (by rfl) hS (fun w' hS' => ?ry7) ?rz7
          case ry7 =>
            go_simp
            rfl
          simp only [List.setIfInBounds_toArray, List.set_cons_zero, List.set_cons_succ]
          refine take_op 8 (v := ?rv8) rfl (by kernel_rfl) (fun _ _ _ h => h) (by rfl) hS (fun w' hS' => ?ry8) ?rz8
          case ry8 =>
            go_simp
            try go_ints
            rfl
          simp only [List.setIfInBounds_toArray, List.set_cons_zero, List.set_cons_succ]
          refine take_op 9 (v := ?rv9) rfl (by kernel_rfl) (fun _ _ _ h => h) (by rfl) hS (fun w' hS' => ?ry9) ?rz9
          case ry9 =>
            go_simp
            try go_ints
            first
            | rfl
            | rw [if_pos ⟨by omega, by omega⟩]
          simp only [List.setIfInBounds_toArray, List.set_cons_zero, List.set_cons_succ]
          refine take_op 10 (v := ?rv10) rfl (by kernel_rfl) (fun _ _ _ h => h) (by rfl) hS (fun w' hS' => ?ry10) ?rz10
          case ry10 =>
            have a0 := (ks.below hS' ks.lt).cell (i := 0) rfl
            have a1 := (ks.below hS' ks.lt).cell (i := 1) rfl
            have a2 := (ks.below hS' ks.lt).cell (i := 2) rfl
            have m0 := (ki.below hS' ki.lt).cell (i := 0) rfl
            have m1 := (ki.below hS' ki.lt).cell (i := 1) rfl
            have m2 := (ki.below hS' ki.lt).cell (i := 2) rfl
            have t0 := (hS'.cell (p := ⟨bt, ot + i0, none⟩) (by show bt < wr.heap.size; have := hBr.size; omega)).trans htap
            go_simp
            rfl
          simp only [List.setIfInBounds_toArray, List.set_cons_zero, List.set_cons_succ]
          refine take_op 11 (v := ?rv11) rfl (by kernel_rfl) (fun _ _ _ h => h) (by rfl) hS (fun w' hS' => ?ry11) ?rz11
          case ry11 =>
            have a0 := (ks.below hS' ks.lt).cell (i := 0) rfl
            have a1 := (ks.below hS' ks.lt).cell (i := 1) rfl
            have a2 := (ks.below hS' ks.lt).cell (i := 2) rfl
            have m0 := (ki.below hS' ki.lt).cell (i := 0) rfl
            have m1 := (ki.below hS' ki.lt).cell (i := 1) rfl
            have m2 := (ki.below hS' ki.lt).cell (i := 2) rfl
            have t0 := (hS'.cell (p := ⟨bt, ot + i0, none⟩) (by show bt < wr.heap.size; have := hBr.size; omega)).trans htap
            go_simp
            rfl
          simp only [List.setIfInBounds_toArray, List.set_cons_zero, List.set_cons_succ]
          refine take_op 12 (v := ?rv12) rfl (by kernel_rfl) (fun _ _ _ h => h) (by rfl) hS (fun w' hS' => ?ry12) ?rz12
          case ry12 =>
            go_simp
            rfl
          simp only [List.setIfInBounds_toArray, List.set_cons_zero, List.set_cons_succ]
          refine take_op 13 (v := ?rv13) rfl (by kernel_rfl) (fun _ _ _ h => h) (by rfl) hS (fun w' hS' => ?ry13) ?rz13
          case ry13 =>
            go_simp
            rfl
          simp only [List.setIfInBounds_toArray, List.set_cons_zero, List.set_cons_succ]
          refine take_op 14 (v := ?rv14) rfl (by kernel_rfl) (fun _ _ _ h => h) (by rfl) hS (fun w' hS' => ?ry14) ?rz14
          case ry14 =>
            go_simp
            rfl
          simp only [List.setIfInBounds_toArray, List.set_cons_zero, List.set_cons_succ]
          refine take_op 15 (v := ?rv15) rfl (by kernel_rfl) (fun _ _ _ h => h) (by rfl) hS (fun w' hS' => ?ry15) ?rz15
          case ry15 =>
            go_simp
            rfl
          simp only [List.setIfInBounds_toArray, List.set_cons_zero, List.set_cons_succ]
          refine take_op 16 (v := ?rv16) rfl (by kernel_rfl) (fun _ _ _ h => h) (by rfl) hS (fun w' hS' => ?ry16) ?rz16
          case ry16 =>
            have a0 := (ks.below hS' ks.lt).cell (i := 0) rfl
            have a1 := (ks.below hS' ks.lt).cell (i := 1) rfl
            have a2 := (ks.below hS' ks.lt).cell (i := 2) rfl
            have m0 := (ki.below hS' ki.lt).cell (i := 0) rfl
            have m1 := (ki.below hS' ki.lt).cell (i := 1) rfl
            have m2 := (ki.below hS' ki.lt).cell (i := 2) rfl
            have t0 := (hS'.cell (p := ⟨bt, ot + i0, none⟩) (by show bt < wr.heap.size; have := hBr.size; omega)).trans htap
            go_simp
            rfl
          simp only [List.setIfInBounds_toArray, List.set_cons_zero, List.set_cons_succ]
          refine take_op 17 (v := ?rv17) rfl (by kernel_rfl) (fun _ _ _ h => h) (by rfl) hS (fun w' hS' => ?ry17) ?rz17
          case ry17 =>
            go_simp
            try go_ints
            rfl
          simp only [List.setIfInBounds_toArray, List.set_cons_zero, List.set_cons_succ]
          refine take_op 18 (v := ?rv18) rfl (by kernel_rfl) (fun _ _ _ h => h) (by rfl) hS (fun w' hS' => ?ry18) ?rz18
          case ry18 =>
            go_simp
            try go_ints
            rfl
          simp only [List.setIfInBounds_toArray, List.set_cons_zero, List.set_cons_succ]
          refine take_op 19 (v := ?rv19) rfl (by kernel_rfl) (fun _ _ _ h => h) (by rfl) hS (fun w' hS' => ?ry19) ?rz19
          case ry19 =>
            go_simp
            try go_ints
            rfl
          simp only [List.setIfInBounds_toArray, List.set_cons_zero, List.set_cons_succ]
          refine take_op 20 (v := ?rv20) rfl (by kernel_rfl) (fun _ _ _ h => h) (by rfl) hS (fun w' hS' => ?ry20) ?rz20
          case ry20 =>
            go_simp
            rfl
          simp only [List.setIfInBounds_toArray, List.set_cons_zero, List.set_cons_succ]
          refine take_op 21 (v := ?rv21) rfl (by kernel_rfl) (fun _ _ _ h => h) (by rfl) hS (fun w' hS' => ?ry21) ?rz21
          case ry21 =>
            go_simp
            rfl
          simp only [List.setIfInBounds_toArray, List.set_cons_zero, List.set_cons_succ]
          refine take_op 22 (v := ?rv22) rfl (by kernel_rfl) (fun _ _ _ h => h) (by rfl) hS (fun w' hS' => ?ry22) ?rz22
          case ry22 =>
            go_simp
            rfl
          simp only [List.setIfInBounds_toArray, List.set_cons_zero, List.set_cons_succ]
          refine take_op 23 (v := ?rv23) rfl (by kernel_rfl) (fun _ _ _ h => h) (by rfl) hS (fun w' hS' => ?ry23) ?rz23
          case ry23 =>
            have a0 := (ks.below hS' ks.lt).cell (i := 0) rfl
            have a1 := (ks.below hS' ks.lt).cell (i := 1) rfl
            have a2 := (ks.below hS' ks.lt).cell (i := 2) rfl
            have m0 := (ki.below hS' ki.lt).cell (i := 0) rfl
            have m1 := (ki.below hS' ki.lt).cell (i := 1) rfl
            have m2 := (ki.below hS' ki.lt).cell (i := 2) rfl
            have t0 := (hS'.cell (p := ⟨bt, ot + i0, none⟩) (by show bt < wr.heap.size; have := hBr.size; omega)).trans htap
            go_simp
            rfl
          simp only [List.setIfInBounds_toArray, List.set_cons_zero, List.set_cons_succ]
          refine take_op 24 (v := ?rv24) rfl (by kernel_rfl) (fun _ _ _ h => h) (by rfl) hS (fun w' hS' => ?ry24) ?rz24
          case ry24 =>
            go_simp
            try go_ints
            rfl
          simp only [List.setIfInBounds_toArray, List.set_cons_zero, List.set_cons_succ]
          refine take_op 25 (v := ?rv25) rfl (by kernel_rfl) (fun _ _ _ h => h) (by rfl) hS (fun w' hS' => ?ry25) ?rz25
          case ry25 =>
            go_simp
            try go_ints
            rfl
          simp only [List.setIfInBounds_toArray, List.set_cons_zero, List.set_cons_succ]
          refine take_op 26 (v := ?rv26) rfl (by kernel_rfl) (fun _ _ _ h => h) (by rfl) hS (fun w' hS' => ?ry26) ?rz26
          case ry26 =>
            go_simp
            try go_ints
            rfl
          simp only [List.setIfInBounds_toArray, List.set_cons_zero, List.set_cons_succ]
          refine step_op 27 (by kernel_rfl) rfl (fun K hK => ?_)
          rw [if_pos (by rfl)]
          go_simp
          refine (Beyond_any bd hbd1 hbd2 iw ih a c n xs hn _ _ _ hi1 hi2 hi3 hi4 hnn (by omega) (by omega) (by omega) (by omega) bv hbvH ((hr.below (Nat.le_refl _) (hBr.trans (hS.mono hBr.size))).mono (hBr.trans (hS.mono hBr.size)).size)).mono ?_
          rintro e W1 ⟨rfl, hb1⟩
          have hS1 : Below wr.heap.size wr W1 := hS.trans (hb1.mono hS.size)
          refine hK.out _ _ (fun h => hS1) ?_
          clear hK K
          try simp only [Act.put, List.setIfInBounds_toArray, List.set_cons_zero, List.set_cons_succ]
          refine take_op 28 (v := ?rv28) rfl (by kernel_rfl) (fun _ _ _ h => h) (by rfl) hS1 (fun w' hS' => ?ry28) ?rz28
          case ry28 =>
            go_simp
            try go_ints
            rfl
          simp only [List.setIfInBounds_toArray, List.set_cons_zero, List.set_cons_succ]
          refine take_op 29 (v := ?rv29) rfl (by kernel_rfl) (fun _ _ _ h => h) (by rfl) hS1 (fun w' hS' => ?ry29) ?rz29
          case ry29 =>
            go_simp
            try go_ints
            rfl
          simp only [List.setIfInBounds_toArray, List.set_cons_zero, List.set_cons_succ]
          refine take_op 30 (v := ?rv30) rfl (by kernel_rfl) (fun _ _ _ h => h) (by rfl) hS1 (fun w' hS' => ?ry30) ?rz30
          case ry30 =>
            go_simp
            rfl
          simp only [List.setIfInBounds_toArray, List.set_cons_zero, List.set_cons_succ]
          refine done_ops (by kernel_rfl) ?_
          go_wp2_with fail
          go_roundw
          case rel => exact ⟨q + 1, by omega, by go_num, by rw [hsnH.out], hBw.trans (hS1.mono hBw.size)⟩
          case measure => simp [intOf]; omega
        · have hqk : q = kw := by omega
          have hst := Lib.hid (show sumTo TT (j * kw + q) = sumTo TT ((j + 1) * kw) by rw [hqk, Nat.add_mul, Nat.one_mul])
          clear hqk
          go_wp2_with fail
          go_roundw
          case rel => exact ⟨j + 1, by omega, by go_num, by rw [hst.out], hBw⟩
          case measure => simp [intOf]; omega
    · have hjk : j = kh := by omega
      have hfin := Lib.hid (show sumTo TT (j * kw) = r by rw [hjk, Nat.mul_comm, hG.out])
      clear hjk
      go_wp2_with fail
      go_ret
      exact ⟨ret_int hfin.out, hBr⟩

set_option maxRecDepth 100000 in
set_option maxHeartbeats 4000000 in
theorem rConvolve_any (iw ih : Int) (a : Option Addr) (c n : Nat) (xs : List Int) (hn : Hid (xs.length = n)) (kw kh : Int) (ak : Option Addr) (ck nk : Nat) (taps : List Int) (hkn : Hid (taps.length = nk)) (bd : Int) (hd1 : 0 ≤ bd) (hd2 : bd ≤ 255) (w : World) (hm : n ≤ 9223372036854775807) (hr : Rd w.heap.size w a xs) (hmk : nk ≤ 9223372036854775807) (hrk : Rd w.heap.size w ak taps) :
    Calls Try.prog 52 #[imv iw ih a n c, imv kw kh ak nk ck, .int .u8 bd] w (RetIm w.heap.size (convS iw ih xs kw kh taps bd) w) := by
  have hB0 : Below w.heap.size w (((w.alloc (.cells #[.int .i64 iw, .int .i64 ih, .slice a n c] 24)).alloc (.cells #[.int .i64 kw, .int .i64 kh, .slice ak nk ck] 64)).alloc (.cells #[.int .i64 0, .int .i64 0, .slice none 0 0] 24)) := below_al (below_al (below_al (Below.refl _ _) _) _) _
  obtain ⟨v0, hv⟩ : ∃ v, vld iw ih xs = v := ⟨_, rfl⟩
  have v0H := Lib.hid hv
  obtain ⟨v1, hv1⟩ : ∃ v, kernOk kw kh taps = v := ⟨_, rfl⟩
  have v1H := Lib.hid hv1
  obtain ⟨v2, hv2⟩ : ∃ v, decide (1 ≤ bd ∧ bd ≤ 3) = v := ⟨_, rfl⟩
  have v2H := Lib.hid hv2
  have hsp0 : convS iw ih xs kw kh taps bd = if v0 = true then (if v1 = true then if v2 = true then { w := iw, h := ih, px := img iw.toNat ih.toNat (convC bd iw ih xs kw.toNat kh.toNat taps), err := 0 } else noIm 2 else noIm 22) else noIm 20 := by
    simp only [convS, convC_img, hv, hv1, hv2]
  have hsp := Lib.hid hsp0
  clear hv hsp0 hv1 hv2
  go_enter Try.func52, Try.ntmps52
  go_wp2_with fail
  refine (Valid_any iw ih a c xs n hn _ hm ((hr.below (Nat.le_refl _) hB0).mono hB0.size)).mono ?_
  rintro e W1 ⟨rfl, hb1⟩
  rw [v0H.out]
  have hB1 : Below w.heap.size w W1 := hB0.trans (hb1.mono hB0.size)
  have k5 := (((Blk.new w 24 #[.int .i64 iw, .int .i64 ih, .slice a n c]).alloc (.cells #[.int .i64 kw, .int .i64 kh, .slice ak nk ck] 64)).alloc (.cells #[.int .i64 0, .int .i64 0, .slice none 0 0] 24)).below hb1 (by simp <;> omega)
  have k6 := ((Blk.new (w.alloc (.cells #[.int .i64 iw, .int .i64 ih, .slice a n c] 24)) 64 #[.int .i64 kw, .int .i64 kh, .slice ak nk ck]).alloc (.cells #[.int .i64 0, .int .i64 0, .slice none 0 0] 24)).below hb1 (by simp <;> omega)
  have k := (Blk.new ((w.alloc (.cells #[.int .i64 iw, .int .i64 ih, .slice a n c] 24)).alloc (.cells #[.int .i64 kw, .int .i64 kh, .slice ak nk ck] 64)) 24 #[.int .i64 0, .int .i64 0, .slice none 0 0]).below hb1 (by simp <;> omega)
  simp only [World.size_alloc] at k6 k
  clear hb1 hB0
  have hlt := k.lt
  have m0 := k5.cell (i := 0) rfl
  have m1 := k5.cell (i := 1) rfl
  have m2 := k5.cell (i := 2) rfl
  have s0 := k6.cell (i := 0) rfl
  have s1 := k6.cell (i := 1) rfl
  have s2 := k6.cell (i := 2) rfl
  have c0 := k.cell (i := 0) rfl
  have c1 := k.cell (i := 1) rfl
  have c2 := k.cell (i := 2) rfl
  have fc0 := k.frozen 0
  have fc1 := k.frozen 1
  have fc2 := k.frozen 2
  cases v0 with
  | false =>
    go_wp2_with fail
    have kf := put3_blk k (.int .i64 0) (.int .i64 0) (.slice none 0 0)
    have g0 := kf.cell (i := 0) rfl
    have g1 := kf.cell (i := 1) rfl
    have g2 := kf.cell (i := 2) rfl
    exact bodyPost_ret (v := .tuple #[.agg #[.int .i64 0, .int .i64 0, .slice none 0 0], .int .i64 20]) (by simp [results, Try.results52, go_sem, g0, g1, g2]) rfl ⟨⟨_, by rw [hsp.out]; rfl, by rw [hsp.out]; exact OwnIm_nil _ _⟩, hB1.trans (put3_below (by omega) _ _ _)⟩
  | true =>
    go_wp2_with fail
    refine (ValidKernel_any kw kh ak ck nk taps hkn _ (Lib.hid rfl) W1 hmk ((hrk.below (Nat.le_refl _) hB1).mono hB1.size)).mono ?_
    rintro e W2 ⟨rfl, hb⟩
    rw [v1H.out]
    have hB2 : Below w.heap.size w W2 := hB1.trans (hb.mono hB1.size)
    clear m0 m1 m2
    replace k5 := k5.below hb k5.lt
    have m0 := k5.cell (i := 0) rfl
    have m1 := k5.cell (i := 1) rfl
    have m2 := k5.cell (i := 2) rfl
    clear s0 s1 s2
    replace k6 := k6.below hb k6.lt
    have s0 := k6.cell (i := 0) rfl
    have s1 := k6.cell (i := 1) rfl
    have s2 := k6.cell (i := 2) rfl
    clear c0 c1 c2 fc0 fc1 fc2
    replace k := k.below hb k.lt
    have c0 := k.cell (i := 0) rfl
    have c1 := k.cell (i := 1) rfl
    have c2 := k.cell (i := 2) rfl
    have fc0 := k.frozen 0
    have fc1 := k.frozen 1
    have fc2 := k.frozen 2
    clear hb
    replace hlt := k.lt
    cases v1 with
    | false =>
      go_wp2_with fail
      have kf := put3_blk k (.int .i64 0) (.int .i64 0) (.slice none 0 0)
      have g0 := kf.cell (i := 0) rfl
      have g1 := kf.cell (i := 1) rfl
      have g2 := kf.cell (i := 2) rfl
      exact bodyPost_ret (v := .tuple #[.agg #[.int .i64 0, .int .i64 0, .slice none 0 0], .int .i64 22]) (by simp [results, Try.results52, go_sem, g0, g1, g2]) rfl ⟨⟨_, by rw [hsp.out]; rfl, by rw [hsp.out]; exact OwnIm_nil _ _⟩, hB2.trans (put3_below (by omega) _ _ _)⟩
    | true =>
      cases v2 with
      | false =>
        have hq := v2H.out
        simp only [decide_eq_false_iff_not] at hq
        by_cases e1 : bd < 1
        · clear hq
          go_wp2_with fail
          have kf := put3_blk k (.int .i64 0) (.int .i64 0) (.slice none 0 0)
          have g0 := kf.cell (i := 0) rfl
          have g1 := kf.cell (i := 1) rfl
          have g2 := kf.cell (i := 2) rfl
          exact bodyPost_ret (v := .tuple #[.agg #[.int .i64 0, .int .i64 0, .slice none 0 0], .int .i64 2]) (by simp [results, Try.results52, go_sem, g0, g1, g2]) rfl ⟨⟨_, by rw [hsp.out]; rfl, by rw [hsp.out]; exact OwnIm_nil _ _⟩, hB2.trans (put3_below (by omega) _ _ _)⟩
        · have e2 : 3 < bd := by omega
          clear hq
          go_wp2_with fail
          have kf := put3_blk k (.int .i64 0) (.int .i64 0) (.slice none 0 0)
          have g0 := kf.cell (i := 0) rfl
          have g1 := kf.cell (i := 1) rfl
          have g2 := kf.cell (i := 2) rfl
          exact bodyPost_ret (v := .tuple #[.agg #[.int .i64 0, .int .i64 0, .slice none 0 0], .int .i64 2]) (by simp [results, Try.results52, go_sem, g0, g1, g2]) rfl ⟨⟨_, by rw [hsp.out]; rfl, by rw [hsp.out]; exact OwnIm_nil _ _⟩, hB2.trans (put3_below (by omega) _ _ _)⟩
      | true =>
        have hq := v2H.out
        simp only [decide_eq_true_eq] at hq
        obtain ⟨hh1, hh2⟩ := hq
        have hk0 := v1H.out
        unfold kernOk at hk0
        rw [Bool.and_eq_true, hkn.out] at hk0
        obtain ⟨s1, s2, s3⟩ := sidesB_true hk0.1
        have htall := Lib.hid hk0.2
        clear hk0
        obtain ⟨tw, rfl⟩ : ∃ tw : Nat, kw = (tw : Int) := ⟨kw.toNat, by omega⟩
        obtain ⟨th, rfl⟩ : ∃ th : Nat, kh = (th : Int) := ⟨kh.toNat, by omega⟩
        have htn := Lib.hid (show tw * th = nk by
          have e : ((tw * th : Nat) : Int) = (tw : Int) * (th : Int) := by simp
          omega)
        have t1 : tw = 1 ∨ tw = 3 ∨ tw = 5 := by omega
        have t2 : th = 1 ∨ th = 3 ∨ th = 5 := by omega
        clear s1 s2 s3
        obtain ⟨⟨i1, i2⟩, ⟨i3, i4⟩, hlen, hall⟩ := vld_true v0H.out
        rw [hn.out] at hlen
        have hlenH := Lib.hid hlen
        have hallH := Lib.hid hall
        clear hlen hall
        obtain ⟨pw, rfl⟩ : ∃ pw : Nat, iw = (pw : Int) := ⟨iw.toNat, by omega⟩
        obtain ⟨ph, rfl⟩ : ∃ ph : Nat, ih = (ph : Int) := ⟨ih.toNat, by omega⟩
        have hN : pw * ph = n ∧ n ≤ 256 := by
          have h1 := hlenH.out
          obtain ⟨m1, m2⟩ := mul_small (a := (pw : Int)) (b := (ph : Int)) (m := 16) (n := 16) (by omega) (by omega) (by omega) (by omega)
          have h2 : ((pw * ph : Nat) : Int) = (pw : Int) * ph := by simp
          omega
        obtain ⟨hN1, hN2⟩ := hN
        have hN1H := Lib.hid hN1
        clear hN1
        go_wp2_with fail
        refine (Blank_any pw ph (by omega) (by omega) W2).mono ?_
        rintro e WB ⟨g, cap, rfl, hrow, hg, hb2⟩
        rw [hN1H.out] at hrow ⊢
        replace hrow := row_base hrow hB2.size
        replace hg := Nat.le_trans hB2.size hg
        clear m0 m1 m2
        replace k5 := k5.below hb2 k5.lt
        have m0 := k5.cell (i := 0) rfl
        have m1 := k5.cell (i := 1) rfl
        have m2 := k5.cell (i := 2) rfl
        clear s0 s1 s2
        replace k6 := k6.below hb2 k6.lt
        have s0 := k6.cell (i := 0) rfl
        have s1 := k6.cell (i := 1) rfl
        have s2 := k6.cell (i := 2) rfl
        clear c0 c1 c2 fc0 fc1 fc2
        replace k := k.below hb2 k.lt
        have c0 := k.cell (i := 0) rfl
        have c1 := k.cell (i := 1) rfl
        have c2 := k.cell (i := 2) rfl
        have fc0 := k.frozen 0
        have fc1 := k.frozen 1
        have fc2 := k.frozen 2
        go_wp2_with fail
        have hBB := hB2.trans (hb2.mono hB2.size)
        have ko := Blk.new WB 24 #[.int .i64 pw, .int .i64 ph, .slice (some ⟨g, 0, none⟩) n cap]
        have row3 := hrow.alloc (.cells #[.int .i64 pw, .int .i64 ph, .slice (some ⟨g, 0, none⟩) n cap] 24)
        obtain ⟨W3, hW3⟩ : ∃ W3, WB.alloc (.cells #[.int .i64 pw, .int .i64 ph, .slice (some ⟨g, 0, none⟩) n cap] 24) = W3 := ⟨_, rfl⟩
        have hb3 : Below WB.heap.size WB W3 := alloc_below hW3
        rw [hW3] at ko row3 ⊢
        clear hW3
        have hB3 := hBB.trans (hb3.mono hBB.size)
        clear m0 m1 m2
        replace k5 := k5.below hb3 k5.lt
        have m0 := k5.cell (i := 0) rfl
        have m1 := k5.cell (i := 1) rfl
        have m2 := k5.cell (i := 2) rfl
        clear s0 s1 s2
        replace k6 := k6.below hb3 k6.lt
        have s0 := k6.cell (i := 0) rfl
        have s1 := k6.cell (i := 1) rfl
        have s2 := k6.cell (i := 2) rfl
        clear c0 c1 c2 fc0 fc1 fc2
        replace k := k.below hb3 k.lt
        have c0 := k.cell (i := 0) rfl
        have c1 := k.cell (i := 1) rfl
        have c2 := k.cell (i := 2) rfl
        have fc0 := k.frozen 0
        have fc1 := k.frozen 1
        have fc2 := k.frozen 2
        obtain ⟨M, hM⟩ : ∃ M, WB.heap.size = M := ⟨_, rfl⟩
        rw [hM] at ko ⊢
        clear hb2 hb3 hrow hM hBB hB1 hB2
        clear m0 m1 m2 s0 s1 s2 c0 c1 c2 fc0 fc1 fc2
        clear WB
        clear hlt
        have row3' := row3
        rw [← upto_zero (fun i => (convC bd pw ph xs tw th taps) (cX pw i) (cY pw i)) n] at row3'
        clear row3
        have hgl := row3'.lt g rfl
        have ngoH := Lib.hid (ko.not_row (by decide) row3')
        have ngk5H := Lib.hid (k5.not_row (by decide) row3')
        have ngk6H := Lib.hid (k6.not_row (by decide) row3')
        have ngkH := Lib.hid (k.not_row (by decide) row3')
        go_loopw [9] (fun i wr => ∃ k : Nat, k ≤ n ∧ i = .int .i64 k ∧ W3.grownBy wr (some g) ∧ wr.ownsRow w.heap.size 3 1 (.slice (some ⟨g, 0, none⟩) n cap) n ((upto (fun i => (convC bd pw ph xs tw th taps) (cX pw i) (cY pw i)) n k).map (Value.int .i64))) (fun i _ => n - (intOf i).toNat)
        case atStart => exact ⟨0, Nat.zero_le _, rfl, ⟨rfl, rfl, rfl, Nat.le_refl _, fun _ _ _ => rfl⟩, row3'⟩
        case round =>
          obtain ⟨k', hk, rfl, hG, rowk⟩ := hrel
          have k5r := k5.kept hG ngk5H.out
          have k6r := k6.kept hG ngk6H.out
          have kor := ko.kept hG ngoH.out
          have hS : Below wr.heap.size wr wr.drew := (Below.refl _ _).drew
          have hBr : Below w.heap.size w wr := hB3.grown hG hB3.size (fun j e => by cases e; exact hg)
          have m2 := k5r.cell (i := 2) rfl
          have hpw0 : pw ≠ 0 := by omega
          by_cases hlt : k' < n
          · obtain ⟨x1, x2⟩ := cX_bd (pw := pw) (i := k') (by omega)
            obtain ⟨y1, y2⟩ := cY_bd (pw := pw) (ph := ph) (i := k') (by rw [hN1H.out]; exact hlt)
            rw [cX_eq] at x1 x2
            rw [cY_eq] at y1 y2
            go_wp2_with fail
            refine plain_region (fun W' => Below wr.heap.size wr W') 17 18 (by kernel_rfl) rfl ?_
            simp only [Array.replicate_succ, Array.replicate_zero, List.push_toArray, List.nil_append, List.cons_append]
            refine take_op 0 (v := ?rv0) rfl (by kernel_rfl) (fun _ _ _ h => h) (by rfl) hS (fun w' hS' => ?ry0) ?rz0
            case ry0 =>
              go_simp
              rfl
            simp only [List.setIfInBounds_toArray, List.set_cons_zero, List.set_cons_succ]
            refine take_op 1 (v := ?rv1) rfl (by kernel_rfl) (fun _ _ _ h => h) (by rfl) hS (fun w' hS' => ?ry1) ?rz1
            case ry1 =>
              have a2 := (kor.below hS' kor.lt).cell (i := 2) rfl
              have b0 := (k5r.below hS' k5r.lt).cell (i := 0) rfl
              have b1 := (k5r.below hS' k5r.lt).cell (i := 1) rfl
              have b2 := (k5r.below hS' k5r.lt).cell (i := 2) rfl
              have d0 := (k6r.below hS' k6r.lt).cell (i := 0) rfl
              have d1 := (k6r.below hS' k6r.lt).cell (i := 1) rfl
              have d2 := (k6r.below hS' k6r.lt).cell (i := 2) rfl
              go_simp
              rfl
            simp only [List.setIfInBounds_toArray, List.set_cons_zero, List.set_cons_succ]
            refine take_op 2 (v := ?rv2) rfl (by kernel_rfl) (fun _ _ _ h => h) (by rfl) hS (fun w' hS' => ?ry2) ?rz2
            case ry2 =>
              go_simp
              rfl
            simp only [List.setIfInBounds_toArray, List.set_cons_zero, List.set_cons_succ]
            refine take_op 3 (v := ?rv3) rfl (by kernel_rfl) (fun _ _ _ h => h) (by rfl) hS (fun w' hS' => ?ry3) ?rz3
            case ry3 =>
              have a2 := (kor.below hS' kor.lt).cell (i := 2) rfl
              have b0 := (k5r.below hS' k5r.lt).cell (i := 0) rfl
              have b1 := (k5r.below hS' k5r.lt).cell (i := 1) rfl
              have b2 := (k5r.below hS' k5r.lt).cell (i := 2) rfl
              have d0 := (k6r.below hS' k6r.lt).cell (i := 0) rfl
              have d1 := (k6r.below hS' k6r.lt).cell (i := 1) rfl
              have d2 := (k6r.below hS' k6r.lt).cell (i := 2) rfl
              go_simp
              rfl
            simp only [List.setIfInBounds_toArray, List.set_cons_zero, List.set_cons_succ]
            refine take_op 4 (v := ?rv4) rfl (by kernel_rfl) (fun _ _ _ h => h) (by rfl) hS (fun w' hS' => ?ry4) ?rz4
            case ry4 =>
              have a2 := (kor.below hS' kor.lt).cell (i := 2) rfl
              have b0 := (k5r.below hS' k5r.lt).cell (i := 0) rfl
              have b1 := (k5r.below hS' k5r.lt).cell (i := 1) rfl
              have b2 := (k5r.below hS' k5r.lt).cell (i := 2) rfl
              have d0 := (k6r.below hS' k6r.lt).cell (i := 0) rfl
              have d1 := (k6r.below hS' k6r.lt).cell (i := 1) rfl
              have d2 := (k6r.below hS' k6r.lt).cell (i := 2) rfl
              go_simp
              rfl
            simp only [List.setIfInBounds_toArray, List.set_cons_zero, List.set_cons_succ]
            refine take_op 5 (v := ?rv5) rfl (by kernel_rfl) (fun _ _ _ h => h) (by rfl) hS (fun w' hS' => ?ry5) ?rz5
            case ry5 =>
              go_simp
              rfl
            simp only [List.setIfInBounds_toArray, List.set_cons_zero, List.set_cons_succ]
            refine take_op 6 (v := ?rv6) rfl (by kernel_rfl) (fun _ _ _ h => h) (by rfl) hS (fun w' hS' => ?ry6) ?rz6
            case ry6 =>
              go_simp
              rfl
            simp only [List.setIfInBounds_toArray, List.set_cons_zero, List.set_cons_succ]
            refine take_op 7 (v := ?rv7) rfl (by kernel_rfl) (fun _ _ _ h => h) (by rfl) hS (fun w' hS' => ?ry7) ?rz7
            case ry7 =>
              go_simp
              rfl
            simp only [List.setIfInBounds_toArray, List.set_cons_zero, List.set_cons_succ]
            refine take_op 8 (v := ?rv8) rfl (by kernel_rfl) (fun _ _ _ h => h) (by rfl) hS (fun w' hS' => ?ry8) ?rz8
            case ry8 =>
              have a2 := (kor.below hS' kor.lt).cell (i := 2) rfl
              have b0 := (k5r.below hS' k5r.lt).cell (i := 0) rfl
              have b1 := (k5r.below hS' k5r.lt).cell (i := 1) rfl
              have b2 := (k5r.below hS' k5r.lt).cell (i := 2) rfl
              have d0 := (k6r.below hS' k6r.lt).cell (i := 0) rfl
              have d1 := (k6r.below hS' k6r.lt).cell (i := 1) rfl
              have d2 := (k6r.below hS' k6r.lt).cell (i := 2) rfl
              go_simp
              rfl
            simp only [List.setIfInBounds_toArray, List.set_cons_zero, List.set_cons_succ]
            refine take_op 9 (v := ?rv9) rfl (by kernel_rfl) (fun _ _ _ h => h) (by rfl) hS (fun w' hS' => ?ry9) ?rz9
            case ry9 =>
              go_simp
              try go_ints
              rfl
            simp only [List.setIfInBounds_toArray, List.set_cons_zero, List.set_cons_succ]
            refine take_op 10 (v := ?rv10) rfl (by kernel_rfl) (fun _ _ _ h => h) (by rfl) hS (fun w' hS' => ?ry10) ?rz10
            case ry10 =>
              go_simp
              rfl
            simp only [List.setIfInBounds_toArray, List.set_cons_zero, List.set_cons_succ]
            refine take_op 11 (v := ?rv11) rfl (by kernel_rfl) (fun _ _ _ h => h) (by rfl) hS (fun w' hS' => ?ry11) ?rz11
            case ry11 =>
              go_simp
              rfl
            simp only [List.setIfInBounds_toArray, List.set_cons_zero, List.set_cons_succ]
            refine take_op 12 (v := ?rv12) rfl (by kernel_rfl) (fun _ _ _ h => h) (by rfl) hS (fun w' hS' => ?ry12) ?rz12
            case ry12 =>
              have a2 := (kor.below hS' kor.lt).cell (i := 2) rfl
              have b0 := (k5r.below hS' k5r.lt).cell (i := 0) rfl
              have b1 := (k5r.below hS' k5r.lt).cell (i := 1) rfl
              have b2 := (k5r.below hS' k5r.lt).cell (i := 2) rfl
              have d0 := (k6r.below hS' k6r.lt).cell (i := 0) rfl
              have d1 := (k6r.below hS' k6r.lt).cell (i := 1) rfl
              have d2 := (k6r.below hS' k6r.lt).cell (i := 2) rfl
              go_simp
              rfl
            simp only [List.setIfInBounds_toArray, List.set_cons_zero, List.set_cons_succ]
            refine take_op 13 (v := ?rv13) rfl (by kernel_rfl) (fun _ _ _ h => h) (by rfl) hS (fun w' hS' => ?ry13) ?rz13
            case ry13 =>
              go_simp
              try go_ints
              rfl
            simp only [List.setIfInBounds_toArray, List.set_cons_zero, List.set_cons_succ]
            refine step_op 14 (by kernel_rfl) rfl (fun K hK => ?_)
            rw [if_pos (by rfl)]
            go_simp
            refine (Convolved_any bd hh1 hh2 pw ph a c n xs hn hallH tw th ak ck nk taps hkn htall t1 t2 htn _ _ _ (by omega) (by omega) (by omega) (by omega) hlenH x1 x2 y1 y2 (convG bd pw ph xs tw th taps (cX pw k') (cY pw k')) (Lib.hid rfl) ((hr.below (Nat.le_refl _) (hBr.trans (hS.mono hBr.size))).mono (hBr.trans (hS.mono hBr.size)).size) ((hrk.below (Nat.le_refl _) (hBr.trans (hS.mono hBr.size))).mono (hBr.trans (hS.mono hBr.size)).size)).mono ?_
            rintro e W4 ⟨rfl, hb4⟩
            have hS4 : Below wr.heap.size wr W4 := hS.trans (hb4.mono hS.size)
            refine hK.out _ _ (fun h => hS4) ?_
            clear hK K
            try simp only [Act.put, List.setIfInBounds_toArray, List.set_cons_zero, List.set_cons_succ]
            refine step_op 15 (by kernel_rfl) rfl (fun K hK => ?_)
            rw [if_pos (by rfl)]
            go_simp
            refine (Pix_any _ _).mono ?_
            rintro e W5 ⟨rfl, rfl⟩
            rw [show clamp (convG bd pw ph xs tw th taps (cX pw k') (cY pw k')) (-2147483648) 2147483648 = convC bd pw ph xs tw th taps (cX pw k') (cY pw k') from rfl]
            refine hK.out _ _ (fun h => hS4) ?_
            clear hK K
            try simp only [Act.put, List.setIfInBounds_toArray, List.set_cons_zero, List.set_cons_succ]
            have row4 := row_below rowk hS4
            have hcell := row4.cellAt k' (by omega)
            have hfr := row4.frozenAt k'
            have hcell2 : ((upto (fun i => (convC bd pw ph xs tw th taps) (cX pw i) (cY pw i)) n k').map (Value.int .i64))[k']? = some (.int .i64 0) := by simp [upto, hlt]
            rw [hcell2] at hcell
            clear hcell2
            refine take_op 16 (v := ?rv16) rfl (by kernel_rfl) (fun _ _ _ h => h) (by rfl) hS4 (fun w' hS' => ?ry16) ?rz16
            case ry16 =>
              go_simp
              try go_ints
              first
              | rfl
              | rw [if_pos ⟨by omega, by omega⟩]
            simp only [List.setIfInBounds_toArray, List.set_cons_zero, List.set_cons_succ]
            refine step_op 17 (by kernel_rfl) rfl (fun K hK => ?_)
            rw [if_pos (by rfl)]
            go_simp
            refine hK.out _ _ (fun h => absurd h (by omega)) ?_
            clear hK K
            try simp only [Act.put, List.setIfInBounds_toArray, List.set_cons_zero, List.set_cons_succ]
            refine done_ops (by kernel_rfl) ?_
            go_wp2_with fail
            go_roundw
            case rel =>
              have hst := (row4.stored k' (.int .i64 ((convC bd pw ph xs tw th taps) (cX pw k') (cY pw k')))).1
              rw [map_set_int, upto_set (fun i => (convC bd pw ph xs tw th taps) (cX pw i) (cY pw i)) n k' hlt] at hst
              exact ⟨k' + 1, by omega, by go_num, grown_trans hG (grown_trans (grown_of_below hS4 _) (row4.stored k' (.int .i64 ((convC bd pw ph xs tw th taps) (cX pw k') (cY pw k')))).2), hst⟩
            case measure => simp [intOf]; omega
          · have hkn : n = k' := by omega
            subst hkn
            have kr := k.kept hG ngkH.out
            have o0 := kor.cell (i := 0) rfl
            have o1 := kor.cell (i := 1) rfl
            have o2 := kor.cell (i := 2) rfl
            have c0 := kr.cell (i := 0) rfl
            have c1 := kr.cell (i := 1) rfl
            have c2 := kr.cell (i := 2) rfl
            have fc0 := kr.frozen 0
            have fc1 := kr.frozen 1
            have fc2 := kr.frozen 2
            go_wp2_with fail
            have kf := put3_blk kr (.int .i64 pw) (.int .i64 ph) (.slice (some ⟨g, 0, none⟩) n cap)
            have g0 := kf.cell (i := 0) rfl
            have g1 := kf.cell (i := 1) rfl
            have g2 := kf.cell (i := 2) rfl
            have hpx : (List.range n).map (fun i => (convC bd pw ph xs tw th taps) (cX pw i) (cY pw i)) = img pw ph (convC bd pw ph xs tw th taps) := by
              rw [← hN1H.out]
              exact img_plain fun i hi => clamp_bd _
            rw [upto_all, hpx] at rowk
            have hlen2 : (img pw ph (convC bd pw ph xs tw th taps)).length = n := by rw [img_length]; exact hN1H.out
            exact bodyPost_ret (v := .tuple #[.agg #[.int .i64 pw, .int .i64 ph, .slice (some ⟨g, 0, none⟩) n cap], .int .i64 0]) (by simp [results, Try.results52, go_sem, g0, g1, g2]) rfl ⟨⟨_, by rw [hsp.out]; rfl, by rw [hsp.out]; exact ⟨_, rfl, row_len hlen2.symm (put3_row rowk (kr.not_row (by decide) rowk) _ _ _)⟩⟩, hBr.trans (put3_below (by omega) _ _ _)⟩

end Go.Proofs.Ytjglfeonoiljlaa

/- The contract of Compose of the specification. -/
import Derived.Test.YtjglfeonoiljlaaImgZ
namespace Go.Proofs.Ytjglfeonoiljlaa
open Go Go.RowKit Go.Shelf
set_option linter.unusedVariables false
set_option linter.unusedSimpArgs false

/-- A list turned entry by entry. -/
def mixTo (f g : Nat → Int) (n k : Nat) : List Int := (List.range n).map fun i => if i < k then f i else g i
theorem mixTo_length (f g : Nat → Int) (n k : Nat) : (mixTo f g n k).length = n := by simp [mixTo]
theorem mixTo_zero (f g : Nat → Int) (n : Nat) : mixTo f g n 0 = (List.range n).map g := by simp [mixTo]
theorem mixTo_all (f g : Nat → Int) (n : Nat) : mixTo f g n n = (List.range n).map f := List.map_congr_left fun i hi => if_pos (List.mem_range.1 hi)
theorem mixTo_at (f g : Nat → Int) {n k : Nat} (hk : k < n) : (mixTo f g n k)[k]? = some (g k) := by
  simp only [mixTo, List.getElem?_map, List.getElem?_range hk, Option.map_some]
  rw [if_neg (by omega)]
theorem mixTo_set (f g : Nat → Int) {n k : Nat} (hk : k < n) : (mixTo f g n k).set k (f k) = mixTo f g n (k + 1) := by
  refine List.ext_getElem? fun j => ?_
  rw [List.getElem?_set]
  by_cases hj : k = j
  · subst hj
    rw [if_pos rfl, mixTo_length, if_pos hk]
    simp [mixTo, hk]
  · rw [if_neg hj]
    by_cases hjn : j < n
    · simp only [mixTo, List.getElem?_map, List.getElem?_range hjn, Option.map_some]
      congr 1
      by_cases h : j < k
      · rw [if_pos h, if_pos (by omega)]
      · rw [if_neg h, if_neg (by omega)]
    · rw [List.getElem?_eq_none (by rw [mixTo_length]; omega), List.getElem?_eq_none (by rw [mixTo_length]; omega)]

set_option maxRecDepth 100000 in
set_option maxHeartbeats 16000000 in
theorem rCompose_ok (aw ah : Nat) (ax : Option Addr) (ca na : Nat) (A : List Int) (hna : Hid (A.length = na)) (bw bh : Nat) (bx : Option Addr) (cb nb : Nat) (B : List Int) (hnb : Hid (B.length = nb)) (w : World) (hma : na ≤ 9223372036854775807) (hra : Rd w.heap.size w ax A) (hmb : nb ≤ 9223372036854775807) (hrb : Rd w.heap.size w bx B) (v1H : Hid (kernOk aw ah A = true)) (v2H : Hid (kernOk bw bh B = true)) (kw kh : Nat) (hkw : aw + bw = kw + 1) (hkh : ah + bh = kh + 1) (hkw5 : kw ≤ 5) (hkh5 : kh ≤ 5) :
    Calls Try.prog 54 #[imv aw ah ax na ca, imv bw bh bx nb cb] w (RetIm w.heap.size { w := kw, h := kh, px := compL aw ah bw bh A B, err := 0 } w) := by
  obtain ⟨i0, hi, hz0, hz1, hz2⟩ := info_parts info_int
  have hk1 := v1H.out
  unfold kernOk at hk1
  rw [Bool.and_eq_true, hna.out] at hk1
  obtain ⟨s1, s2, s3⟩ := sidesB_true hk1.1
  have hAH := Lib.hid hk1.2
  have hk2 := v2H.out
  unfold kernOk at hk2
  rw [Bool.and_eq_true, hnb.out] at hk2
  obtain ⟨s4, s5, s6⟩ := sidesB_true hk2.1
  have hBH := Lib.hid hk2.2
  have prodA := Lib.hid (show aw * ah = na by
    have e : ((aw * ah : Nat) : Int) = (aw : Int) * (ah : Int) := by simp
    omega)
  have prodB := Lib.hid (show bw * bh = nb by
    have e : ((bw * bh : Nat) : Int) = (bw : Int) * (bh : Int) := by simp
    omega)
  have hna25 : na ≤ 25 := by
    obtain ⟨m1, m2⟩ := mul_small (a := (aw : Int)) (b := (ah : Int)) (m := 5) (n := 5) (by omega) (by omega) (by omega) (by omega)
    omega
  have hnb25 : nb ≤ 25 := by
    obtain ⟨m1, m2⟩ := mul_small (a := (bw : Int)) (b := (bh : Int)) (m := 5) (n := 5) (by omega) (by omega) (by omega) (by omega)
    omega
  clear hk1 hk2 s3 s6
  have hna0 : 1 ≤ na := by rw [← prodA.out]; exact Nat.mul_le_mul (show 1 ≤ aw by omega) (show 1 ≤ ah by omega)
  have hnb0 : 1 ≤ nb := by rw [← prodB.out]; exact Nat.mul_le_mul (show 1 ≤ bw by omega) (show 1 ≤ bh by omega)
  obtain ⟨bta, ota, rfl, hbta, hca⟩ := rd_at hra hna.out (by omega)
  obtain ⟨btb, otb, rfl, hbtb, hcb⟩ := rd_at hrb hnb.out (by omega)
  have hcaH := Lib.hid hca
  have hcbH := Lib.hid hcb
  clear hca hcb
  have hB0 : Below w.heap.size w (((w.alloc (.cells #[.int .i64 aw, .int .i64 ah, .slice (some ⟨bta, ota, none⟩) na ca] 64)).alloc (.cells #[.int .i64 bw, .int .i64 bh, .slice (some ⟨btb, otb, none⟩) nb cb] 64)).alloc (.cells #[.int .i64 0, .int .i64 0, .slice none 0 0] 64)) := below_al (below_al (below_al (Below.refl _ _) _) _) _
  have eKW : (aw : Int) + (bw : Int) - 1 = (kw : Int) := by omega
  have eKH : (ah : Int) + (bh : Int) - 1 = (kh : Int) := by omega
  have hn1 : ¬ 5 < (kw : Int) := by omega
  have hn2 : ¬ 5 < (kh : Int) := by omega
  have hn1' : ¬ 5 < kw := by omega
  have hn2' : ¬ 5 < kh := by omega
  have b1 : 1 ≤ kw ∧ 1 ≤ kh := by omega
  obtain ⟨NN, hNN⟩ : ∃ NN, kw * kh = NN := ⟨_, rfl⟩
  have hN25 : NN ≤ 25 := by rw [← hNN]; exact Nat.mul_le_mul hkw5 hkh5
  have eNN : (kw : Int) * (kh : Int) = (NN : Int) := by rw [← hNN]; simp
  have hNNH := Lib.hid hNN
  have hzH := Lib.hid (made_zero NN)
  clear hNN
  go_enter Try.func54, Try.ntmps54
  go_wp2_with fail
  refine (ValidKernel_any aw ah _ ca na A hna true v1H _ hma ((hra.below (Nat.le_refl _) hB0).mono hB0.size)).mono ?_
  rintro e W1 ⟨rfl, hb1⟩
  have hB1 : Below w.heap.size w W1 := hB0.trans (hb1.mono hB0.size)
  have k5 := (((Blk.new w 64 #[.int .i64 aw, .int .i64 ah, .slice (some ⟨bta, ota, none⟩) na ca]).alloc (.cells #[.int .i64 bw, .int .i64 bh, .slice (some ⟨btb, otb, none⟩) nb cb] 64)).alloc (.cells #[.int .i64 0, .int .i64 0, .slice none 0 0] 64)).below hb1 (by simp <;> omega)
  have k6 := ((Blk.new (w.alloc (.cells #[.int .i64 aw, .int .i64 ah, .slice (some ⟨bta, ota, none⟩) na ca] 64)) 64 #[.int .i64 bw, .int .i64 bh, .slice (some ⟨btb, otb, none⟩) nb cb]).alloc (.cells #[.int .i64 0, .int .i64 0, .slice none 0 0] 64)).below hb1 (by simp <;> omega)
  have k := (Blk.new ((w.alloc (.cells #[.int .i64 aw, .int .i64 ah, .slice (some ⟨bta, ota, none⟩) na ca] 64)).alloc (.cells #[.int .i64 bw, .int .i64 bh, .slice (some ⟨btb, otb, none⟩) nb cb] 64)) 64 #[.int .i64 0, .int .i64 0, .slice none 0 0]).below hb1 (by simp <;> omega)
  simp only [World.size_alloc] at k6 k
  clear hb1 hB0
  have m0 := k5.cell (i := 0) rfl
  have m1 := k5.cell (i := 1) rfl
  have m2 := k5.cell (i := 2) rfl
  have s0 := k6.cell (i := 0) rfl
  have s1 := k6.cell (i := 1) rfl
  have s2 := k6.cell (i := 2) rfl
  have c0 := k.cell (i := 0) rfl
  have c1 := k.cell (i := 1) rfl
  have c2 := k.cell (i := 2) rfl
  have fc0 := k.frozen 0
  have fc1 := k.frozen 1
  have fc2 := k.frozen 2
  go_wp2_with fail
  refine (ValidKernel_any bw bh _ cb nb B hnb true v2H W1 hmb ((hrb.below (Nat.le_refl _) hB1).mono hB1.size)).mono ?_
  rintro e W2 ⟨rfl, hb⟩
  have hB2 := hB1.trans (hb.mono hB1.size)
  clear m0 m1 m2
  replace k5 := k5.below hb k5.lt
  have m0 := k5.cell (i := 0) rfl
  have m1 := k5.cell (i := 1) rfl
  have m2 := k5.cell (i := 2) rfl
  clear s0 s1 s2
  replace k6 := k6.below hb k6.lt
  have s0 := k6.cell (i := 0) rfl
  have s1 := k6.cell (i := 1) rfl
  have s2 := k6.cell (i := 2) rfl
  clear c0 c1 c2 fc0 fc1 fc2
  replace k := k.below hb k.lt
  have c0 := k.cell (i := 0) rfl
  have c1 := k.cell (i := 1) rfl
  have c2 := k.cell (i := 2) rfl
  have fc0 := k.frozen 0
  have fc1 := k.frozen 1
  have fc2 := k.frozen 2
  clear hb hB1
  have kq := Blk.new W2 64 #[.int .i64 kw, .int .i64 kh, .slice none 0 0]
  obtain ⟨B6, hB6⟩ : ∃ B, W2.heap.size = B := ⟨_, rfl⟩
  have hb : Below W2.heap.size W2 (W2.alloc (.cells #[.int .i64 kw, .int .i64 kh, .slice none 0 0] 64)) := below_al (Below.refl _ _) _
  rw [hB6] at kq
  have hB3 := hB2.trans (hb.mono hB2.size)
  have hs6 := k.lt
  rw [hB6] at hs6
  have hs7 := kq.lt
  have k5' := k5.below hb k5.lt
  have k6' := k6.below hb k6.lt
  have k' := k.below hb k.lt
  have m0' := k5'.cell (i := 0) rfl
  have m1' := k5'.cell (i := 1) rfl
  have m2' := k5'.cell (i := 2) rfl
  have s0' := k6'.cell (i := 0) rfl
  have s1' := k6'.cell (i := 1) rfl
  have s2' := k6'.cell (i := 2) rfl
  have c0' := k'.cell (i := 0) rfl
  have c1' := k'.cell (i := 1) rfl
  have c2' := k'.cell (i := 2) rfl
  have fc0' := k'.frozen 0
  have fc1' := k'.frozen 1
  have fc2' := k'.frozen 2
  have q0 := kq.cell (i := 0) rfl
  have q1 := kq.cell (i := 1) rfl
  have q2 := kq.cell (i := 2) rfl
  have fq0 := kq.frozen 0
  have fq1 := kq.frozen 1
  have fq2 := kq.frozen 2
  clear hb
  go_wp2_with (at_make; refine wpList_make_full _ rfl _ _ 22 rfl w.heap.size 3 i0 (.int .i64 0) 1 Try.underlying22 hi hz0 hz1 .i64 .i64 (NN : Int) (NN : Int) NN rfl rfl rfl rfl (by rw [hz2]; omega) (by unfold maxLen; omega) hB3.size ?_; intro w1 hown hg; have kq2 := kq.kept hg (by simp); have q0' := kq2.cell (i := 0) rfl; have q1' := kq2.cell (i := 1) rfl; have q2' := kq2.cell (i := 2) rfl; have fq2' := kq2.frozen 2)
  simp only [World.size_alloc, hB6] at hown
  rw [hzH.out] at hown
  have ne6 := kq2.not_row (by decide) hown
  have rowS := row_setCell hown (a := ⟨B6, 2, none⟩) ne6 (.slice (some ⟨B6 + 1, 0, none⟩) NN NN)
  have yq := kq2.set 2 (.slice (some ⟨B6 + 1, 0, none⟩) NN NN)
  have y5 := (k5'.kept hg (by simp)).other (a := ⟨B6, 2, none⟩) (by have := k5.lt; rw [hB6] at this; simp; omega) (.slice (some ⟨B6 + 1, 0, none⟩) NN NN)
  have y6 := (k6'.kept hg (by simp)).other (a := ⟨B6, 2, none⟩) (by have := k6.lt; rw [hB6] at this; simp; omega) (.slice (some ⟨B6 + 1, 0, none⟩) NN NN)
  have yk := (k'.kept hg (by simp)).other (a := ⟨B6, 2, none⟩) (by have := k.lt; rw [hB6] at this; simp; omega) (.slice (some ⟨B6 + 1, 0, none⟩) NN NN)
  have hB4 := (hB3.grown hg hB3.size (fun k e => by cases e)).setCell (p := ⟨B6, 2, none⟩) (by simp; omega) (.slice (some ⟨B6 + 1, 0, none⟩) NN NN)
  obtain ⟨W4, hW4⟩ : ∃ W4, w1.setCell ⟨B6, 2, none⟩ (.slice (some ⟨B6 + 1, 0, none⟩) NN NN) = W4 := ⟨_, rfl⟩
  rw [hW4] at rowS yq y5 y6 yk hB4 ⊢
  have yq : Blk W4 B6 64 #[.int .i64 kw, .int .i64 kh, .slice (some ⟨B6 + 1, 0, none⟩) NN NN] := by simpa using yq
  clear hW4 ne6 hown hg q0' q1' q2' fq2' kq2 q0 q1 q2 fq0 fq1 fq2 hB3 kq hs7 k5' k6' k' m0' m1' m2' s0' s1' s2' c0' c1' c2' fc0' fc1' fc2' m0 m1 m2 s0 s1 s2 c0 c1 c2 fc0 fc1 fc2 hB6 hB2
  clear k5 k6 k
  clear w1 W2
  have hs8 := (rowS.lt (B6 + 1) rfl).2
  rw [← conL_zero (kpos aw bw) (fun s u => px A s * px B u) nb NN] at rowS
  have ny5 := Lib.hid (y5.not_row (by decide) rowS)
  have ny6 := Lib.hid (y6.not_row (by decide) rowS)
  have nyq := Lib.hid (yq.not_row (by decide) rowS)
  have nyk := Lib.hid (yk.not_row (by decide) rowS)
  have hfB := Lib.hid (fun (s u : Nat) => (show -4294967296 ≤ px A s * px B u ∧ px A s * px B u ≤ 4294967296 by
    have h1 := px_bdB (B := 65536) (by decide) hAH.out (s : Int)
    have h2 := px_bdB (B := 65536) (by decide) hBH.out (u : Int)
    have h3 := mul_bd h1.1 h1.2 h2.1 h2.2 (by decide) (by decide)
    omega))
  go_loopw [7] (fun i wr => ∃ s : Nat, s ≤ na ∧ i = .int .i64 (s : Int) ∧ W4.grownBy wr (some (B6 + 1)) ∧ wr.ownsRow w.heap.size 3 1 (.slice (some ⟨B6 + 1, 0, none⟩) NN NN) NN ((conL (kpos aw bw) (fun s u => px A s * px B u) nb NN s 0).map (Value.int .i64))) (fun i _ => na - (intOf i).toNat)
  case atStart => exact ⟨0, Nat.zero_le _, rfl, ⟨rfl, rfl, rfl, Nat.le_refl _, fun _ _ _ => rfl⟩, rowS⟩
  case round =>
    obtain ⟨s, hs, rfl, hG, rowk⟩ := hrel
    have z5 := y5.kept hG ny5.out
    have z6 := y6.kept hG ny6.out
    have zq := yq.kept hG nyq.out
    have zk := yk.kept hG nyk.out
    have hBr : Below w.heap.size w wr := hB4.grown hG hB4.size (fun j e => by cases e; omega)
    have hwr := hG.size
    have m2 := z5.cell (i := 2) rfl
    by_cases hlt : s < na
    · have hdec : decide ((s : Int) < (na : Int)) = true := by simp; omega
      have hdec' : decide (s < na) = true := by simp; omega
      go_wp2_with fail
      try simp only [hdec, hdec']
      clear hdec hdec' m2 z5 z6 zq zk hBr hwr
      go_loopw [8] (fun i wr => ∃ u : Nat, u ≤ nb ∧ i = .int .i64 (u : Int) ∧ W4.grownBy wr (some (B6 + 1)) ∧ wr.ownsRow w.heap.size 3 1 (.slice (some ⟨B6 + 1, 0, none⟩) NN NN) NN ((conL (kpos aw bw) (fun s u => px A s * px B u) nb NN s u).map (Value.int .i64))) (fun i _ => nb - (intOf i).toNat)
      case atStart => exact ⟨0, Nat.zero_le _, rfl, hG, rowk⟩
      case round =>
        clear hG rowk
        obtain ⟨u, hu, rfl, hG, rowk⟩ := hrel
        have z5 := y5.kept hG ny5.out
        have z6 := y6.kept hG ny6.out
        have zq := yq.kept hG nyq.out
        have zk := yk.kept hG nyk.out
        have hBr : Below w.heap.size w wr := hB4.grown hG hB4.size (fun j e => by cases e; omega)
        have hwr := hG.size
        have m2 := z6.cell (i := 2) rfl
        by_cases hltu : u < nb
        · have hq0 := kpos_lt (aw := aw) (ah := ah) (bw := bw) (bh := bh) (s := s) (u := u) (by rw [prodA.out]; exact hlt) (by rw [prodB.out]; exact hltu)
          rw [show aw + bw - 1 = kw by omega, show ah + bh - 1 = kh by omega, hNNH.out] at hq0
          have hset := conL_set (kpos aw bw) (fun s u => px A s * px B u) nb NN s u hq0
          have hat := conL_at (kpos aw bw) (fun s u => px A s * px B u) nb NN s u hq0
          have hcb := conS_bd (pos := kpos aw bw) (f := fun s u => px A s * px B u) (bn := nb) (s := s) (u := u) (p := kpos aw bw s u) hfB.out hnb25 (by omega) (by omega)
          obtain ⟨cv, hcv⟩ : ∃ v, conS (kpos aw bw) (fun s u => px A s * px B u) nb s u (kpos aw bw s u) = v := ⟨_, rfl⟩
          rw [hcv] at hset hat hcb
          have hca := hcaH.out
          have hcb2 := hcbH.out
          have htA := (hBr.cell (p := ⟨bta, ota + s, none⟩) hbta).trans (hca s hlt)
          have htB := (hBr.cell (p := ⟨btb, otb + u, none⟩) hbtb).trans (hcb2 u hltu)
          have hm1 := hfB.out s u
          obtain ⟨ta, hta⟩ : ∃ v, px A (s : Int) = v := ⟨_, rfl⟩
          obtain ⟨tb, htb⟩ : ∃ v, px B (u : Int) = v := ⟨_, rfl⟩
          simp only [hta, htb] at hset
          rw [hta] at htA hm1
          rw [htb] at htB hm1
          clear hta htb hca hcb2 hcv
          have hX1 : s % aw < aw := Nat.mod_lt _ (by omega)
          have hU1 : u % bw < bw := Nat.mod_lt _ (by omega)
          have hY1 : s / aw < ah := Nat.div_lt_of_lt_mul (by rw [prodA.out]; exact hlt)
          have hV1 : u / bw < bh := Nat.div_lt_of_lt_mul (by rw [prodB.out]; exact hltu)
          obtain ⟨X, hX⟩ : ∃ x, s % aw = x := ⟨_, rfl⟩
          obtain ⟨Y, hY⟩ : ∃ x, s / aw = x := ⟨_, rfl⟩
          obtain ⟨U, hU⟩ : ∃ x, u % bw = x := ⟨_, rfl⟩
          obtain ⟨V, hV⟩ : ∃ x, u / bw = x := ⟨_, rfl⟩
          have ekp : kpos aw bw s u = (Y + V) * kw + X + U := by unfold kpos; rw [show aw + bw - 1 = kw by omega, hX, hY, hU, hV]
          have eX : (s : Int) % (aw : Int) = (X : Int) := by rw [← hX]; simp
          have eY : (s : Int) / (aw : Int) = (Y : Int) := by rw [← hY]; simp
          have eU : (u : Int) % (bw : Int) = (U : Int) := by rw [← hU]; simp
          have eV : (u : Int) / (bw : Int) = (V : Int) := by rw [← hV]; simp
          rw [hX] at hX1
          rw [hY] at hY1
          rw [hU] at hU1
          rw [hV] at hV1
          rw [ekp] at hset hat hq0
          clear hX hY hU hV ekp
          have hcq0 := rowk.cellAt ((Y + V) * kw + X + U) (by omega)
          have hcq : wr.cell? ⟨B6 + 1, (Y + V) * kw + X + U, none⟩ = some (.int .i64 cv) := by rw [hcq0, List.getElem?_map, hat]; rfl
          have hsetH := Lib.hid hset
          clear hset hat hcq0
          have p1 : 0 ≤ ((Y : Int) + (V : Int)) * (kw : Int) ∧ ((Y : Int) + (V : Int)) * (kw : Int) ≤ 10 * 5 := mul_small (by omega) (by omega) (by omega) (by omega)
          have p2 : ((Y : Int) + (V : Int)) * (kw : Int) + (X : Int) + (U : Int) < (NN : Int) := by
            have e : (((Y + V) * kw + X + U : Nat) : Int) = ((Y : Int) + (V : Int)) * (kw : Int) + (X : Int) + (U : Int) := by simp
            omega
          have na0 : aw ≠ 0 := by omega
          have nb0 : bw ≠ 0 := by omega
          have hbr := hBr.size
          have hS : Below wr.heap.size wr wr.drew := (Below.refl _ _).drew
          clear m2
          have m2 := z6.cell (i := 2) rfl
          go_wp2_with fail
          refine plain_region (fun W' => Below wr.heap.size wr W') 39 40 (by kernel_rfl) rfl ?_
          simp only [Array.replicate_succ, Array.replicate_zero, List.push_toArray, List.nil_append, List.cons_append]
          refine take_op 0 (v := ?rv0) rfl (by kernel_rfl) (fun _ _ _ h => h) (by rfl) hS (fun w' hS' => ?ry0) ?rz0
          case ry0 =>
            go_simp
            rfl
          simp only [List.setIfInBounds_toArray, List.set_cons_zero, List.set_cons_succ]
          refine take_op 1 (v := ?rv1) rfl (by kernel_rfl) (fun _ _ _ h => h) (by rfl) hS (fun w' hS' => ?ry1) ?rz1
          case ry1 =>
            have a0 := (z5.below hS' z5.lt).cell (i := 0) rfl
            have a1 := (z5.below hS' z5.lt).cell (i := 1) rfl
            have a2 := (z5.below hS' z5.lt).cell (i := 2) rfl
            have b0 := (z6.below hS' z6.lt).cell (i := 0) rfl
            have b1 := (z6.below hS' z6.lt).cell (i := 1) rfl
            have b2 := (z6.below hS' z6.lt).cell (i := 2) rfl
            have d0 := (zq.below hS' zq.lt).cell (i := 0) rfl
            have d1 := (zq.below hS' zq.lt).cell (i := 1) rfl
            have d2 := (zq.below hS' zq.lt).cell (i := 2) rfl
            have t0 := (hS'.cell (p := ⟨bta, ota + s, none⟩) (by show bta < wr.heap.size; omega)).trans htA
            have t1 := (hS'.cell (p := ⟨btb, otb + u, none⟩) (by show btb < wr.heap.size; omega)).trans htB
            have t2 := (hS'.cell (p := ⟨B6 + 1, (Y + V) * kw + X + U, none⟩) (by show B6 + 1 < wr.heap.size; omega)).trans hcq
            go_simp
            rfl
          simp only [List.setIfInBounds_toArray, List.set_cons_zero, List.set_cons_succ]
          refine take_op 2 (v := ?rv2) rfl (by kernel_rfl) (fun _ _ _ h => h) (by rfl) hS (fun w' hS' => ?ry2) ?rz2
          case ry2 =>
            go_simp
            rfl
          simp only [List.setIfInBounds_toArray, List.set_cons_zero, List.set_cons_succ]
          refine take_op 3 (v := ?rv3) rfl (by kernel_rfl) (fun _ _ _ h => h) (by rfl) hS (fun w' hS' => ?ry3) ?rz3
          case ry3 =>
            go_simp
            rfl
          simp only [List.setIfInBounds_toArray, List.set_cons_zero, List.set_cons_succ]
          refine take_op 4 (v := ?rv4) rfl (by kernel_rfl) (fun _ _ _ h => h) (by rfl) hS (fun w' hS' => ?ry4) ?rz4
          case ry4 =>
            have a0 := (z5.below hS' z5.lt).cell (i := 0) rfl
            have a1 := (z5.below hS' z5.lt).cell (i := 1) rfl
            have a2 := (z5.below hS' z5.lt).cell (i := 2) rfl
            have b0 := (z6.below hS' z6.lt).cell (i := 0) rfl
            have b1 := (z6.below hS' z6.lt).cell (i := 1) rfl
            have b2 := (z6.below hS' z6.lt).cell (i := 2) rfl
            have d0 := (zq.below hS' zq.lt).cell (i := 0) rfl
            have d1 := (zq.below hS' zq.lt).cell (i := 1) rfl
            have d2 := (zq.below hS' zq.lt).cell (i := 2) rfl
            have t0 := (hS'.cell (p := ⟨bta, ota + s, none⟩) (by show bta < wr.heap.size; omega)).trans htA
            have t1 := (hS'.cell (p := ⟨btb, otb + u, none⟩) (by show btb < wr.heap.size; omega)).trans htB
            have t2 := (hS'.cell (p := ⟨B6 + 1, (Y + V) * kw + X + U, none⟩) (by show B6 + 1 < wr.heap.size; omega)).trans hcq
            go_simp
            rfl
          simp only [List.setIfInBounds_toArray, List.set_cons_zero, List.set_cons_succ]
          refine take_op 5 (v := ?rv5) rfl (by kernel_rfl) (fun _ _ _ h => h) (by rfl) hS (fun w' hS' => ?ry5) ?rz5
          case ry5 =>
            go_simp
            try go_ints
            rfl
          simp only [List.setIfInBounds_toArray, List.set_cons_zero, List.set_cons_succ]
          refine take_op 6 (v := ?rv6) rfl (by kernel_rfl) (fun _ _ _ h => h) (by rfl) hS (fun w' hS' => ?ry6) ?rz6
          case ry6 =>
            go_simp
            rfl
          simp only [List.setIfInBounds_toArray, List.set_cons_zero, List.set_cons_succ]
          refine take_op 7 (v := ?rv7) rfl (by kernel_rfl) (fun _ _ _ h => h) (by rfl) hS (fun w' hS' => ?ry7) ?rz7
          case ry7 =>
            go_simp
            rfl
          simp only [List.setIfInBounds_toArray, List.set_cons_zero, List.set_cons_succ]
          refine take_op 8 (v := ?rv8) rfl (by kernel_rfl) (fun _ _ _ h => h) (by rfl) hS (fun w' hS' => ?ry8) ?rz8
          case ry8 =>
            have a0 := (z5.below hS' z5.lt).cell (i := 0) rfl
            have a1 := (z5.below hS' z5.lt).cell (i := 1) rfl
            have a2 := (z5.below hS' z5.lt).cell (i := 2) rfl
            have b0 := (z6.below hS' z6.lt).cell (i := 0) rfl
            have b1 := (z6.below hS' z6.lt).cell (i := 1) rfl
            have b2 := (z6.below hS' z6.lt).cell (i := 2) rfl
            have d0 := (zq.below hS' zq.lt).cell (i := 0) rfl
            have d1 := (zq.below hS' zq.lt).cell (i := 1) rfl
            have d2 := (zq.below hS' zq.lt).cell (i := 2) rfl
            have t0 := (hS'.cell (p := ⟨bta, ota + s, none⟩) (by show bta < wr.heap.size; omega)).trans htA
            have t1 := (hS'.cell (p := ⟨btb, otb + u, none⟩) (by show btb < wr.heap.size; omega)).trans htB
            have t2 := (hS'.cell (p := ⟨B6 + 1, (Y + V) * kw + X + U, none⟩) (by show B6 + 1 < wr.heap.size; omega)).trans hcq
            go_simp
            rfl
          simp only [List.setIfInBounds_toArray, List.set_cons_zero, List.set_cons_succ]
          refine take_op 9 (v := ?rv9) rfl (by kernel_rfl) (fun _ _ _ h => h) (by rfl) hS (fun w' hS' => ?ry9) ?rz9
          case ry9 =>
            go_simp
            try go_ints
            rfl
          simp only [List.setIfInBounds_toArray, List.set_cons_zero, List.set_cons_succ]
          refine take_op 10 (v := ?rv10) rfl (by kernel_rfl) (fun _ _ _ h => h) (by rfl) hS (fun w' hS' => ?ry10) ?rz10
          case ry10 =>
            go_simp
            try go_ints
            rfl
          simp only [List.setIfInBounds_toArray, List.set_cons_zero, List.set_cons_succ]
          refine take_op 11 (v := ?rv11) rfl (by kernel_rfl) (fun _ _ _ h => h) (by rfl) hS (fun w' hS' => ?ry11) ?rz11
          case ry11 =>
            go_simp
            rfl
          simp only [List.setIfInBounds_toArray, List.set_cons_zero, List.set_cons_succ]
          refine take_op 12 (v := ?rv12) rfl (by kernel_rfl) (fun _ _ _ h => h) (by rfl) hS (fun w' hS' => ?ry12) ?rz12
          case ry12 =>
            have a0 := (z5.below hS' z5.lt).cell (i := 0) rfl
            have a1 := (z5.below hS' z5.lt).cell (i := 1) rfl
            have a2 := (z5.below hS' z5.lt).cell (i := 2) rfl
            have b0 := (z6.below hS' z6.lt).cell (i := 0) rfl
            have b1 := (z6.below hS' z6.lt).cell (i := 1) rfl
            have b2 := (z6.below hS' z6.lt).cell (i := 2) rfl
            have d0 := (zq.below hS' zq.lt).cell (i := 0) rfl
            have d1 := (zq.below hS' zq.lt).cell (i := 1) rfl
            have d2 := (zq.below hS' zq.lt).cell (i := 2) rfl
            have t0 := (hS'.cell (p := ⟨bta, ota + s, none⟩) (by show bta < wr.heap.size; omega)).trans htA
            have t1 := (hS'.cell (p := ⟨btb, otb + u, none⟩) (by show btb < wr.heap.size; omega)).trans htB
            have t2 := (hS'.cell (p := ⟨B6 + 1, (Y + V) * kw + X + U, none⟩) (by show B6 + 1 < wr.heap.size; omega)).trans hcq
            go_simp
            rfl
          simp only [List.setIfInBounds_toArray, List.set_cons_zero, List.set_cons_succ]
          refine take_op 13 (v := ?rv13) rfl (by kernel_rfl) (fun _ _ _ h => h) (by rfl) hS (fun w' hS' => ?ry13) ?rz13
          case ry13 =>
            go_simp
            try go_ints
            rfl
          simp only [List.setIfInBounds_toArray, List.set_cons_zero, List.set_cons_succ]
          refine take_op 14 (v := ?rv14) rfl (by kernel_rfl) (fun _ _ _ h => h) (by rfl) hS (fun w' hS' => ?ry14) ?rz14
          case ry14 =>
            go_simp
            rfl
          simp only [List.setIfInBounds_toArray, List.set_cons_zero, List.set_cons_succ]
          refine take_op 15 (v := ?rv15) rfl (by kernel_rfl) (fun _ _ _ h => h) (by rfl) hS (fun w' hS' => ?ry15) ?rz15
          case ry15 =>
            go_simp
            rfl
          simp only [List.setIfInBounds_toArray, List.set_cons_zero, List.set_cons_succ]
          refine take_op 16 (v := ?rv16) rfl (by kernel_rfl) (fun _ _ _ h => h) (by rfl) hS (fun w' hS' => ?ry16) ?rz16
          case ry16 =>
            have a0 := (z5.below hS' z5.lt).cell (i := 0) rfl
            have a1 := (z5.below hS' z5.lt).cell (i := 1) rfl
            have a2 := (z5.below hS' z5.lt).cell (i := 2) rfl
            have b0 := (z6.below hS' z6.lt).cell (i := 0) rfl
            have b1 := (z6.below hS' z6.lt).cell (i := 1) rfl
            have b2 := (z6.below hS' z6.lt).cell (i := 2) rfl
            have d0 := (zq.below hS' zq.lt).cell (i := 0) rfl
            have d1 := (zq.below hS' zq.lt).cell (i := 1) rfl
            have d2 := (zq.below hS' zq.lt).cell (i := 2) rfl
            have t0 := (hS'.cell (p := ⟨bta, ota + s, none⟩) (by show bta < wr.heap.size; omega)).trans htA
            have t1 := (hS'.cell (p := ⟨btb, otb + u, none⟩) (by show btb < wr.heap.size; omega)).trans htB
            have t2 := (hS'.cell (p := ⟨B6 + 1, (Y + V) * kw + X + U, none⟩) (by show B6 + 1 < wr.heap.size; omega)).trans hcq
            go_simp
            rfl
          simp only [List.setIfInBounds_toArray, List.set_cons_zero, List.set_cons_succ]
          refine take_op 17 (v := ?rv17) rfl (by kernel_rfl) (fun _ _ _ h => h) (by rfl) hS (fun w' hS' => ?ry17) ?rz17
          case ry17 =>
            go_simp
            try go_ints
            rfl
          simp only [List.setIfInBounds_toArray, List.set_cons_zero, List.set_cons_succ]
          refine take_op 18 (v := ?rv18) rfl (by kernel_rfl) (fun _ _ _ h => h) (by rfl) hS (fun w' hS' => ?ry18) ?rz18
          case ry18 =>
            go_simp
            try go_ints
            rfl
          simp only [List.setIfInBounds_toArray, List.set_cons_zero, List.set_cons_succ]
          refine take_op 19 (v := ?rv19) rfl (by kernel_rfl) (fun _ _ _ h => h) (by rfl) hS (fun w' hS' => ?ry19) ?rz19
          case ry19 =>
            go_simp
            rfl
          simp only [List.setIfInBounds_toArray, List.set_cons_zero, List.set_cons_succ]
          refine take_op 20 (v := ?rv20) rfl (by kernel_rfl) (fun _ _ _ h => h) (by rfl) hS (fun w' hS' => ?ry20) ?rz20
          case ry20 =>
            go_simp
            rfl
          simp only [List.setIfInBounds_toArray, List.set_cons_zero, List.set_cons_succ]
          refine take_op 21 (v := ?rv21) rfl (by kernel_rfl) (fun _ _ _ h => h) (by rfl) hS (fun w' hS' => ?ry21) ?rz21
          case ry21 =>
            have a0 := (z5.below hS' z5.lt).cell (i := 0) rfl
            have a1 := (z5.below hS' z5.lt).cell (i := 1) rfl
            have a2 := (z5.below hS' z5.lt).cell (i := 2) rfl
            have b0 := (z6.below hS' z6.lt).cell (i := 0) rfl
            have b1 := (z6.below hS' z6.lt).cell (i := 1) rfl
            have b2 := (z6.below hS' z6.lt).cell (i := 2) rfl
            have d0 := (zq.below hS' zq.lt).cell (i := 0) rfl
            have d1 := (zq.below hS' zq.lt).cell (i := 1) rfl
            have d2 := (zq.below hS' zq.lt).cell (i := 2) rfl
            have t0 := (hS'.cell (p := ⟨bta, ota + s, none⟩) (by show bta < wr.heap.size; omega)).trans htA
            have t1 := (hS'.cell (p := ⟨btb, otb + u, none⟩) (by show btb < wr.heap.size; omega)).trans htB
            have t2 := (hS'.cell (p := ⟨B6 + 1, (Y + V) * kw + X + U, none⟩) (by show B6 + 1 < wr.heap.size; omega)).trans hcq
            go_simp
            rfl
          simp only [List.setIfInBounds_toArray, List.set_cons_zero, List.set_cons_succ]
          refine take_op 22 (v := ?rv22) rfl (by kernel_rfl) (fun _ _ _ h => h) (by rfl) hS (fun w' hS' => ?ry22) ?rz22
          case ry22 =>
            go_simp
            try go_ints
            rfl
          simp only [List.setIfInBounds_toArray, List.set_cons_zero, List.set_cons_succ]
          refine take_op 23 (v := ?rv23) rfl (by kernel_rfl) (fun _ _ _ h => h) (by rfl) hS (fun w' hS' => ?ry23) ?rz23
          case ry23 =>
            go_simp
            try go_ints
            rfl
          simp only [List.setIfInBounds_toArray, List.set_cons_zero, List.set_cons_succ]
          refine take_op 24 (v := ?rv24) rfl (by kernel_rfl) (fun _ _ _ h => h) (by rfl) hS (fun w' hS' => ?ry24) ?rz24
          case ry24 =>
            go_simp
            try go_ints
            first
            | rfl
            | rw [if_pos ⟨by omega, by omega⟩]
          simp only [List.setIfInBounds_toArray, List.set_cons_zero, List.set_cons_succ]
          refine take_op 25 (v := ?rv25) rfl (by kernel_rfl) (fun _ _ _ h => h) (by rfl) hS (fun w' hS' => ?ry25) ?rz25
          case ry25 =>
            have a0 := (z5.below hS' z5.lt).cell (i := 0) rfl
            have a1 := (z5.below hS' z5.lt).cell (i := 1) rfl
            have a2 := (z5.below hS' z5.lt).cell (i := 2) rfl
            have b0 := (z6.below hS' z6.lt).cell (i := 0) rfl
            have b1 := (z6.below hS' z6.lt).cell (i := 1) rfl
            have b2 := (z6.below hS' z6.lt).cell (i := 2) rfl
            have d0 := (zq.below hS' zq.lt).cell (i := 0) rfl
            have d1 := (zq.below hS' zq.lt).cell (i := 1) rfl
            have d2 := (zq.below hS' zq.lt).cell (i := 2) rfl
            have t0 := (hS'.cell (p := ⟨bta, ota + s, none⟩) (by show bta < wr.heap.size; omega)).trans htA
            have t1 := (hS'.cell (p := ⟨btb, otb + u, none⟩) (by show btb < wr.heap.size; omega)).trans htB
            have t2 := (hS'.cell (p := ⟨B6 + 1, (Y + V) * kw + X + U, none⟩) (by show B6 + 1 < wr.heap.size; omega)).trans hcq
            go_simp
            rfl
          simp only [List.setIfInBounds_toArray, List.set_cons_zero, List.set_cons_succ]
          refine take_op 26 (v := ?rv26) rfl (by kernel_rfl) (fun _ _ _ h => h) (by rfl) hS (fun w' hS' => ?ry26) ?rz26
          case ry26 =>
            go_simp
            rfl
          simp only [List.setIfInBounds_toArray, List.set_cons_zero, List.set_cons_succ]
          refine take_op 27 (v := ?rv27) rfl (by kernel_rfl) (fun _ _ _ h => h) (by rfl) hS (fun w' hS' => ?ry27) ?rz27
          case ry27 =>
            have a0 := (z5.below hS' z5.lt).cell (i := 0) rfl
            have a1 := (z5.below hS' z5.lt).cell (i := 1) rfl
            have a2 := (z5.below hS' z5.lt).cell (i := 2) rfl
            have b0 := (z6.below hS' z6.lt).cell (i := 0) rfl
            have b1 := (z6.below hS' z6.lt).cell (i := 1) rfl
            have b2 := (z6.below hS' z6.lt).cell (i := 2) rfl
            have d0 := (zq.below hS' zq.lt).cell (i := 0) rfl
            have d1 := (zq.below hS' zq.lt).cell (i := 1) rfl
            have d2 := (zq.below hS' zq.lt).cell (i := 2) rfl
            have t0 := (hS'.cell (p := ⟨bta, ota + s, none⟩) (by show bta < wr.heap.size; omega)).trans htA
            have t1 := (hS'.cell (p := ⟨btb, otb + u, none⟩) (by show btb < wr.heap.size; omega)).trans htB
            have t2 := (hS'.cell (p := ⟨B6 + 1, (Y + V) * kw + X + U, none⟩) (by show B6 + 1 < wr.heap.size; omega)).trans hcq
            go_simp
            rfl
          simp only [List.setIfInBounds_toArray, List.set_cons_zero, List.set_cons_succ]
          refine take_op 28 (v := ?rv28) rfl (by kernel_rfl) (fun _ _ _ h => h) (by rfl) hS (fun w' hS' => ?ry28) ?rz28
          case ry28 =>
            go_simp
            rfl
          simp only [List.setIfInBounds_toArray, List.set_cons_zero, List.set_cons_succ]
          refine take_op 29 (v := ?rv29) rfl (by kernel_rfl) (fun _ _ _ h => h) (by rfl) hS (fun w' hS' => ?ry29) ?rz29
          case ry29 =>
            go_simp
            try go_ints
            first
            | rfl
            | rw [if_pos ⟨by omega, by omega⟩]
          simp only [List.setIfInBounds_toArray, List.set_cons_zero, List.set_cons_succ]
          refine take_op 30 (v := ?rv30) rfl (by kernel_rfl) (fun _ _ _ h => h) (by rfl) hS (fun w' hS' => ?ry30) ?rz30
          case ry30 =>
            have a0 := (z5.below hS' z5.lt).cell (i := 0) rfl
            have a1 := (z5.below hS' z5.lt).cell (i := 1) rfl
            have a2 := (z5.below hS' z5.lt).cell (i := 2) rfl
            have b0 := (z6.below hS' z6.lt).cell (i := 0) rfl
            have b1 := (z6.below hS' z6.lt).cell (i := 1) rfl
            have b2 := (z6.below hS' z6.lt).cell (i := 2) rfl
            have d0 := (zq.below hS' zq.lt).cell (i := 0) rfl
            have d1 := (zq.below hS' zq.lt).cell (i := 1) rfl
            have d2 := (zq.below hS' zq.lt).cell (i := 2) rfl
            have t0 := (hS'.cell (p := ⟨bta, ota + s, none⟩) (by show bta < wr.heap.size; omega)).trans htA
            have t1 := (hS'.cell (p := ⟨btb, otb + u, none⟩) (by show btb < wr.heap.size; omega)).trans htB
            have t2 := (hS'.cell (p := ⟨B6 + 1, (Y + V) * kw + X + U, none⟩) (by show B6 + 1 < wr.heap.size; omega)).trans hcq
            go_simp
            rfl
          simp only [List.setIfInBounds_toArray, List.set_cons_zero, List.set_cons_succ]
          refine take_op 31 (v := ?rv31) rfl (by kernel_rfl) (fun _ _ _ h => h) (by rfl) hS (fun w' hS' => ?ry31) ?rz31
          case ry31 =>
            go_simp
            rfl
          simp only [List.setIfInBounds_toArray, List.set_cons_zero, List.set_cons_succ]
          refine take_op 32 (v := ?rv32) rfl (by kernel_rfl) (fun _ _ _ h => h) (by rfl) hS (fun w' hS' => ?ry32) ?rz32
          case ry32 =>
            have a0 := (z5.below hS' z5.lt).cell (i := 0) rfl
            have a1 := (z5.below hS' z5.lt).cell (i := 1) rfl
            have a2 := (z5.below hS' z5.lt).cell (i := 2) rfl
            have b0 := (z6.below hS' z6.lt).cell (i := 0) rfl
            have b1 := (z6.below hS' z6.lt).cell (i := 1) rfl
            have b2 := (z6.below hS' z6.lt).cell (i := 2) rfl
            have d0 := (zq.below hS' zq.lt).cell (i := 0) rfl
            have d1 := (zq.below hS' zq.lt).cell (i := 1) rfl
            have d2 := (zq.below hS' zq.lt).cell (i := 2) rfl
            have t0 := (hS'.cell (p := ⟨bta, ota + s, none⟩) (by show bta < wr.heap.size; omega)).trans htA
            have t1 := (hS'.cell (p := ⟨btb, otb + u, none⟩) (by show btb < wr.heap.size; omega)).trans htB
            have t2 := (hS'.cell (p := ⟨B6 + 1, (Y + V) * kw + X + U, none⟩) (by show B6 + 1 < wr.heap.size; omega)).trans hcq
            go_simp
            rfl
          simp only [List.setIfInBounds_toArray, List.set_cons_zero, List.set_cons_succ]
          refine take_op 33 (v := ?rv33) rfl (by kernel_rfl) (fun _ _ _ h => h) (by rfl) hS (fun w' hS' => ?ry33) ?rz33
          case ry33 =>
            go_simp
            rfl
          simp only [List.setIfInBounds_toArray, List.set_cons_zero, List.set_cons_succ]
          refine take_op 34 (v := ?rv34) rfl (by kernel_rfl) (fun _ _ _ h => h) (by rfl) hS (fun w' hS' => ?ry34) ?rz34
          case ry34 =>
            go_simp
            try go_ints
            first
            | rfl
            | rw [if_pos ⟨by omega, by omega⟩]
          simp only [List.setIfInBounds_toArray, List.set_cons_zero, List.set_cons_succ]
          refine take_op 35 (v := ?rv35) rfl (by kernel_rfl) (fun _ _ _ h => h) (by rfl) hS (fun w' hS' => ?ry35) ?rz35
          case ry35 =>
            have a0 := (z5.below hS' z5.lt).cell (i := 0) rfl
            have a1 := (z5.below hS' z5.lt).cell (i := 1) rfl
            have a2 := (z5.below hS' z5.lt).cell (i := 2) rfl
            have b0 := (z6.below hS' z6.lt).cell (i := 0) rfl
            have b1 := (z6.below hS' z6.lt).cell (i := 1) rfl
            have b2 := (z6.below hS' z6.lt).cell (i := 2) rfl
            have d0 := (zq.below hS' zq.lt).cell (i := 0) rfl
            have d1 := (zq.below hS' zq.lt).cell (i := 1) rfl
            have d2 := (zq.below hS' zq.lt).cell (i := 2) rfl
            have t0 := (hS'.cell (p := ⟨bta, ota + s, none⟩) (by show bta < wr.heap.size; omega)).trans htA
            have t1 := (hS'.cell (p := ⟨btb, otb + u, none⟩) (by show btb < wr.heap.size; omega)).trans htB
            have t2 := (hS'.cell (p := ⟨B6 + 1, (Y + V) * kw + X + U, none⟩) (by show B6 + 1 < wr.heap.size; omega)).trans hcq
            go_simp
            rfl
          simp only [List.setIfInBounds_toArray, List.set_cons_zero, List.set_cons_succ]
          refine take_op 36 (v := ?rv36) rfl (by kernel_rfl) (fun _ _ _ h => h) (by rfl) hS (fun w' hS' => ?ry36) ?rz36
          case ry36 =>
            go_simp
            try go_ints
            rfl
          simp only [List.setIfInBounds_toArray, List.set_cons_zero, List.set_cons_succ]
          refine take_op 37 (v := ?rv37) rfl (by kernel_rfl) (fun _ _ _ h => h) (by rfl) hS (fun w' hS' => ?ry37) ?rz37
          case ry37 =>
            go_simp
            try go_ints
            rfl
          simp only [List.setIfInBounds_toArray, List.set_cons_zero, List.set_cons_succ]
          refine take_op 38 (v := ?rv38) rfl (by kernel_rfl) (fun _ _ _ h => h) (by rfl) hS (fun w' hS' => ?ry38) ?rz38
          case ry38 =>
            go_simp
            try go_ints
            first
            | rfl
            | rw [if_pos ⟨by omega, by omega⟩]
          simp only [List.setIfInBounds_toArray, List.set_cons_zero, List.set_cons_succ]
          refine step_op 39 (by kernel_rfl) rfl (fun K hK => ?_)
          have t2 := (hS.cell (p := ⟨B6 + 1, (Y + V) * kw + X + U, none⟩) (by show B6 + 1 < wr.heap.size; omega)).trans hcq
          have row4 := row_below rowk hS
          have hfr := row4.frozenAt ((Y + V) * kw + X + U)
          rw [if_pos (by rfl)]
          go_simp
          refine hK.out _ _ (fun h => absurd h (by omega)) ?_
          clear hK K
          try simp only [Act.put, List.setIfInBounds_toArray, List.set_cons_zero, List.set_cons_succ]
          refine done_ops (by kernel_rfl) ?_
          go_wp2_with fail
          go_roundw
          case rel =>
            have hst := row4.stored ((Y + V) * kw + X + U) (.int .i64 (cv + ta * tb))
            have hst1 := hst.1
            rw [map_set_int, hsetH.out] at hst1
            exact ⟨u + 1, by omega, by go_num, grown_trans hG (grown_trans (grown_of_below hS _) hst.2), hst1⟩
          case measure => simp [intOf]; omega
        · have hun : u = nb := by omega
          have hnx := Lib.hid (conL_next (kpos aw bw) (fun s u => px A s * px B u) nb NN s)
          rw [hun, hnx.out] at rowk
          clear hun
          go_wp2_with fail
          go_roundw
          case rel => exact ⟨s + 1, by omega, by go_num, hG, rowk⟩
          case measure => simp [intOf]; omega
    · have hsn : s = na := by omega
      subst hsn
      have hmix := mixTo_zero (compT aw ah bw bh A B) (conS (kpos aw bw) (fun s u => px A s * px B u) nb s 0) NN
      rw [show conL (kpos aw bw) (fun s u => px A s * px B u) nb NN s 0 = mixTo (compT aw ah bw bh A B) (conS (kpos aw bw) (fun s u => px A s * px B u) nb s 0) NN 0 from hmix.symm] at rowk
      clear hmix
      have hcomp0 := Lib.hid (fun p => (show clamp (conS (kpos aw bw) (fun s u => px A s * px B u) nb s 0 p) (-65536) 65536 = compT aw ah bw bh A B p by
        unfold compT
        rw [← con_all (by omega) (by omega) (by omega), prodA.out, prodB.out]))
      go_wp2_with fail
      clear m2 z5 z6 zq zk hBr hwr
      go_loopw [9] (fun i wr => ∃ q : Nat, q ≤ NN ∧ i = .int .i64 (q : Int) ∧ W4.grownBy wr (some (B6 + 1)) ∧ wr.ownsRow w.heap.size 3 1 (.slice (some ⟨B6 + 1, 0, none⟩) NN NN) NN ((mixTo (compT aw ah bw bh A B) (conS (kpos aw bw) (fun s u => px A s * px B u) nb s 0) NN q).map (Value.int .i64))) (fun i _ => NN - (intOf i).toNat)
      case atStart => exact ⟨0, Nat.zero_le _, rfl, hG, rowk⟩
      case round =>
        clear hG rowk
        obtain ⟨q, hq, rfl, hG, rowk⟩ := hrel
        have z5 := y5.kept hG ny5.out
        have z6 := y6.kept hG ny6.out
        have zq := yq.kept hG nyq.out
        have zk := yk.kept hG nyk.out
        have hBr : Below w.heap.size w wr := hB4.grown hG hB4.size (fun j e => by cases e; omega)
        have hwr := hG.size
        have m2 := zq.cell (i := 2) rfl
        by_cases hltq : q < NN
        · have hat := mixTo_at (compT aw ah bw bh A B) (conS (kpos aw bw) (fun s u => px A s * px B u) nb s 0) hltq
          have hset := mixTo_set (compT aw ah bw bh A B) (conS (kpos aw bw) (fun s u => px A s * px B u) nb s 0) hltq
          have hcp := hcomp0.out q
          obtain ⟨cv, hcv⟩ : ∃ v, conS (kpos aw bw) (fun s u => px A s * px B u) nb s 0 q = v := ⟨_, rfl⟩
          rw [hcv] at hat hcp
          obtain ⟨zv, hzv⟩ : ∃ v, compT aw ah bw bh A B q = v := ⟨_, rfl⟩
          rw [hzv] at hset hcp
          have hcompH := Lib.hid hcp
          have hsetH := Lib.hid hset
          have hcq0 := rowk.cellAt q (by omega)
          have hcq : wr.cell? ⟨B6 + 1, q, none⟩ = some (.int .i64 cv) := by rw [hcq0, List.getElem?_map, hat]; rfl
          clear hset hcp hat hcv hzv hcq0
          have hS : Below wr.heap.size wr wr.drew := (Below.refl _ _).drew
          go_wp2_with fail
          refine plain_region (fun W' => Below wr.heap.size wr W') 10 11 (by kernel_rfl) rfl ?_
          simp only [Array.replicate_succ, Array.replicate_zero, List.push_toArray, List.nil_append, List.cons_append]
          refine take_op 0 (v := ?sv0) rfl (by kernel_rfl) (fun _ _ _ h => h) (by rfl) hS (fun w' hS' => ?sy0) ?sz0
          case sy0 =>
            go_simp
            rfl
          simp only [List.setIfInBounds_toArray, List.set_cons_zero, List.set_cons_succ]
          refine take_op 1 (v := ?sv1) rfl (by kernel_rfl) (fun _ _ _ h => h) (by rfl) hS (fun w' hS' => ?sy1) ?sz1
          case sy1 =>
            have d0 := (zq.below hS' zq.lt).cell (i := 0) rfl
            have d1 := (zq.below hS' zq.lt).cell (i := 1) rfl
            have d2 := (zq.below hS' zq.lt).cell (i := 2) rfl
            have t2 := (hS'.cell (p := ⟨B6 + 1, q, none⟩) (by show B6 + 1 < wr.heap.size; omega)).trans hcq
            go_simp
            rfl
          simp only [List.setIfInBounds_toArray, List.set_cons_zero, List.set_cons_succ]
          refine take_op 2 (v := ?sv2) rfl (by kernel_rfl) (fun _ _ _ h => h) (by rfl) hS (fun w' hS' => ?sy2) ?sz2
          case sy2 =>
            go_simp
            rfl
          simp only [List.setIfInBounds_toArray, List.set_cons_zero, List.set_cons_succ]
          refine take_op 3 (v := ?sv3) rfl (by kernel_rfl) (fun _ _ _ h => h) (by rfl) hS (fun w' hS' => ?sy3) ?sz3
          case sy3 =>
            go_simp
            rfl
          simp only [List.setIfInBounds_toArray, List.set_cons_zero, List.set_cons_succ]
          refine take_op 4 (v := ?sv4) rfl (by kernel_rfl) (fun _ _ _ h => h) (by rfl) hS (fun w' hS' => ?sy4) ?sz4
          case sy4 =>
            have d0 := (zq.below hS' zq.lt).cell (i := 0) rfl
            have d1 := (zq.below hS' zq.lt).cell (i := 1) rfl
            have d2 := (zq.below hS' zq.lt).cell (i := 2) rfl
            have t2 := (hS'.cell (p := ⟨B6 + 1, q, none⟩) (by show B6 + 1 < wr.heap.size; omega)).trans hcq
            go_simp
            rfl
          simp only [List.setIfInBounds_toArray, List.set_cons_zero, List.set_cons_succ]
          refine take_op 5 (v := ?sv5) rfl (by kernel_rfl) (fun _ _ _ h => h) (by rfl) hS (fun w' hS' => ?sy5) ?sz5
          case sy5 =>
            go_simp
            rfl
          simp only [List.setIfInBounds_toArray, List.set_cons_zero, List.set_cons_succ]
          refine take_op 6 (v := ?sv6) rfl (by kernel_rfl) (fun _ _ _ h => h) (by rfl) hS (fun w' hS' => ?sy6) ?sz6
          case sy6 =>
            go_simp
            try go_ints
            first
            | rfl
            | rw [if_pos ⟨by omega, by omega⟩]
          simp only [List.setIfInBounds_toArray, List.set_cons_zero, List.set_cons_succ]
          refine take_op 7 (v := ?sv7) rfl (by kernel_rfl) (fun _ _ _ h => h) (by rfl) hS (fun w' hS' => ?sy7) ?sz7
          case sy7 =>
            have d0 := (zq.below hS' zq.lt).cell (i := 0) rfl
            have d1 := (zq.below hS' zq.lt).cell (i := 1) rfl
            have d2 := (zq.below hS' zq.lt).cell (i := 2) rfl
            have t2 := (hS'.cell (p := ⟨B6 + 1, q, none⟩) (by show B6 + 1 < wr.heap.size; omega)).trans hcq
            go_simp
            rfl
          simp only [List.setIfInBounds_toArray, List.set_cons_zero, List.set_cons_succ]
          refine step_op 8 (by kernel_rfl) rfl (fun K hK => ?_)
          rw [if_pos (by rfl)]
          go_simp
          refine (Into_any _ _ _ _).mono ?_
          rintro e V1 ⟨rfl, rfl⟩
          rw [hcompH.out]
          refine hK.out _ _ (fun h => hS) ?_
          clear hK K
          try simp only [Act.put, List.setIfInBounds_toArray, List.set_cons_zero, List.set_cons_succ]
          refine take_op 9 (v := ?sv9) rfl (by kernel_rfl) (fun _ _ _ h => h) (by rfl) hS (fun w' hS' => ?sy9) ?sz9
          case sy9 =>
            go_simp
            try go_ints
            first
            | rfl
            | rw [if_pos ⟨by omega, by omega⟩]
          simp only [List.setIfInBounds_toArray, List.set_cons_zero, List.set_cons_succ]
          refine step_op 10 (by kernel_rfl) rfl (fun K hK => ?_)
          have t2 := (hS.cell (p := ⟨B6 + 1, q, none⟩) (by show B6 + 1 < wr.heap.size; omega)).trans hcq
          have row4 := row_below rowk hS
          have hfr := row4.frozenAt q
          rw [if_pos (by rfl)]
          go_simp
          refine hK.out _ _ (fun h => absurd h (by omega)) ?_
          clear hK K
          try simp only [Act.put, List.setIfInBounds_toArray, List.set_cons_zero, List.set_cons_succ]
          refine done_ops (by kernel_rfl) ?_
          go_wp2_with fail
          go_roundw
          case rel =>
            have hst := row4.stored q (.int .i64 zv)
            have hst1 := hst.1
            rw [map_set_int, hsetH.out] at hst1
            exact ⟨q + 1, by omega, by go_num, grown_trans hG (grown_trans (grown_of_below hS _) hst.2), hst1⟩
          case measure => simp [intOf]; omega
        · have hqn : q = NN := by omega
          rw [hqn, mixTo_all] at rowk
          have hcl := Lib.hid (show compL aw ah bw bh A B = (List.range NN).map (compT aw ah bw bh A B) by unfold compL; rw [show aw + bw - 1 = kw by omega, show ah + bh - 1 = kh by omega, hNNH.out])
          clear hqn
          have n0 := zq.cell (i := 0) rfl
          have n1 := zq.cell (i := 1) rfl
          have c0 := zk.cell (i := 0) rfl
          have c1 := zk.cell (i := 1) rfl
          have c2 := zk.cell (i := 2) rfl
          have fc0 := zk.frozen 0
          have fc1 := zk.frozen 1
          have fc2 := zk.frozen 2
          go_wp2_with fail
          have kf := put3_blk zk (.int .i64 kw) (.int .i64 kh) (.slice (some ⟨B6 + 1, 0, none⟩) NN NN)
          have g0 := kf.cell (i := 0) rfl
          have g1 := kf.cell (i := 1) rfl
          have g2 := kf.cell (i := 2) rfl
          have hlen2 : (compL aw ah bw bh A B).length = NN := by rw [hcl.out]; simp
          exact bodyPost_ret (v := .tuple #[.agg #[.int .i64 kw, .int .i64 kh, .slice (some ⟨B6 + 1, 0, none⟩) NN NN], .int .i64 0]) (by simp [results, Try.results54, go_sem, g0, g1, g2]) rfl ⟨⟨_, rfl, ⟨_, rfl, row_len hlen2.symm (by rw [hcl.out]; exact put3_row rowk (zk.not_row (by decide) rowk) _ _ _)⟩⟩, hBr.trans (put3_below (by omega) _ _ _)⟩

set_option maxRecDepth 100000 in
set_option maxHeartbeats 8000000 in
theorem rCompose_any (aw ah : Int) (ax : Option Addr) (ca na : Nat) (A : List Int) (hna : Hid (A.length = na)) (bw bh : Int) (bx : Option Addr) (cb nb : Nat) (B : List Int) (hnb : Hid (B.length = nb)) (w : World) (hma : na ≤ 9223372036854775807) (hra : Rd w.heap.size w ax A) (hmb : nb ≤ 9223372036854775807) (hrb : Rd w.heap.size w bx B) :
    Calls Try.prog 54 #[imv aw ah ax na ca, imv bw bh bx nb cb] w (RetIm w.heap.size (compS aw ah A bw bh B) w) := by
  have hB0 : Below w.heap.size w (((w.alloc (.cells #[.int .i64 aw, .int .i64 ah, .slice ax na ca] 64)).alloc (.cells #[.int .i64 bw, .int .i64 bh, .slice bx nb cb] 64)).alloc (.cells #[.int .i64 0, .int .i64 0, .slice none 0 0] 64)) := below_al (below_al (below_al (Below.refl _ _) _) _) _
  obtain ⟨v1, hv1⟩ : ∃ v, kernOk aw ah A = v := ⟨_, rfl⟩
  have v1H := Lib.hid hv1
  obtain ⟨v2, hv2⟩ : ∃ v, kernOk bw bh B = v := ⟨_, rfl⟩
  have v2H := Lib.hid hv2
  have hsp := Lib.hid (show compS aw ah A bw bh B = if (v1 && v2) = true then (if decide (aw + bw - 1 ≤ 5 ∧ ah + bh - 1 ≤ 5) = true then { w := aw + bw - 1, h := ah + bh - 1, px := compL aw.toNat ah.toNat bw.toNat bh.toNat A B, err := 0 } else noIm 21) else noIm 22 by unfold compS; rw [hv1, hv2])
  clear hv1 hv2
  cases v1 with
  | false =>
    go_enter Try.func54, Try.ntmps54
    go_wp2_with fail
    refine (ValidKernel_any aw ah ax ca na A hna false v1H _ hma ((hra.below (Nat.le_refl _) hB0).mono hB0.size)).mono ?_
    rintro e W1 ⟨rfl, hb1⟩
    have hB1 : Below w.heap.size w W1 := hB0.trans (hb1.mono hB0.size)
    have k5 := (((Blk.new w 64 #[.int .i64 aw, .int .i64 ah, .slice ax na ca]).alloc (.cells #[.int .i64 bw, .int .i64 bh, .slice bx nb cb] 64)).alloc (.cells #[.int .i64 0, .int .i64 0, .slice none 0 0] 64)).below hb1 (by simp <;> omega)
    have k6 := ((Blk.new (w.alloc (.cells #[.int .i64 aw, .int .i64 ah, .slice ax na ca] 64)) 64 #[.int .i64 bw, .int .i64 bh, .slice bx nb cb]).alloc (.cells #[.int .i64 0, .int .i64 0, .slice none 0 0] 64)).below hb1 (by simp <;> omega)
    have k := (Blk.new ((w.alloc (.cells #[.int .i64 aw, .int .i64 ah, .slice ax na ca] 64)).alloc (.cells #[.int .i64 bw, .int .i64 bh, .slice bx nb cb] 64)) 64 #[.int .i64 0, .int .i64 0, .slice none 0 0]).below hb1 (by simp <;> omega)
    simp only [World.size_alloc] at k6 k
    clear hb1 hB0
    have m0 := k5.cell (i := 0) rfl
    have m1 := k5.cell (i := 1) rfl
    have m2 := k5.cell (i := 2) rfl
    have s0 := k6.cell (i := 0) rfl
    have s1 := k6.cell (i := 1) rfl
    have s2 := k6.cell (i := 2) rfl
    have c0 := k.cell (i := 0) rfl
    have c1 := k.cell (i := 1) rfl
    have c2 := k.cell (i := 2) rfl
    have fc0 := k.frozen 0
    have fc1 := k.frozen 1
    have fc2 := k.frozen 2
    go_wp2_with fail
    have kf := put3_blk k (.int .i64 0) (.int .i64 0) (.slice none 0 0)
    have g0 := kf.cell (i := 0) rfl
    have g1 := kf.cell (i := 1) rfl
    have g2 := kf.cell (i := 2) rfl
    exact bodyPost_ret (v := .tuple #[.agg #[.int .i64 0, .int .i64 0, .slice none 0 0], .int .i64 22]) (by simp [results, Try.results54, go_sem, g0, g1, g2]) rfl ⟨⟨_, by rw [hsp.out]; rfl, by rw [hsp.out]; exact OwnIm_nil _ _⟩, hB1.trans (put3_below (by omega) _ _ _)⟩
  | true =>
    cases v2 with
    | false =>
      go_enter Try.func54, Try.ntmps54
      go_wp2_with fail
      refine (ValidKernel_any aw ah ax ca na A hna true v1H _ hma ((hra.below (Nat.le_refl _) hB0).mono hB0.size)).mono ?_
      rintro e W1 ⟨rfl, hb1⟩
      have hB1 : Below w.heap.size w W1 := hB0.trans (hb1.mono hB0.size)
      have k5 := (((Blk.new w 64 #[.int .i64 aw, .int .i64 ah, .slice ax na ca]).alloc (.cells #[.int .i64 bw, .int .i64 bh, .slice bx nb cb] 64)).alloc (.cells #[.int .i64 0, .int .i64 0, .slice none 0 0] 64)).below hb1 (by simp <;> omega)
      have k6 := ((Blk.new (w.alloc (.cells #[.int .i64 aw, .int .i64 ah, .slice ax na ca] 64)) 64 #[.int .i64 bw, .int .i64 bh, .slice bx nb cb]).alloc (.cells #[.int .i64 0, .int .i64 0, .slice none 0 0] 64)).below hb1 (by simp <;> omega)
      have k := (Blk.new ((w.alloc (.cells #[.int .i64 aw, .int .i64 ah, .slice ax na ca] 64)).alloc (.cells #[.int .i64 bw, .int .i64 bh, .slice bx nb cb] 64)) 64 #[.int .i64 0, .int .i64 0, .slice none 0 0]).below hb1 (by simp <;> omega)
      simp only [World.size_alloc] at k6 k
      clear hb1 hB0
      have m0 := k5.cell (i := 0) rfl
      have m1 := k5.cell (i := 1) rfl
      have m2 := k5.cell (i := 2) rfl
      have s0 := k6.cell (i := 0) rfl
      have s1 := k6.cell (i := 1) rfl
      have s2 := k6.cell (i := 2) rfl
      have c0 := k.cell (i := 0) rfl
      have c1 := k.cell (i := 1) rfl
      have c2 := k.cell (i := 2) rfl
      have fc0 := k.frozen 0
      have fc1 := k.frozen 1
      have fc2 := k.frozen 2
      go_wp2_with fail
      refine (ValidKernel_any bw bh bx cb nb B hnb false v2H W1 hmb ((hrb.below (Nat.le_refl _) hB1).mono hB1.size)).mono ?_
      rintro e W2 ⟨rfl, hb⟩
      have hB2 := hB1.trans (hb.mono hB1.size)
      clear m0 m1 m2
      replace k5 := k5.below hb k5.lt
      have m0 := k5.cell (i := 0) rfl
      have m1 := k5.cell (i := 1) rfl
      have m2 := k5.cell (i := 2) rfl
      clear s0 s1 s2
      replace k6 := k6.below hb k6.lt
      have s0 := k6.cell (i := 0) rfl
      have s1 := k6.cell (i := 1) rfl
      have s2 := k6.cell (i := 2) rfl
      clear c0 c1 c2 fc0 fc1 fc2
      replace k := k.below hb k.lt
      have c0 := k.cell (i := 0) rfl
      have c1 := k.cell (i := 1) rfl
      have c2 := k.cell (i := 2) rfl
      have fc0 := k.frozen 0
      have fc1 := k.frozen 1
      have fc2 := k.frozen 2
      clear hb hB1
      go_wp2_with fail
      have kf := put3_blk k (.int .i64 0) (.int .i64 0) (.slice none 0 0)
      have g0 := kf.cell (i := 0) rfl
      have g1 := kf.cell (i := 1) rfl
      have g2 := kf.cell (i := 2) rfl
      exact bodyPost_ret (v := .tuple #[.agg #[.int .i64 0, .int .i64 0, .slice none 0 0], .int .i64 22]) (by simp [results, Try.results54, go_sem, g0, g1, g2]) rfl ⟨⟨_, by rw [hsp.out]; rfl, by rw [hsp.out]; exact OwnIm_nil _ _⟩, hB2.trans (put3_below (by omega) _ _ _)⟩
    | true =>
      have hk1 := v1H.out
      unfold kernOk at hk1
      rw [Bool.and_eq_true, hna.out] at hk1
      obtain ⟨s1, s2, s3⟩ := sidesB_true hk1.1
      have hk2 := v2H.out
      unfold kernOk at hk2
      rw [Bool.and_eq_true, hnb.out] at hk2
      obtain ⟨s4, s5, s6⟩ := sidesB_true hk2.1
      clear hk1 hk2 s3 s6
      obtain ⟨KW, eKW⟩ : ∃ v, aw + bw - 1 = v := ⟨_, rfl⟩
      obtain ⟨KH, eKH⟩ : ∃ v, ah + bh - 1 = v := ⟨_, rfl⟩
      have bK : 1 ≤ KW ∧ KW ≤ 9 ∧ 1 ≤ KH ∧ KH ≤ 9 := by omega
      by_cases hn1 : 5 < KW
      · have hspd := Lib.hid (show compS aw ah A bw bh B = noIm 21 by rw [hsp.out, eKW, eKH]; rw [show decide (KW ≤ 5 ∧ KH ≤ 5) = false by simp; omega]; rfl)
        go_enter Try.func54, Try.ntmps54
        go_wp2_with fail
        refine (ValidKernel_any aw ah ax ca na A hna true v1H _ hma ((hra.below (Nat.le_refl _) hB0).mono hB0.size)).mono ?_
        rintro e W1 ⟨rfl, hb1⟩
        have hB1 : Below w.heap.size w W1 := hB0.trans (hb1.mono hB0.size)
        have k5 := (((Blk.new w 64 #[.int .i64 aw, .int .i64 ah, .slice ax na ca]).alloc (.cells #[.int .i64 bw, .int .i64 bh, .slice bx nb cb] 64)).alloc (.cells #[.int .i64 0, .int .i64 0, .slice none 0 0] 64)).below hb1 (by simp <;> omega)
        have k6 := ((Blk.new (w.alloc (.cells #[.int .i64 aw, .int .i64 ah, .slice ax na ca] 64)) 64 #[.int .i64 bw, .int .i64 bh, .slice bx nb cb]).alloc (.cells #[.int .i64 0, .int .i64 0, .slice none 0 0] 64)).below hb1 (by simp <;> omega)
        have k := (Blk.new ((w.alloc (.cells #[.int .i64 aw, .int .i64 ah, .slice ax na ca] 64)).alloc (.cells #[.int .i64 bw, .int .i64 bh, .slice bx nb cb] 64)) 64 #[.int .i64 0, .int .i64 0, .slice none 0 0]).below hb1 (by simp <;> omega)
        simp only [World.size_alloc] at k6 k
        clear hb1 hB0
        have m0 := k5.cell (i := 0) rfl
        have m1 := k5.cell (i := 1) rfl
        have m2 := k5.cell (i := 2) rfl
        have s0 := k6.cell (i := 0) rfl
        have s1 := k6.cell (i := 1) rfl
        have s2 := k6.cell (i := 2) rfl
        have c0 := k.cell (i := 0) rfl
        have c1 := k.cell (i := 1) rfl
        have c2 := k.cell (i := 2) rfl
        have fc0 := k.frozen 0
        have fc1 := k.frozen 1
        have fc2 := k.frozen 2
        go_wp2_with fail
        refine (ValidKernel_any bw bh bx cb nb B hnb true v2H W1 hmb ((hrb.below (Nat.le_refl _) hB1).mono hB1.size)).mono ?_
        rintro e W2 ⟨rfl, hb⟩
        have hB2 := hB1.trans (hb.mono hB1.size)
        clear m0 m1 m2
        replace k5 := k5.below hb k5.lt
        have m0 := k5.cell (i := 0) rfl
        have m1 := k5.cell (i := 1) rfl
        have m2 := k5.cell (i := 2) rfl
        clear s0 s1 s2
        replace k6 := k6.below hb k6.lt
        have s0 := k6.cell (i := 0) rfl
        have s1 := k6.cell (i := 1) rfl
        have s2 := k6.cell (i := 2) rfl
        clear c0 c1 c2 fc0 fc1 fc2
        replace k := k.below hb k.lt
        have c0 := k.cell (i := 0) rfl
        have c1 := k.cell (i := 1) rfl
        have c2 := k.cell (i := 2) rfl
        have fc0 := k.frozen 0
        have fc1 := k.frozen 1
        have fc2 := k.frozen 2
        clear hb hB1
        have kq := Blk.new W2 64 #[.int .i64 KW, .int .i64 KH, .slice none 0 0]
        obtain ⟨B6, hB6⟩ : ∃ B, W2.heap.size = B := ⟨_, rfl⟩
        have hb : Below W2.heap.size W2 (W2.alloc (.cells #[.int .i64 KW, .int .i64 KH, .slice none 0 0] 64)) := below_al (Below.refl _ _) _
        rw [hB6] at kq
        have hB3 := hB2.trans (hb.mono hB2.size)
        have hs6 := k.lt
        rw [hB6] at hs6
        have hs7 := kq.lt
        have k5' := k5.below hb k5.lt
        have k6' := k6.below hb k6.lt
        have k' := k.below hb k.lt
        have m0' := k5'.cell (i := 0) rfl
        have m1' := k5'.cell (i := 1) rfl
        have m2' := k5'.cell (i := 2) rfl
        have s0' := k6'.cell (i := 0) rfl
        have s1' := k6'.cell (i := 1) rfl
        have s2' := k6'.cell (i := 2) rfl
        have c0' := k'.cell (i := 0) rfl
        have c1' := k'.cell (i := 1) rfl
        have c2' := k'.cell (i := 2) rfl
        have fc0' := k'.frozen 0
        have fc1' := k'.frozen 1
        have fc2' := k'.frozen 2
        have q0 := kq.cell (i := 0) rfl
        have q1 := kq.cell (i := 1) rfl
        have q2 := kq.cell (i := 2) rfl
        have fq0 := kq.frozen 0
        have fq1 := kq.frozen 1
        have fq2 := kq.frozen 2
        clear hb
        go_wp2_with fail
        have kf := (put3_blk k (.int .i64 0) (.int .i64 0) (.slice none 0 0)).alloc (.cells #[.int .i64 KW, .int .i64 KH, .slice none 0 0] 64)
        have g0 := kf.cell (i := 0) rfl
        have g1 := kf.cell (i := 1) rfl
        have g2 := kf.cell (i := 2) rfl
        exact bodyPost_ret (v := .tuple #[.agg #[.int .i64 0, .int .i64 0, .slice none 0 0], .int .i64 21]) (by simp [results, Try.results54, go_sem, g0, g1, g2]) rfl ⟨⟨_, by rw [hspd.out]; rfl, by rw [hspd.out]; exact OwnIm_nil _ _⟩, below_al (hB2.trans (put3_below (by omega) _ _ _)) _⟩
      · by_cases hn2 : 5 < KH
        · have hspd := Lib.hid (show compS aw ah A bw bh B = noIm 21 by rw [hsp.out, eKW, eKH]; rw [show decide (KW ≤ 5 ∧ KH ≤ 5) = false by simp; omega]; rfl)
          go_enter Try.func54, Try.ntmps54
          go_wp2_with fail
          refine (ValidKernel_any aw ah ax ca na A hna true v1H _ hma ((hra.below (Nat.le_refl _) hB0).mono hB0.size)).mono ?_
          rintro e W1 ⟨rfl, hb1⟩
          have hB1 : Below w.heap.size w W1 := hB0.trans (hb1.mono hB0.size)
          have k5 := (((Blk.new w 64 #[.int .i64 aw, .int .i64 ah, .slice ax na ca]).alloc (.cells #[.int .i64 bw, .int .i64 bh, .slice bx nb cb] 64)).alloc (.cells #[.int .i64 0, .int .i64 0, .slice none 0 0] 64)).below hb1 (by simp <;> omega)
          have k6 := ((Blk.new (w.alloc (.cells #[.int .i64 aw, .int .i64 ah, .slice ax na ca] 64)) 64 #[.int .i64 bw, .int .i64 bh, .slice bx nb cb]).alloc (.cells #[.int .i64 0, .int .i64 0, .slice none 0 0] 64)).below hb1 (by simp <;> omega)
          have k := (Blk.new ((w.alloc (.cells #[.int .i64 aw, .int .i64 ah, .slice ax na ca] 64)).alloc (.cells #[.int .i64 bw, .int .i64 bh, .slice bx nb cb] 64)) 64 #[.int .i64 0, .int .i64 0, .slice none 0 0]).below hb1 (by simp <;> omega)
          simp only [World.size_alloc] at k6 k
          clear hb1 hB0
          have m0 := k5.cell (i := 0) rfl
          have m1 := k5.cell (i := 1) rfl
          have m2 := k5.cell (i := 2) rfl
          have s0 := k6.cell (i := 0) rfl
          have s1 := k6.cell (i := 1) rfl
          have s2 := k6.cell (i := 2) rfl
          have c0 := k.cell (i := 0) rfl
          have c1 := k.cell (i := 1) rfl
          have c2 := k.cell (i := 2) rfl
          have fc0 := k.frozen 0
          have fc1 := k.frozen 1
          have fc2 := k.frozen 2
          go_wp2_with fail
          refine (ValidKernel_any bw bh bx cb nb B hnb true v2H W1 hmb ((hrb.below (Nat.le_refl _) hB1).mono hB1.size)).mono ?_
          rintro e W2 ⟨rfl, hb⟩
          have hB2 := hB1.trans (hb.mono hB1.size)
          clear m0 m1 m2
          replace k5 := k5.below hb k5.lt
          have m0 := k5.cell (i := 0) rfl
          have m1 := k5.cell (i := 1) rfl
          have m2 := k5.cell (i := 2) rfl
          clear s0 s1 s2
          replace k6 := k6.below hb k6.lt
          have s0 := k6.cell (i := 0) rfl
          have s1 := k6.cell (i := 1) rfl
          have s2 := k6.cell (i := 2) rfl
          clear c0 c1 c2 fc0 fc1 fc2
          replace k := k.below hb k.lt
          have c0 := k.cell (i := 0) rfl
          have c1 := k.cell (i := 1) rfl
          have c2 := k.cell (i := 2) rfl
          have fc0 := k.frozen 0
          have fc1 := k.frozen 1
          have fc2 := k.frozen 2
          clear hb hB1
          have kq := Blk.new W2 64 #[.int .i64 KW, .int .i64 KH, .slice none 0 0]
          obtain ⟨B6, hB6⟩ : ∃ B, W2.heap.size = B := ⟨_, rfl⟩
          have hb : Below W2.heap.size W2 (W2.alloc (.cells #[.int .i64 KW, .int .i64 KH, .slice none 0 0] 64)) := below_al (Below.refl _ _) _
          rw [hB6] at kq
          have hB3 := hB2.trans (hb.mono hB2.size)
          have hs6 := k.lt
          rw [hB6] at hs6
          have hs7 := kq.lt
          have k5' := k5.below hb k5.lt
          have k6' := k6.below hb k6.lt
          have k' := k.below hb k.lt
          have m0' := k5'.cell (i := 0) rfl
          have m1' := k5'.cell (i := 1) rfl
          have m2' := k5'.cell (i := 2) rfl
          have s0' := k6'.cell (i := 0) rfl
          have s1' := k6'.cell (i := 1) rfl
          have s2' := k6'.cell (i := 2) rfl
          have c0' := k'.cell (i := 0) rfl
          have c1' := k'.cell (i := 1) rfl
          have c2' := k'.cell (i := 2) rfl
          have fc0' := k'.frozen 0
          have fc1' := k'.frozen 1
          have fc2' := k'.frozen 2
          have q0 := kq.cell (i := 0) rfl
          have q1 := kq.cell (i := 1) rfl
          have q2 := kq.cell (i := 2) rfl
          have fq0 := kq.frozen 0
          have fq1 := kq.frozen 1
          have fq2 := kq.frozen 2
          clear hb
          go_wp2_with fail
          have kf := (put3_blk k (.int .i64 0) (.int .i64 0) (.slice none 0 0)).alloc (.cells #[.int .i64 KW, .int .i64 KH, .slice none 0 0] 64)
          have g0 := kf.cell (i := 0) rfl
          have g1 := kf.cell (i := 1) rfl
          have g2 := kf.cell (i := 2) rfl
          exact bodyPost_ret (v := .tuple #[.agg #[.int .i64 0, .int .i64 0, .slice none 0 0], .int .i64 21]) (by simp [results, Try.results54, go_sem, g0, g1, g2]) rfl ⟨⟨_, by rw [hspd.out]; rfl, by rw [hspd.out]; exact OwnIm_nil _ _⟩, below_al (hB2.trans (put3_below (by omega) _ _ _)) _⟩
        · obtain ⟨a1, rfl⟩ : ∃ k : Nat, aw = (k : Int) := ⟨aw.toNat, by omega⟩
          obtain ⟨a2, rfl⟩ : ∃ k : Nat, ah = (k : Int) := ⟨ah.toNat, by omega⟩
          obtain ⟨b1, rfl⟩ : ∃ k : Nat, bw = (k : Int) := ⟨bw.toNat, by omega⟩
          obtain ⟨b2, rfl⟩ : ∃ k : Nat, bh = (k : Int) := ⟨bh.toNat, by omega⟩
          obtain ⟨kw, rfl⟩ : ∃ k : Nat, KW = (k : Int) := ⟨KW.toNat, by omega⟩
          obtain ⟨kh, rfl⟩ : ∃ k : Nat, KH = (k : Int) := ⟨KH.toNat, by omega⟩
          have hfin : compS a1 a2 A b1 b2 B = { w := kw, h := kh, px := compL a1 a2 b1 b2 A B, err := 0 } := by
            rw [hsp.out, eKW, eKH, show decide ((kw : Int) ≤ 5 ∧ (kh : Int) ≤ 5) = true by simp; omega]
            simp only [Int.toNat_natCast]
            rfl
          rw [hfin]
          exact rCompose_ok a1 a2 ax ca na A hna b1 b2 bx cb nb B hnb w hma hra hmb hrb v1H v2H kw kh (by omega) (by omega) (by omega) (by omega)

end Go.Proofs.Ytjglfeonoiljlaa

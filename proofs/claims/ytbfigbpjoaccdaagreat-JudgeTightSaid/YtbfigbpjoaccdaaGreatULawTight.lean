/- The walk of the law JudgeTight: it returns true, and nothing that lay has turned. -/
import Derived.Test.YtbfigbpjoaccdaaGreatUChX
import Derived.Test.YtbfigbpjoaccdaaGreatUSpI
namespace Go.Proofs.YtbfigbpjoaccdaaGreat
open Go Go.RowKit Go.Shelf
set_option linter.unusedVariables false
set_option linter.unusedSimpArgs false

theorem spr_len2 (m : ImN) (C : ChgN) : (sprS m C).lo.length ≤ 256 ∧ (sprS m C).hi.length ≤ 256 := by
  unfold sprS
  split
  · split
    · rename_i h _
      simp only [camB, Bool.and_eq_true] at h
      obtain ⟨⟨i1, i2⟩, ⟨i3, i4⟩, hlen, hall⟩ := vld_true h.1
      have := Nat.mul_le_mul (show m.w.toNat ≤ 16 by omega) (show m.h.toNat ≤ 16 by omega)
      simp only [loL, hiL, List.length_map, List.length_range]
      omega
    · simp [noSp]
  · simp [noSp]
/-- One of the first n. -/
def anyTo (f : Nat → Bool) : Nat → Bool
  | 0 => false
  | n + 1 => anyTo f n || f n
theorem anyTo_of {f : Nat → Bool} : ∀ {n t : Nat}, t < n → f t = true → anyTo f n = true
  | n + 1, t, h, ht => by
    rw [anyTo]
    by_cases e : t = n
    · subst e; simp [ht]
    · rw [anyTo_of (show t < n by omega) ht]; rfl
theorem sprS_bad {m : ImN} {C : ChgN} (h : ¬ (camB m = true ∧ chgB C = true)) : (sprS m C).err = 20 ∨ (sprS m C).err = 2 := by
  unfold sprS
  by_cases h1 : camB m = true
  · rw [if_pos h1, if_neg (fun h2 => h ⟨h1, h2⟩)]; exact .inr rfl
  · rw [if_neg h1]; exact .inl rfl
theorem sprS_ok {m : ImN} {C : ChgN} (h1 : camB m = true) (h2 : chgB C = true) : sprS m C = ⟨m.w, m.h, loL m C, hiL m C, 0⟩ := by unfold sprS; rw [if_pos h1, if_pos h2]
theorem tight_lo {pw ph : Nat} {xs : List Int} {s : Nat} {g a : Int} {i : Nat} {v : Int} (hv : loF pw ph xs s g a i = v) : anyTo (fun t => shV pw ph xs s g a i t == v) ((2 * s + 1) * (2 * s + 1)) = true := by
  obtain ⟨t, ht, e⟩ := spLo_is (f := shV pw ph xs s g a i) (fun t => (spV_bd _ _ _).2) (n := (2 * s + 1) * (2 * s + 1)) (Nat.mul_pos (by omega) (by omega))
  refine anyTo_of ht ?_
  rw [← hv]; unfold loF; rw [e]; simp
theorem tight_hi {pw ph : Nat} {xs : List Int} {s : Nat} {g a : Int} {i : Nat} {v : Int} (hv : hiF pw ph xs s g a i = v) : anyTo (fun t => shV pw ph xs s g a i t == v) ((2 * s + 1) * (2 * s + 1)) = true := by
  obtain ⟨t, ht, e⟩ := spHi_is (f := shV pw ph xs s g a i) (fun t => (spV_bd _ _ _).1) (n := (2 * s + 1) * (2 * s + 1)) (Nat.mul_pos (by omega) (by omega))
  refine anyTo_of ht ?_
  rw [← hv]; unfold hiF; rw [e]; simp
set_option maxRecDepth 100000 in
set_option maxHeartbeats 16000000 in
theorem law_tight (iw ih : Int) (a : Option Addr) (c n : Nat) (xs : List Int) (hn : Hid (xs.length = n)) (C : ChgN) (p : Int) (w : World) (hm : n * 8 ≤ 140737488355328) (hr : Rd w.heap.size w a xs) :
    Calls Tryz.prog 5 #[imv iw ih a n c, C.val, .int .i64 p] w fun e w' => e = .returned (.bool true) ∧ Below w.heap.size w w' := by
  obtain ⟨s, gl, gh, off, noi⟩ := C
  have hB : Below w.heap.size w w := Below.refl _ _
  have hm2 : n ≤ 9223372036854775807 := by omega
  have ri := hr
  obtain ⟨R, hR⟩ : ∃ R, sprS ⟨iw, ih, xs⟩ ⟨s, gl, gh, off, noi⟩ = R := ⟨_, rfl⟩
  have hRl := spr_len2 ⟨iw, ih, xs⟩ ⟨s, gl, gh, off, noi⟩
  rw [hR] at hRl
  obtain ⟨hl1, hl2⟩ := hRl
  have hRH := Lib.hid hR
  clear hR hr hm
  have hbV1 : Below w.heap.size w (w.alloc (.cells #[.int .i64 iw, .int .i64 ih, .slice a n c] 27)) := jb_al (Below.refl _ w) _
  have k1 := Blk.new w 27 #[.int .i64 iw, .int .i64 ih, .slice a n c]
  obtain ⟨V1, hEV1⟩ : ∃ X, w.alloc (.cells #[.int .i64 iw, .int .i64 ih, .slice a n c] 27) = X := ⟨_, rfl⟩
  rw [hEV1] at hbV1 k1
  replace ri := later_i ri hbV1
  replace hB := hB.trans (hbV1.mono hB.size)
  clear hbV1
  have m0 := k1.cell (i := 0) rfl
  have m1 := k1.cell (i := 1) rfl
  have m2 := k1.cell (i := 2) rfl
  have hbV2 : Below V1.heap.size V1 (V1.alloc (.cells #[.int .i64 s, .int .i64 gl, .int .i64 gh, .int .i64 off, .int .i64 noi] 39)) := jb_al (Below.refl _ V1) _
  have k2 := Blk.new V1 39 #[.int .i64 s, .int .i64 gl, .int .i64 gh, .int .i64 off, .int .i64 noi]
  obtain ⟨V2, hEV2⟩ : ∃ X, V1.alloc (.cells #[.int .i64 s, .int .i64 gl, .int .i64 gh, .int .i64 off, .int .i64 noi] 39) = X := ⟨_, rfl⟩
  rw [hEV2] at hbV2 k2
  clear m0 m1 m2
  replace k1 := k1.below hbV2 k1.lt
  replace ri := later_i ri hbV2
  replace hB := hB.trans (hbV2.mono hB.size)
  clear hbV2
  have m0 := k1.cell (i := 0) rfl
  have m1 := k1.cell (i := 1) rfl
  have m2 := k1.cell (i := 2) rfl
  have h0 := k2.cell (i := 0) rfl
  have h1 := k2.cell (i := 1) rfl
  have h2 := k2.cell (i := 2) rfl
  have h3 := k2.cell (i := 3) rfl
  have h4 := k2.cell (i := 4) rfl
  go_enter Tryz.func5, Tryz.ntmps5
  go_wp2_with fail
  clear hEV1 hEV2
  have hc := alive8_any V2
  refine hc.mono ?_
  clear hc
  rintro e V3 ⟨rfl, hb⟩
  clear m0 m1 m2 h0 h1 h2 h3 h4
  replace k1 := k1.below hb k1.lt
  replace k2 := k2.below hb k2.lt
  replace ri := later_i ri hb
  replace hB := hB.trans (hb.mono hB.size)
  clear hb
  have m0 := k1.cell (i := 0) rfl
  have m1 := k1.cell (i := 1) rfl
  have m2 := k1.cell (i := 2) rfl
  have h0 := k2.cell (i := 0) rfl
  have h1 := k2.cell (i := 1) rfl
  have h2 := k2.cell (i := 2) rfl
  have h3 := k2.cell (i := 3) rfl
  have h4 := k2.cell (i := 4) rfl
  go_wp2_with fail
  have hc := Spread_any iw ih a c n xs hn ⟨s, gl, gh, off, noi⟩ V3 hm2 ri
  rw [hRH.out] at hc
  refine hc.mono ?_
  clear hc
  rintro e V4 ⟨⟨v1, v2, rfl, ⟨t1, rfl, hrA⟩, ⟨t2, rfl, hrB⟩⟩, hb⟩
  clear m0 m1 m2 h0 h1 h2 h3 h4
  replace k1 := k1.below hb k1.lt
  replace k2 := k2.below hb k2.lt
  replace ri := later_i ri hb
  replace hB := hB.trans (hb.mono hB.size)
  clear hb
  have m0 := k1.cell (i := 0) rfl
  have m1 := k1.cell (i := 1) rfl
  have m2 := k1.cell (i := 2) rfl
  have h0 := k2.cell (i := 0) rfl
  have h1 := k2.cell (i := 1) rfl
  have h2 := k2.cell (i := 2) rfl
  have h3 := k2.cell (i := 3) rfl
  have h4 := k2.cell (i := 4) rfl
  obtain ⟨pa, pc, rfl⟩ := row_slice hrA
  obtain ⟨qa, qc, rfl⟩ := row_slice hrB
  have rp := row_rd' rfl hrA
  have rq := row_rd' rfl hrB
  clear hrA hrB
  have k3 := Blk.new V4 27 #[.int .i64 0, .int .i64 0, .slice none 0 0]
  obtain ⟨bk3, hx1⟩ : ∃ b, V4.heap.size = b := ⟨_, rfl⟩
  obtain ⟨V4a, hA⟩ : ∃ X, V4.alloc (.cells #[.int .i64 0, .int .i64 0, .slice none 0 0] 27) = X := ⟨_, rfl⟩
  have hba : Below V4.heap.size V4 V4a := alloc_below hA
  rw [hA, hx1] at k3
  have k4 := Blk.new V4a 27 #[.int .i64 0, .int .i64 0, .slice none 0 0]
  obtain ⟨bk4, hx2⟩ : ∃ b, V4a.heap.size = b := ⟨_, rfl⟩
  obtain ⟨V4b, hA2⟩ : ∃ X, V4a.alloc (.cells #[.int .i64 0, .int .i64 0, .slice none 0 0] 27) = X := ⟨_, rfl⟩
  have hbb : Below V4a.heap.size V4a V4b := alloc_below hA2
  rw [hA2, hx2] at k4
  have hlt12 : bk3 < bk4 := hx2 ▸ k3.lt
  replace k3 := k3.below hbb k3.lt
  have d0 := k3.cell (i := 0) rfl
  have fd0 := k3.frozen 0
  have d1 := k3.cell (i := 1) rfl
  have fd1 := k3.frozen 1
  have d2 := k3.cell (i := 2) rfl
  have fd2 := k3.frozen 2
  have hg1 := put3_grow2 V4b bk3 (.int .i64 R.w) (.int .i64 R.h) (.slice pa R.lo.length pc)
  have k3n := put3_blk k3 (.int .i64 R.w) (.int .i64 R.h) (.slice pa R.lo.length pc)
  replace k4 := k4.kept hg1 (by simp; omega)
  obtain ⟨V4c, hA3⟩ : ∃ X, put3 V4b bk3 (.int .i64 R.w) (.int .i64 R.h) (.slice pa R.lo.length pc) = X := ⟨_, rfl⟩
  rw [hA3] at hg1 k3n k4
  have e0 := k4.cell (i := 0) rfl
  have fe0 := k4.frozen 0
  have e1 := k4.cell (i := 1) rfl
  have fe1 := k4.frozen 1
  have e2 := k4.cell (i := 2) rfl
  have fe2 := k4.frozen 2
  have hg2 := put3_grow2 V4c bk4 (.int .i64 R.w) (.int .i64 R.h) (.slice qa R.hi.length qc)
  have k4n := put3_blk k4 (.int .i64 R.w) (.int .i64 R.h) (.slice qa R.hi.length qc)
  replace k3 := k3n.kept hg2 (by simp; omega)
  obtain ⟨V5, hA4⟩ : ∃ X, put3 V4c bk4 (.int .i64 R.w) (.int .i64 R.h) (.slice qa R.hi.length qc) = X := ⟨_, rfl⟩
  rw [hA4] at hg2 k3 k4n
  replace k4 := k4n
  clear k3n k4n
  have hb : Below V4.heap.size V4 V5 := hba.trans ((hbb.mono hba.size).trans ((grown_below2 hg1 (by have := hba.size; have := hbb.size; omega) (by intro k e; cases e; omega)).trans (grown_below2 hg2 (by have := hba.size; have := hbb.size; have := hg1.size; omega) (by intro k e; cases e; omega))))
  clear m0 m1 m2 h0 h1 h2 h3 h4
  replace k1 := k1.below hb k1.lt
  replace k2 := k2.below hb k2.lt
  replace ri := later_i ri hb
  replace rp := later_i rp hb
  replace rq := later_i rq hb
  replace hB := hB.trans (hb.mono hB.size)
  clear hb hba hbb hg1 hg2 hlt12
  have m0 := k1.cell (i := 0) rfl
  have m1 := k1.cell (i := 1) rfl
  have m2 := k1.cell (i := 2) rfl
  have h0 := k2.cell (i := 0) rfl
  have h1 := k2.cell (i := 1) rfl
  have h2 := k2.cell (i := 2) rfl
  have h3 := k2.cell (i := 3) rfl
  have h4 := k2.cell (i := 4) rfl
  have t0 := k3.cell (i := 0) rfl
  have t1 := k3.cell (i := 1) rfl
  have t2 := k3.cell (i := 2) rfl
  have u0 := k4.cell (i := 0) rfl
  have u1 := k4.cell (i := 1) rfl
  have u2 := k4.cell (i := 2) rfl
  by_cases hv : camB ⟨iw, ih, xs⟩ = true ∧ chgB ⟨s, gl, gh, off, noi⟩ = true
  case neg =>
    have he := sprS_bad hv
    rw [hRH.out] at he
    have heb : (R.err != 0) = true := by rcases he with e | e <;> rw [e] <;> decide
    clear he hv
    go_wp2_with fail
    go_ret
    exact ⟨rfl, hB⟩
  case pos =>
    have hok := sprS_ok hv.1 hv.2
    have hcb := hv.1
    simp only [camB, Bool.and_eq_true] at hcb
    obtain ⟨⟨i1, i2⟩, ⟨i3, i4⟩, hlen, hall⟩ := vld_true hcb.1
    have hck := chgOk_of hv.2
    obtain ⟨s1, s2⟩ := hck.s
    obtain ⟨g1, g2⟩ := hck.gl
    obtain ⟨g3, g4⟩ := hck.gh
    obtain ⟨o1, o2⟩ := hck.off
    obtain ⟨o3, o4⟩ := hck.noi
    simp only at s1 s2 g1 g2 g3 g4 o1 o2 o3 o4
    obtain ⟨pw, rfl⟩ : ∃ pw : Nat, iw = (pw : Int) := ⟨iw.toNat, by omega⟩
    obtain ⟨ph, rfl⟩ : ∃ ph : Nat, ih = (ph : Int) := ⟨ih.toNat, by omega⟩
    obtain ⟨sn, rfl⟩ : ∃ sn : Nat, s = (sn : Int) := ⟨s.toNat, by omega⟩
    have hsn : sn ≤ 2 := by omega
    have hbyH := Lib.hid hcb.2
    rw [hRH.out] at hok
    simp only [loL, hiL, Int.toNat_natCast] at hok
    have hpq : pw * ph ≤ 256 := Nat.mul_le_mul (show pw ≤ 16 by omega) (show ph ≤ 16 by omega)
    rw [hn.out] at hlen
    have hlenH := Lib.hid hlen
    have hnpq : n = pw * ph := by have : ((pw * ph : Nat) : Int) = (pw : Int) * ph := by simp
                                  omega
    obtain ⟨LO, hLO⟩ : ∃ l, (List.range (pw * ph)).map (loF pw ph xs sn gl (-(off + noi))) = l := ⟨_, rfl⟩
    obtain ⟨HI, hHI⟩ : ∃ l, (List.range (pw * ph)).map (hiF pw ph xs sn gh (off + noi)) = l := ⟨_, rfl⟩
    rw [hLO, hHI] at hok
    obtain rfl : R = ⟨(pw : Int), (ph : Int), LO, HI, 0⟩ := hok
    simp only at *
    have hLn : LO.length = n := by rw [← hLO, hnpq]; simp
    have hHn : HI.length = n := by rw [← hHI, hnpq]; simp
    rw [hLn] at hl1 k3 t2 hA3 ⊢
    rw [hHn] at hl2 k4 u2 hA4 ⊢
    have hLH := Lib.hid hLO
    have hHH := Lib.hid hHI
    have hnpqH := Lib.hid hnpq
    have hLnH := Lib.hid hLn
    have hHnH := Lib.hid hHn
    clear hLO hHI hlen hcb hall hck hv hLn hHn hnpq
    have hnn0 : ((n : Int) != (n : Int)) = false := by simp
    by_cases p0 : p < 0
    case pos =>
      have p0d : decide (p < 0) = true := decide_eq_true p0
      go_wp2_with fail
      go_ret
      exact ⟨rfl, hB⟩
    case neg =>
      have p0d : decide (p < 0) = false := decide_eq_false p0
      by_cases p1 : (n : Int) ≤ p
      case pos =>
        have p1d : decide ((n : Int) ≤ p) = true := decide_eq_true p1
        go_wp2_with fail
        go_ret
        exact ⟨rfl, hB⟩
      case neg =>
        have p1d : decide ((n : Int) ≤ p) = false := decide_eq_false p1
        obtain ⟨q, rfl⟩ : ∃ q : Nat, p = (q : Int) := ⟨p.toNat, by omega⟩
        have hq : q < n := by omega
        have hqp : q < pw * ph := by rw [← hnpqH.out]; exact hq
        obtain ⟨lov, hlov⟩ : ∃ z, loF pw ph xs sn gl (-(off + noi)) q = z := ⟨_, rfl⟩
        obtain ⟨hiv, hhiv⟩ : ∃ z, hiF pw ph xs sn gh (off + noi) q = z := ⟨_, rfl⟩
        have eL : LO[q]?.getD 0 = lov := by rw [← hLH.out, List.getElem?_map, List.getElem?_range hqp]; exact hlov
        have eH : HI[q]?.getD 0 = hiv := by rw [← hHH.out, List.getElem?_map, List.getElem?_range hqp]; exact hhiv
        have hta := tight_lo hlov
        have htb := tight_hi hhiv
        obtain ⟨fL, hfL⟩ : ∃ f, (fun t => shV pw ph xs sn gl (-(off + noi)) q t == lov) = f := ⟨_, rfl⟩
        obtain ⟨fH, hfH⟩ : ∃ f, (fun t => shV pw ph xs sn gh (off + noi) q t == hiv) = f := ⟨_, rfl⟩
        rw [hfL] at hta
        rw [hfH] at htb
        have htaH := Lib.hid hta
        have htbH := Lib.hid htb
        have hfLH := Lib.hid hfL
        have hfHH := Lib.hid hfH
        rcases rp with h0 | ⟨bp, op, rfl, hbp, hcp⟩
        · have := hLnH.out; rw [h0] at this; simp at this; omega
        rcases rq with h0 | ⟨bq, oq, rfl, hbq, hcq⟩
        · have := hHnH.out; rw [h0] at this; simp at this; omega
        have zL := hcp q (by rw [hLnH.out]; exact hq)
        have zH := hcq q (by rw [hHnH.out]; exact hq)
        rw [eL] at zL
        rw [eH] at zH
        have zLH := Lib.hid zL
        have zHH := Lib.hid zH
        have hmdl : q % pw < pw := Nat.mod_lt _ (by omega)
        have hdvl : q / pw < ph := Nat.div_lt_of_lt_mul hqp
        obtain ⟨y, hye⟩ : ∃ y, q / pw = y := ⟨_, rfl⟩
        obtain ⟨x, hxe⟩ : ∃ x, q % pw = x := ⟨_, rfl⟩
        have hyq : (q : Int).tdiv (pw : Int) = (y : Int) := by rw [← hye, ← Int.ofNat_tdiv]
        have hxq : (q : Int).tmod (pw : Int) = (x : Int) := by rw [← hxe, ← Int.ofNat_tmod]
        have hxc : cX pw q = (x : Int) := by rw [← hxe]; rfl
        have hyc : cY pw q = (y : Int) := by rw [← hye]; rfl
        rw [hxe] at hmdl
        rw [hye] at hdvl
        have hxcH := Lib.hid hxc
        have hycH := Lib.hid hyc
        clear hcp hcq zL zH eL eH hlov hhiv hta htb hfL hfH hxe hye hxc hyc p0
        have p1e : decide (n ≤ q) = false := decide_eq_false (by omega)
        have p1f : ¬ n ≤ q := by omega
        go_wp2_with fail
        clear hA hA2 hA3 hA4 hx1 hx2 d0 d1 d2 fd0 fd1 fd2 e0 e1 e2 fe0 fe1 fe2
        clear p0d p1d p1 p1e p1f hnn0
        clear m0 m1 m2 h0 h1 h2 h3 h4 t0 t1 t2 u0 u1 u2
        have k1H := Lib.hid k1
        have lk1 := k1.lt
        clear k1
        have k2H := Lib.hid k2
        have lk2 := k2.lt
        clear k2
        have k3H := Lib.hid k3
        have lk3 := k3.lt
        clear k3
        have k4H := Lib.hid k4
        have lk4 := k4.lt
        clear k4
        have riH := Lib.hid ri
        have hB0 : Below V5.heap.size V5 V5 := Below.refl _ _
        clear ri
        go_loopw [11, 12, 13] (fun lo hi d wr => ∃ j : Nat, j ≤ 2 * sn + 1 ∧ d = .int .i64 ((j : Int) - (sn : Int)) ∧ lo = .bool (anyTo fL (j * (2 * sn + 1))) ∧ hi = .bool (anyTo fH (j * (2 * sn + 1))) ∧ Below V5.heap.size V5 wr) (fun _ _ d _ => ((sn : Int) + 1 - intOf d).toNat)
        case atStart => exact ⟨0, Nat.zero_le _, by simp, by rw [Nat.zero_mul]; rfl, by rw [Nat.zero_mul]; rfl, hB0⟩
        case round =>
          clear hB0
          obtain ⟨j, hj, rfl, rfl, rfl, hbw⟩ := hrel
          have k2 := k2H.out.below hbw lk2
          have c0 := k2.cell (i := 0) rfl
          clear k2
          by_cases hltj : j < 2 * sn + 1
          case neg =>
            obtain rfl : j = 2 * sn + 1 := by omega
            have hc : ¬ ((((2 * sn + 1 : Nat) : Int) - (sn : Int)) ≤ (sn : Int)) := by omega
            have hcd : decide ((((2 * sn + 1 : Nat) : Int) - (sn : Int)) ≤ (sn : Int)) = false := decide_eq_false hc
            rw [htaH.out, htbH.out]
            go_wp2_with fail
            go_ret
            exact ⟨rfl, hB.trans (hbw.mono hB.size)⟩
          case pos =>
            have hc : (((j : Int) - (sn : Int)) ≤ (sn : Int)) := by omega
            go_wp2_with fail
            clear c0 hc
            go_loopw [11, 12, 14] (fun lo hi d wr => ∃ k : Nat, k ≤ 2 * sn + 1 ∧ d = .int .i64 ((k : Int) - (sn : Int)) ∧ lo = .bool (anyTo fL (j * (2 * sn + 1) + k)) ∧ hi = .bool (anyTo fH (j * (2 * sn + 1) + k)) ∧ Below V5.heap.size V5 wr) (fun _ _ d _ => ((sn : Int) + 1 - intOf d).toNat)
            case atStart => exact ⟨0, Nat.zero_le _, by simp, rfl, rfl, hbw⟩
            case round =>
              clear hbw
              obtain ⟨k, hk, rfl, rfl, rfl, hbw⟩ := hrel
              have k2 := k2H.out.below hbw lk2
              have c0 := k2.cell (i := 0) rfl
              clear k2
              by_cases hltk : k < 2 * sn + 1
              case neg =>
                obtain rfl : k = 2 * sn + 1 := by omega
                have hc : ¬ ((((2 * sn + 1 : Nat) : Int) - (sn : Int)) ≤ (sn : Int)) := by omega
                have hcd : decide ((((2 * sn + 1 : Nat) : Int) - (sn : Int)) ≤ (sn : Int)) = false := decide_eq_false hc
                rw [show j * (2 * sn + 1) + (2 * sn + 1) = (j + 1) * (2 * sn + 1) by rw [Nat.add_mul]; omega]
                go_wp2_with fail
                go_roundw
                case rel => exact ⟨j + 1, by omega, by rw [show ((j + 1 : Nat) : Int) - (sn : Int) = (j : Int) - (sn : Int) + 1 by omega], rfl, rfl, hbw⟩
                case measure => simp [intOf]; omega
              case pos =>
                have hc : (((k : Int) - (sn : Int)) ≤ (sn : Int)) := by omega
                have hpw0 : ¬ pw = 0 := by omega
                obtain ⟨T, hT⟩ : ∃ T, j * (2 * sn + 1) + k = T := ⟨_, rfl⟩
                have sL := shV_at (pw := pw) (ph := ph) (s := sn) (j := j) (k := k) (xs := xs) (g := gl) (a := -(off + noi)) (i := q) hltk
                have sH := shV_at (pw := pw) (ph := ph) (s := sn) (j := j) (k := k) (xs := xs) (g := gh) (a := off + noi) (i := q) hltk
                rw [hxcH.out, hycH.out, hT] at sL sH
                obtain ⟨rL, hrL⟩ : ∃ z, shV pw ph xs sn gl (-(off + noi)) q T = z := ⟨_, rfl⟩
                obtain ⟨rH, hrH⟩ : ∃ z, shV pw ph xs sn gh (off + noi) q T = z := ⟨_, rfl⟩
                obtain ⟨bL, hbL⟩ : ∃ z, (rL == lov) = z := ⟨_, rfl⟩
                obtain ⟨bH, hbH⟩ : ∃ z, (rH == hiv) = z := ⟨_, rfl⟩
                have nL := Lib.hid (show fL T = bL by rw [← hfLH.out]; show (shV pw ph xs sn gl (-(off + noi)) q T == lov) = bL; rw [hrL]; exact hbL)
                have nH := Lib.hid (show fH T = bH by rw [← hfHH.out]; show (shV pw ph xs sn gh (off + noi) q T == hiv) = bH; rw [hrH]; exact hbH)
                rw [hrL] at sL
                rw [hrH] at sH
                have hch := fun (W' : World) (hb : Below V5.heap.size V5 W') => changed_any pw ph a c n xs hn (by omega) (by omega) (by omega) (by omega) hlenH hbyH ((x : Int) + ((k : Int) - sn)) ((y : Int) + ((j : Int) - sn)) gl (-off - noi) (by omega) (by omega) (by omega) (by omega) g1 (by omega) (by omega) (by omega) rL (Lib.hid (by rw [sL, show -off - noi = -(off + noi) by omega])) W' (later_i riH.out hb)
                have hch2 := fun (W' : World) (hb : Below V5.heap.size V5 W') => changed_any pw ph a c n xs hn (by omega) (by omega) (by omega) (by omega) hlenH hbyH ((x : Int) + ((k : Int) - sn)) ((y : Int) + ((j : Int) - sn)) gh (off + noi) (by omega) (by omega) (by omega) (by omega) (by omega) g4 (by omega) (by omega) rH (Lib.hid sH.symm) W' (later_i riH.out hb)
                have hchL := Lib.hid hch
                have hchH := Lib.hid hch2
                clear hch hch2 sL sH hrL hrH
                have hTH := Lib.hid hT
                rw [hT]
                clear hT
                by_cases hxL : anyTo fL T = true
                case pos =>
                  by_cases hxH : anyTo fH T = true
                  case pos =>
                    rw [hxL, hxH]
                    have hxLH := Lib.hid hxL
                    have hxHH := Lib.hid hxH
                    clear hxL hxH
                    go_wp2_with fail
                    clear c0 hc
                    have hS : Below V5.heap.size V5 wr.drew := hbw.drew
                    refine plain_region (fun W' => Below V5.heap.size V5 W') 32 32 (by kernel_rfl) rfl ?_
                    simp only [Array.replicate_succ, Array.replicate_zero, List.push_toArray, List.nil_append, List.cons_append]
                    refine take_op 0 (v := ?g1xv0) rfl (by kernel_rfl) (fun _ _ _ h => h) (by rfl) hS (fun w' hS' => ?g1xy0) ?g1xz0
                    case g1xy0 =>
                      go_simp
                      rfl
                    simp only [List.setIfInBounds_toArray, List.set_cons_zero, List.set_cons_succ]
                    refine take_op 1 (v := ?g1xv1) rfl (by kernel_rfl) (fun _ _ _ h => h) (by rfl) hS (fun w' hS' => ?g1xy1) ?g1xz1
                    case g1xy1 =>
                      go_simp
                      rfl
                    simp only [List.setIfInBounds_toArray, List.set_cons_zero, List.set_cons_succ]
                    refine pass_op 2 rfl (by kernel_rfl) (fun _ _ _ h => h) (by rfl) hS ?_
                    simp only [List.setIfInBounds_toArray, List.set_cons_zero, List.set_cons_succ]
                    refine pass_op 3 rfl (by kernel_rfl) (fun _ _ _ h => h) (by rfl) hS ?_
                    simp only [List.setIfInBounds_toArray, List.set_cons_zero, List.set_cons_succ]
                    refine pass_op 4 rfl (by kernel_rfl) (fun _ _ _ h => h) (by rfl) hS ?_
                    simp only [List.setIfInBounds_toArray, List.set_cons_zero, List.set_cons_succ]
                    refine pass_op 5 rfl (by kernel_rfl) (fun _ _ _ h => h) (by rfl) hS ?_
                    simp only [List.setIfInBounds_toArray, List.set_cons_zero, List.set_cons_succ]
                    refine pass_op 6 rfl (by kernel_rfl) (fun _ _ _ h => h) (by rfl) hS ?_
                    simp only [List.setIfInBounds_toArray, List.set_cons_zero, List.set_cons_succ]
                    refine pass_op 7 rfl (by kernel_rfl) (fun _ _ _ h => h) (by rfl) hS ?_
                    simp only [List.setIfInBounds_toArray, List.set_cons_zero, List.set_cons_succ]
                    refine pass_op 8 rfl (by kernel_rfl) (fun _ _ _ h => h) (by rfl) hS ?_
                    simp only [List.setIfInBounds_toArray, List.set_cons_zero, List.set_cons_succ]
                    refine pass_op 9 rfl (by kernel_rfl) (fun _ _ _ h => h) (by rfl) hS ?_
                    simp only [List.setIfInBounds_toArray, List.set_cons_zero, List.set_cons_succ]
                    refine pass_op 10 rfl (by kernel_rfl) (fun _ _ _ h => h) (by rfl) hS ?_
                    simp only [List.setIfInBounds_toArray, List.set_cons_zero, List.set_cons_succ]
                    refine pass_op 11 rfl (by kernel_rfl) (fun _ _ _ h => h) (by rfl) hS ?_
                    simp only [List.setIfInBounds_toArray, List.set_cons_zero, List.set_cons_succ]
                    refine pass_op 12 rfl (by kernel_rfl) (fun _ _ _ h => h) (by rfl) hS ?_
                    simp only [List.setIfInBounds_toArray, List.set_cons_zero, List.set_cons_succ]
                    refine pass_op 13 rfl (by kernel_rfl) (fun _ _ _ h => h) (by rfl) hS ?_
                    simp only [List.setIfInBounds_toArray, List.set_cons_zero, List.set_cons_succ]
                    refine pass_op 14 rfl (by kernel_rfl) (fun _ _ _ h => h) (by rfl) hS ?_
                    simp only [List.setIfInBounds_toArray, List.set_cons_zero, List.set_cons_succ]
                    refine pass_op 15 rfl (by kernel_rfl) (fun _ _ _ h => h) (by rfl) hS ?_
                    simp only [List.setIfInBounds_toArray, List.set_cons_zero, List.set_cons_succ]
                    refine pass_op 16 rfl (by kernel_rfl) (fun _ _ _ h => h) (by rfl) hS ?_
                    simp only [List.setIfInBounds_toArray, List.set_cons_zero, List.set_cons_succ]
                    refine pass_op 17 rfl (by kernel_rfl) (fun _ _ _ h => h) (by rfl) hS ?_
                    simp only [List.setIfInBounds_toArray, List.set_cons_zero, List.set_cons_succ]
                    refine pass_op 18 rfl (by kernel_rfl) (fun _ _ _ h => h) (by rfl) hS ?_
                    simp only [List.setIfInBounds_toArray, List.set_cons_zero, List.set_cons_succ]
                    refine pass_op 19 rfl (by kernel_rfl) (fun _ _ _ h => h) (by rfl) hS ?_
                    simp only [List.setIfInBounds_toArray, List.set_cons_zero, List.set_cons_succ]
                    refine pass_op 20 rfl (by kernel_rfl) (fun _ _ _ h => h) (by rfl) hS ?_
                    simp only [List.setIfInBounds_toArray, List.set_cons_zero, List.set_cons_succ]
                    refine pass_op 21 rfl (by kernel_rfl) (fun _ _ _ h => h) (by rfl) hS ?_
                    simp only [List.setIfInBounds_toArray, List.set_cons_zero, List.set_cons_succ]
                    refine pass_op 22 rfl (by kernel_rfl) (fun _ _ _ h => h) (by rfl) hS ?_
                    simp only [List.setIfInBounds_toArray, List.set_cons_zero, List.set_cons_succ]
                    refine pass_op 23 rfl (by kernel_rfl) (fun _ _ _ h => h) (by rfl) hS ?_
                    simp only [List.setIfInBounds_toArray, List.set_cons_zero, List.set_cons_succ]
                    refine pass_op 24 rfl (by kernel_rfl) (fun _ _ _ h => h) (by rfl) hS ?_
                    simp only [List.setIfInBounds_toArray, List.set_cons_zero, List.set_cons_succ]
                    refine pass_op 25 rfl (by kernel_rfl) (fun _ _ _ h => h) (by rfl) hS ?_
                    simp only [List.setIfInBounds_toArray, List.set_cons_zero, List.set_cons_succ]
                    refine pass_op 26 rfl (by kernel_rfl) (fun _ _ _ h => h) (by rfl) hS ?_
                    simp only [List.setIfInBounds_toArray, List.set_cons_zero, List.set_cons_succ]
                    refine pass_op 27 rfl (by kernel_rfl) (fun _ _ _ h => h) (by rfl) hS ?_
                    simp only [List.setIfInBounds_toArray, List.set_cons_zero, List.set_cons_succ]
                    refine pass_op 28 rfl (by kernel_rfl) (fun _ _ _ h => h) (by rfl) hS ?_
                    simp only [List.setIfInBounds_toArray, List.set_cons_zero, List.set_cons_succ]
                    refine pass_op 29 rfl (by kernel_rfl) (fun _ _ _ h => h) (by rfl) hS ?_
                    simp only [List.setIfInBounds_toArray, List.set_cons_zero, List.set_cons_succ]
                    refine take_op 30 (v := .bool true) rfl (by kernel_rfl) (fun _ _ _ h => h) (by rfl) hS (fun w' hS' => ?g1xy30) ?g1xz30
                    case g1xy30 =>
                      clear hS'
                      go_simp
                      try rfl
                    simp only [List.setIfInBounds_toArray, List.set_cons_zero, List.set_cons_succ]
                    refine take_op 31 (v := ?g1xv31) rfl (by kernel_rfl) (fun _ _ _ h => h) (by rfl) hS (fun w' hS' => ?g1xy31) ?g1xz31
                    case g1xy31 =>
                      go_simp
                      rfl
                    simp only [List.setIfInBounds_toArray, List.set_cons_zero, List.set_cons_succ]
                    refine done_ops (by kernel_rfl) ?_
                    go_wp2_with fail
                    have hT : Below V5.heap.size V5 wr.drew.drew := hS.drew
                    refine plain_region (fun W' => Below V5.heap.size V5 W') 31 31 (by kernel_rfl) rfl ?_
                    simp only [Array.replicate_succ, Array.replicate_zero, List.push_toArray, List.nil_append, List.cons_append]
                    refine take_op 0 (v := ?g2xv0) rfl (by kernel_rfl) (fun _ _ _ h => h) (by rfl) hT (fun w' hS' => ?g2xy0) ?g2xz0
                    case g2xy0 =>
                      go_simp
                      rfl
                    simp only [List.setIfInBounds_toArray, List.set_cons_zero, List.set_cons_succ]
                    refine take_op 1 (v := ?g2xv1) rfl (by kernel_rfl) (fun _ _ _ h => h) (by rfl) hT (fun w' hS' => ?g2xy1) ?g2xz1
                    case g2xy1 =>
                      go_simp
                      rfl
                    simp only [List.setIfInBounds_toArray, List.set_cons_zero, List.set_cons_succ]
                    refine pass_op 2 rfl (by kernel_rfl) (fun _ _ _ h => h) (by rfl) hT ?_
                    simp only [List.setIfInBounds_toArray, List.set_cons_zero, List.set_cons_succ]
                    refine pass_op 3 rfl (by kernel_rfl) (fun _ _ _ h => h) (by rfl) hT ?_
                    simp only [List.setIfInBounds_toArray, List.set_cons_zero, List.set_cons_succ]
                    refine pass_op 4 rfl (by kernel_rfl) (fun _ _ _ h => h) (by rfl) hT ?_
                    simp only [List.setIfInBounds_toArray, List.set_cons_zero, List.set_cons_succ]
                    refine pass_op 5 rfl (by kernel_rfl) (fun _ _ _ h => h) (by rfl) hT ?_
                    simp only [List.setIfInBounds_toArray, List.set_cons_zero, List.set_cons_succ]
                    refine pass_op 6 rfl (by kernel_rfl) (fun _ _ _ h => h) (by rfl) hT ?_
                    simp only [List.setIfInBounds_toArray, List.set_cons_zero, List.set_cons_succ]
                    refine pass_op 7 rfl (by kernel_rfl) (fun _ _ _ h => h) (by rfl) hT ?_
                    simp only [List.setIfInBounds_toArray, List.set_cons_zero, List.set_cons_succ]
                    refine pass_op 8 rfl (by kernel_rfl) (fun _ _ _ h => h) (by rfl) hT ?_
                    simp only [List.setIfInBounds_toArray, List.set_cons_zero, List.set_cons_succ]
                    refine pass_op 9 rfl (by kernel_rfl) (fun _ _ _ h => h) (by rfl) hT ?_
                    simp only [List.setIfInBounds_toArray, List.set_cons_zero, List.set_cons_succ]
                    refine pass_op 10 rfl (by kernel_rfl) (fun _ _ _ h => h) (by rfl) hT ?_
                    simp only [List.setIfInBounds_toArray, List.set_cons_zero, List.set_cons_succ]
                    refine pass_op 11 rfl (by kernel_rfl) (fun _ _ _ h => h) (by rfl) hT ?_
                    simp only [List.setIfInBounds_toArray, List.set_cons_zero, List.set_cons_succ]
                    refine pass_op 12 rfl (by kernel_rfl) (fun _ _ _ h => h) (by rfl) hT ?_
                    simp only [List.setIfInBounds_toArray, List.set_cons_zero, List.set_cons_succ]
                    refine pass_op 13 rfl (by kernel_rfl) (fun _ _ _ h => h) (by rfl) hT ?_
                    simp only [List.setIfInBounds_toArray, List.set_cons_zero, List.set_cons_succ]
                    refine pass_op 14 rfl (by kernel_rfl) (fun _ _ _ h => h) (by rfl) hT ?_
                    simp only [List.setIfInBounds_toArray, List.set_cons_zero, List.set_cons_succ]
                    refine pass_op 15 rfl (by kernel_rfl) (fun _ _ _ h => h) (by rfl) hT ?_
                    simp only [List.setIfInBounds_toArray, List.set_cons_zero, List.set_cons_succ]
                    refine pass_op 16 rfl (by kernel_rfl) (fun _ _ _ h => h) (by rfl) hT ?_
                    simp only [List.setIfInBounds_toArray, List.set_cons_zero, List.set_cons_succ]
                    refine pass_op 17 rfl (by kernel_rfl) (fun _ _ _ h => h) (by rfl) hT ?_
                    simp only [List.setIfInBounds_toArray, List.set_cons_zero, List.set_cons_succ]
                    refine pass_op 18 rfl (by kernel_rfl) (fun _ _ _ h => h) (by rfl) hT ?_
                    simp only [List.setIfInBounds_toArray, List.set_cons_zero, List.set_cons_succ]
                    refine pass_op 19 rfl (by kernel_rfl) (fun _ _ _ h => h) (by rfl) hT ?_
                    simp only [List.setIfInBounds_toArray, List.set_cons_zero, List.set_cons_succ]
                    refine pass_op 20 rfl (by kernel_rfl) (fun _ _ _ h => h) (by rfl) hT ?_
                    simp only [List.setIfInBounds_toArray, List.set_cons_zero, List.set_cons_succ]
                    refine pass_op 21 rfl (by kernel_rfl) (fun _ _ _ h => h) (by rfl) hT ?_
                    simp only [List.setIfInBounds_toArray, List.set_cons_zero, List.set_cons_succ]
                    refine pass_op 22 rfl (by kernel_rfl) (fun _ _ _ h => h) (by rfl) hT ?_
                    simp only [List.setIfInBounds_toArray, List.set_cons_zero, List.set_cons_succ]
                    refine pass_op 23 rfl (by kernel_rfl) (fun _ _ _ h => h) (by rfl) hT ?_
                    simp only [List.setIfInBounds_toArray, List.set_cons_zero, List.set_cons_succ]
                    refine pass_op 24 rfl (by kernel_rfl) (fun _ _ _ h => h) (by rfl) hT ?_
                    simp only [List.setIfInBounds_toArray, List.set_cons_zero, List.set_cons_succ]
                    refine pass_op 25 rfl (by kernel_rfl) (fun _ _ _ h => h) (by rfl) hT ?_
                    simp only [List.setIfInBounds_toArray, List.set_cons_zero, List.set_cons_succ]
                    refine pass_op 26 rfl (by kernel_rfl) (fun _ _ _ h => h) (by rfl) hT ?_
                    simp only [List.setIfInBounds_toArray, List.set_cons_zero, List.set_cons_succ]
                    refine pass_op 27 rfl (by kernel_rfl) (fun _ _ _ h => h) (by rfl) hT ?_
                    simp only [List.setIfInBounds_toArray, List.set_cons_zero, List.set_cons_succ]
                    refine pass_op 28 rfl (by kernel_rfl) (fun _ _ _ h => h) (by rfl) hT ?_
                    simp only [List.setIfInBounds_toArray, List.set_cons_zero, List.set_cons_succ]
                    refine take_op 29 (v := .bool true) rfl (by kernel_rfl) (fun _ _ _ h => h) (by rfl) hT (fun w' hS' => ?g2xy29) ?g2xz29
                    case g2xy29 =>
                      clear hS'
                      go_simp
                      try rfl
                    simp only [List.setIfInBounds_toArray, List.set_cons_zero, List.set_cons_succ]
                    refine take_op 30 (v := ?g2xv30) rfl (by kernel_rfl) (fun _ _ _ h => h) (by rfl) hT (fun w' hS' => ?g2xy30) ?g2xz30
                    case g2xy30 =>
                      go_simp
                      rfl
                    simp only [List.setIfInBounds_toArray, List.set_cons_zero, List.set_cons_succ]
                    refine done_ops (by kernel_rfl) ?_
                    go_wp2_with fail
                    go_roundw
                    case rel => exact ⟨k + 1, by omega, by rw [show ((k + 1 : Nat) : Int) - (sn : Int) = (k : Int) - (sn : Int) + 1 by omega], by rw [← Nat.add_assoc, hTH.out, anyTo, hxLH.out]; rfl, by rw [← Nat.add_assoc, hTH.out, anyTo, hxHH.out]; rfl, hT⟩
                    case measure => simp [intOf]; omega
                  case neg =>
                    replace hxH := Bool.eq_false_iff.2 hxH
                    rw [hxL, hxH]
                    have hxLH := Lib.hid hxL
                    have hxHH := Lib.hid hxH
                    clear hxL hxH
                    go_wp2_with fail
                    clear c0 hc
                    have hS : Below V5.heap.size V5 wr.drew := hbw.drew
                    refine plain_region (fun W' => Below V5.heap.size V5 W') 32 32 (by kernel_rfl) rfl ?_
                    simp only [Array.replicate_succ, Array.replicate_zero, List.push_toArray, List.nil_append, List.cons_append]
                    refine take_op 0 (v := ?g3xv0) rfl (by kernel_rfl) (fun _ _ _ h => h) (by rfl) hS (fun w' hS' => ?g3xy0) ?g3xz0
                    case g3xy0 =>
                      go_simp
                      rfl
                    simp only [List.setIfInBounds_toArray, List.set_cons_zero, List.set_cons_succ]
                    refine take_op 1 (v := ?g3xv1) rfl (by kernel_rfl) (fun _ _ _ h => h) (by rfl) hS (fun w' hS' => ?g3xy1) ?g3xz1
                    case g3xy1 =>
                      go_simp
                      rfl
                    simp only [List.setIfInBounds_toArray, List.set_cons_zero, List.set_cons_succ]
                    refine pass_op 2 rfl (by kernel_rfl) (fun _ _ _ h => h) (by rfl) hS ?_
                    simp only [List.setIfInBounds_toArray, List.set_cons_zero, List.set_cons_succ]
                    refine pass_op 3 rfl (by kernel_rfl) (fun _ _ _ h => h) (by rfl) hS ?_
                    simp only [List.setIfInBounds_toArray, List.set_cons_zero, List.set_cons_succ]
                    refine pass_op 4 rfl (by kernel_rfl) (fun _ _ _ h => h) (by rfl) hS ?_
                    simp only [List.setIfInBounds_toArray, List.set_cons_zero, List.set_cons_succ]
                    refine pass_op 5 rfl (by kernel_rfl) (fun _ _ _ h => h) (by rfl) hS ?_
                    simp only [List.setIfInBounds_toArray, List.set_cons_zero, List.set_cons_succ]
                    refine pass_op 6 rfl (by kernel_rfl) (fun _ _ _ h => h) (by rfl) hS ?_
                    simp only [List.setIfInBounds_toArray, List.set_cons_zero, List.set_cons_succ]
                    refine pass_op 7 rfl (by kernel_rfl) (fun _ _ _ h => h) (by rfl) hS ?_
                    simp only [List.setIfInBounds_toArray, List.set_cons_zero, List.set_cons_succ]
                    refine pass_op 8 rfl (by kernel_rfl) (fun _ _ _ h => h) (by rfl) hS ?_
                    simp only [List.setIfInBounds_toArray, List.set_cons_zero, List.set_cons_succ]
                    refine pass_op 9 rfl (by kernel_rfl) (fun _ _ _ h => h) (by rfl) hS ?_
                    simp only [List.setIfInBounds_toArray, List.set_cons_zero, List.set_cons_succ]
                    refine pass_op 10 rfl (by kernel_rfl) (fun _ _ _ h => h) (by rfl) hS ?_
                    simp only [List.setIfInBounds_toArray, List.set_cons_zero, List.set_cons_succ]
                    refine pass_op 11 rfl (by kernel_rfl) (fun _ _ _ h => h) (by rfl) hS ?_
                    simp only [List.setIfInBounds_toArray, List.set_cons_zero, List.set_cons_succ]
                    refine pass_op 12 rfl (by kernel_rfl) (fun _ _ _ h => h) (by rfl) hS ?_
                    simp only [List.setIfInBounds_toArray, List.set_cons_zero, List.set_cons_succ]
                    refine pass_op 13 rfl (by kernel_rfl) (fun _ _ _ h => h) (by rfl) hS ?_
                    simp only [List.setIfInBounds_toArray, List.set_cons_zero, List.set_cons_succ]
                    refine pass_op 14 rfl (by kernel_rfl) (fun _ _ _ h => h) (by rfl) hS ?_
                    simp only [List.setIfInBounds_toArray, List.set_cons_zero, List.set_cons_succ]
                    refine pass_op 15 rfl (by kernel_rfl) (fun _ _ _ h => h) (by rfl) hS ?_
                    simp only [List.setIfInBounds_toArray, List.set_cons_zero, List.set_cons_succ]
                    refine pass_op 16 rfl (by kernel_rfl) (fun _ _ _ h => h) (by rfl) hS ?_
                    simp only [List.setIfInBounds_toArray, List.set_cons_zero, List.set_cons_succ]
                    refine pass_op 17 rfl (by kernel_rfl) (fun _ _ _ h => h) (by rfl) hS ?_
                    simp only [List.setIfInBounds_toArray, List.set_cons_zero, List.set_cons_succ]
                    refine pass_op 18 rfl (by kernel_rfl) (fun _ _ _ h => h) (by rfl) hS ?_
                    simp only [List.setIfInBounds_toArray, List.set_cons_zero, List.set_cons_succ]
                    refine pass_op 19 rfl (by kernel_rfl) (fun _ _ _ h => h) (by rfl) hS ?_
                    simp only [List.setIfInBounds_toArray, List.set_cons_zero, List.set_cons_succ]
                    refine pass_op 20 rfl (by kernel_rfl) (fun _ _ _ h => h) (by rfl) hS ?_
                    simp only [List.setIfInBounds_toArray, List.set_cons_zero, List.set_cons_succ]
                    refine pass_op 21 rfl (by kernel_rfl) (fun _ _ _ h => h) (by rfl) hS ?_
                    simp only [List.setIfInBounds_toArray, List.set_cons_zero, List.set_cons_succ]
                    refine pass_op 22 rfl (by kernel_rfl) (fun _ _ _ h => h) (by rfl) hS ?_
                    simp only [List.setIfInBounds_toArray, List.set_cons_zero, List.set_cons_succ]
                    refine pass_op 23 rfl (by kernel_rfl) (fun _ _ _ h => h) (by rfl) hS ?_
                    simp only [List.setIfInBounds_toArray, List.set_cons_zero, List.set_cons_succ]
                    refine pass_op 24 rfl (by kernel_rfl) (fun _ _ _ h => h) (by rfl) hS ?_
                    simp only [List.setIfInBounds_toArray, List.set_cons_zero, List.set_cons_succ]
                    refine pass_op 25 rfl (by kernel_rfl) (fun _ _ _ h => h) (by rfl) hS ?_
                    simp only [List.setIfInBounds_toArray, List.set_cons_zero, List.set_cons_succ]
                    refine pass_op 26 rfl (by kernel_rfl) (fun _ _ _ h => h) (by rfl) hS ?_
                    simp only [List.setIfInBounds_toArray, List.set_cons_zero, List.set_cons_succ]
                    refine pass_op 27 rfl (by kernel_rfl) (fun _ _ _ h => h) (by rfl) hS ?_
                    simp only [List.setIfInBounds_toArray, List.set_cons_zero, List.set_cons_succ]
                    refine pass_op 28 rfl (by kernel_rfl) (fun _ _ _ h => h) (by rfl) hS ?_
                    simp only [List.setIfInBounds_toArray, List.set_cons_zero, List.set_cons_succ]
                    refine pass_op 29 rfl (by kernel_rfl) (fun _ _ _ h => h) (by rfl) hS ?_
                    simp only [List.setIfInBounds_toArray, List.set_cons_zero, List.set_cons_succ]
                    refine take_op 30 (v := .bool true) rfl (by kernel_rfl) (fun _ _ _ h => h) (by rfl) hS (fun w' hS' => ?g3xy30) ?g3xz30
                    case g3xy30 =>
                      clear hS'
                      go_simp
                      try rfl
                    simp only [List.setIfInBounds_toArray, List.set_cons_zero, List.set_cons_succ]
                    refine take_op 31 (v := ?g3xv31) rfl (by kernel_rfl) (fun _ _ _ h => h) (by rfl) hS (fun w' hS' => ?g3xy31) ?g3xz31
                    case g3xy31 =>
                      go_simp
                      rfl
                    simp only [List.setIfInBounds_toArray, List.set_cons_zero, List.set_cons_succ]
                    refine done_ops (by kernel_rfl) ?_
                    go_wp2_with fail
                    have hT : Below V5.heap.size V5 wr.drew.drew := hS.drew
                    refine plain_region (fun W' => Below V5.heap.size V5 W') 31 31 (by kernel_rfl) rfl ?_
                    simp only [Array.replicate_succ, Array.replicate_zero, List.push_toArray, List.nil_append, List.cons_append]
                    refine take_op 0 (v := ?g4xv0) rfl (by kernel_rfl) (fun _ _ _ h => h) (by rfl) hT (fun w' hS' => ?g4xy0) ?g4xz0
                    case g4xy0 =>
                      go_simp
                      rfl
                    simp only [List.setIfInBounds_toArray, List.set_cons_zero, List.set_cons_succ]
                    refine take_op 1 (v := ?g4xv1) rfl (by kernel_rfl) (fun _ _ _ h => h) (by rfl) hT (fun w' hS' => ?g4xy1) ?g4xz1
                    case g4xy1 =>
                      go_simp
                      rfl
                    simp only [List.setIfInBounds_toArray, List.set_cons_zero, List.set_cons_succ]
                    refine take_op 2 (v := ?g4xv2) rfl (by kernel_rfl) (fun _ _ _ h => h) (by rfl) hT (fun w' hS' => ?g4xy2) ?g4xz2
                    case g4xy2 =>
                      have k1 := k1H.out.below hS' lk1
                      have k2 := k2H.out.below hS' lk2
                      have k3 := k3H.out.below hS' lk3
                      have k4 := k4H.out.below hS' lk4
                      have m0 := k1.cell (i := 0) rfl
                      have t0 := k3.cell (i := 0) rfl
                      have u0 := k4.cell (i := 0) rfl
                      have m1 := k1.cell (i := 1) rfl
                      have t1 := k3.cell (i := 1) rfl
                      have u1 := k4.cell (i := 1) rfl
                      have m2 := k1.cell (i := 2) rfl
                      have t2 := k3.cell (i := 2) rfl
                      have u2 := k4.cell (i := 2) rfl
                      have c0 := k2.cell (i := 0) rfl
                      have c1 := k2.cell (i := 1) rfl
                      have c2 := k2.cell (i := 2) rfl
                      have c3 := k2.cell (i := 3) rfl
                      have c4 := k2.cell (i := 4) rfl
                      have z1 := (hS'.cell (p := ⟨bp, op + q, none⟩) hbp).trans zLH.out
                      have z2 := (hS'.cell (p := ⟨bq, oq + q, none⟩) hbq).trans zHH.out
                      clear hS' k1 k2 k3 k4
                      go_simp
                      rfl
                    simp only [List.setIfInBounds_toArray, List.set_cons_zero, List.set_cons_succ]
                    refine take_op 3 (v := ?g4xv3) rfl (by kernel_rfl) (fun _ _ _ h => h) (by rfl) hT (fun w' hS' => ?g4xy3) ?g4xz3
                    case g4xy3 =>
                      go_simp
                      rfl
                    simp only [List.setIfInBounds_toArray, List.set_cons_zero, List.set_cons_succ]
                    refine take_op 4 (v := ?g4xv4) rfl (by kernel_rfl) (fun _ _ _ h => h) (by rfl) hT (fun w' hS' => ?g4xy4) ?g4xz4
                    case g4xy4 =>
                      go_simp
                      rfl
                    simp only [List.setIfInBounds_toArray, List.set_cons_zero, List.set_cons_succ]
                    refine take_op 5 (v := ?g4xv5) rfl (by kernel_rfl) (fun _ _ _ h => h) (by rfl) hT (fun w' hS' => ?g4xy5) ?g4xz5
                    case g4xy5 =>
                      have k1 := k1H.out.below hS' lk1
                      have k2 := k2H.out.below hS' lk2
                      have k3 := k3H.out.below hS' lk3
                      have k4 := k4H.out.below hS' lk4
                      have m0 := k1.cell (i := 0) rfl
                      have t0 := k3.cell (i := 0) rfl
                      have u0 := k4.cell (i := 0) rfl
                      have m1 := k1.cell (i := 1) rfl
                      have t1 := k3.cell (i := 1) rfl
                      have u1 := k4.cell (i := 1) rfl
                      have m2 := k1.cell (i := 2) rfl
                      have t2 := k3.cell (i := 2) rfl
                      have u2 := k4.cell (i := 2) rfl
                      have c0 := k2.cell (i := 0) rfl
                      have c1 := k2.cell (i := 1) rfl
                      have c2 := k2.cell (i := 2) rfl
                      have c3 := k2.cell (i := 3) rfl
                      have c4 := k2.cell (i := 4) rfl
                      have z1 := (hS'.cell (p := ⟨bp, op + q, none⟩) hbp).trans zLH.out
                      have z2 := (hS'.cell (p := ⟨bq, oq + q, none⟩) hbq).trans zHH.out
                      clear hS' k1 k2 k3 k4
                      go_simp
                      rfl
                    simp only [List.setIfInBounds_toArray, List.set_cons_zero, List.set_cons_succ]
                    refine take_op 6 (v := ?g4xv6) rfl (by kernel_rfl) (fun _ _ _ h => h) (by rfl) hT (fun w' hS' => ?g4xy6) ?g4xz6
                    case g4xy6 =>
                      go_simp
                      try go_ints
                      rfl
                    simp only [List.setIfInBounds_toArray, List.set_cons_zero, List.set_cons_succ]
                    refine take_op 7 (v := ?g4xv7) rfl (by kernel_rfl) (fun _ _ _ h => h) (by rfl) hT (fun w' hS' => ?g4xy7) ?g4xz7
                    case g4xy7 =>
                      go_simp
                      rfl
                    simp only [List.setIfInBounds_toArray, List.set_cons_zero, List.set_cons_succ]
                    refine take_op 8 (v := ?g4xv8) rfl (by kernel_rfl) (fun _ _ _ h => h) (by rfl) hT (fun w' hS' => ?g4xy8) ?g4xz8
                    case g4xy8 =>
                      go_simp
                      try go_ints
                      rfl
                    simp only [List.setIfInBounds_toArray, List.set_cons_zero, List.set_cons_succ]
                    refine take_op 9 (v := ?g4xv9) rfl (by kernel_rfl) (fun _ _ _ h => h) (by rfl) hT (fun w' hS' => ?g4xy9) ?g4xz9
                    case g4xy9 =>
                      go_simp
                      rfl
                    simp only [List.setIfInBounds_toArray, List.set_cons_zero, List.set_cons_succ]
                    refine take_op 10 (v := ?g4xv10) rfl (by kernel_rfl) (fun _ _ _ h => h) (by rfl) hT (fun w' hS' => ?g4xy10) ?g4xz10
                    case g4xy10 =>
                      go_simp
                      rfl
                    simp only [List.setIfInBounds_toArray, List.set_cons_zero, List.set_cons_succ]
                    refine take_op 11 (v := ?g4xv11) rfl (by kernel_rfl) (fun _ _ _ h => h) (by rfl) hT (fun w' hS' => ?g4xy11) ?g4xz11
                    case g4xy11 =>
                      have k1 := k1H.out.below hS' lk1
                      have k2 := k2H.out.below hS' lk2
                      have k3 := k3H.out.below hS' lk3
                      have k4 := k4H.out.below hS' lk4
                      have m0 := k1.cell (i := 0) rfl
                      have t0 := k3.cell (i := 0) rfl
                      have u0 := k4.cell (i := 0) rfl
                      have m1 := k1.cell (i := 1) rfl
                      have t1 := k3.cell (i := 1) rfl
                      have u1 := k4.cell (i := 1) rfl
                      have m2 := k1.cell (i := 2) rfl
                      have t2 := k3.cell (i := 2) rfl
                      have u2 := k4.cell (i := 2) rfl
                      have c0 := k2.cell (i := 0) rfl
                      have c1 := k2.cell (i := 1) rfl
                      have c2 := k2.cell (i := 2) rfl
                      have c3 := k2.cell (i := 3) rfl
                      have c4 := k2.cell (i := 4) rfl
                      have z1 := (hS'.cell (p := ⟨bp, op + q, none⟩) hbp).trans zLH.out
                      have z2 := (hS'.cell (p := ⟨bq, oq + q, none⟩) hbq).trans zHH.out
                      clear hS' k1 k2 k3 k4
                      go_simp
                      rfl
                    simp only [List.setIfInBounds_toArray, List.set_cons_zero, List.set_cons_succ]
                    refine take_op 12 (v := ?g4xv12) rfl (by kernel_rfl) (fun _ _ _ h => h) (by rfl) hT (fun w' hS' => ?g4xy12) ?g4xz12
                    case g4xy12 =>
                      go_simp
                      try go_ints
                      rfl
                    simp only [List.setIfInBounds_toArray, List.set_cons_zero, List.set_cons_succ]
                    refine take_op 13 (v := ?g4xv13) rfl (by kernel_rfl) (fun _ _ _ h => h) (by rfl) hT (fun w' hS' => ?g4xy13) ?g4xz13
                    case g4xy13 =>
                      go_simp
                      rfl
                    simp only [List.setIfInBounds_toArray, List.set_cons_zero, List.set_cons_succ]
                    refine take_op 14 (v := ?g4xv14) rfl (by kernel_rfl) (fun _ _ _ h => h) (by rfl) hT (fun w' hS' => ?g4xy14) ?g4xz14
                    case g4xy14 =>
                      go_simp
                      try go_ints
                      rfl
                    simp only [List.setIfInBounds_toArray, List.set_cons_zero, List.set_cons_succ]
                    refine take_op 15 (v := ?g4xv15) rfl (by kernel_rfl) (fun _ _ _ h => h) (by rfl) hT (fun w' hS' => ?g4xy15) ?g4xz15
                    case g4xy15 =>
                      go_simp
                      rfl
                    simp only [List.setIfInBounds_toArray, List.set_cons_zero, List.set_cons_succ]
                    refine take_op 16 (v := ?g4xv16) rfl (by kernel_rfl) (fun _ _ _ h => h) (by rfl) hT (fun w' hS' => ?g4xy16) ?g4xz16
                    case g4xy16 =>
                      have k1 := k1H.out.below hS' lk1
                      have k2 := k2H.out.below hS' lk2
                      have k3 := k3H.out.below hS' lk3
                      have k4 := k4H.out.below hS' lk4
                      have m0 := k1.cell (i := 0) rfl
                      have t0 := k3.cell (i := 0) rfl
                      have u0 := k4.cell (i := 0) rfl
                      have m1 := k1.cell (i := 1) rfl
                      have t1 := k3.cell (i := 1) rfl
                      have u1 := k4.cell (i := 1) rfl
                      have m2 := k1.cell (i := 2) rfl
                      have t2 := k3.cell (i := 2) rfl
                      have u2 := k4.cell (i := 2) rfl
                      have c0 := k2.cell (i := 0) rfl
                      have c1 := k2.cell (i := 1) rfl
                      have c2 := k2.cell (i := 2) rfl
                      have c3 := k2.cell (i := 3) rfl
                      have c4 := k2.cell (i := 4) rfl
                      have z1 := (hS'.cell (p := ⟨bp, op + q, none⟩) hbp).trans zLH.out
                      have z2 := (hS'.cell (p := ⟨bq, oq + q, none⟩) hbq).trans zHH.out
                      clear hS' k1 k2 k3 k4
                      go_simp
                      rfl
                    simp only [List.setIfInBounds_toArray, List.set_cons_zero, List.set_cons_succ]
                    refine take_op 17 (v := ?g4xv17) rfl (by kernel_rfl) (fun _ _ _ h => h) (by rfl) hT (fun w' hS' => ?g4xy17) ?g4xz17
                    case g4xy17 =>
                      go_simp
                      rfl
                    simp only [List.setIfInBounds_toArray, List.set_cons_zero, List.set_cons_succ]
                    refine take_op 18 (v := ?g4xv18) rfl (by kernel_rfl) (fun _ _ _ h => h) (by rfl) hT (fun w' hS' => ?g4xy18) ?g4xz18
                    case g4xy18 =>
                      have k1 := k1H.out.below hS' lk1
                      have k2 := k2H.out.below hS' lk2
                      have k3 := k3H.out.below hS' lk3
                      have k4 := k4H.out.below hS' lk4
                      have m0 := k1.cell (i := 0) rfl
                      have t0 := k3.cell (i := 0) rfl
                      have u0 := k4.cell (i := 0) rfl
                      have m1 := k1.cell (i := 1) rfl
                      have t1 := k3.cell (i := 1) rfl
                      have u1 := k4.cell (i := 1) rfl
                      have m2 := k1.cell (i := 2) rfl
                      have t2 := k3.cell (i := 2) rfl
                      have u2 := k4.cell (i := 2) rfl
                      have c0 := k2.cell (i := 0) rfl
                      have c1 := k2.cell (i := 1) rfl
                      have c2 := k2.cell (i := 2) rfl
                      have c3 := k2.cell (i := 3) rfl
                      have c4 := k2.cell (i := 4) rfl
                      have z1 := (hS'.cell (p := ⟨bp, op + q, none⟩) hbp).trans zLH.out
                      have z2 := (hS'.cell (p := ⟨bq, oq + q, none⟩) hbq).trans zHH.out
                      clear hS' k1 k2 k3 k4
                      go_simp
                      rfl
                    simp only [List.setIfInBounds_toArray, List.set_cons_zero, List.set_cons_succ]
                    refine take_op 19 (v := ?g4xv19) rfl (by kernel_rfl) (fun _ _ _ h => h) (by rfl) hT (fun w' hS' => ?g4xy19) ?g4xz19
                    case g4xy19 =>
                      go_simp
                      rfl
                    simp only [List.setIfInBounds_toArray, List.set_cons_zero, List.set_cons_succ]
                    refine take_op 20 (v := ?g4xv20) rfl (by kernel_rfl) (fun _ _ _ h => h) (by rfl) hT (fun w' hS' => ?g4xy20) ?g4xz20
                    case g4xy20 =>
                      have k1 := k1H.out.below hS' lk1
                      have k2 := k2H.out.below hS' lk2
                      have k3 := k3H.out.below hS' lk3
                      have k4 := k4H.out.below hS' lk4
                      have m0 := k1.cell (i := 0) rfl
                      have t0 := k3.cell (i := 0) rfl
                      have u0 := k4.cell (i := 0) rfl
                      have m1 := k1.cell (i := 1) rfl
                      have t1 := k3.cell (i := 1) rfl
                      have u1 := k4.cell (i := 1) rfl
                      have m2 := k1.cell (i := 2) rfl
                      have t2 := k3.cell (i := 2) rfl
                      have u2 := k4.cell (i := 2) rfl
                      have c0 := k2.cell (i := 0) rfl
                      have c1 := k2.cell (i := 1) rfl
                      have c2 := k2.cell (i := 2) rfl
                      have c3 := k2.cell (i := 3) rfl
                      have c4 := k2.cell (i := 4) rfl
                      have z1 := (hS'.cell (p := ⟨bp, op + q, none⟩) hbp).trans zLH.out
                      have z2 := (hS'.cell (p := ⟨bq, oq + q, none⟩) hbq).trans zHH.out
                      clear hS' k1 k2 k3 k4
                      go_simp
                      rfl
                    simp only [List.setIfInBounds_toArray, List.set_cons_zero, List.set_cons_succ]
                    refine take_op 21 (v := ?g4xv21) rfl (by kernel_rfl) (fun _ _ _ h => h) (by rfl) hT (fun w' hS' => ?g4xy21) ?g4xz21
                    case g4xy21 =>
                      go_simp
                      try go_ints
                      rfl
                    simp only [List.setIfInBounds_toArray, List.set_cons_zero, List.set_cons_succ]
                    refine take_op 23 (v := ?g4xv23) rfl (by kernel_rfl) (fun _ _ _ h => h) (by rfl) hT (fun w' hS' => ?g4xy23) ?g4xz23
                    case g4xy23 =>
                      go_simp
                      rfl
                    simp only [List.setIfInBounds_toArray, List.set_cons_zero, List.set_cons_succ]
                    refine take_op 24 (v := ?g4xv24) rfl (by kernel_rfl) (fun _ _ _ h => h) (by rfl) hT (fun w' hS' => ?g4xy24) ?g4xz24
                    case g4xy24 =>
                      have k1 := k1H.out.below hS' lk1
                      have k2 := k2H.out.below hS' lk2
                      have k3 := k3H.out.below hS' lk3
                      have k4 := k4H.out.below hS' lk4
                      have m0 := k1.cell (i := 0) rfl
                      have t0 := k3.cell (i := 0) rfl
                      have u0 := k4.cell (i := 0) rfl
                      have m1 := k1.cell (i := 1) rfl
                      have t1 := k3.cell (i := 1) rfl
                      have u1 := k4.cell (i := 1) rfl
                      have m2 := k1.cell (i := 2) rfl
                      have t2 := k3.cell (i := 2) rfl
                      have u2 := k4.cell (i := 2) rfl
                      have c0 := k2.cell (i := 0) rfl
                      have c1 := k2.cell (i := 1) rfl
                      have c2 := k2.cell (i := 2) rfl
                      have c3 := k2.cell (i := 3) rfl
                      have c4 := k2.cell (i := 4) rfl
                      have z1 := (hS'.cell (p := ⟨bp, op + q, none⟩) hbp).trans zLH.out
                      have z2 := (hS'.cell (p := ⟨bq, oq + q, none⟩) hbq).trans zHH.out
                      clear hS' k1 k2 k3 k4
                      go_simp
                      rfl
                    simp only [List.setIfInBounds_toArray, List.set_cons_zero, List.set_cons_succ]
                    refine take_op 25 (v := ?g4xv25) rfl (by kernel_rfl) (fun _ _ _ h => h) (by rfl) hT (fun w' hS' => ?g4xy25) ?g4xz25
                    case g4xy25 =>
                      go_simp
                      rfl
                    simp only [List.setIfInBounds_toArray, List.set_cons_zero, List.set_cons_succ]
                    refine take_op 26 (v := ?g4xv26) rfl (by kernel_rfl) (fun _ _ _ h => h) (by rfl) hT (fun w' hS' => ?g4xy26) ?g4xz26
                    case g4xy26 =>
                      go_simp
                      try go_ints
                      first
                      | rfl
                      | (rw [if_pos (by omega)]; done)
                      | rw [if_pos ⟨by omega, by omega⟩]
                    simp only [List.setIfInBounds_toArray, List.set_cons_zero, List.set_cons_succ]
                    refine take_op 27 (v := ?g4xv27) rfl (by kernel_rfl) (fun _ _ _ h => h) (by rfl) hT (fun w' hS' => ?g4xy27) ?g4xz27
                    case g4xy27 =>
                      have k1 := k1H.out.below hS' lk1
                      have k2 := k2H.out.below hS' lk2
                      have k3 := k3H.out.below hS' lk3
                      have k4 := k4H.out.below hS' lk4
                      have m0 := k1.cell (i := 0) rfl
                      have t0 := k3.cell (i := 0) rfl
                      have u0 := k4.cell (i := 0) rfl
                      have m1 := k1.cell (i := 1) rfl
                      have t1 := k3.cell (i := 1) rfl
                      have u1 := k4.cell (i := 1) rfl
                      have m2 := k1.cell (i := 2) rfl
                      have t2 := k3.cell (i := 2) rfl
                      have u2 := k4.cell (i := 2) rfl
                      have c0 := k2.cell (i := 0) rfl
                      have c1 := k2.cell (i := 1) rfl
                      have c2 := k2.cell (i := 2) rfl
                      have c3 := k2.cell (i := 3) rfl
                      have c4 := k2.cell (i := 4) rfl
                      have z1 := (hS'.cell (p := ⟨bp, op + q, none⟩) hbp).trans zLH.out
                      have z2 := (hS'.cell (p := ⟨bq, oq + q, none⟩) hbq).trans zHH.out
                      clear hS' k1 k2 k3 k4
                      go_simp
                      rfl
                    simp only [List.setIfInBounds_toArray, List.set_cons_zero, List.set_cons_succ]
                    refine step_op 22 (by kernel_rfl) rfl (fun K hK => ?_)
                    rw [if_pos (by rfl)]
                    go_simp
                    refine (hchH.out _ hT).mono ?_
                    rintro e Y2 ⟨rfl, hb1⟩
                    have hTc : Below V5.heap.size V5 Y2 := hT.trans (hb1.mono hT.size)
                    clear hb1
                    refine hK.out _ _ (fun h => hTc) ?_
                    clear hK K
                    try simp only [Act.put, List.setIfInBounds_toArray, List.set_cons_zero, List.set_cons_succ]
                    refine take_op 28 (v := .bool bH) rfl (by kernel_rfl) (fun _ _ _ h => h) (by rfl) hTc (fun w' hS' => ?g4xy28) ?g4xz28
                    case g4xy28 =>
                      clear hS'
                      go_simp
                      try simp only [hbL, hbH]
                      try rfl
                    simp only [List.setIfInBounds_toArray, List.set_cons_zero, List.set_cons_succ]
                    refine take_op 29 (v := .bool bH) rfl (by kernel_rfl) (fun _ _ _ h => h) (by rfl) hTc (fun w' hS' => ?g4xy29) ?g4xz29
                    case g4xy29 =>
                      clear hS'
                      go_simp
                      try simp only [hbL, hbH]
                      try rfl
                    simp only [List.setIfInBounds_toArray, List.set_cons_zero, List.set_cons_succ]
                    refine take_op 30 (v := ?g4xv30) rfl (by kernel_rfl) (fun _ _ _ h => h) (by rfl) hTc (fun w' hS' => ?g4xy30) ?g4xz30
                    case g4xy30 =>
                      go_simp
                      rfl
                    simp only [List.setIfInBounds_toArray, List.set_cons_zero, List.set_cons_succ]
                    refine done_ops (by kernel_rfl) ?_
                    go_wp2_with fail
                    go_roundw
                    case rel => exact ⟨k + 1, by omega, by rw [show ((k + 1 : Nat) : Int) - (sn : Int) = (k : Int) - (sn : Int) + 1 by omega], by rw [← Nat.add_assoc, hTH.out, anyTo, hxLH.out]; rfl, by rw [← Nat.add_assoc, hTH.out, anyTo, hxHH.out, nH.out]; rfl, hTc⟩
                    case measure => simp [intOf]; omega
                case neg =>
                  replace hxL := Bool.eq_false_iff.2 hxL
                  by_cases hxH : anyTo fH T = true
                  case pos =>
                    rw [hxL, hxH]
                    have hxLH := Lib.hid hxL
                    have hxHH := Lib.hid hxH
                    clear hxL hxH
                    go_wp2_with fail
                    clear c0 hc
                    have hS : Below V5.heap.size V5 wr.drew := hbw.drew
                    refine plain_region (fun W' => Below V5.heap.size V5 W') 32 32 (by kernel_rfl) rfl ?_
                    simp only [Array.replicate_succ, Array.replicate_zero, List.push_toArray, List.nil_append, List.cons_append]
                    refine take_op 0 (v := ?g5xv0) rfl (by kernel_rfl) (fun _ _ _ h => h) (by rfl) hS (fun w' hS' => ?g5xy0) ?g5xz0
                    case g5xy0 =>
                      go_simp
                      rfl
                    simp only [List.setIfInBounds_toArray, List.set_cons_zero, List.set_cons_succ]
                    refine take_op 1 (v := ?g5xv1) rfl (by kernel_rfl) (fun _ _ _ h => h) (by rfl) hS (fun w' hS' => ?g5xy1) ?g5xz1
                    case g5xy1 =>
                      go_simp
                      rfl
                    simp only [List.setIfInBounds_toArray, List.set_cons_zero, List.set_cons_succ]
                    refine take_op 2 (v := ?g5xv2) rfl (by kernel_rfl) (fun _ _ _ h => h) (by rfl) hS (fun w' hS' => ?g5xy2) ?g5xz2
                    case g5xy2 =>
                      have k1 := k1H.out.below hS' lk1
                      have k2 := k2H.out.below hS' lk2
                      have k3 := k3H.out.below hS' lk3
                      have k4 := k4H.out.below hS' lk4
                      have m0 := k1.cell (i := 0) rfl
                      have t0 := k3.cell (i := 0) rfl
                      have u0 := k4.cell (i := 0) rfl
                      have m1 := k1.cell (i := 1) rfl
                      have t1 := k3.cell (i := 1) rfl
                      have u1 := k4.cell (i := 1) rfl
                      have m2 := k1.cell (i := 2) rfl
                      have t2 := k3.cell (i := 2) rfl
                      have u2 := k4.cell (i := 2) rfl
                      have c0 := k2.cell (i := 0) rfl
                      have c1 := k2.cell (i := 1) rfl
                      have c2 := k2.cell (i := 2) rfl
                      have c3 := k2.cell (i := 3) rfl
                      have c4 := k2.cell (i := 4) rfl
                      have z1 := (hS'.cell (p := ⟨bp, op + q, none⟩) hbp).trans zLH.out
                      have z2 := (hS'.cell (p := ⟨bq, oq + q, none⟩) hbq).trans zHH.out
                      clear hS' k1 k2 k3 k4
                      go_simp
                      rfl
                    simp only [List.setIfInBounds_toArray, List.set_cons_zero, List.set_cons_succ]
                    refine take_op 3 (v := ?g5xv3) rfl (by kernel_rfl) (fun _ _ _ h => h) (by rfl) hS (fun w' hS' => ?g5xy3) ?g5xz3
                    case g5xy3 =>
                      go_simp
                      rfl
                    simp only [List.setIfInBounds_toArray, List.set_cons_zero, List.set_cons_succ]
                    refine take_op 4 (v := ?g5xv4) rfl (by kernel_rfl) (fun _ _ _ h => h) (by rfl) hS (fun w' hS' => ?g5xy4) ?g5xz4
                    case g5xy4 =>
                      go_simp
                      rfl
                    simp only [List.setIfInBounds_toArray, List.set_cons_zero, List.set_cons_succ]
                    refine take_op 5 (v := ?g5xv5) rfl (by kernel_rfl) (fun _ _ _ h => h) (by rfl) hS (fun w' hS' => ?g5xy5) ?g5xz5
                    case g5xy5 =>
                      have k1 := k1H.out.below hS' lk1
                      have k2 := k2H.out.below hS' lk2
                      have k3 := k3H.out.below hS' lk3
                      have k4 := k4H.out.below hS' lk4
                      have m0 := k1.cell (i := 0) rfl
                      have t0 := k3.cell (i := 0) rfl
                      have u0 := k4.cell (i := 0) rfl
                      have m1 := k1.cell (i := 1) rfl
                      have t1 := k3.cell (i := 1) rfl
                      have u1 := k4.cell (i := 1) rfl
                      have m2 := k1.cell (i := 2) rfl
                      have t2 := k3.cell (i := 2) rfl
                      have u2 := k4.cell (i := 2) rfl
                      have c0 := k2.cell (i := 0) rfl
                      have c1 := k2.cell (i := 1) rfl
                      have c2 := k2.cell (i := 2) rfl
                      have c3 := k2.cell (i := 3) rfl
                      have c4 := k2.cell (i := 4) rfl
                      have z1 := (hS'.cell (p := ⟨bp, op + q, none⟩) hbp).trans zLH.out
                      have z2 := (hS'.cell (p := ⟨bq, oq + q, none⟩) hbq).trans zHH.out
                      clear hS' k1 k2 k3 k4
                      go_simp
                      rfl
                    simp only [List.setIfInBounds_toArray, List.set_cons_zero, List.set_cons_succ]
                    refine take_op 6 (v := ?g5xv6) rfl (by kernel_rfl) (fun _ _ _ h => h) (by rfl) hS (fun w' hS' => ?g5xy6) ?g5xz6
                    case g5xy6 =>
                      go_simp
                      try go_ints
                      rfl
                    simp only [List.setIfInBounds_toArray, List.set_cons_zero, List.set_cons_succ]
                    refine take_op 7 (v := ?g5xv7) rfl (by kernel_rfl) (fun _ _ _ h => h) (by rfl) hS (fun w' hS' => ?g5xy7) ?g5xz7
                    case g5xy7 =>
                      go_simp
                      rfl
                    simp only [List.setIfInBounds_toArray, List.set_cons_zero, List.set_cons_succ]
                    refine take_op 8 (v := ?g5xv8) rfl (by kernel_rfl) (fun _ _ _ h => h) (by rfl) hS (fun w' hS' => ?g5xy8) ?g5xz8
                    case g5xy8 =>
                      go_simp
                      try go_ints
                      rfl
                    simp only [List.setIfInBounds_toArray, List.set_cons_zero, List.set_cons_succ]
                    refine take_op 9 (v := ?g5xv9) rfl (by kernel_rfl) (fun _ _ _ h => h) (by rfl) hS (fun w' hS' => ?g5xy9) ?g5xz9
                    case g5xy9 =>
                      go_simp
                      rfl
                    simp only [List.setIfInBounds_toArray, List.set_cons_zero, List.set_cons_succ]
                    refine take_op 10 (v := ?g5xv10) rfl (by kernel_rfl) (fun _ _ _ h => h) (by rfl) hS (fun w' hS' => ?g5xy10) ?g5xz10
                    case g5xy10 =>
                      go_simp
                      rfl
                    simp only [List.setIfInBounds_toArray, List.set_cons_zero, List.set_cons_succ]
                    refine take_op 11 (v := ?g5xv11) rfl (by kernel_rfl) (fun _ _ _ h => h) (by rfl) hS (fun w' hS' => ?g5xy11) ?g5xz11
                    case g5xy11 =>
                      have k1 := k1H.out.below hS' lk1
                      have k2 := k2H.out.below hS' lk2
                      have k3 := k3H.out.below hS' lk3
                      have k4 := k4H.out.below hS' lk4
                      have m0 := k1.cell (i := 0) rfl
                      have t0 := k3.cell (i := 0) rfl
                      have u0 := k4.cell (i := 0) rfl
                      have m1 := k1.cell (i := 1) rfl
                      have t1 := k3.cell (i := 1) rfl
                      have u1 := k4.cell (i := 1) rfl
                      have m2 := k1.cell (i := 2) rfl
                      have t2 := k3.cell (i := 2) rfl
                      have u2 := k4.cell (i := 2) rfl
                      have c0 := k2.cell (i := 0) rfl
                      have c1 := k2.cell (i := 1) rfl
                      have c2 := k2.cell (i := 2) rfl
                      have c3 := k2.cell (i := 3) rfl
                      have c4 := k2.cell (i := 4) rfl
                      have z1 := (hS'.cell (p := ⟨bp, op + q, none⟩) hbp).trans zLH.out
                      have z2 := (hS'.cell (p := ⟨bq, oq + q, none⟩) hbq).trans zHH.out
                      clear hS' k1 k2 k3 k4
                      go_simp
                      rfl
                    simp only [List.setIfInBounds_toArray, List.set_cons_zero, List.set_cons_succ]
                    refine take_op 12 (v := ?g5xv12) rfl (by kernel_rfl) (fun _ _ _ h => h) (by rfl) hS (fun w' hS' => ?g5xy12) ?g5xz12
                    case g5xy12 =>
                      go_simp
                      try go_ints
                      rfl
                    simp only [List.setIfInBounds_toArray, List.set_cons_zero, List.set_cons_succ]
                    refine take_op 13 (v := ?g5xv13) rfl (by kernel_rfl) (fun _ _ _ h => h) (by rfl) hS (fun w' hS' => ?g5xy13) ?g5xz13
                    case g5xy13 =>
                      go_simp
                      rfl
                    simp only [List.setIfInBounds_toArray, List.set_cons_zero, List.set_cons_succ]
                    refine take_op 14 (v := ?g5xv14) rfl (by kernel_rfl) (fun _ _ _ h => h) (by rfl) hS (fun w' hS' => ?g5xy14) ?g5xz14
                    case g5xy14 =>
                      go_simp
                      try go_ints
                      rfl
                    simp only [List.setIfInBounds_toArray, List.set_cons_zero, List.set_cons_succ]
                    refine take_op 15 (v := ?g5xv15) rfl (by kernel_rfl) (fun _ _ _ h => h) (by rfl) hS (fun w' hS' => ?g5xy15) ?g5xz15
                    case g5xy15 =>
                      go_simp
                      rfl
                    simp only [List.setIfInBounds_toArray, List.set_cons_zero, List.set_cons_succ]
                    refine take_op 16 (v := ?g5xv16) rfl (by kernel_rfl) (fun _ _ _ h => h) (by rfl) hS (fun w' hS' => ?g5xy16) ?g5xz16
                    case g5xy16 =>
                      have k1 := k1H.out.below hS' lk1
                      have k2 := k2H.out.below hS' lk2
                      have k3 := k3H.out.below hS' lk3
                      have k4 := k4H.out.below hS' lk4
                      have m0 := k1.cell (i := 0) rfl
                      have t0 := k3.cell (i := 0) rfl
                      have u0 := k4.cell (i := 0) rfl
                      have m1 := k1.cell (i := 1) rfl
                      have t1 := k3.cell (i := 1) rfl
                      have u1 := k4.cell (i := 1) rfl
                      have m2 := k1.cell (i := 2) rfl
                      have t2 := k3.cell (i := 2) rfl
                      have u2 := k4.cell (i := 2) rfl
                      have c0 := k2.cell (i := 0) rfl
                      have c1 := k2.cell (i := 1) rfl
                      have c2 := k2.cell (i := 2) rfl
                      have c3 := k2.cell (i := 3) rfl
                      have c4 := k2.cell (i := 4) rfl
                      have z1 := (hS'.cell (p := ⟨bp, op + q, none⟩) hbp).trans zLH.out
                      have z2 := (hS'.cell (p := ⟨bq, oq + q, none⟩) hbq).trans zHH.out
                      clear hS' k1 k2 k3 k4
                      go_simp
                      rfl
                    simp only [List.setIfInBounds_toArray, List.set_cons_zero, List.set_cons_succ]
                    refine take_op 17 (v := ?g5xv17) rfl (by kernel_rfl) (fun _ _ _ h => h) (by rfl) hS (fun w' hS' => ?g5xy17) ?g5xz17
                    case g5xy17 =>
                      go_simp
                      rfl
                    simp only [List.setIfInBounds_toArray, List.set_cons_zero, List.set_cons_succ]
                    refine take_op 18 (v := ?g5xv18) rfl (by kernel_rfl) (fun _ _ _ h => h) (by rfl) hS (fun w' hS' => ?g5xy18) ?g5xz18
                    case g5xy18 =>
                      have k1 := k1H.out.below hS' lk1
                      have k2 := k2H.out.below hS' lk2
                      have k3 := k3H.out.below hS' lk3
                      have k4 := k4H.out.below hS' lk4
                      have m0 := k1.cell (i := 0) rfl
                      have t0 := k3.cell (i := 0) rfl
                      have u0 := k4.cell (i := 0) rfl
                      have m1 := k1.cell (i := 1) rfl
                      have t1 := k3.cell (i := 1) rfl
                      have u1 := k4.cell (i := 1) rfl
                      have m2 := k1.cell (i := 2) rfl
                      have t2 := k3.cell (i := 2) rfl
                      have u2 := k4.cell (i := 2) rfl
                      have c0 := k2.cell (i := 0) rfl
                      have c1 := k2.cell (i := 1) rfl
                      have c2 := k2.cell (i := 2) rfl
                      have c3 := k2.cell (i := 3) rfl
                      have c4 := k2.cell (i := 4) rfl
                      have z1 := (hS'.cell (p := ⟨bp, op + q, none⟩) hbp).trans zLH.out
                      have z2 := (hS'.cell (p := ⟨bq, oq + q, none⟩) hbq).trans zHH.out
                      clear hS' k1 k2 k3 k4
                      go_simp
                      rfl
                    simp only [List.setIfInBounds_toArray, List.set_cons_zero, List.set_cons_succ]
                    refine take_op 19 (v := ?g5xv19) rfl (by kernel_rfl) (fun _ _ _ h => h) (by rfl) hS (fun w' hS' => ?g5xy19) ?g5xz19
                    case g5xy19 =>
                      go_simp
                      try go_ints
                      rfl
                    simp only [List.setIfInBounds_toArray, List.set_cons_zero, List.set_cons_succ]
                    refine take_op 20 (v := ?g5xv20) rfl (by kernel_rfl) (fun _ _ _ h => h) (by rfl) hS (fun w' hS' => ?g5xy20) ?g5xz20
                    case g5xy20 =>
                      go_simp
                      rfl
                    simp only [List.setIfInBounds_toArray, List.set_cons_zero, List.set_cons_succ]
                    refine take_op 21 (v := ?g5xv21) rfl (by kernel_rfl) (fun _ _ _ h => h) (by rfl) hS (fun w' hS' => ?g5xy21) ?g5xz21
                    case g5xy21 =>
                      have k1 := k1H.out.below hS' lk1
                      have k2 := k2H.out.below hS' lk2
                      have k3 := k3H.out.below hS' lk3
                      have k4 := k4H.out.below hS' lk4
                      have m0 := k1.cell (i := 0) rfl
                      have t0 := k3.cell (i := 0) rfl
                      have u0 := k4.cell (i := 0) rfl
                      have m1 := k1.cell (i := 1) rfl
                      have t1 := k3.cell (i := 1) rfl
                      have u1 := k4.cell (i := 1) rfl
                      have m2 := k1.cell (i := 2) rfl
                      have t2 := k3.cell (i := 2) rfl
                      have u2 := k4.cell (i := 2) rfl
                      have c0 := k2.cell (i := 0) rfl
                      have c1 := k2.cell (i := 1) rfl
                      have c2 := k2.cell (i := 2) rfl
                      have c3 := k2.cell (i := 3) rfl
                      have c4 := k2.cell (i := 4) rfl
                      have z1 := (hS'.cell (p := ⟨bp, op + q, none⟩) hbp).trans zLH.out
                      have z2 := (hS'.cell (p := ⟨bq, oq + q, none⟩) hbq).trans zHH.out
                      clear hS' k1 k2 k3 k4
                      go_simp
                      rfl
                    simp only [List.setIfInBounds_toArray, List.set_cons_zero, List.set_cons_succ]
                    refine take_op 22 (v := ?g5xv22) rfl (by kernel_rfl) (fun _ _ _ h => h) (by rfl) hS (fun w' hS' => ?g5xy22) ?g5xz22
                    case g5xy22 =>
                      go_simp
                      try go_ints
                      rfl
                    simp only [List.setIfInBounds_toArray, List.set_cons_zero, List.set_cons_succ]
                    refine take_op 24 (v := ?g5xv24) rfl (by kernel_rfl) (fun _ _ _ h => h) (by rfl) hS (fun w' hS' => ?g5xy24) ?g5xz24
                    case g5xy24 =>
                      go_simp
                      rfl
                    simp only [List.setIfInBounds_toArray, List.set_cons_zero, List.set_cons_succ]
                    refine take_op 25 (v := ?g5xv25) rfl (by kernel_rfl) (fun _ _ _ h => h) (by rfl) hS (fun w' hS' => ?g5xy25) ?g5xz25
                    case g5xy25 =>
                      have k1 := k1H.out.below hS' lk1
                      have k2 := k2H.out.below hS' lk2
                      have k3 := k3H.out.below hS' lk3
                      have k4 := k4H.out.below hS' lk4
                      have m0 := k1.cell (i := 0) rfl
                      have t0 := k3.cell (i := 0) rfl
                      have u0 := k4.cell (i := 0) rfl
                      have m1 := k1.cell (i := 1) rfl
                      have t1 := k3.cell (i := 1) rfl
                      have u1 := k4.cell (i := 1) rfl
                      have m2 := k1.cell (i := 2) rfl
                      have t2 := k3.cell (i := 2) rfl
                      have u2 := k4.cell (i := 2) rfl
                      have c0 := k2.cell (i := 0) rfl
                      have c1 := k2.cell (i := 1) rfl
                      have c2 := k2.cell (i := 2) rfl
                      have c3 := k2.cell (i := 3) rfl
                      have c4 := k2.cell (i := 4) rfl
                      have z1 := (hS'.cell (p := ⟨bp, op + q, none⟩) hbp).trans zLH.out
                      have z2 := (hS'.cell (p := ⟨bq, oq + q, none⟩) hbq).trans zHH.out
                      clear hS' k1 k2 k3 k4
                      go_simp
                      rfl
                    simp only [List.setIfInBounds_toArray, List.set_cons_zero, List.set_cons_succ]
                    refine take_op 26 (v := ?g5xv26) rfl (by kernel_rfl) (fun _ _ _ h => h) (by rfl) hS (fun w' hS' => ?g5xy26) ?g5xz26
                    case g5xy26 =>
                      go_simp
                      rfl
                    simp only [List.setIfInBounds_toArray, List.set_cons_zero, List.set_cons_succ]
                    refine take_op 27 (v := ?g5xv27) rfl (by kernel_rfl) (fun _ _ _ h => h) (by rfl) hS (fun w' hS' => ?g5xy27) ?g5xz27
                    case g5xy27 =>
                      go_simp
                      try go_ints
                      first
                      | rfl
                      | (rw [if_pos (by omega)]; done)
                      | rw [if_pos ⟨by omega, by omega⟩]
                    simp only [List.setIfInBounds_toArray, List.set_cons_zero, List.set_cons_succ]
                    refine take_op 28 (v := ?g5xv28) rfl (by kernel_rfl) (fun _ _ _ h => h) (by rfl) hS (fun w' hS' => ?g5xy28) ?g5xz28
                    case g5xy28 =>
                      have k1 := k1H.out.below hS' lk1
                      have k2 := k2H.out.below hS' lk2
                      have k3 := k3H.out.below hS' lk3
                      have k4 := k4H.out.below hS' lk4
                      have m0 := k1.cell (i := 0) rfl
                      have t0 := k3.cell (i := 0) rfl
                      have u0 := k4.cell (i := 0) rfl
                      have m1 := k1.cell (i := 1) rfl
                      have t1 := k3.cell (i := 1) rfl
                      have u1 := k4.cell (i := 1) rfl
                      have m2 := k1.cell (i := 2) rfl
                      have t2 := k3.cell (i := 2) rfl
                      have u2 := k4.cell (i := 2) rfl
                      have c0 := k2.cell (i := 0) rfl
                      have c1 := k2.cell (i := 1) rfl
                      have c2 := k2.cell (i := 2) rfl
                      have c3 := k2.cell (i := 3) rfl
                      have c4 := k2.cell (i := 4) rfl
                      have z1 := (hS'.cell (p := ⟨bp, op + q, none⟩) hbp).trans zLH.out
                      have z2 := (hS'.cell (p := ⟨bq, oq + q, none⟩) hbq).trans zHH.out
                      clear hS' k1 k2 k3 k4
                      go_simp
                      rfl
                    simp only [List.setIfInBounds_toArray, List.set_cons_zero, List.set_cons_succ]
                    refine step_op 23 (by kernel_rfl) rfl (fun K hK => ?_)
                    rw [if_pos (by rfl)]
                    go_simp
                    refine (hchL.out _ hS).mono ?_
                    rintro e Y1 ⟨rfl, hb1⟩
                    have hSc : Below V5.heap.size V5 Y1 := hS.trans (hb1.mono hS.size)
                    clear hb1
                    refine hK.out _ _ (fun h => hSc) ?_
                    clear hK K
                    try simp only [Act.put, List.setIfInBounds_toArray, List.set_cons_zero, List.set_cons_succ]
                    refine take_op 29 (v := .bool bL) rfl (by kernel_rfl) (fun _ _ _ h => h) (by rfl) hSc (fun w' hS' => ?g5xy29) ?g5xz29
                    case g5xy29 =>
                      clear hS'
                      go_simp
                      try simp only [hbL, hbH]
                      try rfl
                    simp only [List.setIfInBounds_toArray, List.set_cons_zero, List.set_cons_succ]
                    refine take_op 30 (v := .bool bL) rfl (by kernel_rfl) (fun _ _ _ h => h) (by rfl) hSc (fun w' hS' => ?g5xy30) ?g5xz30
                    case g5xy30 =>
                      clear hS'
                      go_simp
                      try simp only [hbL, hbH]
                      try rfl
                    simp only [List.setIfInBounds_toArray, List.set_cons_zero, List.set_cons_succ]
                    refine take_op 31 (v := ?g5xv31) rfl (by kernel_rfl) (fun _ _ _ h => h) (by rfl) hSc (fun w' hS' => ?g5xy31) ?g5xz31
                    case g5xy31 =>
                      go_simp
                      rfl
                    simp only [List.setIfInBounds_toArray, List.set_cons_zero, List.set_cons_succ]
                    refine done_ops (by kernel_rfl) ?_
                    go_wp2_with fail
                    have hT : Below V5.heap.size V5 Y1.drew := hSc.drew
                    refine plain_region (fun W' => Below V5.heap.size V5 W') 31 31 (by kernel_rfl) rfl ?_
                    simp only [Array.replicate_succ, Array.replicate_zero, List.push_toArray, List.nil_append, List.cons_append]
                    refine take_op 0 (v := ?g6xv0) rfl (by kernel_rfl) (fun _ _ _ h => h) (by rfl) hT (fun w' hS' => ?g6xy0) ?g6xz0
                    case g6xy0 =>
                      go_simp
                      rfl
                    simp only [List.setIfInBounds_toArray, List.set_cons_zero, List.set_cons_succ]
                    refine take_op 1 (v := ?g6xv1) rfl (by kernel_rfl) (fun _ _ _ h => h) (by rfl) hT (fun w' hS' => ?g6xy1) ?g6xz1
                    case g6xy1 =>
                      go_simp
                      rfl
                    simp only [List.setIfInBounds_toArray, List.set_cons_zero, List.set_cons_succ]
                    refine pass_op 2 rfl (by kernel_rfl) (fun _ _ _ h => h) (by rfl) hT ?_
                    simp only [List.setIfInBounds_toArray, List.set_cons_zero, List.set_cons_succ]
                    refine pass_op 3 rfl (by kernel_rfl) (fun _ _ _ h => h) (by rfl) hT ?_
                    simp only [List.setIfInBounds_toArray, List.set_cons_zero, List.set_cons_succ]
                    refine pass_op 4 rfl (by kernel_rfl) (fun _ _ _ h => h) (by rfl) hT ?_
                    simp only [List.setIfInBounds_toArray, List.set_cons_zero, List.set_cons_succ]
                    refine pass_op 5 rfl (by kernel_rfl) (fun _ _ _ h => h) (by rfl) hT ?_
                    simp only [List.setIfInBounds_toArray, List.set_cons_zero, List.set_cons_succ]
                    refine pass_op 6 rfl (by kernel_rfl) (fun _ _ _ h => h) (by rfl) hT ?_
                    simp only [List.setIfInBounds_toArray, List.set_cons_zero, List.set_cons_succ]
                    refine pass_op 7 rfl (by kernel_rfl) (fun _ _ _ h => h) (by rfl) hT ?_
                    simp only [List.setIfInBounds_toArray, List.set_cons_zero, List.set_cons_succ]
                    refine pass_op 8 rfl (by kernel_rfl) (fun _ _ _ h => h) (by rfl) hT ?_
                    simp only [List.setIfInBounds_toArray, List.set_cons_zero, List.set_cons_succ]
                    refine pass_op 9 rfl (by kernel_rfl) (fun _ _ _ h => h) (by rfl) hT ?_
                    simp only [List.setIfInBounds_toArray, List.set_cons_zero, List.set_cons_succ]
                    refine pass_op 10 rfl (by kernel_rfl) (fun _ _ _ h => h) (by rfl) hT ?_
                    simp only [List.setIfInBounds_toArray, List.set_cons_zero, List.set_cons_succ]
                    refine pass_op 11 rfl (by kernel_rfl) (fun _ _ _ h => h) (by rfl) hT ?_
                    simp only [List.setIfInBounds_toArray, List.set_cons_zero, List.set_cons_succ]
                    refine pass_op 12 rfl (by kernel_rfl) (fun _ _ _ h => h) (by rfl) hT ?_
                    simp only [List.setIfInBounds_toArray, List.set_cons_zero, List.set_cons_succ]
                    refine pass_op 13 rfl (by kernel_rfl) (fun _ _ _ h => h) (by rfl) hT ?_
                    simp only [List.setIfInBounds_toArray, List.set_cons_zero, List.set_cons_succ]
                    refine pass_op 14 rfl (by kernel_rfl) (fun _ _ _ h => h) (by rfl) hT ?_
                    simp only [List.setIfInBounds_toArray, List.set_cons_zero, List.set_cons_succ]
                    refine pass_op 15 rfl (by kernel_rfl) (fun _ _ _ h => h) (by rfl) hT ?_
                    simp only [List.setIfInBounds_toArray, List.set_cons_zero, List.set_cons_succ]
                    refine pass_op 16 rfl (by kernel_rfl) (fun _ _ _ h => h) (by rfl) hT ?_
                    simp only [List.setIfInBounds_toArray, List.set_cons_zero, List.set_cons_succ]
                    refine pass_op 17 rfl (by kernel_rfl) (fun _ _ _ h => h) (by rfl) hT ?_
                    simp only [List.setIfInBounds_toArray, List.set_cons_zero, List.set_cons_succ]
                    refine pass_op 18 rfl (by kernel_rfl) (fun _ _ _ h => h) (by rfl) hT ?_
                    simp only [List.setIfInBounds_toArray, List.set_cons_zero, List.set_cons_succ]
                    refine pass_op 19 rfl (by kernel_rfl) (fun _ _ _ h => h) (by rfl) hT ?_
                    simp only [List.setIfInBounds_toArray, List.set_cons_zero, List.set_cons_succ]
                    refine pass_op 20 rfl (by kernel_rfl) (fun _ _ _ h => h) (by rfl) hT ?_
                    simp only [List.setIfInBounds_toArray, List.set_cons_zero, List.set_cons_succ]
                    refine pass_op 21 rfl (by kernel_rfl) (fun _ _ _ h => h) (by rfl) hT ?_
                    simp only [List.setIfInBounds_toArray, List.set_cons_zero, List.set_cons_succ]
                    refine pass_op 22 rfl (by kernel_rfl) (fun _ _ _ h => h) (by rfl) hT ?_
                    simp only [List.setIfInBounds_toArray, List.set_cons_zero, List.set_cons_succ]
                    refine pass_op 23 rfl (by kernel_rfl) (fun _ _ _ h => h) (by rfl) hT ?_
                    simp only [List.setIfInBounds_toArray, List.set_cons_zero, List.set_cons_succ]
                    refine pass_op 24 rfl (by kernel_rfl) (fun _ _ _ h => h) (by rfl) hT ?_
                    simp only [List.setIfInBounds_toArray, List.set_cons_zero, List.set_cons_succ]
                    refine pass_op 25 rfl (by kernel_rfl) (fun _ _ _ h => h) (by rfl) hT ?_
                    simp only [List.setIfInBounds_toArray, List.set_cons_zero, List.set_cons_succ]
                    refine pass_op 26 rfl (by kernel_rfl) (fun _ _ _ h => h) (by rfl) hT ?_
                    simp only [List.setIfInBounds_toArray, List.set_cons_zero, List.set_cons_succ]
                    refine pass_op 27 rfl (by kernel_rfl) (fun _ _ _ h => h) (by rfl) hT ?_
                    simp only [List.setIfInBounds_toArray, List.set_cons_zero, List.set_cons_succ]
                    refine pass_op 28 rfl (by kernel_rfl) (fun _ _ _ h => h) (by rfl) hT ?_
                    simp only [List.setIfInBounds_toArray, List.set_cons_zero, List.set_cons_succ]
                    refine take_op 29 (v := .bool true) rfl (by kernel_rfl) (fun _ _ _ h => h) (by rfl) hT (fun w' hS' => ?g6xy29) ?g6xz29
                    case g6xy29 =>
                      clear hS'
                      go_simp
                      try rfl
                    simp only [List.setIfInBounds_toArray, List.set_cons_zero, List.set_cons_succ]
                    refine take_op 30 (v := ?g6xv30) rfl (by kernel_rfl) (fun _ _ _ h => h) (by rfl) hT (fun w' hS' => ?g6xy30) ?g6xz30
                    case g6xy30 =>
                      go_simp
                      rfl
                    simp only [List.setIfInBounds_toArray, List.set_cons_zero, List.set_cons_succ]
                    refine done_ops (by kernel_rfl) ?_
                    go_wp2_with fail
                    go_roundw
                    case rel => exact ⟨k + 1, by omega, by rw [show ((k + 1 : Nat) : Int) - (sn : Int) = (k : Int) - (sn : Int) + 1 by omega], by rw [← Nat.add_assoc, hTH.out, anyTo, hxLH.out, nL.out]; rfl, by rw [← Nat.add_assoc, hTH.out, anyTo, hxHH.out]; rfl, hT⟩
                    case measure => simp [intOf]; omega
                  case neg =>
                    replace hxH := Bool.eq_false_iff.2 hxH
                    rw [hxL, hxH]
                    have hxLH := Lib.hid hxL
                    have hxHH := Lib.hid hxH
                    clear hxL hxH
                    go_wp2_with fail
                    clear c0 hc
                    have hS : Below V5.heap.size V5 wr.drew := hbw.drew
                    refine plain_region (fun W' => Below V5.heap.size V5 W') 32 32 (by kernel_rfl) rfl ?_
                    simp only [Array.replicate_succ, Array.replicate_zero, List.push_toArray, List.nil_append, List.cons_append]
                    refine take_op 0 (v := ?g7xv0) rfl (by kernel_rfl) (fun _ _ _ h => h) (by rfl) hS (fun w' hS' => ?g7xy0) ?g7xz0
                    case g7xy0 =>
                      go_simp
                      rfl
                    simp only [List.setIfInBounds_toArray, List.set_cons_zero, List.set_cons_succ]
                    refine take_op 1 (v := ?g7xv1) rfl (by kernel_rfl) (fun _ _ _ h => h) (by rfl) hS (fun w' hS' => ?g7xy1) ?g7xz1
                    case g7xy1 =>
                      go_simp
                      rfl
                    simp only [List.setIfInBounds_toArray, List.set_cons_zero, List.set_cons_succ]
                    refine take_op 2 (v := ?g7xv2) rfl (by kernel_rfl) (fun _ _ _ h => h) (by rfl) hS (fun w' hS' => ?g7xy2) ?g7xz2
                    case g7xy2 =>
                      have k1 := k1H.out.below hS' lk1
                      have k2 := k2H.out.below hS' lk2
                      have k3 := k3H.out.below hS' lk3
                      have k4 := k4H.out.below hS' lk4
                      have m0 := k1.cell (i := 0) rfl
                      have t0 := k3.cell (i := 0) rfl
                      have u0 := k4.cell (i := 0) rfl
                      have m1 := k1.cell (i := 1) rfl
                      have t1 := k3.cell (i := 1) rfl
                      have u1 := k4.cell (i := 1) rfl
                      have m2 := k1.cell (i := 2) rfl
                      have t2 := k3.cell (i := 2) rfl
                      have u2 := k4.cell (i := 2) rfl
                      have c0 := k2.cell (i := 0) rfl
                      have c1 := k2.cell (i := 1) rfl
                      have c2 := k2.cell (i := 2) rfl
                      have c3 := k2.cell (i := 3) rfl
                      have c4 := k2.cell (i := 4) rfl
                      have z1 := (hS'.cell (p := ⟨bp, op + q, none⟩) hbp).trans zLH.out
                      have z2 := (hS'.cell (p := ⟨bq, oq + q, none⟩) hbq).trans zHH.out
                      clear hS' k1 k2 k3 k4
                      go_simp
                      rfl
                    simp only [List.setIfInBounds_toArray, List.set_cons_zero, List.set_cons_succ]
                    refine take_op 3 (v := ?g7xv3) rfl (by kernel_rfl) (fun _ _ _ h => h) (by rfl) hS (fun w' hS' => ?g7xy3) ?g7xz3
                    case g7xy3 =>
                      go_simp
                      rfl
                    simp only [List.setIfInBounds_toArray, List.set_cons_zero, List.set_cons_succ]
                    refine take_op 4 (v := ?g7xv4) rfl (by kernel_rfl) (fun _ _ _ h => h) (by rfl) hS (fun w' hS' => ?g7xy4) ?g7xz4
                    case g7xy4 =>
                      go_simp
                      rfl
                    simp only [List.setIfInBounds_toArray, List.set_cons_zero, List.set_cons_succ]
                    refine take_op 5 (v := ?g7xv5) rfl (by kernel_rfl) (fun _ _ _ h => h) (by rfl) hS (fun w' hS' => ?g7xy5) ?g7xz5
                    case g7xy5 =>
                      have k1 := k1H.out.below hS' lk1
                      have k2 := k2H.out.below hS' lk2
                      have k3 := k3H.out.below hS' lk3
                      have k4 := k4H.out.below hS' lk4
                      have m0 := k1.cell (i := 0) rfl
                      have t0 := k3.cell (i := 0) rfl
                      have u0 := k4.cell (i := 0) rfl
                      have m1 := k1.cell (i := 1) rfl
                      have t1 := k3.cell (i := 1) rfl
                      have u1 := k4.cell (i := 1) rfl
                      have m2 := k1.cell (i := 2) rfl
                      have t2 := k3.cell (i := 2) rfl
                      have u2 := k4.cell (i := 2) rfl
                      have c0 := k2.cell (i := 0) rfl
                      have c1 := k2.cell (i := 1) rfl
                      have c2 := k2.cell (i := 2) rfl
                      have c3 := k2.cell (i := 3) rfl
                      have c4 := k2.cell (i := 4) rfl
                      have z1 := (hS'.cell (p := ⟨bp, op + q, none⟩) hbp).trans zLH.out
                      have z2 := (hS'.cell (p := ⟨bq, oq + q, none⟩) hbq).trans zHH.out
                      clear hS' k1 k2 k3 k4
                      go_simp
                      rfl
                    simp only [List.setIfInBounds_toArray, List.set_cons_zero, List.set_cons_succ]
                    refine take_op 6 (v := ?g7xv6) rfl (by kernel_rfl) (fun _ _ _ h => h) (by rfl) hS (fun w' hS' => ?g7xy6) ?g7xz6
                    case g7xy6 =>
                      go_simp
                      try go_ints
                      rfl
                    simp only [List.setIfInBounds_toArray, List.set_cons_zero, List.set_cons_succ]
                    refine take_op 7 (v := ?g7xv7) rfl (by kernel_rfl) (fun _ _ _ h => h) (by rfl) hS (fun w' hS' => ?g7xy7) ?g7xz7
                    case g7xy7 =>
                      go_simp
                      rfl
                    simp only [List.setIfInBounds_toArray, List.set_cons_zero, List.set_cons_succ]
                    refine take_op 8 (v := ?g7xv8) rfl (by kernel_rfl) (fun _ _ _ h => h) (by rfl) hS (fun w' hS' => ?g7xy8) ?g7xz8
                    case g7xy8 =>
                      go_simp
                      try go_ints
                      rfl
                    simp only [List.setIfInBounds_toArray, List.set_cons_zero, List.set_cons_succ]
                    refine take_op 9 (v := ?g7xv9) rfl (by kernel_rfl) (fun _ _ _ h => h) (by rfl) hS (fun w' hS' => ?g7xy9) ?g7xz9
                    case g7xy9 =>
                      go_simp
                      rfl
                    simp only [List.setIfInBounds_toArray, List.set_cons_zero, List.set_cons_succ]
                    refine take_op 10 (v := ?g7xv10) rfl (by kernel_rfl) (fun _ _ _ h => h) (by rfl) hS (fun w' hS' => ?g7xy10) ?g7xz10
                    case g7xy10 =>
                      go_simp
                      rfl
                    simp only [List.setIfInBounds_toArray, List.set_cons_zero, List.set_cons_succ]
                    refine take_op 11 (v := ?g7xv11) rfl (by kernel_rfl) (fun _ _ _ h => h) (by rfl) hS (fun w' hS' => ?g7xy11) ?g7xz11
                    case g7xy11 =>
                      have k1 := k1H.out.below hS' lk1
                      have k2 := k2H.out.below hS' lk2
                      have k3 := k3H.out.below hS' lk3
                      have k4 := k4H.out.below hS' lk4
                      have m0 := k1.cell (i := 0) rfl
                      have t0 := k3.cell (i := 0) rfl
                      have u0 := k4.cell (i := 0) rfl
                      have m1 := k1.cell (i := 1) rfl
                      have t1 := k3.cell (i := 1) rfl
                      have u1 := k4.cell (i := 1) rfl
                      have m2 := k1.cell (i := 2) rfl
                      have t2 := k3.cell (i := 2) rfl
                      have u2 := k4.cell (i := 2) rfl
                      have c0 := k2.cell (i := 0) rfl
                      have c1 := k2.cell (i := 1) rfl
                      have c2 := k2.cell (i := 2) rfl
                      have c3 := k2.cell (i := 3) rfl
                      have c4 := k2.cell (i := 4) rfl
                      have z1 := (hS'.cell (p := ⟨bp, op + q, none⟩) hbp).trans zLH.out
                      have z2 := (hS'.cell (p := ⟨bq, oq + q, none⟩) hbq).trans zHH.out
                      clear hS' k1 k2 k3 k4
                      go_simp
                      rfl
                    simp only [List.setIfInBounds_toArray, List.set_cons_zero, List.set_cons_succ]
                    refine take_op 12 (v := ?g7xv12) rfl (by kernel_rfl) (fun _ _ _ h => h) (by rfl) hS (fun w' hS' => ?g7xy12) ?g7xz12
                    case g7xy12 =>
                      go_simp
                      try go_ints
                      rfl
                    simp only [List.setIfInBounds_toArray, List.set_cons_zero, List.set_cons_succ]
                    refine take_op 13 (v := ?g7xv13) rfl (by kernel_rfl) (fun _ _ _ h => h) (by rfl) hS (fun w' hS' => ?g7xy13) ?g7xz13
                    case g7xy13 =>
                      go_simp
                      rfl
                    simp only [List.setIfInBounds_toArray, List.set_cons_zero, List.set_cons_succ]
                    refine take_op 14 (v := ?g7xv14) rfl (by kernel_rfl) (fun _ _ _ h => h) (by rfl) hS (fun w' hS' => ?g7xy14) ?g7xz14
                    case g7xy14 =>
                      go_simp
                      try go_ints
                      rfl
                    simp only [List.setIfInBounds_toArray, List.set_cons_zero, List.set_cons_succ]
                    refine take_op 15 (v := ?g7xv15) rfl (by kernel_rfl) (fun _ _ _ h => h) (by rfl) hS (fun w' hS' => ?g7xy15) ?g7xz15
                    case g7xy15 =>
                      go_simp
                      rfl
                    simp only [List.setIfInBounds_toArray, List.set_cons_zero, List.set_cons_succ]
                    refine take_op 16 (v := ?g7xv16) rfl (by kernel_rfl) (fun _ _ _ h => h) (by rfl) hS (fun w' hS' => ?g7xy16) ?g7xz16
                    case g7xy16 =>
                      have k1 := k1H.out.below hS' lk1
                      have k2 := k2H.out.below hS' lk2
                      have k3 := k3H.out.below hS' lk3
                      have k4 := k4H.out.below hS' lk4
                      have m0 := k1.cell (i := 0) rfl
                      have t0 := k3.cell (i := 0) rfl
                      have u0 := k4.cell (i := 0) rfl
                      have m1 := k1.cell (i := 1) rfl
                      have t1 := k3.cell (i := 1) rfl
                      have u1 := k4.cell (i := 1) rfl
                      have m2 := k1.cell (i := 2) rfl
                      have t2 := k3.cell (i := 2) rfl
                      have u2 := k4.cell (i := 2) rfl
                      have c0 := k2.cell (i := 0) rfl
                      have c1 := k2.cell (i := 1) rfl
                      have c2 := k2.cell (i := 2) rfl
                      have c3 := k2.cell (i := 3) rfl
                      have c4 := k2.cell (i := 4) rfl
                      have z1 := (hS'.cell (p := ⟨bp, op + q, none⟩) hbp).trans zLH.out
                      have z2 := (hS'.cell (p := ⟨bq, oq + q, none⟩) hbq).trans zHH.out
                      clear hS' k1 k2 k3 k4
                      go_simp
                      rfl
                    simp only [List.setIfInBounds_toArray, List.set_cons_zero, List.set_cons_succ]
                    refine take_op 17 (v := ?g7xv17) rfl (by kernel_rfl) (fun _ _ _ h => h) (by rfl) hS (fun w' hS' => ?g7xy17) ?g7xz17
                    case g7xy17 =>
                      go_simp
                      rfl
                    simp only [List.setIfInBounds_toArray, List.set_cons_zero, List.set_cons_succ]
                    refine take_op 18 (v := ?g7xv18) rfl (by kernel_rfl) (fun _ _ _ h => h) (by rfl) hS (fun w' hS' => ?g7xy18) ?g7xz18
                    case g7xy18 =>
                      have k1 := k1H.out.below hS' lk1
                      have k2 := k2H.out.below hS' lk2
                      have k3 := k3H.out.below hS' lk3
                      have k4 := k4H.out.below hS' lk4
                      have m0 := k1.cell (i := 0) rfl
                      have t0 := k3.cell (i := 0) rfl
                      have u0 := k4.cell (i := 0) rfl
                      have m1 := k1.cell (i := 1) rfl
                      have t1 := k3.cell (i := 1) rfl
                      have u1 := k4.cell (i := 1) rfl
                      have m2 := k1.cell (i := 2) rfl
                      have t2 := k3.cell (i := 2) rfl
                      have u2 := k4.cell (i := 2) rfl
                      have c0 := k2.cell (i := 0) rfl
                      have c1 := k2.cell (i := 1) rfl
                      have c2 := k2.cell (i := 2) rfl
                      have c3 := k2.cell (i := 3) rfl
                      have c4 := k2.cell (i := 4) rfl
                      have z1 := (hS'.cell (p := ⟨bp, op + q, none⟩) hbp).trans zLH.out
                      have z2 := (hS'.cell (p := ⟨bq, oq + q, none⟩) hbq).trans zHH.out
                      clear hS' k1 k2 k3 k4
                      go_simp
                      rfl
                    simp only [List.setIfInBounds_toArray, List.set_cons_zero, List.set_cons_succ]
                    refine take_op 19 (v := ?g7xv19) rfl (by kernel_rfl) (fun _ _ _ h => h) (by rfl) hS (fun w' hS' => ?g7xy19) ?g7xz19
                    case g7xy19 =>
                      go_simp
                      try go_ints
                      rfl
                    simp only [List.setIfInBounds_toArray, List.set_cons_zero, List.set_cons_succ]
                    refine take_op 20 (v := ?g7xv20) rfl (by kernel_rfl) (fun _ _ _ h => h) (by rfl) hS (fun w' hS' => ?g7xy20) ?g7xz20
                    case g7xy20 =>
                      go_simp
                      rfl
                    simp only [List.setIfInBounds_toArray, List.set_cons_zero, List.set_cons_succ]
                    refine take_op 21 (v := ?g7xv21) rfl (by kernel_rfl) (fun _ _ _ h => h) (by rfl) hS (fun w' hS' => ?g7xy21) ?g7xz21
                    case g7xy21 =>
                      have k1 := k1H.out.below hS' lk1
                      have k2 := k2H.out.below hS' lk2
                      have k3 := k3H.out.below hS' lk3
                      have k4 := k4H.out.below hS' lk4
                      have m0 := k1.cell (i := 0) rfl
                      have t0 := k3.cell (i := 0) rfl
                      have u0 := k4.cell (i := 0) rfl
                      have m1 := k1.cell (i := 1) rfl
                      have t1 := k3.cell (i := 1) rfl
                      have u1 := k4.cell (i := 1) rfl
                      have m2 := k1.cell (i := 2) rfl
                      have t2 := k3.cell (i := 2) rfl
                      have u2 := k4.cell (i := 2) rfl
                      have c0 := k2.cell (i := 0) rfl
                      have c1 := k2.cell (i := 1) rfl
                      have c2 := k2.cell (i := 2) rfl
                      have c3 := k2.cell (i := 3) rfl
                      have c4 := k2.cell (i := 4) rfl
                      have z1 := (hS'.cell (p := ⟨bp, op + q, none⟩) hbp).trans zLH.out
                      have z2 := (hS'.cell (p := ⟨bq, oq + q, none⟩) hbq).trans zHH.out
                      clear hS' k1 k2 k3 k4
                      go_simp
                      rfl
                    simp only [List.setIfInBounds_toArray, List.set_cons_zero, List.set_cons_succ]
                    refine take_op 22 (v := ?g7xv22) rfl (by kernel_rfl) (fun _ _ _ h => h) (by rfl) hS (fun w' hS' => ?g7xy22) ?g7xz22
                    case g7xy22 =>
                      go_simp
                      try go_ints
                      rfl
                    simp only [List.setIfInBounds_toArray, List.set_cons_zero, List.set_cons_succ]
                    refine take_op 24 (v := ?g7xv24) rfl (by kernel_rfl) (fun _ _ _ h => h) (by rfl) hS (fun w' hS' => ?g7xy24) ?g7xz24
                    case g7xy24 =>
                      go_simp
                      rfl
                    simp only [List.setIfInBounds_toArray, List.set_cons_zero, List.set_cons_succ]
                    refine take_op 25 (v := ?g7xv25) rfl (by kernel_rfl) (fun _ _ _ h => h) (by rfl) hS (fun w' hS' => ?g7xy25) ?g7xz25
                    case g7xy25 =>
                      have k1 := k1H.out.below hS' lk1
                      have k2 := k2H.out.below hS' lk2
                      have k3 := k3H.out.below hS' lk3
                      have k4 := k4H.out.below hS' lk4
                      have m0 := k1.cell (i := 0) rfl
                      have t0 := k3.cell (i := 0) rfl
                      have u0 := k4.cell (i := 0) rfl
                      have m1 := k1.cell (i := 1) rfl
                      have t1 := k3.cell (i := 1) rfl
                      have u1 := k4.cell (i := 1) rfl
                      have m2 := k1.cell (i := 2) rfl
                      have t2 := k3.cell (i := 2) rfl
                      have u2 := k4.cell (i := 2) rfl
                      have c0 := k2.cell (i := 0) rfl
                      have c1 := k2.cell (i := 1) rfl
                      have c2 := k2.cell (i := 2) rfl
                      have c3 := k2.cell (i := 3) rfl
                      have c4 := k2.cell (i := 4) rfl
                      have z1 := (hS'.cell (p := ⟨bp, op + q, none⟩) hbp).trans zLH.out
                      have z2 := (hS'.cell (p := ⟨bq, oq + q, none⟩) hbq).trans zHH.out
                      clear hS' k1 k2 k3 k4
                      go_simp
                      rfl
                    simp only [List.setIfInBounds_toArray, List.set_cons_zero, List.set_cons_succ]
                    refine take_op 26 (v := ?g7xv26) rfl (by kernel_rfl) (fun _ _ _ h => h) (by rfl) hS (fun w' hS' => ?g7xy26) ?g7xz26
                    case g7xy26 =>
                      go_simp
                      rfl
                    simp only [List.setIfInBounds_toArray, List.set_cons_zero, List.set_cons_succ]
                    refine take_op 27 (v := ?g7xv27) rfl (by kernel_rfl) (fun _ _ _ h => h) (by rfl) hS (fun w' hS' => ?g7xy27) ?g7xz27
                    case g7xy27 =>
                      go_simp
                      try go_ints
                      first
                      | rfl
                      | (rw [if_pos (by omega)]; done)
                      | rw [if_pos ⟨by omega, by omega⟩]
                    simp only [List.setIfInBounds_toArray, List.set_cons_zero, List.set_cons_succ]
                    refine take_op 28 (v := ?g7xv28) rfl (by kernel_rfl) (fun _ _ _ h => h) (by rfl) hS (fun w' hS' => ?g7xy28) ?g7xz28
                    case g7xy28 =>
                      have k1 := k1H.out.below hS' lk1
                      have k2 := k2H.out.below hS' lk2
                      have k3 := k3H.out.below hS' lk3
                      have k4 := k4H.out.below hS' lk4
                      have m0 := k1.cell (i := 0) rfl
                      have t0 := k3.cell (i := 0) rfl
                      have u0 := k4.cell (i := 0) rfl
                      have m1 := k1.cell (i := 1) rfl
                      have t1 := k3.cell (i := 1) rfl
                      have u1 := k4.cell (i := 1) rfl
                      have m2 := k1.cell (i := 2) rfl
                      have t2 := k3.cell (i := 2) rfl
                      have u2 := k4.cell (i := 2) rfl
                      have c0 := k2.cell (i := 0) rfl
                      have c1 := k2.cell (i := 1) rfl
                      have c2 := k2.cell (i := 2) rfl
                      have c3 := k2.cell (i := 3) rfl
                      have c4 := k2.cell (i := 4) rfl
                      have z1 := (hS'.cell (p := ⟨bp, op + q, none⟩) hbp).trans zLH.out
                      have z2 := (hS'.cell (p := ⟨bq, oq + q, none⟩) hbq).trans zHH.out
                      clear hS' k1 k2 k3 k4
                      go_simp
                      rfl
                    simp only [List.setIfInBounds_toArray, List.set_cons_zero, List.set_cons_succ]
                    refine step_op 23 (by kernel_rfl) rfl (fun K hK => ?_)
                    rw [if_pos (by rfl)]
                    go_simp
                    refine (hchL.out _ hS).mono ?_
                    rintro e Y1 ⟨rfl, hb1⟩
                    have hSc : Below V5.heap.size V5 Y1 := hS.trans (hb1.mono hS.size)
                    clear hb1
                    refine hK.out _ _ (fun h => hSc) ?_
                    clear hK K
                    try simp only [Act.put, List.setIfInBounds_toArray, List.set_cons_zero, List.set_cons_succ]
                    refine take_op 29 (v := .bool bL) rfl (by kernel_rfl) (fun _ _ _ h => h) (by rfl) hSc (fun w' hS' => ?g7xy29) ?g7xz29
                    case g7xy29 =>
                      clear hS'
                      go_simp
                      try simp only [hbL, hbH]
                      try rfl
                    simp only [List.setIfInBounds_toArray, List.set_cons_zero, List.set_cons_succ]
                    refine take_op 30 (v := .bool bL) rfl (by kernel_rfl) (fun _ _ _ h => h) (by rfl) hSc (fun w' hS' => ?g7xy30) ?g7xz30
                    case g7xy30 =>
                      clear hS'
                      go_simp
                      try simp only [hbL, hbH]
                      try rfl
                    simp only [List.setIfInBounds_toArray, List.set_cons_zero, List.set_cons_succ]
                    refine take_op 31 (v := ?g7xv31) rfl (by kernel_rfl) (fun _ _ _ h => h) (by rfl) hSc (fun w' hS' => ?g7xy31) ?g7xz31
                    case g7xy31 =>
                      go_simp
                      rfl
                    simp only [List.setIfInBounds_toArray, List.set_cons_zero, List.set_cons_succ]
                    refine done_ops (by kernel_rfl) ?_
                    go_wp2_with fail
                    have hT : Below V5.heap.size V5 Y1.drew := hSc.drew
                    refine plain_region (fun W' => Below V5.heap.size V5 W') 31 31 (by kernel_rfl) rfl ?_
                    simp only [Array.replicate_succ, Array.replicate_zero, List.push_toArray, List.nil_append, List.cons_append]
                    refine take_op 0 (v := ?g8xv0) rfl (by kernel_rfl) (fun _ _ _ h => h) (by rfl) hT (fun w' hS' => ?g8xy0) ?g8xz0
                    case g8xy0 =>
                      go_simp
                      rfl
                    simp only [List.setIfInBounds_toArray, List.set_cons_zero, List.set_cons_succ]
                    refine take_op 1 (v := ?g8xv1) rfl (by kernel_rfl) (fun _ _ _ h => h) (by rfl) hT (fun w' hS' => ?g8xy1) ?g8xz1
                    case g8xy1 =>
                      go_simp
                      rfl
                    simp only [List.setIfInBounds_toArray, List.set_cons_zero, List.set_cons_succ]
                    refine take_op 2 (v := ?g8xv2) rfl (by kernel_rfl) (fun _ _ _ h => h) (by rfl) hT (fun w' hS' => ?g8xy2) ?g8xz2
                    case g8xy2 =>
                      have k1 := k1H.out.below hS' lk1
                      have k2 := k2H.out.below hS' lk2
                      have k3 := k3H.out.below hS' lk3
                      have k4 := k4H.out.below hS' lk4
                      have m0 := k1.cell (i := 0) rfl
                      have t0 := k3.cell (i := 0) rfl
                      have u0 := k4.cell (i := 0) rfl
                      have m1 := k1.cell (i := 1) rfl
                      have t1 := k3.cell (i := 1) rfl
                      have u1 := k4.cell (i := 1) rfl
                      have m2 := k1.cell (i := 2) rfl
                      have t2 := k3.cell (i := 2) rfl
                      have u2 := k4.cell (i := 2) rfl
                      have c0 := k2.cell (i := 0) rfl
                      have c1 := k2.cell (i := 1) rfl
                      have c2 := k2.cell (i := 2) rfl
                      have c3 := k2.cell (i := 3) rfl
                      have c4 := k2.cell (i := 4) rfl
                      have z1 := (hS'.cell (p := ⟨bp, op + q, none⟩) hbp).trans zLH.out
                      have z2 := (hS'.cell (p := ⟨bq, oq + q, none⟩) hbq).trans zHH.out
                      clear hS' k1 k2 k3 k4
                      go_simp
                      rfl
                    simp only [List.setIfInBounds_toArray, List.set_cons_zero, List.set_cons_succ]
                    refine take_op 3 (v := ?g8xv3) rfl (by kernel_rfl) (fun _ _ _ h => h) (by rfl) hT (fun w' hS' => ?g8xy3) ?g8xz3
                    case g8xy3 =>
                      go_simp
                      rfl
                    simp only [List.setIfInBounds_toArray, List.set_cons_zero, List.set_cons_succ]
                    refine take_op 4 (v := ?g8xv4) rfl (by kernel_rfl) (fun _ _ _ h => h) (by rfl) hT (fun w' hS' => ?g8xy4) ?g8xz4
                    case g8xy4 =>
                      go_simp
                      rfl
                    simp only [List.setIfInBounds_toArray, List.set_cons_zero, List.set_cons_succ]
                    refine take_op 5 (v := ?g8xv5) rfl (by kernel_rfl) (fun _ _ _ h => h) (by rfl) hT (fun w' hS' => ?g8xy5) ?g8xz5
                    case g8xy5 =>
                      have k1 := k1H.out.below hS' lk1
                      have k2 := k2H.out.below hS' lk2
                      have k3 := k3H.out.below hS' lk3
                      have k4 := k4H.out.below hS' lk4
                      have m0 := k1.cell (i := 0) rfl
                      have t0 := k3.cell (i := 0) rfl
                      have u0 := k4.cell (i := 0) rfl
                      have m1 := k1.cell (i := 1) rfl
                      have t1 := k3.cell (i := 1) rfl
                      have u1 := k4.cell (i := 1) rfl
                      have m2 := k1.cell (i := 2) rfl
                      have t2 := k3.cell (i := 2) rfl
                      have u2 := k4.cell (i := 2) rfl
                      have c0 := k2.cell (i := 0) rfl
                      have c1 := k2.cell (i := 1) rfl
                      have c2 := k2.cell (i := 2) rfl
                      have c3 := k2.cell (i := 3) rfl
                      have c4 := k2.cell (i := 4) rfl
                      have z1 := (hS'.cell (p := ⟨bp, op + q, none⟩) hbp).trans zLH.out
                      have z2 := (hS'.cell (p := ⟨bq, oq + q, none⟩) hbq).trans zHH.out
                      clear hS' k1 k2 k3 k4
                      go_simp
                      rfl
                    simp only [List.setIfInBounds_toArray, List.set_cons_zero, List.set_cons_succ]
                    refine take_op 6 (v := ?g8xv6) rfl (by kernel_rfl) (fun _ _ _ h => h) (by rfl) hT (fun w' hS' => ?g8xy6) ?g8xz6
                    case g8xy6 =>
                      go_simp
                      try go_ints
                      rfl
                    simp only [List.setIfInBounds_toArray, List.set_cons_zero, List.set_cons_succ]
                    refine take_op 7 (v := ?g8xv7) rfl (by kernel_rfl) (fun _ _ _ h => h) (by rfl) hT (fun w' hS' => ?g8xy7) ?g8xz7
                    case g8xy7 =>
                      go_simp
                      rfl
                    simp only [List.setIfInBounds_toArray, List.set_cons_zero, List.set_cons_succ]
                    refine take_op 8 (v := ?g8xv8) rfl (by kernel_rfl) (fun _ _ _ h => h) (by rfl) hT (fun w' hS' => ?g8xy8) ?g8xz8
                    case g8xy8 =>
                      go_simp
                      try go_ints
                      rfl
                    simp only [List.setIfInBounds_toArray, List.set_cons_zero, List.set_cons_succ]
                    refine take_op 9 (v := ?g8xv9) rfl (by kernel_rfl) (fun _ _ _ h => h) (by rfl) hT (fun w' hS' => ?g8xy9) ?g8xz9
                    case g8xy9 =>
                      go_simp
                      rfl
                    simp only [List.setIfInBounds_toArray, List.set_cons_zero, List.set_cons_succ]
                    refine take_op 10 (v := ?g8xv10) rfl (by kernel_rfl) (fun _ _ _ h => h) (by rfl) hT (fun w' hS' => ?g8xy10) ?g8xz10
                    case g8xy10 =>
                      go_simp
                      rfl
                    simp only [List.setIfInBounds_toArray, List.set_cons_zero, List.set_cons_succ]
                    refine take_op 11 (v := ?g8xv11) rfl (by kernel_rfl) (fun _ _ _ h => h) (by rfl) hT (fun w' hS' => ?g8xy11) ?g8xz11
                    case g8xy11 =>
                      have k1 := k1H.out.below hS' lk1
                      have k2 := k2H.out.below hS' lk2
                      have k3 := k3H.out.below hS' lk3
                      have k4 := k4H.out.below hS' lk4
                      have m0 := k1.cell (i := 0) rfl
                      have t0 := k3.cell (i := 0) rfl
                      have u0 := k4.cell (i := 0) rfl
                      have m1 := k1.cell (i := 1) rfl
                      have t1 := k3.cell (i := 1) rfl
                      have u1 := k4.cell (i := 1) rfl
                      have m2 := k1.cell (i := 2) rfl
                      have t2 := k3.cell (i := 2) rfl
                      have u2 := k4.cell (i := 2) rfl
                      have c0 := k2.cell (i := 0) rfl
                      have c1 := k2.cell (i := 1) rfl
                      have c2 := k2.cell (i := 2) rfl
                      have c3 := k2.cell (i := 3) rfl
                      have c4 := k2.cell (i := 4) rfl
                      have z1 := (hS'.cell (p := ⟨bp, op + q, none⟩) hbp).trans zLH.out
                      have z2 := (hS'.cell (p := ⟨bq, oq + q, none⟩) hbq).trans zHH.out
                      clear hS' k1 k2 k3 k4
                      go_simp
                      rfl
                    simp only [List.setIfInBounds_toArray, List.set_cons_zero, List.set_cons_succ]
                    refine take_op 12 (v := ?g8xv12) rfl (by kernel_rfl) (fun _ _ _ h => h) (by rfl) hT (fun w' hS' => ?g8xy12) ?g8xz12
                    case g8xy12 =>
                      go_simp
                      try go_ints
                      rfl
                    simp only [List.setIfInBounds_toArray, List.set_cons_zero, List.set_cons_succ]
                    refine take_op 13 (v := ?g8xv13) rfl (by kernel_rfl) (fun _ _ _ h => h) (by rfl) hT (fun w' hS' => ?g8xy13) ?g8xz13
                    case g8xy13 =>
                      go_simp
                      rfl
                    simp only [List.setIfInBounds_toArray, List.set_cons_zero, List.set_cons_succ]
                    refine take_op 14 (v := ?g8xv14) rfl (by kernel_rfl) (fun _ _ _ h => h) (by rfl) hT (fun w' hS' => ?g8xy14) ?g8xz14
                    case g8xy14 =>
                      go_simp
                      try go_ints
                      rfl
                    simp only [List.setIfInBounds_toArray, List.set_cons_zero, List.set_cons_succ]
                    refine take_op 15 (v := ?g8xv15) rfl (by kernel_rfl) (fun _ _ _ h => h) (by rfl) hT (fun w' hS' => ?g8xy15) ?g8xz15
                    case g8xy15 =>
                      go_simp
                      rfl
                    simp only [List.setIfInBounds_toArray, List.set_cons_zero, List.set_cons_succ]
                    refine take_op 16 (v := ?g8xv16) rfl (by kernel_rfl) (fun _ _ _ h => h) (by rfl) hT (fun w' hS' => ?g8xy16) ?g8xz16
                    case g8xy16 =>
                      have k1 := k1H.out.below hS' lk1
                      have k2 := k2H.out.below hS' lk2
                      have k3 := k3H.out.below hS' lk3
                      have k4 := k4H.out.below hS' lk4
                      have m0 := k1.cell (i := 0) rfl
                      have t0 := k3.cell (i := 0) rfl
                      have u0 := k4.cell (i := 0) rfl
                      have m1 := k1.cell (i := 1) rfl
                      have t1 := k3.cell (i := 1) rfl
                      have u1 := k4.cell (i := 1) rfl
                      have m2 := k1.cell (i := 2) rfl
                      have t2 := k3.cell (i := 2) rfl
                      have u2 := k4.cell (i := 2) rfl
                      have c0 := k2.cell (i := 0) rfl
                      have c1 := k2.cell (i := 1) rfl
                      have c2 := k2.cell (i := 2) rfl
                      have c3 := k2.cell (i := 3) rfl
                      have c4 := k2.cell (i := 4) rfl
                      have z1 := (hS'.cell (p := ⟨bp, op + q, none⟩) hbp).trans zLH.out
                      have z2 := (hS'.cell (p := ⟨bq, oq + q, none⟩) hbq).trans zHH.out
                      clear hS' k1 k2 k3 k4
                      go_simp
                      rfl
                    simp only [List.setIfInBounds_toArray, List.set_cons_zero, List.set_cons_succ]
                    refine take_op 17 (v := ?g8xv17) rfl (by kernel_rfl) (fun _ _ _ h => h) (by rfl) hT (fun w' hS' => ?g8xy17) ?g8xz17
                    case g8xy17 =>
                      go_simp
                      rfl
                    simp only [List.setIfInBounds_toArray, List.set_cons_zero, List.set_cons_succ]
                    refine take_op 18 (v := ?g8xv18) rfl (by kernel_rfl) (fun _ _ _ h => h) (by rfl) hT (fun w' hS' => ?g8xy18) ?g8xz18
                    case g8xy18 =>
                      have k1 := k1H.out.below hS' lk1
                      have k2 := k2H.out.below hS' lk2
                      have k3 := k3H.out.below hS' lk3
                      have k4 := k4H.out.below hS' lk4
                      have m0 := k1.cell (i := 0) rfl
                      have t0 := k3.cell (i := 0) rfl
                      have u0 := k4.cell (i := 0) rfl
                      have m1 := k1.cell (i := 1) rfl
                      have t1 := k3.cell (i := 1) rfl
                      have u1 := k4.cell (i := 1) rfl
                      have m2 := k1.cell (i := 2) rfl
                      have t2 := k3.cell (i := 2) rfl
                      have u2 := k4.cell (i := 2) rfl
                      have c0 := k2.cell (i := 0) rfl
                      have c1 := k2.cell (i := 1) rfl
                      have c2 := k2.cell (i := 2) rfl
                      have c3 := k2.cell (i := 3) rfl
                      have c4 := k2.cell (i := 4) rfl
                      have z1 := (hS'.cell (p := ⟨bp, op + q, none⟩) hbp).trans zLH.out
                      have z2 := (hS'.cell (p := ⟨bq, oq + q, none⟩) hbq).trans zHH.out
                      clear hS' k1 k2 k3 k4
                      go_simp
                      rfl
                    simp only [List.setIfInBounds_toArray, List.set_cons_zero, List.set_cons_succ]
                    refine take_op 19 (v := ?g8xv19) rfl (by kernel_rfl) (fun _ _ _ h => h) (by rfl) hT (fun w' hS' => ?g8xy19) ?g8xz19
                    case g8xy19 =>
                      go_simp
                      rfl
                    simp only [List.setIfInBounds_toArray, List.set_cons_zero, List.set_cons_succ]
                    refine take_op 20 (v := ?g8xv20) rfl (by kernel_rfl) (fun _ _ _ h => h) (by rfl) hT (fun w' hS' => ?g8xy20) ?g8xz20
                    case g8xy20 =>
                      have k1 := k1H.out.below hS' lk1
                      have k2 := k2H.out.below hS' lk2
                      have k3 := k3H.out.below hS' lk3
                      have k4 := k4H.out.below hS' lk4
                      have m0 := k1.cell (i := 0) rfl
                      have t0 := k3.cell (i := 0) rfl
                      have u0 := k4.cell (i := 0) rfl
                      have m1 := k1.cell (i := 1) rfl
                      have t1 := k3.cell (i := 1) rfl
                      have u1 := k4.cell (i := 1) rfl
                      have m2 := k1.cell (i := 2) rfl
                      have t2 := k3.cell (i := 2) rfl
                      have u2 := k4.cell (i := 2) rfl
                      have c0 := k2.cell (i := 0) rfl
                      have c1 := k2.cell (i := 1) rfl
                      have c2 := k2.cell (i := 2) rfl
                      have c3 := k2.cell (i := 3) rfl
                      have c4 := k2.cell (i := 4) rfl
                      have z1 := (hS'.cell (p := ⟨bp, op + q, none⟩) hbp).trans zLH.out
                      have z2 := (hS'.cell (p := ⟨bq, oq + q, none⟩) hbq).trans zHH.out
                      clear hS' k1 k2 k3 k4
                      go_simp
                      rfl
                    simp only [List.setIfInBounds_toArray, List.set_cons_zero, List.set_cons_succ]
                    refine take_op 21 (v := ?g8xv21) rfl (by kernel_rfl) (fun _ _ _ h => h) (by rfl) hT (fun w' hS' => ?g8xy21) ?g8xz21
                    case g8xy21 =>
                      go_simp
                      try go_ints
                      rfl
                    simp only [List.setIfInBounds_toArray, List.set_cons_zero, List.set_cons_succ]
                    refine take_op 23 (v := ?g8xv23) rfl (by kernel_rfl) (fun _ _ _ h => h) (by rfl) hT (fun w' hS' => ?g8xy23) ?g8xz23
                    case g8xy23 =>
                      go_simp
                      rfl
                    simp only [List.setIfInBounds_toArray, List.set_cons_zero, List.set_cons_succ]
                    refine take_op 24 (v := ?g8xv24) rfl (by kernel_rfl) (fun _ _ _ h => h) (by rfl) hT (fun w' hS' => ?g8xy24) ?g8xz24
                    case g8xy24 =>
                      have k1 := k1H.out.below hS' lk1
                      have k2 := k2H.out.below hS' lk2
                      have k3 := k3H.out.below hS' lk3
                      have k4 := k4H.out.below hS' lk4
                      have m0 := k1.cell (i := 0) rfl
                      have t0 := k3.cell (i := 0) rfl
                      have u0 := k4.cell (i := 0) rfl
                      have m1 := k1.cell (i := 1) rfl
                      have t1 := k3.cell (i := 1) rfl
                      have u1 := k4.cell (i := 1) rfl
                      have m2 := k1.cell (i := 2) rfl
                      have t2 := k3.cell (i := 2) rfl
                      have u2 := k4.cell (i := 2) rfl
                      have c0 := k2.cell (i := 0) rfl
                      have c1 := k2.cell (i := 1) rfl
                      have c2 := k2.cell (i := 2) rfl
                      have c3 := k2.cell (i := 3) rfl
                      have c4 := k2.cell (i := 4) rfl
                      have z1 := (hS'.cell (p := ⟨bp, op + q, none⟩) hbp).trans zLH.out
                      have z2 := (hS'.cell (p := ⟨bq, oq + q, none⟩) hbq).trans zHH.out
                      clear hS' k1 k2 k3 k4
                      go_simp
                      rfl
                    simp only [List.setIfInBounds_toArray, List.set_cons_zero, List.set_cons_succ]
                    refine take_op 25 (v := ?g8xv25) rfl (by kernel_rfl) (fun _ _ _ h => h) (by rfl) hT (fun w' hS' => ?g8xy25) ?g8xz25
                    case g8xy25 =>
                      go_simp
                      rfl
                    simp only [List.setIfInBounds_toArray, List.set_cons_zero, List.set_cons_succ]
                    refine take_op 26 (v := ?g8xv26) rfl (by kernel_rfl) (fun _ _ _ h => h) (by rfl) hT (fun w' hS' => ?g8xy26) ?g8xz26
                    case g8xy26 =>
                      go_simp
                      try go_ints
                      first
                      | rfl
                      | (rw [if_pos (by omega)]; done)
                      | rw [if_pos ⟨by omega, by omega⟩]
                    simp only [List.setIfInBounds_toArray, List.set_cons_zero, List.set_cons_succ]
                    refine take_op 27 (v := ?g8xv27) rfl (by kernel_rfl) (fun _ _ _ h => h) (by rfl) hT (fun w' hS' => ?g8xy27) ?g8xz27
                    case g8xy27 =>
                      have k1 := k1H.out.below hS' lk1
                      have k2 := k2H.out.below hS' lk2
                      have k3 := k3H.out.below hS' lk3
                      have k4 := k4H.out.below hS' lk4
                      have m0 := k1.cell (i := 0) rfl
                      have t0 := k3.cell (i := 0) rfl
                      have u0 := k4.cell (i := 0) rfl
                      have m1 := k1.cell (i := 1) rfl
                      have t1 := k3.cell (i := 1) rfl
                      have u1 := k4.cell (i := 1) rfl
                      have m2 := k1.cell (i := 2) rfl
                      have t2 := k3.cell (i := 2) rfl
                      have u2 := k4.cell (i := 2) rfl
                      have c0 := k2.cell (i := 0) rfl
                      have c1 := k2.cell (i := 1) rfl
                      have c2 := k2.cell (i := 2) rfl
                      have c3 := k2.cell (i := 3) rfl
                      have c4 := k2.cell (i := 4) rfl
                      have z1 := (hS'.cell (p := ⟨bp, op + q, none⟩) hbp).trans zLH.out
                      have z2 := (hS'.cell (p := ⟨bq, oq + q, none⟩) hbq).trans zHH.out
                      clear hS' k1 k2 k3 k4
                      go_simp
                      rfl
                    simp only [List.setIfInBounds_toArray, List.set_cons_zero, List.set_cons_succ]
                    refine step_op 22 (by kernel_rfl) rfl (fun K hK => ?_)
                    rw [if_pos (by rfl)]
                    go_simp
                    refine (hchH.out _ hT).mono ?_
                    rintro e Y2 ⟨rfl, hb1⟩
                    have hTc : Below V5.heap.size V5 Y2 := hT.trans (hb1.mono hT.size)
                    clear hb1
                    refine hK.out _ _ (fun h => hTc) ?_
                    clear hK K
                    try simp only [Act.put, List.setIfInBounds_toArray, List.set_cons_zero, List.set_cons_succ]
                    refine take_op 28 (v := .bool bH) rfl (by kernel_rfl) (fun _ _ _ h => h) (by rfl) hTc (fun w' hS' => ?g8xy28) ?g8xz28
                    case g8xy28 =>
                      clear hS'
                      go_simp
                      try simp only [hbL, hbH]
                      try rfl
                    simp only [List.setIfInBounds_toArray, List.set_cons_zero, List.set_cons_succ]
                    refine take_op 29 (v := .bool bH) rfl (by kernel_rfl) (fun _ _ _ h => h) (by rfl) hTc (fun w' hS' => ?g8xy29) ?g8xz29
                    case g8xy29 =>
                      clear hS'
                      go_simp
                      try simp only [hbL, hbH]
                      try rfl
                    simp only [List.setIfInBounds_toArray, List.set_cons_zero, List.set_cons_succ]
                    refine take_op 30 (v := ?g8xv30) rfl (by kernel_rfl) (fun _ _ _ h => h) (by rfl) hTc (fun w' hS' => ?g8xy30) ?g8xz30
                    case g8xy30 =>
                      go_simp
                      rfl
                    simp only [List.setIfInBounds_toArray, List.set_cons_zero, List.set_cons_succ]
                    refine done_ops (by kernel_rfl) ?_
                    go_wp2_with fail
                    go_roundw
                    case rel => exact ⟨k + 1, by omega, by rw [show ((k + 1 : Nat) : Int) - (sn : Int) = (k : Int) - (sn : Int) + 1 by omega], by rw [← Nat.add_assoc, hTH.out, anyTo, hxLH.out, nL.out]; rfl, by rw [← Nat.add_assoc, hTH.out, anyTo, hxHH.out, nH.out]; rfl, hTc⟩
                    case measure => simp [intOf]; omega

end Go.Proofs.YtbfigbpjoaccdaaGreat

/- The walk of the law JudgeCalm: it returns true, and nothing that lay has turned. -/
import Derived.Test.YtbdnjhnlfpfhcaaGreatQE24
import Derived.Test.YtbdnjhnlfpfhcaaGreatQE14
import Derived.Test.YtbdnjhnlfpfhcaaGreatQE22
namespace Go.Proofs.YtbdnjhnlfpfhcaaGreat
open Go Go.RowKit Go.Shelf
set_option linter.unusedVariables false
set_option linter.unusedSimpArgs false

theorem takeS_go {p q num den h r : Nat} {al hit : Bool} (ht : testB (p : Int) (q : Int) (num : Int) (den : Int) = true) (h1 : h ≤ r) (h2 : r < 500) :
    takeS (p : Int) (q : Int) (num : Int) (den : Int) (h : Int) (r : Int) al hit = ((((if hit = true then h + 1 else h : Nat) : Int), ((r + 1 : Nat) : Int), al || raiseB p q num den (if hit = true then h + 1 else h) (r + 1 - (if hit = true then h + 1 else h))), 0) := by
  unfold takeS
  rw [if_neg (by rw [ht]; decide), if_neg (by omega), if_neg (by omega)]
  cases hit <;> simp [Int.toNat_natCast] <;> rfl
/-- The rate of a round by rounds and hits before. -/
def rtC (p : Nat) (zs : List Nat) (i h : Nat) : Nat := if zs = [] then p else (zs[(8 * i + h) % zs.length]?.getD 0) % (p + 1)
theorem rtC_le (p : Nat) (zs : List Nat) (i h : Nat) : rtC p zs i h ≤ p := by
  unfold rtC
  split
  · exact Nat.le_refl _
  · exact Nat.le_of_lt_succ (Nat.mod_lt _ (by omega))
set_option maxRecDepth 100000 in
set_option maxHeartbeats 32000000 in
theorem law_calm (p q num den : Int) (hn : (Lit.int .i64 num).wf = true) (hd : (Lit.int .i64 den).wf = true) (r : Int) (za : Option Addr) (zc zn : Nat) (zs : List Nat) (hzn : zs.length = zn) (hzb : ∀ x ∈ zs, x < 256) (hzm : zn ≤ 140737488355328) (w : World) (rz : RdN w.heap.size w za zs) :
    Calls Tryz.prog 4 #[tsv p q num den, .int .i64 r, .slice za zn zc] w fun e w' => e = .returned (.bool true) ∧ Below w.heap.size w w' := by
  have hB : Below w.heap.size w w := Below.refl _ _
  obtain ⟨vt, hvt⟩ : ∃ v, testB p q num den = v := ⟨_, rfl⟩
  have hvtH := Lib.hid hvt
  have hznH := Lib.hid hzn
  have hzbH := Lib.hid hzb
  clear hvt hzn hzb
  have hbV1 : Below w.heap.size w (w.alloc (.cells #[.int .i64 p, .int .i64 q, .int .i64 num, .int .i64 den] 34)) := jb_al (Below.refl _ w) _
  have k1 := Blk.new w 34 #[.int .i64 p, .int .i64 q, .int .i64 num, .int .i64 den]
  obtain ⟨V1, hEV1⟩ : ∃ X, w.alloc (.cells #[.int .i64 p, .int .i64 q, .int .i64 num, .int .i64 den] 34) = X := ⟨_, rfl⟩
  rw [hEV1] at hbV1 k1
  replace rz := rz.later hbV1
  replace hB := hB.trans (hbV1.mono hB.size)
  clear hbV1
  have c0 := k1.cell (i := 0) rfl
  have c1 := k1.cell (i := 1) rfl
  have c2 := k1.cell (i := 2) rfl
  have c3 := k1.cell (i := 3) rfl
  go_enter Tryz.func4, Tryz.ntmps4
  go_wp2_with fail
  clear hEV1
  have hc := alive8_any V1
  refine hc.mono ?_
  clear hc
  rintro e V2 ⟨rfl, hb⟩
  clear c0 c1 c2 c3
  replace k1 := k1.below hb k1.lt
  replace rz := rz.later hb
  replace hB := hB.trans (hb.mono hB.size)
  clear hb
  have c0 := k1.cell (i := 0) rfl
  have c1 := k1.cell (i := 1) rfl
  have c2 := k1.cell (i := 2) rfl
  have c3 := k1.cell (i := 3) rfl
  cases vt with
  | false =>
    go_wp2_with fail
    have hc := rValidTest_any p q num den hn hd false hvtH.out V2
    refine hc.mono ?_
    clear hc
    rintro e V3 ⟨rfl, hb⟩
    clear c0 c1 c2 c3
    replace k1 := k1.below hb k1.lt
    replace rz := rz.later hb
    replace hB := hB.trans (hb.mono hB.size)
    clear hb
    have c0 := k1.cell (i := 0) rfl
    have c1 := k1.cell (i := 1) rfl
    have c2 := k1.cell (i := 2) rfl
    have c3 := k1.cell (i := 3) rfl
    go_wp2_with fail
    go_ret
    exact ⟨rfl, hB⟩
  | true =>
    go_wp2_with fail
    have hc := rValidTest_any p q num den hn hd true hvtH.out V2
    refine hc.mono ?_
    clear hc
    rintro e V3 ⟨rfl, hb⟩
    clear c0 c1 c2 c3
    replace k1 := k1.below hb k1.lt
    replace rz := rz.later hb
    replace hB := hB.trans (hb.mono hB.size)
    clear hb
    have c0 := k1.cell (i := 0) rfl
    have c1 := k1.cell (i := 1) rfl
    have c2 := k1.cell (i := 2) rfl
    have c3 := k1.cell (i := 3) rfl
    by_cases s0 : r < 0
    case pos =>
      have s0d : decide (r < 0) = true := decide_eq_true s0
      go_wp2_with fail
      go_ret
      exact ⟨rfl, hB⟩
    case neg =>
      have s0d : decide (r < 0) = false := decide_eq_false s0
      by_cases s7 : 7 < r
      case pos =>
        have s7d : decide (7 < r) = true := decide_eq_true s7
        go_wp2_with fail
        go_ret
        exact ⟨rfl, hB⟩
      case neg =>
        have s7d : decide (7 < r) = false := decide_eq_false s7
        obtain ⟨tb1, tb2⟩ := testB_true hvtH.out
        obtain ⟨pn, rfl⟩ : ∃ N : Nat, p = (N : Int) := ⟨p.toNat, by omega⟩
        obtain ⟨qn, rfl⟩ : ∃ N : Nat, q = (N : Int) := ⟨q.toNat, by omega⟩
        have hlim : limB num den = true := by have := hvtH.out; unfold testB at this; simp only [Bool.and_eq_true] at this; exact this.2
        obtain ⟨nu, de, rfl, rfl, nu0, de1, nu1, de2, hpq⟩ := limB_parts hlim
        obtain ⟨N, rfl⟩ : ∃ N : Nat, r = (N : Int) := ⟨r.toNat, by omega⟩
        have hN7 : N ≤ 7 := by omega
        have h256 : ∀ i, i ≤ N → 256 ^ i ≤ 72057594037927936 := fun i hi => Nat.le_trans (Nat.pow_le_pow_right (by decide) (show i ≤ 7 by omega)) (by decide)
        have h2 : 2 ^ N ≤ 128 := Nat.le_trans (Nat.pow_le_pow_right (by decide) hN7) (by decide)
        obtain ⟨rt, hrt⟩ : ∃ f, rtC pn zs = f := ⟨_, rfl⟩
        obtain ⟨ra, hra⟩ : ∃ f, raiseB pn qn nu de = f := ⟨_, rfl⟩
        have hrl : ∀ i h, rt i h ≤ pn := fun i h => by rw [← hrt]; exact rtC_le _ _ _ _
        have hrl2 : ∀ i h, rt i h ≤ 256 := fun i h => by have := hrl i h; omega
        obtain ⟨f, hf⟩ : ∃ f, (fun s => alaA (foldS (stepA rt ra) st0 s N)) = f := ⟨_, rfl⟩
        have hcalm : sumR f (2 ^ N) * de ≤ nu * 256 ^ N := by rw [← hf, ← hra]; exact calm_all (by omega) (by omega) (by omega) hrl N
        have hpart : ∀ m, m ≤ 2 ^ N → sumR f m ≤ 256 ^ N := fun m hm => by rw [← hf]; exact ala_part hrl2 ra hm
        have hbd : ∀ s i, (foldS (stepA rt ra) st0 s i).h ≤ i ∧ (foldS (stepA rt ra) st0 s i).w ≤ 256 ^ i := fun s i => stepA_bd hrl2 ra s i
        have hfs : ∀ s, alaA (foldS (stepA rt ra) st0 s N) = f s := fun s => by rw [← hf]
        have h256H := Lib.hid h256
        have hcalmH := Lib.hid hcalm
        have hpartH := Lib.hid hpart
        have hbdH := Lib.hid hbd
        have hfsH := Lib.hid hfs
        have hrtH := Lib.hid (fun i h => congrFun (congrFun hrt i) h)
        have hraH := Lib.hid hra
        obtain ⟨⟨tp1, tp2, tp3⟩, tp4⟩ := And.intro tb1 tb2
        have rzH := Lib.hid rz
        have hBw := hB
        have lk1 := k1.lt
        clear hlim h256 hf hcalm hpart hbd hfs hrt hra hrl hrl2 tb1 tb2 tp4 rz hB
        go_wp2_with fail
        go_loop [9, 10] (fun z i => ∃ (m y : Nat), m ≤ N ∧ i = .int .i64 (m : Int) ∧ z = .int .i64 (y : Int) ∧ Hid (256 ^ m = y)) (fun _ i => N - (intOf i).toNat)
        case atStart => exact ⟨0, 1, Nat.zero_le _, rfl, rfl, Lib.hid rfl⟩
        case round =>
          obtain ⟨m, y, hm, rfl, rfl, hy⟩ := hrel
          by_cases hlt : m < N
          case pos =>
            have hy2 : 256 ^ (m + 1) = y * 256 := by rw [Nat.pow_succ, hy.out]
            have hyb := h256H.out (m + 1) (by omega)
            rw [hy2] at hyb
            have hy2H := Lib.hid hy2
            clear hy2
            go_wp2_with fail
            go_round
            case rel => exact ⟨m + 1, y * 256, by omega, by go_num, by go_num, hy2H⟩
            case measure => simp [intOf]; omega
          case neg =>
            have hmn : m = N := by omega
            subst hmn
            have hyb := h256H.out m (Nat.le_refl _)
            rw [hy.out] at hyb
            have hy0 : 0 < y := by rw [← hy.out]; exact Nat.pow_pos (by decide)
            obtain ⟨T, hT⟩ : ∃ T, 2 ^ m = T := ⟨_, rfl⟩
            have hTi : (2 : Int) ^ m = (T : Int) := by rw [← hT]; simp
            rw [hT] at h2 hpartH hcalmH
            have hTH := Lib.hid hT
            clear hT
            go_wp2_with fail
            go_loopw [8, 11] (fun z i wr => ∃ (s x : Nat), s ≤ T ∧ i = .int .i64 (s : Int) ∧ z = .int .i64 (x : Int) ∧ Hid (sumR f s = x) ∧ Below V3.heap.size V3 wr) (fun _ i _ => T - (intOf i).toNat)
            case atStart => exact ⟨0, 0, Nat.zero_le _, rfl, rfl, Lib.hid rfl, Below.refl _ _⟩
            case round =>
              obtain ⟨s, x, hs, rfl, rfl, hx, hB⟩ := hrel
              by_cases hst : s < T
              case pos =>
                have e1 : decide ((s : Int) < (T : Int)) = true := decide_eq_true (by omega)
                have e1p : (s : Int) < (T : Int) := by omega
                have hxs := hpartH.out (s + 1) (by omega)
                rw [show sumR f (s + 1) = x + f s by rw [← hx.out]; rfl, hy.out] at hxs
                have kt := k1.below hB lk1
                have hbd : V3.heap.size ≤ wr.heap.size := hB.size
                have c0 := kt.cell (i := 0) rfl
                have c1 := kt.cell (i := 1) rfl
                have c2 := kt.cell (i := 2) rfl
                have c3 := kt.cell (i := 3) rfl
                go_wp2_with fail
                have hc := Start_any wr
                refine hc.mono ?_
                clear hc
                rintro e V81 ⟨rfl, hb⟩
                clear c0 c1 c2 c3
                replace kt := kt.below hb kt.lt
                replace hB := hB.trans (hb.mono hB.size)
                clear hb
                have c0 := kt.cell (i := 0) rfl
                have c1 := kt.cell (i := 1) rfl
                have c2 := kt.cell (i := 2) rfl
                have c3 := kt.cell (i := 3) rfl
                have hsz := hB.size
                have kd := Blk.new V81 38 #[.int .i64 0, .int .i64 0, .bool false]
                obtain ⟨bkd, hxkd⟩ : ∃ b, V81.heap.size = b := ⟨_, rfl⟩
                obtain ⟨V81a, hAkd⟩ : ∃ X, V81.alloc (.cells #[.int .i64 0, .int .i64 0, .bool false] 38) = X := ⟨_, rfl⟩
                have hba : Below V81.heap.size V81 V81a := alloc_below hAkd
                rw [hAkd, hxkd] at kd
                have hlekd : V81.heap.size ≤ bkd := by omega
                have ykd0 := kd.cell (i := 0) rfl
                have fykd0 := kd.frozen 0
                have ykd1 := kd.cell (i := 1) rfl
                have fykd1 := kd.frozen 1
                have ykd2 := kd.cell (i := 2) rfl
                have fykd2 := kd.frozen 2
                have kdn := put3_blk kd (.int .i64 0) (.int .i64 0) (.bool false)
                have hb : Below V81.heap.size V81 (put3 V81a bkd (.int .i64 0) (.int .i64 0) (.bool false)) := hba.trans (put3_below hlekd (.int .i64 0) (.int .i64 0) (.bool false))
                obtain ⟨V82, hPkd⟩ : ∃ X, put3 V81a bkd (.int .i64 0) (.int .i64 0) (.bool false) = X := ⟨_, rfl⟩
                rw [hPkd] at kdn hb
                replace kd := kdn
                clear kdn hba hlekd
                clear c0 c1 c2 c3
                replace kt := kt.below hb kt.lt
                replace hB := hB.trans (hb.mono hB.size)
                clear hb
                have c0 := kt.cell (i := 0) rfl
                have c1 := kt.cell (i := 1) rfl
                have c2 := kt.cell (i := 2) rfl
                have c3 := kt.cell (i := 3) rfl
                have d0 := kd.cell (i := 0) rfl
                have d1 := kd.cell (i := 1) rfl
                have d2 := kd.cell (i := 2) rfl
                obtain ⟨bd, hbdE⟩ : ∃ b, bkd = b := ⟨_, rfl⟩
                subst hbdE
                replace hbd : V3.heap.size ≤ bkd := by omega
                go_wp2_with fail
                clear hAkd hxkd hPkd ykd0 ykd1 ykd2 fykd0 fykd1 fykd2
                clear c0 c1 c2 c3 d0 d1 d2
                go_loopw [12, 14] (fun z i wr => ∃ (a hh : Nat) (al : Bool) (ww : Nat), a ≤ m ∧ i = .int .i64 (a : Int) ∧ z = .int .i64 (ww : Int) ∧ Hid (foldS (stepA rt ra) st0 s a = ⟨hh, al, ww⟩) ∧ hh ≤ a ∧ Blk wr bkd 38 #[.int .i64 (hh : Int), .int .i64 (a : Int), .bool al] ∧ Below V3.heap.size V3 wr) (fun _ i _ => m - (intOf i).toNat)
                case atStart => exact ⟨0, 0, false, 1, Nat.zero_le _, rfl, rfl, Lib.hid rfl, Nat.le_refl _, kd, hB⟩
                case round =>
                  clear kd kt
                  obtain ⟨a, hh, al, ww, ha, rfl, rfl, hw, hha, kd, hB⟩ := hrel
                  have kt := k1.below hB lk1
                  by_cases hat : a < m
                  case pos =>
                    have e2 : decide ((a : Int) < (m : Int)) = true := decide_eq_true (by omega)
                    have e2p : (a : Int) < (m : Int) := by omega
                    have hbit := bit_go s a (by omega)
                    by_cases hz0 : 0 < zn
                    case pos =>
                      have hzd : decide ((0 : Int) < (zn : Int)) = true := decide_eq_true (by omega)
                      have hzd2 : ((0 : Int) < (zn : Int)) := by omega
                      have hzn0 : ¬ zn = 0 := by omega
                      have hri : (8 * (a : Int) + (hh : Int)).tmod (zn : Int) = (((8 * a + hh) % zn : Nat) : Int) := by rw [show 8 * (a : Int) + (hh : Int) = ((8 * a + hh : Nat) : Int) by simp, ← Int.ofNat_tmod]
                      have hrie : (8 * (a : Int) + (hh : Int)) % (zn : Int) = (((8 * a + hh) % zn : Nat) : Int) := by simp
                      obtain ⟨rr, hrr⟩ : ∃ r, (8 * a + hh) % zn = r := ⟨_, rfl⟩
                      have hpn1 : ¬ ((pn : Int) + 1 = 0) := by omega
                      have hzn1 : ¬ ((zn : Int) = 0) := by omega
                      have hrl : rr < zn := by rw [← hrr]; exact Nat.mod_lt _ hz0
                      rw [hrr] at hri hrie
                      have rzc0 := rzH.out.later hB
                      have rzc := rzc0
                      rcases rzc0 with h0 | ⟨bz, oz, rfl, hbz, hcz⟩
                      · have := hznH.out; rw [h0] at this; simp at this; omega
                      have zc := hcz rr (by rw [hznH.out]; exact hrl)
                      obtain ⟨uu, huu⟩ : ∃ u, zs[rr]?.getD 0 = u := ⟨_, rfl⟩
                      rw [huu] at zc
                      have hub : uu < 256 := by
                        rw [← huu, List.getElem?_eq_getElem (by rw [hznH.out]; exact hrl)]
                        exact hzbH.out _ (List.getElem_mem _)
                      obtain ⟨R0, hR00⟩ : ∃ R, uu % (pn + 1) = R := ⟨_, rfl⟩
                      have hR0e : (uu : Int) % ((pn : Int) + 1) = (R0 : Int) := by rw [← hR00]; simp
                      have hR0 : (uu : Int).tmod ((pn : Int) + 1) = (R0 : Int) := by rw [Int.tmod_eq_emod_of_nonneg (by omega)]; exact hR0e
                      have hR0b : R0 ≤ 255 := by rw [← hR00]; have := Nat.mod_lt uu (show 0 < pn + 1 by omega); omega
                      have hrv := Lib.hid (show rt a hh = R0 by
                        rw [← hrtH.out]; unfold rtC
                        rw [if_neg (fun e => by have := hznH.out; rw [e] at this; simp at this; omega), hznH.out, hrr, huu, hR00])
                      clear hrr huu hcz hR00
                      cases hb' : s.testBit a with
                      | true =>
                        rw [hb'] at hbit
                        cases al with
                        | true =>
                          have hstep : foldS (stepA rt ra) st0 s (a + 1) = stepA rt ra a ⟨hh, true, ww⟩ true := by
                            show stepA rt ra a (foldS (stepA rt ra) st0 s a) (s.testBit a) = _
                            rw [hw.out, hb']
                          have b1 := (hbdH.out s (a + 1)).2
                          have b2 := h256H.out (a + 1) (by omega)
                          rw [hstep] at b1
                          simp only [stepA, if_true, Bool.true_or, hrv.out] at hstep b1
                          obtain ⟨PP, hP⟩ : ∃ P, ww * R0 = P := ⟨_, rfl⟩
                          have hPi : (ww : Int) * (R0 : Int) = (PP : Int) := by rw [← hP]; simp
                          rw [hP] at hstep b1
                          have hPb : PP ≤ 72057594037927936 := Nat.le_trans b1 b2
                          have htk := takeS_go (al := true) (hit := true) (h := hh) (r := a) hvtH.out hha (by omega)
                          simp only [if_true, Bool.true_or, hraH.out] at htk
                          have hstepH := Lib.hid hstep
                          have htkH := Lib.hid htk
                          clear hstep b1 b2 hP htk
                          have c0 := kt.cell (i := 0) rfl
                          have c1 := kt.cell (i := 1) rfl
                          have c2 := kt.cell (i := 2) rfl
                          have c3 := kt.cell (i := 3) rfl
                          have d0 := kd.cell (i := 0) rfl
                          have d1 := kd.cell (i := 1) rfl
                          have d2 := kd.cell (i := 2) rfl
                          go_wp2_with fail
                          have hS : Below wr.heap.size wr wr.drew := (Below.refl _ _).drew
                          clear c0 c1 c2 c3 d0 d1 d2
                          refine plain_region (fun W' => Below wr.heap.size wr W') 17 17 (by kernel_rfl) rfl ?_
                          simp only [Array.replicate_succ, Array.replicate_zero, List.push_toArray, List.nil_append, List.cons_append]
                          refine take_op 0 (v := ?zsometruetruev0) rfl (by kernel_rfl) (fun _ _ _ h => h) (by rfl) hS (fun w' hS' => ?zsometruetruey0) ?zsometruetruez0
                          case zsometruetruey0 =>
                            go_simp
                            rfl
                          simp only [List.setIfInBounds_toArray, List.set_cons_zero, List.set_cons_succ]
                          refine take_op 1 (v := ?zsometruetruev1) rfl (by kernel_rfl) (fun _ _ _ h => h) (by rfl) hS (fun w' hS' => ?zsometruetruey1) ?zsometruetruez1
                          case zsometruetruey1 =>
                            go_simp
                            rfl
                          simp only [List.setIfInBounds_toArray, List.set_cons_zero, List.set_cons_succ]
                          refine take_op 2 (v := ?zsometruetruev2) rfl (by kernel_rfl) (fun _ _ _ h => h) (by rfl) hS (fun w' hS' => ?zsometruetruey2) ?zsometruetruez2
                          case zsometruetruey2 =>
                            go_simp
                            try go_ints
                            rfl
                          simp only [List.setIfInBounds_toArray, List.set_cons_zero, List.set_cons_succ]
                          refine take_op 3 (v := ?zsometruetruev3) rfl (by kernel_rfl) (fun _ _ _ h => h) (by rfl) hS (fun w' hS' => ?zsometruetruey3) ?zsometruetruez3
                          case zsometruetruey3 =>
                            go_simp
                            rfl
                          simp only [List.setIfInBounds_toArray, List.set_cons_zero, List.set_cons_succ]
                          refine take_op 4 (v := ?zsometruetruev4) rfl (by kernel_rfl) (fun _ _ _ h => h) (by rfl) hS (fun w' hS' => ?zsometruetruey4) ?zsometruetruez4
                          case zsometruetruey4 =>
                            have fc := (kt.below hS' kt.lt).cell (i := 0) rfl
                            have fd0 := (kd.below hS' kd.lt).cell (i := 0) rfl
                            have fz := (hS'.cell (p := ⟨bz, oz + rr, none⟩) hbz).trans zc
                            clear hS'
                            go_simp
                            rfl
                          simp only [List.setIfInBounds_toArray, List.set_cons_zero, List.set_cons_succ]
                          refine take_op 5 (v := ?zsometruetruev5) rfl (by kernel_rfl) (fun _ _ _ h => h) (by rfl) hS (fun w' hS' => ?zsometruetruey5) ?zsometruetruez5
                          case zsometruetruey5 =>
                            go_simp
                            try go_ints
                            rfl
                          simp only [List.setIfInBounds_toArray, List.set_cons_zero, List.set_cons_succ]
                          refine take_op 6 (v := ?zsometruetruev6) rfl (by kernel_rfl) (fun _ _ _ h => h) (by rfl) hS (fun w' hS' => ?zsometruetruey6) ?zsometruetruez6
                          case zsometruetruey6 =>
                            go_simp
                            rfl
                          simp only [List.setIfInBounds_toArray, List.set_cons_zero, List.set_cons_succ]
                          refine take_op 7 (v := ?zsometruetruev7) rfl (by kernel_rfl) (fun _ _ _ h => h) (by rfl) hS (fun w' hS' => ?zsometruetruey7) ?zsometruetruez7
                          case zsometruetruey7 =>
                            go_simp
                            rfl
                          simp only [List.setIfInBounds_toArray, List.set_cons_zero, List.set_cons_succ]
                          refine take_op 8 (v := .int .i64 (rr : Int)) rfl (by kernel_rfl) (fun _ _ _ h => h) (by rfl) hS (fun w' hS' => ?zsometruetruey8) ?zsometruetruez8
                          case zsometruetruey8 =>
                            clear hS'
                            go_simp
                            try go_ints
                            try rw [if_neg (by omega)]
                            try simp only [hri, hrie]
                            first | done | rfl | trivial
                          simp only [List.setIfInBounds_toArray, List.set_cons_zero, List.set_cons_succ]
                          refine take_op 9 (v := ?zsometruetruev9) rfl (by kernel_rfl) (fun _ _ _ h => h) (by rfl) hS (fun w' hS' => ?zsometruetruey9) ?zsometruetruez9
                          case zsometruetruey9 =>
                            go_simp
                            try go_ints
                            first
                            | rfl
                            | (rw [if_pos (by omega)]; done)
                            | rw [if_pos ⟨by omega, by omega⟩]
                          simp only [List.setIfInBounds_toArray, List.set_cons_zero, List.set_cons_succ]
                          refine take_op 10 (v := ?zsometruetruev10) rfl (by kernel_rfl) (fun _ _ _ h => h) (by rfl) hS (fun w' hS' => ?zsometruetruey10) ?zsometruetruez10
                          case zsometruetruey10 =>
                            have fc := (kt.below hS' kt.lt).cell (i := 0) rfl
                            have fd0 := (kd.below hS' kd.lt).cell (i := 0) rfl
                            have fz := (hS'.cell (p := ⟨bz, oz + rr, none⟩) hbz).trans zc
                            clear hS'
                            go_simp
                            rfl
                          simp only [List.setIfInBounds_toArray, List.set_cons_zero, List.set_cons_succ]
                          refine take_op 11 (v := .int .i64 (uu : Int)) rfl (by kernel_rfl) (fun _ _ _ h => h) (by rfl) hS (fun w' hS' => ?zsometruetruey11) ?zsometruetruez11
                          case zsometruetruey11 =>
                            clear hS'
                            go_simp
                            try go_ints
                            try rw [if_neg (by omega)]
                            try simp only []
                            first | done | rfl | trivial
                          simp only [List.setIfInBounds_toArray, List.set_cons_zero, List.set_cons_succ]
                          refine take_op 12 (v := ?zsometruetruev12) rfl (by kernel_rfl) (fun _ _ _ h => h) (by rfl) hS (fun w' hS' => ?zsometruetruey12) ?zsometruetruez12
                          case zsometruetruey12 =>
                            go_simp
                            rfl
                          simp only [List.setIfInBounds_toArray, List.set_cons_zero, List.set_cons_succ]
                          refine take_op 13 (v := ?zsometruetruev13) rfl (by kernel_rfl) (fun _ _ _ h => h) (by rfl) hS (fun w' hS' => ?zsometruetruey13) ?zsometruetruez13
                          case zsometruetruey13 =>
                            have fc := (kt.below hS' kt.lt).cell (i := 0) rfl
                            have fd0 := (kd.below hS' kd.lt).cell (i := 0) rfl
                            have fz := (hS'.cell (p := ⟨bz, oz + rr, none⟩) hbz).trans zc
                            clear hS'
                            go_simp
                            rfl
                          simp only [List.setIfInBounds_toArray, List.set_cons_zero, List.set_cons_succ]
                          refine take_op 14 (v := ?zsometruetruev14) rfl (by kernel_rfl) (fun _ _ _ h => h) (by rfl) hS (fun w' hS' => ?zsometruetruey14) ?zsometruetruez14
                          case zsometruetruey14 =>
                            go_simp
                            try go_ints
                            rfl
                          simp only [List.setIfInBounds_toArray, List.set_cons_zero, List.set_cons_succ]
                          refine take_op 15 (v := .int .i64 (R0 : Int)) rfl (by kernel_rfl) (fun _ _ _ h => h) (by rfl) hS (fun w' hS' => ?zsometruetruey15) ?zsometruetruez15
                          case zsometruetruey15 =>
                            clear hS'
                            go_simp
                            try go_ints
                            try rw [if_neg (by omega)]
                            try simp only [hR0, hR0e]
                            first | done | rfl | trivial
                          simp only [List.setIfInBounds_toArray, List.set_cons_zero, List.set_cons_succ]
                          refine take_op 16 (v := ?zsometruetruev16) rfl (by kernel_rfl) (fun _ _ _ h => h) (by rfl) hS (fun w' hS' => ?zsometruetruey16) ?zsometruetruez16
                          case zsometruetruey16 =>
                            go_simp
                            rfl
                          simp only [List.setIfInBounds_toArray, List.set_cons_zero, List.set_cons_succ]
                          refine done_ops (by kernel_rfl) ?_
                          replace rzc := rzc.later hS
                          replace kt := kt.below hS kt.lt
                          replace kd := kd.below hS kd.lt
                          replace hB := hB.trans (hS.mono hB.size)
                          obtain ⟨wx, hwx⟩ : ∃ X : World, wr.drew = X := ⟨_, rfl⟩
                          rw [hwx] at rzc kt kd hB ⊢
                          clear hwx hS
                          have c0 := kt.cell (i := 0) rfl
                          have c1 := kt.cell (i := 1) rfl
                          have c2 := kt.cell (i := 2) rfl
                          have c3 := kt.cell (i := 3) rfl
                          have d0 := kd.cell (i := 0) rfl
                          have d1 := kd.cell (i := 1) rfl
                          have d2 := kd.cell (i := 2) rfl
                          go_wp2_with fail
                          have hc := Take_any (pn : Int) (qn : Int) (nu : Int) (de : Int) (hh : Int) (a : Int) true true hn hd wx
                          rw [htkH.out] at hc
                          refine hc.mono ?_
                          clear hc
                          rintro e V51 ⟨rfl, hb⟩
                          clear c0 c1 c2 c3 d0 d1 d2
                          replace kt := kt.below hb kt.lt
                          replace kd := kd.below hb kd.lt
                          replace rzc := rzc.later hb
                          replace hB := hB.trans (hb.mono hB.size)
                          clear hb
                          have c0 := kt.cell (i := 0) rfl
                          have c1 := kt.cell (i := 1) rfl
                          have c2 := kt.cell (i := 2) rfl
                          have c3 := kt.cell (i := 3) rfl
                          have d0 := kd.cell (i := 0) rfl
                          have d1 := kd.cell (i := 1) rfl
                          have d2 := kd.cell (i := 2) rfl
                          have kx := Blk.new V51 38 #[.int .i64 0, .int .i64 0, .bool false]
                          obtain ⟨bkx, hxkx⟩ : ∃ b, V51.heap.size = b := ⟨_, rfl⟩
                          obtain ⟨V51a, hAkx⟩ : ∃ X, V51.alloc (.cells #[.int .i64 0, .int .i64 0, .bool false] 38) = X := ⟨_, rfl⟩
                          have hba : Below V51.heap.size V51 V51a := alloc_below hAkx
                          rw [hAkx, hxkx] at kx
                          have hlekx : V51.heap.size ≤ bkx := by omega
                          have ykx0 := kx.cell (i := 0) rfl
                          have fykx0 := kx.frozen 0
                          have ykx1 := kx.cell (i := 1) rfl
                          have fykx1 := kx.frozen 1
                          have ykx2 := kx.cell (i := 2) rfl
                          have fykx2 := kx.frozen 2
                          have kxn := put3_blk kx (.int .i64 ((hh : Int) + 1)) (.int .i64 ((a : Int) + 1)) (.bool true)
                          have hb : Below V51.heap.size V51 (put3 V51a bkx (.int .i64 ((hh : Int) + 1)) (.int .i64 ((a : Int) + 1)) (.bool true)) := hba.trans (put3_below hlekx (.int .i64 ((hh : Int) + 1)) (.int .i64 ((a : Int) + 1)) (.bool true))
                          obtain ⟨V52, hPkx⟩ : ∃ X, put3 V51a bkx (.int .i64 ((hh : Int) + 1)) (.int .i64 ((a : Int) + 1)) (.bool true) = X := ⟨_, rfl⟩
                          rw [hPkx] at kxn hb
                          replace kx := kxn
                          clear kxn hba hlekx
                          clear c0 c1 c2 c3 d0 d1 d2
                          replace kt := kt.below hb kt.lt
                          replace kd := kd.below hb kd.lt
                          replace rzc := rzc.later hb
                          replace hB := hB.trans (hb.mono hB.size)
                          clear hb
                          have c0 := kt.cell (i := 0) rfl
                          have c1 := kt.cell (i := 1) rfl
                          have c2 := kt.cell (i := 2) rfl
                          have c3 := kt.cell (i := 3) rfl
                          have d0 := kd.cell (i := 0) rfl
                          have d1 := kd.cell (i := 1) rfl
                          have d2 := kd.cell (i := 2) rfl
                          have x0 := kx.cell (i := 0) rfl
                          have x1 := kx.cell (i := 1) rfl
                          have x2 := kx.cell (i := 2) rfl
                          have fd0 := kd.frozen 0
                          have fd1 := kd.frozen 1
                          have fd2 := kd.frozen 2
                          have kdn := put3_blk kd (.int .i64 ((hh : Int) + 1)) (.int .i64 ((a : Int) + 1)) (.bool true)
                          have hbn : Below V3.heap.size V52 (put3 V52 bkd (.int .i64 ((hh : Int) + 1)) (.int .i64 ((a : Int) + 1)) (.bool true)) := put3_below hbd _ _ _
                          obtain ⟨wy, hwy⟩ : ∃ X, put3 V52 bkd (.int .i64 ((hh : Int) + 1)) (.int .i64 ((a : Int) + 1)) (.bool true) = X := ⟨_, rfl⟩
                          rw [hwy] at kdn hbn
                          replace hB := hB.trans hbn
                          clear hbn
                          go_wp2_with fail
                          go_roundw
                          case rel => exact ⟨a + 1, hh + 1, true, PP, by omega, by go_num, rfl, hstepH, by omega, kdn, hB⟩
                          case measure => simp [intOf]; omega
                        | false =>
                          have hstep : foldS (stepA rt ra) st0 s (a + 1) = stepA rt ra a ⟨hh, false, ww⟩ true := by
                            show stepA rt ra a (foldS (stepA rt ra) st0 s a) (s.testBit a) = _
                            rw [hw.out, hb']
                          have b1 := (hbdH.out s (a + 1)).2
                          have b2 := h256H.out (a + 1) (by omega)
                          rw [hstep] at b1
                          simp only [stepA, if_true, Bool.false_or, hrv.out] at hstep b1
                          obtain ⟨PP, hP⟩ : ∃ P, ww * R0 = P := ⟨_, rfl⟩
                          have hPi : (ww : Int) * (R0 : Int) = (PP : Int) := by rw [← hP]; simp
                          rw [hP] at hstep b1
                          have hPb : PP ≤ 72057594037927936 := Nat.le_trans b1 b2
                          have htk := takeS_go (al := false) (hit := true) (h := hh) (r := a) hvtH.out hha (by omega)
                          simp only [if_true, Bool.false_or, hraH.out] at htk
                          obtain ⟨nx, hnx⟩ : ∃ b, ra (hh + 1) (a + 1 - (hh + 1)) = b := ⟨_, rfl⟩
                          rw [hnx] at hstep htk
                          have hstepH := Lib.hid hstep
                          have htkH := Lib.hid htk
                          clear hstep b1 b2 hP htk hnx
                          have c0 := kt.cell (i := 0) rfl
                          have c1 := kt.cell (i := 1) rfl
                          have c2 := kt.cell (i := 2) rfl
                          have c3 := kt.cell (i := 3) rfl
                          have d0 := kd.cell (i := 0) rfl
                          have d1 := kd.cell (i := 1) rfl
                          have d2 := kd.cell (i := 2) rfl
                          go_wp2_with fail
                          have hS : Below wr.heap.size wr wr.drew := (Below.refl _ _).drew
                          clear c0 c1 c2 c3 d0 d1 d2
                          refine plain_region (fun W' => Below wr.heap.size wr W') 17 17 (by kernel_rfl) rfl ?_
                          simp only [Array.replicate_succ, Array.replicate_zero, List.push_toArray, List.nil_append, List.cons_append]
                          refine take_op 0 (v := ?zsometruefalsev0) rfl (by kernel_rfl) (fun _ _ _ h => h) (by rfl) hS (fun w' hS' => ?zsometruefalsey0) ?zsometruefalsez0
                          case zsometruefalsey0 =>
                            go_simp
                            rfl
                          simp only [List.setIfInBounds_toArray, List.set_cons_zero, List.set_cons_succ]
                          refine take_op 1 (v := ?zsometruefalsev1) rfl (by kernel_rfl) (fun _ _ _ h => h) (by rfl) hS (fun w' hS' => ?zsometruefalsey1) ?zsometruefalsez1
                          case zsometruefalsey1 =>
                            go_simp
                            rfl
                          simp only [List.setIfInBounds_toArray, List.set_cons_zero, List.set_cons_succ]
                          refine take_op 2 (v := ?zsometruefalsev2) rfl (by kernel_rfl) (fun _ _ _ h => h) (by rfl) hS (fun w' hS' => ?zsometruefalsey2) ?zsometruefalsez2
                          case zsometruefalsey2 =>
                            go_simp
                            try go_ints
                            rfl
                          simp only [List.setIfInBounds_toArray, List.set_cons_zero, List.set_cons_succ]
                          refine take_op 3 (v := ?zsometruefalsev3) rfl (by kernel_rfl) (fun _ _ _ h => h) (by rfl) hS (fun w' hS' => ?zsometruefalsey3) ?zsometruefalsez3
                          case zsometruefalsey3 =>
                            go_simp
                            rfl
                          simp only [List.setIfInBounds_toArray, List.set_cons_zero, List.set_cons_succ]
                          refine take_op 4 (v := ?zsometruefalsev4) rfl (by kernel_rfl) (fun _ _ _ h => h) (by rfl) hS (fun w' hS' => ?zsometruefalsey4) ?zsometruefalsez4
                          case zsometruefalsey4 =>
                            have fc := (kt.below hS' kt.lt).cell (i := 0) rfl
                            have fd0 := (kd.below hS' kd.lt).cell (i := 0) rfl
                            have fz := (hS'.cell (p := ⟨bz, oz + rr, none⟩) hbz).trans zc
                            clear hS'
                            go_simp
                            rfl
                          simp only [List.setIfInBounds_toArray, List.set_cons_zero, List.set_cons_succ]
                          refine take_op 5 (v := ?zsometruefalsev5) rfl (by kernel_rfl) (fun _ _ _ h => h) (by rfl) hS (fun w' hS' => ?zsometruefalsey5) ?zsometruefalsez5
                          case zsometruefalsey5 =>
                            go_simp
                            try go_ints
                            rfl
                          simp only [List.setIfInBounds_toArray, List.set_cons_zero, List.set_cons_succ]
                          refine take_op 6 (v := ?zsometruefalsev6) rfl (by kernel_rfl) (fun _ _ _ h => h) (by rfl) hS (fun w' hS' => ?zsometruefalsey6) ?zsometruefalsez6
                          case zsometruefalsey6 =>
                            go_simp
                            rfl
                          simp only [List.setIfInBounds_toArray, List.set_cons_zero, List.set_cons_succ]
                          refine take_op 7 (v := ?zsometruefalsev7) rfl (by kernel_rfl) (fun _ _ _ h => h) (by rfl) hS (fun w' hS' => ?zsometruefalsey7) ?zsometruefalsez7
                          case zsometruefalsey7 =>
                            go_simp
                            rfl
                          simp only [List.setIfInBounds_toArray, List.set_cons_zero, List.set_cons_succ]
                          refine take_op 8 (v := .int .i64 (rr : Int)) rfl (by kernel_rfl) (fun _ _ _ h => h) (by rfl) hS (fun w' hS' => ?zsometruefalsey8) ?zsometruefalsez8
                          case zsometruefalsey8 =>
                            clear hS'
                            go_simp
                            try go_ints
                            try rw [if_neg (by omega)]
                            try simp only [hri, hrie]
                            first | done | rfl | trivial
                          simp only [List.setIfInBounds_toArray, List.set_cons_zero, List.set_cons_succ]
                          refine take_op 9 (v := ?zsometruefalsev9) rfl (by kernel_rfl) (fun _ _ _ h => h) (by rfl) hS (fun w' hS' => ?zsometruefalsey9) ?zsometruefalsez9
                          case zsometruefalsey9 =>
                            go_simp
                            try go_ints
                            first
                            | rfl
                            | (rw [if_pos (by omega)]; done)
                            | rw [if_pos ⟨by omega, by omega⟩]
                          simp only [List.setIfInBounds_toArray, List.set_cons_zero, List.set_cons_succ]
                          refine take_op 10 (v := ?zsometruefalsev10) rfl (by kernel_rfl) (fun _ _ _ h => h) (by rfl) hS (fun w' hS' => ?zsometruefalsey10) ?zsometruefalsez10
                          case zsometruefalsey10 =>
                            have fc := (kt.below hS' kt.lt).cell (i := 0) rfl
                            have fd0 := (kd.below hS' kd.lt).cell (i := 0) rfl
                            have fz := (hS'.cell (p := ⟨bz, oz + rr, none⟩) hbz).trans zc
                            clear hS'
                            go_simp
                            rfl
                          simp only [List.setIfInBounds_toArray, List.set_cons_zero, List.set_cons_succ]
                          refine take_op 11 (v := .int .i64 (uu : Int)) rfl (by kernel_rfl) (fun _ _ _ h => h) (by rfl) hS (fun w' hS' => ?zsometruefalsey11) ?zsometruefalsez11
                          case zsometruefalsey11 =>
                            clear hS'
                            go_simp
                            try go_ints
                            try rw [if_neg (by omega)]
                            try simp only []
                            first | done | rfl | trivial
                          simp only [List.setIfInBounds_toArray, List.set_cons_zero, List.set_cons_succ]
                          refine take_op 12 (v := ?zsometruefalsev12) rfl (by kernel_rfl) (fun _ _ _ h => h) (by rfl) hS (fun w' hS' => ?zsometruefalsey12) ?zsometruefalsez12
                          case zsometruefalsey12 =>
                            go_simp
                            rfl
                          simp only [List.setIfInBounds_toArray, List.set_cons_zero, List.set_cons_succ]
                          refine take_op 13 (v := ?zsometruefalsev13) rfl (by kernel_rfl) (fun _ _ _ h => h) (by rfl) hS (fun w' hS' => ?zsometruefalsey13) ?zsometruefalsez13
                          case zsometruefalsey13 =>
                            have fc := (kt.below hS' kt.lt).cell (i := 0) rfl
                            have fd0 := (kd.below hS' kd.lt).cell (i := 0) rfl
                            have fz := (hS'.cell (p := ⟨bz, oz + rr, none⟩) hbz).trans zc
                            clear hS'
                            go_simp
                            rfl
                          simp only [List.setIfInBounds_toArray, List.set_cons_zero, List.set_cons_succ]
                          refine take_op 14 (v := ?zsometruefalsev14) rfl (by kernel_rfl) (fun _ _ _ h => h) (by rfl) hS (fun w' hS' => ?zsometruefalsey14) ?zsometruefalsez14
                          case zsometruefalsey14 =>
                            go_simp
                            try go_ints
                            rfl
                          simp only [List.setIfInBounds_toArray, List.set_cons_zero, List.set_cons_succ]
                          refine take_op 15 (v := .int .i64 (R0 : Int)) rfl (by kernel_rfl) (fun _ _ _ h => h) (by rfl) hS (fun w' hS' => ?zsometruefalsey15) ?zsometruefalsez15
                          case zsometruefalsey15 =>
                            clear hS'
                            go_simp
                            try go_ints
                            try rw [if_neg (by omega)]
                            try simp only [hR0, hR0e]
                            first | done | rfl | trivial
                          simp only [List.setIfInBounds_toArray, List.set_cons_zero, List.set_cons_succ]
                          refine take_op 16 (v := ?zsometruefalsev16) rfl (by kernel_rfl) (fun _ _ _ h => h) (by rfl) hS (fun w' hS' => ?zsometruefalsey16) ?zsometruefalsez16
                          case zsometruefalsey16 =>
                            go_simp
                            rfl
                          simp only [List.setIfInBounds_toArray, List.set_cons_zero, List.set_cons_succ]
                          refine done_ops (by kernel_rfl) ?_
                          replace rzc := rzc.later hS
                          replace kt := kt.below hS kt.lt
                          replace kd := kd.below hS kd.lt
                          replace hB := hB.trans (hS.mono hB.size)
                          obtain ⟨wx, hwx⟩ : ∃ X : World, wr.drew = X := ⟨_, rfl⟩
                          rw [hwx] at rzc kt kd hB ⊢
                          clear hwx hS
                          have c0 := kt.cell (i := 0) rfl
                          have c1 := kt.cell (i := 1) rfl
                          have c2 := kt.cell (i := 2) rfl
                          have c3 := kt.cell (i := 3) rfl
                          have d0 := kd.cell (i := 0) rfl
                          have d1 := kd.cell (i := 1) rfl
                          have d2 := kd.cell (i := 2) rfl
                          go_wp2_with fail
                          have hc := Take_any (pn : Int) (qn : Int) (nu : Int) (de : Int) (hh : Int) (a : Int) false true hn hd wx
                          rw [htkH.out] at hc
                          refine hc.mono ?_
                          clear hc
                          rintro e V51 ⟨rfl, hb⟩
                          clear c0 c1 c2 c3 d0 d1 d2
                          replace kt := kt.below hb kt.lt
                          replace kd := kd.below hb kd.lt
                          replace rzc := rzc.later hb
                          replace hB := hB.trans (hb.mono hB.size)
                          clear hb
                          have c0 := kt.cell (i := 0) rfl
                          have c1 := kt.cell (i := 1) rfl
                          have c2 := kt.cell (i := 2) rfl
                          have c3 := kt.cell (i := 3) rfl
                          have d0 := kd.cell (i := 0) rfl
                          have d1 := kd.cell (i := 1) rfl
                          have d2 := kd.cell (i := 2) rfl
                          have kx := Blk.new V51 38 #[.int .i64 0, .int .i64 0, .bool false]
                          obtain ⟨bkx, hxkx⟩ : ∃ b, V51.heap.size = b := ⟨_, rfl⟩
                          obtain ⟨V51a, hAkx⟩ : ∃ X, V51.alloc (.cells #[.int .i64 0, .int .i64 0, .bool false] 38) = X := ⟨_, rfl⟩
                          have hba : Below V51.heap.size V51 V51a := alloc_below hAkx
                          rw [hAkx, hxkx] at kx
                          have hlekx : V51.heap.size ≤ bkx := by omega
                          have ykx0 := kx.cell (i := 0) rfl
                          have fykx0 := kx.frozen 0
                          have ykx1 := kx.cell (i := 1) rfl
                          have fykx1 := kx.frozen 1
                          have ykx2 := kx.cell (i := 2) rfl
                          have fykx2 := kx.frozen 2
                          have kxn := put3_blk kx (.int .i64 ((hh : Int) + 1)) (.int .i64 ((a : Int) + 1)) (.bool nx)
                          have hb : Below V51.heap.size V51 (put3 V51a bkx (.int .i64 ((hh : Int) + 1)) (.int .i64 ((a : Int) + 1)) (.bool nx)) := hba.trans (put3_below hlekx (.int .i64 ((hh : Int) + 1)) (.int .i64 ((a : Int) + 1)) (.bool nx))
                          obtain ⟨V52, hPkx⟩ : ∃ X, put3 V51a bkx (.int .i64 ((hh : Int) + 1)) (.int .i64 ((a : Int) + 1)) (.bool nx) = X := ⟨_, rfl⟩
                          rw [hPkx] at kxn hb
                          replace kx := kxn
                          clear kxn hba hlekx
                          clear c0 c1 c2 c3 d0 d1 d2
                          replace kt := kt.below hb kt.lt
                          replace kd := kd.below hb kd.lt
                          replace rzc := rzc.later hb
                          replace hB := hB.trans (hb.mono hB.size)
                          clear hb
                          have c0 := kt.cell (i := 0) rfl
                          have c1 := kt.cell (i := 1) rfl
                          have c2 := kt.cell (i := 2) rfl
                          have c3 := kt.cell (i := 3) rfl
                          have d0 := kd.cell (i := 0) rfl
                          have d1 := kd.cell (i := 1) rfl
                          have d2 := kd.cell (i := 2) rfl
                          have x0 := kx.cell (i := 0) rfl
                          have x1 := kx.cell (i := 1) rfl
                          have x2 := kx.cell (i := 2) rfl
                          have fd0 := kd.frozen 0
                          have fd1 := kd.frozen 1
                          have fd2 := kd.frozen 2
                          have kdn := put3_blk kd (.int .i64 ((hh : Int) + 1)) (.int .i64 ((a : Int) + 1)) (.bool nx)
                          have hbn : Below V3.heap.size V52 (put3 V52 bkd (.int .i64 ((hh : Int) + 1)) (.int .i64 ((a : Int) + 1)) (.bool nx)) := put3_below hbd _ _ _
                          obtain ⟨wy, hwy⟩ : ∃ X, put3 V52 bkd (.int .i64 ((hh : Int) + 1)) (.int .i64 ((a : Int) + 1)) (.bool nx) = X := ⟨_, rfl⟩
                          rw [hwy] at kdn hbn
                          replace hB := hB.trans hbn
                          clear hbn
                          go_wp2_with fail
                          go_roundw
                          case rel => exact ⟨a + 1, hh + 1, nx, PP, by omega, by go_num, rfl, hstepH, by omega, kdn, hB⟩
                          case measure => simp [intOf]; omega
                      | false =>
                        rw [hb'] at hbit
                        cases al with
                        | true =>
                          have hstep : foldS (stepA rt ra) st0 s (a + 1) = stepA rt ra a ⟨hh, true, ww⟩ false := by
                            show stepA rt ra a (foldS (stepA rt ra) st0 s a) (s.testBit a) = _
                            rw [hw.out, hb']
                          have b1 := (hbdH.out s (a + 1)).2
                          have b2 := h256H.out (a + 1) (by omega)
                          rw [hstep] at b1
                          simp only [stepA, Bool.false_eq_true, if_false, Bool.true_or, hrv.out] at hstep b1
                          obtain ⟨Q0, hQ0⟩ : ∃ Q : Nat, 256 - R0 = Q := ⟨_, rfl⟩
                          have hQi : (256 : Int) - (R0 : Int) = (Q0 : Int) := by omega
                          rw [hQ0] at hstep b1
                          obtain ⟨PP, hP⟩ : ∃ P, ww * Q0 = P := ⟨_, rfl⟩
                          have hPi : (ww : Int) * (Q0 : Int) = (PP : Int) := by rw [← hP]; simp
                          rw [hP] at hstep b1
                          have hPb : PP ≤ 72057594037927936 := Nat.le_trans b1 b2
                          have htk := takeS_go (al := true) (hit := false) (h := hh) (r := a) hvtH.out hha (by omega)
                          simp only [Bool.false_eq_true, if_false, Bool.true_or, hraH.out] at htk
                          have hstepH := Lib.hid hstep
                          have htkH := Lib.hid htk
                          clear hstep b1 b2 hP htk hQ0
                          have c0 := kt.cell (i := 0) rfl
                          have c1 := kt.cell (i := 1) rfl
                          have c2 := kt.cell (i := 2) rfl
                          have c3 := kt.cell (i := 3) rfl
                          have d0 := kd.cell (i := 0) rfl
                          have d1 := kd.cell (i := 1) rfl
                          have d2 := kd.cell (i := 2) rfl
                          go_wp2_with fail
                          have hS : Below wr.heap.size wr wr.drew := (Below.refl _ _).drew
                          clear c0 c1 c2 c3 d0 d1 d2
                          refine plain_region (fun W' => Below wr.heap.size wr W') 17 17 (by kernel_rfl) rfl ?_
                          simp only [Array.replicate_succ, Array.replicate_zero, List.push_toArray, List.nil_append, List.cons_append]
                          refine take_op 0 (v := ?zsomefalsetruev0) rfl (by kernel_rfl) (fun _ _ _ h => h) (by rfl) hS (fun w' hS' => ?zsomefalsetruey0) ?zsomefalsetruez0
                          case zsomefalsetruey0 =>
                            go_simp
                            rfl
                          simp only [List.setIfInBounds_toArray, List.set_cons_zero, List.set_cons_succ]
                          refine take_op 1 (v := ?zsomefalsetruev1) rfl (by kernel_rfl) (fun _ _ _ h => h) (by rfl) hS (fun w' hS' => ?zsomefalsetruey1) ?zsomefalsetruez1
                          case zsomefalsetruey1 =>
                            go_simp
                            rfl
                          simp only [List.setIfInBounds_toArray, List.set_cons_zero, List.set_cons_succ]
                          refine take_op 2 (v := ?zsomefalsetruev2) rfl (by kernel_rfl) (fun _ _ _ h => h) (by rfl) hS (fun w' hS' => ?zsomefalsetruey2) ?zsomefalsetruez2
                          case zsomefalsetruey2 =>
                            go_simp
                            try go_ints
                            rfl
                          simp only [List.setIfInBounds_toArray, List.set_cons_zero, List.set_cons_succ]
                          refine take_op 3 (v := ?zsomefalsetruev3) rfl (by kernel_rfl) (fun _ _ _ h => h) (by rfl) hS (fun w' hS' => ?zsomefalsetruey3) ?zsomefalsetruez3
                          case zsomefalsetruey3 =>
                            go_simp
                            rfl
                          simp only [List.setIfInBounds_toArray, List.set_cons_zero, List.set_cons_succ]
                          refine take_op 4 (v := ?zsomefalsetruev4) rfl (by kernel_rfl) (fun _ _ _ h => h) (by rfl) hS (fun w' hS' => ?zsomefalsetruey4) ?zsomefalsetruez4
                          case zsomefalsetruey4 =>
                            have fc := (kt.below hS' kt.lt).cell (i := 0) rfl
                            have fd0 := (kd.below hS' kd.lt).cell (i := 0) rfl
                            have fz := (hS'.cell (p := ⟨bz, oz + rr, none⟩) hbz).trans zc
                            clear hS'
                            go_simp
                            rfl
                          simp only [List.setIfInBounds_toArray, List.set_cons_zero, List.set_cons_succ]
                          refine take_op 5 (v := ?zsomefalsetruev5) rfl (by kernel_rfl) (fun _ _ _ h => h) (by rfl) hS (fun w' hS' => ?zsomefalsetruey5) ?zsomefalsetruez5
                          case zsomefalsetruey5 =>
                            go_simp
                            try go_ints
                            rfl
                          simp only [List.setIfInBounds_toArray, List.set_cons_zero, List.set_cons_succ]
                          refine take_op 6 (v := ?zsomefalsetruev6) rfl (by kernel_rfl) (fun _ _ _ h => h) (by rfl) hS (fun w' hS' => ?zsomefalsetruey6) ?zsomefalsetruez6
                          case zsomefalsetruey6 =>
                            go_simp
                            rfl
                          simp only [List.setIfInBounds_toArray, List.set_cons_zero, List.set_cons_succ]
                          refine take_op 7 (v := ?zsomefalsetruev7) rfl (by kernel_rfl) (fun _ _ _ h => h) (by rfl) hS (fun w' hS' => ?zsomefalsetruey7) ?zsomefalsetruez7
                          case zsomefalsetruey7 =>
                            go_simp
                            rfl
                          simp only [List.setIfInBounds_toArray, List.set_cons_zero, List.set_cons_succ]
                          refine take_op 8 (v := .int .i64 (rr : Int)) rfl (by kernel_rfl) (fun _ _ _ h => h) (by rfl) hS (fun w' hS' => ?zsomefalsetruey8) ?zsomefalsetruez8
                          case zsomefalsetruey8 =>
                            clear hS'
                            go_simp
                            try go_ints
                            try rw [if_neg (by omega)]
                            try simp only [hri, hrie]
                            first | done | rfl | trivial
                          simp only [List.setIfInBounds_toArray, List.set_cons_zero, List.set_cons_succ]
                          refine take_op 9 (v := ?zsomefalsetruev9) rfl (by kernel_rfl) (fun _ _ _ h => h) (by rfl) hS (fun w' hS' => ?zsomefalsetruey9) ?zsomefalsetruez9
                          case zsomefalsetruey9 =>
                            go_simp
                            try go_ints
                            first
                            | rfl
                            | (rw [if_pos (by omega)]; done)
                            | rw [if_pos ⟨by omega, by omega⟩]
                          simp only [List.setIfInBounds_toArray, List.set_cons_zero, List.set_cons_succ]
                          refine take_op 10 (v := ?zsomefalsetruev10) rfl (by kernel_rfl) (fun _ _ _ h => h) (by rfl) hS (fun w' hS' => ?zsomefalsetruey10) ?zsomefalsetruez10
                          case zsomefalsetruey10 =>
                            have fc := (kt.below hS' kt.lt).cell (i := 0) rfl
                            have fd0 := (kd.below hS' kd.lt).cell (i := 0) rfl
                            have fz := (hS'.cell (p := ⟨bz, oz + rr, none⟩) hbz).trans zc
                            clear hS'
                            go_simp
                            rfl
                          simp only [List.setIfInBounds_toArray, List.set_cons_zero, List.set_cons_succ]
                          refine take_op 11 (v := .int .i64 (uu : Int)) rfl (by kernel_rfl) (fun _ _ _ h => h) (by rfl) hS (fun w' hS' => ?zsomefalsetruey11) ?zsomefalsetruez11
                          case zsomefalsetruey11 =>
                            clear hS'
                            go_simp
                            try go_ints
                            try rw [if_neg (by omega)]
                            try simp only []
                            first | done | rfl | trivial
                          simp only [List.setIfInBounds_toArray, List.set_cons_zero, List.set_cons_succ]
                          refine take_op 12 (v := ?zsomefalsetruev12) rfl (by kernel_rfl) (fun _ _ _ h => h) (by rfl) hS (fun w' hS' => ?zsomefalsetruey12) ?zsomefalsetruez12
                          case zsomefalsetruey12 =>
                            go_simp
                            rfl
                          simp only [List.setIfInBounds_toArray, List.set_cons_zero, List.set_cons_succ]
                          refine take_op 13 (v := ?zsomefalsetruev13) rfl (by kernel_rfl) (fun _ _ _ h => h) (by rfl) hS (fun w' hS' => ?zsomefalsetruey13) ?zsomefalsetruez13
                          case zsomefalsetruey13 =>
                            have fc := (kt.below hS' kt.lt).cell (i := 0) rfl
                            have fd0 := (kd.below hS' kd.lt).cell (i := 0) rfl
                            have fz := (hS'.cell (p := ⟨bz, oz + rr, none⟩) hbz).trans zc
                            clear hS'
                            go_simp
                            rfl
                          simp only [List.setIfInBounds_toArray, List.set_cons_zero, List.set_cons_succ]
                          refine take_op 14 (v := ?zsomefalsetruev14) rfl (by kernel_rfl) (fun _ _ _ h => h) (by rfl) hS (fun w' hS' => ?zsomefalsetruey14) ?zsomefalsetruez14
                          case zsomefalsetruey14 =>
                            go_simp
                            try go_ints
                            rfl
                          simp only [List.setIfInBounds_toArray, List.set_cons_zero, List.set_cons_succ]
                          refine take_op 15 (v := .int .i64 (R0 : Int)) rfl (by kernel_rfl) (fun _ _ _ h => h) (by rfl) hS (fun w' hS' => ?zsomefalsetruey15) ?zsomefalsetruez15
                          case zsomefalsetruey15 =>
                            clear hS'
                            go_simp
                            try go_ints
                            try rw [if_neg (by omega)]
                            try simp only [hR0, hR0e]
                            first | done | rfl | trivial
                          simp only [List.setIfInBounds_toArray, List.set_cons_zero, List.set_cons_succ]
                          refine take_op 16 (v := ?zsomefalsetruev16) rfl (by kernel_rfl) (fun _ _ _ h => h) (by rfl) hS (fun w' hS' => ?zsomefalsetruey16) ?zsomefalsetruez16
                          case zsomefalsetruey16 =>
                            go_simp
                            rfl
                          simp only [List.setIfInBounds_toArray, List.set_cons_zero, List.set_cons_succ]
                          refine done_ops (by kernel_rfl) ?_
                          replace rzc := rzc.later hS
                          replace kt := kt.below hS kt.lt
                          replace kd := kd.below hS kd.lt
                          replace hB := hB.trans (hS.mono hB.size)
                          obtain ⟨wx, hwx⟩ : ∃ X : World, wr.drew = X := ⟨_, rfl⟩
                          rw [hwx] at rzc kt kd hB ⊢
                          clear hwx hS
                          have c0 := kt.cell (i := 0) rfl
                          have c1 := kt.cell (i := 1) rfl
                          have c2 := kt.cell (i := 2) rfl
                          have c3 := kt.cell (i := 3) rfl
                          have d0 := kd.cell (i := 0) rfl
                          have d1 := kd.cell (i := 1) rfl
                          have d2 := kd.cell (i := 2) rfl
                          go_wp2_with fail
                          have hc := Take_any (pn : Int) (qn : Int) (nu : Int) (de : Int) (hh : Int) (a : Int) true false hn hd wx
                          rw [htkH.out] at hc
                          refine hc.mono ?_
                          clear hc
                          rintro e V51 ⟨rfl, hb⟩
                          clear c0 c1 c2 c3 d0 d1 d2
                          replace kt := kt.below hb kt.lt
                          replace kd := kd.below hb kd.lt
                          replace rzc := rzc.later hb
                          replace hB := hB.trans (hb.mono hB.size)
                          clear hb
                          have c0 := kt.cell (i := 0) rfl
                          have c1 := kt.cell (i := 1) rfl
                          have c2 := kt.cell (i := 2) rfl
                          have c3 := kt.cell (i := 3) rfl
                          have d0 := kd.cell (i := 0) rfl
                          have d1 := kd.cell (i := 1) rfl
                          have d2 := kd.cell (i := 2) rfl
                          have kx := Blk.new V51 38 #[.int .i64 0, .int .i64 0, .bool false]
                          obtain ⟨bkx, hxkx⟩ : ∃ b, V51.heap.size = b := ⟨_, rfl⟩
                          obtain ⟨V51a, hAkx⟩ : ∃ X, V51.alloc (.cells #[.int .i64 0, .int .i64 0, .bool false] 38) = X := ⟨_, rfl⟩
                          have hba : Below V51.heap.size V51 V51a := alloc_below hAkx
                          rw [hAkx, hxkx] at kx
                          have hlekx : V51.heap.size ≤ bkx := by omega
                          have ykx0 := kx.cell (i := 0) rfl
                          have fykx0 := kx.frozen 0
                          have ykx1 := kx.cell (i := 1) rfl
                          have fykx1 := kx.frozen 1
                          have ykx2 := kx.cell (i := 2) rfl
                          have fykx2 := kx.frozen 2
                          have kxn := put3_blk kx (.int .i64 (hh : Int)) (.int .i64 ((a : Int) + 1)) (.bool true)
                          have hb : Below V51.heap.size V51 (put3 V51a bkx (.int .i64 (hh : Int)) (.int .i64 ((a : Int) + 1)) (.bool true)) := hba.trans (put3_below hlekx (.int .i64 (hh : Int)) (.int .i64 ((a : Int) + 1)) (.bool true))
                          obtain ⟨V52, hPkx⟩ : ∃ X, put3 V51a bkx (.int .i64 (hh : Int)) (.int .i64 ((a : Int) + 1)) (.bool true) = X := ⟨_, rfl⟩
                          rw [hPkx] at kxn hb
                          replace kx := kxn
                          clear kxn hba hlekx
                          clear c0 c1 c2 c3 d0 d1 d2
                          replace kt := kt.below hb kt.lt
                          replace kd := kd.below hb kd.lt
                          replace rzc := rzc.later hb
                          replace hB := hB.trans (hb.mono hB.size)
                          clear hb
                          have c0 := kt.cell (i := 0) rfl
                          have c1 := kt.cell (i := 1) rfl
                          have c2 := kt.cell (i := 2) rfl
                          have c3 := kt.cell (i := 3) rfl
                          have d0 := kd.cell (i := 0) rfl
                          have d1 := kd.cell (i := 1) rfl
                          have d2 := kd.cell (i := 2) rfl
                          have x0 := kx.cell (i := 0) rfl
                          have x1 := kx.cell (i := 1) rfl
                          have x2 := kx.cell (i := 2) rfl
                          have fd0 := kd.frozen 0
                          have fd1 := kd.frozen 1
                          have fd2 := kd.frozen 2
                          have kdn := put3_blk kd (.int .i64 (hh : Int)) (.int .i64 ((a : Int) + 1)) (.bool true)
                          have hbn : Below V3.heap.size V52 (put3 V52 bkd (.int .i64 (hh : Int)) (.int .i64 ((a : Int) + 1)) (.bool true)) := put3_below hbd _ _ _
                          obtain ⟨wy, hwy⟩ : ∃ X, put3 V52 bkd (.int .i64 (hh : Int)) (.int .i64 ((a : Int) + 1)) (.bool true) = X := ⟨_, rfl⟩
                          rw [hwy] at kdn hbn
                          replace hB := hB.trans hbn
                          clear hbn
                          go_wp2_with fail
                          go_roundw
                          case rel => exact ⟨a + 1, hh, true, PP, by omega, by go_num, rfl, hstepH, by omega, kdn, hB⟩
                          case measure => simp [intOf]; omega
                        | false =>
                          have hstep : foldS (stepA rt ra) st0 s (a + 1) = stepA rt ra a ⟨hh, false, ww⟩ false := by
                            show stepA rt ra a (foldS (stepA rt ra) st0 s a) (s.testBit a) = _
                            rw [hw.out, hb']
                          have b1 := (hbdH.out s (a + 1)).2
                          have b2 := h256H.out (a + 1) (by omega)
                          rw [hstep] at b1
                          simp only [stepA, Bool.false_eq_true, if_false, Bool.false_or, hrv.out] at hstep b1
                          obtain ⟨Q0, hQ0⟩ : ∃ Q : Nat, 256 - R0 = Q := ⟨_, rfl⟩
                          have hQi : (256 : Int) - (R0 : Int) = (Q0 : Int) := by omega
                          rw [hQ0] at hstep b1
                          obtain ⟨PP, hP⟩ : ∃ P, ww * Q0 = P := ⟨_, rfl⟩
                          have hPi : (ww : Int) * (Q0 : Int) = (PP : Int) := by rw [← hP]; simp
                          rw [hP] at hstep b1
                          have hPb : PP ≤ 72057594037927936 := Nat.le_trans b1 b2
                          have htk := takeS_go (al := false) (hit := false) (h := hh) (r := a) hvtH.out hha (by omega)
                          simp only [Bool.false_eq_true, if_false, Bool.false_or, hraH.out] at htk
                          obtain ⟨nx, hnx⟩ : ∃ b, ra (hh) (a + 1 - (hh)) = b := ⟨_, rfl⟩
                          rw [hnx] at hstep htk
                          have hstepH := Lib.hid hstep
                          have htkH := Lib.hid htk
                          clear hstep b1 b2 hP htk hnx hQ0
                          have c0 := kt.cell (i := 0) rfl
                          have c1 := kt.cell (i := 1) rfl
                          have c2 := kt.cell (i := 2) rfl
                          have c3 := kt.cell (i := 3) rfl
                          have d0 := kd.cell (i := 0) rfl
                          have d1 := kd.cell (i := 1) rfl
                          have d2 := kd.cell (i := 2) rfl
                          go_wp2_with fail
                          have hS : Below wr.heap.size wr wr.drew := (Below.refl _ _).drew
                          clear c0 c1 c2 c3 d0 d1 d2
                          refine plain_region (fun W' => Below wr.heap.size wr W') 17 17 (by kernel_rfl) rfl ?_
                          simp only [Array.replicate_succ, Array.replicate_zero, List.push_toArray, List.nil_append, List.cons_append]
                          refine take_op 0 (v := ?zsomefalsefalsev0) rfl (by kernel_rfl) (fun _ _ _ h => h) (by rfl) hS (fun w' hS' => ?zsomefalsefalsey0) ?zsomefalsefalsez0
                          case zsomefalsefalsey0 =>
                            go_simp
                            rfl
                          simp only [List.setIfInBounds_toArray, List.set_cons_zero, List.set_cons_succ]
                          refine take_op 1 (v := ?zsomefalsefalsev1) rfl (by kernel_rfl) (fun _ _ _ h => h) (by rfl) hS (fun w' hS' => ?zsomefalsefalsey1) ?zsomefalsefalsez1
                          case zsomefalsefalsey1 =>
                            go_simp
                            rfl
                          simp only [List.setIfInBounds_toArray, List.set_cons_zero, List.set_cons_succ]
                          refine take_op 2 (v := ?zsomefalsefalsev2) rfl (by kernel_rfl) (fun _ _ _ h => h) (by rfl) hS (fun w' hS' => ?zsomefalsefalsey2) ?zsomefalsefalsez2
                          case zsomefalsefalsey2 =>
                            go_simp
                            try go_ints
                            rfl
                          simp only [List.setIfInBounds_toArray, List.set_cons_zero, List.set_cons_succ]
                          refine take_op 3 (v := ?zsomefalsefalsev3) rfl (by kernel_rfl) (fun _ _ _ h => h) (by rfl) hS (fun w' hS' => ?zsomefalsefalsey3) ?zsomefalsefalsez3
                          case zsomefalsefalsey3 =>
                            go_simp
                            rfl
                          simp only [List.setIfInBounds_toArray, List.set_cons_zero, List.set_cons_succ]
                          refine take_op 4 (v := ?zsomefalsefalsev4) rfl (by kernel_rfl) (fun _ _ _ h => h) (by rfl) hS (fun w' hS' => ?zsomefalsefalsey4) ?zsomefalsefalsez4
                          case zsomefalsefalsey4 =>
                            have fc := (kt.below hS' kt.lt).cell (i := 0) rfl
                            have fd0 := (kd.below hS' kd.lt).cell (i := 0) rfl
                            have fz := (hS'.cell (p := ⟨bz, oz + rr, none⟩) hbz).trans zc
                            clear hS'
                            go_simp
                            rfl
                          simp only [List.setIfInBounds_toArray, List.set_cons_zero, List.set_cons_succ]
                          refine take_op 5 (v := ?zsomefalsefalsev5) rfl (by kernel_rfl) (fun _ _ _ h => h) (by rfl) hS (fun w' hS' => ?zsomefalsefalsey5) ?zsomefalsefalsez5
                          case zsomefalsefalsey5 =>
                            go_simp
                            try go_ints
                            rfl
                          simp only [List.setIfInBounds_toArray, List.set_cons_zero, List.set_cons_succ]
                          refine take_op 6 (v := ?zsomefalsefalsev6) rfl (by kernel_rfl) (fun _ _ _ h => h) (by rfl) hS (fun w' hS' => ?zsomefalsefalsey6) ?zsomefalsefalsez6
                          case zsomefalsefalsey6 =>
                            go_simp
                            rfl
                          simp only [List.setIfInBounds_toArray, List.set_cons_zero, List.set_cons_succ]
                          refine take_op 7 (v := ?zsomefalsefalsev7) rfl (by kernel_rfl) (fun _ _ _ h => h) (by rfl) hS (fun w' hS' => ?zsomefalsefalsey7) ?zsomefalsefalsez7
                          case zsomefalsefalsey7 =>
                            go_simp
                            rfl
                          simp only [List.setIfInBounds_toArray, List.set_cons_zero, List.set_cons_succ]
                          refine take_op 8 (v := .int .i64 (rr : Int)) rfl (by kernel_rfl) (fun _ _ _ h => h) (by rfl) hS (fun w' hS' => ?zsomefalsefalsey8) ?zsomefalsefalsez8
                          case zsomefalsefalsey8 =>
                            clear hS'
                            go_simp
                            try go_ints
                            try rw [if_neg (by omega)]
                            try simp only [hri, hrie]
                            first | done | rfl | trivial
                          simp only [List.setIfInBounds_toArray, List.set_cons_zero, List.set_cons_succ]
                          refine take_op 9 (v := ?zsomefalsefalsev9) rfl (by kernel_rfl) (fun _ _ _ h => h) (by rfl) hS (fun w' hS' => ?zsomefalsefalsey9) ?zsomefalsefalsez9
                          case zsomefalsefalsey9 =>
                            go_simp
                            try go_ints
                            first
                            | rfl
                            | (rw [if_pos (by omega)]; done)
                            | rw [if_pos ⟨by omega, by omega⟩]
                          simp only [List.setIfInBounds_toArray, List.set_cons_zero, List.set_cons_succ]
                          refine take_op 10 (v := ?zsomefalsefalsev10) rfl (by kernel_rfl) (fun _ _ _ h => h) (by rfl) hS (fun w' hS' => ?zsomefalsefalsey10) ?zsomefalsefalsez10
                          case zsomefalsefalsey10 =>
                            have fc := (kt.below hS' kt.lt).cell (i := 0) rfl
                            have fd0 := (kd.below hS' kd.lt).cell (i := 0) rfl
                            have fz := (hS'.cell (p := ⟨bz, oz + rr, none⟩) hbz).trans zc
                            clear hS'
                            go_simp
                            rfl
                          simp only [List.setIfInBounds_toArray, List.set_cons_zero, List.set_cons_succ]
                          refine take_op 11 (v := .int .i64 (uu : Int)) rfl (by kernel_rfl) (fun _ _ _ h => h) (by rfl) hS (fun w' hS' => ?zsomefalsefalsey11) ?zsomefalsefalsez11
                          case zsomefalsefalsey11 =>
                            clear hS'
                            go_simp
                            try go_ints
                            try rw [if_neg (by omega)]
                            try simp only []
                            first | done | rfl | trivial
                          simp only [List.setIfInBounds_toArray, List.set_cons_zero, List.set_cons_succ]
                          refine take_op 12 (v := ?zsomefalsefalsev12) rfl (by kernel_rfl) (fun _ _ _ h => h) (by rfl) hS (fun w' hS' => ?zsomefalsefalsey12) ?zsomefalsefalsez12
                          case zsomefalsefalsey12 =>
                            go_simp
                            rfl
                          simp only [List.setIfInBounds_toArray, List.set_cons_zero, List.set_cons_succ]
                          refine take_op 13 (v := ?zsomefalsefalsev13) rfl (by kernel_rfl) (fun _ _ _ h => h) (by rfl) hS (fun w' hS' => ?zsomefalsefalsey13) ?zsomefalsefalsez13
                          case zsomefalsefalsey13 =>
                            have fc := (kt.below hS' kt.lt).cell (i := 0) rfl
                            have fd0 := (kd.below hS' kd.lt).cell (i := 0) rfl
                            have fz := (hS'.cell (p := ⟨bz, oz + rr, none⟩) hbz).trans zc
                            clear hS'
                            go_simp
                            rfl
                          simp only [List.setIfInBounds_toArray, List.set_cons_zero, List.set_cons_succ]
                          refine take_op 14 (v := ?zsomefalsefalsev14) rfl (by kernel_rfl) (fun _ _ _ h => h) (by rfl) hS (fun w' hS' => ?zsomefalsefalsey14) ?zsomefalsefalsez14
                          case zsomefalsefalsey14 =>
                            go_simp
                            try go_ints
                            rfl
                          simp only [List.setIfInBounds_toArray, List.set_cons_zero, List.set_cons_succ]
                          refine take_op 15 (v := .int .i64 (R0 : Int)) rfl (by kernel_rfl) (fun _ _ _ h => h) (by rfl) hS (fun w' hS' => ?zsomefalsefalsey15) ?zsomefalsefalsez15
                          case zsomefalsefalsey15 =>
                            clear hS'
                            go_simp
                            try go_ints
                            try rw [if_neg (by omega)]
                            try simp only [hR0, hR0e]
                            first | done | rfl | trivial
                          simp only [List.setIfInBounds_toArray, List.set_cons_zero, List.set_cons_succ]
                          refine take_op 16 (v := ?zsomefalsefalsev16) rfl (by kernel_rfl) (fun _ _ _ h => h) (by rfl) hS (fun w' hS' => ?zsomefalsefalsey16) ?zsomefalsefalsez16
                          case zsomefalsefalsey16 =>
                            go_simp
                            rfl
                          simp only [List.setIfInBounds_toArray, List.set_cons_zero, List.set_cons_succ]
                          refine done_ops (by kernel_rfl) ?_
                          replace rzc := rzc.later hS
                          replace kt := kt.below hS kt.lt
                          replace kd := kd.below hS kd.lt
                          replace hB := hB.trans (hS.mono hB.size)
                          obtain ⟨wx, hwx⟩ : ∃ X : World, wr.drew = X := ⟨_, rfl⟩
                          rw [hwx] at rzc kt kd hB ⊢
                          clear hwx hS
                          have c0 := kt.cell (i := 0) rfl
                          have c1 := kt.cell (i := 1) rfl
                          have c2 := kt.cell (i := 2) rfl
                          have c3 := kt.cell (i := 3) rfl
                          have d0 := kd.cell (i := 0) rfl
                          have d1 := kd.cell (i := 1) rfl
                          have d2 := kd.cell (i := 2) rfl
                          go_wp2_with fail
                          have hc := Take_any (pn : Int) (qn : Int) (nu : Int) (de : Int) (hh : Int) (a : Int) false false hn hd wx
                          rw [htkH.out] at hc
                          refine hc.mono ?_
                          clear hc
                          rintro e V51 ⟨rfl, hb⟩
                          clear c0 c1 c2 c3 d0 d1 d2
                          replace kt := kt.below hb kt.lt
                          replace kd := kd.below hb kd.lt
                          replace rzc := rzc.later hb
                          replace hB := hB.trans (hb.mono hB.size)
                          clear hb
                          have c0 := kt.cell (i := 0) rfl
                          have c1 := kt.cell (i := 1) rfl
                          have c2 := kt.cell (i := 2) rfl
                          have c3 := kt.cell (i := 3) rfl
                          have d0 := kd.cell (i := 0) rfl
                          have d1 := kd.cell (i := 1) rfl
                          have d2 := kd.cell (i := 2) rfl
                          have kx := Blk.new V51 38 #[.int .i64 0, .int .i64 0, .bool false]
                          obtain ⟨bkx, hxkx⟩ : ∃ b, V51.heap.size = b := ⟨_, rfl⟩
                          obtain ⟨V51a, hAkx⟩ : ∃ X, V51.alloc (.cells #[.int .i64 0, .int .i64 0, .bool false] 38) = X := ⟨_, rfl⟩
                          have hba : Below V51.heap.size V51 V51a := alloc_below hAkx
                          rw [hAkx, hxkx] at kx
                          have hlekx : V51.heap.size ≤ bkx := by omega
                          have ykx0 := kx.cell (i := 0) rfl
                          have fykx0 := kx.frozen 0
                          have ykx1 := kx.cell (i := 1) rfl
                          have fykx1 := kx.frozen 1
                          have ykx2 := kx.cell (i := 2) rfl
                          have fykx2 := kx.frozen 2
                          have kxn := put3_blk kx (.int .i64 (hh : Int)) (.int .i64 ((a : Int) + 1)) (.bool nx)
                          have hb : Below V51.heap.size V51 (put3 V51a bkx (.int .i64 (hh : Int)) (.int .i64 ((a : Int) + 1)) (.bool nx)) := hba.trans (put3_below hlekx (.int .i64 (hh : Int)) (.int .i64 ((a : Int) + 1)) (.bool nx))
                          obtain ⟨V52, hPkx⟩ : ∃ X, put3 V51a bkx (.int .i64 (hh : Int)) (.int .i64 ((a : Int) + 1)) (.bool nx) = X := ⟨_, rfl⟩
                          rw [hPkx] at kxn hb
                          replace kx := kxn
                          clear kxn hba hlekx
                          clear c0 c1 c2 c3 d0 d1 d2
                          replace kt := kt.below hb kt.lt
                          replace kd := kd.below hb kd.lt
                          replace rzc := rzc.later hb
                          replace hB := hB.trans (hb.mono hB.size)
                          clear hb
                          have c0 := kt.cell (i := 0) rfl
                          have c1 := kt.cell (i := 1) rfl
                          have c2 := kt.cell (i := 2) rfl
                          have c3 := kt.cell (i := 3) rfl
                          have d0 := kd.cell (i := 0) rfl
                          have d1 := kd.cell (i := 1) rfl
                          have d2 := kd.cell (i := 2) rfl
                          have x0 := kx.cell (i := 0) rfl
                          have x1 := kx.cell (i := 1) rfl
                          have x2 := kx.cell (i := 2) rfl
                          have fd0 := kd.frozen 0
                          have fd1 := kd.frozen 1
                          have fd2 := kd.frozen 2
                          have kdn := put3_blk kd (.int .i64 (hh : Int)) (.int .i64 ((a : Int) + 1)) (.bool nx)
                          have hbn : Below V3.heap.size V52 (put3 V52 bkd (.int .i64 (hh : Int)) (.int .i64 ((a : Int) + 1)) (.bool nx)) := put3_below hbd _ _ _
                          obtain ⟨wy, hwy⟩ : ∃ X, put3 V52 bkd (.int .i64 (hh : Int)) (.int .i64 ((a : Int) + 1)) (.bool nx) = X := ⟨_, rfl⟩
                          rw [hwy] at kdn hbn
                          replace hB := hB.trans hbn
                          clear hbn
                          go_wp2_with fail
                          go_roundw
                          case rel => exact ⟨a + 1, hh, nx, PP, by omega, by go_num, rfl, hstepH, by omega, kdn, hB⟩
                          case measure => simp [intOf]; omega
                    case neg =>
                      have hzd : decide ((0 : Int) < (zn : Int)) = false := decide_eq_false (by omega)
                      have hzd2 : ¬ ((0 : Int) < (zn : Int)) := by omega
                      have rzc := rzH.out.later hB
                      have hR0b : pn ≤ 255 := by omega
                      have hrv := Lib.hid (show rt a hh = pn by
                        rw [← hrtH.out]; unfold rtC
                        rw [if_pos (List.eq_nil_of_length_eq_zero (by rw [hznH.out]; omega))])
                      cases hb' : s.testBit a with
                      | true =>
                        rw [hb'] at hbit
                        cases al with
                        | true =>
                          have hstep : foldS (stepA rt ra) st0 s (a + 1) = stepA rt ra a ⟨hh, true, ww⟩ true := by
                            show stepA rt ra a (foldS (stepA rt ra) st0 s a) (s.testBit a) = _
                            rw [hw.out, hb']
                          have b1 := (hbdH.out s (a + 1)).2
                          have b2 := h256H.out (a + 1) (by omega)
                          rw [hstep] at b1
                          simp only [stepA, if_true, Bool.true_or, hrv.out] at hstep b1
                          obtain ⟨PP, hP⟩ : ∃ P, ww * pn = P := ⟨_, rfl⟩
                          have hPi : (ww : Int) * (pn : Int) = (PP : Int) := by rw [← hP]; simp
                          rw [hP] at hstep b1
                          have hPb : PP ≤ 72057594037927936 := Nat.le_trans b1 b2
                          have htk := takeS_go (al := true) (hit := true) (h := hh) (r := a) hvtH.out hha (by omega)
                          simp only [if_true, Bool.true_or, hraH.out] at htk
                          have hstepH := Lib.hid hstep
                          have htkH := Lib.hid htk
                          clear hstep b1 b2 hP htk
                          have c0 := kt.cell (i := 0) rfl
                          have c1 := kt.cell (i := 1) rfl
                          have c2 := kt.cell (i := 2) rfl
                          have c3 := kt.cell (i := 3) rfl
                          have d0 := kd.cell (i := 0) rfl
                          have d1 := kd.cell (i := 1) rfl
                          have d2 := kd.cell (i := 2) rfl
                          go_wp2_with fail
                          have hc := Take_any (pn : Int) (qn : Int) (nu : Int) (de : Int) (hh : Int) (a : Int) true true hn hd wr
                          rw [htkH.out] at hc
                          refine hc.mono ?_
                          clear hc
                          rintro e V51 ⟨rfl, hb⟩
                          clear c0 c1 c2 c3 d0 d1 d2
                          replace kt := kt.below hb kt.lt
                          replace kd := kd.below hb kd.lt
                          replace rzc := rzc.later hb
                          replace hB := hB.trans (hb.mono hB.size)
                          clear hb
                          have c0 := kt.cell (i := 0) rfl
                          have c1 := kt.cell (i := 1) rfl
                          have c2 := kt.cell (i := 2) rfl
                          have c3 := kt.cell (i := 3) rfl
                          have d0 := kd.cell (i := 0) rfl
                          have d1 := kd.cell (i := 1) rfl
                          have d2 := kd.cell (i := 2) rfl
                          have kx := Blk.new V51 38 #[.int .i64 0, .int .i64 0, .bool false]
                          obtain ⟨bkx, hxkx⟩ : ∃ b, V51.heap.size = b := ⟨_, rfl⟩
                          obtain ⟨V51a, hAkx⟩ : ∃ X, V51.alloc (.cells #[.int .i64 0, .int .i64 0, .bool false] 38) = X := ⟨_, rfl⟩
                          have hba : Below V51.heap.size V51 V51a := alloc_below hAkx
                          rw [hAkx, hxkx] at kx
                          have hlekx : V51.heap.size ≤ bkx := by omega
                          have ykx0 := kx.cell (i := 0) rfl
                          have fykx0 := kx.frozen 0
                          have ykx1 := kx.cell (i := 1) rfl
                          have fykx1 := kx.frozen 1
                          have ykx2 := kx.cell (i := 2) rfl
                          have fykx2 := kx.frozen 2
                          have kxn := put3_blk kx (.int .i64 ((hh : Int) + 1)) (.int .i64 ((a : Int) + 1)) (.bool true)
                          have hb : Below V51.heap.size V51 (put3 V51a bkx (.int .i64 ((hh : Int) + 1)) (.int .i64 ((a : Int) + 1)) (.bool true)) := hba.trans (put3_below hlekx (.int .i64 ((hh : Int) + 1)) (.int .i64 ((a : Int) + 1)) (.bool true))
                          obtain ⟨V52, hPkx⟩ : ∃ X, put3 V51a bkx (.int .i64 ((hh : Int) + 1)) (.int .i64 ((a : Int) + 1)) (.bool true) = X := ⟨_, rfl⟩
                          rw [hPkx] at kxn hb
                          replace kx := kxn
                          clear kxn hba hlekx
                          clear c0 c1 c2 c3 d0 d1 d2
                          replace kt := kt.below hb kt.lt
                          replace kd := kd.below hb kd.lt
                          replace rzc := rzc.later hb
                          replace hB := hB.trans (hb.mono hB.size)
                          clear hb
                          have c0 := kt.cell (i := 0) rfl
                          have c1 := kt.cell (i := 1) rfl
                          have c2 := kt.cell (i := 2) rfl
                          have c3 := kt.cell (i := 3) rfl
                          have d0 := kd.cell (i := 0) rfl
                          have d1 := kd.cell (i := 1) rfl
                          have d2 := kd.cell (i := 2) rfl
                          have x0 := kx.cell (i := 0) rfl
                          have x1 := kx.cell (i := 1) rfl
                          have x2 := kx.cell (i := 2) rfl
                          have fd0 := kd.frozen 0
                          have fd1 := kd.frozen 1
                          have fd2 := kd.frozen 2
                          have kdn := put3_blk kd (.int .i64 ((hh : Int) + 1)) (.int .i64 ((a : Int) + 1)) (.bool true)
                          have hbn : Below V3.heap.size V52 (put3 V52 bkd (.int .i64 ((hh : Int) + 1)) (.int .i64 ((a : Int) + 1)) (.bool true)) := put3_below hbd _ _ _
                          obtain ⟨wy, hwy⟩ : ∃ X, put3 V52 bkd (.int .i64 ((hh : Int) + 1)) (.int .i64 ((a : Int) + 1)) (.bool true) = X := ⟨_, rfl⟩
                          rw [hwy] at kdn hbn
                          replace hB := hB.trans hbn
                          clear hbn
                          go_wp2_with fail
                          go_roundw
                          case rel => exact ⟨a + 1, hh + 1, true, PP, by omega, by go_num, rfl, hstepH, by omega, kdn, hB⟩
                          case measure => simp [intOf]; omega
                        | false =>
                          have hstep : foldS (stepA rt ra) st0 s (a + 1) = stepA rt ra a ⟨hh, false, ww⟩ true := by
                            show stepA rt ra a (foldS (stepA rt ra) st0 s a) (s.testBit a) = _
                            rw [hw.out, hb']
                          have b1 := (hbdH.out s (a + 1)).2
                          have b2 := h256H.out (a + 1) (by omega)
                          rw [hstep] at b1
                          simp only [stepA, if_true, Bool.false_or, hrv.out] at hstep b1
                          obtain ⟨PP, hP⟩ : ∃ P, ww * pn = P := ⟨_, rfl⟩
                          have hPi : (ww : Int) * (pn : Int) = (PP : Int) := by rw [← hP]; simp
                          rw [hP] at hstep b1
                          have hPb : PP ≤ 72057594037927936 := Nat.le_trans b1 b2
                          have htk := takeS_go (al := false) (hit := true) (h := hh) (r := a) hvtH.out hha (by omega)
                          simp only [if_true, Bool.false_or, hraH.out] at htk
                          obtain ⟨nx, hnx⟩ : ∃ b, ra (hh + 1) (a + 1 - (hh + 1)) = b := ⟨_, rfl⟩
                          rw [hnx] at hstep htk
                          have hstepH := Lib.hid hstep
                          have htkH := Lib.hid htk
                          clear hstep b1 b2 hP htk hnx
                          have c0 := kt.cell (i := 0) rfl
                          have c1 := kt.cell (i := 1) rfl
                          have c2 := kt.cell (i := 2) rfl
                          have c3 := kt.cell (i := 3) rfl
                          have d0 := kd.cell (i := 0) rfl
                          have d1 := kd.cell (i := 1) rfl
                          have d2 := kd.cell (i := 2) rfl
                          go_wp2_with fail
                          have hc := Take_any (pn : Int) (qn : Int) (nu : Int) (de : Int) (hh : Int) (a : Int) false true hn hd wr
                          rw [htkH.out] at hc
                          refine hc.mono ?_
                          clear hc
                          rintro e V51 ⟨rfl, hb⟩
                          clear c0 c1 c2 c3 d0 d1 d2
                          replace kt := kt.below hb kt.lt
                          replace kd := kd.below hb kd.lt
                          replace rzc := rzc.later hb
                          replace hB := hB.trans (hb.mono hB.size)
                          clear hb
                          have c0 := kt.cell (i := 0) rfl
                          have c1 := kt.cell (i := 1) rfl
                          have c2 := kt.cell (i := 2) rfl
                          have c3 := kt.cell (i := 3) rfl
                          have d0 := kd.cell (i := 0) rfl
                          have d1 := kd.cell (i := 1) rfl
                          have d2 := kd.cell (i := 2) rfl
                          have kx := Blk.new V51 38 #[.int .i64 0, .int .i64 0, .bool false]
                          obtain ⟨bkx, hxkx⟩ : ∃ b, V51.heap.size = b := ⟨_, rfl⟩
                          obtain ⟨V51a, hAkx⟩ : ∃ X, V51.alloc (.cells #[.int .i64 0, .int .i64 0, .bool false] 38) = X := ⟨_, rfl⟩
                          have hba : Below V51.heap.size V51 V51a := alloc_below hAkx
                          rw [hAkx, hxkx] at kx
                          have hlekx : V51.heap.size ≤ bkx := by omega
                          have ykx0 := kx.cell (i := 0) rfl
                          have fykx0 := kx.frozen 0
                          have ykx1 := kx.cell (i := 1) rfl
                          have fykx1 := kx.frozen 1
                          have ykx2 := kx.cell (i := 2) rfl
                          have fykx2 := kx.frozen 2
                          have kxn := put3_blk kx (.int .i64 ((hh : Int) + 1)) (.int .i64 ((a : Int) + 1)) (.bool nx)
                          have hb : Below V51.heap.size V51 (put3 V51a bkx (.int .i64 ((hh : Int) + 1)) (.int .i64 ((a : Int) + 1)) (.bool nx)) := hba.trans (put3_below hlekx (.int .i64 ((hh : Int) + 1)) (.int .i64 ((a : Int) + 1)) (.bool nx))
                          obtain ⟨V52, hPkx⟩ : ∃ X, put3 V51a bkx (.int .i64 ((hh : Int) + 1)) (.int .i64 ((a : Int) + 1)) (.bool nx) = X := ⟨_, rfl⟩
                          rw [hPkx] at kxn hb
                          replace kx := kxn
                          clear kxn hba hlekx
                          clear c0 c1 c2 c3 d0 d1 d2
                          replace kt := kt.below hb kt.lt
                          replace kd := kd.below hb kd.lt
                          replace rzc := rzc.later hb
                          replace hB := hB.trans (hb.mono hB.size)
                          clear hb
                          have c0 := kt.cell (i := 0) rfl
                          have c1 := kt.cell (i := 1) rfl
                          have c2 := kt.cell (i := 2) rfl
                          have c3 := kt.cell (i := 3) rfl
                          have d0 := kd.cell (i := 0) rfl
                          have d1 := kd.cell (i := 1) rfl
                          have d2 := kd.cell (i := 2) rfl
                          have x0 := kx.cell (i := 0) rfl
                          have x1 := kx.cell (i := 1) rfl
                          have x2 := kx.cell (i := 2) rfl
                          have fd0 := kd.frozen 0
                          have fd1 := kd.frozen 1
                          have fd2 := kd.frozen 2
                          have kdn := put3_blk kd (.int .i64 ((hh : Int) + 1)) (.int .i64 ((a : Int) + 1)) (.bool nx)
                          have hbn : Below V3.heap.size V52 (put3 V52 bkd (.int .i64 ((hh : Int) + 1)) (.int .i64 ((a : Int) + 1)) (.bool nx)) := put3_below hbd _ _ _
                          obtain ⟨wy, hwy⟩ : ∃ X, put3 V52 bkd (.int .i64 ((hh : Int) + 1)) (.int .i64 ((a : Int) + 1)) (.bool nx) = X := ⟨_, rfl⟩
                          rw [hwy] at kdn hbn
                          replace hB := hB.trans hbn
                          clear hbn
                          go_wp2_with fail
                          go_roundw
                          case rel => exact ⟨a + 1, hh + 1, nx, PP, by omega, by go_num, rfl, hstepH, by omega, kdn, hB⟩
                          case measure => simp [intOf]; omega
                      | false =>
                        rw [hb'] at hbit
                        cases al with
                        | true =>
                          have hstep : foldS (stepA rt ra) st0 s (a + 1) = stepA rt ra a ⟨hh, true, ww⟩ false := by
                            show stepA rt ra a (foldS (stepA rt ra) st0 s a) (s.testBit a) = _
                            rw [hw.out, hb']
                          have b1 := (hbdH.out s (a + 1)).2
                          have b2 := h256H.out (a + 1) (by omega)
                          rw [hstep] at b1
                          simp only [stepA, Bool.false_eq_true, if_false, Bool.true_or, hrv.out] at hstep b1
                          obtain ⟨Q0, hQ0⟩ : ∃ Q : Nat, 256 - pn = Q := ⟨_, rfl⟩
                          have hQi : (256 : Int) - (pn : Int) = (Q0 : Int) := by omega
                          rw [hQ0] at hstep b1
                          obtain ⟨PP, hP⟩ : ∃ P, ww * Q0 = P := ⟨_, rfl⟩
                          have hPi : (ww : Int) * (Q0 : Int) = (PP : Int) := by rw [← hP]; simp
                          rw [hP] at hstep b1
                          have hPb : PP ≤ 72057594037927936 := Nat.le_trans b1 b2
                          have htk := takeS_go (al := true) (hit := false) (h := hh) (r := a) hvtH.out hha (by omega)
                          simp only [Bool.false_eq_true, if_false, Bool.true_or, hraH.out] at htk
                          have hstepH := Lib.hid hstep
                          have htkH := Lib.hid htk
                          clear hstep b1 b2 hP htk hQ0
                          have c0 := kt.cell (i := 0) rfl
                          have c1 := kt.cell (i := 1) rfl
                          have c2 := kt.cell (i := 2) rfl
                          have c3 := kt.cell (i := 3) rfl
                          have d0 := kd.cell (i := 0) rfl
                          have d1 := kd.cell (i := 1) rfl
                          have d2 := kd.cell (i := 2) rfl
                          go_wp2_with fail
                          have hc := Take_any (pn : Int) (qn : Int) (nu : Int) (de : Int) (hh : Int) (a : Int) true false hn hd wr
                          rw [htkH.out] at hc
                          refine hc.mono ?_
                          clear hc
                          rintro e V51 ⟨rfl, hb⟩
                          clear c0 c1 c2 c3 d0 d1 d2
                          replace kt := kt.below hb kt.lt
                          replace kd := kd.below hb kd.lt
                          replace rzc := rzc.later hb
                          replace hB := hB.trans (hb.mono hB.size)
                          clear hb
                          have c0 := kt.cell (i := 0) rfl
                          have c1 := kt.cell (i := 1) rfl
                          have c2 := kt.cell (i := 2) rfl
                          have c3 := kt.cell (i := 3) rfl
                          have d0 := kd.cell (i := 0) rfl
                          have d1 := kd.cell (i := 1) rfl
                          have d2 := kd.cell (i := 2) rfl
                          have kx := Blk.new V51 38 #[.int .i64 0, .int .i64 0, .bool false]
                          obtain ⟨bkx, hxkx⟩ : ∃ b, V51.heap.size = b := ⟨_, rfl⟩
                          obtain ⟨V51a, hAkx⟩ : ∃ X, V51.alloc (.cells #[.int .i64 0, .int .i64 0, .bool false] 38) = X := ⟨_, rfl⟩
                          have hba : Below V51.heap.size V51 V51a := alloc_below hAkx
                          rw [hAkx, hxkx] at kx
                          have hlekx : V51.heap.size ≤ bkx := by omega
                          have ykx0 := kx.cell (i := 0) rfl
                          have fykx0 := kx.frozen 0
                          have ykx1 := kx.cell (i := 1) rfl
                          have fykx1 := kx.frozen 1
                          have ykx2 := kx.cell (i := 2) rfl
                          have fykx2 := kx.frozen 2
                          have kxn := put3_blk kx (.int .i64 (hh : Int)) (.int .i64 ((a : Int) + 1)) (.bool true)
                          have hb : Below V51.heap.size V51 (put3 V51a bkx (.int .i64 (hh : Int)) (.int .i64 ((a : Int) + 1)) (.bool true)) := hba.trans (put3_below hlekx (.int .i64 (hh : Int)) (.int .i64 ((a : Int) + 1)) (.bool true))
                          obtain ⟨V52, hPkx⟩ : ∃ X, put3 V51a bkx (.int .i64 (hh : Int)) (.int .i64 ((a : Int) + 1)) (.bool true) = X := ⟨_, rfl⟩
                          rw [hPkx] at kxn hb
                          replace kx := kxn
                          clear kxn hba hlekx
                          clear c0 c1 c2 c3 d0 d1 d2
                          replace kt := kt.below hb kt.lt
                          replace kd := kd.below hb kd.lt
                          replace rzc := rzc.later hb
                          replace hB := hB.trans (hb.mono hB.size)
                          clear hb
                          have c0 := kt.cell (i := 0) rfl
                          have c1 := kt.cell (i := 1) rfl
                          have c2 := kt.cell (i := 2) rfl
                          have c3 := kt.cell (i := 3) rfl
                          have d0 := kd.cell (i := 0) rfl
                          have d1 := kd.cell (i := 1) rfl
                          have d2 := kd.cell (i := 2) rfl
                          have x0 := kx.cell (i := 0) rfl
                          have x1 := kx.cell (i := 1) rfl
                          have x2 := kx.cell (i := 2) rfl
                          have fd0 := kd.frozen 0
                          have fd1 := kd.frozen 1
                          have fd2 := kd.frozen 2
                          have kdn := put3_blk kd (.int .i64 (hh : Int)) (.int .i64 ((a : Int) + 1)) (.bool true)
                          have hbn : Below V3.heap.size V52 (put3 V52 bkd (.int .i64 (hh : Int)) (.int .i64 ((a : Int) + 1)) (.bool true)) := put3_below hbd _ _ _
                          obtain ⟨wy, hwy⟩ : ∃ X, put3 V52 bkd (.int .i64 (hh : Int)) (.int .i64 ((a : Int) + 1)) (.bool true) = X := ⟨_, rfl⟩
                          rw [hwy] at kdn hbn
                          replace hB := hB.trans hbn
                          clear hbn
                          go_wp2_with fail
                          go_roundw
                          case rel => exact ⟨a + 1, hh, true, PP, by omega, by go_num, rfl, hstepH, by omega, kdn, hB⟩
                          case measure => simp [intOf]; omega
                        | false =>
                          have hstep : foldS (stepA rt ra) st0 s (a + 1) = stepA rt ra a ⟨hh, false, ww⟩ false := by
                            show stepA rt ra a (foldS (stepA rt ra) st0 s a) (s.testBit a) = _
                            rw [hw.out, hb']
                          have b1 := (hbdH.out s (a + 1)).2
                          have b2 := h256H.out (a + 1) (by omega)
                          rw [hstep] at b1
                          simp only [stepA, Bool.false_eq_true, if_false, Bool.false_or, hrv.out] at hstep b1
                          obtain ⟨Q0, hQ0⟩ : ∃ Q : Nat, 256 - pn = Q := ⟨_, rfl⟩
                          have hQi : (256 : Int) - (pn : Int) = (Q0 : Int) := by omega
                          rw [hQ0] at hstep b1
                          obtain ⟨PP, hP⟩ : ∃ P, ww * Q0 = P := ⟨_, rfl⟩
                          have hPi : (ww : Int) * (Q0 : Int) = (PP : Int) := by rw [← hP]; simp
                          rw [hP] at hstep b1
                          have hPb : PP ≤ 72057594037927936 := Nat.le_trans b1 b2
                          have htk := takeS_go (al := false) (hit := false) (h := hh) (r := a) hvtH.out hha (by omega)
                          simp only [Bool.false_eq_true, if_false, Bool.false_or, hraH.out] at htk
                          obtain ⟨nx, hnx⟩ : ∃ b, ra (hh) (a + 1 - (hh)) = b := ⟨_, rfl⟩
                          rw [hnx] at hstep htk
                          have hstepH := Lib.hid hstep
                          have htkH := Lib.hid htk
                          clear hstep b1 b2 hP htk hnx hQ0
                          have c0 := kt.cell (i := 0) rfl
                          have c1 := kt.cell (i := 1) rfl
                          have c2 := kt.cell (i := 2) rfl
                          have c3 := kt.cell (i := 3) rfl
                          have d0 := kd.cell (i := 0) rfl
                          have d1 := kd.cell (i := 1) rfl
                          have d2 := kd.cell (i := 2) rfl
                          go_wp2_with fail
                          have hc := Take_any (pn : Int) (qn : Int) (nu : Int) (de : Int) (hh : Int) (a : Int) false false hn hd wr
                          rw [htkH.out] at hc
                          refine hc.mono ?_
                          clear hc
                          rintro e V51 ⟨rfl, hb⟩
                          clear c0 c1 c2 c3 d0 d1 d2
                          replace kt := kt.below hb kt.lt
                          replace kd := kd.below hb kd.lt
                          replace rzc := rzc.later hb
                          replace hB := hB.trans (hb.mono hB.size)
                          clear hb
                          have c0 := kt.cell (i := 0) rfl
                          have c1 := kt.cell (i := 1) rfl
                          have c2 := kt.cell (i := 2) rfl
                          have c3 := kt.cell (i := 3) rfl
                          have d0 := kd.cell (i := 0) rfl
                          have d1 := kd.cell (i := 1) rfl
                          have d2 := kd.cell (i := 2) rfl
                          have kx := Blk.new V51 38 #[.int .i64 0, .int .i64 0, .bool false]
                          obtain ⟨bkx, hxkx⟩ : ∃ b, V51.heap.size = b := ⟨_, rfl⟩
                          obtain ⟨V51a, hAkx⟩ : ∃ X, V51.alloc (.cells #[.int .i64 0, .int .i64 0, .bool false] 38) = X := ⟨_, rfl⟩
                          have hba : Below V51.heap.size V51 V51a := alloc_below hAkx
                          rw [hAkx, hxkx] at kx
                          have hlekx : V51.heap.size ≤ bkx := by omega
                          have ykx0 := kx.cell (i := 0) rfl
                          have fykx0 := kx.frozen 0
                          have ykx1 := kx.cell (i := 1) rfl
                          have fykx1 := kx.frozen 1
                          have ykx2 := kx.cell (i := 2) rfl
                          have fykx2 := kx.frozen 2
                          have kxn := put3_blk kx (.int .i64 (hh : Int)) (.int .i64 ((a : Int) + 1)) (.bool nx)
                          have hb : Below V51.heap.size V51 (put3 V51a bkx (.int .i64 (hh : Int)) (.int .i64 ((a : Int) + 1)) (.bool nx)) := hba.trans (put3_below hlekx (.int .i64 (hh : Int)) (.int .i64 ((a : Int) + 1)) (.bool nx))
                          obtain ⟨V52, hPkx⟩ : ∃ X, put3 V51a bkx (.int .i64 (hh : Int)) (.int .i64 ((a : Int) + 1)) (.bool nx) = X := ⟨_, rfl⟩
                          rw [hPkx] at kxn hb
                          replace kx := kxn
                          clear kxn hba hlekx
                          clear c0 c1 c2 c3 d0 d1 d2
                          replace kt := kt.below hb kt.lt
                          replace kd := kd.below hb kd.lt
                          replace rzc := rzc.later hb
                          replace hB := hB.trans (hb.mono hB.size)
                          clear hb
                          have c0 := kt.cell (i := 0) rfl
                          have c1 := kt.cell (i := 1) rfl
                          have c2 := kt.cell (i := 2) rfl
                          have c3 := kt.cell (i := 3) rfl
                          have d0 := kd.cell (i := 0) rfl
                          have d1 := kd.cell (i := 1) rfl
                          have d2 := kd.cell (i := 2) rfl
                          have x0 := kx.cell (i := 0) rfl
                          have x1 := kx.cell (i := 1) rfl
                          have x2 := kx.cell (i := 2) rfl
                          have fd0 := kd.frozen 0
                          have fd1 := kd.frozen 1
                          have fd2 := kd.frozen 2
                          have kdn := put3_blk kd (.int .i64 (hh : Int)) (.int .i64 ((a : Int) + 1)) (.bool nx)
                          have hbn : Below V3.heap.size V52 (put3 V52 bkd (.int .i64 (hh : Int)) (.int .i64 ((a : Int) + 1)) (.bool nx)) := put3_below hbd _ _ _
                          obtain ⟨wy, hwy⟩ : ∃ X, put3 V52 bkd (.int .i64 (hh : Int)) (.int .i64 ((a : Int) + 1)) (.bool nx) = X := ⟨_, rfl⟩
                          rw [hwy] at kdn hbn
                          replace hB := hB.trans hbn
                          clear hbn
                          go_wp2_with fail
                          go_roundw
                          case rel => exact ⟨a + 1, hh, nx, PP, by omega, by go_num, rfl, hstepH, by omega, kdn, hB⟩
                          case measure => simp [intOf]; omega
                  case neg =>
                    have ham : a = m := by omega
                    subst ham
                    have e2 : decide ((a : Int) < (a : Int)) = false := by simp
                    have hfv := hfsH.out s
                    rw [hw.out] at hfv
                    have hsum : sumR f (s + 1) = x + f s := by rw [← hx.out]; rfl
                    unfold alaA at hfv
                    simp only at hfv
                    have d2 := kd.cell (i := 2) rfl
                    cases al with
                    | true =>
                      rw [if_pos rfl] at hfv
                      rw [← hfv] at hsum hxs
                      have hsumH := Lib.hid hsum
                      clear hsum hfv hw hx
                      go_wp2_with fail
                      go_roundw
                      case rel => exact ⟨s + 1, x + ww, by omega, by go_num, by go_num, hsumH, hB⟩
                      case measure => simp [intOf]; omega
                    | false =>
                      rw [if_neg (by decide)] at hfv
                      rw [← hfv, Nat.add_zero] at hsum
                      have hsumH := Lib.hid hsum
                      clear hsum hfv hw hx
                      go_wp2_with fail
                      go_roundw
                      case rel => exact ⟨s + 1, x, by omega, by go_num, rfl, hsumH, hB⟩
                      case measure => simp [intOf]; omega
              case neg =>
                have e1 : decide ((s : Int) < (T : Int)) = false := decide_eq_false (by omega)
                have e1p : ¬ (s : Int) < (T : Int) := by omega
                have hsT : s = T := by omega
                subst hsT
                have kt := k1.below hB lk1
                have hxy := hpartH.out s (Nat.le_refl _)
                have hcm := hcalmH.out
                rw [hx.out, hy.out] at hxy hcm
                have hord := (make_order (s := x) (a := y) hy0 (show 0 < de by omega) nu0 hpq).2 hcm
                have hpar := make_parts (s := x) hy0
                obtain ⟨xx, hxx⟩ : ∃ z, x / Nat.gcd x y = z := ⟨_, rfl⟩
                obtain ⟨yy, hyy⟩ : ∃ z, y / Nat.gcd x y = z := ⟨_, rfl⟩
                have hxl : xx ≤ 4611686018427387903 := by rw [← hxx]; exact Nat.le_trans (Nat.div_le_self _ _) (by omega)
                have hyl : yy ≤ 4611686018427387903 := by rw [← hyy]; exact Nat.le_trans (Nat.div_le_self _ _) (by omega)
                rw [hxx, hyy] at hord hpar
                obtain ⟨yy1, hgg⟩ := hpar
                obtain ⟨C, hC⟩ : ∃ C, orderF xx yy nu de = C := ⟨_, rfl⟩
                rw [hC] at hord
                have hCp := hord
                have hCH := Lib.hid hC
                have hxxH := Lib.hid hxx
                have hyyH := Lib.hid hyy
                have hwf : ∀ z : Nat, z ≤ 4611686018427387903 → (Lit.int .i64 (z : Int)).wf = true := fun z hz => by simp [Lit.wf, IntKind.min, IntKind.max, IntKind.signed, IntKind.bits]; omega
                have hwf1 := Lib.hid (hwf x (by omega))
                have hwf2 := Lib.hid (hwf y (by omega))
                clear hx hord hC hxx hyy hwf hpartH hcm
                have c0 := kt.cell (i := 0) rfl
                have c1 := kt.cell (i := 1) rfl
                have c2 := kt.cell (i := 2) rfl
                have c3 := kt.cell (i := 3) rfl
                go_wp2_with fail
                have hc := Make_any x y hy0 (by omega) (by omega) hwf1.out hwf2.out wr
                rw [hxxH.out, hyyH.out] at hc
                refine hc.mono ?_
                clear hc
                rintro e V4 ⟨rfl, hb⟩
                clear c0 c1 c2 c3
                replace kt := kt.below hb kt.lt
                replace hB := hB.trans (hb.mono hB.size)
                clear hb
                have c0 := kt.cell (i := 0) rfl
                have c1 := kt.cell (i := 1) rfl
                have c2 := kt.cell (i := 2) rfl
                have c3 := kt.cell (i := 3) rfl
                have hbV5 : Below V4.heap.size V4 (V4.alloc (.cells #[.int .i64 (xx : Int), .int .i64 (yy : Int)] 23)) := jb_al (Below.refl _ V4) _
                have kp := Blk.new V4 23 #[.int .i64 (xx : Int), .int .i64 (yy : Int)]
                obtain ⟨V5, hEV5⟩ : ∃ X, V4.alloc (.cells #[.int .i64 (xx : Int), .int .i64 (yy : Int)] 23) = X := ⟨_, rfl⟩
                rw [hEV5] at hbV5 kp
                clear c0 c1 c2 c3
                replace kt := kt.below hbV5 kt.lt
                replace hB := hB.trans (hbV5.mono hB.size)
                clear hbV5
                have c0 := kt.cell (i := 0) rfl
                have c1 := kt.cell (i := 1) rfl
                have c2 := kt.cell (i := 2) rfl
                have c3 := kt.cell (i := 3) rfl
                have zz0 := kp.cell (i := 0) rfl
                have zz1 := kp.cell (i := 1) rfl
                go_wp2_with fail
                clear hEV5
                have hc := Compare_any xx yy nu de hxl hyl nu1 de2 yy1 de1 nu0 hgg hpq V5
                rw [hCH.out] at hc
                refine hc.mono ?_
                clear hc
                rintro e V6 ⟨rfl, hb⟩
                clear c0 c1 c2 c3 zz0 zz1
                replace kt := kt.below hb kt.lt
                replace kp := kp.below hb kp.lt
                replace hB := hB.trans (hb.mono hB.size)
                clear hb
                have c0 := kt.cell (i := 0) rfl
                have c1 := kt.cell (i := 1) rfl
                have c2 := kt.cell (i := 2) rfl
                have c3 := kt.cell (i := 3) rfl
                have zz0 := kp.cell (i := 0) rfl
                have zz1 := kp.cell (i := 1) rfl
                have hCd : decide (C ≤ 0) = true := decide_eq_true hCp
                go_wp2_with fail
                go_ret
                exact ⟨rfl, hBw.trans (hB.mono hBw.size)⟩

end Go.Proofs.YtbdnjhnlfpfhcaaGreat

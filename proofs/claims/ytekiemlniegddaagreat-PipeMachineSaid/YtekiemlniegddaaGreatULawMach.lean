/- PipeMachine returns true for every machine, image and three places. -/
import Derived.Deep.DeepCutAuto
import Derived.Test.YtekiemlniegddaaGreatQM17
import Derived.Test.YtekiemlniegddaaGreatQM5
import Derived.Test.YtekiemlniegddaaGreatQM4
import Derived.Test.YtekiemlniegddaaGreatQM2
import Derived.Test.YtekiemlniegddaaGreatQM18
namespace Go.Proofs.YtekiemlniegddaaGreat
open Go Go.Maps Go.RowKit Go.Shelf
set_option linter.unusedVariables false
set_option linter.unusedSimpArgs false

theorem vec_lo {v : VecN} (h : vecB v = true) : (1 ≤ v.lanes ∧ v.lanes ≤ 16) ∧ (2 ≤ v.regs ∧ v.regs ≤ 16) ∧ 1 ≤ v.mem ∧ v.mem ≤ 8192 := by
 unfold vecB at h
 simp only [Bool.and_eq_true, inR_true] at h
 exact ⟨h.1, h.2.1, h.2.2⟩
theorem mov_mem_in {L n fr ds : Nat} (hL : L ≤ 16) : ∀ g, ∀ x ∈ movL L n fr ds g, InsIn x
 | 0, x, h => by cases h
 | g + 1, x, h => by
  rw [movL] at h
  rcases List.mem_append.1 h with h | h
  ·exact mov_mem_in hL g x h
  ·simp only [List.mem_cons, List.not_mem_nil, or_false] at h
   rcases h with rfl | rfl
   ·exact ⟨⟨by show (0 : Int) ≤ 1; decide, by show (1 : Int) ≤ 255; decide⟩, ⟨by show (0 : Int) ≤ 0; decide, by show (0 : Int) ≤ 255; decide⟩, by show (movAd L n fr g).length ≤ _; rw [movAd_len]; omega⟩
   ·exact ⟨⟨by show (0 : Int) ≤ 2; decide, by show (2 : Int) ≤ 255; decide⟩, ⟨by show (0 : Int) ≤ 0; decide, by show (0 : Int) ≤ 255; decide⟩, by show (movAd L n ds g).length ≤ _; rw [movAd_len]; omega⟩
theorem movC_in {m : PicN} {fr : Nat} {o : Int} {l : List InsN} (h : ∀ x ∈ l, InsIn x) (hl : l.length ≤ 9223372036854775807) : CodeIn (movC m fr o l) := ⟨by show 1 ≤ _; omega, hl, fun i hi => by
 have hi2 : i < l.length := hi
 show InsIn (insAt l i)
 unfold insAt
 rw [List.getElem?_eq_getElem hi2]
 exact h _ (List.getElem_mem hi2)⟩
theorem rd_oneM {W : World} {b : Nat} {x : Int} (k : Blk W b 3 #[.int .i64 x]) : Rd W.heap.size W (some ⟨b, 0, none⟩) [x] := .inr ⟨b, 0, rfl, k.lt, fun i hi => by
 obtain rfl : i = 0 := by simpa using hi
 exact k.cell (i := 0) rfl⟩
theorem one_pic {W : World} {b : Nat} {iw ih : Int} {pa : Option Addr} {pn pc : Nat} {xs : List Int} (k : Blk W b 32 #[.int .i64 iw, .int .i64 ih, .slice pa pn pc]) (hn : xs.length = pn) (hr : Rd W.heap.size W pa xs) (hz : pa = none → pc = 0) : RdPs W.heap.size W (some ⟨b, 0, none⟩) [⟨iw, ih, xs⟩] := by
 refine .inr ⟨b, 0, rfl, k.lt, fun i hi => ?_⟩
 obtain rfl : i = 0 := by simpa using hi
 refine ⟨pa, pc, k.cell (i := 0) rfl, k.cell (i := 1) rfl, ?_, hr, hz⟩
 show _ = some (Value.slice pa xs.length pc)
 rw [hn]
 exact k.cell (i := 2) rfl
set_option maxRecDepth 100000 in
set_option maxHeartbeats 8000000 in
theorem law_machine (v : VecN) (iw ih : Int) (pa : Option Addr) (pc pn : Nat) (xs : List Int) (hn : Hid (xs.length = pn)) (hmm : pn ≤ 9223372036854775807) (hz : pa = none → pc = 0) (fr mid ds : Int) (w : World) (hr : Rd w.heap.size w pa xs) :
  Calls Tryz.prog 9 #[vecv v, imv iw ih pa pn pc, .int .i64 fr, .int .i64 mid, .int .i64 ds] w fun e w' => e = .returned (.bool true) ∧ Below w.heap.size w w' := by
 obtain ⟨vl, vr, vm⟩ := v
 have hB : Below w.heap.size w w := Below.refl _ _
 obtain ⟨vb, hvb⟩ : ∃ q, vecB ⟨vl, vr, vm⟩ = q := ⟨_, rfl⟩
 have hvl := fun W => rvector_any ⟨vl, vr, vm⟩ vb hvb W
 obtain ⟨ib, hib⟩ : ∃ q, vld iw ih xs = q := ⟨_, rfl⟩
 have hil := fun W h => Valid_any iw ih pa pc xs pn hn W hmm h
 rw [hib] at hil
 simp only at hvl
 have hvlH := Lib.hid hvl
 have hilH := Lib.hid hil
 have hvbH := Lib.hid hvb
 have hibH := Lib.hid hib
 have hzH := Lib.hid hz
 clear hvl hil hvb hib hz
 unfold vecv
 simp only
 have hr0 := hr
 obtain ⟨V1, hEV1, hbV1, kv⟩ := newB w 26 #[.int .i64 vl, .int .i64 vr, .int .i64 vm]
 replace hr := later_i hr hbV1
 replace hB := tmB hB hbV1
 clear hbV1
 obtain ⟨v0, v1, v2⟩ := cz3 kv
 obtain ⟨V2, hEV2, hbV2, km⟩ := newB V1 32 #[.int .i64 iw, .int .i64 ih, .slice pa pn pc]
 clear v0 v1 v2
 replace kv := kv.below hbV2 kv.lt
 replace hr := later_i hr hbV2
 replace hB := tmB hB hbV2
 clear hbV2
 obtain ⟨v0, v1, v2⟩ := cz3 kv
 obtain ⟨m0, m1, m2⟩ := cz3 km
 cases ib with
 | false =>
  go_enter Tryz.func9, Tryz.ntmps9
  go_wp2_with fail
  clear hEV1 hEV2
  refine (alive3_any V2).mono ?_
  rintro e V3 ⟨rfl, hb⟩
  clear v0 v1 v2 m0 m1 m2
  replace kv := kv.below hb kv.lt
  replace km := km.below hb km.lt
  replace hr := later_i hr hb
  replace hB := tmB hB hb
  clear hb
  obtain ⟨v0, v1, v2⟩ := cz3 kv
  obtain ⟨m0, m1, m2⟩ := cz3 km
  go_wp2_with fail
  refine (hvlH.out V3).mono ?_
  rintro e V4 ⟨rfl, hb⟩
  clear v0 v1 v2 m0 m1 m2
  replace kv := kv.below hb kv.lt
  replace km := km.below hb km.lt
  replace hr := later_i hr hb
  replace hB := tmB hB hb
  clear hb
  obtain ⟨v0, v1, v2⟩ := cz3 kv
  obtain ⟨m0, m1, m2⟩ := cz3 km
  cases vb with
  | false =>
   go_wp2_with fail
   go_ret
   exact ⟨rfl, hB⟩
  | true =>
  go_wp2_with fail
  refine (hilH.out V4 hr).mono ?_
  rintro e V5 ⟨rfl, hb⟩
  clear v0 v1 v2 m0 m1 m2
  replace kv := kv.below hb kv.lt
  replace km := km.below hb km.lt
  replace hr := later_i hr hb
  replace hB := tmB hB hb
  clear hb
  obtain ⟨v0, v1, v2⟩ := cz3 kv
  obtain ⟨m0, m1, m2⟩ := cz3 km
  go_wp2_with fail
  go_ret
  exact ⟨rfl, hB⟩
 | true =>
 obtain ⟨⟨b1, b2⟩, ⟨b3, b4⟩, hlen, _⟩ := vld_true hibH.out
 rw [hn.out] at hlen
 have hmb := prod_bd (a := iw) (x := ih) (m := 16) (n := 16) (by omega) (by omega) (by omega) (by omega) (by omega)
 have hm1 := Int.mul_le_mul b1 b3 (by omega) (by omega)
 have hp : iw * ih = (pn : Int) := hlen.symm
 rw [hp] at hmb hm1
 simp only [Int.reduceMul] at hmb hm1
 have hn1 : 1 ≤ pn := by omega
 have hn2 : pn ≤ 256 := by omega
 have hpH := Lib.hid hp
 clear hlen hmb hm1
 go_enter Tryz.func9, Tryz.ntmps9
 go_wp2_with fail
 clear hEV1 hEV2
 refine (alive3_any V2).mono ?_
 rintro e V3 ⟨rfl, hb⟩
 clear v0 v1 v2 m0 m1 m2
 replace kv := kv.below hb kv.lt
 replace km := km.below hb km.lt
 replace hr := later_i hr hb
 replace hB := tmB hB hb
 clear hb
 obtain ⟨v0, v1, v2⟩ := cz3 kv
 obtain ⟨m0, m1, m2⟩ := cz3 km
 go_wp2_with fail
 refine (hvlH.out V3).mono ?_
 rintro e V4 ⟨rfl, hb⟩
 clear v0 v1 v2 m0 m1 m2
 replace kv := kv.below hb kv.lt
 replace km := km.below hb km.lt
 replace hr := later_i hr hb
 replace hB := tmB hB hb
 clear hb
 obtain ⟨v0, v1, v2⟩ := cz3 kv
 obtain ⟨m0, m1, m2⟩ := cz3 km
 clear hp
 cases vb with
 | false =>
  go_wp2_with fail
  go_ret
  exact ⟨rfl, hB⟩
 | true =>
 go_wp2_with fail
 refine (hilH.out V4 hr).mono ?_
 rintro e V5 ⟨rfl, hb⟩
 clear v0 v1 v2 m0 m1 m2
 replace kv := kv.below hb kv.lt
 replace km := km.below hb km.lt
 replace hr := later_i hr hb
 replace hB := tmB hB hb
 clear hb
 obtain ⟨v0, v1, v2⟩ := cz3 kv
 obtain ⟨m0, m1, m2⟩ := cz3 km
 clear v0 v1 v2 m0 m1 m2
 obtain ⟨⟨q1, q2⟩, ⟨q3, q4⟩, q5, q6⟩ := vec_lo hvbH.out
 simp only at q1 q2 q3 q4 q5 q6
 obtain ⟨L, rfl⟩ : ∃ L : Nat, vl = (L : Int) := ⟨vl.toNat, by omega⟩
 obtain ⟨N, rfl⟩ : ∃ L : Nat, vm = (L : Int) := ⟨vm.toNat, by omega⟩
 obtain ⟨v0, v1, v2⟩ := cz3 kv
 obtain ⟨m0, m1, m2⟩ := cz3 km
 by_cases hnN : pn ≤ N
 case neg =>
  have hnd : decide ((N : Int) < (pn : Int)) = true := by simp; omega
  go_wp2_with fail
  go_ret
  exact ⟨rfl, hB⟩
 case pos =>
 have hnd : decide ((N : Int) < (pn : Int)) = false := by simp; omega
 obtain ⟨La, hLa⟩ : ∃ L : Nat, (N : Int) - (pn : Int) = (L : Int) := ⟨N - pn, by omega⟩
 have hLa2 : La + pn = N := by omega
 obtain ⟨bad, hbad⟩ : ∃ b : Bool, decide (fr < 0 ∨ (La : Int) < fr ∨ mid < 0 ∨ (La : Int) < mid ∨ ds < 0 ∨ (La : Int) < ds ∨ (mid < fr + (pn : Int) ∧ fr < mid + (pn : Int)) ∨ (ds < mid + (pn : Int) ∧ mid < ds + (pn : Int))) = b := ⟨_, rfl⟩
 have hbadH := Lib.hid hbad
 clear hbad
 go_upto_region 6 with fail
 clear hnd hLa
 clear v0 v1 v2 m0 m1 m2
 go_cut [96] (fun s wx => s = .bool bad ∧ V5 = wx)
 case first =>
  by_cases c0 : fr < 0
  case pos =>
   have c0d : decide (fr < 0) = true := decide_eq_true c0
   obtain rfl : bad = true := by rw [← hbadH.out]; exact decide_eq_true (by omega)
   go_wp2_with fail
   go_meet
   exact ⟨rfl, rfl⟩
  case neg =>
  have c0d : decide (fr < 0) = false := decide_eq_false c0
  by_cases c1 : (La : Int) < fr
  case pos =>
   have c1d : decide ((La : Int) < fr) = true := decide_eq_true c1
   obtain rfl : bad = true := by rw [← hbadH.out]; exact decide_eq_true (by omega)
   go_wp2_with fail
   go_meet
   exact ⟨rfl, rfl⟩
  case neg =>
  have c1d : decide ((La : Int) < fr) = false := decide_eq_false c1
  by_cases c2 : mid < 0
  case pos =>
   have c2d : decide (mid < 0) = true := decide_eq_true c2
   obtain rfl : bad = true := by rw [← hbadH.out]; exact decide_eq_true (by omega)
   go_wp2_with fail
   go_meet
   exact ⟨rfl, rfl⟩
  case neg =>
  have c2d : decide (mid < 0) = false := decide_eq_false c2
  by_cases c3 : (La : Int) < mid
  case pos =>
   have c3d : decide ((La : Int) < mid) = true := decide_eq_true c3
   obtain rfl : bad = true := by rw [← hbadH.out]; exact decide_eq_true (by omega)
   go_wp2_with fail
   go_meet
   exact ⟨rfl, rfl⟩
  case neg =>
  have c3d : decide ((La : Int) < mid) = false := decide_eq_false c3
  by_cases c4 : ds < 0
  case pos =>
   have c4d : decide (ds < 0) = true := decide_eq_true c4
   obtain rfl : bad = true := by rw [← hbadH.out]; exact decide_eq_true (by omega)
   go_wp2_with fail
   go_meet
   exact ⟨rfl, rfl⟩
  case neg =>
  have c4d : decide (ds < 0) = false := decide_eq_false c4
  by_cases c5 : (La : Int) < ds
  case pos =>
   have c5d : decide ((La : Int) < ds) = true := decide_eq_true c5
   obtain rfl : bad = true := by rw [← hbadH.out]; exact decide_eq_true (by omega)
   go_wp2_with fail
   go_meet
   exact ⟨rfl, rfl⟩
  case neg =>
  have c5d : decide ((La : Int) < ds) = false := decide_eq_false c5
  by_cases c6 : mid < fr + (pn : Int)
  case pos =>
   have c6d : decide (mid < fr + (pn : Int)) = true := decide_eq_true c6
   by_cases c6e : fr < mid + (pn : Int)
   case pos =>
    have c6ed : decide (fr < mid + (pn : Int)) = true := decide_eq_true c6e
    obtain rfl : bad = true := by rw [← hbadH.out]; exact decide_eq_true (by omega)
    go_wp2_with fail
    go_meet
    exact ⟨rfl, rfl⟩
   case neg =>
   have c6ed : decide (fr < mid + (pn : Int)) = false := decide_eq_false c6e
   by_cases c7 : ds < mid + (pn : Int)
   case pos =>
    have c7d : decide (ds < mid + (pn : Int)) = true := decide_eq_true c7
    by_cases c7e : mid < ds + (pn : Int)
    case pos =>
     have c7ed : decide (mid < ds + (pn : Int)) = true := decide_eq_true c7e
     obtain rfl : bad = true := by rw [← hbadH.out]; exact decide_eq_true (by omega)
     go_wp2_with fail
     go_meet
     exact ⟨rfl, rfl⟩
    case neg =>
    have c7ed : decide (mid < ds + (pn : Int)) = false := decide_eq_false c7e
    obtain rfl : bad = false := by rw [← hbadH.out]; exact decide_eq_false (by omega)
    go_wp2_with fail
    go_meet
    exact ⟨rfl, rfl⟩
   case neg =>
   have c7d : decide (ds < mid + (pn : Int)) = false := decide_eq_false c7
   obtain rfl : bad = false := by rw [← hbadH.out]; exact decide_eq_false (by omega)
   go_wp2_with fail
   go_meet
   exact ⟨rfl, rfl⟩
  case neg =>
  have c6d : decide (mid < fr + (pn : Int)) = false := decide_eq_false c6
  by_cases c7 : ds < mid + (pn : Int)
  case pos =>
   have c7d : decide (ds < mid + (pn : Int)) = true := decide_eq_true c7
   by_cases c7e : mid < ds + (pn : Int)
   case pos =>
    have c7ed : decide (mid < ds + (pn : Int)) = true := decide_eq_true c7e
    obtain rfl : bad = true := by rw [← hbadH.out]; exact decide_eq_true (by omega)
    go_wp2_with fail
    go_meet
    exact ⟨rfl, rfl⟩
   case neg =>
   have c7ed : decide (mid < ds + (pn : Int)) = false := decide_eq_false c7e
   obtain rfl : bad = false := by rw [← hbadH.out]; exact decide_eq_false (by omega)
   go_wp2_with fail
   go_meet
   exact ⟨rfl, rfl⟩
  case neg =>
  have c7d : decide (ds < mid + (pn : Int)) = false := decide_eq_false c7
  obtain rfl : bad = false := by rw [← hbadH.out]; exact decide_eq_false (by omega)
  go_wp2_with fail
  go_meet
  exact ⟨rfl, rfl⟩
 case rest =>
 obtain ⟨rfl, rfl⟩ := hcut
 cases bad with
 | true =>
  go_wp2_with fail
  go_ret
  exact ⟨rfl, hB⟩
 | false =>
 have hgood := of_decide_eq_false hbadH.out
 obtain ⟨A, rfl⟩ : ∃ A : Nat, fr = (A : Int) := ⟨fr.toNat, by omega⟩
 obtain ⟨M, rfl⟩ : ∃ A : Nat, mid = (A : Int) := ⟨mid.toNat, by omega⟩
 obtain ⟨D, rfl⟩ : ∃ A : Nat, ds = (A : Int) := ⟨ds.toNat, by omega⟩
 have hA1 : A + pn ≤ N := by omega
 have hM1 : M + pn ≤ N := by omega
 have hD1 : D + pn ≤ N := by omega
 have hd1 : A + pn ≤ M ∨ M + pn ≤ A := by omega
 have hd2 : M + pn ≤ D ∨ D + pn ≤ M := by omega
 clear hgood
 obtain ⟨v0, v1, v2⟩ := cz3 kv
 obtain ⟨m0, m1, m2⟩ := cz3 km
 have hwV : w.heap.size < V5.heap.size := kv.lt
 have h1V : V1.heap.size < V5.heap.size := km.lt
 have ki := Blk.new V5 3 #[.int .i64 (A : Int)]
 obtain ⟨Wi, hEi⟩ : ∃ X, V5.alloc (.cells #[.int .i64 (A : Int)] 3) = X := ⟨_, rfl⟩
 have hbi : Below V5.heap.size V5 Wi := alloc_below hEi
 rw [hEi] at ki
 have kz := Blk.new Wi 43 #[.int .i64 0, .int .i64 0, .slice none 0 0, .int .i64 0, .slice none 0 0]
 have kc := Blk.new Wi 43 #[.int .i64 iw, .int .i64 ih, .slice (some ⟨V5.heap.size, 0, none⟩) 1 1, .int .i64 (D : Int), .slice none 0 0]
 have hbk := alloc_below (rfl : Wi.alloc (.cells #[.int .i64 iw, .int .i64 ih, .slice (some ⟨V5.heap.size, 0, none⟩) 1 1, .int .i64 (D : Int), .slice none 0 0] 43) = _)
 go_wp2_with (refine wpList_store_row rfl 43 _ _ rfl Wi.heap.size #[.int .i64 iw, .int .i64 ih, .slice (some ⟨V5.heap.size, 0, none⟩) 1 1, .int .i64 (D : Int), .slice none 0 0] rfl rfl 43 #[.int .i64 0, .int .i64 0, .slice none 0 0, .int .i64 0, .slice none 0 0] kz (by kernel_rfl) rfl (by simp [Value.oneCell']) ?_; rw [World.setRow_alloc_new])
 clear hEi kz
 obtain ⟨Wk, hEk⟩ : ∃ X, Wi.alloc (.cells #[.int .i64 iw, .int .i64 ih, .slice (some ⟨V5.heap.size, 0, none⟩) 1 1, .int .i64 (D : Int), .slice none 0 0] 43) = X := ⟨_, rfl⟩
 rw [hEk] at kc hbk
 try rw [hEk]
 have hbk2 := hbi.trans (hbk.mono hbi.size)
 have hltc : V5.heap.size < Wi.heap.size := ki.lt
 replace ki := ki.below hbk ki.lt
 obtain ⟨bc, hbc⟩ : ∃ b, Wi.heap.size = b := ⟨_, rfl⟩
 rw [hbc] at kc hltc
 try rw [hbc]
 have hS : Below V5.heap.size V5 Wk.drew := hbk2.drew
 replace kc := kc.below (Below.refl _ Wk).drew kc.lt
 replace ki := ki.below (Below.refl _ Wk).drew ki.lt
 clear hEk hbk hbi hbk2
 obtain ⟨i0, hi, hz0, hz1, hz2⟩ := info_partsQ info_ins
 have hmv1 := fun W => moved_any ⟨(L : Int), vr, (N : Int)⟩ L pn A M rfl ⟨by omega, by omega⟩ hn2 (by omega) (by omega) W
 have hmv2 := fun W => moved_any ⟨(L : Int), vr, (N : Int)⟩ L pn M D rfl ⟨by omega, by omega⟩ hn2 (by omega) (by omega) W
 unfold vecv at hmv1 hmv2
 simp only at hmv1 hmv2
 have hmvH1 := Lib.hid hmv1
 have hmvH2 := Lib.hid hmv2
 clear hmv1 hmv2
 clear v0 v1 v2 m0 m1 m2
 have hbcV := kc.lt
 go_wp2_with fail
 refine plain_region (fun W' => Below V5.heap.size V5 W') 12 13 (by kernel_rfl) rfl ?_
 simp only [Array.replicate_succ, Array.replicate_zero, List.push_toArray, List.nil_append, List.cons_append]
 obtain ⟨X0, hXX0⟩ : ∃ X : World, Wk.drew = X := ⟨_, rfl⟩
 rw [hXX0] at hS kc ki ⊢
 clear hXX0
 refine tkz 0 rfl hS (fun w' hS' => by obtain ⟨v0, v1, v2⟩ := cz3 (kv.below hS' kv.lt); clear hS'; go_simp; rfl) ?_
 simp only [nrz]
 refine tkz 1 rfl hS (fun w' hS' => by go_simp; rfl) ?_
 simp only [nrz]
 refine tkz 2 rfl hS (fun w' hS' => by go_simp; rfl) ?_
 simp only [nrz]
 refine tkz 3 rfl hS (fun w' hS' => by go_simp; rfl) ?_
 simp only [nrz]
 refine tkz 5 rfl hS (fun w' hS' => by obtain ⟨v0, v1, v2⟩ := cz3 (kv.below hS' kv.lt); clear hS'; go_simp; rfl) ?_
 simp only [nrz]
 refine tkz 6 rfl hS (fun w' hS' => by go_simp; rfl) ?_
 simp only [nrz]
 refine tkz 7 rfl hS (fun w' hS' => by go_simp; rfl) ?_
 simp only [nrz]
 refine tkz 8 rfl hS (fun w' hS' => by go_simp; rfl) ?_
 simp only [nrz]
 refine step_op 4 (by kernel_rfl) rfl (fun K hK => ?_)
 rw [if_pos (by rfl)]
 go_simp
 refine (hmvH1.out X0).mono ?_
 rintro e X1 ⟨a1, k1, c1, l1, g1, rfl, hl1, hown1, hlm1, hG1, hg1, hfr1, hb⟩
 have hbcX := kc.lt
 have hX01s := hb.size
 have hS1 : Below V5.heap.size V5 X1 := hS.trans (hb.mono hS.size)
 replace kc := kc.below hb kc.lt
 replace ki := ki.below hb ki.lt
 clear hb
 refine hK.out _ _ (fun h => hS1) ?_
 clear hK K
 try simp only [Act.put, nrz]
 refine step_op 9 (by kernel_rfl) rfl (fun K hK => ?_)
 rw [if_pos (by rfl)]
 go_simp
 refine (hmvH2.out X1).mono ?_
 rintro e X2 ⟨a2, k2, c2, l2, g2, rfl, hl2, hown2, hlm2, hG2, hg2, hfr2, hb⟩
 have hS2 : Below V5.heap.size V5 X2 := hS1.trans (hb.mono hS1.size)
 have hv1lt : ∀ b, (Value.slice a1 k1 c1).ownBlock = some b → b < X1.heap.size := fun b e => (hown1.row.lt b e).2
 replace kc := kc.below hb kc.lt
 replace ki := ki.below hb ki.lt
 replace hown1 := hown1.later hb
 have hk1 : 2 * g1 = k1 := by have := congrArg List.length hlm1; rw [List.length_map, movL_len, hl1] at this; exact this.symm
 have hk2 : 2 * g2 = k2 := by have := congrArg List.length hlm2; rw [List.length_map, movL_len, hl2] at this; exact this.symm
 have hg11 : 1 ≤ g1 := by
  rcases Nat.eq_zero_or_pos g1 with h | h
  ·rw [h, Nat.zero_mul] at hG1; omega
  ·exact h
 have hg21 : 1 ≤ g2 := by
  rcases Nat.eq_zero_or_pos g2 with h | h
  ·rw [h, Nat.zero_mul] at hG2; omega
  ·exact h
 have hX01 : V5.heap.size + 1 ≤ X2.heap.size := by have := hS2.size; have := ki.lt; omega
 clear hb
 refine hK.out _ _ (fun h => hS2) ?_
 clear hK K
 try simp only [Act.put, nrz]
 refine step_op 10 (by kernel_rfl) rfl (fun K hK => ?_)
 have hr1 := hown1.row
 rw [hl1] at hr1
 have hr2 := hown2.row
 rw [hl2] at hr2
 obtain ⟨gb, rfl⟩ := row_someP hr2 (by omega)
 obtain ⟨ga, rfl⟩ := row_someP hr1 (by omega)
 have hga := hr1.lt ga rfl
 have hga1 := hv1lt ga rfl
 have hnews : ∀ j u, (flatJ l2)[j]? = some u → X2.cell? ((⟨gb, 0, none⟩ : Addr).add j) = some u := fun j u hu => by
  rw [addr_add, Nat.zero_add]
  have hj : j < k2 * 12 := by
   have := (List.getElem?_eq_some_iff.1 hu).1
   rw [flatJ_length, hl2] at this; exact this
  exact (hr2.cellAt j hj).trans hu
 refine step_append_atQ rfl _ _ 41 rfl (X0.heap.size + 1) 143 i0 (.agg #[.int .u8 0, .int .i64 0, .int .i64 0, .int .i64 0, .int .i64 0, .int .i64 0, .int .i64 0, .int .i64 0, .int .i64 0, .int .i64 0, .int .u8 0, .slice none 0 0]) 12 112 Tryz.underlying41 hi hz0 hz1 hz2 rfl (by decide) (.slice (some ⟨ga, 0, none⟩) k1 c1) k1 (flatJ l1) rfl hr1 ⟨gb, 0, none⟩ k2 c2 (flatJ l2) rfl (by rw [flatJ_length, hl2]) hnews (flatJ_one l2) (by unfold maxLen; omega) (by omega) (by omega) ?_
 intro v3 X3 own3 hg3 hat3
 have hS3 : Below V5.heap.size V5 X3 := hS2.grown hg3 hS2.size (fun b e => by have := (hr1.lt b e).1; have := hS.size; omega)
 have hcr : some bc ≠ (Value.slice (some ⟨ga, 0, none⟩) k1 c1).ownBlock := kc.not_row (by decide) hr1
 have kc3 := kc.kept hg3 hcr
 have ki3 := ki.kept hg3 (fun e => by have := (hr1.lt _ e.symm).1; have := hS.size; omega)
 have hk2r : ∀ y ∈ l2, RdJ (Value.slice (some ⟨ga, 0, none⟩) k1 c1).ownBlock X2 y := fun y hy => by
  refine ⟨(hown2.rd y hy).1, .inr (fun ad e e2 => ?_)⟩
  have h1 := hfr2 y hy ad e
  have h2 : ga = ad.block := by injection e2
  omega
 have hO : OwnI (X0.heap.size + 1) X3 v3 (l1 ++ l2) := OwnI.more hown1.rd hk2r (by rw [hl1, hl2]; exact own3) hg3 hat3
 obtain ⟨a3, c3, rfl⟩ := row_slice own3
 have hfr3 : ∀ y ∈ l1 ++ l2, ∀ ad, y.a = some ad → bc < ad.block := fun y hy ad e => by
  rcases List.mem_append.1 hy with hy | hy
  ·have := hfr1 y hy ad e; omega
  ·have := hfr2 y hy ad e; omega
 clear hnews hr2 own3 hg3 hat3 hown1 hown2 hcr
 refine hK.out _ _ (fun h => hS3) ?_
 clear hK K
 try simp only [Act.put, nrz]
 refine tkz 11 rfl hS3 (fun w' hS' => by go_simp; rfl) ?_
 simp only [nrz]
 refine step_op 12 (by kernel_rfl) rfl (fun K hK => ?_)
 have e4 := kc3.cell (i := 4) rfl
 have f4 := kc3.frozen 4
 rw [if_pos (by rfl)]
 go_simp
 clear e4 f4
 refine hK.out _ _ (fun h => absurd h (by omega)) ?_
 clear hK K
 try simp only [Act.put, nrz]
 refine done_ops (by kernel_rfl) ?_
 have hkk : (l1 ++ l2).length = k1 + k2 := by rw [List.length_append, hl1, hl2]
 have kc4 : Blk (X3.setCell ⟨bc, 4, none⟩ (.slice a3 (k1 + k2) c3)) bc 43 #[.int .i64 iw, .int .i64 ih, .slice (some ⟨V5.heap.size, 0, none⟩) 1 1, .int .i64 (D : Int), .slice a3 (k1 + k2) c3] := kc3.set 4 (.slice a3 (k1 + k2) c3)
 have hO4 := hO.put (x := 4) kc3 (by have := hO.row; rw [hkk] at this; exact kc3.not_row (by decide) this) hfr3 (.slice a3 (k1 + k2) c3)
 have ki4 := ki3.other (a := ⟨bc, 4, none⟩) (by show V5.heap.size ≠ bc; omega) (.slice a3 (k1 + k2) c3)
 have hb4 : Below V5.heap.size V5 (X3.setCell ⟨bc, 4, none⟩ (.slice a3 (k1 + k2) c3)) := hS3.setCell (p := ⟨bc, 4, none⟩) (by show V5.heap.size ≤ bc; omega) _
 obtain ⟨X4, hX4⟩ : ∃ X, X3.setCell ⟨bc, 4, none⟩ (.slice a3 (k1 + k2) c3) = X := ⟨_, rfl⟩
 rw [hX4] at kc4 hO4 ki4 hb4
 try rw [hX4]
 have hcode : (l1 ++ l2).map InsA.x = movL L pn A M g1 ++ movL L pn M D g2 := by rw [List.map_append, hlm1, hlm2]
 have hcl : (movL L pn A M g1 ++ movL L pn M D g2).length = k1 + k2 := by rw [List.length_append, movL_len, movL_len]; omega
 have hrun := fun (o : Nat) (ho : o = D ∨ o = M) => machine_run (v := ⟨(L : Int), vr, (N : Int)⟩) (m := ⟨iw, ih, xs⟩) hvbH.out rfl rfl hibH.out hpH.out.symm hA1 hM1 hD1 hd1 hd2 hG1 hg1 hG2 hg2 ho
 have hCI : ∀ o, CodeIn (movC ⟨iw, ih, xs⟩ A o (movL L pn A M g1 ++ movL L pn M D g2)) := fun o => movC_in (fun x hx => by
  rcases List.mem_append.1 hx with h | h
  ·exact mov_mem_in (by omega) g1 x h
  ·exact mov_mem_in (by omega) g2 x h) (by rw [hcl]; omega)
 obtain ⟨code, hcd⟩ : ∃ c, movL L pn A M g1 ++ movL L pn M D g2 = c := ⟨_, rfl⟩
 rw [hcd] at hcode hcl hrun hCI
 obtain ⟨kn, hkn⟩ : ∃ k, k1 + k2 = k := ⟨_, rfl⟩
 rw [hkn] at kc4 hkk hcl hO4
 try rw [hkn]
 have hRn := fun (o : Nat) (ho : o = D ∨ o = M) ia xa ic xc la W h1 h2 h3 => Run_any ⟨(L : Int), vr, (N : Int)⟩ (movC ⟨iw, ih, xs⟩ A o code) ia xa ic xc (hCI o) [⟨iw, ih, xs⟩] la 1 1 rfl (by decide) (fun i => by
  unfold picAt
  rcases i with _ | i
  ·show xs.length ≤ _; rw [hn.out]; omega
  ·exact Nat.zero_le _) W h1 h2 h3
 have hRn2 : ∀ (o : Nat) (ho : o = D ∨ o = M) ia xa ic xc la W, Rd W.heap.size W ia [(A : Int)] → RdCs W.heap.size W xa code → RdPs W.heap.size W la [⟨iw, ih, xs⟩] → Calls Tryz.prog 31 #[.agg #[.int .i64 (L : Int), .int .i64 vr, .int .i64 (N : Int)], .agg #[.int .i64 iw, .int .i64 ih, .slice ia 1 ic, .int .i64 (o : Int), .slice xa kn xc], .slice la 1 1] W (RetIm W.heap.size { w := iw, h := ih, px := xs, err := 0 } W) := fun o ho ia xa ic xc la W h1 h2 h3 => by
  have h := hRn o ho ia xa ic xc la W h1 h2 h3
  rw [hrun o ho] at h
  unfold vecv codev movC at h
  rw [hcl] at h
  exact h
 have hRH := Lib.hid hRn2
 clear hRn hRn2 hrun hCI hcd hkn hlm1 hlm2 hl1 hl2 hG1 hG2 hg1 hg2 hS hS1 hS2 hS3 kc kc3 ki ki3 hO hfr1 hfr2 hr1
 replace kv := kv.below hb4 kv.lt
 replace km := km.below hb4 km.lt
 replace hr := later_i hr hb4
 replace hB := tmB hB hb4
 clear hb4 hX4
 obtain ⟨v0, v1, v2⟩ := cz3 kv
 obtain ⟨m0, m1, m2⟩ := cz3 km
 obtain ⟨cc0, cc1, cc2, cc3, cc4⟩ := cz5 kc4
 have ii0 := ki4.cell (i := 0) rfl
 have y1_v0 := v0
 have y1_v1 := v1
 have y1_v2 := v2
 have y1_m0 := m0
 have y1_m1 := m1
 have y1_m2 := m2
 have y1_cc0 := cc0
 have y1_cc1 := cc1
 have y1_cc2 := cc2
 have y1_cc3 := cc3
 have y1_cc4 := cc4
 obtain ⟨V6, hEV6, hbV6, kl1⟩ := newB X4 32 #[.int .i64 iw, .int .i64 ih, .slice pa pn pc]
 clear v0 v1 v2 m0 m1 m2 cc0 cc1 cc2 cc3 cc4 ii0
 replace kv := kv.below hbV6 kv.lt
 replace km := km.below hbV6 km.lt
 replace kc4 := kc4.below hbV6 kc4.lt
 replace ki4 := ki4.below hbV6 ki4.lt
 replace hr := later_i hr hbV6
 replace hO4 := hO4.later hbV6
 replace hB := tmB hB hbV6
 clear hbV6
 obtain ⟨v0, v1, v2⟩ := cz3 kv
 obtain ⟨m0, m1, m2⟩ := cz3 km
 obtain ⟨cc0, cc1, cc2, cc3, cc4⟩ := cz5 kc4
 have ii0 := ki4.cell (i := 0) rfl
 have l10 := kl1.cell (i := 0) rfl
 have l11 := kl1.cell (i := 1) rfl
 have l12 := kl1.cell (i := 2) rfl
 go_wp2_with fail
 clear y1_v0 y1_v1 y1_v2 y1_m0 y1_m1 y1_m2 y1_cc0 y1_cc1 y1_cc2 y1_cc3 y1_cc4 hEV6
 refine ((hRH.out D (by first | exact .inl rfl | exact .inr rfl) (some ⟨V5.heap.size, 0, none⟩) a3 1 c3 _ V6 (rd_oneM ki4) (hcode ▸ hO4.cs hkk) (one_pic kl1 hn.out hr hzH.out))).mono ?_
 rintro e V7 ⟨⟨vv1, rfl, ⟨uu1, rfl, h1⟩⟩, hb⟩
 clear v0 v1 v2 m0 m1 m2 cc0 cc1 cc2 cc3 cc4 ii0 l10 l11 l12
 replace kv := kv.below hb kv.lt
 replace km := km.below hb km.lt
 replace kc4 := kc4.below hb kc4.lt
 replace ki4 := ki4.below hb ki4.lt
 replace kl1 := kl1.below hb kl1.lt
 replace hr := later_i hr hb
 replace hO4 := hO4.later hb
 replace hB := tmB hB hb
 clear hb
 dsimp only at h1 ⊢
 obtain ⟨p1a, p1c, rfl⟩ := row_slice h1
 rw [hn.out] at h1 ⊢
 have rw1 := h1
 clear h1
 clear kl1
 obtain ⟨v0, v1, v2⟩ := cz3 kv
 obtain ⟨m0, m1, m2⟩ := cz3 km
 obtain ⟨cc0, cc1, cc2, cc3, cc4⟩ := cz5 kc4
 have ii0 := ki4.cell (i := 0) rfl
 have hneI : V7.heap.size ≠ bc := fun e => by have := kc4.lt; omega
 obtain ⟨V8, hEV8, hbV8, kI1⟩ := newB V7 32 #[.int .i64 iw, .int .i64 ih, .slice p1a pn p1c]
 clear v0 v1 v2 m0 m1 m2 cc0 cc1 cc2 cc3 cc4 ii0
 replace kv := kv.below hbV8 kv.lt
 replace km := km.below hbV8 km.lt
 replace kc4 := kc4.below hbV8 kc4.lt
 replace ki4 := ki4.below hbV8 ki4.lt
 replace hr := later_i hr hbV8
 replace hO4 := hO4.later hbV8
 replace rw1 := row_below rw1 hbV8
 replace hB := tmB hB hbV8
 clear hbV8
 obtain ⟨v0, v1, v2⟩ := cz3 kv
 obtain ⟨m0, m1, m2⟩ := cz3 km
 obtain ⟨cc0, cc1, cc2, cc3, cc4⟩ := cz5 kc4
 have ii0 := ki4.cell (i := 0) rfl
 obtain ⟨i1z0, i1z1, i1z2⟩ := cz3 kI1
 have fcc3 := kc4.frozen 3
 have kc5 : Blk (V8.setCell ⟨bc, 3, none⟩ (.int .i64 (M : Int))) bc 43 #[.int .i64 iw, .int .i64 ih, .slice (some ⟨V5.heap.size, 0, none⟩) 1 1, .int .i64 (M : Int), .slice a3 kn c3] := kc4.set 3 (.int .i64 (M : Int))
 have hO5 := hO4.put (x := 3) kc4 (by have := hO4.row; rw [hkk] at this; exact kc4.not_row (by decide) this) hfr3 (.int .i64 (M : Int))
 have kv5 := kv.other (a := ⟨bc, 3, none⟩) (by show w.heap.size ≠ bc; omega) (.int .i64 (M : Int))
 have km5 := km.other (a := ⟨bc, 3, none⟩) (by show V1.heap.size ≠ bc; omega) (.int .i64 (M : Int))
 have ki5 := ki4.other (a := ⟨bc, 3, none⟩) (by show V5.heap.size ≠ bc; omega) (.int .i64 (M : Int))
 have kI5 := kI1.other (a := ⟨bc, 3, none⟩) (fun e => hneI e) (.int .i64 (M : Int))
 have rw5 := row_setCell rw1 (a := ⟨bc, 3, none⟩) (kc4.not_row (by decide) rw1) (.int .i64 (M : Int))
 have hB5 : Below w.heap.size w (V8.setCell ⟨bc, 3, none⟩ (.int .i64 (M : Int))) := hB.setCell (p := ⟨bc, 3, none⟩) (by show w.heap.size ≤ bc; omega) _
 have q_cc := cc0
 obtain ⟨V99, hE99⟩ : ∃ X, V8.setCell ⟨bc, 3, none⟩ (.int .i64 (M : Int)) = X := ⟨_, rfl⟩
 rw [hE99] at kc5 hO5 kv5 km5 ki5 kI5 rw5 hB5
 have hr5 : Rd V99.heap.size V99 pa xs := (hr0.below (Nat.le_refl _) hB5).mono hB5.size
 have w_v0 := v0
 have w_v1 := v1
 have w_v2 := v2
 have w_m0 := m0
 have w_m1 := m1
 have w_m2 := m2
 have w_cc0 := cc0
 have w_cc1 := cc1
 have w_cc2 := cc2
 have w_cc3 := cc3
 have w_cc4 := cc4
 clear v0 v1 v2 m0 m1 m2 cc0 cc1 cc2 cc3 cc4 ii0 i1z0 i1z1 i1z2
 clear kc4 hO4 kv km ki4 kI1 rw1 hB hr q_cc
 have kc4 := kc5
 have hO4 := hO5
 have kv := kv5
 have km := km5
 have ki4 := ki5
 have kI1 := kI5
 have rw1 := rw5
 have hB := hB5
 have hr := hr5
 clear kc5 hO5 kv5 km5 ki5 kI5 rw5 hB5 hr5
 obtain ⟨v0, v1, v2⟩ := cz3 kv
 obtain ⟨m0, m1, m2⟩ := cz3 km
 obtain ⟨cc0, cc1, cc2, cc3, cc4⟩ := cz5 kc4
 have ii0 := ki4.cell (i := 0) rfl
 obtain ⟨i1z0, i1z1, i1z2⟩ := cz3 kI1
 have y2_v0 := v0
 have y2_v1 := v1
 have y2_v2 := v2
 have y2_m0 := m0
 have y2_m1 := m1
 have y2_m2 := m2
 have y2_cc0 := cc0
 have y2_cc1 := cc1
 have y2_cc2 := cc2
 have y2_cc3 := cc3
 have y2_cc4 := cc4
 obtain ⟨V9, hEV9, hbV9, kl2⟩ := newB V99 32 #[.int .i64 iw, .int .i64 ih, .slice pa pn pc]
 clear v0 v1 v2 m0 m1 m2 cc0 cc1 cc2 cc3 cc4 ii0 i1z0 i1z1 i1z2
 replace kv := kv.below hbV9 kv.lt
 replace km := km.below hbV9 km.lt
 replace kc4 := kc4.below hbV9 kc4.lt
 replace ki4 := ki4.below hbV9 ki4.lt
 replace kI1 := kI1.below hbV9 kI1.lt
 replace hr := later_i hr hbV9
 replace hO4 := hO4.later hbV9
 replace rw1 := row_below rw1 hbV9
 replace hB := tmB hB hbV9
 clear hbV9
 obtain ⟨v0, v1, v2⟩ := cz3 kv
 obtain ⟨m0, m1, m2⟩ := cz3 km
 obtain ⟨cc0, cc1, cc2, cc3, cc4⟩ := cz5 kc4
 have ii0 := ki4.cell (i := 0) rfl
 obtain ⟨i1z0, i1z1, i1z2⟩ := cz3 kI1
 have l20 := kl2.cell (i := 0) rfl
 have l21 := kl2.cell (i := 1) rfl
 have l22 := kl2.cell (i := 2) rfl
 go_wp2_with fail
 clear hEV8 hE99 fcc3 y2_v0 y2_v1 y2_v2 y2_m0 y2_m1 y2_m2 y2_cc0 y2_cc1 y2_cc2 y2_cc3 y2_cc4 hEV9
 refine ((hRH.out M (by first | exact .inl rfl | exact .inr rfl) (some ⟨V5.heap.size, 0, none⟩) a3 1 c3 _ V9 (rd_oneM ki4) (hcode ▸ hO4.cs hkk) (one_pic kl2 hn.out hr hzH.out))).mono ?_
 rintro e V10 ⟨⟨vv2, rfl, ⟨uu2, rfl, h1⟩⟩, hb⟩
 clear v0 v1 v2 m0 m1 m2 cc0 cc1 cc2 cc3 cc4 ii0 i1z0 i1z1 i1z2 l20 l21 l22
 replace kv := kv.below hb kv.lt
 replace km := km.below hb km.lt
 replace kc4 := kc4.below hb kc4.lt
 replace ki4 := ki4.below hb ki4.lt
 replace kI1 := kI1.below hb kI1.lt
 replace kl2 := kl2.below hb kl2.lt
 replace hr := later_i hr hb
 replace hO4 := hO4.later hb
 replace rw1 := row_below rw1 hb
 replace hB := tmB hB hb
 clear hb
 dsimp only at h1 ⊢
 obtain ⟨p2a, p2c, rfl⟩ := row_slice h1
 rw [hn.out] at h1 ⊢
 have rw2 := h1
 clear h1
 clear kl2
 obtain ⟨v0, v1, v2⟩ := cz3 kv
 obtain ⟨m0, m1, m2⟩ := cz3 km
 obtain ⟨cc0, cc1, cc2, cc3, cc4⟩ := cz5 kc4
 have ii0 := ki4.cell (i := 0) rfl
 obtain ⟨i1z0, i1z1, i1z2⟩ := cz3 kI1
 obtain ⟨V11, hEV11, hbV11, kI2⟩ := newB V10 32 #[.int .i64 iw, .int .i64 ih, .slice p2a pn p2c]
 clear v0 v1 v2 m0 m1 m2 cc0 cc1 cc2 cc3 cc4 ii0 i1z0 i1z1 i1z2
 replace kv := kv.below hbV11 kv.lt
 replace km := km.below hbV11 km.lt
 replace kc4 := kc4.below hbV11 kc4.lt
 replace ki4 := ki4.below hbV11 ki4.lt
 replace kI1 := kI1.below hbV11 kI1.lt
 replace hr := later_i hr hbV11
 replace hO4 := hO4.later hbV11
 replace rw1 := row_below rw1 hbV11
 replace rw2 := row_below rw2 hbV11
 replace hB := tmB hB hbV11
 clear hbV11
 obtain ⟨v0, v1, v2⟩ := cz3 kv
 obtain ⟨m0, m1, m2⟩ := cz3 km
 obtain ⟨cc0, cc1, cc2, cc3, cc4⟩ := cz5 kc4
 have ii0 := ki4.cell (i := 0) rfl
 obtain ⟨i1z0, i1z1, i1z2⟩ := cz3 kI1
 obtain ⟨i2z0, i2z1, i2z2⟩ := cz3 kI2
 go_wp2_with fail
 clear hEV11
 refine (Same_eq iw ih p1a pa p1c pc pn xs hn V11 hmm (row_rd' hn.out rw1) hr).mono ?_
 rintro e V12 ⟨rfl, hb⟩
 clear v0 v1 v2 m0 m1 m2 cc0 cc1 cc2 cc3 cc4 ii0 i1z0 i1z1 i1z2 i2z0 i2z1 i2z2
 replace kv := kv.below hb kv.lt
 replace km := km.below hb km.lt
 replace kc4 := kc4.below hb kc4.lt
 replace ki4 := ki4.below hb ki4.lt
 replace kI1 := kI1.below hb kI1.lt
 replace kI2 := kI2.below hb kI2.lt
 replace hr := later_i hr hb
 replace hO4 := hO4.later hb
 replace rw1 := row_below rw1 hb
 replace rw2 := row_below rw2 hb
 replace hB := tmB hB hb
 clear hb
 obtain ⟨v0, v1, v2⟩ := cz3 kv
 obtain ⟨m0, m1, m2⟩ := cz3 km
 obtain ⟨cc0, cc1, cc2, cc3, cc4⟩ := cz5 kc4
 have ii0 := ki4.cell (i := 0) rfl
 obtain ⟨i1z0, i1z1, i1z2⟩ := cz3 kI1
 obtain ⟨i2z0, i2z1, i2z2⟩ := cz3 kI2
 go_wp2_with fail
 refine (Same_eq iw ih p2a pa p2c pc pn xs hn V12 hmm (row_rd' hn.out rw2) hr).mono ?_
 rintro e V13 ⟨rfl, hb⟩
 clear v0 v1 v2 m0 m1 m2 cc0 cc1 cc2 cc3 cc4 ii0 i1z0 i1z1 i1z2 i2z0 i2z1 i2z2
 replace kv := kv.below hb kv.lt
 replace km := km.below hb km.lt
 replace kc4 := kc4.below hb kc4.lt
 replace ki4 := ki4.below hb ki4.lt
 replace kI1 := kI1.below hb kI1.lt
 replace kI2 := kI2.below hb kI2.lt
 replace hr := later_i hr hb
 replace hO4 := hO4.later hb
 replace rw1 := row_below rw1 hb
 replace rw2 := row_below rw2 hb
 replace hB := tmB hB hb
 clear hb
 obtain ⟨v0, v1, v2⟩ := cz3 kv
 obtain ⟨m0, m1, m2⟩ := cz3 km
 obtain ⟨cc0, cc1, cc2, cc3, cc4⟩ := cz5 kc4
 have ii0 := ki4.cell (i := 0) rfl
 obtain ⟨i1z0, i1z1, i1z2⟩ := cz3 kI1
 obtain ⟨i2z0, i2z1, i2z2⟩ := cz3 kI2
 go_wp2_with fail
 go_ret
 exact ⟨rfl, hB⟩

end Go.Proofs.YtekiemlniegddaaGreat

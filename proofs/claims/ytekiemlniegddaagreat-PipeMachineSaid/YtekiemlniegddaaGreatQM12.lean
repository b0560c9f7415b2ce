/- Contracts and laws (PPl, PRo, PCe, Fork). -/
import Derived.Lib.MinMax
import Derived.Test.YtekiemlniegddaaGreatQM11
import Derived.Test.YtekiemlniegddaaGreatQM5
import Derived.Test.YtekiemlniegddaaGreatQM1
set_option linter.unusedVariables false
set_option linter.unusedSimpArgs false
namespace Go.Proofs.YtekiemlniegddaaGreat
open Go Go.Maps Go.RowKit Go.Shelf
theorem useL_take {s : PlS} {l : List Int} {j : Nat} (hj : j < l.length) : useL s (l.take (j + 1)) = useOne (useL s (l.take j)) (l[j]?.getD 0) := by
 unfold useL
 rw [List.take_succ_eq_append_getElem hj, List.foldl_append, List.getElem?_eq_getElem hj]; rfl
theorem useL_bd (l : List Int) : ∀ (s : PlS) (A C : Int), (∀ m, A ≤ numF (s.left m) ∧ numF (s.left m) ≤ C) → ∀ m, A - l.length ≤ numF ((useL s l).left m) ∧ numF ((useL s l).left m) ≤ C := by
 induction l with
 | nil => intro s A C h m; have := h m; show A - ((0 : Nat) : Int) ≤ numF (s.left m) ∧ numF (s.left m) ≤ C; omega
 | cons a l ih =>
  intro s A C h m
  have h2 := ih (useOne s a) (A - 1) C (fun m => by rw [useOne_left]; have := h m; split <;> omega) m
  show A - ((l.length + 1 : Nat) : Int) ≤ numF ((useL (useOne s a) l).left m) ∧ numF ((useL (useOne s a) l).left m) ≤ C
  omega
theorem cntR_le (rs : List RndN) (m : Int) : ∀ k, cntR rs m k ≤ k
 | 0 => Nat.le_refl _
 | k + 1 => by rw [cntR]; have := cntR_le rs m k; have := inOps_le (rnAt rs k).head m; omega
theorem plS_bd (I : Nat) (last : Int) (rs : List RndN) (k : Nat) (hk : k ≤ rs.length) (m : Int) : 0 ≤ numF ((plS I last rs k).left m) ∧ numF ((plS I last rs k).left m) ≤ 1 + (rs.length : Int) := by
 rw [plS_left]
 have h1 : isL last m ≤ 1 := by unfold isL; split <;> omega
 have h2 := cntR_mono rs m hk
 have h3 := cntR_le rs m rs.length
 omega
theorem blk_rng {W : World} {b : Nat} {t : TypeId} {cs : Array Value} (h : Blk W b t cs) : W.rangeAt b 0 cs.toList := fun j u hu => by
 rw [Nat.zero_add]; exact h.cell (by simpa using hu)
theorem wpList_callAnyQ {P : Program} {ops : Array Oper} {rest : List Oper} {o : Oper} {a : Act} {w : World} {Q : Exit → Act → World → Prop} (hg : o.guard = none) (d : Option Tmp) (hd : o.dst = d)
  (f : FuncId) (args : Array Value) (hrun : (execOp a.eval o).run P w = .ok (.enter f args) w) (R : Ending → World → Prop) (hc : Calls P f args w R)
  (h : ∀ e w', R e w' → ∃ v, e = .returned v ∧ wpList P ops Q rest (a.put d v) w') : wpList P ops Q (o :: rest) a w := by
 subst hd
 refine wpList_plain hg fun K hK => ?_
 unfold Oper.wp
 rw [hrun, Oper.upon_enter]
 refine hc.mono fun e w2 hh => ?_
 obtain ⟨v, rfl, h2⟩ := h e w2 hh
 exact hK _ _ h2
/-- What a function that 'plan' calls must do, round by round. -/
structure PlanDo (fo : Nat) (lb : Array Value) (In : Nat) (last : Int) (rs : List RndN) (N M B0 : Nat) (J : Nat → (Nat → Prop) → World → Prop) : Prop where
 frame : ∀ k S W W', J k S W → Trn (fun b => ¬ S b) W W' → J k S W'
 own : ∀ k S W, J k S W → ∀ b, S b → B0 ≤ b ∧ b < W.heap.size
 run : ∀ k S W (y : RndA) (ky : Nat) (bl : Nat), k < N → J k S W → y.r = rnAt rs k → Rd B0 W y.ka y.r.head.taps → RdB B0 W y.sa y.r.head.bits → W.ownsRow B0 69 5 y.pv y.r.pts.length (ptsC y.r.pts) → (∀ b, y.pv.ownBlock = some b → ¬ S b) →
  OwnF Tryz.prog 3 4 W bl ky (livN In last rs k) M → ¬ S bl → B0 ≤ W.heap.size →
  Calls Tryz.prog fo (#[rndv y, .map (some bl)] ++ lb) W fun e W' => (∃ vv, e = .returned vv) ∧ ∃ S', J (k + 1) S' W' ∧ Trn S W W' ∧ ∀ b, S' b → S b ∨ W.heap.size ≤ b
set_option maxRecDepth 100000 in
set_option maxHeartbeats 8000000 in
theorem plan_any (P : PipeN) (a : Option Addr) (n c : Nat) (hn : P.ss.length = n) (hn12 : 1 ≤ n ∧ n ≤ 12) (hI : 0 ≤ P.inp ∧ P.inp ≤ 3) (hst : ∀ i, i < n → StepIn (stAt P.ss i)) (hr0 : RefOk P.inp P.ss) (B0 : Nat) (w : World) (hB0 : B0 ≤ w.heap.size) (hr : RdSs B0 w a P.ss)
  (fo : Nat) (lb : Array Value) (eg : ∀ args w, (callFunc fo args).run Tryz.prog w = .ok (.enter fo args) w) (J : Nat → (Nat → Prop) → World → Prop) (last : Int) (hlast : last = P.inp + n - 1) (hdo : PlanDo fo lb P.inp.toNat (P.inp + n - 1) (rdsN P.inp P.ss) (rdsN P.inp P.ss).length (P.inp.toNat + n) B0 J) (S0 : Nat → Prop) (hJ : J 0 S0 w) :
  Calls Tryz.prog 53 #[pipev P a n c, .func (.func fo) #[] lb] w fun e w' => (∃ vv, e = .returned vv) ∧ ∃ S', J (rdsN P.inp P.ss).length S' w' ∧ Trn S0 w w' ∧ ∀ b, S' b → S0 b ∨ w.heap.size ≤ b := by
 obtain ⟨WW, HH, I, ss⟩ := P
 unfold pipev
 simp only at hn hI hst hr0 hr hdo hlast ⊢
 have hB : Below w.heap.size w w := Below.refl _ _
 have hnH := Lib.hid hn
 have hkeys : ∀ q, q < (rdsN I ss).length → ∀ m ∈ opsN (rnAt (rdsN I ss) q).head, 0 ≤ m ∧ m < I + n := fun q hq m hm => by
  have h1 := (rdsN_ok hr0).head q hq
  have h2 : (rnAt (rdsN I ss) q).head = stAt ss (rnAt (rdsN I ss) q).at_ := h1.2
  rw [h2] at hm
  have h3 := hr0 _ h1.1 m hm
  have h4 := h1.1
  rw [hn] at h4
  omega
 have hresb : ∀ q, q < (rdsN I ss).length → 0 ≤ (rnAt (rdsN I ss) q).res ∧ (rnAt (rdsN I ss) q).res < I + n := fun q hq => by
  have := res_bd hr0 hq
  rw [hn] at this
  omega
 have hNle : (rdsN I ss).length ≤ n := by have h := (rdsN_ok hr0).len; have h2 : (rdsN I ss).length ≤ ss.length := h; omega
 have hrnd := fun W h1 h2 => rounds_any ⟨WW, HH, I, ss⟩ a n c hn (by omega) hI hst hr0 B0 W h1 h2
 have huse := fun x v hx B W h1 h2 => uses_any ⟨WW, HH, I, ss⟩ a n c hn hn12 hI (rdsN I ss) _ rfl (by omega) x v hx hkeys B0 B W h1 h2
 unfold pipev at hrnd huse
 simp only at hrnd huse
 have hrndH := Lib.hid hrnd
 have hstH := Lib.hid hst
 obtain ⟨In, rfl⟩ : ∃ In : Nat, I = (In : Int) := ⟨I.toNat, by omega⟩
 obtain ⟨M, hM⟩ : ∃ M : Nat, In + n = M := ⟨_, rfl⟩
 have hMI : (M : Int) = (In : Int) + n := by omega
 have hM20 : M < 20 := by omega
 rw [show (In : Int).toNat + n = M by omega] at huse hdo
 rw [show (In : Int).toNat = In by omega] at hdo
 obtain ⟨last, hlastE⟩ : ∃ l, (In : Int) + n - 1 = l := ⟨_, rfl⟩
 rw [hlastE] at huse hdo
 obtain ⟨rs, hrs0⟩ : ∃ rs, rdsN (In : Int) ss = rs := ⟨_, rfl⟩
 rw [hrs0] at huse hdo hkeys hresb hNle hrndH ⊢
 obtain ⟨N, hN⟩ : ∃ N, rs.length = N := ⟨_, rfl⟩
 have hNH := Lib.hid hN
 rw [hN] at huse hdo hkeys hresb hNle hrndH ⊢
 have huseH := Lib.hid huse
 have hdoH := Lib.hid hdo
 have hkH := Lib.hid hkeys
 have hresH := Lib.hid hresb
 have hmm := @run_makeMap Tryz.prog
 have hSw := hdo.own 0 S0 w hJ
 have hSwH := Lib.hid hSw
 have hJH := Lib.hid hJ
 clear hn hst hr0 hkeys hresb hrnd huse hdo hM hlastE hrs0 hN hlast hJ hSw
 obtain ⟨V1, hEV1, hbV1, kp⟩ := newB w 24 #[.int .i64 WW, .int .i64 HH, .int .i64 (In : Int), .slice a n c]
 replace hr := hr.below hB0 (Below.mono hbV1 (by omega))
 replace hB := tmB hB hbV1
 clear hbV1
 obtain ⟨m0, m1, m2, m3⟩ := cz4 kp
 go_enter Tryz.func53, Tryz.ntmps53
 have hle1 := hB.size
 go_wp2_with fail
 clear hEV1
 refine (hrndH.out V1 (by omega) hr).mono ?_
 rintro e V2 ⟨v, x, rfl, hrs, hx, hb⟩
 have hle2 := hb.size
 clear m0 m1 m2 m3
 replace kp := kp.below hb kp.lt
 replace hB := tmB hB hb
 clear hb
 clear hr
 have hb9 : w.heap.size ≤ V2.heap.size := hB.size
 have hxH := Lib.hid hx
 clear hx hrndH
 obtain ⟨BR, hBR⟩ : ∃ b, V1.heap.size = b := ⟨_, rfl⟩
 rw [hBR] at hrs hle2
 have hBRw : w.heap.size ≤ BR := by omega
 clear hBR
 obtain ⟨m0, m1, m2, m3⟩ := cz4 kp
 go_wp2_with fail
 refine (huseH.out x v hxH.out BR V2 (by omega) hrs).mono ?_
 rintro e V3 ⟨bL, rfl, hbL, hL, hb⟩
 clear m0 m1 m2 m3
 replace kp := kp.below hb kp.lt
 replace hrs := hrs.below hb (by omega)
 replace hB := tmB hB hb
 clear hb
 clear huseH
 obtain ⟨F0, hF0⟩ : ∃ F, lefF last rs N = F := ⟨_, rfl⟩
 rw [hF0] at hL
 have hF0H := Lib.hid hF0
 clear hF0
 have hl0 := OwnF.made Tryz.prog 3 4 V3 M
 have hbm : Below V3.heap.size V3 (V3.alloc (.map #[] 0)) := jb_al (Below.refl _ V3) _
 obtain ⟨bl, hbl⟩ : ∃ b, V3.heap.size = b := ⟨_, rfl⟩
 obtain ⟨V7, hEV7⟩ : ∃ X, V3.alloc (.map #[] 0) = X := ⟨_, rfl⟩
 rw [hEV7] at hbm hl0
 rw [hbl] at hl0
 have hblL : bL < bl := by rw [← hbl]; exact hL.lt
 replace kp := kp.below hbm kp.lt
 replace hrs := hrs.below hbm (by omega)
 replace hL := hL.below hbm
 replace hB := tmB hB hbm
 clear hbm
 obtain ⟨m0, m1, m2, m3⟩ := cz4 kp
 go_wp2_with fail
 clear hEV7 hbl
 clear m0 m1 m2 m3
 clear hmm
 have hl0' : OwnF Tryz.prog 3 4 V7 bl 0 (livI F0 0) M := hl0
 clear hl0 kp
 go_loopw [20] (fun i wr => ∃ k : Nat, k ≤ In ∧ i = .int .i64 (k : Int) ∧ OwnF Tryz.prog 3 4 wr bl k (livI F0 k) M ∧ OwnF Tryz.prog 3 3 wr bL 40 F0 M ∧ OwnRs B0 BR wr v N x ∧ Below w.heap.size w wr) (fun i _ => In - (intOf i).toNat)
 case atStart => exact ⟨0, Nat.zero_le _, rfl, hl0', hL, hrs, hB⟩
 case round =>
  clear hl0' hL hrs hB
  obtain ⟨k, hk, rfl, hl, hL, hrs, hB⟩ := hrel
  by_cases hlt : k < In
  case pos =>
   have hltd : decide ((k : Int) < (In : Int)) = true := by simp; omega
   have hlk := hL.run_look Tryz.underlying3 Tryz.underlying101 Tryz.underlying3 (zero_num _) (k : Int) (wf_num ⟨by omega, by omega⟩)
   have hstep : livI F0 (k + 1) = if 0 < numF (F0 (k : Int)) then putF (livI F0 k) (k : Int) (.bool true) else livI F0 k := rfl
   obtain ⟨q, hq⟩ : ∃ q, numF (F0 (k : Int)) = q := ⟨_, rfl⟩
   rw [hq] at hlk hstep
   have hstepH := Lib.hid hstep
   clear hq hstep
   have hsz := hB.size
   by_cases h0 : 0 < q
   case pos =>
    have h0d : decide (0 < q) = true := decide_eq_true h0
    go_wp2_with (at_mapUpdate; refine OwnF.putw _ rfl _ _ _ _ rfl Tryz.underlying3 Tryz.underlying112 bl rfl hl (by omega) k (by omega) (by omega) _ _ rfl rfl (plainElem_bool Tryz.underlying4 true) ?_; intro w1 hl1 hg1)
    exact ⟨⟨k + 1, by omega, by go_num, by rw [hstepH.out, if_pos h0]; exact hl1, hL.kept hg1 (by simp; omega), hrs.map hl hg1 (by omega) (by omega), hB.grown hg1 hB.size (fun t e => by injection e with e; omega)⟩, by simp [intOf]; omega⟩
   case neg =>
    have h0d : decide (0 < q) = false := decide_eq_false h0
    have hl1 := hl.mono (n' := k + 1) (by omega)
    rw [show livI F0 k = livI F0 (k + 1) by rw [hstepH.out, if_neg h0]] at hl1
    clear hl
    go_wp2_with fail
    go_roundw
    case rel => exact ⟨k + 1, by omega, by go_num, hl1, hL, hrs, hB⟩
    case measure => simp [intOf]; omega
  case neg =>
   have hltd : decide ((k : Int) < (In : Int)) = false := by simp; omega
   have hkI : In = k := by omega
   subst hkI
   have e1 : (plS In last rs 0).left = F0 := by show lefF last rs rs.length = F0; rw [hNH.out]; exact hF0H.out
   have e2 : (plS In last rs 0).live = livI F0 In := by show livI (lefF last rs rs.length) In = _; rw [hNH.out, hF0H.out]
   obtain ⟨C, hC⟩ : ∃ C, wr.heap.size = C := ⟨_, rfl⟩
   have hsz := hB.size
   have hvC : ∀ b, v.ownBlock = some b → BR ≤ b ∧ b < C := fun b hb => by rw [← hC]; exact hrs.row.lt b hb
   have hpC : ∀ q, q < N → (∀ b, (x q).pv.ownBlock = some b → BR ≤ b ∧ b < C) ∧ BR ≤ (x q).ub ∧ (x q).ub < C := fun q hq => by
    rw [← hC]
    exact ⟨fun b hb => (hrs.pts q hq).lt b hb, (hrs.uses q hq).2, (hrs.uses q hq).1.lt⟩
   have hvCH := Lib.hid hvC
   have hpCH := Lib.hid hpC
   have hbLC : bL < C := by rw [← hC]; exact hL.lt
   have hblC : bl < C := by rw [← hC]; exact hl.lt
   have hJ0 := hdoH.out.frame 0 S0 w wr hJH.out (Below.trn hB (fun b => ¬ S0 b) (fun b hb _ hs => by have := (hSwH.out b hs).2; omega))
   have hT0 : Trn S0 w wr := Below.trn0 hB S0
   have hSC : Hid (∀ b, S0 b → b < w.heap.size ∨ C ≤ b) := Lib.hid (fun b hb => .inl (hSwH.out b hb).2)
   have hSS : Hid (∀ b, S0 b → S0 b ∨ w.heap.size ≤ b) := Lib.hid (fun b hb => .inl hb)
   have hszz : Hid (B0 ≤ wr.heap.size ∧ C ≤ wr.heap.size) := Lib.hid ⟨by omega, by omega⟩
   have hl9 : OwnF Tryz.prog 3 4 wr bl (4 + 0) (plS In last rs 0).live M := by rw [e2]; exact hl.mono (by omega)
   have hL9 : OwnF Tryz.prog 3 3 wr bL (40 + 2 * 0) (plS In last rs 0).left M := by rw [e1]; exact hL
   obtain ⟨va, vc, rfl⟩ := hrs.slice
   clear hlt hk hl hL hB e1 e2 hvC hpC hC hsz
   go_wp2_with fail
   clear hltd
   go_loopw [32] (fun i wr => ∃ (k : Nat) (S : Nat → Prop), k ≤ N ∧ i = .int .i64 (k : Int) ∧ J k S wr ∧ Hid (∀ b, S b → b < w.heap.size ∨ C ≤ b) ∧ Hid (∀ b, S b → S0 b ∨ w.heap.size ≤ b) ∧ OwnF Tryz.prog 3 4 wr bl (4 + k) (plS In last rs k).live M ∧ OwnF Tryz.prog 3 3 wr bL (40 + 2 * k) (plS In last rs k).left M ∧ OwnRs B0 BR wr (.slice va N vc) N x ∧ Trn S0 w wr ∧ Hid (B0 ≤ wr.heap.size ∧ C ≤ wr.heap.size)) (fun i _ => N - (intOf i).toNat)
   case atStart => exact ⟨0, S0, Nat.zero_le _, rfl, hJ0, hSC, hSS, hl9, hL9, hrs, hT0, hszz⟩
   case round =>
    clear hJ0 hSC hSS hl9 hL9 hrs hT0 hszz
    obtain ⟨k, S, hk, rfl, hJ, hSC, hSS, hl, hL, hrs, hT, hszz⟩ := hrel
    by_cases hlt : k < N
    case neg =>
     have hltd : decide ((k : Int) < (N : Int)) = false := by simp; omega
     have hkn : N = k := by omega
     subst hkn
     go_wp2_with fail
     go_end0
     exact ⟨⟨_, rfl⟩, S, hJ, hT, hSS.out⟩
    case pos =>
     have hltd : decide ((k : Int) < (N : Int)) = true := by simp; omega
     obtain ⟨hs1, hs2⟩ := hszz.out
     obtain ⟨g, gc, s, ka, kc, sa, sc, pa, np, pc, ub, uc, L, m, rz, hvs, hgB, hgl, hs, hL', hm, hrz, hnp, kq, hpr, hxe, hgc⟩ := hrs.opn hlt
     obtain ⟨rfl, _, rfl⟩ : va = some ⟨g, 0, none⟩ ∧ N = N ∧ vc = gc := by injection hvs with e1 e2 e3; exact ⟨e1, rfl, e3⟩
     clear hvs
     have hxk := hxH.out k hlt
     have hyr : (⟨(rnAt rs k).at_, s, (rnAt rs k).pts, rz⟩ : RndN) = rnAt rs k := by rw [← hs, ← hrz, hxk]
     rw [hxk] at hs hrz hnp hpr
     have hrb := hresH.out k hlt
     rw [hrz] at hrb
     obtain ⟨Z, rfl⟩ : ∃ Z : Nat, rz = (Z : Int) := ⟨rz.toNat, by omega⟩
     have hZM : Z < M := by omega
     clear hrb
     have hkk := hkH.out k hlt
     rw [hs, hL'] at hkk
     obtain ⟨ol1, ol2⟩ := opsN_len s
     rw [hL', hm] at ol1 ol2
     have hol : 1 ≤ m ∧ m ≤ 2 := by omega
     have hkkH := Lib.hid hkk
     have hmH := Lib.hid hm
     have hyrH := Lib.hid hyr
     have hsH := Lib.hid hs
     have hrzH := Lib.hid hrz
     have hnpH := Lib.hid hnp
     have hLH := Lib.hid hL'
     obtain ⟨hta, hbi⟩ := hrs.taps k hlt
     obtain ⟨hubB, hpv, hube, hkae, hsae⟩ := hxe
     rw [hkae, hxk, hs] at hta
     rw [hsae, hxk, hs] at hbi
     have hpC := hpCH.out k hlt
     rw [hpv, hube] at hpC
     obtain ⟨hpC1, _, hubC⟩ := hpC
     have hbw : ∀ b, BR ≤ b → b < C → ¬ S b := fun b h1 h2 h3 => by have := hSC.out b h3; omega
     have hSwr := hdoH.out.own k S wr hJ
     have hubS := hbw ub hubB hubC
     have hbLS := hbw bL (by omega) hbLC
     have hblS := hbw bl (by omega) hblC
     have hpS : ∀ b, (Value.slice pa np pc).ownBlock = some b → ¬ S b := fun b hb => hbw b (hpC1 b hb).1 (hpC1 b hb).2
     have hfrz := hdoH.out.frame k S
     have hrowS : Hid (∀ b, S b → B0 ≤ b) := Lib.hid (fun b hb => (hSwr b hb).1)
     have hbsS : ¬ S wr.heap.size := fun h => by have := (hSwr _ h).2; omega
     clear hs hL' hm hrz hnp hkk ol1 ol2 hyr hpv hube hkae hsae hpC1 hSwr hxk
     have hb1 : Below wr.heap.size wr (wr.alloc (.cells #[.int .u8 s.op, .int .i64 s.a, .int .i64 s.b, .int .i64 s.pt.mul, .int .i64 s.pt.add, .int .i64 s.pt.div, .int .i64 s.pt.lo, .int .i64 s.pt.hi, .int .u8 s.how, .int .i64 s.kw, .int .i64 s.kh, .slice ka s.taps.length kc, .int .u8 s.bd, .int .i64 s.sw, .int .i64 s.sh, .slice sa s.bits.length sc, .slice pa np pc, .slice (some ⟨ub, 0, none⟩) m uc, .int .i64 (Z : Int)] 111)) := jb_al (Below.refl _ wr) _
     have ks := Blk.new wr 111 #[.int .u8 s.op, .int .i64 s.a, .int .i64 s.b, .int .i64 s.pt.mul, .int .i64 s.pt.add, .int .i64 s.pt.div, .int .i64 s.pt.lo, .int .i64 s.pt.hi, .int .u8 s.how, .int .i64 s.kw, .int .i64 s.kh, .slice ka s.taps.length kc, .int .u8 s.bd, .int .i64 s.sw, .int .i64 s.sh, .slice sa s.bits.length sc, .slice pa np pc, .slice (some ⟨ub, 0, none⟩) m uc, .int .i64 (Z : Int)]
     obtain ⟨bs, hbs⟩ : ∃ b, wr.heap.size = b := ⟨_, rfl⟩
     obtain ⟨V11, hEV11⟩ : ∃ X, wr.alloc (.cells #[.int .u8 s.op, .int .i64 s.a, .int .i64 s.b, .int .i64 s.pt.mul, .int .i64 s.pt.add, .int .i64 s.pt.div, .int .i64 s.pt.lo, .int .i64 s.pt.hi, .int .u8 s.how, .int .i64 s.kw, .int .i64 s.kh, .slice ka s.taps.length kc, .int .u8 s.bd, .int .i64 s.sw, .int .i64 s.sh, .slice sa s.bits.length sc, .slice pa np pc, .slice (some ⟨ub, 0, none⟩) m uc, .int .i64 (Z : Int)] 111) = X := ⟨_, rfl⟩
     rw [hEV11] at ks hb1
     rw [hbs] at ks hbsS
     have hJ1 := hfrz wr V11 hJ (Below.trn0 hb1 _)
     have hl1 := hl.below hb1
     have hL1 := hL.below hb1
     have hrs1 := hrs.below hb1 hs1
     have hta1 := hta.below (B' := wr.heap.size) hs1 hb1
     have hbi1 := hbi.below (B' := wr.heap.size) hs1 hb1
     have hpr1 := row_below hpr hb1
     have kq1 := kq.below hb1 kq.lt
     have hT1 := hT.trans (Below.trn0 hb1 S0)
     have hsz1 := hb1.size
     clear hJ hl hL hrs hta hbi hpr kq hT hb1
     go_upto_region 12 with fail
     refine wp_region_lit ?_
     refine Go.Great.wpList_runTo rfl _ rfl (.pointer (some ⟨g, k * 19, none⟩)) wr (by
      go_simp
      all_goals try go_ints
      all_goals first
       | rfl
       | (rw [if_pos (by omega)]; done)
       | rw [if_pos ⟨by omega, by omega⟩]) ?_
     refine wpList_load_mid rfl 111 _ rfl g (k * 19) rfl [.int .u8 s.op, .int .i64 s.a, .int .i64 s.b, .int .i64 s.pt.mul, .int .i64 s.pt.add, .int .i64 s.pt.div, .int .i64 s.pt.lo, .int .i64 s.pt.hi, .int .u8 s.how, .int .i64 s.kw, .int .i64 s.kh, .slice ka s.taps.length kc, .int .u8 s.bd, .int .i64 s.sw, .int .i64 s.sh, .slice sa s.bits.length sc, .slice pa np pc, .slice (some ⟨ub, 0, none⟩) m uc, .int .i64 (Z : Int)] _ hgc Tryz.underlying111 rfl (by kernel_rfl) ?_
     refine Go.Great.wpList_allocTo rfl _ rfl (.pointer (some ⟨wr.heap.size, 0, none⟩)) (.cells #[.int .u8 0, .int .i64 0, .int .i64 0, .int .i64 0, .int .i64 0, .int .i64 0, .int .i64 0, .int .i64 0, .int .u8 0, .int .i64 0, .int .i64 0, .slice none 0 0, .int .u8 0, .int .i64 0, .int .i64 0, .slice none 0 0, .slice none 0 0, .slice none 0 0, .int .i64 0] 111) (by kernel_rfl) ?_
     refine wpList_store_row rfl 111 _ _ rfl wr.heap.size #[.int .u8 s.op, .int .i64 s.a, .int .i64 s.b, .int .i64 s.pt.mul, .int .i64 s.pt.add, .int .i64 s.pt.div, .int .i64 s.pt.lo, .int .i64 s.pt.hi, .int .u8 s.how, .int .i64 s.kw, .int .i64 s.kh, .slice ka s.taps.length kc, .int .u8 s.bd, .int .i64 s.sw, .int .i64 s.sh, .slice sa s.bits.length sc, .slice pa np pc, .slice (some ⟨ub, 0, none⟩) m uc, .int .i64 (Z : Int)] rfl rfl 111 #[.int .u8 0, .int .i64 0, .int .i64 0, .int .i64 0, .int .i64 0, .int .i64 0, .int .i64 0, .int .i64 0, .int .u8 0, .int .i64 0, .int .i64 0, .slice none 0 0, .int .u8 0, .int .i64 0, .int .i64 0, .slice none 0 0, .slice none 0 0, .slice none 0 0, .int .i64 0] (heap_alloc_last wr _) (by kernel_rfl) rfl (by simp [Value.oneCell']) ?_
     rw [World.setRow_alloc_new]
     refine wpList_nil ?_
     rw [hEV11]
     clear hEV11
     rename_i Q' K hK
     refine hK _ _ ?_
     clear hK K
     rw [hbs]
     have y18 := ks.cell (i := 18) rfl
     go_upto_region 14 with (at_mapUpdate; refine OwnF.putw _ rfl _ _ _ _ rfl Tryz.underlying3 Tryz.underlying112 bl rfl hl1 (by omega) Z (by omega) (by omega) _ _ rfl rfl (plainElem_bool Tryz.underlying4 true) ?_; intro w1 hl2 hg1)
     have ks2 := ks.kept hg1 (fun e => hl1.not_cells ks (by injection e))
     have kq2 := kq1.kept hg1 (fun e => hl1.not_cells kq1 (by injection e))
     have hL2 := hL1.kept hg1 (by simp; omega)
     have hrs2 := hrs1.map hl1 hg1 (by omega) (by omega)
     have hbl1 := (Below.refl B0 V11).grown hg1 (by omega) (fun t e => by injection e with e; omega)
     have hta2 := hta1.below (Nat.le_refl _) hbl1
     have hbi2 := hbi1.below (Nat.le_refl _) hbl1
     have hpr2 := (grown_trn hg1 (fun c => c = bl) (fun c e => by injection e with e; exact e.symm)).row hpr1 (fun c hc e => by subst e; exact hl1.not_row hpr1 hc)
     have hJ2 := hfrz V11 w1 hJ1 (grown_trn hg1 (fun b => ¬ S b) (fun c e h => by injection e with e; subst e; exact hblS h))
     have hT2 := hT1.step (grown_trn hg1 (fun c => c = bl) (fun c e => by injection e with e; exact e.symm)) (fun b e => .inr (by omega))
     have hsz2 := hg1.size
     have hlv : livN In last rs k = putF (plS In last rs k).live (Z : Int) (.bool true) := by unfold livN; rw [hrzH.out]
     have hpr3 : w1.ownsRow B0 69 5 (.slice pa np pc) (rnAt rs k).pts.length (ptsC (rnAt rs k).pts) := by rw [hnpH.out]; exact jrow_weaken hpr2 (by omega)
     have hc := hdoH.out.run k S w1 ⟨⟨(rnAt rs k).at_, s, (rnAt rs k).pts, (Z : Int)⟩, ka, kc, sa, sc, .slice pa np pc, ub, uc⟩ _ bl hlt hJ2 hyrH.out hta2 hbi2 hpr3 hpS (by rw [hlv]; exact hl2) hblS (by omega)
     unfold rndv at hc
     dsimp only at hc
     rw [hLH.out, hmH.out] at hc
     have hcH := Lib.hid hc
     clear hc y18 hl1 hL1 hrs1 hta1 hbi1 hpr1 kq1 hJ1 hT1 hta2 hbi2 hpr2 hpr3 ks
     try simp only [Act.put]
     refine wp_region_lit ?_
     refine Go.Great.wpList_runTo rfl _ rfl (.func (.func fo) #[] lb) w1 rfl ?_
     simp only [Act.put, nrz]
     refine wpList_load_mid rfl 111 _ rfl bs 0 rfl [.int .u8 s.op, .int .i64 s.a, .int .i64 s.b, .int .i64 s.pt.mul, .int .i64 s.pt.add, .int .i64 s.pt.div, .int .i64 s.pt.lo, .int .i64 s.pt.hi, .int .u8 s.how, .int .i64 s.kw, .int .i64 s.kh, .slice ka s.taps.length kc, .int .u8 s.bd, .int .i64 s.sw, .int .i64 s.sh, .slice sa s.bits.length sc, .slice pa np pc, .slice (some ⟨ub, 0, none⟩) m uc, .int .i64 (Z : Int)] _ (blk_rng ks2) Tryz.underlying111 rfl (by kernel_rfl) ?_
     simp only [Act.put, nrz]
     refine Go.Great.wpList_runTo rfl _ rfl (.map (some bl)) w1 rfl ?_
     simp only [Act.put, nrz]
     go_upto_region 15 with (go_at_fn fo; refine hcH.out.mono ?_; rintro e w2 ⟨⟨vv, rfl⟩, S', hJ', hT', hS'⟩)
     clear hcH
     have hl3 := hl2.trn hT' hblS
     have hL3 := hL2.trn hT' hbLS
     have ks3 := hT'.blk ks2 hbsS
     have kq3 := hT'.blk kq2 hubS
     have hrs3 := hrs2.trn hT' (by omega) (fun b hb h => by have := hrowS.out b h; omega) (fun b hb => hbw b (hvCH.out b hb).1 (hvCH.out b hb).2) (fun q hq => ⟨fun b hb => hbw b ((hpCH.out q hq).1 b hb).1 ((hpCH.out q hq).1 b hb).2, hbw _ (hpCH.out q hq).2.1 (hpCH.out q hq).2.2⟩)
     have hT3 := hT2.step hT' hSS.out
     have hsz3 := hT'.size
     have hSC3 : Hid (∀ b, S' b → b < w.heap.size ∨ C ≤ b) := Lib.hid (fun b hb => by
      rcases hS' b hb with h | h
      ·exact hSC.out b h
      ·right; omega)
     have hSS3 : Hid (∀ b, S' b → S0 b ∨ w.heap.size ≤ b) := Lib.hid (fun b hb => by
      rcases hS' b hb with h | h
      ·exact hSS.out b h
      ·right; omega)
     have hbLS3 : ¬ S' bL := fun h => by have := hSC3.out bL h; omega
     have hblS3 : ¬ S' bl := fun h => by have := hSC3.out bl h; omega
     obtain ⟨s0, hs0⟩ : ∃ s0 : PlS, s0 = ⟨(plS In last rs k).left, putF (plS In last rs k).live (Z : Int) (.bool true)⟩ := ⟨_, rfl⟩
     have hs0l : s0.left = (plS In last rs k).left := by rw [hs0]
     have hs0v : s0.live = putF (plS In last rs k).live (Z : Int) (.bool true) := by rw [hs0]
     have hbd : ∀ m, 0 ≤ numF (s0.left m) ∧ numF (s0.left m) ≤ 1 + (N : Int) := fun m => by
      rw [hs0l]
      have h1 := hNH.out
      have h2 := plS_bd In last rs k (by omega) m
      rw [h1] at h2
      exact h2
     have hnext : plS In last rs (k + 1) = ⟨(useL s0 L).left, if numF ((useL s0 L).left (Z : Int)) = 0 then delF (useL s0 L).live (Z : Int) else (useL s0 L).live⟩ := by
      show (let s1 := useL ⟨(plS In last rs k).left, putF (plS In last rs k).live (rnAt rs k).res (.bool true)⟩ (opsN (rnAt rs k).head); (⟨s1.left, if numF (s1.left (rnAt rs k).res) = 0 then delF s1.live (rnAt rs k).res else s1.live⟩ : PlS)) = _
      rw [hrzH.out, hsH.out, hLH.out, ← hs0]
     have hnextH := Lib.hid hnext
     have hbdH := Lib.hid hbd
     rw [← hs0l] at hL3
     rw [← hs0v] at hl3
     clear hnext hbd hs0 hs0l hs0v hlv hl2 hL2 ks2 kq2 hrs2 hT' hT2 hSS hSC hS' hg1 hbl1 hJ2 hgc hbw hpS hfrz
     have y17 := ks3.cell (i := 17) rfl
     try simp only [Act.put]
     go_wp2_with fail
     clear y17
     have hL4 : OwnF Tryz.prog 3 3 w2 bL (40 + 2 * k + 0) (useL s0 (L.take 0)).left M := hL3
     have hl4 : OwnF Tryz.prog 3 4 w2 bl (5 + k) (useL s0 (L.take 0)).live M := hl3.mono (by omega)
     have hT4 : Trn (fun b => b = bL ∨ b = bl) w2 w2 := Trn.refl _ _
     have hbLbs := hL3.not_cells ks3
     have hblbs := hl3.not_cells ks3
     have hbLub := hL3.not_cells kq3
     have hblub := hl3.not_cells kq3
     clear hL3 hl3 hltd
     go_loopw [46] (fun i wr => ∃ j : Nat, j ≤ m ∧ i = .int .i64 (j : Int) ∧ OwnF Tryz.prog 3 3 wr bL (40 + 2 * k + j) (useL s0 (L.take j)).left M ∧ OwnF Tryz.prog 3 4 wr bl (5 + k) (useL s0 (L.take j)).live M ∧ Blk wr ub 3 (L.map (Value.int .i64)).toArray ∧ Blk wr bs 111 #[.int .u8 s.op, .int .i64 s.a, .int .i64 s.b, .int .i64 s.pt.mul, .int .i64 s.pt.add, .int .i64 s.pt.div, .int .i64 s.pt.lo, .int .i64 s.pt.hi, .int .u8 s.how, .int .i64 s.kw, .int .i64 s.kh, .slice ka s.taps.length kc, .int .u8 s.bd, .int .i64 s.sw, .int .i64 s.sh, .slice sa s.bits.length sc, .slice pa np pc, .slice (some ⟨ub, 0, none⟩) m uc, .int .i64 (Z : Int)] ∧ OwnRs B0 BR wr (.slice (some ⟨g, 0, none⟩) N vc) N x ∧ Trn (fun b => b = bL ∨ b = bl) w2 wr) (fun i _ => m - (intOf i).toNat)
     case atStart => exact ⟨0, Nat.zero_le _, rfl, hL4, hl4, kq3, ks3, hrs3, hT4⟩
     case round =>
      clear hL4 hl4 kq3 ks3 hrs3 hT4
      obtain ⟨j, hj, rfl, hL, hl, kq, ks, hrs, hT4⟩ := hrel
      have hsz4 := hT4.size
      by_cases hlt2 : j < m
      case pos =>
       have hltd : decide ((j : Int) < (m : Int)) = true := by simp; omega
       have hjL : j < L.length := by have := hmH.out; omega
       have hcj := ops_cell kq hjL
       have hbdx := hkkH.out _ (List.getElem_mem hjL)
       have hnx := useL_take (s := s0) hjL
       have hle := useL_bd (L.take j) s0 0 (1 + N) hbdH.out
       rw [List.length_take] at hle
       rw [show L[j] = L[j]?.getD 0 by rw [List.getElem?_eq_getElem hjL]; rfl] at hbdx
       obtain ⟨x', hx'⟩ : ∃ x, L[j]?.getD 0 = x := ⟨_, rfl⟩
       rw [hx'] at hcj hbdx hnx
       obtain ⟨X, rfl⟩ : ∃ X : Nat, x' = (X : Int) := ⟨x'.toNat, by omega⟩
       have hXM : X < M := by omega
       have hlk := hL.run_look Tryz.underlying3 Tryz.underlying101 Tryz.underlying3 (zero_num _) (X : Int) (wf_num ⟨by omega, by omega⟩)
       have hle2 := hle (X : Int)
       clear hle hx' hbdx
       unfold useOne at hnx
       obtain ⟨s1, hs1⟩ : ∃ s, useL s0 (L.take j) = s := ⟨_, rfl⟩
       rw [hs1] at hL hl hnx hlk hle2
       obtain ⟨q, hq⟩ : ∃ q, numF (s1.left (X : Int)) = q := ⟨_, rfl⟩
       rw [hq] at hnx hlk hle2
       have hle3 : -3 ≤ q ∧ q ≤ 100 := by omega
       have hnxH := Lib.hid hnx
       clear hs1 hq hnx hle2
       have hbLl : bL ≠ bl := by omega
       by_cases hq1 : q - 1 = 0
       case neg =>
        have hq1d : (q - 1 == 0) = false := by simp; omega
        have hq1H := Lib.hid hq1
        clear hq1
        go_wp2_with (at_mapUpdate; refine OwnF.putw _ rfl _ _ _ _ rfl Tryz.underlying3 Tryz.underlying101 bL rfl hL (by omega) X (by omega) (by omega) _ _ rfl rfl (plainElem_int Tryz.underlying3 (wf_num ⟨by omega, by omega⟩)) ?_; intro w3 hL5 hg3; have hlk3 := hL5.run_look Tryz.underlying3 Tryz.underlying101 Tryz.underlying3 (zero_num _) (X : Int) (wf_num ⟨by omega, by omega⟩); rw [putF_same, numF_lit] at hlk3)
        exact ⟨⟨j + 1, by omega, by go_num, by rw [hnxH.out]; exact hL5, by rw [hnxH.out, if_neg hq1H.out]; exact hl.kept hg3 (by simp; omega), kq.kept hg3 (by simp; exact hbLub), ks.kept hg3 (by simp; exact hbLbs), hrs.map hL hg3 (by omega) (by omega), hT4.trans (grown_trn hg3 _ (fun c e => .inl (by injection e with e; exact e.symm)))⟩, by simp [intOf]; omega⟩
       case pos =>
        have hq1d : (q - 1 == 0) = true := by simp; omega
        have hq1H := Lib.hid hq1
        clear hq1
        go_wp2_with (first
         | (at_mapUpdate; refine OwnF.putw _ rfl _ _ _ _ rfl Tryz.underlying3 Tryz.underlying101 bL rfl hL (by omega) X (by omega) (by omega) _ _ rfl rfl (plainElem_int Tryz.underlying3 (wf_num ⟨by omega, by omega⟩)) ?_; intro w3 hL5 hg3; have hlk3 := hL5.run_look Tryz.underlying3 Tryz.underlying101 Tryz.underlying3 (zero_num _) (X : Int) (wf_num ⟨by omega, by omega⟩); rw [putF_same, numF_lit] at hlk3; have hl5 := hl.kept hg3 (by simp; omega))
         | (at_delete; refine OwnF.delw _ rfl _ _ _ rfl Tryz.underlying3 Tryz.underlying112 bl rfl hl5 X (by omega) (by omega) rfl ?_; intro w4 hl6 hg4))
        exact ⟨⟨j + 1, by omega, by go_num, by rw [hnxH.out]; exact hL5.kept hg4 (by simp; omega), by rw [hnxH.out, if_pos hq1H.out]; exact hl6, (kq.kept hg3 (by simp; exact hbLub)).kept hg4 (by simp; exact hblub), (ks.kept hg3 (by simp; exact hbLbs)).kept hg4 (by simp; exact hblbs), (hrs.map hL hg3 (by omega) (by omega)).map hl5 hg4 (by have := hg3.size; omega) (by omega), (hT4.trans (grown_trn hg3 _ (fun c e => .inl (by injection e with e; exact e.symm)))).trans (grown_trn hg4 _ (fun c e => .inr (by injection e with e; exact e.symm)))⟩, by simp [intOf]; omega⟩
      case neg =>
       have hltd : decide ((j : Int) < (m : Int)) = false := by simp; omega
       have hjm : j = m := by omega
       subst hjm
       have hLt : L.take j = L := List.take_of_length_le (by have := hmH.out; omega)
       rw [hLt] at hL hl
       clear hLt
       have hle := useL_bd L s0 0 (1 + N) hbdH.out (Z : Int)
       have hlk := hL.run_look Tryz.underlying3 Tryz.underlying101 Tryz.underlying3 (zero_num _) (Z : Int) (wf_num ⟨by omega, by omega⟩)
       obtain ⟨q, hq⟩ : ∃ q, numF ((useL s0 L).left (Z : Int)) = q := ⟨_, rfl⟩
       rw [hq] at hlk
       have hqH := Lib.hid hq
       clear hq hle
       have y18 := ks.cell (i := 18) rfl
       have hJ4 := hdoH.out.frame (k + 1) S' w2 wr hJ' (hT4.mono (fun b _ h hs => by rcases h with h | h; subst h; exact hbLS3 hs; subst h; exact hblS3 hs))
       have hT5 := hT3.step hT4 (fun b h => .inr (by omega))
       have hL6 := hL.mono (n' := 40 + 2 * (k + 1)) (by omega)
       have hl7 := hl.mono (n' := 4 + (k + 1)) (by omega)
       by_cases hq0 : q = 0
       case neg =>
        have hq0d : (q == 0) = false := by simp [hq0]
        have hq0H := Lib.hid hq0
        clear hq0 hl hL
        rw [show (useL s0 L).live = (plS In last rs (k + 1)).live by rw [hnextH.out, hqH.out, if_neg hq0H.out]] at hl7
        rw [show (useL s0 L).left = (plS In last rs (k + 1)).left by rw [hnextH.out]] at hL6
        go_wp2_with fail
        go_roundw
        case rel => exact ⟨k + 1, S', by omega, by go_num, hJ4, hSC3, hSS3, hl7, hL6, hrs, hT5, Lib.hid ⟨by omega, by omega⟩⟩
        case measure => simp [intOf]; omega
       case pos =>
        have hq0d : (q == 0) = true := by simp [hq0]
        have hq0H := Lib.hid hq0
        clear hq0 hl
        go_wp2_with (at_delete; refine OwnF.delw _ rfl _ _ _ rfl Tryz.underlying3 Tryz.underlying112 bl rfl hl7 Z (by omega) (by omega) rfl ?_; intro w4 hl8 hg4)
        rw [show delF (useL s0 L).live (Z : Int) = (plS In last rs (k + 1)).live by rw [hnextH.out, hqH.out, if_pos hq0H.out]] at hl8
        have hL8 := hL6.kept hg4 (by simp; omega)
        rw [show (useL s0 L).left = (plS In last rs (k + 1)).left by rw [hnextH.out]] at hL8
        have hk4 := grown_trn hg4 (fun c => c = bl) (fun c e => by injection e with e; exact e.symm)
        exact ⟨⟨k + 1, S', by omega, by go_num, hdoH.out.frame (k + 1) S' wr w4 hJ4 (hk4.mono (fun b _ h hs => by subst h; exact hblS3 hs)), hSC3, hSS3, hl8, hL8, hrs.map hl7 hg4 (by omega) (by omega), hT5.step hk4 (fun b h => .inr (by omega)), Lib.hid ⟨by have := hg4.size; omega, by have := hg4.size; omega⟩⟩, by simp [intOf]; omega⟩
end Go.Proofs.YtekiemlniegddaaGreat
namespace Go.Proofs.YtekiemlniegddaaGreat
open Go Go.Maps Go.RowKit Go.Shelf
theorem cntF_le (F : FnL) : ∀ m, cntF F m ≤ m
 | 0 => Nat.le_refl _
 | m + 1 => by rw [cntF]; have := cntF_le F m; split <;> omega
theorem mostN_le (I : Nat) (last : Int) (rs : List RndN) (m : Nat) : ∀ k, mostN I last rs m k ≤ m
 | 0 => Nat.zero_le _
 | k + 1 => by rw [mostN]; have := mostN_le I last rs m k; have := cntF_le (livN I last rs k) m; omega
set_option maxRecDepth 100000 in
set_option maxHeartbeats 4000000 in
theorem room1_any (y : RndA) (bl ky bm M q : Nat) (F : FnL) (w : World) (hl : OwnF Tryz.prog 3 4 w bl ky F M) (kb : Blk w bm 3 #[.int .i64 (q : Int)]) :
  Calls Tryz.prog 106 #[rndv y, .map (some bl), .pointer (some ⟨bm, 0, none⟩)] w fun e w' => (∃ vv, e = .returned vv) ∧ Blk w' bm 3 #[.int .i64 ((max q (cntF F M) : Nat) : Int)] ∧ Trn (fun b => b = bm) w w' := by
 have hB : Below w.heap.size w w := Below.refl _ _
 obtain ⟨⟨at_, s, pts, rz⟩, ka, kc, sa, sc, pv, ub, uc⟩ := y
 unfold rndv
 dsimp only
 obtain ⟨m, hm⟩ : ∃ m, (opsN s).length = m := ⟨_, rfl⟩
 rw [hm]
 clear hm
 have hmx : ∀ a b : Nat, max (a : Int) (b : Int) = ((max a b : Nat) : Int) := fun a b => by omega
 have hmm := hmx q (cntF F M)
 obtain ⟨D, hD⟩ : ∃ D, max q (cntF F M) = D := ⟨_, rfl⟩
 rw [hD] at hmm ⊢
 obtain ⟨E, hE⟩ : ∃ E, cntF F M = E := ⟨_, rfl⟩
 rw [hE] at hmm
 have hEH := Lib.hid hE
 clear hE hD hmx
 obtain ⟨V1, hEV1, hbV1, ks⟩ := newB w 111 #[.int .u8 s.op, .int .i64 s.a, .int .i64 s.b, .int .i64 s.pt.mul, .int .i64 s.pt.add, .int .i64 s.pt.div, .int .i64 s.pt.lo, .int .i64 s.pt.hi, .int .u8 s.how, .int .i64 s.kw, .int .i64 s.kh, .slice ka s.taps.length kc, .int .u8 s.bd, .int .i64 s.sw, .int .i64 s.sh, .slice sa s.bits.length sc, pv, .slice (some ⟨ub, 0, none⟩) m uc, .int .i64 rz]
 replace kb := kb.below hbV1 kb.lt
 replace hl := hl.below hbV1
 replace hB := tmB hB hbV1
 clear hbV1
 clear ks
 have hbl := kb.lt
 have z0 := kb.cell (i := 0) rfl
 have fz0 := kb.frozen 0
 go_enter Tryz.func106, Tryz.ntmps106
 go_wp2_with (at_len; refine len_map _ rfl _ _ rfl 3 4 Tryz.underlying112 bl ky M F rfl hl ?_; rw [hEH.out])
 go_end0
 have ks2 := kb.set 0 (.int .i64 (D : Int))
 exact ⟨⟨_, rfl⟩, ks2, (Trn.mono (Below.trn0 hB (fun b => b = bm)) (fun _ _ h => h)).trans (setCell_trn _ _ _ (fun b => b = bm) rfl)⟩
theorem room1_do (In : Nat) (last : Int) (rs : List RndN) (N M B0 bm : Nat) (hbm : B0 ≤ bm) :
  PlanDo 106 #[.pointer (some ⟨bm, 0, none⟩)] In last rs N M B0 (fun k S W => S = (fun b => b = bm) ∧ Blk W bm 3 #[.int .i64 (mostN In last rs M k : Nat)]) where
 frame := fun k S W W' h ht => ⟨h.1, by
  obtain ⟨rfl, h2⟩ := h
  exact ht.blk h2 (fun h => h rfl)⟩
 own := fun k S W h b hb => by
  obtain ⟨rfl, h2⟩ := h
  have : b = bm := hb
  subst this
  exact ⟨hbm, h2.lt⟩
 run := fun k S W y ky bl hk h hy _ _ _ _ hl hbl _ => by
  obtain ⟨rfl, h2⟩ := h
  refine (room1_any y bl ky bm M _ _ W hl h2).mono ?_
  rintro e W' ⟨h3, h4, h5⟩
  exact ⟨h3, _, ⟨rfl, h4⟩, h5, fun b hb => .inl hb⟩
theorem enters_room1 : ∀ args w, (callFunc 106 args).run Tryz.prog w = .ok (.enter 106 args) w := enters_of Tryz.func106 (by kernel_rfl) rfl
set_option maxRecDepth 100000 in
set_option maxHeartbeats 4000000 in
theorem room_any (P : PipeN) (a : Option Addr) (n c : Nat) (hn : P.ss.length = n) (hP : pipeB P = true) (hst : ∀ i, i < n → StepIn (stAt P.ss i)) (w : World) (hr : RdSs w.heap.size w a P.ss) :
  Calls Tryz.prog 49 #[pipev P a n c] w fun e w' => e = .returned (.int .i64 (roomP P)) ∧ Below w.heap.size w w' := by
 have hr0 := refOk_of hP
 obtain ⟨hw1, hh1, hI1, hn1, _⟩ := pipeB_true hP
 rw [hn] at hn1
 have hpl := fun W B0 h1 h2 fo lb eg J hdo S0 hJ => plan_any P a n c hn hn1 (by omega) hst hr0 B0 W h1 h2 fo lb eg J _ rfl hdo S0 hJ
 have hmost : roomP P = (mostN P.inp.toNat (P.inp + n - 1) (rdsN P.inp P.ss) (P.inp.toNat + n) (rdsN P.inp P.ss).length : Int) * P.w * P.h := by unfold roomP mostP lastI; rw [hn]
 rw [hmost]
 have hle := mostN_le P.inp.toNat (P.inp + n - 1) (rdsN P.inp P.ss) (P.inp.toNat + n) (rdsN P.inp P.ss).length
 have hplH := Lib.hid hpl
 clear hpl hmost hn hst hr0 hP
 obtain ⟨WW, HH, I, ss⟩ := P
 unfold pipev
 simp only at hplH hle hr hw1 hh1 hI1 ⊢
 unfold pipev at hplH
 simp only at hplH
 have hB : Below w.heap.size w w := Below.refl _ _
 have hr0 := hr
 obtain ⟨q, hq⟩ : ∃ q, mostN I.toNat (I + ↑n - 1) (rdsN I ss) (I.toNat + n) (rdsN I ss).length = q := ⟨_, rfl⟩
 rw [hq] at hle ⊢
 have hqH := Lib.hid hq
 clear hq
 have hq1 : q ≤ 15 := by omega
 have hm1 := prod_bd (a := (q : Int)) (x := WW) (m := 15) (n := 16) (by omega) (by omega) (by omega) (by omega) (by omega)
 obtain ⟨p, hp⟩ : ∃ p, (q : Int) * WW = p := ⟨_, rfl⟩
 rw [hp] at hm1 ⊢
 simp only [Int.reduceMul] at hm1
 have hm2 := prod_bd (a := p) (x := HH) (m := 240) (n := 16) (by omega) (by omega) (by omega) (by omega) (by omega)
 obtain ⟨r, hrr⟩ : ∃ r, p * HH = r := ⟨_, rfl⟩
 rw [hrr] at hm2 ⊢
 simp only [Int.reduceMul] at hm2
 obtain ⟨V1, hEV1, hbV1, kp⟩ := newB w 24 #[.int .i64 WW, .int .i64 HH, .int .i64 I, .slice a n c]
 replace hr := hr.later hbV1
 replace hB := tmB hB hbV1
 clear hbV1
 obtain ⟨m0, m1, m2, m3⟩ := cz4 kp
 have hkl := kp.lt
 obtain ⟨V2, hEV2, hbV2, kb⟩ := newB V1 3 #[.int .i64 0]
 clear m0 m1 m2 m3
 replace kp := kp.below hbV2 kp.lt
 replace hr := hr.later hbV2
 replace hB := tmB hB hbV2
 clear hbV2
 obtain ⟨m0, m1, m2, m3⟩ := cz4 kp
 have z0 := kb.cell (i := 0) rfl
 have z0 := kb.cell (i := 0) rfl
 have fz0 := kb.frozen 0
 have hne : w.heap.size ≠ V1.heap.size := by omega
 have hbmw : w.heap.size ≤ V1.heap.size := by omega
 obtain ⟨V3, hV3⟩ : ∃ X, V2.setCell ⟨V1.heap.size, 0, none⟩ (.int .i64 0) = X := ⟨_, rfl⟩
 have kb3 : Blk V3 (V1.heap.size) 3 #[.int .i64 0] := by rw [← hV3]; exact kb.set 0 _
 have kp3 : Blk V3 w.heap.size 24 #[.int .i64 WW, .int .i64 HH, .int .i64 I, .slice a n c] := by rw [← hV3]; exact kp.other hne _
 have hB3 : Below w.heap.size w V3 := by rw [← hV3]; exact hB.setCell hbmw _
 clear kp
 obtain ⟨p0, p1, p2, p3⟩ := cz4 kp3
 go_enter Tryz.func49, Tryz.ntmps49
 go_wp2_with (go_at_call 53; refine (hplH.out _ w.heap.size hB3.size (hr0.below (Nat.le_refl _) hB3) _ _ enters_room1 _ (room1_do _ _ _ _ _ _ (V1.heap.size) hbmw) _ ⟨rfl, kb3⟩).mono ?_; rintro e w2 ⟨⟨vv, rfl⟩, S', ⟨rfl, hk⟩, hT, _⟩; rw [hqH.out] at hk; have kp4 := hT.blk kp3 hne; have q0 := kp4.cell (i := 0) rfl; have q1 := kp4.cell (i := 1) rfl; have q2 := hk.cell (i := 0) rfl; have hB4 := hB3.trans (hT.below hB3.size (fun b hb e => by subst e; omega)))
 go_ret
 exact ⟨rfl, hB4⟩
set_option maxRecDepth 100000 in
set_option maxHeartbeats 4000000 in
theorem Room_any (P : PipeN) (a : Option Addr) (n c : Nat) (hn : P.ss.length = n) (hP : PipeIn P) (w : World) (hr : RdSs w.heap.size w a P.ss) :
  Calls Tryz.prog 27 #[pipev P a n c] w fun e w' => e = .returned (.tuple #[.int .i64 (if pipeB P = true then roomP P else 0), .int .i64 (if pipeB P = true then 0 else 30)]) ∧ Below w.heap.size w w' := by
 obtain ⟨v, hv⟩ : ∃ v, pipeB P = v := ⟨_, rfl⟩
 have hck := fun W h => PCheck_any P a n c hn hP v hv W h
 have hrm := fun hp W h => room_any P a n c hn hp (fun i hi => hP.st i (by omega)) W h
 rw [hv] at hrm ⊢
 obtain ⟨R, hR⟩ : ∃ R, roomP P = R := ⟨_, rfl⟩
 rw [hR] at hrm ⊢
 have hckH := Lib.hid hck
 have hrmH := Lib.hid hrm
 clear hck hrm hv hn hP hR
 obtain ⟨WW, HH, I, ss⟩ := P
 unfold pipev
 unfold pipev at hckH hrmH
 simp only at hckH hrmH hr ⊢
 have hB : Below w.heap.size w w := Below.refl _ _
 obtain ⟨V1, hEV1, hbV1, kp⟩ := newB w 24 #[.int .i64 WW, .int .i64 HH, .int .i64 I, .slice a n c]
 replace hr := hr.later hbV1
 replace hB := tmB hB hbV1
 clear hbV1
 obtain ⟨m0, m1, m2, m3⟩ := cz4 kp
 go_enter Tryz.func27, Tryz.ntmps27
 go_wp2_with fail
 clear hEV1
 refine (hckH.out V1 hr).mono ?_
 rintro e V2 ⟨rfl, hb⟩
 clear m0 m1 m2 m3
 replace kp := kp.below hb kp.lt
 replace hr := hr.later hb
 replace hB := tmB hB hb
 clear hb
 obtain ⟨m0, m1, m2, m3⟩ := cz4 kp
 cases v with
 | false =>
  go_wp2_with fail
  exact bodyPost_ret (v := .tuple #[.int .i64 0, .int .i64 30]) (by simp [results, Tryz.results27, go_sem]) rfl ⟨rfl, hB⟩
 | true =>
 go_wp2_with fail
 refine (hrmH.out (by first | trivial | rfl) V2 hr).mono ?_
 rintro e V3 ⟨rfl, hb⟩
 clear m0 m1 m2 m3
 replace kp := kp.below hb kp.lt
 replace hr := hr.later hb
 replace hB := tmB hB hb
 clear hb
 obtain ⟨m0, m1, m2, m3⟩ := cz4 kp
 go_wp2_with fail
 exact bodyPost_ret (v := .tuple #[.int .i64 R, .int .i64 0]) (by simp [results, Tryz.results27, go_sem]) rfl ⟨rfl, hB⟩
set_option maxRecDepth 100000 in
set_option maxHeartbeats 4000000 in
theorem groups_any (P : PipeN) (a : Option Addr) (n c : Nat) (hw : 1 ≤ P.w ∧ P.w ≤ 16) (hh : 1 ≤ P.h ∧ P.h ≤ 16) (lanes : Int) (hl : 1 ≤ lanes ∧ lanes ≤ 16) (w : World) :
  Calls Tryz.prog 102 #[pipev P a n c, .int .i64 lanes] w fun e w' => e = .returned (.int .i64 (grpsN P.w P.h lanes)) ∧ Below w.heap.size w w' := by
 have hB : Below w.heap.size w w := Below.refl _ _
 obtain ⟨WW, HH, I, ss⟩ := P
 unfold pipev
 simp only at hw hh ⊢
 unfold grpsN
 have hm1 := prod_bd (a := WW) (x := HH) (m := 16) (n := 16) (by omega) (by omega) (by omega) (by omega) (by omega)
 have hm0 := Int.mul_le_mul hw.1 hh.1 (by omega) (by omega)
 obtain ⟨p, hp⟩ : ∃ p, WW * HH = p := ⟨_, rfl⟩
 rw [hp] at hm1 hm0 ⊢
 simp only [Int.reduceMul] at hm1 hm0
 have hq : (p + lanes - 1).tdiv lanes = (p + lanes - 1) / lanes := Int.tdiv_eq_ediv_of_nonneg (by omega)
 have hq1 : 0 ≤ (p + lanes - 1) / lanes := Int.ediv_nonneg (by omega) (by omega)
 have hq2 : (p + lanes - 1) / lanes ≤ p + lanes - 1 := Int.ediv_le_self _ (by omega)
 obtain ⟨q, hqq⟩ : ∃ q, (p + lanes - 1) / lanes = q := ⟨_, rfl⟩
 rw [hqq] at hq hq1 hq2 ⊢
 clear hqq
 have hz : (lanes == 0) = false := by simp; omega
 have hz2 : ¬ lanes = 0 := by omega
 obtain ⟨V1, hEV1, hbV1, kp⟩ := newB w 24 #[.int .i64 WW, .int .i64 HH, .int .i64 I, .slice a n c]
 replace hB := tmB hB hbV1
 clear hbV1
 obtain ⟨m0, m1, m2, m3⟩ := cz4 kp
 go_enter Tryz.func102, Tryz.ntmps102
 go_wp2_with fail
 go_ret
 exact ⟨rfl, hB⟩
end Go.Proofs.YtekiemlniegddaaGreat
namespace Go.Proofs.YtekiemlniegddaaGreat
open Go Go.Maps Go.RowKit Go.Shelf
theorem wrapX {x w : Int} (hw : 1 ≤ w) : (x.tmod w + w).tmod w = x % w := by
 have h1 : 0 ≤ x.tmod w + w := by
  have := Int.lt_tmod_of_pos x (b := w) (by omega)
  omega
 rw [Int.tmod_eq_emod_of_nonneg h1, Int.add_emod_right]
 by_cases hx : 0 ≤ x
 ·rw [Int.tmod_eq_emod_of_nonneg hx, Int.emod_emod_of_dvd _ (Int.dvd_refl w)]
 ·rw [Int.tmod_eq_emod]
  split
  ·simp
  ·rw [Int.natAbs_of_nonneg (by omega)]
   simp
theorem tmod_bd {x w : Int} (hw : 1 ≤ w) : -w < x.tmod w ∧ x.tmod w < w := ⟨Int.lt_tmod_of_pos x (by omega), Int.tmod_lt_of_pos x (by omega)⟩
theorem clampX (x n : Int) : max 0 (min x (n - 1)) = clamp x 0 (n - 1) := by unfold clamp; omega
set_option maxRecDepth 100000 in
set_option maxHeartbeats 4000000 in
theorem cell_any (w : World) (bc bm : Nat) (WW HH I vl vr vm : Int) (a : Option Addr) (n c : Nat) (fv cv : Value) (kc : Blk w bc 103 #[.int .i64 WW, .int .i64 HH, .int .i64 I, .slice a n c, .int .i64 vl, .int .i64 vr, .int .i64 vm, .map (some bm), fv, cv]) (hw : 1 ≤ WW ∧ WW ≤ 16) (hh : 1 ≤ HH ∧ HH ≤ 16) (x y bd : Int) (hx : -1000 ≤ x ∧ x ≤ 1000) (hy : -1000 ≤ y ∧ y ≤ 1000) (hbd : 0 ≤ bd ∧ bd ≤ 255) :
  Calls Tryz.prog 148 #[.pointer (some ⟨bc, 0, none⟩), .int .i64 x, .int .i64 y, .int .u8 bd] w fun e w' => e = .returned (.int .i64 (cellN WW HH x y bd)) ∧ Below w.heap.size w w' := by
 have hB : Below w.heap.size w w := Below.refl _ _
 have tok1 : True := trivial
 have tok2 : True := trivial
 have tok3 : True := trivial
 have tok4 : True := trivial
 obtain ⟨X, hX⟩ : ∃ X, cellX bd WW x = X := ⟨_, rfl⟩
 obtain ⟨Y, hY⟩ : ∃ Y, cellX bd HH y = Y := ⟨_, rfl⟩
 have hcell : cellN WW HH x y bd = if (inR X 0 (WW - 1) && inR Y 0 (HH - 1)) = true then Y * WW + X else -1 := by unfold cellN; rw [hX, hY]
 obtain ⟨R, hR⟩ : ∃ R, cellN WW HH x y bd = R := ⟨_, rfl⟩
 rw [hR] at hcell ⊢
 have hcellH := Lib.hid hcell
 clear hR hcell
 unfold cellX at hX hY
 have hXH := Lib.hid hX
 have hYH := Lib.hid hY
 clear hX hY
 go_enter Tryz.func148, Tryz.ntmps148
 have hS : Blk w.drew bc 103 #[.int .i64 WW, .int .i64 HH, .int .i64 I, .slice a n c, .int .i64 vl, .int .i64 vr, .int .i64 vm, .map (some bm), fv, cv] := kc.below (Below.refl _ w).drew kc.lt
 have hBd := hB.drew
 go_wp2_with fail
 refine plain_region (fun W' => Blk W' bc 103 #[.int .i64 WW, .int .i64 HH, .int .i64 I, .slice a n c, .int .i64 vl, .int .i64 vr, .int .i64 vm, .map (some bm), fv, cv]) 12 12 (by kernel_rfl) rfl ?_
 simp only [Array.replicate_succ, Array.replicate_zero, List.push_toArray, List.nil_append, List.cons_append]
 obtain ⟨X0, hXX0⟩ : ∃ X : World, w.drew = X := ⟨_, rfl⟩
 rw [hXX0] at hS hBd ⊢
 clear hXX0
 have FA0 := Lib.hid (fun w' (hS' : (fun W' => Blk W' bc 103 #[.int .i64 WW, .int .i64 HH, .int .i64 I, .slice a n c, .int .i64 vl, .int .i64 vr, .int .i64 vm, .map (some bm), fv, cv]) w') => And.intro (hS'.cell (i := 0) rfl) (hS'.cell (i := 1) rfl))
 refine tkz 0 rfl hS (fun w' hS' => by go_simp; rfl) ?_
 simp only [nrz]
 refine tkz 1 rfl hS (fun w' hS' => by go_simp; rfl) ?_
 simp only [nrz]
 refine tkz 2 rfl hS (fun w' hS' => by go_simp; rfl) ?_
 simp only [nrz]
 refine tkz 3 rfl hS (fun w' hS' => by go_simp; rfl) ?_
 simp only [nrz]
 refine tkz 4 rfl hS (fun w' hS' => by obtain ⟨y0, y1⟩ := FA0.out w' hS'; clear hS'; go_simp; rfl) ?_
 simp only [nrz]
 refine tkz 5 rfl hS (fun w' hS' => by go_simp; rfl) ?_
 simp only [nrz]
 refine tkz 6 rfl hS (fun w' hS' => by go_simp; rfl) ?_
 simp only [nrz]
 refine tkz 7 rfl hS (fun w' hS' => by go_simp; rfl) ?_
 simp only [nrz]
 refine tkz 8 rfl hS (fun w' hS' => by go_simp; rfl) ?_
 simp only [nrz]
 refine tkz 9 rfl hS (fun w' hS' => by obtain ⟨y0, y1⟩ := FA0.out w' hS'; clear hS'; go_simp; rfl) ?_
 simp only [nrz]
 refine tkz 10 rfl hS (fun w' hS' => by go_simp; rfl) ?_
 simp only [nrz]
 refine tkz 11 rfl hS (fun w' hS' => by go_simp; rfl) ?_
 simp only [nrz]
 refine done_ops (by kernel_rfl) ?_
 have hX := hXH.out
 have hY := hYH.out
 clear hXH hYH kc hS
 by_cases b2 : bd = 2
 case pos =>
  have b2b : (bd == 2) = true := by simp [b2]
  rw [if_pos b2, ← clampX] at hX hY
  clear b2
  obtain ⟨m1, hm1⟩ : ∃ m, min x (WW - 1) = m := ⟨_, rfl⟩
  obtain ⟨m2, hm2⟩ : ∃ m, min y (HH - 1) = m := ⟨_, rfl⟩
  have hmb : -1000 ≤ m1 ∧ m1 ≤ 15 ∧ -1000 ≤ m2 ∧ m2 ≤ 15 := by omega
  rw [hm1] at hX
  rw [hm2] at hY
  have hXY : 0 ≤ X ∧ X ≤ 15 ∧ 0 ≤ Y ∧ Y ≤ 15 := by omega
  cases h1 : inR X 0 (WW - 1) with
  | false =>
   have h1H := Lib.hid h1
   have hRR : R = -1 := by rw [hcellH.out, h1]; rfl
   subst hRR
   clear h1
   go_wp2_with (go_at_call 70; have _t := tok1; refine (pwithin X 0 (WW - 1) false h1H.out _).mono ?_; clear _t tok1; rintro e w' ⟨rfl, hw⟩; rw [← hw]; clear hw w')
   go_ret
   exact ⟨rfl, hBd⟩
  | true =>
   have h1H := Lib.hid h1
   have hXb := inR_true.1 h1
   cases h2 : inR Y 0 (HH - 1) with
   | false =>
    have h2H := Lib.hid h2
    have hRR : R = -1 := by rw [hcellH.out, h1, h2]; rfl
    subst hRR
    clear h1 h2
    go_wp2_with (first
     | (go_at_call 70; have _t := tok1; refine (pwithin X 0 (WW - 1) true h1H.out _).mono ?_; clear _t tok1; rintro e w' ⟨rfl, hw⟩; rw [← hw]; clear hw w')
     | (go_at_call 70; have _t := tok2; refine (pwithin Y 0 (HH - 1) false h2H.out _).mono ?_; clear _t tok2; rintro e w' ⟨rfl, hw⟩; rw [← hw]; clear hw w'))
    go_ret
    exact ⟨rfl, hBd⟩
   | true =>
    have h2H := Lib.hid h2
    have hYb := inR_true.1 h2
    have hRR : R = Y * WW + X := by rw [hcellH.out, h1, h2]; rfl
    have hpb := prod_bd (a := Y) (x := WW) (m := 16) (n := 16) (by omega) (by omega) (by omega) (by omega) (by omega)
    obtain ⟨p, hp⟩ : ∃ p, Y * WW = p := ⟨_, rfl⟩
    rw [hp] at hpb hRR
    simp only [Int.reduceMul] at hpb
    subst hRR
    clear h1 h2
    go_wp2_with (first
     | (go_at_call 70; have _t := tok1; refine (pwithin X 0 (WW - 1) true h1H.out _).mono ?_; clear _t tok1; rintro e w' ⟨rfl, hw⟩; rw [← hw]; clear hw w')
     | (go_at_call 70; have _t := tok2; refine (pwithin Y 0 (HH - 1) true h2H.out _).mono ?_; clear _t tok2; rintro e w' ⟨rfl, hw⟩; rw [← hw]; clear hw w'))
    go_ret
    exact ⟨rfl, hBd⟩
 case neg =>
 have b2b : (bd == 2) = false := by simp [b2]
 rw [if_neg b2] at hX hY
 clear b2
 by_cases b3 : bd = 3
 case neg =>
  have b3b : (bd == 3) = false := by simp [b3]
  rw [if_neg b3] at hX hY
  subst hX hY
  clear b3
  cases h1 : inR x 0 (WW - 1) with
  | false =>
   have h1H := Lib.hid h1
   have hRR : R = -1 := by rw [hcellH.out, h1]; rfl
   subst hRR
   clear h1
   go_wp2_with (go_at_call 70; have _t := tok1; refine (pwithin x 0 (WW - 1) false h1H.out _).mono ?_; clear _t tok1; rintro e w' ⟨rfl, hw⟩; rw [← hw]; clear hw w')
   go_ret
   exact ⟨rfl, hBd⟩
  | true =>
   have h1H := Lib.hid h1
   have hXb := inR_true.1 h1
   cases h2 : inR y 0 (HH - 1) with
   | false =>
    have h2H := Lib.hid h2
    have hRR : R = -1 := by rw [hcellH.out, h1, h2]; rfl
    subst hRR
    clear h1 h2
    go_wp2_with (first
     | (go_at_call 70; have _t := tok1; refine (pwithin x 0 (WW - 1) true h1H.out _).mono ?_; clear _t tok1; rintro e w' ⟨rfl, hw⟩; rw [← hw]; clear hw w')
     | (go_at_call 70; have _t := tok2; refine (pwithin y 0 (HH - 1) false h2H.out _).mono ?_; clear _t tok2; rintro e w' ⟨rfl, hw⟩; rw [← hw]; clear hw w'))
    go_ret
    exact ⟨rfl, hBd⟩
   | true =>
    have h2H := Lib.hid h2
    have hYb := inR_true.1 h2
    have hRR : R = y * WW + x := by rw [hcellH.out, h1, h2]; rfl
    have hpb := prod_bd (a := y) (x := WW) (m := 16) (n := 16) (by omega) (by omega) (by omega) (by omega) (by omega)
    obtain ⟨p, hp⟩ : ∃ p, y * WW = p := ⟨_, rfl⟩
    rw [hp] at hpb hRR
    simp only [Int.reduceMul] at hpb
    subst hRR
    clear h1 h2
    go_wp2_with (first
     | (go_at_call 70; have _t := tok1; refine (pwithin x 0 (WW - 1) true h1H.out _).mono ?_; clear _t tok1; rintro e w' ⟨rfl, hw⟩; rw [← hw]; clear hw w')
     | (go_at_call 70; have _t := tok2; refine (pwithin y 0 (HH - 1) true h2H.out _).mono ?_; clear _t tok2; rintro e w' ⟨rfl, hw⟩; rw [← hw]; clear hw w'))
    go_ret
    exact ⟨rfl, hBd⟩
 case pos =>
 have b3b : (bd == 3) = true := by simp [b3]
 rw [if_pos b3, ← wrapX (by omega)] at hX hY
 clear b3
 have t1 := tmod_bd (x := x) hw.1
 have t2 := tmod_bd (x := y) hh.1
 obtain ⟨r1, hr1⟩ : ∃ r, x.tmod WW = r := ⟨_, rfl⟩
 obtain ⟨r2, hr2⟩ : ∃ r, y.tmod HH = r := ⟨_, rfl⟩
 rw [hr1] at hX t1
 rw [hr2] at hY t2
 have t3 := tmod_bd (x := r1 + WW) hw.1
 have t4 := tmod_bd (x := r2 + HH) hh.1
 rw [hX] at t3
 rw [hY] at t4
 have z1 : ¬ WW = 0 := by omega
 have z2 : ¬ HH = 0 := by omega
 have z1b : (WW == 0) = false := by simp [z1]
 have z2b : (HH == 0) = false := by simp [z2]
 have hS2 : True := trivial
 go_wp2_with fail
 replace hBd := hBd.drew
 refine plain_region (fun _ => True) 16 16 (by kernel_rfl) rfl ?_
 simp only [Array.replicate_succ, Array.replicate_zero, List.push_toArray, List.nil_append, List.cons_append]
 refine tkz 0 rfl hS2 (fun w' hS' => by go_simp; rfl) ?_
 simp only [nrz]
 refine tkz 1 rfl hS2 (fun w' hS' => by go_simp; rfl) ?_
 simp only [nrz]
 refine tkz 2 rfl hS2 (fun w' hS' => by go_simp; (try go_ints); rfl) ?_
 simp only [nrz]
 refine tkz 3 rfl hS2 (fun w' hS' => by go_simp; rfl) ?_
 simp only [nrz]
 refine tkz 4 rfl hS2 (fun w' hS' => by go_simp; (try go_ints); rfl) ?_
 simp only [nrz]
 refine tkz 5 rfl hS2 (fun w' hS' => by go_simp; rfl) ?_
 simp only [nrz]
 refine tkz 6 rfl hS2 (fun w' hS' => by go_simp; (try go_ints); rfl) ?_
 simp only [nrz]
 refine tkz 7 rfl hS2 (fun w' hS' => by go_simp; rfl) ?_
 simp only [nrz]
 refine tkz 8 rfl hS2 (fun w' hS' => by go_simp; rfl) ?_
 simp only [nrz]
 refine tkz 9 rfl hS2 (fun w' hS' => by go_simp; (try go_ints); rfl) ?_
 simp only [nrz]
 refine tkz 10 rfl hS2 (fun w' hS' => by go_simp; rfl) ?_
 simp only [nrz]
 refine tkz 11 rfl hS2 (fun w' hS' => by go_simp; (try go_ints); rfl) ?_
 simp only [nrz]
 refine tkz 12 rfl hS2 (fun w' hS' => by go_simp; rfl) ?_
 simp only [nrz]
 refine tkz 13 rfl hS2 (fun w' hS' => by go_simp; (try go_ints); rfl) ?_
 simp only [nrz]
 refine tkz 14 rfl hS2 (fun w' hS' => by go_simp; rfl) ?_
 simp only [nrz]
 refine tkz 15 rfl hS2 (fun w' hS' => by go_simp; rfl) ?_
 simp only [nrz]
 refine done_ops (by kernel_rfl) ?_
 cases h1 : inR X 0 (WW - 1) with
 | false =>
  have h1H := Lib.hid h1
  have hRR : R = -1 := by rw [hcellH.out, h1]; rfl
  subst hRR
  clear h1
  go_wp2_with (go_at_call 70; have _t := tok1; refine (pwithin X 0 (WW - 1) false h1H.out _).mono ?_; clear _t tok1; rintro e w' ⟨rfl, hw⟩; rw [← hw]; clear hw w')
  go_ret
  exact ⟨rfl, hBd⟩
 | true =>
  have h1H := Lib.hid h1
  have hXb := inR_true.1 h1
  cases h2 : inR Y 0 (HH - 1) with
  | false =>
   have h2H := Lib.hid h2
   have hRR : R = -1 := by rw [hcellH.out, h1, h2]; rfl
   subst hRR
   clear h1 h2
   go_wp2_with (first
    | (go_at_call 70; have _t := tok1; refine (pwithin X 0 (WW - 1) true h1H.out _).mono ?_; clear _t tok1; rintro e w' ⟨rfl, hw⟩; rw [← hw]; clear hw w')
    | (go_at_call 70; have _t := tok2; refine (pwithin Y 0 (HH - 1) false h2H.out _).mono ?_; clear _t tok2; rintro e w' ⟨rfl, hw⟩; rw [← hw]; clear hw w'))
   go_ret
   exact ⟨rfl, hBd⟩
  | true =>
   have h2H := Lib.hid h2
   have hYb := inR_true.1 h2
   have hRR : R = Y * WW + X := by rw [hcellH.out, h1, h2]; rfl
   have hpb := prod_bd (a := Y) (x := WW) (m := 16) (n := 16) (by omega) (by omega) (by omega) (by omega) (by omega)
   obtain ⟨p, hp⟩ : ∃ p, Y * WW = p := ⟨_, rfl⟩
   rw [hp] at hpb hRR
   simp only [Int.reduceMul] at hpb
   subst hRR
   clear h1 h2
   go_wp2_with (first
    | (go_at_call 70; have _t := tok1; refine (pwithin X 0 (WW - 1) true h1H.out _).mono ?_; clear _t tok1; rintro e w' ⟨rfl, hw⟩; rw [← hw]; clear hw w')
    | (go_at_call 70; have _t := tok2; refine (pwithin Y 0 (HH - 1) true h2H.out _).mono ?_; clear _t tok2; rintro e w' ⟨rfl, hw⟩; rw [← hw]; clear hw w'))
   go_ret
   exact ⟨rfl, hBd⟩
end Go.Proofs.YtekiemlniegddaaGreat
namespace Go.Proofs.YtekiemlniegddaaGreat
open Go Go.RowKit Go.Shelf
section
variable {P : Program} {md : Region.Mode} {ops : Array Oper} {Q : Exit → Act → World → Prop} {S : World → Prop} {t : Nat}
def StepOk (P : Program) (md : Region.Mode) (ops : Array Oper) (Q : Exit → Act → World → Prop) (S : World → Prop) (t f : Nat) (l : Array Bool) (a : Act) (w : World) (i : Nat) : Prop :=
 wpOp P ops Q i (fun a' w' => (i < t → S w') ∧ AnyS P md ops Q S t f (l.setIfInBounds i true) a' w') a w
theorem step_at (i : Nat) {d : Option Tmp} {op : Op} {ty : TypeId} {ps : String} {af : Array Edge} {gd : Option (Nat × Bool)} {f : Nat} {l : Array Bool} {a : Act} {w : World} (ho : ops[i]? = some { dst := d, op := op, type := ty, pos := ps, after := af, guard := gd })
  (h : ∀ K' : Act → World → Prop, Shut (∀ a w, (i < t → S w) → AnyS P md ops Q S t f (l.setIfInBounds i true) a w → K' a w) → if Region.wanted { dst := d, op := op, type := ty, pos := ps, after := af, guard := gd } (yielded ops a.tmps) = true then Oper.wp P { dst := d, op := op, type := ty, pos := ps, after := af, guard := gd } a w K' Q else K' (a.put d undef) w) :
  StepOk P md ops Q S t f l a w i :=
 wpOp_step ho (fun K' hK => h K' (fun a w hS hW => hK a w ⟨hS, hW⟩))
theorem fork2 {i j : Nat} {f : Nat} {l : Array Bool} {a : Act} {w : World} (hr : Region.ready md ops l = [i, j]) (hi : StepOk P md ops Q S t f l a w i) (hj : StepOk P md ops Q S t f l a w j) : AnyS P md ops Q S t (f + 1) l a w := by
 refine ⟨fun h0 => absurd (hr ▸ h0) (by simp), hr ▸ fun k hk => ?_⟩
 have : k = i ∨ k = j := by simpa using hk
 rcases this with rfl | rfl
 ·exact hi
 ·exact hj
end
end Go.Proofs.YtekiemlniegddaaGreat

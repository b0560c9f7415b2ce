/- Contracts and laws (PRx, PC1, PcK, PCj, PCq). -/
import Derived.Test.YtekiemlniegddaaGreatQM14
import Derived.Test.YtekiemlniegddaaGreatQM12
import Derived.Test.YtekiemlniegddaaGreatQM9
import Derived.Test.YtekiemlniegddaaGreatQM13
set_option linter.unusedVariables false
set_option linter.unusedSimpArgs false
namespace Go.Proofs.YtekiemlniegddaaGreat
open Go Go.Maps Go.RowKit Go.Shelf
theorem head_len {w h : Int} {lanes g : Nat} {F : FnL} {s : StepN} (hs : needB s = true) : (headC w h lanes g F s).length ≤ 52 := by
 have h1 := @group_len w h lanes g F ⟨0, s, [], 0⟩ 0 hs
 have h2 := headL_le hs
 unfold groupC at h1
 simp only [List.length_append, List.map_nil, List.length_nil, List.length_singleton] at h1
 omega
set_option maxRecDepth 100000 in
set_option maxHeartbeats 8000000 in
theorem round_any (B : Nat) (w : World) (P : CmP) (bc bm km M : Nat) (C : CmN) (fv cv : Value) (l : Nat → InsA) (hcm : CmAt B w P bc bm km M C fv cv l) (hlen : C.code.length ≤ 800000) (kf : Nat) (hkf : C.free.length = kf + 1) (hkf1 : kf ≤ 1000) (hM : M < 100) (hkm : km < 100) (hvb : 0 ≤ lastN C ∧ lastN C ≤ 100000)
  (L : Nat) (hvl : P.vl = (L : Int)) (hw : 1 ≤ P.w ∧ P.w ≤ 16) (hh : 1 ≤ P.h ∧ P.h ≤ 16) (hL : 1 ≤ L ∧ L ≤ 16) (G : Nat) (hG : grpsN P.w P.h P.vl = (G : Int)) (hG2 : G ≤ 256) (x : RndA) (hs : StepIn x.r.head) (hn : needB x.r.head = true) (m : Nat) (hm : m < M) (hres : x.r.res = (m : Int))
  (hop : ∀ q ∈ opsN x.r.head, (0 ≤ q ∧ q < M) ∧ 0 ≤ numF ((placeN C (m : Int)).at_ q) ∧ numF ((placeN C (m : Int)).at_ q) ≤ 100000) (hta : Rd B w x.ka x.r.head.taps) (hbi : RdB B w x.sa x.r.head.bits) (hpts : w.ownsRow B 69 5 x.pv x.r.pts.length (ptsC x.r.pts)) (hpS : ∀ b, x.pv.ownBlock = some b → ¬ CmS bc bm C.code.length fv cv l b) (hnp : x.r.pts.length ≤ 12) :
  Calls Tryz.prog 55 #[.pointer (some ⟨bc, 0, none⟩), rndv x] w fun e w' => (∃ vv, e = .returned vv) ∧ ∃ fv' cv' l', CmAt B w' P bc bm (km + 1) M ⟨(placeN C (m : Int)).at_, (placeN C (m : Int)).free, C.code ++ roundC P.w P.h L (placeN C (m : Int)).at_ x.r (lastN C) G⟩ fv' cv' l' ∧ Trn (CmS bc bm C.code.length fv cv l) w w' ∧
   ∀ b, CmS bc bm (C.code ++ roundC P.w P.h L (placeN C (m : Int)).at_ x.r (lastN C) G).length fv' cv' l' b → CmS bc bm C.code.length fv cv l b ∨ w.heap.size ≤ b := by
 obtain ⟨⟨rat, s, pts, rz⟩, ka, kc, sa, sc, pv, ub, uc⟩ := x
 simp only at hs hn hres hop hta hbi hpts hpS hnp ⊢
 subst hres
 obtain ⟨S0, hS0⟩ : ∃ S0, CmS bc bm C.code.length fv cv l = S0 := ⟨_, rfl⟩
 have hB : Below w.heap.size w w := Below.refl _ _
 have hBw : B ≤ w.heap.size := by have := hcm.lo; have := hcm.c.lt; omega
 have hS0B : ∀ b, S0 b → B ≤ b := fun b hb => (hcm.own b (by rw [hS0]; exact hb)).1
 have hS0H := Lib.hid hS0B
 clear hS0B
 obtain ⟨np, hnp0⟩ : ∃ n, pts.length = n := ⟨_, rfl⟩
 have hnpH := Lib.hid hnp0
 rw [hnp0] at hpts hnp
 obtain ⟨pa, pc, rfl⟩ : ∃ a c, pv = .slice a np c := by
  rcases hpts.2 with ⟨h1, h2⟩ | ⟨g, cap, cur, h1, _⟩
  ·exact ⟨none, 0, by rw [h1, h2]⟩
  ·exact ⟨_, _, h1⟩
 have hpt : ∀ j, j < np → ∃ g, pa = some ⟨g, 0, none⟩ ∧ (g < w.heap.size ∧ ¬ S0 g) ∧ ∀ i, i < 5 → w.cell? ⟨g, j * 5 + i, none⟩ = some (ptCell (ptAt pts j) i) := fun j hj => by
  have hr := hpts
  rcases hr.2 with ⟨h1, h2⟩ | ⟨g, cap, cur, h1, _⟩
  ·omega
  ·injection h1 with h1 _ _
   subst h1
   refine ⟨g, rfl, ⟨(hr.lt g rfl).2, fun hh => hpS g rfl (by rw [hS0]; exact hh)⟩, fun i hi => row_cellAt hr _ ?_⟩
   exact flat_at _ (by omega) hi
 have hptH := Lib.hid hpt
 clear hpt hpts hpS hnp0
 obtain ⟨mo, hmo⟩ : ∃ n, (opsN s).length = n := ⟨_, rfl⟩
 try simp only [rndv]
 rw [hmo]
 clear hmo
 obtain ⟨tz, hto⟩ : ∃ v, lastN C = v := ⟨_, rfl⟩
 have hpl := fun W (h : CmAt B W P bc bm km M C fv cv l) => place_any B W P bc bm km M C fv cv l h kf hkf hkf1 m hm hM hkm hvb
 rw [hto] at hpl hvb ⊢
 have hplH := Lib.hid hpl
 obtain ⟨C2, hC2⟩ : ∃ C2, placeN C (m : Int) = C2 := ⟨_, rfl⟩
 have hC2c : C2.code = C.code := by rw [← hC2]; rfl
 rw [hC2] at hop hplH ⊢
 obtain ⟨at_, fr, cd⟩ := C2
 simp only at hC2c hop ⊢
 subst hC2c
 clear hpl hC2 hto hkf
 obtain ⟨RCA, hRCA⟩ : ∃ A : Array Value, #[.int .u8 s.op, .int .i64 s.a, .int .i64 s.b, .int .i64 s.pt.mul, .int .i64 s.pt.add, .int .i64 s.pt.div, .int .i64 s.pt.lo, .int .i64 s.pt.hi, .int .u8 s.how, .int .i64 s.kw, .int .i64 s.kh, .slice ka s.taps.length kc, .int .u8 s.bd, .int .i64 s.sw, .int .i64 s.sh, .slice sa s.bits.length sc, .slice pa np pc, .slice (some ⟨ub, 0, none⟩) mo uc, .int .i64 (m : Int)] = A := ⟨_, rfl⟩
 have hRCH := Lib.hid hRCA
 clear hRCA
 obtain ⟨R, hR⟩ : ∃ R : RndN, (⟨rat, s, pts, (m : Int)⟩ : RndN) = R := ⟨_, rfl⟩
 rw [hR]
 have hRs : R.head = s := by rw [← hR]
 have hRp : R.pts = pts := by rw [← hR]
 have hRH := Lib.hid (And.intro hRs hRp)
 clear hRs hRp hR
 have hfin : ∀ (W : World) (fv' : Value) (br : Nat), Rn B S0 w W P bc bm (km + 1) M ⟨at_, fr, C.code ++ roundC P.w P.h L at_ R tz G⟩ fv' br RCA → ∃ fv' cv' l', CmAt B W P bc bm (km + 1) M ⟨at_, fr, C.code ++ roundC P.w P.h L at_ R tz G⟩ fv' cv' l' ∧ Trn S0 w W ∧ ∀ b, CmS bc bm (C.code ++ roundC P.w P.h L at_ R tz G).length fv' cv' l' b → S0 b ∨ w.heap.size ≤ b := fun W fv' br h => by
  obtain ⟨cv', l', h⟩ := h
  exact ⟨fv', cv', l', h.cm, h.ht, h.sub⟩
 have hfinH := Lib.hid hfin
 rw [hS0]
 clear hfin
 obtain ⟨V1, hEV1, hbV1, kr⟩ := newB w 111 #[.int .u8 s.op, .int .i64 s.a, .int .i64 s.b, .int .i64 s.pt.mul, .int .i64 s.pt.add, .int .i64 s.pt.div, .int .i64 s.pt.lo, .int .i64 s.pt.hi, .int .u8 s.how, .int .i64 s.kw, .int .i64 s.kh, .slice ka s.taps.length kc, .int .u8 s.bd, .int .i64 s.sw, .int .i64 s.sh, .slice sa s.bits.length sc, .slice pa np pc, .slice (some ⟨ub, 0, none⟩) mo uc, .int .i64 (m : Int)]
 replace hcm := hcm.below hbV1
 replace hB := tmB hB hbV1
 clear hbV1
 obtain ⟨br, hbr⟩ : ∃ b, w.heap.size = b := ⟨_, rfl⟩
 have hbrH := Lib.hid hbr
 rw [hbr] at kr
 have z18 := kr.cell (i := 18) rfl
 have hHV : Trn S0 w V1 := Below.trn0 hB S0
 go_enter Tryz.func55, Tryz.ntmps55
 have tok1 : True := trivial
 go_wp2_with (go_at_call 52; have _t := tok1; refine (hplH.out _ hcm).mono ?_; clear _t tok1; rintro e W2 ⟨rfl, fv', hcm2, hT2, hfv⟩)
 clear z18 hbr hEV1
 rw [hRCH.out] at kr
 have h1 : Rn B S0 w W2 P bc bm (km + 1) M ⟨at_, fr, C.code⟩ fv' br RCA := RnAt.step (B := B) (S0 := S0) (W0 := w) (W := V1) (P := P) (bc := bc) (bm := bm) (km := km) (M := M) (C := C) (fv := fv) (br := br) (rc := RCA) (cv := cv) (l := l) ⟨hcm, kr, hHV, fun b hb => .inl (hS0 ▸ hb)⟩ hcm2 (hT2.mono (fun b _ hb => hb.elim (fun e => .inl e) (fun e => .inr (.inl e)))) (fun b hb => by
  rcases hb with h | h | h | h
  ·exact .inl (.inl h)
  ·exact .inl (.inr (.inl h))
  ·exact .inl (.inr (.inr (.inl (hfv ▸ h))))
  ·exact .inl (.inr (.inr (.inr h))))
 clear hcm hcm2 kr hT2 hHV hfv hS0 hB
 obtain ⟨cv2, l2, h1⟩ := h1
 have hS : ∃ cx, Blk W2.drew bc 103 (cmC P bm fv' cx) := ⟨_, (h1.cm.below (Below.refl _ W2).drew).c⟩
 have h2 : Rn B S0 w W2.drew P bc bm (km + 1) M ⟨at_, fr, C.code⟩ fv' br RCA := Rn.below ⟨cv2, l2, h1⟩ (Below.refl _ W2).drew
 clear h1
 refine plain_region (fun W' => ∃ cx, Blk W' bc 103 (cmC P bm fv' cx)) 11 11 (by kernel_rfl) rfl ?_
 simp only [Array.replicate_succ, Array.replicate_zero, List.push_toArray, List.nil_append, List.cons_append]
 obtain ⟨X0, hXX0⟩ : ∃ X : World, W2.drew = X := ⟨_, rfl⟩
 rw [hXX0] at hS h2 ⊢
 clear hXX0
 refine tkz 0 rfl hS (fun w' hS' => by go_simp; rfl) ?_
 simp only [nrz]
 refine tkz 1 rfl hS (fun w' hS' => by go_simp; rfl) ?_
 simp only [nrz]
 refine tkz 2 rfl hS (fun w' hS' => by go_simp; rfl) ?_
 simp only [nrz]
 refine tkz 3 rfl hS (fun w' hS' => by obtain ⟨cx, hcx⟩ := hS'; obtain ⟨y0, y1, y2, y3, y4⟩ := cz5 hcx; clear hcx; go_simp; rfl) ?_
 simp only [nrz]
 refine tkz 4 rfl hS (fun w' hS' => by go_simp; rfl) ?_
 simp only [nrz]
 refine tkz 5 rfl hS (fun w' hS' => by go_simp; rfl) ?_
 simp only [nrz]
 refine tkz 6 rfl hS (fun w' hS' => by go_simp; rfl) ?_
 simp only [nrz]
 refine tkz 7 rfl hS (fun w' hS' => by go_simp; rfl) ?_
 simp only [nrz]
 refine tkz 8 rfl hS (fun w' hS' => by obtain ⟨cx, hcx⟩ := hS'; obtain ⟨y0, y1, y2, y3, y4⟩ := cz5 hcx; clear hcx; go_simp; rfl) ?_
 simp only [nrz]
 refine tkz 10 rfl hS (fun w' hS' => by go_simp; rfl) ?_
 simp only [nrz]
 refine step_op 9 (by kernel_rfl) rfl (fun K hK => ?_)
 have hgr := groups_any ⟨P.w, P.h, P.I, []⟩ P.a P.n P.c hw hh P.vl (by omega) X0
 simp only [hG, pipev] at hgr
 rw [hvl] at hgr
 rw [if_pos (by rfl)]
 go_simp
 refine hgr.mono ?_
 rintro e X9 ⟨rfl, hb9⟩
 have hS9 : ∃ cx, Blk X9 bc 103 (cmC P bm fv' cx) := by obtain ⟨cx, hcx⟩ := hS; exact ⟨cx, hcx.below hb9 hcx.lt⟩
 have h3 := h2.below hb9
 clear h2 hgr hb9
 refine hK.out _ _ (fun h => hS9) ?_
 clear hK K
 try simp only [Act.put, nrz]
 refine done_ops (by kernel_rfl) ?_
 clear hS9 hS
 have h4 : Rn B S0 w X9 P bc bm (km + 1) M ⟨at_, fr, C.code ++ roundC P.w P.h L at_ R tz 0⟩ fv' br RCA := by rw [show roundC P.w P.h L at_ R tz 0 = [] from rfl, List.append_nil]; exact h3
 clear h3
 have hns : needB R.head = true := by rw [hRH.out.1]; exact hn
 have hrl := fun k => @round_len P.w P.h L at_ R tz hns k
 have hhl := headL_le hns
 rw [hRH.out.2, hnpH.out] at hrl
 obtain ⟨hl0, hhl0⟩ : ∃ q, headL R.head = q := ⟨_, rfl⟩
 rw [hhl0] at hrl hhl
 have hrl2 : ∀ k, k ≤ G → (roundC P.w P.h L at_ R tz k).length ≤ 16384 := fun k hk => by rw [hrl]; have := Nat.mul_le_mul (show np + hl0 ≤ 64 by omega) (show k ≤ 256 by omega); omega
 have hhd := fun g => head_len (w := P.w) (h := P.h) (lanes := L) (g := g) (F := at_) hn
 have hrlH := Lib.hid hrl2
 have hhdH := Lib.hid hhd
 clear hrl hrl2 hhd hhl hhl0 hns
 go_wp2_with fail
 go_loopw [22] (fun i wr => ∃ gr : Nat, gr ≤ G ∧ i = .int .i64 (gr : Int) ∧ Rn B S0 w wr P bc bm (km + 1) M ⟨at_, fr, C.code ++ roundC P.w P.h L at_ R tz gr⟩ fv' br RCA) (fun i _ => G - (intOf i).toNat)
 case atStart => exact ⟨0, Nat.zero_le _, rfl, h4⟩
 case round =>
  clear h4
  obtain ⟨gr, hgr, rfl, h⟩ := hrel
  by_cases hlt : gr < G
  case neg =>
   have hltd : decide ((gr : Int) < (G : Int)) = false := by simp; omega
   have hkn : G = gr := by omega
   subst hkn
   go_wp2_with fail
   go_end0
   exact ⟨⟨_, rfl⟩, hfinH.out _ _ _ h⟩
  case pos =>
   have hltd : decide ((gr : Int) < (G : Int)) = true := by simp; omega
   have hl1 := hrlH.out gr hgr
   have hl2 := hhdH.out gr
   have z0 : wr.cell? ⟨br, 0, none⟩ = some (.int .u8 s.op) := h.rcell (j := 0) (by rw [← hRCH.out]; rfl)
   have z1 : wr.cell? ⟨br, 1, none⟩ = some (.int .i64 s.a) := h.rcell (j := 1) (by rw [← hRCH.out]; rfl)
   have z2 : wr.cell? ⟨br, 2, none⟩ = some (.int .i64 s.b) := h.rcell (j := 2) (by rw [← hRCH.out]; rfl)
   have z3 : wr.cell? ⟨br, 3, none⟩ = some (.int .i64 s.pt.mul) := h.rcell (j := 3) (by rw [← hRCH.out]; rfl)
   have z4 : wr.cell? ⟨br, 4, none⟩ = some (.int .i64 s.pt.add) := h.rcell (j := 4) (by rw [← hRCH.out]; rfl)
   have z5 : wr.cell? ⟨br, 5, none⟩ = some (.int .i64 s.pt.div) := h.rcell (j := 5) (by rw [← hRCH.out]; rfl)
   have z6 : wr.cell? ⟨br, 6, none⟩ = some (.int .i64 s.pt.lo) := h.rcell (j := 6) (by rw [← hRCH.out]; rfl)
   have z7 : wr.cell? ⟨br, 7, none⟩ = some (.int .i64 s.pt.hi) := h.rcell (j := 7) (by rw [← hRCH.out]; rfl)
   have z8 : wr.cell? ⟨br, 8, none⟩ = some (.int .u8 s.how) := h.rcell (j := 8) (by rw [← hRCH.out]; rfl)
   have z9 : wr.cell? ⟨br, 9, none⟩ = some (.int .i64 s.kw) := h.rcell (j := 9) (by rw [← hRCH.out]; rfl)
   have z10 : wr.cell? ⟨br, 10, none⟩ = some (.int .i64 s.kh) := h.rcell (j := 10) (by rw [← hRCH.out]; rfl)
   have z11 : wr.cell? ⟨br, 11, none⟩ = some (.slice ka s.taps.length kc) := h.rcell (j := 11) (by rw [← hRCH.out]; rfl)
   have z12 : wr.cell? ⟨br, 12, none⟩ = some (.int .u8 s.bd) := h.rcell (j := 12) (by rw [← hRCH.out]; rfl)
   have z13 : wr.cell? ⟨br, 13, none⟩ = some (.int .i64 s.sw) := h.rcell (j := 13) (by rw [← hRCH.out]; rfl)
   have z14 : wr.cell? ⟨br, 14, none⟩ = some (.int .i64 s.sh) := h.rcell (j := 14) (by rw [← hRCH.out]; rfl)
   have z15 : wr.cell? ⟨br, 15, none⟩ = some (.slice sa s.bits.length sc) := h.rcell (j := 15) (by rw [← hRCH.out]; rfl)
   have z16 : wr.cell? ⟨br, 16, none⟩ = some (.slice pa np pc) := h.rcell (j := 16) (by rw [← hRCH.out]; rfl)
   have tok1 : True := trivial
   go_wp2_with (go_at_call 107; have _t := tok1; refine (h.head (by simp only [List.length_append]; omega) L hvl hw hh hL gr (by omega) s hs hn ka sa kc sc hM hop hBw hS0H.out hta hbi).mono ?_; clear _t tok1; rintro e W4 ⟨⟨v1, rfl⟩, h5⟩; have z16' : W4.cell? ⟨br, 16, none⟩ = some (.slice pa np pc) := h5.rcell (j := 16) (by rw [← hRCH.out]; rfl))
   clear z0 z1 z2 z3 z4 z5 z6 z7 z8 z9 z10 z11 z12 z13 z14 z15 z16 h
   have h6 : Rn B S0 w W4 P bc bm (km + 1) M ⟨at_, fr, C.code ++ roundC P.w P.h L at_ R tz gr ++ headC P.w P.h L gr at_ s ++ (pts.take 0).map insP⟩ fv' br RCA := by rw [List.take_zero, List.map_nil, List.append_nil]; exact h5
   clear h5 z16'
   go_loopw [33] (fun i wx => ∃ j : Nat, j ≤ np ∧ i = .int .i64 (j : Int) ∧ Rn B S0 w wx P bc bm (km + 1) M ⟨at_, fr, C.code ++ roundC P.w P.h L at_ R tz gr ++ headC P.w P.h L gr at_ s ++ (pts.take j).map insP⟩ fv' br RCA) (fun i _ => np - (intOf i).toNat)
   case atStart => exact ⟨0, Nat.zero_le _, rfl, h6⟩
   case round =>
    clear h6
    obtain ⟨j, hj, rfl, h⟩ := hrel
    have hl3 : ((pts.take j).map insP).length ≤ 12 := by rw [List.length_map, List.length_take]; omega
    by_cases hlj : j < np
    case neg =>
     have hljd : decide ((j : Int) < (np : Int)) = false := by simp; omega
     have hjn : np = j := by omega
     subst hjn
     have tok1 : True := trivial
     have tok2 : True := trivial
     have htk : pts.take np = pts := by rw [← hnpH.out]; exact List.take_length
     rw [htk] at h hl3
     clear htk
     go_wp2_with (first
      | (go_at_call 109; have _t := tok1; refine (h.addr L hvl hw hh hL gr (by omega) tz hvb).mono ?_; clear _t tok1; rintro e W5 ⟨ab, rfl, h7, hrow, hfb, hb0⟩)
      | (go_at_call 108; have _t := tok2; refine (h7.store (by simp only [List.length_append]; omega) L gr tz ab hrow hfb hb0).mono ?_; clear _t tok2; rintro e W6 ⟨⟨v2, rfl⟩, h8⟩))
     have h9 : Rn B S0 w W6 P bc bm (km + 1) M ⟨at_, fr, C.code ++ roundC P.w P.h L at_ R tz (gr + 1)⟩ fv' br RCA := by
      rw [show roundC P.w P.h L at_ R tz (gr + 1) = roundC P.w P.h L at_ R tz gr ++ groupC P.w P.h L gr at_ R tz from rfl]
      unfold groupC
      rw [hRH.out.1, hRH.out.2]
      simpa using h8
     clear h h7 h8 hrow hfb hb0
     go_roundw
     case rel => exact ⟨gr + 1, by omega, by go_num, h9⟩
     case measure => simp [intOf]; omega
    case pos =>
     have hljd : decide ((j : Int) < (np : Int)) = true := by simp; omega
     obtain ⟨pg, rfl, ⟨hpg, hpgS⟩, hpcell⟩ := hptH.out j hlj
     have hct : ∀ i, i < 5 → wr.cell? ⟨pg, j * 5 + i, none⟩ = some (ptCell (ptAt pts j) i) := fun i hi => (World.cell?_of_block (w := w) (w' := wr) (a := ⟨pg, j * 5 + i, none⟩) (h.trn.block pg hpg hpgS)).trans (hpcell i hi)
     have hstep : (pts.take (j + 1)).map insP = (pts.take j).map insP ++ [insP (ptAt pts j)] := by
      have hjl : j < pts.length := by have := hnpH.out; omega
      rw [List.take_succ_eq_append_getElem hjl, List.map_append]
      unfold ptAt
      rw [List.getElem?_eq_getElem hjl]; rfl
     obtain ⟨p, hp⟩ : ∃ p, ptAt pts j = p := ⟨_, rfl⟩
     rw [hp] at hct hstep
     have hstepH := Lib.hid hstep
     have c0 := hct 0 (by omega)
     have c1 := hct 1 (by omega)
     have c2 := hct 2 (by omega)
     have c3 := hct 3 (by omega)
     have c4 := hct 4 (by omega)
     rw [Nat.add_zero] at c0
     have c0' : wr.cell? ⟨pg, j * 5, none⟩ = some (.int .i64 p.mul) := c0
     have c1' : wr.cell? ⟨pg, j * 5 + 1, none⟩ = some (.int .i64 p.add) := c1
     have c2' : wr.cell? ⟨pg, j * 5 + 2, none⟩ = some (.int .i64 p.div) := c2
     have c3' : wr.cell? ⟨pg, j * 5 + 3, none⟩ = some (.int .i64 p.lo) := c3
     have c4' : wr.cell? ⟨pg, j * 5 + 4, none⟩ = some (.int .i64 p.hi) := c4
     clear hct hstep hpcell hp c0 c1 c2 c3 c4
     obtain ⟨Y1, hEY1, hbY1, kq⟩ := newB wr 69 #[.int .i64 p.mul, .int .i64 p.add, .int .i64 p.div, .int .i64 p.lo, .int .i64 p.hi]
     replace h := h.below hbY1
     obtain ⟨q0, q1, q2, q3, q4⟩ := cz5 kq
     have tok1 : True := trivial
     go_wp2_with (go_at_call 108; have _t := tok1; refine (h.emit (by simp only [List.length_append]; omega) (insP p) rfl).mono ?_; clear _t tok1; rintro e W5 ⟨⟨v1, rfl⟩, h7⟩)
     have h8 : Rn B S0 w W5 P bc bm (km + 1) M ⟨at_, fr, C.code ++ roundC P.w P.h L at_ R tz gr ++ headC P.w P.h L gr at_ s ++ (pts.take (j + 1)).map insP⟩ fv' br RCA := by rw [hstepH.out]; simpa using h7
     clear h h7
     go_roundw
     case rel => exact ⟨j + 1, by omega, by go_num, h8⟩
     case measure => simp [intOf]; omega
end Go.Proofs.YtekiemlniegddaaGreat
namespace Go.Proofs.YtekiemlniegddaaGreat
open Go Go.Maps Go.RowKit Go.Shelf
set_option maxRecDepth 100000 in
set_option maxHeartbeats 8000000 in
theorem c1_any (B : Nat) (w : World) (P : CmP) (bc bm km M : Nat) (C : CmN) (fv cv : Value) (l : Nat → InsA) (hcm : CmAt B w P bc bm km M C fv cv l) (hlen : C.code.length ≤ 800000) (bp bx : Nat) (kp : Blk w bp 24 #[.int .i64 P.w, .int .i64 P.h, .int .i64 P.I, .slice P.a P.n P.c]) (kx : Blk w bx 100 #[.pointer (some ⟨bc, 0, none⟩)]) (hMI : P.I + (P.n : Int) = (M : Int)) (hM20 : M < 20) (hkm : km < 100)
  (bl ky : Nat) (live : FnL) (hlv : OwnF Tryz.prog 3 4 w bl ky live M) (hblS : ¬ CmS bc bm C.code.length fv cv l bl) (hfree : ∀ j, j ≤ M → (sweepN live C j).free.length ≤ 900) (hcode : ∀ j, j ≤ M → (sweepN live C j).code = C.code)
  (kf : Nat) (hkf : (sweepN live C M).free.length = kf + 1) (hkf1 : kf ≤ 1000) (hvb : 0 ≤ lastN (sweepN live C M) ∧ lastN (sweepN live C M) ≤ 100000)
  (L : Nat) (hvl : P.vl = (L : Int)) (hw : 1 ≤ P.w ∧ P.w ≤ 16) (hh : 1 ≤ P.h ∧ P.h ≤ 16) (hL : 1 ≤ L ∧ L ≤ 16) (G : Nat) (hG : grpsN P.w P.h P.vl = (G : Int)) (hG2 : G ≤ 256) (y : RndA) (hs : StepIn y.r.head) (hn : needB y.r.head = true) (m : Nat) (hm : m < M) (hres : y.r.res = (m : Int))
  (hop : ∀ q ∈ opsN y.r.head, (0 ≤ q ∧ q < M) ∧ 0 ≤ numF ((placeN (sweepN live C M) (m : Int)).at_ q) ∧ numF ((placeN (sweepN live C M) (m : Int)).at_ q) ≤ 100000) (hta : Rd B w y.ka y.r.head.taps) (hbi : RdB B w y.sa y.r.head.bits) (hpts : w.ownsRow B 69 5 y.pv y.r.pts.length (ptsC y.r.pts)) (hpS : ∀ b, y.pv.ownBlock = some b → ¬ CmS bc bm C.code.length fv cv l b) (hnp : y.r.pts.length ≤ 12) :
  Calls Tryz.prog 54 #[rndv y, .map (some bl), .pointer (some ⟨bp, 0, none⟩), .pointer (some ⟨bx, 0, none⟩)] w fun e w' => (∃ vv, e = .returned vv) ∧ ∃ fv' cv' l', CmAt B w' P bc bm (km + 1) M ⟨(placeN (sweepN live C M) (m : Int)).at_, (placeN (sweepN live C M) (m : Int)).free, (sweepN live C M).code ++ roundC P.w P.h L (placeN (sweepN live C M) (m : Int)).at_ y.r (lastN (sweepN live C M)) G⟩ fv' cv' l' ∧ Blk w' bp 24 #[.int .i64 P.w, .int .i64 P.h, .int .i64 P.I, .slice P.a P.n P.c] ∧ Blk w' bx 100 #[.pointer (some ⟨bc, 0, none⟩)] ∧ Trn (CmS bc bm C.code.length fv cv l) w w' ∧
   ∀ b, CmS bc bm ((sweepN live C M).code ++ roundC P.w P.h L (placeN (sweepN live C M) (m : Int)).at_ y.r (lastN (sweepN live C M)) G).length fv' cv' l' b → CmS bc bm C.code.length fv cv l b ∨ w.heap.size ≤ b := by
 obtain ⟨S0, hS0⟩ : ∃ S0, CmS bc bm C.code.length fv cv l = S0 := ⟨_, rfl⟩
 have hB : Below w.heap.size w w := Below.refl _ _
 have hBw : B ≤ w.heap.size := by have := hcm.lo; have := hcm.c.lt; omega
 have hS0B : ∀ b, S0 b → B ≤ b := fun b hb => (hcm.own b (by rw [hS0]; exact hb)).1
 have hS0H := Lib.hid hS0B
 clear hS0B
 rw [hS0] at hblS hpS ⊢
 have hfreeH := Lib.hid hfree
 have hresH := Lib.hid hres
 clear hres
 obtain ⟨D9, hD9⟩ : ∃ D, sweepN live C M = D := ⟨_, rfl⟩
 rw [hD9] at hkf hvb hop ⊢
 have hD9H := Lib.hid hD9
 have hMIH := Lib.hid hMI
 have hcodeH := Lib.hid hcode
 clear hD9 hfree hcode
 obtain ⟨RCA, hRCA⟩ : ∃ A : Array Value, #[.int .u8 y.r.head.op, .int .i64 y.r.head.a, .int .i64 y.r.head.b, .int .i64 y.r.head.pt.mul, .int .i64 y.r.head.pt.add, .int .i64 y.r.head.pt.div, .int .i64 y.r.head.pt.lo, .int .i64 y.r.head.pt.hi, .int .u8 y.r.head.how, .int .i64 y.r.head.kw, .int .i64 y.r.head.kh, .slice y.ka y.r.head.taps.length y.kc, .int .u8 y.r.head.bd, .int .i64 y.r.head.sw, .int .i64 y.r.head.sh, .slice y.sa y.r.head.bits.length y.sc, y.pv, .slice (some ⟨y.ub, 0, none⟩) (opsN y.r.head).length y.uc, .int .i64 y.r.res] = A := ⟨_, rfl⟩
 have hRCH := Lib.hid hRCA
 clear hRCA
 obtain ⟨V1, hEV1, hbV1, kr⟩ := newB w 111 #[.int .u8 y.r.head.op, .int .i64 y.r.head.a, .int .i64 y.r.head.b, .int .i64 y.r.head.pt.mul, .int .i64 y.r.head.pt.add, .int .i64 y.r.head.pt.div, .int .i64 y.r.head.pt.lo, .int .i64 y.r.head.pt.hi, .int .u8 y.r.head.how, .int .i64 y.r.head.kw, .int .i64 y.r.head.kh, .slice y.ka y.r.head.taps.length y.kc, .int .u8 y.r.head.bd, .int .i64 y.r.head.sw, .int .i64 y.r.head.sh, .slice y.sa y.r.head.bits.length y.sc, y.pv, .slice (some ⟨y.ub, 0, none⟩) (opsN y.r.head).length y.uc, .int .i64 y.r.res]
 replace hcm := hcm.below hbV1
 replace kp := kp.below hbV1 kp.lt
 replace kx := kx.below hbV1 kx.lt
 replace hB := tmB hB hbV1
 clear hbV1
 obtain ⟨br, hbr⟩ : ∃ b, w.heap.size = b := ⟨_, rfl⟩
 have hbrH := Lib.hid hbr
 rw [hbr] at kr
 rw [hRCH.out] at kr
 have hHV : Trn S0 w V1 := Below.trn0 hB S0
 have m2 := kp.cell (i := 2) rfl
 have m3 := kp.cell (i := 3) rfl
 have h0 : Sw B S0 w V1 P bc bm km M (sweepN live C 0) bp bx br RCA := ⟨fv, cv, l, ⟨hcm, kp, kx, kr, hHV, fun b hb => .inl (hS0 ▸ hb)⟩⟩
 have hL1 : OwnF Tryz.prog 3 4 w bl ky live M := hlv
 have hLH := Lib.hid hL1
 have hblH := Lib.hid hblS
 have hptsH := Lib.hid hpts
 have hpSH := Lib.hid hpS
 obtain ⟨i0, hi, hz0, hz1, hz2⟩ := info_parts info_num
 clear hcm kp kx kr hHV hS0 hlv hL1 hblS hpts hpS
 go_enter Tryz.func54, Tryz.ntmps54
 go_wp2_with fail
 clear hEV1
 clear m2 m3 hbr
 go_loopw [15] (fun i wr => ∃ q : Nat, q ≤ M ∧ i = .int .i64 (q : Int) ∧ Sw B S0 w wr P bc bm km M (sweepN live C q) bp bx br RCA) (fun i _ => M - (intOf i).toNat)
 case atStart => exact ⟨0, Nat.zero_le _, rfl, h0⟩
 case round =>
  clear h0
  obtain ⟨q, hq, rfl, h⟩ := hrel
  by_cases hlt : q < M
  case neg =>
   have hltd : decide ((q : Int) < (M : Int)) = false := by simp; omega
   have hkn : M = q := by omega
   subst hkn
   rw [hD9H.out] at h
   have x0 := h.xcell
   obtain ⟨fv1, cv1, l1, h⟩ := h
   have hlow : Below B w wr := h.ht.below hBw (fun b hb hs => by have := hS0H.out b hs; omega)
   have hpl := hptsH.out
   have hpS1 : ∀ b, y.pv.ownBlock = some b → ¬ CmS bc bm D9.code.length fv1 cv1 l1 b := fun b hb hs => by
    rcases h.sub b hs with h1 | h1
    ·exact hpSH.out b hb h1
    ·have := (hpl.lt b hb).2; omega
   have hpts1 := h.ht.row hpl (fun b hb => hpSH.out b hb)
   have hcode9 : D9.code.length ≤ 800000 := by have := hcodeH.out M (Nat.le_refl _); rw [hD9H.out] at this; rw [this]; exact hlen
   have hrn := round_any B wr P bc bm km M D9 fv1 cv1 l1 h.cm hcode9 kf hkf hkf1 (by omega) hkm hvb L hvl hw hh hL G hG hG2 y hs hn m hm hresH.out hop (hta.below (Nat.le_refl _) hlow) (hbi.below (Nat.le_refl _) hlow) hpts1 hpS1 hnp
   unfold rndv at hrn
   have hkr := h.kr
   rw [← hRCH.out] at hkr
   go_upto_region 9 with fail
   refine wp_region_lit ?_
   refine Go.Great.wpList_runTo rfl _ rfl (.pointer (some ⟨bc, 0, none⟩)) wr (by
    go_simp
    all_goals first | rfl | skip) ?_
   simp only [Act.put, nrz]
   refine wpList_load_mid rfl 111 _ rfl br 0 rfl [.int .u8 y.r.head.op, .int .i64 y.r.head.a, .int .i64 y.r.head.b, .int .i64 y.r.head.pt.mul, .int .i64 y.r.head.pt.add, .int .i64 y.r.head.pt.div, .int .i64 y.r.head.pt.lo, .int .i64 y.r.head.pt.hi, .int .u8 y.r.head.how, .int .i64 y.r.head.kw, .int .i64 y.r.head.kh, .slice y.ka y.r.head.taps.length y.kc, .int .u8 y.r.head.bd, .int .i64 y.r.head.sw, .int .i64 y.r.head.sh, .slice y.sa y.r.head.bits.length y.sc, y.pv, .slice (some ⟨y.ub, 0, none⟩) (opsN y.r.head).length y.uc, .int .i64 y.r.res] _ (blk_rng hkr) Tryz.underlying111 rfl (by kernel_rfl) ?_
   simp only [Act.put, nrz]
   refine wpList_callAnyQ rfl _ rfl 55 _ (by kernel_rfl) _ hrn ?_
   rintro e W4 ⟨⟨v1, rfl⟩, fv2, cv2, l2, hcm2, hT2, hsub2⟩
   refine ⟨_, rfl, ?_⟩
   refine wpList_nil ?_
   try simp only [Act.put, nrz]
   go_end0
   have h5 := SwAt.step (C' := ⟨(placeN D9 (m : Int)).at_, (placeN D9 (m : Int)).free, D9.code ++ roundC P.w P.h L (placeN D9 (m : Int)).at_ y.r (lastN D9) G⟩) h hcm2 hT2 hsub2
   exact ⟨⟨_, rfl⟩, fv2, cv2, l2, h5.cm, h5.kp, h5.kx, h5.ht, h5.sub⟩
  case pos =>
   have hltd : decide ((q : Int) < (M : Int)) = true := by simp; omega
   have hstep : sweepN live C (q + 1) = if ((sweepN live C q).at_ (q : Int)).isSome = true ∧ truF (live (q : Int)) = false then ⟨delF (sweepN live C q).at_ (q : Int), (sweepN live C q).free ++ [numF ((sweepN live C q).at_ (q : Int))], (sweepN live C q).code⟩ else sweepN live C q := rfl
   have hfl := hfreeH.out q hq
   obtain ⟨D, hD⟩ : ∃ D, sweepN live C q = D := ⟨_, rfl⟩
   rw [hD] at h hstep hfl
   have x0 := h.xcell
   have y7 := h.mcell
   have hlk := h.map.run_lookok (t := 101) Tryz.underlying3 Tryz.underlying101 Tryz.underlying3 (zero_num _) (q : Int) (wf_num ⟨by omega, by omega⟩)
   have hll := (hLH.out.trn h.trn hblH.out).run_lookb (t := 112) Tryz.underlying3 Tryz.underlying112 Tryz.underlying4 (zero_boo _) (q : Int) (wf_num ⟨by omega, by omega⟩)
   obtain ⟨bi, hbi0⟩ : ∃ z, (D.at_ (q : Int)).isSome = z := ⟨_, rfl⟩
   obtain ⟨va, hva⟩ : ∃ z, numF (D.at_ (q : Int)) = z := ⟨_, rfl⟩
   obtain ⟨tl, htl⟩ : ∃ z, truF (live (q : Int)) = z := ⟨_, rfl⟩
   rw [hbi0, hva] at hlk
   rw [htl] at hll
   rw [hbi0, hva, htl] at hstep
   have hstepH := Lib.hid hstep
   clear hstep hD hbi0 hva htl
   cases bi
   case false =>
    have hnx : sweepN live C (q + 1) = D := by rw [hstepH.out, if_neg (by simp)]
    rw [← hnx] at h
    clear hnx
    go_wp2_with fail
    go_roundw
    case rel => exact ⟨q + 1, by omega, by go_num, h⟩
    case measure => simp [intOf]; omega
   case true =>
    cases tl
    case true =>
     have hnx : sweepN live C (q + 1) = D := by rw [hstepH.out, if_neg (by simp)]
     rw [← hnx] at h
     clear hnx
     go_wp2_with fail
     go_roundw
     case rel => exact ⟨q + 1, by omega, by go_num, h⟩
     case measure => simp [intOf]; omega
    case false =>
     go_wp2_with fail
     clear hlk hll x0 y7
     obtain ⟨fv1, cv1, l1, h⟩ := h
     have h2 := h.below (Below.refl _ wr).drew
     have hS : Blk wr.drew bx 100 #[.pointer (some ⟨bc, 0, none⟩)] ∧ Blk wr.drew bc 103 (cmC P bm fv1 cv1) := ⟨h2.kx, h2.cm.c⟩
     clear h
     refine plain_region (fun W' => Blk W' bx 100 #[.pointer (some ⟨bc, 0, none⟩)] ∧ Blk W' bc 103 (cmC P bm fv1 cv1)) 10 11 (by kernel_rfl) rfl ?_
     simp only [Array.replicate_succ, Array.replicate_zero, List.push_toArray, List.nil_append, List.cons_append]
     obtain ⟨X0, hXX0⟩ : ∃ X : World, wr.drew = X := ⟨_, rfl⟩
     rw [hXX0] at hS h2 ⊢
     clear hXX0
     have FA0 := Lib.hid (fun w' (hS' : (fun W' => Blk W' bx 100 #[.pointer (some ⟨bc, 0, none⟩)] ∧ Blk W' bc 103 (cmC P bm fv1 cv1)) w') => And.intro (hS'.1.cell (i := 0) rfl) (hS'.2.cell (i := 8) rfl))
     refine tkz 0 rfl hS (fun w' hS' => by obtain ⟨x0, y8⟩ := FA0.out w' hS'; clear hS'; go_simp; rfl) ?_
     simp only [nrz]
     refine tkz 1 rfl hS (fun w' hS' => by obtain ⟨x0, y8⟩ := FA0.out w' hS'; clear hS'; go_simp; rfl) ?_
     simp only [nrz]
     refine tkz 2 rfl hS (fun w' hS' => by go_simp; rfl) ?_
     simp only [nrz]
     refine tkz 3 rfl hS (fun w' hS' => by go_simp; rfl) ?_
     simp only [nrz]
     refine tkz 4 rfl hS (fun w' hS' => by obtain ⟨x0, y8⟩ := FA0.out w' hS'; clear hS'; go_simp; rfl) ?_
     simp only [nrz]
     refine tkz 5 rfl hS (fun w' hS' => by go_simp; rfl) ?_
     simp only [nrz]
     refine step_op 6 (by kernel_rfl) rfl (fun K hK => ?_)
     rw [if_pos (by rfl)]
     go_simp
     have hbA := jb_al (Below.refl _ X0) (.cells #[.int .i64 va] 3)
     have ky := Blk.new X0 3 #[.int .i64 va]
     have h6 := h2.below hbA
     have hS6 : Blk (X0.alloc (.cells #[.int .i64 va] 3)) bx 100 #[.pointer (some ⟨bc, 0, none⟩)] ∧ Blk (X0.alloc (.cells #[.int .i64 va] 3)) bc 103 (cmC P bm fv1 cv1) := ⟨hS.1.below hbA hS.1.lt, hS.2.below hbA hS.2.lt⟩
     obtain ⟨by_, hby⟩ : ∃ b, X0.heap.size = b := ⟨_, rfl⟩
     obtain ⟨X6, hX6⟩ : ∃ X, (X0.alloc (.cells #[.int .i64 va] 3)) = X := ⟨_, rfl⟩
     rw [hX6] at ky h6 hS6 ⊢
     rw [hby] at ky ⊢
     clear hX6 hby hbA h2 hS
     refine hK.out _ _ (fun h => hS6) ?_
     clear hK K
     try simp only [Act.put, nrz]
     refine step_op 7 (by kernel_rfl) rfl (fun K hK => ?_)
     refine step_append_atQ rfl (.tmp 38) (.tmp 40) 30 rfl B 3 i0 (.int .i64 0) 1 8 Tryz.underlying30 hi hz0 hz1 hz2 rfl (by decide) fv1 D.free.length _ rfl h6.cm.free ⟨by_, 0, none⟩ 1 1 [.int .i64 va] rfl rfl (blk_news ky) (by simp [Value.oneCell']) (by unfold maxLen; omega) (by omega) (by have := h6.cm.lo; have := h6.cm.c.lt; omega) ?_
     intro fv' X7 hown7 hg7 hat7
     obtain ⟨ca, cc, rfl⟩ := row_slice hown7
     have k1 := grown_trn hg7 (fun b => fv1.ownBlock = some b) (fun b e => e)
     have hS7 : Blk X7 bx 100 #[.pointer (some ⟨bc, 0, none⟩)] ∧ Blk X7 bc 103 (cmC P bm fv1 cv1) := ⟨k1.blk hS6.1 (fun e => hS6.1.not_row ptr_ne_int h6.cm.free e.symm), k1.blk hS6.2 (fun e => hS6.2.not_row int_ne_cmp h6.cm.free e.symm)⟩
     have h7 := h6.freeing hown7 hg7 (hat7.elim .inl (fun h => .inr ⟨_, h, Nat.le_refl _⟩))
     have e8 := hS7.2.cell (i := 8) rfl
     have f8 := hS7.2.frozen 8
     clear hown7 hg7 hat7 h6 ky hS6 k1
     refine hK.out _ _ (fun h => hS7) ?_
     clear hK K
     try simp only [Act.put, nrz]
     refine step_op 8 (by kernel_rfl) rfl (fun K hK => ?_)
     rw [if_pos (by rfl)]
     go_simp
     refine hK.out _ _ (fun h => hS7) ?_
     clear hK K
     try simp only [Act.put, nrz]
     refine tkz 9 rfl hS7 (fun w' hS' => by go_simp; rfl) ?_
     simp only [nrz]
     refine step_op 10 (by kernel_rfl) rfl (fun K hK => ?_)
     rw [if_pos (by rfl)]
     go_simp
     clear e8 f8
     refine hK.out _ _ (fun h => absurd h (by omega)) ?_
     clear hK K
     try simp only [Act.put, nrz]
     refine done_ops (by kernel_rfl) ?_
     clear hS7
     have x0 := (Sw.xcell ⟨_, _, _, h7⟩)
     have y7 := (Sw.mcell ⟨_, _, _, h7⟩)
     go_wp2_with (at_delete; refine OwnF.delw _ rfl _ _ _ rfl Tryz.underlying3 Tryz.underlying101 bm rfl h7.cm.at_ q (by omega) (by omega) rfl ?_; intro w9 hF9 hg9)
     have h9 : Sw B S0 w w9 P bc bm km M (sweepN live C (q + 1)) bp bx br RCA := by
      rw [hstepH.out, if_pos (by simp)]
      exact ⟨_, _, _, h7.deld hF9 hg9⟩
     clear h7 x0 y7
     go_roundw
     case rel => exact ⟨q + 1, by omega, by go_num, h9⟩
     case measure => simp [intOf]; omega
end Go.Proofs.YtekiemlniegddaaGreat
namespace Go.Proofs.YtekiemlniegddaaGreat
open Go Go.RowKit Go.Shelf
theorem rnd_conds {P : PipeN} {ms : List PicN} (hP : pipeB P = true) (hg : givenB ms P.inp P.w P.h = true) {n : Nat} (hn : (n : Int) = P.w * P.h) {k : Nat} (hk : k < (rdsN P.inp P.ss).length) {C : CmN} {M : MacN} (hC : CmpOk P ms n k C M.mem) :
  ∃ fs, fs ≠ [] ∧ fs.length ≤ mostP P ∧ (sweepN (livN P.inp.toNat (lastI P) (rdsN P.inp P.ss) k) C (P.inp.toNat + P.ss.length)).free = freeL n fs ∧ (∃ t : Nat, t < mostP P ∧ lastN (sweepN (livN P.inp.toNat (lastI P) (rdsN P.inp P.ss) k) C (P.inp.toNat + P.ss.length)) = (t : Int) * n) ∧
   ∀ m ∈ opsN (rnAt (rdsN P.inp P.ss) k).head, ∃ t : Nat, t < mostP P ∧ numF ((placeN (sweepN (livN P.inp.toNat (lastI P) (rdsN P.inp P.ss) k) C (P.inp.toNat + P.ss.length)) (rnAt (rdsN P.inp P.ss) k).res).at_ m) = (t : Int) * n := by
 obtain ⟨⟨w1, w2⟩, ⟨h1, h2⟩, ⟨i1, i2⟩, ⟨l1, l2⟩, hall⟩ := pipeB_true hP
 have hr := refOk_of hP
 have hn0 : 0 < n := by have := Int.mul_pos (show 0 < P.w by omega) (show 0 < P.h by omega); omega
 obtain ⟨rs, hrs⟩ : ∃ rs, rdsN P.inp P.ss = rs := ⟨_, rfl⟩
 have hIn : ((P.inp.toNat : Nat) : Int) = P.inp := Int.toNat_of_nonneg (by omega)
 have hnot := res_not_ops hr
 have hres := res_bd hr hk
 have hinj := fun q (hq : q < (rdsN P.inp P.ss).length) => res_inj hr hq hk
 have hthere := fun m hm => head_there hr hk (m := m) hm
 have hhead := (rdsN_ok hr).head k hk
 have hchain := rds_chain hP hg P.ss.length (Nat.le_refl _) k hk
 have hlive := fun m => plS_live (I := P.inp.toNat) (last := lastI P) hnot m k (by omega)
 have hlive2 := fun m => plS_live (I := P.inp.toNat) (last := lastI P) hnot m (k + 1) (by omega)
 have hleft := fun m => plS_left P.inp.toNat (lastI P) (rdsN P.inp P.ss) m k
 have hleft2 := fun m => plS_left P.inp.toNat (lastI P) (rdsN P.inp P.ss) m (k + 1)
 have hmost : cntF (livN P.inp.toNat (lastI P) (rdsN P.inp P.ss) k) (P.inp.toNat + P.ss.length) ≤ mostP P := most_le _ _ _ _ hk
 have hmono := fun m => cntR_mono (rdsN P.inp P.ss) m (a := k + 1) (b := (rdsN P.inp P.ss).length) hk
 have hbd := fun m hm => avail_bd hP (k := k) (by omega) (m := m) hm
 change imN P ms (rnAt (rdsN P.inp P.ss) k).res = ptsN (imN P ms (P.inp + (rnAt (rdsN P.inp P.ss) k).at_)) (rnAt (rdsN P.inp P.ss) k).pts ∧ ∀ p ∈ (rnAt (rdsN P.inp P.ss) k).pts, p.ok = true at hchain
 change (rnAt (rdsN P.inp P.ss) k).at_ < P.ss.length ∧ (rnAt (rdsN P.inp P.ss) k).head = stAt P.ss (rnAt (rdsN P.inp P.ss) k).at_ at hhead
 obtain ⟨⟨fs, hal, hfree⟩, hav, hlv, hmem⟩ := hC
 rw [hIn] at hlive hlive2
 rw [hrs] at hk hnot hres hinj hthere hhead hchain hlive hlive2 hleft hleft2 hmost hmono hbd hav hlv hmem ⊢
 obtain ⟨r, hrr⟩ : ∃ r, rnAt rs k = r := ⟨_, rfl⟩
 have hnotk := hnot k hk
 rw [hrr] at hres hinj hthere hhead hchain hnotk ⊢
 obtain ⟨LN, hLN⟩ : ∃ L, livN P.inp.toNat (lastI P) rs k = L := ⟨_, rfl⟩
 have hLNat : ∀ m, LN m = if m = r.res then some (.bool true) else (plS P.inp.toNat (lastI P) rs k).live m := fun m => by
  rw [← hLN]; unfold livN; rw [hrr]; rfl
 rw [hLN] at hmost ⊢
 obtain ⟨T, hT⟩ : ∃ T : Nat, r.res = (T : Int) := ⟨r.res.toNat, by omega⟩
 have hTK : T < P.inp.toNat + P.ss.length := by omega
 -- the sweep
 obtain ⟨fs1, s1, s2, s3, s4⟩ := sweep_ok hn0 (live := LN) hal hfree (P.inp.toNat + P.ss.length) (Nat.le_refl _)
 have hresF : C.at_ r.res = none := by
  cases hh : C.at_ r.res with
  | none => rfl
  | some x =>
   exfalso
   rcases hav r.res (by rw [hh]; rfl) with h | ⟨q, hq, e⟩
   ·omega
   ·have := hinj q (by omega) e; omega
 obtain ⟨S, hS⟩ : ∃ S, sweepN LN C (P.inp.toNat + P.ss.length) = S := ⟨_, rfl⟩
 rw [hS] at s1 s2 s3 s4
 have hSdom : ∀ m, (S.at_ m).isSome = true → truF (LN m) = true ∧ S.at_ m = C.at_ m := fun m hm => by
  rw [s4 m] at hm
  by_cases e : 0 ≤ m ∧ m < ((P.inp.toNat + P.ss.length : Nat) : Int) ∧ truF (LN m) = false
  ·rw [if_pos e] at hm; cases hm
  ·have := s4 m
   rw [if_neg e] at this hm
   refine ⟨?_, this⟩
   have b := hbd m (hav m hm)
   cases ht : truF (LN m) with
   | true => rfl
   | false => exact absurd ⟨b.1, by push_cast; omega, ht⟩ e
 have hSres : S.at_ (T : Int) = none := by
  cases hh : S.at_ (T : Int) with
  | none => rfl
  | some x =>
   have := (hSdom (T : Int) (by rw [hh]; rfl)).2
   rw [← hT, hresF, hT, hh] at this; cases this
 have hfs : fs1 ≠ [] := by
  intro e
  have hc := s1.cnt
  rw [e, List.length_nil] at hc
  have := cntF_lt (A := S.at_) (B := LN) (K := P.inp.toNat + P.ss.length) (fun j hj h => by
   have := (hSdom _ h).1
   cases hh : LN (j : Int) with
   | none => rw [hh] at this; cases this
   | some x => rfl) ⟨T, hTK, hSres, by rw [hLNat, ← hT, if_pos rfl]; rfl⟩
  omega
 obtain ⟨fs2, t, p1, p2, p3, p4, p5, p6⟩ := place_ok hn0 s1 s2 hfs hTK hSres
 obtain ⟨D, hD⟩ : ∃ D, placeN S r.res = D := ⟨_, rfl⟩
 have hD2 : placeN S (T : Int) = D := by rw [← hT]; exact hD
 rw [hD2] at p3 p4 p5
 have hcnt := s1.cnt
 simp only [hS, hD]
 have hopd : ∀ m ∈ opsN r.head, ∃ tm : Nat, tm < mostP P ∧ D.at_ m = some (ilit ((tm : Int) * n)) ∧ tm ≠ t ∧ AtImg M.mem (numF (D.at_ m)) (imN P ms m).px n ∧ PicOk P.w P.h (imN P ms m) := fun m hm => by
  obtain ⟨a1, a2⟩ := hthere m hm
  have hmr : m ≠ r.res := fun e => hnotk (e ▸ hm)
  have hi := inOps_pos hm
  have hav1 : availN P.inp rs k m := a2.elim (fun h => .inl ⟨a1, h⟩) .inr
  have h1' := hleft m
  have h3' := hmono m
  have hstep : cntR rs m (k + 1) = cntR rs m k + inOps (rnAt rs k).head m := rfl
  rw [hrr, hi] at hstep
  have hli : (plS P.inp.toNat (lastI P) rs k).live m = some (.bool true) := by
   rcases hlive m with ⟨e, _⟩ | ⟨_, e⟩
   ·exact e
   ·exact absurd ⟨hav1, by omega⟩ e
  have hCm := hlv m hli
  have b := hbd m hav1
  have hLm : truF (LN m) = true := by rw [hLNat, if_neg hmr, hli]; rfl
  have hSm : S.at_ m = C.at_ m := by rw [s4 m, if_neg (by rw [hLm]; simp)]
  have hDm : D.at_ m = C.at_ m := by rw [p5, putF_ne _ _ (by rw [← hT]; exact hmr), hSm]
  obtain ⟨x, hx⟩ := Option.isSome_iff_exists.1 hCm
  obtain ⟨tm, g1, g2, g3, g4⟩ := hal.at_ _ _ hx
  subst g2
  refine ⟨tm, g1, by rw [hDm, hx], fun e => ?_, by rw [hDm]; exact hmem m hli, imN_all hP hg P.ss.length (Nat.le_refl _) m a1 b.2⟩
  subst e
  exact p6 m _ (by rw [hSm, hx]) rfl
 exact ⟨fs1, hfs, by omega, s2, ⟨t, p1, p2⟩, fun m hm => by obtain ⟨tm, g1, g2, _⟩ := hopd m hm; exact ⟨tm, g1, by rw [g2]; rfl⟩⟩
/-- The free places while a sweep goes on. -/
theorem sweep_free {P : PipeN} {ms : List PicN} {n k : Nat} {C : CmN} {mem : Nat → Int} (hn : 0 < n) (hC : CmpOk P ms n k C mem) (live : FnL) (j : Nat) (hj : j ≤ P.inp.toNat + P.ss.length) : (sweepN live C j).free.length ≤ mostP P ∧ (sweepN live C j).code = C.code := by
 obtain ⟨⟨fs, hal, hfree⟩, _, _, _⟩ := hC
 obtain ⟨fs1, s1, s2, s3, _⟩ := sweep_ok hn (live := live) hal hfree j hj
 refine ⟨?_, s3⟩
 have := s1.cnt
 rw [s2]; unfold freeL; rw [List.length_map]; omega
/-- A place for a given image that is used: there is one. -/
theorem inp_conds {P : PipeN} {ms : List PicN} (hP : pipeB P = true) (hg : givenB ms P.inp P.w P.h = true) {n : Nat} (hn : (n : Int) = P.w * P.h) {k : Nat} (hk : k + 1 ≤ P.inp.toNat) (hz : numF (lefF (lastI P) (rdsN P.inp P.ss) (rdsN P.inp P.ss).length (k : Int)) ≠ 0) :
  ∃ fs, fs ≠ [] ∧ fs.length ≤ mostP P ∧ (inpN (lefF (lastI P) (rdsN P.inp P.ss) (rdsN P.inp P.ss).length) ⟨fun _ => none, freeN (P.w * P.h) (mostP P), []⟩ k).c.free = freeL n fs ∧ ∃ t : Nat, t < mostP P ∧ lastN (inpN (lefF (lastI P) (rdsN P.inp P.ss) (rdsN P.inp P.ss).length) ⟨fun _ => none, freeN (P.w * P.h) (mostP P), []⟩ k).c = (t : Int) * n := by
 have ih := inp_ok hP hg hn k (by omega)
 obtain ⟨⟨w1, w2⟩, ⟨h1, h2⟩, ⟨i1, i2⟩, ⟨l1, l2⟩, hall⟩ := pipeB_true hP
 have hn0 : 0 < n := by have := Int.mul_pos (show 0 < P.w by omega) (show 0 < P.h by omega); omega
 have hr := refOk_of hP
 have hlen := inp_len (lefF (lastI P) (rdsN P.inp P.ss) (rdsN P.inp P.ss).length) ⟨fun _ => none, freeN (P.w * P.h) (mostP P), []⟩ k
 obtain ⟨q0, hq0, _⟩ := last_there hr (show 0 < P.ss.length by omega)
 have hres0 := res_bd hr (q := 0) (by omega)
 have hliv : ∀ m, (livN P.inp.toNat (lastI P) (rdsN P.inp P.ss) 0) m = if m = (rnAt (rdsN P.inp P.ss) 0).res then some (.bool true) else if 0 ≤ m ∧ m < P.inp.toNat ∧ 0 < numF (lefF (lastI P) (rdsN P.inp P.ss) (rdsN P.inp P.ss).length m) then some (.bool true) else none := fun m => by
  unfold livN putF; rw [plS]; simp only; rw [livI_at]
 have hmost : cntF (livN P.inp.toNat (lastI P) (rdsN P.inp P.ss) 0) (P.inp.toNat + P.ss.length) ≤ mostP P := most_le _ _ _ _ (by omega)
 obtain ⟨left, hleft⟩ : ∃ L, lefF (lastI P) (rdsN P.inp P.ss) (rdsN P.inp P.ss).length = L := ⟨_, rfl⟩
 rw [hleft] at ih hlen hliv hz ⊢
 obtain ⟨S, hS⟩ : ∃ S, inpN left ⟨fun _ => none, freeN (P.w * P.h) (mostP P), []⟩ k = S := ⟨_, rfl⟩
 rw [hS] at ih hlen ⊢
 obtain ⟨⟨fs, a1, a2⟩, c1, d1, e1, m1⟩ := ih
 have hpic := fun i (hi : i < P.inp.toNat) => given_at hg (i := i) (by have := givenB_len hg; omega)
 have hpl : ∀ i, i < P.inp.toNat → (picAt ms i).px.length = n := fun i hi => by
  have := (vld_true (hpic i hi).v).2.2.1
  omega
 have hz' : 0 < numF (left (k : Int)) := by
  have := lefF_num (lastI P) (rdsN P.inp P.ss) (k : Int) (rdsN P.inp P.ss).length
  rw [hleft] at this
  omega
 have hnone : S.c.at_ (k : Int) = none := by
  cases hh : S.c.at_ (k : Int) with
  | none => rfl
  | some x =>
   obtain ⟨i, g1, g2, _⟩ := (d1 (k : Int)).1 (by rw [hh]; rfl)
   omega
 have hfs : fs ≠ [] := by
  intro e
  have hc := a1.cnt
  rw [e, List.length_nil] at hc
  have := cntF_lt (A := S.c.at_) (B := livN P.inp.toNat (lastI P) (rdsN P.inp P.ss) 0) (K := P.inp.toNat + P.ss.length) (fun j hj h => by
   obtain ⟨i, g1, g2, g3⟩ := (d1 _).1 h
   rw [hliv]
   by_cases e1 : (j : Int) = (rnAt (rdsN P.inp P.ss) 0).res
   ·rw [if_pos e1]; rfl
   ·rw [if_neg e1, if_pos ⟨by omega, by omega, by rw [g2]; exact g3⟩]; rfl) ⟨k, by omega, hnone, by
    rw [hliv]
    by_cases e1 : (k : Int) = (rnAt (rdsN P.inp P.ss) 0).res
    ·rw [if_pos e1]; rfl
    ·rw [if_neg e1, if_pos ⟨by omega, by omega, hz'⟩]; rfl⟩
  omega
 obtain ⟨fs2, t, p1, p2, p3, p4, p5, p6⟩ := place_ok hn0 a1 a2 hfs (show k < P.inp.toNat + P.ss.length by omega) hnone
 have hcnt := a1.cnt
 exact ⟨fs, hfs, by omega, a2, t, p1, p2⟩
end Go.Proofs.YtekiemlniegddaaGreat
namespace Go.Proofs.YtekiemlniegddaaGreat
open Go Go.Maps Go.RowKit Go.Shelf
def cmPof (Q : PipeN) (v : VecN) (a : Option Addr) (n c : Nat) : CmP := ⟨Q.w, Q.h, Q.inp, a, n, c, v.lanes, v.regs, v.mem⟩
structure CjAt (B : Nat) (Q : PipeN) (v : VecN) (a : Option Addr) (n c bc bm bp bx k : Nat) (S : Nat → Prop) (W : World) (fv cv : Value) (l : Nat → InsA) : Prop where
 cm : CmAt B W (cmPof Q v a n c) bc bm (Q.inp.toNat + k) (Q.inp.toNat + n) (cmpS Q v.lanes k) fv cv l
 kp : Blk W bp 24 #[.int .i64 Q.w, .int .i64 Q.h, .int .i64 Q.inp, .slice a n c]
 kx : Blk W bx 100 #[.pointer (some ⟨bc, 0, none⟩)]
 hs : ∀ b, S b ↔ CmS bc bm (cmpS Q v.lanes k).code.length fv cv l b ∨ b = bp ∨ b = bx
 lo : B ≤ bp ∧ B ≤ bx
def CJ (B : Nat) (Q : PipeN) (v : VecN) (a : Option Addr) (n c bc bm bp bx : Nat) (k : Nat) (S : Nat → Prop) (W : World) : Prop := ∃ fv cv l, CjAt B Q v a n c bc bm bp bx k S W fv cv l
theorem lenR_mono (rs : List RndN) {a : Nat} : ∀ {b : Nat}, a ≤ b → lenR rs a ≤ lenR rs b
  | 0, h => by obtain rfl : a = 0 := by omega
               exact Nat.le_refl _
  | b + 1, h => by
    by_cases e : a = b + 1
    · subst e; exact Nat.le_refl _
    · have := lenR_mono rs (a := a) (b := b) (by omega); rw [lenR]; omega
theorem sumR_one : ∀ (l : List RndN) (q : Nat), q < l.length → (rnAt l q).pts.length + 1 ≤ sumR l
 | [], q, h => by simp at h
 | r :: l, 0, h => by unfold sumR rnAt; simp
 | r :: l, q + 1, h => by
  have := sumR_one l q (by simpa using h)
  have e : rnAt (r :: l) (q + 1) = rnAt l q := by simp [rnAt]
  rw [e]
  unfold sumR at this ⊢
  simp only [List.map_cons, List.sum_cons]
  omega
theorem vecB_facts {v : VecN} (h : vecB v = true) : (1 ≤ v.lanes ∧ v.lanes ≤ 16) ∧ (2 ≤ v.regs ∧ v.regs ≤ 16) ∧ 1 ≤ v.mem ∧ v.mem ≤ 8192 := by
 unfold vecB at h
 simp only [Bool.and_eq_true, inR_true] at h
 omega
theorem vecOk_of {P : PipeN} (hP : pipeB P = true) {v : VecN} (hvec : vecB v = true) (hroom : roomP P ≤ v.mem) : VecOk v P.w P.h (P.w.toNat * P.h.toNat) (mostP P) := by
 obtain ⟨hw, hh, hi, ⟨l1, l2⟩, hall⟩ := pipeB_true hP
 have h := vecB_facts hvec
 have hn : ((P.w.toNat * P.h.toNat : Nat) : Int) = P.w * P.h := by push_cast; rw [Int.toNat_of_nonneg (by omega), Int.toNat_of_nonneg (by omega)]
 exact ⟨h.1, h.2.1, hw, hh, hn, by rw [hn, ← Int.mul_assoc]; exact hroom⟩
theorem code_le {P : PipeN} (hP : pipeB P = true) {v : VecN} (hv : VecOk v P.w P.h (P.w.toNat * P.h.toNat) (mostP P)) {k : Nat} (hk : k ≤ (rdsN P.inp P.ss).length) : (cmpS P v.lanes k).code.length ≤ 200000 := by
 obtain ⟨hw, hh, hi, ⟨l1, l2⟩, hall⟩ := pipeB_true hP
 obtain ⟨_, c2⟩ := cmp_code hP hv k hk
 have hlen := lenR_le hP
 have hm := lenR_mono (rdsN P.inp P.ss) hk
 have hgr := grps_le hw hh hv.l
 rw [c2]
 have := Nat.mul_le_mul (show lenR (rdsN P.inp P.ss) k ≤ 52 * 12 by omega) (show (grpsN P.w P.h v.lanes).toNat ≤ 256 by omega)
 omega
set_option maxHeartbeats 1000000 in
theorem cj_do {Q : PipeN} (hP : pipeB Q = true) {v : VecN} (hvec : vecB v = true) (hroom : roomP Q ≤ v.mem) (a : Option Addr) (n c : Nat) (hn : Q.ss.length = n) (hst : ∀ i, i < n → StepIn (stAt Q.ss i)) (B bc bm bp bx : Nat) :
  PlanDo 54 #[.pointer (some ⟨bp, 0, none⟩), .pointer (some ⟨bx, 0, none⟩)] Q.inp.toNat (Q.inp + n - 1) (rdsN Q.inp Q.ss) (rdsN Q.inp Q.ss).length (Q.inp.toNat + n) B (CJ B Q v a n c bc bm bp bx) := by
 refine ⟨fun k S W W' h ht => ?_, fun k S W h b hb => ?_, ?_⟩
 ·obtain ⟨fv, cv, l, h⟩ := h
  exact ⟨fv, cv, l, ⟨h.cm.frame (ht.mono (fun b _ hn hc => hn ((h.hs b).2 (.inl hc)))), ht.blk h.kp (fun hn => hn ((h.hs bp).2 (.inr (.inl rfl)))), ht.blk h.kx (fun hn => hn ((h.hs bx).2 (.inr (.inr rfl)))), h.hs, h.lo⟩⟩
 ·obtain ⟨fv, cv, l, h⟩ := h
  rcases (h.hs b).1 hb with h1 | rfl | rfl
  ·exact h.cm.own b h1
  ·exact ⟨h.lo.1, h.kp.lt⟩
  ·exact ⟨h.lo.2, h.kx.lt⟩
 ·intro k S W y ky bl hk h hy hta hbi hpts hpS hlv hblS hBW
  subst hn
  obtain ⟨fv, cv, l, h⟩ := h
  obtain ⟨hw, hh, hi, ⟨l1, l2⟩, hall⟩ := pipeB_true hP
  have hvf := vecB_facts hvec
  have hr := refOk_of hP
  have hv := vecOk_of hP hvec hroom
  have hC := cmp_all hP (zero_given hP) hv.ne hv.l.1 k (by omega)
  have hn0 : 0 < Q.w.toNat * Q.h.toNat := Nat.mul_pos (by omega) (by omega)
  obtain ⟨fs, hfs, hfl, hfree, ⟨t, ht, hlast⟩, hops⟩ := rnd_conds hP (zero_given hP) hv.ne hk hC
  have hsw := fun j hj => sweep_free hn0 hC (livN Q.inp.toNat (lastI Q) (rdsN Q.inp Q.ss) k) j hj
  have hmost : mostP Q ≤ Q.inp.toNat + Q.ss.length := mostN_le _ _ _ _ _
  have hcode := code_le hP hv (k := k) (by omega)
  have hres := res_bd hr hk
  have hhead := (rdsN_ok hr).head k (by unfold rdsN at hk; omega)
  change (rnAt (rdsN Q.inp Q.ss) k).at_ < Q.ss.length ∧ (rnAt (rdsN Q.inp Q.ss) k).head = stAt Q.ss (rnAt (rdsN Q.inp Q.ss) k).at_ at hhead
  have hneed := (stepsB_all hall hhead.1).1
  have hsi := hst _ hhead.1
  have hrefs := hr _ hhead.1
  rw [← hhead.2] at hneed hsi hrefs
  have hsum := sumR_one (rdsN Q.inp Q.ss) k hk
  have hcnt := pts_count hr Q.ss.length (Nat.le_refl _)
  change sumR (rdsN Q.inp Q.ss) = _ at hcnt
  obtain ⟨m, hm⟩ : ∃ m : Nat, (rnAt (rdsN Q.inp Q.ss) k).res = (m : Int) := ⟨(rnAt (rdsN Q.inp Q.ss) k).res.toNat, by omega⟩
  have hgr := grps_le hw hh hvf.1
  have hpl := place_in hv ht
  have hNle : (rdsN Q.inp Q.ss).length ≤ Q.ss.length := by have h := (rdsN_ok hr).len; exact h
  have hS0 : ∀ b, CmS bc bm (cmpS Q v.lanes k).code.length fv cv l b → S b := fun b hb => (h.hs b).2 (.inl hb)
  rw [hm] at hops
  have hcall := c1_any B W (cmPof Q v a Q.ss.length c) bc bm (Q.inp.toNat + k) (Q.inp.toNat + Q.ss.length) (cmpS Q v.lanes k) fv cv l h.cm (by omega) bp bx h.kp h.kx (by show Q.inp + ((Q.ss.length : Nat) : Int) = _; omega) (by omega) (by omega) bl ky (livN Q.inp.toNat (lastI Q) (rdsN Q.inp Q.ss) k) hlv (fun hb => hblS (hS0 bl hb)) (fun j hj => by have := (hsw j hj).1; omega) (fun j hj => (hsw j hj).2)
   (fs.length - 1) (by
    rw [hfree]; unfold freeL; rw [List.length_map]
    have : fs.length ≠ 0 := fun e => hfs (List.length_eq_zero_iff.1 e)
    omega) (by omega) (by rw [hlast]; omega) v.lanes.toNat (by show v.lanes = _; omega) hw hh (by omega) (grpsN Q.w Q.h v.lanes).toNat (by show grpsN Q.w Q.h v.lanes = _; omega) (by omega) y (by rw [hy]; exact hsi) (by rw [hy]; exact hneed) m (by omega) (by rw [hy]; exact hm) (fun q hq => by
    rw [hy] at hq
    obtain ⟨tm, g1, g2⟩ := hops q hq
    have hq2 := hrefs q hq
    have := place_in hv g1
    rw [g2]
    omega) hta hbi hpts (fun b hb hc => hpS b hb (hS0 b hc)) (by rw [hy]; omega)
  refine Calls.mono hcall ?_
  rintro e W' ⟨h1, fv', cv', l', hcm, hkp, hkx, hT, hsub⟩
  have hnx : (⟨(placeN (sweepN (livN Q.inp.toNat (lastI Q) (rdsN Q.inp Q.ss) k) (cmpS Q v.lanes k) (Q.inp.toNat + Q.ss.length)) (m : Int)).at_, (placeN (sweepN (livN Q.inp.toNat (lastI Q) (rdsN Q.inp Q.ss) k) (cmpS Q v.lanes k) (Q.inp.toNat + Q.ss.length)) (m : Int)).free, (sweepN (livN Q.inp.toNat (lastI Q) (rdsN Q.inp Q.ss) k) (cmpS Q v.lanes k) (Q.inp.toNat + Q.ss.length)).code ++ roundC Q.w Q.h v.lanes.toNat (placeN (sweepN (livN Q.inp.toNat (lastI Q) (rdsN Q.inp Q.ss) k) (cmpS Q v.lanes k) (Q.inp.toNat + Q.ss.length)) (m : Int)).at_ y.r (lastN (sweepN (livN Q.inp.toNat (lastI Q) (rdsN Q.inp Q.ss) k) (cmpS Q v.lanes k) (Q.inp.toNat + Q.ss.length))) (grpsN Q.w Q.h v.lanes).toNat⟩ : CmN) = cmpS Q v.lanes (k + 1) := by
   rw [cmpS]
   unfold rndC
   simp only [hm, hy]
   rfl
  change CmAt B W' (cmPof Q v a Q.ss.length c) bc bm (Q.inp.toNat + k + 1) (Q.inp.toNat + Q.ss.length) (⟨_, _, _⟩ : CmN) fv' cv' l' at hcm
  have hnc := congrArg CmN.code hnx
  simp only at hnc
  have hcm' : CmAt B W' (cmPof Q v a Q.ss.length c) bc bm (Q.inp.toNat + (k + 1)) (Q.inp.toNat + Q.ss.length) (cmpS Q v.lanes (k + 1)) fv' cv' l' := by rw [← hnx]; exact hcm
  refine ⟨h1, fun b => CmS bc bm (cmpS Q v.lanes (k + 1)).code.length fv' cv' l' b ∨ b = bp ∨ b = bx, ⟨fv', cv', l', ⟨hcm', hkp, hkx, fun b => Iff.rfl, h.lo⟩⟩, hT.mono (fun b _ hb => hS0 b hb), fun b hb => ?_⟩
  rcases hb with hb | rfl | rfl
  ·rw [← hnc] at hb
   rcases hsub b hb with h2 | h2
   ·exact .inl (hS0 b h2)
   ·exact .inr h2
  ·exact .inl ((h.hs b).2 (.inr (.inl rfl)))
  ·exact .inl ((h.hs b).2 (.inr (.inr rfl)))
end Go.Proofs.YtekiemlniegddaaGreat
namespace Go.Proofs.YtekiemlniegddaaGreat
open Go Go.Maps Go.RowKit Go.Shelf
def cmpE (Q : PipeN) (v : VecN) : Int := if pipeB Q = true then (if vecB v = true then (if v.mem < roomP Q then 9 else 0) else 31) else 30
def cmpR (Q : PipeN) (v : VecN) : CodeN := if cmpE Q v = 0 then cmpC Q v else ⟨0, 0, [], 0, []⟩
def RetCo (B : Nat) (R : CodeN) (E : Int) (w : World) : Ending → World → Prop := fun e w' => ∃ ia ic xa xc, e = .returned (.tuple #[codev R ia ic xa xc, .int .i64 E]) ∧ Rd w'.heap.size w' ia R.inp ∧ RdCs w'.heap.size w' xa R.ins ∧ Below B w w'
abbrev put5 (W : World) (B : Nat) (x0 x1 x2 x3 x4 : Value) : World := ((((W.setCell ⟨B, 0, none⟩ x0).setCell ⟨B, 1, none⟩ x1).setCell ⟨B, 2, none⟩ x2).setCell ⟨B, 3, none⟩ x3).setCell ⟨B, 4, none⟩ x4
theorem put5_blk {W : World} {B : Nat} {t : TypeId} {a b c d e : Value} (k : Blk W B t #[a, b, c, d, e]) (x0 x1 x2 x3 x4 : Value) : Blk (put5 W B x0 x1 x2 x3 x4) B t #[x0, x1, x2, x3, x4] := by
 have h := ((((k.set 0 x0).set 1 x1).set 2 x2).set 3 x3).set 4 x4
 simpa using h
theorem put5_trn (W : World) (B : Nat) (x0 x1 x2 x3 x4 : Value) : Trn (fun b => b = B) W (put5 W B x0 x1 x2 x3 x4) := by
 have k := fun (W : World) (i : Nat) (v : Value) => setCell_trn W ⟨B, i, none⟩ v (fun b => b = B) rfl
 exact ((((k W 0 x0).trans (k _ 1 x1)).trans (k _ 2 x2)).trans (k _ 3 x3)).trans (k _ 4 x4)
section
variable {B : Nat} {W W' : World} {P : CmP} {bc bm km M : Nat} {C : CmN} {fv cv : Value} {l : Nat → InsA}
/-- The code can be read. -/
theorem CmAt.rdcs (h : CmAt B W P bc bm km M C fv cv l) : ∃ xa xc, cv = .slice xa C.code.length xc ∧ RdCs W.heap.size W xa C.code := by
 have hr := h.code
 rcases hr.2 with ⟨h1, h2⟩ | ⟨g, cap, cur, h1, hB, hg, _⟩
 ·exact ⟨none, 0, by rw [h1, h2], .inl (List.length_eq_zero_iff.1 h2)⟩
 ·subst h1
  refine ⟨some ⟨g, 0, none⟩, cap, rfl, .inr ⟨g, 0, rfl, (hr.lt g rfl).2, fun i hi => ?_⟩⟩
  obtain ⟨e1, e2, _⟩ := h.ads i hi
  refine ⟨(l i).a, (l i).c, ⟨fun j v hv => ?_, ?_⟩⟩
  ·rw [← e1] at hv
   have hj : j < 12 := by
    rcases Nat.lt_or_ge j 12 with h3 | h3
    ·exact h3
    ·rw [List.getElem?_eq_none (by rw [insCells_len]; exact h3)] at hv; cases hv
   have := row_cellAt hr (i * 12 + j) (flat_at (fun q j => insCell (l q) j) hi hj)
   rw [show 0 + i * 12 + j = i * 12 + j by omega, this]
   rw [insCells_at (l i) hj] at hv
   exact hv
  ·rw [← e1]
   rcases e2 with ⟨_, _, h3⟩ | ⟨b, h3, h4⟩
   ·exact .inl h3
   ·rw [h3]; exact rowI_rd rfl h4
end
theorem vec_ne_cmp : (26 : TypeId) ≠ 103 := by decide
theorem vec_ne_ins : (26 : TypeId) ≠ 143 := by decide
theorem vec_ne_int : (26 : TypeId) ≠ 3 := by decide
theorem cod_ne_cmp : (43 : TypeId) ≠ 103 := by decide
theorem cod_ne_ins : (43 : TypeId) ≠ 143 := by decide
theorem cod_ne_int : (43 : TypeId) ≠ 3 := by decide
/-- The compiler, the boxes of 'Compile' and the pointer that is captured. -/
structure CoAt (B : Nat) (w0 W : World) (P : CmP) (bc bm km M : Nat) (C : CmN) (bp bv br bx : Nat) (fv cv : Value) (l : Nat → InsA) : Prop where
 cm : CmAt B W P bc bm km M C fv cv l
 kp : Blk W bp 24 #[.int .i64 P.w, .int .i64 P.h, .int .i64 P.I, .slice P.a P.n P.c]
 kv : Blk W bv 26 #[.int .i64 P.vl, .int .i64 P.vr, .int .i64 P.vm]
 kr : Blk W br 43 #[.int .i64 0, .int .i64 0, .slice none 0 0, .int .i64 0, .slice none 0 0]
 kx : Blk W bx 100 #[.pointer (some ⟨bc, 0, none⟩)]
 hb : Below B w0 W
 le : B ≤ w0.heap.size
section
variable {B : Nat} {w0 W W' : World} {P : CmP} {bc bm km M : Nat} {C : CmN} {bp bv br bx : Nat} {fv cv : Value} {l : Nat → InsA}
theorem CoAt.below (h : CoAt B w0 W P bc bm km M C bp bv br bx fv cv l) (hb : Below W.heap.size W W') : CoAt B w0 W' P bc bm km M C bp bv br bx fv cv l :=
 ⟨h.cm.below hb, h.kp.below hb h.kp.lt, h.kv.below hb h.kv.lt, h.kr.below hb h.kr.lt, h.kx.below hb h.kx.lt, h.hb.trans (hb.mono (Nat.le_trans h.le h.hb.size)), h.le⟩
theorem CoAt.step (h : CoAt B w0 W P bc bm km M C bp bv br bx fv cv l) {km' : Nat} {C' : CmN} {fv' cv' : Value} {l' : Nat → InsA} (hcm : CmAt B W' P bc bm km' M C' fv' cv' l') (hT : Trn (CmS bc bm C.code.length fv cv l) W W') : CoAt B w0 W' P bc bm km' M C' bp bv br bx fv' cv' l' :=
 ⟨hcm, hT.blk h.kp (h.cm.not_blk h.kp pip_ne_cmp pip_ne_ins pip_ne_int), hT.blk h.kv (h.cm.not_blk h.kv vec_ne_cmp vec_ne_ins vec_ne_int), hT.blk h.kr (h.cm.not_blk h.kr cod_ne_cmp cod_ne_ins cod_ne_int), hT.blk h.kx (h.cm.not_blk h.kx ptr_ne_cmp ptr_ne_ins ptr_ne_int),
  h.hb.trans (hT.below (Nat.le_trans h.le h.hb.size) (fun b hb hs => by have := (h.cm.own b hs).1; omega)), h.le⟩
/-- Blocks that are none of the compiler's and none of the boxes' turn. -/
theorem CoAt.other (h : CoAt B w0 W P bc bm km M C bp bv br bx fv cv l) {S : Nat → Prop} (hT : Trn S W W') (h1 : ∀ b, S b → ¬ CmS bc bm C.code.length fv cv l b) (h2 : ∀ b, S b → b ≠ bp ∧ b ≠ bv ∧ b ≠ br ∧ b ≠ bx) (h3 : ∀ b, S b → B ≤ b) : CoAt B w0 W' P bc bm km M C bp bv br bx fv cv l :=
 ⟨h.cm.frame (hT.mono (fun b _ hs => h1 b hs)), hT.blk h.kp (fun hs => (h2 _ hs).1 rfl), hT.blk h.kv (fun hs => (h2 _ hs).2.1 rfl), hT.blk h.kr (fun hs => (h2 _ hs).2.2.1 rfl), hT.blk h.kx (fun hs => (h2 _ hs).2.2.2 rfl),
  h.hb.trans (hT.below (Nat.le_trans h.le h.hb.size) (fun b hb hs => by have := h3 b hs; omega)), h.le⟩
theorem CoAt.freeing (h : CoAt B w0 W P bc bm km M C bp bv br bx fv cv l) {v : Int} {fv' : Value} (hrow : W'.ownsRow B 3 1 fv' (C.free.length + 1) (C.free.map (Value.int .i64) ++ [.int .i64 v])) (hg : W.grownBy W' fv.ownBlock) (hnew : fv'.ownBlock = fv.ownBlock ∨ ∃ b, fv'.ownBlock = some b ∧ W.heap.size ≤ b) :
  CoAt B w0 (W'.setCell ⟨bc, 8, none⟩ fv') P bc bm km M ⟨C.at_, C.free ++ [v], C.code⟩ bp bv br bx fv' cv l := by
 obtain ⟨h1, h2⟩ := h.cm.freeing hrow hg hnew
 exact h.step h1 (h2.mono (fun b _ hb => hb.elim (fun e => .inl e) (fun e => .inr (.inr (.inl e)))))
end
theorem blk_ne {W : World} {b c : Nat} {t u : TypeId} {cs ds : Array Value} (h : Blk W b t cs) (k : Blk W c u ds) (hne : t ≠ u) : b ≠ c := fun e => by
 subst e
 have h1 : W.heap[b]? = _ := h
 rw [show W.heap[b]? = _ from k] at h1
 injection h1 with h1; injection h1 with _ h1 _; exact hne h1.symm
theorem CmAt.km {B : Nat} {W : World} {P : CmP} {bc bm km km' M : Nat} {C : CmN} {fv cv : Value} {l : Nat → InsA} (h : CmAt B W P bc bm km M C fv cv l) (hk : km ≤ km') : CmAt B W P bc bm km' M C fv cv l := ⟨h.c, h.at_.mono hk, h.free, h.code, h.ads, h.lo⟩
theorem CoAt.km {B : Nat} {w0 W : World} {P : CmP} {bc bm km km' M : Nat} {C : CmN} {bp bv br bx : Nat} {fv cv : Value} {l : Nat → InsA} (h : CoAt B w0 W P bc bm km M C bp bv br bx fv cv l) (hk : km ≤ km') : CoAt B w0 W P bc bm km' M C bp bv br bx fv cv l := ⟨h.cm.km hk, h.kp, h.kv, h.kr, h.kx, h.hb, h.le⟩
theorem inpN_code (left : FnL) (C : CmN) : ∀ k, (inpN left C k).c.code = C.code
 | 0 => rfl
 | k + 1 => by
  rw [inpN]
  split
  ·exact inpN_code left C k
  ·exact inpN_code left C k
/-- The first free places. -/
theorem freeN_len (n : Int) : ∀ k, (freeN n k).length = k
 | 0 => rfl
 | k + 1 => by rw [freeN, List.length_cons, freeN_len n k]
theorem freeN_at (n : Int) : ∀ (k j : Nat), j < k → (freeN n k)[j]? = some (((k : Int) - 1 - j) * n)
 | k + 1, 0, _ => by rw [freeN]; simp
 | k + 1, j + 1, h => by
  rw [freeN, List.getElem?_cons_succ, freeN_at n k j (by omega)]
  congr 2
  push_cast; omega
theorem freeN_take (n : Int) {k j : Nat} (h : j < k) : (freeN n k).take (j + 1) = (freeN n k).take j ++ [((k : Int) - 1 - j) * n] := by
 have hl := freeN_len n k
 rw [List.take_succ_eq_append_getElem (by omega)]
 have := freeN_at n k j h
 rw [List.getElem?_eq_getElem (by omega)] at this
 injection this with this
 rw [this]
/-- The compiler while the given images are placed: the code's box and its row of addresses, the map of what is left. -/
structure CiAt (B : Nat) (w0 W : World) (P : CmP) (bc bm km M : Nat) (C : CmN) (bp bv br bx bo bL : Nat) (F0 : FnL) (fv iv : Value) (l : Nat → InsA) (k : Nat) (inp : List Int) : Prop where
 co : CoAt B w0 W P bc bm km M C bp bv br bx fv (.slice none 0 0) l
 ko : Blk W bo 43 #[.int .i64 P.w, .int .i64 P.h, iv, .int .i64 0, .slice none 0 0]
 ir : W.ownsRow B 3 1 iv k (inp.map (Value.int .i64))
 dis : ∀ b, iv.ownBlock = some b → ¬ CmS bc bm C.code.length fv (.slice none 0 0) l b
 lm : OwnF Tryz.prog 3 3 W bL 40 F0 M
 ne : br < bo ∧ bL ≠ bm ∧ B ≤ bo
section
variable {B : Nat} {w0 W W' : World} {P : CmP} {bc bm km M : Nat} {C : CmN} {bp bv br bx bo bL : Nat} {F0 : FnL} {fv iv : Value} {l : Nat → InsA} {k : Nat} {inp : List Int}
theorem CiAt.below (h : CiAt B w0 W P bc bm km M C bp bv br bx bo bL F0 fv iv l k inp) (hb : Below W.heap.size W W') : CiAt B w0 W' P bc bm km M C bp bv br bx bo bL F0 fv iv l k inp :=
 ⟨h.co.below hb, h.ko.below hb h.ko.lt, row_below h.ir hb, h.dis, h.lm.below hb, h.ne⟩
theorem CiAt.more (h : CiAt B w0 W P bc bm km M C bp bv br bx bo bL F0 fv iv l k inp) {km' : Nat} (hk : km ≤ km') : CiAt B w0 W P bc bm km' M C bp bv br bx bo bL F0 fv iv l k inp := ⟨h.co.km hk, h.ko, h.ir, h.dis, h.lm, h.ne⟩
theorem CiAt.push (h : CiAt B w0 W P bc bm km M C bp bv br bx bo bL F0 fv iv l k inp) {x : Int} {iv' : Value} (hrow : W'.ownsRow B 3 1 iv' (k + 1) (inp.map (Value.int .i64) ++ [.int .i64 x])) (hg : W.grownBy W' iv.ownBlock) (hat : iv'.ownBlock = iv.ownBlock ∨ ∃ b, iv'.ownBlock = some b ∧ W.heap.size ≤ b) :
  CiAt B w0 (W'.setCell ⟨bo, 2, none⟩ iv') P bc bm km M C bp bv br bx bo bL F0 fv iv' l (k + 1) (inp ++ [x]) ∧ Blk W' bo 43 #[.int .i64 P.w, .int .i64 P.h, iv, .int .i64 0, .slice none 0 0] := by
 have k1 := grown_trn hg (fun b => iv.ownBlock = some b) (fun b e => e)
 have k2 := setCell_trn W' ⟨bo, 2, none⟩ iv' (fun b => b = bo) rfl
 have hko := k1.blk h.ko (fun e => h.ko.not_row cod_ne_int h.ir e.symm)
 have hT : Trn (fun b => iv.ownBlock = some b ∨ b = bo) W (W'.setCell ⟨bo, 2, none⟩ iv') := (k1.mono (fun b _ e => .inl e)).trans (k2.mono (fun b _ e => .inr e))
 refine ⟨⟨h.co.other hT ?_ ?_ ?_, hko.set 2 iv', ?_, ?_, ?_, h.ne⟩, hko⟩
 ·rintro b (e | rfl)
  ·exact h.dis b e
  ·exact h.co.cm.not_blk h.ko cod_ne_cmp cod_ne_ins cod_ne_int
 ·rintro b (e | rfl)
  ·exact ⟨fun h2 => by subst h2; exact h.co.kp.not_row pip_ne_int h.ir e.symm, fun h2 => by subst h2; exact h.co.kv.not_row vec_ne_int h.ir e.symm, fun h2 => by subst h2; exact h.co.kr.not_row cod_ne_int h.ir e.symm, fun h2 => by subst h2; exact h.co.kx.not_row ptr_ne_int h.ir e.symm⟩
  ·have := h.ne.1
   exact ⟨blk_ne h.ko h.co.kp (by decide), blk_ne h.ko h.co.kv (by decide), by omega, blk_ne h.ko h.co.kx (by decide)⟩
 ·rintro b (e | rfl)
  ·exact (h.ir.lt b e).1
  ·exact h.ne.2.2
 ·have hr2 := k2.row hrow (fun b hb e => by subst e; exact hko.not_row cod_ne_int hrow hb.symm)
  rw [List.map_append]; exact hr2
 ·intro b hb
  rcases hat with e | ⟨b', e, hb'⟩
  ·exact h.dis b (e ▸ hb)
  ·rw [e] at hb
   injection hb with hb; subst hb
   intro hc
   have := (h.co.cm.own _ hc).2
   omega
 ·exact (h.lm.trn k1 (h.lm.not_row h.ir)).trn k2 (fun e => h.lm.not_cells h.ko e.symm)
theorem CiAt.place (h : CiAt B w0 W P bc bm km M C bp bv br bx bo bL F0 fv iv l k inp) {m : Int} {fv' : Value} (hcm : CmAt B W' P bc bm (km + 1) M (placeN C m) fv' (.slice none 0 0) l) (hT : Trn (fun b => b = bc ∨ b = bm) W W') (hfv : fv'.ownBlock = fv.ownBlock) :
  CiAt B w0 W' P bc bm (km + 1) M (placeN C m) bp bv br bx bo bL F0 fv' iv l k inp := by
 refine ⟨h.co.step hcm (hT.mono (fun b _ hb => hb.elim (fun e => .inl e) (fun e => .inr (.inl e)))), hT.blk h.ko ?_, hT.row h.ir ?_, fun b hb hc => h.dis b hb ?_, h.lm.trn hT ?_, h.ne⟩
 ·rintro (e | e)
  ·exact blk_ne h.ko h.co.cm.c cod_ne_cmp e
  ·exact h.co.cm.at_.not_cells h.ko e
 ·rintro b hb (e | e)
  ·subst e; exact h.co.cm.c.not_row int_ne_cmp h.ir hb.symm
  ·subst e; exact h.co.cm.at_.not_row h.ir hb
 ·rcases hc with e | e | e | e | e
  ·exact .inl e
  ·exact .inr (.inl e)
  ·exact .inr (.inr (.inl (hfv ▸ e)))
  ·exact .inr (.inr (.inr (.inl e)))
  ·exact .inr (.inr (.inr (.inr e)))
 ·rintro (e | e)
  ·exact h.lm.not_cells h.co.cm.c e.symm
  ·exact h.ne.2.1 e
end
end Go.Proofs.YtekiemlniegddaaGreat

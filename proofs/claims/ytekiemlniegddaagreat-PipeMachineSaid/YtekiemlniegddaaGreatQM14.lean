/- Contracts and laws (PPc, PLd, PHd, PHe, PRd, PSw). -/
import Derived.Test.YtekiemlniegddaaGreatQM13
import Derived.Test.YtekiemlniegddaaGreatQM5
import Derived.Test.YtekiemlniegddaaGreatQM10
set_option linter.unusedVariables false
set_option linter.unusedSimpArgs false
namespace Go.Proofs.YtekiemlniegddaaGreat
open Go Go.Maps Go.RowKit Go.Shelf
theorem row_shrink {W : World} {base : Nat} {e : TypeId} {g n c k : Nat} {xs : List Value} (h : W.ownsRow base e 1 (.slice (some ⟨g, 0, none⟩) n c) n xs) (hk : k ≤ n) : W.ownsRow base e 1 (.slice (some ⟨g, 0, none⟩) k c) k (xs.take k) := by
 refine ⟨by rw [List.length_take, h.1]; omega, ?_⟩
 rcases h.2 with ⟨h0, _⟩ | ⟨g', cap, cur, h0, h1, h2, h3, h4, h5, h6⟩
 ·cases h0
 ·simp only [Value.slice.injEq, Option.some.injEq, Addr.mk.injEq, and_true, true_and] at h0
  obtain ⟨rfl, rfl⟩ := h0
  refine .inr ⟨g, c, cur, rfl, h1, h2, by omega, h4, h5, ?_⟩
  rw [← h6, List.take_take]
  congr 1; omega
theorem CmAt.place {B : Nat} {W W' : World} {P : CmP} {bc bm km km' M g k cap : Nat} {C : CmN} {cv : Value} {l : Nat → InsA} {F' : FnL} (h : CmAt B W P bc bm km M C (.slice (some ⟨g, 0, none⟩) (k + 1) cap) cv l) (hk : C.free.length = k + 1) (hF : OwnF Tryz.prog 3 3 W' bm km' F' M) (hg : W.grownBy W' (some bm)) :
  CmAt B (W'.setCell ⟨bc, 8, none⟩ (.slice (some ⟨g, 0, none⟩) k cap)) P bc bm km' M ⟨F', C.free.take k, C.code⟩ (.slice (some ⟨g, 0, none⟩) k cap) cv l ∧ Trn (fun b => b = bc ∨ b = bm) W (W'.setCell ⟨bc, 8, none⟩ (.slice (some ⟨g, 0, none⟩) k cap)) := by
 have k1 := grown_trn hg (fun b => b = bm) (fun b e => by injection e with e; exact e.symm)
 have k2 := setCell_trn W' ⟨bc, 8, none⟩ (.slice (some ⟨g, 0, none⟩) k cap) (fun b => b = bc) rfl
 have hcb := h.at_.not_cells h.c
 have hc1 := k1.blk h.c hcb
 have hfree := h.free
 rw [hk] at hfree
 have hf1 := k1.row hfree (fun b hb e => by subst e; exact h.at_.not_row hfree hb)
 have hf2 := k2.row hf1 (fun b hb e => by subst e; exact h.c.not_row int_ne_cmp hfree hb.symm)
 have hd1 := k1.row h.code (fun b hb e => by subst e; exact h.at_.not_row h.code hb)
 have hd2 := k2.row hd1 (fun b hb e => by subst e; exact h.c.not_row ins_ne_cmp h.code hb.symm)
 refine ⟨{ c := hc1.set 8 _, at_ := hF.trn k2 (fun e => hcb e.symm), free := ?_, code := hd2, ads := fun q hq => ?_, lo := h.lo }, (k1.mono (fun b _ e => .inr e)).trans (k2.mono (fun b _ e => .inl e))⟩
 ·have := row_shrink hf2 (k := k) (by omega)
  rw [← List.map_take] at this
  rw [show (C.free.take k).length = k by rw [List.length_take]; omega]
  exact this
 ·obtain ⟨h1, h2, h3⟩ := h.ads q hq
  refine ⟨h1, (h2.trn k1 (fun b hb e => ?_)).trn k2 (fun b hb e => ?_), h3⟩
  ·obtain ⟨_, _, _, cur, hcur⟩ := h2.blk hb
   exact h.at_.not_cells hcur e
  ·obtain ⟨_, _, _, cur, hcur⟩ := h2.blk hb
   subst e
   have := h.c
   unfold Blk at this
   rw [hcur] at this; injection this with this; injection this with _ this _; exact int_ne_cmp this.symm
set_option maxRecDepth 100000 in
set_option maxHeartbeats 4000000 in
theorem place_any (B : Nat) (w : World) (P : CmP) (bc bm km M : Nat) (C : CmN) (fv cv : Value) (l : Nat → InsA) (hcm : CmAt B w P bc bm km M C fv cv l) (k : Nat) (hk : C.free.length = k + 1) (hk1 : k ≤ 1000) (m : Nat) (hm : m < M) (hM : M < 100) (hkm : km < 100) (hvb : 0 ≤ lastN C ∧ lastN C ≤ 100000) :
  Calls Tryz.prog 52 #[.pointer (some ⟨bc, 0, none⟩), .int .i64 (m : Int)] w fun e w' => e = .returned (.int .i64 (lastN C)) ∧ ∃ fv', CmAt B w' P bc bm (km + 1) M (placeN C (m : Int)) fv' cv l ∧ Trn (fun b => b = bc ∨ b = bm) w w' ∧ fv'.ownBlock = fv.ownBlock := by
 obtain ⟨g, cap, hfv⟩ : ∃ g cap, fv = .slice (some ⟨g, 0, none⟩) (k + 1) cap := by
  have h := hcm.free
  rw [hk] at h
  rcases h.2 with ⟨_, h0⟩ | ⟨g, cap, cur, h0, _⟩
  ·omega
  ·exact ⟨g, cap, h0⟩
 subst hfv
 have hB : Below w.heap.size w w := Below.refl _ _
 have hBw : B ≤ w.heap.size := by have := hcm.lo; have := hcm.c.lt; omega
 have hrow := hcm.free
 rw [hk] at hrow
 have hlast : lastN C = C.free[k]?.getD 0 := by unfold lastN; rw [hk]; rfl
 have hkl : k < C.free.length := by omega
 have hcl : w.cell? ⟨g, k, none⟩ = some (.int .i64 (lastN C)) := row_cellAt hrow k (by rw [hlast, List.getElem?_map, List.getElem?_eq_getElem hkl]; rfl)
 clear hkl
 obtain ⟨v, hv⟩ : ∃ v, lastN C = v := ⟨_, rfl⟩
 rw [hv] at hcl hvb ⊢
 have hpl : placeN C (m : Int) = ⟨putF C.at_ (m : Int) (ilit v), C.free.take k, C.code⟩ := by unfold placeN; rw [hv, hk]; rfl
 have hplH := Lib.hid hpl
 rw [hpl]
 have hkH := Lib.hid hk
 clear hv hlast hpl hrow
 have y8 := hcm.c.cell (i := 8) rfl
 go_enter Tryz.func52, Tryz.ntmps52
 go_wp2_with fail
 have hcm2 := hcm.below (Below.refl _ w).drew
 have hS : Blk w.drew bc 103 (cmC P bm (.slice (some ⟨g, 0, none⟩) (k + 1) cap) cv) ∧ w.drew.cell? ⟨g, k, none⟩ = some (.int .i64 v) := ⟨hcm2.c, hcl⟩
 have hB2 := hB.drew
 clear y8 hcl hcm hB
 refine plain_region (fun W' => Blk W' bc 103 (cmC P bm (.slice (some ⟨g, 0, none⟩) (k + 1) cap) cv) ∧ W'.cell? ⟨g, k, none⟩ = some (.int .i64 v)) 12 13 (by kernel_rfl) rfl ?_
 simp only [Array.replicate_succ, Array.replicate_zero, List.push_toArray, List.nil_append, List.cons_append]
 obtain ⟨X0, hXX0⟩ : ∃ X : World, w.drew = X := ⟨_, rfl⟩
 rw [hXX0] at hS hcm2 hB2 ⊢
 clear hXX0
 have FA0 := Lib.hid (fun w' (hS' : (fun W' => Blk W' bc 103 (cmC P bm (.slice (some ⟨g, 0, none⟩) (k + 1) cap) cv) ∧ W'.cell? ⟨g, k, none⟩ = some (.int .i64 v)) w') => And.intro (hS'.1.cell (i := 7) rfl) (And.intro (hS'.1.cell (i := 8) rfl) (hS'.2)))
 refine tkz 0 rfl hS (fun w' hS' => by go_simp; rfl) ?_
 simp only [nrz]
 refine tkz 1 rfl hS (fun w' hS' => by go_simp; rfl) ?_
 simp only [nrz]
 refine tkz 2 rfl hS (fun w' hS' => by go_simp; rfl) ?_
 simp only [nrz]
 refine tkz 3 rfl hS (fun w' hS' => by obtain ⟨y7, y8, yc⟩ := FA0.out w' hS'; clear hS'; go_simp; rfl) ?_
 simp only [nrz]
 refine tkz 4 rfl hS (fun w' hS' => by go_simp; rfl) ?_
 simp only [nrz]
 refine tkz 5 rfl hS (fun w' hS' => by go_simp; rfl) ?_
 simp only [nrz]
 refine tkz 6 rfl hS (fun w' hS' => by go_simp; rfl) ?_
 simp only [nrz]
 refine tkz 7 rfl hS (fun w' hS' => by go_simp; rfl) ?_
 simp only [nrz]
 refine tkz 8 rfl hS (fun w' hS' => by obtain ⟨y7, y8, yc⟩ := FA0.out w' hS'; clear hS'; go_simp; rfl) ?_
 simp only [nrz]
 refine tkz 9 rfl hS (fun w' hS' => by go_simp; rfl) ?_
 simp only [nrz]
 refine tkz 10 (v := ?av10) rfl hS (fun w' hS' => ?ay10) ?az10
 case ay10 =>
  go_simp
  try go_ints
  first
  | rfl
  | (rw [if_pos (by omega)]; done)
  | rw [if_pos ⟨by omega, by omega⟩]
 simp only [nrz]
 refine tkz 11 rfl hS (fun w' hS' => by obtain ⟨y7, y8, yc⟩ := FA0.out w' hS'; clear hS'; go_simp; rfl) ?_
 simp only [nrz]
 refine step_op 12 (by kernel_rfl) rfl (fun K hK => ?_)
 obtain ⟨X1, hput, hat1, hg1⟩ := hcm2.at_.run_put Tryz.underlying3 Tryz.underlying101 hkm (m : Int) (by omega) hM (.int .i64 v) _ (plainElem_int Tryz.underlying3 (wf_num ⟨by omega, by omega⟩))
 rw [if_pos (by rfl)]
 go_simp
 clear hput
 refine hK.out _ _ (fun h => absurd h (by omega)) ?_
 clear hK K
 try simp only [Act.put, nrz]
 refine done_ops (by kernel_rfl) ?_
 obtain ⟨hcm3, ht3⟩ := hcm2.place hkH.out hat1 hg1
 have kc1 := hcm2.c.kept hg1 (fun e => hcm2.at_.not_cells hcm2.c (by injection e))
 have y8 := kc1.cell (i := 8) rfl
 have f8 := kc1.frozen 8
 obtain ⟨X2, hX2⟩ : ∃ X, X1.setCell ⟨bc, 8, none⟩ (.slice (some ⟨g, 0, none⟩) k cap) = X := ⟨_, rfl⟩
 rw [hX2] at hcm3 ht3
 have z7 := hcm3.c.cell (i := 7) rfl
 have hlk := hcm3.at_.run_look Tryz.underlying3 Tryz.underlying101 Tryz.underlying3 (zero_num _) (m : Int) (wf_num ⟨by omega, by omega⟩)
 dsimp only at hlk
 rw [putF_same, numF_lit] at hlk
 have hcap : k ≤ cap := by
  have h := hcm3.free
  rcases h.2 with ⟨h0, _⟩ | ⟨g', c', cur, h0, _, _, h1, _⟩
  ·cases h0
  ·injection h0 with _ h2 h3
   have h4 := hkH.out
   simp only [List.length_take] at h1 h2
   omega
 have hkc : ¬ cap < k := by omega
 have hT : Trn (fun b => b = bc ∨ b = bm) w X2 := (Below.trn0 hB2 _).trans ht3
 clear hat1 hg1 ht3 hcm2 hS
 go_wp2_with fail
 go_ret
 exact ⟨rfl, _, hcm3, hT, rfl⟩
end Go.Proofs.YtekiemlniegddaaGreat
namespace Go.Proofs.YtekiemlniegddaaGreat
open Go Go.Maps Go.RowKit Go.Shelf
theorem adrN_len (w h : Int) (lanes g : Nat) (p dx dy bd : Int) : (adrN w h lanes g p dx dy bd).length = lanes := by simp [adrN]
theorem adrN_row (w h : Int) (lanes g : Nat) (p dx dy bd : Int) : (adrN w h lanes g p dx dy bd).map (Value.int .i64) = intL lanes (adrAt w h lanes g p dx dy bd) := by unfold adrN; exact intL_map _ _
theorem CmS.emit {bc bm n : Nat} {fv cv cv' : Value} {l : Nat → InsA} {y : InsA} {N : Nat} (hcv : cv'.ownBlock = cv.ownBlock ∨ ∃ b, cv'.ownBlock = some b ∧ N ≤ b) : ∀ b, CmS bc bm (n + 1) fv cv' (fun q => if q = n then y else l q) b → CmS bc bm n fv cv l b ∨ N ≤ b ∨ AdBlk y b := by
 rintro b (h | h | h | h | ⟨q, hq, h⟩)
 ·exact .inl (.inl h)
 ·exact .inl (.inr (.inl h))
 ·exact .inl (.inr (.inr (.inl h)))
 ·rcases hcv with e | ⟨b', e, hb⟩
  ·exact .inl (.inr (.inr (.inr (.inl (by rw [← e]; exact h)))))
  ·rw [e] at h; injection h with h; subst h; exact .inr (.inl hb)
 ·by_cases e : q = n
  ·simp only [e, if_true] at h; exact .inr (.inr h)
  ·simp only [if_neg e] at h; exact .inl (.inr (.inr (.inr (.inr ⟨q, by omega, h⟩))))
set_option maxRecDepth 100000 in
set_option maxHeartbeats 8000000 in
theorem load_any (B : Nat) (w : World) (P : CmP) (bc bm km M : Nat) (C : CmN) (fv cv : Value) (l : Nat → InsA) (hcm : CmAt B w P bc bm km M C fv cv l) (hlen : C.code.length ≤ 1000000) (L : Nat) (hvl : P.vl = (L : Int)) (hw : 1 ≤ P.w ∧ P.w ≤ 16) (hh : 1 ≤ P.h ∧ P.h ≤ 16) (hL : 1 ≤ L ∧ L ≤ 16) (gr : Nat) (hgr : gr ≤ 256) (bp bg : Nat) (kp : Blk w bp 100 #[.pointer (some ⟨bc, 0, none⟩)]) (kg : Blk w bg 3 #[.int .i64 (gr : Int)])
  (d : Int) (m : Nat) (hm : m < M) (hM : M < 100) (dx dy val bd : Int) (hvb : 0 ≤ numF (C.at_ (m : Int)) ∧ numF (C.at_ (m : Int)) ≤ 100000) (hdx : -100 ≤ dx ∧ dx ≤ 100) (hdy : -100 ≤ dy ∧ dy ≤ 100) (hbd : 0 ≤ bd ∧ bd ≤ 255) :
  Calls Tryz.prog 147 #[.int .i64 d, .int .i64 (m : Int), .int .i64 dx, .int .i64 dy, .int .i64 val, .int .u8 bd, .pointer (some ⟨bp, 0, none⟩), .pointer (some ⟨bg, 0, none⟩)] w fun e w' => (∃ vv, e = .returned vv) ∧ ∃ cv' l', CmAt B w' P bc bm km M ⟨C.at_, C.free, C.code ++ [insL P.w P.h L gr d (numF (C.at_ (m : Int))) dx dy val bd]⟩ fv cv' l' ∧ Trn (fun b => b = bc ∨ cv.ownBlock = some b) w w' ∧ ∀ b, CmS bc bm (C.code.length + 1) fv cv' l' b → CmS bc bm C.code.length fv cv l b ∨ w.heap.size ≤ b := by
 have hB : Below w.heap.size w w := Below.refl _ _
 obtain ⟨v, hv⟩ : ∃ v, numF (C.at_ (m : Int)) = v := ⟨_, rfl⟩
 rw [hv] at hvb ⊢
 have hlk0 := fun W (hc : CmAt B W P bc bm km M C fv cv l) => hc.at_.run_look (t := 101) Tryz.underlying3 Tryz.underlying101 Tryz.underlying3 (zero_num _) (m : Int) (wf_num ⟨by omega, by omega⟩)
 rw [hv] at hlk0
 have hlkH := Lib.hid hlk0
 clear hv hlk0
 have had := fun W (kc : Blk W bc 103 (cmC P bm fv cv)) => addresses_any W bc bm P.w P.h P.I P.vr P.vm L P.a P.n P.c fv cv (by have h := kc; unfold cmC at h; rw [hvl] at h; exact h) hw hh hL gr hgr v dx dy bd hvb hdx hdy hbd
 have hadH := Lib.hid had
 have hbp := kp.lt
 have hbg := kg.lt
 clear had
 go_enter Tryz.func147, Tryz.ntmps147
 have hcm2 := hcm.below (Below.refl _ w).drew
 have hB2 := hB.drew
 have hS : Blk w.drew bp 100 #[.pointer (some ⟨bc, 0, none⟩)] ∧ Blk w.drew bg 3 #[.int .i64 (gr : Int)] ∧ ∃ cx, Blk w.drew bc 103 (cmC P bm fv cx) := ⟨kp.below (Below.refl _ w).drew kp.lt, kg.below (Below.refl _ w).drew kg.lt, cv, hcm2.c⟩
 clear hcm hB kp kg
 go_wp2_with fail
 refine plain_region (fun W' => Blk W' bp 100 #[.pointer (some ⟨bc, 0, none⟩)] ∧ Blk W' bg 3 #[.int .i64 (gr : Int)] ∧ ∃ cx, Blk W' bc 103 (cmC P bm fv cx)) 17 17 (by kernel_rfl) rfl ?_
 simp only [Array.replicate_succ, Array.replicate_zero, List.push_toArray, List.nil_append, List.cons_append]
 obtain ⟨X0, hXX0⟩ : ∃ X : World, w.drew = X := ⟨_, rfl⟩
 rw [hXX0] at hS hcm2 hB2 ⊢
 clear hXX0
 refine tkz 0 (v := ?av0) rfl hS (fun w' hS' => ?ay0) ?az0
 case ay0 =>
  have y0 := hS'.1.cell (i := 0) rfl
  have y1 := hS'.2.1.cell (i := 0) rfl
  obtain ⟨_, _, cx, hcx⟩ := hS'
  have y7 := hcx.cell (i := 7) rfl
  clear hcx
  go_simp
  rfl
 simp only [nrz]
 refine tkz 1 rfl hS (fun w' hS' => by go_simp; rfl) ?_
 simp only [nrz]
 refine tkz 2 rfl hS (fun w' hS' => by go_simp; rfl) ?_
 simp only [nrz]
 refine tkz 3 (v := ?av3) rfl hS (fun w' hS' => ?ay3) ?az3
 case ay3 =>
  have y0 := hS'.1.cell (i := 0) rfl
  have y1 := hS'.2.1.cell (i := 0) rfl
  obtain ⟨_, _, cx, hcx⟩ := hS'
  have y7 := hcx.cell (i := 7) rfl
  clear hcx
  go_simp
  rfl
 simp only [nrz]
 refine tkz 4 (v := ?av4) rfl hS (fun w' hS' => ?ay4) ?az4
 case ay4 =>
  have y0 := hS'.1.cell (i := 0) rfl
  have y1 := hS'.2.1.cell (i := 0) rfl
  obtain ⟨_, _, cx, hcx⟩ := hS'
  have y7 := hcx.cell (i := 7) rfl
  clear hcx
  go_simp
  rfl
 simp only [nrz]
 refine tkz 5 (v := ?av5) rfl hS (fun w' hS' => ?ay5) ?az5
 case ay5 =>
  have y0 := hS'.1.cell (i := 0) rfl
  have y1 := hS'.2.1.cell (i := 0) rfl
  obtain ⟨_, _, cx, hcx⟩ := hS'
  have y7 := hcx.cell (i := 7) rfl
  clear hcx
  go_simp
  rfl
 simp only [nrz]
 refine tkz 6 rfl hS (fun w' hS' => by go_simp; rfl) ?_
 simp only [nrz]
 refine tkz 7 rfl hS (fun w' hS' => by go_simp; rfl) ?_
 simp only [nrz]
 refine tkz 8 (v := ?av8) rfl hS (fun w' hS' => ?ay8) ?az8
 case ay8 =>
  have y0 := hS'.1.cell (i := 0) rfl
  have y1 := hS'.2.1.cell (i := 0) rfl
  obtain ⟨_, _, cx, hcx⟩ := hS'
  have y7 := hcx.cell (i := 7) rfl
  clear hcx
  go_simp
  rfl
 simp only [nrz]
 refine tkz 9 rfl hS (fun w' hS' => by go_simp; rfl) ?_
 simp only [nrz]
 refine tkz 11 rfl hS (fun w' hS' => by go_simp; rfl) ?_
 simp only [nrz]
 refine tkz 12 rfl hS (fun w' hS' => by go_simp; rfl) ?_
 simp only [nrz]
 refine tkz 13 rfl hS (fun w' hS' => by go_simp; rfl) ?_
 simp only [nrz]
 refine step_op 10 (by kernel_rfl) rfl (fun K hK => ?_)
 have hlk := hlkH.out X0 hcm2
 rw [if_pos (by rfl)]
 go_simp
 clear hlk
 refine hK.out _ _ (fun h => hS) ?_
 clear hK K
 try simp only [Act.put, nrz]
 refine step_op 14 (by kernel_rfl) rfl (fun K hK => ?_)
 rw [if_pos (by rfl)]
 go_simp
 refine (hadH.out X0 hcm2.c).mono ?_
 rintro e X9 ⟨b, rfl, hrow, hb9⟩
 have hS9 : Blk X9 bp 100 #[.pointer (some ⟨bc, 0, none⟩)] ∧ Blk X9 bg 3 #[.int .i64 (gr : Int)] ∧ ∃ cx, Blk X9 bc 103 (cmC P bm fv cx) := ⟨hS.1.below hb9 hS.1.lt, hS.2.1.below hb9 hS.2.1.lt, cv, (hcm2.below hb9).c⟩
 have hcm9 := hcm2.below hb9
 have hBX : B ≤ X0.heap.size := by have := hcm2.lo; have := hcm2.c.lt; omega
 have hfl := hcm2.free.lt
 have hB9 := hB2.trans (hb9.mono hB2.size)
 have hrb := hrow.lt b rfl
 have hX0 := hB2.size
 rw [← adrN_row] at hrow
 clear hS hcm2
 refine hK.out _ _ (fun h => hS9) ?_
 clear hK K
 try simp only [Act.put, nrz]
 refine tkz 15 rfl hS9 (fun w' hS' => by go_simp; rfl) ?_
 simp only [nrz]
 refine step_op 16 (by kernel_rfl) rfl (fun K hK => ?_)
 have hem := emit_any B X9 P bc bm km M C fv cv l hcm9 hlen (insL P.w P.h L gr d v dx dy val bd) (some ⟨b, 0, none⟩) L (.inr ⟨b, rfl, by show X9.ownsRow B 3 1 (.slice (some ⟨b, 0, none⟩) (adrN P.w P.h L gr v dx dy bd).length L) (adrN P.w P.h L gr v dx dy bd).length _; rw [adrN_len]; exact jrow_weaken hrow hBX⟩) (fun b' hb' e => by obtain ⟨ad, h1, h2⟩ := hb'; cases h1; have h2' : b = b' := h2; subst h2'; have h3 : b < X0.heap.size := (hfl b e).2; have h4 : X0.heap.size ≤ b := hrb.1; omega)
 unfold insv at hem
 rw [show (insL P.w P.h L gr d v dx dy val bd).ad.length = L from adrN_len _ _ _ _ _ _ _ _] at hem
 rw [if_pos (by rfl)]
 go_simp
 refine hem.mono ?_
 rintro e X10 ⟨⟨vv, rfl⟩, cv', hcm10, hT10, hcv10⟩
 have hS10 : Blk X10 bp 100 #[.pointer (some ⟨bc, 0, none⟩)] ∧ Blk X10 bg 3 #[.int .i64 (gr : Int)] ∧ ∃ cx, Blk X10 bc 103 (cmC P bm fv cx) := ⟨hT10.blk hS9.1 (fun e => e.elim (fun e => by have h1 : X9.heap[bp]? = _ := hS9.1; rw [e, show X9.heap[bc]? = _ from hcm9.c] at h1; injection h1 with h1; injection h1 with _ h1 _; exact absurd h1 (by decide)) (fun e => hS9.1.not_row (by decide) hcm9.code e.symm)), hT10.blk hS9.2.1 (fun e => e.elim (fun e => by have h1 : X9.heap[bg]? = _ := hS9.2.1; rw [e, show X9.heap[bc]? = _ from hcm9.c] at h1; injection h1 with h1; injection h1 with _ h1 _; exact absurd h1 (by decide)) (fun e => hS9.2.1.not_row (by decide) hcm9.code e.symm)), cv', hcm10.c⟩
 refine hK.out _ _ (fun h => hS10) ?_
 clear hK K
 try simp only [Act.put, nrz]
 refine done_ops (by kernel_rfl) ?_
 go_wp2_with fail
 go_end0
 exact ⟨⟨_, rfl⟩, cv', _, hcm10, (Below.trn0 hB9 _).trans hT10, fun b' hb' => (CmS.emit (N := w.heap.size) (hcv10.elim .inl (fun h => .inr (by obtain ⟨b', h1, h2⟩ := h; exact ⟨b', h1, Nat.le_trans hB9.size h2⟩))) b' hb').elim .inl (fun h => .inr (h.elim id (fun h => by obtain ⟨ad, h1, h2⟩ := h; cases h1; have h2' : b = b' := h2; subst h2'; exact Nat.le_trans hX0 hrb.1)))⟩
end Go.Proofs.YtekiemlniegddaaGreat
namespace Go.Proofs.YtekiemlniegddaaGreat
open Go Go.Maps Go.RowKit Go.Shelf
theorem CmAt.apart {B : Nat} {W : World} {P : CmP} {bc bm km M : Nat} {C : CmN} {fv cv : Value} {l : Nat → InsA} (h : CmAt B W P bc bm km M C fv cv l) {b : Nat} {t : TypeId} {cs : Array Value} (hb : Blk W b t cs) (h1 : t ≠ 103) (h2 : t ≠ 143) : ¬ (b = bc ∨ cv.ownBlock = some b) := by
 rintro (e | e)
 ·subst e
  have h3 : W.heap[b]? = _ := h.c
  rw [show W.heap[b]? = _ from hb] at h3
  injection h3 with h3; injection h3 with _ h3 _; exact h1 h3
 ·exact hb.not_row h2 h.code e.symm
/-- The compiler, the captured cells, the step's box; S0, W0: the compiler's blocks and the world at the call. -/
structure HdAt (B : Nat) (S0 : Nat → Prop) (W0 W : World) (P : CmP) (bc bm km M : Nat) (C : CmN) (fv : Value) (bp bs bg gr : Nat) (sc : Array Value) (cv : Value) (l : Nat → InsA) : Prop where
 cm : CmAt B W P bc bm km M C fv cv l
 kp : Blk W bp 100 #[.pointer (some ⟨bc, 0, none⟩)]
 ks : Blk W bs 76 sc
 kg : Blk W bg 3 #[.int .i64 (gr : Int)]
 ht : Trn S0 W0 W
 sub : ∀ b, CmS bc bm C.code.length fv cv l b → S0 b ∨ W0.heap.size ≤ b
def Hd (B : Nat) (S0 : Nat → Prop) (W0 W : World) (P : CmP) (bc bm km M : Nat) (C : CmN) (fv : Value) (bp bs bg gr : Nat) (sc : Array Value) : Prop := ∃ cv l, HdAt B S0 W0 W P bc bm km M C fv bp bs bg gr sc cv l
theorem ptr_ne_cmp : (100 : TypeId) ≠ 103 := by decide
theorem ptr_ne_ins : (100 : TypeId) ≠ 143 := by decide
theorem st_ne_cmp : (76 : TypeId) ≠ 103 := by decide
theorem st_ne_ins : (76 : TypeId) ≠ 143 := by decide
theorem int_ne_cmp2 : (3 : TypeId) ≠ 103 := by decide
section
variable {B : Nat} {S0 : Nat → Prop} {W0 W W' : World} {P : CmP} {bc bm km M : Nat} {C : CmN} {fv : Value} {bp bs bg gr : Nat} {sc : Array Value}
theorem Hd.below (h : Hd B S0 W0 W P bc bm km M C fv bp bs bg gr sc) (hb : Below W.heap.size W W') : Hd B S0 W0 W' P bc bm km M C fv bp bs bg gr sc := by
 obtain ⟨cv, l, h⟩ := h
 exact ⟨cv, l, ⟨h.cm.below hb, h.kp.below hb h.kp.lt, h.ks.below hb h.ks.lt, h.kg.below hb h.kg.lt, h.ht.trans (Below.trn0 hb S0), h.sub⟩⟩
theorem HdAt.step {cv : Value} {l : Nat → InsA} (h : HdAt B S0 W0 W P bc bm km M C fv bp bs bg gr sc cv l) {C' : CmN} {cv' : Value} {l' : Nat → InsA} (hcm : CmAt B W' P bc bm km M C' fv cv' l') (hT : Trn (fun b => b = bc ∨ cv.ownBlock = some b) W W')
  (hsub : ∀ b, CmS bc bm C'.code.length fv cv' l' b → CmS bc bm C.code.length fv cv l b ∨ W.heap.size ≤ b) : Hd B S0 W0 W' P bc bm km M C' fv bp bs bg gr sc := by
 refine ⟨cv', l', ⟨hcm, hT.blk h.kp (h.cm.apart h.kp ptr_ne_cmp ptr_ne_ins), hT.blk h.ks (h.cm.apart h.ks st_ne_cmp st_ne_ins), hT.blk h.kg (h.cm.apart h.kg int_ne_cmp2 int_ne_ins), ?_, fun b hb => ?_⟩⟩
 ·exact h.ht.step hT (fun b hb => h.sub b (hb.elim (fun e => .inl e) (fun e => .inr (.inr (.inr (.inl e))))))
 ·rcases hsub b hb with h1 | h1
  ·exact h.sub b h1
  ·exact .inr (Nat.le_trans h.ht.size h1)
theorem Hd.scell (h : Hd B S0 W0 W P bc bm km M C fv bp bs bg gr sc) {j : Nat} {v : Value} (hv : sc[j]? = some v) : W.cell? ⟨bs, j, none⟩ = some v := by
 obtain ⟨cv, l, h⟩ := h
 exact h.ks.cell hv
theorem Hd.pcell (h : Hd B S0 W0 W P bc bm km M C fv bp bs bg gr sc) : W.cell? ⟨bp, 0, none⟩ = some (.pointer (some ⟨bc, 0, none⟩)) := by
 obtain ⟨cv, l, h⟩ := h
 exact h.kp.cell rfl
theorem Hd.low (h : Hd B S0 W0 W P bc bm km M C fv bp bs bg gr sc) (hB : B ≤ W0.heap.size) (hS : ∀ b, S0 b → B ≤ b) : Below B W0 W := by
 obtain ⟨cv, l, h⟩ := h
 exact h.ht.below hB (fun b hb hs => by have := hS b hs; omega)
theorem Hd.box (h : Hd B S0 W0 W P bc bm km M C fv bp bs bg gr sc) : Blk W bs 76 sc := by
 obtain ⟨cv, l, h⟩ := h
 exact h.ks
/-- An instruction without addresses is emitted. -/
theorem Hd.emit (h : Hd B S0 W0 W P bc bm km M C fv bp bs bg gr sc) (hlen : C.code.length ≤ 1000000) (x : InsN) (hx : x.ad = []) :
  Calls Tryz.prog 108 #[.pointer (some ⟨bc, 0, none⟩), insv x none 0] W fun e W' => (∃ vv, e = .returned vv) ∧ Hd B S0 W0 W' P bc bm km M ⟨C.at_, C.free, C.code ++ [x]⟩ fv bp bs bg gr sc := by
 obtain ⟨cv, l, h⟩ := h
 refine (emit_any B W P bc bm km M C fv cv l h.cm hlen x none 0 (.inl ⟨rfl, rfl, hx⟩) (fun b hb => by obtain ⟨ad, h1, _⟩ := hb; cases h1)).mono ?_
 rintro e W' ⟨h1, cv', hcm, hT, hcv⟩
 refine ⟨h1, h.step hcm hT (fun b hb => ?_)⟩
 rw [List.length_append, List.length_singleton] at hb
 rcases CmS.emit hcv b hb with h2 | h2 | h2
 ·exact .inl h2
 ·exact .inr h2
 ·obtain ⟨ad, h1, _⟩ := h2; cases h1
/-- A load is emitted. -/
theorem Hd.load (h : Hd B S0 W0 W P bc bm km M C fv bp bs bg gr sc) (hlen : C.code.length ≤ 1000000) (L : Nat) (hvl : P.vl = (L : Int)) (hw : 1 ≤ P.w ∧ P.w ≤ 16) (hh : 1 ≤ P.h ∧ P.h ≤ 16) (hL : 1 ≤ L ∧ L ≤ 16) (hgr : gr ≤ 256)
  (d : Int) (m : Nat) (hm : m < M) (hM : M < 100) (dx dy val bd : Int) (hvb : 0 ≤ numF (C.at_ (m : Int)) ∧ numF (C.at_ (m : Int)) ≤ 100000) (hdx : -100 ≤ dx ∧ dx ≤ 100) (hdy : -100 ≤ dy ∧ dy ≤ 100) (hbd : 0 ≤ bd ∧ bd ≤ 255) :
  Calls Tryz.prog 147 #[.int .i64 d, .int .i64 (m : Int), .int .i64 dx, .int .i64 dy, .int .i64 val, .int .u8 bd, .pointer (some ⟨bp, 0, none⟩), .pointer (some ⟨bg, 0, none⟩)] W fun e W' => (∃ vv, e = .returned vv) ∧
   Hd B S0 W0 W' P bc bm km M ⟨C.at_, C.free, C.code ++ [insL P.w P.h L gr d (numF (C.at_ (m : Int))) dx dy val bd]⟩ fv bp bs bg gr sc := by
 obtain ⟨cv, l, h⟩ := h
 refine (load_any B W P bc bm km M C fv cv l h.cm hlen L hvl hw hh hL gr hgr bp bg h.kp h.kg d m hm hM dx dy val bd hvb hdx hdy hbd).mono ?_
 rintro e W' ⟨h1, cv', l', hcm, hT, hsub⟩
 refine ⟨h1, h.step hcm hT (fun b hb => ?_)⟩
 rw [List.length_append, List.length_singleton] at hb
 exact hsub b hb
end
end Go.Proofs.YtekiemlniegddaaGreat
namespace Go.Proofs.YtekiemlniegddaaGreat
open Go Go.Maps Go.RowKit Go.Shelf
set_option maxRecDepth 100000 in
set_option maxHeartbeats 8000000 in
theorem head_any (B : Nat) (w : World) (P : CmP) (bc bm km M : Nat) (C : CmN) (fv cv : Value) (l : Nat → InsA) (hcm : CmAt B w P bc bm km M C fv cv l) (hlen : C.code.length ≤ 900000) (L : Nat) (hvl : P.vl = (L : Int)) (hw : 1 ≤ P.w ∧ P.w ≤ 16) (hh : 1 ≤ P.h ∧ P.h ≤ 16) (hL : 1 ≤ L ∧ L ≤ 16) (gr : Nat) (hgr : gr ≤ 256)
  (s : StepN) (hs : StepIn s) (hn : needB s = true) (ka sa : Option Addr) (kc sc : Nat) (hM : M < 100) (hop : ∀ m ∈ opsN s, (0 ≤ m ∧ m < M) ∧ 0 ≤ numF (C.at_ m) ∧ numF (C.at_ m) ≤ 100000) (hta : Rd B w ka s.taps) (hbi : RdB B w sa s.bits) :
  Calls Tryz.prog 107 #[.pointer (some ⟨bc, 0, none⟩), stepv s ka kc sa sc, .int .i64 (gr : Int)] w fun e w' => (∃ vv, e = .returned vv) ∧ ∃ cv' l', CmAt B w' P bc bm km M ⟨C.at_, C.free, C.code ++ headC P.w P.h L gr C.at_ s⟩ fv cv' l' ∧ Trn (CmS bc bm C.code.length fv cv l) w w' ∧
   ∀ b, CmS bc bm (C.code ++ headC P.w P.h L gr C.at_ s).length fv cv' l' b → CmS bc bm C.code.length fv cv l b ∨ w.heap.size ≤ b := by
 obtain ⟨S0, hS0⟩ : ∃ S0, CmS bc bm C.code.length fv cv l = S0 := ⟨_, rfl⟩
 rw [hS0]
 have hB : Below w.heap.size w w := Below.refl _ _
 have hopr := hs.op
 have hBw : B ≤ w.heap.size := by have := hcm.lo; have := hcm.c.lt; omega
 have hS0B : ∀ b, S0 b → B ≤ b := fun b hb => (hcm.own b (by rw [hS0]; exact hb)).1
 have hS0H := Lib.hid hS0B
 clear hS0B
 have hsub : ∀ b, CmS bc bm C.code.length fv cv l b → S0 b ∨ w.heap.size ≤ b := fun b hb => .inl (hS0 ▸ hb)
 clear hS0
 obtain ⟨V1, hEV1, hbV1, kp⟩ := newB w 100 #[.pointer (some ⟨bc, 0, none⟩)]
 replace hcm := hcm.below hbV1
 replace hB := tmB hB hbV1
 clear hbV1
 obtain ⟨bp, hbp⟩ : ∃ b, w.heap.size = b := ⟨_, rfl⟩
 rw [hbp] at kp
 obtain ⟨V2, hEV2, hbV2, ks⟩ := newB V1 76 #[.int .u8 s.op, .int .i64 s.a, .int .i64 s.b, .int .i64 s.pt.mul, .int .i64 s.pt.add, .int .i64 s.pt.div, .int .i64 s.pt.lo, .int .i64 s.pt.hi, .int .u8 s.how, .int .i64 s.kw, .int .i64 s.kh, .slice ka s.taps.length kc, .int .u8 s.bd, .int .i64 s.sw, .int .i64 s.sh, .slice sa s.bits.length sc]
 replace kp := kp.below hbV2 kp.lt
 replace hcm := hcm.below hbV2
 replace hB := tmB hB hbV2
 clear hbV2
 obtain ⟨bs, hbs⟩ : ∃ b, V1.heap.size = b := ⟨_, rfl⟩
 rw [hbs] at ks
 obtain ⟨V3, hEV3, hbV3, kg⟩ := newB V2 3 #[.int .i64 (gr : Int)]
 replace kp := kp.below hbV3 kp.lt
 replace ks := ks.below hbV3 ks.lt
 replace hcm := hcm.below hbV3
 replace hB := tmB hB hbV3
 clear hbV3
 obtain ⟨bg, hbg⟩ : ∃ b, V2.heap.size = b := ⟨_, rfl⟩
 rw [hbg] at kg
 have z0 := kp.cell (i := 0) rfl
 obtain ⟨y0, y1, y2, y3, y4, y5, y6, y7, y8, y9, y10, y11, y12, y13, y14, y15⟩ := cz16 ks
 have x0 := kg.cell (i := 0) rfl
 have h0 : Hd B S0 w V3 P bc bm km M C fv bp bs bg gr #[.int .u8 s.op, .int .i64 s.a, .int .i64 s.b, .int .i64 s.pt.mul, .int .i64 s.pt.add, .int .i64 s.pt.div, .int .i64 s.pt.lo, .int .i64 s.pt.hi, .int .u8 s.how, .int .i64 s.kw, .int .i64 s.kh, .slice ka s.taps.length kc, .int .u8 s.bd, .int .i64 s.sw, .int .i64 s.sh, .slice sa s.bits.length sc] := ⟨cv, l, ⟨hcm, kp, ks, kg, Below.trn0 hB S0, hsub⟩⟩
 have hfin : ∀ (W : World) (D : CmN), D = ⟨C.at_, C.free, C.code ++ headC P.w P.h L gr C.at_ s⟩ → Hd B S0 w W P bc bm km M D fv bp bs bg gr #[.int .u8 s.op, .int .i64 s.a, .int .i64 s.b, .int .i64 s.pt.mul, .int .i64 s.pt.add, .int .i64 s.pt.div, .int .i64 s.pt.lo, .int .i64 s.pt.hi, .int .u8 s.how, .int .i64 s.kw, .int .i64 s.kh, .slice ka s.taps.length kc, .int .u8 s.bd, .int .i64 s.sw, .int .i64 s.sh, .slice sa s.bits.length sc] → ∃ cv' l', CmAt B W P bc bm km M ⟨C.at_, C.free, C.code ++ headC P.w P.h L gr C.at_ s⟩ fv cv' l' ∧ Trn S0 w W ∧ ∀ b, CmS bc bm (C.code ++ headC P.w P.h L gr C.at_ s).length fv cv' l' b → S0 b ∨ w.heap.size ≤ b := fun W D hD h => by
  subst hD
  obtain ⟨cv', l', h⟩ := h
  exact ⟨cv', l', h.cm, h.ht, h.sub⟩
 have hfinH := Lib.hid hfin
 clear hfin hcm kp ks kg hsub
 go_enter Tryz.func107, Tryz.ntmps107
 have tok1 : True := trivial
 have tok2 : True := trivial
 have tok3 : True := trivial
 have hopA := hop _ (opsN_a s)
 obtain ⟨A, hA⟩ : ∃ A : Nat, s.a = (A : Int) := ⟨s.a.toNat, by omega⟩
 rw [hA] at hopA
 have hAH := Lib.hid hA
 have y1' := y1
 rw [hA] at y1'
 clear hA y1
 by_cases e1 : s.op = 1
 case pos =>
  have e1b : (s.op == 1) = true := by simp [e1]
  have e1H := Lib.hid e1
  clear e1
  go_wp2_with (first
   | (go_at_call 147; have _t := tok1; refine (h0.load (by omega) L hvl hw hh hL hgr 0 A (by omega) hM 0 0 0 0 hopA.2 (by omega) (by omega) (by omega)).mono ?_; clear _t tok1; rintro e W4 ⟨⟨v1, rfl⟩, h1⟩; have z0' := h1.pcell; have u3 := h1.scell (j := 3) rfl; have u4 := h1.scell (j := 4) rfl; have u5 := h1.scell (j := 5) rfl; have u6 := h1.scell (j := 6) rfl; have u7 := h1.scell (j := 7) rfl)
   | (go_at_call 108; have _t := tok2; refine (h1.emit (by simp; omega) (insP s.pt) rfl).mono ?_; clear _t tok2; rintro e W5 ⟨⟨v2, rfl⟩, h2⟩))
  go_end0
  exact ⟨⟨_, rfl⟩, hfinH.out _ _ (by unfold headC; rw [if_pos e1H.out, hAH.out]; simp) h2⟩
 case neg =>
 have e1b : (s.op == 1) = false := by simp [e1]
 have e1H := Lib.hid e1
 clear e1
 by_cases e2 : s.op = 2
 case pos =>
  have e2b : (s.op == 2) = true := by simp [e2]
  have e2H := Lib.hid e2
  have hmb : s.b ∈ opsN s := by
   unfold opsN
   by_cases hab : s.a = s.b
   ·rw [if_neg (fun h => h.2 hab), hab]; simp
   ·rw [if_pos ⟨e2, hab⟩]; simp
  have hopB := hop _ hmb
  clear e2 hmb
  obtain ⟨Bn, hBn⟩ : ∃ A : Nat, s.b = (A : Int) := ⟨s.b.toNat, by omega⟩
  rw [hBn] at hopB
  have hBH := Lib.hid hBn
  clear hBn
  go_wp2_with (first
   | (go_at_call 147; have _t := tok1; refine (h0.load (by omega) L hvl hw hh hL hgr 0 A (by omega) hM 0 0 0 0 hopA.2 (by omega) (by omega) (by omega)).mono ?_; clear _t tok1; rintro e W4 ⟨⟨v1, rfl⟩, h1⟩; have u2 := h1.scell (j := 2) rfl; rw [hBH.out] at u2)
   | (go_at_call 147; have _t := tok2; refine (h1.load (by simp; omega) L hvl hw hh hL hgr 1 Bn (by omega) hM 0 0 0 0 hopB.2 (by omega) (by omega) (by omega)).mono ?_; clear _t tok2; rintro e W5 ⟨⟨v2, rfl⟩, h2⟩; have z0' := h2.pcell; have u4 := h2.scell (j := 8) rfl)
   | (go_at_call 108; have _t := tok3; refine (h2.emit (by simp; omega) (insZ s.how) rfl).mono ?_; clear _t tok3; rintro e W6 ⟨⟨v3, rfl⟩, h3⟩))
  go_end0
  exact ⟨⟨_, rfl⟩, hfinH.out _ _ (by unfold headC; rw [if_neg e1H.out, if_pos e2H.out, hAH.out, hBH.out]; simp) h3⟩
 case neg =>
 have e2b : (s.op == 2) = false := by simp [e2]
 have e2H := Lib.hid e2
 clear e2
 by_cases e3 : s.op = 3
 case pos =>
  have e3b : (s.op == 3) = true := by simp [e3]
  have e3H := Lib.hid e3
  have hnk : kernOk s.kw s.kh s.taps = true ∧ (1 ≤ s.bd ∧ s.bd ≤ 3) := by
   have h := hn
   unfold needB at h
   rw [if_neg e1H.out, if_neg e2H.out, if_pos e3] at h
   simpa using h
  clear e3
  obtain ⟨hk1, hbd⟩ := hnk
  obtain ⟨_, _, _, hk4, _⟩ := kern_facts hk1
  have hsd : (1 ≤ s.kw ∧ s.kw ≤ 5) ∧ (1 ≤ s.kh ∧ s.kh ≤ 5) := by
   have h := hk1
   unfold kernOk at h
   rw [Bool.and_eq_true] at h
   have h2 := sidesB_true h.1
   omega
  have htl := hs.tl
  obtain ⟨nt, hnt⟩ : ∃ n, s.taps.length = n := ⟨_, rfl⟩
  have hntH := Lib.hid hnt
  have y11' := y11
  rw [hnt] at hk4 htl y11'
  clear y11 hnt
  go_wp2_with (first
   | (go_at_call 108; have _t := tok1; refine (h0.emit (by omega) insC rfl).mono ?_; clear _t tok1; rintro e W4 ⟨⟨v1, rfl⟩, h1⟩; have u11 := h1.scell (j := 11) rfl; rw [hntH.out] at u11))
  clear tok2 tok3
  obtain ⟨v, hv⟩ : ∃ v, numF (C.at_ (A : Int)) = v := ⟨_, rfl⟩
  rw [hv] at hopA
  have hvH := Lib.hid hv
  clear hv
  have h1' : Hd B S0 w W4 P bc bm km M ⟨C.at_, C.free, C.code ++ (insC :: tapsC P.w P.h L gr v s 0)⟩ fv bp bs bg gr #[.int .u8 s.op, .int .i64 s.a, .int .i64 s.b, .int .i64 s.pt.mul, .int .i64 s.pt.add, .int .i64 s.pt.div, .int .i64 s.pt.lo, .int .i64 s.pt.hi, .int .u8 s.how, .int .i64 s.kw, .int .i64 s.kh, .slice ka s.taps.length kc, .int .u8 s.bd, .int .i64 s.sw, .int .i64 s.sh, .slice sa s.bits.length sc] := h1
  clear h1 u11 y11'
  go_loopw [113] (fun i wr => ∃ k : Nat, k ≤ nt ∧ i = .int .i64 (k : Int) ∧ Hd B S0 w wr P bc bm km M ⟨C.at_, C.free, C.code ++ (insC :: tapsC P.w P.h L gr v s k)⟩ fv bp bs bg gr #[.int .u8 s.op, .int .i64 s.a, .int .i64 s.b, .int .i64 s.pt.mul, .int .i64 s.pt.add, .int .i64 s.pt.div, .int .i64 s.pt.lo, .int .i64 s.pt.hi, .int .u8 s.how, .int .i64 s.kw, .int .i64 s.kh, .slice ka s.taps.length kc, .int .u8 s.bd, .int .i64 s.sw, .int .i64 s.sh, .slice sa s.bits.length sc]) (fun i _ => nt - (intOf i).toNat)
  case atStart => exact ⟨0, Nat.zero_le _, rfl, h1'⟩
  case round =>
   clear h1'
   obtain ⟨k, hk, rfl, h⟩ := hrel
   by_cases hlt : k < nt
   case neg =>
    have hltd : decide ((k : Int) < (nt : Int)) = false := by simp; omega
    have hkn : nt = k := by omega
    subst hkn
    go_wp2_with fail
    go_end0
    exact ⟨⟨_, rfl⟩, hfinH.out _ _ (by unfold headC; rw [if_neg e1H.out, if_neg e2H.out, if_pos e3H.out, hAH.out, hvH.out, hntH.out]) h⟩
   case pos =>
    have hltd : decide ((k : Int) < (nt : Int)) = true := by simp; omega
    have hlt' : k < s.taps.length := by have := hntH.out; omega
    have hlow := h.low hBw hS0H.out
    obtain ⟨tb, t0, rfl, htb, htc⟩ : ∃ b o, ka = some ⟨b, o, none⟩ ∧ b < B ∧ ∀ i, i < s.taps.length → w.cell? ⟨b, o + i, none⟩ = some (.int .i64 (s.taps[i]?.getD 0)) := by
     rcases hta with h0 | ⟨b, o, h1, h2, h3⟩
     ·exfalso; rw [h0] at hlt'; simp at hlt'
     ·exact ⟨b, o, h1, h2, h3⟩
    have ct := (hlow.cell (p := ⟨tb, t0 + k, none⟩) htb).trans (htc k hlt')
    have hstep : tapsC P.w P.h L gr v s (k + 1) = tapsC P.w P.h L gr v s k ++ (if s.taps[k]?.getD 0 = 0 then [] else [insL P.w P.h L gr 1 v (s.kw / 2 - (k : Int) % s.kw) (s.kh / 2 - (k : Int) / s.kw) 0 s.bd, insA (s.taps[k]?.getD 0)]) := rfl
    obtain ⟨x, hx⟩ : ∃ x, s.taps[k]?.getD 0 = x := ⟨_, rfl⟩
    rw [hx] at ct hstep
    have hstepH := Lib.hid hstep
    have hln := taps_len P.w P.h L gr v s k
    have hnz := nz_le s.taps k
    have hlenk : (insC :: tapsC P.w P.h L gr v s k).length ≤ 100 := by rw [List.length_cons, hln]; omega
    clear htc hx hstep hlow hln hnz
    by_cases hx0 : x = 0
    case pos =>
     have hx0b : (x != 0) = false := by simp [hx0]
     have hnx : tapsC P.w P.h L gr v s (k + 1) = tapsC P.w P.h L gr v s k := by rw [hstepH.out, if_pos hx0]; simp
     rw [← hnx] at h
     clear hnx hx0
     go_wp2_with fail
     go_roundw
     case rel => exact ⟨k + 1, by omega, by go_num, h⟩
     case measure => simp [intOf]; omega
    case neg =>
     have hx0b : (x != 0) = true := by simp [hx0]
     have hnx : tapsC P.w P.h L gr v s (k + 1) = tapsC P.w P.h L gr v s k ++ [insL P.w P.h L gr 1 v (s.kw / 2 - (k : Int) % s.kw) (s.kh / 2 - (k : Int) / s.kw) 0 s.bd, insA x] := by rw [hstepH.out, if_neg hx0]
     have hnxH := Lib.hid hnx
     clear hnx hx0
     have g1 : s.kw.tdiv 2 = s.kw / 2 := Int.tdiv_eq_ediv_of_nonneg (by omega)
     have g2 : s.kh.tdiv 2 = s.kh / 2 := Int.tdiv_eq_ediv_of_nonneg (by omega)
     have g3 : (k : Int).tmod s.kw = (k : Int) % s.kw := Int.tmod_eq_emod_of_nonneg (by omega)
     have g4 : (k : Int).tdiv s.kw = (k : Int) / s.kw := Int.tdiv_eq_ediv_of_nonneg (by omega)
     have b1 := Int.emod_nonneg (k : Int) (show s.kw ≠ 0 by omega)
     have b2 := Int.emod_lt_of_pos (k : Int) (show 0 < s.kw by omega)
     have b3 : 0 ≤ (k : Int) / s.kw := Int.ediv_nonneg (by omega) (by omega)
     have b4 : (k : Int) / s.kw ≤ (k : Int) := Int.ediv_le_self _ (by omega)
     obtain ⟨r1, hr1⟩ : ∃ r, (k : Int) % s.kw = r := ⟨_, rfl⟩
     obtain ⟨r2, hr2⟩ : ∃ r, (k : Int) / s.kw = r := ⟨_, rfl⟩
     obtain ⟨r3, hr3⟩ : ∃ r, s.kw / 2 = r := ⟨_, rfl⟩
     obtain ⟨r4, hr4⟩ : ∃ r, s.kh / 2 = r := ⟨_, rfl⟩
     have b5 : 0 ≤ r3 ∧ r3 ≤ 2 ∧ 0 ≤ r4 ∧ r4 ≤ 2 := by omega
     have hnx2 := hnxH.out
     rw [hr1, hr2, hr3, hr4] at hnx2
     rw [hr1] at g3 b1 b2
     rw [hr2] at g4 b3 b4
     rw [hr3] at g1
     rw [hr4] at g2
     have hnx2H := Lib.hid hnx2
     clear hnx2 hr1 hr2 hr3 hr4
     have zk : ¬ s.kw = 0 := by omega
     have zkb : (s.kw == 0) = false := by simp [zk]
     have hS : Blk wr.drew bs 76 #[.int .u8 s.op, .int .i64 s.a, .int .i64 s.b, .int .i64 s.pt.mul, .int .i64 s.pt.add, .int .i64 s.pt.div, .int .i64 s.pt.lo, .int .i64 s.pt.hi, .int .u8 s.how, .int .i64 s.kw, .int .i64 s.kh, .slice (some ⟨tb, t0, none⟩) s.taps.length kc, .int .u8 s.bd, .int .i64 s.sw, .int .i64 s.sh, .slice sa s.bits.length sc] := (h.below (Below.refl _ wr).drew).box
     have h2 := h.below (Below.refl _ wr).drew
     clear h
     go_wp2_with fail
     refine plain_region (fun W' => Blk W' bs 76 #[.int .u8 s.op, .int .i64 s.a, .int .i64 s.b, .int .i64 s.pt.mul, .int .i64 s.pt.add, .int .i64 s.pt.div, .int .i64 s.pt.lo, .int .i64 s.pt.hi, .int .u8 s.how, .int .i64 s.kw, .int .i64 s.kh, .slice (some ⟨tb, t0, none⟩) s.taps.length kc, .int .u8 s.bd, .int .i64 s.sw, .int .i64 s.sh, .slice sa s.bits.length sc]) 26 26 (by kernel_rfl) rfl ?_
     simp only [Array.replicate_succ, Array.replicate_zero, List.push_toArray, List.nil_append, List.cons_append]
     obtain ⟨X0, hXX0⟩ : ∃ X : World, wr.drew = X := ⟨_, rfl⟩
     rw [hXX0] at hS h2 ⊢
     clear hXX0
     refine tkz 0 rfl hS (fun w' hS' => by go_simp; rfl) ?_
     simp only [nrz]
     refine tkz 1 rfl hS (fun w' hS' => by go_simp; rfl) ?_
     simp only [nrz]
     refine tkz 2 (v := ?gv2) rfl hS (fun w' hS' => ?gy2) ?gz2
     case gy2 =>
      have y1 := hS'.cell (i := 1) rfl
      rw [hAH.out] at y1
      have y9 := hS'.cell (i := 9) rfl
      have y10 := hS'.cell (i := 10) rfl
      have y12 := hS'.cell (i := 12) rfl
      clear hS'
      go_simp
      rfl
     simp only [nrz]
     refine tkz 3 rfl hS (fun w' hS' => by go_simp; rfl) ?_
     simp only [nrz]
     refine tkz 4 rfl hS (fun w' hS' => by go_simp; rfl) ?_
     simp only [nrz]
     refine tkz 5 (v := ?gv5) rfl hS (fun w' hS' => ?gy5) ?gz5
     case gy5 =>
      have y1 := hS'.cell (i := 1) rfl
      rw [hAH.out] at y1
      have y9 := hS'.cell (i := 9) rfl
      have y10 := hS'.cell (i := 10) rfl
      have y12 := hS'.cell (i := 12) rfl
      clear hS'
      go_simp
      rfl
     simp only [nrz]
     refine tkz 6 rfl hS (fun w' hS' => by go_simp; (try go_ints); rfl) ?_
     simp only [nrz]
     refine tkz 7 rfl hS (fun w' hS' => by go_simp; rfl) ?_
     simp only [nrz]
     refine tkz 8 rfl hS (fun w' hS' => by go_simp; rfl) ?_
     simp only [nrz]
     refine tkz 9 rfl hS (fun w' hS' => by go_simp; rfl) ?_
     simp only [nrz]
     refine tkz 10 (v := ?gv10) rfl hS (fun w' hS' => ?gy10) ?gz10
     case gy10 =>
      have y1 := hS'.cell (i := 1) rfl
      rw [hAH.out] at y1
      have y9 := hS'.cell (i := 9) rfl
      have y10 := hS'.cell (i := 10) rfl
      have y12 := hS'.cell (i := 12) rfl
      clear hS'
      go_simp
      rfl
     simp only [nrz]
     refine tkz 11 rfl hS (fun w' hS' => by go_simp; (try go_ints); rfl) ?_
     simp only [nrz]
     refine tkz 12 rfl hS (fun w' hS' => by go_simp; (try go_ints); rfl) ?_
     simp only [nrz]
     refine tkz 13 rfl hS (fun w' hS' => by go_simp; rfl) ?_
     simp only [nrz]
     refine tkz 14 rfl hS (fun w' hS' => by go_simp; rfl) ?_
     simp only [nrz]
     refine tkz 15 (v := ?gv15) rfl hS (fun w' hS' => ?gy15) ?gz15
     case gy15 =>
      have y1 := hS'.cell (i := 1) rfl
      rw [hAH.out] at y1
      have y9 := hS'.cell (i := 9) rfl
      have y10 := hS'.cell (i := 10) rfl
      have y12 := hS'.cell (i := 12) rfl
      clear hS'
      go_simp
      rfl
     simp only [nrz]
     refine tkz 16 rfl hS (fun w' hS' => by go_simp; (try go_ints); rfl) ?_
     simp only [nrz]
     refine tkz 17 rfl hS (fun w' hS' => by go_simp; rfl) ?_
     simp only [nrz]
     refine tkz 18 rfl hS (fun w' hS' => by go_simp; rfl) ?_
     simp only [nrz]
     refine tkz 19 rfl hS (fun w' hS' => by go_simp; rfl) ?_
     simp only [nrz]
     refine tkz 20 (v := ?gv20) rfl hS (fun w' hS' => ?gy20) ?gz20
     case gy20 =>
      have y1 := hS'.cell (i := 1) rfl
      rw [hAH.out] at y1
      have y9 := hS'.cell (i := 9) rfl
      have y10 := hS'.cell (i := 10) rfl
      have y12 := hS'.cell (i := 12) rfl
      clear hS'
      go_simp
      rfl
     simp only [nrz]
     refine tkz 21 rfl hS (fun w' hS' => by go_simp; (try go_ints); rfl) ?_
     simp only [nrz]
     refine tkz 22 rfl hS (fun w' hS' => by go_simp; (try go_ints); rfl) ?_
     simp only [nrz]
     refine tkz 23 rfl hS (fun w' hS' => by go_simp; rfl) ?_
     simp only [nrz]
     refine tkz 24 (v := ?gv24) rfl hS (fun w' hS' => ?gy24) ?gz24
     case gy24 =>
      have y1 := hS'.cell (i := 1) rfl
      rw [hAH.out] at y1
      have y9 := hS'.cell (i := 9) rfl
      have y10 := hS'.cell (i := 10) rfl
      have y12 := hS'.cell (i := 12) rfl
      clear hS'
      go_simp
      rfl
     simp only [nrz]
     refine step_op 25 (by kernel_rfl) rfl (fun K hK => ?_)
     have hc := h2.load (by simp only [List.length_append]; omega) L hvl hw hh hL hgr 1 A (by omega) hM (r3 - r1) (r4 - r2) 0 s.bd (by show 0 ≤ numF (C.at_ (A : Int)) ∧ numF (C.at_ (A : Int)) ≤ 100000; rw [hvH.out]; exact hopA.2) (by omega) (by omega) (by omega)
     rw [if_pos (by rfl)]
     go_simp
     refine hc.mono ?_
     clear hc
     rintro e X9 ⟨⟨v5, rfl⟩, h3⟩
     have hS9 := h3.box
     clear h2
     refine hK.out _ _ (fun h => hS9) ?_
     clear hK K
     try simp only [Act.put, nrz]
     refine done_ops (by kernel_rfl) ?_
     rw [hvH.out] at h3
     have z0' := h3.pcell
     go_wp2_with (go_at_call 108; refine (h3.emit (by simp only [List.length_append, List.length_singleton]; omega) (insA x) rfl).mono ?_; rintro e W9 ⟨⟨v6, rfl⟩, h4⟩)
     have h5 : Hd B S0 w W9 P bc bm km M ⟨C.at_, C.free, C.code ++ (insC :: tapsC P.w P.h L gr v s (k + 1))⟩ fv bp bs bg gr #[.int .u8 s.op, .int .i64 s.a, .int .i64 s.b, .int .i64 s.pt.mul, .int .i64 s.pt.add, .int .i64 s.pt.div, .int .i64 s.pt.lo, .int .i64 s.pt.hi, .int .u8 s.how, .int .i64 s.kw, .int .i64 s.kh, .slice (some ⟨tb, t0, none⟩) s.taps.length kc, .int .u8 s.bd, .int .i64 s.sw, .int .i64 s.sh, .slice sa s.bits.length sc] := by rw [hnx2H.out]; simpa using h4
     clear h3 h4
     go_roundw
     case rel => exact ⟨k + 1, by omega, by go_num, h5⟩
     case measure => simp [intOf]; omega
 case neg =>
 have e3b : (s.op == 3) = false := by simp [e3]
 have e3H := Lib.hid e3
 have hsh4 : shapeOk s.sw s.sh s.bits = true ∧ (s.op = 4 ∨ s.op = 5) := by
  have h := hn
  unfold needB at h
  rw [if_neg e1H.out, if_neg e2H.out, if_neg e3] at h
  by_cases h45 : s.op = 4 ∨ s.op = 5
  ·rw [if_pos h45] at h; exact ⟨h, h45⟩
  ·rw [if_neg h45] at h; cases h
 clear e3
 obtain ⟨hk1, h45⟩ := hsh4
 have h45H := Lib.hid h45
 clear h45
 have hk4 := (shape_facts hk1).2.2.2.1
 have hsd : (1 ≤ s.sw ∧ s.sw ≤ 5) ∧ (1 ≤ s.sh ∧ s.sh ≤ 5) := by
  have h := hk1
  unfold shapeOk at h
  rw [Bool.and_eq_true] at h
  have h2 := sidesB_true h.1
  omega
 have hbl := hs.bl
 obtain ⟨nb, hnb⟩ : ∃ n, s.bits.length = n := ⟨_, rfl⟩
 have hnbH := Lib.hid hnb
 have y15' := y15
 rw [hnb] at hk4 hbl y15'
 clear y15 hnb
 obtain ⟨v, hv⟩ : ∃ v, numF (C.at_ (A : Int)) = v := ⟨_, rfl⟩
 rw [hv] at hopA
 have hvH := Lib.hid hv
 clear hv tok1 tok2 tok3
 by_cases e4 : s.op = 4
 case pos =>
  have e4b : (s.op == 4) = true := by simp [e4]
  have hsgn : sgnC s = -1 := by unfold sgnC; rw [if_pos e4]
  have hvalC : valC s = -2147483648 := by unfold valC; rw [if_pos e4]
  have hhow : howC s = 4 := by unfold howC; rw [if_pos e4]
  have hsgnH := Lib.hid hsgn
  have hvalH := Lib.hid hvalC
  have hhowH := Lib.hid hhow
  clear hsgn hvalC hhow e4
  go_wp2_with fail
  have h0' : Hd B S0 w V3 P bc bm km M ⟨C.at_, C.free, C.code ++ bitsC P.w P.h L gr v s 0⟩ fv bp bs bg gr #[.int .u8 s.op, .int .i64 s.a, .int .i64 s.b, .int .i64 s.pt.mul, .int .i64 s.pt.add, .int .i64 s.pt.div, .int .i64 s.pt.lo, .int .i64 s.pt.hi, .int .u8 s.how, .int .i64 s.kw, .int .i64 s.kh, .slice ka s.taps.length kc, .int .u8 s.bd, .int .i64 s.sw, .int .i64 s.sh, .slice sa s.bits.length sc] := by rw [show bitsC P.w P.h L gr v s 0 = [] from rfl, List.append_nil]; exact h0
  clear h0
  go_loopw [12, 27] (fun f i wr => ∃ k : Nat, k ≤ nb ∧ i = .int .i64 (k : Int) ∧ f = .bool (noBit s k) ∧ Hd B S0 w wr P bc bm km M ⟨C.at_, C.free, C.code ++ bitsC P.w P.h L gr v s k⟩ fv bp bs bg gr #[.int .u8 s.op, .int .i64 s.a, .int .i64 s.b, .int .i64 s.pt.mul, .int .i64 s.pt.add, .int .i64 s.pt.div, .int .i64 s.pt.lo, .int .i64 s.pt.hi, .int .u8 s.how, .int .i64 s.kw, .int .i64 s.kh, .slice ka s.taps.length kc, .int .u8 s.bd, .int .i64 s.sw, .int .i64 s.sh, .slice sa s.bits.length sc]) (fun _ i _ => nb - (intOf i).toNat)
  case atStart => exact ⟨0, Nat.zero_le _, rfl, rfl, h0'⟩
  case round =>
   clear h0'
   obtain ⟨k, hk, rfl, rfl, h⟩ := hrel
   by_cases hlt : k < nb
   case neg =>
    have hltd : decide ((k : Int) < (nb : Int)) = false := by simp; omega
    have hkn : nb = k := by omega
    subst hkn
    go_wp2_with fail
    go_end0
    exact ⟨⟨_, rfl⟩, hfinH.out _ _ (by unfold headC; rw [if_neg e1H.out, if_neg e2H.out, if_neg e3H.out, hAH.out, hvH.out, hnbH.out]) h⟩
   case pos =>
    have hltd : decide ((k : Int) < (nb : Int)) = true := by simp; omega
    have hlt' : k < s.bits.length := by have := hnbH.out; omega
    have hlow := h.low hBw hS0H.out
    obtain ⟨tb, t0, rfl, htb, htc⟩ : ∃ b o, sa = some ⟨b, o, none⟩ ∧ b < B ∧ ∀ i, i < s.bits.length → w.cell? ⟨b, o + i, none⟩ = some (.bool (s.bits[i]?.getD false)) := by
     rcases hbi with h0 | ⟨b, o, h1, h2, h3⟩
     ·exfalso; rw [h0] at hlt'; simp at hlt'
     ·exact ⟨b, o, h1, h2, h3⟩
    have ct := (hlow.cell (p := ⟨tb, t0 + k, none⟩) htb).trans (htc k hlt')
    have hstep : bitsC P.w P.h L gr v s (k + 1) = bitsC P.w P.h L gr v s k ++ (if bitAt s k = false then [] else if noBit s k = true then [insL P.w P.h L gr 0 v (sgnC s * ((k : Int) % s.sw - s.sw / 2)) (sgnC s * ((k : Int) / s.sw - s.sh / 2)) (valC s) 0] else [insL P.w P.h L gr 1 v (sgnC s * ((k : Int) % s.sw - s.sw / 2)) (sgnC s * ((k : Int) / s.sw - s.sh / 2)) (valC s) 0, insZ (howC s)]) := rfl
    have hnoS : noBit s (k + 1) = (noBit s k && !bitAt s k) := rfl
    rw [show s.bits[k]?.getD false = bitAt s k from rfl] at ct
    obtain ⟨x, hx⟩ : ∃ x, bitAt s k = x := ⟨_, rfl⟩
    rw [hx] at ct hstep hnoS
    have hln := (bits_len P.w P.h L gr v s k).1
    have htr := tr_le s.bits k
    have hlenk : (bitsC P.w P.h L gr v s k).length ≤ 100 := by omega
    obtain ⟨nf, hnf⟩ : ∃ nf, noBit s k = nf := ⟨_, rfl⟩
    rw [hnf] at hstep hnoS ⊢
    have hstepH := Lib.hid hstep
    have hnoH := Lib.hid hnoS
    clear htc hx hstep hlow hln htr hnoS hnf
    cases x
    case false =>
     have hnx : bitsC P.w P.h L gr v s (k + 1) = bitsC P.w P.h L gr v s k := by rw [hstepH.out, if_pos rfl]; simp
     have hno2 : noBit s (k + 1) = nf := by rw [hnoH.out]; simp
     rw [← hnx] at h
     have hno2H := Lib.hid hno2
     clear hnx hno2
     go_wp2_with fail
     go_roundw
     case rel => exact ⟨k + 1, by omega, by go_num, by rw [hno2H.out], h⟩
     case measure => simp [intOf]; omega
    case true =>
     have hno2 : noBit s (k + 1) = false := by rw [hnoH.out]; simp
     have hno2H := Lib.hid hno2
     clear hno2
     have hnx := hstepH.out
     rw [if_neg (by simp), hsgnH.out, hvalH.out, hhowH.out] at hnx
     have g1 : s.sw.tdiv 2 = s.sw / 2 := Int.tdiv_eq_ediv_of_nonneg (by omega)
     have g2 : s.sh.tdiv 2 = s.sh / 2 := Int.tdiv_eq_ediv_of_nonneg (by omega)
     have g3 : (k : Int).tmod s.sw = (k : Int) % s.sw := Int.tmod_eq_emod_of_nonneg (by omega)
     have g4 : (k : Int).tdiv s.sw = (k : Int) / s.sw := Int.tdiv_eq_ediv_of_nonneg (by omega)
     have b1 := Int.emod_nonneg (k : Int) (show s.sw ≠ 0 by omega)
     have b2 := Int.emod_lt_of_pos (k : Int) (show 0 < s.sw by omega)
     have b3 : 0 ≤ (k : Int) / s.sw := Int.ediv_nonneg (by omega) (by omega)
     have b4 : (k : Int) / s.sw ≤ (k : Int) := Int.ediv_le_self _ (by omega)
     obtain ⟨r1, hr1⟩ : ∃ r, (k : Int) % s.sw = r := ⟨_, rfl⟩
     obtain ⟨r2, hr2⟩ : ∃ r, (k : Int) / s.sw = r := ⟨_, rfl⟩
     obtain ⟨r3, hr3⟩ : ∃ r, s.sw / 2 = r := ⟨_, rfl⟩
     obtain ⟨r4, hr4⟩ : ∃ r, s.sh / 2 = r := ⟨_, rfl⟩
     have b5 : 0 ≤ r3 ∧ r3 ≤ 2 ∧ 0 ≤ r4 ∧ r4 ≤ 2 := by omega
     rw [hr1, hr2, hr3, hr4] at hnx
     rw [hr1] at g3 b1 b2
     rw [hr2] at g4 b3 b4
     rw [hr3] at g1
     rw [hr4] at g2
     obtain ⟨X1, hX1⟩ : ∃ X, -1 * (r1 - r3) = X := ⟨_, rfl⟩
     obtain ⟨Y1, hY1⟩ : ∃ Y, -1 * (r2 - r4) = Y := ⟨_, rfl⟩
     have bX : -100 ≤ X1 ∧ X1 ≤ 100 := by omega
     have bY : -100 ≤ Y1 ∧ Y1 ≤ 100 := by omega
     rw [hX1, hY1] at hnx
     have hnxH := Lib.hid hnx
     clear hnx hr1 hr2 hr3 hr4
     have zk : ¬ s.sw = 0 := by omega
     have zkb : (s.sw == 0) = false := by simp [zk]
     have hS : Blk wr.drew bs 76 #[.int .u8 s.op, .int .i64 s.a, .int .i64 s.b, .int .i64 s.pt.mul, .int .i64 s.pt.add, .int .i64 s.pt.div, .int .i64 s.pt.lo, .int .i64 s.pt.hi, .int .u8 s.how, .int .i64 s.kw, .int .i64 s.kh, .slice ka s.taps.length kc, .int .u8 s.bd, .int .i64 s.sw, .int .i64 s.sh, .slice (some ⟨tb, t0, none⟩) s.bits.length sc] := (h.below (Below.refl _ wr).drew).box
     have h2 := h.below (Below.refl _ wr).drew
     clear h
     go_wp2_with fail
     refine plain_region (fun W' => Blk W' bs 76 #[.int .u8 s.op, .int .i64 s.a, .int .i64 s.b, .int .i64 s.pt.mul, .int .i64 s.pt.add, .int .i64 s.pt.div, .int .i64 s.pt.lo, .int .i64 s.pt.hi, .int .u8 s.how, .int .i64 s.kw, .int .i64 s.kh, .slice ka s.taps.length kc, .int .u8 s.bd, .int .i64 s.sw, .int .i64 s.sh, .slice (some ⟨tb, t0, none⟩) s.bits.length sc]) 26 26 (by kernel_rfl) rfl ?_
     simp only [Array.replicate_succ, Array.replicate_zero, List.push_toArray, List.nil_append, List.cons_append]
     obtain ⟨X0, hXX0⟩ : ∃ X : World, wr.drew = X := ⟨_, rfl⟩
     rw [hXX0] at hS h2 ⊢
     clear hXX0
     have FA0 := Lib.hid (fun w' (hS' : (fun W' => Blk W' bs 76 #[.int .u8 s.op, .int .i64 s.a, .int .i64 s.b, .int .i64 s.pt.mul, .int .i64 s.pt.add, .int .i64 s.pt.div, .int .i64 s.pt.lo, .int .i64 s.pt.hi, .int .u8 s.how, .int .i64 s.kw, .int .i64 s.kh, .slice ka s.taps.length kc, .int .u8 s.bd, .int .i64 s.sw, .int .i64 s.sh, .slice (some ⟨tb, t0, none⟩) s.bits.length sc]) w') => And.intro (hS'.cell (i := 13) rfl) (hS'.cell (i := 14) rfl))
     refine tkz 0 rfl hS (fun w' hS' => by go_simp; rfl) ?_
     simp only [nrz]
     refine tkz 1 rfl hS (fun w' hS' => by go_simp; rfl) ?_
     simp only [nrz]
     refine tkz 2 rfl hS (fun w' hS' => by go_simp; rfl) ?_
     simp only [nrz]
     refine tkz 3 rfl hS (fun w' hS' => by go_simp; rfl) ?_
     simp only [nrz]
     refine tkz 4 rfl hS (fun w' hS' => by obtain ⟨y13, y14⟩ := FA0.out w' hS'; clear hS'; go_simp; rfl) ?_
     simp only [nrz]
     refine tkz 5 rfl hS (fun w' hS' => by go_simp; (try go_ints); rfl) ?_
     simp only [nrz]
     refine tkz 6 rfl hS (fun w' hS' => by go_simp; rfl) ?_
     simp only [nrz]
     refine tkz 7 rfl hS (fun w' hS' => by go_simp; rfl) ?_
     simp only [nrz]
     refine tkz 8 rfl hS (fun w' hS' => by obtain ⟨y13, y14⟩ := FA0.out w' hS'; clear hS'; go_simp; rfl) ?_
     simp only [nrz]
     refine tkz 9 rfl hS (fun w' hS' => by go_simp; (try go_ints); rfl) ?_
     simp only [nrz]
     refine tkz 10 rfl hS (fun w' hS' => by go_simp; (try go_ints); rfl) ?_
     simp only [nrz]
     refine tkz 11 (v := .int .i64 X1) rfl hS (fun w' hS' => ?g4y11) ?g4z11
     case g4y11 =>
      go_simp
      try go_ints
      first
      | trivial
      | rfl
      | rw [← hX1]
      | (rw [← hX1]; simp)
      | (congr 2; omega)
     simp only [nrz]
     refine tkz 12 rfl hS (fun w' hS' => by go_simp; rfl) ?_
     simp only [nrz]
     refine tkz 13 rfl hS (fun w' hS' => by go_simp; rfl) ?_
     simp only [nrz]
     refine tkz 14 rfl hS (fun w' hS' => by go_simp; rfl) ?_
     simp only [nrz]
     refine tkz 15 rfl hS (fun w' hS' => by go_simp; rfl) ?_
     simp only [nrz]
     refine tkz 16 rfl hS (fun w' hS' => by obtain ⟨y13, y14⟩ := FA0.out w' hS'; clear hS'; go_simp; rfl) ?_
     simp only [nrz]
     refine tkz 17 rfl hS (fun w' hS' => by go_simp; (try go_ints); rfl) ?_
     simp only [nrz]
     refine tkz 18 rfl hS (fun w' hS' => by go_simp; rfl) ?_
     simp only [nrz]
     refine tkz 19 rfl hS (fun w' hS' => by go_simp; rfl) ?_
     simp only [nrz]
     refine tkz 20 rfl hS (fun w' hS' => by obtain ⟨y13, y14⟩ := FA0.out w' hS'; clear hS'; go_simp; rfl) ?_
     simp only [nrz]
     refine tkz 21 rfl hS (fun w' hS' => by go_simp; (try go_ints); rfl) ?_
     simp only [nrz]
     refine tkz 22 rfl hS (fun w' hS' => by go_simp; (try go_ints); rfl) ?_
     simp only [nrz]
     refine tkz 23 (v := .int .i64 Y1) rfl hS (fun w' hS' => ?g4y23) ?g4z23
     case g4y23 =>
      go_simp
      try go_ints
      first
      | trivial
      | rfl
      | rw [← hY1]
      | (rw [← hY1]; simp)
      | (congr 2; omega)
     simp only [nrz]
     refine tkz 24 rfl hS (fun w' hS' => by go_simp; rfl) ?_
     simp only [nrz]
     refine tkz 25 rfl hS (fun w' hS' => by go_simp; rfl) ?_
     simp only [nrz]
     refine done_ops (by kernel_rfl) ?_
     clear hX1 hY1 g1 g2 g3 g4 zk zkb
     have u1 := h2.scell (j := 1) rfl
     rw [hAH.out] at u1
     cases nf
     case true =>
      rw [if_pos rfl] at hnxH
      go_wp2_with (go_at_call 147; refine (h2.load (by simp only [List.length_append]; omega) L hvl hw hh hL hgr 0 A (by omega) hM X1 Y1 (-2147483648) 0 (by show 0 ≤ numF (C.at_ (A : Int)) ∧ numF (C.at_ (A : Int)) ≤ 100000; rw [hvH.out]; exact hopA.2) (by omega) (by omega) (by omega)).mono ?_; rintro e W4 ⟨⟨v1, rfl⟩, h3⟩)
      have h5 : Hd B S0 w W4 P bc bm km M ⟨C.at_, C.free, C.code ++ bitsC P.w P.h L gr v s (k + 1)⟩ fv bp bs bg gr #[.int .u8 s.op, .int .i64 s.a, .int .i64 s.b, .int .i64 s.pt.mul, .int .i64 s.pt.add, .int .i64 s.pt.div, .int .i64 s.pt.lo, .int .i64 s.pt.hi, .int .u8 s.how, .int .i64 s.kw, .int .i64 s.kh, .slice ka s.taps.length kc, .int .u8 s.bd, .int .i64 s.sw, .int .i64 s.sh, .slice (some ⟨tb, t0, none⟩) s.bits.length sc] := by
       rw [hnxH.out, ← List.append_assoc]; rw [hvH.out] at h3; exact h3
      clear h3 h2
      go_roundw
      case rel => exact ⟨k + 1, by omega, by go_num, by rw [hno2H.out], h5⟩
      case measure => simp [intOf]; omega
     case false =>
      rw [if_neg (by simp)] at hnxH
      have tok1 : True := trivial
      have tok2 : True := trivial
      go_wp2_with (first
       | (go_at_call 147; have _t := tok1; refine (h2.load (by simp only [List.length_append]; omega) L hvl hw hh hL hgr 1 A (by omega) hM X1 Y1 (-2147483648) 0 (by show 0 ≤ numF (C.at_ (A : Int)) ∧ numF (C.at_ (A : Int)) ≤ 100000; rw [hvH.out]; exact hopA.2) (by omega) (by omega) (by omega)).mono ?_; clear _t tok1; rintro e W4 ⟨⟨v1, rfl⟩, h3⟩; have z0' := h3.pcell)
       | (go_at_call 108; have _t := tok2; refine (h3.emit (by simp only [List.length_append, List.length_singleton]; omega) (insZ 4) rfl).mono ?_; clear _t tok2; rintro e W9 ⟨⟨v6, rfl⟩, h4⟩))
      have h5 : Hd B S0 w W9 P bc bm km M ⟨C.at_, C.free, C.code ++ bitsC P.w P.h L gr v s (k + 1)⟩ fv bp bs bg gr #[.int .u8 s.op, .int .i64 s.a, .int .i64 s.b, .int .i64 s.pt.mul, .int .i64 s.pt.add, .int .i64 s.pt.div, .int .i64 s.pt.lo, .int .i64 s.pt.hi, .int .u8 s.how, .int .i64 s.kw, .int .i64 s.kh, .slice ka s.taps.length kc, .int .u8 s.bd, .int .i64 s.sw, .int .i64 s.sh, .slice (some ⟨tb, t0, none⟩) s.bits.length sc] := by
       rw [hnxH.out]; rw [hvH.out] at h4; simpa using h4
      clear h3 h4 h2
      go_roundw
      case rel => exact ⟨k + 1, by omega, by go_num, by rw [hno2H.out], h5⟩
      case measure => simp [intOf]; omega
 case neg =>
  have e4b : (s.op == 4) = false := by simp [e4]
  have hsgn : sgnC s = 1 := by unfold sgnC; rw [if_neg e4]
  have hvalC : valC s = 2147483648 := by unfold valC; rw [if_neg e4]
  have hhow : howC s = 3 := by unfold howC; rw [if_neg e4]
  have hsgnH := Lib.hid hsgn
  have hvalH := Lib.hid hvalC
  have hhowH := Lib.hid hhow
  clear hsgn hvalC hhow e4
  go_wp2_with fail
  have h0' : Hd B S0 w V3 P bc bm km M ⟨C.at_, C.free, C.code ++ bitsC P.w P.h L gr v s 0⟩ fv bp bs bg gr #[.int .u8 s.op, .int .i64 s.a, .int .i64 s.b, .int .i64 s.pt.mul, .int .i64 s.pt.add, .int .i64 s.pt.div, .int .i64 s.pt.lo, .int .i64 s.pt.hi, .int .u8 s.how, .int .i64 s.kw, .int .i64 s.kh, .slice ka s.taps.length kc, .int .u8 s.bd, .int .i64 s.sw, .int .i64 s.sh, .slice sa s.bits.length sc] := by rw [show bitsC P.w P.h L gr v s 0 = [] from rfl, List.append_nil]; exact h0
  clear h0
  go_loopw [12, 27] (fun f i wr => ∃ k : Nat, k ≤ nb ∧ i = .int .i64 (k : Int) ∧ f = .bool (noBit s k) ∧ Hd B S0 w wr P bc bm km M ⟨C.at_, C.free, C.code ++ bitsC P.w P.h L gr v s k⟩ fv bp bs bg gr #[.int .u8 s.op, .int .i64 s.a, .int .i64 s.b, .int .i64 s.pt.mul, .int .i64 s.pt.add, .int .i64 s.pt.div, .int .i64 s.pt.lo, .int .i64 s.pt.hi, .int .u8 s.how, .int .i64 s.kw, .int .i64 s.kh, .slice ka s.taps.length kc, .int .u8 s.bd, .int .i64 s.sw, .int .i64 s.sh, .slice sa s.bits.length sc]) (fun _ i _ => nb - (intOf i).toNat)
  case atStart => exact ⟨0, Nat.zero_le _, rfl, rfl, h0'⟩
  case round =>
   clear h0'
   obtain ⟨k, hk, rfl, rfl, h⟩ := hrel
   by_cases hlt : k < nb
   case neg =>
    have hltd : decide ((k : Int) < (nb : Int)) = false := by simp; omega
    have hkn : nb = k := by omega
    subst hkn
    go_wp2_with fail
    go_end0
    exact ⟨⟨_, rfl⟩, hfinH.out _ _ (by unfold headC; rw [if_neg e1H.out, if_neg e2H.out, if_neg e3H.out, hAH.out, hvH.out, hnbH.out]) h⟩
   case pos =>
    have hltd : decide ((k : Int) < (nb : Int)) = true := by simp; omega
    have hlt' : k < s.bits.length := by have := hnbH.out; omega
    have hlow := h.low hBw hS0H.out
    obtain ⟨tb, t0, rfl, htb, htc⟩ : ∃ b o, sa = some ⟨b, o, none⟩ ∧ b < B ∧ ∀ i, i < s.bits.length → w.cell? ⟨b, o + i, none⟩ = some (.bool (s.bits[i]?.getD false)) := by
     rcases hbi with h0 | ⟨b, o, h1, h2, h3⟩
     ·exfalso; rw [h0] at hlt'; simp at hlt'
     ·exact ⟨b, o, h1, h2, h3⟩
    have ct := (hlow.cell (p := ⟨tb, t0 + k, none⟩) htb).trans (htc k hlt')
    have hstep : bitsC P.w P.h L gr v s (k + 1) = bitsC P.w P.h L gr v s k ++ (if bitAt s k = false then [] else if noBit s k = true then [insL P.w P.h L gr 0 v (sgnC s * ((k : Int) % s.sw - s.sw / 2)) (sgnC s * ((k : Int) / s.sw - s.sh / 2)) (valC s) 0] else [insL P.w P.h L gr 1 v (sgnC s * ((k : Int) % s.sw - s.sw / 2)) (sgnC s * ((k : Int) / s.sw - s.sh / 2)) (valC s) 0, insZ (howC s)]) := rfl
    have hnoS : noBit s (k + 1) = (noBit s k && !bitAt s k) := rfl
    rw [show s.bits[k]?.getD false = bitAt s k from rfl] at ct
    obtain ⟨x, hx⟩ : ∃ x, bitAt s k = x := ⟨_, rfl⟩
    rw [hx] at ct hstep hnoS
    have hln := (bits_len P.w P.h L gr v s k).1
    have htr := tr_le s.bits k
    have hlenk : (bitsC P.w P.h L gr v s k).length ≤ 100 := by omega
    obtain ⟨nf, hnf⟩ : ∃ nf, noBit s k = nf := ⟨_, rfl⟩
    rw [hnf] at hstep hnoS ⊢
    have hstepH := Lib.hid hstep
    have hnoH := Lib.hid hnoS
    clear htc hx hstep hlow hln htr hnoS hnf
    cases x
    case false =>
     have hnx : bitsC P.w P.h L gr v s (k + 1) = bitsC P.w P.h L gr v s k := by rw [hstepH.out, if_pos rfl]; simp
     have hno2 : noBit s (k + 1) = nf := by rw [hnoH.out]; simp
     rw [← hnx] at h
     have hno2H := Lib.hid hno2
     clear hnx hno2
     go_wp2_with fail
     go_roundw
     case rel => exact ⟨k + 1, by omega, by go_num, by rw [hno2H.out], h⟩
     case measure => simp [intOf]; omega
    case true =>
     have hno2 : noBit s (k + 1) = false := by rw [hnoH.out]; simp
     have hno2H := Lib.hid hno2
     clear hno2
     have hnx := hstepH.out
     rw [if_neg (by simp), hsgnH.out, hvalH.out, hhowH.out] at hnx
     have g1 : s.sw.tdiv 2 = s.sw / 2 := Int.tdiv_eq_ediv_of_nonneg (by omega)
     have g2 : s.sh.tdiv 2 = s.sh / 2 := Int.tdiv_eq_ediv_of_nonneg (by omega)
     have g3 : (k : Int).tmod s.sw = (k : Int) % s.sw := Int.tmod_eq_emod_of_nonneg (by omega)
     have g4 : (k : Int).tdiv s.sw = (k : Int) / s.sw := Int.tdiv_eq_ediv_of_nonneg (by omega)
     have b1 := Int.emod_nonneg (k : Int) (show s.sw ≠ 0 by omega)
     have b2 := Int.emod_lt_of_pos (k : Int) (show 0 < s.sw by omega)
     have b3 : 0 ≤ (k : Int) / s.sw := Int.ediv_nonneg (by omega) (by omega)
     have b4 : (k : Int) / s.sw ≤ (k : Int) := Int.ediv_le_self _ (by omega)
     obtain ⟨r1, hr1⟩ : ∃ r, (k : Int) % s.sw = r := ⟨_, rfl⟩
     obtain ⟨r2, hr2⟩ : ∃ r, (k : Int) / s.sw = r := ⟨_, rfl⟩
     obtain ⟨r3, hr3⟩ : ∃ r, s.sw / 2 = r := ⟨_, rfl⟩
     obtain ⟨r4, hr4⟩ : ∃ r, s.sh / 2 = r := ⟨_, rfl⟩
     have b5 : 0 ≤ r3 ∧ r3 ≤ 2 ∧ 0 ≤ r4 ∧ r4 ≤ 2 := by omega
     rw [hr1, hr2, hr3, hr4] at hnx
     rw [hr1] at g3 b1 b2
     rw [hr2] at g4 b3 b4
     rw [hr3] at g1
     rw [hr4] at g2
     obtain ⟨X1, hX1⟩ : ∃ X, 1 * (r1 - r3) = X := ⟨_, rfl⟩
     obtain ⟨Y1, hY1⟩ : ∃ Y, 1 * (r2 - r4) = Y := ⟨_, rfl⟩
     have bX : -100 ≤ X1 ∧ X1 ≤ 100 := by omega
     have bY : -100 ≤ Y1 ∧ Y1 ≤ 100 := by omega
     rw [hX1, hY1] at hnx
     have hnxH := Lib.hid hnx
     clear hnx hr1 hr2 hr3 hr4
     have zk : ¬ s.sw = 0 := by omega
     have zkb : (s.sw == 0) = false := by simp [zk]
     have hS : Blk wr.drew bs 76 #[.int .u8 s.op, .int .i64 s.a, .int .i64 s.b, .int .i64 s.pt.mul, .int .i64 s.pt.add, .int .i64 s.pt.div, .int .i64 s.pt.lo, .int .i64 s.pt.hi, .int .u8 s.how, .int .i64 s.kw, .int .i64 s.kh, .slice ka s.taps.length kc, .int .u8 s.bd, .int .i64 s.sw, .int .i64 s.sh, .slice (some ⟨tb, t0, none⟩) s.bits.length sc] := (h.below (Below.refl _ wr).drew).box
     have h2 := h.below (Below.refl _ wr).drew
     clear h
     go_wp2_with fail
     refine plain_region (fun W' => Blk W' bs 76 #[.int .u8 s.op, .int .i64 s.a, .int .i64 s.b, .int .i64 s.pt.mul, .int .i64 s.pt.add, .int .i64 s.pt.div, .int .i64 s.pt.lo, .int .i64 s.pt.hi, .int .u8 s.how, .int .i64 s.kw, .int .i64 s.kh, .slice ka s.taps.length kc, .int .u8 s.bd, .int .i64 s.sw, .int .i64 s.sh, .slice (some ⟨tb, t0, none⟩) s.bits.length sc]) 26 26 (by kernel_rfl) rfl ?_
     simp only [Array.replicate_succ, Array.replicate_zero, List.push_toArray, List.nil_append, List.cons_append]
     obtain ⟨X0, hXX0⟩ : ∃ X : World, wr.drew = X := ⟨_, rfl⟩
     rw [hXX0] at hS h2 ⊢
     clear hXX0
     have FA1 := Lib.hid (fun w' (hS' : (fun W' => Blk W' bs 76 #[.int .u8 s.op, .int .i64 s.a, .int .i64 s.b, .int .i64 s.pt.mul, .int .i64 s.pt.add, .int .i64 s.pt.div, .int .i64 s.pt.lo, .int .i64 s.pt.hi, .int .u8 s.how, .int .i64 s.kw, .int .i64 s.kh, .slice ka s.taps.length kc, .int .u8 s.bd, .int .i64 s.sw, .int .i64 s.sh, .slice (some ⟨tb, t0, none⟩) s.bits.length sc]) w') => And.intro (hS'.cell (i := 13) rfl) (hS'.cell (i := 14) rfl))
     refine tkz 0 rfl hS (fun w' hS' => by go_simp; rfl) ?_
     simp only [nrz]
     refine tkz 1 rfl hS (fun w' hS' => by go_simp; rfl) ?_
     simp only [nrz]
     refine tkz 2 rfl hS (fun w' hS' => by go_simp; rfl) ?_
     simp only [nrz]
     refine tkz 3 rfl hS (fun w' hS' => by go_simp; rfl) ?_
     simp only [nrz]
     refine tkz 4 rfl hS (fun w' hS' => by obtain ⟨y13, y14⟩ := FA1.out w' hS'; clear hS'; go_simp; rfl) ?_
     simp only [nrz]
     refine tkz 5 rfl hS (fun w' hS' => by go_simp; (try go_ints); rfl) ?_
     simp only [nrz]
     refine tkz 6 rfl hS (fun w' hS' => by go_simp; rfl) ?_
     simp only [nrz]
     refine tkz 7 rfl hS (fun w' hS' => by go_simp; rfl) ?_
     simp only [nrz]
     refine tkz 8 rfl hS (fun w' hS' => by obtain ⟨y13, y14⟩ := FA1.out w' hS'; clear hS'; go_simp; rfl) ?_
     simp only [nrz]
     refine tkz 9 rfl hS (fun w' hS' => by go_simp; (try go_ints); rfl) ?_
     simp only [nrz]
     refine tkz 10 rfl hS (fun w' hS' => by go_simp; (try go_ints); rfl) ?_
     simp only [nrz]
     refine tkz 11 (v := .int .i64 X1) rfl hS (fun w' hS' => ?g5y11) ?g5z11
     case g5y11 =>
      go_simp
      try go_ints
      first
      | trivial
      | rfl
      | rw [← hX1]
      | (rw [← hX1]; simp)
      | (congr 2; omega)
     simp only [nrz]
     refine tkz 12 rfl hS (fun w' hS' => by go_simp; rfl) ?_
     simp only [nrz]
     refine tkz 13 rfl hS (fun w' hS' => by go_simp; rfl) ?_
     simp only [nrz]
     refine tkz 14 rfl hS (fun w' hS' => by go_simp; rfl) ?_
     simp only [nrz]
     refine tkz 15 rfl hS (fun w' hS' => by go_simp; rfl) ?_
     simp only [nrz]
     refine tkz 16 rfl hS (fun w' hS' => by obtain ⟨y13, y14⟩ := FA1.out w' hS'; clear hS'; go_simp; rfl) ?_
     simp only [nrz]
     refine tkz 17 rfl hS (fun w' hS' => by go_simp; (try go_ints); rfl) ?_
     simp only [nrz]
     refine tkz 18 rfl hS (fun w' hS' => by go_simp; rfl) ?_
     simp only [nrz]
     refine tkz 19 rfl hS (fun w' hS' => by go_simp; rfl) ?_
     simp only [nrz]
     refine tkz 20 rfl hS (fun w' hS' => by obtain ⟨y13, y14⟩ := FA1.out w' hS'; clear hS'; go_simp; rfl) ?_
     simp only [nrz]
     refine tkz 21 rfl hS (fun w' hS' => by go_simp; (try go_ints); rfl) ?_
     simp only [nrz]
     refine tkz 22 rfl hS (fun w' hS' => by go_simp; (try go_ints); rfl) ?_
     simp only [nrz]
     refine tkz 23 (v := .int .i64 Y1) rfl hS (fun w' hS' => ?g5y23) ?g5z23
     case g5y23 =>
      go_simp
      try go_ints
      first
      | trivial
      | rfl
      | rw [← hY1]
      | (rw [← hY1]; simp)
      | (congr 2; omega)
     simp only [nrz]
     refine tkz 24 rfl hS (fun w' hS' => by go_simp; rfl) ?_
     simp only [nrz]
     refine tkz 25 rfl hS (fun w' hS' => by go_simp; rfl) ?_
     simp only [nrz]
     refine done_ops (by kernel_rfl) ?_
     clear hX1 hY1 g1 g2 g3 g4 zk zkb
     have u1 := h2.scell (j := 1) rfl
     rw [hAH.out] at u1
     cases nf
     case true =>
      rw [if_pos rfl] at hnxH
      go_wp2_with (go_at_call 147; refine (h2.load (by simp only [List.length_append]; omega) L hvl hw hh hL hgr 0 A (by omega) hM X1 Y1 (2147483648) 0 (by show 0 ≤ numF (C.at_ (A : Int)) ∧ numF (C.at_ (A : Int)) ≤ 100000; rw [hvH.out]; exact hopA.2) (by omega) (by omega) (by omega)).mono ?_; rintro e W4 ⟨⟨v1, rfl⟩, h3⟩)
      have h5 : Hd B S0 w W4 P bc bm km M ⟨C.at_, C.free, C.code ++ bitsC P.w P.h L gr v s (k + 1)⟩ fv bp bs bg gr #[.int .u8 s.op, .int .i64 s.a, .int .i64 s.b, .int .i64 s.pt.mul, .int .i64 s.pt.add, .int .i64 s.pt.div, .int .i64 s.pt.lo, .int .i64 s.pt.hi, .int .u8 s.how, .int .i64 s.kw, .int .i64 s.kh, .slice ka s.taps.length kc, .int .u8 s.bd, .int .i64 s.sw, .int .i64 s.sh, .slice (some ⟨tb, t0, none⟩) s.bits.length sc] := by
       rw [hnxH.out, ← List.append_assoc]; rw [hvH.out] at h3; exact h3
      clear h3 h2
      go_roundw
      case rel => exact ⟨k + 1, by omega, by go_num, by rw [hno2H.out], h5⟩
      case measure => simp [intOf]; omega
     case false =>
      rw [if_neg (by simp)] at hnxH
      have tok1 : True := trivial
      have tok2 : True := trivial
      go_wp2_with (first
       | (go_at_call 147; have _t := tok1; refine (h2.load (by simp only [List.length_append]; omega) L hvl hw hh hL hgr 1 A (by omega) hM X1 Y1 (2147483648) 0 (by show 0 ≤ numF (C.at_ (A : Int)) ∧ numF (C.at_ (A : Int)) ≤ 100000; rw [hvH.out]; exact hopA.2) (by omega) (by omega) (by omega)).mono ?_; clear _t tok1; rintro e W4 ⟨⟨v1, rfl⟩, h3⟩; have z0' := h3.pcell)
       | (go_at_call 108; have _t := tok2; refine (h3.emit (by simp only [List.length_append, List.length_singleton]; omega) (insZ 3) rfl).mono ?_; clear _t tok2; rintro e W9 ⟨⟨v6, rfl⟩, h4⟩))
      have h5 : Hd B S0 w W9 P bc bm km M ⟨C.at_, C.free, C.code ++ bitsC P.w P.h L gr v s (k + 1)⟩ fv bp bs bg gr #[.int .u8 s.op, .int .i64 s.a, .int .i64 s.b, .int .i64 s.pt.mul, .int .i64 s.pt.add, .int .i64 s.pt.div, .int .i64 s.pt.lo, .int .i64 s.pt.hi, .int .u8 s.how, .int .i64 s.kw, .int .i64 s.kh, .slice ka s.taps.length kc, .int .u8 s.bd, .int .i64 s.sw, .int .i64 s.sh, .slice (some ⟨tb, t0, none⟩) s.bits.length sc] := by
       rw [hnxH.out]; rw [hvH.out] at h4; simpa using h4
      clear h3 h4 h2
      go_roundw
      case rel => exact ⟨k + 1, by omega, by go_num, by rw [hno2H.out], h5⟩
      case measure => simp [intOf]; omega
end Go.Proofs.YtekiemlniegddaaGreat
namespace Go.Proofs.YtekiemlniegddaaGreat
open Go Go.Maps Go.RowKit Go.Shelf
/-- A block of another type is none of a compiler's blocks. -/
theorem CmAt.not_blk {B : Nat} {W : World} {P : CmP} {bc bm km M : Nat} {C : CmN} {fv cv : Value} {l : Nat → InsA} (h : CmAt B W P bc bm km M C fv cv l) {b : Nat} {t : TypeId} {cs : Array Value} (hb : Blk W b t cs) (h1 : t ≠ 103) (h2 : t ≠ 143) (h3 : t ≠ 3) : ¬ CmS bc bm C.code.length fv cv l b := by
 rintro (e | e | e | e | ⟨q, hq, e⟩)
 ·subst e
  have h4 : W.heap[b]? = _ := h.c
  rw [show W.heap[b]? = _ from hb] at h4
  injection h4 with h4; injection h4 with _ h4 _; exact h1 h4
 ·exact h.at_.not_cells hb e
 ·exact hb.not_row h3 h.free e.symm
 ·exact hb.not_row h2 h.code e.symm
 ·obtain ⟨_, _, _, cur, hc⟩ := (h.ads q hq).2.1.blk e
  rw [show W.heap[b]? = _ from hb] at hc
  injection hc with hc; injection hc with _ hc _; exact h3 hc
/-- The compiler and the round's box; S0, W0: the compiler's blocks and the world at the call. -/
structure RnAt (B : Nat) (S0 : Nat → Prop) (W0 W : World) (P : CmP) (bc bm km M : Nat) (C : CmN) (fv : Value) (br : Nat) (rc : Array Value) (cv : Value) (l : Nat → InsA) : Prop where
 cm : CmAt B W P bc bm km M C fv cv l
 kr : Blk W br 111 rc
 ht : Trn S0 W0 W
 sub : ∀ b, CmS bc bm C.code.length fv cv l b → S0 b ∨ W0.heap.size ≤ b
def Rn (B : Nat) (S0 : Nat → Prop) (W0 W : World) (P : CmP) (bc bm km M : Nat) (C : CmN) (fv : Value) (br : Nat) (rc : Array Value) : Prop := ∃ cv l, RnAt B S0 W0 W P bc bm km M C fv br rc cv l
theorem rnd_ne_cmp : (111 : TypeId) ≠ 103 := by decide
theorem rnd_ne_ins : (111 : TypeId) ≠ 143 := by decide
theorem rnd_ne_int : (111 : TypeId) ≠ 3 := by decide
section
variable {B : Nat} {S0 : Nat → Prop} {W0 W W' : World} {P : CmP} {bc bm km M : Nat} {C : CmN} {fv : Value} {br : Nat} {rc : Array Value}
theorem Rn.below (h : Rn B S0 W0 W P bc bm km M C fv br rc) (hb : Below W.heap.size W W') : Rn B S0 W0 W' P bc bm km M C fv br rc := by
 obtain ⟨cv, l, h⟩ := h
 exact ⟨cv, l, ⟨h.cm.below hb, h.kr.below hb h.kr.lt, h.ht.trans (Below.trn0 hb S0), h.sub⟩⟩
theorem RnAt.step {cv : Value} {l : Nat → InsA} (h : RnAt B S0 W0 W P bc bm km M C fv br rc cv l) {km' : Nat} {C' : CmN} {fv' cv' : Value} {l' : Nat → InsA} (hcm : CmAt B W' P bc bm km' M C' fv' cv' l') (hT : Trn (CmS bc bm C.code.length fv cv l) W W')
  (hsub : ∀ b, CmS bc bm C'.code.length fv' cv' l' b → CmS bc bm C.code.length fv cv l b ∨ W.heap.size ≤ b) : Rn B S0 W0 W' P bc bm km' M C' fv' br rc := by
 refine ⟨cv', l', ⟨hcm, hT.blk h.kr (h.cm.not_blk h.kr rnd_ne_cmp rnd_ne_ins rnd_ne_int), h.ht.step hT h.sub, fun b hb => ?_⟩⟩
 rcases hsub b hb with h1 | h1
 ·exact h.sub b h1
 ·exact .inr (Nat.le_trans h.ht.size h1)
theorem Rn.rcell (h : Rn B S0 W0 W P bc bm km M C fv br rc) {j : Nat} {v : Value} (hv : rc[j]? = some v) : W.cell? ⟨br, j, none⟩ = some v := by
 obtain ⟨cv, l, h⟩ := h
 exact h.kr.cell hv
theorem Rn.low (h : Rn B S0 W0 W P bc bm km M C fv br rc) (hB : B ≤ W0.heap.size) (hS : ∀ b, S0 b → B ≤ b) : Below B W0 W := by
 obtain ⟨cv, l, h⟩ := h
 exact h.ht.below hB (fun b hb hs => by have := hS b hs; omega)
theorem Rn.trn (h : Rn B S0 W0 W P bc bm km M C fv br rc) : Trn S0 W0 W := by
 obtain ⟨cv, l, h⟩ := h
 exact h.ht
/-- An instruction without addresses is emitted. -/
theorem Rn.emit (h : Rn B S0 W0 W P bc bm km M C fv br rc) (hlen : C.code.length ≤ 1000000) (x : InsN) (hx : x.ad = []) :
  Calls Tryz.prog 108 #[.pointer (some ⟨bc, 0, none⟩), insv x none 0] W fun e W' => (∃ vv, e = .returned vv) ∧ Rn B S0 W0 W' P bc bm km M ⟨C.at_, C.free, C.code ++ [x]⟩ fv br rc := by
 obtain ⟨cv, l, h⟩ := h
 refine (emit_any B W P bc bm km M C fv cv l h.cm hlen x none 0 (.inl ⟨rfl, rfl, hx⟩) (fun b hb => by obtain ⟨ad, h1, _⟩ := hb; cases h1)).mono ?_
 rintro e W' ⟨h1, cv', hcm, hT, hcv⟩
 refine ⟨h1, h.step hcm (hT.mono (fun b _ hb => hb.elim (fun e => .inl e) (fun e => .inr (.inr (.inr (.inl e)))))) (fun b hb => ?_)⟩
 rw [List.length_append, List.length_singleton] at hb
 rcases CmS.emit hcv b hb with h2 | h2 | h2
 ·exact .inl h2
 ·exact .inr h2
 ·obtain ⟨ad, h1, _⟩ := h2; cases h1
/-- The addresses of a group. -/
theorem Rn.addr (h : Rn B S0 W0 W P bc bm km M C fv br rc) (L : Nat) (hvl : P.vl = (L : Int)) (hw : 1 ≤ P.w ∧ P.w ≤ 16) (hh : 1 ≤ P.h ∧ P.h ≤ 16) (hL : 1 ≤ L ∧ L ≤ 16) (gr : Nat) (hgr : gr ≤ 256) (place : Int) (hpl : 0 ≤ place ∧ place ≤ 100000) :
  Calls Tryz.prog 109 #[.pointer (some ⟨bc, 0, none⟩), .int .i64 (gr : Int), .int .i64 place, .int .i64 0, .int .i64 0, .int .u8 0] W fun e W' => ∃ b, e = .returned (srow b L L) ∧ Rn B S0 W0 W' P bc bm km M C fv br rc ∧ W'.ownsRow B 3 1 (srow b L L) L (intL L (adrAt P.w P.h L gr place 0 0 0)) ∧ fv.ownBlock ≠ some b ∧ W0.heap.size ≤ b := by
 obtain ⟨cv, l, h⟩ := h
 refine (addresses_any W bc bm P.w P.h P.I P.vr P.vm L P.a P.n P.c fv cv (by have h := h.cm.c; unfold cmC at h; rw [hvl] at h; exact h) hw hh hL gr hgr place 0 0 0 hpl (by omega) (by omega) (by omega)).mono ?_
 rintro e W' ⟨b, rfl, hrow, hb⟩
 have hlo := hrow.lt b rfl
 refine ⟨b, rfl, Rn.below ⟨cv, l, h⟩ hb, jrow_weaken hrow (by have := h.cm.lo; have := h.cm.c.lt; omega), fun e => ?_, Nat.le_trans h.ht.size hlo.1⟩
 have := (h.cm.free.lt b e).2
 omega
/-- A store is emitted. -/
theorem Rn.store (h : Rn B S0 W0 W P bc bm km M C fv br rc) (hlen : C.code.length ≤ 1000000) (L gr : Nat) (place : Int) (b : Nat) (hrow : W.ownsRow B 3 1 (srow b L L) L (intL L (adrAt P.w P.h L gr place 0 0 0))) (hfb : fv.ownBlock ≠ some b) (hb0 : W0.heap.size ≤ b) :
  Calls Tryz.prog 108 #[.pointer (some ⟨bc, 0, none⟩), .agg #[.int .u8 2, .int .i64 0, .int .i64 0, .int .i64 0, .int .i64 0, .int .i64 0, .int .i64 0, .int .i64 0, .int .i64 0, .int .i64 0, .int .u8 0, .slice (some ⟨b, 0, none⟩) L L]] W fun e W' => (∃ vv, e = .returned vv) ∧ Rn B S0 W0 W' P bc bm km M ⟨C.at_, C.free, C.code ++ [insS P.w P.h L gr place]⟩ fv br rc := by
 obtain ⟨cv, l, h⟩ := h
 have hl : (insS P.w P.h L gr place).ad.length = L := adrN_len _ _ _ _ _ _ _ _
 have hy : AdAt B W ⟨insS P.w P.h L gr place, some ⟨b, 0, none⟩, L⟩ := .inr ⟨b, rfl, by
  show W.ownsRow B 3 1 (.slice (some ⟨b, 0, none⟩) (insS P.w P.h L gr place).ad.length L) (insS P.w P.h L gr place).ad.length ((adrN P.w P.h L gr place 0 0 0).map (Value.int .i64))
  rw [hl, adrN_row]; exact hrow⟩
 have hyf : ∀ b', AdBlk ⟨insS P.w P.h L gr place, some ⟨b, 0, none⟩, L⟩ b' → b = b' := fun b' hb' => by
  obtain ⟨ad, h1, h2⟩ := hb'; cases h1; exact h2
 have hem := emit_any B W P bc bm km M C fv cv l h.cm hlen (insS P.w P.h L gr place) (some ⟨b, 0, none⟩) L hy (fun b' hb' => by rw [← hyf b' hb']; exact hfb)
 unfold insv at hem
 rw [hl] at hem
 refine Calls.mono hem ?_
 rintro e W' ⟨h1, cv', hcm, hT, hcv⟩
 refine ⟨h1, ?_⟩
 have ht' := h.ht.step (hT.mono (T := CmS bc bm C.code.length fv cv l) (fun b _ hb => hb.elim (fun e => .inl e) (fun e => .inr (.inr (.inr (.inl e)))))) h.sub
 refine ⟨cv', _, ⟨hcm, hT.blk h.kr (fun hh => h.cm.not_blk h.kr rnd_ne_cmp rnd_ne_ins rnd_ne_int (hh.elim (fun e => .inl e) (fun e => .inr (.inr (.inr (.inl e)))))), ht', fun b' hb => ?_⟩⟩
 rw [List.length_append, List.length_singleton] at hb
 rcases CmS.emit hcv b' hb with h2 | h2 | h2
 ·exact h.sub b' h2
 ·exact .inr (Nat.le_trans h.ht.size h2)
 ·rw [← hyf b' h2]; exact .inr hb0
/-- A head is emitted. -/
theorem Rn.head (h : Rn B S0 W0 W P bc bm km M C fv br rc) (hlen : C.code.length ≤ 900000) (L : Nat) (hvl : P.vl = (L : Int)) (hw : 1 ≤ P.w ∧ P.w ≤ 16) (hh : 1 ≤ P.h ∧ P.h ≤ 16) (hL : 1 ≤ L ∧ L ≤ 16) (gr : Nat) (hgr : gr ≤ 256)
  (s : StepN) (hs : StepIn s) (hn : needB s = true) (ka sa : Option Addr) (kc sc : Nat) (hM : M < 100) (hop : ∀ m ∈ opsN s, (0 ≤ m ∧ m < M) ∧ 0 ≤ numF (C.at_ m) ∧ numF (C.at_ m) ≤ 100000) (hB : B ≤ W0.heap.size) (hS : ∀ b, S0 b → B ≤ b) (hta : Rd B W0 ka s.taps) (hbi : RdB B W0 sa s.bits) :
  Calls Tryz.prog 107 #[.pointer (some ⟨bc, 0, none⟩), stepv s ka kc sa sc, .int .i64 (gr : Int)] W fun e W' => (∃ vv, e = .returned vv) ∧ Rn B S0 W0 W' P bc bm km M ⟨C.at_, C.free, C.code ++ headC P.w P.h L gr C.at_ s⟩ fv br rc := by
 have hlow := h.low hB hS
 obtain ⟨cv, l, h⟩ := h
 refine (head_any B W P bc bm km M C fv cv l h.cm hlen L hvl hw hh hL gr hgr s hs hn ka sa kc sc hM hop (hta.below (Nat.le_refl _) hlow) (hbi.below (Nat.le_refl _) hlow)).mono ?_
 rintro e W' ⟨h1, cv', l', hcm, hT, hsub⟩
 exact ⟨h1, h.step hcm hT hsub⟩
end
end Go.Proofs.YtekiemlniegddaaGreat
namespace Go.Proofs.YtekiemlniegddaaGreat
open Go Go.Maps Go.RowKit Go.Shelf
theorem OwnF.run_lookok {P : Program} {K E t : TypeId} {n m : Nat} {F : Int → Option Lit} {w : World} {b : Nat} (h : OwnF P K E w b n F m) (hK : P.underlying K = some (.int .i64)) (ht : P.underlying t = some (.map K E)) (hE : P.underlying E = some (.int .i64)) (hz : (zeroValue E).run P w = .ok (.int .i64 0) w) (k : Int) (hk : (Lit.int .i64 k).wf = true) :
  (Instr.lookup t (.map (some b)) (.int .i64 k) true).run P w = .ok (.tuple #[.int .i64 (numF (F k)), .bool (F k).isSome]) w := by
 obtain ⟨D, h1, h2⟩ := h
 obtain ⟨v, ps, hrun, hv⟩ := h1.look_ok (int_keyed hK) ht hz (plainElem_int hE (by decide)) (keyOf_int_mk hK hk)
 obtain ⟨c, rfl, hc, hwc⟩ := plainElem_int_inv hE hv
 have hat := congrArg Prod.fst hc
 have e : numF (F k) = c := by
  cases hF : F k with
  | none => simp only at hat; rw [h2.none_at hk hF] at hat; injection hat with e1; injection e1 with _ e2
  | some v => simp only at hat; rw [h2.here k hk v hF] at hat; injection hat with e1; subst e1; rfl
 rw [hrun, h2.has hk, e]
section
variable {B : Nat} {W W' : World} {P : CmP} {bc bm km M : Nat} {C : CmN} {fv cv : Value} {l : Nat → InsA}
/-- A place is given back: the row of free places grows, the compiler's slice of it is written. -/
theorem CmAt.freeing (h : CmAt B W P bc bm km M C fv cv l) {v : Int} {fv' : Value} (hrow : W'.ownsRow B 3 1 fv' (C.free.length + 1) (C.free.map (Value.int .i64) ++ [.int .i64 v])) (hg : W.grownBy W' fv.ownBlock) (hnew : fv'.ownBlock = fv.ownBlock ∨ ∃ b, fv'.ownBlock = some b ∧ W.heap.size ≤ b) :
  CmAt B (W'.setCell ⟨bc, 8, none⟩ fv') P bc bm km M ⟨C.at_, C.free ++ [v], C.code⟩ fv' cv l ∧ Trn (fun b => b = bc ∨ fv.ownBlock = some b) W (W'.setCell ⟨bc, 8, none⟩ fv') := by
 have k1 := grown_trn hg (fun b => fv.ownBlock = some b) (fun b e => e)
 have k2 := setCell_trn W' ⟨bc, 8, none⟩ fv' (fun b => b = bc) rfl
 have hc1 := k1.blk h.c (fun e => h.c.not_row int_ne_cmp h.free e.symm)
 refine ⟨{ c := hc1.set 8 fv', at_ := ?_, free := ?_, code := ?_, ads := fun q hq => ?_, lo := h.lo }, (k1.mono (fun b _ e => .inr e)).trans (k2.mono (fun b _ e => .inl e))⟩
 ·exact (h.at_.trn k1 (h.at_.not_row h.free)).trn k2 (fun e => h.at_.not_cells h.c e.symm)
 ·have hr2 := k2.row hrow (fun b hb e => by subst e; exact hc1.not_row int_ne_cmp hrow hb.symm)
  rw [List.length_append, List.length_singleton, List.map_append]
  exact hr2
 ·have hd1 := k1.row h.code (fun b hb e => rows_apart h.free h.code int_ne_ins e hb)
  exact k2.row hd1 (fun b hb e => by subst e; exact h.c.not_row ins_ne_cmp h.code hb.symm)
 ·obtain ⟨h1, h2, h3⟩ := h.ads q hq
  refine ⟨h1, (h2.trn k1 (fun b hb e => h3 b hb e)).trn k2 (fun b hb e => ?_), fun b hb e => ?_⟩
  ·obtain ⟨_, _, _, cur, hcur⟩ := h2.blk hb
   subst e
   have := h.c
   unfold Blk at this
   rw [hcur] at this; injection this with this; injection this with _ this _; exact int_ne_cmp this.symm
  ·rcases hnew with e2 | ⟨b', e2, hb'⟩
   ·exact h3 b hb (e2 ▸ e)
   ·rw [e2] at e
    injection e with e; subst e
    have := (h2.blk hb).2.2.1
    omega
/-- An image's place is forgotten. -/
theorem CmAt.deld (h : CmAt B W P bc bm km M C fv cv l) {F' : FnL} (hF : OwnF Tryz.prog 3 3 W' bm km F' M) (hg : W.grownBy W' (some bm)) :
  CmAt B W' P bc bm km M ⟨F', C.free, C.code⟩ fv cv l ∧ Trn (fun b => b = bm) W W' := by
 have k1 := grown_trn hg (fun b => b = bm) (fun b e => by injection e with e; exact e.symm)
 have hcb := h.at_.not_cells h.c
 refine ⟨{ c := k1.blk h.c hcb, at_ := hF, free := k1.row h.free (fun b hb e => by subst e; exact h.at_.not_row h.free hb), code := k1.row h.code (fun b hb e => by subst e; exact h.at_.not_row h.code hb), ads := fun q hq => ?_, lo := h.lo }, k1⟩
 obtain ⟨h1, h2, h3⟩ := h.ads q hq
 refine ⟨h1, h2.trn k1 (fun b hb e => ?_), h3⟩
 obtain ⟨_, _, _, cur, hcur⟩ := h2.blk hb
 exact h.at_.not_cells hcur e
end
theorem pip_ne_cmp : (24 : TypeId) ≠ 103 := by decide
theorem pip_ne_ins : (24 : TypeId) ≠ 143 := by decide
theorem pip_ne_int : (24 : TypeId) ≠ 3 := by decide
theorem ptr_ne_int : (100 : TypeId) ≠ 3 := by decide
/-- The compiler, the captured cells and the round's box. -/
structure SwAt (B : Nat) (S0 : Nat → Prop) (W0 W : World) (P : CmP) (bc bm km M : Nat) (C : CmN) (bp bx br : Nat) (rc : Array Value) (fv cv : Value) (l : Nat → InsA) : Prop where
 cm : CmAt B W P bc bm km M C fv cv l
 kp : Blk W bp 24 #[.int .i64 P.w, .int .i64 P.h, .int .i64 P.I, .slice P.a P.n P.c]
 kx : Blk W bx 100 #[.pointer (some ⟨bc, 0, none⟩)]
 kr : Blk W br 111 rc
 ht : Trn S0 W0 W
 sub : ∀ b, CmS bc bm C.code.length fv cv l b → S0 b ∨ W0.heap.size ≤ b
def Sw (B : Nat) (S0 : Nat → Prop) (W0 W : World) (P : CmP) (bc bm km M : Nat) (C : CmN) (bp bx br : Nat) (rc : Array Value) : Prop := ∃ fv cv l, SwAt B S0 W0 W P bc bm km M C bp bx br rc fv cv l
section
variable {B : Nat} {S0 : Nat → Prop} {W0 W W' : World} {P : CmP} {bc bm km M : Nat} {C : CmN} {bp bx br : Nat} {rc : Array Value}
theorem SwAt.below {fv cv : Value} {l : Nat → InsA} (h : SwAt B S0 W0 W P bc bm km M C bp bx br rc fv cv l) (hb : Below W.heap.size W W') : SwAt B S0 W0 W' P bc bm km M C bp bx br rc fv cv l :=
 ⟨h.cm.below hb, h.kp.below hb h.kp.lt, h.kx.below hb h.kx.lt, h.kr.below hb h.kr.lt, h.ht.trans (Below.trn0 hb S0), h.sub⟩
theorem SwAt.step {fv cv : Value} {l : Nat → InsA} (h : SwAt B S0 W0 W P bc bm km M C bp bx br rc fv cv l) {km' : Nat} {C' : CmN} {fv' cv' : Value} {l' : Nat → InsA} (hcm : CmAt B W' P bc bm km' M C' fv' cv' l') (hT : Trn (CmS bc bm C.code.length fv cv l) W W')
  (hsub : ∀ b, CmS bc bm C'.code.length fv' cv' l' b → CmS bc bm C.code.length fv cv l b ∨ W.heap.size ≤ b) : SwAt B S0 W0 W' P bc bm km' M C' bp bx br rc fv' cv' l' := by
 refine ⟨hcm, hT.blk h.kp (h.cm.not_blk h.kp pip_ne_cmp pip_ne_ins pip_ne_int), hT.blk h.kx (h.cm.not_blk h.kx ptr_ne_cmp ptr_ne_ins ptr_ne_int), hT.blk h.kr (h.cm.not_blk h.kr rnd_ne_cmp rnd_ne_ins rnd_ne_int), h.ht.step hT h.sub, fun b hb => ?_⟩
 rcases hsub b hb with h1 | h1
 ·exact h.sub b h1
 ·exact .inr (Nat.le_trans h.ht.size h1)
/-- A place given back. -/
theorem SwAt.freeing {fv cv : Value} {l : Nat → InsA} (h : SwAt B S0 W0 W P bc bm km M C bp bx br rc fv cv l) {v : Int} {fv' : Value} (hrow : W'.ownsRow B 3 1 fv' (C.free.length + 1) (C.free.map (Value.int .i64) ++ [.int .i64 v])) (hg : W.grownBy W' fv.ownBlock) (hnew : fv'.ownBlock = fv.ownBlock ∨ ∃ b, fv'.ownBlock = some b ∧ W.heap.size ≤ b) :
  SwAt B S0 W0 (W'.setCell ⟨bc, 8, none⟩ fv') P bc bm km M ⟨C.at_, C.free ++ [v], C.code⟩ bp bx br rc fv' cv l := by
 obtain ⟨h1, h2⟩ := h.cm.freeing hrow hg hnew
 refine h.step h1 (h2.mono (fun b _ hb => hb.elim (fun e => .inl e) (fun e => .inr (.inr (.inl e))))) (fun b hb => ?_)
 rcases hb with e | e | e | e | e
 ·exact .inl (.inl e)
 ·exact .inl (.inr (.inl e))
 ·rcases hnew with e2 | ⟨b', e2, hb'⟩
  ·exact .inl (.inr (.inr (.inl (e2 ▸ e))))
  ·rw [e2] at e; injection e with e; subst e; exact .inr hb'
 ·exact .inl (.inr (.inr (.inr (.inl e))))
 ·exact .inl (.inr (.inr (.inr (.inr e))))
theorem SwAt.deld {fv cv : Value} {l : Nat → InsA} (h : SwAt B S0 W0 W P bc bm km M C bp bx br rc fv cv l) {F' : FnL} (hF : OwnF Tryz.prog 3 3 W' bm km F' M) (hg : W.grownBy W' (some bm)) :
  SwAt B S0 W0 W' P bc bm km M ⟨F', C.free, C.code⟩ bp bx br rc fv cv l := by
 obtain ⟨h1, h2⟩ := h.cm.deld hF hg
 exact h.step h1 (h2.mono (fun b _ hb => .inr (.inl hb))) (fun b hb => .inl hb)
theorem Sw.xcell (h : Sw B S0 W0 W P bc bm km M C bp bx br rc) : W.cell? ⟨bx, 0, none⟩ = some (.pointer (some ⟨bc, 0, none⟩)) := by
 obtain ⟨fv, cv, l, h⟩ := h
 exact h.kx.cell rfl
theorem Sw.mcell (h : Sw B S0 W0 W P bc bm km M C bp bx br rc) : W.cell? ⟨bc, 7, none⟩ = some (.map (some bm)) := by
 obtain ⟨fv, cv, l, h⟩ := h
 exact h.cm.c.cell rfl
theorem Sw.map (h : Sw B S0 W0 W P bc bm km M C bp bx br rc) : OwnF Tryz.prog 3 3 W bm km C.at_ M := by
 obtain ⟨fv, cv, l, h⟩ := h
 exact h.cm.at_
theorem Sw.trn (h : Sw B S0 W0 W P bc bm km M C bp bx br rc) : Trn S0 W0 W := by
 obtain ⟨fv, cv, l, h⟩ := h
 exact h.ht
end
end Go.Proofs.YtekiemlniegddaaGreat

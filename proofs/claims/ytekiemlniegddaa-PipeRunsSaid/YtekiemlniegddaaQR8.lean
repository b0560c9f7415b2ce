/- Contracts and laws (McE). -/
import Derived.Maps.AppendAt
import Derived.Test.YtekiemlniegddaaQR6
import Derived.Test.YtekiemlniegddaaQR7
set_option linter.unusedVariables false
set_option linter.unusedSimpArgs false
namespace Go.Proofs.Ytekiemlniegddaa
open Go Go.RowKit Go.Shelf
def doL : List Nat := [0, 78, 79, 80, 81, 82, 83]
def doF (k : Nat) : Nat := doL[k]?.getD 0
theorem do_fn {k : Nat} (h1 : 1 ≤ k) (h7 : k < 7) : (needAt k).fn = .func (.func (doF k)) #[] #[] := by
 match k, h1, h7 with
 | 1, _, _ => rfl
 | 2, _, _ => rfl
 | 3, _, _ => rfl
 | 4, _, _ => rfl
 | 5, _, _ => rfl
 | 6, _, _ => rfl
theorem enters_do1 : ∀ args w, (callFunc 78 args).run Try.prog w = .ok (.enter 78 args) w := enters_of Try.func78 (by kernel_rfl) rfl
theorem enters_do2 : ∀ args w, (callFunc 79 args).run Try.prog w = .ok (.enter 79 args) w := enters_of Try.func79 (by kernel_rfl) rfl
theorem enters_do3 : ∀ args w, (callFunc 80 args).run Try.prog w = .ok (.enter 80 args) w := enters_of Try.func80 (by kernel_rfl) rfl
theorem enters_do4 : ∀ args w, (callFunc 81 args).run Try.prog w = .ok (.enter 81 args) w := enters_of Try.func81 (by kernel_rfl) rfl
theorem enters_do5 : ∀ args w, (callFunc 82 args).run Try.prog w = .ok (.enter 82 args) w := enters_of Try.func82 (by kernel_rfl) rfl
theorem enters_do6 : ∀ args w, (callFunc 83 args).run Try.prog w = .ok (.enter 83 args) w := enters_of Try.func83 (by kernel_rfl) rfl
theorem enters_do {k : Nat} (h1 : 1 ≤ k) (h7 : k < 7) : ∀ args w, (callFunc (doF k) args).run Try.prog w = .ok (.enter (doF k) args) w := by
 match k, h1, h7 with
 | 1, _, _ => exact enters_do1
 | 2, _, _ => exact enters_do2
 | 3, _, _ => exact enters_do3
 | 4, _, _ => exact enters_do4
 | 5, _, _ => exact enters_do5
 | 6, _, _ => exact enters_do6
/-- What an instruction's function does. -/
theorem do_any (v : VecN) (hv : VecIn v) (L R N : Nat) (hL : v.lanes = (L : Int)) (hR : v.regs = (R : Int)) (hN : v.mem = (N : Int)) (x : InsN) (hx : insB v x = true) (k : Nat) (hO : x.op = (k : Int)) (ia : Option Addr) (ic : Nat)
  (B bm : Nat) (M : MacN) (gr gm cr cm : Nat) (G C : Nat → Nat) (w : World) (hM : MacAt B w bm L R N M gr gm cr cm G C) (hr : RegB L R M) (hra : Rd B w ia x.ad) (hBw : B ≤ w.heap.size) :
  Calls Try.prog (doF k) #[.pointer (some ⟨bm, 0, none⟩), insv x ia ic] w fun e w' => (∃ v, e = .returned v) ∧ ∃ G' C', C' R = C R ∧ MacAt B w' bm L R N (stepM L x M) gr gm cr cm G' C' ∧ Below B w w' := by
 obtain ⟨v1, v2, v3, v4, v5, v6⟩ := hv
 have hop := ins_op hx
 have hl : 1 ≤ L ∧ L ≤ 16 := by omega
 have hRN : R ≤ 16 ∧ N ≤ 8192 := by omega
 have adr : adrB v x.ad = true → x.ad.length = L ∧ ∀ k, k < L → -1 ≤ adOf x k ∧ adOf x k < N := fun h => by
  obtain ⟨h1, h2⟩ := adr_in h
  have : x.ad.length = L := by omega
  exact ⟨this, fun k hk => by have := h2 k (by omega); omega⟩
 have hk : k = 1 ∨ k = 2 ∨ k = 3 ∨ k = 4 ∨ k = 5 ∨ k = 6 := by omega
 unfold stepM
 rcases hk with rfl | rfl | rfl | rfl | rfl | rfl
 ·obtain ⟨⟨d1, d2⟩, _, ha⟩ := ins_1 hx hO
  obtain ⟨a1, a2⟩ := adr ha
  rw [if_pos (by omega)]
  exact (mload_any B bm L R N M gr gm cr cm G C w hM hl hRN x ia ic x.d.toNat (by omega) (by omega) a1 hra a2 hBw).mono fun e w' h => ⟨h.1, G, C, rfl, h.2.1, h.2.2⟩
 ·obtain ⟨⟨d1, d2⟩, ha⟩ := ins_2 hx hO
  obtain ⟨a1, a2⟩ := adr ha
  rw [if_neg (by omega), if_pos (by omega)]
  exact (mstore_any B bm L R N M gr gm cr cm G C w hM hl hRN x ia ic x.a.toNat (by omega) (by omega) a1 hra a2 hBw).mono fun e w' h => ⟨h.1, G, C, rfl, h.2.1, h.2.2⟩
 ·obtain ⟨⟨d1, d2⟩, _⟩ := ins_3 hx hO
  rw [if_neg (by omega), if_neg (by omega), if_pos (by omega)]
  exact (mset_any B bm L R N M gr gm cr cm G C w hM hl hRN x ia ic x.d.toNat (by omega) (by omega) hBw).mono fun e w' h => ⟨h.1, G, C, rfl, h.2.1, h.2.2⟩
 ·obtain ⟨⟨d1, d2⟩, ⟨a1, a2⟩, hp⟩ := ins_4 hx hO
  rw [if_neg (by omega), if_neg (by omega), if_neg (by omega), if_pos (by omega)]
  exact mpoint_any B bm L R N M gr gm cr cm G C w hM hl hRN x ia ic x.d.toNat x.a.toNat (by omega) (by omega) (by omega) (by omega) hp hBw
 ·obtain ⟨⟨d1, d2⟩, ⟨a1, a2⟩, ⟨b1, b2⟩, hh⟩ := ins_5 hx hO
  rw [if_neg (by omega), if_neg (by omega), if_neg (by omega), if_neg (by omega), if_pos (by omega)]
  exact mzip_any B bm L R N M gr gm cr cm G C w hM hl hRN x ia ic x.d.toNat x.a.toNat x.b.toNat (by omega) (by omega) (by omega) (by omega) (by omega) (by omega) hh hBw
 ·obtain ⟨⟨d1, d2⟩, ⟨a1, a2⟩, hv⟩ := ins_6 hx hO
  rw [if_neg (by omega), if_neg (by omega), if_neg (by omega), if_neg (by omega), if_neg (by omega), if_pos (by omega)]
  exact (madd_any B bm L R N M gr gm cr cm G C w hM hl hRN x ia ic x.d.toNat x.a.toNat (by omega) (by omega) (by omega) (by omega) hv.1 hv.2 (hr _ (by omega)) hBw).mono fun e w' h => ⟨h.1, G, C, rfl, h.2.1, h.2.2⟩
/-- A machine whose registers are being made: k of them are there. -/
structure MacP (B : Nat) (W : World) (bm lanes k N : Nat) (v : Value) (gm cm : Nat) (G C : Nat → Nat) : Prop where
 m : Blk W bm 88 #[.int .i64 (lanes : Int), v, srow gm N cm]
 rr : W.ownsRow B 27 1 v k (rowsL k lanes G C)
 rg : ∀ r, r < k → W.ownsRow B 3 1 (srow (G r) lanes (C r)) lanes (intL lanes fun _ => 0)
 mm : W.ownsRow B 3 1 (srow gm N cm) N (intL N fun _ => 0)
 inj : ∀ r s, r < k → s < k → G r = G s → r = s
 ne : ∀ r, r < k → G r ≠ gm
 hb : B ≤ bm
theorem MacP.later {B : Nat} {W W' : World} {bm lanes k N : Nat} {v : Value} {gm cm : Nat} {G C : Nat → Nat} (h : MacP B W bm lanes k N v gm cm G C) (hb : Below W.heap.size W W') : MacP B W' bm lanes k N v gm cm G C :=
 ⟨h.m.below hb h.m.lt, row_below h.rr hb, fun r hr => row_below (h.rg r hr) hb, row_below h.mm hb, h.inj, h.ne, h.hb⟩
/-- The machine is made. -/
theorem MacP.mac {B : Nat} {W : World} {bm lanes R N : Nat} {v : Value} {gm cm : Nat} {G C : Nat → Nat} (h : MacP B W bm lanes R N v gm cm G C) (hR : 0 < R) (hC : C R = 0) : ∃ gr cr, v = srow gr R cr ∧ MacAt B W bm lanes R N ⟨fun _ _ => 0, fun _ => 0⟩ gr gm cr cm G C := by
 obtain ⟨a, c, rfl⟩ := row_slice h.rr
 obtain ⟨g, rfl⟩ := row_someP h.rr hR
 exact ⟨g, c, rfl, h.m, h.rr, h.rg, h.mm, h.inj, h.ne, h.hb, fun h0 => absurd hC h0⟩
theorem row_apart {W : World} {B1 B2 : Nat} {e1 e2 : TypeId} {s1 s2 g n c k1 k2 : Nat} {v : Value} {xs ys : List Value} (h1 : W.ownsRow B1 e1 s1 (srow g n c) k1 xs) (h2 : W.ownsRow B2 e2 s2 v k2 ys) (he : e1 ≠ e2) : some g ≠ v.ownBlock := by
 rcases h2.2 with ⟨h3, _⟩ | ⟨g', cap, cur, h3, _⟩
 ·rw [h3]; intro h; cases h
 ·subst h3
  intro h
  have hgg : g = g' := by injection h
  exact rows_ne h1 h2 he hgg
theorem rowsL_succ (k lanes g c : Nat) (G C : Nat → Nat) : rowsL (k + 1) lanes (fun r => if r = k then g else G r) (fun r => if r = k then c else C r) = rowsL k lanes G C ++ [srow g lanes c] := by
 unfold rowsL
 rw [List.range_succ, List.map_append, List.map_cons, List.map_nil]
 simp only [if_true]
 congr 1
 exact List.map_congr_left fun r hr => by have := List.mem_range.1 hr; rw [if_neg (by omega), if_neg (by omega)]
theorem MacP.push {B : Nat} {W W1 W2 : World} {bm L k N : Nat} {v v' : Value} {gm cm g : Nat} {G C : Nat → Nat} (h : MacP B W bm L k N v gm cm G C) (hb1 : Below W.heap.size W W1) (hg : W.heap.size ≤ g)
  (hnew : W1.ownsRow B 3 1 (srow g L L) L (intL L fun _ => 0)) (hrow : W2.ownsRow B 27 1 v' (k + 1) (rowsL k L G C ++ [srow g L L])) (hgr : W1.grownBy W2 v.ownBlock)
  (hat : v'.ownBlock = v.ownBlock ∨ v'.ownBlock = some W1.heap.size) (hB : B ≤ W.heap.size) :
  MacP B (W2.setCell ⟨bm, 1, none⟩ v') bm L (k + 1) N v' gm cm (fun r => if r = k then g else G r) (fun r => if r = k then L else C r) ∧ Below B W (W2.setCell ⟨bm, 1, none⟩ v') := by
 have h1 := h.later hb1
 have hbm := h.m.lt
 have n1 : some bm ≠ v.ownBlock := h1.m.not_row (by decide) h1.rr
 have n2 : some bm ≠ v'.ownBlock := by
  rcases hat with e | e
  ·rw [e]; exact n1
  ·rw [e]; have := h1.m.lt; intro h; simp at h; omega
 have low : ∀ {g n c : Nat} {xs : List Value}, W.ownsRow B 3 1 (srow g n c) n xs → g < W.heap.size := fun h => (h.lt _ rfl).2
 refine ⟨⟨(h1.m.kept hgr n1).set 1 v', ?_, fun r hr => ?_, ?_, fun r s hr hs e => ?_, fun r hr => ?_, h.hb⟩, ?_⟩
 ·rw [rowsL_succ]
  exact row_setCell hrow (a := ⟨bm, 1, none⟩) n2 _
 ·by_cases e : r = k
  ·rw [if_pos e, if_pos e]
   exact row_setCell (hnew.kept hgr (.inr (row_apart hnew h1.rr (by decide)))) (a := ⟨bm, 1, none⟩) (some_ne (show bm ≠ g by omega)) _
  ·rw [if_neg e, if_neg e]
   have h2 := h1.rg r (by omega)
   have h3 := low (h.rg r (by omega))
   exact row_setCell (h2.kept hgr (.inr (row_apart h2 h1.rr (by decide)))) (a := ⟨bm, 1, none⟩) (h1.m.not_row (by decide) h2) _
 ·exact row_setCell (h1.mm.kept hgr (.inr (row_apart h1.mm h1.rr (by decide)))) (a := ⟨bm, 1, none⟩) (h1.m.not_row (by decide) h1.mm) _
 ·by_cases e1 : r = k
  ·by_cases e2 : s = k
   ·omega
   ·rw [if_pos e1, if_neg e2] at e; have := low (h.rg s (by omega)); omega
  ·by_cases e2 : s = k
   ·rw [if_neg e1, if_pos e2] at e; have := low (h.rg r (by omega)); omega
   ·rw [if_neg e1, if_neg e2] at e; exact h.inj r s (by omega) (by omega) e
 ·by_cases e : r = k
  ·rw [if_pos e]; have := low h.mm; omega
  ·rw [if_neg e]; exact h.ne r (by omega)
 ·exact ((hb1.mono hB).grown hgr (by have := hb1.size; omega) (fun j e => (h1.rr.lt j e).1)).setCell h.hb _
theorem put_list {N o : Nat} {xs : List Int} {mem : Nat → Int} (h : o + xs.length ≤ N) : (intL N mem).take o ++ xs.map (Value.int .i64) ++ (intL N mem).drop (o + xs.length) = intL N (putImg (o : Int) xs mem) := by
 refine List.ext_getElem? fun i => ?_
 have e1 : ((intL N mem).take o).length = o := by rw [List.length_take, intL_len]; omega
 have hm : (xs.map (Value.int .i64)).length = xs.length := List.length_map _
 unfold putImg
 rw [List.append_assoc]
 by_cases hi : i < o
 ·rw [List.getElem?_append_left (by omega), List.getElem?_take, if_pos hi, intL_at (by omega), intL_at (by omega), if_neg (by omega)]
 rw [List.getElem?_append_right (by omega), e1]
 by_cases hi2 : i < o + xs.length
 ·rw [List.getElem?_append_left (by omega), List.getElem?_map, intL_at (by omega), if_pos ⟨by omega, by omega, by omega⟩]
  unfold px
  rw [show ((i : Int) - (o : Int)).toNat = i - o by omega, List.getElem?_eq_getElem (show i - o < xs.length by omega)]
  rfl
 rw [List.getElem?_append_right (by omega), hm, List.getElem?_drop, show o + xs.length + (i - o - xs.length) = i by omega]
 by_cases hi3 : i < N
 ·rw [intL_at hi3, intL_at hi3, if_neg (by omega)]
 ·rw [List.getElem?_eq_none (by rw [intL_len]; omega), List.getElem?_eq_none (by rw [intL_len]; omega)]
theorem grownBy_setRow (w : World) (g : Nat) (cs : Array Value) : w.grownBy (w.setRow g cs) (some g) :=
 ⟨rfl, rfl, rfl, by simp, fun k _ hne => setRow_other w g k cs (fun e => hne (by rw [e]))⟩
/-- An image is copied into the memory. -/
theorem MacAt.copied {B : Nat} {W : World} {bm L R N : Nat} {M : MacN} {gr gm cr : Nat} {G C : Nat → Nat} (h : MacAt B W bm L R N M gr gm cr N G C) {o : Nat} {xs : List Int} (ho : o + xs.length ≤ N) (hN : N ≤ 8192) (hB : B ≤ W.heap.size) :
  MacAt B (W.setRow gm (((intL N M.mem).toArray.toList.take o ++ xs.map (Value.int .i64) ++ (intL N M.mem).toArray.toList.drop (o + (xs.map (Value.int .i64)).length)).toArray)) bm L R N ⟨M.regs, putImg (o : Int) xs M.mem⟩ gr gm cr N G C ∧
   Below B W (W.setRow gm (((intL N M.mem).toArray.toList.take o ++ xs.map (Value.int .i64) ++ (intL N M.mem).toArray.toList.drop (o + (xs.map (Value.int .i64)).length)).toArray)) := by
 have hw := row_whole h.mm
 have hlow := (h.mm.lt gm rfl).1
 rw [List.length_map]
 show MacAt B (W.setRow gm (((intL N M.mem).take o ++ xs.map (Value.int .i64) ++ (intL N M.mem).drop (o + xs.length)).toArray)) bm L R N ⟨M.regs, putImg (o : Int) xs M.mem⟩ gr gm cr N G C ∧ Below B W (W.setRow gm (((intL N M.mem).take o ++ xs.map (Value.int .i64) ++ (intL N M.mem).drop (o + xs.length)).toArray))
 rw [put_list ho]
 have hg := grownBy_setRow W gm (intL N (putImg (o : Int) xs M.mem)).toArray
 have hne := h.m.not_row (by decide) h.mm
 refine ⟨⟨h.m.kept hg hne, h.rr.kept hg (.inr (some_ne (rows_ne h.mm h.rr (by decide)).symm)), fun r hr => (h.rg r hr).kept hg (.inr (some_ne (h.ne r hr))), ?_, h.inj, h.ne, h.hb, fun h0 => (h.gs h0).kept hg ((h.gs h0).not_row (by decide) h.mm)⟩, below_setRow (Below.refl _ _) hlow _⟩
 refine ⟨by rw [intL_len, Nat.mul_one], .inr ⟨gm, N, _, rfl, hlow, setRow_heap W gm _ _ _ _ hw, Nat.le_refl _, by unfold maxLen; omega, by simp [intL_len], ?_⟩⟩
 rw [List.take_of_length_le (by simp [intL_len])]
theorem step_make_fullP {P : Program} {ops : Array Oper} {o : Oper} {a : Act} {w : World} {K : Act → World → Prop} {Q : Exit → Act → World → Prop} {E : Prop}
  (hg : o.guard = none) (l c : Operand) (t : TypeId) (hop : o.op = Op.makeSlice t l c) (base : Nat) (e : TypeId) (i : TypeInfo) (z : Value) (size : Nat) (h1 : P.underlying t = some (.slice e)) (h2 : P.info? e = some i) (h3 : i.zero = some z) (h4 : i.size = size)
  (kl kc : IntKind) (m : Nat) (hl : a.eval l = .int kl (m : Int)) (hc : a.eval c = .int kc (m : Int)) (b2 : i.bytes * m ≤ 281474976710656) (b3 : m ≤ maxLen) (b4 : base ≤ w.heap.size)
  (hK : ∀ w', w'.ownsRow base e size (.slice (some ⟨w.heap.size, 0, none⟩) m m) m (madeCells z.cells (m * size)).toList → w.grownBy w' none → K (a.put o.dst (.slice (some ⟨w.heap.size, 0, none⟩) m m)) w') :
  if Region.wanted o (yielded ops a.tmps) = true then Oper.wp P o a w K Q else E := by
 have hw : Region.wanted o (yielded ops a.tmps) = true := by simp [Region.wanted, hg]
 rw [if_pos hw]
 obtain ⟨w', hrun, r1, r2⟩ := run_make_full (P := P) w base t e i z size h1 h2 h3 h4 kl kc m b2 b3 b4
 unfold Oper.wp
 simp [execOp, hop, hl, hc, hrun, Result.andThen]
 exact hK w' r1 r2
theorem step_append_atP {P : Program} {ops : Array Oper} {o : Oper} {a : Act} {w : World} {K : Act → World → Prop} {Q : Exit → Act → World → Prop} {E : Prop}
  (hg : o.guard = none) (s x : Operand) (t : TypeId) (hop : o.op = Op.call { callee := Callee.builtin Builtin.append, args := #[s, x], argTypes := #[t, t] })
  (base : Nat) (e : TypeId) (i : TypeInfo) (z : Value) (size bytes : Nat) (h1 : P.underlying t = some (.slice e)) (h2 : P.info? e = some i) (h3 : i.zero = some z) (h4 : i.size = size) (h5 : i.bytes = bytes) (h6 : z.cells.size = size) (h7 : 0 < size)
  (v : Value) (k : Nat) (xs : List Value) (hs : a.eval s = v) (hown : w.ownsRow base e size v k xs) (ad : Addr) (m c : Nat) (news : List Value) (hx : a.eval x = .slice (some ad) m c) (hn : news.length = m * size)
  (hc : ∀ j u, news[j]? = some u → w.cell? (ad.add j) = some u) (h1c : ∀ u ∈ news, u.oneCell' = true) (b1 : k + m ≤ maxLen) (b2 : (k + m) * bytes ≤ 140737488355328) (b3 : base ≤ w.heap.size)
  (hK : ∀ v' w', w'.ownsRow base e size v' (k + m) (xs ++ news) → w.grownBy w' v.ownBlock → (v'.ownBlock = v.ownBlock ∨ v'.ownBlock = some w.heap.size) → K (a.put o.dst v') w') :
  if Region.wanted o (yielded ops a.tmps) = true then Oper.wp P o a w K Q else E := by
 have hw : Region.wanted o (yielded ops a.tmps) = true := by simp [Region.wanted, hg]
 rw [if_pos hw]
 obtain ⟨v', w', hrun, r1, r2, r3, r4⟩ := run_append_own_at (P := P) w base t o.type e i z size bytes h1 h2 h3 h4 h5 h6 h7 v k xs hown ad m c news hn hc h1c b1 b2 b3
 unfold Oper.wp
 simp [execOp, hop, resolve, invoke, builtin, hs, hx, hrun, Result.andThen]
 exact hK v' w' r1 r2 r4
theorem info_row : (Try.prog.info? 27).map (fun i => (i.zero, i.size, i.bytes)) = some (some (.slice none 0 0), 1, 24) := by kernel_rfl
theorem info_num : (Try.prog.info? 3).map (fun i => (i.zero, i.size, i.bytes)) = some (some (.int .i64 0), 1, 8) := by kernel_rfl
theorem made_row (n : Nat) : (madeCells (Value.int .i64 0).cells (n * 1)).toList = intL n fun _ => 0 := by
 unfold intL
 refine List.ext_getElem (by simp [size_madeCells]) fun i h1 h2 => ?_
 simp [madeCells, Value.cells, Nat.mod_one]
/-- The table lies behind the machine. -/
theorem MacAt.guest {B : Nat} {W : World} {bm L R N : Nat} {M : MacN} {gr gm cr cm bT : Nat} {G C : Nat → Nat} (h : MacAt B W bm L R N M gr gm cr cm G C) (kT : Blk W bT 92 tabC) : MacAt B W bm L R N M gr gm cr cm G (fun r => if r = R then bT else C r) := by
 have hrow : rowsL R L G (fun r => if r = R then bT else C r) = rowsL R L G C := by
  unfold rowsL
  exact List.map_congr_left fun r hr => by have := List.mem_range.1 hr; show srow (G r) L (if r = R then bT else C r) = _; rw [if_neg (by omega)]
 refine ⟨h.m, hrow.symm ▸ h.rr, fun r hr => ?_, h.mm, h.inj, h.ne, h.hb, fun _ => ?_⟩
 ·show W.ownsRow B _ 1 (srow (G r) L (if r = R then bT else C r)) L _
  rw [if_neg (by omega)]; exact h.rg r hr
 ·show Blk W (if R = R then bT else C R) _ _
  rw [if_pos rfl]; exact kT
theorem memN_bd {ms : List PicN} {ats : List Int} {n : Nat} (h : ∀ k, k < n → allIn (-2147483648) 2147483648 (picAt ms k).px = true) : ∀ k, k ≤ n → ∀ i, -2147483648 ≤ memN ats ms k i ∧ memN ats ms k i ≤ 2147483648
 | 0, _, i => by show -2147483648 ≤ (0 : Int) ∧ (0 : Int) ≤ 2147483648; omega
 | k + 1, hk, i => by
  show -2147483648 ≤ putImg (ats[k]?.getD 0) (picAt ms k).px (memN ats ms k) i ∧ putImg (ats[k]?.getD 0) (picAt ms k).px (memN ats ms k) i ≤ 2147483648
  unfold putImg
  split
  ·exact px_bd (h k (by omega)) _
  ·exact memN_bd h k (by omega) i
theorem run_bd (v : VecN) (l : List InsN) (hl : ∀ x ∈ l, insB v x = true) (M : MacN) (hr : RegB v.lanes.toNat v.regs.toNat M) (hm : MemB v.mem.toNat M) : RegB v.lanes.toNat v.regs.toNat (runM v.lanes.toNat l M) ∧ MemB v.mem.toNat (runM v.lanes.toNat l M) := by
 induction l generalizing M with
 | nil => exact ⟨hr, hm⟩
 | cons x l ih =>
  rw [runM_cons]
  obtain ⟨h1, h2⟩ := step_bd v x (hl x (by simp)) M hr hm
  exact ih (fun y hy => hl y (by simp [hy])) _ h1 h2
theorem runM_take (L : Nat) (l : List InsN) (M : MacN) (k : Nat) (hk : k < l.length) : runM L (l.take (k + 1)) M = stepM L (insAt l k) (runM L (l.take k) M) := by
 rw [List.take_succ_eq_append_getElem hk, runM_app, runM_cons, runM_nil]
 unfold insAt
 rw [List.getElem?_eq_getElem hk]
 rfl
end Go.Proofs.Ytekiemlniegddaa

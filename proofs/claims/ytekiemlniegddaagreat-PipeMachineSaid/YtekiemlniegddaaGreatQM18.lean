/- Contracts and laws (PcX, OwI, MvW). -/
import Derived.Deep.WholeRow
import Derived.Test.YtekiemlniegddaaGreatQM15
import Derived.Test.YtekiemlniegddaaGreatQM13
set_option linter.unusedVariables false
set_option linter.unusedSimpArgs false
namespace Go.Proofs.YtekiemlniegddaaGreat
open Go Go.RowKit Go.Shelf
def movAd (L n base g : Nat) : List Int := (List.range L).map fun j => if g * L + j < n then ((base + (g * L + j) : Nat) : Int) else -1
def movLd (L n fr g : Nat) : InsN := ⟨1, 0, 0, 0, 0, noPt, 0, movAd L n fr g⟩
def movSt (L n ds g : Nat) : InsN := ⟨2, 0, 0, 0, 0, noPt, 0, movAd L n ds g⟩
def movL (L n fr ds : Nat) : Nat → List InsN
 | 0 => []
 | g + 1 => movL L n fr ds g ++ [movLd L n fr g, movSt L n ds g]
section
variable {L n fr ds : Nat}
theorem movL_len : ∀ g, (movL L n fr ds g).length = 2 * g
 | 0 => rfl
 | g + 1 => by rw [movL, List.length_append, movL_len g]; simp; omega
theorem movAd_len (base g : Nat) : (movAd L n base g).length = L := by simp [movAd]
theorem movAd_at {base g j : Nat} (hj : j < L) : (movAd L n base g)[j]?.getD 0 = if g * L + j < n then ((base + (g * L + j) : Nat) : Int) else -1 := by
 unfold movAd; rw [List.getElem?_map, List.getElem?_range hj]; rfl
theorem sto_mov {g : Nat} (v mem : Nat → Int) : ∀ k, k ≤ L → ∀ i, stoM (adOf (movSt L n ds g)) v mem k i = if ds + g * L ≤ i ∧ i < ds + g * L + k ∧ i < ds + n then v (i - (ds + g * L)) else mem i
 | 0, _, i => by rw [if_neg (by omega)]; rfl
 | k + 1, hk, i => by
  have ih := sto_mov (g := g) v mem k (by omega) i
  have ea : adOf (movSt L n ds g) k = if g * L + k < n then ((ds + (g * L + k) : Nat) : Int) else -1 := movAd_at (by omega)
  show (if 0 ≤ adOf (movSt L n ds g) k ∧ (i : Int) = adOf (movSt L n ds g) k then v k else stoM (adOf (movSt L n ds g)) v mem k i) = _
  rw [ea, ih]
  obtain ⟨q, hq⟩ : ∃ q, g * L = q := ⟨_, rfl⟩
  rw [hq]
  by_cases h : q + k < n
  ·rw [if_pos h]
   by_cases e : i = ds + (q + k)
   ·rw [if_pos ⟨by omega, by omega⟩, if_pos ⟨by omega, by omega, by omega⟩]; congr 1; omega
   ·rw [if_neg (by omega)]
    by_cases e2 : ds + q ≤ i ∧ i < ds + q + k ∧ i < ds + n
    ·rw [if_pos e2, if_pos (by omega)]
    ·rw [if_neg e2, if_neg (by omega)]
  ·rw [if_neg h, if_neg (by omega)]
   by_cases e2 : ds + q ≤ i ∧ i < ds + q + k ∧ i < ds + n
   ·rw [if_pos e2, if_pos (by omega)]
   ·rw [if_neg e2, if_neg (by omega)]
theorem mov_mem (hd : fr + n ≤ ds ∨ ds + n ≤ fr) (M : MacN) (hp : ∀ i, i < n → pix (M.mem (fr + i)) = M.mem (fr + i)) : ∀ g i, (runM L (movL L n fr ds g) M).mem i = if ds ≤ i ∧ i < ds + g * L ∧ i < ds + n then M.mem (fr + (i - ds)) else M.mem i
 | 0, i => by rw [if_neg (by omega)]; rfl
 | g + 1, i => by
  have ih := mov_mem hd M hp g
  obtain ⟨M', hM'⟩ : ∃ M', runM L (movL L n fr ds g) M = M' := ⟨_, rfl⟩
  rw [hM'] at ih
  have e : runM L (movL L n fr ds (g + 1)) M = stepM L (movSt L n ds g) (stepM L (movLd L n fr g) M') := by rw [movL, runM_app, hM']; rfl
  have e1 : stepM L (movLd L n fr g) M' = setR M' 0 (fun j => if 0 ≤ adOf (movLd L n fr g) j then M'.mem (adOf (movLd L n fr g) j).toNat else 0) := by
   unfold stepM; rw [if_pos (show (movLd L n fr g).op = 1 from rfl)]; rfl
  have e2 : ∀ X : MacN, (stepM L (movSt L n ds g) X).mem = stoM (adOf (movSt L n ds g)) (fun j => pix (X.regs 0 j)) X.mem L := fun X => by
   unfold stepM; rw [if_neg (show ¬ (movSt L n ds g).op = 1 by show ¬ (2 : Int) = 1; decide), if_pos (show (movSt L n ds g).op = 2 from rfl)]; rfl
  rw [e, e2, sto_mov _ _ L (Nat.le_refl _) i, e1]
  have hm : (g + 1) * L = g * L + L := Nat.succ_mul g L
  rw [hm]
  by_cases h : ds + g * L ≤ i ∧ i < ds + g * L + L ∧ i < ds + n
  ·rw [if_pos h, if_pos (by omega)]
   obtain ⟨j, hj⟩ : ∃ j, i - (ds + g * L) = j := ⟨_, rfl⟩
   rw [hj]
   show pix (if 0 ≤ adOf (movLd L n fr g) j then M'.mem (adOf (movLd L n fr g) j).toNat else 0) = _
   have ea : adOf (movLd L n fr g) j = if g * L + j < n then ((fr + (g * L + j) : Nat) : Int) else -1 := movAd_at (by omega)
   rw [ea, if_pos (show g * L + j < n by omega), if_pos (Int.natCast_nonneg _), Int.toNat_natCast, ih, if_neg (by omega), show fr + (i - ds) = fr + (g * L + j) by omega]
   exact hp _ (by omega)
  ·rw [if_neg h]
   show M'.mem i = _
   rw [ih i]
   by_cases h2 : ds ≤ i ∧ i < ds + g * L ∧ i < ds + n
   ·rw [if_pos h2, if_pos (by omega)]
   ·rw [if_neg h2, if_neg (by omega)]
end
section
variable {v : VecN} {L n : Nat}
theorem adr_mov (hL : v.lanes = (L : Int)) {base g N : Nat} (hN : v.mem = (N : Int)) (hb : base + n ≤ N) : adrB v (movAd L n base g) = true := by
 unfold adrB
 rw [Bool.and_eq_true, decide_eq_true_eq, List.all_eq_true, movAd_len]
 refine ⟨hL.symm, fun x hx => ?_⟩
 unfold movAd at hx
 obtain ⟨j, _, rfl⟩ := List.mem_map.1 hx
 rw [inR_true]
 by_cases h : g * L + j < n
 ·rw [if_pos h]; omega
 ·rw [if_neg h]; omega
theorem ins_mov (hv : vecB v = true) (hL : v.lanes = (L : Int)) {N fr ds : Nat} (hN : v.mem = (N : Int)) (h1 : fr + n ≤ N) (h2 : ds + n ≤ N) : ∀ g, (movL L n fr ds g).all (insB v) = true
 | 0 => rfl
 | g + 1 => by
  unfold vecB at hv
  simp only [Bool.and_eq_true, inR_true] at hv
  have r0 : inR (0 : Int) 0 (v.regs - 1) = true := inR_true.2 (by omega)
  have a1 : insB v (movLd L n fr g) = true := by
   unfold insB movLd
   rw [if_pos rfl, r0, adr_mov hL hN h1]; rfl
  have a2 : insB v (movSt L n ds g) = true := by
   unfold insB movSt
   rw [if_neg (show ¬ (2 : Int) = 1 by decide), if_pos rfl, r0, adr_mov hL hN h2]; rfl
  have hv2 : vecB v = true := by
   unfold vecB
   simp only [Bool.and_eq_true, inR_true]; exact hv
  rw [movL, List.all_append, ins_mov hv2 hL hN h1 h2 g]
  simp [a1, a2]
def movC (m : PicN) (fr : Nat) (o : Int) (code : List InsN) : CodeN := ⟨m.w, m.h, [(fr : Int)], o, code⟩
theorem mov_px {m : PicN} (hm : vld m.w m.h m.px = true) (hn : (n : Int) = m.w * m.h) {mem : Nat → Int} {o : Nat} (h : ∀ i, i < n → mem (o + i) = px m.px (i : Int)) (c : CodeN) (hw : c.w = m.w) (hh : c.h = m.h) (M : MacN) (hM : M.mem = mem) : outN M (o : Int) (c.w.toNat * c.h.toNat) = m.px := by
 obtain ⟨⟨a, b⟩, ⟨c', d⟩, e, _⟩ := vld_true hm
 have hl : m.px.length = n := by omega
 have hk : c.w.toNat * c.h.toNat = n := by
  have h3 : ((c.w.toNat * c.h.toNat : Nat) : Int) = m.w * m.h := by push_cast; rw [Int.toNat_of_nonneg (by omega), Int.toNat_of_nonneg (by omega), hw, hh]
  omega
 rw [hk]
 unfold outN
 rw [Int.toNat_natCast, hM]
 refine List.ext_getElem (by simp [hl]) fun i h1 h2 => ?_
 rw [List.getElem_map, List.getElem_range, h i (by omega)]
 unfold px
 rw [Int.toNat_natCast, List.getElem?_eq_getElem h2]; rfl
theorem machine_run (hv : vecB v = true) (hL : v.lanes = (L : Int)) {N : Nat} (hN : v.mem = (N : Int)) {m : PicN} (hm : vld m.w m.h m.px = true) (hn : (n : Int) = m.w * m.h) {fr mid ds G G' : Nat} (hf : fr + n ≤ N) (hmi : mid + n ≤ N) (ht : ds + n ≤ N)
  (hd1 : fr + n ≤ mid ∨ mid + n ≤ fr) (hd2 : mid + n ≤ ds ∨ ds + n ≤ mid) (hG : n ≤ G * L) (hG2 : G ≤ 256) (hG' : n ≤ G' * L) (hG2' : G' ≤ 256) {o : Nat} (ho : o = ds ∨ o = mid) :
  runS v (movC m fr (o : Int) (movL L n fr mid G ++ movL L n mid ds G')) [m] = { w := m.w, h := m.h, px := m.px, err := 0 } := by
 obtain ⟨⟨a, b⟩, ⟨c', d⟩, e, hall⟩ := vld_true hm
 have hl : m.px.length = n := by omega
 have hcB : codeB v (movC m fr (o : Int) (movL L n fr mid G ++ movL L n mid ds G')) = true := by
  unfold codeB movC
  simp only [Bool.and_eq_true, inR_true, decide_eq_true_eq, List.all_append, ins_mov hv hL hN hf hmi, ins_mov hv hL hN hmi ht, and_true]
  refine ⟨⟨⟨a, b⟩, c', d⟩, by simp, ?_, ⟨by omega, ?_⟩, ?_⟩
  ·rw [List.length_append, movL_len, movL_len]; omega
  ·rw [← hn]; rcases ho with rfl | rfl <;> omega
  ·simp only [List.all_cons, List.all_nil, Bool.and_true, Bool.or_eq_true, decide_eq_true_eq, inR_true]
   right; rw [← hn]; omega
 have hck : chkS v (movC m fr (o : Int) (movL L n fr mid G ++ movL L n mid ds G')) = 0 := by unfold chkS; rw [if_pos hv, if_pos hcB]
 have hgv : givenB [m] (movC m fr (o : Int) (movL L n fr mid G ++ movL L n mid ds G')).inp.length (movC m fr (o : Int) (movL L n fr mid G ++ movL L n mid ds G')).w (movC m fr (o : Int) (movL L n fr mid G ++ movL L n mid ds G')).h = true := by
  unfold givenB movC
  simp [hm]
 unfold runS
 rw [if_pos hck, if_pos hgv, hL, Int.toNat_natCast]
 have hM0 : ∀ i, i < n → (mac0 (movC m fr (o : Int) (movL L n fr mid G ++ movL L n mid ds G')) [m]).mem (fr + i) = px m.px (i : Int) := fun i hi => by
  show putImg ([(fr : Int)][0]?.getD 0) (picAt [m] 0).px (memN [(fr : Int)] [m] 0) (fr + i) = _
  show putImg (fr : Int) m.px (fun _ => 0) (fr + i) = _
  unfold putImg
  rw [hl, if_pos (by omega)]
  congr 1; omega
 obtain ⟨M0, hM0e⟩ : ∃ M, mac0 (movC m fr (o : Int) (movL L n fr mid G ++ movL L n mid ds G')) [m] = M := ⟨_, rfl⟩
 rw [hM0e] at hM0 ⊢
 have hpx : ∀ i : Nat, i < n → pix (px m.px (i : Int)) = px m.px (i : Int) := fun i hi => by
  have hi2 : i < m.px.length := by omega
  have hr := allIn_mem hall (List.getElem_mem hi2)
  have hx : px m.px (i : Int) = m.px[i] := by unfold px; rw [Int.toNat_natCast, List.getElem?_eq_getElem hi2]; rfl
  rw [← hx] at hr
  unfold pix clamp
  omega
 show ({ w := m.w, h := m.h, px := outN (runM L (movL L n fr mid G ++ movL L n mid ds G') M0) (o : Int) (m.w.toNat * m.h.toNat), err := 0 } : ImR) = _
 rw [runM_app]
 have h1 := mov_mem (L := L) (g := G) hd1 M0 (fun i hi => by rw [hM0 i hi]; exact hpx i hi) 
 obtain ⟨M1, hM1⟩ : ∃ M, runM L (movL L n fr mid G) M0 = M := ⟨_, rfl⟩
 rw [hM1] at h1 ⊢
 have g1 : ∀ i, i < n → M1.mem (mid + i) = px m.px (i : Int) := fun i hi => by
  rw [h1, if_pos (by omega), show fr + (mid + i - mid) = fr + i by omega]; exact hM0 i hi
 have h2 := mov_mem (L := L) (g := G') hd2 M1 (fun i hi => by rw [g1 i hi]; exact hpx i hi)
 have g2 : ∀ i, i < n → (runM L (movL L n mid ds G') M1).mem (o + i) = px m.px (i : Int) := fun i hi => by
  rw [h2]
  rcases ho with rfl | rfl
  ·rw [if_pos (by omega), show mid + (o + i - o) = mid + i by omega]; exact g1 i hi
  ·rw [if_neg (by omega)]; exact g1 i hi
 have := mov_px hm hn g2 (movC m fr (o : Int) []) rfl rfl _ rfl
 rw [show (movC m fr (o : Int) []).w.toNat * (movC m fr (o : Int) []).h.toNat = m.w.toNat * m.h.toNat from rfl] at this
 rw [this]
end
end Go.Proofs.YtekiemlniegddaaGreat
namespace Go.Proofs.YtekiemlniegddaaGreat
open Go Go.RowKit Go.Shelf
def flatJ : List InsA → List Value
 | [] => []
 | y :: l => insCells y.x y.a y.c ++ flatJ l
theorem flatJ_append : ∀ l k : List InsA, flatJ (l ++ k) = flatJ l ++ flatJ k
 | [], k => rfl
 | y :: l, k => by show insCells y.x y.a y.c ++ flatJ (l ++ k) = insCells y.x y.a y.c ++ flatJ l ++ flatJ k; rw [flatJ_append l k, List.append_assoc]
theorem flatJ_length : ∀ l : List InsA, (flatJ l).length = l.length * 12
 | [] => rfl
 | y :: l => by show (insCells y.x y.a y.c ++ flatJ l).length = _; rw [List.length_append, flatJ_length l, List.length_cons, insCells_len]; omega
theorem flatJ_one : ∀ (l : List InsA), ∀ u ∈ flatJ l, u.oneCell' = true
 | [], u, h => by cases h
 | y :: l, u, h => by
  rcases List.mem_append.1 (show u ∈ insCells y.x y.a y.c ++ flatJ l from h) with h | h
  ·exact insCells_one _ _ _ u h
  ·exact flatJ_one l u h
theorem flatJ_at : ∀ (l : List InsA) (i : Nat) (y : InsA), l[i]? = some y → ∀ j, j < 12 → (flatJ l)[i * 12 + j]? = (insCells y.x y.a y.c)[j]?
 | [], i, y, h, j, hj => by simp at h
 | z :: l, 0, y, h, j, hj => by
  simp only [List.getElem?_cons_zero, Option.some.injEq] at h
  subst h
  show (insCells z.x z.a z.c ++ flatJ l)[0 * 12 + j]? = _
  rw [List.getElem?_append_left (by rw [insCells_len]; omega)]
  simp
 | z :: l, i + 1, y, h, j, hj => by
  show (insCells z.x z.a z.c ++ flatJ l)[(i + 1) * 12 + j]? = _
  rw [List.getElem?_append_right (by rw [insCells_len]; omega), insCells_len, show (i + 1) * 12 + j - 12 = i * 12 + j by omega]
  exact flatJ_at l i y (by simpa using h) j hj
/-- Addresses that can be read, apart from a block. -/
def RdJ (K : Option Nat) (W : World) (y : InsA) : Prop := Rd W.heap.size W y.a y.x.ad ∧ (y.x.ad = [] ∨ ∀ ad, y.a = some ad → K ≠ some ad.block)
structure OwnI (B : Nat) (W : World) (v : Value) (l : List InsA) : Prop where
 row : W.ownsRow B 143 12 v l.length (flatJ l)
 rd : ∀ y ∈ l, RdJ v.ownBlock W y
theorem RdJ.later {K : Option Nat} {W W' : World} {y : InsA} (h : RdJ K W y) (hb : Below W.heap.size W W') : RdJ K W' y := ⟨later_i h.1 hb, h.2⟩
theorem OwnI.later {B : Nat} {W W' : World} {v : Value} {l : List InsA} (h : OwnI B W v l) (hb : Below W.heap.size W W') : OwnI B W' v l := ⟨row_below h.row hb, fun y hy => (h.rd y hy).later hb⟩
theorem OwnI.more {B : Nat} {W W' : World} {v v' : Value} {l k : List InsA} (h3 : ∀ y ∈ l, RdJ v.ownBlock W y) (hk : ∀ y ∈ k, RdJ v.ownBlock W y)
  (hrow : W'.ownsRow B 143 12 v' (l.length + k.length) (flatJ l ++ flatJ k)) (hg : W.grownBy W' v.ownBlock) (hat : v'.ownBlock = v.ownBlock ∨ v'.ownBlock = some W.heap.size) :
  OwnI B W' v' (l ++ k) := by
 have key : ∀ y, RdJ v.ownBlock W y → RdJ v'.ownBlock W' y := fun y h => by
  refine ⟨Rd.rowed h.1 h.2 hg, ?_⟩
  rcases hat with e | e
  ·rw [e]; exact h.2
  ·rw [e]
   rcases h.1 with hn | ⟨b, o, h1, h2, _⟩
   ·exact .inl hn
   ·right; intro ad had he; rw [h1] at had; cases had; simp at he; omega
 refine ⟨by rw [List.length_append, flatJ_append]; exact hrow, fun y hy => ?_⟩
 rcases List.mem_append.1 hy with hy | hy
 ·exact key _ (h3 y hy)
 ·exact key _ (hk y hy)
theorem OwnI.cs {B : Nat} {W : World} {a : Option Addr} {n c : Nat} {l : List InsA} (h : OwnI B W (.slice a n c) l) (hn : l.length = n) : RdCs W.heap.size W a (l.map InsA.x) := by
 have hr := h.row
 rw [hn] at hr
 by_cases h0 : n = 0
 ·left; rw [List.eq_nil_of_length_eq_zero (hn.trans h0)]; rfl
 ·obtain ⟨g, rfl⟩ := row_someP hr (by omega)
  refine .inr ⟨g, 0, rfl, (hr.lt g rfl).2, fun i hi => ?_⟩
  rw [List.length_map] at hi
  have hy := List.getElem?_eq_getElem hi
  have e : insAt (l.map InsA.x) i = l[i].x := by unfold insAt; rw [List.getElem?_map, hy]; rfl
  rw [e]
  refine ⟨l[i].a, l[i].c, ⟨fun j u hu => ?_, (h.rd _ (List.getElem_mem hi)).1⟩⟩
  have hj : j < 12 := by
   rcases Nat.lt_or_ge j 12 with h | h
   ·exact h
   ·rw [List.getElem?_eq_none (by simpa [insCells] using h)] at hu; cases hu
  rw [Nat.zero_add]
  have hx := flatJ_at l i _ hy j hj
  rw [hu] at hx
  exact (hr.cellAt (i * 12 + j) (by omega)).trans hx
theorem OwnI.put {B : Nat} {W : World} {v : Value} {l : List InsA} (h : OwnI B W v l) {b x : Nat} {t : TypeId} {cs : Array Value} (hk : Blk W b t cs) (hv : some b ≠ v.ownBlock) (hy : ∀ y ∈ l, ∀ ad, y.a = some ad → b < ad.block) (u : Value) : OwnI B (W.setCell ⟨b, x, none⟩ u) v l := by
 refine ⟨row_setCell h.row (a := ⟨b, x, none⟩) hv _, fun y hm => ⟨?_, (h.rd y hm).2⟩⟩
 have ht := setCell_trn W ⟨b, x, none⟩ u (fun c => c = b) rfl
 rcases (h.rd y hm).1 with hn | ⟨c, o, h1, h2, h3⟩
 ·exact .inl hn
 ·refine .inr ⟨c, o, h1, Nat.lt_of_lt_of_le h2 ht.size, fun i hi => ?_⟩
  have hne := hy y hm _ h1
  exact (World.cell?_of_block (w := W) (a := ⟨c, o + i, none⟩) (ht.block c h2 (fun e => by have : b < c := hne; omega))).trans (h3 i hi)
/-- One number is appended to a row, and the row is put into a record. -/
theorem at_push {n0 : Nat} {W W1 : World} {bl x : Nat} {o : Obj} {cs : Array Value} {vl v1 : Value} {j : Nat} {xs ys : List Value} (hk : Blk W bl 143 cs) (hrow : W.ownsRow n0 3 1 vl j xs) (own1 : W1.ownsRow n0 3 1 v1 (j + 1) ys)
  (hg : (W.alloc o).grownBy W1 vl.ownBlock) (hat : v1.ownBlock = vl.ownBlock ∨ v1.ownBlock = some (W.alloc o).heap.size) (hn : n0 ≤ W.heap.size) (hbl : n0 ≤ bl) :
  Blk W1 bl 143 cs ∧ Blk (W1.setCell ⟨bl, x, none⟩ v1) bl 143 (cs.setIfInBounds x v1) ∧ (W1.setCell ⟨bl, x, none⟩ v1).ownsRow n0 3 1 v1 (j + 1) ys ∧ Trn (fun b => b = bl ∨ vl.ownBlock = some b) W (W1.setCell ⟨bl, x, none⟩ v1) := by
 have k1 : Blk W1 bl 143 cs := (hk.alloc o).kept hg (hk.not_row (by decide) hrow)
 refine ⟨k1, k1.set x v1, row_setCell own1 (a := ⟨bl, x, none⟩) (k1.not_row (by decide) own1) _, ?_⟩
 refine Trn.step (T := fun b => b = bl ∨ vl.ownBlock = some b) (Below.trn0 (jb_al (Below.refl _ W) o) _) ((grown_trn hg _ (fun b e => .inr e)).trans (setCell_trn _ _ _ _ (.inl rfl))) (fun b h => .inl h)
end Go.Proofs.YtekiemlniegddaaGreat
namespace Go.Proofs.YtekiemlniegddaaGreat
open Go Go.Maps Go.RowKit Go.Shelf
theorem ins_row {W : World} {b : Nat} {cs : Array Value} (hk : Blk W b 143 cs) (vs : Array Value) : Blk (W.setRow b vs) b 143 vs ∧ Trn (fun c => c = b) W (W.setRow b vs) := by
 have hk' : W.heap[b]? = some (.cells cs 143 (0, 0)) := hk
 refine ⟨setRow_heap W b cs vs 143 (0, 0) hk', ⟨rfl, rfl, rfl, by simp [World.setRow], fun k hk hS => ?_⟩⟩
 simp only [World.setRow, Array.getElem?_modify]
 rw [if_neg (fun e => hS e.symm)]
/-- Two instructions in the making: a load and a store. -/
structure MvS (n0 : Nat) (Wo W : World) (bl bs jl js : Nat) (vl vs : Value) (xs ys : List Value) : Prop where
 kl : Blk W bl 143 #[.int .u8 1, .int .i64 0, .int .i64 0, .int .i64 0, .int .i64 0, .int .i64 0, .int .i64 0, .int .i64 0, .int .i64 0, .int .i64 0, .int .u8 0, vl]
 ks : Blk W bs 143 #[.int .u8 2, .int .i64 0, .int .i64 0, .int .i64 0, .int .i64 0, .int .i64 0, .int .i64 0, .int .i64 0, .int .i64 0, .int .i64 0, .int .u8 0, vs]
 rl : W.ownsRow n0 3 1 vl jl xs
 rs : W.ownsRow n0 3 1 vs js ys
 ap : ∀ b, vl.ownBlock = some b → vs.ownBlock ≠ some b
 be : Below n0 Wo W
 hl : n0 ≤ bl
 hs : n0 ≤ bs
 ne : bl ≠ bs
theorem MvS.pushL {n0 : Nat} {Wo W W1 : World} {bl bs jl js : Nat} {vl vs v1 : Value} {xs ys zs : List Value} {o : Obj} (h : MvS n0 Wo W bl bs jl js vl vs xs ys) (hn : n0 ≤ W.heap.size) (own1 : W1.ownsRow n0 3 1 v1 (jl + 1) zs) (hg : (W.alloc o).grownBy W1 vl.ownBlock) (hat : v1.ownBlock = vl.ownBlock ∨ v1.ownBlock = some (W.alloc o).heap.size) :
  Blk W1 bl 143 #[.int .u8 1, .int .i64 0, .int .i64 0, .int .i64 0, .int .i64 0, .int .i64 0, .int .i64 0, .int .i64 0, .int .i64 0, .int .i64 0, .int .u8 0, vl] ∧ MvS n0 Wo (W1.setCell ⟨bl, 11, none⟩ v1) bl bs (jl + 1) js v1 vs zs ys ∧ W.heap.size ≤ (W1.setCell ⟨bl, 11, none⟩ v1).heap.size := by
 obtain ⟨k1, k2, r2, ht⟩ := at_push (x := 11) h.kl h.rl own1 hg hat hn h.hl
 refine ⟨k1, ⟨k2, ht.blk h.ks (fun e => ?_), r2, ht.row h.rs (fun b hb e => ?_), fun b hb => ?_, h.be.trans (ht.below hn (fun b hb e => ?_)), h.hl, h.hs, h.ne⟩, ht.size⟩
 ·rcases e with e | e
  ·exact h.ne e.symm
  ·exact h.ks.not_row (by decide) h.rl e.symm
 ·rcases e with e | e
  ·subst e; exact h.kl.not_row (by decide) h.rs hb.symm
  ·exact h.ap b e hb
 ·rcases hat with e | e
  ·exact h.ap b (e ▸ hb)
  ·intro hb2
   have h3 := (h.rs.lt b hb2).2
   rw [e] at hb
   injection hb with hb
   rw [World.size_alloc] at hb
   omega
 ·rcases e with e | e
  ·have := h.hl; omega
  ·have := (h.rl.lt b e).1; omega
theorem MvS.pushS {n0 : Nat} {Wo W W1 : World} {bl bs jl js : Nat} {vl vs v1 : Value} {xs ys zs : List Value} {o : Obj} (h : MvS n0 Wo W bl bs jl js vl vs xs ys) (hn : n0 ≤ W.heap.size) (own1 : W1.ownsRow n0 3 1 v1 (js + 1) zs) (hg : (W.alloc o).grownBy W1 vs.ownBlock) (hat : v1.ownBlock = vs.ownBlock ∨ v1.ownBlock = some (W.alloc o).heap.size) :
  Blk W1 bs 143 #[.int .u8 2, .int .i64 0, .int .i64 0, .int .i64 0, .int .i64 0, .int .i64 0, .int .i64 0, .int .i64 0, .int .i64 0, .int .i64 0, .int .u8 0, vs] ∧ MvS n0 Wo (W1.setCell ⟨bs, 11, none⟩ v1) bl bs jl (js + 1) vl v1 xs zs ∧ W.heap.size ≤ (W1.setCell ⟨bs, 11, none⟩ v1).heap.size := by
 obtain ⟨k1, k2, r2, ht⟩ := at_push (x := 11) h.ks h.rs own1 hg hat hn h.hs
 refine ⟨k1, ⟨ht.blk h.kl (fun e => ?_), k2, ht.row h.rl (fun b hb e => ?_), r2, fun b hb hb2 => ?_, h.be.trans (ht.below hn (fun b hb e => ?_)), h.hl, h.hs, h.ne⟩, ht.size⟩
 ·rcases e with e | e
  ·exact h.ne e
  ·exact h.kl.not_row (by decide) h.rs e.symm
 ·rcases e with e | e
  ·subst e; exact h.ks.not_row (by decide) h.rl hb.symm
  ·exact h.ap b hb e
 ·rcases hat with e | e
  ·exact h.ap b hb (e ▸ hb2)
  ·have h3 := (h.rl.lt b hb).2
   rw [e] at hb2
   injection hb2 with hb2
   rw [World.size_alloc] at hb2
   omega
 ·rcases e with e | e
  ·have := h.hs; omega
  ·have := (h.rs.lt b e).1; omega
def adP (L n base g j : Nat) : List Int := (List.range j).map fun j => if g * L + j < n then ((base + (g * L + j) : Nat) : Int) else -1
theorem adP_succ (L n base g j : Nat) (x : Int) (hx : x = if g * L + j < n then ((base + (g * L + j) : Nat) : Int) else -1) : (adP L n base g (j + 1)).map (Value.int .i64) = (adP L n base g j).map (Value.int .i64) ++ [.int .i64 x] := by
 unfold adP
 rw [List.range_succ, List.map_append, List.map_append, hx]; rfl
set_option maxRecDepth 100000 in
set_option maxHeartbeats 8000000 in
theorem moved_any (v : VecN) (L n fr ds : Nat) (hL : v.lanes = (L : Int)) (hl : 1 ≤ L ∧ L ≤ 16) (hn : n ≤ 256) (hf : fr ≤ 8192) (hd : ds ≤ 8192) (w : World) :
  Calls Tryz.prog 38 #[vecv v, .int .i64 (n : Int), .int .i64 (fr : Int), .int .i64 (ds : Int)] w fun e w' => ∃ a k c l g, e = .returned (.slice a k c) ∧ l.length = k ∧ OwnI (w.heap.size + 1) w' (.slice a k c) l ∧ l.map InsA.x = movL L n fr ds g ∧ n ≤ g * L ∧ g ≤ 256 ∧ (∀ y ∈ l, ∀ ad, y.a = some ad → w.heap.size ≤ ad.block) ∧ Below w.heap.size w w' := by
 have hB : Below w.heap.size w w := Below.refl _ _
 obtain ⟨i0, hi, hz0, hz1, hz2⟩ := info_partsQ info_num
 obtain ⟨j0, gi, gz0, gz1, gz2⟩ := info_partsQ info_ins
 unfold vecv
 rw [hL]
 obtain ⟨V1, hEV1, hbV1, kv⟩ := newB w 26 #[.int .i64 (L : Int), .int .i64 v.regs, .int .i64 v.mem]
 replace hB := tmB hB hbV1
 clear hbV1
 obtain ⟨v0, v1, v2⟩ := cz3 kv
 go_enter Tryz.func38, Tryz.ntmps38
 go_wp2_with fail
 clear hEV1
 clear v0 v1 v2
 have hlo : w.heap.size + 1 ≤ V1.heap.size := kv.lt
 have hownH := Lib.hid (show ∃ l : List InsA, OwnI (w.heap.size + 1) V1 (.slice none 0 0) l ∧ l.map InsA.x = movL L n fr ds 0 ∧ ∀ y ∈ l, ∀ ad, y.a = some ad → w.heap.size ≤ ad.block from ⟨[], ⟨World.ownsRow_nil _ _ _ _, (fun y hy => by cases hy)⟩, rfl, (fun y hy => by cases hy)⟩)
 go_loopw [9, 10] (fun vo i wr => ∃ g : Nat, g ≤ 256 ∧ g * L ≤ n + 16 ∧ i = .int .i64 ((g * L : Nat) : Int) ∧ Hid (∃ l : List InsA, OwnI (w.heap.size + 1) wr vo l ∧ l.map InsA.x = movL L n fr ds g ∧ ∀ y ∈ l, ∀ ad, y.a = some ad → w.heap.size ≤ ad.block) ∧ w.heap.size + 1 ≤ wr.heap.size ∧ Below w.heap.size w wr ∧ Blk wr w.heap.size 26 #[.int .i64 (L : Int), .int .i64 v.regs, .int .i64 v.mem]) (fun _ i _ => n + 32 - (intOf i).toNat)
 case atStart => exact ⟨0, by omega, by omega, by simp, hownH, hlo, hB, kv⟩
 case round =>
  clear hownH hlo hB kv
  obtain ⟨g, hg, hgq, rfl, hH, hlo, hB, kv⟩ := hrel
  obtain ⟨l, hown, hlm, hfr⟩ := hH.out
  have hfrH := Lib.hid hfr
  clear hfr
  obtain ⟨va, vc, rfl⟩ := row_slice hown.row
  obtain ⟨Wo, rfl⟩ : ∃ X, X = wr := ⟨_, rfl⟩
  obtain ⟨q, hq⟩ : ∃ q, g * L = q := ⟨_, rfl⟩
  rw [hq] at hgq ⊢
  have hqH := Lib.hid hq
  have hlen : l.length = 2 * g := by have := congrArg List.length hlm; rw [List.length_map, movL_len] at this; exact this
  by_cases hlt : q < n
  case neg =>
   have hltd : decide ((q : Int) < (n : Int)) = false := by simp; omega
   clear hH hq
   go_wp2_with fail
   go_ret
   exact ⟨va, l.length, vc, l, g, rfl, rfl, hown, hlm, by rw [hqH.out]; omega, hg, hfrH.out, hB⟩
  case pos =>
   have hltd : decide ((q : Int) < (n : Int)) = true := by simp; omega
   have hg256 : g < 256 := by
    rcases Nat.lt_or_ge g 256 with h | h
    ·exact h
    ·have := Nat.mul_le_mul h hl.1; omega
   have hownH := Lib.hid hown
   have hlmH := Lib.hid hlm
   have hlenH := Lib.hid hlen
   clear hown hlm hlen hH hq
   have kl := Blk.new Wo 143 #[.int .u8 0, .int .i64 0, .int .i64 0, .int .i64 0, .int .i64 0, .int .i64 0, .int .i64 0, .int .i64 0, .int .i64 0, .int .i64 0, .int .u8 0, .slice none 0 0]
   obtain ⟨Wa, hA⟩ : ∃ X, Wo.alloc (.cells #[.int .u8 0, .int .i64 0, .int .i64 0, .int .i64 0, .int .i64 0, .int .i64 0, .int .i64 0, .int .i64 0, .int .i64 0, .int .i64 0, .int .u8 0, .slice none 0 0] 143) = X := ⟨_, rfl⟩
   have hba : Below Wo.heap.size Wo Wa := alloc_below hA
   rw [hA] at kl
   have ks := Blk.new Wa 143 #[.int .u8 0, .int .i64 0, .int .i64 0, .int .i64 0, .int .i64 0, .int .i64 0, .int .i64 0, .int .i64 0, .int .i64 0, .int .i64 0, .int .u8 0, .slice none 0 0]
   obtain ⟨Wb, hA2⟩ : ∃ X, Wa.alloc (.cells #[.int .u8 0, .int .i64 0, .int .i64 0, .int .i64 0, .int .i64 0, .int .i64 0, .int .i64 0, .int .i64 0, .int .i64 0, .int .i64 0, .int .u8 0, .slice none 0 0] 143) = X := ⟨_, rfl⟩
   have hbb : Below Wa.heap.size Wa Wb := alloc_below hA2
   rw [hA2] at ks
   have hlt12 := kl.lt
   replace kl := kl.below hbb hlt12
   have hbab : Below Wo.heap.size Wo Wb := hba.trans (hbb.mono hba.size)
   obtain ⟨kl1, ht1⟩ := ins_row kl #[.int .u8 1, .int .i64 0, .int .i64 0, .int .i64 0, .int .i64 0, .int .i64 0, .int .i64 0, .int .i64 0, .int .i64 0, .int .i64 0, .int .u8 0, .slice none 0 0]
   have ks1 := ht1.blk ks (by omega)
   obtain ⟨ks2, ht2⟩ := ins_row ks1 #[.int .u8 2, .int .i64 0, .int .i64 0, .int .i64 0, .int .i64 0, .int .i64 0, .int .i64 0, .int .i64 0, .int .i64 0, .int .i64 0, .int .u8 0, .slice none 0 0]
   have kl2 := ht2.blk kl1 (by omega)
   have hb3 : Below Wo.heap.size Wo _ := (hbab.trans (ht1.below hbab.size (fun b hb e => by omega))).trans (ht2.below (by have := hbab.size; have := ht1.size; omega) (fun b hb e => by have := hba.size; omega))
   have hne0 : Wo.heap.size ≠ Wa.heap.size := by omega
   have hbs0 : Wo.heap.size ≤ Wa.heap.size := hba.size
   clear hba hbb hbab ht1 ht2 kl1 hlt12
   go_wp2_with (first
    | (refine wpList_store_row rfl 143 _ _ rfl Wo.heap.size #[.int .u8 1, .int .i64 0, .int .i64 0, .int .i64 0, .int .i64 0, .int .i64 0, .int .i64 0, .int .i64 0, .int .i64 0, .int .i64 0, .int .u8 0, .slice none 0 0] rfl rfl 143 #[.int .u8 0, .int .i64 0, .int .i64 0, .int .i64 0, .int .i64 0, .int .i64 0, .int .i64 0, .int .i64 0, .int .i64 0, .int .i64 0, .int .u8 0, .slice none 0 0] kl (by kernel_rfl) rfl (by simp [Value.oneCell']) ?_)
    | (refine wpList_store_row rfl 143 _ _ rfl Wa.heap.size #[.int .u8 2, .int .i64 0, .int .i64 0, .int .i64 0, .int .i64 0, .int .i64 0, .int .i64 0, .int .i64 0, .int .i64 0, .int .i64 0, .int .u8 0, .slice none 0 0] rfl rfl 143 #[.int .u8 0, .int .i64 0, .int .i64 0, .int .i64 0, .int .i64 0, .int .i64 0, .int .i64 0, .int .i64 0, .int .i64 0, .int .i64 0, .int .u8 0, .slice none 0 0] ks1 (by kernel_rfl) rfl (by simp [Value.oneCell']) ?_))
   clear hA hA2 hltd kl ks ks1
   obtain ⟨Wd, hWd⟩ : ∃ X, (Wb.setRow Wo.heap.size #[.int .u8 1, .int .i64 0, .int .i64 0, .int .i64 0, .int .i64 0, .int .i64 0, .int .i64 0, .int .i64 0, .int .i64 0, .int .i64 0, .int .u8 0, .slice none 0 0]).setRow Wa.heap.size #[.int .u8 2, .int .i64 0, .int .i64 0, .int .i64 0, .int .i64 0, .int .i64 0, .int .i64 0, .int .i64 0, .int .i64 0, .int .i64 0, .int .u8 0, .slice none 0 0] = X := ⟨_, rfl⟩
   rw [hWd] at kl2 ks2 hb3 ⊢
   clear hWd
   have hM0 : MvS Wo.heap.size Wo Wd Wo.heap.size Wa.heap.size 0 0 (.slice none 0 0) (.slice none 0 0) [] [] := ⟨kl2, ks2, World.ownsRow_nil _ _ _ _, World.ownsRow_nil _ _ _ _, (fun b e => by cases e), hb3, Nat.le_refl _, hbs0, hne0⟩
   have hMH := Lib.hid (show ∃ vl vs, MvS Wo.heap.size Wo Wd Wo.heap.size Wa.heap.size 0 0 vl vs ((adP L n fr g 0).map (Value.int .i64)) ((adP L n ds g 0).map (Value.int .i64)) from ⟨_, _, hM0⟩)
   clear hM0 kl2 ks2 hb3
   obtain ⟨bs, hbs⟩ : ∃ b, Wa.heap.size = b := ⟨_, rfl⟩
   rw [hbs] at hMH hbs0 hne0 ⊢
   go_loopw [13] (fun i wr => ∃ j : Nat, j ≤ L ∧ i = .int .i64 (j : Int) ∧ Hid (∃ vl vs, MvS Wo.heap.size Wo wr Wo.heap.size bs j j vl vs ((adP L n fr g j).map (Value.int .i64)) ((adP L n ds g j).map (Value.int .i64)))) (fun i _ => L - (intOf i).toNat)
   case atStart => exact ⟨0, Nat.zero_le _, rfl, hMH⟩
   case round =>
    clear hMH
    obtain ⟨j, hj, rfl, hH⟩ := hrel
    obtain ⟨vl, vs, hM⟩ := hH.out
    clear hH
    have v0 := (kv.below hM.be kv.lt).cell (i := 0) rfl
    have hsz := hM.be.size
    by_cases hjl : j < L
    case pos =>
     have hjd : decide ((j : Int) < (L : Int)) = true := by simp; omega
     by_cases hc : q + j < n
     case pos =>
      have hcd : decide ((q : Int) + (j : Int) < (n : Int)) = true := by simp; omega
      have cl := hM.kl.cell (i := 11) rfl
      go_upto_region 11 with (at_builtin; refine wpList_append_own_at _ rfl _ _ 30 rfl Wo.heap.size 3 i0 (.int .i64 0) 1 8 Tryz.underlying30 hi hz0 hz1 hz2 rfl (by decide) vl j _ rfl (hM.rl.alloc _) ⟨wr.heap.size, 0, none⟩ 1 1 [.int .i64 ((fr : Int) + (q : Int) + (j : Int))] rfl rfl (cell_one_new _ _ _) (by simp [Value.oneCell']) (by unfold maxLen; omega) (by omega) (by rw [World.size_alloc]; omega) ?_; intro v1 w1 own1 hg1 _ hat1; obtain ⟨a1, c1, rfl⟩ := jrow_slice own1; obtain ⟨kk1, hM1, hz1_⟩ := hM.pushL hsz own1 hg1 hat1; have z1 := kk1.cell (i := 11) rfl; have fz1 := kk1.frozen 11)
      clear z1 fz1 cl kk1
      obtain ⟨w2, hw2⟩ : ∃ X, w1.setCell ⟨Wo.heap.size, 11, none⟩ (.slice a1 (j + 1) c1) = X := ⟨_, rfl⟩
      rw [hw2] at hM1 hz1_
      try rw [hw2]
      have cs := hM1.ks.cell (i := 11) rfl
      have hsz2 : Wo.heap.size ≤ w2.heap.size := hM1.be.size
      clear hw2 own1 hg1 hat1
      go_wp2_with (at_builtin; refine wpList_append_own_at _ rfl _ _ 30 rfl Wo.heap.size 3 i0 (.int .i64 0) 1 8 Tryz.underlying30 hi hz0 hz1 hz2 rfl (by decide) vs j _ rfl (hM1.rs.alloc _) ⟨w2.heap.size, 0, none⟩ 1 1 [.int .i64 ((ds : Int) + (q : Int) + (j : Int))] rfl rfl (cell_one_new _ _ _) (by simp [Value.oneCell']) (by unfold maxLen; omega) (by omega) (by rw [World.size_alloc]; omega) ?_; intro v3 w3 own3 hg3 _ hat3; obtain ⟨a3, c3, rfl⟩ := jrow_slice own3; obtain ⟨kk3, hM3, hz3_⟩ := hM1.pushS hsz2 own3 hg3 hat3; have z3 := kk3.cell (i := 11) rfl; have fz3 := kk3.frozen 11)
      clear z3 fz3 cs kk3 v0
      obtain ⟨w4, hw4⟩ : ∃ X, w3.setCell ⟨bs, 11, none⟩ (.slice a3 (j + 1) c3) = X := ⟨_, rfl⟩
      rw [hw4] at hM3
      try rw [hw4]
      have hMH := Lib.hid (show ∃ vl vs, MvS Wo.heap.size Wo w4 Wo.heap.size bs (j + 1) (j + 1) vl vs ((adP L n fr g (j + 1)).map (Value.int .i64)) ((adP L n ds g (j + 1)).map (Value.int .i64)) from ⟨.slice a1 (j + 1) c1, .slice a3 (j + 1) c3, by rw [adP_succ L n fr g j ((fr : Int) + (q : Int) + (j : Int)) (by rw [hqH.out]; split <;> omega), adP_succ L n ds g j ((ds : Int) + (q : Int) + (j : Int)) (by rw [hqH.out]; split <;> omega)]; exact hM3⟩)
      clear hM hM1 hM3 own3 hg3 hat3 hw4
      go_wp2_with fail
      go_roundw
      case rel => exact ⟨j + 1, by omega, by go_num, hMH⟩
      case measure => simp [intOf]; omega
     case neg =>
      have hcd : decide ((q : Int) + (j : Int) < (n : Int)) = false := by simp; omega
      have cl := hM.kl.cell (i := 11) rfl
      go_upto_region 13 with (at_builtin; refine wpList_append_own_at _ rfl _ _ 30 rfl Wo.heap.size 3 i0 (.int .i64 0) 1 8 Tryz.underlying30 hi hz0 hz1 hz2 rfl (by decide) vl j _ rfl (hM.rl.alloc _) ⟨wr.heap.size, 0, none⟩ 1 1 [.int .i64 (-1)] rfl rfl (cell_one_new _ _ _) (by simp [Value.oneCell']) (by unfold maxLen; omega) (by omega) (by rw [World.size_alloc]; omega) ?_; intro v1 w1 own1 hg1 _ hat1; obtain ⟨a1, c1, rfl⟩ := jrow_slice own1; obtain ⟨kk1, hM1, hz1_⟩ := hM.pushL hsz own1 hg1 hat1; have z1 := kk1.cell (i := 11) rfl; have fz1 := kk1.frozen 11)
      clear z1 fz1 cl kk1
      obtain ⟨w2, hw2⟩ : ∃ X, w1.setCell ⟨Wo.heap.size, 11, none⟩ (.slice a1 (j + 1) c1) = X := ⟨_, rfl⟩
      rw [hw2] at hM1 hz1_
      try rw [hw2]
      have cs := hM1.ks.cell (i := 11) rfl
      have hsz2 : Wo.heap.size ≤ w2.heap.size := hM1.be.size
      clear hw2 own1 hg1 hat1
      go_wp2_with (at_builtin; refine wpList_append_own_at _ rfl _ _ 30 rfl Wo.heap.size 3 i0 (.int .i64 0) 1 8 Tryz.underlying30 hi hz0 hz1 hz2 rfl (by decide) vs j _ rfl (hM1.rs.alloc _) ⟨w2.heap.size, 0, none⟩ 1 1 [.int .i64 (-1)] rfl rfl (cell_one_new _ _ _) (by simp [Value.oneCell']) (by unfold maxLen; omega) (by omega) (by rw [World.size_alloc]; omega) ?_; intro v3 w3 own3 hg3 _ hat3; obtain ⟨a3, c3, rfl⟩ := jrow_slice own3; obtain ⟨kk3, hM3, hz3_⟩ := hM1.pushS hsz2 own3 hg3 hat3; have z3 := kk3.cell (i := 11) rfl; have fz3 := kk3.frozen 11)
      clear z3 fz3 cs kk3 v0
      obtain ⟨w4, hw4⟩ : ∃ X, w3.setCell ⟨bs, 11, none⟩ (.slice a3 (j + 1) c3) = X := ⟨_, rfl⟩
      rw [hw4] at hM3
      try rw [hw4]
      have hMH := Lib.hid (show ∃ vl vs, MvS Wo.heap.size Wo w4 Wo.heap.size bs (j + 1) (j + 1) vl vs ((adP L n fr g (j + 1)).map (Value.int .i64)) ((adP L n ds g (j + 1)).map (Value.int .i64)) from ⟨.slice a1 (j + 1) c1, .slice a3 (j + 1) c3, by rw [adP_succ L n fr g j (-1) (by rw [hqH.out]; split <;> omega), adP_succ L n ds g j (-1) (by rw [hqH.out]; split <;> omega)]; exact hM3⟩)
      clear hM hM1 hM3 own3 hg3 hat3 hw4
      go_wp2_with fail
      go_roundw
      case rel => exact ⟨j + 1, by omega, by go_num, hMH⟩
      case measure => simp [intOf]; omega
    case neg =>
     have hjd : decide ((j : Int) < (L : Int)) = false := by simp; omega
     have hjn : L = j := by omega
     subst hjn
     obtain ⟨la, lc, rfl⟩ := row_slice hM.rl
     obtain ⟨sa, sc, rfl⟩ := row_slice hM.rs
     have hll : (adP L n fr g L).length = L := by simp [adP]
     have hls : (adP L n ds g L).length = L := by simp [adP]
     have rdl : Rd wr.heap.size wr la (adP L n fr g L) := row_rd' hll hM.rl
     have rds : Rd wr.heap.size wr sa (adP L n ds g L) := row_rd' hls hM.rs
     have hfl : ∀ b, la = some b → b.block ≥ Wo.heap.size := fun b e => by subst e; exact (hM.rl.lt b.block rfl).1
     have hfs : ∀ b, sa = some b → b.block ≥ Wo.heap.size := fun b e => by subst e; exact (hM.rs.lt b.block rfl).1
     have hbW := hM.be
     have cl0 := hM.kl.cell (i := 0) rfl
     have cs0 := hM.ks.cell (i := 0) rfl
     have cl1 := hM.kl.cell (i := 1) rfl
     have cs1 := hM.ks.cell (i := 1) rfl
     have cl2 := hM.kl.cell (i := 2) rfl
     have cs2 := hM.ks.cell (i := 2) rfl
     have cl3 := hM.kl.cell (i := 3) rfl
     have cs3 := hM.ks.cell (i := 3) rfl
     have cl4 := hM.kl.cell (i := 4) rfl
     have cs4 := hM.ks.cell (i := 4) rfl
     have cl5 := hM.kl.cell (i := 5) rfl
     have cs5 := hM.ks.cell (i := 5) rfl
     have cl6 := hM.kl.cell (i := 6) rfl
     have cs6 := hM.ks.cell (i := 6) rfl
     have cl7 := hM.kl.cell (i := 7) rfl
     have cs7 := hM.ks.cell (i := 7) rfl
     have cl8 := hM.kl.cell (i := 8) rfl
     have cs8 := hM.ks.cell (i := 8) rfl
     have cl9 := hM.kl.cell (i := 9) rfl
     have cs9 := hM.ks.cell (i := 9) rfl
     have cl10 := hM.kl.cell (i := 10) rfl
     have cs10 := hM.ks.cell (i := 10) rfl
     have cl11 := hM.kl.cell (i := 11) rfl
     have cs11 := hM.ks.cell (i := 11) rfl
     have hrow0 := row_below hownH.out.row hbW
     have hrd0 := fun y hy => (hownH.out.rd y hy).later hbW
     have hvl : ∀ b, (Value.slice va l.length vc).ownBlock = some b → b < Wo.heap.size := fun b e => (hownH.out.row.lt b e).2
     have kn := Blk.new wr 143 #[.int .u8 1, .int .i64 0, .int .i64 0, .int .i64 0, .int .i64 0, .int .i64 0, .int .i64 0, .int .i64 0, .int .i64 0, .int .i64 0, .int .u8 0, .slice la L lc, .int .u8 2, .int .i64 0, .int .i64 0, .int .i64 0, .int .i64 0, .int .i64 0, .int .i64 0, .int .i64 0, .int .i64 0, .int .i64 0, .int .u8 0, .slice sa L sc]
     obtain ⟨We, hWe⟩ : ∃ X, wr.alloc (.cells #[.int .u8 1, .int .i64 0, .int .i64 0, .int .i64 0, .int .i64 0, .int .i64 0, .int .i64 0, .int .i64 0, .int .i64 0, .int .i64 0, .int .u8 0, .slice la L lc, .int .u8 2, .int .i64 0, .int .i64 0, .int .i64 0, .int .i64 0, .int .i64 0, .int .i64 0, .int .i64 0, .int .i64 0, .int .i64 0, .int .u8 0, .slice sa L sc] 143) = X := ⟨_, rfl⟩
     have hbe : Below wr.heap.size wr We := alloc_below hWe
     rw [hWe] at kn
     replace hrow0 := row_below hrow0 hbe
     have hsz2 : w.heap.size + 1 ≤ We.heap.size := by have := hbe.size; omega
     go_wp2_with (at_builtin; refine wpList_append_anyS rfl _ _ 41 rfl (w.heap.size + 1) 143 j0 (.agg #[.int .u8 0, .int .i64 0, .int .i64 0, .int .i64 0, .int .i64 0, .int .i64 0, .int .i64 0, .int .i64 0, .int .i64 0, .int .i64 0, .int .u8 0, .slice none 0 0]) 12 112 Tryz.underlying41 gi gz0 gz1 gz2 rfl (by decide) (.slice va l.length vc) l.length (flatJ l) rfl hrow0 (some ⟨wr.heap.size, 0, none⟩) 2 2 (#[.int .u8 1, .int .i64 0, .int .i64 0, .int .i64 0, .int .i64 0, .int .i64 0, .int .i64 0, .int .i64 0, .int .i64 0, .int .i64 0, .int .u8 0, .slice la L lc, .int .u8 2, .int .i64 0, .int .i64 0, .int .i64 0, .int .i64 0, .int .i64 0, .int .i64 0, .int .i64 0, .int .i64 0, .int .i64 0, .int .u8 0, .slice sa L sc]).toList rfl rfl (NewsAt.blk kn 2) (by simp [Value.oneCell']) (by unfold maxLen; have := hlenH.out; omega) (by have := hlenH.out; omega) hsz2 ?_; intro v7 W7 own7 hg7 hat7; have kv7 := ((kv.below hbW kv.lt).below hbe (by have := kv.lt; have := hbW.size; omega)).kept hg7 (fun e => by have := (hrow0.lt _ e.symm).1; omega); have v07 := kv7.cell (i := 0) rfl)
     clear cl0 cs0 cl1 cs1 cl2 cs2 cl3 cs3 cl4 cs4 cl5 cs5 cl6 cs6 cl7 cs7 cl8 cs8 cl9 cs9 cl10 cs10 cl11 cs11 v0 hWe
     have hfin : ∃ l : List InsA, OwnI (w.heap.size + 1) W7 v7 l ∧ l.map InsA.x = movL L n fr ds (g + 1) ∧ ∀ y ∈ l, ∀ ad, y.a = some ad → w.heap.size ≤ ad.block := by
      refine ⟨l ++ [⟨movLd L n fr g, la, lc⟩, ⟨movSt L n ds g, sa, sc⟩], OwnI.more (k := [⟨movLd L n fr g, la, lc⟩, ⟨movSt L n ds g, sa, sc⟩]) (fun y hy => (hrd0 y hy).later hbe) (fun y hy => ?_) ?_ hg7 hat7, ?_, fun y hy ad e => ?_⟩
      ·simp only [List.mem_cons, List.not_mem_nil, or_false] at hy
       rcases hy with rfl | rfl
       ·exact ⟨later_i rdl hbe, .inr (fun ad e e2 => by have h1 := hfl ad e; have h2 := hvl _ e2; omega)⟩
       ·exact ⟨later_i rds hbe, .inr (fun ad e e2 => by have h1 := hfs ad e; have h2 := hvl _ e2; omega)⟩
      ·have e : flatJ [⟨movLd L n fr g, la, lc⟩, ⟨movSt L n ds g, sa, sc⟩] = (#[.int .u8 1, .int .i64 0, .int .i64 0, .int .i64 0, .int .i64 0, .int .i64 0, .int .i64 0, .int .i64 0, .int .i64 0, .int .i64 0, .int .u8 0, .slice la L lc, .int .u8 2, .int .i64 0, .int .i64 0, .int .i64 0, .int .i64 0, .int .i64 0, .int .i64 0, .int .i64 0, .int .i64 0, .int .i64 0, .int .u8 0, .slice sa L sc]).toList := by
        show insCells (movLd L n fr g) la lc ++ (insCells (movSt L n ds g) sa sc ++ []) = _
        unfold insCells movLd movSt
        simp only [movAd_len]
        rfl
       rw [e]; exact own7
      ·rw [List.map_append, hlmH.out]; rfl
      ·have hBs := hB.size
       rcases List.mem_append.1 hy with hy | hy
       ·exact hfrH.out y hy ad e
       ·simp only [List.mem_cons, List.not_mem_nil, or_false] at hy
        rcases hy with rfl | rfl
        ·have := hfl ad e; omega
        ·have := hfs ad e; omega
     have hfinH := Lib.hid hfin
     have hB7 : Below w.heap.size w W7 := (hB.trans ((hbW.trans (hbe.mono hbW.size)).mono hB.size)).grown hg7 (by omega) (fun b e => by have := (hrow0.lt b e).1; omega)
     have hlo7 : w.heap.size + 1 ≤ W7.heap.size := by have := hg7.size; omega
     clear v07
     clear hfin own7 hg7 hat7 hrow0 hrd0 hM kn hbe hbW rdl rds hfl hfs
     go_wp2_with fail
     go_roundw
     case rel => exact ⟨g + 1, by omega, by rw [Nat.succ_mul, hqH.out]; omega, by rw [Nat.succ_mul, hqH.out]; go_num, hfinH, hlo7, hB7, kv7⟩
     case measure => simp [intOf]; omega
end Go.Proofs.YtekiemlniegddaaGreat

/- Networks: when they are valid; the numbers and bounds behind each layer, and how large they are. Plain: no program in sight. -/
import Derived.Test.YtbfigbpjoaccdaaBase
import Derived.Test.YtbfigbpjoaccdaaNet
namespace Go.Proofs.Ytbfigbpjoaccdaa
set_option linter.unusedVariables false
set_option linter.unusedSimpArgs false

def allTo (p : Nat → Bool) : Nat → Bool
  | 0 => true
  | n + 1 => allTo p n && p n
theorem allTo_at {p : Nat → Bool} : ∀ {n : Nat}, allTo p n = true → ∀ {k : Nat}, k < n → p k = true
  | 0, _, k, hk => by omega
  | n + 1, h, k, hk => by
    simp only [allTo, Bool.and_eq_true] at h
    by_cases e : k = n
    · subst e; exact h.2
    · exact allTo_at h.1 (by omega)
theorem allTo_false {p : Nat → Bool} {k n : Nat} (hk : k < n) (h : p k = false) : allTo p n = false := by
  cases hc : allTo p n with
  | false => rfl
  | true => rw [allTo_at hc hk] at h; cases h
theorem allTo_succ {p : Nat → Bool} {n : Nat} (h : allTo p n = true) (h1 : p n = true) : allTo p (n + 1) = true := by simp only [allTo, h, h1, Bool.and_self]

theorem allIn_getD {lo hi : Int} {xs : List Int} (h : allIn lo hi xs = true) {k : Nat} (hk : k < xs.length) : lo ≤ xs[k]?.getD 0 ∧ xs[k]?.getD 0 ≤ hi := by
  rw [List.getElem?_eq_getElem hk]
  exact allIn_mem h (List.getElem_mem hk)
theorem allIn_of {lo hi : Int} {xs : List Int} (h : ∀ k, k < xs.length → lo ≤ xs[k]?.getD 0 ∧ xs[k]?.getD 0 ≤ hi) : allIn lo hi xs = true := by
  simp only [allIn, List.all_eq_true, Bool.and_eq_true, decide_eq_true_eq]
  intro x hx
  obtain ⟨k, hk, rfl⟩ := List.getElem_of_mem hx
  have := h k hk
  rwa [List.getElem?_eq_getElem hk] at this

def nIn (lo hi x : Int) : Bool := decide (lo ≤ x) && decide (x ≤ hi)
theorem nIn_true {lo hi x : Int} : nIn lo hi x = true ↔ lo ≤ x ∧ x ≤ hi := by simp [nIn]
theorem nIn_false {lo hi x : Int} : nIn lo hi x = false ↔ x < lo ∨ hi < x := by
  rw [Bool.eq_false_iff, ne_eq, nIn_true]; omega

def layAt (Ls : List LayN) (i : Nat) : LayN := Ls[i]?.getD ⟨[], []⟩
def wRowOk (b : Nat) (r : List Int) : Bool := decide (r.length = b) && allIn (-1000) 1000 r
/-- A layer is valid for so many numbers before it. -/
def lyOk (b : Nat) (L : LayN) : Bool :=
  decide (1 ≤ L.bs.length) && decide (L.bs.length ≤ 8) && decide (L.ws.length = L.bs.length) && allIn (-1000000) 1000000 L.bs && allTo (fun r => wRowOk b (L.ws[r]?.getD [])) L.ws.length
def widthN (b : Nat) (Ls : List LayN) : Nat → Nat
  | 0 => b
  | k + 1 => (layAt Ls k).bs.length
def lysOk (b : Nat) (Ls : List LayN) : Bool := allTo (fun k => lyOk (widthN b Ls k) (layAt Ls k)) Ls.length
structure NetN where
  w : Int
  h : Int
  gx : Int
  gy : Int
  Ls : List LayN
  low : Int
  high : Int
/-- How many features there are. -/
def NetN.nf (N : NetN) : Nat := (N.gx * N.gy).toNat
def sidesOk (N : NetN) : Bool := (nIn 1 16 N.w && nIn 1 16 N.h) && (nIn 1 4 N.gx && nIn 1 4 N.gy) && decide (N.w % N.gx = 0) && decide (N.h % N.gy = 0) && (decide (1 ≤ N.Ls.length) && decide (N.Ls.length ≤ 3))
def endOk (N : NetN) : Bool := decide (widthN N.nf N.Ls N.Ls.length = 1) && decide (N.low < N.high) && (nIn (-1152921504606846976) 1152921504606846976 N.low && nIn (-1152921504606846976) 1152921504606846976 N.high)
def netOk (N : NetN) : Bool := sidesOk N && lysOk N.nf N.Ls && endOk N

structure LyOk (b : Nat) (L : LayN) : Prop where
  b1 : 1 ≤ L.bs.length
  b8 : L.bs.length ≤ 8
  ws : L.ws.length = L.bs.length
  bs : allIn (-1000000) 1000000 L.bs = true
  row : ∀ k, k < L.bs.length → (L.ws[k]?.getD []).length = b ∧ allIn (-1000) 1000 (L.ws[k]?.getD []) = true
theorem lyOk_iff {b : Nat} {L : LayN} : lyOk b L = true ↔ LyOk b L := by
  unfold lyOk
  simp only [Bool.and_eq_true, decide_eq_true_eq]
  constructor
  · rintro ⟨⟨⟨⟨h1, h2⟩, h3⟩, h4⟩, h5⟩
    refine ⟨h1, h2, h3, h4, fun k hk => ?_⟩
    have := allTo_at h5 (k := k) (by omega)
    simpa [wRowOk] using this
  · rintro ⟨h1, h2, h3, h4, h5⟩
    refine ⟨⟨⟨⟨h1, h2⟩, h3⟩, h4⟩, ?_⟩
    rw [h3]
    have : ∀ n, n ≤ L.bs.length → allTo (fun r => wRowOk b (L.ws[r]?.getD [])) n = true := fun n => by
      induction n with
      | zero => intro _; rfl
      | succ n ih => intro hn; exact allTo_succ (ih (by omega)) (by simpa [wRowOk] using h5 n (by omega))
    exact this _ (Nat.le_refl _)
structure NetOk (N : NetN) : Prop where
  w : 1 ≤ N.w ∧ N.w ≤ 16
  h : 1 ≤ N.h ∧ N.h ≤ 16
  gx : 1 ≤ N.gx ∧ N.gx ≤ 4
  gy : 1 ≤ N.gy ∧ N.gy ≤ 4
  mx : N.w % N.gx = 0
  my : N.h % N.gy = 0
  l1 : 1 ≤ N.Ls.length
  l3 : N.Ls.length ≤ 3
  ly : ∀ k, k < N.Ls.length → LyOk (widthN N.nf N.Ls k) (layAt N.Ls k)
  one : widthN N.nf N.Ls N.Ls.length = 1
  lt : N.low < N.high
  low : -1152921504606846976 ≤ N.low ∧ N.low ≤ 1152921504606846976
  high : -1152921504606846976 ≤ N.high ∧ N.high ≤ 1152921504606846976
theorem netOk_of {N : NetN} (h : netOk N = true) : NetOk N := by
  simp only [netOk, sidesOk, endOk, Bool.and_eq_true, nIn_true, decide_eq_true_eq] at h
  obtain ⟨⟨⟨⟨⟨⟨⟨h1, h2⟩, h3, h4⟩, h5⟩, h6⟩, h7, h8⟩, h9⟩, ⟨h10, h11⟩, h12, h13⟩ := h
  exact ⟨h1, h2, h3, h4, h5, h6, h7, h8, fun k hk => lyOk_iff.1 (allTo_at h9 hk), h10, h11, h12, h13⟩
theorem NetOk.nf {N : NetN} (h : NetOk N) : 1 ≤ N.nf ∧ N.nf ≤ 16 ∧ (N.nf : Int) = N.gx * N.gy := by
  have h1 := h.gx
  have h2 := h.gy
  have h3 : 1 * 1 ≤ N.gx * N.gy := Int.mul_le_mul (by omega) (by omega) (by omega) (by omega)
  have h4 : N.gx * N.gy ≤ 4 * 4 := Int.mul_le_mul (by omega) (by omega) (by omega) (by omega)
  unfold NetN.nf
  omega

/-! ### The numbers behind each layer -/

def numAt (Ls : List LayN) (l : List Int) : Nat → List Int
  | 0 => l
  | i + 1 => layL (layAt Ls i) (decide (i + 1 < Ls.length)) (numAt Ls l i)
def bndAt (Ls : List LayN) (l : List (Int × Int)) : Nat → List (Int × Int)
  | 0 => l
  | i + 1 => layB (layAt Ls i) (decide (i + 1 < Ls.length)) (bndAt Ls l i)
theorem drop_lay {Ls : List LayN} {i : Nat} (hi : i < Ls.length) : Ls.drop i = layAt Ls i :: Ls.drop (i + 1) := by
  rw [List.drop_eq_getElem_cons hi]
  unfold layAt
  rw [List.getElem?_eq_getElem hi]
  rfl
theorem drop_more {Ls : List LayN} (i : Nat) : (!(Ls.drop (i + 1)).isEmpty) = decide (i + 1 < Ls.length) := by
  by_cases h : i + 1 < Ls.length
  · rw [drop_lay h]; simp [h]
  · rw [List.drop_eq_nil_of_le (by omega)]; simp [h]
theorem fwdL_drop (Ls : List LayN) (l : List Int) : ∀ k i, i + k = Ls.length → fwdL (Ls.drop i) (numAt Ls l i) = numAt Ls l Ls.length
  | 0, i, h => by
    have : i = Ls.length := by omega
    subst this
    rw [List.drop_length]; rfl
  | k + 1, i, h => by
    rw [drop_lay (by omega), fwdL, drop_more]
    exact fwdL_drop Ls l k (i + 1) (by omega)
theorem fwdB_drop (Ls : List LayN) (l : List (Int × Int)) : ∀ k i, i + k = Ls.length → fwdB (Ls.drop i) (bndAt Ls l i) = bndAt Ls l Ls.length
  | 0, i, h => by
    have : i = Ls.length := by omega
    subst this
    rw [List.drop_length]; rfl
  | k + 1, i, h => by
    rw [drop_lay (by omega), fwdB, drop_more]
    exact fwdB_drop Ls l k (i + 1) (by omega)
theorem scoreN_at (Ls : List LayN) (l : List Int) : scoreN Ls l = (numAt Ls l Ls.length)[0]?.getD 0 := by
  unfold scoreN
  have := fwdL_drop Ls l Ls.length 0 (by omega)
  rw [List.drop_zero] at this
  rw [← this]; rfl
theorem fwdB_at (Ls : List LayN) (l : List (Int × Int)) : fwdB Ls l = bndAt Ls l Ls.length := by
  have := fwdB_drop Ls l Ls.length 0 (by omega)
  rw [List.drop_zero] at this
  exact this
theorem numAt_len (Ls : List LayN) (l : List Int) : ∀ i, (numAt Ls l i).length = widthN l.length Ls i
  | 0 => rfl
  | i + 1 => by rw [numAt, layL_length]; rfl
theorem bndAt_len (Ls : List LayN) (l : List (Int × Int)) : ∀ i, (bndAt Ls l i).length = widthN l.length Ls i
  | 0 => rfl
  | i + 1 => by rw [bndAt, layB_length]; rfl

/-! ### How large they are -/

def Bn : Nat → Int
  | 0 => 65280
  | i + 1 => 1000000 + 16000 * Bn i
theorem Bn_pos : ∀ i, 0 ≤ Bn i
  | 0 => by decide
  | i + 1 => by have := Bn_pos i; simp only [Bn]; omega
theorem Bn_max {i : Nat} (h : i ≤ 3) : Bn i ≤ 1000000000000000000 := by
  have h0 : Bn 0 = 65280 := rfl
  have h1 : Bn 1 = 1000000 + 16000 * Bn 0 := rfl
  have h2 : Bn 2 = 1000000 + 16000 * Bn 1 := rfl
  have h3 : Bn 3 = 1000000 + 16000 * Bn 2 := rfl
  have : i = 0 ∨ i = 1 ∨ i = 2 ∨ i = 3 := by omega
  rcases this with rfl | rfl | rfl | rfl <;> omega
def LeB (B : Int) (l : List Int) : Prop := ∀ j : Nat, -B ≤ l[j]?.getD 0 ∧ l[j]?.getD 0 ≤ B
def LeP (B : Int) (l : List (Int × Int)) : Prop := ∀ j : Nat, (-B ≤ loAt l j ∧ loAt l j ≤ B) ∧ (-B ≤ hiAt l j ∧ hiAt l j ≤ B)
theorem w_mul_bd {w x B : Int} (h1 : -1000 ≤ w) (h2 : w ≤ 1000) (h3 : -B ≤ x) (h4 : x ≤ B) : -(1000 * B) ≤ w * x ∧ w * x ≤ 1000 * B := by
  rcases Int.le_total 0 w with hw | hw
  · have a1 : w * x ≤ w * B := Int.mul_le_mul_of_nonneg_left h4 hw
    have a2 : w * (-B) ≤ w * x := Int.mul_le_mul_of_nonneg_left h3 hw
    have a3 : w * B ≤ 1000 * B := Int.mul_le_mul_of_nonneg_right h2 (by omega)
    rw [Int.mul_neg] at a2
    omega
  · have a1 : w * x ≤ w * (-B) := Int.mul_le_mul_of_nonpos_left hw h3
    have a2 : w * B ≤ w * x := Int.mul_le_mul_of_nonpos_left hw h4
    have a3 : (-1000) * B ≤ w * B := Int.mul_le_mul_of_nonneg_right h1 (by omega)
    rw [Int.mul_neg] at a1
    omega
theorem wAt_bd {b : Nat} {L : LayN} (h : LyOk b L) {k j : Nat} (hk : k < L.bs.length) (hj : j < b) : -1000 ≤ wAt L k j ∧ wAt L k j ≤ 1000 := by
  obtain ⟨h1, h2⟩ := h.row k hk
  exact allIn_getD h2 (by omega)
theorem bAt_bd {b : Nat} {L : LayN} (h : LyOk b L) {k : Nat} (hk : k < L.bs.length) : -1000000 ≤ bAt L k ∧ bAt L k ≤ 1000000 := allIn_getD h.bs hk
/-- A sum that is under way. -/
def partL (L : LayN) (l : List Int) (k m : Nat) : Int := bAt L k + sumJ (fun j => wAt L k j * l[j]?.getD 0) m
def partLo (L : LayN) (l : List (Int × Int)) (k m : Nat) : Int := bAt L k + sumJ (fun j => loT (wAt L k j) (loAt l j) (hiAt l j)) m
def partHi (L : LayN) (l : List (Int × Int)) (k m : Nat) : Int := bAt L k + sumJ (fun j => hiT (wAt L k j) (loAt l j) (hiAt l j)) m
theorem sum_part {f : Nat → Int} {B c : Int} {m b : Nat} (hB : 0 ≤ B) (hb : b ≤ 16) (hm : m ≤ b) (hc : -1000000 ≤ c ∧ c ≤ 1000000) (hf : ∀ i, i < b → -(1000 * B) ≤ f i ∧ f i ≤ 1000 * B) :
    -(1000000 + 16000 * B) ≤ c + sumJ f m ∧ c + sumJ f m ≤ 1000000 + 16000 * B := by
  have h := sumJ_bd (f := f) (B := 1000 * B) (n := m) fun i hi => hf i (by omega)
  have h2 : 1000 * B * (m : Int) ≤ 1000 * B * 16 := Int.mul_le_mul_of_nonneg_left (by omega) (by omega)
  omega
theorem partL_bd {b : Nat} {L : LayN} {l : List Int} {B : Int} (h : LyOk b L) (hb : b ≤ 16) (hB : 0 ≤ B) (hl : LeB B l) {k m : Nat} (hk : k < L.bs.length) (hm : m ≤ b) :
    -(1000000 + 16000 * B) ≤ partL L l k m ∧ partL L l k m ≤ 1000000 + 16000 * B :=
  sum_part hB hb hm (bAt_bd h hk) fun j hj => w_mul_bd (wAt_bd h hk hj).1 (wAt_bd h hk hj).2 (hl j).1 (hl j).2
theorem loT_bd {w x y B : Int} (h1 : -1000 ≤ w) (h2 : w ≤ 1000) (hx : -B ≤ x ∧ x ≤ B) (hy : -B ≤ y ∧ y ≤ B) : -(1000 * B) ≤ loT w x y ∧ loT w x y ≤ 1000 * B := by
  unfold loT; split
  · exact w_mul_bd h1 h2 hy.1 hy.2
  · exact w_mul_bd h1 h2 hx.1 hx.2
theorem hiT_bd {w x y B : Int} (h1 : -1000 ≤ w) (h2 : w ≤ 1000) (hx : -B ≤ x ∧ x ≤ B) (hy : -B ≤ y ∧ y ≤ B) : -(1000 * B) ≤ hiT w x y ∧ hiT w x y ≤ 1000 * B := by
  unfold hiT; split
  · exact w_mul_bd h1 h2 hx.1 hx.2
  · exact w_mul_bd h1 h2 hy.1 hy.2
theorem partLo_bd {b : Nat} {L : LayN} {l : List (Int × Int)} {B : Int} (h : LyOk b L) (hb : b ≤ 16) (hB : 0 ≤ B) (hl : LeP B l) {k m : Nat} (hk : k < L.bs.length) (hm : m ≤ b) :
    -(1000000 + 16000 * B) ≤ partLo L l k m ∧ partLo L l k m ≤ 1000000 + 16000 * B :=
  sum_part hB hb hm (bAt_bd h hk) fun j hj => loT_bd (wAt_bd h hk hj).1 (wAt_bd h hk hj).2 (hl j).1 (hl j).2
theorem partHi_bd {b : Nat} {L : LayN} {l : List (Int × Int)} {B : Int} (h : LyOk b L) (hb : b ≤ 16) (hB : 0 ≤ B) (hl : LeP B l) {k m : Nat} (hk : k < L.bs.length) (hm : m ≤ b) :
    -(1000000 + 16000 * B) ≤ partHi L l k m ∧ partHi L l k m ≤ 1000000 + 16000 * B :=
  sum_part hB hb hm (bAt_bd h hk) fun j hj => hiT_bd (wAt_bd h hk hj).1 (wAt_bd h hk hj).2 (hl j).1 (hl j).2
theorem cutI_bd {c : Bool} {s B : Int} (h : -B ≤ s ∧ s ≤ B) : -B ≤ cutI c s ∧ cutI c s ≤ B := by unfold cutI; split <;> omega
theorem LeB.next {b : Nat} {L : LayN} {l : List Int} {B : Int} (h : LyOk b L) (hb : b ≤ 16) (hB : 0 ≤ B) (hl : LeB B l) (hn : l.length = b) (c : Bool) : LeB (1000000 + 16000 * B) (layL L c l) := fun k => by
  by_cases hk : k < L.bs.length
  · unfold layL
    rw [getD_map_range _ _ hk]
    unfold layF
    rw [hn]
    exact cutI_bd (partL_bd h hb hB hl hk (Nat.le_refl _))
  · rw [List.getElem?_eq_none (by rw [layL_length]; omega)]
    show _ ≤ (0 : Int) ∧ (0 : Int) ≤ _
    omega
theorem LeP.next {b : Nat} {L : LayN} {l : List (Int × Int)} {B : Int} (h : LyOk b L) (hb : b ≤ 16) (hB : 0 ≤ B) (hl : LeP B l) (hn : l.length = b) (c : Bool) : LeP (1000000 + 16000 * B) (layB L c l) := fun k => by
  by_cases hk : k < L.bs.length
  · obtain ⟨e1, e2⟩ := layB_at (c := c) (l := l) hk
    rw [e1, e2]
    unfold layBF
    rw [hn]
    exact ⟨cutI_bd (partLo_bd h hb hB hl hk (Nat.le_refl _)), cutI_bd (partHi_bd h hb hB hl hk (Nat.le_refl _))⟩
  · unfold loAt hiAt
    rw [List.getElem?_eq_none (by rw [layB_length]; omega)]
    show (_ ≤ (0 : Int) ∧ (0 : Int) ≤ _) ∧ (_ ≤ (0 : Int) ∧ (0 : Int) ≤ _)
    omega
theorem width_le {N : NetN} (h : NetOk N) {i : Nat} (hi : i ≤ N.Ls.length) : 1 ≤ widthN N.nf N.Ls i ∧ widthN N.nf N.Ls i ≤ 16 := by
  cases i with
  | zero => exact ⟨h.nf.1, h.nf.2.1⟩
  | succ i =>
    have := h.ly i (by omega)
    have h1 := this.b1
    have h2 := this.b8
    show 1 ≤ (layAt N.Ls i).bs.length ∧ (layAt N.Ls i).bs.length ≤ 16
    omega
theorem numAt_bd {N : NetN} (h : NetOk N) {l : List Int} (hn : l.length = N.nf) (hl : LeB 65280 l) : ∀ i, i ≤ N.Ls.length → LeB (Bn i) (numAt N.Ls l i)
  | 0, _ => hl
  | i + 1, hi => LeB.next (h.ly i (by omega)) (width_le h (by omega)).2 (Bn_pos i) (numAt_bd h hn hl i (by omega)) (by rw [numAt_len, hn]) _
theorem bndAt_bd {N : NetN} (h : NetOk N) {l : List (Int × Int)} (hn : l.length = N.nf) (hl : LeP 65280 l) : ∀ i, i ≤ N.Ls.length → LeP (Bn i) (bndAt N.Ls l i)
  | 0, _ => hl
  | i + 1, hi => LeP.next (h.ly i (by omega)) (width_le h (by omega)).2 (Bn_pos i) (bndAt_bd h hn hl i (by omega)) (by rw [bndAt_len, hn]) _

end Go.Proofs.Ytbfigbpjoaccdaa

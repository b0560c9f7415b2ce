/- Contracts and laws (Jury, Net, NetB, ND, Cn, Cr). -/
import Derived.Lib.Hide
import Derived.Test.YtbfigbpjoaccdaaGreatQA1
namespace Go.Proofs.YtbfigbpjoaccdaaGreat
set_option linter.unusedVariables false
set_option linter.unusedSimpArgs false

def sumJ (f : Nat → Int) : Nat → Int
  | 0 => 0
  | n + 1 => sumJ f n + f n
theorem sumJ_bd {f : Nat → Int} {B : Int} : ∀ {n : Nat}, (∀ i, i < n → -B ≤ f i ∧ f i ≤ B) → -(B * n) ≤ sumJ f n ∧ sumJ f n ≤ B * n
  | 0, _ => by simp [sumJ]
  | n + 1, h => by
    have ih := sumJ_bd (n := n) fun i hi => h i (by omega)
    have h2 := h n (by omega)
    have e : B * ((n + 1 : Nat) : Int) = B * n + B := by rw [Int.natCast_succ, Int.mul_add, Int.mul_one]
    rw [e]
    simp only [sumJ]
    omega
/-! ### Votes and weights. 'lab i k' is what inspector i said of part k: nothing (0), Pass (1), Fail (2) -/

def sumW (lab : Nat → Nat → Nat) (w : Nat → Int) (v k J : Nat) : Int := sumJ (fun i => if lab i k = v then w i else 0) J
def verd (y n : Int) : Nat := if n < y then 1 else if y < n then 2 else 3
def voteF (lab : Nat → Nat → Nat) (w : Nat → Int) (J k : Nat) : Nat := verd (sumW lab w 1 k J) (sumW lab w 2 k J)
/-- What one part adds to an inspector's weight, by the verdict and the label. -/
def scoreJ (v l : Nat) : Int := if v = 3 ∨ l = 0 then 0 else if l = v then 1 else -1
def netJ (lab : Nat → Nat → Nat) (v : Nat → Nat) (i K : Nat) : Int := sumJ (fun k => scoreJ (v k) (lab i k)) K
def weighF (lab : Nat → Nat → Nat) (v : Nat → Nat) (K i : Nat) : Int := max (netJ lab v i K) 0

def voteL (lab : Nat → Nat → Nat) (J K : Nat) (ws : List Int) : List Nat := (List.range K).map (voteF lab (fun i => ws[i]?.getD 0) J)
def weighL (lab : Nat → Nat → Nat) (J K : Nat) (vs : List Nat) : List Int := (List.range J).map (weighF lab (fun k => vs[k]?.getD 0) K)
/-- So many more rounds, from verdicts and weights on. -/
def reconL (lab : Nat → Nat → Nat) (J K : Nat) : Nat → List Nat → List Int → List Nat × List Int
  | 0, vs, ws => (vs, ws)
  | r + 1, vs, _ => if voteL lab J K (weighL lab J K vs) = vs then (vs, weighL lab J K vs) else reconL lab J K r (voteL lab J K (weighL lab J K vs)) (weighL lab J K vs)
def reconS (lab : Nat → Nat → Nat) (J K : Nat) : List Nat × List Int := reconL lab J K 10 (voteL lab J K (List.replicate J 1)) (List.replicate J 1)

variable {lab : Nat → Nat → Nat} {J K : Nat}

theorem verd_mem (y n : Int) : verd y n = 1 ∨ verd y n = 2 ∨ verd y n = 3 := by unfold verd; split <;> (try split) <;> omega
theorem verd_one (y n : Int) : verd y n = 1 ↔ n < y := by unfold verd; split <;> (try split) <;> omega
theorem verd_two (y n : Int) : verd y n = 2 ↔ y < n := by unfold verd; split <;> (try split) <;> omega
theorem scoreJ_bd (v l : Nat) : -1 ≤ scoreJ v l ∧ scoreJ v l ≤ 1 := by unfold scoreJ; split <;> (try split) <;> omega
theorem weighF_bd (v : Nat → Nat) (i : Nat) : 0 ≤ weighF lab v K i ∧ weighF lab v K i ≤ K := by
  have := sumJ_bd (f := fun k => scoreJ (v k) (lab i k)) (B := 1) (n := K) fun k _ => scoreJ_bd _ _
  unfold weighF netJ
  omega
theorem getD_map_range {α : Type} (f : Nat → α) (d : α) {n k : Nat} (h : k < n) : ((List.range n).map f)[k]?.getD d = f k := by
  rw [List.getElem?_map, List.getElem?_range h]; rfl

/-! ### Pass and Fail exchanged -/

/-! ### The inspectors in the other order -/

/-! ### Two parts exchanged -/

end Go.Proofs.YtbfigbpjoaccdaaGreat

namespace Go.Proofs.YtbfigbpjoaccdaaGreat
set_option linter.unusedVariables false
set_option linter.unusedSimpArgs false

/-- A layer: for each of its numbers the weights of those before it, and a bias. -/
structure LayN where
  ws : List (List Int)
  bs : List Int
def wAt (L : LayN) (k j : Nat) : Int := (L.ws[k]?.getD [])[j]?.getD 0
def bAt (L : LayN) (k : Nat) : Int := L.bs[k]?.getD 0
/-- 0 instead of what is below, if asked. -/
def cutI (c : Bool) (s : Int) : Int := if c = true then max s 0 else s
def layF (L : LayN) (c : Bool) (l : List Int) (k : Nat) : Int := cutI c (bAt L k + sumJ (fun j => wAt L k j * l[j]?.getD 0) l.length)
def layL (L : LayN) (c : Bool) (l : List Int) : List Int := (List.range L.bs.length).map (layF L c l)
def fwdL : List LayN → List Int → List Int
  | [], l => l
  | L :: r, l => fwdL r (layL L (!r.isEmpty) l)
def scoreN (Ls : List LayN) (l : List Int) : Int := (fwdL Ls l)[0]?.getD 0

/-- The terms of a lower, of an upper bound. -/
def loT (w lo hi : Int) : Int := if w < 0 then w * hi else w * lo
def hiT (w lo hi : Int) : Int := if w < 0 then w * lo else w * hi
def loAt (l : List (Int × Int)) (j : Nat) : Int := (l[j]?.getD (0, 0)).1
def hiAt (l : List (Int × Int)) (j : Nat) : Int := (l[j]?.getD (0, 0)).2
def layBF (L : LayN) (c : Bool) (l : List (Int × Int)) (k : Nat) : Int × Int :=
  (cutI c (bAt L k + sumJ (fun j => loT (wAt L k j) (loAt l j) (hiAt l j)) l.length), cutI c (bAt L k + sumJ (fun j => hiT (wAt L k j) (loAt l j) (hiAt l j)) l.length))
def layB (L : LayN) (c : Bool) (l : List (Int × Int)) : List (Int × Int) := (List.range L.bs.length).map (layBF L c l)
def fwdB : List LayN → List (Int × Int) → List (Int × Int)
  | [], l => l
  | L :: r, l => fwdB r (layB L (!r.isEmpty) l)

/-- Numbers are within bounds; bounds are within bounds. -/
structure InB (l : List (Int × Int)) (x : List Int) : Prop where
  len : l.length = x.length
  bd : ∀ j, j < l.length → loAt l j ≤ x[j]?.getD 0 ∧ x[j]?.getD 0 ≤ hiAt l j
theorem layB_at {L : LayN} {c : Bool} {l : List (Int × Int)} {k : Nat} (hk : k < L.bs.length) : loAt (layB L c l) k = (layBF L c l k).1 ∧ hiAt (layB L c l) k = (layBF L c l k).2 := by
  unfold loAt hiAt layB
  rw [getD_map_range _ _ hk]
  exact ⟨rfl, rfl⟩
theorem layB_length (L : LayN) (c : Bool) (l : List (Int × Int)) : (layB L c l).length = L.bs.length := by simp [layB]
theorem layL_length (L : LayN) (c : Bool) (l : List Int) : (layL L c l).length = L.bs.length := by simp [layL]
/-! ### Verdicts and certificates -/

def verdB (low high a b : Int) : Nat := if high ≤ a then 1 else if b ≤ low then 2 else 3
def judgeB (Ls : List LayN) (low high : Int) (l : List (Int × Int)) : Nat := verdB low high (loAt (fwdB Ls l) 0) (hiAt (fwdB Ls l) 0)
def widthB (l : List (Int × Int)) (i : Nat) : Int := hiAt l i - loAt l i
def wideTo (l : List (Int × Int)) : Nat → Nat
  | 0 => 0
  | i + 1 => if widthB l (wideTo l i) < widthB l i then i else wideTo l i
def wideB (l : List (Int × Int)) : Nat := wideTo l l.length
def midB (l : List (Int × Int)) : Int := (loAt l (wideB l) + hiAt l (wideB l)).tdiv 2
def leftB (l : List (Int × Int)) : List (Int × Int) := l.set (wideB l) (loAt l (wideB l), midB l)
def rightB (l : List (Int × Int)) : List (Int × Int) := l.set (wideB l) (midB l + 1, hiAt l (wideB l))
def certN (Ls : List LayN) (low high : Int) : Nat → List (Int × Int) → Nat
  | 0, l => judgeB Ls low high l
  | s + 1, l => if judgeB Ls low high l ≠ 3 ∨ loAt l (wideB l) = hiAt l (wideB l) then judgeB Ls low high l else
      if certN Ls low high s (leftB l) ≠ 3 ∧ certN Ls low high s (rightB l) ≠ certN Ls low high s (leftB l) then 3 else certN Ls low high s (leftB l)

variable {Ls : List LayN} {low high : Int}
theorem set_at (l : List (Int × Int)) (i : Nat) (v : Int × Int) {j : Nat} (hj : j < l.length) : loAt (l.set i v) j = (if j = i then v.1 else loAt l j) ∧ hiAt (l.set i v) j = (if j = i then v.2 else hiAt l j) := by
  unfold loAt hiAt
  by_cases e : j = i
  · subst e
    rw [if_pos rfl, if_pos rfl, List.getElem?_set_self hj]
    exact ⟨rfl, rfl⟩
  · rw [if_neg e, if_neg e, List.getElem?_set_ne (fun h => e h.symm)]
    exact ⟨rfl, rfl⟩
theorem InB.split {l : List (Int × Int)} {x : List Int} (h : InB l x) : InB (leftB l) x ∨ InB (rightB l) x := by
  by_cases hc : x[wideB l]?.getD 0 ≤ midB l
  · refine .inl ⟨by unfold leftB; rw [List.length_set]; exact h.len, fun j hj => ?_⟩
    unfold leftB at hj ⊢
    rw [List.length_set] at hj
    obtain ⟨e1, e2⟩ := set_at l (wideB l) (loAt l (wideB l), midB l) hj
    rw [e1, e2]
    have hb := h.bd j hj
    by_cases e : j = wideB l
    · subst e; rw [if_pos rfl, if_pos rfl]; exact ⟨hb.1, hc⟩
    · rw [if_neg e, if_neg e]; exact hb
  · refine .inr ⟨by unfold rightB; rw [List.length_set]; exact h.len, fun j hj => ?_⟩
    unfold rightB at hj ⊢
    rw [List.length_set] at hj
    obtain ⟨e1, e2⟩ := set_at l (wideB l) (midB l + 1, hiAt l (wideB l)) hj
    rw [e1, e2]
    have hb := h.bd j hj
    by_cases e : j = wideB l
    · subst e; rw [if_pos rfl, if_pos rfl]; exact ⟨by show midB l + 1 ≤ _; omega, hb.2⟩
    · rw [if_neg e, if_neg e]; exact hb
theorem certN_judged {l : List (Int × Int)} (h : judgeB Ls low high l ≠ 3) (s : Nat) : certN Ls low high s l = judgeB Ls low high l := by
  cases s with
  | zero => rfl
  | succ s => rw [certN, if_pos (.inl h)]
end Go.Proofs.YtbfigbpjoaccdaaGreat

namespace Go.Proofs.YtbfigbpjoaccdaaGreat
set_option linter.unusedVariables false
set_option linter.unusedSimpArgs false

def allTo (p : Nat → Bool) : Nat → Bool
  | 0 => true
  | n + 1 => allTo p n && p n
theorem allTo_at {p : Nat → Bool} : ∀ {n : Nat}, allTo p n = true → ∀ {k : Nat}, k < n → p k = true
  | 0, _, k, hk => by omega
  | n + 1, h, k, hk => by
    simp only [allTo, Bool.and_eq_true] at h
    by_cases e : k = n
    · subst e; exact h.2
    · exact allTo_at h.1 (by omega)
theorem allTo_false {p : Nat → Bool} {k n : Nat} (hk : k < n) (h : p k = false) : allTo p n = false := by
  cases hc : allTo p n with
  | false => rfl
  | true => rw [allTo_at hc hk] at h; cases h
theorem allTo_succ {p : Nat → Bool} {n : Nat} (h : allTo p n = true) (h1 : p n = true) : allTo p (n + 1) = true := by simp only [allTo, h, h1, Bool.and_self]

theorem allIn_getD {lo hi : Int} {xs : List Int} (h : allIn lo hi xs = true) {k : Nat} (hk : k < xs.length) : lo ≤ xs[k]?.getD 0 ∧ xs[k]?.getD 0 ≤ hi := by
  rw [List.getElem?_eq_getElem hk]
  exact allIn_mem h (List.getElem_mem hk)
theorem allIn_of {lo hi : Int} {xs : List Int} (h : ∀ k, k < xs.length → lo ≤ xs[k]?.getD 0 ∧ xs[k]?.getD 0 ≤ hi) : allIn lo hi xs = true := by
  simp only [allIn, List.all_eq_true, Bool.and_eq_true, decide_eq_true_eq]
  intro x hx
  obtain ⟨k, hk, rfl⟩ := List.getElem_of_mem hx
  have := h k hk
  rwa [List.getElem?_eq_getElem hk] at this

def nIn (lo hi x : Int) : Bool := decide (lo ≤ x) && decide (x ≤ hi)
theorem nIn_true {lo hi x : Int} : nIn lo hi x = true ↔ lo ≤ x ∧ x ≤ hi := by simp [nIn]
def layAt (Ls : List LayN) (i : Nat) : LayN := Ls[i]?.getD ⟨[], []⟩
def wRowOk (b : Nat) (r : List Int) : Bool := decide (r.length = b) && allIn (-1000) 1000 r
/-- A layer is valid for so many numbers before it. -/
def lyOk (b : Nat) (L : LayN) : Bool :=
  decide (1 ≤ L.bs.length) && decide (L.bs.length ≤ 8) && decide (L.ws.length = L.bs.length) && allIn (-1000000) 1000000 L.bs && allTo (fun r => wRowOk b (L.ws[r]?.getD [])) L.ws.length
def widthN (b : Nat) (Ls : List LayN) : Nat → Nat
  | 0 => b
  | k + 1 => (layAt Ls k).bs.length
def lysOk (b : Nat) (Ls : List LayN) : Bool := allTo (fun k => lyOk (widthN b Ls k) (layAt Ls k)) Ls.length
structure NetN where
  w : Int
  h : Int
  gx : Int
  gy : Int
  Ls : List LayN
  low : Int
  high : Int
/-- How many features there are. -/
def NetN.nf (N : NetN) : Nat := (N.gx * N.gy).toNat
def sidesOk (N : NetN) : Bool := (nIn 1 16 N.w && nIn 1 16 N.h) && (nIn 1 4 N.gx && nIn 1 4 N.gy) && decide (N.w % N.gx = 0) && decide (N.h % N.gy = 0) && (decide (1 ≤ N.Ls.length) && decide (N.Ls.length ≤ 3))
def endOk (N : NetN) : Bool := decide (widthN N.nf N.Ls N.Ls.length = 1) && decide (N.low < N.high) && (nIn (-1152921504606846976) 1152921504606846976 N.low && nIn (-1152921504606846976) 1152921504606846976 N.high)
def netOk (N : NetN) : Bool := sidesOk N && lysOk N.nf N.Ls && endOk N

structure LyOk (b : Nat) (L : LayN) : Prop where
  b1 : 1 ≤ L.bs.length
  b8 : L.bs.length ≤ 8
  ws : L.ws.length = L.bs.length
  bs : allIn (-1000000) 1000000 L.bs = true
  row : ∀ k, k < L.bs.length → (L.ws[k]?.getD []).length = b ∧ allIn (-1000) 1000 (L.ws[k]?.getD []) = true
theorem lyOk_iff {b : Nat} {L : LayN} : lyOk b L = true ↔ LyOk b L := by
  unfold lyOk
  simp only [Bool.and_eq_true, decide_eq_true_eq]
  constructor
  · rintro ⟨⟨⟨⟨h1, h2⟩, h3⟩, h4⟩, h5⟩
    refine ⟨h1, h2, h3, h4, fun k hk => ?_⟩
    have := allTo_at h5 (k := k) (by omega)
    simpa [wRowOk] using this
  · rintro ⟨h1, h2, h3, h4, h5⟩
    refine ⟨⟨⟨⟨h1, h2⟩, h3⟩, h4⟩, ?_⟩
    rw [h3]
    have : ∀ n, n ≤ L.bs.length → allTo (fun r => wRowOk b (L.ws[r]?.getD [])) n = true := fun n => by
      induction n with
      | zero => intro _; rfl
      | succ n ih => intro hn; exact allTo_succ (ih (by omega)) (by simpa [wRowOk] using h5 n (by omega))
    exact this _ (Nat.le_refl _)
structure NetOk (N : NetN) : Prop where
  w : 1 ≤ N.w ∧ N.w ≤ 16
  h : 1 ≤ N.h ∧ N.h ≤ 16
  gx : 1 ≤ N.gx ∧ N.gx ≤ 4
  gy : 1 ≤ N.gy ∧ N.gy ≤ 4
  mx : N.w % N.gx = 0
  my : N.h % N.gy = 0
  l1 : 1 ≤ N.Ls.length
  l3 : N.Ls.length ≤ 3
  ly : ∀ k, k < N.Ls.length → LyOk (widthN N.nf N.Ls k) (layAt N.Ls k)
  one : widthN N.nf N.Ls N.Ls.length = 1
  lt : N.low < N.high
  low : -1152921504606846976 ≤ N.low ∧ N.low ≤ 1152921504606846976
  high : -1152921504606846976 ≤ N.high ∧ N.high ≤ 1152921504606846976
theorem netOk_of {N : NetN} (h : netOk N = true) : NetOk N := by
  simp only [netOk, sidesOk, endOk, Bool.and_eq_true, nIn_true, decide_eq_true_eq] at h
  obtain ⟨⟨⟨⟨⟨⟨⟨h1, h2⟩, h3, h4⟩, h5⟩, h6⟩, h7, h8⟩, h9⟩, ⟨h10, h11⟩, h12, h13⟩ := h
  exact ⟨h1, h2, h3, h4, h5, h6, h7, h8, fun k hk => lyOk_iff.1 (allTo_at h9 hk), h10, h11, h12, h13⟩
theorem NetOk.nf {N : NetN} (h : NetOk N) : 1 ≤ N.nf ∧ N.nf ≤ 16 ∧ (N.nf : Int) = N.gx * N.gy := by
  have h1 := h.gx
  have h2 := h.gy
  have h3 : 1 * 1 ≤ N.gx * N.gy := Int.mul_le_mul (by omega) (by omega) (by omega) (by omega)
  have h4 : N.gx * N.gy ≤ 4 * 4 := Int.mul_le_mul (by omega) (by omega) (by omega) (by omega)
  unfold NetN.nf
  omega

/-! ### The numbers behind each layer -/

def numAt (Ls : List LayN) (l : List Int) : Nat → List Int
  | 0 => l
  | i + 1 => layL (layAt Ls i) (decide (i + 1 < Ls.length)) (numAt Ls l i)
def bndAt (Ls : List LayN) (l : List (Int × Int)) : Nat → List (Int × Int)
  | 0 => l
  | i + 1 => layB (layAt Ls i) (decide (i + 1 < Ls.length)) (bndAt Ls l i)
theorem drop_lay {Ls : List LayN} {i : Nat} (hi : i < Ls.length) : Ls.drop i = layAt Ls i :: Ls.drop (i + 1) := by
  rw [List.drop_eq_getElem_cons hi]
  unfold layAt
  rw [List.getElem?_eq_getElem hi]
  rfl
theorem drop_more {Ls : List LayN} (i : Nat) : (!(Ls.drop (i + 1)).isEmpty) = decide (i + 1 < Ls.length) := by
  by_cases h : i + 1 < Ls.length
  · rw [drop_lay h]; simp [h]
  · rw [List.drop_eq_nil_of_le (by omega)]; simp [h]
theorem fwdL_drop (Ls : List LayN) (l : List Int) : ∀ k i, i + k = Ls.length → fwdL (Ls.drop i) (numAt Ls l i) = numAt Ls l Ls.length
  | 0, i, h => by
    have : i = Ls.length := by omega
    subst this
    rw [List.drop_length]; rfl
  | k + 1, i, h => by
    rw [drop_lay (by omega), fwdL, drop_more]
    exact fwdL_drop Ls l k (i + 1) (by omega)
theorem fwdB_drop (Ls : List LayN) (l : List (Int × Int)) : ∀ k i, i + k = Ls.length → fwdB (Ls.drop i) (bndAt Ls l i) = bndAt Ls l Ls.length
  | 0, i, h => by
    have : i = Ls.length := by omega
    subst this
    rw [List.drop_length]; rfl
  | k + 1, i, h => by
    rw [drop_lay (by omega), fwdB, drop_more]
    exact fwdB_drop Ls l k (i + 1) (by omega)
theorem scoreN_at (Ls : List LayN) (l : List Int) : scoreN Ls l = (numAt Ls l Ls.length)[0]?.getD 0 := by
  unfold scoreN
  have := fwdL_drop Ls l Ls.length 0 (by omega)
  rw [List.drop_zero] at this
  rw [← this]; rfl
theorem fwdB_at (Ls : List LayN) (l : List (Int × Int)) : fwdB Ls l = bndAt Ls l Ls.length := by
  have := fwdB_drop Ls l Ls.length 0 (by omega)
  rw [List.drop_zero] at this
  exact this
theorem numAt_len (Ls : List LayN) (l : List Int) : ∀ i, (numAt Ls l i).length = widthN l.length Ls i
  | 0 => rfl
  | i + 1 => by rw [numAt, layL_length]; rfl
theorem bndAt_len (Ls : List LayN) (l : List (Int × Int)) : ∀ i, (bndAt Ls l i).length = widthN l.length Ls i
  | 0 => rfl
  | i + 1 => by rw [bndAt, layB_length]; rfl

/-! ### How large they are -/

def Bn : Nat → Int
  | 0 => 65280
  | i + 1 => 1000000 + 16000 * Bn i
theorem Bn_pos : ∀ i, 0 ≤ Bn i
  | 0 => by decide
  | i + 1 => by have := Bn_pos i; simp only [Bn]; omega
theorem Bn_max {i : Nat} (h : i ≤ 3) : Bn i ≤ 1000000000000000000 := by
  have h0 : Bn 0 = 65280 := rfl
  have h1 : Bn 1 = 1000000 + 16000 * Bn 0 := rfl
  have h2 : Bn 2 = 1000000 + 16000 * Bn 1 := rfl
  have h3 : Bn 3 = 1000000 + 16000 * Bn 2 := rfl
  have : i = 0 ∨ i = 1 ∨ i = 2 ∨ i = 3 := by omega
  rcases this with rfl | rfl | rfl | rfl <;> omega
def LeB (B : Int) (l : List Int) : Prop := ∀ j : Nat, -B ≤ l[j]?.getD 0 ∧ l[j]?.getD 0 ≤ B
def LeP (B : Int) (l : List (Int × Int)) : Prop := ∀ j : Nat, (-B ≤ loAt l j ∧ loAt l j ≤ B) ∧ (-B ≤ hiAt l j ∧ hiAt l j ≤ B)
theorem w_mul_bd {w x B : Int} (h1 : -1000 ≤ w) (h2 : w ≤ 1000) (h3 : -B ≤ x) (h4 : x ≤ B) : -(1000 * B) ≤ w * x ∧ w * x ≤ 1000 * B := by
  rcases Int.le_total 0 w with hw | hw
  · have a1 : w * x ≤ w * B := Int.mul_le_mul_of_nonneg_left h4 hw
    have a2 : w * (-B) ≤ w * x := Int.mul_le_mul_of_nonneg_left h3 hw
    have a3 : w * B ≤ 1000 * B := Int.mul_le_mul_of_nonneg_right h2 (by omega)
    rw [Int.mul_neg] at a2
    omega
  · have a1 : w * x ≤ w * (-B) := Int.mul_le_mul_of_nonpos_left hw h3
    have a2 : w * B ≤ w * x := Int.mul_le_mul_of_nonpos_left hw h4
    have a3 : (-1000) * B ≤ w * B := Int.mul_le_mul_of_nonneg_right h1 (by omega)
    rw [Int.mul_neg] at a1
    omega
theorem wAt_bd {b : Nat} {L : LayN} (h : LyOk b L) {k j : Nat} (hk : k < L.bs.length) (hj : j < b) : -1000 ≤ wAt L k j ∧ wAt L k j ≤ 1000 := by
  obtain ⟨h1, h2⟩ := h.row k hk
  exact allIn_getD h2 (by omega)
theorem bAt_bd {b : Nat} {L : LayN} (h : LyOk b L) {k : Nat} (hk : k < L.bs.length) : -1000000 ≤ bAt L k ∧ bAt L k ≤ 1000000 := allIn_getD h.bs hk
/-- A sum that is under way. -/
def partL (L : LayN) (l : List Int) (k m : Nat) : Int := bAt L k + sumJ (fun j => wAt L k j * l[j]?.getD 0) m
def partLo (L : LayN) (l : List (Int × Int)) (k m : Nat) : Int := bAt L k + sumJ (fun j => loT (wAt L k j) (loAt l j) (hiAt l j)) m
def partHi (L : LayN) (l : List (Int × Int)) (k m : Nat) : Int := bAt L k + sumJ (fun j => hiT (wAt L k j) (loAt l j) (hiAt l j)) m
theorem sum_part {f : Nat → Int} {B c : Int} {m b : Nat} (hB : 0 ≤ B) (hb : b ≤ 16) (hm : m ≤ b) (hc : -1000000 ≤ c ∧ c ≤ 1000000) (hf : ∀ i, i < b → -(1000 * B) ≤ f i ∧ f i ≤ 1000 * B) :
    -(1000000 + 16000 * B) ≤ c + sumJ f m ∧ c + sumJ f m ≤ 1000000 + 16000 * B := by
  have h := sumJ_bd (f := f) (B := 1000 * B) (n := m) fun i hi => hf i (by omega)
  have h2 : 1000 * B * (m : Int) ≤ 1000 * B * 16 := Int.mul_le_mul_of_nonneg_left (by omega) (by omega)
  omega
theorem partL_bd {b : Nat} {L : LayN} {l : List Int} {B : Int} (h : LyOk b L) (hb : b ≤ 16) (hB : 0 ≤ B) (hl : LeB B l) {k m : Nat} (hk : k < L.bs.length) (hm : m ≤ b) :
    -(1000000 + 16000 * B) ≤ partL L l k m ∧ partL L l k m ≤ 1000000 + 16000 * B :=
  sum_part hB hb hm (bAt_bd h hk) fun j hj => w_mul_bd (wAt_bd h hk hj).1 (wAt_bd h hk hj).2 (hl j).1 (hl j).2
theorem loT_bd {w x y B : Int} (h1 : -1000 ≤ w) (h2 : w ≤ 1000) (hx : -B ≤ x ∧ x ≤ B) (hy : -B ≤ y ∧ y ≤ B) : -(1000 * B) ≤ loT w x y ∧ loT w x y ≤ 1000 * B := by
  unfold loT; split
  · exact w_mul_bd h1 h2 hy.1 hy.2
  · exact w_mul_bd h1 h2 hx.1 hx.2
theorem hiT_bd {w x y B : Int} (h1 : -1000 ≤ w) (h2 : w ≤ 1000) (hx : -B ≤ x ∧ x ≤ B) (hy : -B ≤ y ∧ y ≤ B) : -(1000 * B) ≤ hiT w x y ∧ hiT w x y ≤ 1000 * B := by
  unfold hiT; split
  · exact w_mul_bd h1 h2 hx.1 hx.2
  · exact w_mul_bd h1 h2 hy.1 hy.2
theorem partLo_bd {b : Nat} {L : LayN} {l : List (Int × Int)} {B : Int} (h : LyOk b L) (hb : b ≤ 16) (hB : 0 ≤ B) (hl : LeP B l) {k m : Nat} (hk : k < L.bs.length) (hm : m ≤ b) :
    -(1000000 + 16000 * B) ≤ partLo L l k m ∧ partLo L l k m ≤ 1000000 + 16000 * B :=
  sum_part hB hb hm (bAt_bd h hk) fun j hj => loT_bd (wAt_bd h hk hj).1 (wAt_bd h hk hj).2 (hl j).1 (hl j).2
theorem partHi_bd {b : Nat} {L : LayN} {l : List (Int × Int)} {B : Int} (h : LyOk b L) (hb : b ≤ 16) (hB : 0 ≤ B) (hl : LeP B l) {k m : Nat} (hk : k < L.bs.length) (hm : m ≤ b) :
    -(1000000 + 16000 * B) ≤ partHi L l k m ∧ partHi L l k m ≤ 1000000 + 16000 * B :=
  sum_part hB hb hm (bAt_bd h hk) fun j hj => hiT_bd (wAt_bd h hk hj).1 (wAt_bd h hk hj).2 (hl j).1 (hl j).2
theorem cutI_bd {c : Bool} {s B : Int} (h : -B ≤ s ∧ s ≤ B) : -B ≤ cutI c s ∧ cutI c s ≤ B := by unfold cutI; split <;> omega
theorem LeB.next {b : Nat} {L : LayN} {l : List Int} {B : Int} (h : LyOk b L) (hb : b ≤ 16) (hB : 0 ≤ B) (hl : LeB B l) (hn : l.length = b) (c : Bool) : LeB (1000000 + 16000 * B) (layL L c l) := fun k => by
  by_cases hk : k < L.bs.length
  · unfold layL
    rw [getD_map_range _ _ hk]
    unfold layF
    rw [hn]
    exact cutI_bd (partL_bd h hb hB hl hk (Nat.le_refl _))
  · rw [List.getElem?_eq_none (by rw [layL_length]; omega)]
    show _ ≤ (0 : Int) ∧ (0 : Int) ≤ _
    omega
theorem LeP.next {b : Nat} {L : LayN} {l : List (Int × Int)} {B : Int} (h : LyOk b L) (hb : b ≤ 16) (hB : 0 ≤ B) (hl : LeP B l) (hn : l.length = b) (c : Bool) : LeP (1000000 + 16000 * B) (layB L c l) := fun k => by
  by_cases hk : k < L.bs.length
  · obtain ⟨e1, e2⟩ := layB_at (c := c) (l := l) hk
    rw [e1, e2]
    unfold layBF
    rw [hn]
    exact ⟨cutI_bd (partLo_bd h hb hB hl hk (Nat.le_refl _)), cutI_bd (partHi_bd h hb hB hl hk (Nat.le_refl _))⟩
  · unfold loAt hiAt
    rw [List.getElem?_eq_none (by rw [layB_length]; omega)]
    show (_ ≤ (0 : Int) ∧ (0 : Int) ≤ _) ∧ (_ ≤ (0 : Int) ∧ (0 : Int) ≤ _)
    omega
theorem width_le {N : NetN} (h : NetOk N) {i : Nat} (hi : i ≤ N.Ls.length) : 1 ≤ widthN N.nf N.Ls i ∧ widthN N.nf N.Ls i ≤ 16 := by
  cases i with
  | zero => exact ⟨h.nf.1, h.nf.2.1⟩
  | succ i =>
    have := h.ly i (by omega)
    have h1 := this.b1
    have h2 := this.b8
    show 1 ≤ (layAt N.Ls i).bs.length ∧ (layAt N.Ls i).bs.length ≤ 16
    omega
theorem numAt_bd {N : NetN} (h : NetOk N) {l : List Int} (hn : l.length = N.nf) (hl : LeB 65280 l) : ∀ i, i ≤ N.Ls.length → LeB (Bn i) (numAt N.Ls l i)
  | 0, _ => hl
  | i + 1, hi => LeB.next (h.ly i (by omega)) (width_le h (by omega)).2 (Bn_pos i) (numAt_bd h hn hl i (by omega)) (by rw [numAt_len, hn]) _
theorem bndAt_bd {N : NetN} (h : NetOk N) {l : List (Int × Int)} (hn : l.length = N.nf) (hl : LeP 65280 l) : ∀ i, i ≤ N.Ls.length → LeP (Bn i) (bndAt N.Ls l i)
  | 0, _ => hl
  | i + 1, hi => LeP.next (h.ly i (by omega)) (width_le h (by omega)).2 (Bn_pos i) (bndAt_bd h hn hl i (by omega)) (by rw [bndAt_len, hn]) _

end Go.Proofs.YtbfigbpjoaccdaaGreat

namespace Go.Proofs.YtbfigbpjoaccdaaGreat
open Go Go.RowKit Go.Shelf
set_option linter.unusedVariables false
set_option linter.unusedSimpArgs false

/-- The slice at 'a' reads as the slices of ints 'xss', in blocks below 'B'. -/
def RdW (B : Nat) (W : World) (a : Option Addr) (xss : List (List Int)) : Prop :=
  xss = [] ∨ ∃ b o, a = some ⟨b, o, none⟩ ∧ b < B ∧ ∀ i, i < xss.length → ∃ a' c', W.cell? ⟨b, o + i, none⟩ = some (.slice a' (xss[i]?.getD []).length c') ∧ Rd B W a' (xss[i]?.getD [])
theorem RdW.below {B B' : Nat} {W W' : World} {a : Option Addr} {xss : List (List Int)} (h : RdW B W a xss) (hB : B ≤ B') (hb : Below B' W W') : RdW B W' a xss := by
  rcases h with h | ⟨b, o, h1, h2, h3⟩
  · exact .inl h
  · refine .inr ⟨b, o, h1, h2, fun i hi => ?_⟩
    obtain ⟨a', c', h4, h5⟩ := h3 i hi
    exact ⟨a', c', (hb.cell (p := ⟨b, o + i, none⟩) (by show b < B'; omega)).trans h4, h5.below hB hb⟩
theorem RdW.mono {B B' : Nat} {W : World} {a : Option Addr} {xss : List (List Int)} (h : RdW B W a xss) (hB : B ≤ B') : RdW B' W a xss := by
  rcases h with h | ⟨b, o, h1, h2, h3⟩
  · exact .inl h
  · refine .inr ⟨b, o, h1, by omega, fun i hi => ?_⟩
    obtain ⟨a', c', h4, h5⟩ := h3 i hi
    exact ⟨a', c', h4, h5.mono hB⟩
theorem RdW.at {B : Nat} {W : World} {a : Option Addr} {xss : List (List Int)} (h : RdW B W a xss) {i : Nat} (hi : i < xss.length) :
    ∃ b o, a = some ⟨b, o, none⟩ ∧ b < B ∧ ∃ a' c', W.cell? ⟨b, o + i, none⟩ = some (.slice a' (xss[i]?.getD []).length c') ∧ Rd B W a' (xss[i]?.getD []) := by
  rcases h with h | ⟨b, o, h1, h2, h3⟩
  · subst h; simp at hi
  · exact ⟨b, o, h1, h2, h3 i hi⟩

/-- The slice at 'a' reads as the layers 'Ls', in blocks below 'B'. -/
def RdLs (B : Nat) (W : World) (a : Option Addr) (Ls : List LayN) : Prop :=
  Ls = [] ∨ ∃ b o, a = some ⟨b, o, none⟩ ∧ b < B ∧ ∀ i, i < Ls.length → ∃ wa wc ba bc, W.cell? ⟨b, o + i * 2, none⟩ = some (.slice wa (layAt Ls i).ws.length wc) ∧ W.cell? ⟨b, o + i * 2 + 1, none⟩ = some (.slice ba (layAt Ls i).bs.length bc) ∧
    RdW B W wa (layAt Ls i).ws ∧ Rd B W ba (layAt Ls i).bs
theorem RdLs.below {B B' : Nat} {W W' : World} {a : Option Addr} {Ls : List LayN} (h : RdLs B W a Ls) (hB : B ≤ B') (hb : Below B' W W') : RdLs B W' a Ls := by
  rcases h with h | ⟨b, o, h1, h2, h3⟩
  · exact .inl h
  · refine .inr ⟨b, o, h1, h2, fun i hi => ?_⟩
    obtain ⟨wa, wc, ba, bc, h4, h5, h6, h7⟩ := h3 i hi
    exact ⟨wa, wc, ba, bc, (hb.cell (p := ⟨b, o + i * 2, none⟩) (by show b < B'; omega)).trans h4, (hb.cell (p := ⟨b, o + i * 2 + 1, none⟩) (by show b < B'; omega)).trans h5, h6.below hB hb, h7.below hB hb⟩
theorem RdLs.mono {B B' : Nat} {W : World} {a : Option Addr} {Ls : List LayN} (h : RdLs B W a Ls) (hB : B ≤ B') : RdLs B' W a Ls := by
  rcases h with h | ⟨b, o, h1, h2, h3⟩
  · exact .inl h
  · refine .inr ⟨b, o, h1, by omega, fun i hi => ?_⟩
    obtain ⟨wa, wc, ba, bc, h4, h5, h6, h7⟩ := h3 i hi
    exact ⟨wa, wc, ba, bc, h4, h5, h6.mono hB, h7.mono hB⟩
theorem RdLs.at {B : Nat} {W : World} {a : Option Addr} {Ls : List LayN} (h : RdLs B W a Ls) {i : Nat} (hi : i < Ls.length) :
    ∃ b o, a = some ⟨b, o, none⟩ ∧ b < B ∧ ∃ wa wc ba bc, W.cell? ⟨b, o + i * 2, none⟩ = some (.slice wa (layAt Ls i).ws.length wc) ∧ W.cell? ⟨b, o + i * 2 + 1, none⟩ = some (.slice ba (layAt Ls i).bs.length bc) ∧
      RdW B W wa (layAt Ls i).ws ∧ Rd B W ba (layAt Ls i).bs := by
  rcases h with h | ⟨b, o, h1, h2, h3⟩
  · subst h; simp at hi
  · exact ⟨b, o, h1, h2, h3 i hi⟩

/-- What is read later. -/
theorem later_i {W W' : World} {a : Option Addr} {xs : List Int} (h : Rd W.heap.size W a xs) (hb : Below W.heap.size W W') : Rd W'.heap.size W' a xs := (h.below (Nat.le_refl _) hb).mono hb.size
theorem later_w {W W' : World} {a : Option Addr} {xs : List (List Int)} (h : RdW W.heap.size W a xs) (hb : Below W.heap.size W W') : RdW W'.heap.size W' a xs := (h.below (Nat.le_refl _) hb).mono hb.size
theorem later_l {W W' : World} {a : Option Addr} {xs : List LayN} (h : RdLs W.heap.size W a xs) (hb : Below W.heap.size W W') : RdLs W'.heap.size W' a xs := (h.below (Nat.le_refl _) hb).mono hb.size

/-- A network's value. -/
abbrev netv (N : NetN) (a : Option Addr) (n c : Nat) : Value := .agg #[.int .i64 N.w, .int .i64 N.h, .int .i64 N.gx, .int .i64 N.gy, .slice a n c, .int .i64 N.low, .int .i64 N.high]
/-- No slice of a network is longer than any can be. -/
structure NetSz (N : NetN) : Prop where
  n : N.Ls.length ≤ 9223372036854775807
  ly : ∀ i, (layAt N.Ls i).ws.length ≤ 9223372036854775807 ∧ (layAt N.Ls i).bs.length ≤ 9223372036854775807
  row : ∀ i k : Nat, ((layAt N.Ls i).ws[k]?.getD []).length ≤ 9223372036854775807

theorem jw1 (lo hi x : Int) (v : Bool) (hv : nIn lo hi x = v) (b o c : Nat) (w : World) (h : w.cell? ⟨b, o, none⟩ = some (.int .i64 x)) :
    Calls Tryz.prog 48 #[.int .i64 lo, .int .i64 hi, .slice (some ⟨b, o, none⟩) 1 c] w fun e w' => e = .returned (.bool v) ∧ w = w' := by
  subst hv
  have h' := jwithin_any lo hi (some ⟨b, o, none⟩) c [x] w (by simp) (.inr ⟨b, o, rfl, World.block_lt_of_cell? w _ h, fun i hi => by
    have : i = 0 := by simp at hi; omega
    subst this; exact h⟩)
  simpa [allIn, nIn] using h'
theorem jw2 (lo hi x y : Int) (v : Bool) (hv : (nIn lo hi x && nIn lo hi y) = v) (b o c : Nat) (w : World) (h : w.cell? ⟨b, o, none⟩ = some (.int .i64 x)) (h1 : w.cell? ⟨b, o + 1, none⟩ = some (.int .i64 y)) :
    Calls Tryz.prog 48 #[.int .i64 lo, .int .i64 hi, .slice (some ⟨b, o, none⟩) 2 c] w fun e w' => e = .returned (.bool v) ∧ w = w' := by
  subst hv
  have h' := jwithin_any lo hi (some ⟨b, o, none⟩) c [x, y] w (by simp) (.inr ⟨b, o, rfl, World.block_lt_of_cell? w _ h, fun i hi => by
    have : i = 0 ∨ i = 1 := by simp at hi; omega
    rcases this with rfl | rfl
    · exact h
    · exact h1⟩)
  simpa [allIn, nIn] using h'
theorem jwn (lo hi : Int) (v : Bool) (xs : List Int) (hv : allIn lo hi xs = v) (a : Option Addr) (c n : Nat) (hn : xs.length = n) (hl : n ≤ 9223372036854775807) (w : World) (hr : Rd w.heap.size w a xs) :
    Calls Tryz.prog 48 #[.int .i64 lo, .int .i64 hi, .slice a n c] w fun e w' => e = .returned (.bool v) ∧ w = w' := by
  subst hv
  subst hn
  exact jwithin_any lo hi a c xs w hl hr

end Go.Proofs.YtbfigbpjoaccdaaGreat

namespace Go.Proofs.YtbfigbpjoaccdaaGreat
open Go Go.RowKit Go.Shelf
set_option linter.unusedVariables false
set_option linter.unusedSimpArgs false

theorem netOk_1 {N : NetN} (h : (nIn 1 16 N.w && nIn 1 16 N.h) = false) : netOk N = false := by simp only [netOk, sidesOk, h, Bool.false_and]
theorem netOk_2 {N : NetN} (h : (nIn 1 4 N.gx && nIn 1 4 N.gy) = false) : netOk N = false := by simp only [netOk, sidesOk, h, Bool.false_and, Bool.and_false]
theorem netOk_3 {N : NetN} (h : ¬ N.w % N.gx = 0) : netOk N = false := by simp only [netOk, sidesOk, decide_eq_false h, Bool.false_and, Bool.and_false]
theorem netOk_4 {N : NetN} (h : ¬ N.h % N.gy = 0) : netOk N = false := by simp only [netOk, sidesOk, decide_eq_false h, Bool.false_and, Bool.and_false]
theorem netOk_5 {N : NetN} (h : nIn 1 3 (N.Ls.length : Int) = false) : netOk N = false := by
  have : (decide (1 ≤ N.Ls.length) && decide (N.Ls.length ≤ 3)) = false := by
    rw [← h]; simp only [nIn]
    congr 1 <;> exact decide_eq_decide.2 (by omega)
  simp only [netOk, sidesOk, this, Bool.false_and, Bool.and_false]
theorem netOk_6 {N : NetN} {k : Nat} (hk : k < N.Ls.length) (h : lyOk (widthN N.nf N.Ls k) (layAt N.Ls k) = false) : netOk N = false := by
  have : lysOk N.nf N.Ls = false := allTo_false hk h
  simp only [netOk, this, Bool.false_and, Bool.and_false]
theorem netOk_7 {N : NetN} (h : ¬ widthN N.nf N.Ls N.Ls.length = 1) : netOk N = false := by simp only [netOk, endOk, decide_eq_false h, Bool.false_and, Bool.and_false]
theorem netOk_8 {N : NetN} (h : ¬ N.low < N.high) : netOk N = false := by simp only [netOk, endOk, decide_eq_false h, Bool.false_and, Bool.and_false]
theorem netOk_9 {N : NetN} (h : (nIn (-1152921504606846976) 1152921504606846976 N.low && nIn (-1152921504606846976) 1152921504606846976 N.high) = false) : netOk N = false := by simp only [netOk, endOk, h, Bool.and_false]
theorem netOk_yes {N : NetN} (h1 : (nIn 1 16 N.w && nIn 1 16 N.h) = true) (h2 : (nIn 1 4 N.gx && nIn 1 4 N.gy) = true) (h3 : N.w % N.gx = 0) (h4 : N.h % N.gy = 0) (h5 : nIn 1 3 (N.Ls.length : Int) = true)
    (h6 : allTo (fun k => lyOk (widthN N.nf N.Ls k) (layAt N.Ls k)) N.Ls.length = true) (h7 : widthN N.nf N.Ls N.Ls.length = 1) (h8 : N.low < N.high)
    (h9 : (nIn (-1152921504606846976) 1152921504606846976 N.low && nIn (-1152921504606846976) 1152921504606846976 N.high) = true) : netOk N = true := by
  have := nIn_true.1 h5
  simp only [netOk, sidesOk, endOk, lysOk, h1, h2, h6, h9, decide_eq_true h3, decide_eq_true h4, decide_eq_true h7, decide_eq_true h8, decide_eq_true (show 1 ≤ N.Ls.length by omega), decide_eq_true (show N.Ls.length ≤ 3 by omega), Bool.and_self]
theorem lyOk_1 {b : Nat} {L : LayN} (h : nIn 1 8 (L.bs.length : Int) = false) : lyOk b L = false := by
  have : (decide (1 ≤ L.bs.length) && decide (L.bs.length ≤ 8)) = false := by
    rw [← h]; simp only [nIn]
    congr 1 <;> exact decide_eq_decide.2 (by omega)
  simp only [lyOk, this, Bool.false_and]
theorem lyOk_2 {b : Nat} {L : LayN} (h : ¬ L.ws.length = L.bs.length) : lyOk b L = false := by simp only [lyOk, decide_eq_false h, Bool.false_and, Bool.and_false]
theorem lyOk_3 {b : Nat} {L : LayN} (h : allIn (-1000000) 1000000 L.bs = false) : lyOk b L = false := by simp only [lyOk, h, Bool.false_and, Bool.and_false]
theorem lyOk_4 {b : Nat} {L : LayN} {k : Nat} (hk : k < L.ws.length) (h : ¬ (L.ws[k]?.getD []).length = b) : lyOk b L = false := by
  have : allTo (fun r => wRowOk b (L.ws[r]?.getD [])) L.ws.length = false := allTo_false hk (by simp only [wRowOk, decide_eq_false h, Bool.false_and])
  simp only [lyOk, this, Bool.and_false]
theorem lyOk_5 {b : Nat} {L : LayN} {k : Nat} (hk : k < L.ws.length) (h : allIn (-1000) 1000 (L.ws[k]?.getD []) = false) : lyOk b L = false := by
  have : allTo (fun r => wRowOk b (L.ws[r]?.getD [])) L.ws.length = false := allTo_false hk (by simp only [wRowOk, h, Bool.and_false])
  simp only [lyOk, this, Bool.and_false]
theorem lyOk_yes {b : Nat} {L : LayN} (h1 : nIn 1 8 (L.bs.length : Int) = true) (h2 : L.ws.length = L.bs.length) (h3 : allIn (-1000000) 1000000 L.bs = true) (h4 : allTo (fun r => wRowOk b (L.ws[r]?.getD [])) L.ws.length = true) : lyOk b L = true := by
  have := nIn_true.1 h1
  simp only [lyOk, h3, h4, decide_eq_true h2, decide_eq_true (show 1 ≤ L.bs.length by omega), decide_eq_true (show L.bs.length ≤ 8 by omega), Bool.and_self]

set_option maxRecDepth 100000 in
set_option maxHeartbeats 8000000 in
theorem CheckNetwork_any (N : NetN) (a : Option Addr) (n c : Nat) (hn : N.Ls.length = n) (hz : NetSz N) (w : World) (hr : RdLs w.heap.size w a N.Ls) (v : Bool) (hv : netOk N = v) :
    Calls Tryz.prog 88 #[netv N a n c] w fun e w' => e = .returned (.int .i64 (if v = true then 0 else 80)) ∧ Below w.heap.size w w' := by
  obtain ⟨W, H, GX, GY, Ls, low, high⟩ := N
  have hnH := Lib.hid hn
  have hvH := Lib.hid hv
  have hzn : n ≤ 9223372036854775807 := by rw [← hn]; exact hz.n
  have hzH := Lib.hid hz
  clear hn hv hz
  simp only at hnH hr
  have tok1 : True := trivial
  have tok2 : True := trivial
  have tok3 : True := trivial
  have tok4 : True := trivial
  have tok5 : True := trivial
  have tok6 : True := trivial
  have tok7 : True := trivial
  have tok8 : True := trivial
  have tok9 : True := trivial
  cases h1 : (nIn 1 16 W && nIn 1 16 H) with
  | false =>
    have hvf : v = false := by rw [← hvH.out]; exact netOk_1 h1
    subst hvf
    have h1H := Lib.hid h1
    clear h1 hvH hr hzH hnH
    go_enter Tryz.func88, Tryz.ntmps88
    go_wp2_with (go_at_call 48; have _t := tok1; refine (jw2 1 16 W H false h1H.out _ _ _ _ (cell_new (by simp) rfl) (cell_new (by simp) rfl)).mono ?_; clear _t tok1; rintro e w' ⟨rfl, rfl⟩)
    go_ret
    exact ⟨rfl, (jb_al (jb_al (Below.refl _ w) _) _)⟩
  | true =>
  cases h2 : (nIn 1 4 GX && nIn 1 4 GY) with
  | false =>
    have hvf : v = false := by rw [← hvH.out]; exact netOk_2 h2
    subst hvf
    have h1H := Lib.hid h1
    have h2H := Lib.hid h2
    clear h1 h2 hvH hr hzH hnH
    go_enter Tryz.func88, Tryz.ntmps88
    go_wp2_with (first
      | (go_at_call 48; have _t := tok1; refine (jw2 1 16 W H true h1H.out _ _ _ _ (cell_new (by simp) rfl) (cell_new (by simp) rfl)).mono ?_; clear _t tok1; rintro e w' ⟨rfl, rfl⟩)
      | (go_at_call 48; have _t := tok2; refine (jw2 1 4 GX GY false h2H.out _ _ _ _ (cell_new (by simp) rfl) (cell_new (by simp) rfl)).mono ?_; clear _t tok2; rintro e w' ⟨rfl, rfl⟩))
    go_ret
    exact ⟨rfl, (jb_al (jb_al (jb_al (Below.refl _ w) _) _) _)⟩
  | true =>
  have g1 := h1
  have g2 := h2
  simp only [Bool.and_eq_true, nIn_true] at g1 g2
  obtain ⟨⟨gw1, gw2⟩, gh1, gh2⟩ := g1
  obtain ⟨⟨gx1, gx2⟩, gy1, gy2⟩ := g2
  have h1H := Lib.hid h1
  have h2H := Lib.hid h2
  clear h1 h2
  obtain ⟨r1, hq1⟩ : ∃ r, W.tmod GX = r := ⟨_, rfl⟩
  obtain ⟨r2, hq2⟩ : ∃ r, H.tmod GY = r := ⟨_, rfl⟩
  have hm1 : W % GX = r1 := by rw [← hq1, Int.tmod_eq_emod_of_nonneg (by omega)]
  have hm2 : H % GY = r2 := by rw [← hq2, Int.tmod_eq_emod_of_nonneg (by omega)]
  have hm1H := Lib.hid hm1
  have hm2H := Lib.hid hm2
  clear hm1 hm2
  by_cases h3 : r1 = 0
  case neg =>
    have h3' : (r1 != 0) = true := by simpa using h3
    have hvf : v = false := by rw [← hvH.out]; exact netOk_3 (by show ¬ W % GX = 0; rw [hm1H.out]; exact h3)
    subst hvf
    clear  hvH hr hzH hnH
    go_enter Tryz.func88, Tryz.ntmps88
    go_wp2_with (first
      | (go_at_call 48; have _t := tok1; refine (jw2 1 16 W H true h1H.out _ _ _ _ (cell_new (by simp) rfl) (cell_new (by simp) rfl)).mono ?_; clear _t tok1; rintro e w' ⟨rfl, rfl⟩)
      | (go_at_call 48; have _t := tok2; refine (jw2 1 4 GX GY true h2H.out _ _ _ _ (cell_new (by simp) rfl) (cell_new (by simp) rfl)).mono ?_; clear _t tok2; rintro e w' ⟨rfl, rfl⟩))
    go_ret
    exact ⟨rfl, (jb_al (jb_al (jb_al (Below.refl _ w) _) _) _)⟩
  case pos =>
  subst h3
  by_cases h4 : r2 = 0
  case neg =>
    have h4' : (r2 != 0) = true := by simpa using h4
    have hvf : v = false := by rw [← hvH.out]; exact netOk_4 (by show ¬ H % GY = 0; rw [hm2H.out]; exact h4)
    subst hvf
    clear  hvH hr hzH hnH
    go_enter Tryz.func88, Tryz.ntmps88
    go_wp2_with (first
      | (go_at_call 48; have _t := tok1; refine (jw2 1 16 W H true h1H.out _ _ _ _ (cell_new (by simp) rfl) (cell_new (by simp) rfl)).mono ?_; clear _t tok1; rintro e w' ⟨rfl, rfl⟩)
      | (go_at_call 48; have _t := tok2; refine (jw2 1 4 GX GY true h2H.out _ _ _ _ (cell_new (by simp) rfl) (cell_new (by simp) rfl)).mono ?_; clear _t tok2; rintro e w' ⟨rfl, rfl⟩))
    go_ret
    exact ⟨rfl, (jb_al (jb_al (jb_al (Below.refl _ w) _) _) _)⟩
  case pos =>
  subst h4
  cases h5 : nIn 1 3 (n : Int) with
  | false =>
    have hvf : v = false := by rw [← hvH.out]; exact netOk_5 (by show nIn 1 3 (Ls.length : Int) = false; rw [hnH.out]; exact h5)
    subst hvf
    have h5H := Lib.hid h5
    clear h5 hvH hr hzH hnH
    go_enter Tryz.func88, Tryz.ntmps88
    go_wp2_with (first
      | (go_at_call 48; have _t := tok1; refine (jw2 1 16 W H true h1H.out _ _ _ _ (cell_new (by simp) rfl) (cell_new (by simp) rfl)).mono ?_; clear _t tok1; rintro e w' ⟨rfl, rfl⟩)
      | (go_at_call 48; have _t := tok2; refine (jw2 1 4 GX GY true h2H.out _ _ _ _ (cell_new (by simp) rfl) (cell_new (by simp) rfl)).mono ?_; clear _t tok2; rintro e w' ⟨rfl, rfl⟩)
      | (go_at_call 48; have _t := tok3; refine (jw1 1 3 (n : Int) false h5H.out _ _ _ _ (cell_new (by simp) rfl)).mono ?_; clear _t tok3; rintro e w' ⟨rfl, rfl⟩))
    go_ret
    exact ⟨rfl, (jb_al (jb_al (jb_al (jb_al (Below.refl _ w) _) _) _) _)⟩
  | true =>
  have g5 := nIn_true.1 h5
  have h5H := Lib.hid h5
  clear h5
  obtain ⟨m, hm⟩ : ∃ m : Nat, (m : Int) = GX * GY := ⟨(GX * GY).toNat, by
    have : 1 * 1 ≤ GX * GY := Int.mul_le_mul (by omega) (by omega) (by omega) (by omega)
    omega⟩
  have hm16 : GX * GY ≤ 4 * 4 := Int.mul_le_mul (by omega) (by omega) (by omega) (by omega)
  have hm0 : 1 * 1 ≤ GX * GY := Int.mul_le_mul (by omega) (by omega) (by omega) (by omega)
  have hmm : GX * GY = (m : Int) := hm.symm
  have hnf : NetN.nf ⟨W, H, GX, GY, Ls, low, high⟩ = m := by unfold NetN.nf; simp only; omega
  rw [hmm] at hm16 hm0
  have hnfH := Lib.hid hnf
  clear hm hnf
  go_enter Tryz.func88, Tryz.ntmps88
  go_wp2_with (first
    | (go_at_call 48; have _t := tok1; refine (jw2 1 16 W H true h1H.out _ _ _ _ (cell_new (by simp) rfl) (cell_new (by simp) rfl)).mono ?_; clear _t tok1; rintro e w' ⟨rfl, rfl⟩)
    | (go_at_call 48; have _t := tok2; refine (jw2 1 4 GX GY true h2H.out _ _ _ _ (cell_new (by simp) rfl) (cell_new (by simp) rfl)).mono ?_; clear _t tok2; rintro e w' ⟨rfl, rfl⟩)
    | (go_at_call 48; have _t := tok3; refine (jw1 1 3 (n : Int) true h5H.out _ _ _ _ (cell_new (by simp) rfl)).mono ?_; clear _t tok3; rintro e w' ⟨rfl, rfl⟩))
  go_loopw [3, 56] (fun b i wr => ∃ k : Nat, k ≤ n ∧ i = .int .i64 (k : Int) ∧ b = .int .i64 ((widthN m Ls k : Nat) : Int) ∧ Hid (allTo (fun k => lyOk (widthN m Ls k) (layAt Ls k)) k = true) ∧ Below w.heap.size w wr ∧ Blk wr w.heap.size 24 #[.int .i64 W, .int .i64 H, .int .i64 GX, .int .i64 GY, .slice a n c, .int .i64 low, .int .i64 high]) (fun _ i _ => n - (intOf i).toNat)
  case atStart => exact ⟨0, Nat.zero_le _, rfl, rfl, Lib.hid rfl, (jb_al (jb_al (jb_al (jb_al (Below.refl _ w) _) _) _) _), (((Blk.new w _ _).alloc _).alloc _).alloc _⟩
  case round =>
    obtain ⟨k, hk, rfl, rfl, hall, hB, kb⟩ := hrel
    by_cases hlt : k < n
    case pos =>
      have hkl : k < Ls.length := by have := hnH.out; omega
      have hrw : RdLs wr.heap.size wr a Ls := (hr.below (Nat.le_refl _) hB).mono hB.size
      obtain ⟨b, o, rfl, hb, wa, wc, ba, bc, hc1, hc2, hws, hbs⟩ := hrw.at hkl
      obtain ⟨z1, z2⟩ := hzH.out.ly k
      have z3 := hzH.out.row k
      simp only at z1 z2 z3
      obtain ⟨L, hL⟩ : ∃ L, layAt Ls k = L := ⟨_, rfl⟩
      obtain ⟨B, hBe⟩ : ∃ B, widthN m Ls k = B := ⟨_, rfl⟩
      have hbad : lyOk B L = false → v = false := fun h => by rw [← hvH.out]; exact netOk_6 (N := ⟨W, H, GX, GY, Ls, low, high⟩) (k := k) hkl (by rw [hnfH.out]; show lyOk (widthN m Ls k) (layAt Ls k) = false; rw [hL, hBe]; exact h)
      rw [hL] at hc1 hc2 hws hbs z1 z2 z3
      rw [hBe]
      obtain ⟨wl, hwl⟩ : ∃ x, L.ws.length = x := ⟨_, rfl⟩
      obtain ⟨bl, hbl⟩ : ∃ x, L.bs.length = x := ⟨_, rfl⟩
      rw [hwl] at hc1 z1
      rw [hbl] at hc2 z2
      have hLH := Lib.hid hL
      have hBH := Lib.hid hBe
      have hwlH := Lib.hid hwl
      have hblH := Lib.hid hbl
      have z3H := Lib.hid z3
      have hbadH := Lib.hid hbad
      have hrwH := Lib.hid hrw
      have kbH := Lib.hid kb
      clear hL hBe hwl hbl z3 hbad hrw kb
      obtain ⟨W1, hW1⟩ : ∃ X, wr.alloc (.cells #[.slice wa wl wc, .slice ba bl bc] 87) = X := ⟨_, rfl⟩
      obtain ⟨W2, hW2⟩ : ∃ X, W1.alloc (.cells #[.int .i64 (bl : Int)] 3) = X := ⟨_, rfl⟩
      have hb12 : Below wr.heap.size wr W2 := by rw [← hW2, ← hW1]; exact jb_al (jb_al (Below.refl _ wr) _) _
      have kl := (Blk.new wr 87 #[.slice wa wl wc, .slice ba bl bc]).alloc (.cells #[.int .i64 (bl : Int)] 3)
      have kl1 := Blk.new wr 87 #[.slice wa wl wc, .slice ba bl bc]
      rw [hW1] at kl1
      have m0 := kl1.cell (i := 0) rfl
      have m1 := kl1.cell (i := 1) rfl
      have ks := Blk.new W1 3 #[.int .i64 (bl : Int)]
      rw [hW1, hW2] at kl
      rw [hW2] at ks
      have hB2 : Below w.heap.size w W2 := hB.trans (hb12.mono hB.size)
      have l0 := kl.cell (i := 0) rfl
      have l1 := kl.cell (i := 1) rfl
      have s0 := ks.cell (i := 0) rfl
      have hws2 := later_w hws hb12
      have hbs2 := later_i hbs hb12
      have kb2H := Lib.hid (kbH.out.below hb12 (by have := kbH.out.lt; omega))
      have hws2H := Lib.hid hws2
      have hbs2H := Lib.hid hbs2
      have klH := Lib.hid kl
      have s0H := Lib.hid s0
      clear kl kl1 ks hws hbs hws2 hbs2 hb12 hrwH kbH s0
      cases e1 : nIn 1 8 (bl : Int) with
      | false =>
        have hvf := hbadH.out (lyOk_1 (by rw [hblH.out]; exact e1))
        subst hvf
        have e1H := Lib.hid e1
        clear e1
        go_wp2_with (go_at_call 48; have _t := tok4; refine (jw1 1 8 _ false e1H.out _ _ _ _ s0H.out).mono ?_; clear _t tok4; rintro e w' ⟨rfl, rfl⟩)
        go_ret
        exact ⟨rfl, hB2⟩
      | true =>
      have e1H := Lib.hid e1
      clear e1
      by_cases e2 : wl = bl
      case neg =>
        have hvf := hbadH.out (lyOk_2 (by rw [hwlH.out, hblH.out]; exact e2))
        subst hvf
        have e2' : ((wl : Int) != (bl : Int)) = true := by simp; omega
        have e2'' : ¬ ((wl : Int) = (bl : Int)) := by omega
        go_wp2_with (go_at_call 48; have _t := tok4; refine (jw1 1 8 _ true e1H.out _ _ _ _ s0H.out).mono ?_; clear _t tok4; rintro e w' ⟨rfl, rfl⟩)
        go_ret
        exact ⟨rfl, hB2⟩
      subst e2
      cases e3 : allIn (-1000000) 1000000 L.bs with
      | false =>
        have hvf := hbadH.out (lyOk_3 e3)
        subst hvf
        have e3H := Lib.hid e3
        clear e3
        go_wp2_with (first
          | (go_at_call 48; have _t := tok4; refine (jw1 1 8 _ true e1H.out _ _ _ _ s0H.out).mono ?_; clear _t tok4; rintro e w' ⟨rfl, rfl⟩)
          | (go_at_call 48; have _t := tok5; refine (jwn (-1000000) 1000000 false L.bs e3H.out ba bc _ hblH.out z2 W2 hbs2H.out).mono ?_; clear _t tok5; rintro e w' ⟨rfl, rfl⟩))
        go_ret
        exact ⟨rfl, hB2⟩
      | true =>
      have e3H := Lib.hid e3
      clear e3
      go_wp2_with (first
        | (go_at_call 48; have _t := tok4; refine (jw1 1 8 _ true e1H.out _ _ _ _ s0H.out).mono ?_; clear _t tok4; rintro e w' ⟨rfl, rfl⟩)
        | (go_at_call 48; have _t := tok5; refine (jwn (-1000000) 1000000 true L.bs e3H.out ba bc _ hblH.out z2 W2 hbs2H.out).mono ?_; clear _t tok5; rintro e w' ⟨rfl, rfl⟩))
      clear hW1 hW2
      go_loop [84] (fun i => ∃ j : Nat, j ≤ wl ∧ i = .int .i64 (j : Int) ∧ Hid (allTo (fun r => wRowOk B (L.ws[r]?.getD [])) j = true)) (fun i => wl - (intOf i).toNat)
      case atStart => exact ⟨0, Nat.zero_le _, rfl, Lib.hid rfl⟩
      case round =>
        obtain ⟨j, hj, rfl, hrows⟩ := hrel
        by_cases hlt2 : j < wl
        case pos =>
          have hjl : j < L.ws.length := by have := hwlH.out; omega
          obtain ⟨b2, o2, rfl, hb2, ra, rc, hc3, hrow⟩ := hws2H.out.at hjl
          have z3 := z3H.out j
          obtain ⟨r, hre⟩ : ∃ r, L.ws[j]?.getD [] = r := ⟨_, rfl⟩
          rw [hre] at hc3 hrow z3
          obtain ⟨rl, hrl⟩ : ∃ x, r.length = x := ⟨_, rfl⟩
          rw [hrl] at hc3 z3
          have hreH := Lib.hid hre
          have hrlH := Lib.hid hrl
          have hrowH := Lib.hid hrow
          clear hre hrl hrow
          by_cases f1 : rl = B
          case neg =>
            have hvf := hbadH.out (lyOk_4 hjl (by rw [hreH.out, hrlH.out]; exact f1))
            subst hvf
            have f1' : ((rl : Int) != (B : Int)) = true := by simp; omega
            have f1'' : ¬ ((rl : Int) = (B : Int)) := by omega
            go_wp2_with fail
            go_ret
            exact ⟨rfl, hB2⟩
          subst f1
          cases f2 : allIn (-1000) 1000 r with
          | false =>
            have hvf := hbadH.out (lyOk_5 hjl (by rw [hreH.out]; exact f2))
            subst hvf
            have f2H := Lib.hid f2
            clear f2
            go_wp2_with (go_at_call 48; have _t := tok6; refine (jwn (-1000) 1000 false r f2H.out ra rc _ hrlH.out z3 W2 hrowH.out).mono ?_; clear _t tok6; rintro e w' ⟨rfl, rfl⟩)
            go_ret
            exact ⟨rfl, hB2⟩
          | true =>
            have f2H := Lib.hid f2
            clear f2
            go_wp2_with (go_at_call 48; have _t := tok6; refine (jwn (-1000) 1000 true r f2H.out ra rc _ hrlH.out z3 W2 hrowH.out).mono ?_; clear _t tok6; rintro e w' ⟨rfl, rfl⟩)
            go_round
            case rel => exact ⟨j + 1, by omega, by go_num, Lib.hid (allTo_succ hrows.out (by show wRowOk rl (L.ws[j]?.getD []) = true; unfold wRowOk; rw [hreH.out, hrlH.out, f2H.out]; simp))⟩
            case measure => simp [intOf]; omega
        case neg =>
          have hjw : j = wl := by omega
          subst hjw
          have hly : lyOk B L = true := lyOk_yes (by rw [hblH.out]; exact e1H.out) (by rw [hwlH.out, hblH.out]) e3H.out (by rw [hwlH.out]; exact hrows.out)
          have hlyH := Lib.hid hly
          clear hly hrows
          go_wp2_with fail
          go_roundw
          case rel => exact ⟨k + 1, by omega, by go_num, by show Value.int .i64 (j : Int) = .int .i64 (((layAt Ls k).bs.length : Nat) : Int); rw [hLH.out, hblH.out], Lib.hid (allTo_succ hall.out (by show lyOk (widthN m Ls k) (layAt Ls k) = true; rw [hLH.out, hBH.out]; exact hlyH.out)), hB2, kb2H.out⟩
          case measure => simp [intOf]; omega
    case neg =>
      have hkn : k = n := by omega
      subst hkn
      obtain ⟨B, hBe⟩ : ∃ B, widthN m Ls k = B := ⟨_, rfl⟩
      have hwid : widthN (NetN.nf ⟨W, H, GX, GY, Ls, low, high⟩) Ls Ls.length = B := by rw [hnfH.out, hnH.out]; exact hBe
      rw [hBe]
      have hwidH := Lib.hid hwid
      have hallH := Lib.hid (show allTo (fun k => lyOk (widthN (NetN.nf ⟨W, H, GX, GY, Ls, low, high⟩) Ls k) (layAt Ls k)) Ls.length = true by rw [hnfH.out, hnH.out]; exact hall.out)
      have hBeH := Lib.hid hBe
      have c5 := kb.cell (i := 5) rfl
      have c6 := kb.cell (i := 6) rfl
      have hB3 : Below w.heap.size w (wr.alloc (.cells #[.int .i64 low, .int .i64 high] 3)) := jb_al hB _
      clear hBe hwid hall kb
      by_cases f1 : B = 1
      case neg =>
        have hvf : v = false := by rw [← hvH.out]; exact netOk_7 (by show ¬ widthN _ Ls Ls.length = 1; rw [hwidH.out]; exact f1)
        subst hvf
        have f1' : ((B : Int) != (1 : Int)) = true := by simp; omega
        have f1'' : ¬ ((B : Int) = (1 : Int)) := by omega
        go_wp2_with fail
        go_ret
        exact ⟨rfl, hB⟩
      subst f1
      by_cases f2 : low < high
      case neg =>
        have hvf : v = false := by rw [← hvH.out]; exact netOk_8 f2
        subst hvf
        go_wp2_with fail
        go_ret
        exact ⟨rfl, hB⟩
      cases f3 : (nIn (-1152921504606846976) 1152921504606846976 low && nIn (-1152921504606846976) 1152921504606846976 high) with
      | false =>
        have hvf : v = false := by rw [← hvH.out]; exact netOk_9 f3
        subst hvf
        have f3H := Lib.hid f3
        clear f3
        go_wp2_with (go_at_call 48; have _t := tok7; refine (jw2 (-1152921504606846976) 1152921504606846976 low high false f3H.out _ _ _ _ (cell_new (by simp) rfl) (cell_new (by simp) rfl)).mono ?_; clear _t tok7; rintro e w' ⟨rfl, rfl⟩)
        go_ret
        exact ⟨rfl, hB3⟩
      | true =>
        have hvf : v = true := by
          rw [← hvH.out]
          exact netOk_yes h1H.out h2H.out hm1H.out hm2H.out (by show nIn 1 3 (Ls.length : Int) = true; rw [hnH.out]; exact h5H.out) hallH.out hwidH.out f2 f3
        subst hvf
        have f3H := Lib.hid f3
        clear f3
        go_wp2_with (go_at_call 48; have _t := tok7; refine (jw2 (-1152921504606846976) 1152921504606846976 low high true f3H.out _ _ _ _ (cell_new (by simp) rfl) (cell_new (by simp) rfl)).mono ?_; clear _t tok7; rintro e w' ⟨rfl, rfl⟩)
        go_ret
        exact ⟨rfl, hB3⟩

end Go.Proofs.YtbfigbpjoaccdaaGreat

namespace Go.Proofs.YtbfigbpjoaccdaaGreat
open Go Go.RowKit Go.Shelf
set_option linter.unusedVariables false
set_option linter.unusedSimpArgs false

/-- Row by row, as the specification goes. -/
structure LyTo (b : Nat) (L : LayN) (k : Nat) : Prop where
  bs : ∀ i, i < k → nIn (-1000000) 1000000 (L.bs[i]?.getD 0) = true
  row : ∀ i, i < k → wRowOk b (L.ws[i]?.getD []) = true
theorem LyTo.zero (b : Nat) (L : LayN) : LyTo b L 0 := ⟨fun i h => absurd h (Nat.not_lt_zero _), fun i h => absurd h (Nat.not_lt_zero _)⟩
theorem LyTo.next {b : Nat} {L : LayN} {k : Nat} (h : LyTo b L k) (h1 : nIn (-1000000) 1000000 (L.bs[k]?.getD 0) = true) (h2 : (L.ws[k]?.getD []).length = b) (h3 : ∀ i, i < b → nIn (-1000) 1000 ((L.ws[k]?.getD [])[i]?.getD 0) = true) : LyTo b L (k + 1) where
  bs i hi := by
    by_cases e : i = k
    · subst e; exact h1
    · exact h.bs i (by omega)
  row i hi := by
    by_cases e : i = k
    · subst e
      simp only [wRowOk, Bool.and_eq_true, decide_eq_true_eq]
      exact ⟨h2, allIn_of fun j hj => nIn_true.1 (h3 j (by omega))⟩
    · exact h.row i (by omega)
theorem LyTo.all {b : Nat} {L : LayN} (h : LyTo b L L.bs.length) (h1 : 1 ≤ L.bs.length) (h8 : L.bs.length ≤ 8) (h2 : L.ws.length = L.bs.length) : lyOk b L = true := by
  refine lyOk_yes (nIn_true.2 (by omega)) h2 (allIn_of fun k hk => nIn_true.1 (h.bs k hk)) ?_
  rw [h2]
  have : ∀ n, n ≤ L.bs.length → allTo (fun r => wRowOk b (L.ws[r]?.getD [])) n = true := fun n => by
    induction n with
    | zero => intro _; rfl
    | succ n ih => intro hn; exact allTo_succ (ih (by omega)) (h.row n (by omega))
  exact this _ (Nat.le_refl _)

end Go.Proofs.YtbfigbpjoaccdaaGreat

/- Contracts and laws (Jury, Net, NetB, ND). -/
import Derived.Lib.Hide
import Derived.Test.YtbfigbpjoaccdaaGreatQC1
namespace Go.Proofs.YtbfigbpjoaccdaaGreat
set_option linter.unusedVariables false
set_option linter.unusedSimpArgs false

def sumJ (f : Nat → Int) : Nat → Int
  | 0 => 0
  | n + 1 => sumJ f n + f n
theorem sumJ_congr {f g : Nat → Int} : ∀ {n : Nat}, (∀ i, i < n → f i = g i) → sumJ f n = sumJ g n
  | 0, _ => rfl
  | n + 1, h => by simp only [sumJ]; rw [sumJ_congr fun i hi => h i (by omega), h n (by omega)]
theorem sumJ_bd {f : Nat → Int} {B : Int} : ∀ {n : Nat}, (∀ i, i < n → -B ≤ f i ∧ f i ≤ B) → -(B * n) ≤ sumJ f n ∧ sumJ f n ≤ B * n
  | 0, _ => by simp [sumJ]
  | n + 1, h => by
    have ih := sumJ_bd (n := n) fun i hi => h i (by omega)
    have h2 := h n (by omega)
    have e : B * ((n + 1 : Nat) : Int) = B * n + B := by rw [Int.natCast_succ, Int.mul_add, Int.mul_one]
    rw [e]
    simp only [sumJ]
    omega
theorem sumJ_head (f : Nat → Int) : ∀ n, sumJ f (n + 1) = f 0 + sumJ (fun i => f (i + 1)) n
  | 0 => by simp [sumJ]
  | n + 1 => by
    rw [sumJ, sumJ_head f n]
    simp only [sumJ]
    omega
theorem sumJ_rev : ∀ (n : Nat) (f : Nat → Int), sumJ (fun i => f (n - 1 - i)) n = sumJ f n
  | 0, f => rfl
  | n + 1, f => by
    rw [sumJ_head]
    have h : sumJ (fun i => f (n + 1 - 1 - (i + 1))) n = sumJ (fun i => f (n - 1 - i)) n := sumJ_congr fun i hi => by congr 1; omega
    rw [h, sumJ_rev n f]
    simp only [sumJ]
    rw [show n + 1 - 1 - 0 = n by omega]
    omega
/-- A sum without two of its terms. -/
theorem sumJ_two (f : Nat → Int) {a b : Nat} (hab : a ≠ b) : ∀ n, sumJ f n = sumJ (fun k => if k = a ∨ k = b then 0 else f k) n + (if a < n then f a else 0) + (if b < n then f b else 0)
  | 0 => by simp [sumJ]
  | n + 1 => by
    simp only [sumJ]
    rw [sumJ_two f hab n]
    have lt1 : ∀ c : Nat, c ≠ n → (if c < n + 1 then f c else 0) = (if c < n then f c else 0) := fun c hc => by
      by_cases h : c < n
      · rw [if_pos h, if_pos (show c < n + 1 by omega)]
      · rw [if_neg h, if_neg (show ¬ c < n + 1 by omega)]
    have eqn : (if n < n then f n else 0) = 0 := if_neg (by omega)
    have eqn1 : (if n < n + 1 then f n else 0) = f n := if_pos (by omega)
    by_cases ha : a = n
    · subst ha
      have e0 : (if a = a ∨ a = b then 0 else f a) = 0 := if_pos (.inl rfl)
      rw [e0, eqn, eqn1, lt1 b (fun h => hab h.symm)]
      omega
    · by_cases hb : b = n
      · subst hb
        have e0 : (if b = a ∨ b = b then 0 else f b) = 0 := if_pos (.inr rfl)
        rw [e0, eqn, eqn1, lt1 a ha]
        omega
      · have e0 : (if n = a ∨ n = b then 0 else f n) = f n := if_neg (fun h => h.elim (fun e => ha e.symm) (fun e => hb e.symm))
        rw [e0, lt1 a ha, lt1 b hb]
        omega
/-- Two places exchanged. -/
def exch (a b k : Nat) : Nat := if k = a then b else if k = b then a else k
theorem exch_exch (a b k : Nat) : exch a b (exch a b k) = k := by
  unfold exch
  by_cases h1 : k = a
  · subst h1
    by_cases h2 : b = k
    · simp [h2]
    · simp [h2]
  · by_cases h2 : k = b
    · subst h2; simp [h1]
    · simp [h1, h2]
theorem exch_lt {a b k n : Nat} (ha : a < n) (hb : b < n) (hk : k < n) : exch a b k < n := by unfold exch; split <;> (try split) <;> omega
theorem sumJ_exch (f : Nat → Int) {a b n : Nat} (ha : a < n) (hb : b < n) : sumJ (fun k => f (exch a b k)) n = sumJ f n := by
  by_cases hab : a = b
  · subst hab
    refine sumJ_congr fun k _ => ?_
    unfold exch
    by_cases h : k = a
    · subst h; simp
    · simp [h]
  · rw [sumJ_two f hab n, sumJ_two (fun k => f (exch a b k)) hab n, if_pos ha, if_pos hb, if_pos ha, if_pos hb]
    have e1 : f (exch a b a) = f b := by simp [exch]
    have e2 : f (exch a b b) = f a := by
      unfold exch
      by_cases h : b = a
      · exact absurd h.symm hab
      · simp [h]
    have e3 : sumJ (fun k => if k = a ∨ k = b then 0 else f (exch a b k)) n = sumJ (fun k => if k = a ∨ k = b then 0 else f k) n := sumJ_congr fun k _ => by
      by_cases h : k = a ∨ k = b
      · rw [if_pos h, if_pos h]
      · rw [if_neg h, if_neg h]
        have h1 : k ≠ a := fun e => h (.inl e)
        have h2 : k ≠ b := fun e => h (.inr e)
        simp [exch, h1, h2]
    rw [e3, e1, e2]
    omega

/-! ### Votes and weights. 'lab i k' is what inspector i said of part k: nothing (0), Pass (1), Fail (2) -/

def sumW (lab : Nat → Nat → Nat) (w : Nat → Int) (v k J : Nat) : Int := sumJ (fun i => if lab i k = v then w i else 0) J
def verd (y n : Int) : Nat := if n < y then 1 else if y < n then 2 else 3
def voteF (lab : Nat → Nat → Nat) (w : Nat → Int) (J k : Nat) : Nat := verd (sumW lab w 1 k J) (sumW lab w 2 k J)
/-- What one part adds to an inspector's weight, by the verdict and the label. -/
def scoreJ (v l : Nat) : Int := if v = 3 ∨ l = 0 then 0 else if l = v then 1 else -1
def netJ (lab : Nat → Nat → Nat) (v : Nat → Nat) (i K : Nat) : Int := sumJ (fun k => scoreJ (v k) (lab i k)) K
def weighF (lab : Nat → Nat → Nat) (v : Nat → Nat) (K i : Nat) : Int := max (netJ lab v i K) 0

def voteL (lab : Nat → Nat → Nat) (J K : Nat) (ws : List Int) : List Nat := (List.range K).map (voteF lab (fun i => ws[i]?.getD 0) J)
def weighL (lab : Nat → Nat → Nat) (J K : Nat) (vs : List Nat) : List Int := (List.range J).map (weighF lab (fun k => vs[k]?.getD 0) K)
/-- So many more rounds, from verdicts and weights on. -/
def reconL (lab : Nat → Nat → Nat) (J K : Nat) : Nat → List Nat → List Int → List Nat × List Int
  | 0, vs, ws => (vs, ws)
  | r + 1, vs, _ => if voteL lab J K (weighL lab J K vs) = vs then (vs, weighL lab J K vs) else reconL lab J K r (voteL lab J K (weighL lab J K vs)) (weighL lab J K vs)
def reconS (lab : Nat → Nat → Nat) (J K : Nat) : List Nat × List Int := reconL lab J K 10 (voteL lab J K (List.replicate J 1)) (List.replicate J 1)

variable {lab : Nat → Nat → Nat} {J K : Nat}

theorem voteL_length (ws : List Int) : (voteL lab J K ws).length = K := by simp [voteL]
theorem weighL_length (vs : List Nat) : (weighL lab J K vs).length = J := by simp [weighL]
theorem verd_mem (y n : Int) : verd y n = 1 ∨ verd y n = 2 ∨ verd y n = 3 := by unfold verd; split <;> (try split) <;> omega
theorem verd_one (y n : Int) : verd y n = 1 ↔ n < y := by unfold verd; split <;> (try split) <;> omega
theorem verd_two (y n : Int) : verd y n = 2 ↔ y < n := by unfold verd; split <;> (try split) <;> omega
theorem scoreJ_bd (v l : Nat) : -1 ≤ scoreJ v l ∧ scoreJ v l ≤ 1 := by unfold scoreJ; split <;> (try split) <;> omega
theorem weighF_bd (v : Nat → Nat) (i : Nat) : 0 ≤ weighF lab v K i ∧ weighF lab v K i ≤ K := by
  have := sumJ_bd (f := fun k => scoreJ (v k) (lab i k)) (B := 1) (n := K) fun k _ => scoreJ_bd _ _
  unfold weighF netJ
  omega
/-- The verdicts are those of the vote with the weights. -/
theorem reconL_vote : ∀ (r : Nat) (vs : List Nat) (ws : List Int), vs = voteL lab J K ws → (reconL lab J K r vs ws).1 = voteL lab J K (reconL lab J K r vs ws).2
  | 0, vs, ws, h => h
  | r + 1, vs, ws, h => by
    rw [reconL]
    split
    · rename_i he; exact he.symm
    · exact reconL_vote r _ _ rfl
theorem reconS_vote : (reconS lab J K).1 = voteL lab J K (reconS lab J K).2 := reconL_vote _ _ _ rfl
theorem reconL_len : ∀ (r : Nat) (vs : List Nat) (ws : List Int), vs.length = K → ws.length = J → (reconL lab J K r vs ws).1.length = K ∧ (reconL lab J K r vs ws).2.length = J
  | 0, vs, ws, h1, h2 => ⟨h1, h2⟩
  | r + 1, vs, ws, h1, h2 => by
    rw [reconL]
    split
    · exact ⟨h1, weighL_length _⟩
    · exact reconL_len r _ _ (voteL_length _) (weighL_length _)
theorem reconS_len : (reconS lab J K).1.length = K ∧ (reconS lab J K).2.length = J := reconL_len _ _ _ (voteL_length _) (by simp)
theorem reconL_pos : ∀ (r : Nat) (vs : List Nat) (ws : List Int), (∀ x ∈ ws, 0 ≤ x ∧ x ≤ 100) → K ≤ 100 → ∀ x ∈ (reconL lab J K r vs ws).2, 0 ≤ x ∧ x ≤ 100
  | 0, vs, ws, h, _ => h
  | r + 1, vs, ws, h, hK => by
    have hw : ∀ x ∈ weighL lab J K vs, 0 ≤ x ∧ x ≤ 100 := fun x hx => by
      unfold weighL at hx
      rw [List.mem_map] at hx
      obtain ⟨i, _, rfl⟩ := hx
      have := weighF_bd (lab := lab) (K := K) (fun k => vs[k]?.getD 0) i
      omega
    rw [reconL]
    split
    · exact hw
    · exact reconL_pos r _ _ hw hK
theorem reconS_pos (hK : K ≤ 100) : ∀ x ∈ (reconS lab J K).2, 0 ≤ x ∧ x ≤ 100 := reconL_pos _ _ _ (fun x hx => by rw [List.eq_of_mem_replicate hx]; omega) hK

theorem getD_map_range {α : Type} (f : Nat → α) (d : α) {n k : Nat} (h : k < n) : ((List.range n).map f)[k]?.getD d = f k := by
  rw [List.getElem?_map, List.getElem?_range h]; rfl

/-! ### Pass and Fail exchanged -/

def swapL (l : Nat) : Nat := if l = 1 then 2 else if l = 2 then 1 else l
theorem swapL_swapL (l : Nat) : swapL (swapL l) = l := by
  unfold swapL
  by_cases h1 : l = 1
  · simp [h1]
  · by_cases h2 : l = 2
    · simp [h2]
    · simp [h1, h2]
theorem swapL_iff (l v : Nat) : swapL l = v ↔ l = swapL v := ⟨fun h => by rw [← h, swapL_swapL], fun h => by rw [h, swapL_swapL]⟩
theorem sumW_swap (w : Nat → Int) (v k J : Nat) : sumW (fun i k => swapL (lab i k)) w v k J = sumW lab w (swapL v) k J := by
  unfold sumW
  refine sumJ_congr fun i _ => ?_
  by_cases h : swapL (lab i k) = v
  · rw [if_pos h, if_pos ((swapL_iff _ _).1 h)]
  · rw [if_neg h, if_neg fun h2 => h ((swapL_iff _ _).2 h2)]
theorem verd_swap (y n : Int) : verd n y = swapL (verd y n) := by
  unfold verd swapL
  by_cases h1 : n < y
  · have h2 : ¬ y < n := by omega
    simp [h1, h2]
  · by_cases h2 : y < n
    · simp [h1, h2]
    · simp [h1, h2]
theorem voteF_swap (w : Nat → Int) (k : Nat) : voteF (fun i k => swapL (lab i k)) w J k = swapL (voteF lab w J k) := by
  unfold voteF
  rw [sumW_swap, sumW_swap, ← verd_swap]
  rfl
theorem scoreJ_swap (v l : Nat) : scoreJ (swapL v) (swapL l) = scoreJ v l := by
  have h3 : swapL v = 3 ↔ v = 3 := by rw [swapL_iff]; rfl
  have h0 : swapL l = 0 ↔ l = 0 := by rw [swapL_iff]; rfl
  have he : swapL l = swapL v ↔ l = v := by rw [swapL_iff, swapL_swapL]
  simp only [scoreJ, h3, h0, he]
theorem voteL_swap (ws : List Int) : voteL (fun i k => swapL (lab i k)) J K ws = (voteL lab J K ws).map swapL := by
  unfold voteL
  rw [List.map_map]
  exact List.map_congr_left fun k _ => voteF_swap _ k
theorem weighL_swap {vs : List Nat} (hv : vs.length = K) : weighL (fun i k => swapL (lab i k)) J K (vs.map swapL) = weighL lab J K vs := by
  unfold weighL
  refine List.map_congr_left fun i _ => ?_
  unfold weighF netJ
  congr 1
  refine sumJ_congr fun k hk => ?_
  show scoreJ ((List.map swapL vs)[k]?.getD 0) (swapL (lab i k)) = scoreJ (vs[k]?.getD 0) (lab i k)
  rw [List.getElem?_map, List.getElem?_eq_getElem (by omega)]
  exact scoreJ_swap _ _
theorem map_swap_inj {a b : List Nat} : a.map swapL = b.map swapL ↔ a = b := by
  constructor
  · intro h
    have := congrArg (List.map swapL) h
    rw [List.map_map, List.map_map] at this
    simpa [Function.comp_def, swapL_swapL] using this
  · intro h; rw [h]
theorem reconL_swap : ∀ (r : Nat) (vs : List Nat) (ws : List Int), vs.length = K → reconL (fun i k => swapL (lab i k)) J K r (vs.map swapL) ws = ((reconL lab J K r vs ws).1.map swapL, (reconL lab J K r vs ws).2)
  | 0, vs, ws, _ => rfl
  | r + 1, vs, ws, hv => by
    rw [reconL, reconL, weighL_swap hv, voteL_swap]
    simp only [map_swap_inj]
    split
    · rfl
    · exact reconL_swap r _ _ (voteL_length _)
theorem reconS_swap : reconS (fun i k => swapL (lab i k)) J K = ((reconS lab J K).1.map swapL, (reconS lab J K).2) := by
  unfold reconS
  rw [voteL_swap, reconL_swap _ _ _ (voteL_length _)]

/-! ### The inspectors in the other order -/

theorem voteL_turn (ws : List Int) (hw : ws.length = J) : voteL (fun i k => lab (J - 1 - i) k) J K ws.reverse = voteL lab J K ws := by
  unfold voteL
  refine List.map_congr_left fun k _ => ?_
  unfold voteF sumW
  have key : ∀ v, sumJ (fun i => if lab (J - 1 - i) k = v then ws.reverse[i]?.getD 0 else 0) J = sumJ (fun i => if lab i k = v then ws[i]?.getD 0 else 0) J := fun v => by
    rw [← sumJ_rev J (fun i => if lab i k = v then ws[i]?.getD 0 else 0)]
    refine sumJ_congr fun i hi => ?_
    rw [List.getElem?_reverse (by omega), hw]
  rw [key, key]
theorem weighL_turn (vs : List Nat) : weighL (fun i k => lab (J - 1 - i) k) J K vs = (weighL lab J K vs).reverse := by
  refine List.ext_getElem? fun i => ?_
  by_cases hi : i < J
  · rw [List.getElem?_reverse (by rw [weighL_length]; exact hi), weighL_length]
    unfold weighL
    rw [List.getElem?_map, List.getElem?_range hi, List.getElem?_map, List.getElem?_range (by omega)]
    rfl
  · rw [List.getElem?_eq_none (by rw [weighL_length]; omega), List.getElem?_eq_none (by rw [List.length_reverse, weighL_length]; omega)]
theorem reconL_turn : ∀ (r : Nat) (vs : List Nat) (ws : List Int), ws.length = J → reconL (fun i k => lab (J - 1 - i) k) J K r vs ws.reverse = ((reconL lab J K r vs ws).1, (reconL lab J K r vs ws).2.reverse)
  | 0, vs, ws, _ => rfl
  | r + 1, vs, ws, hw => by
    rw [reconL, reconL, weighL_turn, voteL_turn _ (weighL_length _)]
    split
    · rfl
    · exact reconL_turn r _ _ (weighL_length _)
theorem reconS_turn : reconS (fun i k => lab (J - 1 - i) k) J K = ((reconS lab J K).1, (reconS lab J K).2.reverse) := by
  unfold reconS
  have h := reconL_turn (lab := lab) (J := J) (K := K) 10 (voteL lab J K (List.replicate J 1)) (List.replicate J 1) (by simp)
  rw [List.reverse_replicate] at h
  rw [← h]
  have h2 := voteL_turn (lab := lab) (K := K) (List.replicate J 1) (by simp : (List.replicate J (1 : Int)).length = J)
  rw [List.reverse_replicate] at h2
  rw [h2]

/-! ### Two parts exchanged -/

def exchL (a b : Nat) (vs : List Nat) : List Nat := (List.range vs.length).map fun k => vs[exch a b k]?.getD 0
theorem voteL_exch {a b : Nat} (ha : a < K) (hb : b < K) (ws : List Int) : voteL (fun i k => lab i (exch a b k)) J K ws = exchL a b (voteL lab J K ws) := by
  unfold exchL
  rw [voteL_length]
  conv => lhs; unfold voteL
  refine List.map_congr_left fun k hk => ?_
  rw [List.mem_range] at hk
  unfold voteL
  rw [getD_map_range _ _ (exch_lt ha hb hk)]
  rfl
theorem weighL_exch {a b : Nat} (ha : a < K) (hb : b < K) {vs : List Nat} (hv : vs.length = K) : weighL (fun i k => lab i (exch a b k)) J K (exchL a b vs) = weighL lab J K vs := by
  unfold weighL
  refine List.map_congr_left fun i _ => ?_
  unfold weighF netJ
  congr 1
  rw [← sumJ_exch (fun k => scoreJ (vs[k]?.getD 0) (lab i k)) ha hb]
  refine sumJ_congr fun k hk => ?_
  show scoreJ ((exchL a b vs)[k]?.getD 0) (lab i (exch a b k)) = scoreJ (vs[exch a b k]?.getD 0) (lab i (exch a b k))
  unfold exchL
  rw [hv, getD_map_range _ _ hk]
theorem exchL_length (a b : Nat) (vs : List Nat) : (exchL a b vs).length = vs.length := by simp [exchL]
theorem exchL_exchL {a b : Nat} {vs : List Nat} (ha : a < vs.length) (hb : b < vs.length) : exchL a b (exchL a b vs) = vs := by
  refine List.ext_getElem (by simp [exchL]) fun k h1 h2 => ?_
  simp only [exchL, List.getElem_map, List.getElem_range, List.length_map, List.length_range]
  rw [getD_map_range _ _ (exch_lt ha hb h2), exch_exch, List.getElem?_eq_getElem h2]
  rfl
theorem exchL_inj {a b : Nat} {vs us : List Nat} (h : vs.length = us.length) (ha : a < vs.length) (hb : b < vs.length) : exchL a b vs = exchL a b us ↔ vs = us := by
  constructor
  · intro he
    rw [← exchL_exchL ha hb, he, exchL_exchL (by omega) (by omega)]
  · intro he; rw [he]
theorem reconL_exch {a b : Nat} (ha : a < K) (hb : b < K) : ∀ (r : Nat) (vs : List Nat) (ws : List Int), vs.length = K → reconL (fun i k => lab i (exch a b k)) J K r (exchL a b vs) ws = (exchL a b (reconL lab J K r vs ws).1, (reconL lab J K r vs ws).2)
  | 0, vs, ws, _ => rfl
  | r + 1, vs, ws, hv => by
    rw [reconL, reconL, weighL_exch ha hb hv, voteL_exch ha hb]
    have e := exchL_inj (a := a) (b := b) (vs := voteL lab J K (weighL lab J K vs)) (us := vs) (by rw [voteL_length, hv]) (by rw [voteL_length]; exact ha) (by rw [voteL_length]; exact hb)
    simp only [e]
    split
    · rfl
    · exact reconL_exch ha hb r _ _ (voteL_length _)
theorem reconS_exch {a b : Nat} (ha : a < K) (hb : b < K) : reconS (fun i k => lab i (exch a b k)) J K = (exchL a b (reconS lab J K).1, (reconS lab J K).2) := by
  unfold reconS
  rw [voteL_exch ha hb, reconL_exch ha hb _ _ _ (voteL_length _)]

end Go.Proofs.YtbfigbpjoaccdaaGreat

namespace Go.Proofs.YtbfigbpjoaccdaaGreat
set_option linter.unusedVariables false
set_option linter.unusedSimpArgs false

/-- A layer: for each of its numbers the weights of those before it, and a bias. -/
structure LayN where
  ws : List (List Int)
  bs : List Int
def wAt (L : LayN) (k j : Nat) : Int := (L.ws[k]?.getD [])[j]?.getD 0
def bAt (L : LayN) (k : Nat) : Int := L.bs[k]?.getD 0
/-- 0 instead of what is below, if asked. -/
def cutI (c : Bool) (s : Int) : Int := if c = true then max s 0 else s
theorem cutI_mono {c : Bool} {a b : Int} (h : a ≤ b) : cutI c a ≤ cutI c b := by unfold cutI; split <;> omega

def layF (L : LayN) (c : Bool) (l : List Int) (k : Nat) : Int := cutI c (bAt L k + sumJ (fun j => wAt L k j * l[j]?.getD 0) l.length)
def layL (L : LayN) (c : Bool) (l : List Int) : List Int := (List.range L.bs.length).map (layF L c l)
def fwdL : List LayN → List Int → List Int
  | [], l => l
  | L :: r, l => fwdL r (layL L (!r.isEmpty) l)
def scoreN (Ls : List LayN) (l : List Int) : Int := (fwdL Ls l)[0]?.getD 0

/-- The terms of a lower, of an upper bound. -/
def loT (w lo hi : Int) : Int := if w < 0 then w * hi else w * lo
def hiT (w lo hi : Int) : Int := if w < 0 then w * lo else w * hi
def loAt (l : List (Int × Int)) (j : Nat) : Int := (l[j]?.getD (0, 0)).1
def hiAt (l : List (Int × Int)) (j : Nat) : Int := (l[j]?.getD (0, 0)).2
def layBF (L : LayN) (c : Bool) (l : List (Int × Int)) (k : Nat) : Int × Int :=
  (cutI c (bAt L k + sumJ (fun j => loT (wAt L k j) (loAt l j) (hiAt l j)) l.length), cutI c (bAt L k + sumJ (fun j => hiT (wAt L k j) (loAt l j) (hiAt l j)) l.length))
def layB (L : LayN) (c : Bool) (l : List (Int × Int)) : List (Int × Int) := (List.range L.bs.length).map (layBF L c l)
def fwdB : List LayN → List (Int × Int) → List (Int × Int)
  | [], l => l
  | L :: r, l => fwdB r (layB L (!r.isEmpty) l)

theorem sumJ_mono {f g : Nat → Int} : ∀ {n : Nat}, (∀ i, i < n → f i ≤ g i) → sumJ f n ≤ sumJ g n
  | 0, _ => Int.le_refl _
  | n + 1, h => by
    have := sumJ_mono (n := n) fun i hi => h i (by omega)
    have := h n (by omega)
    simp only [sumJ]
    omega
theorem loT_le {w lo hi x : Int} (h1 : lo ≤ x) (h2 : x ≤ hi) : loT w lo hi ≤ w * x := by
  unfold loT
  split
  · exact Int.mul_le_mul_of_nonpos_left (by omega) h2
  · exact Int.mul_le_mul_of_nonneg_left h1 (by omega)
theorem le_hiT {w lo hi x : Int} (h1 : lo ≤ x) (h2 : x ≤ hi) : w * x ≤ hiT w lo hi := by
  unfold hiT
  split
  · exact Int.mul_le_mul_of_nonpos_left (by omega) h1
  · exact Int.mul_le_mul_of_nonneg_left h2 (by omega)

/-- Numbers are within bounds; bounds are within bounds. -/
structure InB (l : List (Int × Int)) (x : List Int) : Prop where
  len : l.length = x.length
  bd : ∀ j, j < l.length → loAt l j ≤ x[j]?.getD 0 ∧ x[j]?.getD 0 ≤ hiAt l j
theorem layB_at {L : LayN} {c : Bool} {l : List (Int × Int)} {k : Nat} (hk : k < L.bs.length) : loAt (layB L c l) k = (layBF L c l k).1 ∧ hiAt (layB L c l) k = (layBF L c l k).2 := by
  unfold loAt hiAt layB
  rw [getD_map_range _ _ hk]
  exact ⟨rfl, rfl⟩
theorem layB_length (L : LayN) (c : Bool) (l : List (Int × Int)) : (layB L c l).length = L.bs.length := by simp [layB]
theorem layL_length (L : LayN) (c : Bool) (l : List Int) : (layL L c l).length = L.bs.length := by simp [layL]
theorem layB_holds {L : LayN} {c : Bool} {l : List (Int × Int)} {x : List Int} (h : InB l x) : InB (layB L c l) (layL L c x) where
  len := by rw [layB_length, layL_length]
  bd k hk := by
    rw [layB_length] at hk
    obtain ⟨e1, e2⟩ := layB_at (c := c) (l := l) hk
    rw [e1, e2]
    unfold layL
    rw [getD_map_range _ _ hk]
    unfold layBF layF
    rw [← h.len]
    have h1 := sumJ_mono (n := l.length) fun j hj => loT_le (w := wAt L k j) (h.bd j hj).1 (h.bd j hj).2
    have h2 := sumJ_mono (n := l.length) fun j hj => le_hiT (w := wAt L k j) (h.bd j hj).1 (h.bd j hj).2
    exact ⟨cutI_mono (by omega), cutI_mono (by omega)⟩
theorem fwdB_holds : ∀ (Ls : List LayN) {l : List (Int × Int)} {x : List Int}, InB l x → InB (fwdB Ls l) (fwdL Ls x)
  | [], _, _, h => h
  | L :: r, _, _, h => fwdB_holds r (layB_holds h)
/-! ### Verdicts and certificates -/

def verdB (low high a b : Int) : Nat := if high ≤ a then 1 else if b ≤ low then 2 else 3
def judgeB (Ls : List LayN) (low high : Int) (l : List (Int × Int)) : Nat := verdB low high (loAt (fwdB Ls l) 0) (hiAt (fwdB Ls l) 0)
def widthB (l : List (Int × Int)) (i : Nat) : Int := hiAt l i - loAt l i
def wideTo (l : List (Int × Int)) : Nat → Nat
  | 0 => 0
  | i + 1 => if widthB l (wideTo l i) < widthB l i then i else wideTo l i
def wideB (l : List (Int × Int)) : Nat := wideTo l l.length
def midB (l : List (Int × Int)) : Int := (loAt l (wideB l) + hiAt l (wideB l)).tdiv 2
def leftB (l : List (Int × Int)) : List (Int × Int) := l.set (wideB l) (loAt l (wideB l), midB l)
def rightB (l : List (Int × Int)) : List (Int × Int) := l.set (wideB l) (midB l + 1, hiAt l (wideB l))
def certN (Ls : List LayN) (low high : Int) : Nat → List (Int × Int) → Nat
  | 0, l => judgeB Ls low high l
  | s + 1, l => if judgeB Ls low high l ≠ 3 ∨ loAt l (wideB l) = hiAt l (wideB l) then judgeB Ls low high l else
      if certN Ls low high s (leftB l) ≠ 3 ∧ certN Ls low high s (rightB l) ≠ certN Ls low high s (leftB l) then 3 else certN Ls low high s (leftB l)

variable {Ls : List LayN} {low high : Int}
theorem verdB_holds {a b s : Int} (hl : low < high) (h1 : a ≤ s) (h2 : s ≤ b) (hv : verdB low high a b ≠ 3) : verdB low high s s = verdB low high a b := by
  unfold verdB at hv ⊢
  by_cases c1 : high ≤ a
  · rw [if_pos c1, if_pos (by omega)]
  · rw [if_neg c1] at hv ⊢
    by_cases c2 : b ≤ low
    · rw [if_pos c2, if_neg (by omega), if_pos (by omega)]
    · rw [if_neg c2] at hv; exact (hv rfl).elim
theorem judgeB_holds {l : List (Int × Int)} {x : List Int} (hl : low < high) (h : InB l x) (h0 : 0 < (fwdB Ls l).length) (hv : judgeB Ls low high l ≠ 3) : verdB low high (scoreN Ls x) (scoreN Ls x) = judgeB Ls low high l := by
  have hb := (fwdB_holds Ls h).bd 0 h0
  exact verdB_holds hl hb.1 hb.2 hv
theorem set_at (l : List (Int × Int)) (i : Nat) (v : Int × Int) {j : Nat} (hj : j < l.length) : loAt (l.set i v) j = (if j = i then v.1 else loAt l j) ∧ hiAt (l.set i v) j = (if j = i then v.2 else hiAt l j) := by
  unfold loAt hiAt
  by_cases e : j = i
  · subst e
    rw [if_pos rfl, if_pos rfl, List.getElem?_set_self hj]
    exact ⟨rfl, rfl⟩
  · rw [if_neg e, if_neg e, List.getElem?_set_ne (fun h => e h.symm)]
    exact ⟨rfl, rfl⟩
theorem InB.split {l : List (Int × Int)} {x : List Int} (h : InB l x) : InB (leftB l) x ∨ InB (rightB l) x := by
  by_cases hc : x[wideB l]?.getD 0 ≤ midB l
  · refine .inl ⟨by unfold leftB; rw [List.length_set]; exact h.len, fun j hj => ?_⟩
    unfold leftB at hj ⊢
    rw [List.length_set] at hj
    obtain ⟨e1, e2⟩ := set_at l (wideB l) (loAt l (wideB l), midB l) hj
    rw [e1, e2]
    have hb := h.bd j hj
    by_cases e : j = wideB l
    · subst e; rw [if_pos rfl, if_pos rfl]; exact ⟨hb.1, hc⟩
    · rw [if_neg e, if_neg e]; exact hb
  · refine .inr ⟨by unfold rightB; rw [List.length_set]; exact h.len, fun j hj => ?_⟩
    unfold rightB at hj ⊢
    rw [List.length_set] at hj
    obtain ⟨e1, e2⟩ := set_at l (wideB l) (midB l + 1, hiAt l (wideB l)) hj
    rw [e1, e2]
    have hb := h.bd j hj
    by_cases e : j = wideB l
    · subst e; rw [if_pos rfl, if_pos rfl]; exact ⟨by show midB l + 1 ≤ _; omega, hb.2⟩
    · rw [if_neg e, if_neg e]; exact hb
theorem fwdB_len : ∀ (Ls : List LayN) (l m : List (Int × Int)), l.length = m.length → (fwdB Ls l).length = (fwdB Ls m).length
  | [], _, _, h => h
  | L :: r, x, y, h => fwdB_len r _ _ (by rw [layB_length, layB_length])
/-- A certificate holds for each choice of numbers within the bounds. -/
theorem certN_holds (hl : low < high) : ∀ (s : Nat) (l : List (Int × Int)) (x : List Int), InB l x → 0 < (fwdB Ls l).length → certN Ls low high s l ≠ 3 → verdB low high (scoreN Ls x) (scoreN Ls x) = certN Ls low high s l
  | 0, l, x, h, h0, hv => judgeB_holds hl h h0 hv
  | s + 1, l, x, h, h0, hv => by
    rw [certN] at hv ⊢
    by_cases c : judgeB Ls low high l ≠ 3 ∨ loAt l (wideB l) = hiAt l (wideB l)
    · rw [if_pos c] at hv ⊢
      exact judgeB_holds hl h h0 hv
    · rw [if_neg c] at hv ⊢
      by_cases c2 : certN Ls low high s (leftB l) ≠ 3 ∧ certN Ls low high s (rightB l) ≠ certN Ls low high s (leftB l)
      · rw [if_pos c2] at hv; exact (hv rfl).elim
      · rw [if_neg c2] at hv ⊢
        have hr : certN Ls low high s (rightB l) = certN Ls low high s (leftB l) := Classical.byContradiction fun e => c2 ⟨hv, e⟩
        have e1 : (leftB l).length = l.length := by unfold leftB; rw [List.length_set]
        have e2 : (rightB l).length = l.length := by unfold rightB; rw [List.length_set]
        rcases h.split with h1 | h1
        · exact certN_holds hl s _ x h1 (by rw [fwdB_len Ls _ l e1]; exact h0) hv
        · rw [← hr] at hv ⊢
          exact certN_holds hl s _ x h1 (by rw [fwdB_len Ls _ l e2]; exact h0) hv
theorem certN_judged {l : List (Int × Int)} (h : judgeB Ls low high l ≠ 3) (s : Nat) : certN Ls low high s l = judgeB Ls low high l := by
  cases s with
  | zero => rfl
  | succ s => rw [certN, if_pos (.inl h)]
end Go.Proofs.YtbfigbpjoaccdaaGreat

namespace Go.Proofs.YtbfigbpjoaccdaaGreat
set_option linter.unusedVariables false
set_option linter.unusedSimpArgs false

def allTo (p : Nat → Bool) : Nat → Bool
  | 0 => true
  | n + 1 => allTo p n && p n
theorem allTo_at {p : Nat → Bool} : ∀ {n : Nat}, allTo p n = true → ∀ {k : Nat}, k < n → p k = true
  | 0, _, k, hk => by omega
  | n + 1, h, k, hk => by
    simp only [allTo, Bool.and_eq_true] at h
    by_cases e : k = n
    · subst e; exact h.2
    · exact allTo_at h.1 (by omega)
theorem allTo_false {p : Nat → Bool} {k n : Nat} (hk : k < n) (h : p k = false) : allTo p n = false := by
  cases hc : allTo p n with
  | false => rfl
  | true => rw [allTo_at hc hk] at h; cases h
theorem allTo_succ {p : Nat → Bool} {n : Nat} (h : allTo p n = true) (h1 : p n = true) : allTo p (n + 1) = true := by simp only [allTo, h, h1, Bool.and_self]

theorem allIn_getD {lo hi : Int} {xs : List Int} (h : allIn lo hi xs = true) {k : Nat} (hk : k < xs.length) : lo ≤ xs[k]?.getD 0 ∧ xs[k]?.getD 0 ≤ hi := by
  rw [List.getElem?_eq_getElem hk]
  exact allIn_mem h (List.getElem_mem hk)
theorem allIn_of {lo hi : Int} {xs : List Int} (h : ∀ k, k < xs.length → lo ≤ xs[k]?.getD 0 ∧ xs[k]?.getD 0 ≤ hi) : allIn lo hi xs = true := by
  simp only [allIn, List.all_eq_true, Bool.and_eq_true, decide_eq_true_eq]
  intro x hx
  obtain ⟨k, hk, rfl⟩ := List.getElem_of_mem hx
  have := h k hk
  rwa [List.getElem?_eq_getElem hk] at this

def nIn (lo hi x : Int) : Bool := decide (lo ≤ x) && decide (x ≤ hi)
theorem nIn_true {lo hi x : Int} : nIn lo hi x = true ↔ lo ≤ x ∧ x ≤ hi := by simp [nIn]
theorem nIn_false {lo hi x : Int} : nIn lo hi x = false ↔ x < lo ∨ hi < x := by
  rw [Bool.eq_false_iff, ne_eq, nIn_true]; omega

def layAt (Ls : List LayN) (i : Nat) : LayN := Ls[i]?.getD ⟨[], []⟩
def wRowOk (b : Nat) (r : List Int) : Bool := decide (r.length = b) && allIn (-1000) 1000 r
/-- A layer is valid for so many numbers before it. -/
def lyOk (b : Nat) (L : LayN) : Bool :=
  decide (1 ≤ L.bs.length) && decide (L.bs.length ≤ 8) && decide (L.ws.length = L.bs.length) && allIn (-1000000) 1000000 L.bs && allTo (fun r => wRowOk b (L.ws[r]?.getD [])) L.ws.length
def widthN (b : Nat) (Ls : List LayN) : Nat → Nat
  | 0 => b
  | k + 1 => (layAt Ls k).bs.length
def lysOk (b : Nat) (Ls : List LayN) : Bool := allTo (fun k => lyOk (widthN b Ls k) (layAt Ls k)) Ls.length
structure NetN where
  w : Int
  h : Int
  gx : Int
  gy : Int
  Ls : List LayN
  low : Int
  high : Int
/-- How many features there are. -/
def NetN.nf (N : NetN) : Nat := (N.gx * N.gy).toNat
def sidesOk (N : NetN) : Bool := (nIn 1 16 N.w && nIn 1 16 N.h) && (nIn 1 4 N.gx && nIn 1 4 N.gy) && decide (N.w % N.gx = 0) && decide (N.h % N.gy = 0) && (decide (1 ≤ N.Ls.length) && decide (N.Ls.length ≤ 3))
def endOk (N : NetN) : Bool := decide (widthN N.nf N.Ls N.Ls.length = 1) && decide (N.low < N.high) && (nIn (-1152921504606846976) 1152921504606846976 N.low && nIn (-1152921504606846976) 1152921504606846976 N.high)
def netOk (N : NetN) : Bool := sidesOk N && lysOk N.nf N.Ls && endOk N

structure LyOk (b : Nat) (L : LayN) : Prop where
  b1 : 1 ≤ L.bs.length
  b8 : L.bs.length ≤ 8
  ws : L.ws.length = L.bs.length
  bs : allIn (-1000000) 1000000 L.bs = true
  row : ∀ k, k < L.bs.length → (L.ws[k]?.getD []).length = b ∧ allIn (-1000) 1000 (L.ws[k]?.getD []) = true
theorem lyOk_iff {b : Nat} {L : LayN} : lyOk b L = true ↔ LyOk b L := by
  unfold lyOk
  simp only [Bool.and_eq_true, decide_eq_true_eq]
  constructor
  · rintro ⟨⟨⟨⟨h1, h2⟩, h3⟩, h4⟩, h5⟩
    refine ⟨h1, h2, h3, h4, fun k hk => ?_⟩
    have := allTo_at h5 (k := k) (by omega)
    simpa [wRowOk] using this
  · rintro ⟨h1, h2, h3, h4, h5⟩
    refine ⟨⟨⟨⟨h1, h2⟩, h3⟩, h4⟩, ?_⟩
    rw [h3]
    have : ∀ n, n ≤ L.bs.length → allTo (fun r => wRowOk b (L.ws[r]?.getD [])) n = true := fun n => by
      induction n with
      | zero => intro _; rfl
      | succ n ih => intro hn; exact allTo_succ (ih (by omega)) (by simpa [wRowOk] using h5 n (by omega))
    exact this _ (Nat.le_refl _)
structure NetOk (N : NetN) : Prop where
  w : 1 ≤ N.w ∧ N.w ≤ 16
  h : 1 ≤ N.h ∧ N.h ≤ 16
  gx : 1 ≤ N.gx ∧ N.gx ≤ 4
  gy : 1 ≤ N.gy ∧ N.gy ≤ 4
  mx : N.w % N.gx = 0
  my : N.h % N.gy = 0
  l1 : 1 ≤ N.Ls.length
  l3 : N.Ls.length ≤ 3
  ly : ∀ k, k < N.Ls.length → LyOk (widthN N.nf N.Ls k) (layAt N.Ls k)
  one : widthN N.nf N.Ls N.Ls.length = 1
  lt : N.low < N.high
  low : -1152921504606846976 ≤ N.low ∧ N.low ≤ 1152921504606846976
  high : -1152921504606846976 ≤ N.high ∧ N.high ≤ 1152921504606846976
theorem netOk_of {N : NetN} (h : netOk N = true) : NetOk N := by
  simp only [netOk, sidesOk, endOk, Bool.and_eq_true, nIn_true, decide_eq_true_eq] at h
  obtain ⟨⟨⟨⟨⟨⟨⟨h1, h2⟩, h3, h4⟩, h5⟩, h6⟩, h7, h8⟩, h9⟩, ⟨h10, h11⟩, h12, h13⟩ := h
  exact ⟨h1, h2, h3, h4, h5, h6, h7, h8, fun k hk => lyOk_iff.1 (allTo_at h9 hk), h10, h11, h12, h13⟩
theorem NetOk.nf {N : NetN} (h : NetOk N) : 1 ≤ N.nf ∧ N.nf ≤ 16 ∧ (N.nf : Int) = N.gx * N.gy := by
  have h1 := h.gx
  have h2 := h.gy
  have h3 : 1 * 1 ≤ N.gx * N.gy := Int.mul_le_mul (by omega) (by omega) (by omega) (by omega)
  have h4 : N.gx * N.gy ≤ 4 * 4 := Int.mul_le_mul (by omega) (by omega) (by omega) (by omega)
  unfold NetN.nf
  omega

/-! ### The numbers behind each layer -/

def numAt (Ls : List LayN) (l : List Int) : Nat → List Int
  | 0 => l
  | i + 1 => layL (layAt Ls i) (decide (i + 1 < Ls.length)) (numAt Ls l i)
def bndAt (Ls : List LayN) (l : List (Int × Int)) : Nat → List (Int × Int)
  | 0 => l
  | i + 1 => layB (layAt Ls i) (decide (i + 1 < Ls.length)) (bndAt Ls l i)
theorem drop_lay {Ls : List LayN} {i : Nat} (hi : i < Ls.length) : Ls.drop i = layAt Ls i :: Ls.drop (i + 1) := by
  rw [List.drop_eq_getElem_cons hi]
  unfold layAt
  rw [List.getElem?_eq_getElem hi]
  rfl
theorem drop_more {Ls : List LayN} (i : Nat) : (!(Ls.drop (i + 1)).isEmpty) = decide (i + 1 < Ls.length) := by
  by_cases h : i + 1 < Ls.length
  · rw [drop_lay h]; simp [h]
  · rw [List.drop_eq_nil_of_le (by omega)]; simp [h]
theorem fwdL_drop (Ls : List LayN) (l : List Int) : ∀ k i, i + k = Ls.length → fwdL (Ls.drop i) (numAt Ls l i) = numAt Ls l Ls.length
  | 0, i, h => by
    have : i = Ls.length := by omega
    subst this
    rw [List.drop_length]; rfl
  | k + 1, i, h => by
    rw [drop_lay (by omega), fwdL, drop_more]
    exact fwdL_drop Ls l k (i + 1) (by omega)
theorem fwdB_drop (Ls : List LayN) (l : List (Int × Int)) : ∀ k i, i + k = Ls.length → fwdB (Ls.drop i) (bndAt Ls l i) = bndAt Ls l Ls.length
  | 0, i, h => by
    have : i = Ls.length := by omega
    subst this
    rw [List.drop_length]; rfl
  | k + 1, i, h => by
    rw [drop_lay (by omega), fwdB, drop_more]
    exact fwdB_drop Ls l k (i + 1) (by omega)
theorem scoreN_at (Ls : List LayN) (l : List Int) : scoreN Ls l = (numAt Ls l Ls.length)[0]?.getD 0 := by
  unfold scoreN
  have := fwdL_drop Ls l Ls.length 0 (by omega)
  rw [List.drop_zero] at this
  rw [← this]; rfl
theorem fwdB_at (Ls : List LayN) (l : List (Int × Int)) : fwdB Ls l = bndAt Ls l Ls.length := by
  have := fwdB_drop Ls l Ls.length 0 (by omega)
  rw [List.drop_zero] at this
  exact this
theorem numAt_len (Ls : List LayN) (l : List Int) : ∀ i, (numAt Ls l i).length = widthN l.length Ls i
  | 0 => rfl
  | i + 1 => by rw [numAt, layL_length]; rfl
theorem bndAt_len (Ls : List LayN) (l : List (Int × Int)) : ∀ i, (bndAt Ls l i).length = widthN l.length Ls i
  | 0 => rfl
  | i + 1 => by rw [bndAt, layB_length]; rfl

/-! ### How large they are -/

def Bn : Nat → Int
  | 0 => 65280
  | i + 1 => 1000000 + 16000 * Bn i
theorem Bn_pos : ∀ i, 0 ≤ Bn i
  | 0 => by decide
  | i + 1 => by have := Bn_pos i; simp only [Bn]; omega
theorem Bn_max {i : Nat} (h : i ≤ 3) : Bn i ≤ 1000000000000000000 := by
  have h0 : Bn 0 = 65280 := rfl
  have h1 : Bn 1 = 1000000 + 16000 * Bn 0 := rfl
  have h2 : Bn 2 = 1000000 + 16000 * Bn 1 := rfl
  have h3 : Bn 3 = 1000000 + 16000 * Bn 2 := rfl
  have : i = 0 ∨ i = 1 ∨ i = 2 ∨ i = 3 := by omega
  rcases this with rfl | rfl | rfl | rfl <;> omega
def LeB (B : Int) (l : List Int) : Prop := ∀ j : Nat, -B ≤ l[j]?.getD 0 ∧ l[j]?.getD 0 ≤ B
def LeP (B : Int) (l : List (Int × Int)) : Prop := ∀ j : Nat, (-B ≤ loAt l j ∧ loAt l j ≤ B) ∧ (-B ≤ hiAt l j ∧ hiAt l j ≤ B)
theorem w_mul_bd {w x B : Int} (h1 : -1000 ≤ w) (h2 : w ≤ 1000) (h3 : -B ≤ x) (h4 : x ≤ B) : -(1000 * B) ≤ w * x ∧ w * x ≤ 1000 * B := by
  rcases Int.le_total 0 w with hw | hw
  · have a1 : w * x ≤ w * B := Int.mul_le_mul_of_nonneg_left h4 hw
    have a2 : w * (-B) ≤ w * x := Int.mul_le_mul_of_nonneg_left h3 hw
    have a3 : w * B ≤ 1000 * B := Int.mul_le_mul_of_nonneg_right h2 (by omega)
    rw [Int.mul_neg] at a2
    omega
  · have a1 : w * x ≤ w * (-B) := Int.mul_le_mul_of_nonpos_left hw h3
    have a2 : w * B ≤ w * x := Int.mul_le_mul_of_nonpos_left hw h4
    have a3 : (-1000) * B ≤ w * B := Int.mul_le_mul_of_nonneg_right h1 (by omega)
    rw [Int.mul_neg] at a1
    omega
theorem wAt_bd {b : Nat} {L : LayN} (h : LyOk b L) {k j : Nat} (hk : k < L.bs.length) (hj : j < b) : -1000 ≤ wAt L k j ∧ wAt L k j ≤ 1000 := by
  obtain ⟨h1, h2⟩ := h.row k hk
  exact allIn_getD h2 (by omega)
theorem bAt_bd {b : Nat} {L : LayN} (h : LyOk b L) {k : Nat} (hk : k < L.bs.length) : -1000000 ≤ bAt L k ∧ bAt L k ≤ 1000000 := allIn_getD h.bs hk
/-- A sum that is under way. -/
def partL (L : LayN) (l : List Int) (k m : Nat) : Int := bAt L k + sumJ (fun j => wAt L k j * l[j]?.getD 0) m
def partLo (L : LayN) (l : List (Int × Int)) (k m : Nat) : Int := bAt L k + sumJ (fun j => loT (wAt L k j) (loAt l j) (hiAt l j)) m
def partHi (L : LayN) (l : List (Int × Int)) (k m : Nat) : Int := bAt L k + sumJ (fun j => hiT (wAt L k j) (loAt l j) (hiAt l j)) m
theorem sum_part {f : Nat → Int} {B c : Int} {m b : Nat} (hB : 0 ≤ B) (hb : b ≤ 16) (hm : m ≤ b) (hc : -1000000 ≤ c ∧ c ≤ 1000000) (hf : ∀ i, i < b → -(1000 * B) ≤ f i ∧ f i ≤ 1000 * B) :
    -(1000000 + 16000 * B) ≤ c + sumJ f m ∧ c + sumJ f m ≤ 1000000 + 16000 * B := by
  have h := sumJ_bd (f := f) (B := 1000 * B) (n := m) fun i hi => hf i (by omega)
  have h2 : 1000 * B * (m : Int) ≤ 1000 * B * 16 := Int.mul_le_mul_of_nonneg_left (by omega) (by omega)
  omega
theorem partL_bd {b : Nat} {L : LayN} {l : List Int} {B : Int} (h : LyOk b L) (hb : b ≤ 16) (hB : 0 ≤ B) (hl : LeB B l) {k m : Nat} (hk : k < L.bs.length) (hm : m ≤ b) :
    -(1000000 + 16000 * B) ≤ partL L l k m ∧ partL L l k m ≤ 1000000 + 16000 * B :=
  sum_part hB hb hm (bAt_bd h hk) fun j hj => w_mul_bd (wAt_bd h hk hj).1 (wAt_bd h hk hj).2 (hl j).1 (hl j).2
theorem loT_bd {w x y B : Int} (h1 : -1000 ≤ w) (h2 : w ≤ 1000) (hx : -B ≤ x ∧ x ≤ B) (hy : -B ≤ y ∧ y ≤ B) : -(1000 * B) ≤ loT w x y ∧ loT w x y ≤ 1000 * B := by
  unfold loT; split
  · exact w_mul_bd h1 h2 hy.1 hy.2
  · exact w_mul_bd h1 h2 hx.1 hx.2
theorem hiT_bd {w x y B : Int} (h1 : -1000 ≤ w) (h2 : w ≤ 1000) (hx : -B ≤ x ∧ x ≤ B) (hy : -B ≤ y ∧ y ≤ B) : -(1000 * B) ≤ hiT w x y ∧ hiT w x y ≤ 1000 * B := by
  unfold hiT; split
  · exact w_mul_bd h1 h2 hx.1 hx.2
  · exact w_mul_bd h1 h2 hy.1 hy.2
theorem partLo_bd {b : Nat} {L : LayN} {l : List (Int × Int)} {B : Int} (h : LyOk b L) (hb : b ≤ 16) (hB : 0 ≤ B) (hl : LeP B l) {k m : Nat} (hk : k < L.bs.length) (hm : m ≤ b) :
    -(1000000 + 16000 * B) ≤ partLo L l k m ∧ partLo L l k m ≤ 1000000 + 16000 * B :=
  sum_part hB hb hm (bAt_bd h hk) fun j hj => loT_bd (wAt_bd h hk hj).1 (wAt_bd h hk hj).2 (hl j).1 (hl j).2
theorem partHi_bd {b : Nat} {L : LayN} {l : List (Int × Int)} {B : Int} (h : LyOk b L) (hb : b ≤ 16) (hB : 0 ≤ B) (hl : LeP B l) {k m : Nat} (hk : k < L.bs.length) (hm : m ≤ b) :
    -(1000000 + 16000 * B) ≤ partHi L l k m ∧ partHi L l k m ≤ 1000000 + 16000 * B :=
  sum_part hB hb hm (bAt_bd h hk) fun j hj => hiT_bd (wAt_bd h hk hj).1 (wAt_bd h hk hj).2 (hl j).1 (hl j).2
theorem cutI_bd {c : Bool} {s B : Int} (h : -B ≤ s ∧ s ≤ B) : -B ≤ cutI c s ∧ cutI c s ≤ B := by unfold cutI; split <;> omega
theorem LeB.next {b : Nat} {L : LayN} {l : List Int} {B : Int} (h : LyOk b L) (hb : b ≤ 16) (hB : 0 ≤ B) (hl : LeB B l) (hn : l.length = b) (c : Bool) : LeB (1000000 + 16000 * B) (layL L c l) := fun k => by
  by_cases hk : k < L.bs.length
  · unfold layL
    rw [getD_map_range _ _ hk]
    unfold layF
    rw [hn]
    exact cutI_bd (partL_bd h hb hB hl hk (Nat.le_refl _))
  · rw [List.getElem?_eq_none (by rw [layL_length]; omega)]
    show _ ≤ (0 : Int) ∧ (0 : Int) ≤ _
    omega
theorem LeP.next {b : Nat} {L : LayN} {l : List (Int × Int)} {B : Int} (h : LyOk b L) (hb : b ≤ 16) (hB : 0 ≤ B) (hl : LeP B l) (hn : l.length = b) (c : Bool) : LeP (1000000 + 16000 * B) (layB L c l) := fun k => by
  by_cases hk : k < L.bs.length
  · obtain ⟨e1, e2⟩ := layB_at (c := c) (l := l) hk
    rw [e1, e2]
    unfold layBF
    rw [hn]
    exact ⟨cutI_bd (partLo_bd h hb hB hl hk (Nat.le_refl _)), cutI_bd (partHi_bd h hb hB hl hk (Nat.le_refl _))⟩
  · unfold loAt hiAt
    rw [List.getElem?_eq_none (by rw [layB_length]; omega)]
    show (_ ≤ (0 : Int) ∧ (0 : Int) ≤ _) ∧ (_ ≤ (0 : Int) ∧ (0 : Int) ≤ _)
    omega
theorem width_le {N : NetN} (h : NetOk N) {i : Nat} (hi : i ≤ N.Ls.length) : 1 ≤ widthN N.nf N.Ls i ∧ widthN N.nf N.Ls i ≤ 16 := by
  cases i with
  | zero => exact ⟨h.nf.1, h.nf.2.1⟩
  | succ i =>
    have := h.ly i (by omega)
    have h1 := this.b1
    have h2 := this.b8
    show 1 ≤ (layAt N.Ls i).bs.length ∧ (layAt N.Ls i).bs.length ≤ 16
    omega
theorem numAt_bd {N : NetN} (h : NetOk N) {l : List Int} (hn : l.length = N.nf) (hl : LeB 65280 l) : ∀ i, i ≤ N.Ls.length → LeB (Bn i) (numAt N.Ls l i)
  | 0, _ => hl
  | i + 1, hi => LeB.next (h.ly i (by omega)) (width_le h (by omega)).2 (Bn_pos i) (numAt_bd h hn hl i (by omega)) (by rw [numAt_len, hn]) _
theorem bndAt_bd {N : NetN} (h : NetOk N) {l : List (Int × Int)} (hn : l.length = N.nf) (hl : LeP 65280 l) : ∀ i, i ≤ N.Ls.length → LeP (Bn i) (bndAt N.Ls l i)
  | 0, _ => hl
  | i + 1, hi => LeP.next (h.ly i (by omega)) (width_le h (by omega)).2 (Bn_pos i) (bndAt_bd h hn hl i (by omega)) (by rw [bndAt_len, hn]) _

end Go.Proofs.YtbfigbpjoaccdaaGreat

namespace Go.Proofs.YtbfigbpjoaccdaaGreat
open Go Go.RowKit Go.Shelf
set_option linter.unusedVariables false
set_option linter.unusedSimpArgs false

/-- The slice at 'a' reads as the slices of ints 'xss', in blocks below 'B'. -/
def RdW (B : Nat) (W : World) (a : Option Addr) (xss : List (List Int)) : Prop :=
  xss = [] ∨ ∃ b o, a = some ⟨b, o, none⟩ ∧ b < B ∧ ∀ i, i < xss.length → ∃ a' c', W.cell? ⟨b, o + i, none⟩ = some (.slice a' (xss[i]?.getD []).length c') ∧ Rd B W a' (xss[i]?.getD [])
theorem RdW.below {B B' : Nat} {W W' : World} {a : Option Addr} {xss : List (List Int)} (h : RdW B W a xss) (hB : B ≤ B') (hb : Below B' W W') : RdW B W' a xss := by
  rcases h with h | ⟨b, o, h1, h2, h3⟩
  · exact .inl h
  · refine .inr ⟨b, o, h1, h2, fun i hi => ?_⟩
    obtain ⟨a', c', h4, h5⟩ := h3 i hi
    exact ⟨a', c', (hb.cell (p := ⟨b, o + i, none⟩) (by show b < B'; omega)).trans h4, h5.below hB hb⟩
theorem RdW.mono {B B' : Nat} {W : World} {a : Option Addr} {xss : List (List Int)} (h : RdW B W a xss) (hB : B ≤ B') : RdW B' W a xss := by
  rcases h with h | ⟨b, o, h1, h2, h3⟩
  · exact .inl h
  · refine .inr ⟨b, o, h1, by omega, fun i hi => ?_⟩
    obtain ⟨a', c', h4, h5⟩ := h3 i hi
    exact ⟨a', c', h4, h5.mono hB⟩
theorem RdW.at {B : Nat} {W : World} {a : Option Addr} {xss : List (List Int)} (h : RdW B W a xss) {i : Nat} (hi : i < xss.length) :
    ∃ b o, a = some ⟨b, o, none⟩ ∧ b < B ∧ ∃ a' c', W.cell? ⟨b, o + i, none⟩ = some (.slice a' (xss[i]?.getD []).length c') ∧ Rd B W a' (xss[i]?.getD []) := by
  rcases h with h | ⟨b, o, h1, h2, h3⟩
  · subst h; simp at hi
  · exact ⟨b, o, h1, h2, h3 i hi⟩

/-- The slice at 'a' reads as the layers 'Ls', in blocks below 'B'. -/
def RdLs (B : Nat) (W : World) (a : Option Addr) (Ls : List LayN) : Prop :=
  Ls = [] ∨ ∃ b o, a = some ⟨b, o, none⟩ ∧ b < B ∧ ∀ i, i < Ls.length → ∃ wa wc ba bc, W.cell? ⟨b, o + i * 2, none⟩ = some (.slice wa (layAt Ls i).ws.length wc) ∧ W.cell? ⟨b, o + i * 2 + 1, none⟩ = some (.slice ba (layAt Ls i).bs.length bc) ∧
    RdW B W wa (layAt Ls i).ws ∧ Rd B W ba (layAt Ls i).bs
theorem RdLs.below {B B' : Nat} {W W' : World} {a : Option Addr} {Ls : List LayN} (h : RdLs B W a Ls) (hB : B ≤ B') (hb : Below B' W W') : RdLs B W' a Ls := by
  rcases h with h | ⟨b, o, h1, h2, h3⟩
  · exact .inl h
  · refine .inr ⟨b, o, h1, h2, fun i hi => ?_⟩
    obtain ⟨wa, wc, ba, bc, h4, h5, h6, h7⟩ := h3 i hi
    exact ⟨wa, wc, ba, bc, (hb.cell (p := ⟨b, o + i * 2, none⟩) (by show b < B'; omega)).trans h4, (hb.cell (p := ⟨b, o + i * 2 + 1, none⟩) (by show b < B'; omega)).trans h5, h6.below hB hb, h7.below hB hb⟩
theorem RdLs.mono {B B' : Nat} {W : World} {a : Option Addr} {Ls : List LayN} (h : RdLs B W a Ls) (hB : B ≤ B') : RdLs B' W a Ls := by
  rcases h with h | ⟨b, o, h1, h2, h3⟩
  · exact .inl h
  · refine .inr ⟨b, o, h1, by omega, fun i hi => ?_⟩
    obtain ⟨wa, wc, ba, bc, h4, h5, h6, h7⟩ := h3 i hi
    exact ⟨wa, wc, ba, bc, h4, h5, h6.mono hB, h7.mono hB⟩
theorem RdLs.at {B : Nat} {W : World} {a : Option Addr} {Ls : List LayN} (h : RdLs B W a Ls) {i : Nat} (hi : i < Ls.length) :
    ∃ b o, a = some ⟨b, o, none⟩ ∧ b < B ∧ ∃ wa wc ba bc, W.cell? ⟨b, o + i * 2, none⟩ = some (.slice wa (layAt Ls i).ws.length wc) ∧ W.cell? ⟨b, o + i * 2 + 1, none⟩ = some (.slice ba (layAt Ls i).bs.length bc) ∧
      RdW B W wa (layAt Ls i).ws ∧ Rd B W ba (layAt Ls i).bs := by
  rcases h with h | ⟨b, o, h1, h2, h3⟩
  · subst h; simp at hi
  · exact ⟨b, o, h1, h2, h3 i hi⟩

/-- What is read later. -/
theorem later_i {W W' : World} {a : Option Addr} {xs : List Int} (h : Rd W.heap.size W a xs) (hb : Below W.heap.size W W') : Rd W'.heap.size W' a xs := (h.below (Nat.le_refl _) hb).mono hb.size
theorem later_w {W W' : World} {a : Option Addr} {xs : List (List Int)} (h : RdW W.heap.size W a xs) (hb : Below W.heap.size W W') : RdW W'.heap.size W' a xs := (h.below (Nat.le_refl _) hb).mono hb.size
theorem later_l {W W' : World} {a : Option Addr} {xs : List LayN} (h : RdLs W.heap.size W a xs) (hb : Below W.heap.size W W') : RdLs W'.heap.size W' a xs := (h.below (Nat.le_refl _) hb).mono hb.size

/-- A network's value. -/
abbrev netv (N : NetN) (a : Option Addr) (n c : Nat) : Value := .agg #[.int .i64 N.w, .int .i64 N.h, .int .i64 N.gx, .int .i64 N.gy, .slice a n c, .int .i64 N.low, .int .i64 N.high]
/-- No slice of a network is longer than any can be. -/
structure NetSz (N : NetN) : Prop where
  n : N.Ls.length ≤ 9223372036854775807
  ly : ∀ i, (layAt N.Ls i).ws.length ≤ 9223372036854775807 ∧ (layAt N.Ls i).bs.length ≤ 9223372036854775807
  row : ∀ i k : Nat, ((layAt N.Ls i).ws[k]?.getD []).length ≤ 9223372036854775807

theorem jw1 (lo hi x : Int) (v : Bool) (hv : nIn lo hi x = v) (b o c : Nat) (w : World) (h : w.cell? ⟨b, o, none⟩ = some (.int .i64 x)) :
    Calls Tryz.prog 48 #[.int .i64 lo, .int .i64 hi, .slice (some ⟨b, o, none⟩) 1 c] w fun e w' => e = .returned (.bool v) ∧ w = w' := by
  subst hv
  have h' := jwithin_any lo hi (some ⟨b, o, none⟩) c [x] w (by simp) (.inr ⟨b, o, rfl, World.block_lt_of_cell? w _ h, fun i hi => by
    have : i = 0 := by simp at hi; omega
    subst this; exact h⟩)
  simpa [allIn, nIn] using h'
theorem jw2 (lo hi x y : Int) (v : Bool) (hv : (nIn lo hi x && nIn lo hi y) = v) (b o c : Nat) (w : World) (h : w.cell? ⟨b, o, none⟩ = some (.int .i64 x)) (h1 : w.cell? ⟨b, o + 1, none⟩ = some (.int .i64 y)) :
    Calls Tryz.prog 48 #[.int .i64 lo, .int .i64 hi, .slice (some ⟨b, o, none⟩) 2 c] w fun e w' => e = .returned (.bool v) ∧ w = w' := by
  subst hv
  have h' := jwithin_any lo hi (some ⟨b, o, none⟩) c [x, y] w (by simp) (.inr ⟨b, o, rfl, World.block_lt_of_cell? w _ h, fun i hi => by
    have : i = 0 ∨ i = 1 := by simp at hi; omega
    rcases this with rfl | rfl
    · exact h
    · exact h1⟩)
  simpa [allIn, nIn] using h'
theorem jwn (lo hi : Int) (v : Bool) (xs : List Int) (hv : allIn lo hi xs = v) (a : Option Addr) (c n : Nat) (hn : xs.length = n) (hl : n ≤ 9223372036854775807) (w : World) (hr : Rd w.heap.size w a xs) :
    Calls Tryz.prog 48 #[.int .i64 lo, .int .i64 hi, .slice a n c] w fun e w' => e = .returned (.bool v) ∧ w = w' := by
  subst hv
  subst hn
  exact jwithin_any lo hi a c xs w hl hr

end Go.Proofs.YtbfigbpjoaccdaaGreat

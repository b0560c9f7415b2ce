/- Verdicts of inspectors, their weights, round by round; what exchanging labels, inspectors and parts does to them. Plain: no program in sight. -/
import Derived.Lib.Hide
namespace Go.Proofs.Ytbfigbpjoaccdaa
set_option linter.unusedVariables false
set_option linter.unusedSimpArgs false

def sumJ (f : Nat → Int) : Nat → Int
  | 0 => 0
  | n + 1 => sumJ f n + f n
theorem sumJ_congr {f g : Nat → Int} : ∀ {n : Nat}, (∀ i, i < n → f i = g i) → sumJ f n = sumJ g n
  | 0, _ => rfl
  | n + 1, h => by simp only [sumJ]; rw [sumJ_congr fun i hi => h i (by omega), h n (by omega)]
theorem sumJ_bd {f : Nat → Int} {B : Int} : ∀ {n : Nat}, (∀ i, i < n → -B ≤ f i ∧ f i ≤ B) → -(B * n) ≤ sumJ f n ∧ sumJ f n ≤ B * n
  | 0, _ => by simp [sumJ]
  | n + 1, h => by
    have ih := sumJ_bd (n := n) fun i hi => h i (by omega)
    have h2 := h n (by omega)
    have e : B * ((n + 1 : Nat) : Int) = B * n + B := by rw [Int.natCast_succ, Int.mul_add, Int.mul_one]
    rw [e]
    simp only [sumJ]
    omega
theorem sumJ_head (f : Nat → Int) : ∀ n, sumJ f (n + 1) = f 0 + sumJ (fun i => f (i + 1)) n
  | 0 => by simp [sumJ]
  | n + 1 => by
    rw [sumJ, sumJ_head f n]
    simp only [sumJ]
    omega
theorem sumJ_rev : ∀ (n : Nat) (f : Nat → Int), sumJ (fun i => f (n - 1 - i)) n = sumJ f n
  | 0, f => rfl
  | n + 1, f => by
    rw [sumJ_head]
    have h : sumJ (fun i => f (n + 1 - 1 - (i + 1))) n = sumJ (fun i => f (n - 1 - i)) n := sumJ_congr fun i hi => by congr 1; omega
    rw [h, sumJ_rev n f]
    simp only [sumJ]
    rw [show n + 1 - 1 - 0 = n by omega]
    omega
/-- A sum without two of its terms. -/
theorem sumJ_two (f : Nat → Int) {a b : Nat} (hab : a ≠ b) : ∀ n, sumJ f n = sumJ (fun k => if k = a ∨ k = b then 0 else f k) n + (if a < n then f a else 0) + (if b < n then f b else 0)
  | 0 => by simp [sumJ]
  | n + 1 => by
    simp only [sumJ]
    rw [sumJ_two f hab n]
    have lt1 : ∀ c : Nat, c ≠ n → (if c < n + 1 then f c else 0) = (if c < n then f c else 0) := fun c hc => by
      by_cases h : c < n
      · rw [if_pos h, if_pos (show c < n + 1 by omega)]
      · rw [if_neg h, if_neg (show ¬ c < n + 1 by omega)]
    have eqn : (if n < n then f n else 0) = 0 := if_neg (by omega)
    have eqn1 : (if n < n + 1 then f n else 0) = f n := if_pos (by omega)
    by_cases ha : a = n
    · subst ha
      have e0 : (if a = a ∨ a = b then 0 else f a) = 0 := if_pos (.inl rfl)
      rw [e0, eqn, eqn1, lt1 b (fun h => hab h.symm)]
      omega
    · by_cases hb : b = n
      · subst hb
        have e0 : (if b = a ∨ b = b then 0 else f b) = 0 := if_pos (.inr rfl)
        rw [e0, eqn, eqn1, lt1 a ha]
        omega
      · have e0 : (if n = a ∨ n = b then 0 else f n) = f n := if_neg (fun h => h.elim (fun e => ha e.symm) (fun e => hb e.symm))
        rw [e0, lt1 a ha, lt1 b hb]
        omega
/-- Two places exchanged. -/
def exch (a b k : Nat) : Nat := if k = a then b else if k = b then a else k
theorem exch_exch (a b k : Nat) : exch a b (exch a b k) = k := by
  unfold exch
  by_cases h1 : k = a
  · subst h1
    by_cases h2 : b = k
    · simp [h2]
    · simp [h2]
  · by_cases h2 : k = b
    · subst h2; simp [h1]
    · simp [h1, h2]
theorem exch_lt {a b k n : Nat} (ha : a < n) (hb : b < n) (hk : k < n) : exch a b k < n := by unfold exch; split <;> (try split) <;> omega
theorem sumJ_exch (f : Nat → Int) {a b n : Nat} (ha : a < n) (hb : b < n) : sumJ (fun k => f (exch a b k)) n = sumJ f n := by
  by_cases hab : a = b
  · subst hab
    refine sumJ_congr fun k _ => ?_
    unfold exch
    by_cases h : k = a
    · subst h; simp
    · simp [h]
  · rw [sumJ_two f hab n, sumJ_two (fun k => f (exch a b k)) hab n, if_pos ha, if_pos hb, if_pos ha, if_pos hb]
    have e1 : f (exch a b a) = f b := by simp [exch]
    have e2 : f (exch a b b) = f a := by
      unfold exch
      by_cases h : b = a
      · exact absurd h.symm hab
      · simp [h]
    have e3 : sumJ (fun k => if k = a ∨ k = b then 0 else f (exch a b k)) n = sumJ (fun k => if k = a ∨ k = b then 0 else f k) n := sumJ_congr fun k _ => by
      by_cases h : k = a ∨ k = b
      · rw [if_pos h, if_pos h]
      · rw [if_neg h, if_neg h]
        have h1 : k ≠ a := fun e => h (.inl e)
        have h2 : k ≠ b := fun e => h (.inr e)
        simp [exch, h1, h2]
    rw [e3, e1, e2]
    omega

/-! ### Votes and weights. 'lab i k' is what inspector i said of part k: nothing (0), Pass (1), Fail (2) -/

def sumW (lab : Nat → Nat → Nat) (w : Nat → Int) (v k J : Nat) : Int := sumJ (fun i => if lab i k = v then w i else 0) J
def verd (y n : Int) : Nat := if n < y then 1 else if y < n then 2 else 3
def voteF (lab : Nat → Nat → Nat) (w : Nat → Int) (J k : Nat) : Nat := verd (sumW lab w 1 k J) (sumW lab w 2 k J)
/-- What one part adds to an inspector's weight, by the verdict and the label. -/
def scoreJ (v l : Nat) : Int := if v = 3 ∨ l = 0 then 0 else if l = v then 1 else -1
def netJ (lab : Nat → Nat → Nat) (v : Nat → Nat) (i K : Nat) : Int := sumJ (fun k => scoreJ (v k) (lab i k)) K
def weighF (lab : Nat → Nat → Nat) (v : Nat → Nat) (K i : Nat) : Int := max (netJ lab v i K) 0

def voteL (lab : Nat → Nat → Nat) (J K : Nat) (ws : List Int) : List Nat := (List.range K).map (voteF lab (fun i => ws[i]?.getD 0) J)
def weighL (lab : Nat → Nat → Nat) (J K : Nat) (vs : List Nat) : List Int := (List.range J).map (weighF lab (fun k => vs[k]?.getD 0) K)
/-- So many more rounds, from verdicts and weights on. -/
def reconL (lab : Nat → Nat → Nat) (J K : Nat) : Nat → List Nat → List Int → List Nat × List Int
  | 0, vs, ws => (vs, ws)
  | r + 1, vs, _ => if voteL lab J K (weighL lab J K vs) = vs then (vs, weighL lab J K vs) else reconL lab J K r (voteL lab J K (weighL lab J K vs)) (weighL lab J K vs)
def reconS (lab : Nat → Nat → Nat) (J K : Nat) : List Nat × List Int := reconL lab J K 10 (voteL lab J K (List.replicate J 1)) (List.replicate J 1)

variable {lab : Nat → Nat → Nat} {J K : Nat}

theorem voteL_length (ws : List Int) : (voteL lab J K ws).length = K := by simp [voteL]
theorem weighL_length (vs : List Nat) : (weighL lab J K vs).length = J := by simp [weighL]
theorem verd_mem (y n : Int) : verd y n = 1 ∨ verd y n = 2 ∨ verd y n = 3 := by unfold verd; split <;> (try split) <;> omega
theorem verd_one (y n : Int) : verd y n = 1 ↔ n < y := by unfold verd; split <;> (try split) <;> omega
theorem verd_two (y n : Int) : verd y n = 2 ↔ y < n := by unfold verd; split <;> (try split) <;> omega
theorem scoreJ_bd (v l : Nat) : -1 ≤ scoreJ v l ∧ scoreJ v l ≤ 1 := by unfold scoreJ; split <;> (try split) <;> omega
theorem weighF_bd (v : Nat → Nat) (i : Nat) : 0 ≤ weighF lab v K i ∧ weighF lab v K i ≤ K := by
  have := sumJ_bd (f := fun k => scoreJ (v k) (lab i k)) (B := 1) (n := K) fun k _ => scoreJ_bd _ _
  unfold weighF netJ
  omega
/-- The verdicts are those of the vote with the weights. -/
theorem reconL_vote : ∀ (r : Nat) (vs : List Nat) (ws : List Int), vs = voteL lab J K ws → (reconL lab J K r vs ws).1 = voteL lab J K (reconL lab J K r vs ws).2
  | 0, vs, ws, h => h
  | r + 1, vs, ws, h => by
    rw [reconL]
    split
    · rename_i he; exact he.symm
    · exact reconL_vote r _ _ rfl
theorem reconS_vote : (reconS lab J K).1 = voteL lab J K (reconS lab J K).2 := reconL_vote _ _ _ rfl
theorem reconL_len : ∀ (r : Nat) (vs : List Nat) (ws : List Int), vs.length = K → ws.length = J → (reconL lab J K r vs ws).1.length = K ∧ (reconL lab J K r vs ws).2.length = J
  | 0, vs, ws, h1, h2 => ⟨h1, h2⟩
  | r + 1, vs, ws, h1, h2 => by
    rw [reconL]
    split
    · exact ⟨h1, weighL_length _⟩
    · exact reconL_len r _ _ (voteL_length _) (weighL_length _)
theorem reconS_len : (reconS lab J K).1.length = K ∧ (reconS lab J K).2.length = J := reconL_len _ _ _ (voteL_length _) (by simp)
theorem reconL_pos : ∀ (r : Nat) (vs : List Nat) (ws : List Int), (∀ x ∈ ws, 0 ≤ x ∧ x ≤ 100) → K ≤ 100 → ∀ x ∈ (reconL lab J K r vs ws).2, 0 ≤ x ∧ x ≤ 100
  | 0, vs, ws, h, _ => h
  | r + 1, vs, ws, h, hK => by
    have hw : ∀ x ∈ weighL lab J K vs, 0 ≤ x ∧ x ≤ 100 := fun x hx => by
      unfold weighL at hx
      rw [List.mem_map] at hx
      obtain ⟨i, _, rfl⟩ := hx
      have := weighF_bd (lab := lab) (K := K) (fun k => vs[k]?.getD 0) i
      omega
    rw [reconL]
    split
    · exact hw
    · exact reconL_pos r _ _ hw hK
theorem reconS_pos (hK : K ≤ 100) : ∀ x ∈ (reconS lab J K).2, 0 ≤ x ∧ x ≤ 100 := reconL_pos _ _ _ (fun x hx => by rw [List.eq_of_mem_replicate hx]; omega) hK

theorem getD_map_range {α : Type} (f : Nat → α) (d : α) {n k : Nat} (h : k < n) : ((List.range n).map f)[k]?.getD d = f k := by
  rw [List.getElem?_map, List.getElem?_range h]; rfl

/-! ### Pass and Fail exchanged -/

def swapL (l : Nat) : Nat := if l = 1 then 2 else if l = 2 then 1 else l
theorem swapL_swapL (l : Nat) : swapL (swapL l) = l := by
  unfold swapL
  by_cases h1 : l = 1
  · simp [h1]
  · by_cases h2 : l = 2
    · simp [h2]
    · simp [h1, h2]
theorem swapL_iff (l v : Nat) : swapL l = v ↔ l = swapL v := ⟨fun h => by rw [← h, swapL_swapL], fun h => by rw [h, swapL_swapL]⟩
theorem sumW_swap (w : Nat → Int) (v k J : Nat) : sumW (fun i k => swapL (lab i k)) w v k J = sumW lab w (swapL v) k J := by
  unfold sumW
  refine sumJ_congr fun i _ => ?_
  by_cases h : swapL (lab i k) = v
  · rw [if_pos h, if_pos ((swapL_iff _ _).1 h)]
  · rw [if_neg h, if_neg fun h2 => h ((swapL_iff _ _).2 h2)]
theorem verd_swap (y n : Int) : verd n y = swapL (verd y n) := by
  unfold verd swapL
  by_cases h1 : n < y
  · have h2 : ¬ y < n := by omega
    simp [h1, h2]
  · by_cases h2 : y < n
    · simp [h1, h2]
    · simp [h1, h2]
theorem voteF_swap (w : Nat → Int) (k : Nat) : voteF (fun i k => swapL (lab i k)) w J k = swapL (voteF lab w J k) := by
  unfold voteF
  rw [sumW_swap, sumW_swap, ← verd_swap]
  rfl
theorem scoreJ_swap (v l : Nat) : scoreJ (swapL v) (swapL l) = scoreJ v l := by
  have h3 : swapL v = 3 ↔ v = 3 := by rw [swapL_iff]; rfl
  have h0 : swapL l = 0 ↔ l = 0 := by rw [swapL_iff]; rfl
  have he : swapL l = swapL v ↔ l = v := by rw [swapL_iff, swapL_swapL]
  simp only [scoreJ, h3, h0, he]
theorem voteL_swap (ws : List Int) : voteL (fun i k => swapL (lab i k)) J K ws = (voteL lab J K ws).map swapL := by
  unfold voteL
  rw [List.map_map]
  exact List.map_congr_left fun k _ => voteF_swap _ k
theorem weighL_swap {vs : List Nat} (hv : vs.length = K) : weighL (fun i k => swapL (lab i k)) J K (vs.map swapL) = weighL lab J K vs := by
  unfold weighL
  refine List.map_congr_left fun i _ => ?_
  unfold weighF netJ
  congr 1
  refine sumJ_congr fun k hk => ?_
  show scoreJ ((List.map swapL vs)[k]?.getD 0) (swapL (lab i k)) = scoreJ (vs[k]?.getD 0) (lab i k)
  rw [List.getElem?_map, List.getElem?_eq_getElem (by omega)]
  exact scoreJ_swap _ _
theorem map_swap_inj {a b : List Nat} : a.map swapL = b.map swapL ↔ a = b := by
  constructor
  · intro h
    have := congrArg (List.map swapL) h
    rw [List.map_map, List.map_map] at this
    simpa [Function.comp_def, swapL_swapL] using this
  · intro h; rw [h]
theorem reconL_swap : ∀ (r : Nat) (vs : List Nat) (ws : List Int), vs.length = K → reconL (fun i k => swapL (lab i k)) J K r (vs.map swapL) ws = ((reconL lab J K r vs ws).1.map swapL, (reconL lab J K r vs ws).2)
  | 0, vs, ws, _ => rfl
  | r + 1, vs, ws, hv => by
    rw [reconL, reconL, weighL_swap hv, voteL_swap]
    simp only [map_swap_inj]
    split
    · rfl
    · exact reconL_swap r _ _ (voteL_length _)
theorem reconS_swap : reconS (fun i k => swapL (lab i k)) J K = ((reconS lab J K).1.map swapL, (reconS lab J K).2) := by
  unfold reconS
  rw [voteL_swap, reconL_swap _ _ _ (voteL_length _)]

/-! ### The inspectors in the other order -/

theorem voteL_turn (ws : List Int) (hw : ws.length = J) : voteL (fun i k => lab (J - 1 - i) k) J K ws.reverse = voteL lab J K ws := by
  unfold voteL
  refine List.map_congr_left fun k _ => ?_
  unfold voteF sumW
  have key : ∀ v, sumJ (fun i => if lab (J - 1 - i) k = v then ws.reverse[i]?.getD 0 else 0) J = sumJ (fun i => if lab i k = v then ws[i]?.getD 0 else 0) J := fun v => by
    rw [← sumJ_rev J (fun i => if lab i k = v then ws[i]?.getD 0 else 0)]
    refine sumJ_congr fun i hi => ?_
    rw [List.getElem?_reverse (by omega), hw]
  rw [key, key]
theorem weighL_turn (vs : List Nat) : weighL (fun i k => lab (J - 1 - i) k) J K vs = (weighL lab J K vs).reverse := by
  refine List.ext_getElem? fun i => ?_
  by_cases hi : i < J
  · rw [List.getElem?_reverse (by rw [weighL_length]; exact hi), weighL_length]
    unfold weighL
    rw [List.getElem?_map, List.getElem?_range hi, List.getElem?_map, List.getElem?_range (by omega)]
    rfl
  · rw [List.getElem?_eq_none (by rw [weighL_length]; omega), List.getElem?_eq_none (by rw [List.length_reverse, weighL_length]; omega)]
theorem reconL_turn : ∀ (r : Nat) (vs : List Nat) (ws : List Int), ws.length = J → reconL (fun i k => lab (J - 1 - i) k) J K r vs ws.reverse = ((reconL lab J K r vs ws).1, (reconL lab J K r vs ws).2.reverse)
  | 0, vs, ws, _ => rfl
  | r + 1, vs, ws, hw => by
    rw [reconL, reconL, weighL_turn, voteL_turn _ (weighL_length _)]
    split
    · rfl
    · exact reconL_turn r _ _ (weighL_length _)
theorem reconS_turn : reconS (fun i k => lab (J - 1 - i) k) J K = ((reconS lab J K).1, (reconS lab J K).2.reverse) := by
  unfold reconS
  have h := reconL_turn (lab := lab) (J := J) (K := K) 10 (voteL lab J K (List.replicate J 1)) (List.replicate J 1) (by simp)
  rw [List.reverse_replicate] at h
  rw [← h]
  have h2 := voteL_turn (lab := lab) (K := K) (List.replicate J 1) (by simp : (List.replicate J (1 : Int)).length = J)
  rw [List.reverse_replicate] at h2
  rw [h2]

/-! ### Two parts exchanged -/

def exchL (a b : Nat) (vs : List Nat) : List Nat := (List.range vs.length).map fun k => vs[exch a b k]?.getD 0
theorem voteL_exch {a b : Nat} (ha : a < K) (hb : b < K) (ws : List Int) : voteL (fun i k => lab i (exch a b k)) J K ws = exchL a b (voteL lab J K ws) := by
  unfold exchL
  rw [voteL_length]
  conv => lhs; unfold voteL
  refine List.map_congr_left fun k hk => ?_
  rw [List.mem_range] at hk
  unfold voteL
  rw [getD_map_range _ _ (exch_lt ha hb hk)]
  rfl
theorem weighL_exch {a b : Nat} (ha : a < K) (hb : b < K) {vs : List Nat} (hv : vs.length = K) : weighL (fun i k => lab i (exch a b k)) J K (exchL a b vs) = weighL lab J K vs := by
  unfold weighL
  refine List.map_congr_left fun i _ => ?_
  unfold weighF netJ
  congr 1
  rw [← sumJ_exch (fun k => scoreJ (vs[k]?.getD 0) (lab i k)) ha hb]
  refine sumJ_congr fun k hk => ?_
  show scoreJ ((exchL a b vs)[k]?.getD 0) (lab i (exch a b k)) = scoreJ (vs[exch a b k]?.getD 0) (lab i (exch a b k))
  unfold exchL
  rw [hv, getD_map_range _ _ hk]
theorem exchL_length (a b : Nat) (vs : List Nat) : (exchL a b vs).length = vs.length := by simp [exchL]
theorem exchL_exchL {a b : Nat} {vs : List Nat} (ha : a < vs.length) (hb : b < vs.length) : exchL a b (exchL a b vs) = vs := by
  refine List.ext_getElem (by simp [exchL]) fun k h1 h2 => ?_
  simp only [exchL, List.getElem_map, List.getElem_range, List.length_map, List.length_range]
  rw [getD_map_range _ _ (exch_lt ha hb h2), exch_exch, List.getElem?_eq_getElem h2]
  rfl
theorem exchL_inj {a b : Nat} {vs us : List Nat} (h : vs.length = us.length) (ha : a < vs.length) (hb : b < vs.length) : exchL a b vs = exchL a b us ↔ vs = us := by
  constructor
  · intro he
    rw [← exchL_exchL ha hb, he, exchL_exchL (by omega) (by omega)]
  · intro he; rw [he]
theorem reconL_exch {a b : Nat} (ha : a < K) (hb : b < K) : ∀ (r : Nat) (vs : List Nat) (ws : List Int), vs.length = K → reconL (fun i k => lab i (exch a b k)) J K r (exchL a b vs) ws = (exchL a b (reconL lab J K r vs ws).1, (reconL lab J K r vs ws).2)
  | 0, vs, ws, _ => rfl
  | r + 1, vs, ws, hv => by
    rw [reconL, reconL, weighL_exch ha hb hv, voteL_exch ha hb]
    have e := exchL_inj (a := a) (b := b) (vs := voteL lab J K (weighL lab J K vs)) (us := vs) (by rw [voteL_length, hv]) (by rw [voteL_length]; exact ha) (by rw [voteL_length]; exact hb)
    simp only [e]
    split
    · rfl
    · exact reconL_exch ha hb r _ _ (voteL_length _)
theorem reconS_exch {a b : Nat} (ha : a < K) (hb : b < K) : reconS (fun i k => lab i (exch a b k)) J K = (exchL a b (reconS lab J K).1, (reconS lab J K).2) := by
  unfold reconS
  rw [voteL_exch ha hb, reconL_exch ha hb _ _ _ (voteL_length _)]

end Go.Proofs.Ytbfigbpjoaccdaa

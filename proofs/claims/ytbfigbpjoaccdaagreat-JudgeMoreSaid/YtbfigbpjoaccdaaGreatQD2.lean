/- Contracts and laws (Opn, Jury, Net, NetB, ND). -/
import Derived.Test.YtbfigbpjoaccdaaGreatRows
import Derived.Deep.Matrix
import Derived.ProofKit
import Derived.OpenShut
import Derived.SizedLaws
import Derived.Lib.SmallJoins
import Derived.ChangeSlices
import Derived.Carry
import Derived.JoinedCond
import Derived.Lib.Hide
import Derived.Test.YtbfigbpjoaccdaaGreatQD1
namespace Go.Proofs.YtbfigbpjoaccdaaGreat
open Go Go.ChangeShapes Go.WideShapes Go.ChangeAt Go.RowKit Go.Joins Go.Deep
set_option linter.unusedVariables false
set_option linter.unusedSimpArgs false
set_option maxRecDepth 100000

theorem tryOwn : ownKnob Tryz.prog.godebug = none := by kernel_rfl
theorem tryLaid : laidOutB Tryz.prog = true := by kernel_rfl

section
variable {H : Type} {enc : TypeId × Value → H}

theorem args_stay {W W' : World} {sp : Nat → Bool} (hb : Below W.heap.size W W') : ∀ {ts : List TypeId} {vs : List Value} {ds : List (DataW H)} {ps : List MemPlace},
    (ts.all fun t => Tryz.prog.readableRec t && decide (t < Tryz.prog.types.size)) = true → DataW.TrodAll enc Tryz.prog W 0 (fun _ => true) true ts vs ds ps → (∀ p ∈ ps, p.block < W.heap.size) → (∀ p ∈ ps, sp p.block = true) →
      DataW.TrodAll enc Tryz.prog W' 0 sp true ts vs ds ps := by
  intro ts
  induction ts with
  | nil =>
    intro vs ds ps _ h _ _
    obtain ⟨rfl, rfl, rfl⟩ := trodAll_nil h
    exact trodAll_mk0
  | cons t ts ih =>
    intro vs ds ps ht h hlt hsp
    obtain ⟨v, vs', d, ds', p, q, rfl, rfl, rfl, h0, h1⟩ := trodAll_cons h
    rw [List.all_cons, Bool.and_eq_true, Bool.and_eq_true, decide_eq_true_eq] at ht
    refine trodAll_cons_mk (WideElems.Trod_stays tryLaid ht.1.1 ht.1.2 h0 (fun x hx => hb.same (hlt x (List.mem_append_left _ hx))) (fun x hx => hsp x (List.mem_append_left _ hx))) ?_
    exact ih ht.2 h1 (fun x hx => hlt x (List.mem_append_right _ hx)) (fun x hx => hsp x (List.mem_append_right _ hx))

theorem wt_at {P : Program} {ts : List TypeId} {ds : List (DataW H)} (h : (DataW.weightsEach P ts ds).all (· ≤ reachBytes) = true) {j : Nat} {t : TypeId} {d : DataW H} (ht : ts[j]? = some t) (hd : ds[j]? = some d) :
    ∀ n ∈ d.weights P t, n ≤ reachBytes := fun n hn => by
  have := List.all_eq_true.1 h n (DataW.weights_mem_each ht hd n hn)
  simpa using this

/-- A slice of ints in a field. -/
theorem open_row {W : World} {fuel : Nat} {v : Value} {y : DataW H × List MemPlace} (h : DataW.trod enc Tryz.prog W 0 (fun _ => true) true fuel 25 [v] = some y) (hwt : ∀ n ∈ y.1.weights Tryz.prog 25, n ≤ reachBytes) :
    ∃ (a : Option Addr) (n c : Nat) (xs : List Int), v = .slice a n c ∧ Hid (xs.length = n) ∧ Rd W.heap.size W a xs ∧ Hid (a = none → n = 0 ∧ c = 0) ∧ n * 8 ≤ 140737488355328 ∧ (∀ x ∈ xs, (Lit.int .i64 x).wf = true) := by
  rcases open_ints Tryz.underlying25 Tryz.underlying3 (by kernel_rfl) h with ⟨h1, h2⟩ | ⟨a, len, cap, zs, h1, _, hl, hm, hz, hx, hc, hwf⟩
  · obtain rfl : v = .slice none 0 0 := by simpa using h1
    exact ⟨none, 0, 0, [], rfl, Lib.hid rfl, .inl rfl, Lib.hid fun _ => ⟨rfl, rfl⟩, by decide, by simp⟩
  · obtain rfl : v = .slice (some a) len cap := by simpa using h1
    simp only [if_true] at hz
    refine ⟨some a, len, cap, zs.take len, rfl, Lib.hid (by simp; omega), ?_, Lib.hid (by simp), ?_, fun x hx => hwf x (List.mem_of_mem_take hx)⟩
    · by_cases h0 : 0 < zs.length
      · obtain ⟨b, off, rfl, hcb⟩ := ints_at hc h0
        refine .inr ⟨b, off, rfl, World.block_lt_of_cell? W _ (hcb 0 h0), fun i hi => ?_⟩
        simp only [List.length_take] at hi
        rw [hcb i (by omega)]
        simp only [List.getElem?_take, List.getD]
        rw [if_pos (by omega)]
      · left
        simp; omega
    · subst hx
      have := hwt ((lits (H := H) .i64 (zs.take len)).length * 8 + (lits (H := H) .i64 (zs.drop len)).length * 8) (by
        simp only [DataW.weights, Tryz.underlying25]
        rw [show Tryz.prog.bytesOf 3 = 8 from by kernel_rfl, Nat.add_mul]
        exact List.mem_cons_self)
      simp only [lits, List.length_map, List.length_take] at this
      unfold reachBytes at this
      omega

/-- An image. -/
theorem open_im {W : World} {base : Nat} {v : Value} {d : DataW H} {p : List MemPlace} (hv : Value.okWide Tryz.prog W .any base 27 v) (h : DataW.Trod enc Tryz.prog W 0 (fun _ => true) true 27 v d p)
    (hwt : ∀ n ∈ d.weights Tryz.prog 27, n ≤ reachBytes) :
    ∃ (iw ih : Int) (a : Option Addr) (n c : Nat) (xs : List Int), v = imv iw ih a n c ∧ Hid (xs.length = n) ∧ Rd W.heap.size W a xs ∧ Hid (a = none → n = 0 ∧ c = 0) ∧ n * 8 ≤ 140737488355328 ∧ (∀ x ∈ xs, (Lit.int .i64 x).wf = true) ∧
      (Lit.int .i64 iw).wf = true ∧ (Lit.int .i64 ih).wf = true := by
  obtain ⟨v0, v1, v2, y0, y1, y2, n, rfl, rfl, rfl, h0, h1, h2⟩ := open_agg3 Tryz.underlying27 (by kernel_rfl) (by kernel_rfl) hv h
  obtain ⟨iw, e0, _, w0⟩ := DataW.trod_int Tryz.underlying3 h0
  obtain ⟨ih, e1, _, w1⟩ := DataW.trod_int Tryz.underlying3 h1
  obtain rfl : v0 = .int .i64 iw := by simpa using e0
  obtain rfl : v1 = .int .i64 ih := by simpa using e1
  obtain ⟨a, m, c, xs, rfl, r⟩ := open_row h2 (fun n hn => hwt n (by
    simp only [DataW.weights, Tryz.underlying27]
    exact DataW.weights_mem_each (j := 2) rfl rfl n hn))
  exact ⟨iw, ih, a, m, c, xs, rfl, r.1, r.2.1, r.2.2.1, r.2.2.2.1, r.2.2.2.2, w0, w1⟩

theorem field_int {W : World} {fuel : Nat} {v : Value} {y : DataW H × List MemPlace} (h : DataW.trod enc Tryz.prog W 0 (fun _ => true) true fuel 3 [v] = some y) : ∃ n, v = .int .i64 n ∧ (Lit.int .i64 n).wf = true := by
  obtain ⟨n, e, _, w⟩ := DataW.trod_int Tryz.underlying3 h
  exact ⟨n, by simpa using e, w⟩


theorem trod_of {W : World} {t : TypeId} {a : Option Addr} {l c : Nat} {d : DataW H} {p : List MemPlace} (h : DataW.Trod enc Tryz.prog W 0 (fun _ => true) true t (.slice a l c) d p) : ∃ fuel, DataW.trod enc Tryz.prog W 0 (fun _ => true) true fuel t [.slice a l c] = some (d, p) := h

theorem bytes_of (zs : List Int) (h : ∀ z ∈ zs, (Lit.int .u8 z).wf = true) {i : Nat} (hi : i < zs.length) : ((((zs.map Int.toNat)[i]?.getD 0 : Nat) : Int)) = zs.getD i 0 := by
  have h1 := h _ (List.getElem_mem hi)
  have h2 : 0 ≤ zs[i] ∧ zs[i] ≤ 255 := by simpa [Lit.wf, IntKind.min, IntKind.max, IntKind.signed, IntKind.bits] using h1
  rw [List.getElem?_map, List.getElem?_eq_getElem hi, List.getD_eq_getElem?_getD, List.getElem?_eq_getElem hi]
  simp only [Option.map_some, Option.getD_some]
  omega

/-- The row's end, where the law has returned true and nothing that lay has turned. -/
theorem post_true {f : Func} {s : ChangeSpec} {W W' : World} {args : Array Value} {ds gs : List (DataW H)} {before : List MemPlace} (hvars : s.vars = [])
    (hargs : (f.params.toList.all fun t => Tryz.prog.readableRec t && decide (t < Tryz.prog.types.size)) = true) (hres : f.resultTypes = #[4])
    (hW : DataW.Whole enc Tryz.prog f.params.toList s.vars false W args.toList ds gs before) (hfn : (s.fn H ds).results = [.lit (.bool true)] ∧ (s.fn H ds).args = ds ∧ (s.fn H ds).vars = []) (hb : Below W.heap.size W W') :
    s.post enc Tryz.prog f false true false false W args (.bool true) W' := by
  have hlt := hW.lt
  have hW' := hW
  obtain ⟨p, q, hA, hV, rfl, hfz, hnd⟩ := hW'
  rw [hvars] at hV
  obtain ⟨rfl, rfl⟩ := trodVars_none hV
  have hP : ∀ sp : Nat → Bool, (∀ x ∈ p, sp x.block = true) → DataW.TrodAll enc Tryz.prog W' 0 sp true f.params.toList args.toList (s.fn H (ds ++ [])).args p := fun sp hsp => by
    rw [List.append_nil, hfn.2.1]
    exact args_stay hb hargs hA (fun x hx => hlt x (by simp [hx])) hsp
  have hR : ∀ (b : Nat) (sp : Nat → Bool) (hd : Bool), DataW.TrodAll enc Tryz.prog W' b sp hd f.resultTypes.toList ((Value.bool true).resultList f.resultTypes.size) (s.fn H (ds ++ [])).results [] := fun _ _ _ => by
    rw [hres, List.append_nil, hfn.1]
    exact trodAll_cons_mk (shut_bool Tryz.underlying4 _) trodAll_mk0
  have hU : ∀ sp : Nat → Bool, DataW.TrodVars enc Tryz.prog W' sp s.vars (s.fn H (ds ++ [])).vars [] := fun _ => by
    rw [List.append_nil, hvars, hfn.2.2]
    rfl
  refine ⟨ds, [], p ++ [], [], p, [], hW, hR _ _ _, hP _ (fun x hx => by simpa using hlt x (by simp [hx])), hU _, World.keptBut_mono (fun x hx => ⟨hx, .inr (by simpa using hx)⟩) (hb.frame (· ∈ p ++ [])), fun _ => ?_⟩
  refine ⟨ok_one hres rfl (okWide_bool_mk Tryz.underlying4 _), _, _, ([] ++ p) ++ [], ⟨[] ++ p, [], trodAll_append (hP _ (fun _ _ => rfl)) (hR _ _ _), hU _, rfl, ?_, ?_⟩, ?_⟩
  · intro b off hp
    rw [hb.frozen (p := ⟨b, off, none⟩) (hlt (.cell b off) (by simpa using hp))]
    exact hfz b off (by simpa using hp)
  · intro ha
    simpa using hnd ha
  · intro x hx _
    simpa using hx
end
end Go.Proofs.YtbfigbpjoaccdaaGreat

namespace Go.Proofs.YtbfigbpjoaccdaaGreat
set_option linter.unusedVariables false
set_option linter.unusedSimpArgs false

def sumJ (f : Nat → Int) : Nat → Int
  | 0 => 0
  | n + 1 => sumJ f n + f n
theorem sumJ_congr {f g : Nat → Int} : ∀ {n : Nat}, (∀ i, i < n → f i = g i) → sumJ f n = sumJ g n
  | 0, _ => rfl
  | n + 1, h => by simp only [sumJ]; rw [sumJ_congr fun i hi => h i (by omega), h n (by omega)]
theorem sumJ_bd {f : Nat → Int} {B : Int} : ∀ {n : Nat}, (∀ i, i < n → -B ≤ f i ∧ f i ≤ B) → -(B * n) ≤ sumJ f n ∧ sumJ f n ≤ B * n
  | 0, _ => by simp [sumJ]
  | n + 1, h => by
    have ih := sumJ_bd (n := n) fun i hi => h i (by omega)
    have h2 := h n (by omega)
    have e : B * ((n + 1 : Nat) : Int) = B * n + B := by rw [Int.natCast_succ, Int.mul_add, Int.mul_one]
    rw [e]
    simp only [sumJ]
    omega
/-! ### Votes and weights. 'lab i k' is what inspector i said of part k: nothing (0), Pass (1), Fail (2) -/

def sumW (lab : Nat → Nat → Nat) (w : Nat → Int) (v k J : Nat) : Int := sumJ (fun i => if lab i k = v then w i else 0) J
def verd (y n : Int) : Nat := if n < y then 1 else if y < n then 2 else 3
def voteF (lab : Nat → Nat → Nat) (w : Nat → Int) (J k : Nat) : Nat := verd (sumW lab w 1 k J) (sumW lab w 2 k J)
/-- What one part adds to an inspector's weight, by the verdict and the label. -/
def scoreJ (v l : Nat) : Int := if v = 3 ∨ l = 0 then 0 else if l = v then 1 else -1
def netJ (lab : Nat → Nat → Nat) (v : Nat → Nat) (i K : Nat) : Int := sumJ (fun k => scoreJ (v k) (lab i k)) K
def weighF (lab : Nat → Nat → Nat) (v : Nat → Nat) (K i : Nat) : Int := max (netJ lab v i K) 0

def voteL (lab : Nat → Nat → Nat) (J K : Nat) (ws : List Int) : List Nat := (List.range K).map (voteF lab (fun i => ws[i]?.getD 0) J)
def weighL (lab : Nat → Nat → Nat) (J K : Nat) (vs : List Nat) : List Int := (List.range J).map (weighF lab (fun k => vs[k]?.getD 0) K)
/-- So many more rounds, from verdicts and weights on. -/
def reconL (lab : Nat → Nat → Nat) (J K : Nat) : Nat → List Nat → List Int → List Nat × List Int
  | 0, vs, ws => (vs, ws)
  | r + 1, vs, _ => if voteL lab J K (weighL lab J K vs) = vs then (vs, weighL lab J K vs) else reconL lab J K r (voteL lab J K (weighL lab J K vs)) (weighL lab J K vs)
def reconS (lab : Nat → Nat → Nat) (J K : Nat) : List Nat × List Int := reconL lab J K 10 (voteL lab J K (List.replicate J 1)) (List.replicate J 1)

variable {lab : Nat → Nat → Nat} {J K : Nat}

theorem verd_mem (y n : Int) : verd y n = 1 ∨ verd y n = 2 ∨ verd y n = 3 := by unfold verd; split <;> (try split) <;> omega
theorem verd_one (y n : Int) : verd y n = 1 ↔ n < y := by unfold verd; split <;> (try split) <;> omega
theorem verd_two (y n : Int) : verd y n = 2 ↔ y < n := by unfold verd; split <;> (try split) <;> omega
theorem scoreJ_bd (v l : Nat) : -1 ≤ scoreJ v l ∧ scoreJ v l ≤ 1 := by unfold scoreJ; split <;> (try split) <;> omega
theorem weighF_bd (v : Nat → Nat) (i : Nat) : 0 ≤ weighF lab v K i ∧ weighF lab v K i ≤ K := by
  have := sumJ_bd (f := fun k => scoreJ (v k) (lab i k)) (B := 1) (n := K) fun k _ => scoreJ_bd _ _
  unfold weighF netJ
  omega
theorem getD_map_range {α : Type} (f : Nat → α) (d : α) {n k : Nat} (h : k < n) : ((List.range n).map f)[k]?.getD d = f k := by
  rw [List.getElem?_map, List.getElem?_range h]; rfl

/-! ### Pass and Fail exchanged -/

/-! ### The inspectors in the other order -/

/-! ### Two parts exchanged -/

end Go.Proofs.YtbfigbpjoaccdaaGreat

namespace Go.Proofs.YtbfigbpjoaccdaaGreat
set_option linter.unusedVariables false
set_option linter.unusedSimpArgs false

/-- A layer: for each of its numbers the weights of those before it, and a bias. -/
structure LayN where
  ws : List (List Int)
  bs : List Int
def wAt (L : LayN) (k j : Nat) : Int := (L.ws[k]?.getD [])[j]?.getD 0
def bAt (L : LayN) (k : Nat) : Int := L.bs[k]?.getD 0
/-- 0 instead of what is below, if asked. -/
def cutI (c : Bool) (s : Int) : Int := if c = true then max s 0 else s
theorem cutI_mono {c : Bool} {a b : Int} (h : a ≤ b) : cutI c a ≤ cutI c b := by unfold cutI; split <;> omega

def layF (L : LayN) (c : Bool) (l : List Int) (k : Nat) : Int := cutI c (bAt L k + sumJ (fun j => wAt L k j * l[j]?.getD 0) l.length)
def layL (L : LayN) (c : Bool) (l : List Int) : List Int := (List.range L.bs.length).map (layF L c l)
def fwdL : List LayN → List Int → List Int
  | [], l => l
  | L :: r, l => fwdL r (layL L (!r.isEmpty) l)
def scoreN (Ls : List LayN) (l : List Int) : Int := (fwdL Ls l)[0]?.getD 0

/-- The terms of a lower, of an upper bound. -/
def loT (w lo hi : Int) : Int := if w < 0 then w * hi else w * lo
def hiT (w lo hi : Int) : Int := if w < 0 then w * lo else w * hi
def loAt (l : List (Int × Int)) (j : Nat) : Int := (l[j]?.getD (0, 0)).1
def hiAt (l : List (Int × Int)) (j : Nat) : Int := (l[j]?.getD (0, 0)).2
def layBF (L : LayN) (c : Bool) (l : List (Int × Int)) (k : Nat) : Int × Int :=
  (cutI c (bAt L k + sumJ (fun j => loT (wAt L k j) (loAt l j) (hiAt l j)) l.length), cutI c (bAt L k + sumJ (fun j => hiT (wAt L k j) (loAt l j) (hiAt l j)) l.length))
def layB (L : LayN) (c : Bool) (l : List (Int × Int)) : List (Int × Int) := (List.range L.bs.length).map (layBF L c l)
def fwdB : List LayN → List (Int × Int) → List (Int × Int)
  | [], l => l
  | L :: r, l => fwdB r (layB L (!r.isEmpty) l)

theorem sumJ_mono {f g : Nat → Int} : ∀ {n : Nat}, (∀ i, i < n → f i ≤ g i) → sumJ f n ≤ sumJ g n
  | 0, _ => Int.le_refl _
  | n + 1, h => by
    have := sumJ_mono (n := n) fun i hi => h i (by omega)
    have := h n (by omega)
    simp only [sumJ]
    omega
theorem loT_le {w lo hi x : Int} (h1 : lo ≤ x) (h2 : x ≤ hi) : loT w lo hi ≤ w * x := by
  unfold loT
  split
  · exact Int.mul_le_mul_of_nonpos_left (by omega) h2
  · exact Int.mul_le_mul_of_nonneg_left h1 (by omega)
theorem le_hiT {w lo hi x : Int} (h1 : lo ≤ x) (h2 : x ≤ hi) : w * x ≤ hiT w lo hi := by
  unfold hiT
  split
  · exact Int.mul_le_mul_of_nonpos_left (by omega) h1
  · exact Int.mul_le_mul_of_nonneg_left h2 (by omega)

/-- Numbers are within bounds; bounds are within bounds. -/
structure InB (l : List (Int × Int)) (x : List Int) : Prop where
  len : l.length = x.length
  bd : ∀ j, j < l.length → loAt l j ≤ x[j]?.getD 0 ∧ x[j]?.getD 0 ≤ hiAt l j
structure SubB (l m : List (Int × Int)) : Prop where
  len : l.length = m.length
  bd : ∀ j, j < l.length → loAt m j ≤ loAt l j ∧ hiAt l j ≤ hiAt m j
  ok : ∀ j, j < l.length → loAt l j ≤ hiAt l j

theorem layB_at {L : LayN} {c : Bool} {l : List (Int × Int)} {k : Nat} (hk : k < L.bs.length) : loAt (layB L c l) k = (layBF L c l k).1 ∧ hiAt (layB L c l) k = (layBF L c l k).2 := by
  unfold loAt hiAt layB
  rw [getD_map_range _ _ hk]
  exact ⟨rfl, rfl⟩
theorem layB_length (L : LayN) (c : Bool) (l : List (Int × Int)) : (layB L c l).length = L.bs.length := by simp [layB]
theorem layL_length (L : LayN) (c : Bool) (l : List Int) : (layL L c l).length = L.bs.length := by simp [layL]
theorem layB_sub {L : LayN} {c : Bool} {l m : List (Int × Int)} (h : SubB l m) : SubB (layB L c l) (layB L c m) where
  len := by rw [layB_length, layB_length]
  bd k hk := by
    rw [layB_length] at hk
    obtain ⟨e1, e2⟩ := layB_at (c := c) (l := l) hk
    obtain ⟨e3, e4⟩ := layB_at (c := c) (l := m) hk
    rw [e1, e2, e3, e4]
    unfold layBF
    rw [← h.len]
    have h1 := sumJ_mono (n := l.length) (f := fun j => loT (wAt L k j) (loAt m j) (hiAt m j)) (g := fun j => loT (wAt L k j) (loAt l j) (hiAt l j)) fun j hj => by
      have := h.bd j hj
      have := h.ok j hj
      show loT _ _ _ ≤ loT _ (loAt l j) (hiAt l j)
      unfold loT
      split
      · exact Int.mul_le_mul_of_nonpos_left (by omega) (by omega)
      · exact Int.mul_le_mul_of_nonneg_left (by omega) (by omega)
    have h2 := sumJ_mono (n := l.length) (f := fun j => hiT (wAt L k j) (loAt l j) (hiAt l j)) (g := fun j => hiT (wAt L k j) (loAt m j) (hiAt m j)) fun j hj => by
      have := h.bd j hj
      have := h.ok j hj
      show hiT _ (loAt l j) (hiAt l j) ≤ hiT _ _ _
      unfold hiT
      split
      · exact Int.mul_le_mul_of_nonpos_left (by omega) (by omega)
      · exact Int.mul_le_mul_of_nonneg_left (by omega) (by omega)
    exact ⟨cutI_mono (by omega), cutI_mono (by omega)⟩
  ok k hk := by
    rw [layB_length] at hk
    obtain ⟨e1, e2⟩ := layB_at (c := c) (l := l) hk
    rw [e1, e2]
    unfold layBF
    have h1 := sumJ_mono (n := l.length) (f := fun j => loT (wAt L k j) (loAt l j) (hiAt l j)) (g := fun j => hiT (wAt L k j) (loAt l j) (hiAt l j)) fun j hj =>
      Int.le_trans (loT_le (x := loAt l j) (Int.le_refl _) (h.ok j hj)) (le_hiT (Int.le_refl _) (h.ok j hj))
    exact cutI_mono (by omega)
theorem fwdB_sub : ∀ (Ls : List LayN) {l m : List (Int × Int)}, SubB l m → SubB (fwdB Ls l) (fwdB Ls m)
  | [], _, _, h => h
  | L :: r, _, _, h => fwdB_sub r (layB_sub h)

/-- Bounds of single numbers are the numbers. -/
def dupL (x : List Int) : List (Int × Int) := x.map fun v => (v, v)
theorem dupL_at (x : List Int) (j : Nat) : loAt (dupL x) j = x[j]?.getD 0 ∧ hiAt (dupL x) j = x[j]?.getD 0 := by
  unfold loAt hiAt dupL
  rw [List.getElem?_map]
  cases x[j]? <;> exact ⟨rfl, rfl⟩
theorem layB_dup (L : LayN) (c : Bool) (x : List Int) : layB L c (dupL x) = dupL (layL L c x) := by
  unfold layB layL
  rw [show dupL ((List.range L.bs.length).map (layF L c x)) = (List.range L.bs.length).map (fun k => (layF L c x k, layF L c x k)) by unfold dupL; rw [List.map_map]; rfl]
  refine List.map_congr_left fun k _ => ?_
  have hl : (dupL x).length = x.length := by simp [dupL]
  have e1 : ∀ j, loT (wAt L k j) (loAt (dupL x) j) (hiAt (dupL x) j) = wAt L k j * x[j]?.getD 0 := fun j => by
    unfold loT; rw [(dupL_at x j).1, (dupL_at x j).2]; split <;> rfl
  have e2 : ∀ j, hiT (wAt L k j) (loAt (dupL x) j) (hiAt (dupL x) j) = wAt L k j * x[j]?.getD 0 := fun j => by
    unfold hiT; rw [(dupL_at x j).1, (dupL_at x j).2]; split <;> rfl
  unfold layBF layF
  rw [hl, sumJ_congr (n := x.length) fun j _ => e1 j, sumJ_congr (n := x.length) fun j _ => e2 j]
theorem fwdB_dup : ∀ (Ls : List LayN) (x : List Int), fwdB Ls (dupL x) = dupL (fwdL Ls x)
  | [], _ => rfl
  | L :: r, x => by rw [fwdB, fwdL, layB_dup, fwdB_dup r]

/-! ### Verdicts and certificates -/

def verdB (low high a b : Int) : Nat := if high ≤ a then 1 else if b ≤ low then 2 else 3
def judgeB (Ls : List LayN) (low high : Int) (l : List (Int × Int)) : Nat := verdB low high (loAt (fwdB Ls l) 0) (hiAt (fwdB Ls l) 0)
def widthB (l : List (Int × Int)) (i : Nat) : Int := hiAt l i - loAt l i
def wideTo (l : List (Int × Int)) : Nat → Nat
  | 0 => 0
  | i + 1 => if widthB l (wideTo l i) < widthB l i then i else wideTo l i
def wideB (l : List (Int × Int)) : Nat := wideTo l l.length
def midB (l : List (Int × Int)) : Int := (loAt l (wideB l) + hiAt l (wideB l)).tdiv 2
def leftB (l : List (Int × Int)) : List (Int × Int) := l.set (wideB l) (loAt l (wideB l), midB l)
def rightB (l : List (Int × Int)) : List (Int × Int) := l.set (wideB l) (midB l + 1, hiAt l (wideB l))
def certN (Ls : List LayN) (low high : Int) : Nat → List (Int × Int) → Nat
  | 0, l => judgeB Ls low high l
  | s + 1, l => if judgeB Ls low high l ≠ 3 ∨ loAt l (wideB l) = hiAt l (wideB l) then judgeB Ls low high l else
      if certN Ls low high s (leftB l) ≠ 3 ∧ certN Ls low high s (rightB l) ≠ certN Ls low high s (leftB l) then 3 else certN Ls low high s (leftB l)

variable {Ls : List LayN} {low high : Int}
theorem set_at (l : List (Int × Int)) (i : Nat) (v : Int × Int) {j : Nat} (hj : j < l.length) : loAt (l.set i v) j = (if j = i then v.1 else loAt l j) ∧ hiAt (l.set i v) j = (if j = i then v.2 else hiAt l j) := by
  unfold loAt hiAt
  by_cases e : j = i
  · subst e
    rw [if_pos rfl, if_pos rfl, List.getElem?_set_self hj]
    exact ⟨rfl, rfl⟩
  · rw [if_neg e, if_neg e, List.getElem?_set_ne (fun h => e h.symm)]
    exact ⟨rfl, rfl⟩
theorem InB.split {l : List (Int × Int)} {x : List Int} (h : InB l x) : InB (leftB l) x ∨ InB (rightB l) x := by
  by_cases hc : x[wideB l]?.getD 0 ≤ midB l
  · refine .inl ⟨by unfold leftB; rw [List.length_set]; exact h.len, fun j hj => ?_⟩
    unfold leftB at hj ⊢
    rw [List.length_set] at hj
    obtain ⟨e1, e2⟩ := set_at l (wideB l) (loAt l (wideB l), midB l) hj
    rw [e1, e2]
    have hb := h.bd j hj
    by_cases e : j = wideB l
    · subst e; rw [if_pos rfl, if_pos rfl]; exact ⟨hb.1, hc⟩
    · rw [if_neg e, if_neg e]; exact hb
  · refine .inr ⟨by unfold rightB; rw [List.length_set]; exact h.len, fun j hj => ?_⟩
    unfold rightB at hj ⊢
    rw [List.length_set] at hj
    obtain ⟨e1, e2⟩ := set_at l (wideB l) (midB l + 1, hiAt l (wideB l)) hj
    rw [e1, e2]
    have hb := h.bd j hj
    by_cases e : j = wideB l
    · subst e; rw [if_pos rfl, if_pos rfl]; exact ⟨by show midB l + 1 ≤ _; omega, hb.2⟩
    · rw [if_neg e, if_neg e]; exact hb
theorem certN_judged {l : List (Int × Int)} (h : judgeB Ls low high l ≠ 3) (s : Nat) : certN Ls low high s l = judgeB Ls low high l := by
  cases s with
  | zero => rfl
  | succ s => rw [certN, if_pos (.inl h)]
/-- With more splits a certificate stays what it is. -/
theorem certN_more : ∀ (s m : Nat) (l : List (Int × Int)), certN Ls low high s l ≠ 3 → certN Ls low high (s + m) l = certN Ls low high s l
  | 0, m, l, h => certN_judged h _
  | s + 1, m, l, h => by
    rw [show s + 1 + m = s + m + 1 by omega]
    rw [certN] at h ⊢
    rw [certN]
    by_cases c : judgeB Ls low high l ≠ 3 ∨ loAt l (wideB l) = hiAt l (wideB l)
    · rw [if_pos c, if_pos c]
    · rw [if_neg c] at h
      rw [if_neg c, if_neg c]
      by_cases c2 : certN Ls low high s (leftB l) ≠ 3 ∧ certN Ls low high s (rightB l) ≠ certN Ls low high s (leftB l)
      · rw [if_pos c2] at h; exact (h rfl).elim
      · rw [if_neg c2] at h
        have hr : certN Ls low high s (rightB l) = certN Ls low high s (leftB l) := Classical.byContradiction fun e => c2 ⟨h, e⟩
        have i1 := certN_more s m (leftB l) h
        have i2 := certN_more s m (rightB l) (by rw [hr]; exact h)
        rw [i1, i2]
/-- The certificate of single numbers is their verdict. -/
theorem certN_one (x : List Int) (s : Nat) : certN Ls low high s (dupL x) = verdB low high (scoreN Ls x) (scoreN Ls x) := by
  have e : judgeB Ls low high (dupL x) = verdB low high (scoreN Ls x) (scoreN Ls x) := by
    unfold judgeB
    rw [fwdB_dup, (dupL_at _ 0).1, (dupL_at _ 0).2]
    rfl
  cases s with
  | zero => exact e
  | succ s => rw [certN, if_pos (.inr (by rw [(dupL_at _ _).1, (dupL_at _ _).2])), e]
/-- Without splits a certificate stays what it is for smaller bounds. -/
theorem judgeB_sub {l m : List (Int × Int)} (hl : low < high) (h : SubB l m) (h0 : 0 < (fwdB Ls l).length) (hv : judgeB Ls low high m ≠ 3) : judgeB Ls low high l = judgeB Ls low high m := by
  have hb := (fwdB_sub Ls h).bd 0 h0
  have ho := (fwdB_sub Ls h).ok 0 h0
  unfold judgeB verdB at hv ⊢
  by_cases c1 : high ≤ loAt (fwdB Ls m) 0
  · rw [if_pos c1, if_pos (by omega)]
  · rw [if_neg c1] at hv ⊢
    by_cases c2 : hiAt (fwdB Ls m) 0 ≤ low
    · rw [if_pos c2, if_neg (by omega), if_pos (by omega)]
    · rw [if_neg c2] at hv; exact (hv rfl).elim

end Go.Proofs.YtbfigbpjoaccdaaGreat

namespace Go.Proofs.YtbfigbpjoaccdaaGreat
set_option linter.unusedVariables false
set_option linter.unusedSimpArgs false

def allTo (p : Nat → Bool) : Nat → Bool
  | 0 => true
  | n + 1 => allTo p n && p n
theorem allTo_at {p : Nat → Bool} : ∀ {n : Nat}, allTo p n = true → ∀ {k : Nat}, k < n → p k = true
  | 0, _, k, hk => by omega
  | n + 1, h, k, hk => by
    simp only [allTo, Bool.and_eq_true] at h
    by_cases e : k = n
    · subst e; exact h.2
    · exact allTo_at h.1 (by omega)
theorem allTo_false {p : Nat → Bool} {k n : Nat} (hk : k < n) (h : p k = false) : allTo p n = false := by
  cases hc : allTo p n with
  | false => rfl
  | true => rw [allTo_at hc hk] at h; cases h
theorem allTo_succ {p : Nat → Bool} {n : Nat} (h : allTo p n = true) (h1 : p n = true) : allTo p (n + 1) = true := by simp only [allTo, h, h1, Bool.and_self]

theorem allIn_getD {lo hi : Int} {xs : List Int} (h : allIn lo hi xs = true) {k : Nat} (hk : k < xs.length) : lo ≤ xs[k]?.getD 0 ∧ xs[k]?.getD 0 ≤ hi := by
  rw [List.getElem?_eq_getElem hk]
  exact allIn_mem h (List.getElem_mem hk)
theorem allIn_of {lo hi : Int} {xs : List Int} (h : ∀ k, k < xs.length → lo ≤ xs[k]?.getD 0 ∧ xs[k]?.getD 0 ≤ hi) : allIn lo hi xs = true := by
  simp only [allIn, List.all_eq_true, Bool.and_eq_true, decide_eq_true_eq]
  intro x hx
  obtain ⟨k, hk, rfl⟩ := List.getElem_of_mem hx
  have := h k hk
  rwa [List.getElem?_eq_getElem hk] at this

def nIn (lo hi x : Int) : Bool := decide (lo ≤ x) && decide (x ≤ hi)
theorem nIn_true {lo hi x : Int} : nIn lo hi x = true ↔ lo ≤ x ∧ x ≤ hi := by simp [nIn]
theorem nIn_false {lo hi x : Int} : nIn lo hi x = false ↔ x < lo ∨ hi < x := by
  rw [Bool.eq_false_iff, ne_eq, nIn_true]; omega

def layAt (Ls : List LayN) (i : Nat) : LayN := Ls[i]?.getD ⟨[], []⟩
def wRowOk (b : Nat) (r : List Int) : Bool := decide (r.length = b) && allIn (-1000) 1000 r
/-- A layer is valid for so many numbers before it. -/
def lyOk (b : Nat) (L : LayN) : Bool :=
  decide (1 ≤ L.bs.length) && decide (L.bs.length ≤ 8) && decide (L.ws.length = L.bs.length) && allIn (-1000000) 1000000 L.bs && allTo (fun r => wRowOk b (L.ws[r]?.getD [])) L.ws.length
def widthN (b : Nat) (Ls : List LayN) : Nat → Nat
  | 0 => b
  | k + 1 => (layAt Ls k).bs.length
def lysOk (b : Nat) (Ls : List LayN) : Bool := allTo (fun k => lyOk (widthN b Ls k) (layAt Ls k)) Ls.length
structure NetN where
  w : Int
  h : Int
  gx : Int
  gy : Int
  Ls : List LayN
  low : Int
  high : Int
/-- How many features there are. -/
def NetN.nf (N : NetN) : Nat := (N.gx * N.gy).toNat
def sidesOk (N : NetN) : Bool := (nIn 1 16 N.w && nIn 1 16 N.h) && (nIn 1 4 N.gx && nIn 1 4 N.gy) && decide (N.w % N.gx = 0) && decide (N.h % N.gy = 0) && (decide (1 ≤ N.Ls.length) && decide (N.Ls.length ≤ 3))
def endOk (N : NetN) : Bool := decide (widthN N.nf N.Ls N.Ls.length = 1) && decide (N.low < N.high) && (nIn (-1152921504606846976) 1152921504606846976 N.low && nIn (-1152921504606846976) 1152921504606846976 N.high)
def netOk (N : NetN) : Bool := sidesOk N && lysOk N.nf N.Ls && endOk N

structure LyOk (b : Nat) (L : LayN) : Prop where
  b1 : 1 ≤ L.bs.length
  b8 : L.bs.length ≤ 8
  ws : L.ws.length = L.bs.length
  bs : allIn (-1000000) 1000000 L.bs = true
  row : ∀ k, k < L.bs.length → (L.ws[k]?.getD []).length = b ∧ allIn (-1000) 1000 (L.ws[k]?.getD []) = true
theorem lyOk_iff {b : Nat} {L : LayN} : lyOk b L = true ↔ LyOk b L := by
  unfold lyOk
  simp only [Bool.and_eq_true, decide_eq_true_eq]
  constructor
  · rintro ⟨⟨⟨⟨h1, h2⟩, h3⟩, h4⟩, h5⟩
    refine ⟨h1, h2, h3, h4, fun k hk => ?_⟩
    have := allTo_at h5 (k := k) (by omega)
    simpa [wRowOk] using this
  · rintro ⟨h1, h2, h3, h4, h5⟩
    refine ⟨⟨⟨⟨h1, h2⟩, h3⟩, h4⟩, ?_⟩
    rw [h3]
    have : ∀ n, n ≤ L.bs.length → allTo (fun r => wRowOk b (L.ws[r]?.getD [])) n = true := fun n => by
      induction n with
      | zero => intro _; rfl
      | succ n ih => intro hn; exact allTo_succ (ih (by omega)) (by simpa [wRowOk] using h5 n (by omega))
    exact this _ (Nat.le_refl _)
structure NetOk (N : NetN) : Prop where
  w : 1 ≤ N.w ∧ N.w ≤ 16
  h : 1 ≤ N.h ∧ N.h ≤ 16
  gx : 1 ≤ N.gx ∧ N.gx ≤ 4
  gy : 1 ≤ N.gy ∧ N.gy ≤ 4
  mx : N.w % N.gx = 0
  my : N.h % N.gy = 0
  l1 : 1 ≤ N.Ls.length
  l3 : N.Ls.length ≤ 3
  ly : ∀ k, k < N.Ls.length → LyOk (widthN N.nf N.Ls k) (layAt N.Ls k)
  one : widthN N.nf N.Ls N.Ls.length = 1
  lt : N.low < N.high
  low : -1152921504606846976 ≤ N.low ∧ N.low ≤ 1152921504606846976
  high : -1152921504606846976 ≤ N.high ∧ N.high ≤ 1152921504606846976
theorem netOk_of {N : NetN} (h : netOk N = true) : NetOk N := by
  simp only [netOk, sidesOk, endOk, Bool.and_eq_true, nIn_true, decide_eq_true_eq] at h
  obtain ⟨⟨⟨⟨⟨⟨⟨h1, h2⟩, h3, h4⟩, h5⟩, h6⟩, h7, h8⟩, h9⟩, ⟨h10, h11⟩, h12, h13⟩ := h
  exact ⟨h1, h2, h3, h4, h5, h6, h7, h8, fun k hk => lyOk_iff.1 (allTo_at h9 hk), h10, h11, h12, h13⟩
theorem NetOk.nf {N : NetN} (h : NetOk N) : 1 ≤ N.nf ∧ N.nf ≤ 16 ∧ (N.nf : Int) = N.gx * N.gy := by
  have h1 := h.gx
  have h2 := h.gy
  have h3 : 1 * 1 ≤ N.gx * N.gy := Int.mul_le_mul (by omega) (by omega) (by omega) (by omega)
  have h4 : N.gx * N.gy ≤ 4 * 4 := Int.mul_le_mul (by omega) (by omega) (by omega) (by omega)
  unfold NetN.nf
  omega

/-! ### The numbers behind each layer -/

def numAt (Ls : List LayN) (l : List Int) : Nat → List Int
  | 0 => l
  | i + 1 => layL (layAt Ls i) (decide (i + 1 < Ls.length)) (numAt Ls l i)
def bndAt (Ls : List LayN) (l : List (Int × Int)) : Nat → List (Int × Int)
  | 0 => l
  | i + 1 => layB (layAt Ls i) (decide (i + 1 < Ls.length)) (bndAt Ls l i)
theorem drop_lay {Ls : List LayN} {i : Nat} (hi : i < Ls.length) : Ls.drop i = layAt Ls i :: Ls.drop (i + 1) := by
  rw [List.drop_eq_getElem_cons hi]
  unfold layAt
  rw [List.getElem?_eq_getElem hi]
  rfl
theorem drop_more {Ls : List LayN} (i : Nat) : (!(Ls.drop (i + 1)).isEmpty) = decide (i + 1 < Ls.length) := by
  by_cases h : i + 1 < Ls.length
  · rw [drop_lay h]; simp [h]
  · rw [List.drop_eq_nil_of_le (by omega)]; simp [h]
theorem fwdL_drop (Ls : List LayN) (l : List Int) : ∀ k i, i + k = Ls.length → fwdL (Ls.drop i) (numAt Ls l i) = numAt Ls l Ls.length
  | 0, i, h => by
    have : i = Ls.length := by omega
    subst this
    rw [List.drop_length]; rfl
  | k + 1, i, h => by
    rw [drop_lay (by omega), fwdL, drop_more]
    exact fwdL_drop Ls l k (i + 1) (by omega)
theorem fwdB_drop (Ls : List LayN) (l : List (Int × Int)) : ∀ k i, i + k = Ls.length → fwdB (Ls.drop i) (bndAt Ls l i) = bndAt Ls l Ls.length
  | 0, i, h => by
    have : i = Ls.length := by omega
    subst this
    rw [List.drop_length]; rfl
  | k + 1, i, h => by
    rw [drop_lay (by omega), fwdB, drop_more]
    exact fwdB_drop Ls l k (i + 1) (by omega)
theorem scoreN_at (Ls : List LayN) (l : List Int) : scoreN Ls l = (numAt Ls l Ls.length)[0]?.getD 0 := by
  unfold scoreN
  have := fwdL_drop Ls l Ls.length 0 (by omega)
  rw [List.drop_zero] at this
  rw [← this]; rfl
theorem fwdB_at (Ls : List LayN) (l : List (Int × Int)) : fwdB Ls l = bndAt Ls l Ls.length := by
  have := fwdB_drop Ls l Ls.length 0 (by omega)
  rw [List.drop_zero] at this
  exact this
theorem numAt_len (Ls : List LayN) (l : List Int) : ∀ i, (numAt Ls l i).length = widthN l.length Ls i
  | 0 => rfl
  | i + 1 => by rw [numAt, layL_length]; rfl
theorem bndAt_len (Ls : List LayN) (l : List (Int × Int)) : ∀ i, (bndAt Ls l i).length = widthN l.length Ls i
  | 0 => rfl
  | i + 1 => by rw [bndAt, layB_length]; rfl

/-! ### How large they are -/

def Bn : Nat → Int
  | 0 => 65280
  | i + 1 => 1000000 + 16000 * Bn i
theorem Bn_pos : ∀ i, 0 ≤ Bn i
  | 0 => by decide
  | i + 1 => by have := Bn_pos i; simp only [Bn]; omega
theorem Bn_max {i : Nat} (h : i ≤ 3) : Bn i ≤ 1000000000000000000 := by
  have h0 : Bn 0 = 65280 := rfl
  have h1 : Bn 1 = 1000000 + 16000 * Bn 0 := rfl
  have h2 : Bn 2 = 1000000 + 16000 * Bn 1 := rfl
  have h3 : Bn 3 = 1000000 + 16000 * Bn 2 := rfl
  have : i = 0 ∨ i = 1 ∨ i = 2 ∨ i = 3 := by omega
  rcases this with rfl | rfl | rfl | rfl <;> omega
def LeB (B : Int) (l : List Int) : Prop := ∀ j : Nat, -B ≤ l[j]?.getD 0 ∧ l[j]?.getD 0 ≤ B
def LeP (B : Int) (l : List (Int × Int)) : Prop := ∀ j : Nat, (-B ≤ loAt l j ∧ loAt l j ≤ B) ∧ (-B ≤ hiAt l j ∧ hiAt l j ≤ B)
theorem w_mul_bd {w x B : Int} (h1 : -1000 ≤ w) (h2 : w ≤ 1000) (h3 : -B ≤ x) (h4 : x ≤ B) : -(1000 * B) ≤ w * x ∧ w * x ≤ 1000 * B := by
  rcases Int.le_total 0 w with hw | hw
  · have a1 : w * x ≤ w * B := Int.mul_le_mul_of_nonneg_left h4 hw
    have a2 : w * (-B) ≤ w * x := Int.mul_le_mul_of_nonneg_left h3 hw
    have a3 : w * B ≤ 1000 * B := Int.mul_le_mul_of_nonneg_right h2 (by omega)
    rw [Int.mul_neg] at a2
    omega
  · have a1 : w * x ≤ w * (-B) := Int.mul_le_mul_of_nonpos_left hw h3
    have a2 : w * B ≤ w * x := Int.mul_le_mul_of_nonpos_left hw h4
    have a3 : (-1000) * B ≤ w * B := Int.mul_le_mul_of_nonneg_right h1 (by omega)
    rw [Int.mul_neg] at a1
    omega
theorem wAt_bd {b : Nat} {L : LayN} (h : LyOk b L) {k j : Nat} (hk : k < L.bs.length) (hj : j < b) : -1000 ≤ wAt L k j ∧ wAt L k j ≤ 1000 := by
  obtain ⟨h1, h2⟩ := h.row k hk
  exact allIn_getD h2 (by omega)
theorem bAt_bd {b : Nat} {L : LayN} (h : LyOk b L) {k : Nat} (hk : k < L.bs.length) : -1000000 ≤ bAt L k ∧ bAt L k ≤ 1000000 := allIn_getD h.bs hk
/-- A sum that is under way. -/
def partL (L : LayN) (l : List Int) (k m : Nat) : Int := bAt L k + sumJ (fun j => wAt L k j * l[j]?.getD 0) m
def partLo (L : LayN) (l : List (Int × Int)) (k m : Nat) : Int := bAt L k + sumJ (fun j => loT (wAt L k j) (loAt l j) (hiAt l j)) m
def partHi (L : LayN) (l : List (Int × Int)) (k m : Nat) : Int := bAt L k + sumJ (fun j => hiT (wAt L k j) (loAt l j) (hiAt l j)) m
theorem sum_part {f : Nat → Int} {B c : Int} {m b : Nat} (hB : 0 ≤ B) (hb : b ≤ 16) (hm : m ≤ b) (hc : -1000000 ≤ c ∧ c ≤ 1000000) (hf : ∀ i, i < b → -(1000 * B) ≤ f i ∧ f i ≤ 1000 * B) :
    -(1000000 + 16000 * B) ≤ c + sumJ f m ∧ c + sumJ f m ≤ 1000000 + 16000 * B := by
  have h := sumJ_bd (f := f) (B := 1000 * B) (n := m) fun i hi => hf i (by omega)
  have h2 : 1000 * B * (m : Int) ≤ 1000 * B * 16 := Int.mul_le_mul_of_nonneg_left (by omega) (by omega)
  omega
theorem partL_bd {b : Nat} {L : LayN} {l : List Int} {B : Int} (h : LyOk b L) (hb : b ≤ 16) (hB : 0 ≤ B) (hl : LeB B l) {k m : Nat} (hk : k < L.bs.length) (hm : m ≤ b) :
    -(1000000 + 16000 * B) ≤ partL L l k m ∧ partL L l k m ≤ 1000000 + 16000 * B :=
  sum_part hB hb hm (bAt_bd h hk) fun j hj => w_mul_bd (wAt_bd h hk hj).1 (wAt_bd h hk hj).2 (hl j).1 (hl j).2
theorem loT_bd {w x y B : Int} (h1 : -1000 ≤ w) (h2 : w ≤ 1000) (hx : -B ≤ x ∧ x ≤ B) (hy : -B ≤ y ∧ y ≤ B) : -(1000 * B) ≤ loT w x y ∧ loT w x y ≤ 1000 * B := by
  unfold loT; split
  · exact w_mul_bd h1 h2 hy.1 hy.2
  · exact w_mul_bd h1 h2 hx.1 hx.2
theorem hiT_bd {w x y B : Int} (h1 : -1000 ≤ w) (h2 : w ≤ 1000) (hx : -B ≤ x ∧ x ≤ B) (hy : -B ≤ y ∧ y ≤ B) : -(1000 * B) ≤ hiT w x y ∧ hiT w x y ≤ 1000 * B := by
  unfold hiT; split
  · exact w_mul_bd h1 h2 hx.1 hx.2
  · exact w_mul_bd h1 h2 hy.1 hy.2
theorem partLo_bd {b : Nat} {L : LayN} {l : List (Int × Int)} {B : Int} (h : LyOk b L) (hb : b ≤ 16) (hB : 0 ≤ B) (hl : LeP B l) {k m : Nat} (hk : k < L.bs.length) (hm : m ≤ b) :
    -(1000000 + 16000 * B) ≤ partLo L l k m ∧ partLo L l k m ≤ 1000000 + 16000 * B :=
  sum_part hB hb hm (bAt_bd h hk) fun j hj => loT_bd (wAt_bd h hk hj).1 (wAt_bd h hk hj).2 (hl j).1 (hl j).2
theorem partHi_bd {b : Nat} {L : LayN} {l : List (Int × Int)} {B : Int} (h : LyOk b L) (hb : b ≤ 16) (hB : 0 ≤ B) (hl : LeP B l) {k m : Nat} (hk : k < L.bs.length) (hm : m ≤ b) :
    -(1000000 + 16000 * B) ≤ partHi L l k m ∧ partHi L l k m ≤ 1000000 + 16000 * B :=
  sum_part hB hb hm (bAt_bd h hk) fun j hj => hiT_bd (wAt_bd h hk hj).1 (wAt_bd h hk hj).2 (hl j).1 (hl j).2
theorem cutI_bd {c : Bool} {s B : Int} (h : -B ≤ s ∧ s ≤ B) : -B ≤ cutI c s ∧ cutI c s ≤ B := by unfold cutI; split <;> omega
theorem LeB.next {b : Nat} {L : LayN} {l : List Int} {B : Int} (h : LyOk b L) (hb : b ≤ 16) (hB : 0 ≤ B) (hl : LeB B l) (hn : l.length = b) (c : Bool) : LeB (1000000 + 16000 * B) (layL L c l) := fun k => by
  by_cases hk : k < L.bs.length
  · unfold layL
    rw [getD_map_range _ _ hk]
    unfold layF
    rw [hn]
    exact cutI_bd (partL_bd h hb hB hl hk (Nat.le_refl _))
  · rw [List.getElem?_eq_none (by rw [layL_length]; omega)]
    show _ ≤ (0 : Int) ∧ (0 : Int) ≤ _
    omega
theorem LeP.next {b : Nat} {L : LayN} {l : List (Int × Int)} {B : Int} (h : LyOk b L) (hb : b ≤ 16) (hB : 0 ≤ B) (hl : LeP B l) (hn : l.length = b) (c : Bool) : LeP (1000000 + 16000 * B) (layB L c l) := fun k => by
  by_cases hk : k < L.bs.length
  · obtain ⟨e1, e2⟩ := layB_at (c := c) (l := l) hk
    rw [e1, e2]
    unfold layBF
    rw [hn]
    exact ⟨cutI_bd (partLo_bd h hb hB hl hk (Nat.le_refl _)), cutI_bd (partHi_bd h hb hB hl hk (Nat.le_refl _))⟩
  · unfold loAt hiAt
    rw [List.getElem?_eq_none (by rw [layB_length]; omega)]
    show (_ ≤ (0 : Int) ∧ (0 : Int) ≤ _) ∧ (_ ≤ (0 : Int) ∧ (0 : Int) ≤ _)
    omega
theorem width_le {N : NetN} (h : NetOk N) {i : Nat} (hi : i ≤ N.Ls.length) : 1 ≤ widthN N.nf N.Ls i ∧ widthN N.nf N.Ls i ≤ 16 := by
  cases i with
  | zero => exact ⟨h.nf.1, h.nf.2.1⟩
  | succ i =>
    have := h.ly i (by omega)
    have h1 := this.b1
    have h2 := this.b8
    show 1 ≤ (layAt N.Ls i).bs.length ∧ (layAt N.Ls i).bs.length ≤ 16
    omega
theorem numAt_bd {N : NetN} (h : NetOk N) {l : List Int} (hn : l.length = N.nf) (hl : LeB 65280 l) : ∀ i, i ≤ N.Ls.length → LeB (Bn i) (numAt N.Ls l i)
  | 0, _ => hl
  | i + 1, hi => LeB.next (h.ly i (by omega)) (width_le h (by omega)).2 (Bn_pos i) (numAt_bd h hn hl i (by omega)) (by rw [numAt_len, hn]) _
theorem bndAt_bd {N : NetN} (h : NetOk N) {l : List (Int × Int)} (hn : l.length = N.nf) (hl : LeP 65280 l) : ∀ i, i ≤ N.Ls.length → LeP (Bn i) (bndAt N.Ls l i)
  | 0, _ => hl
  | i + 1, hi => LeP.next (h.ly i (by omega)) (width_le h (by omega)).2 (Bn_pos i) (bndAt_bd h hn hl i (by omega)) (by rw [bndAt_len, hn]) _

end Go.Proofs.YtbfigbpjoaccdaaGreat

namespace Go.Proofs.YtbfigbpjoaccdaaGreat
open Go Go.RowKit Go.Shelf
set_option linter.unusedVariables false
set_option linter.unusedSimpArgs false

/-- The slice at 'a' reads as the slices of ints 'xss', in blocks below 'B'. -/
def RdW (B : Nat) (W : World) (a : Option Addr) (xss : List (List Int)) : Prop :=
  xss = [] ∨ ∃ b o, a = some ⟨b, o, none⟩ ∧ b < B ∧ ∀ i, i < xss.length → ∃ a' c', W.cell? ⟨b, o + i, none⟩ = some (.slice a' (xss[i]?.getD []).length c') ∧ Rd B W a' (xss[i]?.getD [])
theorem RdW.below {B B' : Nat} {W W' : World} {a : Option Addr} {xss : List (List Int)} (h : RdW B W a xss) (hB : B ≤ B') (hb : Below B' W W') : RdW B W' a xss := by
  rcases h with h | ⟨b, o, h1, h2, h3⟩
  · exact .inl h
  · refine .inr ⟨b, o, h1, h2, fun i hi => ?_⟩
    obtain ⟨a', c', h4, h5⟩ := h3 i hi
    exact ⟨a', c', (hb.cell (p := ⟨b, o + i, none⟩) (by show b < B'; omega)).trans h4, h5.below hB hb⟩
theorem RdW.mono {B B' : Nat} {W : World} {a : Option Addr} {xss : List (List Int)} (h : RdW B W a xss) (hB : B ≤ B') : RdW B' W a xss := by
  rcases h with h | ⟨b, o, h1, h2, h3⟩
  · exact .inl h
  · refine .inr ⟨b, o, h1, by omega, fun i hi => ?_⟩
    obtain ⟨a', c', h4, h5⟩ := h3 i hi
    exact ⟨a', c', h4, h5.mono hB⟩
theorem RdW.at {B : Nat} {W : World} {a : Option Addr} {xss : List (List Int)} (h : RdW B W a xss) {i : Nat} (hi : i < xss.length) :
    ∃ b o, a = some ⟨b, o, none⟩ ∧ b < B ∧ ∃ a' c', W.cell? ⟨b, o + i, none⟩ = some (.slice a' (xss[i]?.getD []).length c') ∧ Rd B W a' (xss[i]?.getD []) := by
  rcases h with h | ⟨b, o, h1, h2, h3⟩
  · subst h; simp at hi
  · exact ⟨b, o, h1, h2, h3 i hi⟩

/-- The slice at 'a' reads as the layers 'Ls', in blocks below 'B'. -/
def RdLs (B : Nat) (W : World) (a : Option Addr) (Ls : List LayN) : Prop :=
  Ls = [] ∨ ∃ b o, a = some ⟨b, o, none⟩ ∧ b < B ∧ ∀ i, i < Ls.length → ∃ wa wc ba bc, W.cell? ⟨b, o + i * 2, none⟩ = some (.slice wa (layAt Ls i).ws.length wc) ∧ W.cell? ⟨b, o + i * 2 + 1, none⟩ = some (.slice ba (layAt Ls i).bs.length bc) ∧
    RdW B W wa (layAt Ls i).ws ∧ Rd B W ba (layAt Ls i).bs
theorem RdLs.below {B B' : Nat} {W W' : World} {a : Option Addr} {Ls : List LayN} (h : RdLs B W a Ls) (hB : B ≤ B') (hb : Below B' W W') : RdLs B W' a Ls := by
  rcases h with h | ⟨b, o, h1, h2, h3⟩
  · exact .inl h
  · refine .inr ⟨b, o, h1, h2, fun i hi => ?_⟩
    obtain ⟨wa, wc, ba, bc, h4, h5, h6, h7⟩ := h3 i hi
    exact ⟨wa, wc, ba, bc, (hb.cell (p := ⟨b, o + i * 2, none⟩) (by show b < B'; omega)).trans h4, (hb.cell (p := ⟨b, o + i * 2 + 1, none⟩) (by show b < B'; omega)).trans h5, h6.below hB hb, h7.below hB hb⟩
theorem RdLs.mono {B B' : Nat} {W : World} {a : Option Addr} {Ls : List LayN} (h : RdLs B W a Ls) (hB : B ≤ B') : RdLs B' W a Ls := by
  rcases h with h | ⟨b, o, h1, h2, h3⟩
  · exact .inl h
  · refine .inr ⟨b, o, h1, by omega, fun i hi => ?_⟩
    obtain ⟨wa, wc, ba, bc, h4, h5, h6, h7⟩ := h3 i hi
    exact ⟨wa, wc, ba, bc, h4, h5, h6.mono hB, h7.mono hB⟩
theorem RdLs.at {B : Nat} {W : World} {a : Option Addr} {Ls : List LayN} (h : RdLs B W a Ls) {i : Nat} (hi : i < Ls.length) :
    ∃ b o, a = some ⟨b, o, none⟩ ∧ b < B ∧ ∃ wa wc ba bc, W.cell? ⟨b, o + i * 2, none⟩ = some (.slice wa (layAt Ls i).ws.length wc) ∧ W.cell? ⟨b, o + i * 2 + 1, none⟩ = some (.slice ba (layAt Ls i).bs.length bc) ∧
      RdW B W wa (layAt Ls i).ws ∧ Rd B W ba (layAt Ls i).bs := by
  rcases h with h | ⟨b, o, h1, h2, h3⟩
  · subst h; simp at hi
  · exact ⟨b, o, h1, h2, h3 i hi⟩

/-- What is read later. -/
theorem later_i {W W' : World} {a : Option Addr} {xs : List Int} (h : Rd W.heap.size W a xs) (hb : Below W.heap.size W W') : Rd W'.heap.size W' a xs := (h.below (Nat.le_refl _) hb).mono hb.size
theorem later_w {W W' : World} {a : Option Addr} {xs : List (List Int)} (h : RdW W.heap.size W a xs) (hb : Below W.heap.size W W') : RdW W'.heap.size W' a xs := (h.below (Nat.le_refl _) hb).mono hb.size
theorem later_l {W W' : World} {a : Option Addr} {xs : List LayN} (h : RdLs W.heap.size W a xs) (hb : Below W.heap.size W W') : RdLs W'.heap.size W' a xs := (h.below (Nat.le_refl _) hb).mono hb.size

/-- A network's value. -/
abbrev netv (N : NetN) (a : Option Addr) (n c : Nat) : Value := .agg #[.int .i64 N.w, .int .i64 N.h, .int .i64 N.gx, .int .i64 N.gy, .slice a n c, .int .i64 N.low, .int .i64 N.high]
/-- No slice of a network is longer than any can be. -/
structure NetSz (N : NetN) : Prop where
  n : N.Ls.length ≤ 9223372036854775807
  ly : ∀ i, (layAt N.Ls i).ws.length ≤ 9223372036854775807 ∧ (layAt N.Ls i).bs.length ≤ 9223372036854775807
  row : ∀ i k : Nat, ((layAt N.Ls i).ws[k]?.getD []).length ≤ 9223372036854775807

theorem jw1 (lo hi x : Int) (v : Bool) (hv : nIn lo hi x = v) (b o c : Nat) (w : World) (h : w.cell? ⟨b, o, none⟩ = some (.int .i64 x)) :
    Calls Tryz.prog 48 #[.int .i64 lo, .int .i64 hi, .slice (some ⟨b, o, none⟩) 1 c] w fun e w' => e = .returned (.bool v) ∧ w = w' := by
  subst hv
  have h' := jwithin_any lo hi (some ⟨b, o, none⟩) c [x] w (by simp) (.inr ⟨b, o, rfl, World.block_lt_of_cell? w _ h, fun i hi => by
    have : i = 0 := by simp at hi; omega
    subst this; exact h⟩)
  simpa [allIn, nIn] using h'
theorem jw2 (lo hi x y : Int) (v : Bool) (hv : (nIn lo hi x && nIn lo hi y) = v) (b o c : Nat) (w : World) (h : w.cell? ⟨b, o, none⟩ = some (.int .i64 x)) (h1 : w.cell? ⟨b, o + 1, none⟩ = some (.int .i64 y)) :
    Calls Tryz.prog 48 #[.int .i64 lo, .int .i64 hi, .slice (some ⟨b, o, none⟩) 2 c] w fun e w' => e = .returned (.bool v) ∧ w = w' := by
  subst hv
  have h' := jwithin_any lo hi (some ⟨b, o, none⟩) c [x, y] w (by simp) (.inr ⟨b, o, rfl, World.block_lt_of_cell? w _ h, fun i hi => by
    have : i = 0 ∨ i = 1 := by simp at hi; omega
    rcases this with rfl | rfl
    · exact h
    · exact h1⟩)
  simpa [allIn, nIn] using h'
theorem jwn (lo hi : Int) (v : Bool) (xs : List Int) (hv : allIn lo hi xs = v) (a : Option Addr) (c n : Nat) (hn : xs.length = n) (hl : n ≤ 9223372036854775807) (w : World) (hr : Rd w.heap.size w a xs) :
    Calls Tryz.prog 48 #[.int .i64 lo, .int .i64 hi, .slice a n c] w fun e w' => e = .returned (.bool v) ∧ w = w' := by
  subst hv
  subst hn
  exact jwithin_any lo hi a c xs w hl hr

end Go.Proofs.YtbfigbpjoaccdaaGreat

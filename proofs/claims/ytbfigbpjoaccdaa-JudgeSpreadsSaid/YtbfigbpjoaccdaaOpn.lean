/- Arguments of the judge's rows opened: images, labels, lists of ints; and the way back for whatever has not turned. -/
import Derived.Test.YtbfigbpjoaccdaaRows
import Derived.Test.YtbfigbpjoaccdaaImgB
import Derived.Test.YtbfigbpjoaccdaaJB
import Derived.Deep.Matrix
import Derived.ProofKit
import Derived.OpenShut
import Derived.SizedLaws
import Derived.Lib.SmallJoins
import Derived.ChangeSlices
import Derived.Carry
import Derived.JoinedCond
namespace Go.Proofs.Ytbfigbpjoaccdaa
open Go Go.ChangeShapes Go.WideShapes Go.ChangeAt Go.RowKit Go.Joins Go.Deep
set_option linter.unusedVariables false
set_option linter.unusedSimpArgs false
set_option maxRecDepth 100000

theorem tryOwn : ownKnob Try.prog.godebug = none := by kernel_rfl
theorem tryLaid : laidOutB Try.prog = true := by kernel_rfl

section
variable {H : Type} {enc : TypeId × Value → H}

theorem args_stay {W W' : World} {sp : Nat → Bool} (hb : Below W.heap.size W W') : ∀ {ts : List TypeId} {vs : List Value} {ds : List (DataW H)} {ps : List MemPlace},
    (ts.all fun t => Try.prog.readableRec t && decide (t < Try.prog.types.size)) = true → DataW.TrodAll enc Try.prog W 0 (fun _ => true) true ts vs ds ps → (∀ p ∈ ps, p.block < W.heap.size) → (∀ p ∈ ps, sp p.block = true) →
      DataW.TrodAll enc Try.prog W' 0 sp true ts vs ds ps := by
  intro ts
  induction ts with
  | nil =>
    intro vs ds ps _ h _ _
    obtain ⟨rfl, rfl, rfl⟩ := trodAll_nil h
    exact trodAll_mk0
  | cons t ts ih =>
    intro vs ds ps ht h hlt hsp
    obtain ⟨v, vs', d, ds', p, q, rfl, rfl, rfl, h0, h1⟩ := trodAll_cons h
    rw [List.all_cons, Bool.and_eq_true, Bool.and_eq_true, decide_eq_true_eq] at ht
    refine trodAll_cons_mk (WideElems.Trod_stays tryLaid ht.1.1 ht.1.2 h0 (fun x hx => hb.same (hlt x (List.mem_append_left _ hx))) (fun x hx => hsp x (List.mem_append_left _ hx))) ?_
    exact ih ht.2 h1 (fun x hx => hlt x (List.mem_append_right _ hx)) (fun x hx => hsp x (List.mem_append_right _ hx))

theorem wt_at {P : Program} {ts : List TypeId} {ds : List (DataW H)} (h : (DataW.weightsEach P ts ds).all (· ≤ reachBytes) = true) {j : Nat} {t : TypeId} {d : DataW H} (ht : ts[j]? = some t) (hd : ds[j]? = some d) :
    ∀ n ∈ d.weights P t, n ≤ reachBytes := fun n hn => by
  have := List.all_eq_true.1 h n (DataW.weights_mem_each ht hd n hn)
  simpa using this

/-- A slice of ints in a field. -/
theorem open_row {W : World} {fuel : Nat} {v : Value} {y : DataW H × List MemPlace} (h : DataW.trod enc Try.prog W 0 (fun _ => true) true fuel 25 [v] = some y) (hwt : ∀ n ∈ y.1.weights Try.prog 25, n ≤ reachBytes) :
    ∃ (a : Option Addr) (n c : Nat) (xs : List Int), v = .slice a n c ∧ Hid (xs.length = n) ∧ Rd W.heap.size W a xs ∧ Hid (a = none → n = 0 ∧ c = 0) ∧ n * 8 ≤ 140737488355328 ∧ (∀ x ∈ xs, (Lit.int .i64 x).wf = true) := by
  rcases open_ints Try.underlying25 Try.underlying3 (by kernel_rfl) h with ⟨h1, h2⟩ | ⟨a, len, cap, zs, h1, _, hl, hm, hz, hx, hc, hwf⟩
  · obtain rfl : v = .slice none 0 0 := by simpa using h1
    exact ⟨none, 0, 0, [], rfl, Lib.hid rfl, .inl rfl, Lib.hid fun _ => ⟨rfl, rfl⟩, by decide, by simp⟩
  · obtain rfl : v = .slice (some a) len cap := by simpa using h1
    simp only [if_true] at hz
    refine ⟨some a, len, cap, zs.take len, rfl, Lib.hid (by simp; omega), ?_, Lib.hid (by simp), ?_, fun x hx => hwf x (List.mem_of_mem_take hx)⟩
    · by_cases h0 : 0 < zs.length
      · obtain ⟨b, off, rfl, hcb⟩ := ints_at hc h0
        refine .inr ⟨b, off, rfl, World.block_lt_of_cell? W _ (hcb 0 h0), fun i hi => ?_⟩
        simp only [List.length_take] at hi
        rw [hcb i (by omega)]
        simp only [List.getElem?_take, List.getD]
        rw [if_pos (by omega)]
      · left
        simp; omega
    · subst hx
      have := hwt ((lits (H := H) .i64 (zs.take len)).length * 8 + (lits (H := H) .i64 (zs.drop len)).length * 8) (by
        simp only [DataW.weights, Try.underlying25]
        rw [show Try.prog.bytesOf 3 = 8 from by kernel_rfl, Nat.add_mul]
        exact List.mem_cons_self)
      simp only [lits, List.length_map, List.length_take] at this
      unfold reachBytes at this
      omega

/-- An image. -/
theorem open_im {W : World} {base : Nat} {v : Value} {d : DataW H} {p : List MemPlace} (hv : Value.okWide Try.prog W .any base 27 v) (h : DataW.Trod enc Try.prog W 0 (fun _ => true) true 27 v d p)
    (hwt : ∀ n ∈ d.weights Try.prog 27, n ≤ reachBytes) :
    ∃ (iw ih : Int) (a : Option Addr) (n c : Nat) (xs : List Int), v = imv iw ih a n c ∧ Hid (xs.length = n) ∧ Rd W.heap.size W a xs ∧ Hid (a = none → n = 0 ∧ c = 0) ∧ n * 8 ≤ 140737488355328 ∧ (∀ x ∈ xs, (Lit.int .i64 x).wf = true) ∧
      (Lit.int .i64 iw).wf = true ∧ (Lit.int .i64 ih).wf = true := by
  obtain ⟨v0, v1, v2, y0, y1, y2, n, rfl, rfl, rfl, h0, h1, h2⟩ := open_agg3 Try.underlying27 (by kernel_rfl) (by kernel_rfl) hv h
  obtain ⟨iw, e0, _, w0⟩ := DataW.trod_int Try.underlying3 h0
  obtain ⟨ih, e1, _, w1⟩ := DataW.trod_int Try.underlying3 h1
  obtain rfl : v0 = .int .i64 iw := by simpa using e0
  obtain rfl : v1 = .int .i64 ih := by simpa using e1
  obtain ⟨a, m, c, xs, rfl, r⟩ := open_row h2 (fun n hn => hwt n (by
    simp only [DataW.weights, Try.underlying27]
    exact DataW.weights_mem_each (j := 2) rfl rfl n hn))
  exact ⟨iw, ih, a, m, c, xs, rfl, r.1, r.2.1, r.2.2.1, r.2.2.2.1, r.2.2.2.2, w0, w1⟩

theorem field_int {W : World} {fuel : Nat} {v : Value} {y : DataW H × List MemPlace} (h : DataW.trod enc Try.prog W 0 (fun _ => true) true fuel 3 [v] = some y) : ∃ n, v = .int .i64 n ∧ (Lit.int .i64 n).wf = true := by
  obtain ⟨n, e, _, w⟩ := DataW.trod_int Try.underlying3 h
  exact ⟨n, by simpa using e, w⟩


theorem trod_of {W : World} {t : TypeId} {a : Option Addr} {l c : Nat} {d : DataW H} {p : List MemPlace} (h : DataW.Trod enc Try.prog W 0 (fun _ => true) true t (.slice a l c) d p) : ∃ fuel, DataW.trod enc Try.prog W 0 (fun _ => true) true fuel t [.slice a l c] = some (d, p) := h

/-- A slice of ints as a parameter. -/
theorem open_list {W : World} {base : Nat} {v : Value} {d : DataW H} {p : List MemPlace} (hv : Value.okWide Try.prog W .any base 25 v) (h : DataW.Trod enc Try.prog W 0 (fun _ => true) true 25 v d p) (hwt : ∀ n ∈ d.weights Try.prog 25, n ≤ reachBytes) :
    ∃ (a : Option Addr) (n c : Nat) (xs : List Int), v = .slice a n c ∧ Hid (xs.length = n) ∧ Rd W.heap.size W a xs ∧ Hid (a = none → n = 0 ∧ c = 0) ∧ n * 8 ≤ 140737488355328 ∧ (∀ x ∈ xs, (Lit.int .i64 x).wf = true) := by
  obtain ⟨a, l, c, rfl⟩ := okWide_slice Try.underlying25 hv
  obtain ⟨fuel, hf⟩ := trod_of h
  exact open_row hf hwt

theorem field_bool {W : World} {fuel : Nat} {v : Value} {y : DataW H × List MemPlace} (h : DataW.trod enc Try.prog W 0 (fun _ => true) true fuel 4 [v] = some y) : ∃ b, v = .bool b := by
  obtain ⟨b, e, _⟩ := DataW.trod_bool Try.underlying4 h
  exact ⟨b, by simpa using e⟩

theorem some_of {α : Type} {l : List α} {i : Nat} (h : i < l.length) : ∃ x, l[i]? = some x := ⟨_, List.getElem?_eq_getElem h⟩
theorem mem_weightsAll {P : Program} {e : TypeId} {n : Nat} : ∀ {ds : List (DataW H)} {d : DataW H}, d ∈ ds → n ∈ d.weights P e → n ∈ DataW.weightsAll P e ds
  | d' :: ds, d, hd, hn => by
    rw [DataW.weightsAll]
    rcases List.mem_cons.1 hd with rfl | hd
    · exact List.mem_append_left _ hn
    · exact List.mem_append_right _ (mem_weightsAll hd hn)

theorem bytes_of (zs : List Int) (h : ∀ z ∈ zs, (Lit.int .u8 z).wf = true) {i : Nat} (hi : i < zs.length) : ((((zs.map Int.toNat)[i]?.getD 0 : Nat) : Int)) = zs.getD i 0 := by
  have h1 := h _ (List.getElem_mem hi)
  have h2 : 0 ≤ zs[i] ∧ zs[i] ≤ 255 := by simpa [Lit.wf, IntKind.min, IntKind.max, IntKind.signed, IntKind.bits] using h1
  rw [List.getElem?_map, List.getElem?_eq_getElem hi, List.getD_eq_getElem?_getD, List.getElem?_eq_getElem hi]
  simp only [Option.map_some, Option.getD_some]
  omega

/-- The row's end, where the law has returned true and nothing that lay has turned. -/
theorem post_true {f : Func} {s : ChangeSpec} {W W' : World} {args : Array Value} {ds gs : List (DataW H)} {before : List MemPlace} (hvars : s.vars = [])
    (hargs : (f.params.toList.all fun t => Try.prog.readableRec t && decide (t < Try.prog.types.size)) = true) (hres : f.resultTypes = #[4])
    (hW : DataW.Whole enc Try.prog f.params.toList s.vars false W args.toList ds gs before) (hfn : (s.fn H ds).results = [.lit (.bool true)] ∧ (s.fn H ds).args = ds ∧ (s.fn H ds).vars = []) (hb : Below W.heap.size W W') :
    s.post enc Try.prog f false true false false W args (.bool true) W' := by
  have hlt := hW.lt
  have hW' := hW
  obtain ⟨p, q, hA, hV, rfl, hfz, hnd⟩ := hW'
  rw [hvars] at hV
  obtain ⟨rfl, rfl⟩ := trodVars_none hV
  have hP : ∀ sp : Nat → Bool, (∀ x ∈ p, sp x.block = true) → DataW.TrodAll enc Try.prog W' 0 sp true f.params.toList args.toList (s.fn H (ds ++ [])).args p := fun sp hsp => by
    rw [List.append_nil, hfn.2.1]
    exact args_stay hb hargs hA (fun x hx => hlt x (by simp [hx])) hsp
  have hR : ∀ (b : Nat) (sp : Nat → Bool) (hd : Bool), DataW.TrodAll enc Try.prog W' b sp hd f.resultTypes.toList ((Value.bool true).resultList f.resultTypes.size) (s.fn H (ds ++ [])).results [] := fun _ _ _ => by
    rw [hres, List.append_nil, hfn.1]
    exact trodAll_cons_mk (shut_bool Try.underlying4 _) trodAll_mk0
  have hU : ∀ sp : Nat → Bool, DataW.TrodVars enc Try.prog W' sp s.vars (s.fn H (ds ++ [])).vars [] := fun _ => by
    rw [List.append_nil, hvars, hfn.2.2]
    rfl
  refine ⟨ds, [], p ++ [], [], p, [], hW, hR _ _ _, hP _ (fun x hx => by simpa using hlt x (by simp [hx])), hU _, World.keptBut_mono (fun x hx => ⟨hx, .inr (by simpa using hx)⟩) (hb.frame (· ∈ p ++ [])), fun _ => ?_⟩
  refine ⟨ok_one hres rfl (okWide_bool_mk Try.underlying4 _), _, _, ([] ++ p) ++ [], ⟨[] ++ p, [], trodAll_append (hP _ (fun _ _ => rfl)) (hR _ _ _), hU _, rfl, ?_, ?_⟩, ?_⟩
  · intro b off hp
    rw [hb.frozen (p := ⟨b, off, none⟩) (hlt (.cell b off) (by simpa using hp))]
    exact hfz b off (by simpa using hp)
  · intro ha
    simpa using hnd ha
  · intro x hx _
    simpa using hx
end
end Go.Proofs.Ytbfigbpjoaccdaa

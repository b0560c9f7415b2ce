/- The program's comparison of long numbers. -/
import Derived.Test.YtaejdgjfnoefjaaLg
namespace Go.Proofs.Ytaejdgjfnoefjaa
open Go Go.RowKit Go.Shelf
set_option linter.unusedVariables false
set_option linter.unusedSimpArgs false

attribute [local go_sem] Oper.semAt_some

/-- What yield is handed in round p: the index from the end, and the word. -/
def encB (xs : List Nat) (n : Nat) (p : Fin n) : Array Value := #[.int .i64 ((n - 1 - p.val : Nat) : Int), .int .u64 ((xs[n - 1 - p.val]?.getD 0 : Nat) : Int)]

/-- All below K lies as it lay. -/
def KpB (K : Nat) (A B : World) : Prop := ∀ k, k < K → B.heap[k]? = A.heap[k]?
theorem KpB.trans {K : Nat} {A B C : World} (h1 : KpB K A B) (h2 : KpB K B C) : KpB K A C := fun k hk => (h2 k hk).trans (h1 k hk)
theorem KpB.cell {K : Nat} {A B : World} (h : KpB K A B) {b i : Nat} (hb : b < K) : B.cell? ⟨b, i, none⟩ = A.cell? ⟨b, i, none⟩ := World.cell?_of_block (h b hb)

theorem Backward_any (a : Option Addr) (n c : Nat) (w : World) :
    Calls Try.prog 117 #[.slice a n c] w fun e w' => e = .returned (.func (.func 145) #[] #[.pointer (some ⟨w.heap.size, 0, none⟩)]) ∧ w.alloc (.cells #[.slice a n c] 148) = w' := by
  go_enter Try.func117, Try.ntmps117
  go_wp2
  go_ret
  exact ⟨rfl, rfl⟩

set_option maxRecDepth 100000 in
set_option maxHeartbeats 1000000 in
theorem back1_in (F : Fence) (n : Nat) (hF : F.fn 145) (hro : F.round = none) (hn : 1 ≤ n) (l bx K0 : Nat) (xs : List Nat) (m : Nat) (a : Option Addr) (c : Nat) (hxl : xs.length = m) (hm : m ≤ 100000) (J Jx : List (Fin m) → World → Prop)
    (hY : ∀ pre x W, J pre W → pre.length < m → YieldAt F (n - 1) Try.prog l (encB xs m x) W fun e W' =>
      (e = .returned (.bool true) ∧ J (pre ++ [x]) W' ∧ KpB K0 W W') ∨ (e = .returned (.bool false) ∧ Jx (pre ++ [x]) W'))
    (W : World) (hbx : bx < K0) (hcb : W.cell? ⟨bx, 0, none⟩ = some (.slice a m c)) (hrd : RdW K0 W a xs) (h0 : J [] W) :
    CallsIn F n Try.prog 145 #[.func (.yield l) #[] #[], .pointer (some ⟨bx, 0, none⟩)] W fun e W' => (∃ v, e = .returned v) ∧
      ((∃ ys : List (Fin m), ys.map Fin.val = List.range m ∧ J ys W') ∨ (∃ pre : List (Fin m), pre.map Fin.val = List.range pre.length ∧ Jx pre W')) := by
  have hxlH := Lib.hid hxl
  have hrdH := Lib.hid hrd
  have hcbH := Lib.hid hcb
  clear hxl hrd
  refine callsIn_of_wp Try.func145 rfl hF ?_ hro
  simp only [Try.ntmps145, List.size_toArray, List.length_cons, List.length_nil, Nat.reduceAdd, Nat.reduceSub, Array.replicate_succ, Array.replicate_zero, List.push_toArray, List.append_toArray, List.nil_append, List.cons_append]
  gi_wp2
  clear hcb
  gi_loopw [3, 7, 8, 9, 10, 11, 12, 13, 14, 15, 16, 17, 18] (fun i _ _ _ _ _ _ _ _ _ _ _ _ wr => ∃ (p : Nat) (pre : List (Fin m)), p ≤ m ∧ Hid (i = .int .i64 ((m : Int) - 1 - p)) ∧ Hid (pre.map Fin.val = List.range p) ∧ J pre wr ∧ KpB K0 W wr)
    (fun i _ _ _ _ _ _ _ _ _ _ _ _ _ => (intOf i + 1).toNat)
  case atStart =>
    exact ⟨0, [], by omega, Lib.hid (by simp), Lib.hid (by simp), h0, fun k hk => rfl⟩
  case round =>
    obtain ⟨p, pre, hp, hi, hpre, hJ, hK⟩ := hrel
    by_cases hlt : p < m
    · obtain ⟨j, hj⟩ : ∃ j, m - 1 - p = j := ⟨_, rfl⟩
      have hi2 := hi.out
      rw [show (m : Int) - 1 - p = (j : Int) by omega] at hi2
      subst hi2
      have hjm : j < m := by omega
      obtain ⟨b, o, rfl, hb, hcell⟩ := hrdH.out.at (i := j) (by have := hxlH.out; omega)
      have c1 := (hK.cell (b := bx) (i := 0) hbx).trans hcbH.out
      have c2 := (hK.cell (b := b) (i := o + j) hb).trans hcell
      have hlen : pre.length < m := by
        have := congrArg List.length hpre.out
        simp at this; omega
      obtain ⟨fn, tmps, assign, body, hyy, hR⟩ := hY pre ⟨p, hlt⟩ wr hJ hlen
      unfold encB at hyy
      simp only [hj] at hyy
      obtain ⟨x, hx⟩ : ∃ x, xs[j]?.getD 0 = x := ⟨_, rfl⟩
      rw [hx] at hyy c2
      have hjH := Lib.hid hj
      clear hj hx hcell hi
      gi_wp2
      refine hR.mono ?_
      rintro e W3 (⟨rfl, hJ3, hk3⟩ | ⟨rfl, hJx3⟩)
      · gi_wp2
        go_roundw
        case rel => exact ⟨p + 1, pre ++ [⟨p, hlt⟩], by omega, Lib.hid (by have := hjH.out; congr 1; omega), Lib.hid (by rw [List.map_append, hpre.out, List.range_succ]; rfl), hJ3, hK.trans hk3⟩
        case measure => simp [intOf] <;> omega
      · gi_wp2
        refine bodyPost_ret (results_none rfl _ _ _) rfl ?_
        refine ⟨⟨_, rfl⟩, .inr ⟨pre ++ [⟨p, hlt⟩], ?_, hJx3⟩⟩
        have hl := congrArg List.length hpre.out
        simp at hl
        rw [List.map_append, hpre.out, List.length_append, hl]
        simp [List.range_succ]
    · have hi2 := hi.out
      rw [show (m : Int) - 1 - p = -1 by omega] at hi2
      subst hi2
      clear hi
      gi_wp2
      go_end0
      refine ⟨⟨_, rfl⟩, .inl ⟨pre, ?_, hJ⟩⟩
      have : p = m := by omega
      rw [hpre.out, this]

/-- In all these rounds the words were the same. -/
def AgreeB (xs ys : List Nat) (m : Nat) (pre : List (Fin m)) : Prop := ∀ x ∈ pre, xs[m - 1 - x.val]?.getD 0 = ys[m - 1 - x.val]?.getD 0
/-- In the last one of these rounds they were not, and the result has been laid down. -/
def DiffB (xs ys : List Nat) (m : Nat) (pre : List (Fin m)) (W : World) (b : Nat) : Prop :=
  ∃ pre' x, pre = pre' ++ [x] ∧ AgreeB xs ys m pre' ∧ xs[m - 1 - x.val]?.getD 0 ≠ ys[m - 1 - x.val]?.getD 0 ∧ Blk W b 4 #[.bool (decide (xs[m - 1 - x.val]?.getD 0 < ys[m - 1 - x.val]?.getD 0))]
theorem DiffB.kept {xs ys : List Nat} {m : Nat} {pre : List (Fin m)} {W W' : World} {b : Nat} {row : Option Nat} (h : DiffB xs ys m pre W b) (hg : W.grownBy W' row) (hr : ∀ r, row = some r → ∃ o : Obj, W.heap[r]? = some o ∧ o.isCells = false) : DiffB xs ys m pre W' b := by
  obtain ⟨pre', x, h1, h2, h3, h4⟩ := h
  exact ⟨pre', x, h1, h2, h3, blk_keeps h4 hg hr⟩
theorem decide_cast (x y : Nat) : decide ((x : Int) < (y : Int)) = decide (x < y) := by simp
theorem back_stopsK (F : Fence) (n : Nat) (hF : F.fn 145) (hro : F.round = none) (hn : 1 ≤ n) (bx K0 : Nat) (xs : List Nat) (m : Nat) (a : Option Addr) (c : Nat) (hxl : xs.length = m) (hm : m ≤ 100000) (w : World) (hK0 : K0 ≤ w.heap.size) (hbx : bx < K0) (hcb : w.cell? ⟨bx, 0, none⟩ = some (.slice a m c)) (hrd : RdW K0 w a xs) :
    SeqStopsK F n Try.prog 145 #[.pointer (some ⟨bx, 0, none⟩)] (encB xs m) (KpB K0) (fun ys => ys.map Fin.val = List.range m) (fun pre => pre.map Fin.val = List.range pre.length) m w := fun l J Jx W hW _ _ hY h0 =>
  back1_in F n hF hro hn l bx K0 xs m a c hxl hm J Jx hY W hbx ((hW.cell (p := ⟨bx, 0, none⟩) (by show bx < _; omega)).trans hcb) (hrd.below (Nat.le_refl _) (hW.mono hK0)) h0

set_option maxRecDepth 100000 in
set_option maxHeartbeats 2000000 in
theorem atMost_ne (a a2 : Option Addr) (c c2 n n2 : Nat) (v : Bool) (hv : decide (n < n2) = v) (hne : n ≠ n2) (w : World) :
    Calls Try.prog 84 #[.slice a n c, .slice a2 n2 c2] w fun e w' => e = .returned (.bool v) ∧ Below w.heap.size w w' := by
  have hvH := Lib.hid hv
  have h1 : ((n : Int) != (n2 : Int)) = true := by simp; omega
  have h2 : ((n : Int) == (n2 : Int)) = false := by simp; omega
  have h3 : ¬ (n : Int) = n2 := by omega
  clear hv
  go_enter Try.func84, Try.ntmps84
  go_wp2_with fail
  refine bodyPost_ret (v := .bool v) (by simp [results, Try.results84, go_sem, hvH.out]) rfl ⟨rfl, ?_⟩
  exact jwd_al (jwd_al (Below.refl _ _) _) _

set_option maxRecDepth 100000 in
set_option maxHeartbeats 2000000 in
theorem atMost_eq (a a2 : Option Addr) (c c2 m : Nat) (xs ys : List Nat) (V V2 : Nat) (hx : xs.length = m) (hy : ys.length = m) (hm : m ≤ 100000) (w : World) (hr : LgR w a xs V) (hr2 : LgR w a2 ys V2) :
    Calls Try.prog 84 #[.slice a m c, .slice a2 m c2] w fun e w' => e = .returned (.bool (decide (V ≤ V2))) ∧ Below w.heap.size w w' := by
  have hxH := Lib.hid hx
  have hyH := Lib.hid hy
  have hrH := Lib.hid hr
  have hr2H := Lib.hid hr2
  clear hx hy hr hr2
  refine (callsIn_wide (n := 10)).1 ?_
  refine callsIn_of_wp_marks Try.func84 rfl trivial ?_
  simp only [Try.ntmps84, List.size_toArray, List.length_cons, List.length_nil, Nat.reduceAdd, Nat.reduceSub, Array.replicate_succ, Array.replicate_zero, List.push_toArray, List.append_toArray, List.nil_append, List.cons_append]
  gi_wp2_with fail
  refine ⟨trivial, (callsIn_wide.2 (Backward_any _ _ _ _)).mono ?_⟩
  rintro e w' ⟨rfl, rfl⟩
  gi_wp2_with fail
  have kb := ((Blk.new w 148 #[.slice a2 m c2]).alloc (.cells #[.bool false] 4)).alloc (.cells #[.slice a m c] 148)
  have kr := by simpa only [World.size_alloc] using (Blk.new (w.alloc (.cells #[.slice a2 m c2] 148)) 4 #[.bool false]).alloc (.cells #[.slice a m c] 148)
  have ka := by simpa only [World.size_alloc] using Blk.new ((w.alloc (.cells #[.slice a2 m c2] 148)).alloc (.cells #[.bool false] 4)) 148 #[.slice a m c]
  have hB := jwd_al (jwd_al (jwd_al (Below.refl _ w) (.cells #[.slice a2 m c2] 148)) (.cells #[.bool false] 4)) (.cells #[.slice a m c] 148)
  have hsz : (((w.alloc (.cells #[.slice a2 m c2] 148)).alloc (.cells #[.bool false] 4)).alloc (.cells #[.slice a m c] 148)).heap.size = w.heap.size + 3 := by simp
  obtain ⟨W0, hW0⟩ : ∃ W0, ((w.alloc (.cells #[.slice a2 m c2] 148)).alloc (.cells #[.bool false] 4)).alloc (.cells #[.slice a m c] 148) = W0 := ⟨_, rfl⟩
  rw [hW0] at kb kr ka hB hsz ⊢
  clear hW0
  refine wpIn_rangeFunc_ownG (n := 10) rfl (by omega) (gf := 145) (lb := #[.pointer (some ⟨w.heap.size + 1 + 1, 0, none⟩)]) rfl trivial (enters_of Try.func145 (by kernel_rfl) rfl)
    (Kp := KpB (w.heap.size + 3))
    (back_stopsK Fence.wide 9 trivial rfl (by omega) (w.heap.size + 1 + 1) (w.heap.size + 3) xs m a c hxH.out hm W0 (by omega) (by omega) (ka.cell rfl) ((hrH.out.rd.below (Nat.le_refl _) hB).mono (by omega))) (fun h k => h.trans k) (fun W l o o' hl _ _ _ k hk => World.putObj_heap_other (by omega)) (Below.refl _ _) (fun _ => rfl)
    (fun pre W => ((Blk W w.heap.size 148 #[.slice a2 m c2] ∧ Blk W (w.heap.size + 1) 4 #[.bool false]) ∧ AgreeB xs ys m pre) ∧ Below w.heap.size w W)
    (fun c pre W => (c = .ret ∧ DiffB xs ys m pre W (w.heap.size + 1)) ∧ Below w.heap.size w W)
    (OwnFrom.and (fun s A B row hs hg hr => ⟨⟨blk_keeps hs.1.1 hg (fun r e => (hr r e).2), blk_keeps hs.1.2 hg (fun r e => (hr r e).2)⟩, hs.2⟩) (ownFrom_below (Nat.le_refl _) (by omega)))
    (fun c => OwnFrom.and (fun s A B row hs hg hr => ⟨hs.1, hs.2.kept hg (fun r e => (hr r e).2)⟩) (ownFrom_below (Nat.le_refl _) (by omega)))
    ⟨⟨⟨kb, kr⟩, fun x hx => by simp at hx⟩, hB⟩
    (fun x => { tmps := #[.slice a m c, .slice a2 m c2, undef, .pointer (some ⟨w.heap.size, 0, none⟩), .pointer (some ⟨w.heap.size + 1, 0, none⟩), .int .i64 ((m - 1 - x.val : Nat) : Int), .int .u64 ((xs[m - 1 - x.val]?.getD 0 : Nat) : Int), .slice a m c, .int .i64 (m : Int), .slice a2 m c2, .int .i64 (m : Int), .bool false, undef, undef, undef, undef, undef, .slice a m c, .func (.func 145) #[] #[.pointer (some ⟨w.heap.size + 1 + 1, 0, none⟩)], .int .i64 ((m - 1 - x.val : Nat) : Int), .int .u64 ((xs[m - 1 - x.val]?.getD 0 : Nat) : Int), undef, undef, undef, undef, undef, undef, undef, undef, undef, undef, undef, undef], defers := [] }) ?assign ?body ?done ?stop
  case assign =>
    intro l x W K hK
    simp only [encB]
    gi_wp2
    exact hK
  case body =>
    rintro l pre ⟨p, hp⟩ W ⟨⟨⟨kb1, kr1⟩, hag⟩, hB1⟩ hlt
    dsimp only
    obtain ⟨j, hj⟩ : ∃ j, m - 1 - p = j := ⟨_, rfl⟩
    rw [hj]
    obtain ⟨b, o, rfl, hb, hcell⟩ := hr2H.out.rd.at (i := j) (by have := hyH.out; omega)
    have c2 := (hB1.cell (p := ⟨b, o + j, none⟩) hb).trans hcell
    have c0 := kb1.cell (i := 0) rfl
    have r0 := kr1.cell (i := 0) rfl
    have f0 := kr1.frozen 0
    obtain ⟨x, hx⟩ : ∃ x, xs[j]?.getD 0 = x := ⟨_, rfl⟩
    obtain ⟨y, hy⟩ : ∃ y, ys[j]?.getD 0 = y := ⟨_, rfl⟩
    have hxy : AgreeB xs ys m pre → x = y → AgreeB xs ys m (pre ++ [⟨p, hp⟩]) := fun h e z hz => by
      rcases List.mem_append.1 hz with h1 | h1
      · exact h z h1
      · simp at h1; subst h1
        show xs[m - 1 - p]?.getD 0 = _
        rw [hj, hx, hy]; exact e
    have hdf : AgreeB xs ys m pre → x ≠ y → ∀ W', Blk W' (w.heap.size + 1) 4 #[.bool (decide (x < y))] → DiffB xs ys m (pre ++ [⟨p, hp⟩]) W' (w.heap.size + 1) := fun h e W' hk =>
      ⟨pre, ⟨p, hp⟩, rfl, h, by show xs[m - 1 - p]?.getD 0 ≠ _; rw [hj, hx, hy]; exact e, by show Blk W' _ _ #[.bool (decide (xs[m - 1 - p]?.getD 0 < ys[m - 1 - p]?.getD 0))]; rw [hj, hx, hy]; exact hk⟩
    rw [hx]
    rw [hy] at c2
    have hxyH := Lib.hid hxy
    have hdfH := Lib.hid hdf
    have hjm : j < m := by omega
    clear hx hy hxy hdf hj hcell hlt
    by_cases e : x = y
    · have hnew := Lib.hid (hxyH.out hag e)
      subst e
      clear hxyH hdfH
      gi_wp2_with fail
      exact ⟨KeepsFrom.refl _ _, fun k hk => rfl, ⟨⟨kb1, kr1⟩, hnew.out⟩, hB1⟩
    · have e1 : ((x : Int) != (y : Int)) = true := by simp; omega
      have e2 : ((x : Int) == (y : Int)) = false := by simp; omega
      have e3 : ¬ (x : Int) = (y : Int) := by omega
      gi_wp2_with fail
      have kr2 := kr1.set 0 (.bool (decide (x < y)))
      have hB2 := hB1.setCell (p := ⟨w.heap.size + 1, 0, none⟩) (by simp) (.bool (decide (x < y)))
      have hd := decide_cast x y
      refine ⟨(KeepsOthers.setCell _ _ _).from _, ⟨rfl, hdfH.out hag e _ ?_⟩, ?_⟩
      · simpa using kr2
      · simpa using hB2
  case done =>
    rintro D ys' W hD hys ⟨⟨⟨kb1, kr1⟩, hag⟩, hB1⟩ hK
    have hle : decide (V ≤ V2) = true := by
      have hall : ∀ j : Nat, xs[j]?.getD 0 = ys[j]?.getD 0 := fun j => by
        by_cases hj : j < m
        · have hmem : m - 1 - j ∈ ys'.map Fin.val := by rw [hys]; exact List.mem_range.2 (by omega)
          obtain ⟨x, hx, hxv⟩ := List.mem_map.1 hmem
          have := hag x hx
          rw [hxv, show m - 1 - (m - 1 - j) = j by omega] at this
          exact this
        · rw [List.getElem?_eq_none (by have := hxH.out; omega), List.getElem?_eq_none (by have := hyH.out; omega)]
      have := val_same (B := two64) xs ys hall
      rw [hrH.out.val, hr2H.out.val] at this
      simp; omega
    have hleH := Lib.hid hle
    have c0 := kr1.cell (i := 0) rfl
    have f0 := kr1.frozen 0
    clear hle hag hys
    gi_wp2
    have hKf : (W.setCell ⟨w.heap.size + 1, 0, none⟩ (.bool true)).heap[D]? = some (.deferred (some [])) := (Below.heap_setCell _ _ _ _ (fun e => by simp at e; omega)).trans hK
    have kf := (kr1.set 0 (.bool true)).putObj (l := D) (by omega) (.deferred none)
    have g0 := kf.cell (i := 0) (v := .bool true) (by simp)
    refine ⟨by simp, .inl ⟨_, _, rfl, run_takeDeferred hKf, ?_⟩⟩
    refine ⟨.bool true, by simp [results, Try.results84, go_sem, g0], ret_b hleH.out.symm, ?_⟩
    exact (hB1.setCell (p := ⟨w.heap.size + 1, 0, none⟩) (by simp) _).trans (belowK_b (w := w) (Nat.le_refl _) _ D _ _ (by omega) hKf rfl rfl)
  case stop =>
    rintro D c pre W hD hpre ⟨⟨rfl, pre', x, rfl, hag, hne, kr1⟩, hB1⟩ hK
    obtain ⟨j, hj⟩ : ∃ j, m - 1 - x.val = j := ⟨_, rfl⟩
    rw [hj] at hne kr1
    have hxv : x.val = pre'.length ∧ pre'.map Fin.val = List.range pre'.length := by
      rw [List.map_append, List.length_append] at hpre
      simp only [List.map_cons, List.map_nil, List.length_cons, List.length_nil, Nat.zero_add, List.range_succ] at hpre
      have h1 := List.append_inj hpre (by simp)
      exact ⟨by simpa using h1.2, h1.1⟩
    have hup : ∀ i : Nat, j < i → xs[i]?.getD 0 = ys[i]?.getD 0 := fun i hi => by
      by_cases him : i < m
      · have hmem : m - 1 - i ∈ pre'.map Fin.val := by rw [hxv.2]; exact List.mem_range.2 (by have := x.isLt; omega)
        obtain ⟨z, hz, hzv⟩ := List.mem_map.1 hmem
        have := hag z hz
        rw [hzv, show m - 1 - (m - 1 - i) = i by omega] at this
        exact this
      · rw [List.getElem?_eq_none (by have := hxH.out; omega), List.getElem?_eq_none (by have := hyH.out; omega)]
    have hval : decide (xs[j]?.getD 0 < ys[j]?.getD 0) = decide (V ≤ V2) := by
      by_cases hlt : xs[j]?.getD 0 < ys[j]?.getD 0
      · have := val_order two64_pos hrH.out.words hr2H.out.words hup hlt
        rw [hrH.out.val, hr2H.out.val] at this
        rw [show decide (V ≤ V2) = true by simp; omega]
        simp [hlt]
      · have := val_order two64_pos hr2H.out.words hrH.out.words (fun i hi => (hup i hi).symm) (i := j) (by omega)
        rw [hrH.out.val, hr2H.out.val] at this
        rw [show decide (V ≤ V2) = false by simp; omega]
        simp; omega
    rw [hval] at kr1
    clear hval hup hxv hne hag hpre hj
    gi_wp2
    have kf := kr1.putObj (l := D) (by omega) (.deferred none)
    have g0 := kf.cell (i := 0) (v := .bool (decide (V ≤ V2))) (by simp)
    refine ⟨by simp, .inl ⟨_, _, rfl, run_takeDeferred hK, ?_⟩⟩
    refine ⟨.bool (decide (V ≤ V2)), by simp [results, Try.results84, go_sem, g0], rfl, ?_⟩
    exact hB1.trans (belowK_b (w := w) (Nat.le_refl _) _ D _ _ (by omega) hK rfl rfl)

/-- The program's comparison. -/
theorem atMost_any (a a2 : Option Addr) (c c2 n n2 : Nat) (xs ys : List Nat) (V V2 : Nat) (v : Bool) (hv : decide (V ≤ V2) = v) (hx : xs.length = n) (hy : ys.length = n2) (hm : n ≤ 100000) (w : World) (hr : LgR w a xs V) (hr2 : LgR w a2 ys V2) :
    Calls Try.prog 84 #[.slice a n c, .slice a2 n2 c2] w fun e w' => e = .returned (.bool v) ∧ Below w.heap.size w w' := by
  subst hv
  by_cases e : n = n2
  · subst e
    exact atMost_eq a a2 c c2 n xs ys V V2 hx hy hm w hr hr2
  · refine atMost_ne a a2 c c2 n n2 _ ?_ e w
    by_cases hlt : n < n2
    · have := val_short two64_pos hr.words hr2.trim (by omega)
      rw [hr.val, hr2.val] at this
      simp [hlt]; omega
    · have := val_short two64_pos hr2.words hr.trim (by omega)
      rw [hr.val, hr2.val] at this
      simp [hlt]; omega

end Go.Proofs.Ytaejdgjfnoefjaa

/- Contracts and laws (McC). -/
import Derived.Lib.MinMax
import Derived.Deep.WholeRow
import Derived.Deep.DeepCutAuto
import Derived.Test.YtekiemlniegddaaGreatQM7
import Derived.Test.YtekiemlniegddaaGreatQM4
set_option linter.unusedVariables false
set_option linter.unusedSimpArgs false
namespace Go.Proofs.YtekiemlniegddaaGreat
open Go Go.RowKit Go.Shelf
/-- What an operation of a machine needs. -/
structure NeedN where
 d : Bool
 a : Bool
 b : Bool
 ad : Bool
 val : Int
 fn : Value
def needL : List NeedN := [⟨false, false, false, false, 0, .nilFunc⟩, ⟨true, false, false, true, 2147483648, .func (.func 118) #[] #[]⟩, ⟨false, true, false, true, 0, .func (.func 119) #[] #[]⟩, ⟨true, false, false, false, 2147483648, .func (.func 120) #[] #[]⟩, ⟨true, true, false, false, 0, .func (.func 121) #[] #[]⟩, ⟨true, true, true, false, 0, .func (.func 122) #[] #[]⟩, ⟨true, true, false, false, 65536, .func (.func 123) #[] #[]⟩]
def needAt (k : Nat) : NeedN := needL[k]?.getD ⟨false, false, false, false, 0, .nilFunc⟩
theorem tab_at {k : Nat} (hk : k < 7) : tabC[k * 6]? = some (.bool (needAt k).d) ∧ tabC[k * 6 + 1]? = some (.bool (needAt k).a) ∧ tabC[k * 6 + 2]? = some (.bool (needAt k).b) ∧ tabC[k * 6 + 3]? = some (.bool (needAt k).ad) ∧ tabC[k * 6 + 4]? = some (.int .i64 (needAt k).val) ∧ tabC[k * 6 + 5]? = some (needAt k).fn := by
 match k, hk with
 | 0, _ => exact ⟨rfl, rfl, rfl, rfl, rfl, rfl⟩
 | 1, _ => exact ⟨rfl, rfl, rfl, rfl, rfl, rfl⟩
 | 2, _ => exact ⟨rfl, rfl, rfl, rfl, rfl, rfl⟩
 | 3, _ => exact ⟨rfl, rfl, rfl, rfl, rfl, rfl⟩
 | 4, _ => exact ⟨rfl, rfl, rfl, rfl, rfl, rfl⟩
 | 5, _ => exact ⟨rfl, rfl, rfl, rfl, rfl, rfl⟩
 | 6, _ => exact ⟨rfl, rfl, rfl, rfl, rfl, rfl⟩
/-- Whether an instruction is valid, by its operation's needs. -/
theorem insB_is (v : VecN) (x : InsN) {k : Nat} (hk : x.op = (k : Int)) (h1 : 1 ≤ k) (h6 : k < 7) :
  insB v x = (((!(needAt k).d || inR x.d 0 (v.regs - 1)) && ((!(needAt k).a || inR x.a 0 (v.regs - 1)) && ((!(needAt k).b || inR x.b 0 (v.regs - 1)) && (!decide (0 < (needAt k).val) || inR x.val (-(needAt k).val) (needAt k).val)))) &&
   ((!(needAt k).ad || adrB v x.ad) && (if k = 4 then x.pt.ok else if k = 5 then inR x.how 1 6 else true))) := by
 unfold insB
 rw [hk]
 match k, h1, h6 with
 | 1, _, _ => simp [needAt, needL, Bool.and_assoc]
 | 2, _, _ => simp [needAt, needL]
 | 3, _, _ => simp [needAt, needL]
 | 4, _, _ => simp [needAt, needL, Bool.and_assoc]
 | 5, _, _ => simp [needAt, needL, Bool.and_assoc]
 | 6, _, _ => simp [needAt, needL, Bool.and_assoc]
theorem insB_no (v : VecN) (x : InsN) (h : x.op < 1 ∨ 7 ≤ x.op) : insB v x = false := by
 unfold insB
 rw [if_neg (by omega), if_neg (by omega), if_neg (by omega), if_neg (by omega), if_neg (by omega), if_neg (by omega)]
def minL : List Int → Int
 | [] => 0
 | x :: l => l.foldl min x
theorem minL_snoc {ys : List Int} (x : Int) (h : ys ≠ []) : minL (ys ++ [x]) = min (minL ys) x := by
 cases ys with
 | nil => exact absurd rfl h
 | cons a l => simp [minL, List.foldl_append]
theorem minL_take {xs : List Int} {k : Nat} (h0 : 0 < k) (hk : k < xs.length) : minL (xs.take (k + 1)) = min (minL (xs.take k)) (xs[k]?.getD 0) := by
 rw [List.take_succ_eq_append_getElem hk, List.getElem?_eq_getElem hk]
 exact minL_snoc _ (by intro e; have := congrArg List.length e; rw [List.length_take] at this; simp only [List.length_nil] at this; omega)
set_option maxRecDepth 100000 in
set_option maxHeartbeats 2000000 in
theorem MinP_any (a : Option Addr) (c n : Nat) (xs : List Int) (hn : xs.length = n) (h0 : 0 < n) (hm : n ≤ 9223372036854775807) (w : World) (hr : Rd w.heap.size w a xs) :
  Calls Tryz.prog 126 #[.slice a n c] w fun e w' => e = .returned (.int .i64 (minL xs)) ∧ w' = w := by
 have hnH := Lib.hid hn
 rcases hr with h | ⟨b, o, rfl, hb, hc⟩
 ·exfalso; rw [h] at hn; simp at hn; omega
 rw [hn] at hc
 have c0 := hc 0 h0
 obtain ⟨x0, hx0⟩ : ∃ x, xs[0]?.getD 0 = x := ⟨_, rfl⟩
 rw [hx0] at c0
 have hone : minL (xs.take 1) = x0 := by
  cases xs with
  | nil => simp at hn; omega
  | cons a l => simpa [minL] using hx0
 have hoH := Lib.hid hone
 have hcH := Lib.hid hc
 clear hone hn hx0 hc
 rw [Nat.add_zero] at c0
 go_enter Tryz.func126, Tryz.ntmps126
 go_wp2
 go_loop [3, 4] (fun v i => ∃ k : Nat, 1 ≤ k ∧ k ≤ n ∧ i = .int .i64 (k : Int) ∧ ∃ y : Int, v = .int .i64 y ∧ Hid (minL (xs.take k) = y)) (fun _ i => n - (intOf i).toNat)
 case atStart => exact ⟨1, Nat.le_refl _, h0, rfl, x0, rfl, hoH⟩
 case round =>
  obtain ⟨k, hk1, hk, rfl, y, rfl, hy⟩ := hrel
  by_cases hlt : k < n
  ·have ck := hcH.out k hlt
   obtain ⟨x, hx⟩ : ∃ x, xs[k]?.getD 0 = x := ⟨_, rfl⟩
   rw [hx] at ck
   obtain ⟨z, hz⟩ : ∃ z, min y x = z := ⟨_, rfl⟩
   have hnew : minL (xs.take (k + 1)) = z := by rw [minL_take (by omega) (by have := hnH.out; omega), hy.out, hx, hz]
   have hnewH := Lib.hid hnew
   clear hnew hx
   go_wp2_with fail
   go_round
   case rel => exact ⟨k + 1, by omega, by omega, by go_num, z, rfl, hnewH⟩
   case measure => simp [intOf]; omega
  ·have hy2 := hy.out
   rw [List.take_of_length_le (by have := hnH.out; omega)] at hy2
   have hyH := Lib.hid hy2
   clear hy2
   go_wp2
   go_ret
   exact ⟨ret_int hyH.out.symm, rfl⟩
def maxL : List Int → Int
 | [] => 0
 | x :: l => l.foldl max x
theorem maxL_snoc {ys : List Int} (x : Int) (h : ys ≠ []) : maxL (ys ++ [x]) = max (maxL ys) x := by
 cases ys with
 | nil => exact absurd rfl h
 | cons a l => simp [maxL, List.foldl_append]
theorem maxL_take {xs : List Int} {k : Nat} (h0 : 0 < k) (hk : k < xs.length) : maxL (xs.take (k + 1)) = max (maxL (xs.take k)) (xs[k]?.getD 0) := by
 rw [List.take_succ_eq_append_getElem hk, List.getElem?_eq_getElem hk]
 exact maxL_snoc _ (by intro e; have := congrArg List.length e; rw [List.length_take] at this; simp only [List.length_nil] at this; omega)
set_option maxRecDepth 100000 in
set_option maxHeartbeats 2000000 in
theorem MaxP_any (a : Option Addr) (c n : Nat) (xs : List Int) (hn : xs.length = n) (h0 : 0 < n) (hm : n ≤ 9223372036854775807) (w : World) (hr : Rd w.heap.size w a xs) :
  Calls Tryz.prog 127 #[.slice a n c] w fun e w' => e = .returned (.int .i64 (maxL xs)) ∧ w' = w := by
 have hnH := Lib.hid hn
 rcases hr with h | ⟨b, o, rfl, hb, hc⟩
 ·exfalso; rw [h] at hn; simp at hn; omega
 rw [hn] at hc
 have c0 := hc 0 h0
 obtain ⟨x0, hx0⟩ : ∃ x, xs[0]?.getD 0 = x := ⟨_, rfl⟩
 rw [hx0] at c0
 have hone : maxL (xs.take 1) = x0 := by
  cases xs with
  | nil => simp at hn; omega
  | cons a l => simpa [maxL] using hx0
 have hoH := Lib.hid hone
 have hcH := Lib.hid hc
 clear hone hn hx0 hc
 rw [Nat.add_zero] at c0
 go_enter Tryz.func127, Tryz.ntmps127
 go_wp2
 go_loop [3, 4] (fun v i => ∃ k : Nat, 1 ≤ k ∧ k ≤ n ∧ i = .int .i64 (k : Int) ∧ ∃ y : Int, v = .int .i64 y ∧ Hid (maxL (xs.take k) = y)) (fun _ i => n - (intOf i).toNat)
 case atStart => exact ⟨1, Nat.le_refl _, h0, rfl, x0, rfl, hoH⟩
 case round =>
  obtain ⟨k, hk1, hk, rfl, y, rfl, hy⟩ := hrel
  by_cases hlt : k < n
  ·have ck := hcH.out k hlt
   obtain ⟨x, hx⟩ : ∃ x, xs[k]?.getD 0 = x := ⟨_, rfl⟩
   rw [hx] at ck
   obtain ⟨z, hz⟩ : ∃ z, max y x = z := ⟨_, rfl⟩
   have hnew : maxL (xs.take (k + 1)) = z := by rw [maxL_take (by omega) (by have := hnH.out; omega), hy.out, hx, hz]
   have hnewH := Lib.hid hnew
   clear hnew hx
   go_wp2_with fail
   go_round
   case rel => exact ⟨k + 1, by omega, by omega, by go_num, z, rfl, hnewH⟩
   case measure => simp [intOf]; omega
  ·have hy2 := hy.out
   rw [List.take_of_length_le (by have := hnH.out; omega)] at hy2
   have hyH := Lib.hid hy2
   clear hy2
   go_wp2
   go_ret
   exact ⟨ret_int hyH.out.symm, rfl⟩
theorem minL_ge {lo : Int} : ∀ {xs : List Int}, xs ≠ [] → (lo ≤ minL xs ↔ ∀ x ∈ xs, lo ≤ x)
 | [], h => absurd rfl h
 | a :: l, _ => by
  unfold minL
  have key : ∀ (l : List Int) (a : Int), lo ≤ l.foldl min a ↔ lo ≤ a ∧ ∀ x ∈ l, lo ≤ x := by
   intro l
   induction l with
   | nil => simp
   | cons b l ih => intro a; rw [List.foldl_cons, ih]; simp; constructor <;> (rintro h; refine ⟨by omega, ?_⟩) <;> first | exact ⟨by omega, h.2⟩ | exact h.2.2
  rw [key]; simp
theorem maxL_le {hi : Int} : ∀ {xs : List Int}, xs ≠ [] → (maxL xs ≤ hi ↔ ∀ x ∈ xs, x ≤ hi)
 | [], h => absurd rfl h
 | a :: l, _ => by
  unfold maxL
  have key : ∀ (l : List Int) (a : Int), l.foldl max a ≤ hi ↔ a ≤ hi ∧ ∀ x ∈ l, x ≤ hi := by
   intro l
   induction l with
   | nil => simp
   | cons b l ih => intro a; rw [List.foldl_cons, ih]; simp; constructor <;> (rintro h; refine ⟨by omega, ?_⟩) <;> first | exact ⟨by omega, h.2⟩ | exact h.2.2
  rw [key]; simp
/-- Addresses are valid, by their least and their greatest. -/
theorem adrB_is {v : VecN} {l : List Int} (hl : 0 < l.length) : adrB v l = (decide ((l.length : Int) = v.lanes) && (!decide (minL l < -1) && !decide (maxL l ≥ v.mem))) := by
 have hne : l ≠ [] := by intro e; rw [e] at hl; simp at hl
 unfold adrB
 congr 1
 rw [Bool.eq_iff_iff]
 simp only [List.all_eq_true, inR_true, Bool.and_eq_true, Bool.not_eq_true', decide_eq_false_iff_not]
 have h1 := minL_ge (lo := -1) hne
 have h2 := maxL_le (hi := v.mem - 1) hne
 constructor
 ·intro h
  have := h1.2 (fun x hx => (h x hx).1)
  have := h2.2 (fun x hx => (h x hx).2)
  omega
 ·intro h x hx
  exact ⟨h1.1 (by omega) x hx, h2.1 (by omega) x hx⟩
abbrev zerC : Array Value := #[.bool false, .bool false, .bool false, .bool false, .int .i64 0, .nilFunc, .bool false, .bool false, .bool false, .bool false, .int .i64 0, .nilFunc, .bool false, .bool false, .bool false, .bool false, .int .i64 0, .nilFunc, .bool false, .bool false, .bool false, .bool false, .int .i64 0, .nilFunc, .bool false, .bool false, .bool false, .bool false, .int .i64 0, .nilFunc, .bool false, .bool false, .bool false, .bool false, .int .i64 0, .nilFunc, .bool false, .bool false, .bool false, .bool false, .int .i64 0, .nilFunc]
theorem tabC_one : (tabC.all (·.oneCell')) = true := by unfold tabC; simp [Value.oneCell']
set_option maxRecDepth 100000 in
set_option maxHeartbeats 8000000 in
theorem table_any (w : World) : Calls Tryz.prog 73 #[] w fun e w' => e = .returned (.agg tabC) ∧ Below w.heap.size w w' := by
 have hB : Below w.heap.size w (w.alloc (.cells tabC 139)) := jb_al (Below.refl _ w) _
 go_enter Tryz.func73, Tryz.ntmps73
 go_upto_region 1 with fail
 refine wp_region_lit ?_
 refine wpList_build rfl _ _ rfl (by kernel_rfl) ?_
 refine wpList_build rfl _ _ rfl (by kernel_rfl) ?_
 refine wpList_build rfl _ _ rfl (by kernel_rfl) ?_
 refine wpList_build rfl _ _ rfl (by kernel_rfl) ?_
 refine wpList_build rfl _ _ rfl (by kernel_rfl) ?_
 refine wpList_build rfl _ _ rfl (by kernel_rfl) ?_
 refine wpList_build rfl _ _ rfl (by kernel_rfl) ?_
 refine wpList_store_row rfl 139 _ _ rfl w.heap.size tabC rfl (by kernel_rfl) 139 zerC (heap_alloc_last w _) (by kernel_rfl) rfl tabC_one ?_
 rw [World.setRow_alloc_new]
 refine wpList_nil ?_
 rename_i Q' K hK
 refine hK _ _ (wp_ret ?_)
 show bodyPost Tryz.prog Tryz.f73 (fun e w' => e = .returned (.agg tabC) ∧ Below w.heap.size w w') _ _ _
 refine bodyPost_ret (v := .agg tabC) ?_ rfl ⟨rfl, hB⟩
 rw [results_cell_row rfl _ _ w.heap.size 139 tabC (0, 0) _ rfl (heap_alloc_last w _) Tryz.underlying139 rfl (by kernel_rfl)]
set_option maxRecDepth 100000 in
set_option maxHeartbeats 2000000 in
theorem register_any (need : Bool) (r : Int) (v : VecN) (hv1 : 2 ≤ v.regs) (hv2 : v.regs ≤ 16) (bv : Nat) (q : Bool) (hq : (!need || inR r 0 (v.regs - 1)) = q) (w : World) (kv : Blk w bv 26 #[.int .i64 v.lanes, .int .i64 v.regs, .int .i64 v.mem]) :
  Calls Tryz.prog 125 #[.bool need, .int .i64 r, .pointer (some ⟨bv, 0, none⟩)] w fun e w' => e = .returned (.bool q) ∧ w' = w := by
 have v1 := kv.cell (i := 1) rfl
 have hqH := Lib.hid hq
 clear hq kv
 cases need with
 | false =>
  have hq2 : q = true := by rw [← hqH.out]; rfl
  subst hq2
  go_enter Tryz.func125, Tryz.ntmps125
  go_wp2_with fail
  go_ret
  exact ⟨rfl, rfl⟩
 | true =>
  have hq2 : inR r 0 (v.regs - 1) = q := by rw [← hqH.out]; simp
  have hq2H := Lib.hid hq2
  clear hq2 hqH
  go_enter Tryz.func125, Tryz.ntmps125
  go_wp2_with (go_at_call 70; refine (pwithin r 0 (v.regs - 1) q hq2H.out _).mono ?_; rintro e w' ⟨rfl, rfl⟩)
  go_ret
  exact ⟨rfl, rfl⟩
theorem enters_register : ∀ args w, (callFunc 125 args).run Tryz.prog w = .ok (.enter 125 args) w := enters_of Tryz.func125 (by kernel_rfl) rfl
set_option maxRecDepth 100000 in
set_option maxHeartbeats 2000000 in
theorem vector_any (v : VecN) (q : Bool) (hq : vecB v = q) (w : World) :
  Calls Tryz.prog 48 #[.agg #[.int .i64 v.lanes, .int .i64 v.regs, .int .i64 v.mem]] w fun e w' => e = .returned (.bool q) ∧ Below w.heap.size w w' := by
 have hB : Below w.heap.size w w := Below.refl _ _
 obtain ⟨q1, h1⟩ : ∃ q, inR v.lanes 1 16 = q := ⟨_, rfl⟩
 obtain ⟨q2, h2⟩ : ∃ q, inR v.regs 2 16 = q := ⟨_, rfl⟩
 obtain ⟨q3, h3⟩ : ∃ q, inR v.mem 1 8192 = q := ⟨_, rfl⟩
 have hq0 : vecB v = (q1 && (q2 && q3)) := by unfold vecB; rw [h1, h2, h3]
 rw [hq] at hq0
 have h1H := Lib.hid h1
 have h2H := Lib.hid h2
 have h3H := Lib.hid h3
 have hqH := Lib.hid hq0
 clear h1 h2 h3 hq hq0
 have tok1 : True := trivial
 have tok2 : True := trivial
 have tok3 : True := trivial
 obtain ⟨V1, hEV1, hbV1, kv⟩ := newB w 26 #[.int .i64 v.lanes, .int .i64 v.regs, .int .i64 v.mem]
 replace hB := tmB hB hbV1
 clear hbV1
 obtain ⟨m0, m1, m2⟩ := cz3 kv
 cases q1 with
 | false =>
  have hqf : q = false := by rw [hqH.out]; rfl
  subst hqf
  go_enter Tryz.func48, Tryz.ntmps48
  go_wp2_with (go_at_call 70; have _t := tok1; refine (pwithin v.lanes 1 16 false h1H.out _).mono ?_; clear _t tok1; rintro e w' ⟨rfl, rfl⟩)
  go_ret
  exact ⟨rfl, hB⟩
 | true =>
  cases q2 with
  | false =>
   have hqf : q = false := by rw [hqH.out]; rfl
   subst hqf
   go_enter Tryz.func48, Tryz.ntmps48
   go_wp2_with (first
    | (go_at_call 70; have _t := tok1; refine (pwithin v.lanes 1 16 true h1H.out _).mono ?_; clear _t tok1; rintro e w' ⟨rfl, rfl⟩)
    | (go_at_call 70; have _t := tok2; refine (pwithin v.regs 2 16 false h2H.out _).mono ?_; clear _t tok2; rintro e w' ⟨rfl, rfl⟩))
   go_ret
   exact ⟨rfl, hB⟩
  | true =>
   have hqf : q = q3 := by rw [hqH.out]; rfl
   subst hqf
   go_enter Tryz.func48, Tryz.ntmps48
   go_wp2_with (first
    | (go_at_call 70; have _t := tok1; refine (pwithin v.lanes 1 16 true h1H.out _).mono ?_; clear _t tok1; rintro e w' ⟨rfl, rfl⟩)
    | (go_at_call 70; have _t := tok2; refine (pwithin v.regs 2 16 true h2H.out _).mono ?_; clear _t tok2; rintro e w' ⟨rfl, rfl⟩)
    | (go_at_call 70; have _t := tok3; refine (pwithin v.mem 1 8192 q h3H.out _).mono ?_; clear _t tok3; rintro e w' ⟨rfl, rfl⟩))
   go_ret
   exact ⟨rfl, hB⟩
theorem pwithin2 (n lo hi : Int) (v : Bool) (hv : inR n lo hi = v) (w : World) : Calls Tryz.prog 70 #[.int .i64 n, .int .i64 lo, .int .i64 hi] w fun e w' => e = .returned (.bool v) ∧ w' = w := (pwithin n lo hi v hv w).mono fun _ _ h => ⟨h.1, h.2.symm⟩
set_option maxRecDepth 100000 in
set_option maxHeartbeats 8000000 in
theorem instr_go (v : VecN) (hv : 1 ≤ v.lanes ∧ v.lanes ≤ 16 ∧ 2 ≤ v.regs ∧ v.regs ≤ 16 ∧ 1 ≤ v.mem ∧ v.mem ≤ 8192) (x : InsN) (k : Nat) (hO : x.op = (k : Int)) (hk1 : 1 ≤ k) (hk7 : k < 7) (hhow : 0 ≤ x.how ∧ x.how ≤ 255) (ia : Option Addr) (ic : Nat) (T : Array Value) (hTs : T.size = 42) (hT : ∀ k, k < 7 → T[k * 6]? = some (.bool (needAt k).d) ∧ T[k * 6 + 1]? = some (.bool (needAt k).a) ∧ T[k * 6 + 2]? = some (.bool (needAt k).b) ∧ T[k * 6 + 3]? = some (.bool (needAt k).ad) ∧ T[k * 6 + 4]? = some (.int .i64 (needAt k).val) ∧ T[k * 6 + 5]? = some (needAt k).fn) (al : Nat) (hal : x.ad.length = al) (hal0 : al ≤ 9223372036854775807) (Q : Bool) (hQ : insB v x = Q) (w : World) (hra : Rd w.heap.size w ia x.ad) :
  Calls Tryz.prog 76 #[.agg #[.int .i64 v.lanes, .int .i64 v.regs, .int .i64 v.mem], .agg #[.int .u8 (k : Int), .int .i64 x.d, .int .i64 x.a, .int .i64 x.b, .int .i64 x.val, .int .i64 x.pt.mul, .int .i64 x.pt.add, .int .i64 x.pt.div, .int .i64 x.pt.lo, .int .i64 x.pt.hi, .int .u8 x.how, .slice ia al ic], .agg T] w fun e w' => e = .returned (.bool Q) ∧ Below w.heap.size w w' := by
 have hB : Below w.heap.size w w := Below.refl _ _
 obtain ⟨hv1, hv2, hv3, hv4, hv5, hv6⟩ := hv
 have hQ2 := insB_is v x hO hk1 hk7
 rw [hQ] at hQ2
 obtain ⟨t0, t1, t2, t3, t4, t5⟩ := hT k hk7
 have hvb : 0 ≤ (needAt k).val ∧ (needAt k).val ≤ 2147483648 := by
  match k, hk1, hk7 with
  | 1, _, _ => decide
  | 2, _, _ => decide
  | 3, _, _ => decide
  | 4, _, _ => decide
  | 5, _, _ => decide
  | 6, _, _ => decide
 obtain ⟨nd, hnd⟩ : ∃ q, (needAt k).d = q := ⟨_, rfl⟩
 obtain ⟨na, hna⟩ : ∃ q, (needAt k).a = q := ⟨_, rfl⟩
 obtain ⟨nb, hnb⟩ : ∃ q, (needAt k).b = q := ⟨_, rfl⟩
 obtain ⟨nt, hnt⟩ : ∃ q, (needAt k).ad = q := ⟨_, rfl⟩
 obtain ⟨nv, hnv⟩ : ∃ q, (needAt k).val = q := ⟨_, rfl⟩
 obtain ⟨nf, hnf⟩ : ∃ q, (needAt k).fn = .func (.func q) #[] #[] := by
  match k, hk1, hk7 with
  | 1, _, _ => exact ⟨_, rfl⟩
  | 2, _, _ => exact ⟨_, rfl⟩
  | 3, _, _ => exact ⟨_, rfl⟩
  | 4, _, _ => exact ⟨_, rfl⟩
  | 5, _, _ => exact ⟨_, rfl⟩
  | 6, _, _ => exact ⟨_, rfl⟩
 rw [hnd, hna, hnb, hnt, hnv] at hQ2
 rw [hnd] at t0
 rw [hna] at t1
 rw [hnb] at t2
 rw [hnt] at t3
 rw [hnv] at t4 hvb
 rw [hnf] at t5
 obtain ⟨q1, hq1⟩ : ∃ q, (!nd || inR x.d 0 (v.regs - 1)) = q := ⟨_, rfl⟩
 obtain ⟨q2, hq2⟩ : ∃ q, (!na || inR x.a 0 (v.regs - 1)) = q := ⟨_, rfl⟩
 obtain ⟨q3, hq3⟩ : ∃ q, (!nb || inR x.b 0 (v.regs - 1)) = q := ⟨_, rfl⟩
 obtain ⟨q4, hq4⟩ : ∃ q, inR x.val (-nv) nv = q := ⟨_, rfl⟩
 obtain ⟨q5, hq5⟩ : ∃ q, adrB v x.ad = q := ⟨_, rfl⟩
 obtain ⟨q6, hq6⟩ : ∃ q, (if k = 4 then x.pt.ok else if k = 5 then inR x.how 1 6 else true) = q := ⟨_, rfl⟩
 rw [hq1, hq2, hq3, hq4, hq5, hq6] at hQ2
 have halH := Lib.hid hal
 have hq1H := Lib.hid hq1
 have hq2H := Lib.hid hq2
 have hq3H := Lib.hid hq3
 have hq4H := Lib.hid hq4
 have hq5H := Lib.hid hq5
 have hq6H := Lib.hid hq6
 have hQH := Lib.hid hQ2
 have enters_reg := enters_register
 clear hal hO hQ hQ2 hq1 hq2 hq3 hq4 hq5 hq6 hnd hna hnb hnt hnv hnf
 have hk0 : decide ((k : Int) < 1) = false := by simp; omega
 have hk0' : ¬ (k : Int) < 1 := by omega
 have hk6 : ¬ 7 ≤ (k : Int) := by omega
 have hk6d : decide ((k : Int) ≥ 7) = false := by simp; omega
 obtain ⟨V1, hEV1, hbV1, kv⟩ := newB w 26 #[.int .i64 v.lanes, .int .i64 v.regs, .int .i64 v.mem]
 replace hra := later_i hra hbV1
 replace hB := tmB hB hbV1
 clear hbV1
 obtain ⟨m0, m1, m2⟩ := cz3 kv
 obtain ⟨V2, hEV2, hbV2, kx⟩ := newB V1 143 #[.int .u8 (k : Int), .int .i64 x.d, .int .i64 x.a, .int .i64 x.b, .int .i64 x.val, .int .i64 x.pt.mul, .int .i64 x.pt.add, .int .i64 x.pt.div, .int .i64 x.pt.lo, .int .i64 x.pt.hi, .int .u8 x.how, .slice ia al ic]
 clear m0 m1 m2
 replace kv := kv.below hbV2 kv.lt
 replace hra := later_i hra hbV2
 replace hB := tmB hB hbV2
 clear hbV2
 obtain ⟨m0, m1, m2⟩ := cz3 kv
 obtain ⟨x0, x1, x2, x3, x4, x5, x6, x7, x8, x9, x10, x11⟩ := cz12 kx
 have hbT : Below V2.heap.size V2 (V2.alloc (.cells T 139)) := jb_al (Below.refl _ V2) _
 have kT := Blk.new V2 139 T
 obtain ⟨bT, hbTe⟩ : ∃ b, V2.heap.size = b := ⟨_, rfl⟩
 obtain ⟨VT, hVT⟩ : ∃ X, V2.alloc (.cells T 139) = X := ⟨_, rfl⟩
 rw [hVT] at hbT kT
 rw [hbTe] at kT
 clear m0 m1 m2 x0 x1 x2 x3 x4 x5 x6 x7 x8 x9 x10 x11
 replace kv := kv.below hbT kv.lt
 replace kx := kx.below hbT kx.lt
 replace hra := later_i hra hbT
 replace hB := tmB hB hbT
 clear hbT
 have u0 := kT.cell t0
 have u1 := kT.cell t1
 have u2 := kT.cell t2
 have u3 := kT.cell t3
 have u4 := kT.cell t4
 have u5 := kT.cell t5
 clear t0 t1 t2 t3 t4 t5
 obtain ⟨x0, x1, x2, x3, x4, x5, x6, x7, x8, x9, x10, x11⟩ := cz12 kx
 have kn := Blk.new VT 138 #[.bool false, .bool false, .bool false, .bool false, .int .i64 0, .nilFunc]
 obtain ⟨bn, hbn⟩ : ∃ b, VT.heap.size = b := ⟨_, rfl⟩
 obtain ⟨VN, hVN⟩ : ∃ X, VT.alloc (.cells #[.bool false, .bool false, .bool false, .bool false, .int .i64 0, .nilFunc] 138) = X := ⟨_, rfl⟩
 have hbN : Below VT.heap.size VT VN := alloc_below hVN
 rw [hVN, hbn] at kn
 have hlen : VT.heap.size ≤ bn := by omega
 obtain ⟨z0, z1, z2, z3, z4, z5⟩ := cz6 kn
 have fz0 := kn.frozen 0
 have fz1 := kn.frozen 1
 have fz2 := kn.frozen 2
 have fz3 := kn.frozen 3
 have fz4 := kn.frozen 4
 have fz5 := kn.frozen 5
 have kn2 : Blk ((((((VN.setCell ⟨bn, 0, none⟩ (.bool nd)).setCell ⟨bn, 1, none⟩ (.bool na)).setCell ⟨bn, 2, none⟩ (.bool nb)).setCell ⟨bn, 3, none⟩ (.bool nt)).setCell ⟨bn, 4, none⟩ (.int .i64 nv)).setCell ⟨bn, 5, none⟩ (.func (.func nf) #[] #[])) bn 138 #[.bool nd, .bool na, .bool nb, .bool nt, .int .i64 nv, .func (.func nf) #[] #[]] := ((((((kn.set 0 (.bool nd)).set 1 (.bool na)).set 2 (.bool nb)).set 3 (.bool nt)).set 4 (.int .i64 nv)).set 5 (.func (.func nf) #[] #[]))
 have hbb : Below VT.heap.size VT ((((((VN.setCell ⟨bn, 0, none⟩ (.bool nd)).setCell ⟨bn, 1, none⟩ (.bool na)).setCell ⟨bn, 2, none⟩ (.bool nb)).setCell ⟨bn, 3, none⟩ (.bool nt)).setCell ⟨bn, 4, none⟩ (.int .i64 nv)).setCell ⟨bn, 5, none⟩ (.func (.func nf) #[] #[])) := ((((((hbN.setCell hlen (.bool nd) (p := ⟨bn, 0, none⟩)).setCell hlen (.bool na) (p := ⟨bn, 1, none⟩)).setCell hlen (.bool nb) (p := ⟨bn, 2, none⟩)).setCell hlen (.bool nt) (p := ⟨bn, 3, none⟩)).setCell hlen (.int .i64 nv) (p := ⟨bn, 4, none⟩)).setCell hlen (.func (.func nf) #[] #[]) (p := ⟨bn, 5, none⟩))
 obtain ⟨V3, hV3⟩ : ∃ X, ((((((VN.setCell ⟨bn, 0, none⟩ (.bool nd)).setCell ⟨bn, 1, none⟩ (.bool na)).setCell ⟨bn, 2, none⟩ (.bool nb)).setCell ⟨bn, 3, none⟩ (.bool nt)).setCell ⟨bn, 4, none⟩ (.int .i64 nv)).setCell ⟨bn, 5, none⟩ (.func (.func nf) #[] #[])) = X := ⟨_, rfl⟩
 rw [hV3] at kn2 hbb
 have xx0 := x0
 have xx1 := x1
 have xx2 := x2
 have xx3 := x3
 have xx4 := x4
 have xx5 := x5
 have xx6 := x6
 have xx7 := x7
 have xx8 := x8
 have xx9 := x9
 have xx10 := x10
 have xx11 := x11
 clear x0 x1 x2 x3 x4 x5 x6 x7 x8 x9 x10 x11
 replace kv := kv.below hbb kv.lt
 replace kx := kx.below hbb kx.lt
 replace hra := later_i hra hbb
 replace hB := tmB hB hbb
 clear hbb kT kn
 have kn := kn2
 clear kn2
 obtain ⟨m0, m1, m2⟩ := cz3 kv
 obtain ⟨x0, x1, x2, x3, x4, x5, x6, x7, x8, x9, x10, x11⟩ := cz12 kx
 obtain ⟨n0, n1, n2, n3, n4, n5⟩ := cz6 kn
 cases q1
 case false =>
  have hqf : Q = false := by rw [hQH.out]; simp
  subst hqf
  have tok1 : True := trivial
  have tok2 : True := trivial
  have tok3 : True := trivial
  have tok4 : True := trivial
  go_enter Tryz.func76, Tryz.ntmps76
  go_wp2_with (go_at_fn 125; have _t := tok1; refine (register_any nd x.d v hv3 hv4 _ false hq1H.out _ kv).mono ?_; clear _t tok1; rintro e w' ⟨rfl, hw⟩; rw [hw]; clear hw w')
  go_ret
  exact ⟨rfl, hB⟩
 case true =>
 cases q2
 case false =>
  have hqf : Q = false := by rw [hQH.out]; simp
  subst hqf
  have tok1 : True := trivial
  have tok2 : True := trivial
  have tok3 : True := trivial
  have tok4 : True := trivial
  go_enter Tryz.func76, Tryz.ntmps76
  go_wp2_with (first
   | (go_at_fn 125; have _t := tok1; refine (register_any nd x.d v hv3 hv4 _ true hq1H.out _ kv).mono ?_; clear _t tok1; rintro e w' ⟨rfl, hw⟩; rw [hw]; clear hw w')
   | (go_at_fn 125; have _t := tok2; refine (register_any na x.a v hv3 hv4 _ false hq2H.out _ kv).mono ?_; clear _t tok2; rintro e w' ⟨rfl, hw⟩; rw [hw]; clear hw w'))
  go_ret
  exact ⟨rfl, hB⟩
 case true =>
 cases q3
 case false =>
  have hqf : Q = false := by rw [hQH.out]; simp
  subst hqf
  have tok1 : True := trivial
  have tok2 : True := trivial
  have tok3 : True := trivial
  have tok4 : True := trivial
  go_enter Tryz.func76, Tryz.ntmps76
  go_wp2_with (first
   | (go_at_fn 125; have _t := tok1; refine (register_any nd x.d v hv3 hv4 _ true hq1H.out _ kv).mono ?_; clear _t tok1; rintro e w' ⟨rfl, hw⟩; rw [hw]; clear hw w')
   | (go_at_fn 125; have _t := tok2; refine (register_any na x.a v hv3 hv4 _ true hq2H.out _ kv).mono ?_; clear _t tok2; rintro e w' ⟨rfl, hw⟩; rw [hw]; clear hw w')
   | (go_at_fn 125; have _t := tok3; refine (register_any nb x.b v hv3 hv4 _ false hq3H.out _ kv).mono ?_; clear _t tok3; rintro e w' ⟨rfl, hw⟩; rw [hw]; clear hw w'))
  go_ret
  exact ⟨rfl, hB⟩
 case true =>
 by_cases h0 : nv > 0
 case pos =>
  have h0d : decide (nv > 0) = true := decide_eq_true h0
  have h0e : decide (0 < nv) = true := decide_eq_true h0
  cases q4
  case false =>
   have hqf : Q = false := by rw [hQH.out, h0e]; simp
   subst hqf
   have tok1 : True := trivial
   have tok2 : True := trivial
   have tok3 : True := trivial
   have tok4 : True := trivial
   go_enter Tryz.func76, Tryz.ntmps76
   go_wp2_with (first
    | (go_at_fn 125; have _t := tok1; refine (register_any nd x.d v hv3 hv4 _ true hq1H.out _ kv).mono ?_; clear _t tok1; rintro e w' ⟨rfl, hw⟩; rw [hw]; clear hw w')
    | (go_at_fn 125; have _t := tok2; refine (register_any na x.a v hv3 hv4 _ true hq2H.out _ kv).mono ?_; clear _t tok2; rintro e w' ⟨rfl, hw⟩; rw [hw]; clear hw w')
    | (go_at_fn 125; have _t := tok3; refine (register_any nb x.b v hv3 hv4 _ true hq3H.out _ kv).mono ?_; clear _t tok3; rintro e w' ⟨rfl, hw⟩; rw [hw]; clear hw w')
    | (go_at_call 70; have _t := tok4; refine (pwithin2 x.val (-nv) nv false hq4H.out _).mono ?_; clear _t tok4; rintro e w' ⟨rfl, hw⟩; rw [hw]; clear hw w'))
   go_ret
   exact ⟨rfl, hB⟩
  case true =>
   have hQ3 := hQH.out
   rw [h0e] at hQ3
   clear hQH
   have hQH := Lib.hid hQ3
   clear hQ3 h0e
   have tok1 : True := trivial
   have tok2 : True := trivial
   have tok3 : True := trivial
   have tok4 : True := trivial
   go_enter Tryz.func76, Tryz.ntmps76
   have hS : Below V3.heap.size V3 V3.drew := (Below.refl _ _).drew
   go_wp2_with (first
    | (go_at_fn 125; have _t := tok1; refine (register_any nd x.d v hv3 hv4 _ true hq1H.out _ kv).mono ?_; clear _t tok1; rintro e w' ⟨rfl, hw⟩; rw [hw]; clear hw w')
    | (go_at_fn 125; have _t := tok2; refine (register_any na x.a v hv3 hv4 _ true hq2H.out _ kv).mono ?_; clear _t tok2; rintro e w' ⟨rfl, hw⟩; rw [hw]; clear hw w')
    | (go_at_fn 125; have _t := tok3; refine (register_any nb x.b v hv3 hv4 _ true hq3H.out _ kv).mono ?_; clear _t tok3; rintro e w' ⟨rfl, hw⟩; rw [hw]; clear hw w')
    | (go_at_call 70; have _t := tok4; refine (pwithin2 x.val (-nv) nv true hq4H.out _).mono ?_; clear _t tok4; rintro e w' ⟨rfl, hw⟩; rw [hw]; clear hw w'))
   clear hEV1 hEV2 hbTe hVT hbn hVN hV3 z0 z1 z2 z3 z4 z5 fz0 fz1 fz2 fz3 fz4 fz5 u0 u1 u2 u3 u4 u5
   clear xx0 xx1 xx2 xx3 xx4 xx5 xx6 xx7 xx8 xx9 xx10 xx11
   have lv := kv.lt
   have lx := kx.lt
   have ln := kn.lt
   cases nt
   case false =>
    refine plain_region (fun W' => Below V3.heap.size V3 W') 24 24 (by kernel_rfl) rfl ?_
    simp only [Array.replicate_succ, Array.replicate_zero, List.push_toArray, List.nil_append, List.cons_append]
    obtain ⟨X0, hXX0⟩ : ∃ X : World, V3.drew = X := ⟨_, rfl⟩
    rw [hXX0] at hS ⊢
    clear hXX0
    refine tkz 0 rfl hS (fun w' hS' => by go_simp; rfl) ?_
    simp only [nrz]
    refine tkz 1 (v := ?i1v1) rfl hS (fun w' hS' => ?i1y1) ?i1z1
    case i1y1 =>
     have y0 := (kv.below hS' lv).cell (i := 0) rfl
     have y2 := (kv.below hS' lv).cell (i := 2) rfl
     have y3 := (kn.below hS' ln).cell (i := 3) rfl
     have y11 := (kx.below hS' lx).cell (i := 11) rfl
     clear hS'
     go_simp
     rfl
    simp only [nrz]
    refine tkz 2 rfl hS (fun w' hS' => by go_simp; rfl) ?_
    simp only [nrz]
    refine psz 3 rfl hS ?_
    simp only [nrz]
    refine psz 4 rfl hS ?_
    simp only [nrz]
    refine psz 5 rfl hS ?_
    simp only [nrz]
    refine psz 6 rfl hS ?_
    simp only [nrz]
    refine psz 7 rfl hS ?_
    simp only [nrz]
    refine psz 8 rfl hS ?_
    simp only [nrz]
    refine psz 9 rfl hS ?_
    simp only [nrz]
    refine psz 10 rfl hS ?_
    simp only [nrz]
    refine psz 11 rfl hS ?_
    simp only [nrz]
    refine psz 12 rfl hS ?_
    simp only [nrz]
    refine psz 13 rfl hS ?_
    simp only [nrz]
    refine psz 14 rfl hS ?_
    simp only [nrz]
    refine psz 15 rfl hS ?_
    simp only [nrz]
    refine psz 16 rfl hS ?_
    simp only [nrz]
    refine psz 17 rfl hS ?_
    simp only [nrz]
    refine psz 18 rfl hS ?_
    simp only [nrz]
    refine psz 19 rfl hS ?_
    simp only [nrz]
    refine psz 20 rfl hS ?_
    simp only [nrz]
    refine psz 21 rfl hS ?_
    simp only [nrz]
    refine psz 22 rfl hS ?_
    simp only [nrz]
    refine tkz 23 rfl hS (fun w' hS' => by go_simp; rfl) ?_
    simp only [nrz]
    refine done_ops (by kernel_rfl) ?_
    clear m0 m1 m2 x0 x1 x2 x3 x4 x5 x6 x7 x8 x9 x10 x11 n0 n1 n2 n3 n4 n5
    replace kv := kv.below hS kv.lt
    replace kx := kx.below hS kx.lt
    replace kn := kn.below hS kn.lt
    replace hra := later_i hra hS
    replace hB := tmB hB hS
    clear hS lv lx ln
    obtain ⟨x0, x1, x2, x3, x4, x5, x6, x7, x8, x9, x10, x11⟩ := cz12 kx
    have xk0 := x0
    obtain ⟨V3, hEV3, hbV3, k0⟩ := newB X0 3 #[.int .i64 0]
    clear x0 x1 x2 x3 x4 x5 x6 x7 x8 x9 x10 x11
    replace kv := kv.below hbV3 kv.lt
    replace kx := kx.below hbV3 kx.lt
    replace kn := kn.below hbV3 kn.lt
    replace hra := later_i hra hbV3
    replace hB := tmB hB hbV3
    clear hbV3
    have kj := Blk.new V3 32 #[.int .i64 0, .int .i64 0, .slice none 0 0]
    obtain ⟨bkj, hxkj⟩ : ∃ b, V3.heap.size = b := ⟨_, rfl⟩
    obtain ⟨V3a, hAkj⟩ : ∃ X, V3.alloc (.cells #[.int .i64 0, .int .i64 0, .slice none 0 0] 32) = X := ⟨_, rfl⟩
    have hba : Below V3.heap.size V3 V3a := alloc_below hAkj
    rw [hAkj, hxkj] at kj
    have hlekj : V3.heap.size ≤ bkj := by omega
    have ykj0 := kj.cell (i := 0) rfl
    have fykj0 := kj.frozen 0
    have ykj1 := kj.cell (i := 1) rfl
    have fykj1 := kj.frozen 1
    have ykj2 := kj.cell (i := 2) rfl
    have fykj2 := kj.frozen 2
    have kjn := put3_blk kj (.int .i64 1) (.int .i64 1) (.slice (some ⟨X0.heap.size, 0, none⟩) 1 1)
    have hb : Below V3.heap.size V3 (put3 V3a bkj (.int .i64 1) (.int .i64 1) (.slice (some ⟨X0.heap.size, 0, none⟩) 1 1)) := hba.trans (put3_below hlekj (.int .i64 1) (.int .i64 1) (.slice (some ⟨X0.heap.size, 0, none⟩) 1 1))
    obtain ⟨V4, hPkj⟩ : ∃ X, put3 V3a bkj (.int .i64 1) (.int .i64 1) (.slice (some ⟨X0.heap.size, 0, none⟩) 1 1) = X := ⟨_, rfl⟩
    rw [hPkj] at kjn hb
    replace kj := kjn
    clear kjn hba hlekj
    replace kv := kv.below hb kv.lt
    replace kx := kx.below hb kx.lt
    replace kn := kn.below hb kn.lt
    replace k0 := k0.below hb k0.lt
    replace hra := later_i hra hb
    replace hB := tmB hB hb
    clear hb
    obtain ⟨x0, x1, x2, x3, x4, x5, x6, x7, x8, x9, x10, x11⟩ := cz12 kx
    obtain ⟨j0, j1, j2⟩ := cz3 kj
    by_cases h4 : k = 4
    case pos =>
     have hr1 : Rd V4.heap.size V4 (some ⟨X0.heap.size, 0, none⟩) [0] := .inr ⟨_, 0, rfl, k0.lt, fun i hi => by
      have : i < 1 := hi
      obtain rfl : i = 0 := by omega
      exact k0.cell (i := 0) rfl⟩
     have hvl : vld 1 1 [0] = true := by decide
     have h4b : ((k : Int) == 4) = true := by rw [h4]; rfl
     have hsp : (pointS 1 1 [0] x.pt).err = if q6 = true then 0 else 2 := by
      have h6 := hq6H.out
      rw [if_pos h4] at h6
      unfold pointS
      rw [if_pos hvl, h6]
      cases q6 <;> rfl
     have hspH := Lib.hid hsp
     clear hsp hvl h4
     go_wp2_with fail
     clear hEV3 hAkj hxkj hPkj ykj0 ykj1 ykj2 fykj0 fykj1 fykj2
     have hc := Point_any 1 1 (some ⟨X0.heap.size, 0, none⟩) 1 1 [0] (Lib.hid rfl) x.pt V4 (by decide) hr1
     unfold RetIm at hc
     rw [hspH.out] at hc
     refine hc.mono ?_
     clear hc
     rintro e V5 ⟨⟨vv, rfl, tt, rfl, hrow⟩, hb⟩
     clear x0 x1 x2 x3 x4 x5 x6 x7 x8 x9 x10 x11 j0 j1 j2
     replace kv := kv.below hb kv.lt
     replace kx := kx.below hb kx.lt
     replace kn := kn.below hb kn.lt
     replace k0 := k0.below hb k0.lt
     replace kj := kj.below hb kj.lt
     replace hra := later_i hra hb
     replace hB := tmB hB hb
     clear hb
     clear hrow
     cases q6
     case false =>
      have hqf : Q = false := by rw [hQH.out]; simp
      subst hqf
      rw [if_neg (by simp)]
      go_wp2_with fail
      go_ret
      exact ⟨rfl, hB⟩
     case true =>
      have hqt : Q = true := by rw [hQH.out]; simp
      subst hqt
      rw [if_pos rfl]
      go_wp2_with fail
      go_ret
      exact ⟨rfl, hB⟩
    case neg =>
    have h4b : ((k : Int) == 4) = false := by simp; omega
    by_cases h5 : k = 5
    case pos =>
     have hr1 : Rd V4.heap.size V4 (some ⟨X0.heap.size, 0, none⟩) [0] := .inr ⟨_, 0, rfl, k0.lt, fun i hi => by
      have : i < 1 := hi
      obtain rfl : i = 0 := by omega
      exact k0.cell (i := 0) rfl⟩
     have hvl : vld 1 1 [0] = true := by decide
     have h5b : ((k : Int) == 5) = true := by rw [h5]; rfl
     have hsp : (zipS 1 1 [0] 1 1 [0] x.how).err = if q6 = true then 0 else 2 := by
      have h6 := hq6H.out
      rw [if_neg h4, if_pos h5] at h6
      unfold zipS
      rw [if_pos hvl, if_pos hvl, if_pos (by decide)]
      cases q6
      ·rw [if_neg (by intro h; unfold inR at h6; simp only [decide_eq_true_eq, Bool.and_eq_false_iff, decide_eq_false_iff_not] at h6 h; omega)]; rfl
      ·rw [if_pos (by unfold inR at h6; simp only [decide_eq_true_eq, Bool.and_eq_true] at h6 ⊢; omega)]; rfl
     have hspH := Lib.hid hsp
     clear hsp hvl h4 h5
     go_wp2_with fail
     clear hEV3 hAkj hxkj hPkj ykj0 ykj1 ykj2 fykj0 fykj1 fykj2
     have hc := Zip_any 1 1 (some ⟨X0.heap.size, 0, none⟩) 1 1 [0] (Lib.hid rfl) 1 1 (some ⟨X0.heap.size, 0, none⟩) 1 1 [0] (Lib.hid rfl) x.how hhow.1 hhow.2 V4 (by decide) (by decide) hr1 hr1
     unfold RetIm at hc
     rw [hspH.out] at hc
     refine hc.mono ?_
     clear hc
     rintro e V5 ⟨⟨vv, rfl, tt, rfl, hrow⟩, hb⟩
     clear x0 x1 x2 x3 x4 x5 x6 x7 x8 x9 x10 x11 j0 j1 j2
     replace kv := kv.below hb kv.lt
     replace kx := kx.below hb kx.lt
     replace kn := kn.below hb kn.lt
     replace k0 := k0.below hb k0.lt
     replace kj := kj.below hb kj.lt
     replace hra := later_i hra hb
     replace hB := tmB hB hb
     clear hb
     clear hrow
     cases q6
     case false =>
      have hqf : Q = false := by rw [hQH.out]; simp
      subst hqf
      rw [if_neg (by simp)]
      go_wp2_with fail
      go_ret
      exact ⟨rfl, hB⟩
     case true =>
      have hqt : Q = true := by rw [hQH.out]; simp
      subst hqt
      rw [if_pos rfl]
      go_wp2_with fail
      go_ret
      exact ⟨rfl, hB⟩
    case neg =>
    have h5b : ((k : Int) == 5) = false := by simp; omega
    have h6t : q6 = true := by rw [← hq6H.out, if_neg h4, if_neg h5]
    subst h6t
    have hqt : Q = true := by rw [hQH.out]; simp
    subst hqt
    clear h4 h5
    go_wp2_with fail
    go_ret
    exact ⟨rfl, hB⟩
   case true =>
   by_cases hl5 : (al : Int) = v.lanes
   case neg =>
    have h5f : q5 = false := by rw [← hq5H.out]; unfold adrB; rw [halH.out]; simp [hl5]
    subst h5f
    have hqf : Q = false := by rw [hQH.out]; simp
    subst hqf
    have hl5b : ((al : Int) != v.lanes) = true := by simp [hl5]
    clear hl5
    refine plain_region (fun W' => Below V3.heap.size V3 W') 24 24 (by kernel_rfl) rfl ?_
    simp only [Array.replicate_succ, Array.replicate_zero, List.push_toArray, List.nil_append, List.cons_append]
    obtain ⟨X0, hXX0⟩ : ∃ X : World, V3.drew = X := ⟨_, rfl⟩
    rw [hXX0] at hS ⊢
    clear hXX0
    have FA0 := Lib.hid (fun w' (hS' : (fun W' => Below V3.heap.size V3 W') w') => And.intro ((kv.below hS' lv).cell (i := 0) rfl) (And.intro ((kv.below hS' lv).cell (i := 2) rfl) (And.intro ((kn.below hS' ln).cell (i := 3) rfl) ((kx.below hS' lx).cell (i := 11) rfl))))
    refine tkz 0 rfl hS (fun w' hS' => by go_simp; rfl) ?_
    simp only [nrz]
    refine tkz 1 rfl hS (fun w' hS' => by obtain ⟨y0, y2, y3, y11⟩ := FA0.out w' hS'; clear hS'; go_simp; rfl) ?_
    simp only [nrz]
    refine tkz 2 rfl hS (fun w' hS' => by go_simp; rfl) ?_
    simp only [nrz]
    refine tkz 3 rfl hS (fun w' hS' => by go_simp; rfl) ?_
    simp only [nrz]
    refine tkz 4 rfl hS (fun w' hS' => by obtain ⟨y0, y2, y3, y11⟩ := FA0.out w' hS'; clear hS'; go_simp; rfl) ?_
    simp only [nrz]
    refine tkz 5 rfl hS (fun w' hS' => by go_simp; rfl) ?_
    simp only [nrz]
    refine tkz 6 rfl hS (fun w' hS' => by go_simp; rfl) ?_
    simp only [nrz]
    refine tkz 7 rfl hS (fun w' hS' => by obtain ⟨y0, y2, y3, y11⟩ := FA0.out w' hS'; clear hS'; go_simp; rfl) ?_
    simp only [nrz]
    refine tkz 8 rfl hS (fun w' hS' => by go_simp; (try go_ints); rfl) ?_
    simp only [nrz]
    refine tkz 9 rfl hS (fun w' hS' => by go_simp; rfl) ?_
    simp only [nrz]
    refine psz 10 rfl hS ?_
    simp only [nrz]
    refine psz 11 rfl hS ?_
    simp only [nrz]
    refine psz 12 rfl hS ?_
    simp only [nrz]
    refine psz 13 rfl hS ?_
    simp only [nrz]
    refine tkz 14 rfl hS (fun w' hS' => by go_simp; rfl) ?_
    simp only [nrz]
    refine tkz 15 rfl hS (fun w' hS' => by go_simp; rfl) ?_
    simp only [nrz]
    refine psz 16 rfl hS ?_
    simp only [nrz]
    refine psz 17 rfl hS ?_
    simp only [nrz]
    refine psz 18 rfl hS ?_
    simp only [nrz]
    refine psz 19 rfl hS ?_
    simp only [nrz]
    refine psz 20 rfl hS ?_
    simp only [nrz]
    refine psz 21 rfl hS ?_
    simp only [nrz]
    refine tkz 22 rfl hS (fun w' hS' => by go_simp; rfl) ?_
    simp only [nrz]
    refine tkz 23 rfl hS (fun w' hS' => by go_simp; rfl) ?_
    simp only [nrz]
    refine done_ops (by kernel_rfl) ?_
    clear m0 m1 m2 x0 x1 x2 x3 x4 x5 x6 x7 x8 x9 x10 x11 n0 n1 n2 n3 n4 n5
    replace kv := kv.below hS kv.lt
    replace kx := kx.below hS kx.lt
    replace kn := kn.below hS kn.lt
    replace hra := later_i hra hS
    replace hB := tmB hB hS
    clear hS lv lx ln
    obtain ⟨x0, x1, x2, x3, x4, x5, x6, x7, x8, x9, x10, x11⟩ := cz12 kx
    go_wp2_with fail
    go_ret
    exact ⟨rfl, hB⟩
   case pos =>
   have hl5b : ((al : Int) != v.lanes) = false := by simp [hl5]
   have hl5c : 1 ≤ al := by omega
   have h5e : q5 = (!decide (minL x.ad < -1) && !decide (maxL x.ad ≥ v.mem)) := by rw [← hq5H.out, adrB_is (by have := halH.out; omega), halH.out]; simp [hl5]
   have h5H := Lib.hid h5e
   clear hl5 h5e
   by_cases h6 : minL x.ad < -1
   case pos =>
    have h6b : decide (minL x.ad < -1) = true := decide_eq_true h6
    have h5f : q5 = false := by rw [h5H.out, h6b]; rfl
    subst h5f
    have hqf : Q = false := by rw [hQH.out]; simp
    subst hqf
    refine plain_region (fun W' => Below V3.heap.size V3 W') 24 24 (by kernel_rfl) rfl ?_
    simp only [Array.replicate_succ, Array.replicate_zero, List.push_toArray, List.nil_append, List.cons_append]
    obtain ⟨X0, hXX0⟩ : ∃ X : World, V3.drew = X := ⟨_, rfl⟩
    rw [hXX0] at hS ⊢
    clear hXX0
    have FA1 := Lib.hid (fun w' (hS' : (fun W' => Below V3.heap.size V3 W') w') => And.intro ((kv.below hS' lv).cell (i := 0) rfl) (And.intro ((kv.below hS' lv).cell (i := 2) rfl) (And.intro ((kn.below hS' ln).cell (i := 3) rfl) ((kx.below hS' lx).cell (i := 11) rfl))))
    refine tkz 0 rfl hS (fun w' hS' => by go_simp; rfl) ?_
    simp only [nrz]
    refine tkz 1 rfl hS (fun w' hS' => by obtain ⟨y0, y2, y3, y11⟩ := FA1.out w' hS'; clear hS'; go_simp; rfl) ?_
    simp only [nrz]
    refine tkz 2 rfl hS (fun w' hS' => by go_simp; rfl) ?_
    simp only [nrz]
    refine tkz 3 rfl hS (fun w' hS' => by go_simp; rfl) ?_
    simp only [nrz]
    refine tkz 4 rfl hS (fun w' hS' => by obtain ⟨y0, y2, y3, y11⟩ := FA1.out w' hS'; clear hS'; go_simp; rfl) ?_
    simp only [nrz]
    refine tkz 5 rfl hS (fun w' hS' => by go_simp; rfl) ?_
    simp only [nrz]
    refine tkz 6 rfl hS (fun w' hS' => by go_simp; rfl) ?_
    simp only [nrz]
    refine tkz 7 rfl hS (fun w' hS' => by obtain ⟨y0, y2, y3, y11⟩ := FA1.out w' hS'; clear hS'; go_simp; rfl) ?_
    simp only [nrz]
    refine tkz 8 rfl hS (fun w' hS' => by go_simp; (try go_ints); rfl) ?_
    simp only [nrz]
    refine tkz 9 rfl hS (fun w' hS' => by go_simp; rfl) ?_
    simp only [nrz]
    refine tkz 10 rfl hS (fun w' hS' => by go_simp; rfl) ?_
    simp only [nrz]
    refine tkz 11 rfl hS (fun w' hS' => by obtain ⟨y0, y2, y3, y11⟩ := FA1.out w' hS'; clear hS'; go_simp; rfl) ?_
    simp only [nrz]
    refine step_op 12 (by kernel_rfl) rfl (fun K hK => ?_)
    rw [if_pos (by rfl)]
    go_simp
    refine (MinP_any ia ic al x.ad halH.out (by omega) (by omega) X0 (later_i hra hS)).mono ?_
    rintro e X1 ⟨rfl, hw⟩
    rw [hw]
    clear hw X1
    refine hK.out _ _ (fun h => hS) ?_
    clear hK K
    try simp only [Act.put, nrz]
    refine tkz 13 rfl hS (fun w' hS' => by go_simp; (try go_ints); rfl) ?_
    simp only [nrz]
    refine tkz 14 rfl hS (fun w' hS' => by go_simp; rfl) ?_
    simp only [nrz]
    refine tkz 15 rfl hS (fun w' hS' => by go_simp; rfl) ?_
    simp only [nrz]
    refine psz 16 rfl hS ?_
    simp only [nrz]
    refine psz 17 rfl hS ?_
    simp only [nrz]
    refine psz 18 rfl hS ?_
    simp only [nrz]
    refine psz 19 rfl hS ?_
    simp only [nrz]
    refine psz 20 rfl hS ?_
    simp only [nrz]
    refine psz 21 rfl hS ?_
    simp only [nrz]
    refine tkz 22 rfl hS (fun w' hS' => by go_simp; rfl) ?_
    simp only [nrz]
    refine tkz 23 rfl hS (fun w' hS' => by go_simp; rfl) ?_
    simp only [nrz]
    refine done_ops (by kernel_rfl) ?_
    clear m0 m1 m2 x0 x1 x2 x3 x4 x5 x6 x7 x8 x9 x10 x11 n0 n1 n2 n3 n4 n5
    replace kv := kv.below hS kv.lt
    replace kx := kx.below hS kx.lt
    replace kn := kn.below hS kn.lt
    replace hra := later_i hra hS
    replace hB := tmB hB hS
    clear hS lv lx ln
    obtain ⟨x0, x1, x2, x3, x4, x5, x6, x7, x8, x9, x10, x11⟩ := cz12 kx
    go_wp2_with fail
    go_ret
    exact ⟨rfl, hB⟩
   case neg =>
   have h6b : decide (minL x.ad < -1) = false := decide_eq_false h6
   obtain ⟨q7, hq7⟩ : ∃ q, decide (maxL x.ad ≥ v.mem) = q := ⟨_, rfl⟩
   have h5q : q5 = !q7 := by rw [h5H.out, h6b, hq7]; rfl
   subst h5q
   clear h6 h5H
   refine plain_region (fun W' => Below V3.heap.size V3 W') 24 24 (by kernel_rfl) rfl ?_
   simp only [Array.replicate_succ, Array.replicate_zero, List.push_toArray, List.nil_append, List.cons_append]
   obtain ⟨X0, hXX0⟩ : ∃ X : World, V3.drew = X := ⟨_, rfl⟩
   rw [hXX0] at hS ⊢
   clear hXX0
   have FA2 := Lib.hid (fun w' (hS' : (fun W' => Below V3.heap.size V3 W') w') => And.intro ((kv.below hS' lv).cell (i := 0) rfl) (And.intro ((kv.below hS' lv).cell (i := 2) rfl) (And.intro ((kn.below hS' ln).cell (i := 3) rfl) ((kx.below hS' lx).cell (i := 11) rfl))))
   refine tkz 0 rfl hS (fun w' hS' => by go_simp; rfl) ?_
   simp only [nrz]
   refine tkz 1 rfl hS (fun w' hS' => by obtain ⟨y0, y2, y3, y11⟩ := FA2.out w' hS'; clear hS'; go_simp; rfl) ?_
   simp only [nrz]
   refine tkz 2 rfl hS (fun w' hS' => by go_simp; rfl) ?_
   simp only [nrz]
   refine tkz 3 rfl hS (fun w' hS' => by go_simp; rfl) ?_
   simp only [nrz]
   refine tkz 4 rfl hS (fun w' hS' => by obtain ⟨y0, y2, y3, y11⟩ := FA2.out w' hS'; clear hS'; go_simp; rfl) ?_
   simp only [nrz]
   refine tkz 5 rfl hS (fun w' hS' => by go_simp; rfl) ?_
   simp only [nrz]
   refine tkz 6 rfl hS (fun w' hS' => by go_simp; rfl) ?_
   simp only [nrz]
   refine tkz 7 rfl hS (fun w' hS' => by obtain ⟨y0, y2, y3, y11⟩ := FA2.out w' hS'; clear hS'; go_simp; rfl) ?_
   simp only [nrz]
   refine tkz 8 rfl hS (fun w' hS' => by go_simp; (try go_ints); rfl) ?_
   simp only [nrz]
   refine tkz 9 rfl hS (fun w' hS' => by go_simp; rfl) ?_
   simp only [nrz]
   refine tkz 10 rfl hS (fun w' hS' => by go_simp; rfl) ?_
   simp only [nrz]
   refine tkz 11 rfl hS (fun w' hS' => by obtain ⟨y0, y2, y3, y11⟩ := FA2.out w' hS'; clear hS'; go_simp; rfl) ?_
   simp only [nrz]
   refine step_op 12 (by kernel_rfl) rfl (fun K hK => ?_)
   rw [if_pos (by rfl)]
   go_simp
   refine (MinP_any ia ic al x.ad halH.out (by omega) (by omega) X0 (later_i hra hS)).mono ?_
   rintro e X1 ⟨rfl, hw⟩
   rw [hw]
   clear hw X1
   refine hK.out _ _ (fun h => hS) ?_
   clear hK K
   try simp only [Act.put, nrz]
   refine tkz 13 rfl hS (fun w' hS' => by go_simp; (try go_ints); rfl) ?_
   simp only [nrz]
   refine tkz 14 rfl hS (fun w' hS' => by go_simp; rfl) ?_
   simp only [nrz]
   refine tkz 15 rfl hS (fun w' hS' => by go_simp; rfl) ?_
   simp only [nrz]
   refine tkz 16 rfl hS (fun w' hS' => by go_simp; rfl) ?_
   simp only [nrz]
   refine tkz 17 rfl hS (fun w' hS' => by obtain ⟨y0, y2, y3, y11⟩ := FA2.out w' hS'; clear hS'; go_simp; rfl) ?_
   simp only [nrz]
   refine tkz 19 rfl hS (fun w' hS' => by go_simp; rfl) ?_
   simp only [nrz]
   refine tkz 20 rfl hS (fun w' hS' => by obtain ⟨y0, y2, y3, y11⟩ := FA2.out w' hS'; clear hS'; go_simp; rfl) ?_
   simp only [nrz]
   refine step_op 18 (by kernel_rfl) rfl (fun K hK => ?_)
   rw [if_pos (by rfl)]
   go_simp
   refine (MaxP_any ia ic al x.ad halH.out (by omega) (by omega) X0 (later_i hra hS)).mono ?_
   rintro e X2 ⟨rfl, hw⟩
   rw [hw]
   clear hw X2
   refine hK.out _ _ (fun h => hS) ?_
   clear hK K
   try simp only [Act.put, nrz]
   refine tkz 21 (v := .bool q7) rfl hS (fun w' hS' => ?i4y21) ?i4z21
   case i4y21 =>
    clear hS'
    go_simp
    first | done | exact hq7 | rfl | simp [hq7]
   simp only [nrz]
   refine tkz 22 (v := .bool q7) rfl hS (fun w' hS' => ?i4y22) ?i4z22
   case i4y22 =>
    clear hS'
    go_simp
    try rfl
   simp only [nrz]
   refine tkz 23 (v := .bool q7) rfl hS (fun w' hS' => ?i4y23) ?i4z23
   case i4y23 =>
    clear hS'
    go_simp
    try rfl
   simp only [nrz]
   refine done_ops (by kernel_rfl) ?_
   clear hq7 h6b
   cases q7
   case true =>
    have hqf : Q = false := by rw [hQH.out]; simp
    subst hqf
    clear m0 m1 m2 x0 x1 x2 x3 x4 x5 x6 x7 x8 x9 x10 x11 n0 n1 n2 n3 n4 n5
    replace kv := kv.below hS kv.lt
    replace kx := kx.below hS kx.lt
    replace kn := kn.below hS kn.lt
    replace hra := later_i hra hS
    replace hB := tmB hB hS
    clear hS lv lx ln
    obtain ⟨x0, x1, x2, x3, x4, x5, x6, x7, x8, x9, x10, x11⟩ := cz12 kx
    go_wp2_with fail
    go_ret
    exact ⟨rfl, hB⟩
   case false =>
   clear m0 m1 m2 x0 x1 x2 x3 x4 x5 x6 x7 x8 x9 x10 x11 n0 n1 n2 n3 n4 n5
   replace kv := kv.below hS kv.lt
   replace kx := kx.below hS kx.lt
   replace kn := kn.below hS kn.lt
   replace hra := later_i hra hS
   replace hB := tmB hB hS
   clear hS lv lx ln
   obtain ⟨x0, x1, x2, x3, x4, x5, x6, x7, x8, x9, x10, x11⟩ := cz12 kx
   have xk0 := x0
   obtain ⟨V3, hEV3, hbV3, k0⟩ := newB X0 3 #[.int .i64 0]
   clear x0 x1 x2 x3 x4 x5 x6 x7 x8 x9 x10 x11
   replace kv := kv.below hbV3 kv.lt
   replace kx := kx.below hbV3 kx.lt
   replace kn := kn.below hbV3 kn.lt
   replace hra := later_i hra hbV3
   replace hB := tmB hB hbV3
   clear hbV3
   have kj := Blk.new V3 32 #[.int .i64 0, .int .i64 0, .slice none 0 0]
   obtain ⟨bkj, hxkj⟩ : ∃ b, V3.heap.size = b := ⟨_, rfl⟩
   obtain ⟨V3a, hAkj⟩ : ∃ X, V3.alloc (.cells #[.int .i64 0, .int .i64 0, .slice none 0 0] 32) = X := ⟨_, rfl⟩
   have hba : Below V3.heap.size V3 V3a := alloc_below hAkj
   rw [hAkj, hxkj] at kj
   have hlekj : V3.heap.size ≤ bkj := by omega
   have ykj0 := kj.cell (i := 0) rfl
   have fykj0 := kj.frozen 0
   have ykj1 := kj.cell (i := 1) rfl
   have fykj1 := kj.frozen 1
   have ykj2 := kj.cell (i := 2) rfl
   have fykj2 := kj.frozen 2
   have kjn := put3_blk kj (.int .i64 1) (.int .i64 1) (.slice (some ⟨X0.heap.size, 0, none⟩) 1 1)
   have hb : Below V3.heap.size V3 (put3 V3a bkj (.int .i64 1) (.int .i64 1) (.slice (some ⟨X0.heap.size, 0, none⟩) 1 1)) := hba.trans (put3_below hlekj (.int .i64 1) (.int .i64 1) (.slice (some ⟨X0.heap.size, 0, none⟩) 1 1))
   obtain ⟨V4, hPkj⟩ : ∃ X, put3 V3a bkj (.int .i64 1) (.int .i64 1) (.slice (some ⟨X0.heap.size, 0, none⟩) 1 1) = X := ⟨_, rfl⟩
   rw [hPkj] at kjn hb
   replace kj := kjn
   clear kjn hba hlekj
   replace kv := kv.below hb kv.lt
   replace kx := kx.below hb kx.lt
   replace kn := kn.below hb kn.lt
   replace k0 := k0.below hb k0.lt
   replace hra := later_i hra hb
   replace hB := tmB hB hb
   clear hb
   obtain ⟨x0, x1, x2, x3, x4, x5, x6, x7, x8, x9, x10, x11⟩ := cz12 kx
   obtain ⟨j0, j1, j2⟩ := cz3 kj
   by_cases h4 : k = 4
   case pos =>
    have hr1 : Rd V4.heap.size V4 (some ⟨X0.heap.size, 0, none⟩) [0] := .inr ⟨_, 0, rfl, k0.lt, fun i hi => by
     have : i < 1 := hi
     obtain rfl : i = 0 := by omega
     exact k0.cell (i := 0) rfl⟩
    have hvl : vld 1 1 [0] = true := by decide
    have h4b : ((k : Int) == 4) = true := by rw [h4]; rfl
    have hsp : (pointS 1 1 [0] x.pt).err = if q6 = true then 0 else 2 := by
     have h6 := hq6H.out
     rw [if_pos h4] at h6
     unfold pointS
     rw [if_pos hvl, h6]
     cases q6 <;> rfl
    have hspH := Lib.hid hsp
    clear hsp hvl h4
    go_wp2_with fail
    clear hEV3 hAkj hxkj hPkj ykj0 ykj1 ykj2 fykj0 fykj1 fykj2
    have hc := Point_any 1 1 (some ⟨X0.heap.size, 0, none⟩) 1 1 [0] (Lib.hid rfl) x.pt V4 (by decide) hr1
    unfold RetIm at hc
    rw [hspH.out] at hc
    refine hc.mono ?_
    clear hc
    rintro e V5 ⟨⟨vv, rfl, tt, rfl, hrow⟩, hb⟩
    clear x0 x1 x2 x3 x4 x5 x6 x7 x8 x9 x10 x11 j0 j1 j2
    replace kv := kv.below hb kv.lt
    replace kx := kx.below hb kx.lt
    replace kn := kn.below hb kn.lt
    replace k0 := k0.below hb k0.lt
    replace kj := kj.below hb kj.lt
    replace hra := later_i hra hb
    replace hB := tmB hB hb
    clear hb
    clear hrow
    cases q6
    case false =>
     have hqf : Q = false := by rw [hQH.out]; simp
     subst hqf
     rw [if_neg (by simp)]
     go_wp2_with fail
     go_ret
     exact ⟨rfl, hB⟩
    case true =>
     have hqt : Q = true := by rw [hQH.out]; simp
     subst hqt
     rw [if_pos rfl]
     go_wp2_with fail
     go_ret
     exact ⟨rfl, hB⟩
   case neg =>
   have h4b : ((k : Int) == 4) = false := by simp; omega
   by_cases h5 : k = 5
   case pos =>
    have hr1 : Rd V4.heap.size V4 (some ⟨X0.heap.size, 0, none⟩) [0] := .inr ⟨_, 0, rfl, k0.lt, fun i hi => by
     have : i < 1 := hi
     obtain rfl : i = 0 := by omega
     exact k0.cell (i := 0) rfl⟩
    have hvl : vld 1 1 [0] = true := by decide
    have h5b : ((k : Int) == 5) = true := by rw [h5]; rfl
    have hsp : (zipS 1 1 [0] 1 1 [0] x.how).err = if q6 = true then 0 else 2 := by
     have h6 := hq6H.out
     rw [if_neg h4, if_pos h5] at h6
     unfold zipS
     rw [if_pos hvl, if_pos hvl, if_pos (by decide)]
     cases q6
     ·rw [if_neg (by intro h; unfold inR at h6; simp only [decide_eq_true_eq, Bool.and_eq_false_iff, decide_eq_false_iff_not] at h6 h; omega)]; rfl
     ·rw [if_pos (by unfold inR at h6; simp only [decide_eq_true_eq, Bool.and_eq_true] at h6 ⊢; omega)]; rfl
    have hspH := Lib.hid hsp
    clear hsp hvl h4 h5
    go_wp2_with fail
    clear hEV3 hAkj hxkj hPkj ykj0 ykj1 ykj2 fykj0 fykj1 fykj2
    have hc := Zip_any 1 1 (some ⟨X0.heap.size, 0, none⟩) 1 1 [0] (Lib.hid rfl) 1 1 (some ⟨X0.heap.size, 0, none⟩) 1 1 [0] (Lib.hid rfl) x.how hhow.1 hhow.2 V4 (by decide) (by decide) hr1 hr1
    unfold RetIm at hc
    rw [hspH.out] at hc
    refine hc.mono ?_
    clear hc
    rintro e V5 ⟨⟨vv, rfl, tt, rfl, hrow⟩, hb⟩
    clear x0 x1 x2 x3 x4 x5 x6 x7 x8 x9 x10 x11 j0 j1 j2
    replace kv := kv.below hb kv.lt
    replace kx := kx.below hb kx.lt
    replace kn := kn.below hb kn.lt
    replace k0 := k0.below hb k0.lt
    replace kj := kj.below hb kj.lt
    replace hra := later_i hra hb
    replace hB := tmB hB hb
    clear hb
    clear hrow
    cases q6
    case false =>
     have hqf : Q = false := by rw [hQH.out]; simp
     subst hqf
     rw [if_neg (by simp)]
     go_wp2_with fail
     go_ret
     exact ⟨rfl, hB⟩
    case true =>
     have hqt : Q = true := by rw [hQH.out]; simp
     subst hqt
     rw [if_pos rfl]
     go_wp2_with fail
     go_ret
     exact ⟨rfl, hB⟩
   case neg =>
   have h5b : ((k : Int) == 5) = false := by simp; omega
   have h6t : q6 = true := by rw [← hq6H.out, if_neg h4, if_neg h5]
   subst h6t
   have hqt : Q = true := by rw [hQH.out]; simp
   subst hqt
   clear h4 h5
   go_wp2_with fail
   go_ret
   exact ⟨rfl, hB⟩
 case neg =>
 have h0d : decide (nv > 0) = false := decide_eq_false h0
 have h0e : decide (0 < nv) = false := decide_eq_false h0
 have hQ3 := hQH.out
 rw [h0e] at hQ3
 clear hQH
 have hQH := Lib.hid hQ3
 clear hQ3 h0e
 have tok1 : True := trivial
 have tok2 : True := trivial
 have tok3 : True := trivial
 have tok4 : True := trivial
 go_enter Tryz.func76, Tryz.ntmps76
 have hS : Below V3.heap.size V3 V3.drew := (Below.refl _ _).drew
 go_wp2_with (first
  | (go_at_fn 125; have _t := tok1; refine (register_any nd x.d v hv3 hv4 _ true hq1H.out _ kv).mono ?_; clear _t tok1; rintro e w' ⟨rfl, hw⟩; rw [hw]; clear hw w')
  | (go_at_fn 125; have _t := tok2; refine (register_any na x.a v hv3 hv4 _ true hq2H.out _ kv).mono ?_; clear _t tok2; rintro e w' ⟨rfl, hw⟩; rw [hw]; clear hw w')
  | (go_at_fn 125; have _t := tok3; refine (register_any nb x.b v hv3 hv4 _ true hq3H.out _ kv).mono ?_; clear _t tok3; rintro e w' ⟨rfl, hw⟩; rw [hw]; clear hw w'))
 clear hEV1 hEV2 hbTe hVT hbn hVN hV3 z0 z1 z2 z3 z4 z5 fz0 fz1 fz2 fz3 fz4 fz5 u0 u1 u2 u3 u4 u5
 clear xx0 xx1 xx2 xx3 xx4 xx5 xx6 xx7 xx8 xx9 xx10 xx11
 have lv := kv.lt
 have lx := kx.lt
 have ln := kn.lt
 cases nt
 case false =>
  refine plain_region (fun W' => Below V3.heap.size V3 W') 24 24 (by kernel_rfl) rfl ?_
  simp only [Array.replicate_succ, Array.replicate_zero, List.push_toArray, List.nil_append, List.cons_append]
  obtain ⟨X0, hXX0⟩ : ∃ X : World, V3.drew = X := ⟨_, rfl⟩
  rw [hXX0] at hS ⊢
  clear hXX0
  refine tkz 0 rfl hS (fun w' hS' => by go_simp; rfl) ?_
  simp only [nrz]
  refine tkz 1 (v := ?i5v1) rfl hS (fun w' hS' => ?i5y1) ?i5z1
  case i5y1 =>
   have y0 := (kv.below hS' lv).cell (i := 0) rfl
   have y2 := (kv.below hS' lv).cell (i := 2) rfl
   have y3 := (kn.below hS' ln).cell (i := 3) rfl
   have y11 := (kx.below hS' lx).cell (i := 11) rfl
   clear hS'
   go_simp
   rfl
  simp only [nrz]
  refine tkz 2 rfl hS (fun w' hS' => by go_simp; rfl) ?_
  simp only [nrz]
  refine psz 3 rfl hS ?_
  simp only [nrz]
  refine psz 4 rfl hS ?_
  simp only [nrz]
  refine psz 5 rfl hS ?_
  simp only [nrz]
  refine psz 6 rfl hS ?_
  simp only [nrz]
  refine psz 7 rfl hS ?_
  simp only [nrz]
  refine psz 8 rfl hS ?_
  simp only [nrz]
  refine psz 9 rfl hS ?_
  simp only [nrz]
  refine psz 10 rfl hS ?_
  simp only [nrz]
  refine psz 11 rfl hS ?_
  simp only [nrz]
  refine psz 12 rfl hS ?_
  simp only [nrz]
  refine psz 13 rfl hS ?_
  simp only [nrz]
  refine psz 14 rfl hS ?_
  simp only [nrz]
  refine psz 15 rfl hS ?_
  simp only [nrz]
  refine psz 16 rfl hS ?_
  simp only [nrz]
  refine psz 17 rfl hS ?_
  simp only [nrz]
  refine psz 18 rfl hS ?_
  simp only [nrz]
  refine psz 19 rfl hS ?_
  simp only [nrz]
  refine psz 20 rfl hS ?_
  simp only [nrz]
  refine psz 21 rfl hS ?_
  simp only [nrz]
  refine psz 22 rfl hS ?_
  simp only [nrz]
  refine tkz 23 rfl hS (fun w' hS' => by go_simp; rfl) ?_
  simp only [nrz]
  refine done_ops (by kernel_rfl) ?_
  clear m0 m1 m2 x0 x1 x2 x3 x4 x5 x6 x7 x8 x9 x10 x11 n0 n1 n2 n3 n4 n5
  replace kv := kv.below hS kv.lt
  replace kx := kx.below hS kx.lt
  replace kn := kn.below hS kn.lt
  replace hra := later_i hra hS
  replace hB := tmB hB hS
  clear hS lv lx ln
  obtain ⟨x0, x1, x2, x3, x4, x5, x6, x7, x8, x9, x10, x11⟩ := cz12 kx
  have xk0 := x0
  obtain ⟨V3, hEV3, hbV3, k0⟩ := newB X0 3 #[.int .i64 0]
  clear x0 x1 x2 x3 x4 x5 x6 x7 x8 x9 x10 x11
  replace kv := kv.below hbV3 kv.lt
  replace kx := kx.below hbV3 kx.lt
  replace kn := kn.below hbV3 kn.lt
  replace hra := later_i hra hbV3
  replace hB := tmB hB hbV3
  clear hbV3
  have kj := Blk.new V3 32 #[.int .i64 0, .int .i64 0, .slice none 0 0]
  obtain ⟨bkj, hxkj⟩ : ∃ b, V3.heap.size = b := ⟨_, rfl⟩
  obtain ⟨V3a, hAkj⟩ : ∃ X, V3.alloc (.cells #[.int .i64 0, .int .i64 0, .slice none 0 0] 32) = X := ⟨_, rfl⟩
  have hba : Below V3.heap.size V3 V3a := alloc_below hAkj
  rw [hAkj, hxkj] at kj
  have hlekj : V3.heap.size ≤ bkj := by omega
  have ykj0 := kj.cell (i := 0) rfl
  have fykj0 := kj.frozen 0
  have ykj1 := kj.cell (i := 1) rfl
  have fykj1 := kj.frozen 1
  have ykj2 := kj.cell (i := 2) rfl
  have fykj2 := kj.frozen 2
  have kjn := put3_blk kj (.int .i64 1) (.int .i64 1) (.slice (some ⟨X0.heap.size, 0, none⟩) 1 1)
  have hb : Below V3.heap.size V3 (put3 V3a bkj (.int .i64 1) (.int .i64 1) (.slice (some ⟨X0.heap.size, 0, none⟩) 1 1)) := hba.trans (put3_below hlekj (.int .i64 1) (.int .i64 1) (.slice (some ⟨X0.heap.size, 0, none⟩) 1 1))
  obtain ⟨V4, hPkj⟩ : ∃ X, put3 V3a bkj (.int .i64 1) (.int .i64 1) (.slice (some ⟨X0.heap.size, 0, none⟩) 1 1) = X := ⟨_, rfl⟩
  rw [hPkj] at kjn hb
  replace kj := kjn
  clear kjn hba hlekj
  replace kv := kv.below hb kv.lt
  replace kx := kx.below hb kx.lt
  replace kn := kn.below hb kn.lt
  replace k0 := k0.below hb k0.lt
  replace hra := later_i hra hb
  replace hB := tmB hB hb
  clear hb
  obtain ⟨x0, x1, x2, x3, x4, x5, x6, x7, x8, x9, x10, x11⟩ := cz12 kx
  obtain ⟨j0, j1, j2⟩ := cz3 kj
  by_cases h4 : k = 4
  case pos =>
   have hr1 : Rd V4.heap.size V4 (some ⟨X0.heap.size, 0, none⟩) [0] := .inr ⟨_, 0, rfl, k0.lt, fun i hi => by
    have : i < 1 := hi
    obtain rfl : i = 0 := by omega
    exact k0.cell (i := 0) rfl⟩
   have hvl : vld 1 1 [0] = true := by decide
   have h4b : ((k : Int) == 4) = true := by rw [h4]; rfl
   have hsp : (pointS 1 1 [0] x.pt).err = if q6 = true then 0 else 2 := by
    have h6 := hq6H.out
    rw [if_pos h4] at h6
    unfold pointS
    rw [if_pos hvl, h6]
    cases q6 <;> rfl
   have hspH := Lib.hid hsp
   clear hsp hvl h4
   go_wp2_with fail
   clear hEV3 hAkj hxkj hPkj ykj0 ykj1 ykj2 fykj0 fykj1 fykj2
   have hc := Point_any 1 1 (some ⟨X0.heap.size, 0, none⟩) 1 1 [0] (Lib.hid rfl) x.pt V4 (by decide) hr1
   unfold RetIm at hc
   rw [hspH.out] at hc
   refine hc.mono ?_
   clear hc
   rintro e V5 ⟨⟨vv, rfl, tt, rfl, hrow⟩, hb⟩
   clear x0 x1 x2 x3 x4 x5 x6 x7 x8 x9 x10 x11 j0 j1 j2
   replace kv := kv.below hb kv.lt
   replace kx := kx.below hb kx.lt
   replace kn := kn.below hb kn.lt
   replace k0 := k0.below hb k0.lt
   replace kj := kj.below hb kj.lt
   replace hra := later_i hra hb
   replace hB := tmB hB hb
   clear hb
   clear hrow
   cases q6
   case false =>
    have hqf : Q = false := by rw [hQH.out]; simp
    subst hqf
    rw [if_neg (by simp)]
    go_wp2_with fail
    go_ret
    exact ⟨rfl, hB⟩
   case true =>
    have hqt : Q = true := by rw [hQH.out]; simp
    subst hqt
    rw [if_pos rfl]
    go_wp2_with fail
    go_ret
    exact ⟨rfl, hB⟩
  case neg =>
  have h4b : ((k : Int) == 4) = false := by simp; omega
  by_cases h5 : k = 5
  case pos =>
   have hr1 : Rd V4.heap.size V4 (some ⟨X0.heap.size, 0, none⟩) [0] := .inr ⟨_, 0, rfl, k0.lt, fun i hi => by
    have : i < 1 := hi
    obtain rfl : i = 0 := by omega
    exact k0.cell (i := 0) rfl⟩
   have hvl : vld 1 1 [0] = true := by decide
   have h5b : ((k : Int) == 5) = true := by rw [h5]; rfl
   have hsp : (zipS 1 1 [0] 1 1 [0] x.how).err = if q6 = true then 0 else 2 := by
    have h6 := hq6H.out
    rw [if_neg h4, if_pos h5] at h6
    unfold zipS
    rw [if_pos hvl, if_pos hvl, if_pos (by decide)]
    cases q6
    ·rw [if_neg (by intro h; unfold inR at h6; simp only [decide_eq_true_eq, Bool.and_eq_false_iff, decide_eq_false_iff_not] at h6 h; omega)]; rfl
    ·rw [if_pos (by unfold inR at h6; simp only [decide_eq_true_eq, Bool.and_eq_true] at h6 ⊢; omega)]; rfl
   have hspH := Lib.hid hsp
   clear hsp hvl h4 h5
   go_wp2_with fail
   clear hEV3 hAkj hxkj hPkj ykj0 ykj1 ykj2 fykj0 fykj1 fykj2
   have hc := Zip_any 1 1 (some ⟨X0.heap.size, 0, none⟩) 1 1 [0] (Lib.hid rfl) 1 1 (some ⟨X0.heap.size, 0, none⟩) 1 1 [0] (Lib.hid rfl) x.how hhow.1 hhow.2 V4 (by decide) (by decide) hr1 hr1
   unfold RetIm at hc
   rw [hspH.out] at hc
   refine hc.mono ?_
   clear hc
   rintro e V5 ⟨⟨vv, rfl, tt, rfl, hrow⟩, hb⟩
   clear x0 x1 x2 x3 x4 x5 x6 x7 x8 x9 x10 x11 j0 j1 j2
   replace kv := kv.below hb kv.lt
   replace kx := kx.below hb kx.lt
   replace kn := kn.below hb kn.lt
   replace k0 := k0.below hb k0.lt
   replace kj := kj.below hb kj.lt
   replace hra := later_i hra hb
   replace hB := tmB hB hb
   clear hb
   clear hrow
   cases q6
   case false =>
    have hqf : Q = false := by rw [hQH.out]; simp
    subst hqf
    rw [if_neg (by simp)]
    go_wp2_with fail
    go_ret
    exact ⟨rfl, hB⟩
   case true =>
    have hqt : Q = true := by rw [hQH.out]; simp
    subst hqt
    rw [if_pos rfl]
    go_wp2_with fail
    go_ret
    exact ⟨rfl, hB⟩
  case neg =>
  have h5b : ((k : Int) == 5) = false := by simp; omega
  have h6t : q6 = true := by rw [← hq6H.out, if_neg h4, if_neg h5]
  subst h6t
  have hqt : Q = true := by rw [hQH.out]; simp
  subst hqt
  clear h4 h5
  go_wp2_with fail
  go_ret
  exact ⟨rfl, hB⟩
 case true =>
 by_cases hl5 : (al : Int) = v.lanes
 case neg =>
  have h5f : q5 = false := by rw [← hq5H.out]; unfold adrB; rw [halH.out]; simp [hl5]
  subst h5f
  have hqf : Q = false := by rw [hQH.out]; simp
  subst hqf
  have hl5b : ((al : Int) != v.lanes) = true := by simp [hl5]
  clear hl5
  refine plain_region (fun W' => Below V3.heap.size V3 W') 24 24 (by kernel_rfl) rfl ?_
  simp only [Array.replicate_succ, Array.replicate_zero, List.push_toArray, List.nil_append, List.cons_append]
  obtain ⟨X0, hXX0⟩ : ∃ X : World, V3.drew = X := ⟨_, rfl⟩
  rw [hXX0] at hS ⊢
  clear hXX0
  have FA3 := Lib.hid (fun w' (hS' : (fun W' => Below V3.heap.size V3 W') w') => And.intro ((kv.below hS' lv).cell (i := 0) rfl) (And.intro ((kv.below hS' lv).cell (i := 2) rfl) (And.intro ((kn.below hS' ln).cell (i := 3) rfl) ((kx.below hS' lx).cell (i := 11) rfl))))
  refine tkz 0 rfl hS (fun w' hS' => by go_simp; rfl) ?_
  simp only [nrz]
  refine tkz 1 rfl hS (fun w' hS' => by obtain ⟨y0, y2, y3, y11⟩ := FA3.out w' hS'; clear hS'; go_simp; rfl) ?_
  simp only [nrz]
  refine tkz 2 rfl hS (fun w' hS' => by go_simp; rfl) ?_
  simp only [nrz]
  refine tkz 3 rfl hS (fun w' hS' => by go_simp; rfl) ?_
  simp only [nrz]
  refine tkz 4 rfl hS (fun w' hS' => by obtain ⟨y0, y2, y3, y11⟩ := FA3.out w' hS'; clear hS'; go_simp; rfl) ?_
  simp only [nrz]
  refine tkz 5 rfl hS (fun w' hS' => by go_simp; rfl) ?_
  simp only [nrz]
  refine tkz 6 rfl hS (fun w' hS' => by go_simp; rfl) ?_
  simp only [nrz]
  refine tkz 7 rfl hS (fun w' hS' => by obtain ⟨y0, y2, y3, y11⟩ := FA3.out w' hS'; clear hS'; go_simp; rfl) ?_
  simp only [nrz]
  refine tkz 8 rfl hS (fun w' hS' => by go_simp; (try go_ints); rfl) ?_
  simp only [nrz]
  refine tkz 9 rfl hS (fun w' hS' => by go_simp; rfl) ?_
  simp only [nrz]
  refine psz 10 rfl hS ?_
  simp only [nrz]
  refine psz 11 rfl hS ?_
  simp only [nrz]
  refine psz 12 rfl hS ?_
  simp only [nrz]
  refine psz 13 rfl hS ?_
  simp only [nrz]
  refine tkz 14 rfl hS (fun w' hS' => by go_simp; rfl) ?_
  simp only [nrz]
  refine tkz 15 rfl hS (fun w' hS' => by go_simp; rfl) ?_
  simp only [nrz]
  refine psz 16 rfl hS ?_
  simp only [nrz]
  refine psz 17 rfl hS ?_
  simp only [nrz]
  refine psz 18 rfl hS ?_
  simp only [nrz]
  refine psz 19 rfl hS ?_
  simp only [nrz]
  refine psz 20 rfl hS ?_
  simp only [nrz]
  refine psz 21 rfl hS ?_
  simp only [nrz]
  refine tkz 22 rfl hS (fun w' hS' => by go_simp; rfl) ?_
  simp only [nrz]
  refine tkz 23 rfl hS (fun w' hS' => by go_simp; rfl) ?_
  simp only [nrz]
  refine done_ops (by kernel_rfl) ?_
  clear m0 m1 m2 x0 x1 x2 x3 x4 x5 x6 x7 x8 x9 x10 x11 n0 n1 n2 n3 n4 n5
  replace kv := kv.below hS kv.lt
  replace kx := kx.below hS kx.lt
  replace kn := kn.below hS kn.lt
  replace hra := later_i hra hS
  replace hB := tmB hB hS
  clear hS lv lx ln
  obtain ⟨x0, x1, x2, x3, x4, x5, x6, x7, x8, x9, x10, x11⟩ := cz12 kx
  go_wp2_with fail
  go_ret
  exact ⟨rfl, hB⟩
 case pos =>
 have hl5b : ((al : Int) != v.lanes) = false := by simp [hl5]
 have hl5c : 1 ≤ al := by omega
 have h5e : q5 = (!decide (minL x.ad < -1) && !decide (maxL x.ad ≥ v.mem)) := by rw [← hq5H.out, adrB_is (by have := halH.out; omega), halH.out]; simp [hl5]
 have h5H := Lib.hid h5e
 clear hl5 h5e
 by_cases h6 : minL x.ad < -1
 case pos =>
  have h6b : decide (minL x.ad < -1) = true := decide_eq_true h6
  have h5f : q5 = false := by rw [h5H.out, h6b]; rfl
  subst h5f
  have hqf : Q = false := by rw [hQH.out]; simp
  subst hqf
  refine plain_region (fun W' => Below V3.heap.size V3 W') 24 24 (by kernel_rfl) rfl ?_
  simp only [Array.replicate_succ, Array.replicate_zero, List.push_toArray, List.nil_append, List.cons_append]
  obtain ⟨X0, hXX0⟩ : ∃ X : World, V3.drew = X := ⟨_, rfl⟩
  rw [hXX0] at hS ⊢
  clear hXX0
  have FA4 := Lib.hid (fun w' (hS' : (fun W' => Below V3.heap.size V3 W') w') => And.intro ((kv.below hS' lv).cell (i := 0) rfl) (And.intro ((kv.below hS' lv).cell (i := 2) rfl) (And.intro ((kn.below hS' ln).cell (i := 3) rfl) ((kx.below hS' lx).cell (i := 11) rfl))))
  refine tkz 0 rfl hS (fun w' hS' => by go_simp; rfl) ?_
  simp only [nrz]
  refine tkz 1 rfl hS (fun w' hS' => by obtain ⟨y0, y2, y3, y11⟩ := FA4.out w' hS'; clear hS'; go_simp; rfl) ?_
  simp only [nrz]
  refine tkz 2 rfl hS (fun w' hS' => by go_simp; rfl) ?_
  simp only [nrz]
  refine tkz 3 rfl hS (fun w' hS' => by go_simp; rfl) ?_
  simp only [nrz]
  refine tkz 4 rfl hS (fun w' hS' => by obtain ⟨y0, y2, y3, y11⟩ := FA4.out w' hS'; clear hS'; go_simp; rfl) ?_
  simp only [nrz]
  refine tkz 5 rfl hS (fun w' hS' => by go_simp; rfl) ?_
  simp only [nrz]
  refine tkz 6 rfl hS (fun w' hS' => by go_simp; rfl) ?_
  simp only [nrz]
  refine tkz 7 rfl hS (fun w' hS' => by obtain ⟨y0, y2, y3, y11⟩ := FA4.out w' hS'; clear hS'; go_simp; rfl) ?_
  simp only [nrz]
  refine tkz 8 rfl hS (fun w' hS' => by go_simp; (try go_ints); rfl) ?_
  simp only [nrz]
  refine tkz 9 rfl hS (fun w' hS' => by go_simp; rfl) ?_
  simp only [nrz]
  refine tkz 10 rfl hS (fun w' hS' => by go_simp; rfl) ?_
  simp only [nrz]
  refine tkz 11 rfl hS (fun w' hS' => by obtain ⟨y0, y2, y3, y11⟩ := FA4.out w' hS'; clear hS'; go_simp; rfl) ?_
  simp only [nrz]
  refine step_op 12 (by kernel_rfl) rfl (fun K hK => ?_)
  rw [if_pos (by rfl)]
  go_simp
  refine (MinP_any ia ic al x.ad halH.out (by omega) (by omega) X0 (later_i hra hS)).mono ?_
  rintro e X1 ⟨rfl, hw⟩
  rw [hw]
  clear hw X1
  refine hK.out _ _ (fun h => hS) ?_
  clear hK K
  try simp only [Act.put, nrz]
  refine tkz 13 rfl hS (fun w' hS' => by go_simp; (try go_ints); rfl) ?_
  simp only [nrz]
  refine tkz 14 rfl hS (fun w' hS' => by go_simp; rfl) ?_
  simp only [nrz]
  refine tkz 15 rfl hS (fun w' hS' => by go_simp; rfl) ?_
  simp only [nrz]
  refine psz 16 rfl hS ?_
  simp only [nrz]
  refine psz 17 rfl hS ?_
  simp only [nrz]
  refine psz 18 rfl hS ?_
  simp only [nrz]
  refine psz 19 rfl hS ?_
  simp only [nrz]
  refine psz 20 rfl hS ?_
  simp only [nrz]
  refine psz 21 rfl hS ?_
  simp only [nrz]
  refine tkz 22 rfl hS (fun w' hS' => by go_simp; rfl) ?_
  simp only [nrz]
  refine tkz 23 rfl hS (fun w' hS' => by go_simp; rfl) ?_
  simp only [nrz]
  refine done_ops (by kernel_rfl) ?_
  clear m0 m1 m2 x0 x1 x2 x3 x4 x5 x6 x7 x8 x9 x10 x11 n0 n1 n2 n3 n4 n5
  replace kv := kv.below hS kv.lt
  replace kx := kx.below hS kx.lt
  replace kn := kn.below hS kn.lt
  replace hra := later_i hra hS
  replace hB := tmB hB hS
  clear hS lv lx ln
  obtain ⟨x0, x1, x2, x3, x4, x5, x6, x7, x8, x9, x10, x11⟩ := cz12 kx
  go_wp2_with fail
  go_ret
  exact ⟨rfl, hB⟩
 case neg =>
 have h6b : decide (minL x.ad < -1) = false := decide_eq_false h6
 obtain ⟨q7, hq7⟩ : ∃ q, decide (maxL x.ad ≥ v.mem) = q := ⟨_, rfl⟩
 have h5q : q5 = !q7 := by rw [h5H.out, h6b, hq7]; rfl
 subst h5q
 clear h6 h5H
 refine plain_region (fun W' => Below V3.heap.size V3 W') 24 24 (by kernel_rfl) rfl ?_
 simp only [Array.replicate_succ, Array.replicate_zero, List.push_toArray, List.nil_append, List.cons_append]
 obtain ⟨X0, hXX0⟩ : ∃ X : World, V3.drew = X := ⟨_, rfl⟩
 rw [hXX0] at hS ⊢
 clear hXX0
 have FA5 := Lib.hid (fun w' (hS' : (fun W' => Below V3.heap.size V3 W') w') => And.intro ((kv.below hS' lv).cell (i := 0) rfl) (And.intro ((kv.below hS' lv).cell (i := 2) rfl) (And.intro ((kn.below hS' ln).cell (i := 3) rfl) ((kx.below hS' lx).cell (i := 11) rfl))))
 refine tkz 0 rfl hS (fun w' hS' => by go_simp; rfl) ?_
 simp only [nrz]
 refine tkz 1 rfl hS (fun w' hS' => by obtain ⟨y0, y2, y3, y11⟩ := FA5.out w' hS'; clear hS'; go_simp; rfl) ?_
 simp only [nrz]
 refine tkz 2 rfl hS (fun w' hS' => by go_simp; rfl) ?_
 simp only [nrz]
 refine tkz 3 rfl hS (fun w' hS' => by go_simp; rfl) ?_
 simp only [nrz]
 refine tkz 4 rfl hS (fun w' hS' => by obtain ⟨y0, y2, y3, y11⟩ := FA5.out w' hS'; clear hS'; go_simp; rfl) ?_
 simp only [nrz]
 refine tkz 5 rfl hS (fun w' hS' => by go_simp; rfl) ?_
 simp only [nrz]
 refine tkz 6 rfl hS (fun w' hS' => by go_simp; rfl) ?_
 simp only [nrz]
 refine tkz 7 rfl hS (fun w' hS' => by obtain ⟨y0, y2, y3, y11⟩ := FA5.out w' hS'; clear hS'; go_simp; rfl) ?_
 simp only [nrz]
 refine tkz 8 rfl hS (fun w' hS' => by go_simp; (try go_ints); rfl) ?_
 simp only [nrz]
 refine tkz 9 rfl hS (fun w' hS' => by go_simp; rfl) ?_
 simp only [nrz]
 refine tkz 10 rfl hS (fun w' hS' => by go_simp; rfl) ?_
 simp only [nrz]
 refine tkz 11 rfl hS (fun w' hS' => by obtain ⟨y0, y2, y3, y11⟩ := FA5.out w' hS'; clear hS'; go_simp; rfl) ?_
 simp only [nrz]
 refine step_op 12 (by kernel_rfl) rfl (fun K hK => ?_)
 rw [if_pos (by rfl)]
 go_simp
 refine (MinP_any ia ic al x.ad halH.out (by omega) (by omega) X0 (later_i hra hS)).mono ?_
 rintro e X1 ⟨rfl, hw⟩
 rw [hw]
 clear hw X1
 refine hK.out _ _ (fun h => hS) ?_
 clear hK K
 try simp only [Act.put, nrz]
 refine tkz 13 rfl hS (fun w' hS' => by go_simp; (try go_ints); rfl) ?_
 simp only [nrz]
 refine tkz 14 rfl hS (fun w' hS' => by go_simp; rfl) ?_
 simp only [nrz]
 refine tkz 15 rfl hS (fun w' hS' => by go_simp; rfl) ?_
 simp only [nrz]
 refine tkz 16 rfl hS (fun w' hS' => by go_simp; rfl) ?_
 simp only [nrz]
 refine tkz 17 rfl hS (fun w' hS' => by obtain ⟨y0, y2, y3, y11⟩ := FA5.out w' hS'; clear hS'; go_simp; rfl) ?_
 simp only [nrz]
 refine tkz 19 rfl hS (fun w' hS' => by go_simp; rfl) ?_
 simp only [nrz]
 refine tkz 20 rfl hS (fun w' hS' => by obtain ⟨y0, y2, y3, y11⟩ := FA5.out w' hS'; clear hS'; go_simp; rfl) ?_
 simp only [nrz]
 refine step_op 18 (by kernel_rfl) rfl (fun K hK => ?_)
 rw [if_pos (by rfl)]
 go_simp
 refine (MaxP_any ia ic al x.ad halH.out (by omega) (by omega) X0 (later_i hra hS)).mono ?_
 rintro e X2 ⟨rfl, hw⟩
 rw [hw]
 clear hw X2
 refine hK.out _ _ (fun h => hS) ?_
 clear hK K
 try simp only [Act.put, nrz]
 refine tkz 21 (v := .bool q7) rfl hS (fun w' hS' => ?i8y21) ?i8z21
 case i8y21 =>
  clear hS'
  go_simp
  first | done | exact hq7 | rfl | simp [hq7]
 simp only [nrz]
 refine tkz 22 (v := .bool q7) rfl hS (fun w' hS' => ?i8y22) ?i8z22
 case i8y22 =>
  clear hS'
  go_simp
  try rfl
 simp only [nrz]
 refine tkz 23 (v := .bool q7) rfl hS (fun w' hS' => ?i8y23) ?i8z23
 case i8y23 =>
  clear hS'
  go_simp
  try rfl
 simp only [nrz]
 refine done_ops (by kernel_rfl) ?_
 clear hq7 h6b
 cases q7
 case true =>
  have hqf : Q = false := by rw [hQH.out]; simp
  subst hqf
  clear m0 m1 m2 x0 x1 x2 x3 x4 x5 x6 x7 x8 x9 x10 x11 n0 n1 n2 n3 n4 n5
  replace kv := kv.below hS kv.lt
  replace kx := kx.below hS kx.lt
  replace kn := kn.below hS kn.lt
  replace hra := later_i hra hS
  replace hB := tmB hB hS
  clear hS lv lx ln
  obtain ⟨x0, x1, x2, x3, x4, x5, x6, x7, x8, x9, x10, x11⟩ := cz12 kx
  go_wp2_with fail
  go_ret
  exact ⟨rfl, hB⟩
 case false =>
 clear m0 m1 m2 x0 x1 x2 x3 x4 x5 x6 x7 x8 x9 x10 x11 n0 n1 n2 n3 n4 n5
 replace kv := kv.below hS kv.lt
 replace kx := kx.below hS kx.lt
 replace kn := kn.below hS kn.lt
 replace hra := later_i hra hS
 replace hB := tmB hB hS
 clear hS lv lx ln
 obtain ⟨x0, x1, x2, x3, x4, x5, x6, x7, x8, x9, x10, x11⟩ := cz12 kx
 have xk0 := x0
 obtain ⟨V3, hEV3, hbV3, k0⟩ := newB X0 3 #[.int .i64 0]
 clear x0 x1 x2 x3 x4 x5 x6 x7 x8 x9 x10 x11
 replace kv := kv.below hbV3 kv.lt
 replace kx := kx.below hbV3 kx.lt
 replace kn := kn.below hbV3 kn.lt
 replace hra := later_i hra hbV3
 replace hB := tmB hB hbV3
 clear hbV3
 have kj := Blk.new V3 32 #[.int .i64 0, .int .i64 0, .slice none 0 0]
 obtain ⟨bkj, hxkj⟩ : ∃ b, V3.heap.size = b := ⟨_, rfl⟩
 obtain ⟨V3a, hAkj⟩ : ∃ X, V3.alloc (.cells #[.int .i64 0, .int .i64 0, .slice none 0 0] 32) = X := ⟨_, rfl⟩
 have hba : Below V3.heap.size V3 V3a := alloc_below hAkj
 rw [hAkj, hxkj] at kj
 have hlekj : V3.heap.size ≤ bkj := by omega
 have ykj0 := kj.cell (i := 0) rfl
 have fykj0 := kj.frozen 0
 have ykj1 := kj.cell (i := 1) rfl
 have fykj1 := kj.frozen 1
 have ykj2 := kj.cell (i := 2) rfl
 have fykj2 := kj.frozen 2
 have kjn := put3_blk kj (.int .i64 1) (.int .i64 1) (.slice (some ⟨X0.heap.size, 0, none⟩) 1 1)
 have hb : Below V3.heap.size V3 (put3 V3a bkj (.int .i64 1) (.int .i64 1) (.slice (some ⟨X0.heap.size, 0, none⟩) 1 1)) := hba.trans (put3_below hlekj (.int .i64 1) (.int .i64 1) (.slice (some ⟨X0.heap.size, 0, none⟩) 1 1))
 obtain ⟨V4, hPkj⟩ : ∃ X, put3 V3a bkj (.int .i64 1) (.int .i64 1) (.slice (some ⟨X0.heap.size, 0, none⟩) 1 1) = X := ⟨_, rfl⟩
 rw [hPkj] at kjn hb
 replace kj := kjn
 clear kjn hba hlekj
 replace kv := kv.below hb kv.lt
 replace kx := kx.below hb kx.lt
 replace kn := kn.below hb kn.lt
 replace k0 := k0.below hb k0.lt
 replace hra := later_i hra hb
 replace hB := tmB hB hb
 clear hb
 obtain ⟨x0, x1, x2, x3, x4, x5, x6, x7, x8, x9, x10, x11⟩ := cz12 kx
 obtain ⟨j0, j1, j2⟩ := cz3 kj
 by_cases h4 : k = 4
 case pos =>
  have hr1 : Rd V4.heap.size V4 (some ⟨X0.heap.size, 0, none⟩) [0] := .inr ⟨_, 0, rfl, k0.lt, fun i hi => by
   have : i < 1 := hi
   obtain rfl : i = 0 := by omega
   exact k0.cell (i := 0) rfl⟩
  have hvl : vld 1 1 [0] = true := by decide
  have h4b : ((k : Int) == 4) = true := by rw [h4]; rfl
  have hsp : (pointS 1 1 [0] x.pt).err = if q6 = true then 0 else 2 := by
   have h6 := hq6H.out
   rw [if_pos h4] at h6
   unfold pointS
   rw [if_pos hvl, h6]
   cases q6 <;> rfl
  have hspH := Lib.hid hsp
  clear hsp hvl h4
  go_wp2_with fail
  clear hEV3 hAkj hxkj hPkj ykj0 ykj1 ykj2 fykj0 fykj1 fykj2
  have hc := Point_any 1 1 (some ⟨X0.heap.size, 0, none⟩) 1 1 [0] (Lib.hid rfl) x.pt V4 (by decide) hr1
  unfold RetIm at hc
  rw [hspH.out] at hc
  refine hc.mono ?_
  clear hc
  rintro e V5 ⟨⟨vv, rfl, tt, rfl, hrow⟩, hb⟩
  clear x0 x1 x2 x3 x4 x5 x6 x7 x8 x9 x10 x11 j0 j1 j2
  replace kv := kv.below hb kv.lt
  replace kx := kx.below hb kx.lt
  replace kn := kn.below hb kn.lt
  replace k0 := k0.below hb k0.lt
  replace kj := kj.below hb kj.lt
  replace hra := later_i hra hb
  replace hB := tmB hB hb
  clear hb
  clear hrow
  cases q6
  case false =>
   have hqf : Q = false := by rw [hQH.out]; simp
   subst hqf
   rw [if_neg (by simp)]
   go_wp2_with fail
   go_ret
   exact ⟨rfl, hB⟩
  case true =>
   have hqt : Q = true := by rw [hQH.out]; simp
   subst hqt
   rw [if_pos rfl]
   go_wp2_with fail
   go_ret
   exact ⟨rfl, hB⟩
 case neg =>
 have h4b : ((k : Int) == 4) = false := by simp; omega
 by_cases h5 : k = 5
 case pos =>
  have hr1 : Rd V4.heap.size V4 (some ⟨X0.heap.size, 0, none⟩) [0] := .inr ⟨_, 0, rfl, k0.lt, fun i hi => by
   have : i < 1 := hi
   obtain rfl : i = 0 := by omega
   exact k0.cell (i := 0) rfl⟩
  have hvl : vld 1 1 [0] = true := by decide
  have h5b : ((k : Int) == 5) = true := by rw [h5]; rfl
  have hsp : (zipS 1 1 [0] 1 1 [0] x.how).err = if q6 = true then 0 else 2 := by
   have h6 := hq6H.out
   rw [if_neg h4, if_pos h5] at h6
   unfold zipS
   rw [if_pos hvl, if_pos hvl, if_pos (by decide)]
   cases q6
   ·rw [if_neg (by intro h; unfold inR at h6; simp only [decide_eq_true_eq, Bool.and_eq_false_iff, decide_eq_false_iff_not] at h6 h; omega)]; rfl
   ·rw [if_pos (by unfold inR at h6; simp only [decide_eq_true_eq, Bool.and_eq_true] at h6 ⊢; omega)]; rfl
  have hspH := Lib.hid hsp
  clear hsp hvl h4 h5
  go_wp2_with fail
  clear hEV3 hAkj hxkj hPkj ykj0 ykj1 ykj2 fykj0 fykj1 fykj2
  have hc := Zip_any 1 1 (some ⟨X0.heap.size, 0, none⟩) 1 1 [0] (Lib.hid rfl) 1 1 (some ⟨X0.heap.size, 0, none⟩) 1 1 [0] (Lib.hid rfl) x.how hhow.1 hhow.2 V4 (by decide) (by decide) hr1 hr1
  unfold RetIm at hc
  rw [hspH.out] at hc
  refine hc.mono ?_
  clear hc
  rintro e V5 ⟨⟨vv, rfl, tt, rfl, hrow⟩, hb⟩
  clear x0 x1 x2 x3 x4 x5 x6 x7 x8 x9 x10 x11 j0 j1 j2
  replace kv := kv.below hb kv.lt
  replace kx := kx.below hb kx.lt
  replace kn := kn.below hb kn.lt
  replace k0 := k0.below hb k0.lt
  replace kj := kj.below hb kj.lt
  replace hra := later_i hra hb
  replace hB := tmB hB hb
  clear hb
  clear hrow
  cases q6
  case false =>
   have hqf : Q = false := by rw [hQH.out]; simp
   subst hqf
   rw [if_neg (by simp)]
   go_wp2_with fail
   go_ret
   exact ⟨rfl, hB⟩
  case true =>
   have hqt : Q = true := by rw [hQH.out]; simp
   subst hqt
   rw [if_pos rfl]
   go_wp2_with fail
   go_ret
   exact ⟨rfl, hB⟩
 case neg =>
 have h5b : ((k : Int) == 5) = false := by simp; omega
 have h6t : q6 = true := by rw [← hq6H.out, if_neg h4, if_neg h5]
 subst h6t
 have hqt : Q = true := by rw [hQH.out]; simp
 subst hqt
 clear h4 h5
 go_wp2_with fail
 go_ret
 exact ⟨rfl, hB⟩
set_option maxRecDepth 100000 in
set_option maxHeartbeats 8000000 in
theorem instr_any (v : VecN) (hv : 1 ≤ v.lanes ∧ v.lanes ≤ 16 ∧ 2 ≤ v.regs ∧ v.regs ≤ 16 ∧ 1 ≤ v.mem ∧ v.mem ≤ 8192) (x : InsN) (hx : InsIn x) (ia : Option Addr) (ic : Nat) (T : Array Value) (hTs : T.size = 42)
  (hT : ∀ k, k < 7 → T[k * 6]? = some (.bool (needAt k).d) ∧ T[k * 6 + 1]? = some (.bool (needAt k).a) ∧ T[k * 6 + 2]? = some (.bool (needAt k).b) ∧ T[k * 6 + 3]? = some (.bool (needAt k).ad) ∧ T[k * 6 + 4]? = some (.int .i64 (needAt k).val) ∧ T[k * 6 + 5]? = some (needAt k).fn)
  (w : World) (hra : Rd w.heap.size w ia x.ad) :
  Calls Tryz.prog 76 #[.agg #[.int .i64 v.lanes, .int .i64 v.regs, .int .i64 v.mem], insv x ia ic, .agg T] w fun e w' => e = .returned (.bool (insB v x)) ∧ Below w.heap.size w w' := by
 have hB : Below w.heap.size w w := Below.refl _ _
 have hraH := Lib.hid hra
 obtain ⟨hop, hhow, hal0⟩ := hx
 obtain ⟨Q, hQ⟩ : ∃ q, insB v x = q := ⟨_, rfl⟩
 rw [hQ]
 have hQH := Lib.hid hQ
 obtain ⟨hv1, hv2, hv3, hv4, hv5, hv6⟩ := hv
 obtain ⟨al, hal⟩ : ∃ l, x.ad.length = l := ⟨_, rfl⟩
 have halH := Lib.hid hal
 unfold insv
 rw [hal] at hal0 ⊢
 clear hQ hal
 obtain ⟨O, hO⟩ : ∃ O, x.op = O := ⟨_, rfl⟩
 rw [hO] at hop ⊢
 have hOH := Lib.hid hO
 clear hO
 obtain ⟨V1, hEV1, hbV1, kv⟩ := newB w 26 #[.int .i64 v.lanes, .int .i64 v.regs, .int .i64 v.mem]
 replace hra := later_i hra hbV1
 replace hB := tmB hB hbV1
 clear hbV1
 obtain ⟨m0, m1, m2⟩ := cz3 kv
 obtain ⟨V2, hEV2, hbV2, kx⟩ := newB V1 143 #[.int .u8 O, .int .i64 x.d, .int .i64 x.a, .int .i64 x.b, .int .i64 x.val, .int .i64 x.pt.mul, .int .i64 x.pt.add, .int .i64 x.pt.div, .int .i64 x.pt.lo, .int .i64 x.pt.hi, .int .u8 x.how, .slice ia al ic]
 clear m0 m1 m2
 replace kv := kv.below hbV2 kv.lt
 replace hra := later_i hra hbV2
 replace hB := tmB hB hbV2
 clear hbV2
 obtain ⟨m0, m1, m2⟩ := cz3 kv
 obtain ⟨x0, x1, x2, x3, x4, x5, x6, x7, x8, x9, x10, x11⟩ := cz12 kx
 by_cases hlow : O < 1
 case pos =>
  have hd1 : decide (O < 1) = true := by simp [hlow]
  have hqf : Q = false := by rw [← hQH.out]; exact insB_no v x (.inl (by rw [hOH.out]; exact hlow))
  subst hqf
  have hB2 := jb_al hB (.cells T 139)
  obtain ⟨V9, hV9⟩ : ∃ X, V2.alloc (.cells T 139) = X := ⟨_, rfl⟩
  have x0' := x0
  have hy0 := (kx.alloc (.cells T 139)).cell (i := 0) rfl
  rw [hV9] at hy0 hB2
  go_enter Tryz.func76, Tryz.ntmps76
  go_wp2_with fail
  go_ret
  exact ⟨rfl, hB2⟩
 case neg =>
  have hd1 : decide (O < 1) = false := by simp; omega
  by_cases hhigh : 7 ≤ O
  case pos =>
   have hd2 : decide (7 ≤ O) = true := by simp [hhigh]
   have hqf : Q = false := by rw [← hQH.out]; exact insB_no v x (.inr (by rw [hOH.out]; exact hhigh))
   subst hqf
   have hB2 := jb_al hB (.cells T 139)
   obtain ⟨V9, hV9⟩ : ∃ X, V2.alloc (.cells T 139) = X := ⟨_, rfl⟩
   have hy0 := (kx.alloc (.cells T 139)).cell (i := 0) rfl
   rw [hV9] at hy0 hB2
   go_enter Tryz.func76, Tryz.ntmps76
   go_wp2_with fail
   go_ret
   exact ⟨rfl, hB2⟩
  case neg =>
   have hd2 : decide (7 ≤ O) = false := by simp; omega
   obtain ⟨k, rfl⟩ : ∃ k : Nat, O = (k : Int) := ⟨O.toNat, by omega⟩
   have hk1 : 1 ≤ k := by omega
   have hk7 : k < 7 := by omega
   clear hlow hhigh hop
   exact instr_go v ⟨hv1, hv2, hv3, hv4, hv5, hv6⟩ x k hOH.out hk1 hk7 hhow ia ic T hTs hT al halH.out hal0 Q hQH.out w hraH.out
end Go.Proofs.YtekiemlniegddaaGreat

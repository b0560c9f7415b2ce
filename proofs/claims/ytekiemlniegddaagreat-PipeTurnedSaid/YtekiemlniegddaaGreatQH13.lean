/- Contracts and laws (McD, Fork, McB, McE). -/
import Derived.Deep.MidRow
import Derived.Great.Walk
import Derived.Maps.AppendAt
import Derived.Test.YtekiemlniegddaaGreatQH12
import Derived.Test.YtekiemlniegddaaGreatQH1
import Derived.Test.YtekiemlniegddaaGreatQH11
import Derived.Test.YtekiemlniegddaaGreatQH2
set_option linter.unusedVariables false
set_option linter.unusedSimpArgs false
namespace Go.Proofs.YtekiemlniegddaaGreat
open Go Go.RowKit Go.Shelf
set_option maxRecDepth 100000 in
set_option maxHeartbeats 4000000 in
theorem IndexL_any (p : Int → Bool) (fo : Nat) (lb : Array Value) (eg : ∀ args w, (callFunc fo args).run Tryz.prog w = .ok (.enter fo args) w) (xs : List Int) (a : Option Addr) (c n : Nat) (hn : xs.length = n) (hm : n ≤ 9223372036854775807) (w : World) (hr : Rd w.heap.size w a xs)
  (hof : ∀ i, i < n → ∀ (W : World), Below w.heap.size w W → Calls Tryz.prog fo (#[.int .i64 (xs[i]?.getD 0)] ++ lb) W fun e W' => e = .returned (.bool (p (xs[i]?.getD 0))) ∧ Below W.heap.size W W') :
  Calls Tryz.prog 117 #[.slice a n c, .func (.func fo) #[] lb] w fun e w' => (∃ k : Int, e = .returned (.int .i64 k) ∧ decide (0 ≤ k) = xs.any p) ∧ Below w.heap.size w w' := by
 have hnH := Lib.hid hn
 have hofH := Lib.hid hof
 clear hn hof
 go_enter Tryz.func117, Tryz.ntmps117
 go_wp2
 go_loopw [5, 8] (fun v i wr => ∃ k : Nat, k ≤ n ∧ i = .int .i64 k ∧ Hid ((xs.take k).any p = false) ∧ Below w.heap.size w wr) (fun _ i _ => n - (intOf i).toNat)
 case atStart => exact ⟨0, Nat.zero_le _, rfl, Lib.hid (by simp), Below.refl _ _⟩
 case round =>
  obtain ⟨k, hk, rfl, hall, hB⟩ := hrel
  by_cases hlt : k < n
  ·have hlt' : k < xs.length := by have := hnH.out; omega
   rcases hr with h0 | ⟨b, o, rfl, hb, hc⟩
   ·exfalso; rw [h0] at hlt'; simp at hlt'
   have c0 := (hB.cell (p := ⟨b, o + k, none⟩) hb).trans (hc k hlt')
   have hcall := hofH.out k hlt wr hB
   obtain ⟨y, hy⟩ : ∃ y, xs[k]?.getD 0 = y := ⟨_, rfl⟩
   have hpk : (xs.take (k + 1)).any p = ((xs.take k).any p || p (xs[k]?.getD 0)) := by
    rw [List.take_succ_eq_append_getElem hlt', List.any_append]; rw [List.getElem?_eq_getElem hlt']; simp
   have hhit : p (xs[k]?.getD 0) = true → xs.any p = true := fun h => by
    rw [List.getElem?_eq_getElem hlt'] at h
    exact List.any_eq_true.2 ⟨_, List.getElem_mem hlt', h⟩
   obtain ⟨pk, hpe⟩ : ∃ v, p (xs[k]?.getD 0) = v := ⟨_, rfl⟩
   rw [hpe] at hcall hpk hhit
   rw [hall.out, Bool.false_or] at hpk
   have hpkH := Lib.hid hpk
   have hhitH := Lib.hid hhit
   have hcallH := Lib.hid hcall
   clear hpe hpk hhit hcall
   rw [hy] at c0 hcallH
   clear hc hy
   cases pk with
   | true =>
    go_wp2_with (go_at_fn fo; refine hcallH.out.mono ?_; rintro e w2 ⟨rfl, hb2⟩)
    go_ret
    exact ⟨⟨_, rfl, by rw [hhitH.out trivial]; simp⟩, hB.trans (hb2.mono hB.size)⟩
   | false =>
    go_wp2_with (go_at_fn fo; refine hcallH.out.mono ?_; rintro e w2 ⟨rfl, hb2⟩)
    go_roundw
    case rel => exact ⟨k + 1, by omega, by go_num, Lib.hid hpkH.out, hB.trans (hb2.mono hB.size)⟩
    case measure => simp [intOf]; omega
  ·go_wp2
   go_ret
   have hall2 := hall.out
   rw [List.take_of_length_le (by have := hnH.out; omega)] at hall2
   exact ⟨⟨_, rfl, by rw [hall2]; rfl⟩, hB⟩
set_option maxRecDepth 100000 in
set_option maxHeartbeats 1000000 in
theorem ContainsL_any (p : Int → Bool) (fo : Nat) (lb : Array Value) (eg : ∀ args w, (callFunc fo args).run Tryz.prog w = .ok (.enter fo args) w) (xs : List Int) (a : Option Addr) (c n : Nat) (hn : xs.length = n) (hm : n ≤ 9223372036854775807) (w : World) (hr : Rd w.heap.size w a xs)
  (hof : ∀ i, i < n → ∀ (W : World), Below w.heap.size w W → Calls Tryz.prog fo (#[.int .i64 (xs[i]?.getD 0)] ++ lb) W fun e W' => e = .returned (.bool (p (xs[i]?.getD 0))) ∧ Below W.heap.size W W') :
  Calls Tryz.prog 72 #[.slice a n c, .func (.func fo) #[] lb] w fun e w' => e = .returned (.bool (xs.any p)) ∧ Below w.heap.size w w' := by
 have hc := IndexL_any p fo lb eg xs a c n hn hm w hr hof
 clear hof eg
 go_enter Tryz.func72, Tryz.ntmps72
 go_wp2_with (go_at_call 117; refine hc.mono ?_; rintro e w' ⟨⟨k, rfl, hk⟩, hb⟩)
 all_goals go_ret
 all_goals exact ⟨ret_bool (by rw [← hk]), hb⟩
set_option maxRecDepth 100000 in
set_option maxHeartbeats 4000000 in
theorem IndexC_any (p : InsN → Bool) (fo : Nat) (lb : Array Value) (eg : ∀ args w, (callFunc fo args).run Tryz.prog w = .ok (.enter fo args) w) (xs : List InsN) (a : Option Addr) (c n : Nat) (hn : xs.length = n) (hm : n ≤ 9223372036854775807) (w : World) (hr : RdCs w.heap.size w a xs)
  (hof : ∀ i, i < n → ∀ (W : World) (ia : Option Addr) (ic : Nat), Below w.heap.size w W → Rd W.heap.size W ia (insAt xs i).ad → Calls Tryz.prog fo (#[insv (insAt xs i) ia ic] ++ lb) W fun e W' => e = .returned (.bool (p (insAt xs i))) ∧ Below W.heap.size W W') :
  Calls Tryz.prog 124 #[.slice a n c, .func (.func fo) #[] lb] w fun e w' => (∃ k : Int, e = .returned (.int .i64 k) ∧ decide (0 ≤ k) = xs.any p) ∧ Below w.heap.size w w' := by
 have hnH := Lib.hid hn
 have hofH := Lib.hid hof
 clear hn hof
 go_enter Tryz.func124, Tryz.ntmps124
 go_wp2
 go_loopw [5, 8] (fun v i wr => ∃ k : Nat, k ≤ n ∧ i = .int .i64 k ∧ Hid ((xs.take k).any p = false) ∧ Below w.heap.size w wr) (fun _ i _ => n - (intOf i).toNat)
 case atStart => exact ⟨0, Nat.zero_le _, rfl, Lib.hid (by simp), Below.refl _ _⟩
 case round =>
  obtain ⟨k, hk, rfl, hall, hB⟩ := hrel
  by_cases hlt : k < n
  ·have hlt' : k < xs.length := by have := hnH.out; omega
   rcases hr with h0 | ⟨b, o, rfl, hb, hc⟩
   ·exfalso; rw [h0] at hlt'; simp at hlt'
   obtain ⟨ia, ic, hcell, had⟩ := hc k hlt'
   have c0 : wr.cell? ⟨b, o + k * 12, none⟩ = some (.int .u8 (insAt xs k).op) := (hB.cell (p := ⟨b, o + k * 12, none⟩) hb).trans (hcell 0 _ rfl)
   have c1 : wr.cell? ⟨b, o + k * 12 + 1, none⟩ = some (.int .i64 (insAt xs k).d) := (hB.cell (p := ⟨b, o + k * 12 + 1, none⟩) hb).trans (hcell 1 _ rfl)
   have c2 : wr.cell? ⟨b, o + k * 12 + 2, none⟩ = some (.int .i64 (insAt xs k).a) := (hB.cell (p := ⟨b, o + k * 12 + 2, none⟩) hb).trans (hcell 2 _ rfl)
   have c3 : wr.cell? ⟨b, o + k * 12 + 3, none⟩ = some (.int .i64 (insAt xs k).b) := (hB.cell (p := ⟨b, o + k * 12 + 3, none⟩) hb).trans (hcell 3 _ rfl)
   have c4 : wr.cell? ⟨b, o + k * 12 + 4, none⟩ = some (.int .i64 (insAt xs k).val) := (hB.cell (p := ⟨b, o + k * 12 + 4, none⟩) hb).trans (hcell 4 _ rfl)
   have c5 : wr.cell? ⟨b, o + k * 12 + 5, none⟩ = some (.int .i64 (insAt xs k).pt.mul) := (hB.cell (p := ⟨b, o + k * 12 + 5, none⟩) hb).trans (hcell 5 _ rfl)
   have c6 : wr.cell? ⟨b, o + k * 12 + 6, none⟩ = some (.int .i64 (insAt xs k).pt.add) := (hB.cell (p := ⟨b, o + k * 12 + 6, none⟩) hb).trans (hcell 6 _ rfl)
   have c7 : wr.cell? ⟨b, o + k * 12 + 7, none⟩ = some (.int .i64 (insAt xs k).pt.div) := (hB.cell (p := ⟨b, o + k * 12 + 7, none⟩) hb).trans (hcell 7 _ rfl)
   have c8 : wr.cell? ⟨b, o + k * 12 + 8, none⟩ = some (.int .i64 (insAt xs k).pt.lo) := (hB.cell (p := ⟨b, o + k * 12 + 8, none⟩) hb).trans (hcell 8 _ rfl)
   have c9 : wr.cell? ⟨b, o + k * 12 + 9, none⟩ = some (.int .i64 (insAt xs k).pt.hi) := (hB.cell (p := ⟨b, o + k * 12 + 9, none⟩) hb).trans (hcell 9 _ rfl)
   have c10 : wr.cell? ⟨b, o + k * 12 + 10, none⟩ = some (.int .u8 (insAt xs k).how) := (hB.cell (p := ⟨b, o + k * 12 + 10, none⟩) hb).trans (hcell 10 _ rfl)
   have c11 : wr.cell? ⟨b, o + k * 12 + 11, none⟩ = some (.slice ia (insAt xs k).ad.length ic) := (hB.cell (p := ⟨b, o + k * 12 + 11, none⟩) hb).trans (hcell 11 _ rfl)
   have hcall := hofH.out k hlt wr ia ic hB (later_i had hB)
   have hpk : (xs.take (k + 1)).any p = ((xs.take k).any p || p (insAt xs k)) := by
    rw [List.take_succ_eq_append_getElem hlt', List.any_append]; unfold insAt; rw [List.getElem?_eq_getElem hlt']; simp
   have hhit : p (insAt xs k) = true → xs.any p = true := fun h => by
    unfold insAt at h; rw [List.getElem?_eq_getElem hlt'] at h
    exact List.any_eq_true.2 ⟨_, List.getElem_mem hlt', h⟩
   obtain ⟨pk, hpe⟩ : ∃ v, p (insAt xs k) = v := ⟨_, rfl⟩
   rw [hpe] at hcall hpk hhit
   rw [hall.out, Bool.false_or] at hpk
   have hpkH := Lib.hid hpk
   have hhitH := Lib.hid hhit
   have hcallH := Lib.hid hcall
   clear hpe hpk hhit hcall
   obtain ⟨y, hy⟩ : ∃ y, insAt xs k = y := ⟨_, rfl⟩
   rw [hy] at c0 c1 c2 c3 c4 c5 c6 c7 c8 c9 c10 c11 hcallH
   clear hc hy hcell had
   cases pk with
   | true =>
    go_wp2_with (go_at_fn fo; refine hcallH.out.mono ?_; rintro e w2 ⟨rfl, hb2⟩)
    go_ret
    exact ⟨⟨_, rfl, by rw [hhitH.out trivial]; simp⟩, hB.trans (hb2.mono hB.size)⟩
   | false =>
    go_wp2_with (go_at_fn fo; refine hcallH.out.mono ?_; rintro e w2 ⟨rfl, hb2⟩)
    go_roundw
    case rel => exact ⟨k + 1, by omega, by go_num, Lib.hid hpkH.out, hB.trans (hb2.mono hB.size)⟩
    case measure => simp [intOf]; omega
  ·go_wp2
   go_ret
   have hall2 := hall.out
   rw [List.take_of_length_le (by have := hnH.out; omega)] at hall2
   exact ⟨⟨_, rfl, by rw [hall2]; rfl⟩, hB⟩
set_option maxRecDepth 100000 in
set_option maxHeartbeats 1000000 in
theorem ContainsC_any (p : InsN → Bool) (fo : Nat) (lb : Array Value) (eg : ∀ args w, (callFunc fo args).run Tryz.prog w = .ok (.enter fo args) w) (xs : List InsN) (a : Option Addr) (c n : Nat) (hn : xs.length = n) (hm : n ≤ 9223372036854775807) (w : World) (hr : RdCs w.heap.size w a xs)
  (hof : ∀ i, i < n → ∀ (W : World) (ia : Option Addr) (ic : Nat), Below w.heap.size w W → Rd W.heap.size W ia (insAt xs i).ad → Calls Tryz.prog fo (#[insv (insAt xs i) ia ic] ++ lb) W fun e W' => e = .returned (.bool (p (insAt xs i))) ∧ Below W.heap.size W W') :
  Calls Tryz.prog 74 #[.slice a n c, .func (.func fo) #[] lb] w fun e w' => e = .returned (.bool (xs.any p)) ∧ Below w.heap.size w w' := by
 have hc := IndexC_any p fo lb eg xs a c n hn hm w hr hof
 clear hof eg
 go_enter Tryz.func74, Tryz.ntmps74
 go_wp2_with (go_at_call 124; refine hc.mono ?_; rintro e w' ⟨⟨k, rfl, hk⟩, hb⟩)
 all_goals go_ret
 all_goals exact ⟨ret_bool (by rw [← hk]), hb⟩
/-- An address that is neither -1 nor in the range. -/
def oddP (last x : Int) : Bool := !decide (x = -1) && !inR x 0 last
set_option maxRecDepth 100000 in
set_option maxHeartbeats 2000000 in
theorem odd_any (last x : Int) (bl : Nat) (w : World) (kl : Blk w bl 3 #[.int .i64 last]) :
  Calls Tryz.prog 71 #[.int .i64 x, .pointer (some ⟨bl, 0, none⟩)] w fun e w' => e = .returned (.bool (oddP last x)) ∧ w' = w := by
 have l0 := kl.cell (i := 0) rfl
 unfold oddP
 obtain ⟨q, hq⟩ : ∃ q, inR x 0 last = q := ⟨_, rfl⟩
 have hqH := Lib.hid hq
 rw [hq]
 clear hq kl
 by_cases hx : x = -1
 ·subst hx
  go_enter Tryz.func71, Tryz.ntmps71
  go_wp2_with fail
  go_ret
  exact ⟨ret_bool (by simp), rfl⟩
 ·have hx2 : (x != -1) = true := by simp [hx]
  have hxH := Lib.hid hx
  clear hx
  go_enter Tryz.func71, Tryz.ntmps71
  go_wp2_with (go_at_call 70; refine (pwithin2 x 0 last q hqH.out _).mono ?_; rintro e w' ⟨rfl, hw⟩; rw [hw]; clear hw w')
  go_ret
  exact ⟨ret_bool (by simp [hxH.out]), rfl⟩
theorem enters_odd : ∀ args w, (callFunc 71 args).run Tryz.prog w = .ok (.enter 71 args) w := enters_of Tryz.func71 (by kernel_rfl) rfl
theorem wpList_callAny {P : Program} {ops : Array Oper} {rest : List Oper} {o : Oper} {a : Act} {w : World} {Q : Exit → Act → World → Prop} (hg : o.guard = none) (d : Option Tmp) (hd : o.dst = d)
  (f : FuncId) (args : Array Value) (hrun : (execOp a.eval o).run P w = .ok (.enter f args) w) (R : Ending → World → Prop) (hc : Calls P f args w R)
  (h : ∀ e w', R e w' → ∃ v, e = .returned v ∧ wpList P ops Q rest (a.put d v) w') : wpList P ops Q (o :: rest) a w := by
 subst hd
 refine wpList_plain hg fun K hK => ?_
 unfold Oper.wp
 rw [hrun, Oper.upon_enter]
 refine hc.mono fun e w2 hh => ?_
 obtain ⟨v, rfl, h2⟩ := h e w2 hh
 exact hK _ _ h2
theorem blk_range {W : World} {b : Nat} {e : TypeId} {T : Array Value} (k : Blk W b e T) : W.rangeAt b 0 T.toList := fun j v hv => by
 rw [Nat.zero_add]
 exact k.cell (by rw [← Array.getElem?_toList]; exact hv)
abbrev VecIn (v : VecN) : Prop := 1 ≤ v.lanes ∧ v.lanes ≤ 16 ∧ 2 ≤ v.regs ∧ v.regs ≤ 16 ∧ 1 ≤ v.mem ∧ v.mem ≤ 8192
abbrev TabIn (T : Array Value) : Prop := ∀ k, k < 7 → T[k * 6]? = some (.bool (needAt k).d) ∧ T[k * 6 + 1]? = some (.bool (needAt k).a) ∧ T[k * 6 + 2]? = some (.bool (needAt k).b) ∧ T[k * 6 + 3]? = some (.bool (needAt k).ad) ∧ T[k * 6 + 4]? = some (.int .i64 (needAt k).val) ∧ T[k * 6 + 5]? = some (needAt k).fn
set_option maxRecDepth 100000 in
set_option maxHeartbeats 4000000 in
theorem bad_any (v : VecN) (hv : VecIn v) (x : InsN) (hx : InsIn x) (ia : Option Addr) (ic bv bT : Nat) (T : Array Value) (hTs : T.size = 42) (hT : TabIn T) (w : World) (kv : Blk w bv 26 #[.int .i64 v.lanes, .int .i64 v.regs, .int .i64 v.mem]) (kT : Blk w bT 139 T) (hra : Rd w.heap.size w ia x.ad) :
  Calls Tryz.prog 75 #[insv x ia ic, .pointer (some ⟨bv, 0, none⟩), .pointer (some ⟨bT, 0, none⟩)] w fun e w' => e = .returned (.bool (!insB v x)) ∧ Below w.heap.size w w' := by
 have hB : Below w.heap.size w w := Below.refl _ _
 unfold insv
 have hxH := Lib.hid hx
 clear hx
 obtain ⟨V1, hEV1, hbV1, kx⟩ := newB w 143 #[.int .u8 x.op, .int .i64 x.d, .int .i64 x.a, .int .i64 x.b, .int .i64 x.val, .int .i64 x.pt.mul, .int .i64 x.pt.add, .int .i64 x.pt.div, .int .i64 x.pt.lo, .int .i64 x.pt.hi, .int .u8 x.how, .slice ia x.ad.length ic]
 replace kv := kv.below hbV1 kv.lt
 replace kT := kT.below hbV1 kT.lt
 replace hra := later_i hra hbV1
 replace hB := tmB hB hbV1
 clear hbV1
 obtain ⟨v0, v1, v2⟩ := cz3 kv
 obtain ⟨x0, x1, x2, x3, x4, x5, x6, x7, x8, x9, x10, x11⟩ := cz12 kx
 have hr0 := blk_range kv
 have hr1 := blk_range kx
 have hr2 := blk_range kT
 have hTs2 : (Tryz.prog.info? 139).map (·.size) = some T.toList.length := by rw [Array.length_toList, hTs]; kernel_rfl
 have hTT : T.toList.toArray = T := by simp
 go_enter Tryz.func75, Tryz.ntmps75
 go_upto_region 1 with fail
 refine wp_region_lit ?_
 refine wpList_load_mid rfl 26 _ rfl bv 0 rfl _ _ hr0 Tryz.underlying26 rfl (by kernel_rfl) ?_
 refine wpList_load_mid rfl 143 _ rfl w.heap.size 0 rfl _ _ hr1 Tryz.underlying143 rfl (by kernel_rfl) ?_
 refine wpList_load_mid rfl 139 _ rfl bT 0 rfl _ _ hr2 Tryz.underlying139 rfl hTs2 ?_
 rw [hTT]
 clear hr0 hr1 hr2 hTs2 hTT
 go_wp2_with (go_at_call 76; refine (instr_any v hv x hxH.out ia ic T hTs hT V1 hra).mono ?_; rintro e V9 ⟨rfl, hb⟩)
 replace hB := tmB hB hb
 clear hb
 go_ret
 exact ⟨rfl, hB⟩
theorem enters_bad : ∀ args w, (callFunc 75 args).run Tryz.prog w = .ok (.enter 75 args) w := enters_of Tryz.func75 (by kernel_rfl) rfl
abbrev vecv (v : VecN) : Value := .agg #[.int .i64 v.lanes, .int .i64 v.regs, .int .i64 v.mem]
abbrev codev (C : CodeN) (ia : Option Addr) (ic : Nat) (xa : Option Addr) (xc : Nat) : Value := .agg #[.int .i64 C.w, .int .i64 C.h, .slice ia C.inp.length ic, .int .i64 C.out, .slice xa C.ins.length xc]
/-- What a code's numbers are, as they came in. -/
structure CodeIn (C : CodeN) : Prop where
 il : C.inp.length ≤ 9223372036854775807
 xl : C.ins.length ≤ 9223372036854775807
 ins : ∀ i, i < C.ins.length → InsIn (insAt C.ins i)
theorem odd_is (m : Int) (l : List Int) : (l.any (oddP m)) = !l.all (fun x => decide (x = -1) || inR x 0 m) := by
 induction l with
 | nil => rfl
 | cons a l ih => simp only [List.any_cons, List.all_cons, ih]; unfold oddP; cases decide (a = -1) <;> cases inR a 0 m <;> simp
theorem bad_is (v : VecN) (l : List InsN) : (l.any fun x => !insB v x) = !l.all (insB v) := by
 induction l with
 | nil => rfl
 | cons a l ih => simp only [List.any_cons, List.all_cons, ih]; cases insB v a <;> simp
theorem codeB_is (v : VecN) (C : CodeN) : codeB v C = ((inR C.w 1 16 && inR C.h 1 16) && (decide (C.inp.length ≤ 3) && (decide (C.ins.length ≤ 200000) && (inR C.out 0 (v.mem - C.w * C.h) && (!C.inp.any (oddP (v.mem - C.w * C.h)) && !C.ins.any (fun x => !insB v x)))))) := by
 unfold codeB; rw [odd_is, bad_is]; simp
set_option maxRecDepth 100000 in
set_option maxHeartbeats 8000000 in
theorem CheckCode_any (v : VecN) (C : CodeN) (ia xa : Option Addr) (ic xc : Nat) (hC : CodeIn C) (w : World) (hri : Rd w.heap.size w ia C.inp) (hrx : RdCs w.heap.size w xa C.ins) :
  Calls Tryz.prog 28 #[vecv v, codev C ia ic xa xc] w fun e w' => e = .returned (.int .i64 (chkS v C)) ∧ Below w.heap.size w w' := by
 have hB : Below w.heap.size w w := Below.refl _ _
 obtain ⟨il0, xl0, hins⟩ := hC
 obtain ⟨R, hR⟩ : ∃ R, chkS v C = R := ⟨_, rfl⟩
 rw [hR]
 have hRH := Lib.hid hR
 have hcb := codeB_is v C
 obtain ⟨W, H, inp, out, ins⟩ := C
 unfold vecv codev
 simp only at il0 xl0 hri hrx hins hcb ⊢
 obtain ⟨ni, hni⟩ : ∃ l, inp.length = l := ⟨_, rfl⟩
 obtain ⟨nx, hnx⟩ : ∃ l, ins.length = l := ⟨_, rfl⟩
 have hniH := Lib.hid hni
 have hnxH := Lib.hid hnx
 have hinsH := Lib.hid hins
 rw [hni] at il0 hcb ⊢
 rw [hnx] at xl0 hcb ⊢
 have hcbH := Lib.hid hcb
 clear hR hcb hni hnx hins
 obtain ⟨vb, hvb⟩ : ∃ b, vecB v = b := ⟨_, rfl⟩
 have hvbH := Lib.hid hvb
 clear hvb
 obtain ⟨V1, hEV1, hbV1, kv⟩ := newB w 26 #[.int .i64 v.lanes, .int .i64 v.regs, .int .i64 v.mem]
 replace hri := later_i hri hbV1
 replace hrx := hrx.later hbV1
 replace hB := tmB hB hbV1
 clear hbV1
 obtain ⟨v0, v1, v2⟩ := cz3 kv
 obtain ⟨V2, hEV2, hbV2, kc⟩ := newB V1 43 #[.int .i64 W, .int .i64 H, .slice ia ni ic, .int .i64 out, .slice xa nx xc]
 clear v0 v1 v2
 replace kv := kv.below hbV2 kv.lt
 replace hri := later_i hri hbV2
 replace hrx := hrx.later hbV2
 replace hB := tmB hB hbV2
 clear hbV2
 obtain ⟨v0, v1, v2⟩ := cz3 kv
 obtain ⟨c0, c1, c2, c3, c4⟩ := cz5 kc
 go_enter Tryz.func28, Tryz.ntmps28
 go_wp2_with fail
 clear hEV1 hEV2
 refine (vector_any v vb hvbH.out V2).mono ?_
 rintro e V3 ⟨rfl, hb⟩
 clear v0 v1 v2 c0 c1 c2 c3 c4
 replace kv := kv.below hb kv.lt
 replace kc := kc.below hb kc.lt
 replace hri := later_i hri hb
 replace hrx := hrx.later hb
 replace hB := tmB hB hb
 clear hb
 obtain ⟨v0, v1, v2⟩ := cz3 kv
 obtain ⟨c0, c1, c2, c3, c4⟩ := cz5 kc
 cases vb with
 | false =>
  have hR2 : R = 31 := by rw [← hRH.out]; unfold chkS; rw [hvbH.out]; rfl
  subst hR2
  go_wp2_with fail
  go_ret
  exact ⟨rfl, hB⟩
 | true =>
 have hvv : VecIn v := by
  have := hvbH.out
  unfold vecB at this
  simp only [Bool.and_eq_true, inR_true] at this
  omega
 have hvvH := Lib.hid hvv
 obtain ⟨q1, q2, q3, q4, q5, q6⟩ := hvv
 have tok1 : True := trivial
 have tok2 : True := trivial
 have tok3 : True := trivial
 have tok4 : True := trivial
 cases a1 : inR W 1 16 with
 | false =>
  have hR2 : R = 32 := by rw [← hRH.out]; unfold chkS; rw [hvbH.out, hcbH.out, a1]; simp
  subst hR2
  have a1H := Lib.hid a1
  clear a1
  go_wp2_with (go_at_call 70; have _t := tok1; refine (pwithin2 W 1 16 false a1H.out _).mono ?_; clear _t tok1; rintro e w' ⟨rfl, hw⟩; rw [hw]; clear hw w')
  go_ret
  exact ⟨rfl, hB⟩
 | true =>
 have a1H := Lib.hid a1
 have a1b := inR_true.1 a1
 clear a1
 cases a2 : inR H 1 16 with
 | false =>
  have hR2 : R = 32 := by rw [← hRH.out]; unfold chkS; rw [hvbH.out, hcbH.out, a2]; simp
  subst hR2
  have a2H := Lib.hid a2
  clear a2
  go_wp2_with (first
   | (go_at_call 70; have _t := tok1; refine (pwithin2 W 1 16 true a1H.out _).mono ?_; clear _t tok1; rintro e w' ⟨rfl, hw⟩; rw [hw]; clear hw w')
   | (go_at_call 70; have _t := tok2; refine (pwithin2 H 1 16 false a2H.out _).mono ?_; clear _t tok2; rintro e w' ⟨rfl, hw⟩; rw [hw]; clear hw w'))
  go_ret
  exact ⟨rfl, hB⟩
 | true =>
 have a2H := Lib.hid a2
 have a2b := inR_true.1 a2
 clear a2
 by_cases a3 : ni ≤ 3
 case neg =>
  have hR2 : R = 32 := by rw [← hRH.out]; unfold chkS; rw [hvbH.out, hcbH.out, show decide (ni ≤ 3) = false by simp; omega]; simp
  subst hR2
  have a3d : decide (3 < (ni : Int)) = true := by simp; omega
  go_wp2_with (first
   | (go_at_call 70; have _t := tok1; refine (pwithin2 W 1 16 true a1H.out _).mono ?_; clear _t tok1; rintro e w' ⟨rfl, hw⟩; rw [hw]; clear hw w')
   | (go_at_call 70; have _t := tok2; refine (pwithin2 H 1 16 true a2H.out _).mono ?_; clear _t tok2; rintro e w' ⟨rfl, hw⟩; rw [hw]; clear hw w'))
  all_goals (go_ret; exact ⟨rfl, hB⟩)
 case pos =>
 have a3d : decide (3 < (ni : Int)) = false := by simp; omega
 by_cases a4 : nx ≤ 200000
 case neg =>
  have hR2 : R = 32 := by rw [← hRH.out]; unfold chkS; rw [hvbH.out, hcbH.out, show decide (nx ≤ 200000) = false by simp; omega]; simp
  subst hR2
  have a4d : decide (200000 < (nx : Int)) = true := by simp; omega
  go_wp2_with (first
   | (go_at_call 70; have _t := tok1; refine (pwithin2 W 1 16 true a1H.out _).mono ?_; clear _t tok1; rintro e w' ⟨rfl, hw⟩; rw [hw]; clear hw w')
   | (go_at_call 70; have _t := tok2; refine (pwithin2 H 1 16 true a2H.out _).mono ?_; clear _t tok2; rintro e w' ⟨rfl, hw⟩; rw [hw]; clear hw w'))
  all_goals (go_ret; exact ⟨rfl, hB⟩)
 case pos =>
 have a4d : decide (200000 < (nx : Int)) = false := by simp; omega
 have hmb := prod_bd (a := W) (x := H) (m := 16) (n := 16) (by omega) (by omega) (by omega) (by omega) (by omega)
 have hWH := Lib.hid (show ∃ p, W * H = p from ⟨_, rfl⟩)
 obtain ⟨p, hp⟩ := hWH.out
 rw [hp] at hmb
 simp only [Int.reduceMul] at hmb
 obtain ⟨last, hlast⟩ : ∃ l, v.mem - p = l := ⟨_, rfl⟩
 have hcb2 := hcbH.out
 rw [hp, hlast] at hcb2
 have hcb2H := Lib.hid hcb2
 clear hcb2 hWH
 have kl := Blk.new V3 3 #[.int .i64 0]
 obtain ⟨bl, hbl⟩ : ∃ b, V3.heap.size = b := ⟨_, rfl⟩
 obtain ⟨VA, hVA⟩ : ∃ X, V3.alloc (.cells #[.int .i64 0] 3) = X := ⟨_, rfl⟩
 have hbA : Below V3.heap.size V3 VA := alloc_below hVA
 rw [hVA, hbl] at kl
 have z0 := kl.cell (i := 0) rfl
 have fz0 := kl.frozen 0
 have kl2 : Blk (VA.setCell ⟨bl, 0, none⟩ (.int .i64 last)) bl 3 #[.int .i64 last] := kl.set 0 (.int .i64 last)
 have hb : Below V3.heap.size V3 (VA.setCell ⟨bl, 0, none⟩ (.int .i64 last)) := hbA.setCell (show V3.heap.size ≤ bl by omega) _
 obtain ⟨VL, hVL⟩ : ∃ X, VA.setCell ⟨bl, 0, none⟩ (.int .i64 last) = X := ⟨_, rfl⟩
 rw [hVL] at kl2 hb
 have vv0 := v0
 have vv1 := v1
 have vv2 := v2
 have cc0 := c0
 have cc1 := c1
 have cc2 := c2
 have cc3 := c3
 have cc4 := c4
 clear v0 v1 v2 c0 c1 c2 c3 c4
 replace kv := kv.below hb kv.lt
 replace kc := kc.below hb kc.lt
 replace hri := later_i hri hb
 replace hrx := hrx.later hb
 replace hB := tmB hB hb
 clear hb hbA kl
 have kl := kl2
 clear kl2
 obtain ⟨v0, v1, v2⟩ := cz3 kv
 obtain ⟨c0, c1, c2, c3, c4⟩ := cz5 kc
 have l0 := kl.cell (i := 0) rfl
 cases b1 : inR out 0 last with
 | false =>
  have hR2 : R = 32 := by rw [← hRH.out]; unfold chkS; rw [hvbH.out, hcb2H.out, b1]; simp
  subst hR2
  have b1H := Lib.hid b1
  clear b1
  go_wp2_with (first
   | (go_at_call 70; have _t := tok1; refine (pwithin2 W 1 16 true a1H.out _).mono ?_; clear _t tok1; rintro e w' ⟨rfl, hw⟩; rw [hw]; clear hw w')
   | (go_at_call 70; have _t := tok2; refine (pwithin2 H 1 16 true a2H.out _).mono ?_; clear _t tok2; rintro e w' ⟨rfl, hw⟩; rw [hw]; clear hw w')
   | (go_at_call 70; have _t := tok3; refine (pwithin2 out 0 last false b1H.out _).mono ?_; clear _t tok3; rintro e w' ⟨rfl, hw⟩; rw [hw]; clear hw w'))
  all_goals (go_ret; exact ⟨rfl, hB⟩)
 | true =>
 have b1H := Lib.hid b1
 clear b1
 have hcon := ContainsL_any (oddP last) 71 #[.pointer (some ⟨bl, 0, none⟩)] enters_odd inp ia ic ni hniH.out il0 VL hri (fun i hi X hb => (odd_any last _ bl X (kl.below hb kl.lt)).mono fun e W' h => ⟨h.1, h.2 ▸ Below.refl _ _⟩)
 have hconH := Lib.hid hcon
 clear hcon
 obtain ⟨o1, ho1⟩ : ∃ b, inp.any (oddP last) = b := ⟨_, rfl⟩
 have ho1H := Lib.hid ho1
 clear ho1
 go_wp2_with (first
  | (go_at_call 70; have _t := tok1; refine (pwithin2 W 1 16 true a1H.out _).mono ?_; clear _t tok1; rintro e w' ⟨rfl, hw⟩; rw [hw]; clear hw w')
  | (go_at_call 70; have _t := tok2; refine (pwithin2 H 1 16 true a2H.out _).mono ?_; clear _t tok2; rintro e w' ⟨rfl, hw⟩; rw [hw]; clear hw w')
  | (go_at_call 70; have _t := tok3; refine (pwithin2 out 0 last true b1H.out _).mono ?_; clear _t tok3; rintro e w' ⟨rfl, hw⟩; rw [hw]; clear hw w'))
 clear hbl hVA z0 fz0 hVL
 clear vv0 vv1 vv2 cc0 cc1 cc2 cc3 cc4
 have hc := hconH.out
 rw [ho1H.out] at hc
 refine hc.mono ?_
 clear hc
 rintro e X1 ⟨rfl, hb⟩
 clear v0 v1 v2 c0 c1 c2 c3 c4 l0
 replace kv := kv.below hb kv.lt
 replace kc := kc.below hb kc.lt
 replace kl := kl.below hb kl.lt
 replace hri := later_i hri hb
 replace hrx := hrx.later hb
 replace hB := tmB hB hb
 clear hb
 obtain ⟨v0, v1, v2⟩ := cz3 kv
 obtain ⟨c0, c1, c2, c3, c4⟩ := cz5 kc
 have l0 := kl.cell (i := 0) rfl
 cases o1 with
 | true =>
  have hR2 : R = 32 := by rw [← hRH.out]; unfold chkS; rw [hvbH.out, hcb2H.out, ho1H.out]; simp
  subst hR2
  go_wp2_with fail
  go_ret
  exact ⟨rfl, hB⟩
 | false =>
 go_upto_region 9 with fail
 refine wp_region_lit ?_
 refine wpList_callAny rfl _ rfl 73 #[] (by kernel_rfl) _ (table_any X1) ?_
 rintro e X0 ⟨rfl, hb⟩
 refine ⟨_, rfl, ?_⟩
 refine Go.Great.wpList_allocTo rfl _ rfl (.pointer (some ⟨X0.heap.size, 0, none⟩)) (.cells zerC 139) (by kernel_rfl) ?_
 refine wpList_store_row rfl 139 _ _ rfl X0.heap.size tabC rfl (by kernel_rfl) 139 zerC (heap_alloc_last X0 _) (by kernel_rfl) rfl tabC_one ?_
 rw [World.setRow_alloc_new]
 refine wpList_nil ?_
 have kT := Blk.new X0 139 tabC
 replace hb : Below X1.heap.size X1 (X0.alloc (.cells tabC 139)) := jb_al hb _
 have hTs : tabC.size = 42 := rfl
 obtain ⟨V4, hVV4⟩ : ∃ X, X0.alloc (.cells tabC 139) = X := ⟨_, rfl⟩
 obtain ⟨bT, hbT⟩ : ∃ b, X0.heap.size = b := ⟨_, rfl⟩
 rw [hVV4] at hb kT ⊢
 rw [hbT] at kT
 rw [hbT]
 rename_i Q' K hK
 refine hK _ _ ?_
 clear v0 v1 v2 c0 c1 c2 c3 c4 l0
 replace kv := kv.below hb kv.lt
 replace kc := kc.below hb kc.lt
 replace kl := kl.below hb kl.lt
 replace hri := later_i hri hb
 replace hrx := hrx.later hb
 replace hB := tmB hB hb
 clear hb hbT hVV4
 obtain ⟨v0, v1, v2⟩ := cz3 kv
 obtain ⟨c0, c1, c2, c3, c4⟩ := cz5 kc
 have l0 := kl.cell (i := 0) rfl
 obtain ⟨o2, ho2⟩ : ∃ b, (ins.any fun x => !insB v x) = b := ⟨_, rfl⟩
 have hcon := ContainsC_any (fun x => !insB v x) 75 #[.pointer (some ⟨w.heap.size, 0, none⟩), .pointer (some ⟨bT, 0, none⟩)] enters_bad ins xa xc nx hnxH.out xl0 V4 hrx (fun i hi X ia2 ic2 hb2 hr2 => bad_any v hvvH.out (insAt ins i) (hinsH.out i (by have := hnxH.out; omega)) ia2 ic2 w.heap.size bT tabC hTs (fun k hk => tab_at hk) X (kv.below hb2 kv.lt) (kT.below hb2 kT.lt) hr2)
 rw [ho2] at hcon
 have hconH := Lib.hid hcon
 have ho2H := Lib.hid ho2
 clear hcon ho2
 cases o2 with
 | true =>
  have hR2 : R = 32 := by rw [← hRH.out]; unfold chkS; rw [hvbH.out, hcb2H.out, ho1H.out, ho2H.out]; simp
  subst hR2
  go_wp2_with (go_at_call 74; refine hconH.out.mono ?_; rintro e X3 ⟨rfl, hb⟩)
  replace hB := tmB hB hb
  clear hb
  go_ret
  exact ⟨rfl, hB⟩
 | false =>
  have hR2 : R = 0 := by rw [← hRH.out]; unfold chkS; rw [hvbH.out, hcb2H.out, ho1H.out, ho2H.out]; simp [a1H.out, a2H.out, a3, a4, b1H.out]
  subst hR2
  go_wp2_with (go_at_call 74; refine hconH.out.mono ?_; rintro e X3 ⟨rfl, hb⟩)
  replace hB := tmB hB hb
  clear hb
  go_ret
  exact ⟨rfl, hB⟩
end Go.Proofs.YtekiemlniegddaaGreat
namespace Go.Proofs.YtekiemlniegddaaGreat
open Go Go.RowKit Go.Shelf
section
variable {P : Program} {md : Region.Mode} {ops : Array Oper} {Q : Exit → Act → World → Prop} {S : World → Prop} {t : Nat}
def StepOk (P : Program) (md : Region.Mode) (ops : Array Oper) (Q : Exit → Act → World → Prop) (S : World → Prop) (t f : Nat) (l : Array Bool) (a : Act) (w : World) (i : Nat) : Prop :=
 wpOp P ops Q i (fun a' w' => (i < t → S w') ∧ AnyS P md ops Q S t f (l.setIfInBounds i true) a' w') a w
theorem step_at (i : Nat) {d : Option Tmp} {op : Op} {ty : TypeId} {ps : String} {af : Array Edge} {gd : Option (Nat × Bool)} {f : Nat} {l : Array Bool} {a : Act} {w : World} (ho : ops[i]? = some { dst := d, op := op, type := ty, pos := ps, after := af, guard := gd })
  (h : ∀ K' : Act → World → Prop, Shut (∀ a w, (i < t → S w) → AnyS P md ops Q S t f (l.setIfInBounds i true) a w → K' a w) → if Region.wanted { dst := d, op := op, type := ty, pos := ps, after := af, guard := gd } (yielded ops a.tmps) = true then Oper.wp P { dst := d, op := op, type := ty, pos := ps, after := af, guard := gd } a w K' Q else K' (a.put d undef) w) :
  StepOk P md ops Q S t f l a w i :=
 wpOp_step ho (fun K' hK => h K' (fun a w hS hW => hK a w ⟨hS, hW⟩))
theorem fork2 {i j : Nat} {f : Nat} {l : Array Bool} {a : Act} {w : World} (hr : Region.ready md ops l = [i, j]) (hi : StepOk P md ops Q S t f l a w i) (hj : StepOk P md ops Q S t f l a w j) : AnyS P md ops Q S t (f + 1) l a w := by
 refine ⟨fun h0 => absurd (hr ▸ h0) (by simp), hr ▸ fun k hk => ?_⟩
 have : k = i ∨ k = j := by simpa using hk
 rcases this with rfl | rfl
 ·exact hi
 ·exact hj
end
end Go.Proofs.YtekiemlniegddaaGreat
namespace Go.Proofs.YtekiemlniegddaaGreat
open Go Go.RowKit Go.Shelf
theorem cutP {G : Prop} {P : Nat → Nat → Nat → Nat → Nat → World → Prop} (F : Nat → Nat → Nat → Nat → Nat → World → Prop) (main : (∀ a b c d e W, F a b c d e W → P a b c d e W) → G) (key : ∀ a b c d e W, F a b c d e W → P a b c d e W) : G := main key
theorem cutZ {G : Prop} {P : Nat → Nat → Nat → Nat → Nat → Nat → Nat → World → Prop} (F : Nat → Nat → Nat → Nat → Nat → Nat → Nat → World → Prop) (main : (∀ a b c d e f g W, F a b c d e f g W → P a b c d e f g W) → G) (key : ∀ a b c d e f g W, F a b c d e f g W → P a b c d e f g W) : G := main key
/-- A register's numbers, brought into the range of values. -/
def pixR (lanes : Nat) (M : MacN) (a : Nat) : List Int := (List.range lanes).map fun j => pix (M.regs a j)
theorem pixR_len (lanes : Nat) (M : MacN) (a : Nat) : (pixR lanes M a).length = lanes := by simp [pixR]
theorem pixR_px {lanes : Nat} {M : MacN} {a j : Nat} (hj : j < lanes) : px (pixR lanes M a) (j : Int) = pix (M.regs a j) := by
 unfold px pixR; rw [Int.toNat_natCast, List.getElem?_map, List.getElem?_range hj]; rfl
theorem pixR_in (lanes : Nat) (M : MacN) (a : Nat) : allIn (-2147483648) 2147483648 (pixR lanes M a) = true := by
 unfold allIn pixR
 rw [List.all_eq_true]
 intro x hx
 obtain ⟨j, _, rfl⟩ := List.mem_map.1 hx
 have := pix_bd (M.regs a j)
 simp; omega
theorem pixR_vld {lanes : Nat} (h1 : 1 ≤ lanes) (h2 : lanes ≤ 16) (M : MacN) (a : Nat) : vld (lanes : Int) 1 (pixR lanes M a) = true := by
 unfold vld
 rw [pixR_len, pixR_in]
 simp [inR]; omega
theorem img_row {lanes : Nat} (h1 : 1 ≤ lanes) (g : Int → Int → Int) (f : Nat → Int) (h : ∀ j : Nat, j < lanes → pix (g (j : Int) 0) = f j) : img (lanes : Int).toNat (1 : Int).toNat g = (List.range lanes).map f := by
 unfold img
 rw [Int.toNat_natCast, show lanes * (1 : Int).toNat = lanes by simp]
 refine List.map_congr_left fun j hj => ?_
 have hj := List.mem_range.1 hj
 unfold cX cY
 rw [Nat.mod_eq_of_lt hj, Nat.div_eq_of_lt hj]
 exact h j hj
theorem point_row {lanes : Nat} (h1 : 1 ≤ lanes) (h2 : lanes ≤ 16) (M : MacN) (a : Nat) {p : PointN} (hp : p.ok = true) : pointS (lanes : Int) 1 (pixR lanes M a) p = ⟨lanes, 1, (List.range lanes).map fun j => pix (pointF p (pix (M.regs a j))), 0⟩ := by
 unfold pointS
 rw [if_pos (pixR_vld h1 h2 M a), if_pos hp, img_row h1 _ (fun j => pix (pointF p (pix (M.regs a j)))) (fun j hj => by
  unfold pointG
  rw [show (0 : Int) * (lanes : Int) + (j : Int) = (j : Int) by omega, pixR_px hj])]
theorem zip_row {lanes : Nat} (h1 : 1 ≤ lanes) (h2 : lanes ≤ 16) (M : MacN) (a b : Nat) {how : Int} (hh : 1 ≤ how ∧ how ≤ 6) : zipS (lanes : Int) 1 (pixR lanes M a) (lanes : Int) 1 (pixR lanes M b) how = ⟨lanes, 1, (List.range lanes).map fun j => pix (zipF how (pix (M.regs a j)) (pix (M.regs b j))), 0⟩ := by
 unfold zipS
 rw [if_pos (pixR_vld h1 h2 M a), if_pos (pixR_vld h1 h2 M b), if_pos (by simp), if_pos (by simpa using hh), img_row h1 _ (fun j => pix (zipF how (pix (M.regs a j)) (pix (M.regs b j)))) (fun j hj => by
  unfold zipG
  rw [show (0 : Int) * (lanes : Int) + (j : Int) = (j : Int) by omega, pixR_px hj, pixR_px hj])]
set_option maxRecDepth 100000 in
set_option maxHeartbeats 8000000 in
theorem mpoint_any (B bm lanes R N : Nat) (M : MacN) (gr gm cr cm : Nat) (G C : Nat → Nat) (w : World) (hM : MacAt B w bm lanes R N M gr gm cr cm G C) (hl : 1 ≤ lanes ∧ lanes ≤ 16) (hRN : R ≤ 16 ∧ N ≤ 8192) (x : InsN) (ia : Option Addr) (ic : Nat) (d a : Nat) (hd : x.d = (d : Int)) (ha : x.a = (a : Int)) (hdR : d < R) (haR : a < R) (hpt : x.pt.ok = true) (hBw : B ≤ w.heap.size) :
  Calls Tryz.prog 121 #[.pointer (some ⟨bm, 0, none⟩), insv x ia ic] w fun e w' => (∃ v, e = .returned v) ∧ ∃ G' C', C' R = C R ∧ MacAt B w' bm lanes R N (setR M d fun j => pix (pointF x.pt (pix (M.regs a j)))) gr gm cr cm G' C' ∧ Below B w w' := by
 have hB : Below w.heap.size w w := Below.refl _ _
 obtain ⟨hl1, hl2⟩ := hl
 obtain ⟨hR1, hN1⟩ := hRN
 have hBB : Below B w w := Below.refl _ _
 unfold insv
 rw [hd, ha]
 have hM0 := hM
 obtain ⟨V1, hEV1, hbV1, kx⟩ := newB w 143 #[.int .u8 x.op, .int .i64 (d : Int), .int .i64 (a : Int), .int .i64 x.b, .int .i64 x.val, .int .i64 x.pt.mul, .int .i64 x.pt.add, .int .i64 x.pt.div, .int .i64 x.pt.lo, .int .i64 x.pt.hi, .int .u8 x.how, .slice ia x.ad.length ic]
 replace hM := hM.later hbV1
 replace hBB := hBB.trans (hbV1.mono (Nat.le_trans hBw hBB.size))
 replace hB := tmB hB hbV1
 clear hbV1
 obtain ⟨x0, x1, x2, x3, x4, x5, x6, x7, x8, x9, x10, x11⟩ := cz12 kx
 obtain ⟨hc1, hc2, hc3⟩ := hM.caps
 have hszV := hB.size
 have hGl : ∀ r, r < R → G r < w.heap.size := fun r hr => ((hM0.rg r hr).lt (G r) rfl).2
 have hgml : gm < w.heap.size := (hM0.mm.lt gm rfl).2
 have lx := kx.lt
 clear hM0
 have hspec := point_row hl1 hl2 M a hpt
 have hspecH := Lib.hid hspec
 clear hspec
 go_enter Tryz.func121, Tryz.ntmps121
 have hS0 : Below V1.heap.size V1 V1.drew := (Below.refl _ _).drew
 go_wp2_with fail
 clear hB
 clear hEV1
 refine plain_region (fun W' => Below V1.heap.size V1 W') 13 13 (by kernel_rfl) rfl ?_
 simp only [Array.replicate_succ, Array.replicate_zero, List.push_toArray, List.nil_append, List.cons_append]
 obtain ⟨X0, hX0⟩ : ∃ X : World, V1.drew = X := ⟨_, rfl⟩
 rw [hX0] at hS0 ⊢
 clear hX0
 apply cutP (fun gP qc bt gA cA X3 => X3.ownsRow V1.heap.size 3 1 (srow gP lanes qc) lanes (intL lanes fun j => pix (pointF x.pt (pix (M.regs a j)))) ∧ Blk X3 bt 32 #[.int .i64 0, .int .i64 0, .slice none 0 0] ∧ V1.heap.size ≤ bt ∧ Below V1.heap.size V1 X3)
 case' main => intro key
 refine tkz 0 rfl hS0 (fun w' hS' => by go_simp; rfl) ?_
 simp only [nrz]
 refine tkz 1 rfl hS0 (fun w' hS' => by go_simp; rfl) ?_
 simp only [nrz]
 refine tkz 2 rfl hS0 (fun w' hS' => by obtain ⟨y0, y1, y2, y3, y4, y5, y6, y7, y8, y9, y10, y11⟩ := cz12 (kx.below hS' lx); clear hS'; go_simp; rfl) ?_
 simp only [nrz]
 refine tkz 4 rfl hS0 (fun w' hS' => by go_simp; rfl) ?_
 simp only [nrz]
 refine tkz 5 rfl hS0 (fun w' hS' => by obtain ⟨y0, y1, y2, y3, y4, y5, y6, y7, y8, y9, y10, y11⟩ := cz12 (kx.below hS' lx); clear hS'; go_simp; rfl) ?_
 simp only [nrz]
 refine fork2 (i := 3) (j := 10) (by kernel_rfl) ?_ ?_
 ·refine step_at 3 rfl (fun K hK => ?_)
  rw [if_pos (by rfl)]
  go_simp
  refine (mpix_any B bm lanes R N M gr gm cr cm G C X0 (hM.later hS0) ⟨hl1, hl2⟩ ⟨hR1, hN1⟩ a haR).mono ?_
  rintro e X1 ⟨gA, cA, rfl, rowA, hb⟩
  replace rowA : X1.ownsRow V1.heap.size 3 1 (srow gA lanes cA) lanes (intL lanes fun j => pix (M.regs a j)) := jrow_weaken rowA hS0.size
  have hS1 : Below V1.heap.size V1 X1 := hS0.trans (hb.mono hS0.size)
  clear hb
  refine hK.out _ _ (fun h => hS1) ?_
  clear hK K
  try simp only [Act.put, nrz]
  refine fork2 (i := 6) (j := 10) (by kernel_rfl) ?_ ?_
  ·refine step_at 6 rfl (fun K hK => ?_)
   rw [if_pos (by rfl)]
   go_simp
   have hc := Point_any (lanes : Int) 1 (some ⟨gA, 0, none⟩) cA lanes (pixR lanes M a) (Lib.hid (pixR_len _ _ _)) x.pt X1 (by omega) (row_rd' (pixR_len lanes M a) (by unfold pixR; rw [intL_map]; exact rowA))
   rw [hspecH.out] at hc
   refine hc.mono ?_
   clear hc
   rintro e X2 ⟨⟨v, rfl, tt, rfl, rowP⟩, hb⟩
   have hlp : ((List.range lanes).map fun j => pix (pointF x.pt (pix (M.regs a j)))).length = lanes := by simp
   simp only [hlp] at rowP
   rw [intL_map] at rowP
   obtain ⟨qa, qc, rfl⟩ := row_slice rowP
   obtain ⟨gP, rfl⟩ := row_someP rowP (by omega)
   replace rowP : X2.ownsRow V1.heap.size 3 1 (srow gP lanes qc) lanes (intL lanes fun j => pix (pointF x.pt (pix (M.regs a j)))) := jrow_weaken rowP hS1.size
   have hS2 : Below V1.heap.size V1 X2 := hS1.trans (hb.mono hS1.size)
   clear hlp
   clear hb rowA
   refine hK.out _ _ (fun h => hS2) ?_
   clear hK K
   try simp only [Act.put, nrz]
   refine tkz 7 rfl hS2 (fun w' hS' => by go_simp; rfl) ?_
   simp only [nrz]
   refine tkz 8 rfl hS2 (fun w' hS' => by go_simp; rfl) ?_
   simp only [nrz]
   refine tkz 9 rfl hS2 (fun w' hS' => by go_simp; rfl) ?_
   simp only [nrz]
   refine step_op 10 (by kernel_rfl) rfl (fun K hK => ?_)
   have kb := Blk.new X2 32 #[.int .i64 0, .int .i64 0, .slice none 0 0]
   have hb : Below X2.heap.size X2 (X2.alloc (.cells #[.int .i64 0, .int .i64 0, .slice none 0 0] 32)) := jb_al (Below.refl _ X2) _
   obtain ⟨X3, hEX3⟩ : ∃ X, X2.alloc (.cells #[.int .i64 0, .int .i64 0, .slice none 0 0] 32) = X := ⟨_, rfl⟩
   obtain ⟨bt, hbt⟩ : ∃ b, X2.heap.size = b := ⟨_, rfl⟩
   have hbtl : V1.heap.size ≤ bt := by have := hS2.size; omega
   have hS3 : Below V1.heap.size V1 (X2.alloc (.cells #[.int .i64 0, .int .i64 0, .slice none 0 0] 32)) := hS2.trans (hb.mono hS2.size)
   rw [hEX3] at hS3 hb kb
   replace rowP := row_below rowP hb
   rw [hbt] at kb
   rw [if_pos (by rfl)]
   go_simp
   try rw [hEX3]
   try rw [hbt]
   clear hb hbt
   refine hK.out _ _ (fun h => (hEX3 ▸ hS3)) ?_
   clear hK K
   try simp only [Act.put, nrz]
   exact key gP qc bt gA cA X3 ⟨rowP, kb, hbtl, hS3⟩
  ·refine step_at 10 rfl (fun K hK => ?_)
   have kb := Blk.new X1 32 #[.int .i64 0, .int .i64 0, .slice none 0 0]
   have hb : Below X1.heap.size X1 (X1.alloc (.cells #[.int .i64 0, .int .i64 0, .slice none 0 0] 32)) := jb_al (Below.refl _ X1) _
   obtain ⟨X2, hEX2⟩ : ∃ X, X1.alloc (.cells #[.int .i64 0, .int .i64 0, .slice none 0 0] 32) = X := ⟨_, rfl⟩
   obtain ⟨bt, hbt⟩ : ∃ b, X1.heap.size = b := ⟨_, rfl⟩
   have hbtl : V1.heap.size ≤ bt := by have := hS1.size; omega
   have hS2 : Below V1.heap.size V1 (X1.alloc (.cells #[.int .i64 0, .int .i64 0, .slice none 0 0] 32)) := hS1.trans (hb.mono hS1.size)
   rw [hEX2] at hS2 hb kb
   replace rowA := row_below rowA hb
   rw [hbt] at kb
   rw [if_pos (by rfl)]
   go_simp
   try rw [hEX2]
   try rw [hbt]
   clear hb hbt
   refine hK.out _ _ (fun h => (hEX2 ▸ hS2)) ?_
   clear hK K
   try simp only [Act.put, nrz]
   refine step_op 6 (by kernel_rfl) rfl (fun K hK => ?_)
   rw [if_pos (by rfl)]
   go_simp
   have hc := Point_any (lanes : Int) 1 (some ⟨gA, 0, none⟩) cA lanes (pixR lanes M a) (Lib.hid (pixR_len _ _ _)) x.pt X2 (by omega) (row_rd' (pixR_len lanes M a) (by unfold pixR; rw [intL_map]; exact rowA))
   rw [hspecH.out] at hc
   refine hc.mono ?_
   clear hc
   rintro e X3 ⟨⟨v, rfl, tt, rfl, rowP⟩, hb⟩
   replace kb := kb.below hb kb.lt
   have hlp : ((List.range lanes).map fun j => pix (pointF x.pt (pix (M.regs a j)))).length = lanes := by simp
   simp only [hlp] at rowP
   rw [intL_map] at rowP
   obtain ⟨qa, qc, rfl⟩ := row_slice rowP
   obtain ⟨gP, rfl⟩ := row_someP rowP (by omega)
   replace rowP : X3.ownsRow V1.heap.size 3 1 (srow gP lanes qc) lanes (intL lanes fun j => pix (pointF x.pt (pix (M.regs a j)))) := jrow_weaken rowP hS2.size
   have hS3 : Below V1.heap.size V1 X3 := hS2.trans (hb.mono hS2.size)
   clear hlp
   clear hb rowA
   refine hK.out _ _ (fun h => hS3) ?_
   clear hK K
   try simp only [Act.put, nrz]
   refine tkz 7 rfl hS3 (fun w' hS' => by go_simp; rfl) ?_
   simp only [nrz]
   refine tkz 8 rfl hS3 (fun w' hS' => by go_simp; rfl) ?_
   simp only [nrz]
   refine tkz 9 rfl hS3 (fun w' hS' => by go_simp; rfl) ?_
   simp only [nrz]
   exact key gP qc bt gA cA X3 ⟨rowP, kb, hbtl, hS3⟩
 ·refine step_at 10 rfl (fun K hK => ?_)
  have kb := Blk.new X0 32 #[.int .i64 0, .int .i64 0, .slice none 0 0]
  have hb : Below X0.heap.size X0 (X0.alloc (.cells #[.int .i64 0, .int .i64 0, .slice none 0 0] 32)) := jb_al (Below.refl _ X0) _
  obtain ⟨X1, hEX1⟩ : ∃ X, X0.alloc (.cells #[.int .i64 0, .int .i64 0, .slice none 0 0] 32) = X := ⟨_, rfl⟩
  obtain ⟨bt, hbt⟩ : ∃ b, X0.heap.size = b := ⟨_, rfl⟩
  have hbtl : V1.heap.size ≤ bt := by have := hS0.size; omega
  have hS1 : Below V1.heap.size V1 (X0.alloc (.cells #[.int .i64 0, .int .i64 0, .slice none 0 0] 32)) := hS0.trans (hb.mono hS0.size)
  rw [hEX1] at hS1 hb kb
  rw [hbt] at kb
  rw [if_pos (by rfl)]
  go_simp
  try rw [hEX1]
  try rw [hbt]
  clear hb hbt
  refine hK.out _ _ (fun h => (hEX1 ▸ hS1)) ?_
  clear hK K
  try simp only [Act.put, nrz]
  refine step_op 3 (by kernel_rfl) rfl (fun K hK => ?_)
  rw [if_pos (by rfl)]
  go_simp
  refine (mpix_any B bm lanes R N M gr gm cr cm G C X1 (hM.later hS1) ⟨hl1, hl2⟩ ⟨hR1, hN1⟩ a haR).mono ?_
  rintro e X2 ⟨gA, cA, rfl, rowA, hb⟩
  replace kb := kb.below hb kb.lt
  replace rowA : X2.ownsRow V1.heap.size 3 1 (srow gA lanes cA) lanes (intL lanes fun j => pix (M.regs a j)) := jrow_weaken rowA hS1.size
  have hS2 : Below V1.heap.size V1 X2 := hS1.trans (hb.mono hS1.size)
  clear hb
  refine hK.out _ _ (fun h => hS2) ?_
  clear hK K
  try simp only [Act.put, nrz]
  refine step_op 6 (by kernel_rfl) rfl (fun K hK => ?_)
  rw [if_pos (by rfl)]
  go_simp
  have hc := Point_any (lanes : Int) 1 (some ⟨gA, 0, none⟩) cA lanes (pixR lanes M a) (Lib.hid (pixR_len _ _ _)) x.pt X2 (by omega) (row_rd' (pixR_len lanes M a) (by unfold pixR; rw [intL_map]; exact rowA))
  rw [hspecH.out] at hc
  refine hc.mono ?_
  clear hc
  rintro e X3 ⟨⟨v, rfl, tt, rfl, rowP⟩, hb⟩
  replace kb := kb.below hb kb.lt
  have hlp : ((List.range lanes).map fun j => pix (pointF x.pt (pix (M.regs a j)))).length = lanes := by simp
  simp only [hlp] at rowP
  rw [intL_map] at rowP
  obtain ⟨qa, qc, rfl⟩ := row_slice rowP
  obtain ⟨gP, rfl⟩ := row_someP rowP (by omega)
  replace rowP : X3.ownsRow V1.heap.size 3 1 (srow gP lanes qc) lanes (intL lanes fun j => pix (pointF x.pt (pix (M.regs a j)))) := jrow_weaken rowP hS2.size
  have hS3 : Below V1.heap.size V1 X3 := hS2.trans (hb.mono hS2.size)
  clear hlp
  clear hb rowA
  refine hK.out _ _ (fun h => hS3) ?_
  clear hK K
  try simp only [Act.put, nrz]
  refine tkz 7 rfl hS3 (fun w' hS' => by go_simp; rfl) ?_
  simp only [nrz]
  refine tkz 8 rfl hS3 (fun w' hS' => by go_simp; rfl) ?_
  simp only [nrz]
  refine tkz 9 rfl hS3 (fun w' hS' => by go_simp; rfl) ?_
  simp only [nrz]
  exact key gP qc bt gA cA X3 ⟨rowP, kb, hbtl, hS3⟩
 case key =>
  rintro gP qc bt gA cA X3 ⟨rowP, kb, hbtl, hS3⟩
  refine step_op 11 (by kernel_rfl) rfl (fun K hK => ?_)
  obtain ⟨z0, z1, z2⟩ := cz3 kb
  have fz0 := kb.frozen 0
  have fz1 := kb.frozen 1
  have fz2 := kb.frozen 2
  have hS4 : Below V1.heap.size V1 (put3 X3 bt (.int .i64 (lanes : Int)) (.int .i64 1) (srow gP lanes qc)) := hS3.trans (put3_below hbtl _ _ _)
  rw [if_pos (by rfl)]
  go_simp
  refine hK.out _ _ (fun h => hS4) ?_
  clear hK K
  try simp only [Act.put, nrz]
  refine tkz 12 rfl hS4 (fun w' hS' => by go_simp; rfl) ?_
  simp only [nrz]
  refine done_ops (by kernel_rfl) ?_
  have kb2 := put3_blk kb (.int .i64 (lanes : Int)) (.int .i64 1) (srow gP lanes qc)
  have rowP2 := row_put3b rowP (kb.not_row (by decide) rowP) (.int .i64 (lanes : Int)) (.int .i64 1) (srow gP lanes qc)
  have hM2 := hM.later hS4
  have kx2 := kx.below hS4 lx
  have hBB2 := hBB.trans (hS4.mono (Nat.le_trans hBw hBB.size))
  have hszX := hS4.size
  clear rowP kb hM kx hBB hS3 hS4 hS0 z0 z1 z2 fz0 fz1 fz2
  obtain ⟨X9, hX9⟩ : ∃ X, ((X3.setCell ⟨bt, 0, none⟩ (.int .i64 (lanes : Int))).setCell ⟨bt, 1, none⟩ (.int .i64 1)).setCell ⟨bt, 2, none⟩ (.slice (some ⟨gP, 0, none⟩) lanes qc) = X := ⟨_, rfl⟩
  have e9 : put3 X3 bt (.int .i64 (lanes : Int)) (.int .i64 1) (srow gP lanes qc) = X9 := hX9
  rw [e9] at kb2 rowP2 hM2 kx2 hBB2 hszX
  rw [hX9]
  clear hX9 e9
  have lb := kb2.lt
  have lx2 := kx2.lt
  have hS : Below X9.heap.size X9 X9.drew := (Below.refl _ _).drew
  go_wp2_with fail
  refine plain_region (fun W' => Below X9.heap.size X9 W') 9 10 (by kernel_rfl) rfl ?_
  simp only [Array.replicate_succ, Array.replicate_zero, List.push_toArray, List.nil_append, List.cons_append]
  obtain ⟨Y0, hXY0⟩ : ∃ X : World, X9.drew = X := ⟨_, rfl⟩
  rw [hXY0] at hS ⊢
  clear hXY0
  refine tkz 0 rfl hS (fun w' hS' => by go_simp; rfl) ?_
  simp only [nrz]
  refine tkz 1 rfl hS (fun w' hS' => by go_simp; rfl) ?_
  simp only [nrz]
  refine tkz 2 rfl hS (fun w' hS' => by go_simp; rfl) ?_
  simp only [nrz]
  refine tkz 3 (v := ?qv3) rfl hS (fun w' hS' => ?qy3) ?qz3
  case qy3 =>
   obtain ⟨e0, e1, e2, er, eg, em⟩ := (hM2.later hS').cells
   have erd := er d hdR
   obtain ⟨q0, q1, q2⟩ := cz3 (kb2.below hS' lb)
   have y1 := (kx2.below hS' lx2).cell (i := 1) rfl
   clear hS' er eg em
   go_simp
   rfl
  simp only [nrz]
  refine tkz 4 rfl hS (fun w' hS' => by go_simp; rfl) ?_
  simp only [nrz]
  refine tkz 5 (v := ?qv5) rfl hS (fun w' hS' => ?qy5) ?qz5
  case qy5 =>
   obtain ⟨e0, e1, e2, er, eg, em⟩ := (hM2.later hS').cells
   have erd := er d hdR
   obtain ⟨q0, q1, q2⟩ := cz3 (kb2.below hS' lb)
   have y1 := (kx2.below hS' lx2).cell (i := 1) rfl
   clear hS' er eg em
   go_simp
   rfl
  simp only [nrz]
  refine tkz 6 rfl hS (fun w' hS' => by go_simp; rfl) ?_
  simp only [nrz]
  refine tkz 7 (v := ?qv7) rfl hS (fun w' hS' => ?qy7) ?qz7
  case qy7 =>
   obtain ⟨e0, e1, e2, er, eg, em⟩ := (hM2.later hS').cells
   have erd := er d hdR
   obtain ⟨q0, q1, q2⟩ := cz3 (kb2.below hS' lb)
   have y1 := (kx2.below hS' lx2).cell (i := 1) rfl
   clear hS' er eg em
   go_simp
   rfl
  simp only [nrz]
  refine tkz 8 (v := ?qv8) rfl hS (fun w' hS' => ?qy8) ?qz8
  case qy8 =>
   go_simp
   try go_ints
   first
   | rfl
   | (rw [if_pos (by omega)]; done)
   | rw [if_pos ⟨by omega, by omega⟩]
  simp only [nrz]
  refine step_op 9 (by kernel_rfl) rfl (fun K hK => ?_)
  obtain ⟨e0, e1, e2, er, eg, em⟩ := (hM2.later hS).cells
  have erd := er d hdR
  have fzd := (hM2.later hS).frozen.2.2 d
  clear er eg em e0 e1 e2
  rw [if_pos (by rfl)]
  go_simp
  refine hK.out _ _ (fun h => absurd h (by omega)) ?_
  clear hK K
  try simp only [Act.put, nrz]
  refine done_ops (by kernel_rfl) ?_
  have hgP := (rowP2.lt gP rfl).1
  have hrow3 := row_below rowP2 hS
  obtain ⟨hMf, hbf⟩ := (hM2.later hS).repl hdR (jrow_weaken hrow3 (by omega)) (fun r hr e => by have := hGl r hr; omega) (by omega) (by have := hS.size; have := hBB2.size; omega)
  have hBBf := hBB2.trans ((hS.mono (by have := hBB2.size; omega)).trans hbf)
  clear hM2 hbf hBB2 hrow3 rowP2 kb2 kx2 hS
  go_wp2_with fail
  go_end0
  exact ⟨⟨_, rfl⟩, _, _, if_neg (by omega), hMf, hBBf⟩
set_option maxRecDepth 100000 in
set_option maxHeartbeats 8000000 in
theorem mzip_any (B bm lanes R N : Nat) (M : MacN) (gr gm cr cm : Nat) (G C : Nat → Nat) (w : World) (hM : MacAt B w bm lanes R N M gr gm cr cm G C) (hl : 1 ≤ lanes ∧ lanes ≤ 16) (hRN : R ≤ 16 ∧ N ≤ 8192) (x : InsN) (ia : Option Addr) (ic : Nat) (d a b : Nat) (hd : x.d = (d : Int)) (ha : x.a = (a : Int)) (hb' : x.b = (b : Int)) (hdR : d < R) (haR : a < R) (hbR : b < R) (hhow : 1 ≤ x.how ∧ x.how ≤ 6) (hBw : B ≤ w.heap.size) :
  Calls Tryz.prog 122 #[.pointer (some ⟨bm, 0, none⟩), insv x ia ic] w fun e w' => (∃ v, e = .returned v) ∧ ∃ G' C', C' R = C R ∧ MacAt B w' bm lanes R N (setR M d fun j => pix (zipF x.how (pix (M.regs a j)) (pix (M.regs b j)))) gr gm cr cm G' C' ∧ Below B w w' := by
 have hB : Below w.heap.size w w := Below.refl _ _
 obtain ⟨hl1, hl2⟩ := hl
 obtain ⟨hR1, hN1⟩ := hRN
 have hBB : Below B w w := Below.refl _ _
 unfold insv
 rw [hd, ha, hb']
 have hM0 := hM
 obtain ⟨V1, hEV1, hbV1, kx⟩ := newB w 143 #[.int .u8 x.op, .int .i64 (d : Int), .int .i64 (a : Int), .int .i64 (b : Int), .int .i64 x.val, .int .i64 x.pt.mul, .int .i64 x.pt.add, .int .i64 x.pt.div, .int .i64 x.pt.lo, .int .i64 x.pt.hi, .int .u8 x.how, .slice ia x.ad.length ic]
 replace hM := hM.later hbV1
 replace hBB := hBB.trans (hbV1.mono (Nat.le_trans hBw hBB.size))
 replace hB := tmB hB hbV1
 clear hbV1
 obtain ⟨x0, x1, x2, x3, x4, x5, x6, x7, x8, x9, x10, x11⟩ := cz12 kx
 obtain ⟨hc1, hc2, hc3⟩ := hM.caps
 have hszV := hB.size
 have hGl : ∀ r, r < R → G r < w.heap.size := fun r hr => ((hM0.rg r hr).lt (G r) rfl).2
 have hgml : gm < w.heap.size := (hM0.mm.lt gm rfl).2
 have lx := kx.lt
 clear hM0
 have hspec := zip_row hl1 hl2 M a b hhow
 have hspecH := Lib.hid hspec
 clear hspec
 go_enter Tryz.func122, Tryz.ntmps122
 have hS0 : Below V1.heap.size V1 V1.drew := (Below.refl _ _).drew
 go_wp2_with fail
 clear hB
 clear hEV1
 refine plain_region (fun W' => Below V1.heap.size V1 W') 17 17 (by kernel_rfl) rfl ?_
 simp only [Array.replicate_succ, Array.replicate_zero, List.push_toArray, List.nil_append, List.cons_append]
 obtain ⟨X0, hX0⟩ : ∃ X : World, V1.drew = X := ⟨_, rfl⟩
 rw [hX0] at hS0 ⊢
 clear hX0
 apply cutZ (fun gP qc bt gA cA gBb cBb X4 => X4.ownsRow V1.heap.size 3 1 (srow gP lanes qc) lanes (intL lanes fun j => pix (zipF x.how (pix (M.regs a j)) (pix (M.regs b j)))) ∧ Blk X4 bt 32 #[.int .i64 0, .int .i64 0, .slice none 0 0] ∧ V1.heap.size ≤ bt ∧ Below V1.heap.size V1 X4)
 case' main => intro key
 refine tkz 0 rfl hS0 (fun w' hS' => by go_simp; rfl) ?_
 simp only [nrz]
 refine tkz 1 rfl hS0 (fun w' hS' => by go_simp; rfl) ?_
 simp only [nrz]
 refine tkz 2 rfl hS0 (fun w' hS' => by obtain ⟨y0, y1, y2, y3, y4, y5, y6, y7, y8, y9, y10, y11⟩ := cz12 (kx.below hS' lx); clear hS'; go_simp; rfl) ?_
 simp only [nrz]
 refine tkz 4 rfl hS0 (fun w' hS' => by go_simp; rfl) ?_
 simp only [nrz]
 refine tkz 5 rfl hS0 (fun w' hS' => by go_simp; rfl) ?_
 simp only [nrz]
 refine tkz 6 rfl hS0 (fun w' hS' => by obtain ⟨y0, y1, y2, y3, y4, y5, y6, y7, y8, y9, y10, y11⟩ := cz12 (kx.below hS' lx); clear hS'; go_simp; rfl) ?_
 simp only [nrz]
 refine tkz 8 rfl hS0 (fun w' hS' => by go_simp; rfl) ?_
 simp only [nrz]
 refine tkz 9 rfl hS0 (fun w' hS' => by obtain ⟨y0, y1, y2, y3, y4, y5, y6, y7, y8, y9, y10, y11⟩ := cz12 (kx.below hS' lx); clear hS'; go_simp; rfl) ?_
 simp only [nrz]
 refine fork2 (i := 3) (j := 14) (by kernel_rfl) ?_ ?_
 ·refine step_at 3 rfl (fun K hK => ?_)
  rw [if_pos (by rfl)]
  go_simp
  refine (mpix_any B bm lanes R N M gr gm cr cm G C X0 (hM.later hS0) ⟨hl1, hl2⟩ ⟨hR1, hN1⟩ a haR).mono ?_
  rintro e X1 ⟨gA, cA, rfl, rowA, hb⟩
  replace rowA : X1.ownsRow V1.heap.size 3 1 (srow gA lanes cA) lanes (intL lanes fun j => pix (M.regs a j)) := jrow_weaken rowA hS0.size
  have hS1 : Below V1.heap.size V1 X1 := hS0.trans (hb.mono hS0.size)
  clear hb
  refine hK.out _ _ (fun h => hS1) ?_
  clear hK K
  try simp only [Act.put, nrz]
  refine fork2 (i := 7) (j := 14) (by kernel_rfl) ?_ ?_
  ·refine step_at 7 rfl (fun K hK => ?_)
   rw [if_pos (by rfl)]
   go_simp
   refine (mpix_any B bm lanes R N M gr gm cr cm G C X1 (hM.later hS1) ⟨hl1, hl2⟩ ⟨hR1, hN1⟩ b hbR).mono ?_
   rintro e X2 ⟨gBb, cBb, rfl, rowBb, hb⟩
   replace rowA := row_below rowA hb
   replace rowBb : X2.ownsRow V1.heap.size 3 1 (srow gBb lanes cBb) lanes (intL lanes fun j => pix (M.regs b j)) := jrow_weaken rowBb hS1.size
   have hS2 : Below V1.heap.size V1 X2 := hS1.trans (hb.mono hS1.size)
   clear hb
   refine hK.out _ _ (fun h => hS2) ?_
   clear hK K
   try simp only [Act.put, nrz]
   refine fork2 (i := 10) (j := 14) (by kernel_rfl) ?_ ?_
   ·refine step_at 10 rfl (fun K hK => ?_)
    rw [if_pos (by rfl)]
    go_simp
    have hc := Zip_any (lanes : Int) 1 (some ⟨gA, 0, none⟩) cA lanes (pixR lanes M a) (Lib.hid (pixR_len _ _ _)) (lanes : Int) 1 (some ⟨gBb, 0, none⟩) cBb lanes (pixR lanes M b) (Lib.hid (pixR_len _ _ _)) x.how (by omega) (by omega) X2 (by omega) (by omega) (row_rd' (pixR_len lanes M a) (by unfold pixR; rw [intL_map]; exact rowA)) (row_rd' (pixR_len lanes M b) (by unfold pixR; rw [intL_map]; exact rowBb))
    rw [hspecH.out] at hc
    refine hc.mono ?_
    clear hc
    rintro e X3 ⟨⟨v, rfl, tt, rfl, rowP⟩, hb⟩
    have hlp : ((List.range lanes).map fun j => pix (zipF x.how (pix (M.regs a j)) (pix (M.regs b j)))).length = lanes := by simp
    simp only [hlp] at rowP
    rw [intL_map] at rowP
    obtain ⟨qa, qc, rfl⟩ := row_slice rowP
    obtain ⟨gP, rfl⟩ := row_someP rowP (by omega)
    replace rowP : X3.ownsRow V1.heap.size 3 1 (srow gP lanes qc) lanes (intL lanes fun j => pix (zipF x.how (pix (M.regs a j)) (pix (M.regs b j)))) := jrow_weaken rowP hS2.size
    have hS3 : Below V1.heap.size V1 X3 := hS2.trans (hb.mono hS2.size)
    clear hlp
    clear hb rowA rowBb
    refine hK.out _ _ (fun h => hS3) ?_
    clear hK K
    try simp only [Act.put, nrz]
    refine tkz 11 rfl hS3 (fun w' hS' => by go_simp; rfl) ?_
    simp only [nrz]
    refine tkz 12 rfl hS3 (fun w' hS' => by go_simp; rfl) ?_
    simp only [nrz]
    refine tkz 13 rfl hS3 (fun w' hS' => by go_simp; rfl) ?_
    simp only [nrz]
    refine step_op 14 (by kernel_rfl) rfl (fun K hK => ?_)
    have kb := Blk.new X3 32 #[.int .i64 0, .int .i64 0, .slice none 0 0]
    have hb : Below X3.heap.size X3 (X3.alloc (.cells #[.int .i64 0, .int .i64 0, .slice none 0 0] 32)) := jb_al (Below.refl _ X3) _
    obtain ⟨X4, hEX4⟩ : ∃ X, X3.alloc (.cells #[.int .i64 0, .int .i64 0, .slice none 0 0] 32) = X := ⟨_, rfl⟩
    obtain ⟨bt, hbt⟩ : ∃ b, X3.heap.size = b := ⟨_, rfl⟩
    have hbtl : V1.heap.size ≤ bt := by have := hS3.size; omega
    have hS4 : Below V1.heap.size V1 (X3.alloc (.cells #[.int .i64 0, .int .i64 0, .slice none 0 0] 32)) := hS3.trans (hb.mono hS3.size)
    rw [hEX4] at hS4 hb kb
    replace rowP := row_below rowP hb
    rw [hbt] at kb
    rw [if_pos (by rfl)]
    go_simp
    try rw [hEX4]
    try rw [hbt]
    clear hb hbt
    refine hK.out _ _ (fun h => (hEX4 ▸ hS4)) ?_
    clear hK K
    try simp only [Act.put, nrz]
    exact key gP qc bt gA cA gBb cBb X4 ⟨rowP, kb, hbtl, hS4⟩
   ·refine step_at 14 rfl (fun K hK => ?_)
    have kb := Blk.new X2 32 #[.int .i64 0, .int .i64 0, .slice none 0 0]
    have hb : Below X2.heap.size X2 (X2.alloc (.cells #[.int .i64 0, .int .i64 0, .slice none 0 0] 32)) := jb_al (Below.refl _ X2) _
    obtain ⟨X3, hEX3⟩ : ∃ X, X2.alloc (.cells #[.int .i64 0, .int .i64 0, .slice none 0 0] 32) = X := ⟨_, rfl⟩
    obtain ⟨bt, hbt⟩ : ∃ b, X2.heap.size = b := ⟨_, rfl⟩
    have hbtl : V1.heap.size ≤ bt := by have := hS2.size; omega
    have hS3 : Below V1.heap.size V1 (X2.alloc (.cells #[.int .i64 0, .int .i64 0, .slice none 0 0] 32)) := hS2.trans (hb.mono hS2.size)
    rw [hEX3] at hS3 hb kb
    replace rowA := row_below rowA hb
    replace rowBb := row_below rowBb hb
    rw [hbt] at kb
    rw [if_pos (by rfl)]
    go_simp
    try rw [hEX3]
    try rw [hbt]
    clear hb hbt
    refine hK.out _ _ (fun h => (hEX3 ▸ hS3)) ?_
    clear hK K
    try simp only [Act.put, nrz]
    refine step_op 10 (by kernel_rfl) rfl (fun K hK => ?_)
    rw [if_pos (by rfl)]
    go_simp
    have hc := Zip_any (lanes : Int) 1 (some ⟨gA, 0, none⟩) cA lanes (pixR lanes M a) (Lib.hid (pixR_len _ _ _)) (lanes : Int) 1 (some ⟨gBb, 0, none⟩) cBb lanes (pixR lanes M b) (Lib.hid (pixR_len _ _ _)) x.how (by omega) (by omega) X3 (by omega) (by omega) (row_rd' (pixR_len lanes M a) (by unfold pixR; rw [intL_map]; exact rowA)) (row_rd' (pixR_len lanes M b) (by unfold pixR; rw [intL_map]; exact rowBb))
    rw [hspecH.out] at hc
    refine hc.mono ?_
    clear hc
    rintro e X4 ⟨⟨v, rfl, tt, rfl, rowP⟩, hb⟩
    replace kb := kb.below hb kb.lt
    have hlp : ((List.range lanes).map fun j => pix (zipF x.how (pix (M.regs a j)) (pix (M.regs b j)))).length = lanes := by simp
    simp only [hlp] at rowP
    rw [intL_map] at rowP
    obtain ⟨qa, qc, rfl⟩ := row_slice rowP
    obtain ⟨gP, rfl⟩ := row_someP rowP (by omega)
    replace rowP : X4.ownsRow V1.heap.size 3 1 (srow gP lanes qc) lanes (intL lanes fun j => pix (zipF x.how (pix (M.regs a j)) (pix (M.regs b j)))) := jrow_weaken rowP hS3.size
    have hS4 : Below V1.heap.size V1 X4 := hS3.trans (hb.mono hS3.size)
    clear hlp
    clear hb rowA rowBb
    refine hK.out _ _ (fun h => hS4) ?_
    clear hK K
    try simp only [Act.put, nrz]
    refine tkz 11 rfl hS4 (fun w' hS' => by go_simp; rfl) ?_
    simp only [nrz]
    refine tkz 12 rfl hS4 (fun w' hS' => by go_simp; rfl) ?_
    simp only [nrz]
    refine tkz 13 rfl hS4 (fun w' hS' => by go_simp; rfl) ?_
    simp only [nrz]
    exact key gP qc bt gA cA gBb cBb X4 ⟨rowP, kb, hbtl, hS4⟩
  ·refine step_at 14 rfl (fun K hK => ?_)
   have kb := Blk.new X1 32 #[.int .i64 0, .int .i64 0, .slice none 0 0]
   have hb : Below X1.heap.size X1 (X1.alloc (.cells #[.int .i64 0, .int .i64 0, .slice none 0 0] 32)) := jb_al (Below.refl _ X1) _
   obtain ⟨X2, hEX2⟩ : ∃ X, X1.alloc (.cells #[.int .i64 0, .int .i64 0, .slice none 0 0] 32) = X := ⟨_, rfl⟩
   obtain ⟨bt, hbt⟩ : ∃ b, X1.heap.size = b := ⟨_, rfl⟩
   have hbtl : V1.heap.size ≤ bt := by have := hS1.size; omega
   have hS2 : Below V1.heap.size V1 (X1.alloc (.cells #[.int .i64 0, .int .i64 0, .slice none 0 0] 32)) := hS1.trans (hb.mono hS1.size)
   rw [hEX2] at hS2 hb kb
   replace rowA := row_below rowA hb
   rw [hbt] at kb
   rw [if_pos (by rfl)]
   go_simp
   try rw [hEX2]
   try rw [hbt]
   clear hb hbt
   refine hK.out _ _ (fun h => (hEX2 ▸ hS2)) ?_
   clear hK K
   try simp only [Act.put, nrz]
   refine step_op 7 (by kernel_rfl) rfl (fun K hK => ?_)
   rw [if_pos (by rfl)]
   go_simp
   refine (mpix_any B bm lanes R N M gr gm cr cm G C X2 (hM.later hS2) ⟨hl1, hl2⟩ ⟨hR1, hN1⟩ b hbR).mono ?_
   rintro e X3 ⟨gBb, cBb, rfl, rowBb, hb⟩
   replace rowA := row_below rowA hb
   replace kb := kb.below hb kb.lt
   replace rowBb : X3.ownsRow V1.heap.size 3 1 (srow gBb lanes cBb) lanes (intL lanes fun j => pix (M.regs b j)) := jrow_weaken rowBb hS2.size
   have hS3 : Below V1.heap.size V1 X3 := hS2.trans (hb.mono hS2.size)
   clear hb
   refine hK.out _ _ (fun h => hS3) ?_
   clear hK K
   try simp only [Act.put, nrz]
   refine step_op 10 (by kernel_rfl) rfl (fun K hK => ?_)
   rw [if_pos (by rfl)]
   go_simp
   have hc := Zip_any (lanes : Int) 1 (some ⟨gA, 0, none⟩) cA lanes (pixR lanes M a) (Lib.hid (pixR_len _ _ _)) (lanes : Int) 1 (some ⟨gBb, 0, none⟩) cBb lanes (pixR lanes M b) (Lib.hid (pixR_len _ _ _)) x.how (by omega) (by omega) X3 (by omega) (by omega) (row_rd' (pixR_len lanes M a) (by unfold pixR; rw [intL_map]; exact rowA)) (row_rd' (pixR_len lanes M b) (by unfold pixR; rw [intL_map]; exact rowBb))
   rw [hspecH.out] at hc
   refine hc.mono ?_
   clear hc
   rintro e X4 ⟨⟨v, rfl, tt, rfl, rowP⟩, hb⟩
   replace kb := kb.below hb kb.lt
   have hlp : ((List.range lanes).map fun j => pix (zipF x.how (pix (M.regs a j)) (pix (M.regs b j)))).length = lanes := by simp
   simp only [hlp] at rowP
   rw [intL_map] at rowP
   obtain ⟨qa, qc, rfl⟩ := row_slice rowP
   obtain ⟨gP, rfl⟩ := row_someP rowP (by omega)
   replace rowP : X4.ownsRow V1.heap.size 3 1 (srow gP lanes qc) lanes (intL lanes fun j => pix (zipF x.how (pix (M.regs a j)) (pix (M.regs b j)))) := jrow_weaken rowP hS3.size
   have hS4 : Below V1.heap.size V1 X4 := hS3.trans (hb.mono hS3.size)
   clear hlp
   clear hb rowA rowBb
   refine hK.out _ _ (fun h => hS4) ?_
   clear hK K
   try simp only [Act.put, nrz]
   refine tkz 11 rfl hS4 (fun w' hS' => by go_simp; rfl) ?_
   simp only [nrz]
   refine tkz 12 rfl hS4 (fun w' hS' => by go_simp; rfl) ?_
   simp only [nrz]
   refine tkz 13 rfl hS4 (fun w' hS' => by go_simp; rfl) ?_
   simp only [nrz]
   exact key gP qc bt gA cA gBb cBb X4 ⟨rowP, kb, hbtl, hS4⟩
 ·refine step_at 14 rfl (fun K hK => ?_)
  have kb := Blk.new X0 32 #[.int .i64 0, .int .i64 0, .slice none 0 0]
  have hb : Below X0.heap.size X0 (X0.alloc (.cells #[.int .i64 0, .int .i64 0, .slice none 0 0] 32)) := jb_al (Below.refl _ X0) _
  obtain ⟨X1, hEX1⟩ : ∃ X, X0.alloc (.cells #[.int .i64 0, .int .i64 0, .slice none 0 0] 32) = X := ⟨_, rfl⟩
  obtain ⟨bt, hbt⟩ : ∃ b, X0.heap.size = b := ⟨_, rfl⟩
  have hbtl : V1.heap.size ≤ bt := by have := hS0.size; omega
  have hS1 : Below V1.heap.size V1 (X0.alloc (.cells #[.int .i64 0, .int .i64 0, .slice none 0 0] 32)) := hS0.trans (hb.mono hS0.size)
  rw [hEX1] at hS1 hb kb
  rw [hbt] at kb
  rw [if_pos (by rfl)]
  go_simp
  try rw [hEX1]
  try rw [hbt]
  clear hb hbt
  refine hK.out _ _ (fun h => (hEX1 ▸ hS1)) ?_
  clear hK K
  try simp only [Act.put, nrz]
  refine step_op 3 (by kernel_rfl) rfl (fun K hK => ?_)
  rw [if_pos (by rfl)]
  go_simp
  refine (mpix_any B bm lanes R N M gr gm cr cm G C X1 (hM.later hS1) ⟨hl1, hl2⟩ ⟨hR1, hN1⟩ a haR).mono ?_
  rintro e X2 ⟨gA, cA, rfl, rowA, hb⟩
  replace kb := kb.below hb kb.lt
  replace rowA : X2.ownsRow V1.heap.size 3 1 (srow gA lanes cA) lanes (intL lanes fun j => pix (M.regs a j)) := jrow_weaken rowA hS1.size
  have hS2 : Below V1.heap.size V1 X2 := hS1.trans (hb.mono hS1.size)
  clear hb
  refine hK.out _ _ (fun h => hS2) ?_
  clear hK K
  try simp only [Act.put, nrz]
  refine step_op 7 (by kernel_rfl) rfl (fun K hK => ?_)
  rw [if_pos (by rfl)]
  go_simp
  refine (mpix_any B bm lanes R N M gr gm cr cm G C X2 (hM.later hS2) ⟨hl1, hl2⟩ ⟨hR1, hN1⟩ b hbR).mono ?_
  rintro e X3 ⟨gBb, cBb, rfl, rowBb, hb⟩
  replace kb := kb.below hb kb.lt
  replace rowA := row_below rowA hb
  replace rowBb : X3.ownsRow V1.heap.size 3 1 (srow gBb lanes cBb) lanes (intL lanes fun j => pix (M.regs b j)) := jrow_weaken rowBb hS2.size
  have hS3 : Below V1.heap.size V1 X3 := hS2.trans (hb.mono hS2.size)
  clear hb
  refine hK.out _ _ (fun h => hS3) ?_
  clear hK K
  try simp only [Act.put, nrz]
  refine step_op 10 (by kernel_rfl) rfl (fun K hK => ?_)
  rw [if_pos (by rfl)]
  go_simp
  have hc := Zip_any (lanes : Int) 1 (some ⟨gA, 0, none⟩) cA lanes (pixR lanes M a) (Lib.hid (pixR_len _ _ _)) (lanes : Int) 1 (some ⟨gBb, 0, none⟩) cBb lanes (pixR lanes M b) (Lib.hid (pixR_len _ _ _)) x.how (by omega) (by omega) X3 (by omega) (by omega) (row_rd' (pixR_len lanes M a) (by unfold pixR; rw [intL_map]; exact rowA)) (row_rd' (pixR_len lanes M b) (by unfold pixR; rw [intL_map]; exact rowBb))
  rw [hspecH.out] at hc
  refine hc.mono ?_
  clear hc
  rintro e X4 ⟨⟨v, rfl, tt, rfl, rowP⟩, hb⟩
  replace kb := kb.below hb kb.lt
  have hlp : ((List.range lanes).map fun j => pix (zipF x.how (pix (M.regs a j)) (pix (M.regs b j)))).length = lanes := by simp
  simp only [hlp] at rowP
  rw [intL_map] at rowP
  obtain ⟨qa, qc, rfl⟩ := row_slice rowP
  obtain ⟨gP, rfl⟩ := row_someP rowP (by omega)
  replace rowP : X4.ownsRow V1.heap.size 3 1 (srow gP lanes qc) lanes (intL lanes fun j => pix (zipF x.how (pix (M.regs a j)) (pix (M.regs b j)))) := jrow_weaken rowP hS3.size
  have hS4 : Below V1.heap.size V1 X4 := hS3.trans (hb.mono hS3.size)
  clear hlp
  clear hb rowA rowBb
  refine hK.out _ _ (fun h => hS4) ?_
  clear hK K
  try simp only [Act.put, nrz]
  refine tkz 11 rfl hS4 (fun w' hS' => by go_simp; rfl) ?_
  simp only [nrz]
  refine tkz 12 rfl hS4 (fun w' hS' => by go_simp; rfl) ?_
  simp only [nrz]
  refine tkz 13 rfl hS4 (fun w' hS' => by go_simp; rfl) ?_
  simp only [nrz]
  exact key gP qc bt gA cA gBb cBb X4 ⟨rowP, kb, hbtl, hS4⟩
 case key =>
  rintro gP qc bt gA cA gBb cBb X4 ⟨rowP, kb, hbtl, hS4⟩
  refine step_op 15 (by kernel_rfl) rfl (fun K hK => ?_)
  obtain ⟨z0, z1, z2⟩ := cz3 kb
  have fz0 := kb.frozen 0
  have fz1 := kb.frozen 1
  have fz2 := kb.frozen 2
  have hS5 : Below V1.heap.size V1 (put3 X4 bt (.int .i64 (lanes : Int)) (.int .i64 1) (srow gP lanes qc)) := hS4.trans (put3_below hbtl _ _ _)
  rw [if_pos (by rfl)]
  go_simp
  refine hK.out _ _ (fun h => hS5) ?_
  clear hK K
  try simp only [Act.put, nrz]
  refine tkz 16 rfl hS5 (fun w' hS' => by go_simp; rfl) ?_
  simp only [nrz]
  refine done_ops (by kernel_rfl) ?_
  have kb2 := put3_blk kb (.int .i64 (lanes : Int)) (.int .i64 1) (srow gP lanes qc)
  have rowP2 := row_put3b rowP (kb.not_row (by decide) rowP) (.int .i64 (lanes : Int)) (.int .i64 1) (srow gP lanes qc)
  have hM2 := hM.later hS5
  have kx2 := kx.below hS5 lx
  have hBB2 := hBB.trans (hS5.mono (Nat.le_trans hBw hBB.size))
  have hszX := hS5.size
  clear rowP kb hM kx hBB hS4 hS5 hS0 z0 z1 z2 fz0 fz1 fz2
  obtain ⟨X9, hX9⟩ : ∃ X, ((X4.setCell ⟨bt, 0, none⟩ (.int .i64 (lanes : Int))).setCell ⟨bt, 1, none⟩ (.int .i64 1)).setCell ⟨bt, 2, none⟩ (.slice (some ⟨gP, 0, none⟩) lanes qc) = X := ⟨_, rfl⟩
  have e9 : put3 X4 bt (.int .i64 (lanes : Int)) (.int .i64 1) (srow gP lanes qc) = X9 := hX9
  rw [e9] at kb2 rowP2 hM2 kx2 hBB2 hszX
  rw [hX9]
  clear hX9 e9
  have lb := kb2.lt
  have lx2 := kx2.lt
  have hS : Below X9.heap.size X9 X9.drew := (Below.refl _ _).drew
  go_wp2_with fail
  refine plain_region (fun W' => Below X9.heap.size X9 W') 9 10 (by kernel_rfl) rfl ?_
  simp only [Array.replicate_succ, Array.replicate_zero, List.push_toArray, List.nil_append, List.cons_append]
  obtain ⟨Y0, hXY0⟩ : ∃ X : World, X9.drew = X := ⟨_, rfl⟩
  rw [hXY0] at hS ⊢
  clear hXY0
  refine tkz 0 rfl hS (fun w' hS' => by go_simp; rfl) ?_
  simp only [nrz]
  refine tkz 1 rfl hS (fun w' hS' => by go_simp; rfl) ?_
  simp only [nrz]
  refine tkz 2 rfl hS (fun w' hS' => by go_simp; rfl) ?_
  simp only [nrz]
  refine tkz 3 (v := ?qv3) rfl hS (fun w' hS' => ?qy3) ?qz3
  case qy3 =>
   obtain ⟨e0, e1, e2, er, eg, em⟩ := (hM2.later hS').cells
   have erd := er d hdR
   obtain ⟨q0, q1, q2⟩ := cz3 (kb2.below hS' lb)
   have y1 := (kx2.below hS' lx2).cell (i := 1) rfl
   clear hS' er eg em
   go_simp
   rfl
  simp only [nrz]
  refine tkz 4 rfl hS (fun w' hS' => by go_simp; rfl) ?_
  simp only [nrz]
  refine tkz 5 (v := ?qv5) rfl hS (fun w' hS' => ?qy5) ?qz5
  case qy5 =>
   obtain ⟨e0, e1, e2, er, eg, em⟩ := (hM2.later hS').cells
   have erd := er d hdR
   obtain ⟨q0, q1, q2⟩ := cz3 (kb2.below hS' lb)
   have y1 := (kx2.below hS' lx2).cell (i := 1) rfl
   clear hS' er eg em
   go_simp
   rfl
  simp only [nrz]
  refine tkz 6 rfl hS (fun w' hS' => by go_simp; rfl) ?_
  simp only [nrz]
  refine tkz 7 (v := ?qv7) rfl hS (fun w' hS' => ?qy7) ?qz7
  case qy7 =>
   obtain ⟨e0, e1, e2, er, eg, em⟩ := (hM2.later hS').cells
   have erd := er d hdR
   obtain ⟨q0, q1, q2⟩ := cz3 (kb2.below hS' lb)
   have y1 := (kx2.below hS' lx2).cell (i := 1) rfl
   clear hS' er eg em
   go_simp
   rfl
  simp only [nrz]
  refine tkz 8 (v := ?qv8) rfl hS (fun w' hS' => ?qy8) ?qz8
  case qy8 =>
   go_simp
   try go_ints
   first
   | rfl
   | (rw [if_pos (by omega)]; done)
   | rw [if_pos ⟨by omega, by omega⟩]
  simp only [nrz]
  refine step_op 9 (by kernel_rfl) rfl (fun K hK => ?_)
  obtain ⟨e0, e1, e2, er, eg, em⟩ := (hM2.later hS).cells
  have erd := er d hdR
  have fzd := (hM2.later hS).frozen.2.2 d
  clear er eg em e0 e1 e2
  rw [if_pos (by rfl)]
  go_simp
  refine hK.out _ _ (fun h => absurd h (by omega)) ?_
  clear hK K
  try simp only [Act.put, nrz]
  refine done_ops (by kernel_rfl) ?_
  have hgP := (rowP2.lt gP rfl).1
  have hrow3 := row_below rowP2 hS
  obtain ⟨hMf, hbf⟩ := (hM2.later hS).repl hdR (jrow_weaken hrow3 (by omega)) (fun r hr e => by have := hGl r hr; omega) (by omega) (by have := hS.size; have := hBB2.size; omega)
  have hBBf := hBB2.trans ((hS.mono (by have := hBB2.size; omega)).trans hbf)
  clear hM2 hbf hBB2 hrow3 rowP2 kb2 kx2 hS
  go_wp2_with fail
  go_end0
  exact ⟨⟨_, rfl⟩, _, _, if_neg (by omega), hMf, hBBf⟩
end Go.Proofs.YtekiemlniegddaaGreat
namespace Go.Proofs.YtekiemlniegddaaGreat
open Go Go.RowKit Go.Shelf
def doL : List Nat := [0, 118, 119, 120, 121, 122, 123]
def doF (k : Nat) : Nat := doL[k]?.getD 0
theorem do_fn {k : Nat} (h1 : 1 ≤ k) (h7 : k < 7) : (needAt k).fn = .func (.func (doF k)) #[] #[] := by
 match k, h1, h7 with
 | 1, _, _ => rfl
 | 2, _, _ => rfl
 | 3, _, _ => rfl
 | 4, _, _ => rfl
 | 5, _, _ => rfl
 | 6, _, _ => rfl
theorem enters_do1 : ∀ args w, (callFunc 118 args).run Tryz.prog w = .ok (.enter 118 args) w := enters_of Tryz.func118 (by kernel_rfl) rfl
theorem enters_do2 : ∀ args w, (callFunc 119 args).run Tryz.prog w = .ok (.enter 119 args) w := enters_of Tryz.func119 (by kernel_rfl) rfl
theorem enters_do3 : ∀ args w, (callFunc 120 args).run Tryz.prog w = .ok (.enter 120 args) w := enters_of Tryz.func120 (by kernel_rfl) rfl
theorem enters_do4 : ∀ args w, (callFunc 121 args).run Tryz.prog w = .ok (.enter 121 args) w := enters_of Tryz.func121 (by kernel_rfl) rfl
theorem enters_do5 : ∀ args w, (callFunc 122 args).run Tryz.prog w = .ok (.enter 122 args) w := enters_of Tryz.func122 (by kernel_rfl) rfl
theorem enters_do6 : ∀ args w, (callFunc 123 args).run Tryz.prog w = .ok (.enter 123 args) w := enters_of Tryz.func123 (by kernel_rfl) rfl
theorem enters_do {k : Nat} (h1 : 1 ≤ k) (h7 : k < 7) : ∀ args w, (callFunc (doF k) args).run Tryz.prog w = .ok (.enter (doF k) args) w := by
 match k, h1, h7 with
 | 1, _, _ => exact enters_do1
 | 2, _, _ => exact enters_do2
 | 3, _, _ => exact enters_do3
 | 4, _, _ => exact enters_do4
 | 5, _, _ => exact enters_do5
 | 6, _, _ => exact enters_do6
/-- What an instruction's function does. -/
theorem do_any (v : VecN) (hv : VecIn v) (L R N : Nat) (hL : v.lanes = (L : Int)) (hR : v.regs = (R : Int)) (hN : v.mem = (N : Int)) (x : InsN) (hx : insB v x = true) (k : Nat) (hO : x.op = (k : Int)) (ia : Option Addr) (ic : Nat)
  (B bm : Nat) (M : MacN) (gr gm cr cm : Nat) (G C : Nat → Nat) (w : World) (hM : MacAt B w bm L R N M gr gm cr cm G C) (hr : RegB L R M) (hra : Rd B w ia x.ad) (hBw : B ≤ w.heap.size) :
  Calls Tryz.prog (doF k) #[.pointer (some ⟨bm, 0, none⟩), insv x ia ic] w fun e w' => (∃ v, e = .returned v) ∧ ∃ G' C', C' R = C R ∧ MacAt B w' bm L R N (stepM L x M) gr gm cr cm G' C' ∧ Below B w w' := by
 obtain ⟨v1, v2, v3, v4, v5, v6⟩ := hv
 have hop := ins_op hx
 have hl : 1 ≤ L ∧ L ≤ 16 := by omega
 have hRN : R ≤ 16 ∧ N ≤ 8192 := by omega
 have adr : adrB v x.ad = true → x.ad.length = L ∧ ∀ k, k < L → -1 ≤ adOf x k ∧ adOf x k < N := fun h => by
  obtain ⟨h1, h2⟩ := adr_in h
  have : x.ad.length = L := by omega
  exact ⟨this, fun k hk => by have := h2 k (by omega); omega⟩
 have hk : k = 1 ∨ k = 2 ∨ k = 3 ∨ k = 4 ∨ k = 5 ∨ k = 6 := by omega
 unfold stepM
 rcases hk with rfl | rfl | rfl | rfl | rfl | rfl
 ·obtain ⟨⟨d1, d2⟩, _, ha⟩ := ins_1 hx hO
  obtain ⟨a1, a2⟩ := adr ha
  rw [if_pos (by omega)]
  exact (mload_any B bm L R N M gr gm cr cm G C w hM hl hRN x ia ic x.d.toNat (by omega) (by omega) a1 hra a2 hBw).mono fun e w' h => ⟨h.1, G, C, rfl, h.2.1, h.2.2⟩
 ·obtain ⟨⟨d1, d2⟩, ha⟩ := ins_2 hx hO
  obtain ⟨a1, a2⟩ := adr ha
  rw [if_neg (by omega), if_pos (by omega)]
  exact (mstore_any B bm L R N M gr gm cr cm G C w hM hl hRN x ia ic x.a.toNat (by omega) (by omega) a1 hra a2 hBw).mono fun e w' h => ⟨h.1, G, C, rfl, h.2.1, h.2.2⟩
 ·obtain ⟨⟨d1, d2⟩, _⟩ := ins_3 hx hO
  rw [if_neg (by omega), if_neg (by omega), if_pos (by omega)]
  exact (mset_any B bm L R N M gr gm cr cm G C w hM hl hRN x ia ic x.d.toNat (by omega) (by omega) hBw).mono fun e w' h => ⟨h.1, G, C, rfl, h.2.1, h.2.2⟩
 ·obtain ⟨⟨d1, d2⟩, ⟨a1, a2⟩, hp⟩ := ins_4 hx hO
  rw [if_neg (by omega), if_neg (by omega), if_neg (by omega), if_pos (by omega)]
  exact mpoint_any B bm L R N M gr gm cr cm G C w hM hl hRN x ia ic x.d.toNat x.a.toNat (by omega) (by omega) (by omega) (by omega) hp hBw
 ·obtain ⟨⟨d1, d2⟩, ⟨a1, a2⟩, ⟨b1, b2⟩, hh⟩ := ins_5 hx hO
  rw [if_neg (by omega), if_neg (by omega), if_neg (by omega), if_neg (by omega), if_pos (by omega)]
  exact mzip_any B bm L R N M gr gm cr cm G C w hM hl hRN x ia ic x.d.toNat x.a.toNat x.b.toNat (by omega) (by omega) (by omega) (by omega) (by omega) (by omega) hh hBw
 ·obtain ⟨⟨d1, d2⟩, ⟨a1, a2⟩, hv⟩ := ins_6 hx hO
  rw [if_neg (by omega), if_neg (by omega), if_neg (by omega), if_neg (by omega), if_neg (by omega), if_pos (by omega)]
  exact (madd_any B bm L R N M gr gm cr cm G C w hM hl hRN x ia ic x.d.toNat x.a.toNat (by omega) (by omega) (by omega) (by omega) hv.1 hv.2 (hr _ (by omega)) hBw).mono fun e w' h => ⟨h.1, G, C, rfl, h.2.1, h.2.2⟩
/-- A machine whose registers are being made: k of them are there. -/
structure MacP (B : Nat) (W : World) (bm lanes k N : Nat) (v : Value) (gm cm : Nat) (G C : Nat → Nat) : Prop where
 m : Blk W bm 151 #[.int .i64 (lanes : Int), v, srow gm N cm]
 rr : W.ownsRow B 30 1 v k (rowsL k lanes G C)
 rg : ∀ r, r < k → W.ownsRow B 3 1 (srow (G r) lanes (C r)) lanes (intL lanes fun _ => 0)
 mm : W.ownsRow B 3 1 (srow gm N cm) N (intL N fun _ => 0)
 inj : ∀ r s, r < k → s < k → G r = G s → r = s
 ne : ∀ r, r < k → G r ≠ gm
 hb : B ≤ bm
theorem MacP.later {B : Nat} {W W' : World} {bm lanes k N : Nat} {v : Value} {gm cm : Nat} {G C : Nat → Nat} (h : MacP B W bm lanes k N v gm cm G C) (hb : Below W.heap.size W W') : MacP B W' bm lanes k N v gm cm G C :=
 ⟨h.m.below hb h.m.lt, row_below h.rr hb, fun r hr => row_below (h.rg r hr) hb, row_below h.mm hb, h.inj, h.ne, h.hb⟩
/-- The machine is made. -/
theorem MacP.mac {B : Nat} {W : World} {bm lanes R N : Nat} {v : Value} {gm cm : Nat} {G C : Nat → Nat} (h : MacP B W bm lanes R N v gm cm G C) (hR : 0 < R) (hC : C R = 0) : ∃ gr cr, v = srow gr R cr ∧ MacAt B W bm lanes R N ⟨fun _ _ => 0, fun _ => 0⟩ gr gm cr cm G C := by
 obtain ⟨a, c, rfl⟩ := row_slice h.rr
 obtain ⟨g, rfl⟩ := row_someP h.rr hR
 exact ⟨g, c, rfl, h.m, h.rr, h.rg, h.mm, h.inj, h.ne, h.hb, fun h0 => absurd hC h0⟩
theorem row_apart {W : World} {B1 B2 : Nat} {e1 e2 : TypeId} {s1 s2 g n c k1 k2 : Nat} {v : Value} {xs ys : List Value} (h1 : W.ownsRow B1 e1 s1 (srow g n c) k1 xs) (h2 : W.ownsRow B2 e2 s2 v k2 ys) (he : e1 ≠ e2) : some g ≠ v.ownBlock := by
 rcases h2.2 with ⟨h3, _⟩ | ⟨g', cap, cur, h3, _⟩
 ·rw [h3]; intro h; cases h
 ·subst h3
  intro h
  have hgg : g = g' := by injection h
  exact rows_ne h1 h2 he hgg
theorem rowsL_succ (k lanes g c : Nat) (G C : Nat → Nat) : rowsL (k + 1) lanes (fun r => if r = k then g else G r) (fun r => if r = k then c else C r) = rowsL k lanes G C ++ [srow g lanes c] := by
 unfold rowsL
 rw [List.range_succ, List.map_append, List.map_cons, List.map_nil]
 simp only [if_true]
 congr 1
 exact List.map_congr_left fun r hr => by have := List.mem_range.1 hr; rw [if_neg (by omega), if_neg (by omega)]
theorem MacP.push {B : Nat} {W W1 W2 : World} {bm L k N : Nat} {v v' : Value} {gm cm g : Nat} {G C : Nat → Nat} (h : MacP B W bm L k N v gm cm G C) (hb1 : Below W.heap.size W W1) (hg : W.heap.size ≤ g)
  (hnew : W1.ownsRow B 3 1 (srow g L L) L (intL L fun _ => 0)) (hrow : W2.ownsRow B 30 1 v' (k + 1) (rowsL k L G C ++ [srow g L L])) (hgr : W1.grownBy W2 v.ownBlock)
  (hat : v'.ownBlock = v.ownBlock ∨ v'.ownBlock = some W1.heap.size) (hB : B ≤ W.heap.size) :
  MacP B (W2.setCell ⟨bm, 1, none⟩ v') bm L (k + 1) N v' gm cm (fun r => if r = k then g else G r) (fun r => if r = k then L else C r) ∧ Below B W (W2.setCell ⟨bm, 1, none⟩ v') := by
 have h1 := h.later hb1
 have hbm := h.m.lt
 have n1 : some bm ≠ v.ownBlock := h1.m.not_row (by decide) h1.rr
 have n2 : some bm ≠ v'.ownBlock := by
  rcases hat with e | e
  ·rw [e]; exact n1
  ·rw [e]; have := h1.m.lt; intro h; simp at h; omega
 have low : ∀ {g n c : Nat} {xs : List Value}, W.ownsRow B 3 1 (srow g n c) n xs → g < W.heap.size := fun h => (h.lt _ rfl).2
 refine ⟨⟨(h1.m.kept hgr n1).set 1 v', ?_, fun r hr => ?_, ?_, fun r s hr hs e => ?_, fun r hr => ?_, h.hb⟩, ?_⟩
 ·rw [rowsL_succ]
  exact row_setCell hrow (a := ⟨bm, 1, none⟩) n2 _
 ·by_cases e : r = k
  ·rw [if_pos e, if_pos e]
   exact row_setCell (hnew.kept hgr (.inr (row_apart hnew h1.rr (by decide)))) (a := ⟨bm, 1, none⟩) (some_ne (show bm ≠ g by omega)) _
  ·rw [if_neg e, if_neg e]
   have h2 := h1.rg r (by omega)
   have h3 := low (h.rg r (by omega))
   exact row_setCell (h2.kept hgr (.inr (row_apart h2 h1.rr (by decide)))) (a := ⟨bm, 1, none⟩) (h1.m.not_row (by decide) h2) _
 ·exact row_setCell (h1.mm.kept hgr (.inr (row_apart h1.mm h1.rr (by decide)))) (a := ⟨bm, 1, none⟩) (h1.m.not_row (by decide) h1.mm) _
 ·by_cases e1 : r = k
  ·by_cases e2 : s = k
   ·omega
   ·rw [if_pos e1, if_neg e2] at e; have := low (h.rg s (by omega)); omega
  ·by_cases e2 : s = k
   ·rw [if_neg e1, if_pos e2] at e; have := low (h.rg r (by omega)); omega
   ·rw [if_neg e1, if_neg e2] at e; exact h.inj r s (by omega) (by omega) e
 ·by_cases e : r = k
  ·rw [if_pos e]; have := low h.mm; omega
  ·rw [if_neg e]; exact h.ne r (by omega)
 ·exact ((hb1.mono hB).grown hgr (by have := hb1.size; omega) (fun j e => (h1.rr.lt j e).1)).setCell h.hb _
theorem put_list {N o : Nat} {xs : List Int} {mem : Nat → Int} (h : o + xs.length ≤ N) : (intL N mem).take o ++ xs.map (Value.int .i64) ++ (intL N mem).drop (o + xs.length) = intL N (putImg (o : Int) xs mem) := by
 refine List.ext_getElem? fun i => ?_
 have e1 : ((intL N mem).take o).length = o := by rw [List.length_take, intL_len]; omega
 have hm : (xs.map (Value.int .i64)).length = xs.length := List.length_map _
 unfold putImg
 rw [List.append_assoc]
 by_cases hi : i < o
 ·rw [List.getElem?_append_left (by omega), List.getElem?_take, if_pos hi, intL_at (by omega), intL_at (by omega), if_neg (by omega)]
 rw [List.getElem?_append_right (by omega), e1]
 by_cases hi2 : i < o + xs.length
 ·rw [List.getElem?_append_left (by omega), List.getElem?_map, intL_at (by omega), if_pos ⟨by omega, by omega, by omega⟩]
  unfold px
  rw [show ((i : Int) - (o : Int)).toNat = i - o by omega, List.getElem?_eq_getElem (show i - o < xs.length by omega)]
  rfl
 rw [List.getElem?_append_right (by omega), hm, List.getElem?_drop, show o + xs.length + (i - o - xs.length) = i by omega]
 by_cases hi3 : i < N
 ·rw [intL_at hi3, intL_at hi3, if_neg (by omega)]
 ·rw [List.getElem?_eq_none (by rw [intL_len]; omega), List.getElem?_eq_none (by rw [intL_len]; omega)]
theorem grownBy_setRow (w : World) (g : Nat) (cs : Array Value) : w.grownBy (w.setRow g cs) (some g) :=
 ⟨rfl, rfl, rfl, by simp, fun k _ hne => setRow_other w g k cs (fun e => hne (by rw [e]))⟩
/-- An image is copied into the memory. -/
theorem MacAt.copied {B : Nat} {W : World} {bm L R N : Nat} {M : MacN} {gr gm cr : Nat} {G C : Nat → Nat} (h : MacAt B W bm L R N M gr gm cr N G C) {o : Nat} {xs : List Int} (ho : o + xs.length ≤ N) (hN : N ≤ 8192) (hB : B ≤ W.heap.size) :
  MacAt B (W.setRow gm (((intL N M.mem).toArray.toList.take o ++ xs.map (Value.int .i64) ++ (intL N M.mem).toArray.toList.drop (o + (xs.map (Value.int .i64)).length)).toArray)) bm L R N ⟨M.regs, putImg (o : Int) xs M.mem⟩ gr gm cr N G C ∧
   Below B W (W.setRow gm (((intL N M.mem).toArray.toList.take o ++ xs.map (Value.int .i64) ++ (intL N M.mem).toArray.toList.drop (o + (xs.map (Value.int .i64)).length)).toArray)) := by
 have hw := row_whole h.mm
 have hlow := (h.mm.lt gm rfl).1
 rw [List.length_map]
 show MacAt B (W.setRow gm (((intL N M.mem).take o ++ xs.map (Value.int .i64) ++ (intL N M.mem).drop (o + xs.length)).toArray)) bm L R N ⟨M.regs, putImg (o : Int) xs M.mem⟩ gr gm cr N G C ∧ Below B W (W.setRow gm (((intL N M.mem).take o ++ xs.map (Value.int .i64) ++ (intL N M.mem).drop (o + xs.length)).toArray))
 rw [put_list ho]
 have hg := grownBy_setRow W gm (intL N (putImg (o : Int) xs M.mem)).toArray
 have hne := h.m.not_row (by decide) h.mm
 refine ⟨⟨h.m.kept hg hne, h.rr.kept hg (.inr (some_ne (rows_ne h.mm h.rr (by decide)).symm)), fun r hr => (h.rg r hr).kept hg (.inr (some_ne (h.ne r hr))), ?_, h.inj, h.ne, h.hb, fun h0 => (h.gs h0).kept hg ((h.gs h0).not_row (by decide) h.mm)⟩, below_setRow (Below.refl _ _) hlow _⟩
 refine ⟨by rw [intL_len, Nat.mul_one], .inr ⟨gm, N, _, rfl, hlow, setRow_heap W gm _ _ _ _ hw, Nat.le_refl _, by unfold maxLen; omega, by simp [intL_len], ?_⟩⟩
 rw [List.take_of_length_le (by simp [intL_len])]
theorem step_make_fullP {P : Program} {ops : Array Oper} {o : Oper} {a : Act} {w : World} {K : Act → World → Prop} {Q : Exit → Act → World → Prop} {E : Prop}
  (hg : o.guard = none) (l c : Operand) (t : TypeId) (hop : o.op = Op.makeSlice t l c) (base : Nat) (e : TypeId) (i : TypeInfo) (z : Value) (size : Nat) (h1 : P.underlying t = some (.slice e)) (h2 : P.info? e = some i) (h3 : i.zero = some z) (h4 : i.size = size)
  (kl kc : IntKind) (m : Nat) (hl : a.eval l = .int kl (m : Int)) (hc : a.eval c = .int kc (m : Int)) (b2 : i.bytes * m ≤ 281474976710656) (b3 : m ≤ maxLen) (b4 : base ≤ w.heap.size)
  (hK : ∀ w', w'.ownsRow base e size (.slice (some ⟨w.heap.size, 0, none⟩) m m) m (madeCells z.cells (m * size)).toList → w.grownBy w' none → K (a.put o.dst (.slice (some ⟨w.heap.size, 0, none⟩) m m)) w') :
  if Region.wanted o (yielded ops a.tmps) = true then Oper.wp P o a w K Q else E := by
 have hw : Region.wanted o (yielded ops a.tmps) = true := by simp [Region.wanted, hg]
 rw [if_pos hw]
 obtain ⟨w', hrun, r1, r2⟩ := run_make_full (P := P) w base t e i z size h1 h2 h3 h4 kl kc m b2 b3 b4
 unfold Oper.wp
 simp [execOp, hop, hl, hc, hrun, Result.andThen]
 exact hK w' r1 r2
theorem step_append_atP {P : Program} {ops : Array Oper} {o : Oper} {a : Act} {w : World} {K : Act → World → Prop} {Q : Exit → Act → World → Prop} {E : Prop}
  (hg : o.guard = none) (s x : Operand) (t : TypeId) (hop : o.op = Op.call { callee := Callee.builtin Builtin.append, args := #[s, x], argTypes := #[t, t] })
  (base : Nat) (e : TypeId) (i : TypeInfo) (z : Value) (size bytes : Nat) (h1 : P.underlying t = some (.slice e)) (h2 : P.info? e = some i) (h3 : i.zero = some z) (h4 : i.size = size) (h5 : i.bytes = bytes) (h6 : z.cells.size = size) (h7 : 0 < size)
  (v : Value) (k : Nat) (xs : List Value) (hs : a.eval s = v) (hown : w.ownsRow base e size v k xs) (ad : Addr) (m c : Nat) (news : List Value) (hx : a.eval x = .slice (some ad) m c) (hn : news.length = m * size)
  (hc : ∀ j u, news[j]? = some u → w.cell? (ad.add j) = some u) (h1c : ∀ u ∈ news, u.oneCell' = true) (b1 : k + m ≤ maxLen) (b2 : (k + m) * bytes ≤ 140737488355328) (b3 : base ≤ w.heap.size)
  (hK : ∀ v' w', w'.ownsRow base e size v' (k + m) (xs ++ news) → w.grownBy w' v.ownBlock → (v'.ownBlock = v.ownBlock ∨ v'.ownBlock = some w.heap.size) → K (a.put o.dst v') w') :
  if Region.wanted o (yielded ops a.tmps) = true then Oper.wp P o a w K Q else E := by
 have hw : Region.wanted o (yielded ops a.tmps) = true := by simp [Region.wanted, hg]
 rw [if_pos hw]
 obtain ⟨v', w', hrun, r1, r2, r3, r4⟩ := run_append_own_at (P := P) w base t o.type e i z size bytes h1 h2 h3 h4 h5 h6 h7 v k xs hown ad m c news hn hc h1c b1 b2 b3
 unfold Oper.wp
 simp [execOp, hop, resolve, invoke, builtin, hs, hx, hrun, Result.andThen]
 exact hK v' w' r1 r2 r4
theorem info_row : (Tryz.prog.info? 30).map (fun i => (i.zero, i.size, i.bytes)) = some (some (.slice none 0 0), 1, 24) := by kernel_rfl
theorem info_num : (Tryz.prog.info? 3).map (fun i => (i.zero, i.size, i.bytes)) = some (some (.int .i64 0), 1, 8) := by kernel_rfl
theorem made_row (n : Nat) : (madeCells (Value.int .i64 0).cells (n * 1)).toList = intL n fun _ => 0 := by
 unfold intL
 refine List.ext_getElem (by simp [size_madeCells]) fun i h1 h2 => ?_
 simp [madeCells, Value.cells, Nat.mod_one]
/-- The table lies behind the machine. -/
theorem MacAt.guest {B : Nat} {W : World} {bm L R N : Nat} {M : MacN} {gr gm cr cm bT : Nat} {G C : Nat → Nat} (h : MacAt B W bm L R N M gr gm cr cm G C) (kT : Blk W bT 139 tabC) : MacAt B W bm L R N M gr gm cr cm G (fun r => if r = R then bT else C r) := by
 have hrow : rowsL R L G (fun r => if r = R then bT else C r) = rowsL R L G C := by
  unfold rowsL
  exact List.map_congr_left fun r hr => by have := List.mem_range.1 hr; show srow (G r) L (if r = R then bT else C r) = _; rw [if_neg (by omega)]
 refine ⟨h.m, hrow.symm ▸ h.rr, fun r hr => ?_, h.mm, h.inj, h.ne, h.hb, fun _ => ?_⟩
 ·show W.ownsRow B _ 1 (srow (G r) L (if r = R then bT else C r)) L _
  rw [if_neg (by omega)]; exact h.rg r hr
 ·show Blk W (if R = R then bT else C R) _ _
  rw [if_pos rfl]; exact kT
theorem memN_bd {ms : List PicN} {ats : List Int} {n : Nat} (h : ∀ k, k < n → allIn (-2147483648) 2147483648 (picAt ms k).px = true) : ∀ k, k ≤ n → ∀ i, -2147483648 ≤ memN ats ms k i ∧ memN ats ms k i ≤ 2147483648
 | 0, _, i => by show -2147483648 ≤ (0 : Int) ∧ (0 : Int) ≤ 2147483648; omega
 | k + 1, hk, i => by
  show -2147483648 ≤ putImg (ats[k]?.getD 0) (picAt ms k).px (memN ats ms k) i ∧ putImg (ats[k]?.getD 0) (picAt ms k).px (memN ats ms k) i ≤ 2147483648
  unfold putImg
  split
  ·exact px_bd (h k (by omega)) _
  ·exact memN_bd h k (by omega) i
theorem run_bd (v : VecN) (l : List InsN) (hl : ∀ x ∈ l, insB v x = true) (M : MacN) (hr : RegB v.lanes.toNat v.regs.toNat M) (hm : MemB v.mem.toNat M) : RegB v.lanes.toNat v.regs.toNat (runM v.lanes.toNat l M) ∧ MemB v.mem.toNat (runM v.lanes.toNat l M) := by
 induction l generalizing M with
 | nil => exact ⟨hr, hm⟩
 | cons x l ih =>
  rw [runM_cons]
  obtain ⟨h1, h2⟩ := step_bd v x (hl x (by simp)) M hr hm
  exact ih (fun y hy => hl y (by simp [hy])) _ h1 h2
theorem runM_take (L : Nat) (l : List InsN) (M : MacN) (k : Nat) (hk : k < l.length) : runM L (l.take (k + 1)) M = stepM L (insAt l k) (runM L (l.take k) M) := by
 rw [List.take_succ_eq_append_getElem hk, runM_app, runM_cons, runM_nil]
 unfold insAt
 rw [List.getElem?_eq_getElem hk]
 rfl
end Go.Proofs.YtekiemlniegddaaGreat

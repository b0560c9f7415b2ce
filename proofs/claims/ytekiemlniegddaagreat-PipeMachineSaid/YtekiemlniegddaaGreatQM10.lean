/- Contracts and laws (McD, OpV, Flat, MpW, PRm, PRr). -/
import Derived.Deep.MidRow
import Derived.Great.Walk
import Derived.Test.YtekiemlniegddaaGreatQM8
import Derived.Test.YtekiemlniegddaaGreatQM9
import Derived.Test.YtekiemlniegddaaGreatQM4
import Derived.Test.YtekiemlniegddaaGreatQM1
import Derived.Test.YtekiemlniegddaaGreatQM5
set_option linter.unusedVariables false
set_option linter.unusedSimpArgs false
namespace Go.Proofs.YtekiemlniegddaaGreat
open Go Go.RowKit Go.Shelf
set_option maxRecDepth 100000 in
set_option maxHeartbeats 4000000 in
theorem IndexL_any (p : Int → Bool) (fo : Nat) (lb : Array Value) (eg : ∀ args w, (callFunc fo args).run Tryz.prog w = .ok (.enter fo args) w) (xs : List Int) (a : Option Addr) (c n : Nat) (hn : xs.length = n) (hm : n ≤ 9223372036854775807) (w : World) (hr : Rd w.heap.size w a xs)
  (hof : ∀ i, i < n → ∀ (W : World), Below w.heap.size w W → Calls Tryz.prog fo (#[.int .i64 (xs[i]?.getD 0)] ++ lb) W fun e W' => e = .returned (.bool (p (xs[i]?.getD 0))) ∧ Below W.heap.size W W') :
  Calls Tryz.prog 117 #[.slice a n c, .func (.func fo) #[] lb] w fun e w' => (∃ k : Int, e = .returned (.int .i64 k) ∧ decide (0 ≤ k) = xs.any p) ∧ Below w.heap.size w w' := by
 have hnH := Lib.hid hn
 have hofH := Lib.hid hof
 clear hn hof
 go_enter Tryz.func117, Tryz.ntmps117
 go_wp2
 go_loopw [5, 8] (fun v i wr => ∃ k : Nat, k ≤ n ∧ i = .int .i64 k ∧ Hid ((xs.take k).any p = false) ∧ Below w.heap.size w wr) (fun _ i _ => n - (intOf i).toNat)
 case atStart => exact ⟨0, Nat.zero_le _, rfl, Lib.hid (by simp), Below.refl _ _⟩
 case round =>
  obtain ⟨k, hk, rfl, hall, hB⟩ := hrel
  by_cases hlt : k < n
  ·have hlt' : k < xs.length := by have := hnH.out; omega
   rcases hr with h0 | ⟨b, o, rfl, hb, hc⟩
   ·exfalso; rw [h0] at hlt'; simp at hlt'
   have c0 := (hB.cell (p := ⟨b, o + k, none⟩) hb).trans (hc k hlt')
   have hcall := hofH.out k hlt wr hB
   obtain ⟨y, hy⟩ : ∃ y, xs[k]?.getD 0 = y := ⟨_, rfl⟩
   have hpk : (xs.take (k + 1)).any p = ((xs.take k).any p || p (xs[k]?.getD 0)) := by
    rw [List.take_succ_eq_append_getElem hlt', List.any_append]; rw [List.getElem?_eq_getElem hlt']; simp
   have hhit : p (xs[k]?.getD 0) = true → xs.any p = true := fun h => by
    rw [List.getElem?_eq_getElem hlt'] at h
    exact List.any_eq_true.2 ⟨_, List.getElem_mem hlt', h⟩
   obtain ⟨pk, hpe⟩ : ∃ v, p (xs[k]?.getD 0) = v := ⟨_, rfl⟩
   rw [hpe] at hcall hpk hhit
   rw [hall.out, Bool.false_or] at hpk
   have hpkH := Lib.hid hpk
   have hhitH := Lib.hid hhit
   have hcallH := Lib.hid hcall
   clear hpe hpk hhit hcall
   rw [hy] at c0 hcallH
   clear hc hy
   cases pk with
   | true =>
    go_wp2_with (go_at_fn fo; refine hcallH.out.mono ?_; rintro e w2 ⟨rfl, hb2⟩)
    go_ret
    exact ⟨⟨_, rfl, by rw [hhitH.out trivial]; simp⟩, hB.trans (hb2.mono hB.size)⟩
   | false =>
    go_wp2_with (go_at_fn fo; refine hcallH.out.mono ?_; rintro e w2 ⟨rfl, hb2⟩)
    go_roundw
    case rel => exact ⟨k + 1, by omega, by go_num, Lib.hid hpkH.out, hB.trans (hb2.mono hB.size)⟩
    case measure => simp [intOf]; omega
  ·go_wp2
   go_ret
   have hall2 := hall.out
   rw [List.take_of_length_le (by have := hnH.out; omega)] at hall2
   exact ⟨⟨_, rfl, by rw [hall2]; rfl⟩, hB⟩
set_option maxRecDepth 100000 in
set_option maxHeartbeats 1000000 in
theorem ContainsL_any (p : Int → Bool) (fo : Nat) (lb : Array Value) (eg : ∀ args w, (callFunc fo args).run Tryz.prog w = .ok (.enter fo args) w) (xs : List Int) (a : Option Addr) (c n : Nat) (hn : xs.length = n) (hm : n ≤ 9223372036854775807) (w : World) (hr : Rd w.heap.size w a xs)
  (hof : ∀ i, i < n → ∀ (W : World), Below w.heap.size w W → Calls Tryz.prog fo (#[.int .i64 (xs[i]?.getD 0)] ++ lb) W fun e W' => e = .returned (.bool (p (xs[i]?.getD 0))) ∧ Below W.heap.size W W') :
  Calls Tryz.prog 72 #[.slice a n c, .func (.func fo) #[] lb] w fun e w' => e = .returned (.bool (xs.any p)) ∧ Below w.heap.size w w' := by
 have hc := IndexL_any p fo lb eg xs a c n hn hm w hr hof
 clear hof eg
 go_enter Tryz.func72, Tryz.ntmps72
 go_wp2_with (go_at_call 117; refine hc.mono ?_; rintro e w' ⟨⟨k, rfl, hk⟩, hb⟩)
 all_goals go_ret
 all_goals exact ⟨ret_bool (by rw [← hk]), hb⟩
set_option maxRecDepth 100000 in
set_option maxHeartbeats 4000000 in
theorem IndexC_any (p : InsN → Bool) (fo : Nat) (lb : Array Value) (eg : ∀ args w, (callFunc fo args).run Tryz.prog w = .ok (.enter fo args) w) (xs : List InsN) (a : Option Addr) (c n : Nat) (hn : xs.length = n) (hm : n ≤ 9223372036854775807) (w : World) (hr : RdCs w.heap.size w a xs)
  (hof : ∀ i, i < n → ∀ (W : World) (ia : Option Addr) (ic : Nat), Below w.heap.size w W → Rd W.heap.size W ia (insAt xs i).ad → Calls Tryz.prog fo (#[insv (insAt xs i) ia ic] ++ lb) W fun e W' => e = .returned (.bool (p (insAt xs i))) ∧ Below W.heap.size W W') :
  Calls Tryz.prog 124 #[.slice a n c, .func (.func fo) #[] lb] w fun e w' => (∃ k : Int, e = .returned (.int .i64 k) ∧ decide (0 ≤ k) = xs.any p) ∧ Below w.heap.size w w' := by
 have hnH := Lib.hid hn
 have hofH := Lib.hid hof
 clear hn hof
 go_enter Tryz.func124, Tryz.ntmps124
 go_wp2
 go_loopw [5, 8] (fun v i wr => ∃ k : Nat, k ≤ n ∧ i = .int .i64 k ∧ Hid ((xs.take k).any p = false) ∧ Below w.heap.size w wr) (fun _ i _ => n - (intOf i).toNat)
 case atStart => exact ⟨0, Nat.zero_le _, rfl, Lib.hid (by simp), Below.refl _ _⟩
 case round =>
  obtain ⟨k, hk, rfl, hall, hB⟩ := hrel
  by_cases hlt : k < n
  ·have hlt' : k < xs.length := by have := hnH.out; omega
   rcases hr with h0 | ⟨b, o, rfl, hb, hc⟩
   ·exfalso; rw [h0] at hlt'; simp at hlt'
   obtain ⟨ia, ic, hcell, had⟩ := hc k hlt'
   have c0 : wr.cell? ⟨b, o + k * 12, none⟩ = some (.int .u8 (insAt xs k).op) := (hB.cell (p := ⟨b, o + k * 12, none⟩) hb).trans (hcell 0 _ rfl)
   have c1 : wr.cell? ⟨b, o + k * 12 + 1, none⟩ = some (.int .i64 (insAt xs k).d) := (hB.cell (p := ⟨b, o + k * 12 + 1, none⟩) hb).trans (hcell 1 _ rfl)
   have c2 : wr.cell? ⟨b, o + k * 12 + 2, none⟩ = some (.int .i64 (insAt xs k).a) := (hB.cell (p := ⟨b, o + k * 12 + 2, none⟩) hb).trans (hcell 2 _ rfl)
   have c3 : wr.cell? ⟨b, o + k * 12 + 3, none⟩ = some (.int .i64 (insAt xs k).b) := (hB.cell (p := ⟨b, o + k * 12 + 3, none⟩) hb).trans (hcell 3 _ rfl)
   have c4 : wr.cell? ⟨b, o + k * 12 + 4, none⟩ = some (.int .i64 (insAt xs k).val) := (hB.cell (p := ⟨b, o + k * 12 + 4, none⟩) hb).trans (hcell 4 _ rfl)
   have c5 : wr.cell? ⟨b, o + k * 12 + 5, none⟩ = some (.int .i64 (insAt xs k).pt.mul) := (hB.cell (p := ⟨b, o + k * 12 + 5, none⟩) hb).trans (hcell 5 _ rfl)
   have c6 : wr.cell? ⟨b, o + k * 12 + 6, none⟩ = some (.int .i64 (insAt xs k).pt.add) := (hB.cell (p := ⟨b, o + k * 12 + 6, none⟩) hb).trans (hcell 6 _ rfl)
   have c7 : wr.cell? ⟨b, o + k * 12 + 7, none⟩ = some (.int .i64 (insAt xs k).pt.div) := (hB.cell (p := ⟨b, o + k * 12 + 7, none⟩) hb).trans (hcell 7 _ rfl)
   have c8 : wr.cell? ⟨b, o + k * 12 + 8, none⟩ = some (.int .i64 (insAt xs k).pt.lo) := (hB.cell (p := ⟨b, o + k * 12 + 8, none⟩) hb).trans (hcell 8 _ rfl)
   have c9 : wr.cell? ⟨b, o + k * 12 + 9, none⟩ = some (.int .i64 (insAt xs k).pt.hi) := (hB.cell (p := ⟨b, o + k * 12 + 9, none⟩) hb).trans (hcell 9 _ rfl)
   have c10 : wr.cell? ⟨b, o + k * 12 + 10, none⟩ = some (.int .u8 (insAt xs k).how) := (hB.cell (p := ⟨b, o + k * 12 + 10, none⟩) hb).trans (hcell 10 _ rfl)
   have c11 : wr.cell? ⟨b, o + k * 12 + 11, none⟩ = some (.slice ia (insAt xs k).ad.length ic) := (hB.cell (p := ⟨b, o + k * 12 + 11, none⟩) hb).trans (hcell 11 _ rfl)
   have hcall := hofH.out k hlt wr ia ic hB (later_i had hB)
   have hpk : (xs.take (k + 1)).any p = ((xs.take k).any p || p (insAt xs k)) := by
    rw [List.take_succ_eq_append_getElem hlt', List.any_append]; unfold insAt; rw [List.getElem?_eq_getElem hlt']; simp
   have hhit : p (insAt xs k) = true → xs.any p = true := fun h => by
    unfold insAt at h; rw [List.getElem?_eq_getElem hlt'] at h
    exact List.any_eq_true.2 ⟨_, List.getElem_mem hlt', h⟩
   obtain ⟨pk, hpe⟩ : ∃ v, p (insAt xs k) = v := ⟨_, rfl⟩
   rw [hpe] at hcall hpk hhit
   rw [hall.out, Bool.false_or] at hpk
   have hpkH := Lib.hid hpk
   have hhitH := Lib.hid hhit
   have hcallH := Lib.hid hcall
   clear hpe hpk hhit hcall
   obtain ⟨y, hy⟩ : ∃ y, insAt xs k = y := ⟨_, rfl⟩
   rw [hy] at c0 c1 c2 c3 c4 c5 c6 c7 c8 c9 c10 c11 hcallH
   clear hc hy hcell had
   cases pk with
   | true =>
    go_wp2_with (go_at_fn fo; refine hcallH.out.mono ?_; rintro e w2 ⟨rfl, hb2⟩)
    go_ret
    exact ⟨⟨_, rfl, by rw [hhitH.out trivial]; simp⟩, hB.trans (hb2.mono hB.size)⟩
   | false =>
    go_wp2_with (go_at_fn fo; refine hcallH.out.mono ?_; rintro e w2 ⟨rfl, hb2⟩)
    go_roundw
    case rel => exact ⟨k + 1, by omega, by go_num, Lib.hid hpkH.out, hB.trans (hb2.mono hB.size)⟩
    case measure => simp [intOf]; omega
  ·go_wp2
   go_ret
   have hall2 := hall.out
   rw [List.take_of_length_le (by have := hnH.out; omega)] at hall2
   exact ⟨⟨_, rfl, by rw [hall2]; rfl⟩, hB⟩
set_option maxRecDepth 100000 in
set_option maxHeartbeats 1000000 in
theorem ContainsC_any (p : InsN → Bool) (fo : Nat) (lb : Array Value) (eg : ∀ args w, (callFunc fo args).run Tryz.prog w = .ok (.enter fo args) w) (xs : List InsN) (a : Option Addr) (c n : Nat) (hn : xs.length = n) (hm : n ≤ 9223372036854775807) (w : World) (hr : RdCs w.heap.size w a xs)
  (hof : ∀ i, i < n → ∀ (W : World) (ia : Option Addr) (ic : Nat), Below w.heap.size w W → Rd W.heap.size W ia (insAt xs i).ad → Calls Tryz.prog fo (#[insv (insAt xs i) ia ic] ++ lb) W fun e W' => e = .returned (.bool (p (insAt xs i))) ∧ Below W.heap.size W W') :
  Calls Tryz.prog 74 #[.slice a n c, .func (.func fo) #[] lb] w fun e w' => e = .returned (.bool (xs.any p)) ∧ Below w.heap.size w w' := by
 have hc := IndexC_any p fo lb eg xs a c n hn hm w hr hof
 clear hof eg
 go_enter Tryz.func74, Tryz.ntmps74
 go_wp2_with (go_at_call 124; refine hc.mono ?_; rintro e w' ⟨⟨k, rfl, hk⟩, hb⟩)
 all_goals go_ret
 all_goals exact ⟨ret_bool (by rw [← hk]), hb⟩
/-- An address that is neither -1 nor in the range. -/
def oddP (last x : Int) : Bool := !decide (x = -1) && !inR x 0 last
set_option maxRecDepth 100000 in
set_option maxHeartbeats 2000000 in
theorem odd_any (last x : Int) (bl : Nat) (w : World) (kl : Blk w bl 3 #[.int .i64 last]) :
  Calls Tryz.prog 71 #[.int .i64 x, .pointer (some ⟨bl, 0, none⟩)] w fun e w' => e = .returned (.bool (oddP last x)) ∧ w' = w := by
 have l0 := kl.cell (i := 0) rfl
 unfold oddP
 obtain ⟨q, hq⟩ : ∃ q, inR x 0 last = q := ⟨_, rfl⟩
 have hqH := Lib.hid hq
 rw [hq]
 clear hq kl
 by_cases hx : x = -1
 ·subst hx
  go_enter Tryz.func71, Tryz.ntmps71
  go_wp2_with fail
  go_ret
  exact ⟨ret_bool (by simp), rfl⟩
 ·have hx2 : (x != -1) = true := by simp [hx]
  have hxH := Lib.hid hx
  clear hx
  go_enter Tryz.func71, Tryz.ntmps71
  go_wp2_with (go_at_call 70; refine (pwithin2 x 0 last q hqH.out _).mono ?_; rintro e w' ⟨rfl, hw⟩; rw [hw]; clear hw w')
  go_ret
  exact ⟨ret_bool (by simp [hxH.out]), rfl⟩
theorem enters_odd : ∀ args w, (callFunc 71 args).run Tryz.prog w = .ok (.enter 71 args) w := enters_of Tryz.func71 (by kernel_rfl) rfl
theorem wpList_callAny {P : Program} {ops : Array Oper} {rest : List Oper} {o : Oper} {a : Act} {w : World} {Q : Exit → Act → World → Prop} (hg : o.guard = none) (d : Option Tmp) (hd : o.dst = d)
  (f : FuncId) (args : Array Value) (hrun : (execOp a.eval o).run P w = .ok (.enter f args) w) (R : Ending → World → Prop) (hc : Calls P f args w R)
  (h : ∀ e w', R e w' → ∃ v, e = .returned v ∧ wpList P ops Q rest (a.put d v) w') : wpList P ops Q (o :: rest) a w := by
 subst hd
 refine wpList_plain hg fun K hK => ?_
 unfold Oper.wp
 rw [hrun, Oper.upon_enter]
 refine hc.mono fun e w2 hh => ?_
 obtain ⟨v, rfl, h2⟩ := h e w2 hh
 exact hK _ _ h2
theorem blk_range {W : World} {b : Nat} {e : TypeId} {T : Array Value} (k : Blk W b e T) : W.rangeAt b 0 T.toList := fun j v hv => by
 rw [Nat.zero_add]
 exact k.cell (by rw [← Array.getElem?_toList]; exact hv)
abbrev VecIn (v : VecN) : Prop := 1 ≤ v.lanes ∧ v.lanes ≤ 16 ∧ 2 ≤ v.regs ∧ v.regs ≤ 16 ∧ 1 ≤ v.mem ∧ v.mem ≤ 8192
abbrev TabIn (T : Array Value) : Prop := ∀ k, k < 7 → T[k * 6]? = some (.bool (needAt k).d) ∧ T[k * 6 + 1]? = some (.bool (needAt k).a) ∧ T[k * 6 + 2]? = some (.bool (needAt k).b) ∧ T[k * 6 + 3]? = some (.bool (needAt k).ad) ∧ T[k * 6 + 4]? = some (.int .i64 (needAt k).val) ∧ T[k * 6 + 5]? = some (needAt k).fn
set_option maxRecDepth 100000 in
set_option maxHeartbeats 4000000 in
theorem bad_any (v : VecN) (hv : VecIn v) (x : InsN) (hx : InsIn x) (ia : Option Addr) (ic bv bT : Nat) (T : Array Value) (hTs : T.size = 42) (hT : TabIn T) (w : World) (kv : Blk w bv 26 #[.int .i64 v.lanes, .int .i64 v.regs, .int .i64 v.mem]) (kT : Blk w bT 139 T) (hra : Rd w.heap.size w ia x.ad) :
  Calls Tryz.prog 75 #[insv x ia ic, .pointer (some ⟨bv, 0, none⟩), .pointer (some ⟨bT, 0, none⟩)] w fun e w' => e = .returned (.bool (!insB v x)) ∧ Below w.heap.size w w' := by
 have hB : Below w.heap.size w w := Below.refl _ _
 unfold insv
 have hxH := Lib.hid hx
 clear hx
 obtain ⟨V1, hEV1, hbV1, kx⟩ := newB w 143 #[.int .u8 x.op, .int .i64 x.d, .int .i64 x.a, .int .i64 x.b, .int .i64 x.val, .int .i64 x.pt.mul, .int .i64 x.pt.add, .int .i64 x.pt.div, .int .i64 x.pt.lo, .int .i64 x.pt.hi, .int .u8 x.how, .slice ia x.ad.length ic]
 replace kv := kv.below hbV1 kv.lt
 replace kT := kT.below hbV1 kT.lt
 replace hra := later_i hra hbV1
 replace hB := tmB hB hbV1
 clear hbV1
 obtain ⟨v0, v1, v2⟩ := cz3 kv
 obtain ⟨x0, x1, x2, x3, x4, x5, x6, x7, x8, x9, x10, x11⟩ := cz12 kx
 have hr0 := blk_range kv
 have hr1 := blk_range kx
 have hr2 := blk_range kT
 have hTs2 : (Tryz.prog.info? 139).map (·.size) = some T.toList.length := by rw [Array.length_toList, hTs]; kernel_rfl
 have hTT : T.toList.toArray = T := by simp
 go_enter Tryz.func75, Tryz.ntmps75
 go_upto_region 1 with fail
 refine wp_region_lit ?_
 refine wpList_load_mid rfl 26 _ rfl bv 0 rfl _ _ hr0 Tryz.underlying26 rfl (by kernel_rfl) ?_
 refine wpList_load_mid rfl 143 _ rfl w.heap.size 0 rfl _ _ hr1 Tryz.underlying143 rfl (by kernel_rfl) ?_
 refine wpList_load_mid rfl 139 _ rfl bT 0 rfl _ _ hr2 Tryz.underlying139 rfl hTs2 ?_
 rw [hTT]
 clear hr0 hr1 hr2 hTs2 hTT
 go_wp2_with (go_at_call 76; refine (instr_any v hv x hxH.out ia ic T hTs hT V1 hra).mono ?_; rintro e V9 ⟨rfl, hb⟩)
 replace hB := tmB hB hb
 clear hb
 go_ret
 exact ⟨rfl, hB⟩
theorem enters_bad : ∀ args w, (callFunc 75 args).run Tryz.prog w = .ok (.enter 75 args) w := enters_of Tryz.func75 (by kernel_rfl) rfl
abbrev vecv (v : VecN) : Value := .agg #[.int .i64 v.lanes, .int .i64 v.regs, .int .i64 v.mem]
abbrev codev (C : CodeN) (ia : Option Addr) (ic : Nat) (xa : Option Addr) (xc : Nat) : Value := .agg #[.int .i64 C.w, .int .i64 C.h, .slice ia C.inp.length ic, .int .i64 C.out, .slice xa C.ins.length xc]
/-- What a code's numbers are, as they came in. -/
structure CodeIn (C : CodeN) : Prop where
 il : C.inp.length ≤ 9223372036854775807
 xl : C.ins.length ≤ 9223372036854775807
 ins : ∀ i, i < C.ins.length → InsIn (insAt C.ins i)
theorem odd_is (m : Int) (l : List Int) : (l.any (oddP m)) = !l.all (fun x => decide (x = -1) || inR x 0 m) := by
 induction l with
 | nil => rfl
 | cons a l ih => simp only [List.any_cons, List.all_cons, ih]; unfold oddP; cases decide (a = -1) <;> cases inR a 0 m <;> simp
theorem bad_is (v : VecN) (l : List InsN) : (l.any fun x => !insB v x) = !l.all (insB v) := by
 induction l with
 | nil => rfl
 | cons a l ih => simp only [List.any_cons, List.all_cons, ih]; cases insB v a <;> simp
theorem codeB_is (v : VecN) (C : CodeN) : codeB v C = ((inR C.w 1 16 && inR C.h 1 16) && (decide (C.inp.length ≤ 3) && (decide (C.ins.length ≤ 200000) && (inR C.out 0 (v.mem - C.w * C.h) && (!C.inp.any (oddP (v.mem - C.w * C.h)) && !C.ins.any (fun x => !insB v x)))))) := by
 unfold codeB; rw [odd_is, bad_is]; simp
set_option maxRecDepth 100000 in
set_option maxHeartbeats 8000000 in
theorem CheckCode_any (v : VecN) (C : CodeN) (ia xa : Option Addr) (ic xc : Nat) (hC : CodeIn C) (w : World) (hri : Rd w.heap.size w ia C.inp) (hrx : RdCs w.heap.size w xa C.ins) :
  Calls Tryz.prog 28 #[vecv v, codev C ia ic xa xc] w fun e w' => e = .returned (.int .i64 (chkS v C)) ∧ Below w.heap.size w w' := by
 have hB : Below w.heap.size w w := Below.refl _ _
 obtain ⟨il0, xl0, hins⟩ := hC
 obtain ⟨R, hR⟩ : ∃ R, chkS v C = R := ⟨_, rfl⟩
 rw [hR]
 have hRH := Lib.hid hR
 have hcb := codeB_is v C
 obtain ⟨W, H, inp, out, ins⟩ := C
 unfold vecv codev
 simp only at il0 xl0 hri hrx hins hcb ⊢
 obtain ⟨ni, hni⟩ : ∃ l, inp.length = l := ⟨_, rfl⟩
 obtain ⟨nx, hnx⟩ : ∃ l, ins.length = l := ⟨_, rfl⟩
 have hniH := Lib.hid hni
 have hnxH := Lib.hid hnx
 have hinsH := Lib.hid hins
 rw [hni] at il0 hcb ⊢
 rw [hnx] at xl0 hcb ⊢
 have hcbH := Lib.hid hcb
 clear hR hcb hni hnx hins
 obtain ⟨vb, hvb⟩ : ∃ b, vecB v = b := ⟨_, rfl⟩
 have hvbH := Lib.hid hvb
 clear hvb
 obtain ⟨V1, hEV1, hbV1, kv⟩ := newB w 26 #[.int .i64 v.lanes, .int .i64 v.regs, .int .i64 v.mem]
 replace hri := later_i hri hbV1
 replace hrx := hrx.later hbV1
 replace hB := tmB hB hbV1
 clear hbV1
 obtain ⟨v0, v1, v2⟩ := cz3 kv
 obtain ⟨V2, hEV2, hbV2, kc⟩ := newB V1 43 #[.int .i64 W, .int .i64 H, .slice ia ni ic, .int .i64 out, .slice xa nx xc]
 clear v0 v1 v2
 replace kv := kv.below hbV2 kv.lt
 replace hri := later_i hri hbV2
 replace hrx := hrx.later hbV2
 replace hB := tmB hB hbV2
 clear hbV2
 obtain ⟨v0, v1, v2⟩ := cz3 kv
 obtain ⟨c0, c1, c2, c3, c4⟩ := cz5 kc
 go_enter Tryz.func28, Tryz.ntmps28
 go_wp2_with fail
 clear hEV1 hEV2
 refine (vector_any v vb hvbH.out V2).mono ?_
 rintro e V3 ⟨rfl, hb⟩
 clear v0 v1 v2 c0 c1 c2 c3 c4
 replace kv := kv.below hb kv.lt
 replace kc := kc.below hb kc.lt
 replace hri := later_i hri hb
 replace hrx := hrx.later hb
 replace hB := tmB hB hb
 clear hb
 obtain ⟨v0, v1, v2⟩ := cz3 kv
 obtain ⟨c0, c1, c2, c3, c4⟩ := cz5 kc
 cases vb with
 | false =>
  have hR2 : R = 31 := by rw [← hRH.out]; unfold chkS; rw [hvbH.out]; rfl
  subst hR2
  go_wp2_with fail
  go_ret
  exact ⟨rfl, hB⟩
 | true =>
 have hvv : VecIn v := by
  have := hvbH.out
  unfold vecB at this
  simp only [Bool.and_eq_true, inR_true] at this
  omega
 have hvvH := Lib.hid hvv
 obtain ⟨q1, q2, q3, q4, q5, q6⟩ := hvv
 have tok1 : True := trivial
 have tok2 : True := trivial
 have tok3 : True := trivial
 have tok4 : True := trivial
 cases a1 : inR W 1 16 with
 | false =>
  have hR2 : R = 32 := by rw [← hRH.out]; unfold chkS; rw [hvbH.out, hcbH.out, a1]; simp
  subst hR2
  have a1H := Lib.hid a1
  clear a1
  go_wp2_with (go_at_call 70; have _t := tok1; refine (pwithin2 W 1 16 false a1H.out _).mono ?_; clear _t tok1; rintro e w' ⟨rfl, hw⟩; rw [hw]; clear hw w')
  go_ret
  exact ⟨rfl, hB⟩
 | true =>
 have a1H := Lib.hid a1
 have a1b := inR_true.1 a1
 clear a1
 cases a2 : inR H 1 16 with
 | false =>
  have hR2 : R = 32 := by rw [← hRH.out]; unfold chkS; rw [hvbH.out, hcbH.out, a2]; simp
  subst hR2
  have a2H := Lib.hid a2
  clear a2
  go_wp2_with (first
   | (go_at_call 70; have _t := tok1; refine (pwithin2 W 1 16 true a1H.out _).mono ?_; clear _t tok1; rintro e w' ⟨rfl, hw⟩; rw [hw]; clear hw w')
   | (go_at_call 70; have _t := tok2; refine (pwithin2 H 1 16 false a2H.out _).mono ?_; clear _t tok2; rintro e w' ⟨rfl, hw⟩; rw [hw]; clear hw w'))
  go_ret
  exact ⟨rfl, hB⟩
 | true =>
 have a2H := Lib.hid a2
 have a2b := inR_true.1 a2
 clear a2
 by_cases a3 : ni ≤ 3
 case neg =>
  have hR2 : R = 32 := by rw [← hRH.out]; unfold chkS; rw [hvbH.out, hcbH.out, show decide (ni ≤ 3) = false by simp; omega]; simp
  subst hR2
  have a3d : decide (3 < (ni : Int)) = true := by simp; omega
  go_wp2_with (first
   | (go_at_call 70; have _t := tok1; refine (pwithin2 W 1 16 true a1H.out _).mono ?_; clear _t tok1; rintro e w' ⟨rfl, hw⟩; rw [hw]; clear hw w')
   | (go_at_call 70; have _t := tok2; refine (pwithin2 H 1 16 true a2H.out _).mono ?_; clear _t tok2; rintro e w' ⟨rfl, hw⟩; rw [hw]; clear hw w'))
  all_goals (go_ret; exact ⟨rfl, hB⟩)
 case pos =>
 have a3d : decide (3 < (ni : Int)) = false := by simp; omega
 by_cases a4 : nx ≤ 200000
 case neg =>
  have hR2 : R = 32 := by rw [← hRH.out]; unfold chkS; rw [hvbH.out, hcbH.out, show decide (nx ≤ 200000) = false by simp; omega]; simp
  subst hR2
  have a4d : decide (200000 < (nx : Int)) = true := by simp; omega
  go_wp2_with (first
   | (go_at_call 70; have _t := tok1; refine (pwithin2 W 1 16 true a1H.out _).mono ?_; clear _t tok1; rintro e w' ⟨rfl, hw⟩; rw [hw]; clear hw w')
   | (go_at_call 70; have _t := tok2; refine (pwithin2 H 1 16 true a2H.out _).mono ?_; clear _t tok2; rintro e w' ⟨rfl, hw⟩; rw [hw]; clear hw w'))
  all_goals (go_ret; exact ⟨rfl, hB⟩)
 case pos =>
 have a4d : decide (200000 < (nx : Int)) = false := by simp; omega
 have hmb := prod_bd (a := W) (x := H) (m := 16) (n := 16) (by omega) (by omega) (by omega) (by omega) (by omega)
 have hWH := Lib.hid (show ∃ p, W * H = p from ⟨_, rfl⟩)
 obtain ⟨p, hp⟩ := hWH.out
 rw [hp] at hmb
 simp only [Int.reduceMul] at hmb
 obtain ⟨last, hlast⟩ : ∃ l, v.mem - p = l := ⟨_, rfl⟩
 have hcb2 := hcbH.out
 rw [hp, hlast] at hcb2
 have hcb2H := Lib.hid hcb2
 clear hcb2 hWH
 have kl := Blk.new V3 3 #[.int .i64 0]
 obtain ⟨bl, hbl⟩ : ∃ b, V3.heap.size = b := ⟨_, rfl⟩
 obtain ⟨VA, hVA⟩ : ∃ X, V3.alloc (.cells #[.int .i64 0] 3) = X := ⟨_, rfl⟩
 have hbA : Below V3.heap.size V3 VA := alloc_below hVA
 rw [hVA, hbl] at kl
 have z0 := kl.cell (i := 0) rfl
 have fz0 := kl.frozen 0
 have kl2 : Blk (VA.setCell ⟨bl, 0, none⟩ (.int .i64 last)) bl 3 #[.int .i64 last] := kl.set 0 (.int .i64 last)
 have hb : Below V3.heap.size V3 (VA.setCell ⟨bl, 0, none⟩ (.int .i64 last)) := hbA.setCell (show V3.heap.size ≤ bl by omega) _
 obtain ⟨VL, hVL⟩ : ∃ X, VA.setCell ⟨bl, 0, none⟩ (.int .i64 last) = X := ⟨_, rfl⟩
 rw [hVL] at kl2 hb
 have vv0 := v0
 have vv1 := v1
 have vv2 := v2
 have cc0 := c0
 have cc1 := c1
 have cc2 := c2
 have cc3 := c3
 have cc4 := c4
 clear v0 v1 v2 c0 c1 c2 c3 c4
 replace kv := kv.below hb kv.lt
 replace kc := kc.below hb kc.lt
 replace hri := later_i hri hb
 replace hrx := hrx.later hb
 replace hB := tmB hB hb
 clear hb hbA kl
 have kl := kl2
 clear kl2
 obtain ⟨v0, v1, v2⟩ := cz3 kv
 obtain ⟨c0, c1, c2, c3, c4⟩ := cz5 kc
 have l0 := kl.cell (i := 0) rfl
 cases b1 : inR out 0 last with
 | false =>
  have hR2 : R = 32 := by rw [← hRH.out]; unfold chkS; rw [hvbH.out, hcb2H.out, b1]; simp
  subst hR2
  have b1H := Lib.hid b1
  clear b1
  go_wp2_with (first
   | (go_at_call 70; have _t := tok1; refine (pwithin2 W 1 16 true a1H.out _).mono ?_; clear _t tok1; rintro e w' ⟨rfl, hw⟩; rw [hw]; clear hw w')
   | (go_at_call 70; have _t := tok2; refine (pwithin2 H 1 16 true a2H.out _).mono ?_; clear _t tok2; rintro e w' ⟨rfl, hw⟩; rw [hw]; clear hw w')
   | (go_at_call 70; have _t := tok3; refine (pwithin2 out 0 last false b1H.out _).mono ?_; clear _t tok3; rintro e w' ⟨rfl, hw⟩; rw [hw]; clear hw w'))
  all_goals (go_ret; exact ⟨rfl, hB⟩)
 | true =>
 have b1H := Lib.hid b1
 clear b1
 have hcon := ContainsL_any (oddP last) 71 #[.pointer (some ⟨bl, 0, none⟩)] enters_odd inp ia ic ni hniH.out il0 VL hri (fun i hi X hb => (odd_any last _ bl X (kl.below hb kl.lt)).mono fun e W' h => ⟨h.1, h.2 ▸ Below.refl _ _⟩)
 have hconH := Lib.hid hcon
 clear hcon
 obtain ⟨o1, ho1⟩ : ∃ b, inp.any (oddP last) = b := ⟨_, rfl⟩
 have ho1H := Lib.hid ho1
 clear ho1
 go_wp2_with (first
  | (go_at_call 70; have _t := tok1; refine (pwithin2 W 1 16 true a1H.out _).mono ?_; clear _t tok1; rintro e w' ⟨rfl, hw⟩; rw [hw]; clear hw w')
  | (go_at_call 70; have _t := tok2; refine (pwithin2 H 1 16 true a2H.out _).mono ?_; clear _t tok2; rintro e w' ⟨rfl, hw⟩; rw [hw]; clear hw w')
  | (go_at_call 70; have _t := tok3; refine (pwithin2 out 0 last true b1H.out _).mono ?_; clear _t tok3; rintro e w' ⟨rfl, hw⟩; rw [hw]; clear hw w'))
 clear hbl hVA z0 fz0 hVL
 clear vv0 vv1 vv2 cc0 cc1 cc2 cc3 cc4
 have hc := hconH.out
 rw [ho1H.out] at hc
 refine hc.mono ?_
 clear hc
 rintro e X1 ⟨rfl, hb⟩
 clear v0 v1 v2 c0 c1 c2 c3 c4 l0
 replace kv := kv.below hb kv.lt
 replace kc := kc.below hb kc.lt
 replace kl := kl.below hb kl.lt
 replace hri := later_i hri hb
 replace hrx := hrx.later hb
 replace hB := tmB hB hb
 clear hb
 obtain ⟨v0, v1, v2⟩ := cz3 kv
 obtain ⟨c0, c1, c2, c3, c4⟩ := cz5 kc
 have l0 := kl.cell (i := 0) rfl
 cases o1 with
 | true =>
  have hR2 : R = 32 := by rw [← hRH.out]; unfold chkS; rw [hvbH.out, hcb2H.out, ho1H.out]; simp
  subst hR2
  go_wp2_with fail
  go_ret
  exact ⟨rfl, hB⟩
 | false =>
 go_upto_region 9 with fail
 refine wp_region_lit ?_
 refine wpList_callAny rfl _ rfl 73 #[] (by kernel_rfl) _ (table_any X1) ?_
 rintro e X0 ⟨rfl, hb⟩
 refine ⟨_, rfl, ?_⟩
 refine Go.Great.wpList_allocTo rfl _ rfl (.pointer (some ⟨X0.heap.size, 0, none⟩)) (.cells zerC 139) (by kernel_rfl) ?_
 refine wpList_store_row rfl 139 _ _ rfl X0.heap.size tabC rfl (by kernel_rfl) 139 zerC (heap_alloc_last X0 _) (by kernel_rfl) rfl tabC_one ?_
 rw [World.setRow_alloc_new]
 refine wpList_nil ?_
 have kT := Blk.new X0 139 tabC
 replace hb : Below X1.heap.size X1 (X0.alloc (.cells tabC 139)) := jb_al hb _
 have hTs : tabC.size = 42 := rfl
 obtain ⟨V4, hVV4⟩ : ∃ X, X0.alloc (.cells tabC 139) = X := ⟨_, rfl⟩
 obtain ⟨bT, hbT⟩ : ∃ b, X0.heap.size = b := ⟨_, rfl⟩
 rw [hVV4] at hb kT ⊢
 rw [hbT] at kT
 rw [hbT]
 rename_i Q' K hK
 refine hK _ _ ?_
 clear v0 v1 v2 c0 c1 c2 c3 c4 l0
 replace kv := kv.below hb kv.lt
 replace kc := kc.below hb kc.lt
 replace kl := kl.below hb kl.lt
 replace hri := later_i hri hb
 replace hrx := hrx.later hb
 replace hB := tmB hB hb
 clear hb hbT hVV4
 obtain ⟨v0, v1, v2⟩ := cz3 kv
 obtain ⟨c0, c1, c2, c3, c4⟩ := cz5 kc
 have l0 := kl.cell (i := 0) rfl
 obtain ⟨o2, ho2⟩ : ∃ b, (ins.any fun x => !insB v x) = b := ⟨_, rfl⟩
 have hcon := ContainsC_any (fun x => !insB v x) 75 #[.pointer (some ⟨w.heap.size, 0, none⟩), .pointer (some ⟨bT, 0, none⟩)] enters_bad ins xa xc nx hnxH.out xl0 V4 hrx (fun i hi X ia2 ic2 hb2 hr2 => bad_any v hvvH.out (insAt ins i) (hinsH.out i (by have := hnxH.out; omega)) ia2 ic2 w.heap.size bT tabC hTs (fun k hk => tab_at hk) X (kv.below hb2 kv.lt) (kT.below hb2 kT.lt) hr2)
 rw [ho2] at hcon
 have hconH := Lib.hid hcon
 have ho2H := Lib.hid ho2
 clear hcon ho2
 cases o2 with
 | true =>
  have hR2 : R = 32 := by rw [← hRH.out]; unfold chkS; rw [hvbH.out, hcb2H.out, ho1H.out, ho2H.out]; simp
  subst hR2
  go_wp2_with (go_at_call 74; refine hconH.out.mono ?_; rintro e X3 ⟨rfl, hb⟩)
  replace hB := tmB hB hb
  clear hb
  go_ret
  exact ⟨rfl, hB⟩
 | false =>
  have hR2 : R = 0 := by rw [← hRH.out]; unfold chkS; rw [hvbH.out, hcb2H.out, ho1H.out, ho2H.out]; simp [a1H.out, a2H.out, a3, a4, b1H.out]
  subst hR2
  go_wp2_with (go_at_call 74; refine hconH.out.mono ?_; rintro e X3 ⟨rfl, hb⟩)
  replace hB := tmB hB hb
  clear hb
  go_ret
  exact ⟨rfl, hB⟩
end Go.Proofs.YtekiemlniegddaaGreat
namespace Go.Proofs.YtekiemlniegddaaGreat
open Go Go.ChangeShapes Go.WideShapes Go.ChangeAt Go.RowKit Go.Joins Go.Deep
set_option maxRecDepth 100000
section
variable {H : Type} {enc : TypeId × Value → H}
theorem open_vec {W : World} {base : Nat} {v : Value} {d : DataW H} {p : List MemPlace} (hv : Value.okWide Tryz.prog W .any base 26 v) (h : DataW.Trod enc Tryz.prog W 0 (fun _ => true) true 26 v d p) :
  ∃ V : VecN, v = vecv V ∧ (Lit.int .i64 V.lanes).wf = true := by
 obtain ⟨cs, rfl, hsz⟩ := okWide_struct Tryz.underlying26 hv
 obtain ⟨l⟩ := cs
 have hsz4 : l.length = 3 := hsz.trans (show Tryz.prog.cellsOf 26 = 3 from by kernel_rfl)
 match l, hsz4 with
 | [c0, c1, c2], _ =>
  obtain ⟨fuel, hf⟩ := h
  obtain ⟨xs, n, _, _, _, hlen, hg⟩ := DataW.trod_struct Tryz.underlying26 hf
  have hlen3 : xs.length = 3 := hlen
  obtain ⟨y0, e0⟩ := some_ofP (l := xs) (i := 0) (by omega)
  have g0 : DataW.trod enc Tryz.prog W 0 (fun _ => true) true n 3 ((([c0, c1, c2] : List Value).drop 0).take (Tryz.prog.cellsOf 3)) = xs[0]? := hg 0 _ rfl
  rw [e0, show Tryz.prog.cellsOf 3 = 1 from by kernel_rfl] at g0
  obtain ⟨y1, e1⟩ := some_ofP (l := xs) (i := 1) (by omega)
  have g1 : DataW.trod enc Tryz.prog W 0 (fun _ => true) true n 3 ((([c0, c1, c2] : List Value).drop 1).take (Tryz.prog.cellsOf 3)) = xs[1]? := hg 1 _ rfl
  rw [e1, show Tryz.prog.cellsOf 3 = 1 from by kernel_rfl] at g1
  obtain ⟨y2, e2⟩ := some_ofP (l := xs) (i := 2) (by omega)
  have g2 : DataW.trod enc Tryz.prog W 0 (fun _ => true) true n 3 ((([c0, c1, c2] : List Value).drop 2).take (Tryz.prog.cellsOf 3)) = xs[2]? := hg 2 _ rfl
  rw [e2, show Tryz.prog.cellsOf 3 = 1 from by kernel_rfl] at g2
  obtain ⟨x0, rfl, w0⟩ := field_int g0
  obtain ⟨x1, rfl, w1⟩ := field_int g1
  obtain ⟨x2, rfl, w2⟩ := field_int g2
  exact ⟨⟨x0, x1, x2⟩, rfl, w0⟩
end
end Go.Proofs.YtekiemlniegddaaGreat
namespace Go.Proofs.YtekiemlniegddaaGreat
open Go Go.RowKit Go.Shelf
/-- The cells of n records of S cells each. -/
def flat (S : Nat) (f : Nat → Nat → Value) (n : Nat) : List Value := (List.range (n * S)).map fun j => f (j / S) (j % S)
theorem flat_len (S : Nat) (f : Nat → Nat → Value) (n : Nat) : (flat S f n).length = n * S := by simp [flat]
theorem div_mod_at {S i j : Nat} (hj : j < S) : (i * S + j) / S = i ∧ (i * S + j) % S = j := by
 have hS : 0 < S := by omega
 constructor
 ·rw [Nat.mul_comm, Nat.mul_add_div hS, Nat.div_eq_of_lt hj, Nat.add_zero]
 ·rw [Nat.mul_comm, Nat.mul_add_mod, Nat.mod_eq_of_lt hj]
theorem at_lt {S n i j : Nat} (hi : i < n) (hj : j < S) : i * S + j < n * S := by
 have : (i + 1) * S ≤ n * S := Nat.mul_le_mul_right S hi
 rw [Nat.succ_mul] at this; omega
theorem flat_at {S n i j : Nat} (f : Nat → Nat → Value) (hi : i < n) (hj : j < S) : (flat S f n)[i * S + j]? = some (f i j) := by
 unfold flat
 rw [List.getElem?_map, List.getElem?_range (at_lt hi hj)]
 simp only [Option.map_some]
 rw [(div_mod_at hj).1, (div_mod_at hj).2]
theorem flat_congr {S n : Nat} {f g : Nat → Nat → Value} (h : ∀ i, i < n → ∀ j, j < S → f i j = g i j) : flat S f n = flat S g n := by
 unfold flat
 refine List.map_congr_left fun t ht => ?_
 have ht := List.mem_range.1 ht
 by_cases hS : S = 0
 ·subst hS; omega
 ·exact h _ (Nat.div_lt_of_lt_mul (by rw [Nat.mul_comm]; exact ht)) _ (Nat.mod_lt _ (by omega))
theorem flat_set {S n i j : Nat} (f : Nat → Nat → Value) (hj : j < S) (v : Value) : (flat S f n).set (i * S + j) v = flat S (fun a b => if a = i ∧ b = j then v else f a b) n := by
 refine List.ext_getElem? fun t => ?_
 rw [List.getElem?_set]
 by_cases ht : t < n * S
 ·have e : (flat S f n)[t]? = some (f (t / S) (t % S)) := by unfold flat; rw [List.getElem?_map, List.getElem?_range ht]; rfl
  have e2 : (flat S (fun a b => if a = i ∧ b = j then v else f a b) n)[t]? = some (if t / S = i ∧ t % S = j then v else f (t / S) (t % S)) := by unfold flat; rw [List.getElem?_map, List.getElem?_range ht]; rfl
  rw [e, e2]
  by_cases h : i * S + j = t
  ·subst h
   rw [if_pos rfl, if_pos (by rw [flat_len]; exact ht), if_pos (div_mod_at hj)]
  ·rw [if_neg h, if_neg]
   rintro ⟨rfl, rfl⟩
   exact h (by rw [Nat.mul_comm]; exact Nat.div_add_mod t S)
 ·rw [List.getElem?_eq_none (show (flat S (fun a b => if a = i ∧ b = j then v else f a b) n).length ≤ t by rw [flat_len]; omega)]
  by_cases h : i * S + j = t
  ·rw [if_pos h, if_neg (by rw [flat_len]; omega)]
  ·rw [if_neg h, List.getElem?_eq_none (by rw [flat_len]; omega)]
theorem flat_snoc {S n : Nat} (f : Nat → Nat → Value) (l : List Value) (hl : l.length = S) (h : ∀ j, j < S → l[j]? = some (f n j)) : flat S f n ++ l = flat S f (n + 1) := by
 refine List.ext_getElem? fun t => ?_
 by_cases ht : t < n * S
 ·rw [List.getElem?_append_left (by rw [flat_len]; exact ht)]
  have e1 : t < (n + 1) * S := by rw [Nat.succ_mul]; omega
  unfold flat
  rw [List.getElem?_map, List.getElem?_map, List.getElem?_range ht, List.getElem?_range e1]
 ·rw [List.getElem?_append_right (by rw [flat_len]; omega), flat_len]
  by_cases h2 : t - n * S < S
  ·rw [h _ h2]
   have := flat_at f (show n < n + 1 by omega) h2
   rw [show n * S + (t - n * S) = t by omega] at this
   exact this.symm
  ·rw [List.getElem?_eq_none (by omega), List.getElem?_eq_none (by rw [flat_len, Nat.succ_mul]; omega)]
theorem flat_zero (S : Nat) (f : Nat → Nat → Value) : flat S f 0 = [] := by unfold flat; rw [Nat.zero_mul]; rfl
/-! ### What has turned lies in a set of blocks, or is new -/
/-- Outside of the set the world lies as it lay. -/
structure Trn (S : Nat → Prop) (W W' : World) : Prop where
 os : W'.os = W.os
 tape : W'.tape = W.tape
 output : W'.output = W.output
 size : W.heap.size ≤ W'.heap.size
 block : ∀ k, k < W.heap.size → ¬ S k → W'.heap[k]? = W.heap[k]?
theorem Trn.refl (S : Nat → Prop) (W : World) : Trn S W W := ⟨rfl, rfl, rfl, Nat.le_refl _, fun _ _ _ => rfl⟩
theorem Trn.trans {S : Nat → Prop} {A B C : World} (h : Trn S A B) (k : Trn S B C) : Trn S A C :=
 ⟨k.os.trans h.os, k.tape.trans h.tape, k.output.trans h.output, Nat.le_trans h.size k.size, fun i hi hs => (k.block i (Nat.lt_of_lt_of_le hi h.size) hs).trans (h.block i hi hs)⟩
theorem Trn.mono {S T : Nat → Prop} {A B : World} (h : Trn S A B) (hST : ∀ b, b < A.heap.size → S b → T b) : Trn T A B := ⟨h.os, h.tape, h.output, h.size, fun k hk hT => h.block k hk (fun hs => hT (hST k hk hs))⟩
/-- A set that grows by new blocks alone. -/
theorem Trn.step {S T : Nat → Prop} {A B C : World} (h : Trn S A B) (k : Trn T B C) (hT : ∀ b, T b → S b ∨ A.heap.size ≤ b) : Trn S A C :=
 ⟨k.os.trans h.os, k.tape.trans h.tape, k.output.trans h.output, Nat.le_trans h.size k.size, fun i hi hs => (k.block i (Nat.lt_of_lt_of_le hi h.size) (fun ht => by rcases hT i ht with h1 | h1; exact hs h1; omega)).trans (h.block i hi hs)⟩
theorem Below.trn {n : Nat} {W W' : World} (h : Below n W W') (S : Nat → Prop) (hS : ∀ b, n ≤ b → b < W.heap.size → S b) : Trn S W W' := ⟨h.os, h.tape, h.output, h.size, fun k hk hs => h.block k (by rcases Nat.lt_or_ge k n with h1 | h1; exact h1; exact absurd (hS k h1 hk) hs)⟩
theorem Below.trn0 {W W' : World} (h : Below W.heap.size W W') (S : Nat → Prop) : Trn S W W' := Below.trn h S (fun b h1 h2 => by omega)
theorem Trn.below {S : Nat → Prop} {n : Nat} {W W' : World} (h : Trn S W W') (hn : n ≤ W.heap.size) (hS : ∀ b, b < n → ¬ S b) : Below n W W' := ⟨h.os, h.tape, h.output, h.size, fun k hk => h.block k (by omega) (hS k hk)⟩
theorem grown_trn {W W' : World} {row : Option Nat} (h : W.grownBy W' row) (S : Nat → Prop) (hS : ∀ b, row = some b → S b) : Trn S W W' := ⟨h.os, h.tape, h.output, h.size, fun k hk hs => h.block k hk (fun e => hs (hS k e.symm))⟩
theorem Trn.blk {S : Nat → Prop} {W W' : World} {b : Nat} {t : TypeId} {cs : Array Value} (h : Trn S W W') (hk : Blk W b t cs) (hS : ¬ S b) : Blk W' b t cs := (h.block b hk.lt hS).trans hk
theorem Trn.row {S : Nat → Prop} {W W' : World} {base : Nat} {e : TypeId} {size : Nat} {v : Value} {k : Nat} {xs : List Value} (h : Trn S W W') (hr : W.ownsRow base e size v k xs) (hS : ∀ b, v.ownBlock = some b → ¬ S b) : W'.ownsRow base e size v k xs := by
 refine ⟨hr.1, ?_⟩
 rcases hr.2 with hn | ⟨g, cap, cur, rfl, h1, h2, rest⟩
 ·exact .inl hn
 ·exact .inr ⟨g, cap, cur, rfl, h1, (h.block g (Array.getElem?_eq_some_iff.1 h2).1 (hS g rfl)).trans h2, rest⟩
theorem setCell_trn (W : World) (a : Addr) (u : Value) (S : Nat → Prop) (hS : S a.block) : Trn S W (W.setCell a u) := ⟨rfl, rfl, rfl, by simp [World.setCell], fun k hk hs => Below.heap_setCell _ _ _ _ (fun e => hs (e ▸ hS))⟩
end Go.Proofs.YtekiemlniegddaaGreat
namespace Go.Proofs.YtekiemlniegddaaGreat
open Go Go.Maps Go.RowKit Go.Shelf
/-- Block b of W is a map of at most n entries that reads as F, keys from 0 to m - 1. -/
def OwnF (P : Program) (K E : TypeId) (W : World) (b n : Nat) (F : Int → Option Lit) (m : Nat) : Prop := ∃ D : DataW Unit, W.ownsMap P K (plainElem P E) b n D ∧ FnM D F m
section
variable {P : Program} {K E : TypeId} {W W' : World} {b n m : Nat} {F : Int → Option Lit}
theorem OwnF.made (P : Program) (K E : TypeId) (w : World) (m : Nat) : OwnF P K E (w.alloc (.map #[] 0)) w.heap.size 0 (fun _ => none) m := ⟨_, World.ownsMap_made w P K _, FnM.empty m⟩
theorem OwnF.mono (h : OwnF P K E W b n F m) {n' : Nat} (hn : n ≤ n') : OwnF P K E W b n' F m := let ⟨D, h1, h2⟩ := h; ⟨D, h1.mono hn, h2⟩
theorem OwnF.lt (h : OwnF P K E W b n F m) : b < W.heap.size := let ⟨_, h1, _⟩ := h; h1.lt
theorem OwnF.kept {row : Option Nat} (h : OwnF P K E W b n F m) (hg : W.grownBy W' row) (hne : some b ≠ row) : OwnF P K E W' b n F m := let ⟨D, h1, h2⟩ := h; ⟨D, h1.kept hg hne, h2⟩
theorem OwnF.below (h : OwnF P K E W b n F m) (hb : Below W.heap.size W W') : OwnF P K E W' b n F m := by
 obtain ⟨D, ⟨es, clock, h1, h2, h3, h4⟩, hF⟩ := h
 exact ⟨D, ⟨es, clock, (hb.block _ (World.ownsMap.lt ⟨es, clock, h1, h2, h3, h4⟩)).trans h1, h2, h3, h4⟩, hF⟩
end
section
variable {P : Program} (w : World) {ops : Array Oper} {rest : List Oper} {o : Oper} {a : Act} {Q : Exit → Act → World → Prop}
theorem put_map (hg : o.guard = none) (mm x v : Operand) (t : TypeId) (hop : o.op = Op.mapUpdate t mm x v) (K E : TypeId) (hK : P.underlying K = some (.int .i64)) (ht : P.underlying t = some (.map K E)) (b n m : Nat) (F : Int → Option Lit) (hm : a.eval mm = .map (some b)) (h : OwnF P K E w b n F m) (hn : n < maxLen)
  (k : Nat) (hk : (Lit.int .i64 (k : Int)).wf = true) (hkm : k < m) (val : Value) (l : Lit) (hx : a.eval x = .int .i64 (k : Int)) (hv : a.eval v = val) (hval : plainElem (H := Unit) P E val = some (.lit l, []))
  (hR : ∀ w', OwnF P K E w' b (n + 1) (putF F (k : Int) l) m → w.grownBy w' (some b) → wpList P ops Q rest (a.put o.dst undef) w') : wpList P ops Q (o :: rest) a w := by
 obtain ⟨D, h1, h2⟩ := h
 exact wpList_mapUpdate_own w hg mm x v t hop K E (int_keyed hK) ht (plainElem P E) b n D hm h1 hn (.int .i64 (k : Int)) val (ik (k : Int)) hx hv (keyOf_int_mk hK hk) (.lit l) [] hval fun w' g1 g2 => hR w' ⟨_, g1, h2.put hk hkm l⟩ g2
theorem del_map (hg : o.guard = none) (mm x : Operand) (t K : TypeId) (hop : o.op = Op.call { callee := Callee.builtin Builtin.delete, args := #[mm, x], argTypes := #[t, K] }) (E : TypeId) (hK : P.underlying K = some (.int .i64)) (ht : P.underlying t = some (.map K E)) (b n m : Nat) (F : Int → Option Lit) (hm : a.eval mm = .map (some b)) (h : OwnF P K E w b n F m)
  (k : Nat) (hk : (Lit.int .i64 (k : Int)).wf = true) (hkm : k < m) (hx : a.eval x = .int .i64 (k : Int)) (hR : ∀ w', OwnF P K E w' b n (delF F (k : Int)) m → w.grownBy w' (some b) → wpList P ops Q rest (a.put o.dst (.tuple #[])) w') : wpList P ops Q (o :: rest) a w := by
 obtain ⟨D, h1, h2⟩ := h
 exact wpList_delete_own w hg mm x t K hop E (int_keyed hK) ht (plainElem P E) b n D hm h1 (.int .i64 (k : Int)) (ik (k : Int)) hx (keyOf_int_mk hK hk) fun w' g1 g2 => hR w' ⟨_, g1, h2.del hk hkm⟩ g2.grown
theorem len_map (hg : o.guard = none) (mm : Operand) (t : TypeId) (hop : o.op = Op.call { callee := Callee.builtin Builtin.len, args := #[mm], argTypes := #[t] }) (K E : TypeId) (ht : P.underlying t = some (.map K E)) (b n m : Nat) (F : Int → Option Lit) (hm : a.eval mm = .map (some b)) (h : OwnF P K E w b n F m)
  (hR : wpList P ops Q rest (a.put o.dst (.int .i64 (cntF F m : Nat))) w) : wpList P ops Q (o :: rest) a w := by
 obtain ⟨D, h1, h2⟩ := h
 refine wpList_len_own w hg mm t hop K E ht (plainElem P E) b n D hm h1 ?_
 rw [h2.size]
 exact hR
end
end Go.Proofs.YtekiemlniegddaaGreat
namespace Go.Proofs.YtekiemlniegddaaGreat
open Go Go.Maps Go.RowKit Go.Shelf
theorem OwnF.trn {P : Program} {K E : TypeId} {n m : Nat} {F : Int → Option Lit} {S : Nat → Prop} {W W' : World} {b : Nat} (h : OwnF P K E W b n F m) (ht : Trn S W W') (hS : ¬ S b) : OwnF P K E W' b n F m := by
 obtain ⟨D, ⟨es, clock, h1, h2, h3, h4⟩, hF⟩ := h
 exact ⟨D, ⟨es, clock, (ht.block _ (World.ownsMap.lt ⟨es, clock, h1, h2, h3, h4⟩) hS).trans h1, h2, h3, h4⟩, hF⟩
theorem OwnF.not_cells {P : Program} {K E : TypeId} {n m : Nat} {F : Int → Option Lit} {W : World} {b : Nat} (h : OwnF P K E W b n F m) {c : Nat} {t : TypeId} {cs : Array Value} (hk : W.heap[c]? = some (.cells cs t (0, 0))) : c ≠ b := by
 rintro rfl
 obtain ⟨D, ⟨es, clock, h1, _⟩, _⟩ := h
 rw [h1] at hk; cases hk
theorem OwnF.not_row {P : Program} {K E : TypeId} {n m : Nat} {F : Int → Option Lit} {W : World} {b : Nat} (h : OwnF P K E W b n F m) {base size k : Nat} {e : TypeId} {v : Value} {xs : List Value} (hr : W.ownsRow base e size v k xs) : v.ownBlock ≠ some b := by
 rcases hr.2 with ⟨rfl, _⟩ | ⟨g, cap, cur, rfl, _, hgb, _⟩
 ·intro e; cases e
 ·intro e
  obtain rfl : g = b := by simpa [Value.ownBlock] using e
  exact h.not_cells hgb rfl
/-- The cells of a point operation. -/
def ptCell (p : PointN) : Nat → Value := fun j => ([.int .i64 p.mul, .int .i64 p.add, .int .i64 p.div, .int .i64 p.lo, .int .i64 p.hi] : List Value)[j]?.getD .nilFunc
def ptAt (l : List PointN) (i : Nat) : PointN := l[i]?.getD noPt0
 where noPt0 : PointN := ⟨0, 0, 0, 0, 0⟩
def ptsC (l : List PointN) : List Value := flat 5 (fun i j => ptCell (ptAt l i) j) l.length
theorem ptAt_app (l : List PointN) (p : PointN) {i : Nat} (h : i ≤ l.length) : ptAt (l ++ [p]) i = if i = l.length then p else ptAt l i := by
 unfold ptAt
 by_cases e : i = l.length
 ·subst e; rw [if_pos rfl, List.getElem?_append_right (Nat.le_refl _)]; simp
 ·rw [if_neg e, List.getElem?_append_left (by omega)]
theorem ptsC_snoc (l : List PointN) (p : PointN) : ptsC l ++ [.int .i64 p.mul, .int .i64 p.add, .int .i64 p.div, .int .i64 p.lo, .int .i64 p.hi] = ptsC (l ++ [p]) := by
 unfold ptsC
 rw [List.length_append, List.length_singleton]
 rw [flat_congr (S := 5) (n := l.length) (g := fun i j => ptCell (ptAt (l ++ [p]) i) j) (fun i hi j _ => by rw [ptAt_app l p (by omega), if_neg (by omega)])]
 refine flat_snoc _ _ rfl fun j hj => ?_
 rw [ptAt_app l p (Nat.le_refl _), if_pos rfl]
 match j, hj with
 | 0, _ => rfl
 | 1, _ => rfl
 | 2, _ => rfl
 | 3, _ => rfl
 | 4, _ => rfl
/-- A round in memory. -/
structure RndA where
 r : RndN
 ka : Option Addr
 kc : Nat
 sa : Option Addr
 sc : Nat
 pv : Value
 ub : Nat
 uc : Nat
def rndL (x : RndA) : List Value :=
 [.int .u8 x.r.head.op, .int .i64 x.r.head.a, .int .i64 x.r.head.b, .int .i64 x.r.head.pt.mul, .int .i64 x.r.head.pt.add, .int .i64 x.r.head.pt.div, .int .i64 x.r.head.pt.lo, .int .i64 x.r.head.pt.hi, .int .u8 x.r.head.how, .int .i64 x.r.head.kw, .int .i64 x.r.head.kh, .slice x.ka x.r.head.taps.length x.kc, .int .u8 x.r.head.bd, .int .i64 x.r.head.sw, .int .i64 x.r.head.sh, .slice x.sa x.r.head.bits.length x.sc, x.pv, .slice (some ⟨x.ub, 0, none⟩) (opsN x.r.head).length x.uc, .int .i64 x.r.res]
abbrev rndv (x : RndA) : Value := .agg #[.int .u8 x.r.head.op, .int .i64 x.r.head.a, .int .i64 x.r.head.b, .int .i64 x.r.head.pt.mul, .int .i64 x.r.head.pt.add, .int .i64 x.r.head.pt.div, .int .i64 x.r.head.pt.lo, .int .i64 x.r.head.pt.hi, .int .u8 x.r.head.how, .int .i64 x.r.head.kw, .int .i64 x.r.head.kh, .slice x.ka x.r.head.taps.length x.kc, .int .u8 x.r.head.bd, .int .i64 x.r.head.sw, .int .i64 x.r.head.sh, .slice x.sa x.r.head.bits.length x.sc, x.pv, .slice (some ⟨x.ub, 0, none⟩) (opsN x.r.head).length x.uc, .int .i64 x.r.res]
def rndCell (x : RndA) : Nat → Value := fun j => (rndL x)[j]?.getD .nilFunc
theorem rndL_len (x : RndA) : (rndL x).length = 19 := rfl
theorem rndL_at (x : RndA) {j : Nat} (hj : j < 19) : (rndL x)[j]? = some (rndCell x j) := by
 unfold rndCell
 rw [List.getElem?_eq_getElem (by rw [rndL_len]; exact hj)]; rfl
/-- The call's own rounds. B0: where the steps' lists lie. -/
structure OwnRs (B0 B : Nat) (W : World) (v : Value) (n : Nat) (x : Nat → RndA) : Prop where
 row : W.ownsRow B 111 19 v n (flat 19 (fun q j => rndCell (x q) j) n)
 pts : ∀ q, q < n → W.ownsRow B 69 5 (x q).pv (x q).r.pts.length (ptsC (x q).r.pts)
 sep : ∀ q t, q < n → t < n → q ≠ t → (x q).pv.ownBlock = none ∨ (x q).pv.ownBlock ≠ (x t).pv.ownBlock
 uses : ∀ q, q < n → Blk W (x q).ub 3 ((opsN (x q).r.head).map (Value.int .i64)).toArray ∧ B ≤ (x q).ub
 taps : ∀ q, q < n → Rd B0 W (x q).ka (x q).r.head.taps ∧ RdB B0 W (x q).sa (x q).r.head.bits
theorem rnd_ne_pt : (111 : TypeId) ≠ 69 := by decide
theorem int_ne_pt : (3 : TypeId) ≠ 69 := by decide
theorem int_ne_rnd : (3 : TypeId) ≠ 111 := by decide
section
variable {B0 B : Nat} {W W' : World} {v : Value} {n : Nat} {x : Nat → RndA}
/-- What has turned lies apart from the rounds. -/
theorem OwnRs.trn {S : Nat → Prop} (h : OwnRs B0 B W v n x) (ht : Trn S W W') (hB : B0 ≤ W.heap.size) (h0 : ∀ b, b < B0 → ¬ S b) (h1 : ∀ b, v.ownBlock = some b → ¬ S b) (h2 : ∀ q, q < n → (∀ b, (x q).pv.ownBlock = some b → ¬ S b) ∧ ¬ S (x q).ub) : OwnRs B0 B W' v n x where
 row := ht.row h.row h1
 pts := fun q hq => ht.row (h.pts q hq) (h2 q hq).1
 sep := h.sep
 uses := fun q hq => ⟨ht.blk (h.uses q hq).1 (h2 q hq).2, (h.uses q hq).2⟩
 taps := fun q hq => ⟨(h.taps q hq).1.below (Nat.le_refl _) (ht.below hB h0), (h.taps q hq).2.below (Nat.le_refl _) (ht.below hB h0)⟩
theorem OwnRs.below (h : OwnRs B0 B W v n x) (hb : Below W.heap.size W W') (hB : B0 ≤ W.heap.size) : OwnRs B0 B W' v n x :=
 h.trn (Below.trn0 hb fun _ => False) hB (fun _ _ h => h) (fun _ _ h => h) (fun _ _ => ⟨fun _ _ h => h, fun h => h⟩)
theorem OwnRs.map {P : Program} {K E : TypeId} {k m b : Nat} {F : Int → Option Lit} (h : OwnRs B0 B W v n x) (hm : OwnF P K E W b k F m) (hg : W.grownBy W' (some b)) (hB : B0 ≤ W.heap.size) (hb : B0 ≤ b) : OwnRs B0 B W' v n x := by
 refine h.trn (grown_trn hg (fun c => c = b) (fun c e => by injection e with e; exact e.symm)) hB (fun c hc e => by omega) (fun c hc e => ?_) (fun q hq => ⟨fun c hc e => ?_, fun e => ?_⟩)
 ·subst e; exact hm.not_row h.row hc
 ·subst e; exact hm.not_row (h.pts q hq) hc
 ·exact hm.not_cells (h.uses q hq).1 e
theorem OwnRs.nil (B0 B : Nat) (W : World) (x : Nat → RndA) : OwnRs B0 B W (.slice none 0 0) 0 x :=
 ⟨by rw [flat_zero]; exact World.ownsRow_nil _ _ _ _, fun q h => absurd h (Nat.not_lt_zero _), fun q t h => absurd h (Nat.not_lt_zero _), fun q h => absurd h (Nat.not_lt_zero _), fun q h => absurd h (Nat.not_lt_zero _)⟩
theorem row_cellAt {base : Nat} {e : TypeId} {size g k c : Nat} {xs : List Value} (h : W.ownsRow base e size (.slice (some ⟨g, 0, none⟩) k c) k xs) (j : Nat) {u : Value} (hu : xs[j]? = some u) : W.cell? ⟨g, j, none⟩ = some u := by
 have := h.cells (g := g) rfl j u hu
 rwa [addr_add, Nat.zero_add] at this
theorem OwnRs.cell (h : OwnRs B0 B W v n x) {q : Nat} (hq : q < n) : ∃ g c, v = .slice (some ⟨g, 0, none⟩) n c ∧ B ≤ g ∧ g < W.heap.size ∧ ∀ j, j < 19 → W.cell? ⟨g, q * 19 + j, none⟩ = some (rndCell (x q) j) := by
 rcases h.row.2 with ⟨_, h0⟩ | ⟨g, cap, cur, rfl, hb, hg, _⟩
 ·omega
 ·exact ⟨g, cap, rfl, hb, (Array.getElem?_eq_some_iff.1 hg).1, fun j hj => row_cellAt h.row _ (flat_at _ hq hj)⟩
theorem OwnRs.slice (h : OwnRs B0 B W v n x) : ∃ a c, v = .slice a n c := by
 rcases h.row.2 with ⟨rfl, rfl⟩ | ⟨g, cap, cur, rfl, _⟩
 ·exact ⟨none, 0, rfl⟩
 ·exact ⟨_, _, rfl⟩
/-- Distinct types make distinct rows. -/
theorem rows_apart {B1 B2 : Nat} {e1 e2 : TypeId} {s1 s2 k1 k2 : Nat} {v1 v2 : Value} {xs ys : List Value} (h1 : W.ownsRow B1 e1 s1 v1 k1 xs) (h2 : W.ownsRow B2 e2 s2 v2 k2 ys) (he : e1 ≠ e2) {b : Nat} (a1 : v1.ownBlock = some b) (a2 : v2.ownBlock = some b) : False := by
 rcases h1.2 with ⟨rfl, _⟩ | ⟨g, cap, cur, rfl, _, hg, _⟩
 ·cases a1
 rcases h2.2 with ⟨rfl, _⟩ | ⟨g', cap', cur', rfl, _, hg', _⟩
 ·cases a2
 obtain rfl : g = b := by simpa [Value.ownBlock] using a1
 obtain rfl : g' = g := by simpa [Value.ownBlock] using a2
 rw [hg] at hg'; injection hg' with hg'; injection hg' with _ hg' _; exact he hg'
/-- One round more. -/
theorem OwnRs.push {v' : Value} {y : RndA} (h : OwnRs B0 B W v n x) (hrow : W'.ownsRow B 111 19 v' (n + 1) (flat 19 (fun q j => rndCell (x q) j) n ++ rndL y)) (hg : W.grownBy W' v.ownBlock) (hy : y.pv = .slice none 0 0) (hyp : y.r.pts = [])
  (hu : Blk W y.ub 3 ((opsN y.r.head).map (Value.int .i64)).toArray ∧ B ≤ y.ub) (ht : Rd B0 W y.ka y.r.head.taps ∧ RdB B0 W y.sa y.r.head.bits) (hB : B0 ≤ W.heap.size) (hB0 : B0 ≤ B) : OwnRs B0 B W' v' (n + 1) (fun q => if q = n then y else x q) := by
 have key := grown_trn hg (fun c => v.ownBlock = some c) (fun c e => e)
 have hlow : ∀ b, b < B0 → ¬ v.ownBlock = some b := fun b hb e => by have := (h.row.lt b e).1; omega
 refine { row := ?_, pts := fun q hq => ?_, sep := fun q t hq ht' hne => ?_, uses := fun q hq => ?_, taps := fun q hq => ?_ }
 ·rw [← flat_snoc (fun q j => rndCell (if q = n then y else x q) j) (rndL y) (rndL_len y) (fun j hj => by rw [if_pos rfl]; exact rndL_at y hj)]
  rw [flat_congr (S := 19) (n := n) (f := fun q j => rndCell (if q = n then y else x q) j) (g := fun q j => rndCell (x q) j) (fun i hi j _ => by rw [if_neg (by omega)])]
  exact hrow
 ·by_cases e : q = n
  ·simp only [e, if_true]; rw [hy, hyp]; exact World.ownsRow_nil _ _ _ _
  ·simp only [if_neg e]; exact key.row (h.pts q (by omega)) (fun b hb e2 => rows_apart h.row (h.pts q (by omega)) rnd_ne_pt e2 hb)
 ·by_cases e : q = n
  ·simp only [e, if_true]; rw [hy]; exact .inl rfl
  ·simp only [if_neg e]
   by_cases e2 : t = n
   ·simp only [e2, if_true]; rw [hy]
    cases hv : (x q).pv.ownBlock with
    | none => exact .inl rfl
    | some b => right; intro h; cases h
   ·simp only [if_neg e2]; exact h.sep q t (by omega) (by omega) hne
 ·by_cases e : q = n
  ·simp only [e, if_true]; exact ⟨key.blk hu.1 (fun e2 => hu.1.not_row int_ne_rnd h.row e2.symm), hu.2⟩
  ·simp only [if_neg e]; obtain ⟨a, b⟩ := h.uses q (by omega); exact ⟨key.blk a (fun e2 => a.not_row int_ne_rnd h.row e2.symm), b⟩
 ·by_cases e : q = n
  ·simp only [e, if_true]; exact ⟨ht.1.below (Nat.le_refl _) (key.below hB hlow), ht.2.below (Nat.le_refl _) (key.below hB hlow)⟩
  ·simp only [if_neg e]; obtain ⟨a, b⟩ := h.taps q (by omega); exact ⟨a.below (Nat.le_refl _) (key.below hB hlow), b.below (Nat.le_refl _) (key.below hB hlow)⟩
end
theorem OwnF.run_look {P : Program} {K E t : TypeId} {n m : Nat} {F : Int → Option Lit} {w : World} {b : Nat} (h : OwnF P K E w b n F m) (hK : P.underlying K = some (.int .i64)) (ht : P.underlying t = some (.map K E)) (hE : P.underlying E = some (.int .i64)) (hz : (zeroValue E).run P w = .ok (.int .i64 0) w) (k : Int) (hk : (Lit.int .i64 k).wf = true) :
  (Instr.lookup t (.map (some b)) (.int .i64 k) false).run P w = .ok (.int .i64 (numF (F k))) w := by
 obtain ⟨D, h1, h2⟩ := h
 obtain ⟨c, hrun, hat, hwc⟩ := h1.lookup_int (int_keyed hK) ht hE hz (keyOf_int_mk hK hk)
 have e : numF (F k) = c := by
  cases hF : F k with
  | none => rw [h2.none_at hk hF] at hat; injection hat with e1; injection e1 with _ e2
  | some v => rw [h2.here k hk v hF] at hat; injection hat with e1; subst e1; rfl
 rw [hrun, e]
theorem OwnF.run_lookb {P : Program} {K E t : TypeId} {n m : Nat} {F : Int → Option Lit} {w : World} {b : Nat} (h : OwnF P K E w b n F m) (hK : P.underlying K = some (.int .i64)) (ht : P.underlying t = some (.map K E)) (hE : P.underlying E = some .bool) (hz : (zeroValue E).run P w = .ok (.bool false) w) (k : Int) (hk : (Lit.int .i64 k).wf = true) :
  (Instr.lookup t (.map (some b)) (.int .i64 k) false).run P w = .ok (.bool (truF (F k))) w := by
 obtain ⟨D, h1, h2⟩ := h
 obtain ⟨c, hrun, hat⟩ := lookup_bool h1 (int_keyed hK) ht hE hz (keyOf_int_mk hK hk)
 have e : truF (F k) = c := by
  cases hF : F k with
  | none => rw [h2.none_at hk hF] at hat; injection hat with e1; injection e1 with e2
  | some v => rw [h2.here k hk v hF] at hat; injection hat with e1; subst e1; rfl
 rw [hrun, e]
theorem wf_num {k : Int} (h : -9223372036854775808 ≤ k ∧ k ≤ 9223372036854775807) : (Lit.int .i64 k).wf = true := WalkArith.wf_i64 h
theorem OwnF.putw {P : Program} {K E : TypeId} {n m : Nat} {F : Int → Option Lit} (w : World) {ops : Array Oper} {rest : List Oper} {o : Oper} {a : Act} {Q : Exit → Act → World → Prop} (hg : o.guard = none) (mm x v : Operand) (t : TypeId) (hop : o.op = Op.mapUpdate t mm x v) (hK : P.underlying K = some (.int .i64)) (ht : P.underlying t = some (.map K E)) (b : Nat) (hm : a.eval mm = .map (some b)) (h : OwnF P K E w b n F m) (hn : n < 100)
  (k : Nat) (hkm : k < m) (hm0 : m < 100) (val : Value) (l : Lit) (hx : a.eval x = .int .i64 (k : Int)) (hv : a.eval v = val) (hval : plainElem (H := Unit) P E val = some (.lit l, []))
  (hR : ∀ w', OwnF P K E w' b (n + 1) (putF F (k : Int) l) m → w.grownBy w' (some b) → wpList P ops Q rest (a.put o.dst undef) w') : wpList P ops Q (o :: rest) a w :=
 put_map w hg mm x v t hop K E hK ht b n m F hm h (by unfold maxLen; omega) k (wf_num ⟨by omega, by omega⟩) hkm val l hx hv hval hR
theorem OwnF.delw {P : Program} {K E : TypeId} {n m : Nat} {F : Int → Option Lit} (w : World) {ops : Array Oper} {rest : List Oper} {o : Oper} {a : Act} {Q : Exit → Act → World → Prop} (hg : o.guard = none) (mm x : Operand) (t : TypeId) (hop : o.op = Op.call { callee := Callee.builtin Builtin.delete, args := #[mm, x], argTypes := #[t, K] }) (hK : P.underlying K = some (.int .i64)) (ht : P.underlying t = some (.map K E)) (b : Nat) (hm : a.eval mm = .map (some b)) (h : OwnF P K E w b n F m)
  (k : Nat) (hkm : k < m) (hm0 : m < 100) (hx : a.eval x = .int .i64 (k : Int)) (hR : ∀ w', OwnF P K E w' b n (delF F (k : Int)) m → w.grownBy w' (some b) → wpList P ops Q rest (a.put o.dst (.tuple #[])) w') : wpList P ops Q (o :: rest) a w :=
 del_map w hg mm x t K hop E hK ht b n m F hm h k (wf_num ⟨by omega, by omega⟩) hkm hx hR
theorem step_append_atQ {P : Program} {ops : Array Oper} {o : Oper} {a : Act} {w : World} {K : Act → World → Prop} {Q : Exit → Act → World → Prop} {E : Prop}
  (hg : o.guard = none) (s x : Operand) (t : TypeId) (hop : o.op = Op.call { callee := Callee.builtin Builtin.append, args := #[s, x], argTypes := #[t, t] })
  (base : Nat) (e : TypeId) (i : TypeInfo) (z : Value) (size bytes : Nat) (h1 : P.underlying t = some (.slice e)) (h2 : P.info? e = some i) (h3 : i.zero = some z) (h4 : i.size = size) (h5 : i.bytes = bytes) (h6 : z.cells.size = size) (h7 : 0 < size)
  (v : Value) (k : Nat) (xs : List Value) (hs : a.eval s = v) (hown : w.ownsRow base e size v k xs) (ad : Addr) (m c : Nat) (news : List Value) (hx : a.eval x = .slice (some ad) m c) (hn : news.length = m * size)
  (hc : ∀ j u, news[j]? = some u → w.cell? (ad.add j) = some u) (h1c : ∀ u ∈ news, u.oneCell' = true) (b1 : k + m ≤ maxLen) (b2 : (k + m) * bytes ≤ 140737488355328) (b3 : base ≤ w.heap.size)
  (hK : ∀ v' w', w'.ownsRow base e size v' (k + m) (xs ++ news) → w.grownBy w' v.ownBlock → (v'.ownBlock = v.ownBlock ∨ v'.ownBlock = some w.heap.size) → K (a.put o.dst v') w') :
  if Region.wanted o (yielded ops a.tmps) = true then Oper.wp P o a w K Q else E := by
 have hw : Region.wanted o (yielded ops a.tmps) = true := by simp [Region.wanted, hg]
 rw [if_pos hw]
 obtain ⟨v', w', hrun, r1, r2, r3, r4⟩ := run_append_own_at (P := P) w base t o.type e i z size bytes h1 h2 h3 h4 h5 h6 h7 v k xs hown ad m c news hn hc h1c b1 b2 b3
 unfold Oper.wp
 simp [execOp, hop, resolve, invoke, builtin, hs, hx, hrun, Result.andThen]
 exact hK v' w' r1 r2 r4
theorem info_rnd : (Tryz.prog.info? 111).map (fun i => (i.zero, i.size, i.bytes)) = some (some (.agg #[.int .u8 0, .int .i64 0, .int .i64 0, .int .i64 0, .int .i64 0, .int .i64 0, .int .i64 0, .int .i64 0, .int .u8 0, .int .i64 0, .int .i64 0, .slice none 0 0, .int .u8 0, .int .i64 0, .int .i64 0, .slice none 0 0, .slice none 0 0, .slice none 0 0, .int .i64 0]), 19, 216) := by kernel_rfl
theorem info_pt : (Tryz.prog.info? 69).map (fun i => (i.zero, i.size, i.bytes)) = some (some (.agg #[.int .i64 0, .int .i64 0, .int .i64 0, .int .i64 0, .int .i64 0]), 5, 40) := by kernel_rfl
theorem zero_num (w : World) : (zeroValue 3).run Tryz.prog w = .ok (.int .i64 0) w := by kernel_rfl
theorem zero_boo (w : World) : (zeroValue 4).run Tryz.prog w = .ok (.bool false) w := by kernel_rfl
/-- Numbers at the keys stay small. -/
theorem incL_le (l : List Int) : ∀ (F : FnL) (N : Int), (∀ m, 0 ≤ numF (F m) ∧ numF (F m) ≤ N) → ∀ m, 0 ≤ numF (incL F l m) ∧ numF (incL F l m) ≤ N + l.length := by
 induction l with
 | nil => intro F N h m; show 0 ≤ numF (F m) ∧ numF (F m) ≤ N + ((0 : Nat) : Int); have := h m; omega
 | cons a l ih =>
  intro F N h m
  have h2 := ih (incF F a) (N + 1) (fun m => by rw [incF_num]; have := h m; split <;> omega) m
  show 0 ≤ numF (incL (incF F a) l m) ∧ numF (incL (incF F a) l m) ≤ N + ((l.length + 1 : Nat) : Int)
  omega
theorem incL_take {F : FnL} {l : List Int} {j : Nat} (hj : j < l.length) : incL F (l.take (j + 1)) = incF (incL F (l.take j)) (l[j]?.getD 0) := by
 unfold incL
 rw [List.take_succ_eq_append_getElem hj, List.foldl_append, List.getElem?_eq_getElem hj]; rfl
theorem useF_le (ss : List StepN) (k : Nat) (m : Int) : 0 ≤ numF (useF ss k m) ∧ numF (useF ss k m) ≤ (k : Int) := by
 rw [useF_num]
 have : ∀ k, cntU ss m k ≤ k := fun k => by
  induction k with
  | zero => exact Nat.le_refl _
  | succ k ih => rw [cntU]; have := inOps_le (stAt ss k) m; omega
 have := this k
 omega
theorem blk_news {W : World} {b : Nat} {t : TypeId} {cs : Array Value} (h : Blk W b t cs) : ∀ j u, cs.toList[j]? = some u → W.cell? ((⟨b, 0, none⟩ : Addr).add j) = some u := fun j u hu => by
 rw [addr_add, Nat.zero_add]; exact h.cell (by simpa using hu)
section
variable {B0 B : Nat} {W W' : World} {v : Value} {n : Nat} {x : Nat → RndA}
/-- A point operation is carried: its round's row of points grows, the record's slice is written. -/
theorem OwnRs.carry (h : OwnRs B0 B W v n x) {q : Nat} (hq : q < n) {pv' : Value} {p : PointN} (hrow : W'.ownsRow B 69 5 pv' ((x q).r.pts.length + 1) (ptsC (x q).r.pts ++ [.int .i64 p.mul, .int .i64 p.add, .int .i64 p.div, .int .i64 p.lo, .int .i64 p.hi])) (hg : W.grownBy W' (x q).pv.ownBlock)
  (hat : pv'.ownBlock = (x q).pv.ownBlock ∨ pv'.ownBlock = some W.heap.size) {g c : Nat} (hv : v = .slice (some ⟨g, 0, none⟩) n c) (hB : B0 ≤ W.heap.size) (hB0 : B0 ≤ B) :
  OwnRs B0 B (W'.setCell ⟨g, q * 19 + 16, none⟩ pv') v n (fun t => if t = q then { x q with pv := pv', r := { (x q).r with pts := (x q).r.pts ++ [p] } } else x t) := by
 have key := grown_trn hg (fun c => (x q).pv.ownBlock = some c) (fun c e => e)
 have hlow : ∀ b, b < B0 → ¬ (x q).pv.ownBlock = some b := fun b hb e => by have := ((h.pts q hq).lt b e).1; omega
 have hrow' : W'.ownsRow B 111 19 v n (flat 19 (fun q j => rndCell (x q) j) n) := key.row h.row (fun b hb e => rows_apart h.row (h.pts q hq) rnd_ne_pt hb e)
 subst hv
 have hst := hrow'.stored (q * 19 + 16) pv'
 rw [flat_set _ (by omega : 16 < 19)] at hst
 have hgb : g < W.heap.size := (h.row.lt g rfl).2
 have hgB : B ≤ g := (h.row.lt g rfl).1
 have key2 := grown_trn hst.2 (fun c => c = g) (fun c e => by injection e with e; exact e.symm)
 have hlow2 : ∀ b, b < B0 → ¬ b = g := fun b hb e => by omega
 have hpg : ∀ b, pv'.ownBlock = some b → ¬ b = g := fun b hb e => rows_apart hrow' hrow rnd_ne_pt (by subst e; rfl) hb
 refine { row := ?_, pts := fun t ht => ?_, sep := fun s t hs ht hne => ?_, uses := fun t ht => ?_, taps := fun t ht => ?_ }
 ·refine (flat_congr (S := 19) (n := n) fun i hi j hj => ?_) ▸ hst.1
  by_cases e : i = q
  ·subst e
   rw [if_pos rfl]
   by_cases e2 : j = 16
   ·subst e2; rw [if_pos ⟨rfl, rfl⟩]; rfl
   ·rw [if_neg (fun hh => e2 hh.2)]
    have : j < 16 ∨ j = 17 ∨ j = 18 := by omega
    unfold rndCell
    rcases this with hj2 | rfl | rfl
    ·have := (show j = 0 ∨ j = 1 ∨ j = 2 ∨ j = 3 ∨ j = 4 ∨ j = 5 ∨ j = 6 ∨ j = 7 ∨ j = 8 ∨ j = 9 ∨ j = 10 ∨ j = 11 ∨ j = 12 ∨ j = 13 ∨ j = 14 ∨ j = 15 by omega)
     rcases this with rfl | rfl | rfl | rfl | rfl | rfl | rfl | rfl | rfl | rfl | rfl | rfl | rfl | rfl | rfl | rfl <;> rfl
    ·rfl
    ·rfl
  ·rw [if_neg e, if_neg (fun hh => e hh.1)]
 ·by_cases e : t = q
  ·subst e
   simp only [if_true]
   rw [List.length_append, List.length_singleton, ← ptsC_snoc]
   exact key2.row hrow (fun b hb e => hpg b hb e)
  ·simp only [if_neg e]
   refine key2.row (key.row (h.pts t ht) (fun b hb e2 => ?_)) (fun b hb e2 => ?_)
   ·rcases h.sep q t hq ht (fun e3 => e e3.symm) with h1 | h1
    ·rw [h1] at e2; cases e2
    ·exact h1 (e2.trans hb.symm)
   ·exact rows_apart h.row (h.pts t ht) rnd_ne_pt (by rw [e2]; rfl) hb
 ·by_cases e : s = q
  ·subst e
   simp only [if_true, if_neg (show ¬ t = s from fun e => hne e.symm)]
   rcases hat with h1 | h1
   ·rw [h1]; exact h.sep s t hs ht hne
   ·right; rw [h1]; intro e2; have := ((h.pts t ht).lt _ e2.symm).2; omega
  ·by_cases e2 : t = q
   ·subst e2
    simp only [if_true, if_neg e]
    rcases hat with h1 | h1
    ·rw [h1]; exact h.sep s t hs ht hne
    ·right; rw [h1]; intro e2; have := ((h.pts s hs).lt _ e2).2; omega
   ·simp only [if_neg e, if_neg e2]; exact h.sep s t hs ht hne
 ·by_cases e : t = q
  ·subst e
   simp only [if_true]
   obtain ⟨a, b⟩ := h.uses t ht
   exact ⟨key2.blk (key.blk a (fun e2 => a.not_row int_ne_pt (h.pts t ht) e2.symm)) (fun e2 => a.not_row int_ne_rnd h.row (by rw [e2]; rfl)), b⟩
  ·simp only [if_neg e]
   obtain ⟨a, b⟩ := h.uses t ht
   exact ⟨key2.blk (key.blk a (fun e2 => a.not_row int_ne_pt (h.pts q hq) e2.symm)) (fun e2 => a.not_row int_ne_rnd h.row (by rw [e2]; rfl)), b⟩
 ·have hb1 := key.below hB hlow
  have hb2 := key2.below (Nat.le_trans hB key.size) hlow2
  by_cases e : t = q
  ·subst e; simp only [if_true]; obtain ⟨a, b⟩ := h.taps t ht; exact ⟨(a.below (Nat.le_refl _) hb1).below (Nat.le_refl _) hb2, (b.below (Nat.le_refl _) hb1).below (Nat.le_refl _) hb2⟩
  ·simp only [if_neg e]; obtain ⟨a, b⟩ := h.taps t ht; exact ⟨(a.below (Nat.le_refl _) hb1).below (Nat.le_refl _) hb2, (b.below (Nat.le_refl _) hb1).below (Nat.le_refl _) hb2⟩
/-- The record's result is written. -/
theorem OwnRs.setres (h : OwnRs B0 B W v n x) {q : Nat} (r : Int) {g c : Nat} (hv : v = .slice (some ⟨g, 0, none⟩) n c) (hB : B0 ≤ W.heap.size) (hB0 : B0 ≤ B) :
  OwnRs B0 B (W.setCell ⟨g, q * 19 + 18, none⟩ (.int .i64 r)) v n (fun t => if t = q then { x q with r := { (x q).r with res := r } } else x t) := by
 subst hv
 have hst := h.row.stored (q * 19 + 18) (.int .i64 r)
 rw [flat_set _ (by omega : 18 < 19)] at hst
 have hgB : B ≤ g := (h.row.lt g rfl).1
 have key2 := grown_trn hst.2 (fun c => c = g) (fun c e => by injection e with e; exact e.symm)
 have hlow2 : ∀ b, b < B0 → ¬ b = g := fun b hb e => by omega
 have hb2 := key2.below hB hlow2
 have hf : ∀ t, (if t = q then { x q with r := { (x q).r with res := r } } else x t).pv = (x t).pv ∧ (if t = q then { x q with r := { (x q).r with res := r } } else x t).r.pts = (x t).r.pts ∧ (if t = q then { x q with r := { (x q).r with res := r } } else x t).r.head = (x t).r.head ∧ (if t = q then { x q with r := { (x q).r with res := r } } else x t).ub = (x t).ub ∧ (if t = q then { x q with r := { (x q).r with res := r } } else x t).ka = (x t).ka ∧ (if t = q then { x q with r := { (x q).r with res := r } } else x t).sa = (x t).sa := fun t => by
  by_cases e : t = q
  ·subst e; rw [if_pos rfl]; exact ⟨rfl, rfl, rfl, rfl, rfl, rfl⟩
  ·rw [if_neg e]; exact ⟨rfl, rfl, rfl, rfl, rfl, rfl⟩
 refine { row := ?_, pts := fun t ht => ?_, sep := fun s t hs ht hne => ?_, uses := fun t ht => ?_, taps := fun t ht => ?_ }
 ·refine (flat_congr (S := 19) (n := n) fun i hi j hj => ?_) ▸ hst.1
  by_cases e : i = q
  ·subst e
   rw [if_pos rfl]
   by_cases e2 : j = 18
   ·subst e2; rw [if_pos ⟨rfl, rfl⟩]; rfl
   ·rw [if_neg (fun hh => e2 hh.2)]
    unfold rndCell
    have := (show j = 0 ∨ j = 1 ∨ j = 2 ∨ j = 3 ∨ j = 4 ∨ j = 5 ∨ j = 6 ∨ j = 7 ∨ j = 8 ∨ j = 9 ∨ j = 10 ∨ j = 11 ∨ j = 12 ∨ j = 13 ∨ j = 14 ∨ j = 15 ∨ j = 16 ∨ j = 17 by omega)
    rcases this with rfl | rfl | rfl | rfl | rfl | rfl | rfl | rfl | rfl | rfl | rfl | rfl | rfl | rfl | rfl | rfl | rfl | rfl <;> rfl
  ·rw [if_neg e, if_neg (fun hh => e hh.1)]
 ·obtain ⟨e1, e2, _⟩ := hf t
  simp only [e1, e2]
  exact key2.row (h.pts t ht) (fun b hb e => rows_apart h.row (h.pts t ht) rnd_ne_pt (by rw [e]; rfl) hb)
 ·simp only [(hf s).1, (hf t).1]; exact h.sep s t hs ht hne
 ·obtain ⟨_, _, e3, e4, _⟩ := hf t
  simp only [e3, e4]
  obtain ⟨a, b⟩ := h.uses t ht
  exact ⟨key2.blk a (fun e2 => a.not_row int_ne_rnd h.row (by rw [e2]; rfl)), b⟩
 ·obtain ⟨_, _, e3, _, e5, e6⟩ := hf t
  simp only [e3, e5, e6]
  obtain ⟨a, b⟩ := h.taps t ht
  exact ⟨a.below (Nat.le_refl _) hb2, b.below (Nat.le_refl _) hb2⟩
end
/-- What stands at the work on the rounds: the rounds, the map of the rounds, the map of the users, the pipe. -/
structure RdI (B0 B : Nat) (W : World) (v : Value) (N : Nat) (x : Nat → RndA) (bf kf : Nat) (F : FnL) (bu ku : Nat) (U : FnL) (M bp : Nat) (C : Array Value) : Prop where
 rs : OwnRs B0 B W v N x
 fm : OwnF Tryz.prog 3 3 W bf kf F M
 um : OwnF Tryz.prog 3 3 W bu ku U M
 kp : Blk W bp 24 C
 lo : B0 ≤ B ∧ B ≤ bp ∧ B ≤ bu ∧ B ≤ bf ∧ bu ≠ bf
theorem int_ne_pipe : (24 : TypeId) ≠ 111 := by decide
theorem pipe_ne_pt : (24 : TypeId) ≠ 69 := by decide
section
variable {B0 B : Nat} {W W' : World} {v : Value} {N : Nat} {x : Nat → RndA} {bf kf : Nat} {F : FnL} {bu ku : Nat} {U : FnL} {M bp : Nat} {C : Array Value}
theorem RdI.below (h : RdI B0 B W v N x bf kf F bu ku U M bp C) (hb : Below W.heap.size W W') : RdI B0 B W' v N x bf kf F bu ku U M bp C :=
 ⟨h.rs.below hb (by have := h.kp.lt; have := h.lo; omega), h.fm.below hb, h.um.below hb, h.kp.below hb h.kp.lt, h.lo⟩
theorem RdI.mapf (h : RdI B0 B W v N x bf kf F bu ku U M bp C) {kf' : Nat} {F' : FnL} (hf : OwnF Tryz.prog 3 3 W' bf kf' F' M) (hg : W.grownBy W' (some bf)) : RdI B0 B W' v N x bf kf' F' bu ku U M bp C ∧ Below B W W' := by
 obtain ⟨l1, l2, l3, l4, l5⟩ := h.lo
 have hk := h.kp.lt
 exact ⟨⟨h.rs.map h.fm hg (by omega) (by omega), hf, h.um.kept hg (fun e => l5 (by injection e)), h.kp.kept hg (fun e => (h.fm.not_cells h.kp) (by injection e)), h.lo⟩, (Below.refl B W).grown hg (by omega) (fun k e => by injection e with e; omega)⟩
theorem RdI.push (h : RdI B0 B W v N x bf kf F bu ku U M bp C) {v' : Value} {y : RndA} (hrow : W'.ownsRow B 111 19 v' (N + 1) (flat 19 (fun q j => rndCell (x q) j) N ++ rndL y)) (hg : W.grownBy W' v.ownBlock) (hy : y.pv = .slice none 0 0) (hyp : y.r.pts = [])
  (hu : Blk W y.ub 3 ((opsN y.r.head).map (Value.int .i64)).toArray ∧ B ≤ y.ub) (ht : Rd B0 W y.ka y.r.head.taps ∧ RdB B0 W y.sa y.r.head.bits) : RdI B0 B W' v' (N + 1) (fun q => if q = N then y else x q) bf kf F bu ku U M bp C ∧ Below B W W' := by
 obtain ⟨l1, l2, l3, l4, l5⟩ := h.lo
 have hk := h.kp.lt
 have key := grown_trn hg (fun c => v.ownBlock = some c) (fun c e => e)
 exact ⟨⟨h.rs.push hrow hg hy hyp hu ht (by omega) l1, h.fm.trn key (h.fm.not_row h.rs.row), h.um.trn key (h.um.not_row h.rs.row), key.blk h.kp (fun e => h.kp.not_row int_ne_pipe h.rs.row e.symm), h.lo⟩, below_of_row h.rs.row hg (Nat.le_refl _) (by omega)⟩
theorem RdI.carry (h : RdI B0 B W v N x bf kf F bu ku U M bp C) {q : Nat} (hq : q < N) {pv' : Value} {p : PointN} (hrow : W'.ownsRow B 69 5 pv' ((x q).r.pts.length + 1) (ptsC (x q).r.pts ++ [.int .i64 p.mul, .int .i64 p.add, .int .i64 p.div, .int .i64 p.lo, .int .i64 p.hi])) (hg : W.grownBy W' (x q).pv.ownBlock)
  (hat : pv'.ownBlock = (x q).pv.ownBlock ∨ pv'.ownBlock = some W.heap.size) {g c : Nat} (hv : v = .slice (some ⟨g, 0, none⟩) N c) :
  RdI B0 B (W'.setCell ⟨g, q * 19 + 16, none⟩ pv') v N (fun t => if t = q then { x q with pv := pv', r := { (x q).r with pts := (x q).r.pts ++ [p] } } else x t) bf kf F bu ku U M bp C ∧ Below B W (W'.setCell ⟨g, q * 19 + 16, none⟩ pv') := by
 obtain ⟨l1, l2, l3, l4, l5⟩ := h.lo
 have hk := h.kp.lt
 have hrs := h.rs.carry hq hrow hg hat hv (by omega) l1
 have key := grown_trn hg (fun c => (x q).pv.ownBlock = some c) (fun c e => e)
 have key2 := setCell_trn W' ⟨g, q * 19 + 16, none⟩ pv' (fun c => c = g) rfl
 have hvb : v.ownBlock = some g := by rw [hv]; rfl
 have f1 := h.fm.trn key (h.fm.not_row (h.rs.pts q hq))
 have u1 := h.um.trn key (h.um.not_row (h.rs.pts q hq))
 have k1 := key.blk h.kp (fun e => h.kp.not_row pipe_ne_pt (h.rs.pts q hq) e.symm)
 have b1 := below_of_row (h.rs.pts q hq) hg (Nat.le_refl B) (by omega)
 have hgB : B ≤ g := (h.rs.row.lt g hvb).1
 exact ⟨⟨hrs, f1.trn key2 (fun e => h.fm.not_row h.rs.row (e ▸ hvb)), u1.trn key2 (fun e => h.um.not_row h.rs.row (e ▸ hvb)), key2.blk k1 (fun e => h.kp.not_row int_ne_pipe h.rs.row (by rw [e, hvb])), h.lo⟩, b1.setCell hgB _⟩
theorem RdI.setres (h : RdI B0 B W v N x bf kf F bu ku U M bp C) {q : Nat} (r : Int) {g c : Nat} (hv : v = .slice (some ⟨g, 0, none⟩) N c) :
  RdI B0 B (W.setCell ⟨g, q * 19 + 18, none⟩ (.int .i64 r)) v N (fun t => if t = q then { x q with r := { (x q).r with res := r } } else x t) bf kf F bu ku U M bp C ∧ Below B W (W.setCell ⟨g, q * 19 + 18, none⟩ (.int .i64 r)) := by
 obtain ⟨l1, l2, l3, l4, l5⟩ := h.lo
 have hk := h.kp.lt
 have key2 := setCell_trn W ⟨g, q * 19 + 18, none⟩ (.int .i64 r) (fun c => c = g) rfl
 have hvb : v.ownBlock = some g := by rw [hv]; rfl
 have hgB : B ≤ g := (h.rs.row.lt g hvb).1
 exact ⟨⟨h.rs.setres r hv (by omega) l1, h.fm.trn key2 (fun e => h.fm.not_row h.rs.row (e ▸ hvb)), h.um.trn key2 (fun e => h.um.not_row h.rs.row (e ▸ hvb)), key2.blk h.kp (fun e => h.kp.not_row int_ne_pipe h.rs.row (by rw [e, hvb])), h.lo⟩, (Below.refl B W).setCell hgB _⟩
end
theorem RdI.monof {B0 B : Nat} {W : World} {v : Value} {N : Nat} {x : Nat → RndA} {bf kf : Nat} {F : FnL} {bu ku : Nat} {U : FnL} {M bp : Nat} {C : Array Value} (h : RdI B0 B W v N x bf kf F bu ku U M bp C) {kf' : Nat} (hk : kf ≤ kf') : RdI B0 B W v N x bf kf' F bu ku U M bp C := ⟨h.rs, h.fm.mono hk, h.um, h.kp, h.lo⟩
theorem rndL_one (x : RndA) (h : x.pv.oneCell' = true) : ∀ u ∈ rndL x, u.oneCell' = true := by
 intro u hu
 unfold rndL at hu
 simp only [List.mem_cons, List.not_mem_nil, or_false] at hu
 rcases hu with rfl | rfl | rfl | rfl | rfl | rfl | rfl | rfl | rfl | rfl | rfl | rfl | rfl | rfl | rfl | rfl | rfl | rfl | rfl <;> first | rfl | exact h
theorem info_partsQ {o : Option TypeInfo} {z : Value} {n b : Nat} (h : o.map (fun i => (i.zero, i.size, i.bytes)) = some (some z, n, b)) : ∃ i, o = some i ∧ i.zero = some z ∧ i.size = n ∧ i.bytes = b := by
 cases o with
 | none => cases h
 | some i => simp only [Option.map_some, Option.some.injEq, Prod.mk.injEq] at h; exact ⟨i, rfl, h.1, h.2.1, h.2.2⟩
theorem row_frz {W : World} {base : Nat} {e : TypeId} {size g n c k : Nat} {xs : List Value} (h : W.ownsRow base e size (.slice (some ⟨g, 0, none⟩) n c) k xs) (j : Nat) : W.frozen? ⟨g, j, none⟩ = false := by
 rcases h.2 with ⟨h0, _⟩ | ⟨g', cap, cur, h0, hb, hg, _⟩
 ·cases h0
 ·simp only [Value.slice.injEq, Option.some.injEq, Addr.mk.injEq, and_true, true_and] at h0
  simp [World.frozen?, h0.1, hg]
/-- A frame's values by their numbers. -/
theorem ex_fnQ {A : Act} {f : (Nat → Value) → Act} (h : A = f (fun i => A.tmps.getD i undef)) : ∃ u, A = f u := ⟨_, h⟩
theorem OwnF.run_put {P : Program} {K E t : TypeId} {n m : Nat} {F : Int → Option Lit} {w : World} {b : Nat} (h : OwnF P K E w b n F m) (hK : P.underlying K = some (.int .i64)) (ht : P.underlying t = some (.map K E)) (hn : n < 100) (k : Int) (hk : 0 ≤ k ∧ k < m) (hm0 : m < 100) (val : Value) (l : Lit) (hval : plainElem (H := Unit) P E val = some (.lit l, [])) :
  ∃ w', (Instr.mapUpdate t (.map (some b)) (.int .i64 k) val).run P w = .ok () w' ∧ OwnF P K E w' b (n + 1) (putF F k l) m ∧ w.grownBy w' (some b) := by
 obtain ⟨X, rfl⟩ : ∃ X : Nat, k = (X : Int) := ⟨k.toNat, by omega⟩
 obtain ⟨D, h1, h2⟩ := h
 obtain ⟨w', hrun, r1, r2⟩ := h1.update (int_keyed hK) ht (by unfold maxLen; omega) (keyOf_int_mk hK (wf_num (k := (X : Int)) ⟨by omega, by omega⟩)) hval
 exact ⟨w', hrun, ⟨_, r1, h2.put (k := X) (wf_num (k := (X : Int)) ⟨by omega, by omega⟩) (by omega) l⟩, r2⟩
end Go.Proofs.YtekiemlniegddaaGreat
namespace Go.Proofs.YtekiemlniegddaaGreat
open Go Go.Maps Go.RowKit Go.Shelf
set_option maxRecDepth 100000 in
set_option maxHeartbeats 4000000 in
theorem operands_own (s : StepN) (hs : StepIn s) (ka sa : Option Addr) (kc sc : Nat) (w : World) :
  Calls Tryz.prog 100 #[stepv s ka kc sa sc] w fun e w' => ∃ b c, e = .returned (.slice (some ⟨b, 0, none⟩) (opsN s).length c) ∧ Blk w' b 3 ((opsN s).map (Value.int .i64)).toArray ∧ w.heap.size ≤ b ∧ Below w.heap.size w w' := by
 have hB : Below w.heap.size w w := Below.refl _ _
 have hop := hs.op
 obtain ⟨V1, hEV1, hbV1, k1⟩ := newB w 76 #[.int .u8 s.op, .int .i64 s.a, .int .i64 s.b, .int .i64 s.pt.mul, .int .i64 s.pt.add, .int .i64 s.pt.div, .int .i64 s.pt.lo, .int .i64 s.pt.hi, .int .u8 s.how, .int .i64 s.kw, .int .i64 s.kh, .slice ka s.taps.length kc, .int .u8 s.bd, .int .i64 s.sw, .int .i64 s.sh, .slice sa s.bits.length sc]
 replace hB := tmB hB hbV1
 clear hbV1
 obtain ⟨m0, m1, m2, m3, m4, m5, m6, m7, m8, m9, m10, m11, m12, m13, m14, m15⟩ := cz16 k1
 unfold opsN
 by_cases h2 : s.op = 2
 case pos =>
  have e1 : (s.op == 2) = true := by simp [h2]
  by_cases hab : s.a = s.b
  case pos =>
   have e2 : (s.a != s.b) = false := by simp [hab]
   have e3 : (s.a == s.b) = true := by simp [hab]
   rw [if_neg (fun h => h.2 hab)]
   clear h2 hab
   have hbv : Below V1.heap.size V1 (V1.alloc (.cells #[.int .i64 s.a] 3)) := jb_al (Below.refl _ V1) _
   have kv := Blk.new V1 3 #[.int .i64 s.a]
   go_enter Tryz.func100, Tryz.ntmps100
   go_wp2_with fail
   go_ret
   exact ⟨_, _, rfl, kv, hB.size, hB.trans (hbv.mono hB.size)⟩
  case neg =>
   have e2 : (s.a != s.b) = true := by simp [hab]
   have e3 : (s.a == s.b) = false := by simp [hab]
   rw [if_pos ⟨h2, hab⟩]
   clear h2 hab
   have hbv : Below V1.heap.size V1 (V1.alloc (.cells #[.int .i64 s.a, .int .i64 s.b] 3)) := jb_al (Below.refl _ V1) _
   have kv := Blk.new V1 3 #[.int .i64 s.a, .int .i64 s.b]
   go_enter Tryz.func100, Tryz.ntmps100
   go_wp2_with fail
   go_ret
   exact ⟨_, _, rfl, kv, hB.size, hB.trans (hbv.mono hB.size)⟩
 case neg =>
  have e1 : (s.op == 2) = false := by simp [h2]
  rw [if_neg (fun h => h2 h.1)]
  try clear h2
  have hbv : Below V1.heap.size V1 (V1.alloc (.cells #[.int .i64 s.a] 3)) := jb_al (Below.refl _ V1) _
  have kv := Blk.new V1 3 #[.int .i64 s.a]
  go_enter Tryz.func100, Tryz.ntmps100
  go_wp2_with fail
  go_ret
  exact ⟨_, _, rfl, kv, hB.size, hB.trans (hbv.mono hB.size)⟩
theorem ops_cell {W : World} {b : Nat} {L : List Int} (h : Blk W b 3 (L.map (Value.int .i64)).toArray) {j : Nat} (hj : j < L.length) : W.cell? ⟨b, j, none⟩ = some (.int .i64 (L[j]?.getD 0)) := h.cell (by simp [List.getElem?_eq_getElem hj])
theorem sum_le : ∀ (l : List RndN) (q : Nat), q < l.length → (rnAt l q).pts.length + 1 ≤ sumR l
 | [], q, h => by simp at h
 | a :: l, 0, _ => by unfold sumR; simp [rnAt]
 | a :: l, q + 1, h => by
  have := sum_le l q (by simpa using h)
  have e : rnAt (a :: l) (q + 1) = rnAt l q := by simp [rnAt]
  rw [e]
  unfold sumR at this ⊢
  simp only [List.map_cons, List.sum_cons]
  omega
theorem pts_le {I : Int} {ss : List StepN} (hr : RefOk I ss) {k : Nat} (hk : k ≤ ss.length) {q : Nat} (hq : q < (rdsS I (useF ss ss.length) ss k).out.length) : (rnAt (rdsS I (useF ss ss.length) ss k).out q).pts.length ≤ k := by
 have h1 := pts_count hr k hk
 have := sum_le _ q hq
 omega
def loopsC : Code → List Code
 | .loop c => c :: loopsC c
 | .seq a b => loopsC a ++ loopsC b
 | .block _ c => loopsC c
 | .scope c => loopsC c
 | .cond _ a b => loopsC a ++ loopsC b
 | _ => []
noncomputable def loopN (b : Option Code) (k : Nat) : Code := ((b.map loopsC).bind (fun l => l[k]?)).getD .skip
/-- Behind the first loop. -/
def FrX (bp bu : Nat) (A : Act) : Prop := ∃ u : Nat → Value, A = ⟨#[u 0, .pointer (some ⟨bp, 0, none⟩), .slice none 0 0, .map (some bu), u 4, u 5, u 6, u 7, u 8, u 9, u 10, u 11, u 12, u 13, u 14, u 15, u 16, u 17, u 18, u 19, u 20, u 21, u 22, u 23, u 24, u 25, u 26, u 27, u 28, u 29, u 30, u 31, u 32, u 33, u 34, u 35, u 36, u 37, u 38, u 39, u 40, u 41, u 42, u 43, u 44, u 45, u 46, u 47, u 48, u 49, u 50, u 51, u 52, u 53, u 54, u 55, u 56, u 57, u 58, u 59, u 60, u 61, u 62, u 63, u 64, u 65, u 66, u 67, u 68, u 69, u 70, u 71, u 72, u 73, u 74, u 75, u 76, u 77, u 78, u 79, u 80, u 81, u 82, u 83, u 84, u 85, u 86, u 87, u 88, u 89, u 90, u 91, u 92, u 93, u 94, u 95, u 96, u 97, u 98, u 99, u 100, u 101, u 102, u 103, u 104, u 105, u 106], []⟩
set_option maxRecDepth 100000 in
set_option maxHeartbeats 8000000 in
theorem rounds_l1 (In : Nat) (ss : List StepN) (a : Option Addr) (n c : Nat) (hnH : Hid (ss.length = n)) (hn12 : n ≤ 12) (hI : In ≤ 3) (hstH : Hid (∀ i, i < n → StepIn (stAt ss i))) (hr0H : Hid (RefOk (In : Int) ss)) (B0 : Nat) (w : World) (hB0 : B0 ≤ w.heap.size) (hr : RdSs B0 w a ss) (WW HH : Int) (M : Nat) (hMI : (M : Int) = (In : Int) + n) (hM20 : M < 20) (bp bu : Nat) (hbpw : w.heap.size ≤ bp) (hbuw : bp < bu) (V2 : World) (hu : OwnF Tryz.prog 3 3 V2 bu 0 (fun _ => none) M) (kp : Blk V2 bp 24 #[.int .i64 WW, .int .i64 HH, .int .i64 (In : Int), .slice a n c]) (hB : Below w.heap.size w V2) (A0 : Act) (Q0 : Exit → Act → World → Prop) (hA0 : ∃ u : Nat → Value, A0 = ⟨#[u 0, .pointer (some ⟨bp, 0, none⟩), .slice none 0 0, .map (some bu), u 4, u 5, u 6, u 7, u 8, u 9, u 10, u 11, u 12, u 13, u 14, u 15, .slice a n c, .int .i64 (n : Int), .int .i64 ((0 : Nat) : Int), u 19, u 20, u 21, u 22, u 23, u 24, u 25, u 26, u 27, u 28, u 29, u 30, u 31, u 32, u 33, u 34, u 35, u 36, u 37, u 38, u 39, u 40, u 41, u 42, u 43, u 44, u 45, u 46, u 47, u 48, u 49, u 50, u 51, u 52, u 53, u 54, u 55, u 56, u 57, u 58, u 59, u 60, u 61, u 62, u 63, u 64, u 65, u 66, u 67, u 68, u 69, u 70, u 71, u 72, u 73, u 74, u 75, u 76, u 77, u 78, u 79, u 80, u 81, u 82, u 83, u 84, u 85, u 86, u 87, u 88, u 89, u 90, u 91, u 92, u 93, u 94, u 95, u 96, u 97, u 98, u 99, u 100, u 101, u 102, u 103, u 104, u 105, u 106], []⟩)
  (hexit : ∀ (A : Act) (w' : World), FrX bp bu A → OwnF Tryz.prog 3 3 w' bu (2 * n) (useF ss n) M → Blk w' bp 24 #[.int .i64 WW, .int .i64 HH, .int .i64 (In : Int), .slice a n c] → Below w.heap.size w w' → Q0 (.exit 0) A w') :
  Code.wp Tryz.prog (Code.loop (loopN Tryz.f51.body 0)) Q0 A0 V2 := by
 obtain ⟨u, rfl⟩ := hA0
 have hu0 : OwnF Tryz.prog 3 3 V2 bu (2 * 0) (useF ss 0) M := hu
 clear hu
 unfold loopN
 conv => arg 2; arg 1; whnf
 dsimp only
 go_loopw [18] (fun i wr => ∃ k : Nat, k ≤ n ∧ i = .int .i64 (k : Int) ∧ OwnF Tryz.prog 3 3 wr bu (2 * k) (useF ss k) M ∧ Blk wr (bp) 24 #[.int .i64 WW, .int .i64 HH, .int .i64 (In : Int), .slice a n c] ∧ Below w.heap.size w wr) (fun i _ => n - (intOf i).toNat)
 case atStart => exact ⟨0, Nat.zero_le _, rfl, hu0, kp, hB⟩
 case round =>
  clear hu0 kp hB
  obtain ⟨k, hk, rfl, hu, kp, hB⟩ := hrel
  by_cases hlt : k < n
  case pos =>
   have hkl : k < ss.length := by have := hnH.out; omega
   have hs := hstH.out k hlt
   have hltd : decide ((k : Int) < (n : Int)) = true := by simp; omega
   obtain ⟨b, o, ka, kc, sa, sc, rfl, hbl, hst⟩ : ∃ b o ka kc sa sc, a = some ⟨b, o, none⟩ ∧ b < B0 ∧ StAt B0 w b (o + k * 16) (stAt ss k) ka kc sa sc := by
    rcases hr with h | ⟨b, o, h1, h2, h3⟩
    ·exfalso; rw [h] at hkl; simp at hkl
    ·obtain ⟨ka, kc, sa, sc, e⟩ := h3 k hkl
     exact ⟨b, o, ka, kc, sa, sc, h1, h2, e⟩
   have hrefk := hr0H.out k hkl
   have hstep : incL (useF ss k) (opsN (stAt ss k)) = useF ss (k + 1) := rfl
   obtain ⟨s, hse⟩ : ∃ s, stAt ss k = s := ⟨_, rfl⟩
   rw [hse] at hs hst hrefk hstep
   have hseH := Lib.hid hse
   have hrefH := Lib.hid hrefk
   have hstepH := Lib.hid hstep
   clear hse hrefk hstep
   obtain ⟨hcell, hta, hbi⟩ := hst
   have c0 : wr.cell? ⟨b, o + k * 16, none⟩ = some (.int .u8 s.op) := (hB.cell (p := ⟨b, o + k * 16, none⟩) (Nat.lt_of_lt_of_le hbl hB0)).trans (hcell 0 _ rfl)
   have c1 : wr.cell? ⟨b, o + k * 16 + 1, none⟩ = some (.int .i64 s.a) := (hB.cell (p := ⟨b, o + k * 16 + 1, none⟩) (Nat.lt_of_lt_of_le hbl hB0)).trans (hcell 1 _ rfl)
   have c2 : wr.cell? ⟨b, o + k * 16 + 2, none⟩ = some (.int .i64 s.b) := (hB.cell (p := ⟨b, o + k * 16 + 2, none⟩) (Nat.lt_of_lt_of_le hbl hB0)).trans (hcell 2 _ rfl)
   have c3 : wr.cell? ⟨b, o + k * 16 + 3, none⟩ = some (.int .i64 s.pt.mul) := (hB.cell (p := ⟨b, o + k * 16 + 3, none⟩) (Nat.lt_of_lt_of_le hbl hB0)).trans (hcell 3 _ rfl)
   have c4 : wr.cell? ⟨b, o + k * 16 + 4, none⟩ = some (.int .i64 s.pt.add) := (hB.cell (p := ⟨b, o + k * 16 + 4, none⟩) (Nat.lt_of_lt_of_le hbl hB0)).trans (hcell 4 _ rfl)
   have c5 : wr.cell? ⟨b, o + k * 16 + 5, none⟩ = some (.int .i64 s.pt.div) := (hB.cell (p := ⟨b, o + k * 16 + 5, none⟩) (Nat.lt_of_lt_of_le hbl hB0)).trans (hcell 5 _ rfl)
   have c6 : wr.cell? ⟨b, o + k * 16 + 6, none⟩ = some (.int .i64 s.pt.lo) := (hB.cell (p := ⟨b, o + k * 16 + 6, none⟩) (Nat.lt_of_lt_of_le hbl hB0)).trans (hcell 6 _ rfl)
   have c7 : wr.cell? ⟨b, o + k * 16 + 7, none⟩ = some (.int .i64 s.pt.hi) := (hB.cell (p := ⟨b, o + k * 16 + 7, none⟩) (Nat.lt_of_lt_of_le hbl hB0)).trans (hcell 7 _ rfl)
   have c8 : wr.cell? ⟨b, o + k * 16 + 8, none⟩ = some (.int .u8 s.how) := (hB.cell (p := ⟨b, o + k * 16 + 8, none⟩) (Nat.lt_of_lt_of_le hbl hB0)).trans (hcell 8 _ rfl)
   have c9 : wr.cell? ⟨b, o + k * 16 + 9, none⟩ = some (.int .i64 s.kw) := (hB.cell (p := ⟨b, o + k * 16 + 9, none⟩) (Nat.lt_of_lt_of_le hbl hB0)).trans (hcell 9 _ rfl)
   have c10 : wr.cell? ⟨b, o + k * 16 + 10, none⟩ = some (.int .i64 s.kh) := (hB.cell (p := ⟨b, o + k * 16 + 10, none⟩) (Nat.lt_of_lt_of_le hbl hB0)).trans (hcell 10 _ rfl)
   have c11 : wr.cell? ⟨b, o + k * 16 + 11, none⟩ = some (.slice ka s.taps.length kc) := (hB.cell (p := ⟨b, o + k * 16 + 11, none⟩) (Nat.lt_of_lt_of_le hbl hB0)).trans (hcell 11 _ rfl)
   have c12 : wr.cell? ⟨b, o + k * 16 + 12, none⟩ = some (.int .u8 s.bd) := (hB.cell (p := ⟨b, o + k * 16 + 12, none⟩) (Nat.lt_of_lt_of_le hbl hB0)).trans (hcell 12 _ rfl)
   have c13 : wr.cell? ⟨b, o + k * 16 + 13, none⟩ = some (.int .i64 s.sw) := (hB.cell (p := ⟨b, o + k * 16 + 13, none⟩) (Nat.lt_of_lt_of_le hbl hB0)).trans (hcell 13 _ rfl)
   have c14 : wr.cell? ⟨b, o + k * 16 + 14, none⟩ = some (.int .i64 s.sh) := (hB.cell (p := ⟨b, o + k * 16 + 14, none⟩) (Nat.lt_of_lt_of_le hbl hB0)).trans (hcell 14 _ rfl)
   have c15 : wr.cell? ⟨b, o + k * 16 + 15, none⟩ = some (.slice sa s.bits.length sc) := (hB.cell (p := ⟨b, o + k * 16 + 15, none⟩) (Nat.lt_of_lt_of_le hbl hB0)).trans (hcell 15 _ rfl)
   clear hcell
   obtain ⟨m0, m1, m2, m3⟩ := cz4 kp
   obtain ⟨V11, hEV11, hbV11, ks⟩ := newB wr 76 #[.int .u8 s.op, .int .i64 s.a, .int .i64 s.b, .int .i64 s.pt.mul, .int .i64 s.pt.add, .int .i64 s.pt.div, .int .i64 s.pt.lo, .int .i64 s.pt.hi, .int .u8 s.how, .int .i64 s.kw, .int .i64 s.kh, .slice ka s.taps.length kc, .int .u8 s.bd, .int .i64 s.sw, .int .i64 s.sh, .slice sa s.bits.length sc]
   clear m0 m1 m2 m3
   replace kp := kp.below hbV11 kp.lt
   replace hu := hu.below hbV11
   replace hB := tmB hB hbV11
   clear hbV11
   obtain ⟨y0, y1, y2, y3, y4, y5, y6, y7, y8, y9, y10, y11, y12, y13, y14, y15⟩ := cz16 ks
   go_wp2_with fail
   clear hEV11
   refine (operands_own s hs ka sa kc sc V11).mono ?_
   rintro e V12 ⟨bo, oc, rfl, kq, hbo, hb⟩
   clear y0 y1 y2 y3 y4 y5 y6 y7 y8 y9 y10 y11 y12 y13 y14 y15
   replace kp := kp.below hb kp.lt
   replace ks := ks.below hb ks.lt
   replace hu := hu.below hb
   replace hB := tmB hB hb
   clear hb
   clear c0 c1 c2 c3 c4 c5 c6 c7 c8 c9 c10 c11 c12 c13 c14 c15
   clear ks
   obtain ⟨ol1, ol2⟩ := opsN_len s
   obtain ⟨L, hL⟩ : ∃ L, opsN s = L := ⟨_, rfl⟩
   rw [hL] at kq ol1 ol2 hrefH hstepH ⊢
   obtain ⟨m, hm⟩ : ∃ m, L.length = m := ⟨_, rfl⟩
   have hmH := Lib.hid hm
   rw [hm] at ol1 ol2 ⊢
   clear hL hm
   go_wp2_with fail
   clear hltd
   have hu0 : OwnF Tryz.prog 3 3 V12 bu (2 * k + 0) (incL (useF ss k) (L.take 0)) M := hu
   have hbq : bu ≠ bo := fun e => hu.not_cells kq e.symm
   clear hu
   go_loopw [25] (fun i wr => ∃ j : Nat, j ≤ m ∧ i = .int .i64 (j : Int) ∧ OwnF Tryz.prog 3 3 wr bu (2 * k + j) (incL (useF ss k) (L.take j)) M ∧ Blk wr bo 3 (L.map (Value.int .i64)).toArray ∧ Blk wr (bp) 24 #[.int .i64 WW, .int .i64 HH, .int .i64 (In : Int), .slice (some ⟨b, o, none⟩) n c] ∧ Below w.heap.size w wr) (fun i _ => m - (intOf i).toNat)
   case atStart => exact ⟨0, Nat.zero_le _, rfl, hu0, kq, kp, hB⟩
   case round =>
    clear hu0 kq kp hB
    obtain ⟨j, hj, rfl, hu, kq, kp, hB⟩ := hrel
    by_cases hlt2 : j < m
    case pos =>
     have hltd : decide ((j : Int) < (m : Int)) = true := by simp; omega
     have hjL : j < L.length := by have := hmH.out; omega
     have hcj := ops_cell kq hjL
     have hbd := hrefH.out _ (List.getElem_mem hjL)
     have hnx := incL_take (F := useF ss k) hjL
     have hle := incL_le (L.take j) (useF ss k) k (useF_le ss k)
     rw [List.length_take] at hle
     rw [show L[j] = L[j]?.getD 0 by rw [List.getElem?_eq_getElem hjL]; rfl] at hbd
     obtain ⟨x, hx⟩ : ∃ x, L[j]?.getD 0 = x := ⟨_, rfl⟩
     rw [hx] at hcj hbd hnx
     obtain ⟨X, rfl⟩ : ∃ X : Nat, x = (X : Int) := ⟨x.toNat, by omega⟩
     have hlk := hu.run_look Tryz.underlying3 Tryz.underlying101 Tryz.underlying3 (zero_num _) (X : Int) (wf_num ⟨by omega, by omega⟩)
     have hle2 := hle (X : Int)
     clear hle hx
     unfold incF at hnx
     obtain ⟨G, hG⟩ : ∃ G, incL (useF ss k) (L.take j) = G := ⟨_, rfl⟩
     rw [hG] at hu hnx hlk hle2
     obtain ⟨q, hq⟩ : ∃ q, numF (G (X : Int)) = q := ⟨_, rfl⟩
     rw [hq] at hnx hlk hle2
     have hle3 : 0 ≤ q ∧ q ≤ 100 := by omega
     have hnxH := Lib.hid hnx
     clear hG hq hnx hle2
     go_wp2_with (at_mapUpdate; refine OwnF.putw _ rfl _ _ _ _ rfl Tryz.underlying3 Tryz.underlying101 bu rfl hu (by omega) X (by omega) (by omega) _ _ rfl rfl (plainElem_int Tryz.underlying3 (wf_num ⟨by omega, by omega⟩)) ?_; intro w1 hu1 hg1)
     refine ⟨⟨j + 1, by omega, by go_num, by rw [hnxH.out]; exact hu1, kq.kept hg1 (by simp; omega), kp.kept hg1 (by simp; omega), hB.grown hg1 hB.size (fun t e => by injection e with e; omega)⟩, by simp [intOf]; omega⟩
    case neg =>
     have hltd : decide ((j : Int) < (m : Int)) = false := by simp; omega
     have hjm : j = m := by omega
     subst hjm
     have hLt : L.take j = L := List.take_of_length_le (by have := hmH.out; omega)
     rw [hLt, hstepH.out] at hu
     have hu2 := hu.mono (n' := 2 * (k + 1)) (by omega)
     clear hu hLt
     go_wp2_with fail
     go_roundw
     case rel => exact ⟨k + 1, by omega, by go_num, hu2, kp, hB⟩
     case measure => simp [intOf]; omega
  case neg =>
   have hltd : decide ((k : Int) < (n : Int)) = false := by simp; omega
   have hkn : n = k := by omega
   subst hkn
   have hfin := fun A hA => hexit A wr hA hu kp hB
   clear hu kp hB hexit
   go_wp2_with fail
   exact ex_fnQ rfl
/-- Between the rounds of the second loop. -/
def I2 (In : Nat) (ss : List StepN) (a : Option Addr) (n c : Nat) (B0 : Nat) (w : World) (WW HH : Int) (M bp bu bf : Nat) (U : FnL) (A : Act) (wr : World) : Prop :=
 ∃ (k : Nat) (v : Value) (x : Nat → RndA), k ≤ n ∧ RdI B0 w.heap.size wr v (rdsS (In : Int) U ss k).out.length x bf (2 * k) (rdsS (In : Int) U ss k).of bu (2 * n) U M (bp) #[.int .i64 WW, .int .i64 HH, .int .i64 (In : Int), .slice a n c] ∧ Hid (∀ q, q < (rdsS (In : Int) U ss k).out.length → (x q).r = rnAt (rdsS (In : Int) U ss k).out q) ∧ Below w.heap.size w wr ∧ ∃ u : Nat → Value, A = ⟨#[u 0, .pointer (some ⟨bp, 0, none⟩), u 2, .map (some bu), u 4, u 5, u 6, u 7, v, .map (some bf), u 10, u 11, u 12, u 13, u 14, u 15, u 16, u 17, u 18, u 19, u 20, u 21, u 22, u 23, u 24, u 25, u 26, u 27, u 28, u 29, u 30, u 31, u 32, u 33, u 34, u 35, u 36, .slice a n c, .int .i64 (n : Int), .int .i64 ((k : Nat) : Int), u 40, u 41, u 42, u 43, u 44, u 45, u 46, u 47, u 48, u 49, u 50, u 51, u 52, u 53, u 54, u 55, u 56, u 57, u 58, u 59, u 60, u 61, u 62, u 63, u 64, u 65, u 66, u 67, u 68, u 69, u 70, u 71, u 72, u 73, u 74, u 75, u 76, u 77, u 78, u 79, u 80, u 81, u 82, u 83, u 84, u 85, u 86, u 87, u 88, u 89, u 90, u 91, u 92, u 93, u 94, u 95, u 96, u 97, u 98, u 99, u 100, u 101, u 102, u 103, u 104, u 105, u 106], []⟩
def mu2 (n : Nat) (A : Act) (_ : World) : Nat := n - (intOf (A.tmps.getD 39 undef)).toNat
end Go.Proofs.YtekiemlniegddaaGreat

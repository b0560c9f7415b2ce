/- Contracts and laws (McD, OpV, OpC, ImgL, PsA, PsB, Twn, PsV). -/
import Derived.Deep.MidRow
import Derived.Great.Walk
import Derived.Test.YtekiemlniegddaaQR5
import Derived.Test.YtekiemlniegddaaQR3
import Derived.Test.YtekiemlniegddaaQR2
set_option linter.unusedVariables false
set_option linter.unusedSimpArgs false
namespace Go.Proofs.Ytekiemlniegddaa
open Go Go.RowKit Go.Shelf
set_option maxRecDepth 100000 in
set_option maxHeartbeats 4000000 in
theorem IndexL_any (p : Int → Bool) (fo : Nat) (lb : Array Value) (eg : ∀ args w, (callFunc fo args).run Try.prog w = .ok (.enter fo args) w) (xs : List Int) (a : Option Addr) (c n : Nat) (hn : xs.length = n) (hm : n ≤ 9223372036854775807) (w : World) (hr : Rd w.heap.size w a xs)
  (hof : ∀ i, i < n → ∀ (W : World), Below w.heap.size w W → Calls Try.prog fo (#[.int .i64 (xs[i]?.getD 0)] ++ lb) W fun e W' => e = .returned (.bool (p (xs[i]?.getD 0))) ∧ Below W.heap.size W W') :
  Calls Try.prog 88 #[.slice a n c, .func (.func fo) #[] lb] w fun e w' => (∃ k : Int, e = .returned (.int .i64 k) ∧ decide (0 ≤ k) = xs.any p) ∧ Below w.heap.size w w' := by
 have hnH := Lib.hid hn
 have hofH := Lib.hid hof
 clear hn hof
 go_enter Try.func88, Try.ntmps88
 go_wp2
 go_loopw [5, 8] (fun v i wr => ∃ k : Nat, k ≤ n ∧ i = .int .i64 k ∧ Hid ((xs.take k).any p = false) ∧ Below w.heap.size w wr) (fun _ i _ => n - (intOf i).toNat)
 case atStart => exact ⟨0, Nat.zero_le _, rfl, Lib.hid (by simp), Below.refl _ _⟩
 case round =>
  obtain ⟨k, hk, rfl, hall, hB⟩ := hrel
  by_cases hlt : k < n
  ·have hlt' : k < xs.length := by have := hnH.out; omega
   rcases hr with h0 | ⟨b, o, rfl, hb, hc⟩
   ·exfalso; rw [h0] at hlt'; simp at hlt'
   have c0 := (hB.cell (p := ⟨b, o + k, none⟩) hb).trans (hc k hlt')
   have hcall := hofH.out k hlt wr hB
   obtain ⟨y, hy⟩ : ∃ y, xs[k]?.getD 0 = y := ⟨_, rfl⟩
   have hpk : (xs.take (k + 1)).any p = ((xs.take k).any p || p (xs[k]?.getD 0)) := by
    rw [List.take_succ_eq_append_getElem hlt', List.any_append]; rw [List.getElem?_eq_getElem hlt']; simp
   have hhit : p (xs[k]?.getD 0) = true → xs.any p = true := fun h => by
    rw [List.getElem?_eq_getElem hlt'] at h
    exact List.any_eq_true.2 ⟨_, List.getElem_mem hlt', h⟩
   obtain ⟨pk, hpe⟩ : ∃ v, p (xs[k]?.getD 0) = v := ⟨_, rfl⟩
   rw [hpe] at hcall hpk hhit
   rw [hall.out, Bool.false_or] at hpk
   have hpkH := Lib.hid hpk
   have hhitH := Lib.hid hhit
   have hcallH := Lib.hid hcall
   clear hpe hpk hhit hcall
   rw [hy] at c0 hcallH
   clear hc hy
   cases pk with
   | true =>
    go_wp2_with (go_at_fn fo; refine hcallH.out.mono ?_; rintro e w2 ⟨rfl, hb2⟩)
    go_ret
    exact ⟨⟨_, rfl, by rw [hhitH.out trivial]; simp⟩, hB.trans (hb2.mono hB.size)⟩
   | false =>
    go_wp2_with (go_at_fn fo; refine hcallH.out.mono ?_; rintro e w2 ⟨rfl, hb2⟩)
    go_roundw
    case rel => exact ⟨k + 1, by omega, by go_num, Lib.hid hpkH.out, hB.trans (hb2.mono hB.size)⟩
    case measure => simp [intOf]; omega
  ·go_wp2
   go_ret
   have hall2 := hall.out
   rw [List.take_of_length_le (by have := hnH.out; omega)] at hall2
   exact ⟨⟨_, rfl, by rw [hall2]; rfl⟩, hB⟩
set_option maxRecDepth 100000 in
set_option maxHeartbeats 1000000 in
theorem ContainsL_any (p : Int → Bool) (fo : Nat) (lb : Array Value) (eg : ∀ args w, (callFunc fo args).run Try.prog w = .ok (.enter fo args) w) (xs : List Int) (a : Option Addr) (c n : Nat) (hn : xs.length = n) (hm : n ≤ 9223372036854775807) (w : World) (hr : Rd w.heap.size w a xs)
  (hof : ∀ i, i < n → ∀ (W : World), Below w.heap.size w W → Calls Try.prog fo (#[.int .i64 (xs[i]?.getD 0)] ++ lb) W fun e W' => e = .returned (.bool (p (xs[i]?.getD 0))) ∧ Below W.heap.size W W') :
  Calls Try.prog 45 #[.slice a n c, .func (.func fo) #[] lb] w fun e w' => e = .returned (.bool (xs.any p)) ∧ Below w.heap.size w w' := by
 have hc := IndexL_any p fo lb eg xs a c n hn hm w hr hof
 clear hof eg
 go_enter Try.func45, Try.ntmps45
 go_wp2_with (go_at_call 88; refine hc.mono ?_; rintro e w' ⟨⟨k, rfl, hk⟩, hb⟩)
 all_goals go_ret
 all_goals exact ⟨ret_bool (by rw [← hk]), hb⟩
set_option maxRecDepth 100000 in
set_option maxHeartbeats 4000000 in
theorem IndexC_any (p : InsN → Bool) (fo : Nat) (lb : Array Value) (eg : ∀ args w, (callFunc fo args).run Try.prog w = .ok (.enter fo args) w) (xs : List InsN) (a : Option Addr) (c n : Nat) (hn : xs.length = n) (hm : n ≤ 9223372036854775807) (w : World) (hr : RdCs w.heap.size w a xs)
  (hof : ∀ i, i < n → ∀ (W : World) (ia : Option Addr) (ic : Nat), Below w.heap.size w W → Rd W.heap.size W ia (insAt xs i).ad → Calls Try.prog fo (#[insv (insAt xs i) ia ic] ++ lb) W fun e W' => e = .returned (.bool (p (insAt xs i))) ∧ Below W.heap.size W W') :
  Calls Try.prog 89 #[.slice a n c, .func (.func fo) #[] lb] w fun e w' => (∃ k : Int, e = .returned (.int .i64 k) ∧ decide (0 ≤ k) = xs.any p) ∧ Below w.heap.size w w' := by
 have hnH := Lib.hid hn
 have hofH := Lib.hid hof
 clear hn hof
 go_enter Try.func89, Try.ntmps89
 go_wp2
 go_loopw [5, 8] (fun v i wr => ∃ k : Nat, k ≤ n ∧ i = .int .i64 k ∧ Hid ((xs.take k).any p = false) ∧ Below w.heap.size w wr) (fun _ i _ => n - (intOf i).toNat)
 case atStart => exact ⟨0, Nat.zero_le _, rfl, Lib.hid (by simp), Below.refl _ _⟩
 case round =>
  obtain ⟨k, hk, rfl, hall, hB⟩ := hrel
  by_cases hlt : k < n
  ·have hlt' : k < xs.length := by have := hnH.out; omega
   rcases hr with h0 | ⟨b, o, rfl, hb, hc⟩
   ·exfalso; rw [h0] at hlt'; simp at hlt'
   obtain ⟨ia, ic, hcell, had⟩ := hc k hlt'
   have c0 : wr.cell? ⟨b, o + k * 12, none⟩ = some (.int .u8 (insAt xs k).op) := (hB.cell (p := ⟨b, o + k * 12, none⟩) hb).trans (hcell 0 _ rfl)
   have c1 : wr.cell? ⟨b, o + k * 12 + 1, none⟩ = some (.int .i64 (insAt xs k).d) := (hB.cell (p := ⟨b, o + k * 12 + 1, none⟩) hb).trans (hcell 1 _ rfl)
   have c2 : wr.cell? ⟨b, o + k * 12 + 2, none⟩ = some (.int .i64 (insAt xs k).a) := (hB.cell (p := ⟨b, o + k * 12 + 2, none⟩) hb).trans (hcell 2 _ rfl)
   have c3 : wr.cell? ⟨b, o + k * 12 + 3, none⟩ = some (.int .i64 (insAt xs k).b) := (hB.cell (p := ⟨b, o + k * 12 + 3, none⟩) hb).trans (hcell 3 _ rfl)
   have c4 : wr.cell? ⟨b, o + k * 12 + 4, none⟩ = some (.int .i64 (insAt xs k).val) := (hB.cell (p := ⟨b, o + k * 12 + 4, none⟩) hb).trans (hcell 4 _ rfl)
   have c5 : wr.cell? ⟨b, o + k * 12 + 5, none⟩ = some (.int .i64 (insAt xs k).pt.mul) := (hB.cell (p := ⟨b, o + k * 12 + 5, none⟩) hb).trans (hcell 5 _ rfl)
   have c6 : wr.cell? ⟨b, o + k * 12 + 6, none⟩ = some (.int .i64 (insAt xs k).pt.add) := (hB.cell (p := ⟨b, o + k * 12 + 6, none⟩) hb).trans (hcell 6 _ rfl)
   have c7 : wr.cell? ⟨b, o + k * 12 + 7, none⟩ = some (.int .i64 (insAt xs k).pt.div) := (hB.cell (p := ⟨b, o + k * 12 + 7, none⟩) hb).trans (hcell 7 _ rfl)
   have c8 : wr.cell? ⟨b, o + k * 12 + 8, none⟩ = some (.int .i64 (insAt xs k).pt.lo) := (hB.cell (p := ⟨b, o + k * 12 + 8, none⟩) hb).trans (hcell 8 _ rfl)
   have c9 : wr.cell? ⟨b, o + k * 12 + 9, none⟩ = some (.int .i64 (insAt xs k).pt.hi) := (hB.cell (p := ⟨b, o + k * 12 + 9, none⟩) hb).trans (hcell 9 _ rfl)
   have c10 : wr.cell? ⟨b, o + k * 12 + 10, none⟩ = some (.int .u8 (insAt xs k).how) := (hB.cell (p := ⟨b, o + k * 12 + 10, none⟩) hb).trans (hcell 10 _ rfl)
   have c11 : wr.cell? ⟨b, o + k * 12 + 11, none⟩ = some (.slice ia (insAt xs k).ad.length ic) := (hB.cell (p := ⟨b, o + k * 12 + 11, none⟩) hb).trans (hcell 11 _ rfl)
   have hcall := hofH.out k hlt wr ia ic hB (later_i had hB)
   have hpk : (xs.take (k + 1)).any p = ((xs.take k).any p || p (insAt xs k)) := by
    rw [List.take_succ_eq_append_getElem hlt', List.any_append]; unfold insAt; rw [List.getElem?_eq_getElem hlt']; simp
   have hhit : p (insAt xs k) = true → xs.any p = true := fun h => by
    unfold insAt at h; rw [List.getElem?_eq_getElem hlt'] at h
    exact List.any_eq_true.2 ⟨_, List.getElem_mem hlt', h⟩
   obtain ⟨pk, hpe⟩ : ∃ v, p (insAt xs k) = v := ⟨_, rfl⟩
   rw [hpe] at hcall hpk hhit
   rw [hall.out, Bool.false_or] at hpk
   have hpkH := Lib.hid hpk
   have hhitH := Lib.hid hhit
   have hcallH := Lib.hid hcall
   clear hpe hpk hhit hcall
   obtain ⟨y, hy⟩ : ∃ y, insAt xs k = y := ⟨_, rfl⟩
   rw [hy] at c0 c1 c2 c3 c4 c5 c6 c7 c8 c9 c10 c11 hcallH
   clear hc hy hcell had
   cases pk with
   | true =>
    go_wp2_with (go_at_fn fo; refine hcallH.out.mono ?_; rintro e w2 ⟨rfl, hb2⟩)
    go_ret
    exact ⟨⟨_, rfl, by rw [hhitH.out trivial]; simp⟩, hB.trans (hb2.mono hB.size)⟩
   | false =>
    go_wp2_with (go_at_fn fo; refine hcallH.out.mono ?_; rintro e w2 ⟨rfl, hb2⟩)
    go_roundw
    case rel => exact ⟨k + 1, by omega, by go_num, Lib.hid hpkH.out, hB.trans (hb2.mono hB.size)⟩
    case measure => simp [intOf]; omega
  ·go_wp2
   go_ret
   have hall2 := hall.out
   rw [List.take_of_length_le (by have := hnH.out; omega)] at hall2
   exact ⟨⟨_, rfl, by rw [hall2]; rfl⟩, hB⟩
set_option maxRecDepth 100000 in
set_option maxHeartbeats 1000000 in
theorem ContainsC_any (p : InsN → Bool) (fo : Nat) (lb : Array Value) (eg : ∀ args w, (callFunc fo args).run Try.prog w = .ok (.enter fo args) w) (xs : List InsN) (a : Option Addr) (c n : Nat) (hn : xs.length = n) (hm : n ≤ 9223372036854775807) (w : World) (hr : RdCs w.heap.size w a xs)
  (hof : ∀ i, i < n → ∀ (W : World) (ia : Option Addr) (ic : Nat), Below w.heap.size w W → Rd W.heap.size W ia (insAt xs i).ad → Calls Try.prog fo (#[insv (insAt xs i) ia ic] ++ lb) W fun e W' => e = .returned (.bool (p (insAt xs i))) ∧ Below W.heap.size W W') :
  Calls Try.prog 46 #[.slice a n c, .func (.func fo) #[] lb] w fun e w' => e = .returned (.bool (xs.any p)) ∧ Below w.heap.size w w' := by
 have hc := IndexC_any p fo lb eg xs a c n hn hm w hr hof
 clear hof eg
 go_enter Try.func46, Try.ntmps46
 go_wp2_with (go_at_call 89; refine hc.mono ?_; rintro e w' ⟨⟨k, rfl, hk⟩, hb⟩)
 all_goals go_ret
 all_goals exact ⟨ret_bool (by rw [← hk]), hb⟩
/-- An address that is neither -1 nor in the range. -/
def oddP (last x : Int) : Bool := !decide (x = -1) && !inR x 0 last
set_option maxRecDepth 100000 in
set_option maxHeartbeats 2000000 in
theorem odd_any (last x : Int) (bl : Nat) (w : World) (kl : Blk w bl 3 #[.int .i64 last]) :
  Calls Try.prog 44 #[.int .i64 x, .pointer (some ⟨bl, 0, none⟩)] w fun e w' => e = .returned (.bool (oddP last x)) ∧ w' = w := by
 have l0 := kl.cell (i := 0) rfl
 unfold oddP
 obtain ⟨q, hq⟩ : ∃ q, inR x 0 last = q := ⟨_, rfl⟩
 have hqH := Lib.hid hq
 rw [hq]
 clear hq kl
 by_cases hx : x = -1
 ·subst hx
  go_enter Try.func44, Try.ntmps44
  go_wp2_with fail
  go_ret
  exact ⟨ret_bool (by simp), rfl⟩
 ·have hx2 : (x != -1) = true := by simp [hx]
  have hxH := Lib.hid hx
  clear hx
  go_enter Try.func44, Try.ntmps44
  go_wp2_with (go_at_call 38; refine (pwithin2 x 0 last q hqH.out _).mono ?_; rintro e w' ⟨rfl, hw⟩; rw [hw]; clear hw w')
  go_ret
  exact ⟨ret_bool (by simp [hxH.out]), rfl⟩
theorem enters_odd : ∀ args w, (callFunc 44 args).run Try.prog w = .ok (.enter 44 args) w := enters_of Try.func44 (by kernel_rfl) rfl
theorem wpList_callAny {P : Program} {ops : Array Oper} {rest : List Oper} {o : Oper} {a : Act} {w : World} {Q : Exit → Act → World → Prop} (hg : o.guard = none) (d : Option Tmp) (hd : o.dst = d)
  (f : FuncId) (args : Array Value) (hrun : (execOp a.eval o).run P w = .ok (.enter f args) w) (R : Ending → World → Prop) (hc : Calls P f args w R)
  (h : ∀ e w', R e w' → ∃ v, e = .returned v ∧ wpList P ops Q rest (a.put d v) w') : wpList P ops Q (o :: rest) a w := by
 subst hd
 refine wpList_plain hg fun K hK => ?_
 unfold Oper.wp
 rw [hrun, Oper.upon_enter]
 refine hc.mono fun e w2 hh => ?_
 obtain ⟨v, rfl, h2⟩ := h e w2 hh
 exact hK _ _ h2
theorem blk_range {W : World} {b : Nat} {e : TypeId} {T : Array Value} (k : Blk W b e T) : W.rangeAt b 0 T.toList := fun j v hv => by
 rw [Nat.zero_add]
 exact k.cell (by rw [← Array.getElem?_toList]; exact hv)
abbrev VecIn (v : VecN) : Prop := 1 ≤ v.lanes ∧ v.lanes ≤ 16 ∧ 2 ≤ v.regs ∧ v.regs ≤ 16 ∧ 1 ≤ v.mem ∧ v.mem ≤ 8192
abbrev TabIn (T : Array Value) : Prop := ∀ k, k < 7 → T[k * 6]? = some (.bool (needAt k).d) ∧ T[k * 6 + 1]? = some (.bool (needAt k).a) ∧ T[k * 6 + 2]? = some (.bool (needAt k).b) ∧ T[k * 6 + 3]? = some (.bool (needAt k).ad) ∧ T[k * 6 + 4]? = some (.int .i64 (needAt k).val) ∧ T[k * 6 + 5]? = some (needAt k).fn
set_option maxRecDepth 100000 in
set_option maxHeartbeats 4000000 in
theorem bad_any (v : VecN) (hv : VecIn v) (x : InsN) (hx : InsIn x) (ia : Option Addr) (ic bv bT : Nat) (T : Array Value) (hTs : T.size = 42) (hT : TabIn T) (w : World) (kv : Blk w bv 42 #[.int .i64 v.lanes, .int .i64 v.regs, .int .i64 v.mem]) (kT : Blk w bT 92 T) (hra : Rd w.heap.size w ia x.ad) :
  Calls Try.prog 47 #[insv x ia ic, .pointer (some ⟨bv, 0, none⟩), .pointer (some ⟨bT, 0, none⟩)] w fun e w' => e = .returned (.bool (!insB v x)) ∧ Below w.heap.size w w' := by
 have hB : Below w.heap.size w w := Below.refl _ _
 unfold insv
 have hxH := Lib.hid hx
 clear hx
 obtain ⟨V1, hEV1, hbV1, kx⟩ := newB w 95 #[.int .u8 x.op, .int .i64 x.d, .int .i64 x.a, .int .i64 x.b, .int .i64 x.val, .int .i64 x.pt.mul, .int .i64 x.pt.add, .int .i64 x.pt.div, .int .i64 x.pt.lo, .int .i64 x.pt.hi, .int .u8 x.how, .slice ia x.ad.length ic]
 replace kv := kv.below hbV1 kv.lt
 replace kT := kT.below hbV1 kT.lt
 replace hra := later_i hra hbV1
 replace hB := tmB hB hbV1
 clear hbV1
 obtain ⟨v0, v1, v2⟩ := cz3 kv
 obtain ⟨x0, x1, x2, x3, x4, x5, x6, x7, x8, x9, x10, x11⟩ := cz12 kx
 have hr0 := blk_range kv
 have hr1 := blk_range kx
 have hr2 := blk_range kT
 have hTs2 : (Try.prog.info? 92).map (·.size) = some T.toList.length := by rw [Array.length_toList, hTs]; kernel_rfl
 have hTT : T.toList.toArray = T := by simp
 go_enter Try.func47, Try.ntmps47
 go_upto_region 1 with fail
 refine wp_region_lit ?_
 refine wpList_load_mid rfl 42 _ rfl bv 0 rfl _ _ hr0 Try.underlying42 rfl (by kernel_rfl) ?_
 refine wpList_load_mid rfl 95 _ rfl w.heap.size 0 rfl _ _ hr1 Try.underlying95 rfl (by kernel_rfl) ?_
 refine wpList_load_mid rfl 92 _ rfl bT 0 rfl _ _ hr2 Try.underlying92 rfl hTs2 ?_
 rw [hTT]
 clear hr0 hr1 hr2 hTs2 hTT
 go_wp2_with (go_at_call 48; refine (instr_any v hv x hxH.out ia ic T hTs hT V1 hra).mono ?_; rintro e V9 ⟨rfl, hb⟩)
 replace hB := tmB hB hb
 clear hb
 go_ret
 exact ⟨rfl, hB⟩
theorem enters_bad : ∀ args w, (callFunc 47 args).run Try.prog w = .ok (.enter 47 args) w := enters_of Try.func47 (by kernel_rfl) rfl
abbrev vecv (v : VecN) : Value := .agg #[.int .i64 v.lanes, .int .i64 v.regs, .int .i64 v.mem]
abbrev codev (C : CodeN) (ia : Option Addr) (ic : Nat) (xa : Option Addr) (xc : Nat) : Value := .agg #[.int .i64 C.w, .int .i64 C.h, .slice ia C.inp.length ic, .int .i64 C.out, .slice xa C.ins.length xc]
/-- What a code's numbers are, as they came in. -/
structure CodeIn (C : CodeN) : Prop where
 il : C.inp.length ≤ 9223372036854775807
 xl : C.ins.length ≤ 9223372036854775807
 ins : ∀ i, i < C.ins.length → InsIn (insAt C.ins i)
theorem odd_is (m : Int) (l : List Int) : (l.any (oddP m)) = !l.all (fun x => decide (x = -1) || inR x 0 m) := by
 induction l with
 | nil => rfl
 | cons a l ih => simp only [List.any_cons, List.all_cons, ih]; unfold oddP; cases decide (a = -1) <;> cases inR a 0 m <;> simp
theorem bad_is (v : VecN) (l : List InsN) : (l.any fun x => !insB v x) = !l.all (insB v) := by
 induction l with
 | nil => rfl
 | cons a l ih => simp only [List.any_cons, List.all_cons, ih]; cases insB v a <;> simp
theorem codeB_is (v : VecN) (C : CodeN) : codeB v C = ((inR C.w 1 16 && inR C.h 1 16) && (decide (C.inp.length ≤ 3) && (decide (C.ins.length ≤ 200000) && (inR C.out 0 (v.mem - C.w * C.h) && (!C.inp.any (oddP (v.mem - C.w * C.h)) && !C.ins.any (fun x => !insB v x)))))) := by
 unfold codeB; rw [odd_is, bad_is]; simp
set_option maxRecDepth 100000 in
set_option maxHeartbeats 8000000 in
theorem CheckCode_any (v : VecN) (C : CodeN) (ia xa : Option Addr) (ic xc : Nat) (hC : CodeIn C) (w : World) (hri : Rd w.heap.size w ia C.inp) (hrx : RdCs w.heap.size w xa C.ins) :
  Calls Try.prog 18 #[vecv v, codev C ia ic xa xc] w fun e w' => e = .returned (.int .i64 (chkS v C)) ∧ Below w.heap.size w w' := by
 have hB : Below w.heap.size w w := Below.refl _ _
 obtain ⟨il0, xl0, hins⟩ := hC
 obtain ⟨R, hR⟩ : ∃ R, chkS v C = R := ⟨_, rfl⟩
 rw [hR]
 have hRH := Lib.hid hR
 have hcb := codeB_is v C
 obtain ⟨W, H, inp, out, ins⟩ := C
 unfold vecv codev
 simp only at il0 xl0 hri hrx hins hcb ⊢
 obtain ⟨ni, hni⟩ : ∃ l, inp.length = l := ⟨_, rfl⟩
 obtain ⟨nx, hnx⟩ : ∃ l, ins.length = l := ⟨_, rfl⟩
 have hniH := Lib.hid hni
 have hnxH := Lib.hid hnx
 have hinsH := Lib.hid hins
 rw [hni] at il0 hcb ⊢
 rw [hnx] at xl0 hcb ⊢
 have hcbH := Lib.hid hcb
 clear hR hcb hni hnx hins
 obtain ⟨vb, hvb⟩ : ∃ b, vecB v = b := ⟨_, rfl⟩
 have hvbH := Lib.hid hvb
 clear hvb
 obtain ⟨V1, hEV1, hbV1, kv⟩ := newB w 42 #[.int .i64 v.lanes, .int .i64 v.regs, .int .i64 v.mem]
 replace hri := later_i hri hbV1
 replace hrx := hrx.later hbV1
 replace hB := tmB hB hbV1
 clear hbV1
 obtain ⟨v0, v1, v2⟩ := cz3 kv
 obtain ⟨V2, hEV2, hbV2, kc⟩ := newB V1 45 #[.int .i64 W, .int .i64 H, .slice ia ni ic, .int .i64 out, .slice xa nx xc]
 clear v0 v1 v2
 replace kv := kv.below hbV2 kv.lt
 replace hri := later_i hri hbV2
 replace hrx := hrx.later hbV2
 replace hB := tmB hB hbV2
 clear hbV2
 obtain ⟨v0, v1, v2⟩ := cz3 kv
 obtain ⟨c0, c1, c2, c3, c4⟩ := cz5 kc
 go_enter Try.func18, Try.ntmps18
 go_wp2_with fail
 clear hEV1 hEV2
 refine (vector_any v vb hvbH.out V2).mono ?_
 rintro e V3 ⟨rfl, hb⟩
 clear v0 v1 v2 c0 c1 c2 c3 c4
 replace kv := kv.below hb kv.lt
 replace kc := kc.below hb kc.lt
 replace hri := later_i hri hb
 replace hrx := hrx.later hb
 replace hB := tmB hB hb
 clear hb
 obtain ⟨v0, v1, v2⟩ := cz3 kv
 obtain ⟨c0, c1, c2, c3, c4⟩ := cz5 kc
 cases vb with
 | false =>
  have hR2 : R = 31 := by rw [← hRH.out]; unfold chkS; rw [hvbH.out]; rfl
  subst hR2
  go_wp2_with fail
  go_ret
  exact ⟨rfl, hB⟩
 | true =>
 have hvv : VecIn v := by
  have := hvbH.out
  unfold vecB at this
  simp only [Bool.and_eq_true, inR_true] at this
  omega
 have hvvH := Lib.hid hvv
 obtain ⟨q1, q2, q3, q4, q5, q6⟩ := hvv
 have tok1 : True := trivial
 have tok2 : True := trivial
 have tok3 : True := trivial
 have tok4 : True := trivial
 cases a1 : inR W 1 16 with
 | false =>
  have hR2 : R = 32 := by rw [← hRH.out]; unfold chkS; rw [hvbH.out, hcbH.out, a1]; simp
  subst hR2
  have a1H := Lib.hid a1
  clear a1
  go_wp2_with (go_at_call 38; have _t := tok1; refine (pwithin2 W 1 16 false a1H.out _).mono ?_; clear _t tok1; rintro e w' ⟨rfl, hw⟩; rw [hw]; clear hw w')
  go_ret
  exact ⟨rfl, hB⟩
 | true =>
 have a1H := Lib.hid a1
 have a1b := inR_true.1 a1
 clear a1
 cases a2 : inR H 1 16 with
 | false =>
  have hR2 : R = 32 := by rw [← hRH.out]; unfold chkS; rw [hvbH.out, hcbH.out, a2]; simp
  subst hR2
  have a2H := Lib.hid a2
  clear a2
  go_wp2_with (first
   | (go_at_call 38; have _t := tok1; refine (pwithin2 W 1 16 true a1H.out _).mono ?_; clear _t tok1; rintro e w' ⟨rfl, hw⟩; rw [hw]; clear hw w')
   | (go_at_call 38; have _t := tok2; refine (pwithin2 H 1 16 false a2H.out _).mono ?_; clear _t tok2; rintro e w' ⟨rfl, hw⟩; rw [hw]; clear hw w'))
  go_ret
  exact ⟨rfl, hB⟩
 | true =>
 have a2H := Lib.hid a2
 have a2b := inR_true.1 a2
 clear a2
 by_cases a3 : ni ≤ 3
 case neg =>
  have hR2 : R = 32 := by rw [← hRH.out]; unfold chkS; rw [hvbH.out, hcbH.out, show decide (ni ≤ 3) = false by simp; omega]; simp
  subst hR2
  have a3d : decide (3 < (ni : Int)) = true := by simp; omega
  go_wp2_with (first
   | (go_at_call 38; have _t := tok1; refine (pwithin2 W 1 16 true a1H.out _).mono ?_; clear _t tok1; rintro e w' ⟨rfl, hw⟩; rw [hw]; clear hw w')
   | (go_at_call 38; have _t := tok2; refine (pwithin2 H 1 16 true a2H.out _).mono ?_; clear _t tok2; rintro e w' ⟨rfl, hw⟩; rw [hw]; clear hw w'))
  all_goals (go_ret; exact ⟨rfl, hB⟩)
 case pos =>
 have a3d : decide (3 < (ni : Int)) = false := by simp; omega
 by_cases a4 : nx ≤ 200000
 case neg =>
  have hR2 : R = 32 := by rw [← hRH.out]; unfold chkS; rw [hvbH.out, hcbH.out, show decide (nx ≤ 200000) = false by simp; omega]; simp
  subst hR2
  have a4d : decide (200000 < (nx : Int)) = true := by simp; omega
  go_wp2_with (first
   | (go_at_call 38; have _t := tok1; refine (pwithin2 W 1 16 true a1H.out _).mono ?_; clear _t tok1; rintro e w' ⟨rfl, hw⟩; rw [hw]; clear hw w')
   | (go_at_call 38; have _t := tok2; refine (pwithin2 H 1 16 true a2H.out _).mono ?_; clear _t tok2; rintro e w' ⟨rfl, hw⟩; rw [hw]; clear hw w'))
  all_goals (go_ret; exact ⟨rfl, hB⟩)
 case pos =>
 have a4d : decide (200000 < (nx : Int)) = false := by simp; omega
 have hmb := prod_bd (a := W) (x := H) (m := 16) (n := 16) (by omega) (by omega) (by omega) (by omega) (by omega)
 have hWH := Lib.hid (show ∃ p, W * H = p from ⟨_, rfl⟩)
 obtain ⟨p, hp⟩ := hWH.out
 rw [hp] at hmb
 simp only [Int.reduceMul] at hmb
 obtain ⟨last, hlast⟩ : ∃ l, v.mem - p = l := ⟨_, rfl⟩
 have hcb2 := hcbH.out
 rw [hp, hlast] at hcb2
 have hcb2H := Lib.hid hcb2
 clear hcb2 hWH
 have kl := Blk.new V3 3 #[.int .i64 0]
 obtain ⟨bl, hbl⟩ : ∃ b, V3.heap.size = b := ⟨_, rfl⟩
 obtain ⟨VA, hVA⟩ : ∃ X, V3.alloc (.cells #[.int .i64 0] 3) = X := ⟨_, rfl⟩
 have hbA : Below V3.heap.size V3 VA := alloc_below hVA
 rw [hVA, hbl] at kl
 have z0 := kl.cell (i := 0) rfl
 have fz0 := kl.frozen 0
 have kl2 : Blk (VA.setCell ⟨bl, 0, none⟩ (.int .i64 last)) bl 3 #[.int .i64 last] := kl.set 0 (.int .i64 last)
 have hb : Below V3.heap.size V3 (VA.setCell ⟨bl, 0, none⟩ (.int .i64 last)) := hbA.setCell (show V3.heap.size ≤ bl by omega) _
 obtain ⟨VL, hVL⟩ : ∃ X, VA.setCell ⟨bl, 0, none⟩ (.int .i64 last) = X := ⟨_, rfl⟩
 rw [hVL] at kl2 hb
 have vv0 := v0
 have vv1 := v1
 have vv2 := v2
 have cc0 := c0
 have cc1 := c1
 have cc2 := c2
 have cc3 := c3
 have cc4 := c4
 clear v0 v1 v2 c0 c1 c2 c3 c4
 replace kv := kv.below hb kv.lt
 replace kc := kc.below hb kc.lt
 replace hri := later_i hri hb
 replace hrx := hrx.later hb
 replace hB := tmB hB hb
 clear hb hbA kl
 have kl := kl2
 clear kl2
 obtain ⟨v0, v1, v2⟩ := cz3 kv
 obtain ⟨c0, c1, c2, c3, c4⟩ := cz5 kc
 have l0 := kl.cell (i := 0) rfl
 cases b1 : inR out 0 last with
 | false =>
  have hR2 : R = 32 := by rw [← hRH.out]; unfold chkS; rw [hvbH.out, hcb2H.out, b1]; simp
  subst hR2
  have b1H := Lib.hid b1
  clear b1
  go_wp2_with (first
   | (go_at_call 38; have _t := tok1; refine (pwithin2 W 1 16 true a1H.out _).mono ?_; clear _t tok1; rintro e w' ⟨rfl, hw⟩; rw [hw]; clear hw w')
   | (go_at_call 38; have _t := tok2; refine (pwithin2 H 1 16 true a2H.out _).mono ?_; clear _t tok2; rintro e w' ⟨rfl, hw⟩; rw [hw]; clear hw w')
   | (go_at_call 38; have _t := tok3; refine (pwithin2 out 0 last false b1H.out _).mono ?_; clear _t tok3; rintro e w' ⟨rfl, hw⟩; rw [hw]; clear hw w'))
  all_goals (go_ret; exact ⟨rfl, hB⟩)
 | true =>
 have b1H := Lib.hid b1
 clear b1
 have hcon := ContainsL_any (oddP last) 44 #[.pointer (some ⟨bl, 0, none⟩)] enters_odd inp ia ic ni hniH.out il0 VL hri (fun i hi X hb => (odd_any last _ bl X (kl.below hb kl.lt)).mono fun e W' h => ⟨h.1, h.2 ▸ Below.refl _ _⟩)
 have hconH := Lib.hid hcon
 clear hcon
 obtain ⟨o1, ho1⟩ : ∃ b, inp.any (oddP last) = b := ⟨_, rfl⟩
 have ho1H := Lib.hid ho1
 clear ho1
 go_wp2_with (first
  | (go_at_call 38; have _t := tok1; refine (pwithin2 W 1 16 true a1H.out _).mono ?_; clear _t tok1; rintro e w' ⟨rfl, hw⟩; rw [hw]; clear hw w')
  | (go_at_call 38; have _t := tok2; refine (pwithin2 H 1 16 true a2H.out _).mono ?_; clear _t tok2; rintro e w' ⟨rfl, hw⟩; rw [hw]; clear hw w')
  | (go_at_call 38; have _t := tok3; refine (pwithin2 out 0 last true b1H.out _).mono ?_; clear _t tok3; rintro e w' ⟨rfl, hw⟩; rw [hw]; clear hw w'))
 clear hbl hVA z0 fz0 hVL
 clear vv0 vv1 vv2 cc0 cc1 cc2 cc3 cc4
 have hc := hconH.out
 rw [ho1H.out] at hc
 refine hc.mono ?_
 clear hc
 rintro e X1 ⟨rfl, hb⟩
 clear v0 v1 v2 c0 c1 c2 c3 c4 l0
 replace kv := kv.below hb kv.lt
 replace kc := kc.below hb kc.lt
 replace kl := kl.below hb kl.lt
 replace hri := later_i hri hb
 replace hrx := hrx.later hb
 replace hB := tmB hB hb
 clear hb
 obtain ⟨v0, v1, v2⟩ := cz3 kv
 obtain ⟨c0, c1, c2, c3, c4⟩ := cz5 kc
 have l0 := kl.cell (i := 0) rfl
 cases o1 with
 | true =>
  have hR2 : R = 32 := by rw [← hRH.out]; unfold chkS; rw [hvbH.out, hcb2H.out, ho1H.out]; simp
  subst hR2
  go_wp2_with fail
  go_ret
  exact ⟨rfl, hB⟩
 | false =>
 go_upto_region 9 with fail
 refine wp_region_lit ?_
 refine wpList_callAny rfl _ rfl 40 #[] (by kernel_rfl) _ (table_any X1) ?_
 rintro e X0 ⟨rfl, hb⟩
 refine ⟨_, rfl, ?_⟩
 refine Go.Great.wpList_allocTo rfl _ rfl (.pointer (some ⟨X0.heap.size, 0, none⟩)) (.cells zerC 92) (by kernel_rfl) ?_
 refine wpList_store_row rfl 92 _ _ rfl X0.heap.size tabC rfl (by kernel_rfl) 92 zerC (heap_alloc_last X0 _) (by kernel_rfl) rfl tabC_one ?_
 rw [World.setRow_alloc_new]
 refine wpList_nil ?_
 have kT := Blk.new X0 92 tabC
 replace hb : Below X1.heap.size X1 (X0.alloc (.cells tabC 92)) := jb_al hb _
 have hTs : tabC.size = 42 := rfl
 obtain ⟨V4, hVV4⟩ : ∃ X, X0.alloc (.cells tabC 92) = X := ⟨_, rfl⟩
 obtain ⟨bT, hbT⟩ : ∃ b, X0.heap.size = b := ⟨_, rfl⟩
 rw [hVV4] at hb kT ⊢
 rw [hbT] at kT
 rw [hbT]
 rename_i Q' K hK
 refine hK _ _ ?_
 clear v0 v1 v2 c0 c1 c2 c3 c4 l0
 replace kv := kv.below hb kv.lt
 replace kc := kc.below hb kc.lt
 replace kl := kl.below hb kl.lt
 replace hri := later_i hri hb
 replace hrx := hrx.later hb
 replace hB := tmB hB hb
 clear hb hbT hVV4
 obtain ⟨v0, v1, v2⟩ := cz3 kv
 obtain ⟨c0, c1, c2, c3, c4⟩ := cz5 kc
 have l0 := kl.cell (i := 0) rfl
 obtain ⟨o2, ho2⟩ : ∃ b, (ins.any fun x => !insB v x) = b := ⟨_, rfl⟩
 have hcon := ContainsC_any (fun x => !insB v x) 47 #[.pointer (some ⟨w.heap.size, 0, none⟩), .pointer (some ⟨bT, 0, none⟩)] enters_bad ins xa xc nx hnxH.out xl0 V4 hrx (fun i hi X ia2 ic2 hb2 hr2 => bad_any v hvvH.out (insAt ins i) (hinsH.out i (by have := hnxH.out; omega)) ia2 ic2 w.heap.size bT tabC hTs (fun k hk => tab_at hk) X (kv.below hb2 kv.lt) (kT.below hb2 kT.lt) hr2)
 rw [ho2] at hcon
 have hconH := Lib.hid hcon
 have ho2H := Lib.hid ho2
 clear hcon ho2
 cases o2 with
 | true =>
  have hR2 : R = 32 := by rw [← hRH.out]; unfold chkS; rw [hvbH.out, hcb2H.out, ho1H.out, ho2H.out]; simp
  subst hR2
  go_wp2_with (go_at_call 46; refine hconH.out.mono ?_; rintro e X3 ⟨rfl, hb⟩)
  replace hB := tmB hB hb
  clear hb
  go_ret
  exact ⟨rfl, hB⟩
 | false =>
  have hR2 : R = 0 := by rw [← hRH.out]; unfold chkS; rw [hvbH.out, hcb2H.out, ho1H.out, ho2H.out]; simp [a1H.out, a2H.out, a3, a4, b1H.out]
  subst hR2
  go_wp2_with (go_at_call 46; refine hconH.out.mono ?_; rintro e X3 ⟨rfl, hb⟩)
  replace hB := tmB hB hb
  clear hb
  go_ret
  exact ⟨rfl, hB⟩
end Go.Proofs.Ytekiemlniegddaa
namespace Go.Proofs.Ytekiemlniegddaa
open Go Go.ChangeShapes Go.WideShapes Go.ChangeAt Go.RowKit Go.Joins Go.Deep
set_option maxRecDepth 100000
section
variable {H : Type} {enc : TypeId × Value → H}
theorem open_vec {W : World} {base : Nat} {v : Value} {d : DataW H} {p : List MemPlace} (hv : Value.okWide Try.prog W .any base 42 v) (h : DataW.Trod enc Try.prog W 0 (fun _ => true) true 42 v d p) :
  ∃ V : VecN, v = vecv V ∧ (Lit.int .i64 V.lanes).wf = true := by
 obtain ⟨cs, rfl, hsz⟩ := okWide_struct Try.underlying42 hv
 obtain ⟨l⟩ := cs
 have hsz4 : l.length = 3 := hsz.trans (show Try.prog.cellsOf 42 = 3 from by kernel_rfl)
 match l, hsz4 with
 | [c0, c1, c2], _ =>
  obtain ⟨fuel, hf⟩ := h
  obtain ⟨xs, n, _, _, _, hlen, hg⟩ := DataW.trod_struct Try.underlying42 hf
  have hlen3 : xs.length = 3 := hlen
  obtain ⟨y0, e0⟩ := some_ofP (l := xs) (i := 0) (by omega)
  have g0 : DataW.trod enc Try.prog W 0 (fun _ => true) true n 3 ((([c0, c1, c2] : List Value).drop 0).take (Try.prog.cellsOf 3)) = xs[0]? := hg 0 _ rfl
  rw [e0, show Try.prog.cellsOf 3 = 1 from by kernel_rfl] at g0
  obtain ⟨y1, e1⟩ := some_ofP (l := xs) (i := 1) (by omega)
  have g1 : DataW.trod enc Try.prog W 0 (fun _ => true) true n 3 ((([c0, c1, c2] : List Value).drop 1).take (Try.prog.cellsOf 3)) = xs[1]? := hg 1 _ rfl
  rw [e1, show Try.prog.cellsOf 3 = 1 from by kernel_rfl] at g1
  obtain ⟨y2, e2⟩ := some_ofP (l := xs) (i := 2) (by omega)
  have g2 : DataW.trod enc Try.prog W 0 (fun _ => true) true n 3 ((([c0, c1, c2] : List Value).drop 2).take (Try.prog.cellsOf 3)) = xs[2]? := hg 2 _ rfl
  rw [e2, show Try.prog.cellsOf 3 = 1 from by kernel_rfl] at g2
  obtain ⟨x0, rfl, w0⟩ := field_int g0
  obtain ⟨x1, rfl, w1⟩ := field_int g1
  obtain ⟨x2, rfl, w2⟩ := field_int g2
  exact ⟨⟨x0, x1, x2⟩, rfl, w0⟩
end
end Go.Proofs.Ytekiemlniegddaa
namespace Go.Proofs.Ytekiemlniegddaa
open Go Go.ChangeShapes Go.WideShapes Go.ChangeAt Go.RowKit Go.Joins Go.Deep
set_option maxRecDepth 100000
section
variable {H : Type} {enc : TypeId × Value → H}
theorem open_ins12 {W : World} {fuel : Nat} {cs : List Value} {y : DataW H × List MemPlace} (hl : cs.length = 12) (h : DataW.trod enc Try.prog W 0 (fun _ => true) true fuel 95 cs = some y) :
  ∃ (x : InsN) (ia : Option Addr) (ic : Nat), cs = insCells x ia ic ∧ Rd W.heap.size W ia x.ad ∧ InsIn x := by
 match cs, hl with
 | [c0, c1, c2, c3, c4, c5, c6, c7, c8, c9, c10, c11], _ =>
  obtain ⟨xs, n, _, _, _, hlen, hg⟩ := DataW.trod_struct Try.underlying95 h
  have hlen' : xs.length = 8 := hlen
  obtain ⟨y0, e0⟩ := some_ofP (l := xs) (i := 0) (by omega)
  have g0 : DataW.trod enc Try.prog W 0 (fun _ => true) true n 5 ((([c0, c1, c2, c3, c4, c5, c6, c7, c8, c9, c10, c11] : List Value).drop 0).take (Try.prog.cellsOf 5)) = xs[0]? := hg 0 _ rfl
  rw [e0, show Try.prog.cellsOf 5 = 1 from by kernel_rfl] at g0
  obtain ⟨y1, e1⟩ := some_ofP (l := xs) (i := 1) (by omega)
  have g1 : DataW.trod enc Try.prog W 0 (fun _ => true) true n 3 ((([c0, c1, c2, c3, c4, c5, c6, c7, c8, c9, c10, c11] : List Value).drop 1).take (Try.prog.cellsOf 3)) = xs[1]? := hg 1 _ rfl
  rw [e1, show Try.prog.cellsOf 3 = 1 from by kernel_rfl] at g1
  obtain ⟨y2, e2⟩ := some_ofP (l := xs) (i := 2) (by omega)
  have g2 : DataW.trod enc Try.prog W 0 (fun _ => true) true n 3 ((([c0, c1, c2, c3, c4, c5, c6, c7, c8, c9, c10, c11] : List Value).drop 2).take (Try.prog.cellsOf 3)) = xs[2]? := hg 2 _ rfl
  rw [e2, show Try.prog.cellsOf 3 = 1 from by kernel_rfl] at g2
  obtain ⟨y3, e3⟩ := some_ofP (l := xs) (i := 3) (by omega)
  have g3 : DataW.trod enc Try.prog W 0 (fun _ => true) true n 3 ((([c0, c1, c2, c3, c4, c5, c6, c7, c8, c9, c10, c11] : List Value).drop 3).take (Try.prog.cellsOf 3)) = xs[3]? := hg 3 _ rfl
  rw [e3, show Try.prog.cellsOf 3 = 1 from by kernel_rfl] at g3
  obtain ⟨y4, e4⟩ := some_ofP (l := xs) (i := 4) (by omega)
  have g4 : DataW.trod enc Try.prog W 0 (fun _ => true) true n 3 ((([c0, c1, c2, c3, c4, c5, c6, c7, c8, c9, c10, c11] : List Value).drop 4).take (Try.prog.cellsOf 3)) = xs[4]? := hg 4 _ rfl
  rw [e4, show Try.prog.cellsOf 3 = 1 from by kernel_rfl] at g4
  obtain ⟨y5, e5⟩ := some_ofP (l := xs) (i := 5) (by omega)
  have g5 : DataW.trod enc Try.prog W 0 (fun _ => true) true n 69 ((([c0, c1, c2, c3, c4, c5, c6, c7, c8, c9, c10, c11] : List Value).drop 5).take (Try.prog.cellsOf 69)) = xs[5]? := hg 5 _ rfl
  rw [e5, show Try.prog.cellsOf 69 = 5 from by kernel_rfl] at g5
  obtain ⟨y6, e6⟩ := some_ofP (l := xs) (i := 6) (by omega)
  have g6 : DataW.trod enc Try.prog W 0 (fun _ => true) true n 5 ((([c0, c1, c2, c3, c4, c5, c6, c7, c8, c9, c10, c11] : List Value).drop 10).take (Try.prog.cellsOf 5)) = xs[6]? := hg 6 _ rfl
  rw [e6, show Try.prog.cellsOf 5 = 1 from by kernel_rfl] at g6
  obtain ⟨y7, e7⟩ := some_ofP (l := xs) (i := 7) (by omega)
  have g7 : DataW.trod enc Try.prog W 0 (fun _ => true) true n 27 ((([c0, c1, c2, c3, c4, c5, c6, c7, c8, c9, c10, c11] : List Value).drop 11).take (Try.prog.cellsOf 27)) = xs[7]? := hg 7 _ rfl
  rw [e7, show Try.prog.cellsOf 27 = 1 from by kernel_rfl] at g7
  obtain ⟨x0, rfl, b0, b0'⟩ := fieldU8 g0
  obtain ⟨x1, rfl, wx1⟩ := field_int g1
  obtain ⟨x2, rfl, wx2⟩ := field_int g2
  obtain ⟨x3, rfl, wx3⟩ := field_int g3
  obtain ⟨x4, rfl, wx4⟩ := field_int g4
  obtain ⟨p, hp, _⟩ := open_point5 rfl g5
  obtain ⟨x10, rfl, b10, b10'⟩ := fieldU8 g6
  obtain ⟨a, c, xs', rfl, hr, hb, _⟩ := open_rowP g7
  simp only [List.drop_succ_cons, List.drop_zero, List.take_succ_cons, List.take_zero, List.cons.injEq, and_true] at hp
  obtain ⟨rfl, rfl, rfl, rfl, rfl⟩ := hp
  exact ⟨⟨x0, x1, x2, x3, x4, p, x10, xs'⟩, a, c, rfl, hr, ⟨⟨b0, b0'⟩, ⟨b10, b10'⟩, hb⟩⟩
instance : Inhabited InsN := ⟨noIns⟩
theorem open_instrs {W : World} {fuel : Nat} {v : Value} {y : DataW H × List MemPlace} (h : DataW.trod enc Try.prog W 0 (fun _ => true) true fuel 43 [v] = some y) :
  ∃ (a : Option Addr) (c : Nat) (ss : List InsN), v = .slice a ss.length c ∧ RdCs W.heap.size W a ss ∧ ss.length ≤ 9223372036854775807 ∧ ∀ i, i < ss.length → InsIn (insAt ss i) := by
 rcases open_slice Try.underlying43 h with ⟨h1, _⟩ | ⟨a, len, cap, m, n, D, Pl, h1, _, hl, hm, hmm, _, hx⟩
 ·obtain rfl : v = .slice none 0 0 := by simpa using h1
  exact ⟨none, 0, [], rfl, .inl rfl, by decide, fun i hi => by simp at hi⟩
 ·obtain rfl : v = .slice (some a) len cap := by simpa using h1
  simp only [if_true] at hmm
  subst hmm
  have each : ∀ i, i < m → ∃ q : InsN × (Option Addr × Nat), (∀ j u, (insCells q.1 q.2.1 q.2.2)[j]? = some u → W.cell? (a.add (i * 12 + j)) = some u) ∧ Rd W.heap.size W q.2.1 q.1.ad ∧ InsIn q.1 := fun i hi => by
   obtain ⟨cs', e1, e2⟩ := hx i hi
   rw [show Try.prog.cellsOf 95 = 12 from by kernel_rfl] at e1
   obtain ⟨_, hlen, hc⟩ := World.cells?_some e1
   obtain ⟨s, ia, ic, rfl, f1, f2⟩ := open_ins12 hlen e2
   refine ⟨(s, (ia, ic)), fun j u hj => ?_, f1, f2⟩
   have hj12 : j < 12 := by
    rcases Nat.lt_or_ge j 12 with h | h
    ·exact h
    ·rw [List.getElem?_eq_none (by simpa [insCells] using h)] at hj; cases hj
   have := hc j hj12
   rw [addr_add_add] at this
   rw [this]; exact hj
  obtain ⟨q, hq⟩ := choose_lt each
  have hlen : ((List.range len).map fun i => (q i).1).length = len := by simp
  have hat : ∀ i, i < len → insAt ((List.range len).map fun i => (q i).1) i = (q i).1 := fun i hi => by
   unfold insAt
   rw [List.getElem?_map, List.getElem?_range hi]; rfl
  refine ⟨some a, m, (List.range len).map fun i => (q i).1, by rw [hlen], ?_, by rw [hlen]; unfold maxLen at hm; omega, fun i hi => ?_⟩
  ·by_cases h0 : 0 < len
   ·have e0 := (hq 0 (by omega)).1 0 _ rfl
    obtain ⟨b, o, rfl⟩ := addr_plainP e0
    rw [add_plainP] at e0
    refine .inr ⟨b, o, rfl, World.block_lt_of_cell? W _ e0, fun i hi => ?_⟩
    rw [hlen] at hi
    rw [hat i hi]
    obtain ⟨f1, f2, _⟩ := hq i (by omega)
    refine ⟨(q i).2.1, (q i).2.2, ⟨fun j u hj => ?_, f2⟩⟩
    have := f1 j u hj
    rw [add_plainP, ← Nat.add_assoc] at this
    exact this
   ·left
    have : len = 0 := by omega
    subst this; rfl
  ·rw [hlen] at hi
   rw [hat i hi]; exact (hq i (by omega)).2.2
theorem open_code {W : World} {base : Nat} {v : Value} {d : DataW H} {p : List MemPlace} (hv : Value.okWide Try.prog W .any base 45 v) (h : DataW.Trod enc Try.prog W 0 (fun _ => true) true 45 v d p) :
  ∃ (C : CodeN) (ia : Option Addr) (ic : Nat) (xa : Option Addr) (xc : Nat), v = codev C ia ic xa xc ∧ CodeIn C ∧ Rd W.heap.size W ia C.inp ∧ RdCs W.heap.size W xa C.ins := by
 obtain ⟨cs, rfl, hsz⟩ := okWide_struct Try.underlying45 hv
 obtain ⟨l⟩ := cs
 have hsz4 : l.length = 5 := hsz.trans (show Try.prog.cellsOf 45 = 5 from by kernel_rfl)
 match l, hsz4 with
 | [c0, c1, c2, c3, c4], _ =>
  obtain ⟨fuel, hf⟩ := h
  obtain ⟨xs, n, _, _, _, hlen, hg⟩ := DataW.trod_struct Try.underlying45 hf
  have hlen3 : xs.length = 5 := hlen
  obtain ⟨y0, e0⟩ := some_ofP (l := xs) (i := 0) (by omega)
  have g0 : DataW.trod enc Try.prog W 0 (fun _ => true) true n 3 ((([c0, c1, c2, c3, c4] : List Value).drop 0).take (Try.prog.cellsOf 3)) = xs[0]? := hg 0 _ rfl
  rw [e0, show Try.prog.cellsOf 3 = 1 from by kernel_rfl] at g0
  obtain ⟨y1, e1⟩ := some_ofP (l := xs) (i := 1) (by omega)
  have g1 : DataW.trod enc Try.prog W 0 (fun _ => true) true n 3 ((([c0, c1, c2, c3, c4] : List Value).drop 1).take (Try.prog.cellsOf 3)) = xs[1]? := hg 1 _ rfl
  rw [e1, show Try.prog.cellsOf 3 = 1 from by kernel_rfl] at g1
  obtain ⟨y2, e2⟩ := some_ofP (l := xs) (i := 2) (by omega)
  have g2 : DataW.trod enc Try.prog W 0 (fun _ => true) true n 27 ((([c0, c1, c2, c3, c4] : List Value).drop 2).take (Try.prog.cellsOf 27)) = xs[2]? := hg 2 _ rfl
  rw [e2, show Try.prog.cellsOf 27 = 1 from by kernel_rfl] at g2
  obtain ⟨y3, e3⟩ := some_ofP (l := xs) (i := 3) (by omega)
  have g3 : DataW.trod enc Try.prog W 0 (fun _ => true) true n 3 ((([c0, c1, c2, c3, c4] : List Value).drop 3).take (Try.prog.cellsOf 3)) = xs[3]? := hg 3 _ rfl
  rw [e3, show Try.prog.cellsOf 3 = 1 from by kernel_rfl] at g3
  obtain ⟨y4, e4⟩ := some_ofP (l := xs) (i := 4) (by omega)
  have g4 : DataW.trod enc Try.prog W 0 (fun _ => true) true n 43 ((([c0, c1, c2, c3, c4] : List Value).drop 4).take (Try.prog.cellsOf 43)) = xs[4]? := hg 4 _ rfl
  rw [e4, show Try.prog.cellsOf 43 = 1 from by kernel_rfl] at g4
  obtain ⟨x0, rfl, _⟩ := field_int g0
  obtain ⟨x1, rfl, _⟩ := field_int g1
  obtain ⟨ia, ic, is, rfl, hri, hib, _⟩ := open_rowP g2
  obtain ⟨x3, rfl, _⟩ := field_int g3
  obtain ⟨xa, xc, ss, rfl, hr, hb, hs⟩ := open_instrs g4
  exact ⟨⟨x0, x1, is, x3, ss⟩, ia, ic, xa, xc, rfl, ⟨hib, hb, hs⟩, hri, hr⟩
end
end Go.Proofs.Ytekiemlniegddaa
namespace Go.Proofs.Ytekiemlniegddaa
open Go Go.RowKit Go.Shelf
set_option maxHeartbeats 1000000 in
theorem Zipped_any (how a b r : Int) (hh1 : 1 ≤ how) (hh2 : how ≤ 6) (h1 : -2147483648 ≤ a) (h2 : a ≤ 2147483648) (h3 : -2147483648 ≤ b) (h4 : b ≤ 2147483648) (hr : clamp (zipF how a b) (-2147483648) 2147483648 = r) (w : World) :
  Calls Try.prog 86 #[.int .u8 how, .int .i64 a, .int .i64 b] w fun e w' => e = .returned (.int .i64 r) ∧ w = w' := by
 have hrH := Lib.hid hr
 clear hr
 have hh : how = 1 ∨ how = 2 ∨ how = 3 ∨ how = 4 ∨ how = 5 ∨ how = 6 := by omega
 obtain ⟨r1, r2⟩ := mul_bd h1 h2 h3 h4 (by omega) (by omega)
 clear hh1 hh2
 rcases hh with rfl | rfl | rfl | rfl | rfl | rfl
 ·go_enter Try.func86, Try.ntmps86
  go_wp2_with fail
  all_goals refine (Into_any _ _ _ _).mono ?_
  all_goals rintro e w' ⟨rfl, rfl⟩
  all_goals go_wp2_with fail
  all_goals go_ret
  all_goals exact ⟨ret_int (by rw [← hrH.out]; simp [zipF, clamp] <;> omega), rfl⟩
 ·go_enter Try.func86, Try.ntmps86
  go_wp2_with fail
  all_goals refine (Into_any _ _ _ _).mono ?_
  all_goals rintro e w' ⟨rfl, rfl⟩
  all_goals go_wp2_with fail
  all_goals go_ret
  all_goals exact ⟨ret_int (by rw [← hrH.out]; simp [zipF, clamp] <;> omega), rfl⟩
 ·go_enter Try.func86, Try.ntmps86
  go_wp2_with fail
  all_goals go_ret
  all_goals exact ⟨ret_int (by rw [← hrH.out]; simp [zipF, clamp] <;> omega), rfl⟩
 ·go_enter Try.func86, Try.ntmps86
  go_wp2_with fail
  all_goals go_ret
  all_goals exact ⟨ret_int (by rw [← hrH.out]; simp [zipF, clamp] <;> omega), rfl⟩
 ·go_enter Try.func86, Try.ntmps86
  go_wp2_with fail
  all_goals refine (Into_any _ _ _ _).mono ?_
  all_goals rintro e w' ⟨rfl, rfl⟩
  all_goals go_wp2_with fail
  all_goals go_ret
  all_goals exact ⟨ret_int (by rw [← hrH.out]; simp [zipF, clamp] <;> omega), rfl⟩
 ·go_enter Try.func86, Try.ntmps86
  go_wp2_with fail
  all_goals refine (Into_any _ _ _ _).mono ?_
  all_goals rintro e w' ⟨rfl, rfl⟩
  all_goals go_wp2_with fail
  all_goals go_ret
  all_goals exact ⟨ret_int (by rw [← hrH.out]; simp [zipF, clamp] <;> omega), rfl⟩
end Go.Proofs.Ytekiemlniegddaa
namespace Go.Proofs.Ytekiemlniegddaa
open Go Go.RowKit Go.Shelf
theorem swithin (n lo hi : Int) (v : Bool) (hv : inR n lo hi = v) (w : World) :
  Calls Try.prog 58 #[.int .i64 n, .int .i64 lo, .int .i64 hi] w fun e w' => e = .returned (.bool v) ∧ w = w' := by
 subst hv
 unfold inR
 cases h1 : decide (lo ≤ n) <;> cases h2 : decide (n ≤ hi)
 all_goals
  simp only [decide_eq_true_eq, decide_eq_false_iff_not] at h1 h2
  go_enter Try.func58, Try.ntmps58
  go_wp2
  go_ret
  exact ⟨ret_bool (by simp; try omega), rfl⟩
end Go.Proofs.Ytekiemlniegddaa
namespace Go.Proofs.Ytekiemlniegddaa
open Go Go.RowKit Go.Shelf
/-- One image more is fit. -/
theorem fit_succ {ms : List PicN} {w h : Int} {k : Nat} (hk : k < ms.length) : (ms.take (k + 1)).all (fitP w h) = ((ms.take k).all (fitP w h) && fitP w h (picAt ms k)) := by
 rw [List.take_succ_eq_append_getElem hk, List.all_append]; unfold picAt; rw [List.getElem?_eq_getElem hk]; simp
theorem fit_hit {ms : List PicN} {w h : Int} {k : Nat} (hk : k < ms.length) (hf : fitP w h (picAt ms k) = false) : ms.all (fitP w h) = false := by
 unfold picAt at hf
 rw [List.getElem?_eq_getElem hk] at hf
 exact List.all_eq_false.2 ⟨_, List.getElem_mem hk, by simpa using hf⟩
theorem givenB_is (ms : List PicN) (N w h : Int) : givenB ms N w h = (decide ((ms.length : Int) = N) && ms.all (fitP w h)) := rfl
set_option maxRecDepth 100000 in
set_option maxHeartbeats 4000000 in
theorem rgiven_any (ms : List PicN) (a : Option Addr) (c n : Nat) (hn : ms.length = n) (hm : n ≤ 9223372036854775807) (hpl : ∀ i, i < n → (picAt ms i).px.length ≤ 9223372036854775807) (N W H : Int) (v : Bool) (hv : givenB ms N W H = v) (w : World) (hr : RdPs w.heap.size w a ms) :
  Calls Try.prog 35 #[.slice a n c, .int .i64 N, .int .i64 W, .int .i64 H] w fun e w' => e = .returned (.bool v) ∧ Below w.heap.size w w' := by
 rw [givenB_is, hn] at hv
 have hnH := Lib.hid hn
 have hplH := Lib.hid hpl
 have hvH := Lib.hid hv
 clear hn hpl hv
 by_cases hc : (n : Int) = N
 case neg =>
  have f1 : ((n : Int) != N) = true := by simp [hc]
  have hvf : v = false := by rw [← hvH.out]; simp [hc]
  subst hvf
  clear hvH hc
  go_enter Try.func35, Try.ntmps35
  go_wp2_with fail
  go_ret
  exact ⟨rfl, Below.refl _ _⟩
 have f1 : ((n : Int) != N) = false := by simp [hc]
 have hcH := Lib.hid hc
 clear hc
 go_enter Try.func35, Try.ntmps35
 go_wp2_with fail
 go_loopw [9] (fun i wr => ∃ k : Nat, k ≤ n ∧ i = .int .i64 (k : Int) ∧ Hid ((ms.take k).all (fitP W H) = true) ∧ Below w.heap.size w wr) (fun i _ => n - (intOf i).toNat)
 case atStart => exact ⟨0, Nat.zero_le _, rfl, Lib.hid (by simp), Below.refl _ _⟩
 case round =>
  obtain ⟨k, hk, rfl, hall, hB⟩ := hrel
  by_cases hlt : k < n
  case neg =>
   have hkn : k = n := by omega
   subst hkn
   have hvt : v = true := by
    have h1 := hall.out
    rw [List.take_of_length_le (by have := hnH.out; omega)] at h1
    rw [← hvH.out, h1]; simp [hcH.out]
   subst hvt
   go_wp2_with fail
   go_ret
   exact ⟨rfl, hB⟩
  case pos =>
   have hlt' : k < ms.length := by have := hnH.out; omega
   obtain ⟨b, o, rfl, hbl, pa, pc, p0, p1, p2, rA, _⟩ := hr.at hlt'
   have c0 := (hB.cell (p := ⟨b, o + k * 3, none⟩) hbl).trans p0
   have c1 := (hB.cell (p := ⟨b, o + k * 3 + 1, none⟩) hbl).trans p1
   have c2 := (hB.cell (p := ⟨b, o + k * 3 + 2, none⟩) hbl).trans p2
   have hbl2 : b < wr.heap.size := by have := hB.size; omega
   have hsucc := fit_succ (w := W) (h := H) hlt'
   rw [hall.out, Bool.true_and] at hsucc
   have hhit := fun h => fit_hit (w := W) (h := H) hlt' h
   have hpk := hplH.out k hlt
   have hfd : fitP W H (picAt ms k) = (vld (picAt ms k).w (picAt ms k).h (picAt ms k).px && (decide ((picAt ms k).w = W) && decide ((picAt ms k).h = H))) := rfl
   obtain ⟨⟨mw, mh, mx⟩, hM⟩ : ∃ M, picAt ms k = M := ⟨_, rfl⟩
   obtain ⟨fv, hfv⟩ : ∃ v, fitP W H (picAt ms k) = v := ⟨_, rfl⟩
   rw [hfv] at hsucc hfd hhit
   rw [hM] at c0 c1 c2 rA hpk hfd
   simp only at c0 c1 c2 rA hpk hfd
   obtain ⟨v0, hv0⟩ : ∃ v, vld mw mh mx = v := ⟨_, rfl⟩
   rw [hv0] at hfd
   obtain ⟨l, hl⟩ : ∃ l, mx.length = l := ⟨_, rfl⟩
   rw [hl] at c2 hpk
   have hcall := Valid_any mw mh pa pc mx l (Lib.hid hl) wr hpk (later_i rA hB)
   rw [hv0] at hcall
   have hcallH := Lib.hid hcall
   have hsuccH := Lib.hid hsucc
   have hhitH := Lib.hid hhit
   have hfdH := Lib.hid hfd
   clear p0 p1 p2 hM hfv rA hcall hsucc hhit hfd hv0 hl
   have hno : fv = false → v = false := fun h => by rw [← hvH.out, hhitH.out h]; simp
   have hnoH := Lib.hid hno
   clear hno
   cases v0 with
   | false =>
    have hvf : v = false := hnoH.out (by rw [hfdH.out]; rfl)
    subst hvf
    go_wp2_with (go_at_call 76; refine hcallH.out.mono ?_; rintro e w2 ⟨rfl, hb2⟩; have e0 := (hb2.cell (p := ⟨b, o + k * 3, none⟩) hbl2).trans c0; have e1 := (hb2.cell (p := ⟨b, o + k * 3 + 1, none⟩) hbl2).trans c1; have e2 := (hb2.cell (p := ⟨b, o + k * 3 + 2, none⟩) hbl2).trans c2)
    go_ret
    exact ⟨rfl, hB.trans (hb2.mono hB.size)⟩
   | true =>
    by_cases q1 : mw = W
    case neg =>
     have q1d : (mw != W) = true := by simp [q1]
     have hvf : v = false := hnoH.out (by rw [hfdH.out]; simp [q1])
     subst hvf
     clear q1
     go_wp2_with (go_at_call 76; refine hcallH.out.mono ?_; rintro e w2 ⟨rfl, hb2⟩; have e0 := (hb2.cell (p := ⟨b, o + k * 3, none⟩) hbl2).trans c0; have e1 := (hb2.cell (p := ⟨b, o + k * 3 + 1, none⟩) hbl2).trans c1; have e2 := (hb2.cell (p := ⟨b, o + k * 3 + 2, none⟩) hbl2).trans c2)
     go_ret
     exact ⟨rfl, hB.trans (hb2.mono hB.size)⟩
    case pos =>
     have q1d : (mw != W) = false := by simp [q1]
     by_cases q2 : mh = H
     case neg =>
      have q2d : (mh != H) = true := by simp [q2]
      have hvf : v = false := hnoH.out (by rw [hfdH.out]; simp [q2])
      subst hvf
      clear q1 q2
      go_wp2_with (go_at_call 76; refine hcallH.out.mono ?_; rintro e w2 ⟨rfl, hb2⟩; have e0 := (hb2.cell (p := ⟨b, o + k * 3, none⟩) hbl2).trans c0; have e1 := (hb2.cell (p := ⟨b, o + k * 3 + 1, none⟩) hbl2).trans c1; have e2 := (hb2.cell (p := ⟨b, o + k * 3 + 2, none⟩) hbl2).trans c2)
      go_ret
      exact ⟨rfl, hB.trans (hb2.mono hB.size)⟩
     case pos =>
      have q2d : (mh != H) = false := by simp [q2]
      have hft : fv = true := by rw [hfdH.out]; simp [q1, q2]
      have hs2 := hsuccH.out
      rw [hft] at hs2
      have hs2H := Lib.hid hs2
      clear q1 q2 hs2 hft
      go_wp2_with (go_at_call 76; refine hcallH.out.mono ?_; rintro e w2 ⟨rfl, hb2⟩; have e0 := (hb2.cell (p := ⟨b, o + k * 3, none⟩) hbl2).trans c0; have e1 := (hb2.cell (p := ⟨b, o + k * 3 + 1, none⟩) hbl2).trans c1; have e2 := (hb2.cell (p := ⟨b, o + k * 3 + 2, none⟩) hbl2).trans c2)
      go_roundw
      case rel => exact ⟨k + 1, by omega, by go_num, hs2H, hB.trans (hb2.mono hB.size)⟩
      case measure => simp [intOf]; omega
end Go.Proofs.Ytekiemlniegddaa
namespace Go.Proofs.Ytekiemlniegddaa
open Go Go.RowKit Go.Shelf
theorem row_maxP {W : World} {base : Nat} {e : TypeId} {size : Nat} {v : Value} {k : Nat} {xs : List Value} (h : W.ownsRow base e size v k xs) : k ≤ 9223372036854775807 := by
 rcases h.2 with ⟨_, h2⟩ | ⟨g, cap, cur, _, _, _, h3, h4, _⟩
 ·omega
 ·unfold maxLen at h4; omega
set_option maxRecDepth 100000 in
set_option maxHeartbeats 4000000 in
theorem twins_any (ms : List PicN) (a : Option Addr) (c n : Nat) (hn : ms.length = n) (hm : n * 40 ≤ 140737488355328) (hpl : ∀ i, (picAt ms i).px.length * 8 ≤ 140737488355328) (w : World) (hr : RdPs w.heap.size w a ms) :
  Calls Try.prog 8 #[.slice a n c] w fun e w' => ∃ a' c', e = .returned (.slice a' n c') ∧ RdPs w'.heap.size w' a' ms ∧ Below w.heap.size w w' := by
 obtain ⟨i0, gi, gz0, gz1, gz2⟩ := info_parts info_pic
 have hnH := Lib.hid hn
 have hplH := Lib.hid hpl
 clear hn hpl
 have hownH := Lib.hid (show ∃ l : List PicA, OwnA w.heap.size w (.slice none 0 0) l ∧ l.map PicA.p = ms.take 0 from ⟨[], ⟨World.ownsRow_nil _ _ _ _, fun x hx => by cases hx⟩, rfl⟩)
 go_enter Try.func8, Try.ntmps8
 go_wp2
 go_loopw [3, 4] (fun v i wr => ∃ k : Nat, k ≤ n ∧ i = .int .i64 (k : Int) ∧ Hid (∃ l : List PicA, OwnA w.heap.size wr v l ∧ l.map PicA.p = ms.take k) ∧ Below w.heap.size w wr) (fun _ i _ => n - (intOf i).toNat)
 case atStart => exact ⟨0, Nat.zero_le _, rfl, Lib.hid ⟨[], ⟨World.ownsRow_nil _ _ _ _, fun x hx => by cases hx⟩, rfl⟩, Below.refl _ _⟩
 case round =>
  clear hownH
  obtain ⟨k, hk, rfl, hH, hB⟩ := hrel
  obtain ⟨l, hown, hlm⟩ := hH.out
  have hll : l.length = k := by have := congrArg List.length hlm; rw [List.length_map, List.length_take, hnH.out] at this; omega
  obtain ⟨va, vc, rfl⟩ := row_slice hown.row
  by_cases hlt : k < n
  case neg =>
   have hkn : k = n := by omega
   subst hkn
   have hfin : RdPs wr.heap.size wr va ms := by
    obtain ⟨a', c', e1, e2⟩ := hown.ps.slice
    simp only [Value.slice.injEq] at e1
    obtain ⟨rfl, _, rfl⟩ := e1
    rw [hlm, List.take_of_length_le (by rw [hnH.out]; exact Nat.le_refl _)] at e2; exact e2
   rw [hll]
   clear hown hlm hH hll
   go_wp2_with fail
   go_ret
   exact ⟨va, vc, rfl, hfin, hB⟩
  case pos =>
   have hlt' : k < ms.length := by have := hnH.out; omega
   obtain ⟨b, o, rfl, hbl, pa, pc, p0, p1, p2, rA, hz⟩ := hr.at hlt'
   have c0 := (hB.cell (p := ⟨b, o + k * 3, none⟩) hbl).trans p0
   have c1 := (hB.cell (p := ⟨b, o + k * 3 + 1, none⟩) hbl).trans p1
   have c2 := (hB.cell (p := ⟨b, o + k * 3 + 2, none⟩) hbl).trans p2
   have hpk := hplH.out k
   have htk : ms.take (k + 1) = ms.take k ++ [picAt ms k] := by
    rw [List.take_succ_eq_append_getElem hlt']; unfold picAt; rw [List.getElem?_eq_getElem hlt']; rfl
   obtain ⟨⟨mw, mh, mx⟩, hM⟩ : ∃ M, picAt ms k = M := ⟨_, rfl⟩
   rw [hM] at c0 c1 c2 rA hpk htk
   simp only at c0 c1 c2 rA hpk hz
   have hnil : pa = none → mx.length = 0 ∧ pc = 0 := by
    intro e
    refine ⟨?_, hz e⟩
    rcases rA with h | ⟨b', o', h1, _⟩
    ·rw [h]; rfl
    ·rw [e] at h1; cases h1
   obtain ⟨xl, hl⟩ : ∃ l, mx.length = l := ⟨_, rfl⟩
   rw [hl] at c2 hpk hnil
   have hxlH := Lib.hid hl
   have hnilH := Lib.hid hnil
   have htkH := Lib.hid htk
   have hlmH := Lib.hid hlm
   have hllH := Lib.hid hll
   have hrdH := Lib.hid hown.rd
   have hrow0 : wr.ownsRow w.heap.size 29 3 (.slice va k vc) k (flatC l) := by have := hown.row; rw [hll] at this; exact this
   clear p0 p1 p2 hM hz hnil hl htk hlm hown hH
   rw [hll]
   clear hll
   have hBw : Below wr.heap.size wr wr := Below.refl _ _
   have hvl : ∀ b, (Value.slice va k vc).ownBlock = some b → b < wr.heap.size := fun b e => (hrow0.lt b e).2
   have hsz1 := hBw.size
   go_wp2_with fail
   refine (Twin_any mw mh pa pc xl mx hxlH wr hpk (later_i rA hB) hnilH).mono ?_
   rintro e V21 ⟨vv, rfl, ⟨tt, rfl, hrow⟩, hb⟩
   replace hBw := hBw.trans (hb.mono hBw.size)
   replace hrow0 := row_below hrow0 hb
   replace hB := tmB hB hb
   clear hb
   obtain ⟨xa, xc, rfl⟩ := row_slice hrow
   rw [hxlH.out] at hrow ⊢
   have hfar : mx = [] ∨ ∀ ad, xa = some ad → (Value.slice va k vc).ownBlock ≠ some ad.block := by
    right
    rintro ad rfl e
    have e1 := (hrow.lt ad.block rfl).1
    have e2 := hvl _ e
    omega
   have hfarH := Lib.hid hfar
   clear hfar c0 c1 c2
   obtain ⟨V22, hEV22, hbV22, kb⟩ := newB V21 29 #[.int .i64 mw, .int .i64 mh, .slice xa xl xc]
   replace hBw := hBw.trans (hbV22.mono hBw.size)
   replace hrow0 := row_below hrow0 hbV22
   replace hrow := row_below hrow hbV22
   replace hB := tmB hB hbV22
   clear hbV22
   go_wp2_with (at_builtin; refine wpList_append_anyS rfl _ _ 25 rfl w.heap.size 29 i0 (.agg #[.int .i64 0, .int .i64 0, .slice none 0 0]) 3 40 Try.underlying25 gi gz0 gz1 gz2 rfl (by decide) (.slice va k vc) k (flatC l) rfl hrow0 (some ⟨_, 0, none⟩) 1 1 (picCells ⟨⟨mw, mh, mx⟩, xa, xc⟩) rfl rfl (by rw [show picCells ⟨⟨mw, mh, mx⟩, xa, xc⟩ = [.int .i64 mw, .int .i64 mh, .slice xa xl xc] by show [_, _, Value.slice xa mx.length xc] = _; rw [hxlH.out]]; exact NewsAt.blk kb 1) (flatC_one [⟨⟨mw, mh, mx⟩, xa, xc⟩]) (by unfold maxLen; omega) (by omega) hB.size ?_; intro v7 W7 own7 hg7 hat7)
   have hBf : Below w.heap.size w W7 := hB.grown hg7 hB.size (fun b e => by have := (hrow0.lt b e).1; omega)
   have hrdJ : ∀ x ∈ l, RdX (Value.ownBlock (.slice va k vc)) wr x.a x.c x.p.px := by have := hrdH.out; rw [hllH.out] at this; exact this
   have hnew := OwnA.push (B := w.heap.size) (x := ⟨⟨mw, mh, mx⟩, xa, xc⟩) (fun y hy => by have e := hrdJ y hy; exact ⟨later_i e.1 hBw, e.2⟩) (row_rd' hxlH.out hrow) (fun e => by subst e; exact (row_nil hrow).2) hfarH.out (by have hll2 := hllH.out; rw [hll2]; exact own7) hg7 hat7
   have hfin : ∃ l : List PicA, OwnA w.heap.size W7 v7 l ∧ l.map PicA.p = ms.take (k + 1) := by
    refine ⟨_, hnew, ?_⟩
    rw [List.map_append, hlmH.out, htkH.out]
    rfl
   have hfinH := Lib.hid hfin
   clear hfin hnew hrow hrow0 own7 hg7 hat7 kb hB hBw hrdJ
   go_roundw
   case rel => exact ⟨k + 1, by omega, by go_num, hfinH, hBf⟩
   case measure => simp [intOf]; omega
set_option maxRecDepth 100000 in
set_option maxHeartbeats 4000000 in
theorem same3_any (ms : List PicN) (a a2 : Option Addr) (c c2 n : Nat) (hn : ms.length = n) (hm : n ≤ 9223372036854775807) (hpl : ∀ i, (picAt ms i).px.length ≤ 9223372036854775807) (w : World) (hr : RdPs w.heap.size w a ms) (hr2 : RdPs w.heap.size w a2 ms) :
  Calls Try.prog 15 #[.slice a n c, .slice a2 n c2] w fun e w' => e = .returned (.bool true) ∧ Below w.heap.size w w' := by
 have hnH := Lib.hid hn
 have hplH := Lib.hid hpl
 clear hn hpl
 go_enter Try.func15, Try.ntmps15
 go_wp2
 go_loopw [5] (fun i wr => ∃ k : Nat, k ≤ n ∧ i = .int .i64 (k : Int) ∧ Below w.heap.size w wr) (fun i _ => n - (intOf i).toNat)
 case atStart => exact ⟨0, Nat.zero_le _, rfl, Below.refl _ _⟩
 case round =>
  obtain ⟨k, hk, rfl, hB⟩ := hrel
  by_cases hlt : k < n
  case neg =>
   go_wp2_with fail
   go_ret
   exact ⟨rfl, hB⟩
  case pos =>
   have hlt' : k < ms.length := by have := hnH.out; omega
   obtain ⟨b, o, rfl, hbl, pa, pc, p0, p1, p2, rA, _⟩ := hr.at hlt'
   obtain ⟨b2, o2, rfl, hbl2, qa, qc, q0, q1, q2, rQ, _⟩ := hr2.at hlt'
   have c0 := (hB.cell (p := ⟨b, o + k * 3, none⟩) hbl).trans p0
   have c1 := (hB.cell (p := ⟨b, o + k * 3 + 1, none⟩) hbl).trans p1
   have c2 := (hB.cell (p := ⟨b, o + k * 3 + 2, none⟩) hbl).trans p2
   have e0 := (hB.cell (p := ⟨b2, o2 + k * 3, none⟩) hbl2).trans q0
   have e1 := (hB.cell (p := ⟨b2, o2 + k * 3 + 1, none⟩) hbl2).trans q1
   have e2 := (hB.cell (p := ⟨b2, o2 + k * 3 + 2, none⟩) hbl2).trans q2
   replace rA := later_i rA hB
   replace rQ := later_i rQ hB
   have hb1 : b < wr.heap.size := by have := hB.size; omega
   have hb2 : b2 < wr.heap.size := by have := hB.size; omega
   have hpk := hplH.out k
   obtain ⟨⟨mw, mh, mx⟩, hM⟩ : ∃ M, picAt ms k = M := ⟨_, rfl⟩
   rw [hM] at c0 c1 c2 e0 e1 e2 rA rQ hpk
   simp only at c0 c1 c2 e0 e1 e2 rA rQ hpk
   obtain ⟨xl, hl⟩ : ∃ l, mx.length = l := ⟨_, rfl⟩
   rw [hl] at c2 e2 hpk
   have hxlH := Lib.hid hl
   clear p0 p1 p2 q0 q1 q2 hM hl
   have hS : Below wr.heap.size wr wr.drew := (Below.refl _ _).drew
   go_wp2_with fail
   refine plain_region (fun W' => Below wr.heap.size wr W') 10 10 (by kernel_rfl) rfl ?_
   simp only [Array.replicate_succ, Array.replicate_zero, List.push_toArray, List.nil_append, List.cons_append]
   obtain ⟨X0, hXX0⟩ : ∃ X : World, wr.drew = X := ⟨_, rfl⟩
   rw [hXX0] at hS ⊢
   clear hXX0
   have FA0 := Lib.hid (fun w' (hS' : (fun W' => Below wr.heap.size wr W') w') => And.intro ((hS'.cell (p := ⟨b, o + k * 3, none⟩) hb1).trans c0) (And.intro ((hS'.cell (p := ⟨b2, o2 + k * 3, none⟩) hb2).trans e0) (And.intro ((hS'.cell (p := ⟨b, o + k * 3 + 1, none⟩) hb1).trans c1) (And.intro ((hS'.cell (p := ⟨b2, o2 + k * 3 + 1, none⟩) hb2).trans e1) (And.intro ((hS'.cell (p := ⟨b, o + k * 3 + 2, none⟩) hb1).trans c2) ((hS'.cell (p := ⟨b2, o2 + k * 3 + 2, none⟩) hb2).trans e2))))))
   refine tkz 0 rfl hS (fun w' hS' => by go_simp; rfl) ?_
   simp only [nrz]
   refine tkz 1 rfl hS (fun w' hS' => by go_simp; rfl) ?_
   simp only [nrz]
   refine tkz 2 (v := ?rv2) rfl hS (fun w' hS' => ?ry2) ?rz2
   case ry2 =>
    go_simp
    try go_ints
    first
    | rfl
    | (rw [if_pos (by omega)]; done)
    | rw [if_pos ⟨by omega, by omega⟩]
   simp only [nrz]
   refine tkz 3 rfl hS (fun w' hS' => by obtain ⟨d0, g0, d1, g1, d2, g2⟩ := FA0.out w' hS'; clear hS'; go_simp; rfl) ?_
   simp only [nrz]
   refine tkz 4 rfl hS (fun w' hS' => by go_simp; rfl) ?_
   simp only [nrz]
   refine tkz 5 rfl hS (fun w' hS' => by go_simp; rfl) ?_
   simp only [nrz]
   refine tkz 6 (v := ?rv6) rfl hS (fun w' hS' => ?ry6) ?rz6
   case ry6 =>
    go_simp
    try go_ints
    first
    | rfl
    | (rw [if_pos (by omega)]; done)
    | rw [if_pos ⟨by omega, by omega⟩]
   simp only [nrz]
   refine tkz 7 rfl hS (fun w' hS' => by obtain ⟨d0, g0, d1, g1, d2, g2⟩ := FA0.out w' hS'; clear hS'; go_simp; rfl) ?_
   simp only [nrz]
   refine step_op 8 (by kernel_rfl) rfl (fun K hK => ?_)
   rw [if_pos (by rfl)]
   go_simp
   refine (Same_eq mw mh pa qa pc qc xl mx hxlH X0 hpk (later_i rA hS) (later_i rQ hS)).mono ?_
   rintro e X1 ⟨rfl, hb⟩
   have hS1 : Below wr.heap.size wr X1 := hS.trans (hb.mono hS.size)
   clear hb
   refine hK.out _ _ (fun h => hS1) ?_
   clear hK K
   try simp only [Act.put, nrz]
   refine tkz 9 rfl hS1 (fun w' hS' => by go_simp; (try go_ints); rfl) ?_
   simp only [nrz]
   refine done_ops (by kernel_rfl) ?_
   have hBf := hB.trans (hS1.mono hB.size)
   clear hS hS1
   go_wp2_with fail
   go_roundw
   case rel => exact ⟨k + 1, by omega, by go_num, hBf⟩
   case measure => simp [intOf]; omega
end Go.Proofs.Ytekiemlniegddaa
namespace Go.Proofs.Ytekiemlniegddaa
open Go Go.RowKit Go.Shelf
set_option maxRecDepth 100000 in
set_option maxHeartbeats 2000000 in
theorem rvector_any (v : VecN) (q : Bool) (hq : vecB v = q) (w : World) :
  Calls Try.prog 49 #[.agg #[.int .i64 v.lanes, .int .i64 v.regs, .int .i64 v.mem]] w fun e w' => e = .returned (.bool q) ∧ Below w.heap.size w w' := by
 have hB : Below w.heap.size w w := Below.refl _ _
 obtain ⟨q1, h1⟩ : ∃ q, inR v.lanes 1 16 = q := ⟨_, rfl⟩
 obtain ⟨q2, h2⟩ : ∃ q, inR v.regs 2 16 = q := ⟨_, rfl⟩
 obtain ⟨q3, h3⟩ : ∃ q, inR v.mem 1 8192 = q := ⟨_, rfl⟩
 have hq0 : vecB v = (q1 && (q2 && q3)) := by unfold vecB; rw [h1, h2, h3]
 rw [hq] at hq0
 have h1H := Lib.hid h1
 have h2H := Lib.hid h2
 have h3H := Lib.hid h3
 have hqH := Lib.hid hq0
 clear h1 h2 h3 hq hq0
 have tok1 : True := trivial
 have tok2 : True := trivial
 have tok3 : True := trivial
 obtain ⟨V1, hEV1, hbV1, kv⟩ := newB w 42 #[.int .i64 v.lanes, .int .i64 v.regs, .int .i64 v.mem]
 replace hB := tmB hB hbV1
 clear hbV1
 obtain ⟨m0, m1, m2⟩ := cz3 kv
 cases q1 with
 | false =>
  have hqf : q = false := by rw [hqH.out]; rfl
  subst hqf
  go_enter Try.func49, Try.ntmps49
  go_wp2_with (go_at_call 58; have _t := tok1; refine (swithin v.lanes 1 16 false h1H.out _).mono ?_; clear _t tok1; rintro e w' ⟨rfl, rfl⟩)
  go_ret
  exact ⟨rfl, hB⟩
 | true =>
  cases q2 with
  | false =>
   have hqf : q = false := by rw [hqH.out]; rfl
   subst hqf
   go_enter Try.func49, Try.ntmps49
   go_wp2_with (first
    | (go_at_call 58; have _t := tok1; refine (swithin v.lanes 1 16 true h1H.out _).mono ?_; clear _t tok1; rintro e w' ⟨rfl, rfl⟩)
    | (go_at_call 58; have _t := tok2; refine (swithin v.regs 2 16 false h2H.out _).mono ?_; clear _t tok2; rintro e w' ⟨rfl, rfl⟩))
   go_ret
   exact ⟨rfl, hB⟩
  | true =>
   have hqf : q = q3 := by rw [hqH.out]; rfl
   subst hqf
   go_enter Try.func49, Try.ntmps49
   go_wp2_with (first
    | (go_at_call 58; have _t := tok1; refine (swithin v.lanes 1 16 true h1H.out _).mono ?_; clear _t tok1; rintro e w' ⟨rfl, rfl⟩)
    | (go_at_call 58; have _t := tok2; refine (swithin v.regs 2 16 true h2H.out _).mono ?_; clear _t tok2; rintro e w' ⟨rfl, rfl⟩)
    | (go_at_call 58; have _t := tok3; refine (swithin v.mem 1 8192 q h3H.out _).mono ?_; clear _t tok3; rintro e w' ⟨rfl, rfl⟩))
   go_ret
   exact ⟨rfl, hB⟩
end Go.Proofs.Ytekiemlniegddaa

/- Contracts and laws (PsD, Fork, McB). -/
import Derived.Test.YtekiemlniegddaaQR6
import Derived.Test.YtekiemlniegddaaQR1
import Derived.Test.YtekiemlniegddaaQR4
import Derived.Test.YtekiemlniegddaaQR2
set_option linter.unusedVariables false
set_option linter.unusedSimpArgs false
namespace Go.Proofs.Ytekiemlniegddaa
open Go Go.RowKit Go.Shelf
theorem adr_succ {v : VecN} {l : List Int} {k : Nat} (hk : k < l.length) : (l.take (k + 1)).all (fun x => inR x (-1) (v.mem - 1)) = ((l.take k).all (fun x => inR x (-1) (v.mem - 1)) && inR (l[k]?.getD 0) (-1) (v.mem - 1)) := by
 rw [List.take_succ_eq_append_getElem hk, List.all_append]; rw [List.getElem?_eq_getElem hk]; simp
theorem adr_hit {v : VecN} {l : List Int} {k : Nat} (hk : k < l.length) (h : inR (l[k]?.getD 0) (-1) (v.mem - 1) = false) : l.all (fun x => inR x (-1) (v.mem - 1)) = false := by
 rw [List.getElem?_eq_getElem hk] at h
 exact List.all_eq_false.2 ⟨_, List.getElem_mem hk, by simpa using h⟩
set_option maxRecDepth 100000 in
set_option maxHeartbeats 4000000 in
theorem raddr_any (v : VecN) (hv : VecIn v) (l : List Int) (a : Option Addr) (c n : Nat) (hn : l.length = n) (hm : n ≤ 9223372036854775807) (q : Bool) (hq : adrB v l = q) (w : World) (hr : Rd w.heap.size w a l) :
  Calls Try.prog 131 #[.agg #[.int .i64 v.lanes, .int .i64 v.regs, .int .i64 v.mem], .slice a n c] w fun e w' => e = .returned (.bool q) ∧ Below w.heap.size w w' := by
 have hB : Below w.heap.size w w := Below.refl _ _
 have hnH := Lib.hid hn
 have hqH := Lib.hid hq
 clear hn hq
 obtain ⟨v1, v2, v3, v4, v5, v6⟩ := hv
 obtain ⟨V1, hEV1, hbV1, kv⟩ := newB w 42 #[.int .i64 v.lanes, .int .i64 v.regs, .int .i64 v.mem]
 replace hr := later_i hr hbV1
 replace hB := tmB hB hbV1
 clear hbV1
 obtain ⟨m0, m1, m2⟩ := cz3 kv
 by_cases hl : (n : Int) = v.lanes
 case neg =>
  have hld : ((n : Int) != v.lanes) = true := by simp [hl]
  have hqf : q = false := by rw [← hqH.out]; unfold adrB; rw [hnH.out, decide_eq_false hl]; rfl
  subst hqf
  clear hl
  go_enter Try.func131, Try.ntmps131
  go_wp2_with fail
  go_ret
  exact ⟨rfl, hB⟩
 case pos =>
 have hld : ((n : Int) != v.lanes) = false := by simp [hl]
 have hq2 : adrB v l = l.all (fun x => inR x (-1) (v.mem - 1)) := by unfold adrB; rw [hnH.out, decide_eq_true hl, Bool.true_and]
 have hqH2 := Lib.hid (hq2.symm.trans hqH.out)
 have hn16 : n ≤ 16 := by omega
 clear hq2 hqH hl
 go_enter Try.func131, Try.ntmps131
 go_wp2_with fail
 clear hEV1
 clear m0 m1 m2
 go_loopw [5] (fun i wr => ∃ k : Nat, k ≤ n ∧ i = .int .i64 (k : Int) ∧ Hid ((l.take k).all (fun x => inR x (-1) (v.mem - 1)) = true) ∧ Below V1.heap.size V1 wr) (fun i _ => n - (intOf i).toNat)
 case atStart => exact ⟨0, Nat.zero_le _, rfl, Lib.hid (by simp), Below.refl _ _⟩
 case round =>
  obtain ⟨k, hk, rfl, hall, hBV⟩ := hrel
  have lv := kv.lt
  by_cases hlt : k < n
  case pos =>
   have hlt' : k < l.length := by have := hnH.out; omega
   have hltd : decide ((k : Int) < (n : Int)) = true := by simp; omega
   rcases hr with h0 | ⟨b, o, rfl, hb, hc⟩
   ·exfalso; rw [h0] at hlt'; simp at hlt'
   have c0 := hc k hlt'
   have hsx := adr_succ (v := v) hlt'
   have hhx := adr_hit (v := v) hlt'
   obtain ⟨y, hy⟩ : ∃ y, l[k]?.getD 0 = y := ⟨_, rfl⟩
   rw [hy] at c0 hsx hhx
   obtain ⟨ry, hry⟩ : ∃ r, inR y (-1) (v.mem - 1) = r := ⟨_, rfl⟩
   rw [hry] at hsx hhx
   have hsxH := Lib.hid hsx
   have hhxH := Lib.hid hhx
   have hryH := Lib.hid hry
   clear hsx hhx hry hy hc
   have hS : Below V1.heap.size V1 wr.drew := hBV.drew
   go_wp2_with fail
   refine plain_region (fun W' => Below V1.heap.size V1 W') 9 9 (by kernel_rfl) rfl ?_
   simp only [Array.replicate_succ, Array.replicate_zero, List.push_toArray, List.nil_append, List.cons_append]
   obtain ⟨X0, hXX0⟩ : ∃ X : World, wr.drew = X := ⟨_, rfl⟩
   rw [hXX0] at hS ⊢
   clear hXX0
   have FA0 := Lib.hid (fun w' (hS' : (fun W' => Below V1.heap.size V1 W') w') => And.intro ((hS'.cell (p := ⟨b, o + k, none⟩) hb).trans c0) ((kv.below hS' lv).cell (i := 2) rfl))
   refine tkz 0 rfl hS (fun w' hS' => by go_simp; rfl) ?_
   simp only [nrz]
   refine tkz 1 rfl hS (fun w' hS' => by go_simp; rfl) ?_
   simp only [nrz]
   refine tkz 2 (v := ?gv2) rfl hS (fun w' hS' => ?gy2) ?gz2
   case gy2 =>
    go_simp
    try go_ints
    first
    | rfl
    | (rw [if_pos (by omega)]; done)
    | rw [if_pos ⟨by omega, by omega⟩]
   simp only [nrz]
   refine tkz 3 rfl hS (fun w' hS' => by obtain ⟨e0, e2⟩ := FA0.out w' hS'; clear hS'; go_simp; rfl) ?_
   simp only [nrz]
   refine tkz 4 rfl hS (fun w' hS' => by go_simp; rfl) ?_
   simp only [nrz]
   refine tkz 5 rfl hS (fun w' hS' => by obtain ⟨e0, e2⟩ := FA0.out w' hS'; clear hS'; go_simp; rfl) ?_
   simp only [nrz]
   refine tkz 6 rfl hS (fun w' hS' => by go_simp; (try go_ints); rfl) ?_
   simp only [nrz]
   refine step_op 7 (by kernel_rfl) rfl (fun K hK => ?_)
   rw [if_pos (by rfl)]
   go_simp
   refine (swithin y (-1) (v.mem - 1) ry hryH.out X0).mono ?_
   rintro e X1 ⟨rfl, hX⟩
   rw [← hX]
   clear hX X1
   refine hK.out _ _ (fun h => hS) ?_
   clear hK K
   try simp only [Act.put, nrz]
   refine tkz 8 rfl hS (fun w' hS' => by go_simp; (try go_ints); rfl) ?_
   simp only [nrz]
   refine done_ops (by kernel_rfl) ?_
   cases ry with
   | false =>
    have hqf : q = false := by rw [← hqH2.out]; exact hhxH.out rfl
    subst hqf
    go_wp2_with fail
    go_ret
    exact ⟨rfl, hB.trans (hS.mono hB.size)⟩
   | true =>
    have hall2 : Hid ((l.take (k + 1)).all (fun x => inR x (-1) (v.mem - 1)) = true) := Lib.hid (by rw [hsxH.out, hall.out]; rfl)
    go_wp2_with fail
    go_roundw
    case rel => exact ⟨k + 1, by omega, by go_num, hall2, hS⟩
    case measure => simp [intOf]; omega
  case neg =>
   have hltd : decide ((k : Int) < (n : Int)) = false := by simp; omega
   have hqt : q = true := by
    rw [← hqH2.out]
    have := hall.out
    rw [List.take_of_length_le (by have := hnH.out; omega)] at this
    exact this
   subst hqt
   go_wp2_with fail
   go_ret
   exact ⟨rfl, hB.trans (hBV.mono hB.size)⟩
set_option maxRecDepth 100000 in
set_option maxHeartbeats 8000000 in
theorem rinstr_any (v : VecN) (hv : VecIn v) (x : InsN) (hx : InsIn x) (ia : Option Addr) (ic : Nat) (q : Bool) (hq : insB v x = q) (w : World) (hra : Rd w.heap.size w ia x.ad) :
  Calls Try.prog 93 #[.agg #[.int .i64 v.lanes, .int .i64 v.regs, .int .i64 v.mem], insv x ia ic] w fun e w' => e = .returned (.bool q) ∧ Below w.heap.size w w' := by
 have hB : Below w.heap.size w w := Below.refl _ _
 obtain ⟨hop, hhow, hal0⟩ := hx
 obtain ⟨rd, hrd⟩ : ∃ q, inR x.d 0 (v.regs - 1) = q := ⟨_, rfl⟩
 obtain ⟨ra, hra2⟩ : ∃ q, inR x.a 0 (v.regs - 1) = q := ⟨_, rfl⟩
 obtain ⟨rb, hrb⟩ : ∃ q, inR x.b 0 (v.regs - 1) = q := ⟨_, rfl⟩
 have hvvH := Lib.hid hv
 obtain ⟨v1, v2, v3, v4, v5, v6⟩ := hv
 unfold insB at hq
 rw [hrd, hra2, hrb] at hq
 have hrdH := Lib.hid hrd
 have hraH := Lib.hid hra2
 have hrbH := Lib.hid hrb
 obtain ⟨al, hal⟩ : ∃ l, x.ad.length = l := ⟨_, rfl⟩
 have halH := Lib.hid hal
 unfold insv
 rw [hal] at hal0 ⊢
 clear hrd hra2 hrb hal
 obtain ⟨V1, hEV1, hbV1, kv⟩ := newB w 42 #[.int .i64 v.lanes, .int .i64 v.regs, .int .i64 v.mem]
 replace hra := later_i hra hbV1
 replace hB := tmB hB hbV1
 clear hbV1
 obtain ⟨m0, m1, m2⟩ := cz3 kv
 obtain ⟨V2, hEV2, hbV2, kx⟩ := newB V1 95 #[.int .u8 x.op, .int .i64 x.d, .int .i64 x.a, .int .i64 x.b, .int .i64 x.val, .int .i64 x.pt.mul, .int .i64 x.pt.add, .int .i64 x.pt.div, .int .i64 x.pt.lo, .int .i64 x.pt.hi, .int .u8 x.how, .slice ia al ic]
 clear m0 m1 m2
 replace kv := kv.below hbV2 kv.lt
 replace hra := later_i hra hbV2
 replace hB := tmB hB hbV2
 clear hbV2
 obtain ⟨m0, m1, m2⟩ := cz3 kv
 obtain ⟨x0, x1, x2, x3, x4, x5, x6, x7, x8, x9, x10, x11⟩ := cz12 kx
 have lv := kv.lt
 have lx := kx.lt
 go_enter Try.func93, Try.ntmps93
 go_wp2_with fail
 clear hEV1 hEV2
 clear m0 m1 m2 x0 x1 x2 x3 x4 x5 x6 x7 x8 x9 x10 x11
 have hS : Below V2.heap.size V2 V2.drew := (Below.refl _ _).drew
 refine plain_region (fun W' => Below V2.heap.size V2 W') 21 21 (by kernel_rfl) rfl ?_
 simp only [Array.replicate_succ, Array.replicate_zero, List.push_toArray, List.nil_append, List.cons_append]
 obtain ⟨X0, hXX0⟩ : ∃ X : World, V2.drew = X := ⟨_, rfl⟩
 rw [hXX0] at hS ⊢
 clear hXX0
 have FA1 := Lib.hid (fun w' (hS' : (fun W' => Below V2.heap.size V2 W') w') => And.intro ((kx.below hS' lx).cell (i := 1) rfl) (And.intro ((kx.below hS' lx).cell (i := 2) rfl) (And.intro ((kx.below hS' lx).cell (i := 3) rfl) ((kv.below hS' lv).cell (i := 1) rfl))))
 refine tkz 0 rfl hS (fun w' hS' => by go_simp; rfl) ?_
 simp only [nrz]
 refine tkz 1 rfl hS (fun w' hS' => by obtain ⟨y1, y2, y3, e1⟩ := FA1.out w' hS'; clear hS'; go_simp; rfl) ?_
 simp only [nrz]
 refine tkz 2 rfl hS (fun w' hS' => by go_simp; rfl) ?_
 simp only [nrz]
 refine tkz 3 rfl hS (fun w' hS' => by obtain ⟨y1, y2, y3, e1⟩ := FA1.out w' hS'; clear hS'; go_simp; rfl) ?_
 simp only [nrz]
 refine tkz 4 rfl hS (fun w' hS' => by go_simp; (try go_ints); rfl) ?_
 simp only [nrz]
 refine tkz 6 rfl hS (fun w' hS' => by go_simp; rfl) ?_
 simp only [nrz]
 refine tkz 7 rfl hS (fun w' hS' => by obtain ⟨y1, y2, y3, e1⟩ := FA1.out w' hS'; clear hS'; go_simp; rfl) ?_
 simp only [nrz]
 refine tkz 8 rfl hS (fun w' hS' => by go_simp; rfl) ?_
 simp only [nrz]
 refine tkz 9 rfl hS (fun w' hS' => by obtain ⟨y1, y2, y3, e1⟩ := FA1.out w' hS'; clear hS'; go_simp; rfl) ?_
 simp only [nrz]
 refine tkz 10 rfl hS (fun w' hS' => by go_simp; (try go_ints); rfl) ?_
 simp only [nrz]
 refine tkz 12 rfl hS (fun w' hS' => by go_simp; rfl) ?_
 simp only [nrz]
 refine tkz 13 rfl hS (fun w' hS' => by obtain ⟨y1, y2, y3, e1⟩ := FA1.out w' hS'; clear hS'; go_simp; rfl) ?_
 simp only [nrz]
 refine tkz 14 rfl hS (fun w' hS' => by go_simp; rfl) ?_
 simp only [nrz]
 refine tkz 15 rfl hS (fun w' hS' => by obtain ⟨y1, y2, y3, e1⟩ := FA1.out w' hS'; clear hS'; go_simp; rfl) ?_
 simp only [nrz]
 refine tkz 16 rfl hS (fun w' hS' => by go_simp; (try go_ints); rfl) ?_
 simp only [nrz]
 refine step_op 5 (by kernel_rfl) rfl (fun K hK => ?_)
 rw [if_pos (by rfl)]
 go_simp
 refine (swithin x.d 0 (v.regs - 1) rd hrdH.out X0).mono ?_
 rintro e X1 ⟨rfl, hX⟩
 rw [← hX]
 clear hX X1
 refine hK.out _ _ (fun h => hS) ?_
 clear hK K
 try simp only [Act.put, nrz]
 refine step_op 11 (by kernel_rfl) rfl (fun K hK => ?_)
 rw [if_pos (by rfl)]
 go_simp
 refine (swithin x.a 0 (v.regs - 1) ra hraH.out X0).mono ?_
 rintro e X1 ⟨rfl, hX⟩
 rw [← hX]
 clear hX X1
 refine hK.out _ _ (fun h => hS) ?_
 clear hK K
 try simp only [Act.put, nrz]
 refine step_op 17 (by kernel_rfl) rfl (fun K hK => ?_)
 rw [if_pos (by rfl)]
 go_simp
 refine (swithin x.b 0 (v.regs - 1) rb hrbH.out X0).mono ?_
 rintro e X1 ⟨rfl, hX⟩
 rw [← hX]
 clear hX X1
 refine hK.out _ _ (fun h => hS) ?_
 clear hK K
 try simp only [Act.put, nrz]
 refine tkz 18 rfl hS (fun w' hS' => by go_simp; rfl) ?_
 simp only [nrz]
 refine tkz 19 rfl hS (fun w' hS' => by go_simp; rfl) ?_
 simp only [nrz]
 refine tkz 20 rfl hS (fun w' hS' => by go_simp; rfl) ?_
 simp only [nrz]
 refine done_ops (by kernel_rfl) ?_
 have kx2 := kx.below hS lx
 have kv2 := kv.below hS lv
 have hra2 := later_i hra hS
 have hB2 := hB.trans (hS.mono hB.size)
 have y0 := kx2.cell (i := 0) rfl
 have y4 := kx2.cell (i := 4) rfl
 have y5 := kx2.cell (i := 5) rfl
 have y6 := kx2.cell (i := 6) rfl
 have y7 := kx2.cell (i := 7) rfl
 have y8 := kx2.cell (i := 8) rfl
 have y9 := kx2.cell (i := 9) rfl
 have y10 := kx2.cell (i := 10) rfl
 have y11 := kx2.cell (i := 11) rfl
 obtain ⟨z0, z1, z2⟩ := cz3 kv2
 clear kx kv hra hB hS kx2 kv2 lv lx
 by_cases h1 : x.op = 1
 case pos =>
  have f1 : (x.op == 1) = true := by simp [h1]
  rw [if_pos h1] at hq
  clear h1
  cases rd with
  | false =>
   have hqH := Lib.hid hq
   clear hq
   go_wp2_with fail
   all_goals go_ret
   all_goals exact ⟨ret_bool (by rw [← hqH.out]; first | rfl | simp | (simp; omega)), hB2⟩
  | true =>
   obtain ⟨rw_, hrw⟩ : ∃ r, inR x.val (-2147483648) 2147483648 = r := ⟨_, rfl⟩
   rw [hrw] at hq
   have hrwH := Lib.hid hrw
   clear hrw
   cases rw_ with
   | false =>
    have hqH := Lib.hid hq
    clear hq
    go_wp2_with (go_at_call 58; refine (swithin x.val (-2147483648) 2147483648 false hrwH.out _).mono ?_; rintro e w3 ⟨rfl, hX⟩; rw [← hX]; clear hX w3)
    all_goals go_ret
    all_goals exact ⟨ret_bool (by rw [← hqH.out]; first | rfl | simp | (simp; omega)), hB2⟩
   | true =>
    obtain ⟨rq, hrq⟩ : ∃ r, adrB v x.ad = r := ⟨_, rfl⟩
    rw [hrq] at hq
    have hrqH := Lib.hid hrq
    clear hrq
    have hqH := Lib.hid hq
    clear hq
    go_wp2_with (first
     | (go_at_call 58; refine (swithin x.val (-2147483648) 2147483648 true hrwH.out _).mono ?_; rintro e w3 ⟨rfl, hX⟩; rw [← hX]; clear hX w3)
     | (go_at_call 131; refine (raddr_any v hvvH.out x.ad ia ic al halH.out hal0 rq hrqH.out X0 hra2).mono ?_; rintro e w4 ⟨rfl, hb⟩))
    all_goals go_ret
    all_goals exact ⟨ret_bool (by rw [← hqH.out]; first | rfl | simp | (simp; omega)), hB2.trans (hb.mono hB2.size)⟩
 case neg =>
  have f1 : (x.op == 1) = false := by simp [h1]
  rw [if_neg h1] at hq
  clear h1
  by_cases h2 : x.op = 2
  case pos =>
   have f2 : (x.op == 2) = true := by simp [h2]
   rw [if_pos h2] at hq
   clear h2
   cases ra with
   | false =>
    have hqH := Lib.hid hq
    clear hq
    go_wp2_with fail
    all_goals go_ret
    all_goals exact ⟨ret_bool (by rw [← hqH.out]; first | rfl | simp | (simp; omega)), hB2⟩
   | true =>
    obtain ⟨rq, hrq⟩ : ∃ r, adrB v x.ad = r := ⟨_, rfl⟩
    rw [hrq] at hq
    have hrqH := Lib.hid hrq
    clear hrq
    have hqH := Lib.hid hq
    clear hq
    go_wp2_with (go_at_call 131; refine (raddr_any v hvvH.out x.ad ia ic al halH.out hal0 rq hrqH.out X0 hra2).mono ?_; rintro e w4 ⟨rfl, hb⟩)
    all_goals go_ret
    all_goals exact ⟨ret_bool (by rw [← hqH.out]; first | rfl | simp | (simp; omega)), hB2.trans (hb.mono hB2.size)⟩
  case neg =>
   have f2 : (x.op == 2) = false := by simp [h2]
   rw [if_neg h2] at hq
   clear h2
   by_cases h3 : x.op = 3
   case pos =>
    have f3 : (x.op == 3) = true := by simp [h3]
    rw [if_pos h3] at hq
    clear h3
    cases rd with
    | false =>
     have hqH := Lib.hid hq
     clear hq
     go_wp2_with fail
     all_goals go_ret
     all_goals exact ⟨ret_bool (by rw [← hqH.out]; first | rfl | simp | (simp; omega)), hB2⟩
    | true =>
     obtain ⟨rw_, hrw⟩ : ∃ r, inR x.val (-2147483648) 2147483648 = r := ⟨_, rfl⟩
     rw [hrw] at hq
     have hrwH := Lib.hid hrw
     clear hrw
     have hqH := Lib.hid hq
     clear hq
     go_wp2_with (go_at_call 58; refine (swithin x.val (-2147483648) 2147483648 rw_ hrwH.out _).mono ?_; rintro e w3 ⟨rfl, hX⟩; rw [← hX]; clear hX w3)
     all_goals go_ret
     all_goals exact ⟨ret_bool (by rw [← hqH.out]; first | rfl | simp | (simp; omega)), hB2⟩
   case neg =>
    have f3 : (x.op == 3) = false := by simp [h3]
    rw [if_neg h3] at hq
    clear h3
    by_cases h4 : x.op = 4
    case pos =>
     have f4 : (x.op == 4) = true := by simp [h4]
     rw [if_pos h4] at hq
     clear h4
     cases rd with
     | false =>
      have hqH := Lib.hid hq
      clear hq
      go_wp2_with fail
      all_goals go_ret
      all_goals exact ⟨ret_bool (by rw [← hqH.out]; first | rfl | simp | (simp; omega)), hB2⟩
     | true =>
      cases ra with
      | false =>
       have hqH := Lib.hid hq
       clear hq
       go_wp2_with fail
       all_goals go_ret
       all_goals exact ⟨ret_bool (by rw [← hqH.out]; first | rfl | simp | (simp; omega)), hB2⟩
      | true =>
       have hqH := Lib.hid hq
       clear hq
       go_wp2_with (go_at_call 120; refine (ValidPoint_any x.pt X0).mono ?_; rintro e w4 ⟨rfl, hb⟩)
       all_goals go_ret
       all_goals exact ⟨ret_bool (by rw [← hqH.out]; first | rfl | simp | (simp; omega)), hB2.trans (hb.mono hB2.size)⟩
    case neg =>
     have f4 : (x.op == 4) = false := by simp [h4]
     rw [if_neg h4] at hq
     clear h4
     by_cases h5 : x.op = 5
     case pos =>
      have f5 : (x.op == 5) = true := by simp [h5]
      rw [if_pos h5] at hq
      clear h5
      cases rd with
      | false =>
       have hqH := Lib.hid hq
       clear hq
       go_wp2_with fail
       all_goals go_ret
       all_goals exact ⟨ret_bool (by rw [← hqH.out]; first | rfl | simp | (simp; omega)), hB2⟩
      | true =>
       cases ra with
       | false =>
        have hqH := Lib.hid hq
        clear hq
        go_wp2_with fail
        all_goals go_ret
        all_goals exact ⟨ret_bool (by rw [← hqH.out]; first | rfl | simp | (simp; omega)), hB2⟩
       | true =>
        cases rb with
        | false =>
         have hqH := Lib.hid hq
         clear hq
         go_wp2_with fail
         all_goals go_ret
         all_goals exact ⟨ret_bool (by rw [← hqH.out]; first | rfl | simp | (simp; omega)), hB2⟩
        | true =>
         by_cases g1 : 1 ≤ x.how
         case neg =>
          have g1d : decide (1 ≤ x.how) = false := by simp; omega
          have hqf : q = false := by rw [← hq]; simp [inR]; try omega
          subst hqf
          clear hq
          go_wp2_with fail
          go_ret
          exact ⟨rfl, hB2⟩
         case pos =>
          have g1d : decide (1 ≤ x.how) = true := by simp; omega
          by_cases g2 : x.how ≤ 6
          case neg =>
           have g2d : decide (x.how ≤ 6) = false := by simp; omega
           have hqf : q = false := by rw [← hq]; simp [inR]; try omega
           subst hqf
           clear hq
           go_wp2_with fail
           go_ret
           exact ⟨rfl, hB2⟩
          case pos =>
           have g2d : decide (x.how ≤ 6) = true := by simp; omega
           have hqf : q = true := by rw [← hq]; simp [inR]; try omega
           subst hqf
           clear hq
           go_wp2_with fail
           go_ret
           exact ⟨rfl, hB2⟩
     case neg =>
      have f5 : (x.op == 5) = false := by simp [h5]
      rw [if_neg h5] at hq
      clear h5
      by_cases h6 : x.op = 6
      case pos =>
       have f6 : (x.op == 6) = true := by simp [h6]
       rw [if_pos h6] at hq
       clear h6
       cases rd with
       | false =>
        have hqH := Lib.hid hq
        clear hq
        go_wp2_with fail
        all_goals go_ret
        all_goals exact ⟨ret_bool (by rw [← hqH.out]; first | rfl | simp | (simp; omega)), hB2⟩
       | true =>
        cases ra with
        | false =>
         have hqH := Lib.hid hq
         clear hq
         go_wp2_with fail
         all_goals go_ret
         all_goals exact ⟨ret_bool (by rw [← hqH.out]; first | rfl | simp | (simp; omega)), hB2⟩
        | true =>
         obtain ⟨rw_, hrw⟩ : ∃ r, inR x.val (-65536) 65536 = r := ⟨_, rfl⟩
         rw [hrw] at hq
         have hrwH := Lib.hid hrw
         clear hrw
         have hqH := Lib.hid hq
         clear hq
         go_wp2_with (go_at_call 58; refine (swithin x.val (-65536) 65536 rw_ hrwH.out _).mono ?_; rintro e w3 ⟨rfl, hX⟩; rw [← hX]; clear hX w3)
         all_goals go_ret
         all_goals exact ⟨ret_bool (by rw [← hqH.out]; first | rfl | simp | (simp; omega)), hB2⟩
      case neg =>
       have f6 : (x.op == 6) = false := by simp [h6]
       rw [if_neg h6] at hq
       clear h6
       have hqH := Lib.hid hq
       clear hq
       go_wp2_with fail
       all_goals go_ret
       all_goals exact ⟨ret_bool hqH.out, hB2⟩
def inpP (last x : Int) : Bool := decide (x = -1) || inR x 0 last
theorem inp_succ {last : Int} {l : List Int} {k : Nat} (hk : k < l.length) : (l.take (k + 1)).all (inpP last) = ((l.take k).all (inpP last) && inpP last (l[k]?.getD 0)) := by
 rw [List.take_succ_eq_append_getElem hk, List.all_append]; rw [List.getElem?_eq_getElem hk]; simp
theorem inp_hit {last : Int} {l : List Int} {k : Nat} (hk : k < l.length) (h : inpP last (l[k]?.getD 0) = false) : l.all (inpP last) = false := by
 rw [List.getElem?_eq_getElem hk] at h
 exact List.all_eq_false.2 ⟨_, List.getElem_mem hk, by simpa using h⟩
theorem insb_succ {v : VecN} {l : List InsN} {k : Nat} (hk : k < l.length) : (l.take (k + 1)).all (insB v) = ((l.take k).all (insB v) && insB v (insAt l k)) := by
 unfold insAt
 rw [List.take_succ_eq_append_getElem hk, List.all_append]; rw [List.getElem?_eq_getElem hk]; simp
theorem insb_hit {v : VecN} {l : List InsN} {k : Nat} (hk : k < l.length) (h : insB v (insAt l k) = false) : l.all (insB v) = false := by
 unfold insAt at h
 rw [List.getElem?_eq_getElem hk] at h
 exact List.all_eq_false.2 ⟨_, List.getElem_mem hk, by simpa using h⟩
theorem codeB_all (v : VecN) (C : CodeN) : codeB v C = ((inR C.w 1 16 && inR C.h 1 16) && (decide (C.inp.length ≤ 3) && (decide (C.ins.length ≤ 200000) && (inR C.out 0 (v.mem - C.w * C.h) && (C.inp.all (inpP (v.mem - C.w * C.h)) && C.ins.all (insB v)))))) := rfl
set_option maxRecDepth 100000 in
set_option maxHeartbeats 8000000 in
theorem rcode_any (v : VecN) (hv : VecIn v) (C : CodeN) (ia xa : Option Addr) (ic xc : Nat) (hC : CodeIn C) (q : Bool) (hq : codeB v C = q) (w : World) (hri : Rd w.heap.size w ia C.inp) (hrx : RdCs w.heap.size w xa C.ins) :
  Calls Try.prog 50 #[vecv v, codev C ia ic xa xc] w fun e w' => e = .returned (.bool q) ∧ Below w.heap.size w w' := by
 have hB : Below w.heap.size w w := Below.refl _ _
 obtain ⟨il0, xl0, hins⟩ := hC
 have hcb := codeB_all v C
 rw [hq] at hcb
 obtain ⟨W, H, inp, out, ins⟩ := C
 unfold vecv codev
 simp only at il0 xl0 hri hrx hins hcb ⊢
 obtain ⟨ni, hni⟩ : ∃ l, inp.length = l := ⟨_, rfl⟩
 obtain ⟨nx, hnx⟩ : ∃ l, ins.length = l := ⟨_, rfl⟩
 have hniH := Lib.hid hni
 have hnxH := Lib.hid hnx
 have hinsH := Lib.hid hins
 rw [hni] at il0 hcb ⊢
 rw [hnx] at xl0 hcb ⊢
 have hcbH := Lib.hid hcb
 have hvvH := Lib.hid hv
 clear hcb hni hnx hins hq
 obtain ⟨q1, q2, q3, q4, q5, q6⟩ := hv
 have tok1 : True := trivial
 have tok2 : True := trivial
 have tok3 : True := trivial
 have tok4 : True := trivial
 have tok5 : True := trivial
 have tok6 : True := trivial
 obtain ⟨V1, hEV1, hbV1, kv⟩ := newB w 42 #[.int .i64 v.lanes, .int .i64 v.regs, .int .i64 v.mem]
 replace hri := later_i hri hbV1
 replace hrx := hrx.later hbV1
 replace hB := tmB hB hbV1
 clear hbV1
 obtain ⟨v0, v1, v2⟩ := cz3 kv
 obtain ⟨V2, hEV2, hbV2, kc⟩ := newB V1 45 #[.int .i64 W, .int .i64 H, .slice ia ni ic, .int .i64 out, .slice xa nx xc]
 clear v0 v1 v2
 replace kv := kv.below hbV2 kv.lt
 replace hri := later_i hri hbV2
 replace hrx := hrx.later hbV2
 replace hB := tmB hB hbV2
 clear hbV2
 obtain ⟨v0, v1, v2⟩ := cz3 kv
 obtain ⟨c0, c1, c2, c3, c4⟩ := cz5 kc
 go_enter Try.func50, Try.ntmps50
 cases a1 : inR W 1 16 with
 | false =>
  have hqf : q = false := by rw [hcbH.out, a1]; simp
  subst hqf
  have a1H := Lib.hid a1
  clear a1
  go_wp2_with (go_at_call 58; have _t := tok1; refine (swithin W 1 16 false a1H.out _).mono ?_; clear _t tok1; rintro e w' ⟨rfl, hw⟩; rw [← hw]; clear hw w')
  go_ret
  exact ⟨rfl, hB⟩
 | true =>
 have a1H := Lib.hid a1
 have a1b := inR_true.1 a1
 clear a1
 cases a2 : inR H 1 16 with
 | false =>
  have hqf : q = false := by rw [hcbH.out, a2]; simp
  subst hqf
  have a2H := Lib.hid a2
  clear a2
  go_wp2_with (first
   | (go_at_call 58; have _t := tok1; refine (swithin W 1 16 true a1H.out _).mono ?_; clear _t tok1; rintro e w' ⟨rfl, hw⟩; rw [← hw]; clear hw w')
   | (go_at_call 58; have _t := tok2; refine (swithin H 1 16 false a2H.out _).mono ?_; clear _t tok2; rintro e w' ⟨rfl, hw⟩; rw [← hw]; clear hw w'))
  go_ret
  exact ⟨rfl, hB⟩
 | true =>
 have a2H := Lib.hid a2
 have a2b := inR_true.1 a2
 clear a2
 by_cases a3 : ni ≤ 3
 case neg =>
  have hqf : q = false := by rw [hcbH.out, show decide (ni ≤ 3) = false by simp; omega]; simp
  subst hqf
  have a3d : decide (3 < (ni : Int)) = true := by simp; omega
  go_wp2_with (first
   | (go_at_call 58; have _t := tok1; refine (swithin W 1 16 true a1H.out _).mono ?_; clear _t tok1; rintro e w' ⟨rfl, hw⟩; rw [← hw]; clear hw w')
   | (go_at_call 58; have _t := tok2; refine (swithin H 1 16 true a2H.out _).mono ?_; clear _t tok2; rintro e w' ⟨rfl, hw⟩; rw [← hw]; clear hw w'))
  all_goals (go_ret; exact ⟨rfl, hB⟩)
 case pos =>
 have a3d : decide (3 < (ni : Int)) = false := by simp; omega
 by_cases a4 : nx ≤ 200000
 case neg =>
  have hqf : q = false := by rw [hcbH.out, show decide (nx ≤ 200000) = false by simp; omega]; simp
  subst hqf
  have a4d : decide (200000 < (nx : Int)) = true := by simp; omega
  go_wp2_with (first
   | (go_at_call 58; have _t := tok1; refine (swithin W 1 16 true a1H.out _).mono ?_; clear _t tok1; rintro e w' ⟨rfl, hw⟩; rw [← hw]; clear hw w')
   | (go_at_call 58; have _t := tok2; refine (swithin H 1 16 true a2H.out _).mono ?_; clear _t tok2; rintro e w' ⟨rfl, hw⟩; rw [← hw]; clear hw w'))
  all_goals (go_ret; exact ⟨rfl, hB⟩)
 case pos =>
 have a4d : decide (200000 < (nx : Int)) = false := by simp; omega
 have hmb := prod_bd (a := W) (x := H) (m := 16) (n := 16) (by omega) (by omega) (by omega) (by omega) (by omega)
 obtain ⟨p, hp⟩ : ∃ p, W * H = p := ⟨_, rfl⟩
 have hpH := Lib.hid hp
 rw [hp] at hmb
 simp only [Int.reduceMul] at hmb
 obtain ⟨last, hlast⟩ : ∃ l, v.mem - p = l := ⟨_, rfl⟩
 have hcb2 := hcbH.out
 rw [hp, hlast] at hcb2
 have hcb2H := Lib.hid hcb2
 clear hcb2
 cases b1 : inR out 0 last with
 | false =>
  have hqf : q = false := by rw [hcb2H.out, b1]; simp
  subst hqf
  have b1H := Lib.hid b1
  clear b1
  go_wp2_with (first
   | (go_at_call 58; have _t := tok1; refine (swithin W 1 16 true a1H.out _).mono ?_; clear _t tok1; rintro e w' ⟨rfl, hw⟩; rw [← hw]; clear hw w')
   | (go_at_call 58; have _t := tok2; refine (swithin H 1 16 true a2H.out _).mono ?_; clear _t tok2; rintro e w' ⟨rfl, hw⟩; rw [← hw]; clear hw w')
   | (go_at_call 58; have _t := tok3; refine (swithin out 0 last false b1H.out _).mono ?_; clear _t tok3; rintro e w' ⟨rfl, hw⟩; rw [← hw]; clear hw w'))
  all_goals (go_ret; exact ⟨rfl, hB⟩)
 | true =>
 have b1H := Lib.hid b1
 clear b1
 have hcb3 : q = (inp.all (inpP last) && ins.all (insB v)) := by rw [hcb2H.out, a1H.out, a2H.out, b1H.out, decide_eq_true a3, decide_eq_true a4]; simp
 have hcb3H := Lib.hid hcb3
 clear hcb3
 go_wp2_with (first
  | (go_at_call 58; have _t := tok1; refine (swithin W 1 16 true a1H.out _).mono ?_; clear _t tok1; rintro e w' ⟨rfl, hw⟩; rw [← hw]; clear hw w')
  | (go_at_call 58; have _t := tok2; refine (swithin H 1 16 true a2H.out _).mono ?_; clear _t tok2; rintro e w' ⟨rfl, hw⟩; rw [← hw]; clear hw w')
  | (go_at_call 58; have _t := tok3; refine (swithin out 0 last true b1H.out _).mono ?_; clear _t tok3; rintro e w' ⟨rfl, hw⟩; rw [← hw]; clear hw w'))
 clear hEV1 hEV2
 clear v0 v1 v2 c0 c1 c2 c3 c4
 have lv := kv.lt
 have lc := kc.lt
 go_loopw [5] (fun i wr => ∃ k : Nat, k ≤ ni ∧ i = .int .i64 (k : Int) ∧ Hid ((inp.take k).all (inpP last) = true) ∧ Below V2.heap.size V2 wr) (fun i _ => ni - (intOf i).toNat)
 case atStart => exact ⟨0, Nat.zero_le _, rfl, Lib.hid (by simp), Below.refl _ _⟩
 case round =>
  obtain ⟨k, hk, rfl, hall, hBV⟩ := hrel
  have d2 := (kc.below hBV lc).cell (i := 2) rfl
  by_cases hlt : k < ni
  case pos =>
   have hlt' : k < inp.length := by have := hniH.out; omega
   have hltd : decide ((k : Int) < (ni : Int)) = true := by simp; omega
   rcases hri with h0 | ⟨b, o, rfl, hb, hc⟩
   ·exfalso; rw [h0] at hlt'; simp at hlt'
   have c0 := hc k hlt'
   have hsx := inp_succ (last := last) hlt'
   have hhx := inp_hit (last := last) hlt'
   obtain ⟨y, hy⟩ : ∃ y, inp[k]?.getD 0 = y := ⟨_, rfl⟩
   rw [hy] at c0 hsx hhx
   unfold inpP at hsx hhx
   have hsxH := Lib.hid hsx
   have hhxH := Lib.hid hhx
   clear hsx hhx hy hc
   have hS : Below V2.heap.size V2 wr.drew := hBV.drew
   by_cases hy1 : y = -1
   case pos =>
    have hyd : (y != -1) = false := by simp [hy1]
    have hall2 : Hid ((inp.take (k + 1)).all (inpP last) = true) := Lib.hid (by have := hsxH.out; have h2 := hall.out; unfold inpP at h2 ⊢; rw [this, h2]; simp [hy1])
    clear hy1
    go_wp2_with fail
    refine plain_region (fun W' => Below V2.heap.size V2 W') 23 23 (by kernel_rfl) rfl ?_
    simp only [Array.replicate_succ, Array.replicate_zero, List.push_toArray, List.nil_append, List.cons_append]
    obtain ⟨X0, hXX0⟩ : ∃ X : World, wr.drew = X := ⟨_, rfl⟩
    rw [hXX0] at hS ⊢
    clear hXX0
    have FA2 := Lib.hid (fun w' (hS' : (fun W' => Below V2.heap.size V2 W') w') => And.intro (cz3 (kc.below hS' lc)) (And.intro ((hS'.cell (p := ⟨b, o + k, none⟩) hb).trans c0) ((kv.below hS' lv).cell (i := 2) rfl)))
    refine tkz 0 rfl hS (fun w' hS' => by go_simp; rfl) ?_
    simp only [nrz]
    refine tkz 1 rfl hS (fun w' hS' => by obtain ⟨⟨d0, d1, d2⟩, e0, e2⟩ := FA2.out w' hS'; clear hS'; go_simp; rfl) ?_
    simp only [nrz]
    refine tkz 2 rfl hS (fun w' hS' => by go_simp; rfl) ?_
    simp only [nrz]
    refine tkz 3 (v := ?jv3) rfl hS (fun w' hS' => ?jy3) ?jz3
    case jy3 =>
     go_simp
     try go_ints
     first
     | rfl
     | (rw [if_pos (by omega)]; done)
     | rw [if_pos ⟨by omega, by omega⟩]
    simp only [nrz]
    refine tkz 4 rfl hS (fun w' hS' => by obtain ⟨⟨d0, d1, d2⟩, e0, e2⟩ := FA2.out w' hS'; clear hS'; go_simp; rfl) ?_
    simp only [nrz]
    refine tkz 5 rfl hS (fun w' hS' => by go_simp; (try go_ints); rfl) ?_
    simp only [nrz]
    refine tkz 6 rfl hS (fun w' hS' => by go_simp; rfl) ?_
    simp only [nrz]
    refine psz 7 rfl hS ?_
    simp only [nrz]
    refine psz 8 rfl hS ?_
    simp only [nrz]
    refine psz 9 rfl hS ?_
    simp only [nrz]
    refine psz 10 rfl hS ?_
    simp only [nrz]
    refine psz 11 rfl hS ?_
    simp only [nrz]
    refine psz 12 rfl hS ?_
    simp only [nrz]
    refine psz 13 rfl hS ?_
    simp only [nrz]
    refine psz 14 rfl hS ?_
    simp only [nrz]
    refine psz 15 rfl hS ?_
    simp only [nrz]
    refine psz 16 rfl hS ?_
    simp only [nrz]
    refine psz 17 rfl hS ?_
    simp only [nrz]
    refine psz 18 rfl hS ?_
    simp only [nrz]
    refine psz 19 rfl hS ?_
    simp only [nrz]
    refine psz 20 rfl hS ?_
    simp only [nrz]
    refine psz 21 rfl hS ?_
    simp only [nrz]
    refine tkz 22 rfl hS (fun w' hS' => by go_simp; rfl) ?_
    simp only [nrz]
    refine done_ops (by kernel_rfl) ?_
    go_wp2_with fail
    go_roundw
    case rel => exact ⟨k + 1, by omega, by go_num, hall2, hS⟩
    case measure => simp [intOf]; omega
   case neg =>
    have hyd : (y != -1) = true := by simp [hy1]
    obtain ⟨ry, hry⟩ : ∃ r, inR y 0 last = r := ⟨_, rfl⟩
    have hryH := Lib.hid hry
    have hy1H := Lib.hid hy1
    clear hry hy1
    go_wp2_with fail
    refine plain_region (fun W' => Below V2.heap.size V2 W') 23 23 (by kernel_rfl) rfl ?_
    simp only [Array.replicate_succ, Array.replicate_zero, List.push_toArray, List.nil_append, List.cons_append]
    obtain ⟨X0, hXX0⟩ : ∃ X : World, wr.drew = X := ⟨_, rfl⟩
    rw [hXX0] at hS ⊢
    clear hXX0
    have FA3 := Lib.hid (fun w' (hS' : (fun W' => Below V2.heap.size V2 W') w') => And.intro (cz3 (kc.below hS' lc)) (And.intro ((hS'.cell (p := ⟨b, o + k, none⟩) hb).trans c0) ((kv.below hS' lv).cell (i := 2) rfl)))
    refine tkz 0 rfl hS (fun w' hS' => by go_simp; rfl) ?_
    simp only [nrz]
    refine tkz 1 rfl hS (fun w' hS' => by obtain ⟨⟨d0, d1, d2⟩, e0, e2⟩ := FA3.out w' hS'; clear hS'; go_simp; rfl) ?_
    simp only [nrz]
    refine tkz 2 rfl hS (fun w' hS' => by go_simp; rfl) ?_
    simp only [nrz]
    refine tkz 3 (v := ?lv3) rfl hS (fun w' hS' => ?ly3) ?lz3
    case ly3 =>
     go_simp
     try go_ints
     first
     | rfl
     | (rw [if_pos (by omega)]; done)
     | rw [if_pos ⟨by omega, by omega⟩]
    simp only [nrz]
    refine tkz 4 rfl hS (fun w' hS' => by obtain ⟨⟨d0, d1, d2⟩, e0, e2⟩ := FA3.out w' hS'; clear hS'; go_simp; rfl) ?_
    simp only [nrz]
    refine tkz 5 rfl hS (fun w' hS' => by go_simp; (try go_ints); rfl) ?_
    simp only [nrz]
    refine tkz 6 rfl hS (fun w' hS' => by go_simp; rfl) ?_
    simp only [nrz]
    refine tkz 7 rfl hS (fun w' hS' => by go_simp; rfl) ?_
    simp only [nrz]
    refine tkz 8 rfl hS (fun w' hS' => by obtain ⟨⟨d0, d1, d2⟩, e0, e2⟩ := FA3.out w' hS'; clear hS'; go_simp; rfl) ?_
    simp only [nrz]
    refine tkz 9 rfl hS (fun w' hS' => by go_simp; rfl) ?_
    simp only [nrz]
    refine tkz 10 (v := ?lv10) rfl hS (fun w' hS' => ?ly10) ?lz10
    case ly10 =>
     go_simp
     try go_ints
     first
     | rfl
     | (rw [if_pos (by omega)]; done)
     | rw [if_pos ⟨by omega, by omega⟩]
    simp only [nrz]
    refine tkz 11 rfl hS (fun w' hS' => by obtain ⟨⟨d0, d1, d2⟩, e0, e2⟩ := FA3.out w' hS'; clear hS'; go_simp; rfl) ?_
    simp only [nrz]
    refine tkz 12 rfl hS (fun w' hS' => by go_simp; rfl) ?_
    simp only [nrz]
    refine tkz 13 rfl hS (fun w' hS' => by obtain ⟨⟨d0, d1, d2⟩, e0, e2⟩ := FA3.out w' hS'; clear hS'; go_simp; rfl) ?_
    simp only [nrz]
    refine tkz 14 rfl hS (fun w' hS' => by go_simp; rfl) ?_
    simp only [nrz]
    refine tkz 15 rfl hS (fun w' hS' => by obtain ⟨⟨d0, d1, d2⟩, e0, e2⟩ := FA3.out w' hS'; clear hS'; go_simp; rfl) ?_
    simp only [nrz]
    refine tkz 16 rfl hS (fun w' hS' => by go_simp; rfl) ?_
    simp only [nrz]
    refine tkz 17 rfl hS (fun w' hS' => by obtain ⟨⟨d0, d1, d2⟩, e0, e2⟩ := FA3.out w' hS'; clear hS'; go_simp; rfl) ?_
    simp only [nrz]
    refine tkz 18 (v := .int .i64 p) rfl hS (fun w' hS' => ?ly18) ?lz18
    case ly18 =>
     clear hS'
     have hpp := hpH.out
     go_simp
     first
      | (go_ints; done)
      | go_num
      | (go_ints; trivial)
    simp only [nrz]
    refine tkz 19 (v := .int .i64 last) rfl hS (fun w' hS' => ?ly19) ?lz19
    case ly19 =>
     clear hS'
     have hll := hlast
     go_simp
     first
      | (go_ints; done)
      | go_num
      | (go_ints; trivial)
    simp only [nrz]
    refine step_op 20 (by kernel_rfl) rfl (fun K hK => ?_)
    rw [if_pos (by rfl)]
    go_simp
    refine (swithin y 0 last ry hryH.out X0).mono ?_
    rintro e X1 ⟨rfl, hX⟩
    rw [← hX]
    clear hX X1
    refine hK.out _ _ (fun h => hS) ?_
    clear hK K
    try simp only [Act.put, nrz]
    refine tkz 21 rfl hS (fun w' hS' => by go_simp; (try go_ints); rfl) ?_
    simp only [nrz]
    refine tkz 22 rfl hS (fun w' hS' => by go_simp; rfl) ?_
    simp only [nrz]
    refine done_ops (by kernel_rfl) ?_
    cases ry with
    | false =>
     have hqf : q = false := by
      rw [hcb3H.out]
      have := hhxH.out (by rw [hryH.out]; simp [hy1H.out])
      unfold inpP
      rw [this]; rfl
     subst hqf
     go_wp2_with fail
     go_ret
     exact ⟨rfl, hB.trans (hS.mono hB.size)⟩
    | true =>
     have hall2 : Hid ((inp.take (k + 1)).all (inpP last) = true) := Lib.hid (by have := hsxH.out; have h2 := hall.out; unfold inpP at h2 ⊢; rw [this, h2, hryH.out]; simp)
     go_wp2_with fail
     go_roundw
     case rel => exact ⟨k + 1, by omega, by go_num, hall2, hS⟩
     case measure => simp [intOf]; omega
  case neg =>
   have hltd : decide ((k : Int) < (ni : Int)) = false := by simp; omega
   have hin : Hid (inp.all (inpP last) = true) := Lib.hid (by
    have := hall.out
    rw [List.take_of_length_le (by have := hniH.out; omega)] at this
    exact this)
   go_wp2_with fail
   clear hall hltd hlt hk d2
   go_loopw [6] (fun i wr => ∃ k : Nat, k ≤ nx ∧ i = .int .i64 (k : Int) ∧ Hid ((ins.take k).all (insB v) = true) ∧ Below V2.heap.size V2 wr) (fun i _ => nx - (intOf i).toNat)
   case atStart => exact ⟨0, Nat.zero_le _, rfl, Lib.hid (by simp), hBV⟩
   case round =>
    clear hBV
    obtain ⟨k, hk, rfl, hall, hBV⟩ := hrel
    have d4 := (kc.below hBV lc).cell (i := 4) rfl
    by_cases hlt : k < nx
    case neg =>
     have hqt : q = true := by
      rw [hcb3H.out, hin.out]
      have := hall.out
      rw [List.take_of_length_le (by have := hnxH.out; omega)] at this
      rw [this]; rfl
     have hkn : nx = k := by omega
     subst hqt
     subst hkn
     go_wp2_with fail
     go_ret
     exact ⟨rfl, hB.trans (hBV.mono hB.size)⟩
    case pos =>
     have hlt' : k < ins.length := by have := hnxH.out; omega
     rcases hrx with h0 | ⟨b, o, rfl, hb, hc⟩
     ·exfalso; rw [h0] at hlt'; simp at hlt'
     obtain ⟨ja, jc, hcell, had⟩ := hc k hlt'
     have hsx := insb_succ (v := v) hlt'
     have hhx := insb_hit (v := v) hlt'
     have hxin := hinsH.out k hlt'
     obtain ⟨x, hx⟩ : ∃ x, insAt ins k = x := ⟨_, rfl⟩
     rw [hx] at hsx hhx hxin hcell had
     obtain ⟨rx, hrx⟩ : ∃ r, insB v x = r := ⟨_, rfl⟩
     rw [hrx] at hsx hhx
     have hsxH := Lib.hid hsx
     have hhxH := Lib.hid hhx
     have hrxH := Lib.hid hrx
     have hxinH := Lib.hid hxin
     have e0 := hcell 0 _ rfl
     have e1 := hcell 1 _ rfl
     have e2 := hcell 2 _ rfl
     have e3 := hcell 3 _ rfl
     have e4 := hcell 4 _ rfl
     have e5 := hcell 5 _ rfl
     have e6 := hcell 6 _ rfl
     have e7 := hcell 7 _ rfl
     have e8 := hcell 8 _ rfl
     have e9 := hcell 9 _ rfl
     have e10 := hcell 10 _ rfl
     have e11 := hcell 11 _ rfl
     clear hsx hhx hrx hx hc hcell hxin
     have hS : Below V2.heap.size V2 wr.drew := hBV.drew
     go_wp2_with fail
     refine plain_region (fun W' => Below V2.heap.size V2 W') 8 8 (by kernel_rfl) rfl ?_
     simp only [Array.replicate_succ, Array.replicate_zero, List.push_toArray, List.nil_append, List.cons_append]
     obtain ⟨X0, hXX0⟩ : ∃ X : World, wr.drew = X := ⟨_, rfl⟩
     rw [hXX0] at hS ⊢
     clear hXX0
     have FA4 := Lib.hid (fun w' (hS' : (fun W' => Below V2.heap.size V2 W') w') => And.intro (cz3 (kv.below hS' lv)) (And.intro ((kc.below hS' lc).cell (i := 4) rfl) (And.intro ((hS'.cell (p := ⟨b, o + k * 12, none⟩) hb).trans e0) (And.intro ((hS'.cell (p := ⟨b, o + k * 12 + 1, none⟩) hb).trans e1) (And.intro ((hS'.cell (p := ⟨b, o + k * 12 + 2, none⟩) hb).trans e2) (And.intro ((hS'.cell (p := ⟨b, o + k * 12 + 3, none⟩) hb).trans e3) (And.intro ((hS'.cell (p := ⟨b, o + k * 12 + 4, none⟩) hb).trans e4) (And.intro ((hS'.cell (p := ⟨b, o + k * 12 + 5, none⟩) hb).trans e5) (And.intro ((hS'.cell (p := ⟨b, o + k * 12 + 6, none⟩) hb).trans e6) (And.intro ((hS'.cell (p := ⟨b, o + k * 12 + 7, none⟩) hb).trans e7) (And.intro ((hS'.cell (p := ⟨b, o + k * 12 + 8, none⟩) hb).trans e8) (And.intro ((hS'.cell (p := ⟨b, o + k * 12 + 9, none⟩) hb).trans e9) (And.intro ((hS'.cell (p := ⟨b, o + k * 12 + 10, none⟩) hb).trans e10) ((hS'.cell (p := ⟨b, o + k * 12 + 11, none⟩) hb).trans e11))))))))))))))
     refine tkz 0 rfl hS (fun w' hS' => by obtain ⟨⟨v0, v1, v2⟩, d4, g0, g1, g2, g3, g4, g5, g6, g7, g8, g9, g10, g11⟩ := FA4.out w' hS'; clear hS'; go_simp; rfl) ?_
     simp only [nrz]
     refine tkz 1 rfl hS (fun w' hS' => by go_simp; rfl) ?_
     simp only [nrz]
     refine tkz 2 rfl hS (fun w' hS' => by obtain ⟨⟨v0, v1, v2⟩, d4, g0, g1, g2, g3, g4, g5, g6, g7, g8, g9, g10, g11⟩ := FA4.out w' hS'; clear hS'; go_simp; rfl) ?_
     simp only [nrz]
     refine tkz 3 rfl hS (fun w' hS' => by go_simp; rfl) ?_
     simp only [nrz]
     refine tkz 4 (v := ?nv4) rfl hS (fun w' hS' => ?ny4) ?nz4
     case ny4 =>
      go_simp
      try go_ints
      first
      | rfl
      | (rw [if_pos (by omega)]; done)
      | rw [if_pos ⟨by omega, by omega⟩]
     simp only [nrz]
     refine tkz 5 rfl hS (fun w' hS' => by obtain ⟨⟨v0, v1, v2⟩, d4, g0, g1, g2, g3, g4, g5, g6, g7, g8, g9, g10, g11⟩ := FA4.out w' hS'; clear hS'; go_simp; rfl) ?_
     simp only [nrz]
     refine step_op 6 (by kernel_rfl) rfl (fun K hK => ?_)
     rw [if_pos (by rfl)]
     go_simp
     refine (rinstr_any v hvvH.out x hxinH.out ja jc rx hrxH.out X0 (later_i had hS)).mono ?_
     rintro e X1 ⟨rfl, hb1⟩
     have hS1 : Below V2.heap.size V2 X1 := hS.trans (hb1.mono hS.size)
     clear hb1
     refine hK.out _ _ (fun h => hS1) ?_
     clear hK K
     try simp only [Act.put, nrz]
     refine tkz 7 rfl hS1 (fun w' hS' => by go_simp; (try go_ints); rfl) ?_
     simp only [nrz]
     refine done_ops (by kernel_rfl) ?_
     cases rx with
     | false =>
      have hqf : q = false := by rw [hcb3H.out, hhxH.out rfl]; simp
      subst hqf
      go_wp2_with fail
      go_ret
      exact ⟨rfl, hB.trans (hS1.mono hB.size)⟩
     | true =>
      have hall2 : Hid ((ins.take (k + 1)).all (insB v) = true) := Lib.hid (by rw [hsxH.out, hall.out]; rfl)
      go_wp2_with fail
      go_roundw
      case rel => exact ⟨k + 1, by omega, by go_num, hall2, hS1⟩
      case measure => simp [intOf]; omega
theorem vecB_in {v : VecN} (h : vecB v = true) : VecIn v := by
 unfold vecB at h
 simp only [Bool.and_eq_true, inR_true] at h
 exact ⟨h.1.1, h.1.2, h.2.1.1, h.2.1.2, h.2.2.1, h.2.2.2⟩
set_option maxRecDepth 100000 in
set_option maxHeartbeats 4000000 in
theorem rCheckCode_any (v : VecN) (C : CodeN) (ia xa : Option Addr) (ic xc : Nat) (hC : CodeIn C) (w : World) (hri : Rd w.heap.size w ia C.inp) (hrx : RdCs w.heap.size w xa C.ins) :
  Calls Try.prog 19 #[vecv v, codev C ia ic xa xc] w fun e w' => e = .returned (.int .i64 (chkS v C)) ∧ Below w.heap.size w w' := by
 have hB : Below w.heap.size w w := Below.refl _ _
 obtain ⟨vb, hvb⟩ : ∃ b, vecB v = b := ⟨_, rfl⟩
 obtain ⟨cb, hcb⟩ : ∃ b, codeB v C = b := ⟨_, rfl⟩
 have hvl := fun W => rvector_any v vb hvb W
 have hcl := fun (hv : VecIn v) W h1 h2 => rcode_any v hv C ia xa ic xc hC cb hcb W h1 h2
 have hck : chkS v C = if vb = true then (if cb = true then 0 else 32) else 31 := by unfold chkS; rw [hvb, hcb]
 rw [hck]
 have hvin : vb = true → VecIn v := fun h => vecB_in (hvb.trans h)
 unfold vecv codev at hcl ⊢
 have hvlH := Lib.hid hvl
 have hclH := Lib.hid hcl
 have hvinH := Lib.hid hvin
 clear hvl hcl hck hvb hcb hvin
 obtain ⟨V1, hEV1, hbV1, kv⟩ := newB w 42 #[.int .i64 v.lanes, .int .i64 v.regs, .int .i64 v.mem]
 replace hri := later_i hri hbV1
 replace hrx := hrx.later hbV1
 replace hB := tmB hB hbV1
 clear hbV1
 obtain ⟨v0, v1, v2⟩ := cz3 kv
 obtain ⟨V2, hEV2, hbV2, kc⟩ := newB V1 45 #[.int .i64 C.w, .int .i64 C.h, .slice ia C.inp.length ic, .int .i64 C.out, .slice xa C.ins.length xc]
 clear v0 v1 v2
 replace kv := kv.below hbV2 kv.lt
 replace hri := later_i hri hbV2
 replace hrx := hrx.later hbV2
 replace hB := tmB hB hbV2
 clear hbV2
 obtain ⟨v0, v1, v2⟩ := cz3 kv
 obtain ⟨c0, c1, c2, c3, c4⟩ := cz5 kc
 go_enter Try.func19, Try.ntmps19
 go_wp2_with fail
 clear hEV1 hEV2
 refine (hvlH.out V2).mono ?_
 rintro e V3 ⟨rfl, hb⟩
 clear v0 v1 v2 c0 c1 c2 c3 c4
 replace kv := kv.below hb kv.lt
 replace kc := kc.below hb kc.lt
 replace hri := later_i hri hb
 replace hrx := hrx.later hb
 replace hB := tmB hB hb
 clear hb
 obtain ⟨v0, v1, v2⟩ := cz3 kv
 obtain ⟨c0, c1, c2, c3, c4⟩ := cz5 kc
 cases vb with
 | false =>
  go_wp2_with fail
  go_ret
  exact ⟨rfl, hB⟩
 | true =>
 go_wp2_with fail
 refine (hclH.out (hvinH.out (by first | rfl | trivial)) V3 hri hrx).mono ?_
 rintro e V4 ⟨rfl, hb⟩
 clear v0 v1 v2 c0 c1 c2 c3 c4
 replace kv := kv.below hb kv.lt
 replace kc := kc.below hb kc.lt
 replace hri := later_i hri hb
 replace hrx := hrx.later hb
 replace hB := tmB hB hb
 clear hb
 obtain ⟨v0, v1, v2⟩ := cz3 kv
 obtain ⟨c0, c1, c2, c3, c4⟩ := cz5 kc
 cases cb with
 | false =>
  go_wp2_with fail
  go_ret
  exact ⟨rfl, hB⟩
 | true =>
 go_wp2_with fail
 go_ret
 exact ⟨rfl, hB⟩
end Go.Proofs.Ytekiemlniegddaa
namespace Go.Proofs.Ytekiemlniegddaa
open Go Go.RowKit Go.Shelf
section
variable {P : Program} {md : Region.Mode} {ops : Array Oper} {Q : Exit → Act → World → Prop} {S : World → Prop} {t : Nat}
def StepOk (P : Program) (md : Region.Mode) (ops : Array Oper) (Q : Exit → Act → World → Prop) (S : World → Prop) (t f : Nat) (l : Array Bool) (a : Act) (w : World) (i : Nat) : Prop :=
 wpOp P ops Q i (fun a' w' => (i < t → S w') ∧ AnyS P md ops Q S t f (l.setIfInBounds i true) a' w') a w
theorem step_at (i : Nat) {d : Option Tmp} {op : Op} {ty : TypeId} {ps : String} {af : Array Edge} {gd : Option (Nat × Bool)} {f : Nat} {l : Array Bool} {a : Act} {w : World} (ho : ops[i]? = some { dst := d, op := op, type := ty, pos := ps, after := af, guard := gd })
  (h : ∀ K' : Act → World → Prop, Shut (∀ a w, (i < t → S w) → AnyS P md ops Q S t f (l.setIfInBounds i true) a w → K' a w) → if Region.wanted { dst := d, op := op, type := ty, pos := ps, after := af, guard := gd } (yielded ops a.tmps) = true then Oper.wp P { dst := d, op := op, type := ty, pos := ps, after := af, guard := gd } a w K' Q else K' (a.put d undef) w) :
  StepOk P md ops Q S t f l a w i :=
 wpOp_step ho (fun K' hK => h K' (fun a w hS hW => hK a w ⟨hS, hW⟩))
theorem fork2 {i j : Nat} {f : Nat} {l : Array Bool} {a : Act} {w : World} (hr : Region.ready md ops l = [i, j]) (hi : StepOk P md ops Q S t f l a w i) (hj : StepOk P md ops Q S t f l a w j) : AnyS P md ops Q S t (f + 1) l a w := by
 refine ⟨fun h0 => absurd (hr ▸ h0) (by simp), hr ▸ fun k hk => ?_⟩
 have : k = i ∨ k = j := by simpa using hk
 rcases this with rfl | rfl
 ·exact hi
 ·exact hj
end
end Go.Proofs.Ytekiemlniegddaa
namespace Go.Proofs.Ytekiemlniegddaa
open Go Go.RowKit Go.Shelf
theorem cutP {G : Prop} {P : Nat → Nat → Nat → Nat → Nat → World → Prop} (F : Nat → Nat → Nat → Nat → Nat → World → Prop) (main : (∀ a b c d e W, F a b c d e W → P a b c d e W) → G) (key : ∀ a b c d e W, F a b c d e W → P a b c d e W) : G := main key
theorem cutZ {G : Prop} {P : Nat → Nat → Nat → Nat → Nat → Nat → Nat → World → Prop} (F : Nat → Nat → Nat → Nat → Nat → Nat → Nat → World → Prop) (main : (∀ a b c d e f g W, F a b c d e f g W → P a b c d e f g W) → G) (key : ∀ a b c d e f g W, F a b c d e f g W → P a b c d e f g W) : G := main key
/-- A register's numbers, brought into the range of values. -/
def pixR (lanes : Nat) (M : MacN) (a : Nat) : List Int := (List.range lanes).map fun j => pix (M.regs a j)
theorem pixR_len (lanes : Nat) (M : MacN) (a : Nat) : (pixR lanes M a).length = lanes := by simp [pixR]
theorem pixR_px {lanes : Nat} {M : MacN} {a j : Nat} (hj : j < lanes) : px (pixR lanes M a) (j : Int) = pix (M.regs a j) := by
 unfold px pixR; rw [Int.toNat_natCast, List.getElem?_map, List.getElem?_range hj]; rfl
theorem pixR_in (lanes : Nat) (M : MacN) (a : Nat) : allIn (-2147483648) 2147483648 (pixR lanes M a) = true := by
 unfold allIn pixR
 rw [List.all_eq_true]
 intro x hx
 obtain ⟨j, _, rfl⟩ := List.mem_map.1 hx
 have := pix_bd (M.regs a j)
 simp; omega
theorem pixR_vld {lanes : Nat} (h1 : 1 ≤ lanes) (h2 : lanes ≤ 16) (M : MacN) (a : Nat) : vld (lanes : Int) 1 (pixR lanes M a) = true := by
 unfold vld
 rw [pixR_len, pixR_in]
 simp [inR]; omega
theorem img_row {lanes : Nat} (h1 : 1 ≤ lanes) (g : Int → Int → Int) (f : Nat → Int) (h : ∀ j : Nat, j < lanes → pix (g (j : Int) 0) = f j) : img (lanes : Int).toNat (1 : Int).toNat g = (List.range lanes).map f := by
 unfold img
 rw [Int.toNat_natCast, show lanes * (1 : Int).toNat = lanes by simp]
 refine List.map_congr_left fun j hj => ?_
 have hj := List.mem_range.1 hj
 unfold cX cY
 rw [Nat.mod_eq_of_lt hj, Nat.div_eq_of_lt hj]
 exact h j hj
theorem point_row {lanes : Nat} (h1 : 1 ≤ lanes) (h2 : lanes ≤ 16) (M : MacN) (a : Nat) {p : PointN} (hp : p.ok = true) : pointS (lanes : Int) 1 (pixR lanes M a) p = ⟨lanes, 1, (List.range lanes).map fun j => pix (pointF p (pix (M.regs a j))), 0⟩ := by
 unfold pointS
 rw [if_pos (pixR_vld h1 h2 M a), if_pos hp, img_row h1 _ (fun j => pix (pointF p (pix (M.regs a j)))) (fun j hj => by
  unfold pointG
  rw [show (0 : Int) * (lanes : Int) + (j : Int) = (j : Int) by omega, pixR_px hj])]
theorem zip_row {lanes : Nat} (h1 : 1 ≤ lanes) (h2 : lanes ≤ 16) (M : MacN) (a b : Nat) {how : Int} (hh : 1 ≤ how ∧ how ≤ 6) : zipS (lanes : Int) 1 (pixR lanes M a) (lanes : Int) 1 (pixR lanes M b) how = ⟨lanes, 1, (List.range lanes).map fun j => pix (zipF how (pix (M.regs a j)) (pix (M.regs b j))), 0⟩ := by
 unfold zipS
 rw [if_pos (pixR_vld h1 h2 M a), if_pos (pixR_vld h1 h2 M b), if_pos (by simp), if_pos (by simpa using hh), img_row h1 _ (fun j => pix (zipF how (pix (M.regs a j)) (pix (M.regs b j)))) (fun j hj => by
  unfold zipG
  rw [show (0 : Int) * (lanes : Int) + (j : Int) = (j : Int) by omega, pixR_px hj, pixR_px hj])]
set_option maxRecDepth 100000 in
set_option maxHeartbeats 8000000 in
theorem mpoint_any (B bm lanes R N : Nat) (M : MacN) (gr gm cr cm : Nat) (G C : Nat → Nat) (w : World) (hM : MacAt B w bm lanes R N M gr gm cr cm G C) (hl : 1 ≤ lanes ∧ lanes ≤ 16) (hRN : R ≤ 16 ∧ N ≤ 8192) (x : InsN) (ia : Option Addr) (ic : Nat) (d a : Nat) (hd : x.d = (d : Int)) (ha : x.a = (a : Int)) (hdR : d < R) (haR : a < R) (hpt : x.pt.ok = true) (hBw : B ≤ w.heap.size) :
  Calls Try.prog 81 #[.pointer (some ⟨bm, 0, none⟩), insv x ia ic] w fun e w' => (∃ v, e = .returned v) ∧ ∃ G' C', C' R = C R ∧ MacAt B w' bm lanes R N (setR M d fun j => pix (pointF x.pt (pix (M.regs a j)))) gr gm cr cm G' C' ∧ Below B w w' := by
 have hB : Below w.heap.size w w := Below.refl _ _
 obtain ⟨hl1, hl2⟩ := hl
 obtain ⟨hR1, hN1⟩ := hRN
 have hBB : Below B w w := Below.refl _ _
 unfold insv
 rw [hd, ha]
 have hM0 := hM
 obtain ⟨V1, hEV1, hbV1, kx⟩ := newB w 95 #[.int .u8 x.op, .int .i64 (d : Int), .int .i64 (a : Int), .int .i64 x.b, .int .i64 x.val, .int .i64 x.pt.mul, .int .i64 x.pt.add, .int .i64 x.pt.div, .int .i64 x.pt.lo, .int .i64 x.pt.hi, .int .u8 x.how, .slice ia x.ad.length ic]
 replace hM := hM.later hbV1
 replace hBB := hBB.trans (hbV1.mono (Nat.le_trans hBw hBB.size))
 replace hB := tmB hB hbV1
 clear hbV1
 obtain ⟨x0, x1, x2, x3, x4, x5, x6, x7, x8, x9, x10, x11⟩ := cz12 kx
 obtain ⟨hc1, hc2, hc3⟩ := hM.caps
 have hszV := hB.size
 have hGl : ∀ r, r < R → G r < w.heap.size := fun r hr => ((hM0.rg r hr).lt (G r) rfl).2
 have hgml : gm < w.heap.size := (hM0.mm.lt gm rfl).2
 have lx := kx.lt
 clear hM0
 have hspec := point_row hl1 hl2 M a hpt
 have hspecH := Lib.hid hspec
 clear hspec
 go_enter Try.func81, Try.ntmps81
 have hS0 : Below V1.heap.size V1 V1.drew := (Below.refl _ _).drew
 go_wp2_with fail
 clear hB
 clear hEV1
 refine plain_region (fun W' => Below V1.heap.size V1 W') 13 13 (by kernel_rfl) rfl ?_
 simp only [Array.replicate_succ, Array.replicate_zero, List.push_toArray, List.nil_append, List.cons_append]
 obtain ⟨X0, hX0⟩ : ∃ X : World, V1.drew = X := ⟨_, rfl⟩
 rw [hX0] at hS0 ⊢
 clear hX0
 apply cutP (fun gP qc bt gA cA X3 => X3.ownsRow V1.heap.size 3 1 (srow gP lanes qc) lanes (intL lanes fun j => pix (pointF x.pt (pix (M.regs a j)))) ∧ Blk X3 bt 29 #[.int .i64 0, .int .i64 0, .slice none 0 0] ∧ V1.heap.size ≤ bt ∧ Below V1.heap.size V1 X3)
 case' main => intro key
 refine tkz 0 rfl hS0 (fun w' hS' => by go_simp; rfl) ?_
 simp only [nrz]
 refine tkz 1 rfl hS0 (fun w' hS' => by go_simp; rfl) ?_
 simp only [nrz]
 refine tkz 2 rfl hS0 (fun w' hS' => by obtain ⟨y0, y1, y2, y3, y4, y5, y6, y7, y8, y9, y10, y11⟩ := cz12 (kx.below hS' lx); clear hS'; go_simp; rfl) ?_
 simp only [nrz]
 refine tkz 4 rfl hS0 (fun w' hS' => by go_simp; rfl) ?_
 simp only [nrz]
 refine tkz 5 rfl hS0 (fun w' hS' => by obtain ⟨y0, y1, y2, y3, y4, y5, y6, y7, y8, y9, y10, y11⟩ := cz12 (kx.below hS' lx); clear hS'; go_simp; rfl) ?_
 simp only [nrz]
 refine fork2 (i := 3) (j := 10) (by kernel_rfl) ?_ ?_
 ·refine step_at 3 rfl (fun K hK => ?_)
  rw [if_pos (by rfl)]
  go_simp
  refine (mpix_any B bm lanes R N M gr gm cr cm G C X0 (hM.later hS0) ⟨hl1, hl2⟩ ⟨hR1, hN1⟩ a haR).mono ?_
  rintro e X1 ⟨gA, cA, rfl, rowA, hb⟩
  replace rowA : X1.ownsRow V1.heap.size 3 1 (srow gA lanes cA) lanes (intL lanes fun j => pix (M.regs a j)) := jrow_weaken rowA hS0.size
  have hS1 : Below V1.heap.size V1 X1 := hS0.trans (hb.mono hS0.size)
  clear hb
  refine hK.out _ _ (fun h => hS1) ?_
  clear hK K
  try simp only [Act.put, nrz]
  refine fork2 (i := 6) (j := 10) (by kernel_rfl) ?_ ?_
  ·refine step_at 6 rfl (fun K hK => ?_)
   rw [if_pos (by rfl)]
   go_simp
   have hc := Point_any (lanes : Int) 1 (some ⟨gA, 0, none⟩) cA lanes (pixR lanes M a) (Lib.hid (pixR_len _ _ _)) x.pt X1 (by omega) (row_rd' (pixR_len lanes M a) (by unfold pixR; rw [intL_map]; exact rowA))
   rw [hspecH.out] at hc
   refine hc.mono ?_
   clear hc
   rintro e X2 ⟨⟨v, rfl, tt, rfl, rowP⟩, hb⟩
   have hlp : ((List.range lanes).map fun j => pix (pointF x.pt (pix (M.regs a j)))).length = lanes := by simp
   simp only [hlp] at rowP
   rw [intL_map] at rowP
   obtain ⟨qa, qc, rfl⟩ := row_slice rowP
   obtain ⟨gP, rfl⟩ := row_someP rowP (by omega)
   replace rowP : X2.ownsRow V1.heap.size 3 1 (srow gP lanes qc) lanes (intL lanes fun j => pix (pointF x.pt (pix (M.regs a j)))) := jrow_weaken rowP hS1.size
   have hS2 : Below V1.heap.size V1 X2 := hS1.trans (hb.mono hS1.size)
   clear hlp
   clear hb rowA
   refine hK.out _ _ (fun h => hS2) ?_
   clear hK K
   try simp only [Act.put, nrz]
   refine tkz 7 rfl hS2 (fun w' hS' => by go_simp; rfl) ?_
   simp only [nrz]
   refine tkz 8 rfl hS2 (fun w' hS' => by go_simp; rfl) ?_
   simp only [nrz]
   refine tkz 9 rfl hS2 (fun w' hS' => by go_simp; rfl) ?_
   simp only [nrz]
   refine step_op 10 (by kernel_rfl) rfl (fun K hK => ?_)
   have kb := Blk.new X2 29 #[.int .i64 0, .int .i64 0, .slice none 0 0]
   have hb : Below X2.heap.size X2 (X2.alloc (.cells #[.int .i64 0, .int .i64 0, .slice none 0 0] 29)) := jb_al (Below.refl _ X2) _
   obtain ⟨X3, hEX3⟩ : ∃ X, X2.alloc (.cells #[.int .i64 0, .int .i64 0, .slice none 0 0] 29) = X := ⟨_, rfl⟩
   obtain ⟨bt, hbt⟩ : ∃ b, X2.heap.size = b := ⟨_, rfl⟩
   have hbtl : V1.heap.size ≤ bt := by have := hS2.size; omega
   have hS3 : Below V1.heap.size V1 (X2.alloc (.cells #[.int .i64 0, .int .i64 0, .slice none 0 0] 29)) := hS2.trans (hb.mono hS2.size)
   rw [hEX3] at hS3 hb kb
   replace rowP := row_below rowP hb
   rw [hbt] at kb
   rw [if_pos (by rfl)]
   go_simp
   try rw [hEX3]
   try rw [hbt]
   clear hb hbt
   refine hK.out _ _ (fun h => (hEX3 ▸ hS3)) ?_
   clear hK K
   try simp only [Act.put, nrz]
   exact key gP qc bt gA cA X3 ⟨rowP, kb, hbtl, hS3⟩
  ·refine step_at 10 rfl (fun K hK => ?_)
   have kb := Blk.new X1 29 #[.int .i64 0, .int .i64 0, .slice none 0 0]
   have hb : Below X1.heap.size X1 (X1.alloc (.cells #[.int .i64 0, .int .i64 0, .slice none 0 0] 29)) := jb_al (Below.refl _ X1) _
   obtain ⟨X2, hEX2⟩ : ∃ X, X1.alloc (.cells #[.int .i64 0, .int .i64 0, .slice none 0 0] 29) = X := ⟨_, rfl⟩
   obtain ⟨bt, hbt⟩ : ∃ b, X1.heap.size = b := ⟨_, rfl⟩
   have hbtl : V1.heap.size ≤ bt := by have := hS1.size; omega
   have hS2 : Below V1.heap.size V1 (X1.alloc (.cells #[.int .i64 0, .int .i64 0, .slice none 0 0] 29)) := hS1.trans (hb.mono hS1.size)
   rw [hEX2] at hS2 hb kb
   replace rowA := row_below rowA hb
   rw [hbt] at kb
   rw [if_pos (by rfl)]
   go_simp
   try rw [hEX2]
   try rw [hbt]
   clear hb hbt
   refine hK.out _ _ (fun h => (hEX2 ▸ hS2)) ?_
   clear hK K
   try simp only [Act.put, nrz]
   refine step_op 6 (by kernel_rfl) rfl (fun K hK => ?_)
   rw [if_pos (by rfl)]
   go_simp
   have hc := Point_any (lanes : Int) 1 (some ⟨gA, 0, none⟩) cA lanes (pixR lanes M a) (Lib.hid (pixR_len _ _ _)) x.pt X2 (by omega) (row_rd' (pixR_len lanes M a) (by unfold pixR; rw [intL_map]; exact rowA))
   rw [hspecH.out] at hc
   refine hc.mono ?_
   clear hc
   rintro e X3 ⟨⟨v, rfl, tt, rfl, rowP⟩, hb⟩
   replace kb := kb.below hb kb.lt
   have hlp : ((List.range lanes).map fun j => pix (pointF x.pt (pix (M.regs a j)))).length = lanes := by simp
   simp only [hlp] at rowP
   rw [intL_map] at rowP
   obtain ⟨qa, qc, rfl⟩ := row_slice rowP
   obtain ⟨gP, rfl⟩ := row_someP rowP (by omega)
   replace rowP : X3.ownsRow V1.heap.size 3 1 (srow gP lanes qc) lanes (intL lanes fun j => pix (pointF x.pt (pix (M.regs a j)))) := jrow_weaken rowP hS2.size
   have hS3 : Below V1.heap.size V1 X3 := hS2.trans (hb.mono hS2.size)
   clear hlp
   clear hb rowA
   refine hK.out _ _ (fun h => hS3) ?_
   clear hK K
   try simp only [Act.put, nrz]
   refine tkz 7 rfl hS3 (fun w' hS' => by go_simp; rfl) ?_
   simp only [nrz]
   refine tkz 8 rfl hS3 (fun w' hS' => by go_simp; rfl) ?_
   simp only [nrz]
   refine tkz 9 rfl hS3 (fun w' hS' => by go_simp; rfl) ?_
   simp only [nrz]
   exact key gP qc bt gA cA X3 ⟨rowP, kb, hbtl, hS3⟩
 ·refine step_at 10 rfl (fun K hK => ?_)
  have kb := Blk.new X0 29 #[.int .i64 0, .int .i64 0, .slice none 0 0]
  have hb : Below X0.heap.size X0 (X0.alloc (.cells #[.int .i64 0, .int .i64 0, .slice none 0 0] 29)) := jb_al (Below.refl _ X0) _
  obtain ⟨X1, hEX1⟩ : ∃ X, X0.alloc (.cells #[.int .i64 0, .int .i64 0, .slice none 0 0] 29) = X := ⟨_, rfl⟩
  obtain ⟨bt, hbt⟩ : ∃ b, X0.heap.size = b := ⟨_, rfl⟩
  have hbtl : V1.heap.size ≤ bt := by have := hS0.size; omega
  have hS1 : Below V1.heap.size V1 (X0.alloc (.cells #[.int .i64 0, .int .i64 0, .slice none 0 0] 29)) := hS0.trans (hb.mono hS0.size)
  rw [hEX1] at hS1 hb kb
  rw [hbt] at kb
  rw [if_pos (by rfl)]
  go_simp
  try rw [hEX1]
  try rw [hbt]
  clear hb hbt
  refine hK.out _ _ (fun h => (hEX1 ▸ hS1)) ?_
  clear hK K
  try simp only [Act.put, nrz]
  refine step_op 3 (by kernel_rfl) rfl (fun K hK => ?_)
  rw [if_pos (by rfl)]
  go_simp
  refine (mpix_any B bm lanes R N M gr gm cr cm G C X1 (hM.later hS1) ⟨hl1, hl2⟩ ⟨hR1, hN1⟩ a haR).mono ?_
  rintro e X2 ⟨gA, cA, rfl, rowA, hb⟩
  replace kb := kb.below hb kb.lt
  replace rowA : X2.ownsRow V1.heap.size 3 1 (srow gA lanes cA) lanes (intL lanes fun j => pix (M.regs a j)) := jrow_weaken rowA hS1.size
  have hS2 : Below V1.heap.size V1 X2 := hS1.trans (hb.mono hS1.size)
  clear hb
  refine hK.out _ _ (fun h => hS2) ?_
  clear hK K
  try simp only [Act.put, nrz]
  refine step_op 6 (by kernel_rfl) rfl (fun K hK => ?_)
  rw [if_pos (by rfl)]
  go_simp
  have hc := Point_any (lanes : Int) 1 (some ⟨gA, 0, none⟩) cA lanes (pixR lanes M a) (Lib.hid (pixR_len _ _ _)) x.pt X2 (by omega) (row_rd' (pixR_len lanes M a) (by unfold pixR; rw [intL_map]; exact rowA))
  rw [hspecH.out] at hc
  refine hc.mono ?_
  clear hc
  rintro e X3 ⟨⟨v, rfl, tt, rfl, rowP⟩, hb⟩
  replace kb := kb.below hb kb.lt
  have hlp : ((List.range lanes).map fun j => pix (pointF x.pt (pix (M.regs a j)))).length = lanes := by simp
  simp only [hlp] at rowP
  rw [intL_map] at rowP
  obtain ⟨qa, qc, rfl⟩ := row_slice rowP
  obtain ⟨gP, rfl⟩ := row_someP rowP (by omega)
  replace rowP : X3.ownsRow V1.heap.size 3 1 (srow gP lanes qc) lanes (intL lanes fun j => pix (pointF x.pt (pix (M.regs a j)))) := jrow_weaken rowP hS2.size
  have hS3 : Below V1.heap.size V1 X3 := hS2.trans (hb.mono hS2.size)
  clear hlp
  clear hb rowA
  refine hK.out _ _ (fun h => hS3) ?_
  clear hK K
  try simp only [Act.put, nrz]
  refine tkz 7 rfl hS3 (fun w' hS' => by go_simp; rfl) ?_
  simp only [nrz]
  refine tkz 8 rfl hS3 (fun w' hS' => by go_simp; rfl) ?_
  simp only [nrz]
  refine tkz 9 rfl hS3 (fun w' hS' => by go_simp; rfl) ?_
  simp only [nrz]
  exact key gP qc bt gA cA X3 ⟨rowP, kb, hbtl, hS3⟩
 case key =>
  rintro gP qc bt gA cA X3 ⟨rowP, kb, hbtl, hS3⟩
  refine step_op 11 (by kernel_rfl) rfl (fun K hK => ?_)
  obtain ⟨z0, z1, z2⟩ := cz3 kb
  have fz0 := kb.frozen 0
  have fz1 := kb.frozen 1
  have fz2 := kb.frozen 2
  have hS4 : Below V1.heap.size V1 (put3 X3 bt (.int .i64 (lanes : Int)) (.int .i64 1) (srow gP lanes qc)) := hS3.trans (put3_below hbtl _ _ _)
  rw [if_pos (by rfl)]
  go_simp
  refine hK.out _ _ (fun h => hS4) ?_
  clear hK K
  try simp only [Act.put, nrz]
  refine tkz 12 rfl hS4 (fun w' hS' => by go_simp; rfl) ?_
  simp only [nrz]
  refine done_ops (by kernel_rfl) ?_
  have kb2 := put3_blk kb (.int .i64 (lanes : Int)) (.int .i64 1) (srow gP lanes qc)
  have rowP2 := row_put3b rowP (kb.not_row (by decide) rowP) (.int .i64 (lanes : Int)) (.int .i64 1) (srow gP lanes qc)
  have hM2 := hM.later hS4
  have kx2 := kx.below hS4 lx
  have hBB2 := hBB.trans (hS4.mono (Nat.le_trans hBw hBB.size))
  have hszX := hS4.size
  clear rowP kb hM kx hBB hS3 hS4 hS0 z0 z1 z2 fz0 fz1 fz2
  obtain ⟨X9, hX9⟩ : ∃ X, ((X3.setCell ⟨bt, 0, none⟩ (.int .i64 (lanes : Int))).setCell ⟨bt, 1, none⟩ (.int .i64 1)).setCell ⟨bt, 2, none⟩ (.slice (some ⟨gP, 0, none⟩) lanes qc) = X := ⟨_, rfl⟩
  have e9 : put3 X3 bt (.int .i64 (lanes : Int)) (.int .i64 1) (srow gP lanes qc) = X9 := hX9
  rw [e9] at kb2 rowP2 hM2 kx2 hBB2 hszX
  rw [hX9]
  clear hX9 e9
  have lb := kb2.lt
  have lx2 := kx2.lt
  have hS : Below X9.heap.size X9 X9.drew := (Below.refl _ _).drew
  go_wp2_with fail
  refine plain_region (fun W' => Below X9.heap.size X9 W') 9 10 (by kernel_rfl) rfl ?_
  simp only [Array.replicate_succ, Array.replicate_zero, List.push_toArray, List.nil_append, List.cons_append]
  obtain ⟨Y0, hXY0⟩ : ∃ X : World, X9.drew = X := ⟨_, rfl⟩
  rw [hXY0] at hS ⊢
  clear hXY0
  refine tkz 0 rfl hS (fun w' hS' => by go_simp; rfl) ?_
  simp only [nrz]
  refine tkz 1 rfl hS (fun w' hS' => by go_simp; rfl) ?_
  simp only [nrz]
  refine tkz 2 rfl hS (fun w' hS' => by go_simp; rfl) ?_
  simp only [nrz]
  refine tkz 3 (v := ?qv3) rfl hS (fun w' hS' => ?qy3) ?qz3
  case qy3 =>
   obtain ⟨e0, e1, e2, er, eg, em⟩ := (hM2.later hS').cells
   have erd := er d hdR
   obtain ⟨q0, q1, q2⟩ := cz3 (kb2.below hS' lb)
   have y1 := (kx2.below hS' lx2).cell (i := 1) rfl
   clear hS' er eg em
   go_simp
   rfl
  simp only [nrz]
  refine tkz 4 rfl hS (fun w' hS' => by go_simp; rfl) ?_
  simp only [nrz]
  refine tkz 5 (v := ?qv5) rfl hS (fun w' hS' => ?qy5) ?qz5
  case qy5 =>
   obtain ⟨e0, e1, e2, er, eg, em⟩ := (hM2.later hS').cells
   have erd := er d hdR
   obtain ⟨q0, q1, q2⟩ := cz3 (kb2.below hS' lb)
   have y1 := (kx2.below hS' lx2).cell (i := 1) rfl
   clear hS' er eg em
   go_simp
   rfl
  simp only [nrz]
  refine tkz 6 rfl hS (fun w' hS' => by go_simp; rfl) ?_
  simp only [nrz]
  refine tkz 7 (v := ?qv7) rfl hS (fun w' hS' => ?qy7) ?qz7
  case qy7 =>
   obtain ⟨e0, e1, e2, er, eg, em⟩ := (hM2.later hS').cells
   have erd := er d hdR
   obtain ⟨q0, q1, q2⟩ := cz3 (kb2.below hS' lb)
   have y1 := (kx2.below hS' lx2).cell (i := 1) rfl
   clear hS' er eg em
   go_simp
   rfl
  simp only [nrz]
  refine tkz 8 (v := ?qv8) rfl hS (fun w' hS' => ?qy8) ?qz8
  case qy8 =>
   go_simp
   try go_ints
   first
   | rfl
   | (rw [if_pos (by omega)]; done)
   | rw [if_pos ⟨by omega, by omega⟩]
  simp only [nrz]
  refine step_op 9 (by kernel_rfl) rfl (fun K hK => ?_)
  obtain ⟨e0, e1, e2, er, eg, em⟩ := (hM2.later hS).cells
  have erd := er d hdR
  have fzd := (hM2.later hS).frozen.2.2 d
  clear er eg em e0 e1 e2
  rw [if_pos (by rfl)]
  go_simp
  refine hK.out _ _ (fun h => absurd h (by omega)) ?_
  clear hK K
  try simp only [Act.put, nrz]
  refine done_ops (by kernel_rfl) ?_
  have hgP := (rowP2.lt gP rfl).1
  have hrow3 := row_below rowP2 hS
  obtain ⟨hMf, hbf⟩ := (hM2.later hS).repl hdR (jrow_weaken hrow3 (by omega)) (fun r hr e => by have := hGl r hr; omega) (by omega) (by have := hS.size; have := hBB2.size; omega)
  have hBBf := hBB2.trans ((hS.mono (by have := hBB2.size; omega)).trans hbf)
  clear hM2 hbf hBB2 hrow3 rowP2 kb2 kx2 hS
  go_wp2_with fail
  go_end0
  exact ⟨⟨_, rfl⟩, _, _, if_neg (by omega), hMf, hBBf⟩
set_option maxRecDepth 100000 in
set_option maxHeartbeats 8000000 in
theorem mzip_any (B bm lanes R N : Nat) (M : MacN) (gr gm cr cm : Nat) (G C : Nat → Nat) (w : World) (hM : MacAt B w bm lanes R N M gr gm cr cm G C) (hl : 1 ≤ lanes ∧ lanes ≤ 16) (hRN : R ≤ 16 ∧ N ≤ 8192) (x : InsN) (ia : Option Addr) (ic : Nat) (d a b : Nat) (hd : x.d = (d : Int)) (ha : x.a = (a : Int)) (hb' : x.b = (b : Int)) (hdR : d < R) (haR : a < R) (hbR : b < R) (hhow : 1 ≤ x.how ∧ x.how ≤ 6) (hBw : B ≤ w.heap.size) :
  Calls Try.prog 82 #[.pointer (some ⟨bm, 0, none⟩), insv x ia ic] w fun e w' => (∃ v, e = .returned v) ∧ ∃ G' C', C' R = C R ∧ MacAt B w' bm lanes R N (setR M d fun j => pix (zipF x.how (pix (M.regs a j)) (pix (M.regs b j)))) gr gm cr cm G' C' ∧ Below B w w' := by
 have hB : Below w.heap.size w w := Below.refl _ _
 obtain ⟨hl1, hl2⟩ := hl
 obtain ⟨hR1, hN1⟩ := hRN
 have hBB : Below B w w := Below.refl _ _
 unfold insv
 rw [hd, ha, hb']
 have hM0 := hM
 obtain ⟨V1, hEV1, hbV1, kx⟩ := newB w 95 #[.int .u8 x.op, .int .i64 (d : Int), .int .i64 (a : Int), .int .i64 (b : Int), .int .i64 x.val, .int .i64 x.pt.mul, .int .i64 x.pt.add, .int .i64 x.pt.div, .int .i64 x.pt.lo, .int .i64 x.pt.hi, .int .u8 x.how, .slice ia x.ad.length ic]
 replace hM := hM.later hbV1
 replace hBB := hBB.trans (hbV1.mono (Nat.le_trans hBw hBB.size))
 replace hB := tmB hB hbV1
 clear hbV1
 obtain ⟨x0, x1, x2, x3, x4, x5, x6, x7, x8, x9, x10, x11⟩ := cz12 kx
 obtain ⟨hc1, hc2, hc3⟩ := hM.caps
 have hszV := hB.size
 have hGl : ∀ r, r < R → G r < w.heap.size := fun r hr => ((hM0.rg r hr).lt (G r) rfl).2
 have hgml : gm < w.heap.size := (hM0.mm.lt gm rfl).2
 have lx := kx.lt
 clear hM0
 have hspec := zip_row hl1 hl2 M a b hhow
 have hspecH := Lib.hid hspec
 clear hspec
 go_enter Try.func82, Try.ntmps82
 have hS0 : Below V1.heap.size V1 V1.drew := (Below.refl _ _).drew
 go_wp2_with fail
 clear hB
 clear hEV1
 refine plain_region (fun W' => Below V1.heap.size V1 W') 17 17 (by kernel_rfl) rfl ?_
 simp only [Array.replicate_succ, Array.replicate_zero, List.push_toArray, List.nil_append, List.cons_append]
 obtain ⟨X0, hX0⟩ : ∃ X : World, V1.drew = X := ⟨_, rfl⟩
 rw [hX0] at hS0 ⊢
 clear hX0
 apply cutZ (fun gP qc bt gA cA gBb cBb X4 => X4.ownsRow V1.heap.size 3 1 (srow gP lanes qc) lanes (intL lanes fun j => pix (zipF x.how (pix (M.regs a j)) (pix (M.regs b j)))) ∧ Blk X4 bt 29 #[.int .i64 0, .int .i64 0, .slice none 0 0] ∧ V1.heap.size ≤ bt ∧ Below V1.heap.size V1 X4)
 case' main => intro key
 refine tkz 0 rfl hS0 (fun w' hS' => by go_simp; rfl) ?_
 simp only [nrz]
 refine tkz 1 rfl hS0 (fun w' hS' => by go_simp; rfl) ?_
 simp only [nrz]
 refine tkz 2 rfl hS0 (fun w' hS' => by obtain ⟨y0, y1, y2, y3, y4, y5, y6, y7, y8, y9, y10, y11⟩ := cz12 (kx.below hS' lx); clear hS'; go_simp; rfl) ?_
 simp only [nrz]
 refine tkz 4 rfl hS0 (fun w' hS' => by go_simp; rfl) ?_
 simp only [nrz]
 refine tkz 5 rfl hS0 (fun w' hS' => by go_simp; rfl) ?_
 simp only [nrz]
 refine tkz 6 rfl hS0 (fun w' hS' => by obtain ⟨y0, y1, y2, y3, y4, y5, y6, y7, y8, y9, y10, y11⟩ := cz12 (kx.below hS' lx); clear hS'; go_simp; rfl) ?_
 simp only [nrz]
 refine tkz 8 rfl hS0 (fun w' hS' => by go_simp; rfl) ?_
 simp only [nrz]
 refine tkz 9 rfl hS0 (fun w' hS' => by obtain ⟨y0, y1, y2, y3, y4, y5, y6, y7, y8, y9, y10, y11⟩ := cz12 (kx.below hS' lx); clear hS'; go_simp; rfl) ?_
 simp only [nrz]
 refine fork2 (i := 3) (j := 14) (by kernel_rfl) ?_ ?_
 ·refine step_at 3 rfl (fun K hK => ?_)
  rw [if_pos (by rfl)]
  go_simp
  refine (mpix_any B bm lanes R N M gr gm cr cm G C X0 (hM.later hS0) ⟨hl1, hl2⟩ ⟨hR1, hN1⟩ a haR).mono ?_
  rintro e X1 ⟨gA, cA, rfl, rowA, hb⟩
  replace rowA : X1.ownsRow V1.heap.size 3 1 (srow gA lanes cA) lanes (intL lanes fun j => pix (M.regs a j)) := jrow_weaken rowA hS0.size
  have hS1 : Below V1.heap.size V1 X1 := hS0.trans (hb.mono hS0.size)
  clear hb
  refine hK.out _ _ (fun h => hS1) ?_
  clear hK K
  try simp only [Act.put, nrz]
  refine fork2 (i := 7) (j := 14) (by kernel_rfl) ?_ ?_
  ·refine step_at 7 rfl (fun K hK => ?_)
   rw [if_pos (by rfl)]
   go_simp
   refine (mpix_any B bm lanes R N M gr gm cr cm G C X1 (hM.later hS1) ⟨hl1, hl2⟩ ⟨hR1, hN1⟩ b hbR).mono ?_
   rintro e X2 ⟨gBb, cBb, rfl, rowBb, hb⟩
   replace rowA := row_below rowA hb
   replace rowBb : X2.ownsRow V1.heap.size 3 1 (srow gBb lanes cBb) lanes (intL lanes fun j => pix (M.regs b j)) := jrow_weaken rowBb hS1.size
   have hS2 : Below V1.heap.size V1 X2 := hS1.trans (hb.mono hS1.size)
   clear hb
   refine hK.out _ _ (fun h => hS2) ?_
   clear hK K
   try simp only [Act.put, nrz]
   refine fork2 (i := 10) (j := 14) (by kernel_rfl) ?_ ?_
   ·refine step_at 10 rfl (fun K hK => ?_)
    rw [if_pos (by rfl)]
    go_simp
    have hc := Zip_any (lanes : Int) 1 (some ⟨gA, 0, none⟩) cA lanes (pixR lanes M a) (Lib.hid (pixR_len _ _ _)) (lanes : Int) 1 (some ⟨gBb, 0, none⟩) cBb lanes (pixR lanes M b) (Lib.hid (pixR_len _ _ _)) x.how (by omega) (by omega) X2 (by omega) (by omega) (row_rd' (pixR_len lanes M a) (by unfold pixR; rw [intL_map]; exact rowA)) (row_rd' (pixR_len lanes M b) (by unfold pixR; rw [intL_map]; exact rowBb))
    rw [hspecH.out] at hc
    refine hc.mono ?_
    clear hc
    rintro e X3 ⟨⟨v, rfl, tt, rfl, rowP⟩, hb⟩
    have hlp : ((List.range lanes).map fun j => pix (zipF x.how (pix (M.regs a j)) (pix (M.regs b j)))).length = lanes := by simp
    simp only [hlp] at rowP
    rw [intL_map] at rowP
    obtain ⟨qa, qc, rfl⟩ := row_slice rowP
    obtain ⟨gP, rfl⟩ := row_someP rowP (by omega)
    replace rowP : X3.ownsRow V1.heap.size 3 1 (srow gP lanes qc) lanes (intL lanes fun j => pix (zipF x.how (pix (M.regs a j)) (pix (M.regs b j)))) := jrow_weaken rowP hS2.size
    have hS3 : Below V1.heap.size V1 X3 := hS2.trans (hb.mono hS2.size)
    clear hlp
    clear hb rowA rowBb
    refine hK.out _ _ (fun h => hS3) ?_
    clear hK K
    try simp only [Act.put, nrz]
    refine tkz 11 rfl hS3 (fun w' hS' => by go_simp; rfl) ?_
    simp only [nrz]
    refine tkz 12 rfl hS3 (fun w' hS' => by go_simp; rfl) ?_
    simp only [nrz]
    refine tkz 13 rfl hS3 (fun w' hS' => by go_simp; rfl) ?_
    simp only [nrz]
    refine step_op 14 (by kernel_rfl) rfl (fun K hK => ?_)
    have kb := Blk.new X3 29 #[.int .i64 0, .int .i64 0, .slice none 0 0]
    have hb : Below X3.heap.size X3 (X3.alloc (.cells #[.int .i64 0, .int .i64 0, .slice none 0 0] 29)) := jb_al (Below.refl _ X3) _
    obtain ⟨X4, hEX4⟩ : ∃ X, X3.alloc (.cells #[.int .i64 0, .int .i64 0, .slice none 0 0] 29) = X := ⟨_, rfl⟩
    obtain ⟨bt, hbt⟩ : ∃ b, X3.heap.size = b := ⟨_, rfl⟩
    have hbtl : V1.heap.size ≤ bt := by have := hS3.size; omega
    have hS4 : Below V1.heap.size V1 (X3.alloc (.cells #[.int .i64 0, .int .i64 0, .slice none 0 0] 29)) := hS3.trans (hb.mono hS3.size)
    rw [hEX4] at hS4 hb kb
    replace rowP := row_below rowP hb
    rw [hbt] at kb
    rw [if_pos (by rfl)]
    go_simp
    try rw [hEX4]
    try rw [hbt]
    clear hb hbt
    refine hK.out _ _ (fun h => (hEX4 ▸ hS4)) ?_
    clear hK K
    try simp only [Act.put, nrz]
    exact key gP qc bt gA cA gBb cBb X4 ⟨rowP, kb, hbtl, hS4⟩
   ·refine step_at 14 rfl (fun K hK => ?_)
    have kb := Blk.new X2 29 #[.int .i64 0, .int .i64 0, .slice none 0 0]
    have hb : Below X2.heap.size X2 (X2.alloc (.cells #[.int .i64 0, .int .i64 0, .slice none 0 0] 29)) := jb_al (Below.refl _ X2) _
    obtain ⟨X3, hEX3⟩ : ∃ X, X2.alloc (.cells #[.int .i64 0, .int .i64 0, .slice none 0 0] 29) = X := ⟨_, rfl⟩
    obtain ⟨bt, hbt⟩ : ∃ b, X2.heap.size = b := ⟨_, rfl⟩
    have hbtl : V1.heap.size ≤ bt := by have := hS2.size; omega
    have hS3 : Below V1.heap.size V1 (X2.alloc (.cells #[.int .i64 0, .int .i64 0, .slice none 0 0] 29)) := hS2.trans (hb.mono hS2.size)
    rw [hEX3] at hS3 hb kb
    replace rowA := row_below rowA hb
    replace rowBb := row_below rowBb hb
    rw [hbt] at kb
    rw [if_pos (by rfl)]
    go_simp
    try rw [hEX3]
    try rw [hbt]
    clear hb hbt
    refine hK.out _ _ (fun h => (hEX3 ▸ hS3)) ?_
    clear hK K
    try simp only [Act.put, nrz]
    refine step_op 10 (by kernel_rfl) rfl (fun K hK => ?_)
    rw [if_pos (by rfl)]
    go_simp
    have hc := Zip_any (lanes : Int) 1 (some ⟨gA, 0, none⟩) cA lanes (pixR lanes M a) (Lib.hid (pixR_len _ _ _)) (lanes : Int) 1 (some ⟨gBb, 0, none⟩) cBb lanes (pixR lanes M b) (Lib.hid (pixR_len _ _ _)) x.how (by omega) (by omega) X3 (by omega) (by omega) (row_rd' (pixR_len lanes M a) (by unfold pixR; rw [intL_map]; exact rowA)) (row_rd' (pixR_len lanes M b) (by unfold pixR; rw [intL_map]; exact rowBb))
    rw [hspecH.out] at hc
    refine hc.mono ?_
    clear hc
    rintro e X4 ⟨⟨v, rfl, tt, rfl, rowP⟩, hb⟩
    replace kb := kb.below hb kb.lt
    have hlp : ((List.range lanes).map fun j => pix (zipF x.how (pix (M.regs a j)) (pix (M.regs b j)))).length = lanes := by simp
    simp only [hlp] at rowP
    rw [intL_map] at rowP
    obtain ⟨qa, qc, rfl⟩ := row_slice rowP
    obtain ⟨gP, rfl⟩ := row_someP rowP (by omega)
    replace rowP : X4.ownsRow V1.heap.size 3 1 (srow gP lanes qc) lanes (intL lanes fun j => pix (zipF x.how (pix (M.regs a j)) (pix (M.regs b j)))) := jrow_weaken rowP hS3.size
    have hS4 : Below V1.heap.size V1 X4 := hS3.trans (hb.mono hS3.size)
    clear hlp
    clear hb rowA rowBb
    refine hK.out _ _ (fun h => hS4) ?_
    clear hK K
    try simp only [Act.put, nrz]
    refine tkz 11 rfl hS4 (fun w' hS' => by go_simp; rfl) ?_
    simp only [nrz]
    refine tkz 12 rfl hS4 (fun w' hS' => by go_simp; rfl) ?_
    simp only [nrz]
    refine tkz 13 rfl hS4 (fun w' hS' => by go_simp; rfl) ?_
    simp only [nrz]
    exact key gP qc bt gA cA gBb cBb X4 ⟨rowP, kb, hbtl, hS4⟩
  ·refine step_at 14 rfl (fun K hK => ?_)
   have kb := Blk.new X1 29 #[.int .i64 0, .int .i64 0, .slice none 0 0]
   have hb : Below X1.heap.size X1 (X1.alloc (.cells #[.int .i64 0, .int .i64 0, .slice none 0 0] 29)) := jb_al (Below.refl _ X1) _
   obtain ⟨X2, hEX2⟩ : ∃ X, X1.alloc (.cells #[.int .i64 0, .int .i64 0, .slice none 0 0] 29) = X := ⟨_, rfl⟩
   obtain ⟨bt, hbt⟩ : ∃ b, X1.heap.size = b := ⟨_, rfl⟩
   have hbtl : V1.heap.size ≤ bt := by have := hS1.size; omega
   have hS2 : Below V1.heap.size V1 (X1.alloc (.cells #[.int .i64 0, .int .i64 0, .slice none 0 0] 29)) := hS1.trans (hb.mono hS1.size)
   rw [hEX2] at hS2 hb kb
   replace rowA := row_below rowA hb
   rw [hbt] at kb
   rw [if_pos (by rfl)]
   go_simp
   try rw [hEX2]
   try rw [hbt]
   clear hb hbt
   refine hK.out _ _ (fun h => (hEX2 ▸ hS2)) ?_
   clear hK K
   try simp only [Act.put, nrz]
   refine step_op 7 (by kernel_rfl) rfl (fun K hK => ?_)
   rw [if_pos (by rfl)]
   go_simp
   refine (mpix_any B bm lanes R N M gr gm cr cm G C X2 (hM.later hS2) ⟨hl1, hl2⟩ ⟨hR1, hN1⟩ b hbR).mono ?_
   rintro e X3 ⟨gBb, cBb, rfl, rowBb, hb⟩
   replace rowA := row_below rowA hb
   replace kb := kb.below hb kb.lt
   replace rowBb : X3.ownsRow V1.heap.size 3 1 (srow gBb lanes cBb) lanes (intL lanes fun j => pix (M.regs b j)) := jrow_weaken rowBb hS2.size
   have hS3 : Below V1.heap.size V1 X3 := hS2.trans (hb.mono hS2.size)
   clear hb
   refine hK.out _ _ (fun h => hS3) ?_
   clear hK K
   try simp only [Act.put, nrz]
   refine step_op 10 (by kernel_rfl) rfl (fun K hK => ?_)
   rw [if_pos (by rfl)]
   go_simp
   have hc := Zip_any (lanes : Int) 1 (some ⟨gA, 0, none⟩) cA lanes (pixR lanes M a) (Lib.hid (pixR_len _ _ _)) (lanes : Int) 1 (some ⟨gBb, 0, none⟩) cBb lanes (pixR lanes M b) (Lib.hid (pixR_len _ _ _)) x.how (by omega) (by omega) X3 (by omega) (by omega) (row_rd' (pixR_len lanes M a) (by unfold pixR; rw [intL_map]; exact rowA)) (row_rd' (pixR_len lanes M b) (by unfold pixR; rw [intL_map]; exact rowBb))
   rw [hspecH.out] at hc
   refine hc.mono ?_
   clear hc
   rintro e X4 ⟨⟨v, rfl, tt, rfl, rowP⟩, hb⟩
   replace kb := kb.below hb kb.lt
   have hlp : ((List.range lanes).map fun j => pix (zipF x.how (pix (M.regs a j)) (pix (M.regs b j)))).length = lanes := by simp
   simp only [hlp] at rowP
   rw [intL_map] at rowP
   obtain ⟨qa, qc, rfl⟩ := row_slice rowP
   obtain ⟨gP, rfl⟩ := row_someP rowP (by omega)
   replace rowP : X4.ownsRow V1.heap.size 3 1 (srow gP lanes qc) lanes (intL lanes fun j => pix (zipF x.how (pix (M.regs a j)) (pix (M.regs b j)))) := jrow_weaken rowP hS3.size
   have hS4 : Below V1.heap.size V1 X4 := hS3.trans (hb.mono hS3.size)
   clear hlp
   clear hb rowA rowBb
   refine hK.out _ _ (fun h => hS4) ?_
   clear hK K
   try simp only [Act.put, nrz]
   refine tkz 11 rfl hS4 (fun w' hS' => by go_simp; rfl) ?_
   simp only [nrz]
   refine tkz 12 rfl hS4 (fun w' hS' => by go_simp; rfl) ?_
   simp only [nrz]
   refine tkz 13 rfl hS4 (fun w' hS' => by go_simp; rfl) ?_
   simp only [nrz]
   exact key gP qc bt gA cA gBb cBb X4 ⟨rowP, kb, hbtl, hS4⟩
 ·refine step_at 14 rfl (fun K hK => ?_)
  have kb := Blk.new X0 29 #[.int .i64 0, .int .i64 0, .slice none 0 0]
  have hb : Below X0.heap.size X0 (X0.alloc (.cells #[.int .i64 0, .int .i64 0, .slice none 0 0] 29)) := jb_al (Below.refl _ X0) _
  obtain ⟨X1, hEX1⟩ : ∃ X, X0.alloc (.cells #[.int .i64 0, .int .i64 0, .slice none 0 0] 29) = X := ⟨_, rfl⟩
  obtain ⟨bt, hbt⟩ : ∃ b, X0.heap.size = b := ⟨_, rfl⟩
  have hbtl : V1.heap.size ≤ bt := by have := hS0.size; omega
  have hS1 : Below V1.heap.size V1 (X0.alloc (.cells #[.int .i64 0, .int .i64 0, .slice none 0 0] 29)) := hS0.trans (hb.mono hS0.size)
  rw [hEX1] at hS1 hb kb
  rw [hbt] at kb
  rw [if_pos (by rfl)]
  go_simp
  try rw [hEX1]
  try rw [hbt]
  clear hb hbt
  refine hK.out _ _ (fun h => (hEX1 ▸ hS1)) ?_
  clear hK K
  try simp only [Act.put, nrz]
  refine step_op 3 (by kernel_rfl) rfl (fun K hK => ?_)
  rw [if_pos (by rfl)]
  go_simp
  refine (mpix_any B bm lanes R N M gr gm cr cm G C X1 (hM.later hS1) ⟨hl1, hl2⟩ ⟨hR1, hN1⟩ a haR).mono ?_
  rintro e X2 ⟨gA, cA, rfl, rowA, hb⟩
  replace kb := kb.below hb kb.lt
  replace rowA : X2.ownsRow V1.heap.size 3 1 (srow gA lanes cA) lanes (intL lanes fun j => pix (M.regs a j)) := jrow_weaken rowA hS1.size
  have hS2 : Below V1.heap.size V1 X2 := hS1.trans (hb.mono hS1.size)
  clear hb
  refine hK.out _ _ (fun h => hS2) ?_
  clear hK K
  try simp only [Act.put, nrz]
  refine step_op 7 (by kernel_rfl) rfl (fun K hK => ?_)
  rw [if_pos (by rfl)]
  go_simp
  refine (mpix_any B bm lanes R N M gr gm cr cm G C X2 (hM.later hS2) ⟨hl1, hl2⟩ ⟨hR1, hN1⟩ b hbR).mono ?_
  rintro e X3 ⟨gBb, cBb, rfl, rowBb, hb⟩
  replace kb := kb.below hb kb.lt
  replace rowA := row_below rowA hb
  replace rowBb : X3.ownsRow V1.heap.size 3 1 (srow gBb lanes cBb) lanes (intL lanes fun j => pix (M.regs b j)) := jrow_weaken rowBb hS2.size
  have hS3 : Below V1.heap.size V1 X3 := hS2.trans (hb.mono hS2.size)
  clear hb
  refine hK.out _ _ (fun h => hS3) ?_
  clear hK K
  try simp only [Act.put, nrz]
  refine step_op 10 (by kernel_rfl) rfl (fun K hK => ?_)
  rw [if_pos (by rfl)]
  go_simp
  have hc := Zip_any (lanes : Int) 1 (some ⟨gA, 0, none⟩) cA lanes (pixR lanes M a) (Lib.hid (pixR_len _ _ _)) (lanes : Int) 1 (some ⟨gBb, 0, none⟩) cBb lanes (pixR lanes M b) (Lib.hid (pixR_len _ _ _)) x.how (by omega) (by omega) X3 (by omega) (by omega) (row_rd' (pixR_len lanes M a) (by unfold pixR; rw [intL_map]; exact rowA)) (row_rd' (pixR_len lanes M b) (by unfold pixR; rw [intL_map]; exact rowBb))
  rw [hspecH.out] at hc
  refine hc.mono ?_
  clear hc
  rintro e X4 ⟨⟨v, rfl, tt, rfl, rowP⟩, hb⟩
  replace kb := kb.below hb kb.lt
  have hlp : ((List.range lanes).map fun j => pix (zipF x.how (pix (M.regs a j)) (pix (M.regs b j)))).length = lanes := by simp
  simp only [hlp] at rowP
  rw [intL_map] at rowP
  obtain ⟨qa, qc, rfl⟩ := row_slice rowP
  obtain ⟨gP, rfl⟩ := row_someP rowP (by omega)
  replace rowP : X4.ownsRow V1.heap.size 3 1 (srow gP lanes qc) lanes (intL lanes fun j => pix (zipF x.how (pix (M.regs a j)) (pix (M.regs b j)))) := jrow_weaken rowP hS3.size
  have hS4 : Below V1.heap.size V1 X4 := hS3.trans (hb.mono hS3.size)
  clear hlp
  clear hb rowA rowBb
  refine hK.out _ _ (fun h => hS4) ?_
  clear hK K
  try simp only [Act.put, nrz]
  refine tkz 11 rfl hS4 (fun w' hS' => by go_simp; rfl) ?_
  simp only [nrz]
  refine tkz 12 rfl hS4 (fun w' hS' => by go_simp; rfl) ?_
  simp only [nrz]
  refine tkz 13 rfl hS4 (fun w' hS' => by go_simp; rfl) ?_
  simp only [nrz]
  exact key gP qc bt gA cA gBb cBb X4 ⟨rowP, kb, hbtl, hS4⟩
 case key =>
  rintro gP qc bt gA cA gBb cBb X4 ⟨rowP, kb, hbtl, hS4⟩
  refine step_op 15 (by kernel_rfl) rfl (fun K hK => ?_)
  obtain ⟨z0, z1, z2⟩ := cz3 kb
  have fz0 := kb.frozen 0
  have fz1 := kb.frozen 1
  have fz2 := kb.frozen 2
  have hS5 : Below V1.heap.size V1 (put3 X4 bt (.int .i64 (lanes : Int)) (.int .i64 1) (srow gP lanes qc)) := hS4.trans (put3_below hbtl _ _ _)
  rw [if_pos (by rfl)]
  go_simp
  refine hK.out _ _ (fun h => hS5) ?_
  clear hK K
  try simp only [Act.put, nrz]
  refine tkz 16 rfl hS5 (fun w' hS' => by go_simp; rfl) ?_
  simp only [nrz]
  refine done_ops (by kernel_rfl) ?_
  have kb2 := put3_blk kb (.int .i64 (lanes : Int)) (.int .i64 1) (srow gP lanes qc)
  have rowP2 := row_put3b rowP (kb.not_row (by decide) rowP) (.int .i64 (lanes : Int)) (.int .i64 1) (srow gP lanes qc)
  have hM2 := hM.later hS5
  have kx2 := kx.below hS5 lx
  have hBB2 := hBB.trans (hS5.mono (Nat.le_trans hBw hBB.size))
  have hszX := hS5.size
  clear rowP kb hM kx hBB hS4 hS5 hS0 z0 z1 z2 fz0 fz1 fz2
  obtain ⟨X9, hX9⟩ : ∃ X, ((X4.setCell ⟨bt, 0, none⟩ (.int .i64 (lanes : Int))).setCell ⟨bt, 1, none⟩ (.int .i64 1)).setCell ⟨bt, 2, none⟩ (.slice (some ⟨gP, 0, none⟩) lanes qc) = X := ⟨_, rfl⟩
  have e9 : put3 X4 bt (.int .i64 (lanes : Int)) (.int .i64 1) (srow gP lanes qc) = X9 := hX9
  rw [e9] at kb2 rowP2 hM2 kx2 hBB2 hszX
  rw [hX9]
  clear hX9 e9
  have lb := kb2.lt
  have lx2 := kx2.lt
  have hS : Below X9.heap.size X9 X9.drew := (Below.refl _ _).drew
  go_wp2_with fail
  refine plain_region (fun W' => Below X9.heap.size X9 W') 9 10 (by kernel_rfl) rfl ?_
  simp only [Array.replicate_succ, Array.replicate_zero, List.push_toArray, List.nil_append, List.cons_append]
  obtain ⟨Y0, hXY0⟩ : ∃ X : World, X9.drew = X := ⟨_, rfl⟩
  rw [hXY0] at hS ⊢
  clear hXY0
  refine tkz 0 rfl hS (fun w' hS' => by go_simp; rfl) ?_
  simp only [nrz]
  refine tkz 1 rfl hS (fun w' hS' => by go_simp; rfl) ?_
  simp only [nrz]
  refine tkz 2 rfl hS (fun w' hS' => by go_simp; rfl) ?_
  simp only [nrz]
  refine tkz 3 (v := ?qv3) rfl hS (fun w' hS' => ?qy3) ?qz3
  case qy3 =>
   obtain ⟨e0, e1, e2, er, eg, em⟩ := (hM2.later hS').cells
   have erd := er d hdR
   obtain ⟨q0, q1, q2⟩ := cz3 (kb2.below hS' lb)
   have y1 := (kx2.below hS' lx2).cell (i := 1) rfl
   clear hS' er eg em
   go_simp
   rfl
  simp only [nrz]
  refine tkz 4 rfl hS (fun w' hS' => by go_simp; rfl) ?_
  simp only [nrz]
  refine tkz 5 (v := ?qv5) rfl hS (fun w' hS' => ?qy5) ?qz5
  case qy5 =>
   obtain ⟨e0, e1, e2, er, eg, em⟩ := (hM2.later hS').cells
   have erd := er d hdR
   obtain ⟨q0, q1, q2⟩ := cz3 (kb2.below hS' lb)
   have y1 := (kx2.below hS' lx2).cell (i := 1) rfl
   clear hS' er eg em
   go_simp
   rfl
  simp only [nrz]
  refine tkz 6 rfl hS (fun w' hS' => by go_simp; rfl) ?_
  simp only [nrz]
  refine tkz 7 (v := ?qv7) rfl hS (fun w' hS' => ?qy7) ?qz7
  case qy7 =>
   obtain ⟨e0, e1, e2, er, eg, em⟩ := (hM2.later hS').cells
   have erd := er d hdR
   obtain ⟨q0, q1, q2⟩ := cz3 (kb2.below hS' lb)
   have y1 := (kx2.below hS' lx2).cell (i := 1) rfl
   clear hS' er eg em
   go_simp
   rfl
  simp only [nrz]
  refine tkz 8 (v := ?qv8) rfl hS (fun w' hS' => ?qy8) ?qz8
  case qy8 =>
   go_simp
   try go_ints
   first
   | rfl
   | (rw [if_pos (by omega)]; done)
   | rw [if_pos ⟨by omega, by omega⟩]
  simp only [nrz]
  refine step_op 9 (by kernel_rfl) rfl (fun K hK => ?_)
  obtain ⟨e0, e1, e2, er, eg, em⟩ := (hM2.later hS).cells
  have erd := er d hdR
  have fzd := (hM2.later hS).frozen.2.2 d
  clear er eg em e0 e1 e2
  rw [if_pos (by rfl)]
  go_simp
  refine hK.out _ _ (fun h => absurd h (by omega)) ?_
  clear hK K
  try simp only [Act.put, nrz]
  refine done_ops (by kernel_rfl) ?_
  have hgP := (rowP2.lt gP rfl).1
  have hrow3 := row_below rowP2 hS
  obtain ⟨hMf, hbf⟩ := (hM2.later hS).repl hdR (jrow_weaken hrow3 (by omega)) (fun r hr e => by have := hGl r hr; omega) (by omega) (by have := hS.size; have := hBB2.size; omega)
  have hBBf := hBB2.trans ((hS.mono (by have := hBB2.size; omega)).trans hbf)
  clear hM2 hbf hBB2 hrow3 rowP2 kb2 kx2 hS
  go_wp2_with fail
  go_end0
  exact ⟨⟨_, rfl⟩, _, _, if_neg (by omega), hMf, hBBf⟩
end Go.Proofs.Ytekiemlniegddaa

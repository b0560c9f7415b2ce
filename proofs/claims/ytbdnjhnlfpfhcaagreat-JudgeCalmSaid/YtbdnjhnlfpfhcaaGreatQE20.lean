/- Contracts and laws (Ce). -/
import Derived.Lib.SliceRun
import Derived.Test.YtbdnjhnlfpfhcaaGreatQE19
import Derived.Test.YtbdnjhnlfpfhcaaGreatQE10
namespace Go.Proofs.YtbdnjhnlfpfhcaaGreat
open Go Go.RowKit Go.Shelf
set_option linter.unusedVariables false
set_option linter.unusedSimpArgs false

/-- A pair is stored into a row of pairs, wherever it lies. -/
theorem rowP_put {W : World} {base : Nat} {e : TypeId} {g n cap j : Nat} {l : List (Int × Int)} (h : W.ownsRow base e 2 (.slice (some ⟨g, 0, none⟩) n cap) n ((flat l).map (Value.int .i64))) (hl : l.length = n) (hj : j < n) (a b : Int) :
    (∃ u, W.cell? ⟨g, j * 2, none⟩ = some (.int .i64 u)) ∧ (∃ u, W.cell? ⟨g, j * 2 + 1, none⟩ = some (.int .i64 u)) ∧ W.frozen? ⟨g, j * 2, none⟩ = false ∧ W.frozen? ⟨g, j * 2 + 1, none⟩ = false ∧
      ((W.setCell ⟨g, j * 2, none⟩ (.int .i64 a)).setCell ⟨g, j * 2 + 1, none⟩ (.int .i64 b)).ownsRow base e 2 (.slice (some ⟨g, 0, none⟩) n cap) n ((flat (l.set j (a, b))).map (Value.int .i64)) := by
  have hlen : (flat l).length = 2 * n := by rw [flat_length, hl]
  have c0 := h.cellAt (j * 2) (by omega)
  have c1 := h.cellAt (j * 2 + 1) (by omega)
  rw [List.getElem?_map, List.getElem?_eq_getElem (by omega)] at c0 c1
  refine ⟨⟨_, c0⟩, ⟨_, c1⟩, h.frozenAt _, h.frozenAt _, ?_⟩
  have s1 := (h.stored (j * 2) (.int .i64 a)).1
  have s2 := (s1.stored (j * 2 + 1) (.int .i64 b)).1
  rw [map_set_i, map_set_i, flat_set] at s2
  exact s2
theorem row_some {W : World} {base : Nat} {e : TypeId} {size : Nat} {a : Option Addr} {n c : Nat} {xs : List Value} (h : W.ownsRow base e size (.slice a n c) n xs) (hn : 0 < n) : ∃ g, a = some ⟨g, 0, none⟩ := by
  rcases h.2 with ⟨h1, h2⟩ | ⟨g, cap, cur, h1, _⟩
  · omega
  · simp only [Value.slice.injEq, true_and] at h1
    exact ⟨g, h1.1⟩

set_option maxRecDepth 100000 in
set_option maxHeartbeats 4000000 in
theorem CloneP_any (l : List (Int × Int)) (n : Nat) (hl : l.length = n) (h1 : 1 ≤ n) (h16 : n ≤ 16) (b o c : Nat) (w : World) (hr : Rd w.heap.size w (some ⟨b, o, none⟩) (flat l)) :
    Calls Tryz.prog 78 #[.slice (some ⟨b, o, none⟩) n c] w fun e w' => ∃ g cap, e = .returned (.slice (some ⟨g, 0, none⟩) n cap) ∧ w'.ownsRow w.heap.size 88 2 (.slice (some ⟨g, 0, none⟩) n cap) n ((flat l).map (Value.int .i64)) ∧ Below w.heap.size w w' := by
  obtain ⟨i0, hi, hz0, hz1, hz2⟩ := info_parts jinfo_bnd
  have qT : ∀ (w : World) (a : Option Addr) (n c n' c' : Nat), (binOp .eql 102 (.slice a n c) (.slice none n' c')).run Tryz.prog w = .ok (.bool a.isNone) w := fun w a n c n' c' => Lib.run_eql_slice_nil w _ _ a n c n' c' Tryz.underlying102
  have own1 := World.ownsRow_made (e := 88) (size := 2) (base := w.heap.size) w #[] 0 (Nat.le_refl _) (by decide) rfl
  have hB1 : Below w.heap.size w (w.alloc (.cells #[] 88)) := jb_al (Below.refl _ w) _
  have hnews : ∀ j u, ((flat l).map (Value.int .i64))[j]? = some u → (w.alloc (.cells #[] 88)).cell? ((⟨b, o, none⟩ : Addr).add j) = some u := by
    rcases (hr.news rfl).below (W' := w.alloc (.cells #[] 88)) (B := w.heap.size) hB1 (fun ad e => by
        rcases hr with h | ⟨b', o', h2, h3, _⟩
        · have := congrArg List.length h; rw [flat_length, List.length_nil] at this; omega
        · simp only [Option.some.injEq] at e h2; rw [← e, h2]; exact h3) with ⟨h, _⟩ | ⟨ad, h, h2⟩
    · cases h
    · simp only [Option.some.injEq] at h
      subst h
      exact h2
  have hlenH := Lib.hid (show ((flat l).map (Value.int .i64)).length = n * 2 by rw [List.length_map, flat_length, hl]; omega)
  have honeH := Lib.hid (vint_one (flat l))
  have hnewsH := Lib.hid hnews
  have own1H := Lib.hid own1
  clear hnews own1 hr hl
  go_enter Tryz.func78, Tryz.ntmps78
  go_wp2_with (at_builtin; refine wpList_append_own_at _ rfl _ _ 102 rfl w.heap.size 88 i0 (.agg #[.int .i64 0, .int .i64 0]) 2 16 Tryz.underlying102 hi hz0 hz1 hz2 rfl (by decide) (.slice (some ⟨w.heap.size, 0, none⟩) 0 0) 0 [] rfl own1H.out ⟨b, o, none⟩ n c ((flat l).map (Value.int .i64)) rfl hlenH.out hnewsH.out honeH.out (by unfold maxLen; omega) (by omega) hB1.size ?_; intro v2 W2 own2 hg2 _ _)
  rw [Nat.zero_add, List.nil_append] at own2
  have hB2 := hB1.grown hg2 hB1.size (fun k e => (own1H.out.lt k e).1)
  obtain ⟨a2, c2, rfl⟩ := jrow_slice own2
  obtain ⟨g, rfl⟩ := row_some own2 (by omega)
  go_ret
  exact ⟨g, c2, rfl, own2, hB2⟩

/-- What a certificate of so many splits answers. -/
def CertI (N : NetN) (na : Option Addr) (nn nc s : Nat) : Prop := ∀ (l : List (Int × Int)), l.length = N.nf → LeP 65280 l → ∀ (a : Option Addr) (c : Nat) (W : World), RdLs W.heap.size W na N.Ls → Rd W.heap.size W a (flat l) →
  Calls Tryz.prog 44 #[netv N na nn nc, .slice a N.nf c, .int .i64 (s : Int)] W fun e w' => e = .returned (.int .u8 ((certN N.Ls N.low N.high s l : Nat) : Int)) ∧ Below W.heap.size W w'
theorem leP_set {l : List (Int × Int)} {B : Int} (h : LeP B l) (j : Nat) {a b : Int} (ha : -B ≤ a ∧ a ≤ B) (hb : -B ≤ b ∧ b ≤ B) : LeP B (l.set j (a, b)) := fun i => by
  by_cases hi : i < l.length
  · obtain ⟨e1, e2⟩ := set_at l j (a, b) hi
    rw [e1, e2]
    by_cases e : i = j
    · rw [if_pos e, if_pos e]; exact ⟨ha, hb⟩
    · rw [if_neg e, if_neg e]; exact h i
  · have := h i
    unfold loAt hiAt at this ⊢
    rw [List.getElem?_eq_none (by omega)] at this
    rw [List.getElem?_eq_none (by rw [List.length_set]; omega)]
    exact this
set_option maxRecDepth 100000 in
set_option maxHeartbeats 4000000 in
theorem half_any (N : NetN) (hN : NetOk N) (na : Option Addr) (nn nc s : Nat) (hs : s ≤ 8) (IH : CertI N na nn nc s) (l : List (Int × Int)) (hl : l.length = N.nf) (hle : LeP 65280 l) (j : Nat) (hj : j < N.nf) (lo hi : Int) (hlo : -65280 ≤ lo ∧ lo ≤ 65280) (hhi : -65280 ≤ hi ∧ hi ≤ 65280)
    (b o c bL bA bN bS : Nat) (w : World) (kL : Blk w bL 102 #[.slice (some ⟨b, o, none⟩) N.nf c]) (kA : Blk w bA 3 #[.int .i64 (j : Int)]) (kN : Blk w bN 47 #[.int .i64 N.w, .int .i64 N.h, .int .i64 N.gx, .int .i64 N.gy, .slice na nn nc, .int .i64 N.low, .int .i64 N.high]) (kS : Blk w bS 3 #[.int .i64 ((s : Int) + 1)]) (hr : Rd w.heap.size w (some ⟨b, o, none⟩) (flat l)) (hrn : RdLs w.heap.size w na N.Ls) :
    Calls Tryz.prog 77 #[.int .i64 lo, .int .i64 hi, .pointer (some ⟨bL, 0, none⟩), .pointer (some ⟨bA, 0, none⟩), .pointer (some ⟨bN, 0, none⟩), .pointer (some ⟨bS, 0, none⟩)] w fun e w' => e = .returned (.int .u8 ((certN N.Ls N.low N.high s (l.set j (lo, hi)) : Nat) : Int)) ∧ Below w.heap.size w w' := by
  obtain ⟨nf, hnf⟩ : ∃ n, N.nf = n := ⟨_, rfl⟩
  have h1 := hN.nf.1
  have h16 := hN.nf.2.1
  have hIHH := Lib.hid (fun (c' : Nat) (a' : Option Addr) (W : World) (h1 : RdLs W.heap.size W na N.Ls) (h2 : Rd W.heap.size W a' (flat (l.set j (lo, hi)))) => IH (l.set j (lo, hi)) (by rw [List.length_set]; exact hl) (leP_set hle j hlo hhi) a' c' W h1 h2)
  rw [hnf] at hl hj h1 h16 hIHH kL
  have hclH := Lib.hid (CloneP_any l nf hl h1 h16 b o c w hr)
  have hlH := Lib.hid hl
  have hrnH := Lib.hid hrn
  have l0 := kL.cell (i := 0) rfl
  have a0 := kA.cell (i := 0) rfl
  have kAH := Lib.hid kA
  have kNH := Lib.hid kN
  have kSH := Lib.hid kS
  clear hN IH hl hle hr hrn kL kA kN kS hnf
  have tok1 : True := trivial
  have tok2 : True := trivial
  go_enter Tryz.func77, Tryz.ntmps77
  go_wp2_with (first
    | (go_at_call 78; have _t := tok1; refine (hclH.out).mono ?_; clear _t tok1; rintro e w1 ⟨g, cap, rfl, hrow, hb1⟩; have a1 := (hb1.cell (p := ⟨bA, 0, none⟩) kAH.out.lt).trans a0; have hput := rowP_put hrow hlH.out hj lo hi; obtain ⟨⟨u0, hr0⟩, ⟨u1, hr1⟩, hf0, hf1, hrow2⟩ := hput; have hbs := (hb1.setCell (p := ⟨g, j * 2, none⟩) (hrow.lt g rfl).1 (.int .i64 lo)).setCell (p := ⟨g, j * 2 + 1, none⟩) (hrow.lt g rfl).1 (.int .i64 hi); obtain ⟨w2, hE2⟩ : ∃ X, (w1.setCell ⟨g, j * 2, none⟩ (.int .i64 lo)).setCell ⟨g, j * 2 + 1, none⟩ (.int .i64 hi) = X := ⟨_, rfl⟩; rw [hE2] at hrow2 hbs; have kN2 := kNH.out.below hbs kNH.out.lt; have kS2 := kSH.out.below hbs kSH.out.lt; have p0 : w2.cell? ⟨bN, 0, none⟩ = some (.int .i64 N.w) := kN2.cell (i := 0) rfl; have p1 : w2.cell? ⟨bN, 1, none⟩ = some (.int .i64 N.h) := kN2.cell (i := 1) rfl; have p2 : w2.cell? ⟨bN, 2, none⟩ = some (.int .i64 N.gx) := kN2.cell (i := 2) rfl; have p3 : w2.cell? ⟨bN, 3, none⟩ = some (.int .i64 N.gy) := kN2.cell (i := 3) rfl; have p4 : w2.cell? ⟨bN, 4, none⟩ = some (.slice na nn nc) := kN2.cell (i := 4) rfl; have p5 : w2.cell? ⟨bN, 5, none⟩ = some (.int .i64 N.low) := kN2.cell (i := 5) rfl; have p6 : w2.cell? ⟨bN, 6, none⟩ = some (.int .i64 N.high) := kN2.cell (i := 6) rfl; have s0 : w2.cell? ⟨bS, 0, none⟩ = some (.int .i64 ((s : Int) + 1)) := kS2.cell (i := 0) rfl; have hrd2 := Lib.hid (rowP_rd (by rw [flat_length, List.length_set, hlH.out]) hrow2); clear hrow hrow2 hb1 kN2 kS2)
    | (go_at_call 44; have _t := tok2; refine (hIHH.out _ _ _ (later_l hrnH.out hbs) hrd2.out).mono ?_; clear _t tok2; rintro e w3 ⟨rfl, hb3⟩))
  go_ret
  exact ⟨rfl, hbs.trans (hb3.mono hbs.size)⟩

theorem verdB_in (low high a b : Int) : verdB low high a b = 1 ∨ verdB low high a b = 2 ∨ verdB low high a b = 3 := by unfold verdB; split <;> (try split) <;> simp
theorem certN_in (Ls : List LayN) (low high : Int) : ∀ (s : Nat) (l : List (Int × Int)), certN Ls low high s l = 1 ∨ certN Ls low high s l = 2 ∨ certN Ls low high s l = 3
  | 0, l => verdB_in _ _ _ _
  | s + 1, l => by
    rw [certN]
    split
    · exact verdB_in _ _ _ _
    · split
      · simp
      · exact certN_in Ls low high s _
theorem wideTo_lt {l : List (Int × Int)} : ∀ {k : Nat}, 0 < l.length → k ≤ l.length → wideTo l k < l.length
  | 0, h, _ => h
  | k + 1, h, hk => by
    simp only [wideTo]
    split
    · omega
    · exact wideTo_lt h (by omega)
theorem mid_bd {x y m : Int} (h : (x + y).tdiv 2 = m) (hx : -65280 ≤ x ∧ x ≤ 65280) (hy : -65280 ≤ y ∧ y ≤ 65280) (hne : ¬ x = y) : -65280 ≤ m ∧ m ≤ 65280 ∧ -65280 ≤ m + 1 ∧ m + 1 ≤ 65280 := by
  rcases tdiv_cases (x + y) 2 (by decide) with ⟨e, _⟩ | ⟨e, _, _⟩ <;> rw [h] at e <;> omega

set_option maxRecDepth 100000 in
set_option maxHeartbeats 16000000 in
theorem cert_step (N : NetN) (hN : NetOk N) (na : Option Addr) (nn nc : Nat) (hnn : N.Ls.length = nn) (s : Nat) (hs : s ≤ 8) (IH : ∀ s', s = s' + 1 → CertI N na nn nc s') : CertI N na nn nc s := by
  intro l hl hle a c w hrn hr
  obtain ⟨nf, hnf⟩ : ∃ n, N.nf = n := ⟨_, rfl⟩
  have h1 := hN.nf.1
  have h16 := hN.nf.2.1
  rw [hnf] at h1 h16
  have hll : l.length = nf := by rw [hl, hnf]
  rw [hnf]
  rcases hr with h0 | ⟨b, o, rfl, hb, hc⟩
  · have := congrArg List.length h0; rw [flat_length, List.length_nil] at this; omega
  have hr : Rd w.heap.size w (some ⟨b, o, none⟩) (flat l) := .inr ⟨b, o, rfl, hb, hc⟩
  have hve0 : ∀ W, Calls Tryz.prog 38 #[netv N na nn nc, .agg #[.int .i64 (loAt (fwdB N.Ls l) 0), .int .i64 (hiAt (fwdB N.Ls l) 0)]] W fun e w' => e = .returned (.int .u8 ((judgeB N.Ls N.low N.high l : Nat) : Int)) ∧ Below W.heap.size W w' := fun W => verdict_any N na nn nc _ _ W
  have hsc0 := fun (W : World) (h1 : RdLs W.heap.size W na N.Ls) (h2 : Rd W.heap.size W (some ⟨b, o, none⟩) (flat l)) => score_bnd N hN na nn nc hnn l hl hle (some ⟨b, o, none⟩) c W h1 h2
  rw [hnf] at hsc0
  obtain ⟨zl, hzl⟩ : ∃ z, loAt (fwdB N.Ls l) 0 = z := ⟨_, rfl⟩
  obtain ⟨zh, hzh⟩ : ∃ z, hiAt (fwdB N.Ls l) 0 = z := ⟨_, rfl⟩
  rw [hzl, hzh] at hve0 hsc0
  obtain ⟨v, hv⟩ : ∃ v, judgeB N.Ls N.low N.high l = v := ⟨_, rfl⟩
  rw [hv] at hve0
  have hvin : v = 1 ∨ v = 2 ∨ v = 3 := by rw [← hv]; exact verdB_in _ _ _ _
  obtain ⟨R, hR⟩ : ∃ R, certN N.Ls N.low N.high s l = R := ⟨_, rfl⟩
  rw [hR]
  have hvH := Lib.hid hv
  have hveH := Lib.hid hve0
  have hRH := Lib.hid hR
  have hNH := Lib.hid hN
  have hnfH := Lib.hid hnf
  have hlnH := Lib.hid hl
  have hllH := Lib.hid hll
  have hleH := Lib.hid hle
  have hIHH := Lib.hid IH
  clear hv hve0 hR hN hnf hl hll hle IH hzl hzh hc
  have hbW1 : Below w.heap.size w (w.alloc (.cells #[.int .i64 N.w, .int .i64 N.h, .int .i64 N.gx, .int .i64 N.gy, .slice na nn nc, .int .i64 N.low, .int .i64 N.high] 47)) := jb_al (Below.refl _ w) _
  have kn := Blk.new w 47 #[.int .i64 N.w, .int .i64 N.h, .int .i64 N.gx, .int .i64 N.gy, .slice na nn nc, .int .i64 N.low, .int .i64 N.high]
  obtain ⟨W1, hEW1⟩ : ∃ X, w.alloc (.cells #[.int .i64 N.w, .int .i64 N.h, .int .i64 N.gx, .int .i64 N.gy, .slice na nn nc, .int .i64 N.low, .int .i64 N.high] 47) = X := ⟨_, rfl⟩
  rw [hEW1] at hbW1 kn
  have hbW2 : Below W1.heap.size W1 (W1.alloc (.cells #[.slice (some ⟨b, o, none⟩) nf c] 102)) := jb_al (Below.refl _ W1) _
  have kl := Blk.new W1 102 #[.slice (some ⟨b, o, none⟩) nf c]
  obtain ⟨W2, hEW2⟩ : ∃ X, W1.alloc (.cells #[.slice (some ⟨b, o, none⟩) nf c] 102) = X := ⟨_, rfl⟩
  rw [hEW2] at hbW2 kl
  have hbW3 : Below W2.heap.size W2 (W2.alloc (.cells #[.int .i64 (s : Int)] 3)) := jb_al (Below.refl _ W2) _
  have ks := Blk.new W2 3 #[.int .i64 (s : Int)]
  obtain ⟨W3, hEW3⟩ : ∃ X, W2.alloc (.cells #[.int .i64 (s : Int)] 3) = X := ⟨_, rfl⟩
  rw [hEW3] at hbW3 ks
  have k0 := (kn.below hbW2 kn.lt).below hbW3 (Nat.lt_of_lt_of_le kn.lt hbW2.size)
  have k1 := kl.below hbW3 kl.lt
  have k2 := ks
  have hB3 : Below w.heap.size w W3 := hbW1.trans ((hbW2.trans (hbW3.mono hbW2.size)).mono hbW1.size)
  have hbB : b < W3.heap.size := Nat.lt_of_lt_of_le hb hB3.size
  have hrnH := Lib.hid (fun (W : World) (hb : Below W3.heap.size W3 W) => later_l (later_l hrn hB3) hb)
  have hrdH := Lib.hid (fun (W : World) (hb : Below W3.heap.size W3 W) => later_i (later_i hr hB3) hb)
  have hscH := Lib.hid (fun (W : World) (hb : Below W3.heap.size W3 W) => hsc0 W (hrnH.out W hb) (hrdH.out W hb))
  clear kn kl ks hbW1 hbW2 hbW3 hrn hr hsc0 hb
  go_enter Tryz.func44, Tryz.ntmps44
  go_wp2_with fail
  have hS : Below W3.heap.size W3 W3.drew := (Below.refl _ _).drew
  refine plain_region (fun W' => Below W3.heap.size W3 W') 6 6 (by kernel_rfl) rfl ?_
  simp only [Array.replicate_succ, Array.replicate_zero, List.push_toArray, List.nil_append, List.cons_append]
  refine take_op 0 (v := ?av0) rfl (by kernel_rfl) (fun _ _ _ h => h) (by rfl) hS (fun w' hS' => ?ay0) ?az0
  case ay0 =>
    have e0 := (k0.below hS' k0.lt).cell (i := 0) rfl
    have e1 := (k0.below hS' k0.lt).cell (i := 1) rfl
    have e2 := (k0.below hS' k0.lt).cell (i := 2) rfl
    have e3 := (k0.below hS' k0.lt).cell (i := 3) rfl
    have e4 := (k0.below hS' k0.lt).cell (i := 4) rfl
    have e5 := (k0.below hS' k0.lt).cell (i := 5) rfl
    have e6 := (k0.below hS' k0.lt).cell (i := 6) rfl
    have e7 := (k1.below hS' k1.lt).cell (i := 0) rfl
    clear hS'
    go_simp
    rfl
  simp only [List.setIfInBounds_toArray, List.set_cons_zero, List.set_cons_succ]
  refine take_op 1 (v := ?av1) rfl (by kernel_rfl) (fun _ _ _ h => h) (by rfl) hS (fun w' hS' => ?ay1) ?az1
  case ay1 =>
    have e0 := (k0.below hS' k0.lt).cell (i := 0) rfl
    have e1 := (k0.below hS' k0.lt).cell (i := 1) rfl
    have e2 := (k0.below hS' k0.lt).cell (i := 2) rfl
    have e3 := (k0.below hS' k0.lt).cell (i := 3) rfl
    have e4 := (k0.below hS' k0.lt).cell (i := 4) rfl
    have e5 := (k0.below hS' k0.lt).cell (i := 5) rfl
    have e6 := (k0.below hS' k0.lt).cell (i := 6) rfl
    have e7 := (k1.below hS' k1.lt).cell (i := 0) rfl
    clear hS'
    go_simp
    rfl
  simp only [List.setIfInBounds_toArray, List.set_cons_zero, List.set_cons_succ]
  refine take_op 2 (v := ?av2) rfl (by kernel_rfl) (fun _ _ _ h => h) (by rfl) hS (fun w' hS' => ?ay2) ?az2
  case ay2 =>
    have e0 := (k0.below hS' k0.lt).cell (i := 0) rfl
    have e1 := (k0.below hS' k0.lt).cell (i := 1) rfl
    have e2 := (k0.below hS' k0.lt).cell (i := 2) rfl
    have e3 := (k0.below hS' k0.lt).cell (i := 3) rfl
    have e4 := (k0.below hS' k0.lt).cell (i := 4) rfl
    have e5 := (k0.below hS' k0.lt).cell (i := 5) rfl
    have e6 := (k0.below hS' k0.lt).cell (i := 6) rfl
    have e7 := (k1.below hS' k1.lt).cell (i := 0) rfl
    clear hS'
    go_simp
    rfl
  simp only [List.setIfInBounds_toArray, List.set_cons_zero, List.set_cons_succ]
  refine step_op 3 (by kernel_rfl) rfl (fun K hK => ?_)
  rw [if_pos (by rfl)]
  go_simp
  refine (hscH.out _ hS).mono ?_
  rintro e V1 ⟨rfl, hbv1⟩
  have hS1 := hS.trans (hbv1.mono hS.size)
  clear hbv1
  refine hK.out _ _ (fun h => hS1) ?_
  clear hK K
  try simp only [Act.put, List.setIfInBounds_toArray, List.set_cons_zero, List.set_cons_succ]
  refine step_op 4 (by kernel_rfl) rfl (fun K hK => ?_)
  rw [if_pos (by rfl)]
  go_simp
  refine (hveH.out V1).mono ?_
  rintro e X1 ⟨rfl, hbv2⟩
  have hS2 := hS1.trans (hbv2.mono hS1.size)
  clear hbv2
  refine hK.out _ _ (fun h => hS2) ?_
  clear hK K
  try simp only [Act.put, List.setIfInBounds_toArray, List.set_cons_zero, List.set_cons_succ]
  refine take_op 5 (v := ?av5) rfl (by kernel_rfl) (fun _ _ _ h => h) (by rfl) hS2 (fun w' hS' => ?ay5) ?az5
  case ay5 =>
    go_simp
    rfl
  simp only [List.setIfInBounds_toArray, List.set_cons_zero, List.set_cons_succ]
  refine done_ops (by kernel_rfl) ?_
  have hbX := hS2
  clear hS hS1 hS2 hscH hveH hEW1 hEW2 hEW3
  have kA0 := Blk.new X1 3 #[.int .i64 0]
  have hbA0 : Below X1.heap.size X1 (X1.alloc (.cells #[.int .i64 0] 3)) := jb_al (Below.refl _ X1) _
  have hx1 := (hbX.trans (hbA0.mono hbX.size))
  have l0 : (X1.alloc (.cells #[.int .i64 0] 3)).cell? ⟨W1.heap.size, 0, none⟩ = some (.slice (some ⟨b, o, none⟩) nf c) := (k1.below hx1 k1.lt).cell (i := 0) rfl
  go_wp2_with fail
  clear l0 hx1
  go_loopw [21] (fun i wr => ∃ k : Nat, k ≤ nf ∧ i = .int .i64 (k : Int) ∧ Blk wr X1.heap.size 3 #[.int .i64 ((wideTo l k : Nat) : Int)] ∧ Below X1.heap.size X1 wr) (fun i _ => nf - (intOf i).toNat)
  case atStart => exact ⟨0, Nat.zero_le _, rfl, kA0, hbA0⟩
  case round =>
    clear kA0 hbA0
    obtain ⟨k, hk, rfl, kA, hbw⟩ := hrel
    have hbr := hbX.trans (hbw.mono hbX.size)
    have hrd := hrdH.out wr hbr
    have htlt := wideTo_lt (l := l) (k := k) (by rw [hllH.out]; omega) (by rw [hllH.out]; exact hk)
    rw [hllH.out] at htlt
    obtain ⟨t, ht⟩ : ∃ t, wideTo l k = t := ⟨_, rfl⟩
    rw [ht] at kA htlt
    rcases hrd with h0 | ⟨b', o', hbo, _, hc⟩
    · have := congrArg List.length h0; rw [flat_length, List.length_nil, hllH.out] at this; omega
    simp only [Option.some.injEq, Addr.mk.injEq, and_true] at hbo
    obtain ⟨rfl, rfl⟩ := hbo
    have hflen : (flat l).length = 2 * nf := by rw [flat_length, hllH.out]
    have ct0 := hc (t * 2) (by omega)
    have ct1 := hc (t * 2 + 1) (by omega)
    rw [flat_lo] at ct0
    rw [flat_hi, ← Nat.add_assoc] at ct1
    have kr1 := k1.below hbr k1.lt
    have hbt := hleH.out t
    obtain ⟨x, hx⟩ : ∃ x, loAt l t = x := ⟨_, rfl⟩
    obtain ⟨y, hy⟩ : ∃ y, hiAt l t = y := ⟨_, rfl⟩
    rw [hx] at ct0 hbt
    rw [hy] at ct1 hbt
    obtain ⟨⟨bx1, bx2⟩, by1, by2⟩ := hbt
    by_cases hlt : k < nf
    case pos =>
      have ck0 := hc (k * 2) (by omega)
      have ck1 := hc (k * 2 + 1) (by omega)
      rw [flat_lo] at ck0
      rw [flat_hi, ← Nat.add_assoc] at ck1
      have hbk := hleH.out k
      obtain ⟨p, hp⟩ : ∃ x, loAt l k = x := ⟨_, rfl⟩
      obtain ⟨q, hq⟩ : ∃ y, hiAt l k = y := ⟨_, rfl⟩
      rw [hp] at ck0 hbk
      rw [hq] at ck1 hbk
      obtain ⟨⟨bp1, bp2⟩, bq1, bq2⟩ := hbk
      have hwn : wideTo l (k + 1) = if y - x < q - p then k else t := by
        have e1 : widthB l t = y - x := by unfold widthB; rw [hx, hy]
        have e2 : widthB l k = q - p := by unfold widthB; rw [hp, hq]
        simp only [wideTo, ht, e1, e2]
      have hwnH := Lib.hid hwn
      have hbZ : Below wr.heap.size wr (wr.alloc (.cells #[.int .i64 p, .int .i64 q] 88)) := jb_al (Below.refl _ wr) _
      have kz := Blk.new wr 88 #[.int .i64 p, .int .i64 q]
      obtain ⟨Z, hEZ⟩ : ∃ X, wr.alloc (.cells #[.int .i64 p, .int .i64 q] 88) = X := ⟨_, rfl⟩
      rw [hEZ] at hbZ kz
      have z0 : Z.cell? ⟨wr.heap.size, 0, none⟩ = some (.int .i64 p) := kz.cell (i := 0) rfl
      have z1 : Z.cell? ⟨wr.heap.size, 1, none⟩ = some (.int .i64 q) := kz.cell (i := 1) rfl
      have kA2 := kA.below hbZ kA.lt
      have z2 : Z.cell? ⟨W1.heap.size, 0, none⟩ = some (.slice (some ⟨b, o, none⟩) nf c) := (kr1.below hbZ kr1.lt).cell (i := 0) rfl
      have z3 : Z.cell? ⟨X1.heap.size, 0, none⟩ = some (.int .i64 (t : Int)) := kA2.cell (i := 0) rfl
      have hbbr : b < wr.heap.size := Nat.lt_of_lt_of_le hbB hbr.size
      have z4 := (hbZ.cell (p := ⟨b, o + t * 2, none⟩) hbbr).trans ct0
      have z5 := (hbZ.cell (p := ⟨b, o + t * 2 + 1, none⟩) hbbr).trans ct1
      have hbz := hbw.trans (hbZ.mono hbw.size)
      have hS0 : Z.drew.heap = Z.heap := rfl
      have kA2d : Blk Z.drew X1.heap.size 3 #[.int .i64 (t : Int)] := kA2
      have fA := kA2d.frozen 0
      have cA := kA2d.cell (i := 0) rfl
      clear hc hwn hp hq ht hx hy ct0 ct1 kr1 kz kA kA2
      by_cases hd : y - x < q - p
      case pos =>
        have ed : decide (y - x < q - p) = true := decide_eq_true hd
        go_wp2_with fail
        refine plain_region (fun W' => W'.heap = Z.heap) 17 17 (by kernel_rfl) rfl ?_
        simp only [Array.replicate_succ, Array.replicate_zero, List.push_toArray, List.nil_append, List.cons_append]
        refine take_op 0 (v := ?bv0) rfl (by kernel_rfl) (fun _ _ _ h => h) (by rfl) hS0 (fun w' hS' => ?by0) ?bz0
        case by0 =>
          go_simp
          try go_ints
          first
          | rfl
          | (rw [if_pos (by omega)]; done)
          | rw [if_pos ⟨by omega, by omega⟩]
        simp only [List.setIfInBounds_toArray, List.set_cons_zero, List.set_cons_succ]
        refine take_op 1 (v := ?bv1) rfl (by kernel_rfl) (fun _ _ _ h => h) (by rfl) hS0 (fun w' hS' => ?by1) ?bz1
        case by1 =>
          have e0 := (World.cell?_of_block (w := Z) (w' := w') (a := ⟨wr.heap.size, 1, none⟩) (by rw [hS'])).trans z1
          have e1 := (World.cell?_of_block (w := Z) (w' := w') (a := ⟨wr.heap.size, 0, none⟩) (by rw [hS'])).trans z0
          have e2 := (World.cell?_of_block (w := Z) (w' := w') (a := ⟨W1.heap.size, 0, none⟩) (by rw [hS'])).trans z2
          have e3 := (World.cell?_of_block (w := Z) (w' := w') (a := ⟨X1.heap.size, 0, none⟩) (by rw [hS'])).trans z3
          have e4 := (World.cell?_of_block (w := Z) (w' := w') (a := ⟨b, o + t * 2, none⟩) (by rw [hS'])).trans z4
          have e5 := (World.cell?_of_block (w := Z) (w' := w') (a := ⟨b, o + t * 2 + 1, none⟩) (by rw [hS'])).trans z5
          clear hS'
          go_simp
          rfl
        simp only [List.setIfInBounds_toArray, List.set_cons_zero, List.set_cons_succ]
        refine take_op 2 (v := ?bv2) rfl (by kernel_rfl) (fun _ _ _ h => h) (by rfl) hS0 (fun w' hS' => ?by2) ?bz2
        case by2 =>
          go_simp
          try go_ints
          first
          | rfl
          | (rw [if_pos (by omega)]; done)
          | rw [if_pos ⟨by omega, by omega⟩]
        simp only [List.setIfInBounds_toArray, List.set_cons_zero, List.set_cons_succ]
        refine take_op 3 (v := ?bv3) rfl (by kernel_rfl) (fun _ _ _ h => h) (by rfl) hS0 (fun w' hS' => ?by3) ?bz3
        case by3 =>
          have e0 := (World.cell?_of_block (w := Z) (w' := w') (a := ⟨wr.heap.size, 1, none⟩) (by rw [hS'])).trans z1
          have e1 := (World.cell?_of_block (w := Z) (w' := w') (a := ⟨wr.heap.size, 0, none⟩) (by rw [hS'])).trans z0
          have e2 := (World.cell?_of_block (w := Z) (w' := w') (a := ⟨W1.heap.size, 0, none⟩) (by rw [hS'])).trans z2
          have e3 := (World.cell?_of_block (w := Z) (w' := w') (a := ⟨X1.heap.size, 0, none⟩) (by rw [hS'])).trans z3
          have e4 := (World.cell?_of_block (w := Z) (w' := w') (a := ⟨b, o + t * 2, none⟩) (by rw [hS'])).trans z4
          have e5 := (World.cell?_of_block (w := Z) (w' := w') (a := ⟨b, o + t * 2 + 1, none⟩) (by rw [hS'])).trans z5
          clear hS'
          go_simp
          rfl
        simp only [List.setIfInBounds_toArray, List.set_cons_zero, List.set_cons_succ]
        refine take_op 4 (v := ?bv4) rfl (by kernel_rfl) (fun _ _ _ h => h) (by rfl) hS0 (fun w' hS' => ?by4) ?bz4
        case by4 =>
          go_simp
          try go_ints
          rfl
        simp only [List.setIfInBounds_toArray, List.set_cons_zero, List.set_cons_succ]
        refine take_op 5 (v := ?bv5) rfl (by kernel_rfl) (fun _ _ _ h => h) (by rfl) hS0 (fun w' hS' => ?by5) ?bz5
        case by5 =>
          have e0 := (World.cell?_of_block (w := Z) (w' := w') (a := ⟨wr.heap.size, 1, none⟩) (by rw [hS'])).trans z1
          have e1 := (World.cell?_of_block (w := Z) (w' := w') (a := ⟨wr.heap.size, 0, none⟩) (by rw [hS'])).trans z0
          have e2 := (World.cell?_of_block (w := Z) (w' := w') (a := ⟨W1.heap.size, 0, none⟩) (by rw [hS'])).trans z2
          have e3 := (World.cell?_of_block (w := Z) (w' := w') (a := ⟨X1.heap.size, 0, none⟩) (by rw [hS'])).trans z3
          have e4 := (World.cell?_of_block (w := Z) (w' := w') (a := ⟨b, o + t * 2, none⟩) (by rw [hS'])).trans z4
          have e5 := (World.cell?_of_block (w := Z) (w' := w') (a := ⟨b, o + t * 2 + 1, none⟩) (by rw [hS'])).trans z5
          clear hS'
          go_simp
          rfl
        simp only [List.setIfInBounds_toArray, List.set_cons_zero, List.set_cons_succ]
        refine take_op 6 (v := ?bv6) rfl (by kernel_rfl) (fun _ _ _ h => h) (by rfl) hS0 (fun w' hS' => ?by6) ?bz6
        case by6 =>
          have e0 := (World.cell?_of_block (w := Z) (w' := w') (a := ⟨wr.heap.size, 1, none⟩) (by rw [hS'])).trans z1
          have e1 := (World.cell?_of_block (w := Z) (w' := w') (a := ⟨wr.heap.size, 0, none⟩) (by rw [hS'])).trans z0
          have e2 := (World.cell?_of_block (w := Z) (w' := w') (a := ⟨W1.heap.size, 0, none⟩) (by rw [hS'])).trans z2
          have e3 := (World.cell?_of_block (w := Z) (w' := w') (a := ⟨X1.heap.size, 0, none⟩) (by rw [hS'])).trans z3
          have e4 := (World.cell?_of_block (w := Z) (w' := w') (a := ⟨b, o + t * 2, none⟩) (by rw [hS'])).trans z4
          have e5 := (World.cell?_of_block (w := Z) (w' := w') (a := ⟨b, o + t * 2 + 1, none⟩) (by rw [hS'])).trans z5
          clear hS'
          go_simp
          rfl
        simp only [List.setIfInBounds_toArray, List.set_cons_zero, List.set_cons_succ]
        refine take_op 7 (v := ?bv7) rfl (by kernel_rfl) (fun _ _ _ h => h) (by rfl) hS0 (fun w' hS' => ?by7) ?bz7
        case by7 =>
          go_simp
          try go_ints
          first
          | rfl
          | (rw [if_pos (by omega)]; done)
          | rw [if_pos ⟨by omega, by omega⟩]
        simp only [List.setIfInBounds_toArray, List.set_cons_zero, List.set_cons_succ]
        refine take_op 8 (v := ?bv8) rfl (by kernel_rfl) (fun _ _ _ h => h) (by rfl) hS0 (fun w' hS' => ?by8) ?bz8
        case by8 =>
          go_simp
          try go_ints
          first
          | rfl
          | (rw [if_pos (by omega)]; done)
          | rw [if_pos ⟨by omega, by omega⟩]
        simp only [List.setIfInBounds_toArray, List.set_cons_zero, List.set_cons_succ]
        refine take_op 9 (v := ?bv9) rfl (by kernel_rfl) (fun _ _ _ h => h) (by rfl) hS0 (fun w' hS' => ?by9) ?bz9
        case by9 =>
          have e0 := (World.cell?_of_block (w := Z) (w' := w') (a := ⟨wr.heap.size, 1, none⟩) (by rw [hS'])).trans z1
          have e1 := (World.cell?_of_block (w := Z) (w' := w') (a := ⟨wr.heap.size, 0, none⟩) (by rw [hS'])).trans z0
          have e2 := (World.cell?_of_block (w := Z) (w' := w') (a := ⟨W1.heap.size, 0, none⟩) (by rw [hS'])).trans z2
          have e3 := (World.cell?_of_block (w := Z) (w' := w') (a := ⟨X1.heap.size, 0, none⟩) (by rw [hS'])).trans z3
          have e4 := (World.cell?_of_block (w := Z) (w' := w') (a := ⟨b, o + t * 2, none⟩) (by rw [hS'])).trans z4
          have e5 := (World.cell?_of_block (w := Z) (w' := w') (a := ⟨b, o + t * 2 + 1, none⟩) (by rw [hS'])).trans z5
          clear hS'
          go_simp
          rfl
        simp only [List.setIfInBounds_toArray, List.set_cons_zero, List.set_cons_succ]
        refine take_op 10 (v := ?bv10) rfl (by kernel_rfl) (fun _ _ _ h => h) (by rfl) hS0 (fun w' hS' => ?by10) ?bz10
        case by10 =>
          have e0 := (World.cell?_of_block (w := Z) (w' := w') (a := ⟨wr.heap.size, 1, none⟩) (by rw [hS'])).trans z1
          have e1 := (World.cell?_of_block (w := Z) (w' := w') (a := ⟨wr.heap.size, 0, none⟩) (by rw [hS'])).trans z0
          have e2 := (World.cell?_of_block (w := Z) (w' := w') (a := ⟨W1.heap.size, 0, none⟩) (by rw [hS'])).trans z2
          have e3 := (World.cell?_of_block (w := Z) (w' := w') (a := ⟨X1.heap.size, 0, none⟩) (by rw [hS'])).trans z3
          have e4 := (World.cell?_of_block (w := Z) (w' := w') (a := ⟨b, o + t * 2, none⟩) (by rw [hS'])).trans z4
          have e5 := (World.cell?_of_block (w := Z) (w' := w') (a := ⟨b, o + t * 2 + 1, none⟩) (by rw [hS'])).trans z5
          clear hS'
          go_simp
          rfl
        simp only [List.setIfInBounds_toArray, List.set_cons_zero, List.set_cons_succ]
        refine take_op 11 (v := ?bv11) rfl (by kernel_rfl) (fun _ _ _ h => h) (by rfl) hS0 (fun w' hS' => ?by11) ?bz11
        case by11 =>
          have e0 := (World.cell?_of_block (w := Z) (w' := w') (a := ⟨wr.heap.size, 1, none⟩) (by rw [hS'])).trans z1
          have e1 := (World.cell?_of_block (w := Z) (w' := w') (a := ⟨wr.heap.size, 0, none⟩) (by rw [hS'])).trans z0
          have e2 := (World.cell?_of_block (w := Z) (w' := w') (a := ⟨W1.heap.size, 0, none⟩) (by rw [hS'])).trans z2
          have e3 := (World.cell?_of_block (w := Z) (w' := w') (a := ⟨X1.heap.size, 0, none⟩) (by rw [hS'])).trans z3
          have e4 := (World.cell?_of_block (w := Z) (w' := w') (a := ⟨b, o + t * 2, none⟩) (by rw [hS'])).trans z4
          have e5 := (World.cell?_of_block (w := Z) (w' := w') (a := ⟨b, o + t * 2 + 1, none⟩) (by rw [hS'])).trans z5
          clear hS'
          go_simp
          rfl
        simp only [List.setIfInBounds_toArray, List.set_cons_zero, List.set_cons_succ]
        refine take_op 12 (v := ?bv12) rfl (by kernel_rfl) (fun _ _ _ h => h) (by rfl) hS0 (fun w' hS' => ?by12) ?bz12
        case by12 =>
          go_simp
          try go_ints
          first
          | rfl
          | (rw [if_pos (by omega)]; done)
          | rw [if_pos ⟨by omega, by omega⟩]
        simp only [List.setIfInBounds_toArray, List.set_cons_zero, List.set_cons_succ]
        refine take_op 13 (v := ?bv13) rfl (by kernel_rfl) (fun _ _ _ h => h) (by rfl) hS0 (fun w' hS' => ?by13) ?bz13
        case by13 =>
          go_simp
          try go_ints
          first
          | rfl
          | (rw [if_pos (by omega)]; done)
          | rw [if_pos ⟨by omega, by omega⟩]
        simp only [List.setIfInBounds_toArray, List.set_cons_zero, List.set_cons_succ]
        refine take_op 14 (v := ?bv14) rfl (by kernel_rfl) (fun _ _ _ h => h) (by rfl) hS0 (fun w' hS' => ?by14) ?bz14
        case by14 =>
          have e0 := (World.cell?_of_block (w := Z) (w' := w') (a := ⟨wr.heap.size, 1, none⟩) (by rw [hS'])).trans z1
          have e1 := (World.cell?_of_block (w := Z) (w' := w') (a := ⟨wr.heap.size, 0, none⟩) (by rw [hS'])).trans z0
          have e2 := (World.cell?_of_block (w := Z) (w' := w') (a := ⟨W1.heap.size, 0, none⟩) (by rw [hS'])).trans z2
          have e3 := (World.cell?_of_block (w := Z) (w' := w') (a := ⟨X1.heap.size, 0, none⟩) (by rw [hS'])).trans z3
          have e4 := (World.cell?_of_block (w := Z) (w' := w') (a := ⟨b, o + t * 2, none⟩) (by rw [hS'])).trans z4
          have e5 := (World.cell?_of_block (w := Z) (w' := w') (a := ⟨b, o + t * 2 + 1, none⟩) (by rw [hS'])).trans z5
          clear hS'
          go_simp
          rfl
        simp only [List.setIfInBounds_toArray, List.set_cons_zero, List.set_cons_succ]
        refine take_op 15 (v := ?bv15) rfl (by kernel_rfl) (fun _ _ _ h => h) (by rfl) hS0 (fun w' hS' => ?by15) ?bz15
        case by15 =>
          go_simp
          try go_ints
          rfl
        simp only [List.setIfInBounds_toArray, List.set_cons_zero, List.set_cons_succ]
        refine take_op 16 (v := .bool true) rfl (by kernel_rfl) (fun _ _ _ h => h) (by rfl) hS0 (fun w' hS' => ?by16) ?bz16
        case by16 =>
          clear hS'
          go_simp
          try simp only [ed]
          try rfl
          try omega
        simp only [List.setIfInBounds_toArray, List.set_cons_zero, List.set_cons_succ]
        refine done_ops (by kernel_rfl) ?_
        clear ck0 ck1 z0 z1 z2 z3 z4 z5 hS0
        go_wp2_with fail
        go_roundw
        case rel => exact ⟨k + 1, by omega, by go_num, by rw [hwnH.out, if_pos hd]; exact kA2d.set 0 (.int .i64 (k : Int)), (hbz.drew).setCell (p := ⟨X1.heap.size, 0, none⟩) (Nat.le_refl _) _⟩
        case measure => simp [intOf]; omega
      case neg =>
        have ed : decide (y - x < q - p) = false := decide_eq_false hd
        go_wp2_with fail
        refine plain_region (fun W' => W'.heap = Z.heap) 17 17 (by kernel_rfl) rfl ?_
        simp only [Array.replicate_succ, Array.replicate_zero, List.push_toArray, List.nil_append, List.cons_append]
        refine take_op 0 (v := ?dv0) rfl (by kernel_rfl) (fun _ _ _ h => h) (by rfl) hS0 (fun w' hS' => ?dy0) ?dz0
        case dy0 =>
          go_simp
          try go_ints
          first
          | rfl
          | (rw [if_pos (by omega)]; done)
          | rw [if_pos ⟨by omega, by omega⟩]
        simp only [List.setIfInBounds_toArray, List.set_cons_zero, List.set_cons_succ]
        refine take_op 1 (v := ?dv1) rfl (by kernel_rfl) (fun _ _ _ h => h) (by rfl) hS0 (fun w' hS' => ?dy1) ?dz1
        case dy1 =>
          have e0 := (World.cell?_of_block (w := Z) (w' := w') (a := ⟨wr.heap.size, 1, none⟩) (by rw [hS'])).trans z1
          have e1 := (World.cell?_of_block (w := Z) (w' := w') (a := ⟨wr.heap.size, 0, none⟩) (by rw [hS'])).trans z0
          have e2 := (World.cell?_of_block (w := Z) (w' := w') (a := ⟨W1.heap.size, 0, none⟩) (by rw [hS'])).trans z2
          have e3 := (World.cell?_of_block (w := Z) (w' := w') (a := ⟨X1.heap.size, 0, none⟩) (by rw [hS'])).trans z3
          have e4 := (World.cell?_of_block (w := Z) (w' := w') (a := ⟨b, o + t * 2, none⟩) (by rw [hS'])).trans z4
          have e5 := (World.cell?_of_block (w := Z) (w' := w') (a := ⟨b, o + t * 2 + 1, none⟩) (by rw [hS'])).trans z5
          clear hS'
          go_simp
          rfl
        simp only [List.setIfInBounds_toArray, List.set_cons_zero, List.set_cons_succ]
        refine take_op 2 (v := ?dv2) rfl (by kernel_rfl) (fun _ _ _ h => h) (by rfl) hS0 (fun w' hS' => ?dy2) ?dz2
        case dy2 =>
          go_simp
          try go_ints
          first
          | rfl
          | (rw [if_pos (by omega)]; done)
          | rw [if_pos ⟨by omega, by omega⟩]
        simp only [List.setIfInBounds_toArray, List.set_cons_zero, List.set_cons_succ]
        refine take_op 3 (v := ?dv3) rfl (by kernel_rfl) (fun _ _ _ h => h) (by rfl) hS0 (fun w' hS' => ?dy3) ?dz3
        case dy3 =>
          have e0 := (World.cell?_of_block (w := Z) (w' := w') (a := ⟨wr.heap.size, 1, none⟩) (by rw [hS'])).trans z1
          have e1 := (World.cell?_of_block (w := Z) (w' := w') (a := ⟨wr.heap.size, 0, none⟩) (by rw [hS'])).trans z0
          have e2 := (World.cell?_of_block (w := Z) (w' := w') (a := ⟨W1.heap.size, 0, none⟩) (by rw [hS'])).trans z2
          have e3 := (World.cell?_of_block (w := Z) (w' := w') (a := ⟨X1.heap.size, 0, none⟩) (by rw [hS'])).trans z3
          have e4 := (World.cell?_of_block (w := Z) (w' := w') (a := ⟨b, o + t * 2, none⟩) (by rw [hS'])).trans z4
          have e5 := (World.cell?_of_block (w := Z) (w' := w') (a := ⟨b, o + t * 2 + 1, none⟩) (by rw [hS'])).trans z5
          clear hS'
          go_simp
          rfl
        simp only [List.setIfInBounds_toArray, List.set_cons_zero, List.set_cons_succ]
        refine take_op 4 (v := ?dv4) rfl (by kernel_rfl) (fun _ _ _ h => h) (by rfl) hS0 (fun w' hS' => ?dy4) ?dz4
        case dy4 =>
          go_simp
          try go_ints
          rfl
        simp only [List.setIfInBounds_toArray, List.set_cons_zero, List.set_cons_succ]
        refine take_op 5 (v := ?dv5) rfl (by kernel_rfl) (fun _ _ _ h => h) (by rfl) hS0 (fun w' hS' => ?dy5) ?dz5
        case dy5 =>
          have e0 := (World.cell?_of_block (w := Z) (w' := w') (a := ⟨wr.heap.size, 1, none⟩) (by rw [hS'])).trans z1
          have e1 := (World.cell?_of_block (w := Z) (w' := w') (a := ⟨wr.heap.size, 0, none⟩) (by rw [hS'])).trans z0
          have e2 := (World.cell?_of_block (w := Z) (w' := w') (a := ⟨W1.heap.size, 0, none⟩) (by rw [hS'])).trans z2
          have e3 := (World.cell?_of_block (w := Z) (w' := w') (a := ⟨X1.heap.size, 0, none⟩) (by rw [hS'])).trans z3
          have e4 := (World.cell?_of_block (w := Z) (w' := w') (a := ⟨b, o + t * 2, none⟩) (by rw [hS'])).trans z4
          have e5 := (World.cell?_of_block (w := Z) (w' := w') (a := ⟨b, o + t * 2 + 1, none⟩) (by rw [hS'])).trans z5
          clear hS'
          go_simp
          rfl
        simp only [List.setIfInBounds_toArray, List.set_cons_zero, List.set_cons_succ]
        refine take_op 6 (v := ?dv6) rfl (by kernel_rfl) (fun _ _ _ h => h) (by rfl) hS0 (fun w' hS' => ?dy6) ?dz6
        case dy6 =>
          have e0 := (World.cell?_of_block (w := Z) (w' := w') (a := ⟨wr.heap.size, 1, none⟩) (by rw [hS'])).trans z1
          have e1 := (World.cell?_of_block (w := Z) (w' := w') (a := ⟨wr.heap.size, 0, none⟩) (by rw [hS'])).trans z0
          have e2 := (World.cell?_of_block (w := Z) (w' := w') (a := ⟨W1.heap.size, 0, none⟩) (by rw [hS'])).trans z2
          have e3 := (World.cell?_of_block (w := Z) (w' := w') (a := ⟨X1.heap.size, 0, none⟩) (by rw [hS'])).trans z3
          have e4 := (World.cell?_of_block (w := Z) (w' := w') (a := ⟨b, o + t * 2, none⟩) (by rw [hS'])).trans z4
          have e5 := (World.cell?_of_block (w := Z) (w' := w') (a := ⟨b, o + t * 2 + 1, none⟩) (by rw [hS'])).trans z5
          clear hS'
          go_simp
          rfl
        simp only [List.setIfInBounds_toArray, List.set_cons_zero, List.set_cons_succ]
        refine take_op 7 (v := ?dv7) rfl (by kernel_rfl) (fun _ _ _ h => h) (by rfl) hS0 (fun w' hS' => ?dy7) ?dz7
        case dy7 =>
          go_simp
          try go_ints
          first
          | rfl
          | (rw [if_pos (by omega)]; done)
          | rw [if_pos ⟨by omega, by omega⟩]
        simp only [List.setIfInBounds_toArray, List.set_cons_zero, List.set_cons_succ]
        refine take_op 8 (v := ?dv8) rfl (by kernel_rfl) (fun _ _ _ h => h) (by rfl) hS0 (fun w' hS' => ?dy8) ?dz8
        case dy8 =>
          go_simp
          try go_ints
          first
          | rfl
          | (rw [if_pos (by omega)]; done)
          | rw [if_pos ⟨by omega, by omega⟩]
        simp only [List.setIfInBounds_toArray, List.set_cons_zero, List.set_cons_succ]
        refine take_op 9 (v := ?dv9) rfl (by kernel_rfl) (fun _ _ _ h => h) (by rfl) hS0 (fun w' hS' => ?dy9) ?dz9
        case dy9 =>
          have e0 := (World.cell?_of_block (w := Z) (w' := w') (a := ⟨wr.heap.size, 1, none⟩) (by rw [hS'])).trans z1
          have e1 := (World.cell?_of_block (w := Z) (w' := w') (a := ⟨wr.heap.size, 0, none⟩) (by rw [hS'])).trans z0
          have e2 := (World.cell?_of_block (w := Z) (w' := w') (a := ⟨W1.heap.size, 0, none⟩) (by rw [hS'])).trans z2
          have e3 := (World.cell?_of_block (w := Z) (w' := w') (a := ⟨X1.heap.size, 0, none⟩) (by rw [hS'])).trans z3
          have e4 := (World.cell?_of_block (w := Z) (w' := w') (a := ⟨b, o + t * 2, none⟩) (by rw [hS'])).trans z4
          have e5 := (World.cell?_of_block (w := Z) (w' := w') (a := ⟨b, o + t * 2 + 1, none⟩) (by rw [hS'])).trans z5
          clear hS'
          go_simp
          rfl
        simp only [List.setIfInBounds_toArray, List.set_cons_zero, List.set_cons_succ]
        refine take_op 10 (v := ?dv10) rfl (by kernel_rfl) (fun _ _ _ h => h) (by rfl) hS0 (fun w' hS' => ?dy10) ?dz10
        case dy10 =>
          have e0 := (World.cell?_of_block (w := Z) (w' := w') (a := ⟨wr.heap.size, 1, none⟩) (by rw [hS'])).trans z1
          have e1 := (World.cell?_of_block (w := Z) (w' := w') (a := ⟨wr.heap.size, 0, none⟩) (by rw [hS'])).trans z0
          have e2 := (World.cell?_of_block (w := Z) (w' := w') (a := ⟨W1.heap.size, 0, none⟩) (by rw [hS'])).trans z2
          have e3 := (World.cell?_of_block (w := Z) (w' := w') (a := ⟨X1.heap.size, 0, none⟩) (by rw [hS'])).trans z3
          have e4 := (World.cell?_of_block (w := Z) (w' := w') (a := ⟨b, o + t * 2, none⟩) (by rw [hS'])).trans z4
          have e5 := (World.cell?_of_block (w := Z) (w' := w') (a := ⟨b, o + t * 2 + 1, none⟩) (by rw [hS'])).trans z5
          clear hS'
          go_simp
          rfl
        simp only [List.setIfInBounds_toArray, List.set_cons_zero, List.set_cons_succ]
        refine take_op 11 (v := ?dv11) rfl (by kernel_rfl) (fun _ _ _ h => h) (by rfl) hS0 (fun w' hS' => ?dy11) ?dz11
        case dy11 =>
          have e0 := (World.cell?_of_block (w := Z) (w' := w') (a := ⟨wr.heap.size, 1, none⟩) (by rw [hS'])).trans z1
          have e1 := (World.cell?_of_block (w := Z) (w' := w') (a := ⟨wr.heap.size, 0, none⟩) (by rw [hS'])).trans z0
          have e2 := (World.cell?_of_block (w := Z) (w' := w') (a := ⟨W1.heap.size, 0, none⟩) (by rw [hS'])).trans z2
          have e3 := (World.cell?_of_block (w := Z) (w' := w') (a := ⟨X1.heap.size, 0, none⟩) (by rw [hS'])).trans z3
          have e4 := (World.cell?_of_block (w := Z) (w' := w') (a := ⟨b, o + t * 2, none⟩) (by rw [hS'])).trans z4
          have e5 := (World.cell?_of_block (w := Z) (w' := w') (a := ⟨b, o + t * 2 + 1, none⟩) (by rw [hS'])).trans z5
          clear hS'
          go_simp
          rfl
        simp only [List.setIfInBounds_toArray, List.set_cons_zero, List.set_cons_succ]
        refine take_op 12 (v := ?dv12) rfl (by kernel_rfl) (fun _ _ _ h => h) (by rfl) hS0 (fun w' hS' => ?dy12) ?dz12
        case dy12 =>
          go_simp
          try go_ints
          first
          | rfl
          | (rw [if_pos (by omega)]; done)
          | rw [if_pos ⟨by omega, by omega⟩]
        simp only [List.setIfInBounds_toArray, List.set_cons_zero, List.set_cons_succ]
        refine take_op 13 (v := ?dv13) rfl (by kernel_rfl) (fun _ _ _ h => h) (by rfl) hS0 (fun w' hS' => ?dy13) ?dz13
        case dy13 =>
          go_simp
          try go_ints
          first
          | rfl
          | (rw [if_pos (by omega)]; done)
          | rw [if_pos ⟨by omega, by omega⟩]
        simp only [List.setIfInBounds_toArray, List.set_cons_zero, List.set_cons_succ]
        refine take_op 14 (v := ?dv14) rfl (by kernel_rfl) (fun _ _ _ h => h) (by rfl) hS0 (fun w' hS' => ?dy14) ?dz14
        case dy14 =>
          have e0 := (World.cell?_of_block (w := Z) (w' := w') (a := ⟨wr.heap.size, 1, none⟩) (by rw [hS'])).trans z1
          have e1 := (World.cell?_of_block (w := Z) (w' := w') (a := ⟨wr.heap.size, 0, none⟩) (by rw [hS'])).trans z0
          have e2 := (World.cell?_of_block (w := Z) (w' := w') (a := ⟨W1.heap.size, 0, none⟩) (by rw [hS'])).trans z2
          have e3 := (World.cell?_of_block (w := Z) (w' := w') (a := ⟨X1.heap.size, 0, none⟩) (by rw [hS'])).trans z3
          have e4 := (World.cell?_of_block (w := Z) (w' := w') (a := ⟨b, o + t * 2, none⟩) (by rw [hS'])).trans z4
          have e5 := (World.cell?_of_block (w := Z) (w' := w') (a := ⟨b, o + t * 2 + 1, none⟩) (by rw [hS'])).trans z5
          clear hS'
          go_simp
          rfl
        simp only [List.setIfInBounds_toArray, List.set_cons_zero, List.set_cons_succ]
        refine take_op 15 (v := ?dv15) rfl (by kernel_rfl) (fun _ _ _ h => h) (by rfl) hS0 (fun w' hS' => ?dy15) ?dz15
        case dy15 =>
          go_simp
          try go_ints
          rfl
        simp only [List.setIfInBounds_toArray, List.set_cons_zero, List.set_cons_succ]
        refine take_op 16 (v := .bool false) rfl (by kernel_rfl) (fun _ _ _ h => h) (by rfl) hS0 (fun w' hS' => ?dy16) ?dz16
        case dy16 =>
          clear hS'
          go_simp
          try simp only [ed]
          try rfl
          try omega
        simp only [List.setIfInBounds_toArray, List.set_cons_zero, List.set_cons_succ]
        refine done_ops (by kernel_rfl) ?_
        clear ck0 ck1 z0 z1 z2 z3 z4 z5 hS0
        go_wp2_with fail
        go_roundw
        case rel => exact ⟨k + 1, by omega, by go_num, by rw [hwnH.out, if_neg (by omega)]; exact kA2d, hbz.drew⟩
        case measure => simp [intOf]; omega
    case neg =>
      have hkn : k = nf := by omega
      subst hkn
      have htw : wideB l = t := by unfold wideB; rw [hllH.out]; exact ht
      have l1 : wr.cell? ⟨W1.heap.size, 0, none⟩ = some (.slice (some ⟨b, o, none⟩) k c) := kr1.cell (i := 0) rfl
      have a1 : wr.cell? ⟨X1.heap.size, 0, none⟩ = some (.int .i64 (t : Int)) := kA.cell (i := 0) rfl
      have kS := k2.below hbr k2.lt
      have hbY : Below wr.heap.size wr (wr.alloc (.cells #[.int .i64 x, .int .i64 y] 88)) := jb_al (Below.refl _ wr) _
      have ky := Blk.new wr 88 #[.int .i64 x, .int .i64 y]
      obtain ⟨Y, hEY⟩ : ∃ X, wr.alloc (.cells #[.int .i64 x, .int .i64 y] 88) = X := ⟨_, rfl⟩
      rw [hEY] at hbY ky
      have y0 : Y.cell? ⟨wr.heap.size, 0, none⟩ = some (.int .i64 x) := ky.cell (i := 0) rfl
      have y1 : Y.cell? ⟨wr.heap.size, 1, none⟩ = some (.int .i64 y) := ky.cell (i := 1) rfl
      have s0 : Y.cell? ⟨W2.heap.size, 0, none⟩ = some (.int .i64 (s : Int)) := (kS.below hbY kS.lt).cell (i := 0) rfl
      have hbYr := hbr.trans (hbY.mono hbr.size)
      have kAY := Lib.hid (kA.below hbY kA.lt)
      have kyH := Lib.hid ky
      have hfin : ∀ W, Below W3.heap.size W3 W → Below w.heap.size w W := fun W hb => hB3.trans (hb.mono hB3.size)
      have hfinH := Lib.hid hfin
      have hcw : (loAt l (wideB l) = hiAt l (wideB l)) = (x = y) := by rw [htw, hx, hy]
      have hcwH := Lib.hid hcw
      have hleft : leftB l = l.set t (x, (x + y).tdiv 2) := by unfold leftB midB; rw [htw, hx, hy]
      have hright : rightB l = l.set t ((x + y).tdiv 2 + 1, y) := by unfold rightB midB; rw [htw, hx, hy]
      have hleftH := Lib.hid hleft
      have hrightH := Lib.hid hright
      clear hc kr1 kA hx hy ht htw hflen hlt kS ky hfin hcw hleft hright
      by_cases hv3 : v = 3
      case neg =>
        have hRv : R = v := by rw [← hRH.out, ← hvH.out]; exact certN_judged (by rw [hvH.out]; exact hv3) s
        subst hRv
        have d1 : ((R : Int) != (3 : Int)) = true := by simp; omega
        have d2 : ¬ ((R : Int) = (3 : Int)) := by omega
        go_wp2_with fail
        go_ret
        exact ⟨rfl, hfinH.out _ hbYr⟩
      subst hv3
      cases s with
      | zero =>
        have hRv : R = 3 := by rw [← hRH.out, ← hvH.out]; rfl
        subst hRv
        go_wp2_with fail
        go_ret
        exact ⟨rfl, hfinH.out _ hbYr⟩
      | succ s' =>
        rw [Int.natCast_succ] at s0 k2
        by_cases hxy : x = y
        case pos =>
          have hRv : R = 3 := by rw [← hRH.out, certN, if_pos (.inr (by rw [hcwH.out]; exact hxy)), hvH.out]
          subst hRv
          subst hxy
          have d3 : ((s' : Int) + 1 == (0 : Int)) = false := by simp; omega
          have d4 : ¬ ((s' : Int) + 1 = 0) := by omega
          go_wp2_with fail
          go_ret
          exact ⟨rfl, hfinH.out _ hbYr⟩
        case neg =>
        obtain ⟨m, hm⟩ : ∃ m, (x + y).tdiv 2 = m := ⟨_, rfl⟩
        obtain ⟨m1, m2, m3, m4⟩ := mid_bd hm ⟨bx1, bx2⟩ ⟨by1, by2⟩ hxy
        have hhalf := fun (lo hi : Int) (hlo : -65280 ≤ lo ∧ lo ≤ 65280) (hhi : -65280 ≤ hi ∧ hi ≤ 65280) (W : World) (hb : Below W3.heap.size W3 W) (kA : Blk W X1.heap.size 3 #[.int .i64 (t : Int)]) =>
          half_any N hNH.out na nn nc s' (by omega) (hIHH.out s' rfl) l hlnH.out hleH.out t (by rw [hnfH.out]; exact htlt) lo hi hlo hhi b o c W1.heap.size X1.heap.size w.heap.size W2.heap.size W (by rw [hnfH.out]; exact k1.below hb k1.lt) kA (k0.below hb k0.lt) (k2.below hb k2.lt) (hrdH.out W hb) (hrnH.out W hb)
        have ha1 := hhalf x m ⟨bx1, bx2⟩ ⟨m1, m2⟩
        have ha2 := hhalf (m + 1) y ⟨m3, m4⟩ ⟨by1, by2⟩
        have hRc : R = if certN N.Ls N.low N.high s' (l.set t (x, m)) ≠ 3 ∧ certN N.Ls N.low N.high s' (l.set t (m + 1, y)) ≠ certN N.Ls N.low N.high s' (l.set t (x, m)) then 3 else certN N.Ls N.low N.high s' (l.set t (x, m)) := by
          rw [← hRH.out, certN, if_neg (by rw [hcwH.out, hvH.out]; simp; exact hxy), hleftH.out, hrightH.out, hm]
        have hzin1 := certN_in N.Ls N.low N.high s' (l.set t (x, m))
        have hzin2 := certN_in N.Ls N.low N.high s' (l.set t (m + 1, y))
        obtain ⟨c1, hc1⟩ : ∃ c, certN N.Ls N.low N.high s' (l.set t (x, m)) = c := ⟨_, rfl⟩
        obtain ⟨c2, hc2⟩ : ∃ c, certN N.Ls N.low N.high s' (l.set t (m + 1, y)) = c := ⟨_, rfl⟩
        rw [hc1] at ha1 hRc hzin1
        rw [hc2] at ha2 hRc hzin2
        have ha1H := Lib.hid ha1
        have ha2H := Lib.hid ha2
        have d3 : ((s' : Int) + 1 == (0 : Int)) = false := by simp; omega
        have d4 : ¬ ((s' : Int) + 1 = 0) := by omega
        have d5 : (x == y) = false := by simpa using hxy
        have tok1 : True := trivial
        have tok2 : True := trivial
        clear hhalf ha1 ha2 hc1 hc2 m3 m4
        have dm : (x + y).tdiv 2 = m := hm
        clear hm
        by_cases hc3 : c1 = 3
        case pos =>
          subst hc3
          have hRv : R = 3 := by rw [hRc, if_neg (fun h => h.1 rfl)]
          subst hRv
          clear hRc
          go_wp2_with (go_at_call 77; have _t := tok1; refine (ha1H.out Y hbYr kAY.out).mono ?_; clear _t tok1; rintro e Y1 ⟨rfl, hbh1⟩)
          go_ret
          exact ⟨rfl, hfinH.out _ (hbYr.trans (hbh1.mono hbYr.size))⟩
        case neg =>
        have e1 : ((c1 : Int) != (3 : Int)) = true := by simp; omega
        have e2 : ¬ ((c1 : Int) = (3 : Int)) := by omega
        by_cases hc4 : c2 = c1
        case pos =>
          subst hc4
          have hRv : R = c2 := by rw [hRc, if_neg (fun h => h.2 rfl)]
          subst hRv
          clear hRc
          have e3 : ((R : Int) != (R : Int)) = false := by simp
          go_wp2_with (first
            | (go_at_call 77; have _t := tok1; refine (ha1H.out Y hbYr kAY.out).mono ?_; clear _t tok1; rintro e Y1 ⟨rfl, hbh1⟩; have hbY1 := hbYr.trans (hbh1.mono hbYr.size); have kA1 := kAY.out.below hbh1 kAY.out.lt; have q1 := (hbh1.cell (p := ⟨wr.heap.size, 1, none⟩) kyH.out.lt).trans y1)
            | (go_at_call 77; have _t := tok2; refine (ha2H.out Y1 hbY1 kA1).mono ?_; clear _t tok2; rintro e Y2 ⟨rfl, hbh2⟩))
          go_ret
          exact ⟨rfl, hfinH.out _ (hbY1.trans (hbh2.mono hbY1.size))⟩
        case neg =>
          have hRv : R = 3 := by rw [hRc, if_pos ⟨hc3, hc4⟩]
          subst hRv
          clear hRc
          have e3 : ((c2 : Int) != (c1 : Int)) = true := by simp; omega
          have e4 : ¬ ((c2 : Int) = (c1 : Int)) := by omega
          go_wp2_with (first
            | (go_at_call 77; have _t := tok1; refine (ha1H.out Y hbYr kAY.out).mono ?_; clear _t tok1; rintro e Y1 ⟨rfl, hbh1⟩; have hbY1 := hbYr.trans (hbh1.mono hbYr.size); have kA1 := kAY.out.below hbh1 kAY.out.lt; have q1 := (hbh1.cell (p := ⟨wr.heap.size, 1, none⟩) kyH.out.lt).trans y1)
            | (go_at_call 77; have _t := tok2; refine (ha2H.out Y1 hbY1 kA1).mono ?_; clear _t tok2; rintro e Y2 ⟨rfl, hbh2⟩))
          go_ret
          exact ⟨rfl, hfinH.out _ (hbY1.trans (hbh2.mono hbY1.size))⟩

theorem cert_any (N : NetN) (hN : NetOk N) (na : Option Addr) (nn nc : Nat) (hnn : N.Ls.length = nn) : ∀ s, s ≤ 8 → CertI N na nn nc s
  | 0, h => cert_step N hN na nn nc hnn 0 h fun s' e => by omega
  | s + 1, h => cert_step N hN na nn nc hnn (s + 1) h fun s' e => by
    have e' : s = s' := by omega
    subst e'
    exact cert_any N hN na nn nc hnn s (by omega)

end Go.Proofs.YtbdnjhnlfpfhcaaGreat

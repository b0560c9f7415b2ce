/- The walk of the law JudgeParts: it returns true, and nothing that lay has turned. -/
import Derived.Test.YtbfigbpjoaccdaaGreatUFairL
import Derived.Test.YtbfigbpjoaccdaaGreatULawJuries
import Derived.Test.YtbfigbpjoaccdaaGreatQC23
import Derived.Test.YtbfigbpjoaccdaaGreatQC2
namespace Go.Proofs.YtbfigbpjoaccdaaGreat
open Go Go.RowKit Go.Shelf
set_option linter.unusedVariables false
set_option linter.unusedSimpArgs false

theorem OwnRows.later2 {B : Nat} {W W' : World} {L : List Value} {xss : List (List Nat)} {m : Nat} (h : OwnRows B W L xss m) (hb : Below W.heap.size W W') : OwnRows B W' L xss m :=
  ⟨h.1, fun i xs hi hx => by
    obtain ⟨a, c, h1, h2⟩ := h.2 i xs hi hx
    exact ⟨a, c, h1, row_below h2 hb⟩⟩
theorem row_drw2 {W : World} {base : Nat} {e : TypeId} {size : Nat} {v : Value} {k : Nat} {xs : List Value} (h : W.ownsRow base e size v k xs) : W.drew.ownsRow base e size v k xs := h
theorem own_cell {W : World} {base g c n : Nat} {L : List Nat} (h : W.ownsRow base 5 1 (.slice (some ⟨g, 0, none⟩) n c) n (L.map vu8)) (hl : L.length = n) {k x : Nat} (hk : k < n) (hx : L[k]?.getD 0 = x) : W.cell? ⟨g, k, none⟩ = some (.int .u8 (x : Int)) := by
  have e := h.cellAt k (by rw [Nat.mul_one]; exact hk)
  have hk2 : k < L.length := by omega
  rw [List.getElem?_map, List.getElem?_eq_getElem hk2] at e
  rw [List.getElem?_eq_getElem hk2] at hx
  rw [e, ← hx]
  rfl
theorem own_store {W : World} {base g c n : Nat} {L : List Nat} (h : W.ownsRow base 5 1 (.slice (some ⟨g, 0, none⟩) n c) n (L.map vu8)) (k x : Nat) : (W.setCell ⟨g, k, none⟩ (.int .u8 (x : Int))).ownsRow base 5 1 (.slice (some ⟨g, 0, none⟩) n c) n ((L.set k x).map vu8) := by
  have e := (h.stored k (.int .u8 (x : Int))).1
  rw [show Value.int .u8 (x : Int) = vu8 x from rfl, ← List.map_set] at e
  exact e
theorem set_exch {L : List Nat} {a b : Nat} (ha : a < L.length) (hb : b < L.length) : (L.set a (L[b]?.getD 0)).set b (L[a]?.getD 0) = exchL a b L := by
  refine List.ext_getElem (by simp [exchL_length]) fun k h1 h2 => ?_
  have hk : k < L.length := by simpa using h1
  rw [List.getElem_set, List.getElem_set]
  have e : (exchL a b L)[k]'h2 = L[exch a b k]?.getD 0 := by simp [exchL]
  rw [e]
  unfold exch
  by_cases e1 : k = b
  · subst e1
    rw [if_pos rfl]
    by_cases e2 : k = a
    · subst e2; rw [if_pos rfl]
    · rw [if_neg e2, if_pos rfl]
  · rw [if_neg (fun e => e1 e.symm)]
    by_cases e2 : k = a
    · subst e2; rw [if_pos rfl, if_pos rfl]
    · rw [if_neg (fun e => e2 e.symm), if_neg e2, if_neg e1, List.getElem?_eq_getElem hk]; rfl
theorem exchX_row {a b : Nat} {xss : List (List Nat)} {i : Nat} {xs : List Nat} (h : xss[i]? = some xs) : (exchX a b xss)[i]? = some (exchL a b xs) := by rw [exchX_at, h]; rfl
theorem own_some {W : World} {base : Nat} {e : TypeId} {size : Nat} {a : Option Addr} {c n : Nat} {xs : List Value} (h : W.ownsRow base e size (.slice a n c) n xs) (hn : 0 < n) : ∃ g, a = some ⟨g, 0, none⟩ := by
  rcases h.2 with ⟨h1, h2⟩ | ⟨g, cap, cur, h1, _⟩
  · omega
  · simp only [Value.slice.injEq] at h1
    exact ⟨g, h1.1⟩
set_option maxRecDepth 100000 in
set_option maxHeartbeats 16000000 in
theorem law_parts (a : Option Addr) (c n : Nat) (xss : List (List Nat)) (hn : xss.length = n) (x1 x2 : Int) (hx1 : 0 ≤ x1 ∧ x1 ≤ 255) (hx2 : 0 ≤ x2 ∧ x2 ≤ 255) (w : World) (hm : n * 24 ≤ 140737488355328) (hrow : ∀ xs ∈ xss, xs.length ≤ 140737488355328) (hr : RdL w.heap.size w a xss) :
    Calls Tryz.prog 8 #[.slice a n c, .int .u8 x1, .int .u8 x2] w fun e w' => e = .returned (.bool true) ∧ Below w.heap.size w w' := by
  have hB : Below w.heap.size w w := Below.refl _ _
  obtain ⟨i0, hi, hz0, hz1, hz2⟩ := info_parts jinfo_u8
  obtain ⟨i1, gi, gz0, gz1, gz2⟩ := info_parts jinfo_u8s
  have hnH := Lib.hid hn
  have hrowH := Lib.hid hrow
  have rdi := hr
  clear hn hrow hr
  cases hv : vldJ xss with
  | false =>
    have hvH := Lib.hid hv
    clear hv
    go_enter Tryz.func8, Tryz.ntmps8
    go_wp2_with fail
    have hc := alive8_any w
    refine hc.mono ?_
    clear hc
    rintro e V1 ⟨rfl, hb⟩
    replace rdi := rdi.later hb
    replace hB := hB.trans (hb.mono hB.size)
    clear hb
    go_wp2_with fail
    have hc := ValidLabels_any xss n hnH.out a c V1 rdi
    rw [hvH.out] at hc
    refine hc.mono ?_
    clear hc
    rintro e V2 ⟨rfl, hb⟩
    replace rdi := rdi.later hb
    replace hB := hB.trans (hb.mono hB.size)
    clear hb
    go_wp2_with fail
    go_ret
    exact ⟨rfl, hB⟩
  | true =>
    obtain ⟨hl1, hl2, he0, hpos, hvote⟩ := recJ_ok hv
    have hex := fun p q => recJ_exchX (xss := xss) (a := p) (b := q) hv
    have hlt := recJ_lt xss
    obtain ⟨hJ1, hJ2, hKL, hlen, hlab⟩ := vldJ_true hv
    obtain ⟨⟨vs, ws, er⟩, hR⟩ : ∃ r, recJ xss = r := ⟨_, rfl⟩
    rw [hR] at hl1 hl2 he0 hlt
    simp only [hR] at hex
    simp only at hl1 hl2 he0 hlt
    subst he0
    obtain ⟨KL, hK0⟩ : ∃ K, len0 xss = K := ⟨_, rfl⟩
    rw [hK0] at hl1 hKL hlen
    simp only [hK0] at hex
    rw [hnH.out] at hl2 hJ1 hJ2
    have hRH := Lib.hid hR
    have hexH := Lib.hid hex
    have hlenH := Lib.hid hlen
    have hl1H := Lib.hid hl1
    have hl2H := Lib.hid hl2
    have hltH := Lib.hid hlt
    have hvH := Lib.hid hv
    clear hR hex hlen hvote hpos hlt hv hlab hK0 hl1 hl2
    go_enter Tryz.func8, Tryz.ntmps8
    go_wp2_with fail
    have hc := alive8_any w
    refine hc.mono ?_
    clear hc
    rintro e V1 ⟨rfl, hb⟩
    replace rdi := rdi.later hb
    replace hB := hB.trans (hb.mono hB.size)
    clear hb
    go_wp2_with fail
    have hc := ValidLabels_any xss n hnH.out a c V1 rdi
    rw [hvH.out] at hc
    refine hc.mono ?_
    clear hc
    rintro e V2 ⟨rfl, hb⟩
    replace rdi := rdi.later hb
    replace hB := hB.trans (hb.mono hB.size)
    clear hb
    obtain ⟨ys0, hys⟩ : ∃ x, xss[0]? = some x := ⟨_, List.getElem?_eq_getElem (by have := hnH.out; omega)⟩
    obtain ⟨b0, o0, rfl, hb0', a0, c0, hc0, _⟩ := rdi.at hys
    rw [hlenH.out 0 ys0 hys, Nat.add_zero] at hc0
    clear hys
    by_cases hk0 : KL = 0
    case pos =>
      subst hk0
      go_wp2_with fail
      go_ret
      exact ⟨rfl, hB⟩
    case neg =>
      have hk1 : ((KL : Int) == 0) = false := by simp; omega
      have hk2 : ¬ (KL : Int) = 0 := by omega
      obtain ⟨p, hp⟩ : ∃ p : Nat, x1.tmod (KL : Int) = (p : Int) := ⟨(x1.tmod (KL : Int)).toNat, by have := Int.tmod_nonneg (KL : Int) hx1.1; omega⟩
      obtain ⟨q, hq⟩ : ∃ q : Nat, x2.tmod (KL : Int) = (q : Int) := ⟨(x2.tmod (KL : Int)).toNat, by have := Int.tmod_nonneg (KL : Int) hx2.1; omega⟩
      have hpK : p < KL := by have := Int.tmod_lt_of_pos x1 (show (0 : Int) < (KL : Int) by omega); omega
      have hqK : q < KL := by have := Int.tmod_lt_of_pos x2 (show (0 : Int) < (KL : Int) by omega); omega
      have hS : Below V2.heap.size V2 V2.drew := (Below.refl _ _).drew
      have hpH := Lib.hid hp
      have hpE := Lib.hid (show x1 % (KL : Int) = (p : Int) by rw [← Int.tmod_eq_emod_of_nonneg hx1.1]; exact hp)
      have hqE := Lib.hid (show x2 % (KL : Int) = (q : Int) by rw [← Int.tmod_eq_emod_of_nonneg hx2.1]; exact hq)
      have hqH := Lib.hid hq
      clear hp hq
      go_wp2_with fail
      refine plain_region (fun W' => Below V2.heap.size V2 W') 16 16 (by kernel_rfl) rfl ?_
      simp only [Array.replicate_succ, Array.replicate_zero, List.push_toArray, List.nil_append, List.cons_append]
      refine take_op 0 (v := ?rv0) rfl (by kernel_rfl) (fun _ _ _ h => h) (by rfl) hS (fun w' hS' => ?ry0) ?rz0
      case ry0 =>
        go_simp
        rfl
      simp only [List.setIfInBounds_toArray, List.set_cons_zero, List.set_cons_succ]
      refine take_op 1 (v := .int .i64 x1) rfl (by kernel_rfl) (fun _ _ _ h => h) (by rfl) hS (fun w' hS' => ?ry1) ?rz1
      case ry1 =>
        clear hS'
        go_simp
        try go_ints
        first | done | rfl | trivial
      simp only [List.setIfInBounds_toArray, List.set_cons_zero, List.set_cons_succ]
      refine take_op 2 (v := ?rv2) rfl (by kernel_rfl) (fun _ _ _ h => h) (by rfl) hS (fun w' hS' => ?ry2) ?rz2
      case ry2 =>
        go_simp
        rfl
      simp only [List.setIfInBounds_toArray, List.set_cons_zero, List.set_cons_succ]
      refine take_op 3 (v := ?rv3) rfl (by kernel_rfl) (fun _ _ _ h => h) (by rfl) hS (fun w' hS' => ?ry3) ?rz3
      case ry3 =>
        go_simp
        try go_ints
        first
        | rfl
        | (rw [if_pos (by omega)]; done)
        | rw [if_pos ⟨by omega, by omega⟩]
      simp only [List.setIfInBounds_toArray, List.set_cons_zero, List.set_cons_succ]
      refine take_op 4 (v := ?rv4) rfl (by kernel_rfl) (fun _ _ _ h => h) (by rfl) hS (fun w' hS' => ?ry4) ?rz4
      case ry4 =>
        have d0 := (hS'.cell (p := ⟨b0, o0, none⟩) hb0').trans hc0
        clear hS'
        go_simp
        rfl
      simp only [List.setIfInBounds_toArray, List.set_cons_zero, List.set_cons_succ]
      refine take_op 5 (v := ?rv5) rfl (by kernel_rfl) (fun _ _ _ h => h) (by rfl) hS (fun w' hS' => ?ry5) ?rz5
      case ry5 =>
        go_simp
        rfl
      simp only [List.setIfInBounds_toArray, List.set_cons_zero, List.set_cons_succ]
      refine take_op 6 (v := .int .i64 (p : Int)) rfl (by kernel_rfl) (fun _ _ _ h => h) (by rfl) hS (fun w' hS' => ?ry6) ?rz6
      case ry6 =>
        have hp := hpH.out
        have hpe := hpE.out
        clear hS'
        go_simp
        try simp only [hp]
        try go_ints
        first | done | rfl | trivial
      simp only [List.setIfInBounds_toArray, List.set_cons_zero, List.set_cons_succ]
      refine take_op 7 (v := ?rv7) rfl (by kernel_rfl) (fun _ _ _ h => h) (by rfl) hS (fun w' hS' => ?ry7) ?rz7
      case ry7 =>
        go_simp
        rfl
      simp only [List.setIfInBounds_toArray, List.set_cons_zero, List.set_cons_succ]
      refine take_op 8 (v := .int .i64 x2) rfl (by kernel_rfl) (fun _ _ _ h => h) (by rfl) hS (fun w' hS' => ?ry8) ?rz8
      case ry8 =>
        clear hS'
        go_simp
        try go_ints
        first | done | rfl | trivial
      simp only [List.setIfInBounds_toArray, List.set_cons_zero, List.set_cons_succ]
      refine take_op 9 (v := ?rv9) rfl (by kernel_rfl) (fun _ _ _ h => h) (by rfl) hS (fun w' hS' => ?ry9) ?rz9
      case ry9 =>
        go_simp
        rfl
      simp only [List.setIfInBounds_toArray, List.set_cons_zero, List.set_cons_succ]
      refine take_op 10 (v := ?rv10) rfl (by kernel_rfl) (fun _ _ _ h => h) (by rfl) hS (fun w' hS' => ?ry10) ?rz10
      case ry10 =>
        go_simp
        try go_ints
        first
        | rfl
        | (rw [if_pos (by omega)]; done)
        | rw [if_pos ⟨by omega, by omega⟩]
      simp only [List.setIfInBounds_toArray, List.set_cons_zero, List.set_cons_succ]
      refine take_op 11 (v := ?rv11) rfl (by kernel_rfl) (fun _ _ _ h => h) (by rfl) hS (fun w' hS' => ?ry11) ?rz11
      case ry11 =>
        have d0 := (hS'.cell (p := ⟨b0, o0, none⟩) hb0').trans hc0
        clear hS'
        go_simp
        rfl
      simp only [List.setIfInBounds_toArray, List.set_cons_zero, List.set_cons_succ]
      refine take_op 12 (v := ?rv12) rfl (by kernel_rfl) (fun _ _ _ h => h) (by rfl) hS (fun w' hS' => ?ry12) ?rz12
      case ry12 =>
        go_simp
        rfl
      simp only [List.setIfInBounds_toArray, List.set_cons_zero, List.set_cons_succ]
      refine take_op 13 (v := .int .i64 (q : Int)) rfl (by kernel_rfl) (fun _ _ _ h => h) (by rfl) hS (fun w' hS' => ?ry13) ?rz13
      case ry13 =>
        have hq := hqH.out
        have hqe := hqE.out
        clear hS'
        go_simp
        try simp only [hq]
        try go_ints
        first | done | rfl | trivial
      simp only [List.setIfInBounds_toArray, List.set_cons_zero, List.set_cons_succ]
      refine take_op 14 (v := ?rv14) rfl (by kernel_rfl) (fun _ _ _ h => h) (by rfl) hS (fun w' hS' => ?ry14) ?rz14
      case ry14 =>
        go_simp
        rfl
      simp only [List.setIfInBounds_toArray, List.set_cons_zero, List.set_cons_succ]
      refine take_op 15 (v := ?rv15) rfl (by kernel_rfl) (fun _ _ _ h => h) (by rfl) hS (fun w' hS' => ?ry15) ?rz15
      case ry15 =>
        go_simp
        rfl
      simp only [List.setIfInBounds_toArray, List.set_cons_zero, List.set_cons_succ]
      refine done_ops (by kernel_rfl) ?_
      replace rdi := rdi.later hS
      replace hB := hB.trans (hS.mono hB.size)
      obtain ⟨V0, hV0⟩ : ∃ X : World, V2.drew = X := ⟨_, rfl⟩
      rw [hV0] at rdi hB ⊢
      have hb0V : b0 < V0.heap.size := by rw [← hV0]; exact hb0'
      have hc0V : V0.cell? ⟨b0, o0, none⟩ = some (.slice a0 KL c0) := by rw [← hV0]; exact hc0
      have hBV := hB
      have rdiH := Lib.hid rdi
      clear hB rdi hV0 hS hc0 hb0' hk1 hk2
      go_wp2_with fail
      go_loopw [10, 11] (fun o i wr => ∃ (m : Nat) (L1 : List Value), m ≤ n ∧ i = .int .i64 (m : Int) ∧ wr.ownsRow V0.heap.size 28 1 o m L1 ∧ Hid (OwnRows V0.heap.size wr L1 (exchX p q xss) m) ∧ Below V0.heap.size V0 wr) (fun _ i _ => n - (intOf i).toNat)
      case atStart => exact ⟨0, [], Nat.zero_le _, rfl, World.ownsRow_nil _ _ _ _, Lib.hid ⟨rfl, fun i xs hi => by omega⟩, Below.refl _ _⟩
      case round =>
        obtain ⟨m, L1, hm1, rfl, row1, hO, hB⟩ := hrel
        by_cases hmt : m < n
        case pos =>
          obtain ⟨xs, hxs⟩ : ∃ x, xss[m]? = some x := ⟨_, List.getElem?_eq_getElem (by have := hnH.out; omega)⟩
          obtain ⟨b, o, hbo, hb, a1, c1, hc1, hr1⟩ := rdiH.out.at hxs
          simp only [Option.some.injEq, Addr.mk.injEq, and_true] at hbo
          obtain ⟨rfl, rfl⟩ := hbo
          have hxl : xs.length = KL := hlenH.out m xs hxs
          have hxlH := Lib.hid hxl
          have hsnH := Lib.hid (fun (W : World) (a2 : Option Addr) (c2 : Nat) (h : OwnRows V0.heap.size W L1 (exchX p q xss) m) (hr : W.ownsRow V0.heap.size 5 1 (.slice a2 KL c2) KL ((exchL p q xs).map vu8)) => (show OwnRows V0.heap.size W (L1 ++ [.slice a2 KL c2]) (exchX p q xss) (m + 1) by
            have e : (exchL p q xs).length = KL := by rw [exchL_length, hxl]
            have h2 := h.snoc (exchX_row hxs) (a := a2) (c := c2) (by rw [e]; exact hr)
            rw [e] at h2
            exact h2))
          rw [hxl] at hc1
          have hc1' := (hB.cell (p := ⟨b0, o0 + m, none⟩) hb).trans hc1
          have hc2 : (wr.alloc (.cells #[] 5)).cell? ⟨b0, o0 + m, none⟩ = some (.slice a1 KL c1) := cell_old hc1'
          have own1H := Lib.hid (World.ownsRow_made (e := 5) (size := 1) (base := wr.heap.size) wr #[] 0 (Nat.le_refl _) (by decide) rfl)
          have hn1H := Lib.hid (((hr1.below (Nat.le_refl _) hB).below hB.size (jb_al (Below.refl _ wr) (.cells #[] 5))).news hxl)
          have honeH := Lib.hid (vu8_one xs)
          obtain ⟨x, hx⟩ : ∃ x, xs[p]?.getD 0 = x := ⟨_, rfl⟩
          obtain ⟨y, hy⟩ : ∃ y, xs[q]?.getD 0 = y := ⟨_, rfl⟩
          have row1H := Lib.hid row1
          clear hxs hr1 hc1 row1 hxl
          go_wp2_with (at_builtin; refine wpList_append_any rfl (.tmp 51) (.tmp 55) 28 rfl wr.heap.size 5 i0 (.int .u8 0) 1 Tryz.underlying28 hi hz0 hz1 hz2 rfl (.slice (some ⟨wr.heap.size, 0, none⟩) 0 0) 0 [] rfl own1H.out a1 KL c1 (xs.map vu8) rfl (by rw [List.length_map]; exact hxlH.out) hn1H.out honeH.out (by unfold maxLen; omega) (by omega) (by simp) ?_; intro v1 W2 hown2 hg2 _; rw [Nat.zero_add, List.nil_append] at hown2; obtain ⟨a2, c2, rfl⟩ := jrow_slice hown2; have hgn := grownBy_new hg2; have hb2 : Below wr.heap.size wr W2 := (Below.refl _ wr).grown hgn (Nat.le_refl _) (fun k e => by cases e); clear hg2 hgn)
          obtain ⟨g, rfl⟩ := own_some hown2 (by omega)
          have hgb : wr.heap.size ≤ g := (hown2.lt g rfl).1
          have hbs : wr.heap.size ≤ W2.drew.heap.size := hb2.size
          clear hc1' hc2
          refine plain_region (fun _ => True) 16 16 (by kernel_rfl) rfl ?_
          simp only [Array.replicate_succ, Array.replicate_zero, List.push_toArray, List.nil_append, List.cons_append]
          have rowD := row_drw2 hown2
          have hgD : wr.heap.size ≤ W2.drew.heap.size := hbs
          have hb0 : Below wr.heap.size W2 W2.drew := (Below.refl wr.heap.size W2).drew
          obtain ⟨U0, hU0⟩ : ∃ X : World, W2.drew = X := ⟨_, rfl⟩
          rw [hU0] at rowD hb0 ⊢
          have hT : True := trivial
          clear hU0 hgD
          refine take_op 0 (v := ?s101v) rfl (by kernel_rfl) (fun _ _ _ h => h) (by rfl) hT (fun w' hS' => ?s101y) ?s101z
          case s101y =>
            go_simp
            rfl
          simp only [List.setIfInBounds_toArray, List.set_cons_zero, List.set_cons_succ]
          refine take_op 1 (v := ?s102v) rfl (by kernel_rfl) (fun _ _ _ h => h) (by rfl) hT (fun w' hS' => ?s102y) ?s102z
          case s102y =>
            go_simp
            rfl
          simp only [List.setIfInBounds_toArray, List.set_cons_zero, List.set_cons_succ]
          refine take_op 2 (v := ?s103v) rfl (by kernel_rfl) (fun _ _ _ h => h) (by rfl) hT (fun w' hS' => ?s103y) ?s103z
          case s103y =>
            go_simp
            rfl
          simp only [List.setIfInBounds_toArray, List.set_cons_zero, List.set_cons_succ]
          refine take_op 3 (v := ?s104v) rfl (by kernel_rfl) (fun _ _ _ h => h) (by rfl) hT (fun w' hS' => ?s104y) ?s104z
          case s104y =>
            go_simp
            rfl
          simp only [List.setIfInBounds_toArray, List.set_cons_zero, List.set_cons_succ]
          refine take_op 4 (v := ?s105v) rfl (by kernel_rfl) (fun _ _ _ h => h) (by rfl) hT (fun w' hS' => ?s105y) ?s105z
          case s105y =>
            go_simp
            rfl
          simp only [List.setIfInBounds_toArray, List.set_cons_zero, List.set_cons_succ]
          refine take_op 5 (v := ?s106v) rfl (by kernel_rfl) (fun _ _ _ h => h) (by rfl) hT (fun w' hS' => ?s106y) ?s106z
          case s106y =>
            go_simp
            rfl
          simp only [List.setIfInBounds_toArray, List.set_cons_zero, List.set_cons_succ]
          refine take_op 6 (v := ?s107v) rfl (by kernel_rfl) (fun _ _ _ h => h) (by rfl) hT (fun w' hS' => ?s107y) ?s107z
          case s107y =>
            go_simp
            try go_ints
            first
            | rfl
            | (rw [if_pos (by omega)]; done)
            | rw [if_pos ⟨by omega, by omega⟩]
          simp only [List.setIfInBounds_toArray, List.set_cons_zero, List.set_cons_succ]
          refine take_op 8 (v := ?s108v) rfl (by kernel_rfl) (fun _ _ _ h => h) (by rfl) hT (fun w' hS' => ?s108y) ?s108z
          case s108y =>
            go_simp
            rfl
          simp only [List.setIfInBounds_toArray, List.set_cons_zero, List.set_cons_succ]
          refine take_op 9 (v := ?s109v) rfl (by kernel_rfl) (fun _ _ _ h => h) (by rfl) hT (fun w' hS' => ?s109y) ?s109z
          case s109y =>
            go_simp
            rfl
          simp only [List.setIfInBounds_toArray, List.set_cons_zero, List.set_cons_succ]
          refine take_op 10 (v := ?s1010v) rfl (by kernel_rfl) (fun _ _ _ h => h) (by rfl) hT (fun w' hS' => ?s1010y) ?s1010z
          case s1010y =>
            go_simp
            try go_ints
            first
            | rfl
            | (rw [if_pos (by omega)]; done)
            | rw [if_pos ⟨by omega, by omega⟩]
          simp only [List.setIfInBounds_toArray, List.set_cons_zero, List.set_cons_succ]
          refine fork2 (i := 7) (j := 11) (by kernel_rfl) ?_ ?_
          · refine step_at 7 rfl (fun K hK => ?_)
            have o7 := own_cell rowD hxlH.out hqK hy
            rw [if_pos (by rfl)]
            go_simp
            clear o7
            refine hK.out _ _ (fun h => trivial) ?_
            clear hK K
            try simp only [Act.put, List.setIfInBounds_toArray, List.set_cons_zero, List.set_cons_succ]
            refine step_op 11 (by kernel_rfl) rfl (fun K hK => ?_)
            have o11 := own_cell rowD hxlH.out hpK hx
            rw [if_pos (by rfl)]
            go_simp
            clear o11
            refine hK.out _ _ (fun h => trivial) ?_
            clear hK K
            try simp only [Act.put, List.setIfInBounds_toArray, List.set_cons_zero, List.set_cons_succ]
            refine take_op 12 (v := ?s1011v) rfl (by kernel_rfl) (fun _ _ _ h => h) (by rfl) hT (fun w' hS' => ?s1011y) ?s1011z
            case s1011y =>
              go_simp
              try go_ints
              first
              | rfl
              | (rw [if_pos (by omega)]; done)
              | rw [if_pos ⟨by omega, by omega⟩]
            simp only [List.setIfInBounds_toArray, List.set_cons_zero, List.set_cons_succ]
            refine step_op 13 (by kernel_rfl) rfl (fun K hK => ?_)
            have o13 := rowD.cellAt p (by rw [Nat.mul_one]; exact hpK)
            have fo13 := rowD.frozenAt p
            rw [List.getElem?_map, List.getElem?_eq_getElem (by rw [hxlH.out]; exact hpK)] at o13
            rw [if_pos (by rfl)]
            go_simp
            clear o13 fo13
            have rowE := own_store rowD p y
            have hb13 : Below wr.heap.size U0 (U0.setCell ⟨g, p, none⟩ (.int .u8 (y : Int))) := (Below.refl wr.heap.size U0).setCell (p := ⟨g, p, none⟩) hgb _
            obtain ⟨U1, hU1⟩ : ∃ X, U0.setCell ⟨g, p, none⟩ (.int .u8 (y : Int)) = X := ⟨_, rfl⟩
            rw [hU1] at rowE hb13 ⊢
            clear rowD hU1
            refine hK.out _ _ (fun h => trivial) ?_
            clear hK K
            try simp only [Act.put, List.setIfInBounds_toArray, List.set_cons_zero, List.set_cons_succ]
            refine take_op 14 (v := ?s1012v) rfl (by kernel_rfl) (fun _ _ _ h => h) (by rfl) hT (fun w' hS' => ?s1012y) ?s1012z
            case s1012y =>
              go_simp
              try go_ints
              first
              | rfl
              | (rw [if_pos (by omega)]; done)
              | rw [if_pos ⟨by omega, by omega⟩]
            simp only [List.setIfInBounds_toArray, List.set_cons_zero, List.set_cons_succ]
            refine step_op 15 (by kernel_rfl) rfl (fun K hK => ?_)
            have o15 := rowE.cellAt q (by rw [Nat.mul_one]; exact hqK)
            have fo15 := rowE.frozenAt q
            rw [List.getElem?_map, List.getElem?_eq_getElem (by rw [List.length_set]; rw [hxlH.out]; exact hqK)] at o15
            rw [if_pos (by rfl)]
            go_simp
            clear o15 fo15
            have rowF := own_store rowE q x
            have hb15 : Below wr.heap.size U1 (U1.setCell ⟨g, q, none⟩ (.int .u8 (x : Int))) := (Below.refl wr.heap.size U1).setCell (p := ⟨g, q, none⟩) hgb _
            obtain ⟨U2, hU2⟩ : ∃ X, U1.setCell ⟨g, q, none⟩ (.int .u8 (x : Int)) = X := ⟨_, rfl⟩
            rw [hU2] at rowF hb15 ⊢
            clear rowE hU2
            refine hK.out _ _ (fun h => trivial) ?_
            clear hK K
            try simp only [Act.put, List.setIfInBounds_toArray, List.set_cons_zero, List.set_cons_succ]
            refine done_ops (by kernel_rfl) ?_
            have hbE := hb0.trans (hb13.trans hb15)
            have rowG := rowF
            rw [← hx, ← hy, set_exch (by rw [hxlH.out]; exact hpK) (by rw [hxlH.out]; exact hqK)] at rowG
            clear rowF hb0 hb13 hb15 hT
            have hbU := hb2.trans hbE
            have row12 := (row_below row1H.out hbU).alloc (.cells #[.slice (some ⟨g, 0, none⟩) KL c2] 28)
            have hB2 := hB.trans (hbU.mono hB.size)
            have hO2 := Lib.hid ((hsnH.out _ _ _ (hO.out.later2 hbU) (jrow_weaken rowG hB.size)).kept (World.grownBy_alloc U2 (.cells #[.slice (some ⟨g, 0, none⟩) KL c2] 28) none) (fun g cur e => by cases e))
            have hB3 := jb_al hB2 (.cells #[.slice (some ⟨g, 0, none⟩) KL c2] 28)
            clear row1H rowG hbU hB2 hbE
            go_wp2_with (at_builtin; refine wpList_append_own_at _ rfl _ _ 52 rfl V0.heap.size 28 i1 (.slice none 0 0) 1 24 Tryz.underlying52 gi gz0 gz1 gz2 rfl (by decide) u10 m L1 rfl row12 ⟨U2.heap.size, 0, none⟩ 1 1 [.slice (some ⟨g, 0, none⟩) KL c2] rfl rfl (cell_one_new _ _ _) (by simp [Value.oneCell']) (by unfold maxLen; omega) (by omega) hB3.size ?_; intro v4 W4 hown4 hg4 _ hat4; have hO4 := Lib.hid (hO2.out.kept hg4 (row_type row12 (by decide))); have hB4 := hB3.grown hg4 hB3.size (fun k e => (row12.lt k e).1); clear hg4 hO2 row12 hB3 hat4)
            go_roundw
            case rel => exact ⟨m + 1, L1 ++ [.slice (some ⟨g, 0, none⟩) KL c2], by omega, by go_num, hown4, hO4, hB4⟩
            case measure => simp [intOf]; omega
          · refine step_at 11 rfl (fun K hK => ?_)
            have o11 := own_cell rowD hxlH.out hpK hx
            rw [if_pos (by rfl)]
            go_simp
            clear o11
            refine hK.out _ _ (fun h => trivial) ?_
            clear hK K
            try simp only [Act.put, List.setIfInBounds_toArray, List.set_cons_zero, List.set_cons_succ]
            refine step_op 7 (by kernel_rfl) rfl (fun K hK => ?_)
            have o7 := own_cell rowD hxlH.out hqK hy
            rw [if_pos (by rfl)]
            go_simp
            clear o7
            refine hK.out _ _ (fun h => trivial) ?_
            clear hK K
            try simp only [Act.put, List.setIfInBounds_toArray, List.set_cons_zero, List.set_cons_succ]
            refine take_op 12 (v := ?s1013v) rfl (by kernel_rfl) (fun _ _ _ h => h) (by rfl) hT (fun w' hS' => ?s1013y) ?s1013z
            case s1013y =>
              go_simp
              try go_ints
              first
              | rfl
              | (rw [if_pos (by omega)]; done)
              | rw [if_pos ⟨by omega, by omega⟩]
            simp only [List.setIfInBounds_toArray, List.set_cons_zero, List.set_cons_succ]
            refine step_op 13 (by kernel_rfl) rfl (fun K hK => ?_)
            have o13 := rowD.cellAt p (by rw [Nat.mul_one]; exact hpK)
            have fo13 := rowD.frozenAt p
            rw [List.getElem?_map, List.getElem?_eq_getElem (by rw [hxlH.out]; exact hpK)] at o13
            rw [if_pos (by rfl)]
            go_simp
            clear o13 fo13
            have rowE := own_store rowD p y
            have hb13 : Below wr.heap.size U0 (U0.setCell ⟨g, p, none⟩ (.int .u8 (y : Int))) := (Below.refl wr.heap.size U0).setCell (p := ⟨g, p, none⟩) hgb _
            obtain ⟨U1, hU1⟩ : ∃ X, U0.setCell ⟨g, p, none⟩ (.int .u8 (y : Int)) = X := ⟨_, rfl⟩
            rw [hU1] at rowE hb13 ⊢
            clear rowD hU1
            refine hK.out _ _ (fun h => trivial) ?_
            clear hK K
            try simp only [Act.put, List.setIfInBounds_toArray, List.set_cons_zero, List.set_cons_succ]
            refine take_op 14 (v := ?s1014v) rfl (by kernel_rfl) (fun _ _ _ h => h) (by rfl) hT (fun w' hS' => ?s1014y) ?s1014z
            case s1014y =>
              go_simp
              try go_ints
              first
              | rfl
              | (rw [if_pos (by omega)]; done)
              | rw [if_pos ⟨by omega, by omega⟩]
            simp only [List.setIfInBounds_toArray, List.set_cons_zero, List.set_cons_succ]
            refine step_op 15 (by kernel_rfl) rfl (fun K hK => ?_)
            have o15 := rowE.cellAt q (by rw [Nat.mul_one]; exact hqK)
            have fo15 := rowE.frozenAt q
            rw [List.getElem?_map, List.getElem?_eq_getElem (by rw [List.length_set]; rw [hxlH.out]; exact hqK)] at o15
            rw [if_pos (by rfl)]
            go_simp
            clear o15 fo15
            have rowF := own_store rowE q x
            have hb15 : Below wr.heap.size U1 (U1.setCell ⟨g, q, none⟩ (.int .u8 (x : Int))) := (Below.refl wr.heap.size U1).setCell (p := ⟨g, q, none⟩) hgb _
            obtain ⟨U2, hU2⟩ : ∃ X, U1.setCell ⟨g, q, none⟩ (.int .u8 (x : Int)) = X := ⟨_, rfl⟩
            rw [hU2] at rowF hb15 ⊢
            clear rowE hU2
            refine hK.out _ _ (fun h => trivial) ?_
            clear hK K
            try simp only [Act.put, List.setIfInBounds_toArray, List.set_cons_zero, List.set_cons_succ]
            refine done_ops (by kernel_rfl) ?_
            have hbE := hb0.trans (hb13.trans hb15)
            have rowG := rowF
            rw [← hx, ← hy, set_exch (by rw [hxlH.out]; exact hpK) (by rw [hxlH.out]; exact hqK)] at rowG
            clear rowF hb0 hb13 hb15 hT
            have hbU := hb2.trans hbE
            have row12 := (row_below row1H.out hbU).alloc (.cells #[.slice (some ⟨g, 0, none⟩) KL c2] 28)
            have hB2 := hB.trans (hbU.mono hB.size)
            have hO2 := Lib.hid ((hsnH.out _ _ _ (hO.out.later2 hbU) (jrow_weaken rowG hB.size)).kept (World.grownBy_alloc U2 (.cells #[.slice (some ⟨g, 0, none⟩) KL c2] 28) none) (fun g cur e => by cases e))
            have hB3 := jb_al hB2 (.cells #[.slice (some ⟨g, 0, none⟩) KL c2] 28)
            clear row1H rowG hbU hB2 hbE
            go_wp2_with (at_builtin; refine wpList_append_own_at _ rfl _ _ 52 rfl V0.heap.size 28 i1 (.slice none 0 0) 1 24 Tryz.underlying52 gi gz0 gz1 gz2 rfl (by decide) u10 m L1 rfl row12 ⟨U2.heap.size, 0, none⟩ 1 1 [.slice (some ⟨g, 0, none⟩) KL c2] rfl rfl (cell_one_new _ _ _) (by simp [Value.oneCell']) (by unfold maxLen; omega) (by omega) hB3.size ?_; intro v4 W4 hown4 hg4 _ hat4; have hO4 := Lib.hid (hO2.out.kept hg4 (row_type row12 (by decide))); have hB4 := hB3.grown hg4 hB3.size (fun k e => (row12.lt k e).1); clear hg4 hO2 row12 hB3 hat4)
            go_roundw
            case rel => exact ⟨m + 1, L1 ++ [.slice (some ⟨g, 0, none⟩) KL c2], by omega, by go_num, hown4, hO4, hB4⟩
            case measure => simp [intOf]; omega
        case neg =>
          have hmn : m = n := by omega
          subst hmn
          obtain ⟨oa, oc, rfl⟩ := jrow_slice row1
          have rdo := hO.out.rdL (by rw [exchX_length]; exact hnH.out) row1
          have rdi := rdiH.out.later hB
          have hc0 := (hB.cell (p := ⟨b0, o0, none⟩) hb0V).trans hc0V
          have hb0' : b0 < wr.heap.size := by have := hB.size; omega
          have hex := hexH.out p q hpK hqK
          have hexH2 := Lib.hid hex
          replace hB := hBV.trans (hB.mono hBV.size)
          have hc0H := Lib.hid (fun (W : World) (h : Below wr.heap.size wr W) => (h.cell (p := ⟨b0, o0, none⟩) hb0').trans hc0)
          have hBr : Below wr.heap.size wr wr := Below.refl _ _
          clear hO row1 rdiH hBV gi gz0 gz1 gz2 hex hexH hc0V hc0
          go_wp2_with fail
          have hc := Reconcile_any xss m hnH.out (some ⟨b0, o0, none⟩) c wr rdi
          unfold RetJ at hc
          rw [hRH.out] at hc
          simp only [hl1H.out, hl2H.out] at hc
          refine hc.mono ?_
          clear hc
          rintro e V3 ⟨p1, q1, p2, q2, rfl, rd1, rd2, hb⟩
          replace rdi := rdi.later hb
          replace rdo := rdo.later hb
          replace hBr := hBr.trans (hb.mono hBr.size)
          replace hB := hB.trans (hb.mono hB.size)
          clear hb
          go_wp2_with fail
          have hc := Reconcile_own (exchX p q xss) m (by rw [exchX_length]; exact hnH.out) oa oc V3 rdo
          unfold RetJo at hc
          rw [hexH2.out] at hc
          simp only [exchL_length, hl1H.out, hl2H.out] at hc
          refine hc.mono ?_
          clear hc
          rintro e VX ⟨x1a, x1c, x2a, x2c, rfl, rowx, rowy, hb⟩
          have hBx0 := hB
          have rdA1 := rd1
          have rdA2 := rd2
          have hbv := hb
          replace rdi := rdi.later hb
          replace rdo := rdo.later hb
          replace hBr := hBr.trans (hb.mono hBr.size)
          replace rd1 := rd1.later hb
          replace rd2 := later_i rd2 hb
          replace hB := hB.trans (hb.mono hB.size)
          have hbx := hb.size
          clear hb
          obtain ⟨g, rfl⟩ := own_some rowx (by omega)
          have hgb0 : V3.heap.size ≤ g := (rowx.lt g rfl).1
          have hc0 := hc0H.out _ hBr
          have xl : (exchL p q vs).length = KL := by rw [exchL_length]; exact hl1H.out
          have xlH := Lib.hid xl
          clear xl
          go_wp2_with fail
          clear hc0
          obtain ⟨x, hx⟩ : ∃ x, (exchL p q vs)[p]?.getD 0 = x := ⟨_, rfl⟩
          obtain ⟨y, hy⟩ : ∃ y, (exchL p q vs)[q]?.getD 0 = y := ⟨_, rfl⟩
          obtain ⟨gy, rfl⟩ := own_some rowy (by omega)
          have hneH := Lib.hid (show some g ≠ (Value.slice (some ⟨gy, 0, none⟩) m x2c).ownBlock by simp [Value.ownBlock]; exact row_ne rowx rowy (by decide))
          have hbs : V3.heap.size ≤ VX.drew.heap.size := hbx
          have hgb : V3.heap.size ≤ g := hgb0
          have hgl := (rowx.lt g rfl).2
          have hBx := hB
          clear hBr rdi rdo hgb0 rd1 rd2 hB
          refine plain_region (fun _ => True) 16 16 (by kernel_rfl) rfl ?_
          simp only [Array.replicate_succ, Array.replicate_zero, List.push_toArray, List.nil_append, List.cons_append]
          have rowD := row_drw2 rowx
          have hgD : V3.heap.size ≤ VX.drew.heap.size := hbs
          have hb0 : Below V3.heap.size VX VX.drew := (Below.refl V3.heap.size VX).drew
          obtain ⟨U0, hU0⟩ : ∃ X : World, VX.drew = X := ⟨_, rfl⟩
          replace rowy := row_drw2 rowy
          rw [hU0] at rowy
          rw [hU0] at rowD hb0 ⊢
          have hT : True := trivial
          clear hU0 hgD
          refine take_op 0 (v := ?s161v) rfl (by kernel_rfl) (fun _ _ _ h => h) (by rfl) hT (fun w' hS' => ?s161y) ?s161z
          case s161y =>
            go_simp
            rfl
          simp only [List.setIfInBounds_toArray, List.set_cons_zero, List.set_cons_succ]
          refine take_op 1 (v := ?s162v) rfl (by kernel_rfl) (fun _ _ _ h => h) (by rfl) hT (fun w' hS' => ?s162y) ?s162z
          case s162y =>
            go_simp
            rfl
          simp only [List.setIfInBounds_toArray, List.set_cons_zero, List.set_cons_succ]
          refine take_op 2 (v := ?s163v) rfl (by kernel_rfl) (fun _ _ _ h => h) (by rfl) hT (fun w' hS' => ?s163y) ?s163z
          case s163y =>
            go_simp
            rfl
          simp only [List.setIfInBounds_toArray, List.set_cons_zero, List.set_cons_succ]
          refine take_op 3 (v := ?s164v) rfl (by kernel_rfl) (fun _ _ _ h => h) (by rfl) hT (fun w' hS' => ?s164y) ?s164z
          case s164y =>
            go_simp
            rfl
          simp only [List.setIfInBounds_toArray, List.set_cons_zero, List.set_cons_succ]
          refine take_op 4 (v := ?s165v) rfl (by kernel_rfl) (fun _ _ _ h => h) (by rfl) hT (fun w' hS' => ?s165y) ?s165z
          case s165y =>
            go_simp
            rfl
          simp only [List.setIfInBounds_toArray, List.set_cons_zero, List.set_cons_succ]
          refine take_op 5 (v := ?s166v) rfl (by kernel_rfl) (fun _ _ _ h => h) (by rfl) hT (fun w' hS' => ?s166y) ?s166z
          case s166y =>
            go_simp
            rfl
          simp only [List.setIfInBounds_toArray, List.set_cons_zero, List.set_cons_succ]
          refine take_op 6 (v := ?s167v) rfl (by kernel_rfl) (fun _ _ _ h => h) (by rfl) hT (fun w' hS' => ?s167y) ?s167z
          case s167y =>
            go_simp
            try go_ints
            first
            | rfl
            | (rw [if_pos (by omega)]; done)
            | rw [if_pos ⟨by omega, by omega⟩]
          simp only [List.setIfInBounds_toArray, List.set_cons_zero, List.set_cons_succ]
          refine take_op 8 (v := ?s168v) rfl (by kernel_rfl) (fun _ _ _ h => h) (by rfl) hT (fun w' hS' => ?s168y) ?s168z
          case s168y =>
            go_simp
            rfl
          simp only [List.setIfInBounds_toArray, List.set_cons_zero, List.set_cons_succ]
          refine take_op 9 (v := ?s169v) rfl (by kernel_rfl) (fun _ _ _ h => h) (by rfl) hT (fun w' hS' => ?s169y) ?s169z
          case s169y =>
            go_simp
            rfl
          simp only [List.setIfInBounds_toArray, List.set_cons_zero, List.set_cons_succ]
          refine take_op 10 (v := ?s1610v) rfl (by kernel_rfl) (fun _ _ _ h => h) (by rfl) hT (fun w' hS' => ?s1610y) ?s1610z
          case s1610y =>
            go_simp
            try go_ints
            first
            | rfl
            | (rw [if_pos (by omega)]; done)
            | rw [if_pos ⟨by omega, by omega⟩]
          simp only [List.setIfInBounds_toArray, List.set_cons_zero, List.set_cons_succ]
          refine fork2 (i := 7) (j := 11) (by kernel_rfl) ?_ ?_
          · refine step_at 7 rfl (fun K hK => ?_)
            have o7 := own_cell rowD xlH.out hqK hy
            rw [if_pos (by rfl)]
            go_simp
            clear o7
            refine hK.out _ _ (fun h => trivial) ?_
            clear hK K
            try simp only [Act.put, List.setIfInBounds_toArray, List.set_cons_zero, List.set_cons_succ]
            refine step_op 11 (by kernel_rfl) rfl (fun K hK => ?_)
            have o11 := own_cell rowD xlH.out hpK hx
            rw [if_pos (by rfl)]
            go_simp
            clear o11
            refine hK.out _ _ (fun h => trivial) ?_
            clear hK K
            try simp only [Act.put, List.setIfInBounds_toArray, List.set_cons_zero, List.set_cons_succ]
            refine take_op 12 (v := ?s1611v) rfl (by kernel_rfl) (fun _ _ _ h => h) (by rfl) hT (fun w' hS' => ?s1611y) ?s1611z
            case s1611y =>
              go_simp
              try go_ints
              first
              | rfl
              | (rw [if_pos (by omega)]; done)
              | rw [if_pos ⟨by omega, by omega⟩]
            simp only [List.setIfInBounds_toArray, List.set_cons_zero, List.set_cons_succ]
            refine step_op 13 (by kernel_rfl) rfl (fun K hK => ?_)
            have o13 := rowD.cellAt p (by rw [Nat.mul_one]; exact hpK)
            have fo13 := rowD.frozenAt p
            rw [List.getElem?_map, List.getElem?_eq_getElem (by rw [xlH.out]; exact hpK)] at o13
            rw [if_pos (by rfl)]
            go_simp
            clear o13 fo13
            have rowE := own_store rowD p y
            have hb13 : Below V3.heap.size U0 (U0.setCell ⟨g, p, none⟩ (.int .u8 (y : Int))) := (Below.refl V3.heap.size U0).setCell (p := ⟨g, p, none⟩) hgb _
            obtain ⟨U1, hU1⟩ : ∃ X, U0.setCell ⟨g, p, none⟩ (.int .u8 (y : Int)) = X := ⟨_, rfl⟩
            replace rowy := row_setCell rowy (a := ⟨g, p, none⟩) hneH.out (.int .u8 (y : Int))
            rw [hU1] at rowy
            rw [hU1] at rowE hb13 ⊢
            clear rowD hU1
            refine hK.out _ _ (fun h => trivial) ?_
            clear hK K
            try simp only [Act.put, List.setIfInBounds_toArray, List.set_cons_zero, List.set_cons_succ]
            refine take_op 14 (v := ?s1612v) rfl (by kernel_rfl) (fun _ _ _ h => h) (by rfl) hT (fun w' hS' => ?s1612y) ?s1612z
            case s1612y =>
              go_simp
              try go_ints
              first
              | rfl
              | (rw [if_pos (by omega)]; done)
              | rw [if_pos ⟨by omega, by omega⟩]
            simp only [List.setIfInBounds_toArray, List.set_cons_zero, List.set_cons_succ]
            refine step_op 15 (by kernel_rfl) rfl (fun K hK => ?_)
            have o15 := rowE.cellAt q (by rw [Nat.mul_one]; exact hqK)
            have fo15 := rowE.frozenAt q
            rw [List.getElem?_map, List.getElem?_eq_getElem (by rw [List.length_set]; rw [xlH.out]; exact hqK)] at o15
            rw [if_pos (by rfl)]
            go_simp
            clear o15 fo15
            have rowF := own_store rowE q x
            have hb15 : Below V3.heap.size U1 (U1.setCell ⟨g, q, none⟩ (.int .u8 (x : Int))) := (Below.refl V3.heap.size U1).setCell (p := ⟨g, q, none⟩) hgb _
            obtain ⟨U2, hU2⟩ : ∃ X, U1.setCell ⟨g, q, none⟩ (.int .u8 (x : Int)) = X := ⟨_, rfl⟩
            replace rowy := row_setCell rowy (a := ⟨g, q, none⟩) hneH.out (.int .u8 (x : Int))
            rw [hU2] at rowy
            rw [hU2] at rowF hb15 ⊢
            clear rowE hU2
            refine hK.out _ _ (fun h => trivial) ?_
            clear hK K
            try simp only [Act.put, List.setIfInBounds_toArray, List.set_cons_zero, List.set_cons_succ]
            refine done_ops (by kernel_rfl) ?_
            have hbE := hb0.trans (hb13.trans hb15)
            have rowG := rowF
            rw [← hx, ← hy, set_exch (by rw [xlH.out]; exact hpK) (by rw [xlH.out]; exact hqK)] at rowG
            clear rowF hb0 hb13 hb15 hT
            rw [exchL_exchL (by rw [hl1H.out]; exact hpK) (by rw [hl1H.out]; exact hqK)] at rowG
            have rdx := rowN_rd hl1H.out rowG
            have rdy := rowI_rd hl2H.out rowy
            have hbA := hbv.trans hbE
            have rdv := rdA1.later hbA
            have rdw := later_i rdA2 hbA
            have hBE := hBx.trans (hbE.mono (by have := hBx0.size; omega))
            have cv1 := conv_bytes x1c hl1H.out rdx
            have cv2 := conv_bytes q1 hl1H.out rdv
            clear rowG rowy hbA rdA1 rdA2 hbv hbE
            go_wp2_with (go_at_call 31; refine (SameInts_eq p2 (some ⟨gy, 0, none⟩) q2 x2c m ws (Lib.hid hl2H.out) _ (by omega) rdw rdy).mono ?_; rintro e W9 ⟨rfl, hb9⟩; clear cv1 cv2)
            go_ret
            exact ⟨rfl, hBE.trans (hb9.mono hBE.size)⟩
          · refine step_at 11 rfl (fun K hK => ?_)
            have o11 := own_cell rowD xlH.out hpK hx
            rw [if_pos (by rfl)]
            go_simp
            clear o11
            refine hK.out _ _ (fun h => trivial) ?_
            clear hK K
            try simp only [Act.put, List.setIfInBounds_toArray, List.set_cons_zero, List.set_cons_succ]
            refine step_op 7 (by kernel_rfl) rfl (fun K hK => ?_)
            have o7 := own_cell rowD xlH.out hqK hy
            rw [if_pos (by rfl)]
            go_simp
            clear o7
            refine hK.out _ _ (fun h => trivial) ?_
            clear hK K
            try simp only [Act.put, List.setIfInBounds_toArray, List.set_cons_zero, List.set_cons_succ]
            refine take_op 12 (v := ?s1613v) rfl (by kernel_rfl) (fun _ _ _ h => h) (by rfl) hT (fun w' hS' => ?s1613y) ?s1613z
            case s1613y =>
              go_simp
              try go_ints
              first
              | rfl
              | (rw [if_pos (by omega)]; done)
              | rw [if_pos ⟨by omega, by omega⟩]
            simp only [List.setIfInBounds_toArray, List.set_cons_zero, List.set_cons_succ]
            refine step_op 13 (by kernel_rfl) rfl (fun K hK => ?_)
            have o13 := rowD.cellAt p (by rw [Nat.mul_one]; exact hpK)
            have fo13 := rowD.frozenAt p
            rw [List.getElem?_map, List.getElem?_eq_getElem (by rw [xlH.out]; exact hpK)] at o13
            rw [if_pos (by rfl)]
            go_simp
            clear o13 fo13
            have rowE := own_store rowD p y
            have hb13 : Below V3.heap.size U0 (U0.setCell ⟨g, p, none⟩ (.int .u8 (y : Int))) := (Below.refl V3.heap.size U0).setCell (p := ⟨g, p, none⟩) hgb _
            obtain ⟨U1, hU1⟩ : ∃ X, U0.setCell ⟨g, p, none⟩ (.int .u8 (y : Int)) = X := ⟨_, rfl⟩
            replace rowy := row_setCell rowy (a := ⟨g, p, none⟩) hneH.out (.int .u8 (y : Int))
            rw [hU1] at rowy
            rw [hU1] at rowE hb13 ⊢
            clear rowD hU1
            refine hK.out _ _ (fun h => trivial) ?_
            clear hK K
            try simp only [Act.put, List.setIfInBounds_toArray, List.set_cons_zero, List.set_cons_succ]
            refine take_op 14 (v := ?s1614v) rfl (by kernel_rfl) (fun _ _ _ h => h) (by rfl) hT (fun w' hS' => ?s1614y) ?s1614z
            case s1614y =>
              go_simp
              try go_ints
              first
              | rfl
              | (rw [if_pos (by omega)]; done)
              | rw [if_pos ⟨by omega, by omega⟩]
            simp only [List.setIfInBounds_toArray, List.set_cons_zero, List.set_cons_succ]
            refine step_op 15 (by kernel_rfl) rfl (fun K hK => ?_)
            have o15 := rowE.cellAt q (by rw [Nat.mul_one]; exact hqK)
            have fo15 := rowE.frozenAt q
            rw [List.getElem?_map, List.getElem?_eq_getElem (by rw [List.length_set]; rw [xlH.out]; exact hqK)] at o15
            rw [if_pos (by rfl)]
            go_simp
            clear o15 fo15
            have rowF := own_store rowE q x
            have hb15 : Below V3.heap.size U1 (U1.setCell ⟨g, q, none⟩ (.int .u8 (x : Int))) := (Below.refl V3.heap.size U1).setCell (p := ⟨g, q, none⟩) hgb _
            obtain ⟨U2, hU2⟩ : ∃ X, U1.setCell ⟨g, q, none⟩ (.int .u8 (x : Int)) = X := ⟨_, rfl⟩
            replace rowy := row_setCell rowy (a := ⟨g, q, none⟩) hneH.out (.int .u8 (x : Int))
            rw [hU2] at rowy
            rw [hU2] at rowF hb15 ⊢
            clear rowE hU2
            refine hK.out _ _ (fun h => trivial) ?_
            clear hK K
            try simp only [Act.put, List.setIfInBounds_toArray, List.set_cons_zero, List.set_cons_succ]
            refine done_ops (by kernel_rfl) ?_
            have hbE := hb0.trans (hb13.trans hb15)
            have rowG := rowF
            rw [← hx, ← hy, set_exch (by rw [xlH.out]; exact hpK) (by rw [xlH.out]; exact hqK)] at rowG
            clear rowF hb0 hb13 hb15 hT
            rw [exchL_exchL (by rw [hl1H.out]; exact hpK) (by rw [hl1H.out]; exact hqK)] at rowG
            have rdx := rowN_rd hl1H.out rowG
            have rdy := rowI_rd hl2H.out rowy
            have hbA := hbv.trans hbE
            have rdv := rdA1.later hbA
            have rdw := later_i rdA2 hbA
            have hBE := hBx.trans (hbE.mono (by have := hBx0.size; omega))
            have cv1 := conv_bytes x1c hl1H.out rdx
            have cv2 := conv_bytes q1 hl1H.out rdv
            clear rowG rowy hbA rdA1 rdA2 hbv hbE
            go_wp2_with (go_at_call 31; refine (SameInts_eq p2 (some ⟨gy, 0, none⟩) q2 x2c m ws (Lib.hid hl2H.out) _ (by omega) rdw rdy).mono ?_; rintro e W9 ⟨rfl, hb9⟩; clear cv1 cv2)
            go_ret
            exact ⟨rfl, hBE.trans (hb9.mono hBE.size)⟩

end Go.Proofs.YtbfigbpjoaccdaaGreat

/- The walk of the law JudgeFair: it returns true, and nothing that lay has turned. -/
import Derived.Test.YtbfigbpjoaccdaaGreatUSwA
import Derived.Test.YtbfigbpjoaccdaaGreatQC23
import Derived.Test.YtbfigbpjoaccdaaGreatQC2
namespace Go.Proofs.YtbfigbpjoaccdaaGreat
open Go Go.RowKit Go.Shelf
set_option linter.unusedVariables false
set_option linter.unusedSimpArgs false

/-- The first m rows are lists that lay before. -/
def RefRows (B : Nat) (W : World) (L : List Value) (xss : List (List Nat)) (m : Nat) : Prop :=
  L.length = m ∧ ∀ i xs, i < m → xss[i]? = some xs → ∃ a c, L[i]? = some (.slice a xs.length c) ∧ RdN B W a xs
theorem RefRows.snoc {B : Nat} {W : World} {L : List Value} {xss : List (List Nat)} {m : Nat} (h : RefRows B W L xss m) {xs : List Nat} (hx : xss[m]? = some xs) {a : Option Addr} {c : Nat} (hr : RdN B W a xs) :
    RefRows B W (L ++ [.slice a xs.length c]) xss (m + 1) := by
  refine ⟨by simp [h.1], fun i ys hi hy => ?_⟩
  by_cases e : i = m
  · subst e
    rw [hx] at hy
    cases hy
    exact ⟨a, c, by rw [List.getElem?_append_right (by rw [h.1]; exact Nat.le_refl _), h.1]; simp, hr⟩
  · obtain ⟨a', c', h1, h2⟩ := h.2 i ys (by omega) hy
    exact ⟨a', c', by rw [List.getElem?_append_left (by rw [h.1]; omega)]; exact h1, h2⟩
theorem RefRows.rdL {B : Nat} {V W : World} {L : List Value} {xss : List (List Nat)} {m : Nat} (h : RefRows V.heap.size V L xss m) (hV : Below V.heap.size V W) (hm : xss.length = m) {a : Option Addr} {c : Nat} (hr : W.ownsRow B 28 1 (.slice a m c) m L) : RdL W.heap.size W a xss := by
  subst hm
  rcases hr.2 with ⟨h1, h2⟩ | ⟨g, cap, cur, h1, _, hg, _⟩
  · exact .inl (List.eq_nil_of_length_eq_zero h2)
  · simp only [Value.slice.injEq, true_and] at h1
    obtain ⟨rfl, rfl⟩ := h1
    refine .inr ⟨g, 0, rfl, (Array.getElem?_eq_some_iff.1 hg).1, fun i xs hi => ?_⟩
    have hlt : i < xss.length := by
      rcases Nat.lt_or_ge i xss.length with h | h
      · exact h
      · rw [List.getElem?_eq_none h] at hi; cases hi
    obtain ⟨a', c', h3, h4⟩ := h.2 i xs hlt hi
    refine ⟨a', c', ?_, h4.later hV⟩
    rw [Nat.zero_add, hr.cellAt i (by omega), h3]
theorem OwnRows.later {B : Nat} {W W' : World} {L : List Value} {xss : List (List Nat)} {m : Nat} (h : OwnRows B W L xss m) (hb : Below W.heap.size W W') : OwnRows B W' L xss m :=
  ⟨h.1, fun i xs hi hx => by
    obtain ⟨a, c, h1, h2⟩ := h.2 i xs hi hx
    exact ⟨a, c, h1, row_below h2 hb⟩⟩
theorem swapX_row {xss : List (List Nat)} {i : Nat} {xs : List Nat} (h : xss[i]? = some xs) : (swapX xss)[i]? = some (xs.map swapL) := by rw [swapX_at, h]; rfl
set_option maxRecDepth 100000 in
set_option maxHeartbeats 16000000 in
theorem law_fair (a : Option Addr) (c n : Nat) (xss : List (List Nat)) (hn : xss.length = n) (w : World) (hm : n * 24 ≤ 140737488355328) (hrow : ∀ xs ∈ xss, xs.length ≤ 140737488355328) (hr : RdL w.heap.size w a xss) :
    Calls Tryz.prog 7 #[.slice a n c] w fun e w' => e = .returned (.bool true) ∧ Below w.heap.size w w' := by
  have hB : Below w.heap.size w w := Below.refl _ _
  obtain ⟨i1, gi, gz0, gz1, gz2⟩ := info_parts jinfo_u8s
  have hnH := Lib.hid hn
  have hrowH := Lib.hid hrow
  have rdi := hr
  clear hn hrow hr
  cases hv : vldJ xss with
  | false =>
    have hrec := recJ_bad hv
    have hrecH := Lib.hid hrec
    have hvH := Lib.hid hv
    clear hrec hv
    go_enter Tryz.func7, Tryz.ntmps7
    go_wp2_with fail
    have hc := alive8_any w
    refine hc.mono ?_
    clear hc
    rintro e V1 ⟨rfl, hb⟩
    replace rdi := rdi.later hb
    replace hB := hB.trans (hb.mono hB.size)
    clear hb
    go_wp2_with fail
    have hc := Reconcile_any xss n hnH.out a c V1 rdi
    unfold RetJ at hc
    rw [hrecH.out] at hc
    simp only [List.length_nil] at hc
    refine hc.mono ?_
    clear hc
    rintro e V2 ⟨p1, q1, p2, q2, rfl, rd1, rd2, hb⟩
    replace rdi := rdi.later hb
    replace hB := hB.trans (hb.mono hB.size)
    clear hb
    clear rd1 rd2
    go_wp2_with fail
    have hc := ValidLabels_any xss n hnH.out a c V2 rdi
    rw [hvH.out] at hc
    refine hc.mono ?_
    clear hc
    rintro e V3 ⟨rfl, hb⟩
    replace rdi := rdi.later hb
    replace hB := hB.trans (hb.mono hB.size)
    clear hb
    go_wp2_with fail
    go_ret
    exact ⟨rfl, hB⟩
  | true =>
    obtain ⟨hl1, hl2, he0, hpos, hvote⟩ := recJ_ok hv
    have hsw := recJ_swapX hv
    have hrv := recJ_rev hv
    have hlt := recJ_lt xss
    obtain ⟨hJ1, hJ2, hKL, hlen, hlab⟩ := vldJ_true hv
    obtain ⟨⟨vs, ws, er⟩, hR⟩ : ∃ r, recJ xss = r := ⟨_, rfl⟩
    rw [hR] at hl1 hl2 he0 hpos hvote hsw hrv hlt
    simp only at hl1 hl2 he0 hpos hvote hsw hrv hlt
    subst he0
    obtain ⟨KL, hK0⟩ : ∃ KL, len0 xss = KL := ⟨_, rfl⟩
    rw [hK0] at hl1 hKL hlen hvote
    rw [hnH.out] at hl2 hJ1 hJ2 hvote
    have hRH := Lib.hid hR
    have hswH := Lib.hid hsw
    have hrvH := Lib.hid hrv
    have hlenH := Lib.hid hlen
    have hvoteH := Lib.hid hvote
    have hposH := Lib.hid (getD_bd hpos)
    have hl1H := Lib.hid hl1
    have hl2H := Lib.hid hl2
    have hltH := Lib.hid hlt
    have hvH := Lib.hid hv
    clear hR hsw hrv hlen hvote hpos hlt hv hlab hK0 hl1 hl2
    go_enter Tryz.func7, Tryz.ntmps7
    go_wp2_with fail
    have hc := alive8_any w
    refine hc.mono ?_
    clear hc
    rintro e V1 ⟨rfl, hb⟩
    replace rdi := rdi.later hb
    replace hB := hB.trans (hb.mono hB.size)
    clear hb
    go_wp2_with fail
    have hc := Reconcile_any xss n hnH.out a c V1 rdi
    unfold RetJ at hc
    rw [hRH.out] at hc
    simp only [hl1H.out, hl2H.out] at hc
    refine hc.mono ?_
    clear hc
    rintro e V2 ⟨p1, q1, p2, q2, rfl, rd1, rd2, hb⟩
    replace rdi := rdi.later hb
    replace hB := hB.trans (hb.mono hB.size)
    clear hb
    go_wp2_with fail
    have hc := ValidLabels_any xss n hnH.out a c V2 rdi
    rw [hvH.out] at hc
    refine hc.mono ?_
    clear hc
    rintro e V3 ⟨rfl, hb⟩
    replace rdi := rdi.later hb
    replace rd1 := rd1.later hb
    replace rd2 := later_i rd2 hb
    replace hB := hB.trans (hb.mono hB.size)
    clear hb
    go_wp2_with fail
    have hBV := hB
    have rdiH := Lib.hid rdi
    have rd1H := Lib.hid rd1
    have rd2H := Lib.hid rd2
    clear hB rdi rd1 rd2
    go_loopw [7, 8, 9] (fun o t i wr => ∃ (m : Nat) (L1 L2 : List Value), m ≤ n ∧ i = .int .i64 (m : Int) ∧ wr.ownsRow V3.heap.size 28 1 o m L1 ∧ Hid (OwnRows V3.heap.size wr L1 (swapX xss) m) ∧ wr.ownsRow V3.heap.size 28 1 t m L2 ∧ Hid (RefRows V3.heap.size V3 L2 xss.reverse m) ∧ Hid (Dis o t) ∧ Below V3.heap.size V3 wr) (fun _ _ i _ => n - (intOf i).toNat)
    case atStart => exact ⟨0, [], [], Nat.zero_le _, rfl, World.ownsRow_nil _ _ _ _, Lib.hid ⟨rfl, fun i xs hi => by omega⟩, World.ownsRow_nil _ _ _ _, Lib.hid ⟨rfl, fun i xs hi => by omega⟩, Lib.hid (fun b hb => by cases hb), Below.refl _ _⟩
    case round =>
      obtain ⟨m, L1, L2, hm1, rfl, row1, hO, row2, hF, hdis, hB⟩ := hrel
      by_cases hmt : m < n
      case pos =>
        obtain ⟨xs, hxs⟩ : ∃ x, xss[m]? = some x := ⟨_, List.getElem?_eq_getElem (by have := hnH.out; omega)⟩
        obtain ⟨q, hq⟩ : ∃ q, n - 1 - m = q := ⟨_, rfl⟩
        have hqn : q < n := by omega
        have hqe : (n : Int) - 1 - (m : Int) = (q : Int) := by omega
        obtain ⟨ys, hys⟩ : ∃ x, xss[q]? = some x := ⟨_, List.getElem?_eq_getElem (by have := hnH.out; omega)⟩
        obtain ⟨b, o, hbo, hb, a1, c1, hc1, hr1⟩ := rdiH.out.at hxs
        obtain ⟨b', o', hbo', hb', a3, c3, hc3, hr3⟩ := rdiH.out.at hys
        rw [hbo] at hbo'
        simp only [Option.some.injEq, Addr.mk.injEq, and_true] at hbo'
        obtain ⟨rfl, rfl⟩ := hbo'
        subst hbo
        have hx1 : xs.length = KL := hlenH.out m xs hxs
        have hx3 : ys.length = KL := hlenH.out q ys hys
        have hrev : xss.reverse[m]? = some ys := by rw [rev_at (by have := hnH.out; omega), hnH.out, hq]; exact hys
        have hF2 := Lib.hid (fun c => hx3 ▸ hF.out.snoc hrev (c := c) hr3)
        have hsnH := Lib.hid (fun (W : World) (a2 : Option Addr) (c2 : Nat) (h : OwnRows V3.heap.size W L1 (swapX xss) m) (hr : W.ownsRow V3.heap.size 5 1 (.slice a2 KL c2) KL ((xs.map swapL).map vu8)) => (show OwnRows V3.heap.size W (L1 ++ [.slice a2 KL c2]) (swapX xss) (m + 1) by
          have e : (xs.map swapL).length = KL := by rw [List.length_map, hx1]
          have h2 := h.snoc (swapX_row hxs) (a := a2) (c := c2) (by rw [e]; exact hr)
          rw [e] at h2
          exact h2))
        rw [hx1] at hc1
        rw [hx3] at hc3
        have hc1' := (hB.cell (p := ⟨b, o + m, none⟩) hb).trans hc1
        have hsc := swapped_any a1 c1 KL xs hx1 (by omega) wr (hr1.later hB)
        have row1H := Lib.hid row1
        have row2H := Lib.hid row2
        clear hx1 hx3 hrev hys hxs hr1 hr3 hc1 row1 row2
        go_wp2_with (first
          | (go_at_call 30; refine hsc.mono ?_; rintro e W2 ⟨a2, c2, rfl, row5, hb5⟩; have hB2 := hB.trans (hb5.mono hB.size); have row12 := (row_below row1H.out hb5).alloc (.cells #[.slice a2 KL c2] 28); have row22 := (row_below row2H.out hb5).alloc (.cells #[.slice a2 KL c2] 28); have hO2 := Lib.hid ((hsnH.out _ _ _ (hO.out.later hb5) (jrow_weaken row5 hB.size)).kept (World.grownBy_alloc W2 (.cells #[.slice a2 KL c2] 28) none) (fun g cur e => by cases e)); have hB3 := jb_al hB2 (.cells #[.slice a2 KL c2] 28); clear hsc row5 hb5 row1H row2H hc1')
          | (have _t := hO2; at_builtin; refine wpList_append_own_at _ rfl _ _ 52 rfl V3.heap.size 28 i1 (.slice none 0 0) 1 24 Tryz.underlying52 gi gz0 gz1 gz2 rfl (by decide) u7 m L1 rfl row12 ⟨W2.heap.size, 0, none⟩ 1 1 [.slice a2 KL c2] rfl rfl (cell_one_new _ _ _) (by simp [Value.oneCell']) (by unfold maxLen; omega) (by omega) hB3.size ?_; intro v4 W4 hown4 hg4 _ hat4; clear _t; have hO4 := Lib.hid (hO2.out.kept hg4 (row_type row12 (by decide))); have row24 := row22.kept hg4 hdis.out.ne; have hdis4 := Lib.hid (hdis.out.grown hat4 (fun b e => (row22.lt b e).2)); have hB4 := hB3.grown hg4 hB3.size (fun k e => (row12.lt k e).1); have hcq := (hB4.cell (p := ⟨b, o + q, none⟩) hb).trans hc3; have row14 := hown4.alloc (.cells #[.slice a3 KL c3] 28); have row24' := row24.alloc (.cells #[.slice a3 KL c3] 28); have hB5 := jb_al hB4 (.cells #[.slice a3 KL c3] 28); clear hg4 hO2 row12 row22 hB3 hat4 hown4 row24)
          | (at_builtin; refine wpList_append_own_at _ rfl _ _ 52 rfl V3.heap.size 28 i1 (.slice none 0 0) 1 24 Tryz.underlying52 gi gz0 gz1 gz2 rfl (by decide) u8 m L2 rfl row24' ⟨W4.heap.size, 0, none⟩ 1 1 [.slice a3 KL c3] rfl rfl (cell_one_new _ _ _) (by simp [Value.oneCell']) (by unfold maxLen; omega) (by omega) hB5.size ?_; intro v6 W6 hown6 hg6 _ hat6; have hO6 := Lib.hid ((hO4.out.kept (World.grownBy_alloc W4 (.cells #[.slice a3 KL c3] 28) none) (fun g cur e => by cases e)).kept hg6 (row_type row24' (by decide))); have row16 := row14.kept hg6 hdis4.out.symm.ne; have hdis6 := Lib.hid (hdis4.out.symm.grown hat6 (fun b e => (row14.lt b e).2)).symm; have hB6 := hB5.grown hg6 hB5.size (fun k e => (row24'.lt k e).1); clear hg6 hO4 row24' row14 hat6 hB5 hcq))
        go_roundw
        case rel => exact ⟨m + 1, L1 ++ [.slice a2 KL c2], L2 ++ [.slice a3 KL c3], by omega, by go_num, row16, hO6, hown6, Lib.hid (hF2.out c3), hdis6, hB6⟩
        case measure => simp [intOf]; omega
      case neg =>
        have hmn : m = n := by omega
        subst hmn
        obtain ⟨oa, oc, rfl⟩ := jrow_slice row1
        obtain ⟨ta, tc, rfl⟩ := jrow_slice row2
        have rdo := hO.out.rdL (by rw [swapX_length]; exact hnH.out) row1
        have rdt := hF.out.rdL hB (by rw [List.length_reverse]; exact hnH.out) row2
        have rdi := rdiH.out.later hB
        have rd1 := rd1H.out.later hB
        have rd2 := later_i rd2H.out hB
        replace hB := hBV.trans (hB.mono hBV.size)
        clear hO hF hdis row1 row2 rdiH rd1H rd2H hBV gi gz0 gz1 gz2
        go_wp2_with fail
        have hc := Reconcile_any (swapX xss) m (by rw [swapX_length]; exact hnH.out) oa oc wr rdo
        unfold RetJ at hc
        rw [hswH.out] at hc
        simp only [List.length_map, hl1H.out, hl2H.out] at hc
        refine hc.mono ?_
        clear hc
        rintro e V4 ⟨x1, x1c, x2, x2c, rfl, rdx, rdy, hb⟩
        replace rdi := rdi.later hb
        replace rd1 := rd1.later hb
        replace rd2 := later_i rd2 hb
        replace rdo := rdo.later hb
        replace rdt := rdt.later hb
        replace hB := hB.trans (hb.mono hB.size)
        clear hb
        go_wp2_with fail
        have hc := Reconcile_any xss.reverse m (by rw [List.length_reverse]; exact hnH.out) ta tc V4 rdt
        unfold RetJ at hc
        rw [hrvH.out] at hc
        simp only [List.length_reverse, hl1H.out, hl2H.out] at hc
        refine hc.mono ?_
        clear hc
        rintro e V5 ⟨p3, p3c, p4, p4c, rfl, rdp, rdq, hb⟩
        replace rdi := rdi.later hb
        replace rd1 := rd1.later hb
        replace rd2 := later_i rd2 hb
        replace rdo := rdo.later hb
        replace rdt := rdt.later hb
        replace rdx := rdx.later hb
        replace rdy := later_i rdy hb
        replace hB := hB.trans (hb.mono hB.size)
        clear hb
        go_wp2_with fail
        obtain ⟨ys, hys⟩ : ∃ x, xss[0]? = some x := ⟨_, List.getElem?_eq_getElem (by have := hnH.out; omega)⟩
        obtain ⟨b0, o0, rfl, hb0, a0, c0, hc0, _⟩ := rdi.at hys
        rw [hlenH.out 0 ys hys, Nat.add_zero] at hc0
        have hS : Below V5.heap.size V5 V5.drew := (Below.refl _ _).drew
        have hxl : (vs.map swapL).length = KL := by rw [List.length_map]; exact hl1H.out
        have hxlH := Lib.hid hxl
        clear hxl hys
        refine plain_region (fun W' => Below V5.heap.size V5 W') 54 54 (by kernel_rfl) rfl ?_
        simp only [Array.replicate_succ, Array.replicate_zero, List.push_toArray, List.nil_append, List.cons_append]
        obtain ⟨X0, hXX0⟩ : ∃ X : World, V5.drew = X := ⟨_, rfl⟩
        rw [hXX0] at hS ⊢
        clear hXX0
        refine take_op 0 (v := ?rv0) rfl (by kernel_rfl) (fun _ _ _ h => h) (by rfl) hS (fun w' hS' => ?ry0) ?rz0
        case ry0 =>
          go_simp
          rfl
        simp only [List.setIfInBounds_toArray, List.set_cons_zero, List.set_cons_succ]
        refine take_op 1 (v := .bool false) rfl (by kernel_rfl) (fun _ _ _ h => h) (by rfl) hS (fun w' hS' => ?ry1) ?rz1
        case ry1 =>
          clear hS'
          go_simp
          first | done | rfl | (simp; done)
        simp only [List.setIfInBounds_toArray, List.set_cons_zero, List.set_cons_succ]
        refine take_op 2 (v := .bool false) rfl (by kernel_rfl) (fun _ _ _ h => h) (by rfl) hS (fun w' hS' => ?ry2) ?rz2
        case ry2 =>
          clear hS'
          go_simp
          first | done | rfl | (simp; done)
        simp only [List.setIfInBounds_toArray, List.set_cons_zero, List.set_cons_succ]
        refine take_op 3 (v := ?rv3) rfl (by kernel_rfl) (fun _ _ _ h => h) (by rfl) hS (fun w' hS' => ?ry3) ?rz3
        case ry3 =>
          go_simp
          rfl
        simp only [List.setIfInBounds_toArray, List.set_cons_zero, List.set_cons_succ]
        refine take_op 4 (v := .bool false) rfl (by kernel_rfl) (fun _ _ _ h => h) (by rfl) hS (fun w' hS' => ?ry4) ?rz4
        case ry4 =>
          clear hS'
          go_simp
          first | done | rfl | (simp; done)
        simp only [List.setIfInBounds_toArray, List.set_cons_zero, List.set_cons_succ]
        refine take_op 5 (v := .bool false) rfl (by kernel_rfl) (fun _ _ _ h => h) (by rfl) hS (fun w' hS' => ?ry5) ?rz5
        case ry5 =>
          clear hS'
          go_simp
          first | done | rfl | (simp; done)
        simp only [List.setIfInBounds_toArray, List.set_cons_zero, List.set_cons_succ]
        refine take_op 6 (v := .bool false) rfl (by kernel_rfl) (fun _ _ _ h => h) (by rfl) hS (fun w' hS' => ?ry6) ?rz6
        case ry6 =>
          clear hS'
          go_simp
          first | done | rfl | (simp; done)
        simp only [List.setIfInBounds_toArray, List.set_cons_zero, List.set_cons_succ]
        refine take_op 7 (v := ?rv7) rfl (by kernel_rfl) (fun _ _ _ h => h) (by rfl) hS (fun w' hS' => ?ry7) ?rz7
        case ry7 =>
          go_simp
          rfl
        simp only [List.setIfInBounds_toArray, List.set_cons_zero, List.set_cons_succ]
        refine take_op 8 (v := .bool false) rfl (by kernel_rfl) (fun _ _ _ h => h) (by rfl) hS (fun w' hS' => ?ry8) ?rz8
        case ry8 =>
          clear hS'
          go_simp
          first | done | rfl | (simp; done)
        simp only [List.setIfInBounds_toArray, List.set_cons_zero, List.set_cons_succ]
        refine take_op 9 (v := .bool false) rfl (by kernel_rfl) (fun _ _ _ h => h) (by rfl) hS (fun w' hS' => ?ry9) ?rz9
        case ry9 =>
          clear hS'
          go_simp
          first | done | rfl | (simp; done)
        simp only [List.setIfInBounds_toArray, List.set_cons_zero, List.set_cons_succ]
        refine take_op 10 (v := .bool false) rfl (by kernel_rfl) (fun _ _ _ h => h) (by rfl) hS (fun w' hS' => ?ry10) ?rz10
        case ry10 =>
          clear hS'
          go_simp
          first | done | rfl | (simp; done)
        simp only [List.setIfInBounds_toArray, List.set_cons_zero, List.set_cons_succ]
        refine take_op 11 (v := ?rv11) rfl (by kernel_rfl) (fun _ _ _ h => h) (by rfl) hS (fun w' hS' => ?ry11) ?rz11
        case ry11 =>
          go_simp
          rfl
        simp only [List.setIfInBounds_toArray, List.set_cons_zero, List.set_cons_succ]
        refine take_op 12 (v := ?rv12) rfl (by kernel_rfl) (fun _ _ _ h => h) (by rfl) hS (fun w' hS' => ?ry12) ?rz12
        case ry12 =>
          go_simp
          rfl
        simp only [List.setIfInBounds_toArray, List.set_cons_zero, List.set_cons_succ]
        refine take_op 13 (v := ?rv13) rfl (by kernel_rfl) (fun _ _ _ h => h) (by rfl) hS (fun w' hS' => ?ry13) ?rz13
        case ry13 =>
          go_simp
          rfl
        simp only [List.setIfInBounds_toArray, List.set_cons_zero, List.set_cons_succ]
        refine take_op 14 (v := ?rv14) rfl (by kernel_rfl) (fun _ _ _ h => h) (by rfl) hS (fun w' hS' => ?ry14) ?rz14
        case ry14 =>
          go_simp
          try go_ints
          first
          | rfl
          | (rw [if_pos (by omega)]; done)
          | rw [if_pos ⟨by omega, by omega⟩]
        simp only [List.setIfInBounds_toArray, List.set_cons_zero, List.set_cons_succ]
        refine take_op 15 (v := ?rv15) rfl (by kernel_rfl) (fun _ _ _ h => h) (by rfl) hS (fun w' hS' => ?ry15) ?rz15
        case ry15 =>
          have d0 := (hS'.cell (p := ⟨b0, o0, none⟩) hb0).trans hc0
          clear hS'
          go_simp
          rfl
        simp only [List.setIfInBounds_toArray, List.set_cons_zero, List.set_cons_succ]
        refine take_op 16 (v := ?rv16) rfl (by kernel_rfl) (fun _ _ _ h => h) (by rfl) hS (fun w' hS' => ?ry16) ?rz16
        case ry16 =>
          go_simp
          rfl
        simp only [List.setIfInBounds_toArray, List.set_cons_zero, List.set_cons_succ]
        refine take_op 17 (v := .bool false) rfl (by kernel_rfl) (fun _ _ _ h => h) (by rfl) hS (fun w' hS' => ?ry17) ?rz17
        case ry17 =>
          clear hS'
          go_simp
          first | done | rfl | (simp; done)
        simp only [List.setIfInBounds_toArray, List.set_cons_zero, List.set_cons_succ]
        refine take_op 18 (v := .bool false) rfl (by kernel_rfl) (fun _ _ _ h => h) (by rfl) hS (fun w' hS' => ?ry18) ?rz18
        case ry18 =>
          clear hS'
          go_simp
          first | done | rfl | (simp; done)
        simp only [List.setIfInBounds_toArray, List.set_cons_zero, List.set_cons_succ]
        refine take_op 19 (v := .bool false) rfl (by kernel_rfl) (fun _ _ _ h => h) (by rfl) hS (fun w' hS' => ?ry19) ?rz19
        case ry19 =>
          clear hS'
          go_simp
          first | done | rfl | (simp; done)
        simp only [List.setIfInBounds_toArray, List.set_cons_zero, List.set_cons_succ]
        refine take_op 20 (v := ?rv20) rfl (by kernel_rfl) (fun _ _ _ h => h) (by rfl) hS (fun w' hS' => ?ry20) ?rz20
        case ry20 =>
          go_simp
          rfl
        simp only [List.setIfInBounds_toArray, List.set_cons_zero, List.set_cons_succ]
        refine take_op 21 (v := ?rv21) rfl (by kernel_rfl) (fun _ _ _ h => h) (by rfl) hS (fun w' hS' => ?ry21) ?rz21
        case ry21 =>
          go_simp
          rfl
        simp only [List.setIfInBounds_toArray, List.set_cons_zero, List.set_cons_succ]
        refine take_op 22 (v := ?rv22) rfl (by kernel_rfl) (fun _ _ _ h => h) (by rfl) hS (fun w' hS' => ?ry22) ?rz22
        case ry22 =>
          go_simp
          rfl
        simp only [List.setIfInBounds_toArray, List.set_cons_zero, List.set_cons_succ]
        refine take_op 23 (v := ?rv23) rfl (by kernel_rfl) (fun _ _ _ h => h) (by rfl) hS (fun w' hS' => ?ry23) ?rz23
        case ry23 =>
          go_simp
          rfl
        simp only [List.setIfInBounds_toArray, List.set_cons_zero, List.set_cons_succ]
        refine take_op 24 (v := .bool false) rfl (by kernel_rfl) (fun _ _ _ h => h) (by rfl) hS (fun w' hS' => ?ry24) ?rz24
        case ry24 =>
          clear hS'
          go_simp
          first | done | rfl | (simp; done)
        simp only [List.setIfInBounds_toArray, List.set_cons_zero, List.set_cons_succ]
        refine take_op 25 (v := .bool false) rfl (by kernel_rfl) (fun _ _ _ h => h) (by rfl) hS (fun w' hS' => ?ry25) ?rz25
        case ry25 =>
          clear hS'
          go_simp
          first | done | rfl | (simp; done)
        simp only [List.setIfInBounds_toArray, List.set_cons_zero, List.set_cons_succ]
        refine take_op 26 (v := .bool false) rfl (by kernel_rfl) (fun _ _ _ h => h) (by rfl) hS (fun w' hS' => ?ry26) ?rz26
        case ry26 =>
          clear hS'
          go_simp
          first | done | rfl | (simp; done)
        simp only [List.setIfInBounds_toArray, List.set_cons_zero, List.set_cons_succ]
        refine take_op 27 (v := ?rv27) rfl (by kernel_rfl) (fun _ _ _ h => h) (by rfl) hS (fun w' hS' => ?ry27) ?rz27
        case ry27 =>
          go_simp
          rfl
        simp only [List.setIfInBounds_toArray, List.set_cons_zero, List.set_cons_succ]
        refine take_op 28 (v := ?rv28) rfl (by kernel_rfl) (fun _ _ _ h => h) (by rfl) hS (fun w' hS' => ?ry28) ?rz28
        case ry28 =>
          go_simp
          rfl
        simp only [List.setIfInBounds_toArray, List.set_cons_zero, List.set_cons_succ]
        refine take_op 29 (v := ?rv29) rfl (by kernel_rfl) (fun _ _ _ h => h) (by rfl) hS (fun w' hS' => ?ry29) ?rz29
        case ry29 =>
          go_simp
          rfl
        simp only [List.setIfInBounds_toArray, List.set_cons_zero, List.set_cons_succ]
        refine take_op 30 (v := ?rv30) rfl (by kernel_rfl) (fun _ _ _ h => h) (by rfl) hS (fun w' hS' => ?ry30) ?rz30
        case ry30 =>
          go_simp
          rfl
        simp only [List.setIfInBounds_toArray, List.set_cons_zero, List.set_cons_succ]
        refine take_op 31 (v := .bool false) rfl (by kernel_rfl) (fun _ _ _ h => h) (by rfl) hS (fun w' hS' => ?ry31) ?rz31
        case ry31 =>
          clear hS'
          go_simp
          first | done | rfl | (simp; done)
        simp only [List.setIfInBounds_toArray, List.set_cons_zero, List.set_cons_succ]
        refine take_op 32 (v := .bool false) rfl (by kernel_rfl) (fun _ _ _ h => h) (by rfl) hS (fun w' hS' => ?ry32) ?rz32
        case ry32 =>
          clear hS'
          go_simp
          first | done | rfl | (simp; done)
        simp only [List.setIfInBounds_toArray, List.set_cons_zero, List.set_cons_succ]
        refine take_op 33 (v := .bool false) rfl (by kernel_rfl) (fun _ _ _ h => h) (by rfl) hS (fun w' hS' => ?ry33) ?rz33
        case ry33 =>
          clear hS'
          go_simp
          first | done | rfl | (simp; done)
        simp only [List.setIfInBounds_toArray, List.set_cons_zero, List.set_cons_succ]
        refine take_op 34 (v := ?rv34) rfl (by kernel_rfl) (fun _ _ _ h => h) (by rfl) hS (fun w' hS' => ?ry34) ?rz34
        case ry34 =>
          go_simp
          rfl
        simp only [List.setIfInBounds_toArray, List.set_cons_zero, List.set_cons_succ]
        refine take_op 35 (v := .string (bsN (vs.map swapL))) rfl (by kernel_rfl) (fun _ _ _ h => h) (by rfl) hS (fun w' hS' => ?ry35) ?rz35
        case ry35 =>
          have d := conv_bytes x1c hxlH.out (rdx.later hS')
          clear hS'
          go_simp
          try rfl
        simp only [List.setIfInBounds_toArray, List.set_cons_zero, List.set_cons_succ]
        refine take_op 36 (v := ?rv36) rfl (by kernel_rfl) (fun _ _ _ h => h) (by rfl) hS (fun w' hS' => ?ry36) ?rz36
        case ry36 =>
          go_simp
          rfl
        simp only [List.setIfInBounds_toArray, List.set_cons_zero, List.set_cons_succ]
        refine step_op 37 (by kernel_rfl) rfl (fun K hK => ?_)
        rw [if_pos (by rfl)]
        go_simp
        refine (swapped_any p1 q1 KL vs hl1H.out (by omega) X0 (rd1.later hS)).mono ?_
        rintro e X1 ⟨a5, c5, rfl, row5, hb⟩
        have rd5 := rowN_rd hxlH.out row5
        have hS1 : Below V5.heap.size V5 X1 := hS.trans (hb.mono hS.size)
        clear hb row5
        refine hK.out _ _ (fun h => hS1) ?_
        clear hK K
        try simp only [Act.put, List.setIfInBounds_toArray, List.set_cons_zero, List.set_cons_succ]
        refine step_op 38 (by kernel_rfl) rfl (fun K hK => ?_)
        have d := conv_bytes c5 hxlH.out rd5
        rw [if_pos (by rfl)]
        go_simp
        refine hK.out _ _ (fun h => hS1) ?_
        clear hK K
        try simp only [Act.put, List.setIfInBounds_toArray, List.set_cons_zero, List.set_cons_succ]
        refine take_op 39 (v := .bool false) rfl (by kernel_rfl) (fun _ _ _ h => h) (by rfl) hS1 (fun w' hS' => ?ry39) ?rz39
        case ry39 =>
          clear hS'
          go_simp
          first | done | rfl | (simp; done)
        simp only [List.setIfInBounds_toArray, List.set_cons_zero, List.set_cons_succ]
        refine take_op 40 (v := .bool false) rfl (by kernel_rfl) (fun _ _ _ h => h) (by rfl) hS1 (fun w' hS' => ?ry40) ?rz40
        case ry40 =>
          clear hS'
          go_simp
          first | done | rfl | (simp; done)
        simp only [List.setIfInBounds_toArray, List.set_cons_zero, List.set_cons_succ]
        refine take_op 41 (v := .bool false) rfl (by kernel_rfl) (fun _ _ _ h => h) (by rfl) hS1 (fun w' hS' => ?ry41) ?rz41
        case ry41 =>
          clear hS'
          go_simp
          first | done | rfl | (simp; done)
        simp only [List.setIfInBounds_toArray, List.set_cons_zero, List.set_cons_succ]
        refine take_op 42 (v := ?rv42) rfl (by kernel_rfl) (fun _ _ _ h => h) (by rfl) hS1 (fun w' hS' => ?ry42) ?rz42
        case ry42 =>
          go_simp
          rfl
        simp only [List.setIfInBounds_toArray, List.set_cons_zero, List.set_cons_succ]
        refine take_op 43 (v := ?rv43) rfl (by kernel_rfl) (fun _ _ _ h => h) (by rfl) hS1 (fun w' hS' => ?ry43) ?rz43
        case ry43 =>
          go_simp
          rfl
        simp only [List.setIfInBounds_toArray, List.set_cons_zero, List.set_cons_succ]
        refine step_op 44 (by kernel_rfl) rfl (fun K hK => ?_)
        rw [if_pos (by rfl)]
        go_simp
        refine (SameInts_eq x2 p2 x2c q2 m ws (Lib.hid hl2H.out) X1 (by omega) (later_i rdy hS1) (later_i rd2 hS1)).mono ?_
        rintro e X2 ⟨rfl, hb⟩
        have hS2 : Below V5.heap.size V5 X2 := hS1.trans (hb.mono hS1.size)
        clear hb rd5
        refine hK.out _ _ (fun h => hS2) ?_
        clear hK K
        try simp only [Act.put, List.setIfInBounds_toArray, List.set_cons_zero, List.set_cons_succ]
        refine take_op 45 (v := .bool false) rfl (by kernel_rfl) (fun _ _ _ h => h) (by rfl) hS2 (fun w' hS' => ?ry45) ?rz45
        case ry45 =>
          clear hS'
          go_simp
          first | done | rfl | (simp; done)
        simp only [List.setIfInBounds_toArray, List.set_cons_zero, List.set_cons_succ]
        refine take_op 46 (v := .bool false) rfl (by kernel_rfl) (fun _ _ _ h => h) (by rfl) hS2 (fun w' hS' => ?ry46) ?rz46
        case ry46 =>
          clear hS'
          go_simp
          first | done | rfl | (simp; done)
        simp only [List.setIfInBounds_toArray, List.set_cons_zero, List.set_cons_succ]
        refine take_op 47 (v := .bool false) rfl (by kernel_rfl) (fun _ _ _ h => h) (by rfl) hS2 (fun w' hS' => ?ry47) ?rz47
        case ry47 =>
          clear hS'
          go_simp
          first | done | rfl | (simp; done)
        simp only [List.setIfInBounds_toArray, List.set_cons_zero, List.set_cons_succ]
        refine take_op 48 (v := ?rv48) rfl (by kernel_rfl) (fun _ _ _ h => h) (by rfl) hS2 (fun w' hS' => ?ry48) ?rz48
        case ry48 =>
          go_simp
          rfl
        simp only [List.setIfInBounds_toArray, List.set_cons_zero, List.set_cons_succ]
        refine take_op 49 (v := .string (bsN vs)) rfl (by kernel_rfl) (fun _ _ _ h => h) (by rfl) hS2 (fun w' hS' => ?ry49) ?rz49
        case ry49 =>
          have d := conv_bytes p3c hl1H.out (rdp.later hS')
          clear hS'
          go_simp
          try rfl
        simp only [List.setIfInBounds_toArray, List.set_cons_zero, List.set_cons_succ]
        refine take_op 50 (v := ?rv50) rfl (by kernel_rfl) (fun _ _ _ h => h) (by rfl) hS2 (fun w' hS' => ?ry50) ?rz50
        case ry50 =>
          go_simp
          rfl
        simp only [List.setIfInBounds_toArray, List.set_cons_zero, List.set_cons_succ]
        refine take_op 51 (v := .string (bsN vs)) rfl (by kernel_rfl) (fun _ _ _ h => h) (by rfl) hS2 (fun w' hS' => ?ry51) ?rz51
        case ry51 =>
          have d := conv_bytes q1 hl1H.out (rd1.later hS')
          clear hS'
          go_simp
          try rfl
        simp only [List.setIfInBounds_toArray, List.set_cons_zero, List.set_cons_succ]
        refine take_op 52 (v := .bool false) rfl (by kernel_rfl) (fun _ _ _ h => h) (by rfl) hS2 (fun w' hS' => ?ry52) ?rz52
        case ry52 =>
          clear hS'
          go_simp
          first | done | rfl | (simp; done)
        simp only [List.setIfInBounds_toArray, List.set_cons_zero, List.set_cons_succ]
        refine take_op 53 (v := .bool false) rfl (by kernel_rfl) (fun _ _ _ h => h) (by rfl) hS2 (fun w' hS' => ?ry53) ?rz53
        case ry53 =>
          clear hS'
          go_simp
          first | done | rfl | (simp; done)
        simp only [List.setIfInBounds_toArray, List.set_cons_zero, List.set_cons_succ]
        refine done_ops (by kernel_rfl) ?_
        clear hS hS1
        have hBX := hB.trans (hS2.mono hB.size)
        replace rdi := rdi.later hS2
        replace rd1 := rd1.later hS2
        replace rd2 := later_i rd2 hS2
        replace rdq := later_i rdq hS2
        clear hB rdx rdy rdo rdt rdp hS2 hc0
        obtain ⟨V5, hV5⟩ : ∃ V : World, V = X2 := ⟨_, rfl⟩
        subst hV5
        rcases rd2 with h0 | ⟨b2, o2, rfl, hb2, hc2⟩
        · exfalso; have := hl2H.out; rw [h0] at this; simp at this; omega
        rcases rdq with h0 | ⟨b3, o3, rfl, hb3, hc3⟩
        · exfalso; have := hl2H.out; rw [List.reverse_eq_nil_iff] at h0; rw [h0] at this; simp at this; omega
        have hc2H := Lib.hid hc2
        have hc3H := Lib.hid hc3
        clear hc2 hc3
        go_wp2_with fail
        go_loopw [16] (fun i wr => ∃ k : Nat, k ≤ m ∧ i = .int .i64 (k : Int) ∧ Below V5.heap.size V5 wr) (fun i _ => m - (intOf i).toNat)
        case atStart => exact ⟨0, Nat.zero_le _, rfl, Below.refl _ _⟩
        case round =>
          obtain ⟨k, hk, rfl, hB⟩ := hrel
          by_cases hlt : k < m
          case pos =>
            obtain ⟨q, hq⟩ : ∃ q, m - 1 - k = q := ⟨_, rfl⟩
            have hqn : q < m := by omega
            have hqe : (m : Int) - 1 - (k : Int) = (q : Int) := by omega
            have hq2 : (ws.reverse)[k]?.getD 0 = ws[q]?.getD 0 := by rw [List.getElem?_reverse (by rw [hl2H.out]; exact hlt), hl2H.out, hq]
            have e1 := hc2H.out k (by rw [hl2H.out]; exact hlt)
            have e2 := hc2H.out q (by rw [hl2H.out]; exact hqn)
            have e3 := hc3H.out k (by rw [List.length_reverse, hl2H.out]; exact hlt)
            rw [hq2] at e3
            obtain ⟨y, hy⟩ : ∃ y, ws[k]?.getD 0 = y := ⟨_, rfl⟩
            obtain ⟨z, hz⟩ : ∃ z, ws[q]?.getD 0 = z := ⟨_, rfl⟩
            have hy0 := hposH.out k
            rw [hy] at e1 hy0
            rw [hz] at e2 e3
            have hyd : decide (y < 0) = false := decide_eq_false (by omega)
            have hyn : ¬ (y < 0) := by omega
            clear hq hq2 hy hz
            have hS : Below V5.heap.size V5 wr.drew := hB.drew
            go_wp2_with fail
            refine plain_region (fun W' => Below V5.heap.size V5 W') 20 20 (by kernel_rfl) rfl ?_
            simp only [Array.replicate_succ, Array.replicate_zero, List.push_toArray, List.nil_append, List.cons_append]
            refine take_op 0 (v := ?qv0) rfl (by kernel_rfl) (fun _ _ _ h => h) (by rfl) hS (fun w' hS' => ?qy0) ?qz0
            case qy0 =>
              go_simp
              rfl
            simp only [List.setIfInBounds_toArray, List.set_cons_zero, List.set_cons_succ]
            refine take_op 1 (v := ?qv1) rfl (by kernel_rfl) (fun _ _ _ h => h) (by rfl) hS (fun w' hS' => ?qy1) ?qz1
            case qy1 =>
              go_simp
              rfl
            simp only [List.setIfInBounds_toArray, List.set_cons_zero, List.set_cons_succ]
            refine take_op 2 (v := ?qv2) rfl (by kernel_rfl) (fun _ _ _ h => h) (by rfl) hS (fun w' hS' => ?qy2) ?qz2
            case qy2 =>
              go_simp
              try go_ints
              first
              | rfl
              | (rw [if_pos (by omega)]; done)
              | rw [if_pos ⟨by omega, by omega⟩]
            simp only [List.setIfInBounds_toArray, List.set_cons_zero, List.set_cons_succ]
            refine take_op 3 (v := ?qv3) rfl (by kernel_rfl) (fun _ _ _ h => h) (by rfl) hS (fun w' hS' => ?qy3) ?qz3
            case qy3 =>
              have d1 := (hS'.cell (p := ⟨b2, o2 + k, none⟩) hb2).trans e1
              have d2 := (hS'.cell (p := ⟨b2, o2 + q, none⟩) hb2).trans e2
              have d3 := (hS'.cell (p := ⟨b3, o3 + k, none⟩) hb3).trans e3
              clear hS'
              go_simp
              rfl
            simp only [List.setIfInBounds_toArray, List.set_cons_zero, List.set_cons_succ]
            refine take_op 4 (v := .bool false) rfl (by kernel_rfl) (fun _ _ _ h => h) (by rfl) hS (fun w' hS' => ?qy4) ?qz4
            case qy4 =>
              clear hS'
              go_simp
              first | done | rfl | (simp; done)
            simp only [List.setIfInBounds_toArray, List.set_cons_zero, List.set_cons_succ]
            refine take_op 5 (v := .bool false) rfl (by kernel_rfl) (fun _ _ _ h => h) (by rfl) hS (fun w' hS' => ?qy5) ?qz5
            case qy5 =>
              clear hS'
              go_simp
              first | done | rfl | (simp; done)
            simp only [List.setIfInBounds_toArray, List.set_cons_zero, List.set_cons_succ]
            refine take_op 6 (v := ?qv6) rfl (by kernel_rfl) (fun _ _ _ h => h) (by rfl) hS (fun w' hS' => ?qy6) ?qz6
            case qy6 =>
              go_simp
              rfl
            simp only [List.setIfInBounds_toArray, List.set_cons_zero, List.set_cons_succ]
            refine take_op 7 (v := ?qv7) rfl (by kernel_rfl) (fun _ _ _ h => h) (by rfl) hS (fun w' hS' => ?qy7) ?qz7
            case qy7 =>
              go_simp
              rfl
            simp only [List.setIfInBounds_toArray, List.set_cons_zero, List.set_cons_succ]
            refine take_op 8 (v := ?qv8) rfl (by kernel_rfl) (fun _ _ _ h => h) (by rfl) hS (fun w' hS' => ?qy8) ?qz8
            case qy8 =>
              go_simp
              try go_ints
              first
              | rfl
              | (rw [if_pos (by omega)]; done)
              | rw [if_pos ⟨by omega, by omega⟩]
            simp only [List.setIfInBounds_toArray, List.set_cons_zero, List.set_cons_succ]
            refine take_op 9 (v := ?qv9) rfl (by kernel_rfl) (fun _ _ _ h => h) (by rfl) hS (fun w' hS' => ?qy9) ?qz9
            case qy9 =>
              have d1 := (hS'.cell (p := ⟨b2, o2 + k, none⟩) hb2).trans e1
              have d2 := (hS'.cell (p := ⟨b2, o2 + q, none⟩) hb2).trans e2
              have d3 := (hS'.cell (p := ⟨b3, o3 + k, none⟩) hb3).trans e3
              clear hS'
              go_simp
              rfl
            simp only [List.setIfInBounds_toArray, List.set_cons_zero, List.set_cons_succ]
            refine take_op 10 (v := ?qv10) rfl (by kernel_rfl) (fun _ _ _ h => h) (by rfl) hS (fun w' hS' => ?qy10) ?qz10
            case qy10 =>
              go_simp
              rfl
            simp only [List.setIfInBounds_toArray, List.set_cons_zero, List.set_cons_succ]
            refine take_op 11 (v := ?qv11) rfl (by kernel_rfl) (fun _ _ _ h => h) (by rfl) hS (fun w' hS' => ?qy11) ?qz11
            case qy11 =>
              go_simp
              rfl
            simp only [List.setIfInBounds_toArray, List.set_cons_zero, List.set_cons_succ]
            refine take_op 12 (v := ?qv12) rfl (by kernel_rfl) (fun _ _ _ h => h) (by rfl) hS (fun w' hS' => ?qy12) ?qz12
            case qy12 =>
              go_simp
              rfl
            simp only [List.setIfInBounds_toArray, List.set_cons_zero, List.set_cons_succ]
            refine take_op 13 (v := ?qv13) rfl (by kernel_rfl) (fun _ _ _ h => h) (by rfl) hS (fun w' hS' => ?qy13) ?qz13
            case qy13 =>
              go_simp
              try go_ints
              rfl
            simp only [List.setIfInBounds_toArray, List.set_cons_zero, List.set_cons_succ]
            refine take_op 14 (v := ?qv14) rfl (by kernel_rfl) (fun _ _ _ h => h) (by rfl) hS (fun w' hS' => ?qy14) ?qz14
            case qy14 =>
              go_simp
              rfl
            simp only [List.setIfInBounds_toArray, List.set_cons_zero, List.set_cons_succ]
            refine take_op 15 (v := .int .i64 (q : Int)) rfl (by kernel_rfl) (fun _ _ _ h => h) (by rfl) hS (fun w' hS' => ?qy15) ?qz15
            case qy15 =>
              clear hS'
              go_simp
              try simp only [hqe]
              try go_ints
              first | done | rfl | trivial
            simp only [List.setIfInBounds_toArray, List.set_cons_zero, List.set_cons_succ]
            refine take_op 16 (v := ?qv16) rfl (by kernel_rfl) (fun _ _ _ h => h) (by rfl) hS (fun w' hS' => ?qy16) ?qz16
            case qy16 =>
              go_simp
              try go_ints
              first
              | rfl
              | (rw [if_pos (by omega)]; done)
              | rw [if_pos ⟨by omega, by omega⟩]
            simp only [List.setIfInBounds_toArray, List.set_cons_zero, List.set_cons_succ]
            refine take_op 17 (v := ?qv17) rfl (by kernel_rfl) (fun _ _ _ h => h) (by rfl) hS (fun w' hS' => ?qy17) ?qz17
            case qy17 =>
              have d1 := (hS'.cell (p := ⟨b2, o2 + k, none⟩) hb2).trans e1
              have d2 := (hS'.cell (p := ⟨b2, o2 + q, none⟩) hb2).trans e2
              have d3 := (hS'.cell (p := ⟨b3, o3 + k, none⟩) hb3).trans e3
              clear hS'
              go_simp
              rfl
            simp only [List.setIfInBounds_toArray, List.set_cons_zero, List.set_cons_succ]
            refine take_op 18 (v := .bool false) rfl (by kernel_rfl) (fun _ _ _ h => h) (by rfl) hS (fun w' hS' => ?qy18) ?qz18
            case qy18 =>
              clear hS'
              go_simp
              first | done | rfl | (simp; done)
            simp only [List.setIfInBounds_toArray, List.set_cons_zero, List.set_cons_succ]
            refine take_op 19 (v := .bool false) rfl (by kernel_rfl) (fun _ _ _ h => h) (by rfl) hS (fun w' hS' => ?qy19) ?qz19
            case qy19 =>
              clear hS'
              go_simp
              first | done | rfl | (simp; done)
            simp only [List.setIfInBounds_toArray, List.set_cons_zero, List.set_cons_succ]
            refine done_ops (by kernel_rfl) ?_
            go_wp2_with fail
            go_roundw
            case rel => exact ⟨k + 1, by omega, by go_num, hS⟩
            case measure => simp [intOf]; omega
          case neg =>
            have hkm : k = m := by omega
            subst hkm
            replace hBX := hBX.trans (hB.mono hBX.size)
            replace rdi := rdi.later hB
            replace rd1 := rd1.later hB
            have hc2 := Lib.hid (fun i hi => (hB.cell (p := ⟨b2, o2 + i, none⟩) hb2).trans (hc2H.out i hi))
            clear hB hc2H hc3H hb2 hb3
            have rdiH := Lib.hid rdi
            have rd1H := Lib.hid rd1
            clear rdi rd1
            go_wp2_with fail
            go_loop [17] (fun i => ∃ q : Nat, q ≤ KL ∧ i = .int .i64 (q : Int)) (fun i => KL - (intOf i).toNat)
            case atStart => exact ⟨0, Nat.zero_le _, rfl⟩
            case round =>
              obtain ⟨q, hq, rfl⟩ := hrel
              by_cases hqK : q < KL
              case pos =>
                obtain ⟨wF, hwF⟩ : ∃ f, (fun i : Nat => ws[i]?.getD 0) = f := ⟨_, rfl⟩
                have hwb : ∀ i, 0 ≤ wF i ∧ wF i ≤ 100 := fun i => by rw [← hwF]; exact hposH.out i
                have hsb := Lib.hid (fun v j => sumW_wb (lab := labF xss) hwb v q j)
                have hvq : vs[q]?.getD 0 = verd (sumW (labF xss) wF 1 q k) (sumW (labF xss) wF 2 q k) := by rw [hvoteH.out, vote_at hqK, hwF]
                have hvqH := Lib.hid hvq
                have hwfH := Lib.hid (fun i => congrFun hwF i)
                clear hwF hwb hvq
                go_wp2_with fail
                go_loop [18, 19, 20] (fun y z i => ∃ (j : Nat) (s1 s2 : Int), j ≤ k ∧ i = .int .i64 (j : Int) ∧ y = .int .i64 s1 ∧ z = .int .i64 s2 ∧ Hid (sumW (labF xss) wF 1 q j = s1) ∧ Hid (sumW (labF xss) wF 2 q j = s2) ∧ (0 ≤ s1 ∧ s1 ≤ 100 * j) ∧ (0 ≤ s2 ∧ s2 ≤ 100 * j)) (fun _ _ i => k - (intOf i).toNat)
                case atStart => exact ⟨0, 0, 0, Nat.zero_le _, rfl, rfl, rfl, Lib.hid rfl, Lib.hid rfl, by omega, by omega⟩
                case round =>
                  obtain ⟨j, s1, s2, hj, rfl, rfl, rfl, h1, h2, hs1, hs2⟩ := hrel
                  by_cases hjt : j < k
                  case pos =>
                    obtain ⟨xs, hxs⟩ : ∃ x, xss[j]? = some x := ⟨_, List.getElem?_eq_getElem (by have := hnH.out; omega)⟩
                    obtain ⟨b, o, hbo, hb, a1, c1, hc1, hr1⟩ := rdiH.out.at hxs
                    simp only [Option.some.injEq, Addr.mk.injEq, and_true] at hbo
                    obtain ⟨rfl, rfl⟩ := hbo
                    have hxl : xs.length = KL := hlenH.out j xs hxs
                    have hlk : labF xss j q = xs[q]?.getD 0 := by unfold labF; rw [hxs]; rfl
                    rcases hr1 with h0 | ⟨b1, o1, rfl, hb1, hcl⟩
                    · exfalso; rw [h0] at hxl; simp at hxl; omega
                    have hcell := hcl q (by rw [hxl]; exact hqK)
                    rw [← hlk] at hcell
                    have hcw := hc2.out j (by rw [hl2H.out]; exact hjt)
                    rw [hwfH.out j] at hcw
                    have g1 := sumW_snoc (labF xss) wF 1 q j
                    have g2 := sumW_snoc (labF xss) wF 2 q j
                    rw [h1.out] at g1
                    rw [h2.out] at g2
                    have hb1' := hsb.out 1 (j + 1)
                    have hb2' := hsb.out 2 (j + 1)
                    rw [g1] at hb1'
                    rw [g2] at hb2'
                    obtain ⟨y, hy⟩ : ∃ y, labF xss j q = y := ⟨_, rfl⟩
                    obtain ⟨z, hz⟩ : ∃ z, wF j = z := ⟨_, rfl⟩
                    rw [hy] at hcell g1 g2 hb1' hb2'
                    rw [hz] at hcw g1 g2 hb1' hb2'
                    rw [hxl] at hc1
                    clear hxs hlk hcl hy hz hxl
                    by_cases y1 : y = 1
                    · subst y1
                      rw [if_pos rfl] at g1 hb1'
                      rw [if_neg (by decide), Int.add_zero] at g2
                      clear hb2'
                      have g1H := Lib.hid g1
                      have g2H := Lib.hid g2
                      clear g1 g2
                      go_wp2_with fail
                      go_round
                      case rel => exact ⟨j + 1, s1 + z, s2, by omega, by go_num, rfl, rfl, g1H, g2H, by omega, by omega⟩
                      case measure => simp [intOf]; omega
                    by_cases y2 : y = 2
                    · subst y2
                      rw [if_pos rfl] at g2 hb2'
                      rw [if_neg (by decide), Int.add_zero] at g1
                      clear hb1'
                      have g1H := Lib.hid g1
                      have g2H := Lib.hid g2
                      clear g1 g2 y1
                      go_wp2_with fail
                      go_round
                      case rel => exact ⟨j + 1, s1, s2 + z, by omega, by go_num, rfl, rfl, g1H, g2H, by omega, by omega⟩
                      case measure => simp [intOf]; omega
                    rw [if_neg y1, Int.add_zero] at g1
                    rw [if_neg y2, Int.add_zero] at g2
                    have e1 : ((y : Int) == 1) = false := by simp; omega
                    have e2 : ((y : Int) == 2) = false := by simp; omega
                    have e3 : ¬ (y : Int) = 1 := by omega
                    have e4 : ¬ (y : Int) = 2 := by omega
                    have g1H := Lib.hid g1
                    have g2H := Lib.hid g2
                    clear g1 g2 hb1' hb2'
                    go_wp2_with fail
                    go_round
                    case rel => exact ⟨j + 1, s1, s2, by omega, by go_num, rfl, rfl, g1H, g2H, by omega, by omega⟩
                    case measure => simp [intOf]; omega
                  case neg =>
                    have hjk : j = k := by omega
                    subst hjk
                    have hvq := hvqH.out
                    rw [h1.out, h2.out] at hvq
                    rcases rd1H.out with h0 | ⟨b1, o1, rfl, hb1, hcv⟩
                    · exfalso; have := hl1H.out; rw [h0] at this; simp at this; omega
                    have hcell := hcv q (by rw [hl1H.out]; exact hqK)
                    rw [hvq] at hcell
                    clear hvq hvqH hsb h1 h2 hcv
                    unfold verd at hcell
                    by_cases y1 : s2 < s1
                    · rw [if_pos y1] at hcell
                      have y1d : decide (s2 < s1) = true := decide_eq_true y1
                      have y2 : ¬ (s1 < s2) := by omega
                      have y2d : decide (s1 < s2) = false := decide_eq_false y2
                      go_wp2_with fail
                      go_round
                      case rel => exact ⟨q + 1, by omega, by go_num⟩
                      case measure => simp [intOf]; omega
                    rw [if_neg y1] at hcell
                    have y1d : decide (s2 < s1) = false := decide_eq_false y1
                    by_cases y2 : s1 < s2
                    · rw [if_pos y2] at hcell
                      have y2d : decide (s1 < s2) = true := decide_eq_true y2
                      go_wp2_with fail
                      go_round
                      case rel => exact ⟨q + 1, by omega, by go_num⟩
                      case measure => simp [intOf]; omega
                    rw [if_neg y2] at hcell
                    have y2d : decide (s1 < s2) = false := decide_eq_false y2
                    go_wp2_with fail
                    go_round
                    case rel => exact ⟨q + 1, by omega, by go_num⟩
                    case measure => simp [intOf]; omega
              case neg =>
                go_wp2_with fail
                go_ret
                exact ⟨rfl, hBX⟩

end Go.Proofs.YtbfigbpjoaccdaaGreat

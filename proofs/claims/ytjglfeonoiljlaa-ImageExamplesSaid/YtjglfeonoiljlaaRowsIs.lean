/- Images out of rows written in the law: what 'rows', 'line' and 'is' return. -/
import Derived.Test.YtjglfeonoiljlaaFW
import Derived.Maps.AppendAt
namespace Go.Proofs.Ytjglfeonoiljlaa
open Go Go.RowKit Go.Shelf
set_option linter.unusedVariables false
set_option linter.unusedSimpArgs false

attribute [local go_sem] Oper.semAt_some

theorem row_cellsB {W : World} {B : Nat} {v : Value} {k : Nat} {xs : List Value} (h : W.ownsRow B 3 1 v k xs) {r : Nat} (hv : v.ownBlock = some r) : B ≤ r ∧ ∃ cur, W.heap[r]? = some (.cells cur 3 (0, 0)) := by
  rcases h.2 with ⟨rfl, _⟩ | ⟨g', cap, cur, rfl, h1, h2, _⟩
  · simp [Value.ownBlock] at hv
  · simp [Value.ownBlock] at hv; subst hv; exact ⟨h1, cur, h2⟩

theorem step_append_atB {P : Program} {ops : Array Oper} {o : Oper} {a : Act} {w : World} {K : Act → World → Prop} {Q : Exit → Act → World → Prop} {E : Prop}
    (hg : o.guard = none) (s x : Operand) (t : TypeId) (hop : o.op = Op.call { callee := Callee.builtin Builtin.append, args := #[s, x], argTypes := #[t, t] })
    (base : Nat) (e : TypeId) (i : TypeInfo) (z : Value) (size bytes : Nat) (h1 : P.underlying t = some (.slice e)) (h2 : P.info? e = some i) (h3 : i.zero = some z) (h4 : i.size = size) (h5 : i.bytes = bytes) (h6 : z.cells.size = size) (h7 : 0 < size)
    (v : Value) (k : Nat) (xs : List Value) (hs : a.eval s = v) (hown : w.ownsRow base e size v k xs) (ad : Addr) (m c : Nat) (news : List Value) (hx : a.eval x = .slice (some ad) m c) (hn : news.length = m * size)
    (hc : ∀ j u, news[j]? = some u → w.cell? (ad.add j) = some u) (h1c : ∀ u ∈ news, u.oneCell' = true) (b1 : k + m ≤ maxLen) (b2 : (k + m) * bytes ≤ 140737488355328) (b3 : base ≤ w.heap.size)
    (hK : ∀ v' w', w'.ownsRow base e size v' (k + m) (xs ++ news) → w.grownBy w' v.ownBlock → (v'.ownBlock = v.ownBlock ∨ v'.ownBlock = some w.heap.size) → K (a.put o.dst v') w') :
    if Region.wanted o (yielded ops a.tmps) = true then Oper.wp P o a w K Q else E := by
  have hw : Region.wanted o (yielded ops a.tmps) = true := by simp [Region.wanted, hg]
  rw [if_pos hw]
  obtain ⟨v', w', hrun, r1, r2, _, r3⟩ := run_append_own_at (P := P) w base t o.type e i z size bytes h1 h2 h3 h4 h5 h6 h7 v k xs hown ad m c news hn hc h1c b1 b2 b3
  unfold Oper.wp
  simp [execOp, hop, resolve, invoke, builtin, hs, hx, hrun, Result.andThen]
  exact hK v' w' r1 r2 r3

/-- A slice of slices that are not empty, read as lists, in blocks below B. -/
def RdSS (B : Nat) (W : World) (a : Option Addr) (xss : List (List Int)) : Prop :=
  ∃ b o, a = some ⟨b, o, none⟩ ∧ b < B ∧ ∀ i xs, xss[i]? = some xs → ∃ b' o' c, W.cell? ⟨b, o + i, none⟩ = some (.slice (some ⟨b', o', none⟩) xs.length c) ∧ b' < B ∧ ∀ j x, xs[j]? = some x → W.cell? ⟨b', o' + j, none⟩ = some (.int .i64 x)

/-- The memory within 'rows': the result's variable, the image that grows. -/
structure RW (B : Nat) (x y : Int) (w W : World) (v : Value) (L : List Int) : Prop where
  k2 : Blk W B 24 #[.int .i64 0, .int .i64 0, .slice none 0 0]
  k3 : Blk W (B + 1) 24 #[.int .i64 x, .int .i64 y, v]
  row : W.ownsRow B 3 1 v L.length (L.map (Value.int .i64))
  bel : Below B w W

set_option maxRecDepth 100000 in
set_option maxHeartbeats 8000000 in
theorem rows_any (xss : List (List Int)) (xs0 : List Int) (h0 : xss[0]? = some xs0) (htot : xss.flatten.length ≤ 1000) (hk : xss.length ≤ 1000) (a : Option Addr) (c : Nat) (w : World) (hr : RdSS w.heap.size w a xss) :
    Calls Try.prog 72 #[.slice a xss.length c] w fun e w' => (∃ v, e = .returned v ∧ OwnIm w.heap.size w' v xs0.length xss.length xss.flatten) ∧ Below w.heap.size w w' := by
  obtain ⟨b, o, rfl, hb, hcell⟩ := hr
  have hk0 : 0 < xss.length := (List.getElem?_eq_some_iff.1 h0).1
  obtain ⟨i0, hi, hz0, hz1, hz2⟩ := info_parts info_int
  obtain ⟨b0, o0, c0, hc0, hb0, hr0⟩ := hcell 0 xs0 h0
  have hx0 : xs0.length ≤ 1000 := by
    cases xss with
    | nil => simp at h0
    | cons y r => simp at h0; subst h0; simp at htot; omega
  have hB1 : Below w.heap.size w (w.alloc (.cells #[.int .i64 0, .int .i64 0, .slice none 0 0] 24)) := below_al (Below.refl _ _) _
  have k2 := Blk.new w 24 #[.int .i64 0, .int .i64 0, .slice none 0 0]
  have cc0 := (hB1.cell (p := ⟨b, o, none⟩) hb).trans hc0
  refine (callsIn_wide (n := 10)).1 ?_
  refine callsIn_of_wp_marks Try.func72 rfl trivial ?_
  simp only [Try.ntmps72, List.size_toArray, List.length_cons, List.length_nil, Nat.reduceAdd, Nat.reduceSub, Array.replicate_succ, Array.replicate_zero, List.push_toArray, List.append_toArray, List.nil_append, List.cons_append]
  gi_wp2_with fail
  clear cc0
  have k3 := Blk.new (w.alloc (.cells #[.int .i64 0, .int .i64 0, .slice none 0 0] 24)) 24 #[.int .i64 xs0.length, .int .i64 xss.length, .slice none 0 0]
  have hB2 := below_al hB1 (.cells #[.int .i64 xs0.length, .int .i64 xss.length, .slice none 0 0] 24)
  have k2b := k2.alloc (.cells #[.int .i64 xs0.length, .int .i64 xss.length, .slice none 0 0] 24)
  simp only [World.size_alloc] at k3
  have hRW : RW w.heap.size xs0.length xss.length w ((w.alloc (.cells #[.int .i64 0, .int .i64 0, .slice none 0 0] 24)).alloc (.cells #[.int .i64 xs0.length, .int .i64 xss.length, .slice none 0 0] 24)) (.slice none 0 0) (xss.take 0).flatten := ⟨k2b, k3, World.ownsRow_nil _ _ _ _, hB2⟩
  clear k2 k3 hB1 hB2 k2b
  refine loopM (fun m a' w' => ∃ (i : Nat) (v : Value), i ≤ xss.length ∧ RW w.heap.size xs0.length xss.length w w' v (xss.take i).flatten ∧ m = xss.length - i ∧ ∃ u : Nat → Value, a' = ⟨#[.slice (some ⟨b, o, none⟩) xss.length c, u 1, .pointer (some ⟨w.heap.size, 0, none⟩), .pointer (some ⟨w.heap.size + 1, 0, none⟩), .int .i64 i, u 5, u 6, u 7, u 8, u 9, u 10, u 11, u 12, u 13, u 14, u 15, u 16, u 17, u 18, u 19, u 20, u 21, u 22, u 23, u 24, u 25, u 26], []⟩) xss.length ?start ?round
  case start => exact ⟨0, _, Nat.zero_le _, hRW, rfl, ex_fn rfl⟩
  case round =>
    clear hRW
    rintro m a' W ⟨i, v, hin, hR, rfl, u, rfl⟩
    by_cases hlt : i < xss.length
    · obtain ⟨xs, hxs⟩ : ∃ xs, xss[i]? = some xs := ⟨_, List.getElem?_eq_getElem hlt⟩
      obtain ⟨b1, o1, c1, hc1, hb1, hr1⟩ := hcell i xs hxs
      have hfl : (xss.take (i + 1)).flatten = (xss.take i).flatten ++ xs := by
        rw [List.take_add_one, hxs]; simp
      have hle : (xss.take i).flatten.length + xs.length ≤ 1000 := by
        have h1 : xss.flatten = (xss.take (i + 1)).flatten ++ (xss.drop (i + 1)).flatten := by rw [← List.flatten_append, List.take_append_drop]
        have h2 := congrArg List.length h1
        rw [List.length_append, hfl, List.length_append] at h2
        omega
      obtain ⟨Li, hLi⟩ : ∃ L, (xss.take i).flatten = L := ⟨_, rfl⟩
      rw [hLi] at hfl hle hR
      have hfH := Lib.hid hfl
      clear hfl hLi
      gi_wp2_with fail
      refine wpIn_mono (Q := fun e' a' w' => e' = .normal ∧ ∃ v', RW w.heap.size xs0.length xss.length w w' v' (xss.take (i + 1)).flatten ∧ ∃ u : Nat → Value, a' = ⟨#[.slice (some ⟨b, o, none⟩) xss.length c, u 1, .pointer (some ⟨w.heap.size, 0, none⟩), .pointer (some ⟨w.heap.size + 1, 0, none⟩), .int .i64 i, u 5, u 6, u 7, u 8, u 9, u 10, u 11, u 12, u 13, u 14, u 15, u 16, u 17, u 18, u 19, u 20, u 21, u 22, u 23, u 24, u 25, u 26], []⟩) ?d5 ?c5
      case d5 =>
          refine wpIn_wide.2 ?_
          have hS : W.grownBy W.drew v.ownBlock := ⟨rfl, rfl, rfl, Nat.le_refl _, fun _ _ _ => rfl⟩
          have hbd : Below W.heap.size W W.drew := (Below.refl _ _).drew
          have hnews : ∀ j u, (xs.map (Value.int .i64))[j]? = some u → W.drew.cell? (Addr.add ⟨b1, o1, none⟩ j) = some u := fun j u hj => by
            rw [List.getElem?_map] at hj
            obtain ⟨x, hx, rfl⟩ := Option.map_eq_some_iff.1 hj
            rw [Addr.add_lit]
            exact ((hR.bel.trans (hbd.mono hR.bel.size)).cell (p := ⟨b1, o1 + j, none⟩) hb1).trans (hr1 j x hx)
          refine plain_region (fun W' => W.grownBy W' v.ownBlock) 8 9 (by kernel_rfl) rfl ?_
          simp only [Array.replicate_succ, Array.replicate_zero, List.push_toArray, List.nil_append, List.cons_append]
          obtain ⟨Vd, hVd⟩ : ∃ X, W.drew = X := ⟨_, rfl⟩
          rw [hVd] at hS hbd hnews ⊢
          clear hVd
          have hbds := hbd.size
          refine take_op 0 (v := ?qv0) rfl (by kernel_rfl) (fun _ _ _ h => nomatch h.1) (by rfl) hS (fun w' hS' => ?qy0) ?qz0
          case qy0 =>
            go_simp
            rfl
          simp only [List.setIfInBounds_toArray, List.set_cons_zero, List.set_cons_succ]
          refine take_op 1 (v := ?qv1) rfl (by kernel_rfl) (fun _ _ _ h => nomatch h.1) (by rfl) hS (fun w' hS' => ?qy1) ?qz1
          case qy1 =>
            have hbW' : Below w.heap.size w w' := hR.bel.grown hS' hR.bel.size (fun k e => (row_cellsB hR.row e).1)
            have m2 := (hR.k3.kept hS' (hR.k3.not_row (by decide) hR.row)).cell (i := 2) rfl
            have hci := (hbW'.cell (p := ⟨b, o + i, none⟩) hb).trans hc1
            go_simp
            rfl
          simp only [List.setIfInBounds_toArray, List.set_cons_zero, List.set_cons_succ]
          refine take_op 2 (v := ?qv2) rfl (by kernel_rfl) (fun _ _ _ h => nomatch h.1) (by rfl) hS (fun w' hS' => ?qy2) ?qz2
          case qy2 =>
            go_simp
            rfl
          simp only [List.setIfInBounds_toArray, List.set_cons_zero, List.set_cons_succ]
          refine take_op 3 (v := ?qv3) rfl (by kernel_rfl) (fun _ _ _ h => nomatch h.1) (by rfl) hS (fun w' hS' => ?qy3) ?qz3
          case qy3 =>
            go_simp
            rfl
          simp only [List.setIfInBounds_toArray, List.set_cons_zero, List.set_cons_succ]
          refine take_op 4 (v := ?qv4) rfl (by kernel_rfl) (fun _ _ _ h => nomatch h.1) (by rfl) hS (fun w' hS' => ?qy4) ?qz4
          case qy4 =>
            go_simp
            try go_ints
            first
            | rfl
            | rw [if_pos ⟨by omega, by omega⟩]
          simp only [List.setIfInBounds_toArray, List.set_cons_zero, List.set_cons_succ]
          refine take_op 5 (v := ?qv5) rfl (by kernel_rfl) (fun _ _ _ h => nomatch h.1) (by rfl) hS (fun w' hS' => ?qy5) ?qz5
          case qy5 =>
            have hbW' : Below w.heap.size w w' := hR.bel.grown hS' hR.bel.size (fun k e => (row_cellsB hR.row e).1)
            have m2 := (hR.k3.kept hS' (hR.k3.not_row (by decide) hR.row)).cell (i := 2) rfl
            have hci := (hbW'.cell (p := ⟨b, o + i, none⟩) hb).trans hc1
            go_simp
            rfl
          simp only [List.setIfInBounds_toArray, List.set_cons_zero, List.set_cons_succ]
          refine step_op 6 (by kernel_rfl) rfl (fun K hK => ?_)
          refine step_append_atB rfl (.tmp 19) (.tmp 23) 22 rfl w.heap.size 3 i0 (.int .i64 0) 1 8 Try.underlying22 hi hz0 hz1 hz2 rfl (by decide) v _ _ rfl (row_below hR.row hbd) ⟨b1, o1, none⟩ xs.length c1 (xs.map (Value.int .i64)) rfl (by simp) hnews (by simp [Value.oneCell']) (by unfold maxLen; omega) (by omega) (Nat.le_trans hR.bel.size hbd.size) ?_
          intro v' w4 hown' hg4 hvb
          obtain ⟨va, vc, rfl⟩ := row_slice hown'
          have hS5 : W.grownBy w4 v.ownBlock := grown_trans hS hg4
          refine hK.out _ _ (fun h => hS5) ?_
          clear hK K
          try simp only [Act.put, List.setIfInBounds_toArray, List.set_cons_zero, List.set_cons_succ]
          refine take_op 7 (v := ?qv7) rfl (by kernel_rfl) (fun _ _ _ h => nomatch h.1) (by rfl) hS5 (fun w' hS' => ?qy7) ?qz7
          case qy7 =>
            go_simp
            rfl
          simp only [List.setIfInBounds_toArray, List.set_cons_zero, List.set_cons_succ]
          refine step_op 8 (by kernel_rfl) rfl (fun K hK => ?_)
          have q4 := hR.k3.kept hS5 (hR.k3.not_row (by decide) hR.row)
          have o2 := q4.cell (i := 2) rfl
          have fo2 := q4.frozen 2
          rw [if_pos (by rfl)]
          go_simp
          refine hK.out _ _ (fun h => absurd h (by omega)) ?_
          clear hK K
          try simp only [Act.put, List.setIfInBounds_toArray, List.set_cons_zero, List.set_cons_succ]
          refine done_ops (by kernel_rfl) ?_
          have hset := blk_set_grown w4 (w.heap.size + 1) 2 (.slice va (Li.length + xs.length) vc)
          have hl3 := hR.k3.lt
          have hlen5 : (xss.take (i + 1)).flatten.length = Li.length + xs.length := by rw [hfH.out, List.length_append]
          have hmap : ((xss.take (i + 1)).flatten).map (Value.int .i64) = (Li).map (Value.int .i64) ++ xs.map (Value.int .i64) := by rw [hfH.out, List.map_append]
          have hb4 : Below w.heap.size w w4 := hR.bel.grown hS5 hR.bel.size (fun k e => (row_cellsB hR.row e).1)
          have hk2 := hR.k2.kept hS5 (hR.k2.not_row (by decide) hR.row)
          have hk3 := hR.k3.kept hS5 (hR.k3.not_row (by decide) hR.row)
          have hne3 := hk3.not_row (by decide) hown'
          refine ⟨rfl, .slice va (Li.length + xs.length) vc, ⟨hk2.kept hset (by simp), hk3.set 2 _, ?_, hb4.grown hset hb4.size (fun k e => by cases e; omega)⟩, ex_fn rfl⟩
          rw [hmap, hlen5]
          exact hown'.kept hset (.inr (fun h => hne3 h.symm))
      case c5 =>
        rintro e' a' w' ⟨rfl, v', hR', u, rfl⟩
        gi_wp2_with fail
        exact ⟨xss.length - (i + 1), by omega, i + 1, v', hlt, hR', rfl, ex_fn rfl⟩
    · have hni : i = xss.length := by omega
      subst hni
      rw [List.take_length] at hR
      obtain ⟨FL, hFL⟩ : ∃ L, xss.flatten = L := ⟨_, rfl⟩
      rw [hFL] at hR
      obtain ⟨va, vc, rfl⟩ := row_slice hR.row
      have m0 := hR.k3.cell (i := 0) rfl
      have m1 := hR.k3.cell (i := 1) rfl
      have m2 := hR.k3.cell (i := 2) rfl
      have r0 := hR.k2.cell (i := 0) rfl
      have r1 := hR.k2.cell (i := 1) rfl
      have r2 := hR.k2.cell (i := 2) rfl
      have fr0 := hR.k2.frozen 0
      have fr1 := hR.k2.frozen 1
      have fr2 := hR.k2.frozen 2
      gi_wp2_with fail
      clear m0 m1 m2 r0 r1 r2 fr0 fr1 fr2
      have kf := put3_blk hR.k2 (.int .i64 xs0.length) (.int .i64 xss.length) (.slice va FL.length vc)
      have rowf := put3_row hR.row (hR.k2.not_row (by decide) hR.row) (.int .i64 xs0.length) (.int .i64 xss.length) (.slice va FL.length vc)
      have g0 := kf.cell (i := 0) rfl
      have g1 := kf.cell (i := 1) rfl
      have g2 := kf.cell (i := 2) rfl
      exact ⟨.agg #[.int .i64 xs0.length, .int .i64 xss.length, .slice va FL.length vc], by simp [results, Try.results72, go_sem, g0, g1, g2], ⟨_, rfl, ⟨_, rfl, by rw [hFL]; exact rowf⟩⟩, hR.bel.trans (put3_below (Nat.le_refl _) _ _ _)⟩

theorem RdSS.mono {B B' : Nat} {W : World} {a : Option Addr} {xss : List (List Int)} (h : RdSS B W a xss) (hB : B ≤ B') : RdSS B' W a xss := by
  obtain ⟨b, o, h1, h2, h3⟩ := h
  refine ⟨b, o, h1, by omega, fun i xs hi => ?_⟩
  obtain ⟨b', o', c, e1, e2, e3⟩ := h3 i xs hi
  exact ⟨b', o', c, e1, by omega, e3⟩
theorem RdSS.below {B B' : Nat} {W W' : World} {a : Option Addr} {xss : List (List Int)} (h : RdSS B W a xss) (hB : B ≤ B') (hb : Below B W W') : RdSS B W' a xss := by
  obtain ⟨b, o, h1, h2, h3⟩ := h
  refine ⟨b, o, h1, h2, fun i xs hi => ?_⟩
  obtain ⟨b', o', c, e1, e2, e3⟩ := h3 i xs hi
  exact ⟨b', o', c, (hb.cell (p := ⟨b, o + i, none⟩) h2).trans e1, e2, fun j x hj => (hb.cell (p := ⟨b', o' + j, none⟩) e2).trans (e3 j x hj)⟩

theorem rows_lit (xss : List (List Int)) (xs0 : List Int) (h0 : xss[0]? = some xs0) (htot : xss.flatten.length ≤ 1000) (hk : xss.length ≤ 1000) (x y : Int) (L : List Int) (k : Nat) (hx : (xs0.length : Int) = x) (hy : (xss.length : Int) = y) (hL : xss.flatten = L) (hkk : xss.length = k) (a : Option Addr) (c : Nat) (w : World) (hr : RdSS w.heap.size w a xss) :
    Calls Try.prog 72 #[.slice a k c] w fun e w' => (∃ v, e = .returned v ∧ OwnIm w.heap.size w' v x y L) ∧ Below w.heap.size w w' := by
  subst hx hy hL hkk
  exact rows_any xss xs0 h0 htot hk a c w hr

theorem line_any (a : Option Addr) (n c : Nat) (w : World) :
    Calls Try.prog 71 #[.slice a n c] w fun e w' => e = .returned (imv n 1 a n c) ∧ Below w.heap.size w w' := by
  have hB : Below w.heap.size w (w.alloc (.cells #[.int .i64 n, .int .i64 1, .slice a n c] 64)) := below_al (Below.refl _ _) _
  have k := Blk.new w 64 #[.int .i64 n, .int .i64 1, .slice a n c]
  have g0 := k.cell (i := 0) rfl
  have g1 := k.cell (i := 1) rfl
  have g2 := k.cell (i := 2) rfl
  go_enter Try.func71, Try.ntmps71
  go_wp2
  exact bodyPost_ret (v := imv n 1 a n c) (by simp [results, Try.results71, go_sem, g0, g1, g2]) rfl ⟨rfl, hB⟩

set_option maxRecDepth 100000 in
set_option maxHeartbeats 8000000 in
theorem is_true (xss : List (List Int)) (xs0 : List Int) (h0 : xss[0]? = some xs0) (htot : xss.flatten.length ≤ 1000) (hk : xss.length ≤ 1000) (x y : Int) (L : List Int) (k : Nat) (hx : (xs0.length : Int) = x) (hy : (xss.length : Int) = y) (hL : xss.flatten = L) (hkk : xss.length = k) (a1 : Option Addr) (c1 n : Nat) (hn : Hid (L.length = n)) (hm : n ≤ 9223372036854775807) (a : Option Addr) (c : Nat) (w : World) (h1 : Rd w.heap.size w a1 L) (hr : RdSS w.heap.size w a xss) :
    Calls Try.prog 73 #[imv x y a1 n c1, .int .i64 0, .slice a k c] w fun e w' => e = .returned (.bool true) ∧ Below w.heap.size w w' := by
  have hB0 : Below w.heap.size w (w.alloc (.cells #[.int .i64 x, .int .i64 y, .slice a1 n c1] 24)) := below_al (Below.refl _ _) _
  have k3 := Blk.new w 24 #[.int .i64 x, .int .i64 y, .slice a1 n c1]
  obtain ⟨W, hW⟩ : ∃ W, w.alloc (.cells #[.int .i64 x, .int .i64 y, .slice a1 n c1] 24) = W := ⟨_, rfl⟩
  rw [hW] at hB0 k3
  have hS : Below W.heap.size W W.drew := (Below.refl _ _).drew
  go_enter Try.func73, Try.ntmps73
  go_wp2_with fail
  clear hW
  refine plain_region (fun W' => Below W.heap.size W W') 9 9 (by kernel_rfl) rfl ?_
  simp only [Array.replicate_succ, Array.replicate_zero, List.push_toArray, List.nil_append, List.cons_append]
  refine take_op 0 (v := ?rv0) rfl (by kernel_rfl) (fun _ _ _ h => h) (by rfl) hS (fun w' hS' => ?ry0) ?rz0
  case ry0 =>
    go_simp
    rfl
  simp only [List.setIfInBounds_toArray, List.set_cons_zero, List.set_cons_succ]
  refine take_op 1 (v := .bool true) rfl (by kernel_rfl) (fun _ _ _ h => h) (by rfl) hS (fun w' hS' => ?ry1) ?rz1
  case ry1 =>
    go_simp
    try rfl
  simp only [List.setIfInBounds_toArray, List.set_cons_zero, List.set_cons_succ]
  refine take_op 2 (v := .bool true) rfl (by kernel_rfl) (fun _ _ _ h => h) (by rfl) hS (fun w' hS' => ?ry2) ?rz2
  case ry2 =>
    go_simp
    try rfl
  simp only [List.setIfInBounds_toArray, List.set_cons_zero, List.set_cons_succ]
  refine take_op 3 (v := ?rv3) rfl (by kernel_rfl) (fun _ _ _ h => h) (by rfl) hS (fun w' hS' => ?ry3) ?rz3
  case ry3 =>
    have a0 := (k3.below hS' k3.lt).cell (i := 0) rfl
    have a1' := (k3.below hS' k3.lt).cell (i := 1) rfl
    have a2 := (k3.below hS' k3.lt).cell (i := 2) rfl
    go_simp
    rfl
  simp only [List.setIfInBounds_toArray, List.set_cons_zero, List.set_cons_succ]
  refine take_op 4 (v := ?rv4) rfl (by kernel_rfl) (fun _ _ _ h => h) (by rfl) hS (fun w' hS' => ?ry4) ?rz4
  case ry4 =>
    go_simp
    rfl
  simp only [List.setIfInBounds_toArray, List.set_cons_zero, List.set_cons_succ]
  refine step_op 5 (by kernel_rfl) rfl (fun K hK => ?_)
  rw [if_pos (by rfl)]
  go_simp
  refine (rows_lit xss xs0 h0 htot hk x y L k hx hy hL hkk a c _ ((hr.below (Nat.le_refl _) (hB0.trans (hS.mono hB0.size))).mono (Nat.le_trans hB0.size hS.size))).mono ?_
  rintro e W2 ⟨⟨v, rfl, hv⟩, hb2⟩
  obtain ⟨sl, rfl, hrow⟩ := hv
  obtain ⟨va, vc, rfl⟩ := row_slice hrow
  have hS2 := hS.trans (hb2.mono hS.size)
  rw [hn.out] at hrow ⊢
  have hr2 := row_rd' hn.out hrow
  refine hK.out _ _ (fun h => hS2) ?_
  clear hK K
  try simp only [Act.put, List.setIfInBounds_toArray, List.set_cons_zero, List.set_cons_succ]
  refine step_op 6 (by kernel_rfl) rfl (fun K hK => ?_)
  rw [if_pos (by rfl)]
  go_simp
  refine (Same_eq x y a1 va c1 vc n L hn _ hm ((h1.below (Nat.le_refl _) (hB0.trans (hS2.mono hB0.size))).mono (Nat.le_trans hB0.size hS2.size)) hr2).mono ?_
  rintro e W3 ⟨rfl, hb3⟩
  have hS3 := hS2.trans (hb3.mono hS2.size)
  refine hK.out _ _ (fun h => hS3) ?_
  clear hK K
  try simp only [Act.put, List.setIfInBounds_toArray, List.set_cons_zero, List.set_cons_succ]
  refine take_op 7 (v := ?rv7) rfl (by kernel_rfl) (fun _ _ _ h => h) (by rfl) hS3 (fun w' hS' => ?ry7) ?rz7
  case ry7 =>
    go_simp
    rfl
  simp only [List.setIfInBounds_toArray, List.set_cons_zero, List.set_cons_succ]
  refine take_op 8 (v := ?rv8) rfl (by kernel_rfl) (fun _ _ _ h => h) (by rfl) hS3 (fun w' hS' => ?ry8) ?rz8
  case ry8 =>
    go_simp
    rfl
  simp only [List.setIfInBounds_toArray, List.set_cons_zero, List.set_cons_succ]
  refine done_ops (by kernel_rfl) ?_
  go_wp2_with fail
  go_ret
  exact ⟨rfl, hB0.trans (hS3.mono hB0.size)⟩

/-! Rows as they are written out: one, two, three of them. -/

theorem rd_lit {W : World} {b : Nat} {A : Array Value} {xs : List Int} (k : Blk W b 3 A) (h : A.toList = xs.map (Value.int .i64)) {j : Nat} {x : Int} (hj : xs[j]? = some x) : W.cell? ⟨b, 0 + j, none⟩ = some (.int .i64 x) := by
  rw [Nat.zero_add]
  refine k.cell ?_
  have : A.toList[j]? = some (.int .i64 x) := by rw [h, List.getElem?_map, hj]; rfl
  simpa using this

theorem rdss1 (V : World) (N : Nat) (hN : V.heap.size = N) (x1 : List Int) (A1 : Array Value) (h1 : A1.toList = x1.map (Value.int .i64)) (n1 : Nat) (e1 : x1.length = n1) :
    RdSS ((V.alloc (.cells A1 3)).alloc (.cells #[.slice (some ⟨N, 0, none⟩) n1 n1] 22)).heap.size ((V.alloc (.cells A1 3)).alloc (.cells #[.slice (some ⟨N, 0, none⟩) n1 n1] 22)) (some ⟨N + 1, 0, none⟩) [x1] := by
  subst hN e1
  have k1 := (Blk.new V 3 A1).alloc (.cells #[.slice (some ⟨V.heap.size, 0, none⟩) x1.length x1.length] 22)
  have kh := Blk.new (V.alloc (.cells A1 3)) 22 #[.slice (some ⟨V.heap.size, 0, none⟩) x1.length x1.length]
  simp only [World.size_alloc] at kh 
  refine ⟨_, _, rfl, by simp, fun i xs hi => ?_⟩
  match i, hi with
  | 0, hi =>
    simp at hi; subst hi
    exact ⟨V.heap.size, 0, x1.length, kh.cell (i := 0) rfl, by simp <;> omega, fun j x hj => rd_lit k1 h1 hj⟩
  | i + 1, hi => simp at hi

theorem rdss2 (V : World) (N : Nat) (hN : V.heap.size = N) (x1 : List Int) (A1 : Array Value) (h1 : A1.toList = x1.map (Value.int .i64)) (n1 : Nat) (e1 : x1.length = n1) (x2 : List Int) (A2 : Array Value) (h2 : A2.toList = x2.map (Value.int .i64)) (n2 : Nat) (e2 : x2.length = n2) :
    RdSS (((V.alloc (.cells A1 3)).alloc (.cells A2 3)).alloc (.cells #[.slice (some ⟨N, 0, none⟩) n1 n1, .slice (some ⟨N + 1, 0, none⟩) n2 n2] 22)).heap.size (((V.alloc (.cells A1 3)).alloc (.cells A2 3)).alloc (.cells #[.slice (some ⟨N, 0, none⟩) n1 n1, .slice (some ⟨N + 1, 0, none⟩) n2 n2] 22)) (some ⟨N + 1 + 1, 0, none⟩) [x1, x2] := by
  subst hN e1 e2
  have k1 := ((Blk.new V 3 A1).alloc (.cells A2 3)).alloc (.cells #[.slice (some ⟨V.heap.size, 0, none⟩) x1.length x1.length, .slice (some ⟨V.heap.size + 1, 0, none⟩) x2.length x2.length] 22)
  have k2 := (Blk.new (V.alloc (.cells A1 3)) 3 A2).alloc (.cells #[.slice (some ⟨V.heap.size, 0, none⟩) x1.length x1.length, .slice (some ⟨V.heap.size + 1, 0, none⟩) x2.length x2.length] 22)
  have kh := Blk.new ((V.alloc (.cells A1 3)).alloc (.cells A2 3)) 22 #[.slice (some ⟨V.heap.size, 0, none⟩) x1.length x1.length, .slice (some ⟨V.heap.size + 1, 0, none⟩) x2.length x2.length]
  simp only [World.size_alloc] at kh k2
  refine ⟨_, _, rfl, by simp, fun i xs hi => ?_⟩
  match i, hi with
  | 0, hi =>
    simp at hi; subst hi
    exact ⟨V.heap.size, 0, x1.length, kh.cell (i := 0) rfl, by simp <;> omega, fun j x hj => rd_lit k1 h1 hj⟩
  | 1, hi =>
    simp at hi; subst hi
    exact ⟨V.heap.size + 1, 0, x2.length, kh.cell (i := 1) rfl, by simp <;> omega, fun j x hj => rd_lit k2 h2 hj⟩
  | i + 2, hi => simp at hi

theorem rdss3 (V : World) (N : Nat) (hN : V.heap.size = N) (x1 : List Int) (A1 : Array Value) (h1 : A1.toList = x1.map (Value.int .i64)) (n1 : Nat) (e1 : x1.length = n1) (x2 : List Int) (A2 : Array Value) (h2 : A2.toList = x2.map (Value.int .i64)) (n2 : Nat) (e2 : x2.length = n2) (x3 : List Int) (A3 : Array Value) (h3 : A3.toList = x3.map (Value.int .i64)) (n3 : Nat) (e3 : x3.length = n3) :
    RdSS ((((V.alloc (.cells A1 3)).alloc (.cells A2 3)).alloc (.cells A3 3)).alloc (.cells #[.slice (some ⟨N, 0, none⟩) n1 n1, .slice (some ⟨N + 1, 0, none⟩) n2 n2, .slice (some ⟨N + 1 + 1, 0, none⟩) n3 n3] 22)).heap.size ((((V.alloc (.cells A1 3)).alloc (.cells A2 3)).alloc (.cells A3 3)).alloc (.cells #[.slice (some ⟨N, 0, none⟩) n1 n1, .slice (some ⟨N + 1, 0, none⟩) n2 n2, .slice (some ⟨N + 1 + 1, 0, none⟩) n3 n3] 22)) (some ⟨N + 1 + 1 + 1, 0, none⟩) [x1, x2, x3] := by
  subst hN e1 e2 e3
  have k1 := (((Blk.new V 3 A1).alloc (.cells A2 3)).alloc (.cells A3 3)).alloc (.cells #[.slice (some ⟨V.heap.size, 0, none⟩) x1.length x1.length, .slice (some ⟨V.heap.size + 1, 0, none⟩) x2.length x2.length, .slice (some ⟨V.heap.size + 1 + 1, 0, none⟩) x3.length x3.length] 22)
  have k2 := ((Blk.new (V.alloc (.cells A1 3)) 3 A2).alloc (.cells A3 3)).alloc (.cells #[.slice (some ⟨V.heap.size, 0, none⟩) x1.length x1.length, .slice (some ⟨V.heap.size + 1, 0, none⟩) x2.length x2.length, .slice (some ⟨V.heap.size + 1 + 1, 0, none⟩) x3.length x3.length] 22)
  have k3 := (Blk.new ((V.alloc (.cells A1 3)).alloc (.cells A2 3)) 3 A3).alloc (.cells #[.slice (some ⟨V.heap.size, 0, none⟩) x1.length x1.length, .slice (some ⟨V.heap.size + 1, 0, none⟩) x2.length x2.length, .slice (some ⟨V.heap.size + 1 + 1, 0, none⟩) x3.length x3.length] 22)
  have kh := Blk.new (((V.alloc (.cells A1 3)).alloc (.cells A2 3)).alloc (.cells A3 3)) 22 #[.slice (some ⟨V.heap.size, 0, none⟩) x1.length x1.length, .slice (some ⟨V.heap.size + 1, 0, none⟩) x2.length x2.length, .slice (some ⟨V.heap.size + 1 + 1, 0, none⟩) x3.length x3.length]
  simp only [World.size_alloc] at kh k2 k3
  refine ⟨_, _, rfl, by simp, fun i xs hi => ?_⟩
  match i, hi with
  | 0, hi =>
    simp at hi; subst hi
    exact ⟨V.heap.size, 0, x1.length, kh.cell (i := 0) rfl, by simp <;> omega, fun j x hj => rd_lit k1 h1 hj⟩
  | 1, hi =>
    simp at hi; subst hi
    exact ⟨V.heap.size + 1, 0, x2.length, kh.cell (i := 1) rfl, by simp <;> omega, fun j x hj => rd_lit k2 h2 hj⟩
  | 2, hi =>
    simp at hi; subst hi
    exact ⟨V.heap.size + 1 + 1, 0, x3.length, kh.cell (i := 2) rfl, by simp <;> omega, fun j x hj => rd_lit k3 h3 hj⟩
  | i + 3, hi => simp at hi

end Go.Proofs.Ytjglfeonoiljlaa

/- Contracts and laws (Ap, MkA, CpA, Fork). -/
import Derived.Maps.AppendAt
import Derived.Test.YtbdnjhnlfpfhcaaGreatQE1
import Derived.Test.YtbdnjhnlfpfhcaaGreatQE3
import Derived.Test.YtbdnjhnlfpfhcaaGreatQE9
import Derived.Test.YtbdnjhnlfpfhcaaGreatQE8
namespace Go.Proofs.YtbdnjhnlfpfhcaaGreat
open Go Go.RowKit Go.Shelf
set_option linter.unusedVariables false
set_option linter.unusedSimpArgs false

/-! ### append of what can be read, nil or not -/

theorem run_append_none0 {P : Program} {w : World} (base : Nat) (t ty e : TypeId) (i : TypeInfo) (size : Nat) (ht : P.underlying t = some (.slice e)) (hi : P.info? e = some i)
    (v : Value) (n : Nat) (xs : List Value) (hown : w.ownsRow base e size v n xs) (c : Nat) : (Builtin.append_ #[t, t] ty #[v, .slice none 0 c]).run P w = .ok v w := by
  rcases hown.2 with ⟨rfl, rfl⟩ | ⟨g, cap, cur, rfl, _, _, hnc, _⟩
  · simp [Builtin.append_, run_underlying ht, sizeOf, typeInfo, hi, Builtin.lenOf, Builtin.firstCells]
  · simp [Builtin.append_, run_underlying ht, sizeOf, typeInfo, hi, Builtin.lenOf, Builtin.firstCells, hnc, storeCells]

theorem grownBy_self (w : World) (row : Option Nat) : w.grownBy w row := ⟨rfl, rfl, rfl, Nat.le_refl _, fun _ _ _ => rfl⟩

/-- What stands at an address that may be none. -/
def NewsAt (W : World) (a : Option Addr) (m : Nat) (news : List Value) : Prop := (a = none ∧ m = 0) ∨ ∃ ad, a = some ad ∧ ∀ j u, news[j]? = some u → W.cell? (ad.add j) = some u

theorem wpList_append_any {P : Program} {w : World} {ops : Array Oper} {rest : List Oper} {o : Oper} {act : Act} {Q : Exit → Act → World → Prop} (hgd : o.guard = none) (s x : Operand) (t : TypeId)
    (ho : o.op = .call { callee := .builtin .append, args := #[s, x], argTypes := #[t, t] })
    (base : Nat) (e : TypeId) (i : TypeInfo) (z : Value) (bytes : Nat) (ht : P.underlying t = some (.slice e)) (hi : P.info? e = some i) (hz : i.zero = some z)
    (hsize : i.size = 1) (hby : i.bytes = bytes) (hzs : z.cells.size = 1)
    (v : Value) (n : Nat) (xs : List Value) (hs : act.eval s = v) (hown : w.ownsRow base e 1 v n xs)
    (a : Option Addr) (m c : Nat) (news : List Value) (hx : act.eval x = .slice a m c) (hl : news.length = m) (hnews : NewsAt w a m news) (h1 : ∀ u ∈ news, u.oneCell' = true)
    (h63 : n + m ≤ maxLen) (hbytes : (n + m) * bytes ≤ 140737488355328) (hbase : base ≤ w.heap.size)
    (h : ∀ v' w', w'.ownsRow base e 1 v' (n + m) (xs ++ news) → w.grownBy w' v.ownBlock → (v'.ownBlock = v.ownBlock ∨ v'.ownBlock = some w.heap.size) → wpList P ops Q rest (act.put o.dst v') w') :
    wpList P ops Q (o :: rest) act w := by
  rcases hnews with ⟨rfl, rfl⟩ | ⟨ad, rfl, hc⟩
  · obtain rfl : news = [] := List.eq_nil_of_length_eq_zero hl
    refine wpList_plain hgd fun K hK => ?_
    have hrun := run_append_none0 (P := P) (w := w) base t o.type e i 1 ht hi v n xs hown c
    unfold Oper.wp
    simp [execOp, ho, resolve, invoke, builtin, hs, hx, hrun, Result.andThen]
    exact hK _ _ (h v w (by simpa using hown) (grownBy_self _ _) (.inl rfl))
  · exact wpList_append_own_at w hgd s x t ho base e i z 1 bytes ht hi hz hsize hby hzs (by decide) v n xs hs hown ad m c news hx (by omega) hc h1 h63 hbytes hbase (fun v' w' g1 g2 g3 g4 => h v' w' g1 g2 g4)

theorem addr_add (b o j : Nat) : (⟨b, o, none⟩ : Addr).add j = ⟨b, o + j, none⟩ := by unfold Addr.add; split <;> simp_all
theorem RdN.news {B : Nat} {W : World} {a : Option Addr} {xs : List Nat} {m : Nat} (h : RdN B W a xs) (hm : xs.length = m) : NewsAt W a m (xs.map vu8) := by
  subst hm
  cases a with
  | none =>
    rcases h with h | ⟨b, o, h1, _⟩
    · subst h; exact .inl ⟨rfl, rfl⟩
    · cases h1
  | some ad =>
    refine .inr ⟨ad, rfl, fun j u hu => ?_⟩
    rcases h with h | ⟨b, o, h1, h2, h3⟩
    · subst h; simp at hu
    · simp only [Option.some.injEq] at h1
      subst h1
      have hj : j < xs.length := by
        rcases Nat.lt_or_ge j xs.length with h | h
        · exact h
        · rw [List.getElem?_eq_none (by simpa using h)] at hu; cases hu
      rw [addr_add, h3 j hj]
      simp [hj, vu8] at hu ⊢
      exact hu
theorem Rd.news {B : Nat} {W : World} {a : Option Addr} {xs : List Int} {m : Nat} (h : Rd B W a xs) (hm : xs.length = m) : NewsAt W a m (xs.map (Value.int .i64)) := by
  subst hm
  cases a with
  | none =>
    rcases h with h | ⟨b, o, h1, _⟩
    · subst h; exact .inl ⟨rfl, rfl⟩
    · cases h1
  | some ad =>
    refine .inr ⟨ad, rfl, fun j u hu => ?_⟩
    rcases h with h | ⟨b, o, h1, h2, h3⟩
    · subst h; simp at hu
    · simp only [Option.some.injEq] at h1
      subst h1
      have hj : j < xs.length := by
        rcases Nat.lt_or_ge j xs.length with h | h
        · exact h
        · rw [List.getElem?_eq_none (by simpa using h)] at hu; cases hu
      rw [addr_add, h3 j hj]
      simp [hj] at hu ⊢
      exact hu
theorem vint_one (xs : List Int) : ∀ u ∈ xs.map (Value.int .i64), u.oneCell' = true := fun u hu => by
  obtain ⟨x, _, rfl⟩ := List.mem_map.1 hu
  rfl
theorem NewsAt.below {W W' : World} {B : Nat} {a : Option Addr} {m : Nat} {news : List Value} (h : NewsAt W a m news) (hb : Below B W W') (ha : ∀ ad, a = some ad → ad.block < B) : NewsAt W' a m news := by
  rcases h with h | ⟨ad, rfl, h2⟩
  · exact .inl h
  · exact .inr ⟨ad, rfl, fun j u hu => by
      rw [hb.cell (by have := ha ad rfl; unfold Addr.add; split <;> exact this)]
      exact h2 j u hu⟩

end Go.Proofs.YtbdnjhnlfpfhcaaGreat

namespace Go.Proofs.YtbdnjhnlfpfhcaaGreat
open Go Go.RowKit Go.Shelf
set_option linter.unusedVariables false
set_option linter.unusedSimpArgs false

abbrev put2 (W : World) (B : Nat) (x y : Value) : World := (W.setCell ⟨B, 0, none⟩ x).setCell ⟨B, 1, none⟩ y
theorem put2_blk {W : World} {B : Nat} {t : TypeId} {a b : Value} (k : Blk W B t #[a, b]) (x y : Value) : Blk (put2 W B x y) B t #[x, y] := by
  have := (k.set 0 x).set 1 y
  simpa using this
theorem put2_below {W : World} {n B : Nat} (h : n ≤ B) (x y : Value) : Below n W (put2 W B x y) :=
  ((Below.refl n W).setCell (p := ⟨B, 0, none⟩) h x).setCell (p := ⟨B, 1, none⟩) h y
theorem put2_grow (W : World) (B : Nat) (x y : Value) : W.grownBy (put2 W B x y) (some B) :=
  ⟨rfl, rfl, rfl, (put2_below (n := 0) (Nat.zero_le _) x y).size, fun k _ hk => (Below.heap_setCell _ _ _ _ (fun e => hk (by rw [e]))).trans (Below.heap_setCell _ _ _ _ (fun e => hk (by rw [e])))⟩
set_option maxRecDepth 100000 in
set_option maxHeartbeats 4000000 in
theorem emade_any (x y : Nat) (hx : x ≤ 4611686018427387903) (hy : y ≤ 4611686018427387903) (w : World) :
    Calls Tryz.prog 28 #[.bool false, .agg #[.int .u64 0, .int .u64 (x : Int)], .agg #[.int .u64 0, .int .u64 (y : Int)]] w fun e w' => e = .returned (.tuple #[frv x y, .int .i64 0]) ∧ Below w.heap.size w w' := by
  have hB : Below w.heap.size w w := Below.refl _ _
  have hbV1 : Below w.heap.size w (w.alloc (.cells #[.int .u64 0, .int .u64 (x : Int)] 75)) := jb_al (Below.refl _ w) _
  have k4 := Blk.new w 75 #[.int .u64 0, .int .u64 (x : Int)]
  obtain ⟨V1, hEV1⟩ : ∃ X, w.alloc (.cells #[.int .u64 0, .int .u64 (x : Int)] 75) = X := ⟨_, rfl⟩
  rw [hEV1] at hbV1 k4
  replace hB := hB.trans (hbV1.mono hB.size)
  clear hbV1
  have m0 := k4.cell (i := 0) rfl
  have m1 := k4.cell (i := 1) rfl
  have hbV2 : Below V1.heap.size V1 (V1.alloc (.cells #[.int .u64 0, .int .u64 (y : Int)] 75)) := jb_al (Below.refl _ V1) _
  have k5 := Blk.new V1 75 #[.int .u64 0, .int .u64 (y : Int)]
  obtain ⟨V2, hEV2⟩ : ∃ X, V1.alloc (.cells #[.int .u64 0, .int .u64 (y : Int)] 75) = X := ⟨_, rfl⟩
  rw [hEV2] at hbV2 k5
  clear m0 m1
  replace k4 := k4.below hbV2 k4.lt
  replace hB := hB.trans (hbV2.mono hB.size)
  clear hbV2
  have m0 := k4.cell (i := 0) rfl
  have m1 := k4.cell (i := 1) rfl
  have u0 := k5.cell (i := 0) rfl
  have u1 := k5.cell (i := 1) rfl
  have hle := hB.size
  have hbV3 : Below V2.heap.size V2 (V2.alloc (.cells #[.int .i64 0, .int .i64 0] 23)) := jb_al (Below.refl _ V2) _
  have k6 := Blk.new V2 23 #[.int .i64 0, .int .i64 0]
  obtain ⟨V3, hEV3⟩ : ∃ X, V2.alloc (.cells #[.int .i64 0, .int .i64 0] 23) = X := ⟨_, rfl⟩
  rw [hEV3] at hbV3 k6
  clear m0 m1 u0 u1
  replace k4 := k4.below hbV3 k4.lt
  replace k5 := k5.below hbV3 k5.lt
  replace hB := hB.trans (hbV3.mono hB.size)
  clear hbV3
  have m0 := k4.cell (i := 0) rfl
  have m1 := k4.cell (i := 1) rfl
  have u0 := k5.cell (i := 0) rfl
  have u1 := k5.cell (i := 1) rfl
  have f0 := k6.cell (i := 0) rfl
  have ff0 := k6.frozen 0
  have f1 := k6.cell (i := 1) rfl
  have ff1 := k6.frozen 1
  have kf := put2_blk k6 (.int .i64 (x : Int)) (.int .i64 (y : Int))
  have hbf : Below w.heap.size w (put2 V3 V2.heap.size (.int .i64 (x : Int)) (.int .i64 (y : Int))) := hB.trans (put2_below hle _ _)
  have g0 := kf.cell (i := 0) rfl
  have g1 := kf.cell (i := 1) rfl
  have c1 : decide ((4611686018427387903 : Int) < (x : Int)) = false := decide_eq_false (by omega)
  have c2 : decide ((4611686018427387903 : Int) < (y : Int)) = false := decide_eq_false (by omega)
  go_enter Tryz.func28, Tryz.ntmps28
  go_wp2_with fail
  exact bodyPost_ret (v := .tuple #[frv x y, .int .i64 0]) (by simp [results, Tryz.results28, go_sem, g0, g1]) rfl ⟨rfl, hbf⟩
set_option maxRecDepth 100000 in
set_option maxHeartbeats 4000000 in
theorem Make_any (s a : Nat) (ha : 0 < a) (hsl : s ≤ 4611686018427387903) (hal : a ≤ 4611686018427387903) (hsw : (Lit.int .i64 (s : Int)).wf = true) (haw : (Lit.int .i64 (a : Int)).wf = true) (w : World) :
    Calls Tryz.prog 7 #[.int .i64 (s : Int), .int .i64 (a : Int)] w fun e w' => e = .returned (.tuple #[frv ((s / Nat.gcd s a : Nat) : Int) ((a / Nat.gcd s a : Nat) : Int), .int .i64 0]) ∧ Below w.heap.size w w' := by
  have hB : Below w.heap.size w w := Below.refl _ _
  have hle := hB.size
  have hbV1 : Below w.heap.size w (w.alloc (.cells #[.int .i64 0, .int .i64 0] 23)) := jb_al (Below.refl _ w) _
  have k4 := Blk.new w 23 #[.int .i64 0, .int .i64 0]
  obtain ⟨V1, hEV1⟩ : ∃ X, w.alloc (.cells #[.int .i64 0, .int .i64 0] 23) = X := ⟨_, rfl⟩
  rw [hEV1] at hbV1 k4
  replace hB := hB.trans (hbV1.mono hB.size)
  clear hbV1
  have m0 := k4.cell (i := 0) rfl
  have fm0 := k4.frozen 0
  have m1 := k4.cell (i := 1) rfl
  have fm1 := k4.frozen 1
  obtain ⟨g, hg⟩ : ∃ g, Nat.gcd s a = g := ⟨_, rfl⟩
  have hg0 : 0 < g := by rw [← hg]; exact Nat.gcd_pos_of_pos_right s ha
  obtain ⟨x, hx⟩ : ∃ x, s / g = x := ⟨_, rfl⟩
  obtain ⟨y, hy⟩ : ∃ y, a / g = y := ⟨_, rfl⟩
  have hxl : x ≤ 4611686018427387903 := by rw [← hx]; exact Nat.le_trans (Nat.div_le_self _ _) hsl
  have hyl : y ≤ 4611686018427387903 := by rw [← hy]; exact Nat.le_trans (Nat.div_le_self _ _) hal
  have q1 : (s : Int).tdiv (g : Int) = (x : Int) := by rw [← hx, ← Int.ofNat_tdiv]
  have q2 : (a : Int).tdiv (g : Int) = (y : Int) := by rw [← hy, ← Int.ofNat_tdiv]
  have q1e : (s : Int) / (g : Int) = (x : Int) := by rw [← hx]; simp
  have q2e : (a : Int) / (g : Int) = (y : Int) := by rw [← hy]; simp
  have e1 := fun (W : World) => eabs_any (s : Int) hsw W
  have e2 := fun (W : World) => eabs_any (a : Int) haw W
  rw [show (s : Int).natAbs = s from Int.natAbs_natCast s] at e1
  rw [show (a : Int).natAbs = a from Int.natAbs_natCast a] at e2
  have e3 := fun (W : World) => gcd_any s a (by rw [lt_two63]; omega) (by rw [lt_two63]; omega) W
  rw [hg] at e3
  have e1H := Lib.hid e1
  have e2H := Lib.hid e2
  have e3H := Lib.hid e3
  have hgH := Lib.hid hg
  have hxH := Lib.hid hx
  have hyH := Lib.hid hy
  clear e1 e2 e3 hg hx hy hsw haw
  have a0 : ((a : Int) == 0) = false := by simp; omega
  have a1 : ¬ (a : Int) = 0 := by omega
  have n1 : decide ((s : Int) < 0) = false := decide_eq_false (by omega)
  have n2 : decide ((a : Int) < 0) = false := decide_eq_false (by omega)
  have n3 : ¬ (s : Int) < 0 := by omega
  have n4 : ¬ (a : Int) < 0 := by omega
  have hgz : ¬ (g : Int) = 0 := by omega
  have tok1 : True := trivial
  have tok2 : True := trivial
  go_enter Tryz.func7, Tryz.ntmps7
  go_wp2_with (first
    | (go_at_call 26; have _t := tok1; refine (e1H.out _).mono ?_; clear _t tok1; rintro e W1 ⟨rfl, rfl⟩)
    | (go_at_call 26; have _t := tok2; refine (e2H.out _).mono ?_; clear _t tok2; rintro e W2 ⟨rfl, rfl⟩)
    | (go_at_call 27; refine (e3H.out _).mono ?_; rintro e W3 ⟨rfl, hb⟩))
  replace k4 := k4.below hb k4.lt
  replace hB := hB.trans (hb.mono hB.size)
  clear hb
  have hk0 : Below W3.heap.size W3 W3.drew := (Below.refl _ _).drew
  have hS : Below w.heap.size W3 W3.drew := (Below.refl _ _).drew
  refine plain_region (fun W' => Below w.heap.size W3 W') 18 18 (by kernel_rfl) rfl ?_
  simp only [Array.replicate_succ, Array.replicate_zero, List.push_toArray, List.nil_append, List.cons_append]
  refine take_op 0 (v := ?rv0) rfl (by kernel_rfl) (fun _ _ _ h => h) (by rfl) hS (fun w' hS' => ?ry0) ?rz0
  case ry0 =>
    go_simp
    rfl
  simp only [List.setIfInBounds_toArray, List.set_cons_zero, List.set_cons_succ]
  refine take_op 1 (v := .bool false) rfl (by kernel_rfl) (fun _ _ _ h => h) (by rfl) hS (fun w' hS' => ?ry1) ?rz1
  case ry1 =>
    clear hS'
    go_simp
    first | done | rfl | (simp; done)
  simp only [List.setIfInBounds_toArray, List.set_cons_zero, List.set_cons_succ]
  refine take_op 2 (v := ?rv2) rfl (by kernel_rfl) (fun _ _ _ h => h) (by rfl) hS (fun w' hS' => ?ry2) ?rz2
  case ry2 =>
    go_simp
    rfl
  simp only [List.setIfInBounds_toArray, List.set_cons_zero, List.set_cons_succ]
  refine take_op 3 (v := .bool false) rfl (by kernel_rfl) (fun _ _ _ h => h) (by rfl) hS (fun w' hS' => ?ry3) ?rz3
  case ry3 =>
    clear hS'
    go_simp
    first | done | rfl | (simp; done)
  simp only [List.setIfInBounds_toArray, List.set_cons_zero, List.set_cons_succ]
  refine take_op 4 (v := .bool false) rfl (by kernel_rfl) (fun _ _ _ h => h) (by rfl) hS (fun w' hS' => ?ry4) ?rz4
  case ry4 =>
    clear hS'
    go_simp
    first | done | rfl | (simp; done)
  simp only [List.setIfInBounds_toArray, List.set_cons_zero, List.set_cons_succ]
  refine take_op 5 (v := ?rv5) rfl (by kernel_rfl) (fun _ _ _ h => h) (by rfl) hS (fun w' hS' => ?ry5) ?rz5
  case ry5 =>
    go_simp
    rfl
  simp only [List.setIfInBounds_toArray, List.set_cons_zero, List.set_cons_succ]
  refine take_op 6 (v := ?rv6) rfl (by kernel_rfl) (fun _ _ _ h => h) (by rfl) hS (fun w' hS' => ?ry6) ?rz6
  case ry6 =>
    go_simp
    rfl
  simp only [List.setIfInBounds_toArray, List.set_cons_zero, List.set_cons_succ]
  refine take_op 7 (v := .int .u64 (x : Int)) rfl (by kernel_rfl) (fun _ _ _ h => h) (by rfl) hS (fun w' hS' => ?ry7) ?rz7
  case ry7 =>
    clear hS'
    go_simp
    try go_ints
    try rw [if_neg (by omega)]
    try simp only [q1, q1e]
    first | done | rfl | trivial
  simp only [List.setIfInBounds_toArray, List.set_cons_zero, List.set_cons_succ]
  refine take_op 8 (v := ?rv8) rfl (by kernel_rfl) (fun _ _ _ h => h) (by rfl) hS (fun w' hS' => ?ry8) ?rz8
  case ry8 =>
    go_simp
    rfl
  simp only [List.setIfInBounds_toArray, List.set_cons_zero, List.set_cons_succ]
  refine take_op 9 (v := ?rv9) rfl (by kernel_rfl) (fun _ _ _ h => h) (by rfl) hS (fun w' hS' => ?ry9) ?rz9
  case ry9 =>
    go_simp
    rfl
  simp only [List.setIfInBounds_toArray, List.set_cons_zero, List.set_cons_succ]
  refine take_op 10 (v := ?rv10) rfl (by kernel_rfl) (fun _ _ _ h => h) (by rfl) hS (fun w' hS' => ?ry10) ?rz10
  case ry10 =>
    go_simp
    rfl
  simp only [List.setIfInBounds_toArray, List.set_cons_zero, List.set_cons_succ]
  refine take_op 11 (v := .int .u64 (y : Int)) rfl (by kernel_rfl) (fun _ _ _ h => h) (by rfl) hS (fun w' hS' => ?ry11) ?rz11
  case ry11 =>
    clear hS'
    go_simp
    try go_ints
    try rw [if_neg (by omega)]
    try simp only [q2, q2e]
    first | done | rfl | trivial
  simp only [List.setIfInBounds_toArray, List.set_cons_zero, List.set_cons_succ]
  refine take_op 12 (v := ?rv12) rfl (by kernel_rfl) (fun _ _ _ h => h) (by rfl) hS (fun w' hS' => ?ry12) ?rz12
  case ry12 =>
    go_simp
    rfl
  simp only [List.setIfInBounds_toArray, List.set_cons_zero, List.set_cons_succ]
  refine step_op 13 (by kernel_rfl) rfl (fun K hK => ?_)
  obtain ⟨X0, hX0⟩ : ∃ X : World, W3.drew = X := ⟨_, rfl⟩
  rw [hX0] at hS hk0 ⊢
  clear hX0
  rw [if_pos (by rfl)]
  go_simp
  refine (emade_any x y hxl hyl X0).mono ?_
  rintro e X1 ⟨rfl, hb⟩
  have hk1 : Below W3.heap.size W3 X1 := hk0.trans (hb.mono hk0.size)
  have hS1 : Below w.heap.size W3 X1 := hk1.mono hB.size
  clear hb
  refine hK.out _ _ (fun h => hS1) ?_
  clear hK K
  try simp only [Act.put, List.setIfInBounds_toArray, List.set_cons_zero, List.set_cons_succ]
  refine take_op 14 (v := ?rv14) rfl (by kernel_rfl) (fun _ _ _ h => h) (by rfl) hS1 (fun w' hS' => ?ry14) ?rz14
  case ry14 =>
    go_simp
    rfl
  simp only [List.setIfInBounds_toArray, List.set_cons_zero, List.set_cons_succ]
  refine take_op 15 (v := ?rv15) rfl (by kernel_rfl) (fun _ _ _ h => h) (by rfl) hS1 (fun w' hS' => ?ry15) ?rz15
  case ry15 =>
    go_simp
    rfl
  simp only [List.setIfInBounds_toArray, List.set_cons_zero, List.set_cons_succ]
  refine step_op 16 (by kernel_rfl) rfl (fun K hK => ?_)
  have kz := k4.below hk1 k4.lt
  have z0 := kz.cell (i := 0) rfl
  have z1 := kz.cell (i := 1) rfl
  have fz0 := kz.frozen 0
  have fz1 := kz.frozen 1
  rw [if_pos (by rfl)]
  go_simp
  have hS2 := hS1.trans (put2_below (Nat.le_refl _) (.int .i64 (x : Int)) (.int .i64 (y : Int)))
  refine hK.out _ _ (fun h => hS2) ?_
  clear hK K
  try simp only [Act.put, List.setIfInBounds_toArray, List.set_cons_zero, List.set_cons_succ]
  refine take_op 17 (v := ?rv17) rfl (by kernel_rfl) (fun _ _ _ h => h) (by rfl) hS2 (fun w' hS' => ?ry17) ?rz17
  case ry17 =>
    go_simp
    rfl
  simp only [List.setIfInBounds_toArray, List.set_cons_zero, List.set_cons_succ]
  refine done_ops (by kernel_rfl) ?_
  have kf := put2_blk kz (.int .i64 (x : Int)) (.int .i64 (y : Int))
  have hbf : Below w.heap.size w (put2 X1 w.heap.size (.int .i64 (x : Int)) (.int .i64 (y : Int))) := (hB.trans hS1).trans (put2_below hle _ _)
  have g0 := kf.cell (i := 0) rfl
  have g1 := kf.cell (i := 1) rfl
  go_wp2_with fail
  exact bodyPost_ret (v := .tuple #[frv x y, .int .i64 0]) (by simp [results, Tryz.results7, go_sem, g0, g1]) rfl ⟨by rw [hgH.out, hxH.out, hyH.out], hbf⟩

end Go.Proofs.YtbdnjhnlfpfhcaaGreat

namespace Go.Proofs.YtbdnjhnlfpfhcaaGreat
open Go Go.RowKit Go.Shelf
set_option linter.unusedVariables false
set_option linter.unusedSimpArgs false

theorem cutO {G : Prop} {P : Nat → Nat → World → Prop} (F : Nat → Nat → World → Prop) (main : (∀ a b W, F a b W → P a b W) → G) (key : ∀ a b W, F a b W → P a b W) : G := main key
theorem words_lt (x y : Nat) : (x / 18446744073709551616 < y / 18446744073709551616 ∨ x / 18446744073709551616 = y / 18446744073709551616 ∧ x % 18446744073709551616 < y % 18446744073709551616) ↔ x < y := by omega
/-- How two fractions lie, by their parts. -/
def orderF (a b c d : Nat) : Int := if a = c ∧ b = d then 0 else if a = 0 then -1 else if a * d < c * b then -1 else 1
theorem order_law {a b c d : Nat} (h1 : Nat.gcd a b = 1) (h2 : Nat.gcd c d = 1) (hb : 0 < b) (hd : 0 < d) (hc : 0 < c) : orderF a b c d ≤ 0 ↔ a * d ≤ c * b := by
  unfold orderF
  by_cases e : a = c ∧ b = d
  · obtain ⟨rfl, rfl⟩ := e; simp
  rw [if_neg e]
  by_cases ea : a = 0
  · subst ea; simp
  rw [if_neg ea]
  by_cases el : a * d < c * b
  · rw [if_pos el]; constructor
    · intro _; exact Nat.le_of_lt el
    · intro _; decide
  · rw [if_neg el]
    constructor
    · intro h; exact absurd h (by decide)
    · intro h
      exfalso
      have he : a * d = c * b := by omega
      have k1 : a ∣ c := Nat.Coprime.dvd_of_dvd_mul_right (show Nat.Coprime a b from h1) ⟨d, he.symm⟩
      have k2 : c ∣ a := Nat.Coprime.dvd_of_dvd_mul_right (show Nat.Coprime c d from h2) ⟨b, he⟩
      have hac : a = c := Nat.dvd_antisymm k1 k2
      subst hac
      exact e ⟨rfl, (Nat.eq_of_mul_eq_mul_left hc he).symm⟩
set_option maxRecDepth 100000 in
set_option maxHeartbeats 4000000 in
theorem product_any (x y : Nat) (hx : x < 18446744073709551616) (hy : y < 18446744073709551616) (w : World) :
    Calls Tryz.prog 58 #[.int .u64 (x : Int), .int .u64 (y : Int)] w fun e w' => e = .returned (.agg #[.int .u64 ((x * y / 18446744073709551616 : Nat) : Int), .int .u64 ((x * y % 18446744073709551616 : Nat) : Int)]) ∧ Below w.heap.size w w' := by
  have hB : Below w.heap.size w w := Below.refl _ _
  have hle := hB.size
  have hbV1 : Below w.heap.size w (w.alloc (.cells #[.int .u64 0, .int .u64 0] 75)) := jb_al (Below.refl _ w) _
  have k4 := Blk.new w 75 #[.int .u64 0, .int .u64 0]
  obtain ⟨V1, hEV1⟩ : ∃ X, w.alloc (.cells #[.int .u64 0, .int .u64 0] 75) = X := ⟨_, rfl⟩
  rw [hEV1] at hbV1 k4
  replace hB := hB.trans (hbV1.mono hB.size)
  clear hbV1
  have m0 := k4.cell (i := 0) rfl
  have fm0 := k4.frozen 0
  have m1 := k4.cell (i := 1) rfl
  have fm1 := k4.frozen 1
  have hm := fun (W : World) => Mul64_any x y hx hy W
  obtain ⟨h, hh⟩ : ∃ h, x * y / 18446744073709551616 = h := ⟨_, rfl⟩
  obtain ⟨l, hl⟩ : ∃ l, x * y % 18446744073709551616 = l := ⟨_, rfl⟩
  rw [hh, hl]
  simp only [hh, hl] at hm
  have hmH := Lib.hid hm
  clear hm hh hl hx hy
  have kf := put2_blk k4 (.int .u64 (h : Int)) (.int .u64 (l : Int))
  have hbf : Below w.heap.size w (put2 V1 w.heap.size (.int .u64 (h : Int)) (.int .u64 (l : Int))) := hB.trans (put2_below hle _ _)
  have g0 := kf.cell (i := 0) rfl
  have g1 := kf.cell (i := 1) rfl
  go_enter Tryz.func58, Tryz.ntmps58
  go_wp2_with (go_at_call 85; refine (hmH.out _).mono ?_; rintro e W1 ⟨rfl, rfl⟩)
  exact bodyPost_ret (v := .agg #[.int .u64 (h : Int), .int .u64 (l : Int)]) (by simp [results, Tryz.results58, go_sem, g0, g1]) rfl ⟨rfl, hbf⟩
set_option maxRecDepth 100000 in
set_option maxHeartbeats 4000000 in
theorem less_any (a b c d : Nat) (w : World) :
    Calls Tryz.prog 59 #[.agg #[.int .u64 (a : Int), .int .u64 (b : Int)], .agg #[.int .u64 (c : Int), .int .u64 (d : Int)]] w fun e w' => e = .returned (.bool (decide (a < c ∨ a = c ∧ b < d))) ∧ Below w.heap.size w w' := by
  have hB : Below w.heap.size w w := Below.refl _ _
  have hbV1 : Below w.heap.size w (w.alloc (.cells #[.int .u64 (a : Int), .int .u64 (b : Int)] 75)) := jb_al (Below.refl _ w) _
  have k2 := Blk.new w 75 #[.int .u64 (a : Int), .int .u64 (b : Int)]
  obtain ⟨V1, hEV1⟩ : ∃ X, w.alloc (.cells #[.int .u64 (a : Int), .int .u64 (b : Int)] 75) = X := ⟨_, rfl⟩
  rw [hEV1] at hbV1 k2
  replace hB := hB.trans (hbV1.mono hB.size)
  clear hbV1
  have m0 := k2.cell (i := 0) rfl
  have m1 := k2.cell (i := 1) rfl
  have hbV2 : Below V1.heap.size V1 (V1.alloc (.cells #[.int .u64 (c : Int), .int .u64 (d : Int)] 75)) := jb_al (Below.refl _ V1) _
  have k3 := Blk.new V1 75 #[.int .u64 (c : Int), .int .u64 (d : Int)]
  obtain ⟨V2, hEV2⟩ : ∃ X, V1.alloc (.cells #[.int .u64 (c : Int), .int .u64 (d : Int)] 75) = X := ⟨_, rfl⟩
  rw [hEV2] at hbV2 k3
  clear m0 m1
  replace k2 := k2.below hbV2 k2.lt
  replace hB := hB.trans (hbV2.mono hB.size)
  clear hbV2
  have m0 := k2.cell (i := 0) rfl
  have m1 := k2.cell (i := 1) rfl
  have u0 := k3.cell (i := 0) rfl
  have u1 := k3.cell (i := 1) rfl
  by_cases h1 : a < c
  case pos =>
    rw [show decide (a < c ∨ a = c ∧ b < d) = true by simp; omega]
    have e1 : decide ((a : Int) < (c : Int)) = true := decide_eq_true (by omega)
    go_enter Tryz.func59, Tryz.ntmps59
    go_wp2_with fail
    go_ret
    exact ⟨rfl, hB⟩
  case neg =>
  have e1 : decide ((a : Int) < (c : Int)) = false := decide_eq_false (by omega)
  by_cases h2 : a = c
  case neg =>
    rw [show decide (a < c ∨ a = c ∧ b < d) = false by simp; omega]
    have e2 : ((a : Int) == (c : Int)) = false := by simp; omega
    have e3 : ¬ (a : Int) = (c : Int) := by omega
    go_enter Tryz.func59, Tryz.ntmps59
    go_wp2_with fail
    go_ret
    exact ⟨rfl, hB⟩
  case pos =>
  subst h2
  by_cases h3 : b < d
  case pos =>
    rw [show decide (a < a ∨ a = a ∧ b < d) = true by simp; omega]
    have e3 : decide ((b : Int) < (d : Int)) = true := decide_eq_true (by omega)
    go_enter Tryz.func59, Tryz.ntmps59
    go_wp2_with fail
    go_ret
    exact ⟨rfl, hB⟩
  case neg =>
    rw [show decide (a < a ∨ a = a ∧ b < d) = false by simp; omega]
    have e3 : decide ((b : Int) < (d : Int)) = false := decide_eq_false (by omega)
    go_enter Tryz.func59, Tryz.ntmps59
    go_wp2_with fail
    go_ret
    exact ⟨rfl, hB⟩

end Go.Proofs.YtbdnjhnlfpfhcaaGreat

namespace Go.Proofs.YtbdnjhnlfpfhcaaGreat
open Go Go.RowKit Go.Shelf
set_option linter.unusedVariables false
section
variable {P : Program} {md : Region.Mode} {ops : Array Oper} {Q : Exit → Act → World → Prop} {S : World → Prop} {t : Nat}

def StepOk (P : Program) (md : Region.Mode) (ops : Array Oper) (Q : Exit → Act → World → Prop) (S : World → Prop) (t f : Nat) (l : Array Bool) (a : Act) (w : World) (i : Nat) : Prop :=
  wpOp P ops Q i (fun a' w' => (i < t → S w') ∧ AnyS P md ops Q S t f (l.setIfInBounds i true) a' w') a w

theorem step_at (i : Nat) {d : Option Tmp} {op : Op} {ty : TypeId} {ps : String} {af : Array Edge} {gd : Option (Nat × Bool)} {f : Nat} {l : Array Bool} {a : Act} {w : World} (ho : ops[i]? = some { dst := d, op := op, type := ty, pos := ps, after := af, guard := gd })
    (h : ∀ K' : Act → World → Prop, Shut (∀ a w, (i < t → S w) → AnyS P md ops Q S t f (l.setIfInBounds i true) a w → K' a w) → if Region.wanted { dst := d, op := op, type := ty, pos := ps, after := af, guard := gd } (yielded ops a.tmps) = true then Oper.wp P { dst := d, op := op, type := ty, pos := ps, after := af, guard := gd } a w K' Q else K' (a.put d undef) w) :
    StepOk P md ops Q S t f l a w i :=
  wpOp_step ho (fun K' hK => h K' (fun a w hS hW => hK a w ⟨hS, hW⟩))

theorem fork2 {i j : Nat} {f : Nat} {l : Array Bool} {a : Act} {w : World} (hr : Region.ready md ops l = [i, j]) (hi : StepOk P md ops Q S t f l a w i) (hj : StepOk P md ops Q S t f l a w j) : AnyS P md ops Q S t (f + 1) l a w := by
  refine ⟨fun h0 => absurd (hr ▸ h0) (by simp), hr ▸ fun k hk => ?_⟩
  have : k = i ∨ k = j := by simpa using hk
  rcases this with rfl | rfl
  · exact hi
  · exact hj

theorem fork3 {i j m : Nat} {f : Nat} {l : Array Bool} {a : Act} {w : World} (hr : Region.ready md ops l = [i, j, m]) (hi : StepOk P md ops Q S t f l a w i) (hj : StepOk P md ops Q S t f l a w j) (hm : StepOk P md ops Q S t f l a w m) : AnyS P md ops Q S t (f + 1) l a w := by
  refine ⟨fun h0 => absurd (hr ▸ h0) (by simp), hr ▸ fun k hk => ?_⟩
  have : k = i ∨ k = j ∨ k = m := by simpa using hk
  rcases this with rfl | rfl | rfl
  · exact hi
  · exact hj
  · exact hm
end
end Go.Proofs.YtbdnjhnlfpfhcaaGreat

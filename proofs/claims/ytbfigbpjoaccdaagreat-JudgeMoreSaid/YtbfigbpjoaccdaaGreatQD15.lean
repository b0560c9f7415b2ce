/- Contracts and laws (Fork, Fw, Rb). -/
import Derived.Maps.AppendAt
import Derived.Test.YtbfigbpjoaccdaaGreatQD1
import Derived.Test.YtbfigbpjoaccdaaGreatQD14
namespace Go.Proofs.YtbfigbpjoaccdaaGreat
open Go Go.RowKit Go.Shelf
set_option linter.unusedVariables false
section
variable {P : Program} {md : Region.Mode} {ops : Array Oper} {Q : Exit → Act → World → Prop} {S : World → Prop} {t : Nat}

def StepOk (P : Program) (md : Region.Mode) (ops : Array Oper) (Q : Exit → Act → World → Prop) (S : World → Prop) (t f : Nat) (l : Array Bool) (a : Act) (w : World) (i : Nat) : Prop :=
  wpOp P ops Q i (fun a' w' => (i < t → S w') ∧ AnyS P md ops Q S t f (l.setIfInBounds i true) a' w') a w

theorem step_at (i : Nat) {d : Option Tmp} {op : Op} {ty : TypeId} {ps : String} {af : Array Edge} {gd : Option (Nat × Bool)} {f : Nat} {l : Array Bool} {a : Act} {w : World} (ho : ops[i]? = some { dst := d, op := op, type := ty, pos := ps, after := af, guard := gd })
    (h : ∀ K' : Act → World → Prop, Shut (∀ a w, (i < t → S w) → AnyS P md ops Q S t f (l.setIfInBounds i true) a w → K' a w) → if Region.wanted { dst := d, op := op, type := ty, pos := ps, after := af, guard := gd } (yielded ops a.tmps) = true then Oper.wp P { dst := d, op := op, type := ty, pos := ps, after := af, guard := gd } a w K' Q else K' (a.put d undef) w) :
    StepOk P md ops Q S t f l a w i :=
  wpOp_step ho (fun K' hK => h K' (fun a w hS hW => hK a w ⟨hS, hW⟩))

theorem fork2 {i j : Nat} {f : Nat} {l : Array Bool} {a : Act} {w : World} (hr : Region.ready md ops l = [i, j]) (hi : StepOk P md ops Q S t f l a w i) (hj : StepOk P md ops Q S t f l a w j) : AnyS P md ops Q S t (f + 1) l a w := by
  refine ⟨fun h0 => absurd (hr ▸ h0) (by simp), hr ▸ fun k hk => ?_⟩
  have : k = i ∨ k = j := by simpa using hk
  rcases this with rfl | rfl
  · exact hi
  · exact hj

theorem fork3 {i j m : Nat} {f : Nat} {l : Array Bool} {a : Act} {w : World} (hr : Region.ready md ops l = [i, j, m]) (hi : StepOk P md ops Q S t f l a w i) (hj : StepOk P md ops Q S t f l a w j) (hm : StepOk P md ops Q S t f l a w m) : AnyS P md ops Q S t (f + 1) l a w := by
  refine ⟨fun h0 => absurd (hr ▸ h0) (by simp), hr ▸ fun k hk => ?_⟩
  have : k = i ∨ k = j ∨ k = m := by simpa using hk
  rcases this with rfl | rfl | rfl
  · exact hi
  · exact hj
  · exact hm
end
end Go.Proofs.YtbfigbpjoaccdaaGreat

namespace Go.Proofs.YtbfigbpjoaccdaaGreat
open Go Go.RowKit Go.Shelf
set_option linter.unusedVariables false
set_option linter.unusedSimpArgs false

/-! ### Lists of numbers -/

/-- A number below block B. -/
def LgB (B : Nat) (W : World) (a : Option Addr) (ys : List Nat) (V : Nat) : Prop := RdWd B W a ys ∧ wordsB two64 ys ∧ trimmed ys ∧ valB two64 ys = V
theorem LgB.below {B B' : Nat} {W W' : World} {a : Option Addr} {ys : List Nat} {V : Nat} (h : LgB B W a ys V) (hB : B ≤ B') (hb : Below B' W W') : LgB B W' a ys V := ⟨h.1.below hB hb, h.2⟩
theorem LgB.lgR {B : Nat} {W : World} {a : Option Addr} {ys : List Nat} {V : Nat} (h : LgB B W a ys V) (hB : B ≤ W.heap.size) : LgR W a ys V := ⟨h.1.mono hB, h.2.1, h.2.2.1, h.2.2.2⟩
theorem LgR.lgB {W : World} {a : Option Addr} {ys : List Nat} {V : Nat} (h : LgR W a ys V) : LgB W.heap.size W a ys V := ⟨h.rd, h.words, h.trim, h.val⟩

/-- The slice at 'a' reads as the numbers 'Vs', of at most M words each, in blocks below B. -/
def RdWs (B : Nat) (W : World) (a : Option Addr) (Vs : List Nat) (M : Nat) : Prop :=
  ∀ i, i < Vs.length → ∃ b o, a = some ⟨b, o, none⟩ ∧ b < B ∧ ∃ a' ys l c, W.cell? ⟨b, o + i, none⟩ = some (.slice a' l c) ∧ ys.length = l ∧ LgB B W a' ys (Vs[i]?.getD 0) ∧ l ≤ M
theorem RdWs.below {B B' : Nat} {W W' : World} {a : Option Addr} {Vs : List Nat} {M : Nat} (h : RdWs B W a Vs M) (hB : B ≤ B') (hb : Below B' W W') : RdWs B W' a Vs M := fun i hi => by
  obtain ⟨b, o, h1, h2, a', ys, l, c, h3, h4, h5, h6⟩ := h i hi
  exact ⟨b, o, h1, h2, a', ys, l, c, (hb.cell (p := ⟨b, o + i, none⟩) (by show b < B'; omega)).trans h3, h4, h5.below hB hb, h6⟩

theorem RdWs.later {W W' : World} {a : Option Addr} {Vs : List Nat} {M : Nat} (h : RdWs W.heap.size W a Vs M) (hb : Below W.heap.size W W') : RdWs W'.heap.size W' a Vs M := fun i hi => by
  obtain ⟨b, o, h1, h2, a', ys, l, c, h3, h4, h5, h6⟩ := h.below (Nat.le_refl _) hb i hi
  exact ⟨b, o, h1, Nat.lt_of_lt_of_le h2 hb.size, a', ys, l, c, h3, h4, ⟨h5.1.mono hb.size, h5.2⟩, h6⟩

/-- The values in L are the numbers Vs, none of them in block av. -/
def EntLs (W : World) (L : List Value) (Vs : List Nat) (M : Nat) (av : Option Nat) : Prop :=
  L.length = Vs.length ∧ ∀ i, i < Vs.length → ∃ a ys l c, L[i]? = some (.slice a l c) ∧ ys.length = l ∧ LgR W a ys (Vs[i]?.getD 0) ∧ l ≤ M ∧ ∀ ad, a = some ad → some ad.block ≠ av ∧ ad.block < W.heap.size
theorem EntLs.below {W W' : World} {L : List Value} {Vs : List Nat} {M : Nat} {av : Option Nat} (h : EntLs W L Vs M av) (hb : Below W.heap.size W W') : EntLs W' L Vs M av := ⟨h.1, fun i hi => by
  obtain ⟨a, ys, l, c, h1, h2, h3, h4, h5⟩ := h.2 i hi
  exact ⟨a, ys, l, c, h1, h2, h3.later hb, h4, fun ad e => ⟨(h5 ad e).1, Nat.lt_of_lt_of_le (h5 ad e).2 hb.size⟩⟩⟩
theorem LgR.grown {W W' : World} {a : Option Addr} {ys : List Nat} {V : Nat} {av : Option Nat} (h : LgR W a ys V) (hg : W.grownBy W' av) (ha : ∀ ad, a = some ad → some ad.block ≠ av) : LgR W' a ys V := by
  refine ⟨?_, h.words, h.trim, h.val⟩
  rcases h.rd with h1 | ⟨b, o, h1, h2, h3⟩
  · exact .inl h1
  · refine .inr ⟨b, o, h1, Nat.lt_of_lt_of_le h2 hg.size, fun i hi => ?_⟩
    rw [← h3 i hi]
    exact World.cell?_of_block (hg.block b h2 (ha _ h1))
/-- Behind an append of one number. -/
theorem EntLs.append {W W' : World} {L : List Value} {Vs : List Nat} {M : Nat} {av av' : Option Nat} (h : EntLs W L Vs M av) (hg : W.grownBy W' av) (hav : av' = av ∨ ∃ s, av' = some s ∧ W.heap.size ≤ s) {a : Option Addr} {ys : List Nat} {l c V : Nat} (hl : ys.length = l) (hr : LgR W a ys V) (hM : l ≤ M) (ha : ∀ ad, a = some ad → some ad.block ≠ av ∧ ad.block < W.heap.size) : EntLs W' (L ++ [.slice a l c]) (Vs ++ [V]) M av' := by
  refine ⟨by simp [h.1], fun i hi => ?_⟩
  have hne : ∀ b : Nat, some b ≠ av → b < W.heap.size → some b ≠ av' := fun b h1 h2 => by
    rcases hav with rfl | ⟨s, rfl, h3⟩
    · exact h1
    · intro e; cases e; omega
  by_cases e : i < Vs.length
  · obtain ⟨a1, ys1, l1, c1, h1, h2, h3, h4, h5⟩ := h.2 i e
    refine ⟨a1, ys1, l1, c1, ?_, h2, ?_, h4, fun ad e2 => ⟨hne _ (h5 ad e2).1 (h5 ad e2).2, Nat.lt_of_lt_of_le (h5 ad e2).2 hg.size⟩⟩
    · rw [List.getElem?_append_left (by rw [h.1]; exact e)]; exact h1
    · rw [List.getElem?_append_left e]; exact h3.grown hg fun ad e2 => (h5 ad e2).1
  · have hi2 : i = Vs.length := by simp at hi; omega
    subst hi2
    refine ⟨a, ys, l, c, ?_, hl, ?_, hM, fun ad e2 => ⟨hne _ (ha ad e2).1 (ha ad e2).2, Nat.lt_of_lt_of_le (ha ad e2).2 hg.size⟩⟩
    · rw [List.getElem?_append_right (by rw [h.1]; exact Nat.le_refl _), h.1]; simp
    · rw [List.getElem?_append_right (Nat.le_refl _)]
      simp only [Nat.sub_self, List.getElem?_cons_zero, Option.getD_some]
      exact hr.grown hg fun ad e2 => (ha ad e2).1
theorem EntLs.rd {W : World} {base : Nat} {L : List Value} {Vs : List Nat} {M : Nat} {av : Option Nat} (h : EntLs W L Vs M av) {a : Option Addr} {n c : Nat} (hn : Vs.length = n) (hr : W.ownsRow base 167 1 (.slice a n c) n L) : RdWs W.heap.size W a Vs M := fun i hi => by
  rcases hr.2 with ⟨h1, h2⟩ | ⟨g, cap, cur, h1, _, hg, _⟩
  · omega
  · simp only [Value.slice.injEq, true_and] at h1
    obtain ⟨rfl, rfl⟩ := h1
    obtain ⟨a1, ys, l, c, h3, h4, h5, h6, _⟩ := h.2 i hi
    refine ⟨g, 0, rfl, (Array.getElem?_eq_some_iff.1 hg).1, a1, ys, l, c, ?_, h4, h5.lgB, h6⟩
    rw [Nat.zero_add, hr.cellAt i (by omega), h3]

theorem step_append_at {P : Program} {ops : Array Oper} {o : Oper} {a : Act} {w : World} {K : Act → World → Prop} {Q : Exit → Act → World → Prop} {E : Prop}
    (hg : o.guard = none) (s x : Operand) (t : TypeId) (hop : o.op = Op.call { callee := Callee.builtin Builtin.append, args := #[s, x], argTypes := #[t, t] })
    (base : Nat) (e : TypeId) (i : TypeInfo) (z : Value) (size bytes : Nat) (h1 : P.underlying t = some (.slice e)) (h2 : P.info? e = some i) (h3 : i.zero = some z) (h4 : i.size = size) (h5 : i.bytes = bytes) (h6 : z.cells.size = size) (h7 : 0 < size)
    (v : Value) (k : Nat) (xs : List Value) (hs : a.eval s = v) (hown : w.ownsRow base e size v k xs) (ad : Addr) (m c : Nat) (news : List Value) (hx : a.eval x = .slice (some ad) m c) (hn : news.length = m * size)
    (hc : ∀ j u, news[j]? = some u → w.cell? (ad.add j) = some u) (h1c : ∀ u ∈ news, u.oneCell' = true) (b1 : k + m ≤ maxLen) (b2 : (k + m) * bytes ≤ 140737488355328) (b3 : base ≤ w.heap.size)
    (hK : ∀ v' w', w'.ownsRow base e size v' (k + m) (xs ++ news) → w.grownBy w' v.ownBlock → (v'.ownBlock = v.ownBlock ∨ v'.ownBlock = some w.heap.size) → K (a.put o.dst v') w') :
    if Region.wanted o (yielded ops a.tmps) = true then Oper.wp P o a w K Q else E := by
  have hw : Region.wanted o (yielded ops a.tmps) = true := by simp [Region.wanted, hg]
  rw [if_pos hw]
  obtain ⟨v', w', hrun, r1, r2, r3, r4⟩ := run_append_own_at (P := P) w base t o.type e i z size bytes h1 h2 h3 h4 h5 h6 h7 v k xs hown ad m c news hn hc h1c b1 b2 b3
  unfold Oper.wp
  simp [execOp, hop, resolve, invoke, builtin, hs, hx, hrun, Result.andThen]
  exact hK v' w' r1 r2 r4

theorem jinfo_long : (Tryz.prog.info? 167).map (fun i => (i.zero, i.size, i.bytes)) = some (some (.slice none 0 0), 1, 24) := by kernel_rfl

def binR (k : Nat) : List Nat := (List.range (k + 1)).map (binom k)
def binN (k m : Nat) : List Nat := (List.range m).map (binom (k + 1))
theorem binR_length (k : Nat) : (binR k).length = k + 1 := by simp [binR]
theorem binR_get {k i : Nat} (h : i < k + 1) : (binR k)[i]?.getD 0 = binom k i := by unfold binR; rw [List.getElem?_map, List.getElem?_range h]; rfl
theorem binN_snoc (k m : Nat) : binN k m ++ [binom (k + 1) m] = binN k (m + 1) := by simp [binN, List.range_succ]
theorem binN_one (k : Nat) : binN k 1 = [1] := by simp [binN, binom_zero]
theorem binN_last (k : Nat) : binN k (k + 1) ++ [1] = binR (k + 1) := by
  have := binN_snoc k (k + 1)
  rw [binom_self] at this
  rw [this]; rfl
/-- A chance's term. -/
def termF (n j i : Nat) : Nat := binom n i * j ^ i * (256 - j) ^ (n - i)
theorem sum_term (n j k : Nat) : sumR (termF n j) (k + 1) = fewR j (256 - j) n k := sumR_congr fun i _ => (distR_binom j (256 - j) n i).symm
theorem fresh_ne {W : World} {base : Nat} {e : TypeId} {size : Nat} {v : Value} {n : Nat} {xs : List Value} (h : W.ownsRow base e size v n xs) {a : Option Addr} {K : Nat} (hK : W.heap.size ≤ K) {M : Nat} (ha : ∀ ad, a = some ad → K ≤ ad.block ∧ ad.block < M) : ∀ ad, a = some ad → some ad.block ≠ v.ownBlock := fun ad e1 e2 => by
  have h1 := (ha ad e1).1
  have h2 := (h.lt _ e2.symm).2
  omega
theorem LgR.block {W : World} {a : Option Addr} {ys : List Nat} {V : Nat} (h : LgR W a ys V) (hne : ys ≠ []) : ∀ ad, a = some ad → ad.block < W.heap.size := fun ad e => by
  rcases h.rd with h1 | ⟨b, o, h1, h2, _⟩
  · exact (hne h1).elim
  · rw [h1] at e; cases e; exact h2

set_option maxRecDepth 100000 in
set_option maxHeartbeats 8000000 in
theorem few_any (n k j num den : Nat) (hn : n ≤ 100) (hk : k ≤ n) (hj : j ≤ 256) (hnum : num ≤ 1073741824) (hnum0 : num ≠ 0) (hden : den ≤ 1073741824) (v : Bool) (hv : fewB n k j num den = v) (w : World) :
    Calls Tryz.prog 71 #[.int .i64 (n : Int), .int .i64 (k : Int), .int .i64 (j : Int), frv num den] w fun e w' => e = .returned (.bool v) ∧ Below w.heap.size w w' := by
  obtain ⟨i0, hi, hz0, hz1, hz2⟩ := info_parts jinfo_long
  have k7 := ((Blk.new w 60 #[.int .i64 (num : Int), .int .i64 (den : Int)]).alloc (.cells #[.int .u64 1] 140)).alloc (.cells #[.slice (some ⟨w.heap.size + 1, 0, none⟩) 1 1] 167)
  have k8 := by simpa only [World.size_alloc] using (Blk.new (w.alloc (.cells #[.int .i64 (num : Int), .int .i64 (den : Int)] 60)) 140 #[.int .u64 1]).alloc (.cells #[.slice (some ⟨w.heap.size + 1, 0, none⟩) 1 1] 167)
  have k9 := by simpa only [World.size_alloc] using Blk.new ((w.alloc (.cells #[.int .i64 (num : Int), .int .i64 (den : Int)] 60)).alloc (.cells #[.int .u64 1] 140)) 167 #[.slice (some ⟨w.heap.size + 1, 0, none⟩) 1 1]
  have hB := jwd_al (jwd_al (jwd_al (Below.refl _ w) (.cells #[.int .i64 (num : Int), .int .i64 (den : Int)] 60)) (.cells #[.int .u64 1] 140)) (.cells #[.slice (some ⟨w.heap.size + 1, 0, none⟩) 1 1] 167)
  obtain ⟨W1, hW1⟩ : ∃ W, ((w.alloc (.cells #[.int .i64 (num : Int), .int .i64 (den : Int)] 60)).alloc (.cells #[.int .u64 1] 140)).alloc (.cells #[.slice (some ⟨w.heap.size + 1, 0, none⟩) 1 1] 167) = W := ⟨_, rfl⟩
  rw [hW1] at k7 k8 k9 hB
  have hone := LgR.one (x := 1) k8 (by decide) (by decide)
  have hrow0 : RdWs W1.heap.size W1 (some ⟨w.heap.size + 1 + 1, 0, none⟩) (binR 0) 1 := fun i hi => by
    have : i = 0 := by rw [binR_length] at hi; omega
    subst this
    exact ⟨_, 0, rfl, k9.lt, some ⟨w.heap.size + 1, 0, none⟩, [1], 1, 1, k9.cell rfl, rfl, hone.lgB, Nat.le_refl _⟩
  have hrow0H := Lib.hid hrow0
  have hWH := Lib.hid hW1
  have hvH := Lib.hid hv
  have hnumH := Lib.hid hnum
  have hnum0H := Lib.hid hnum0
  have hdenH := Lib.hid hden
  clear hW1 hv hnum hnum0 hden hone hrow0 k8 k9
  go_enter Tryz.func71, Tryz.ntmps71
  go_wp2_with fail
  rw [hWH.out]
  clear hWH
  go_loopw [9, 17] (fun rv i wr => ∃ (m : Nat) (a : Option Addr) (c : Nat), m ≤ n ∧ i = .int .i64 (m : Int) ∧ rv = .slice a (m + 1) c ∧ Hid (RdWs wr.heap.size wr a (binR m) (m + 1)) ∧ Blk wr w.heap.size 60 #[.int .i64 (num : Int), .int .i64 (den : Int)] ∧ Below w.heap.size w wr) (fun _ i _ => n - (intOf i).toNat)
  case atStart => exact ⟨0, _, 1, Nat.zero_le _, rfl, rfl, hrow0H, k7, hB⟩
  case round =>
    clear k7 hB hrow0H
    clear W1
    obtain ⟨m, a, c, hm, rfl, rfl, hrow, kf, hBw⟩ := hrel
    obtain ⟨wo, rfl⟩ : ∃ wo : World, wo = wr := ⟨_, rfl⟩
    by_cases hlt : m < n
    · have q1 := (Blk.new wo 140 #[.int .u64 1]).alloc (.cells #[.slice (some ⟨wo.heap.size, 0, none⟩) 1 1] 167)
      have q2 := by simpa only [World.size_alloc] using World.ownsRow_lit (e := 167) (size := 1) (base := wo.heap.size) (wo.alloc (.cells #[.int .u64 1] 140)) #[.slice (some ⟨wo.heap.size, 0, none⟩) 1 1] 1 (by simp) (by decide) rfl
      have hBo := jwd_al (jwd_al (Below.refl _ wo) (.cells #[.int .u64 1] 140)) (.cells #[.slice (some ⟨wo.heap.size, 0, none⟩) 1 1] 167)
      obtain ⟨W2, hW2⟩ : ∃ W, (wo.alloc (.cells #[.int .u64 1] 140)).alloc (.cells #[.slice (some ⟨wo.heap.size, 0, none⟩) 1 1] 167) = W := ⟨_, rfl⟩
      rw [hW2] at q1 q2 hBo
      have hent : EntLs W2 [.slice (some ⟨wo.heap.size, 0, none⟩) 1 1] (binN m 1) (m + 2) (some (wo.heap.size + 1)) := by
        rw [binN_one]
        refine ⟨rfl, fun i hi => ?_⟩
        have : i = 0 := by simp at hi; exact hi
        subst this
        exact ⟨_, [1], 1, 1, rfl, rfl, LgR.one (x := 1) q1 (by decide) (by decide), by omega, fun ad e => by cases e; exact ⟨by simp, q1.lt⟩⟩
      have hentH := Lib.hid hent
      have hW2H := Lib.hid hW2
      clear hent hW2
      go_wp2_with fail
      rw [hW2H.out]
      clear hW2H
      go_loopw [10, 11] (fun nv i wr => ∃ (x : Nat) (L : List Value), 1 ≤ x ∧ x ≤ m + 1 ∧ i = .int .i64 (x : Int) ∧ wr.ownsRow wo.heap.size 167 1 nv x L ∧ Hid (EntLs wr L (binN m x) (m + 2) nv.ownBlock) ∧ Below wo.heap.size wo wr) (fun _ i _ => m + 1 - (intOf i).toNat)
      case atStart => exact ⟨1, _, by omega, by omega, rfl, q2, hentH, hBo⟩
      case round =>
        clear q1 q2 hBo hentH
        clear W2
        obtain ⟨x, L, hx1, hxm, rfl, rowx, hent, hBx⟩ := hrel
        by_cases hxlt : x < m + 1
        · obtain ⟨y, hy⟩ : ∃ y, x = y + 1 := ⟨x - 1, by omega⟩
          have hxy : (x : Int) - 1 = (y : Int) := by omega
          have hym : y < m + 1 := by omega
          obtain ⟨b, o, rfl, hb, a1, ys1, l1, c1, hc1, hl1, hL1, hM1⟩ := hrow.out y (by rw [binR_length]; omega)
          obtain ⟨b', o', hbo, _, a2, ys2, l2, c2, hc2, hl2, hL2, hM2⟩ := hrow.out x (by rw [binR_length]; omega)
          simp only [Option.some.injEq, Addr.mk.injEq, and_true] at hbo
          obtain ⟨rfl, rfl⟩ := hbo
          rw [binR_get (by omega)] at hL1 hL2
          have hbin : binom m y + binom m x = binom (m + 1) x := by rw [hy]; rfl
          have hbinH := Lib.hid hbin
          have hL1H := Lib.hid hL1
          have hL2H := Lib.hid hL2
          have hl1H := Lib.hid hl1
          have hl2H := Lib.hid hl2
          have hS : Below wo.heap.size wo wr.drew := hBx.drew
          have rowd := row_below rowx (Below.refl wr.heap.size wr).drew
          have entd := Lib.hid (hent.out.below (Below.refl wr.heap.size wr).drew)
          have hsn := binN_snoc m x
          have hsnH := Lib.hid hsn
          clear hbin hL1 hL2 hl1 hl2 hy hsn hent rowx
          go_wp2_with fail
          refine plain_region (fun W' => Below wo.heap.size wo W') 14 14 (by kernel_rfl) rfl ?_
          simp only [Array.replicate_succ, Array.replicate_zero, List.push_toArray, List.nil_append, List.cons_append]
          refine take_op 0 (v := ?rv0) rfl (by kernel_rfl) (fun _ _ _ h => h) (by rfl) hS (fun w' hS' => ?ry0) ?rz0
          case ry0 =>
            go_simp
            rfl
          simp only [List.setIfInBounds_toArray, List.set_cons_zero, List.set_cons_succ]
          refine take_op 1 (v := ?rv1) rfl (by kernel_rfl) (fun _ _ _ h => h) (by rfl) hS (fun w' hS' => ?ry1) ?rz1
          case ry1 =>
            go_simp
            rfl
          simp only [List.setIfInBounds_toArray, List.set_cons_zero, List.set_cons_succ]
          refine take_op 2 (v := ?rv2) rfl (by kernel_rfl) (fun _ _ _ h => h) (by rfl) hS (fun w' hS' => ?ry2) ?rz2
          case ry2 =>
            go_simp
            rfl
          simp only [List.setIfInBounds_toArray, List.set_cons_zero, List.set_cons_succ]
          refine take_op 3 (v := ?rv3) rfl (by kernel_rfl) (fun _ _ _ h => h) (by rfl) hS (fun w' hS' => ?ry3) ?rz3
          case ry3 =>
            go_simp
            try go_ints
            rfl
          simp only [List.setIfInBounds_toArray, List.set_cons_zero, List.set_cons_succ]
          refine take_op 4 (v := ?rv4) rfl (by kernel_rfl) (fun _ _ _ h => h) (by rfl) hS (fun w' hS' => ?ry4) ?rz4
          case ry4 =>
            go_simp
            try go_ints
            first
            | rfl
            | (rw [if_pos (by omega)]; done)
            | rw [if_pos ⟨by omega, by omega⟩]
          simp only [List.setIfInBounds_toArray, List.set_cons_zero, List.set_cons_succ]
          refine take_op 5 (v := ?rv5) rfl (by kernel_rfl) (fun _ _ _ h => h) (by rfl) hS (fun w' hS' => ?ry5) ?rz5
          case ry5 =>
            have z1 := (hS'.cell (p := ⟨b, o + y, none⟩) hb).trans hc1
            have z2 := (hS'.cell (p := ⟨b, o + x, none⟩) hb).trans hc2
            clear hS'
            go_simp
            rfl
          simp only [List.setIfInBounds_toArray, List.set_cons_zero, List.set_cons_succ]
          refine take_op 6 (v := ?rv6) rfl (by kernel_rfl) (fun _ _ _ h => h) (by rfl) hS (fun w' hS' => ?ry6) ?rz6
          case ry6 =>
            go_simp
            rfl
          simp only [List.setIfInBounds_toArray, List.set_cons_zero, List.set_cons_succ]
          refine take_op 7 (v := ?rv7) rfl (by kernel_rfl) (fun _ _ _ h => h) (by rfl) hS (fun w' hS' => ?ry7) ?rz7
          case ry7 =>
            go_simp
            rfl
          simp only [List.setIfInBounds_toArray, List.set_cons_zero, List.set_cons_succ]
          refine take_op 8 (v := ?rv8) rfl (by kernel_rfl) (fun _ _ _ h => h) (by rfl) hS (fun w' hS' => ?ry8) ?rz8
          case ry8 =>
            go_simp
            try go_ints
            first
            | rfl
            | (rw [if_pos (by omega)]; done)
            | rw [if_pos ⟨by omega, by omega⟩]
          simp only [List.setIfInBounds_toArray, List.set_cons_zero, List.set_cons_succ]
          refine take_op 9 (v := ?rv9) rfl (by kernel_rfl) (fun _ _ _ h => h) (by rfl) hS (fun w' hS' => ?ry9) ?rz9
          case ry9 =>
            have z1 := (hS'.cell (p := ⟨b, o + y, none⟩) hb).trans hc1
            have z2 := (hS'.cell (p := ⟨b, o + x, none⟩) hb).trans hc2
            clear hS'
            go_simp
            rfl
          simp only [List.setIfInBounds_toArray, List.set_cons_zero, List.set_cons_succ]
          refine step_op 10 (by kernel_rfl) rfl (fun K hK => ?_)
          rw [if_pos (by rfl)]
          go_simp
          refine (plus_any a1 a2 c1 c2 l1 l2 ys1 ys2 _ _ hl1H.out hl2H.out (by omega) (by omega) _ ((hL1H.out.below (Nat.le_refl _) hS).lgR hS.size) ((hL2H.out.below (Nat.le_refl _) hS).lgR hS.size)).mono ?_
          rintro e W3 ⟨zs, a3, c3, rfl, hr3, hl3, hb3, hfr⟩
          rw [hbinH.out] at hr3
          have hne3 := fresh_ne rowd (Nat.le_refl _) hfr
          have hS3 := hS.trans (hb3.mono hS.size)
          have row3 := row_below rowd hb3
          have ent3 := entd.out.below hb3
          obtain ⟨l3, hl3'⟩ : ∃ l, zs.length = l := ⟨_, rfl⟩
          rw [hl3'] at hl3 ⊢
          have hl3H := Lib.hid hl3'
          clear hl3' hb3
          refine hK.out _ _ (fun h => hS3) ?_
          clear hK K
          try simp only [Act.put, List.setIfInBounds_toArray, List.set_cons_zero, List.set_cons_succ]
          refine step_op 11 (by kernel_rfl) rfl (fun K hK => ?_)
          rw [if_pos (by rfl)]
          have hb4 := jwd_al (Below.refl _ W3) (.cells #[.slice a3 l3 c3] 167)
          have hS4 := jwd_al hS3 (.cells #[.slice a3 l3 c3] 167)
          have row4 := row_below row3 hb4
          have ent4 := ent3.below hb4
          have hr4 := hr3.later hb4
          go_simp
          refine hK.out _ _ (fun h => hS4) ?_
          clear hK K
          try simp only [Act.put, List.setIfInBounds_toArray, List.set_cons_zero, List.set_cons_succ]
          refine step_op 12 (by kernel_rfl) rfl (fun K hK => ?_)
          refine step_append_at rfl (.tmp 27) (.tmp 38) 168 rfl wo.heap.size 167 i0 (.slice none 0 0) 1 24 Tryz.underlying168 hi hz0 hz1 hz2 rfl (by decide) u10 x L rfl row4 ⟨W3.heap.size, 0, none⟩ 1 1 [.slice a3 l3 c3] rfl rfl (cell_one_new _ _ _) (by simp [Value.oneCell']) (by unfold maxLen; omega) (by omega) hS4.size ?_
          intro v5 W5 hown5 hg5 hav5
          have ent5 := ent4.append hg5 (hav5.imp id fun e => ⟨_, e, Nat.le_refl _⟩) (c := c3) hl3H.out hr4 (by omega) (fun ad e => ⟨hne3 ad e, Nat.lt_of_lt_of_le (hfr ad e).2 hb4.size⟩)
          rw [hsnH.out] at ent5
          have hS5 : Below wo.heap.size wo W5 := hS4.grown hg5 hS4.size (fun k e => (row4.lt k e).1)
          refine hK.out _ _ (fun h => hS5) ?_
          clear hK K
          try simp only [Act.put, List.setIfInBounds_toArray, List.set_cons_zero, List.set_cons_succ]
          refine take_op 13 (v := ?rv13) rfl (by kernel_rfl) (fun _ _ _ h => h) (by rfl) hS5 (fun w' hS' => ?ry13) ?rz13
          case ry13 =>
            go_simp
            rfl
          simp only [List.setIfInBounds_toArray, List.set_cons_zero, List.set_cons_succ]
          refine done_ops (by kernel_rfl) ?_
          go_wp2_with fail
          go_roundw
          case rel => exact ⟨x + 1, _, by omega, by omega, by go_num, hown5, Lib.hid ent5, hS5⟩
          case measure => simp [intOf]; omega
        · have hxe : x = m + 1 := by omega
          subst hxe
          have q1 := (Blk.new wr 140 #[.int .u64 1]).alloc (.cells #[.slice (some ⟨wr.heap.size, 0, none⟩) 1 1] 167)
          have row2 := (rowx.alloc (.cells #[.int .u64 1] 140)).alloc (.cells #[.slice (some ⟨wr.heap.size, 0, none⟩) 1 1] 167)
          have hb2 := jwd_al (jwd_al (Below.refl _ wr) (.cells #[.int .u64 1] 140)) (.cells #[.slice (some ⟨wr.heap.size, 0, none⟩) 1 1] 167)
          have ent2 := hent.out.below hb2
          have hBx2 := jwd_al (jwd_al hBx (.cells #[.int .u64 1] 140)) (.cells #[.slice (some ⟨wr.heap.size, 0, none⟩) 1 1] 167)
          have hnews : ∀ j u, [(Value.slice (some ⟨wr.heap.size, 0, none⟩) 1 1)][j]? = some u → ((wr.alloc (.cells #[.int .u64 1] 140)).alloc (.cells #[.slice (some ⟨wr.heap.size, 0, none⟩) 1 1] 167)).cell? ((⟨wr.heap.size + 1, 0, none⟩ : Addr).add j) = some u := by
            have := cell_one_new (wr.alloc (.cells #[.int .u64 1] 140)) (.slice (some ⟨wr.heap.size, 0, none⟩) 1 1) 167
            simpa only [World.size_alloc] using this
          have hnewsH := Lib.hid hnews
          have q1H := Lib.hid q1
          have row2H := Lib.hid row2
          have ent2H := Lib.hid ent2
          have hBx2H := Lib.hid hBx2
          have rowxH := Lib.hid rowx
          have hav : ∀ ad : Addr, some (⟨wr.heap.size, 0, none⟩ : Addr) = some ad → some ad.block ≠ u10.ownBlock := fun ad e e2 => by
            cases e
            have := (rowx.lt _ e2.symm).2
            exact absurd this (Nat.lt_irrefl _)
          have havH := Lib.hid hav
          clear hnews q1 row2 hb2 ent2 hBx2 rowx hav hent hBx
          go_wp2_with (at_builtin; refine wpList_append_own_at _ rfl (.tmp 40) (.tmp 42) 168 rfl wo.heap.size 167 i0 (.slice none 0 0) 1 24 Tryz.underlying168 hi hz0 hz1 hz2 rfl (by decide) u10 (m + 1) L rfl row2H.out ⟨wr.heap.size + 1, 0, none⟩ 1 1 [.slice (some ⟨wr.heap.size, 0, none⟩) 1 1] rfl rfl hnewsH.out (by simp [Value.oneCell']) (by unfold maxLen; omega) (by omega) hBx2H.out.size ?_; intro v5 W5 hown5 hg5 _ hav5; have ent5 := ent2H.out.append hg5 (hav5.imp id fun e => ⟨_, e, Nat.le_refl _⟩) (l := 1) (c := 1) (V := 1) rfl (LgR.one (x := 1) q1H.out (by decide) (by decide)) (by omega) (fun ad e => ⟨havH.out ad e, by cases e; exact q1H.out.lt⟩); have hB5 := hBx2H.out.grown hg5 hBx2H.out.size (fun k e => (rowxH.out.lt k e).1); rw [binN_last] at ent5; obtain ⟨a5, c5, rfl⟩ := jrow_slice hown5; have rd5 := ent5.rd (binR_length (m + 1)) hown5; have rd5H := Lib.hid rd5; clear ent5 rd5 hg5 hav5 hown5)
          go_roundw
          case rel => exact ⟨m + 1, a5, c5, by omega, by go_num, rfl, rd5H, kf.below hB5 kf.lt, hBw.trans (hB5.mono hBw.size)⟩
          case measure => simp [intOf]; omega
    · have hmn : m = n := by omega
      subst hmn
      go_wp2_with fail
      go_loopw [12, 47] (fun sv i wr => ∃ (x : Nat) (ys : List Nat) (a1 : Option Addr) (l c1 : Nat), x ≤ k + 1 ∧ i = .int .i64 (x : Int) ∧ sv = .slice a1 l c1 ∧ Hid (ys.length = l) ∧ l ≤ 300 + x ∧ Hid (LgR wr a1 ys (sumR (termF m j) x)) ∧ Hid (RdWs wr.heap.size wr a (binR m) (m + 1)) ∧ Blk wr w.heap.size 60 #[.int .i64 (num : Int), .int .i64 (den : Int)] ∧ Below w.heap.size w wr) (fun _ i _ => k + 1 - (intOf i).toNat)
      case atStart => exact ⟨0, [], none, 0, 0, Nat.zero_le _, rfl, rfl, Lib.hid rfl, by omega, Lib.hid ⟨.inl rfl, fun x hx => by simp at hx, fun i hi => by simp at hi, rfl⟩, hrow, kf, hBw⟩
      case round =>
        clear hrow kf hBw
        obtain ⟨x, ys, a1, l, c1, hxk, rfl, rfl, hyl, hlx, hs, hrow, kf, hBw⟩ := hrel
        by_cases hxlt : x < k + 1
        · obtain ⟨b, o, rfl, hb, a2, zs, l2, c2, hc2, hl2, hL2, hM2⟩ := hrow.out x (by rw [binR_length]; omega)
          rw [binR_get (by omega)] at hL2
          obtain ⟨q, hq⟩ : ∃ q, 256 - j = q := ⟨_, rfl⟩
          obtain ⟨d, hd⟩ : ∃ d, m - x = d := ⟨_, rfl⟩
          have hw2 : IntKind.u64.wrap (j : Int) = (j : Int) := by rw [IntKind.wrap_u64]; omega
          have hw3 : (256 : Int) - (j : Int) = (q : Int) := by omega
          have hw4 : (m : Int) - (x : Int) = (d : Int) := by omega
          have hw5 : IntKind.u64.wrap (q : Int) = (q : Int) := by rw [IntKind.wrap_u64]; omega
          have hq2 : q ≤ 256 := by omega
          have hd2 : x + d ≤ 100 := by omega
          have hp1 := Lib.hid (power_any a2 c2 l2 zs (binom m x) j x hl2 (by omega) (by rw [lt_two64]; omega) wr (hL2.lgR (Nat.le_refl _)))
          have hterm : sumR (termF m j) (x + 1) = sumR (termF m j) x + binom m x * j ^ x * q ^ d := by
            rw [← hq, ← hd]; rfl
          have htermH := Lib.hid hterm
          have tok1 : True := trivial
          clear hq hd hl2 hL2 hterm
          go_wp2_with (first
            | (go_at_call 109; have _t := tok1; refine hp1.out.mono ?_; clear _t tok1; rintro e W2 ⟨us, a3, c3, rfl, hr3, hl3, hb3⟩; have hs3 := hs.out.later hb3; obtain ⟨l3, hl3'⟩ : ∃ l, us.length = l := ⟨_, rfl⟩; rw [hl3'] at hl3 ⊢; have hl3H := Lib.hid hl3'; clear hl3')
            | (go_at_call 109; refine (power_any a3 c3 l3 us (binom m x * j ^ x) q d hl3H.out (by omega) (by rw [lt_two64]; omega) _ hr3).mono ?_; rintro e W3 ⟨vs, a4, c4, rfl, hr4, hl4, hb4⟩; have hs4 := hs3.later hb4; obtain ⟨l4, hl4'⟩ : ∃ l, vs.length = l := ⟨_, rfl⟩; rw [hl4'] at hl4 ⊢; have hl4H := Lib.hid hl4'; clear hl4')
            | (go_at_call 108; refine (plus_any a1 a4 c1 c4 l l4 ys vs _ _ hyl.out hl4H.out (by omega) (by omega) _ hs4 hr4).mono ?_; rintro e W4 ⟨ts, a5, c5, rfl, hr5, hl5, hb5, _⟩; obtain ⟨l5, hl5'⟩ : ∃ l, ts.length = l := ⟨_, rfl⟩; rw [hl5'] at hl5 ⊢; have hl5H := Lib.hid hl5'; clear hl5'))
          have hbt := hb3.trans ((hb4.mono hb3.size).trans (hb5.mono (Nat.le_trans hb3.size hb4.size)))
          rw [← htermH.out] at hr5
          go_roundw
          case rel => exact ⟨x + 1, ts, a5, l5, c5, by omega, by go_num, rfl, hl5H, by omega, Lib.hid hr5, Lib.hid (hrow.out.later hbt), kf.below hbt kf.lt, hBw.trans (hbt.mono hBw.size)⟩
          case measure => simp [intOf]; omega
        · have hxe : x = k + 1 := by omega
          subst hxe
          have hw1 : IntKind.u64.wrap (den : Int) = (den : Int) := by have := hdenH.out; rw [IntKind.wrap_u64]; omega
          have hw2 : IntKind.u64.wrap (num : Int) = (num : Int) := by have := hnumH.out; rw [IntKind.wrap_u64]; omega
          have hsum := hs.out
          rw [sum_term] at hsum
          have hsumH := Lib.hid hsum
          have hvv := hvH.out
          unfold fewB at hvv
          have hvvH := Lib.hid hvv
          obtain ⟨F, hF⟩ : ∃ F, fewR j (256 - j) m k = F := ⟨_, rfl⟩
          rw [hF] at hsumH hvvH
          have hS := (Below.refl wr.heap.size wr).drew
          clear hs hsum hvv hvH hF hrow
          go_wp2_with fail
          refine plain_region (fun W' => Below wr.heap.size wr W') 13 13 (by kernel_rfl) rfl ?_
          simp only [Array.replicate_succ, Array.replicate_zero, List.push_toArray, List.nil_append, List.cons_append]
          obtain ⟨X0, hX0⟩ : ∃ X, wr.drew = X := ⟨_, rfl⟩
          rw [hX0] at hS ⊢
          clear hX0
          refine take_op 0 (v := ?t1v) rfl (by kernel_rfl) (fun _ _ _ h => h) (by rfl) hS (fun w' hS' => ?t1y) ?t1z
          case t1y =>
            go_simp
            rfl
          simp only [List.setIfInBounds_toArray, List.set_cons_zero, List.set_cons_succ]
          refine take_op 1 (v := ?t2v) rfl (by kernel_rfl) (fun _ _ _ h => h) (by rfl) hS (fun w' hS' => ?t2y) ?t2z
          case t2y =>
            go_simp
            rfl
          simp only [List.setIfInBounds_toArray, List.set_cons_zero, List.set_cons_succ]
          refine take_op 2 (v := ?t3v) rfl (by kernel_rfl) (fun _ _ _ h => h) (by rfl) hS (fun w' hS' => ?t3y) ?t3z
          case t3y =>
            have z0 := (kf.below hS' kf.lt).cell (i := 0) rfl
            have z1 := (kf.below hS' kf.lt).cell (i := 1) rfl
            clear hS'
            go_simp
            rfl
          simp only [List.setIfInBounds_toArray, List.set_cons_zero, List.set_cons_succ]
          refine take_op 3 (v := ?t4v) rfl (by kernel_rfl) (fun _ _ _ h => h) (by rfl) hS (fun w' hS' => ?t4y) ?t4z
          case t4y =>
            go_simp
            rfl
          simp only [List.setIfInBounds_toArray, List.set_cons_zero, List.set_cons_succ]
          refine take_op 5 (v := ?t5v) rfl (by kernel_rfl) (fun _ _ _ h => h) (by rfl) hS (fun w' hS' => ?t5y) ?t5z
          case t5y =>
            go_simp
            rfl
          simp only [List.setIfInBounds_toArray, List.set_cons_zero, List.set_cons_succ]
          refine take_op 6 (v := ?t6v) rfl (by kernel_rfl) (fun _ _ _ h => h) (by rfl) hS (fun w' hS' => ?t6y) ?t6z
          case t6y =>
            have z0 := (kf.below hS' kf.lt).cell (i := 0) rfl
            have z1 := (kf.below hS' kf.lt).cell (i := 1) rfl
            clear hS'
            go_simp
            rfl
          simp only [List.setIfInBounds_toArray, List.set_cons_zero, List.set_cons_succ]
          refine take_op 7 (v := ?t7v) rfl (by kernel_rfl) (fun _ _ _ h => h) (by rfl) hS (fun w' hS' => ?t7y) ?t7z
          case t7y =>
            go_simp
            rfl
          simp only [List.setIfInBounds_toArray, List.set_cons_zero, List.set_cons_succ]
          refine take_op 9 (v := ?t8v) rfl (by kernel_rfl) (fun _ _ _ h => h) (by rfl) hS (fun w' hS' => ?t8y) ?t8z
          case t8y =>
            go_simp
            rfl
          simp only [List.setIfInBounds_toArray, List.set_cons_zero, List.set_cons_succ]
          refine fork2 (i := 4) (j := 8) (by kernel_rfl) ?_ ?_
          · refine step_at 4 rfl (fun K hK => ?_)
            rw [if_pos (by rfl)]
            go_simp
            refine (times_any a1 c1 l ys F den hyl.out (by omega) (by have := hdenH.out; rw [lt_two64]; omega) _ (hsumH.out.later hS)).mono ?_
            rintro e W2 ⟨ts, aT, cT, rfl, hT, hTl, hb2⟩
            have hS2 := hS.trans (hb2.mono hS.size)
            obtain ⟨lT, hlT⟩ : ∃ l, ts.length = l := ⟨_, rfl⟩
            rw [hlT] at hTl ⊢
            have hlTH := Lib.hid hlT
            clear hlT hb2
            refine hK.out _ _ (fun h => hS2) ?_
            clear hK K
            try simp only [Act.put, List.setIfInBounds_toArray, List.set_cons_zero, List.set_cons_succ]
            refine step_op 8 (by kernel_rfl) rfl (fun K hK => ?_)
            rw [if_pos (by rfl)]
            have kx2 := Blk.new W2 140 #[.int .u64 (num : Int)]
            have hS4 : Below wr.heap.size wr (W2.alloc (.cells #[.int .u64 (num : Int)] 140)) := hS2.alloc hS2.size _
            have hT2 := hT.later (jwd_al (Below.refl _ W2) (.cells #[.int .u64 (num : Int)] 140))
            go_simp
            refine hK.out _ _ (fun h => hS4) ?_
            clear hK K
            try simp only [Act.put, List.setIfInBounds_toArray, List.set_cons_zero, List.set_cons_succ]
            refine step_op 10 (by kernel_rfl) rfl (fun K hK => ?_)
            rw [if_pos (by rfl)]
            go_simp
            refine (power_any (some ⟨W2.heap.size, 0, none⟩) 1 1 [num] num 256 m rfl (by omega) (by decide) _ (LgR.one kx2 (by have := hnumH.out; rw [lt_two64]; omega) hnum0H.out)).mono ?_
            rintro e W6 ⟨ps, aP, cP, rfl, hP, hPl, hb6⟩
            have hS6 := hS4.trans (hb6.mono hS4.size)
            have hT6 := hT2.later hb6
            obtain ⟨lP, hlP⟩ : ∃ l, ps.length = l := ⟨_, rfl⟩
            rw [hlP] at hPl ⊢
            have hlPH := Lib.hid hlP
            clear hlP hb6
            refine hK.out _ _ (fun h => hS6) ?_
            clear hK K
            try simp only [Act.put, List.setIfInBounds_toArray, List.set_cons_zero, List.set_cons_succ]
            refine step_op 11 (by kernel_rfl) rfl (fun K hK => ?_)
            rw [if_pos (by rfl)]
            go_simp
            refine (atMost_any aT aP cT cP lT lP ts ps _ _ v hvvH.out hlTH.out hlPH.out (by omega) _ hT6 hP).mono ?_
            rintro e W7 ⟨rfl, hb7⟩
            have hS7 := hS6.trans (hb7.mono hS6.size)
            refine hK.out _ _ (fun h => hS7) ?_
            clear hK K
            try simp only [Act.put, List.setIfInBounds_toArray, List.set_cons_zero, List.set_cons_succ]
            refine take_op 12 (v := ?t9v) rfl (by kernel_rfl) (fun _ _ _ h => h) (by rfl) hS7 (fun w' hS' => ?t9y) ?t9z
            case t9y =>
              go_simp
              rfl
            simp only [List.setIfInBounds_toArray, List.set_cons_zero, List.set_cons_succ]
            refine done_ops (by kernel_rfl) ?_
            go_wp2_with fail
            go_ret
            exact ⟨rfl, hBw.trans (hS7.mono hBw.size)⟩
          · refine step_at 8 rfl (fun K hK => ?_)
            rw [if_pos (by rfl)]
            have kx := Blk.new X0 140 #[.int .u64 (num : Int)]
            have hS3 : Below wr.heap.size wr (X0.alloc (.cells #[.int .u64 (num : Int)] 140)) := hS.alloc hS.size _
            go_simp
            refine hK.out _ _ (fun h => hS3) ?_
            clear hK K
            try simp only [Act.put, List.setIfInBounds_toArray, List.set_cons_zero, List.set_cons_succ]
            refine step_op 4 (by kernel_rfl) rfl (fun K hK => ?_)
            rw [if_pos (by rfl)]
            go_simp
            refine (times_any a1 c1 l ys F den hyl.out (by omega) (by have := hdenH.out; rw [lt_two64]; omega) _ (hsumH.out.later hS3)).mono ?_
            rintro e W2 ⟨ts, aT, cT, rfl, hT, hTl, hb2⟩
            have hS4 := hS3.trans (hb2.mono hS3.size)
            have kx2 := kx.below hb2 kx.lt
            obtain ⟨lT, hlT⟩ : ∃ l, ts.length = l := ⟨_, rfl⟩
            rw [hlT] at hTl ⊢
            have hlTH := Lib.hid hlT
            clear hlT hb2
            refine hK.out _ _ (fun h => hS4) ?_
            clear hK K
            try simp only [Act.put, List.setIfInBounds_toArray, List.set_cons_zero, List.set_cons_succ]
            refine step_op 10 (by kernel_rfl) rfl (fun K hK => ?_)
            rw [if_pos (by rfl)]
            go_simp
            refine (power_any (some ⟨X0.heap.size, 0, none⟩) 1 1 [num] num 256 m rfl (by omega) (by decide) _ (LgR.one kx2 (by have := hnumH.out; rw [lt_two64]; omega) hnum0H.out)).mono ?_
            rintro e W6 ⟨ps, aP, cP, rfl, hP, hPl, hb6⟩
            have hS6 := hS4.trans (hb6.mono hS4.size)
            have hT6 := hT.later hb6
            obtain ⟨lP, hlP⟩ : ∃ l, ps.length = l := ⟨_, rfl⟩
            rw [hlP] at hPl ⊢
            have hlPH := Lib.hid hlP
            clear hlP hb6
            refine hK.out _ _ (fun h => hS6) ?_
            clear hK K
            try simp only [Act.put, List.setIfInBounds_toArray, List.set_cons_zero, List.set_cons_succ]
            refine step_op 11 (by kernel_rfl) rfl (fun K hK => ?_)
            rw [if_pos (by rfl)]
            go_simp
            refine (atMost_any aT aP cT cP lT lP ts ps _ _ v hvvH.out hlTH.out hlPH.out (by omega) _ hT6 hP).mono ?_
            rintro e W7 ⟨rfl, hb7⟩
            have hS7 := hS6.trans (hb7.mono hS6.size)
            refine hK.out _ _ (fun h => hS7) ?_
            clear hK K
            try simp only [Act.put, List.setIfInBounds_toArray, List.set_cons_zero, List.set_cons_succ]
            refine take_op 12 (v := ?t10v) rfl (by kernel_rfl) (fun _ _ _ h => h) (by rfl) hS7 (fun w' hS' => ?t10y) ?t10z
            case t10y =>
              go_simp
              rfl
            simp only [List.setIfInBounds_toArray, List.set_cons_zero, List.set_cons_succ]
            refine done_ops (by kernel_rfl) ?_
            go_wp2_with fail
            go_ret
            exact ⟨rfl, hBw.trans (hS7.mono hBw.size)⟩

end Go.Proofs.YtbfigbpjoaccdaaGreat

namespace Go.Proofs.YtbfigbpjoaccdaaGreat
open Go Go.RowKit Go.Shelf
set_option linter.unusedVariables false
set_option linter.unusedSimpArgs false

/-- The least rate for which it is, or an error. -/
def boundS (n k num den : Int) : Int × Int :=
  if (0 ≤ n ∧ n ≤ 100) ∧ (0 ≤ k ∧ k ≤ n) ∧ limB num den = true then (((boundR n.toNat k.toNat num.toNat den.toNat : Nat) : Int), 0) else (0, 2)

set_option maxRecDepth 100000 in
set_option maxHeartbeats 4000000 in
theorem Bound_any (n k num den : Int) (hn : (Lit.int .i64 num).wf = true) (hd : (Lit.int .i64 den).wf = true) (w : World) :
    Calls Tryz.prog 33 #[.int .i64 n, .int .i64 k, frv num den] w fun e w' => e = .returned (.tuple #[.int .i64 (boundS n k num den).1, .int .i64 (boundS n k num den).2]) ∧ Below w.heap.size w w' := by
  have k7 := Blk.new w 60 #[.int .i64 num, .int .i64 den]
  have hB := jwd_al (Below.refl _ w) (.cells #[.int .i64 num, .int .i64 den] 60)
  have q1 := by simpa only [World.size_alloc] using Blk.new (w.alloc (.cells #[.int .i64 num, .int .i64 den] 60)) 3 #[.int .i64 n]
  have hB1 := jwd_al hB (.cells #[.int .i64 n] 3)
  have k71 := k7.alloc (.cells #[.int .i64 n] 3)
  have q2 := by simpa only [World.size_alloc] using Blk.new ((w.alloc (.cells #[.int .i64 num, .int .i64 den] 60)).alloc (.cells #[.int .i64 n] 3)) 3 #[.int .i64 k]
  have hB2 := jwd_al hB1 (.cells #[.int .i64 k] 3)
  have k72 := k71.alloc (.cells #[.int .i64 k] 3)
  have bad : ¬ ((0 ≤ n ∧ n ≤ 100) ∧ (0 ≤ k ∧ k ≤ n) ∧ limB num den = true) → boundS n k num den = (0, 2) := fun h => by unfold boundS; rw [if_neg h]
  have tok1 : True := trivial
  have tok2 : True := trivial
  by_cases h1 : 0 ≤ n ∧ n ≤ 100
  case neg =>
    rw [bad (fun h => h1 h.1)]
    have w1 := Lib.hid (tk_one 0 100 n false (by simp only [decide_eq_false_iff_not]; exact h1) _ 1 _ _ q1)
    clear h1 bad
    go_enter Tryz.func33, Tryz.ntmps33
    go_wp2_with (go_at_call 48; have _t := tok1; refine w1.out.mono ?_; clear _t tok1; rintro e w' ⟨rfl, rfl⟩)
    go_ret2
    exact ⟨rfl, hB1⟩
  have w1 := Lib.hid (tk_one 0 100 n true (by simp only [decide_eq_true_eq]; exact h1) _ 1 _ _ q1)
  by_cases h2 : 0 ≤ k ∧ k ≤ n
  case neg =>
    rw [bad (fun h => h2 h.2.1)]
    have w2 := Lib.hid (tk_one 0 n k false (by simp only [decide_eq_false_iff_not]; exact h2) _ 1 _ _ q2)
    clear h1 h2 bad
    go_enter Tryz.func33, Tryz.ntmps33
    go_wp2_with (first
      | (go_at_call 48; have _t := tok1; refine w1.out.mono ?_; clear _t tok1; rintro e w' ⟨rfl, rfl⟩)
      | (go_at_call 48; have _t := tok2; refine w2.out.mono ?_; clear _t tok2; rintro e w' ⟨rfl, rfl⟩))
    go_ret2
    exact ⟨rfl, hB2⟩
  have w2 := Lib.hid (tk_one 0 n k true (by simp only [decide_eq_true_eq]; exact h2) _ 1 _ _ q2)
  obtain ⟨v, hv⟩ : ∃ v, limB num den = v := ⟨_, rfl⟩
  have hlc := fun W => limit_any num den hn hd W
  rw [hv] at hlc
  have hlcH := Lib.hid hlc
  have hvH := Lib.hid hv
  cases v with
  | false =>
    rw [bad (fun h => by rw [hvH.out] at h; cases h.2.2)]
    clear h1 h2 bad hlc hv hn hd
    go_enter Tryz.func33, Tryz.ntmps33
    go_wp2_with (first
      | (go_at_call 48; have _t := tok1; refine w1.out.mono ?_; clear _t tok1; rintro e w' ⟨rfl, rfl⟩)
      | (go_at_call 48; have _t := tok2; refine w2.out.mono ?_; clear _t tok2; rintro e w' ⟨rfl, rfl⟩)
      | (go_at_call 70; have c0 := k72.cell (i := 0) rfl; refine (hlcH.out _).mono ?_; rintro e W4 ⟨rfl, hb4⟩; have hB4 := hB2.trans (hb4.mono hB2.size); have k74 := k72.below hb4 k72.lt; have c40 := k74.cell (i := 0) rfl; have c41 := k74.cell (i := 1) rfl; clear hb4 c0))
    go_ret2
    exact ⟨rfl, hB4⟩
  | true =>
    obtain ⟨t1, t2, t3⟩ := limB_true hvH.out
    obtain ⟨N, rfl⟩ := Int.eq_ofNat_of_zero_le (show 0 ≤ n by omega)
    obtain ⟨K, rfl⟩ := Int.eq_ofNat_of_zero_le (show 0 ≤ k by omega)
    obtain ⟨A, rfl⟩ := Int.eq_ofNat_of_zero_le (show 0 ≤ num by omega)
    obtain ⟨D, rfl⟩ := Int.eq_ofNat_of_zero_le (show 0 ≤ den by omega)
    have hres : boundS N K A D = (((boundR N K A D : Nat) : Int), (0 : Int)) := by unfold boundS; rw [if_pos ⟨h1, h2, hvH.out⟩]; simp only [Int.toNat_natCast]
    rw [hres]
    have hf := Lib.hid (fun W R (hR : R ≤ 256) => few_any N K R A D (by omega) (by omega) hR (by omega) (by omega) (by omega) _ rfl W)
    clear h1 h2 bad hlc hv hn hd t1 t2 t3 hres hvH
    go_enter Tryz.func33, Tryz.ntmps33
    go_wp2_with (first
      | (go_at_call 48; have _t := tok1; refine w1.out.mono ?_; clear _t tok1; rintro e w' ⟨rfl, rfl⟩)
      | (go_at_call 48; have _t := tok2; refine w2.out.mono ?_; clear _t tok2; rintro e w' ⟨rfl, rfl⟩)
      | (go_at_call 70; have c0 := k72.cell (i := 0) rfl; refine (hlcH.out _).mono ?_; rintro e W4 ⟨rfl, hb4⟩; have hB4 := hB2.trans (hb4.mono hB2.size); have k74 := k72.below hb4 k72.lt; have c40 := k74.cell (i := 0) rfl; have c41 := k74.cell (i := 1) rfl; clear hb4 c0))
    go_loopw [8, 9, 10] (fun lv hv _ wr => ∃ lo hi : Nat, lo ≤ hi ∧ hi ≤ 256 ∧ Hid (lv = .int .i64 ((lo : Int) - 1)) ∧ hv = .int .i64 (hi : Int) ∧ Hid (∀ j, j < lo → fewB N K j A D = false) ∧ Hid (hi < 256 → fewB N K hi A D = true) ∧ Blk wr w.heap.size 60 #[.int .i64 (A : Int), .int .i64 (D : Int)] ∧ Below w.heap.size w wr) (fun lv hv _ _ => (intOf hv - intOf lv).toNat)
    case atStart => exact ⟨0, 256, by omega, by omega, Lib.hid rfl, rfl, Lib.hid (fun j hj => by omega), Lib.hid (fun h => by omega), k74, hB4⟩
    case round =>
      obtain ⟨lo, hi, hlh, hh, hlv, rfl, hlow, hhigh, kf, hBw⟩ := hrel
      obtain ⟨L, hL⟩ : ∃ L : Int, (lo : Int) - 1 = L := ⟨_, rfl⟩
      have hlv2 := hlv.out
      rw [hL] at hlv2
      subst hlv2
      have hLb : L = (lo : Int) - 1 := hL.symm
      have c0 := kf.cell (i := 0) rfl
      have c1 := kf.cell (i := 1) rfl
      have hL1 : L + 1 = (lo : Int) := by omega
      have hL1H := Lib.hid hL1
      by_cases hgo : lo < hi
      · obtain ⟨m, hm⟩ : ∃ m, (lo + hi - 1) / 2 = m := ⟨_, rfl⟩
        have hm1 : lo ≤ m ∧ m < hi := by omega
        have hs : L + (hi : Int) = ((lo + hi - 1 : Nat) : Int) := by omega
        obtain ⟨s, hss⟩ : ∃ s, lo + hi - 1 = s := ⟨_, rfl⟩
        rw [hss] at hs hm
        have hsb : s ≤ 512 := by omega
        have hm2 : (s : Int) / 2 = (m : Int) := by omega
        have hgt : 1 < (hi : Int) - L := by omega
        obtain ⟨fv, hfv⟩ : ∃ f, fewB N K m A D = f := ⟨_, rfl⟩
        have hfm := hf.out wr m (by omega)
        rw [hfv] at hfm
        have hfmH := Lib.hid hfm
        have hfvH := Lib.hid hfv
        have hLlo : -1 ≤ L := by omega
        have hLhi : L ≤ 256 := by omega
        clear hL hLb hL1 hm hss hfm hfv hlv
        cases fv with
        | true =>
          go_wp2_with (go_at_call 71; refine hfmH.out.mono ?_; rintro e W5 ⟨rfl, hb5⟩; have k5 := kf.below hb5 kf.lt; have hB5 := hBw.trans (hb5.mono hBw.size); clear hb5)
          go_roundw
          case rel => exact ⟨lo, m, by omega, by omega, Lib.hid (by have := hL1H.out; congr 1; omega), rfl, hlow, Lib.hid (fun _ => hfvH.out), k5, hB5⟩
          case measure => simp [intOf] <;> omega
        | false =>
          go_wp2_with (go_at_call 71; refine hfmH.out.mono ?_; rintro e W5 ⟨rfl, hb5⟩; have k5 := kf.below hb5 kf.lt; have hB5 := hBw.trans (hb5.mono hBw.size); clear hb5)
          go_roundw
          case rel => exact ⟨m + 1, hi, by omega, by omega, Lib.hid (by simp), rfl, Lib.hid (fun j hj => by
            cases hjm : fewB N K j A D with
            | false => rfl
            | true => have := fewB_rate (show j ≤ m by omega) (by omega) hjm; rw [hfvH.out] at this; cases this), hhigh, k5, hB5⟩
          case measure => simp [intOf] <;> omega
      · have hlohi : lo = hi := by omega
        subst hlohi
        have hb := boundR_unique (n := N) (k := K) (num := A) (den := D) hh hlow.out hhigh.out
        have hgt : ¬ 1 < (lo : Int) - L := by omega
        have hLlo : -1 ≤ L := by omega
        have hLhi : L ≤ 256 := by omega
        have hbH := Lib.hid hb
        clear hb hL hLb hL1 hlv
        go_wp2_with fail
        go_ret2
        rw [← hbH.out]
        exact ⟨rfl, hBw⟩

end Go.Proofs.YtbfigbpjoaccdaaGreat

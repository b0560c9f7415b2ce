/- The specification's chance of at most k hits of n, held against a limit. -/
import Derived.Test.YtaejdgjfnoefjaaRt
import Derived.Test.YtaejdgjfnoefjaaFork
namespace Go.Proofs.Ytaejdgjfnoefjaa
open Go Go.RowKit Go.Shelf
set_option linter.unusedVariables false
set_option linter.unusedSimpArgs false

def LdB (B : Nat) (W : World) (a : Option Addr) (ys : List Nat) (V : Nat) : Prop := Rd B W a (ints ys) ∧ wordsB b30 ys ∧ valB b30 ys = V
theorem LdB.below {B B' : Nat} {W W' : World} {a : Option Addr} {ys : List Nat} {V : Nat} (h : LdB B W a ys V) (hB : B ≤ B') (hb : Below B' W W') : LdB B W' a ys V := ⟨h.1.below hB hb, h.2⟩
theorem LdB.ldR {B : Nat} {W : World} {a : Option Addr} {ys : List Nat} {V : Nat} (h : LdB B W a ys V) (hB : B ≤ W.heap.size) : LdR W a ys V := ⟨h.1.mono hB, h.2.1, h.2.2⟩
theorem LdR.ldB {W : World} {a : Option Addr} {ys : List Nat} {V : Nat} (h : LdR W a ys V) : LdB W.heap.size W a ys V := ⟨h.rd, h.words, h.val⟩

/-- The slice at 'a' reads as the numbers f 0 .. f (n - 1), of at most M digits each, in blocks below B. -/
def RdLd (B : Nat) (W : World) (a : Option Addr) (f : Nat → Nat) (n M : Nat) : Prop :=
  ∀ i, i < n → ∃ b o, a = some ⟨b, o, none⟩ ∧ b < B ∧ ∃ a' ys l c, W.cell? ⟨b, o + i, none⟩ = some (.slice a' l c) ∧ ys.length = l ∧ LdB B W a' ys (f i) ∧ l ≤ M
theorem RdLd.below {B B' : Nat} {W W' : World} {a : Option Addr} {f : Nat → Nat} {n M : Nat} (h : RdLd B W a f n M) (hB : B ≤ B') (hb : Below B' W W') : RdLd B W' a f n M := fun i hi => by
  obtain ⟨b, o, h1, h2, a', ys, l, c, h3, h4, h5, h6⟩ := h i hi
  exact ⟨b, o, h1, h2, a', ys, l, c, (hb.cell (p := ⟨b, o + i, none⟩) (by show b < B'; omega)).trans h3, h4, h5.below hB hb, h6⟩
theorem RdLd.later {W W' : World} {a : Option Addr} {f : Nat → Nat} {n M : Nat} (h : RdLd W.heap.size W a f n M) (hb : Below W.heap.size W W') : RdLd W'.heap.size W' a f n M := fun i hi => by
  obtain ⟨b, o, h1, h2, a', ys, l, c, h3, h4, h5, h6⟩ := h.below (Nat.le_refl _) hb i hi
  exact ⟨b, o, h1, Nat.lt_of_lt_of_le h2 hb.size, a', ys, l, c, h3, h4, ⟨h5.1.mono hb.size, h5.2⟩, h6⟩

/-- The values in L are the numbers f 0 .. f (n - 1), none of them in block G. -/
def EntF (W : World) (L : List Value) (f : Nat → Nat) (n : Nat) (M : Nat → Nat) (G : Nat) : Prop :=
  L.length = n ∧ ∀ i, i < n → ∃ a ys l c, L[i]? = some (.slice a l c) ∧ ys.length = l ∧ LdR W a ys (f i) ∧ l ≤ M i ∧ ∀ ad, a = some ad → ad.block ≠ G ∧ ad.block < W.heap.size
theorem EntF.below {W W' : World} {L : List Value} {f : Nat → Nat} {n G : Nat} {M : Nat → Nat} (h : EntF W L f n M G) (hb : Below W.heap.size W W') : EntF W' L f n M G := ⟨h.1, fun i hi => by
  obtain ⟨a, ys, l, c, h1, h2, h3, h4, h5⟩ := h.2 i hi
  exact ⟨a, ys, l, c, h1, h2, h3.later hb, h4, fun ad e => ⟨(h5 ad e).1, Nat.lt_of_lt_of_le (h5 ad e).2 hb.size⟩⟩⟩
theorem LdR.setCell {W : World} {a : Option Addr} {ys : List Nat} {V G i : Nat} (h : LdR W a ys V) (ha : ∀ ad, a = some ad → ad.block ≠ G) (v : Value) : LdR (W.setCell ⟨G, i, none⟩ v) a ys V := by
  refine ⟨?_, h.words, h.val⟩
  rcases h.rd with h1 | ⟨b, o, h1, h2, h3⟩
  · exact .inl h1
  · refine .inr ⟨b, o, h1, by simpa [World.setCell] using h2, fun k hk => ?_⟩
    rw [← h3 k hk]
    exact World.cell?_of_block (Below.heap_setCell _ _ _ _ (by simpa using (ha _ h1)))
/-- Behind a store of one number. -/
theorem EntF.store {W : World} {L : List Value} {f g : Nat → Nat} {n G : Nat} {M M' : Nat → Nat} (h : EntF W L f n M G) {i : Nat} (hi : i < n) {a : Option Addr} {ys : List Nat} {l c : Nat} (hl : ys.length = l) (hr : LdR W a ys (g i)) (hM : l ≤ M' i) (ha : ∀ ad, a = some ad → ad.block ≠ G ∧ ad.block < W.heap.size) (hg : ∀ x, x < n → x ≠ i → g x = f x) (hMM : ∀ x, x < n → x ≠ i → M x ≤ M' x) :
    EntF (W.setCell ⟨G, i, none⟩ (.slice a l c)) (L.set i (.slice a l c)) g n M' G := by
  refine ⟨by rw [List.length_set]; exact h.1, fun x hx => ?_⟩
  have hsz : (W.setCell ⟨G, i, none⟩ (.slice a l c)).heap.size = W.heap.size := by simp [World.setCell]
  by_cases e : x = i
  · subst e
    exact ⟨a, ys, l, c, by rw [List.getElem?_set_self (by rw [h.1]; exact hx)], hl, hr.setCell (fun ad e => (ha ad e).1) _, hM, fun ad e => by rw [hsz]; exact ha ad e⟩
  · obtain ⟨a1, ys1, l1, c1, h1, h2, h3, h4, h5⟩ := h.2 x hx
    rw [hg x hx e]
    exact ⟨a1, ys1, l1, c1, by rw [List.getElem?_set_ne (fun e2 => e e2.symm)]; exact h1, h2, h3.setCell (fun ad e => (h5 ad e).1) _, Nat.le_trans h4 (hMM x hx e), fun ad e => by rw [hsz]; exact h5 ad e⟩
theorem EntF.rd {W : World} {base : Nat} {L : List Value} {f : Nat → Nat} {n G c M0 : Nat} {M : Nat → Nat} (h : EntF W L f n M G) (hM : ∀ x, x < n → M x ≤ M0) (hr : W.ownsRow base 153 1 (.slice (some ⟨G, 0, none⟩) n c) n L) : RdLd W.heap.size W (some ⟨G, 0, none⟩) f n M0 := fun i hi => by
  obtain ⟨a1, ys, l, c1, h3, h4, h5, h6, _⟩ := h.2 i hi
  refine ⟨G, 0, rfl, (hr.lt G rfl).2, a1, ys, l, c1, ?_, h4, h5.ldB, Nat.le_trans h6 (hM i hi)⟩
  rw [Nat.zero_add, hr.cellAt i (by omega), h3]
theorem EntF.zeros (W : World) (n : Nat) (M : Nat → Nat) (G : Nat) : EntF W (List.replicate n (.slice none 0 0)) (fun _ => 0) n M G :=
  ⟨by simp, fun i hi => ⟨none, [], 0, 0, by simp [hi], rfl, ⟨.inl rfl, fun x hx => by simp at hx, rfl⟩, Nat.zero_le _, fun ad e => by cases e⟩⟩
theorem EntF.congr {W : World} {L : List Value} {f g : Nat → Nat} {n G : Nat} {M : Nat → Nat} (h : EntF W L f n M G) (hg : ∀ x, x < n → g x = f x) : EntF W L g n M G := ⟨h.1, fun i hi => by rw [hg i hi]; exact h.2 i hi⟩
def mA (m h x : Nat) : Nat := if x < h then 3 * m + 4 else if x = h then 3 * m + 3 else 0
def mB (m h x : Nat) : Nat := if x ≤ h then 3 * m + 4 else 0
theorem mA_at (m h : Nat) : mA m h h = 3 * m + 3 := by unfold mA; rw [if_neg (by omega), if_pos rfl]
theorem mB_at (m h : Nat) : mB m h h = 3 * m + 4 := by unfold mB; rw [if_pos (Nat.le_refl _)]
theorem mB_up (m h : Nat) : mB m h (h + 1) = 0 := by unfold mB; rw [if_neg (by omega)]
theorem mA_mB {m h x : Nat} (hx : x ≠ h) : mA m h x ≤ mB m h x := by
  unfold mA mB
  by_cases h1 : x < h
  · rw [if_pos h1, if_pos (by omega)]; omega
  · rw [if_neg h1, if_neg hx]; omega
theorem mB_mA {m h x : Nat} (hx : x ≠ h + 1) : mB m h x ≤ mA m (h + 1) x := by
  unfold mA mB
  by_cases h1 : x ≤ h
  · rw [if_pos h1, if_pos (by omega)]; omega
  · rw [if_neg h1]; omega
theorem mA_le (m h x : Nat) : mA m h x ≤ 3 * (m + 1) + 1 := by unfold mA; split <;> (try split) <;> omega

theorem jinfo_rlong : (Try.prog.info? 153).map (fun i => (i.zero, i.size, i.bytes)) = some (some (.slice none 0 0), 1, 24) := by kernel_rfl
theorem jmade_slices (n : Nat) : (madeCells (Value.slice none 0 0).cells (n * 1)).toList = List.replicate n (Value.slice none 0 0) := by
  rw [Nat.mul_one]
  refine List.ext_getElem (by simp [size_madeCells]) fun i h1 h2 => ?_
  simp [madeCells, Value.cells, Nat.mod_one]

/-- What stands in the next list when the first h numbers have been shared out. -/
def nxtF (p q m h x : Nat) : Nat := if x < h then distR p q (m + 1) x else if x = h then (match h with | 0 => 0 | h' + 1 => distR p q m h' * p) else 0
theorem nxtF_zero (p q m x : Nat) : nxtF p q m 0 x = 0 := by
  unfold nxtF
  rw [if_neg (by omega)]
  split <;> rfl
theorem nxtF_at (p q m h : Nat) : nxtF p q m h h + distR p q m h * q = distR p q (m + 1) h := by
  unfold nxtF
  rw [if_neg (by omega), if_pos rfl]
  cases h with
  | zero => simp [distR]
  | succ h => simp only [distR]; omega
theorem nxtF_up (p q m h : Nat) : nxtF p q m h (h + 1) = 0 := by unfold nxtF; rw [if_neg (by omega), if_neg (by omega)]
theorem nxtF_done (p q m x : Nat) (hx : x < m + 2) : nxtF p q m (m + 1) x = distR p q (m + 1) x := by
  unfold nxtF
  by_cases h : x < m + 1
  · rw [if_pos h]
  · obtain rfl : x = m + 1 := by omega
    rw [if_neg h, if_pos rfl]
    simp only [distR]
    rw [distR_over p q m (m + 1) (by omega)]
    omega
/-- The list between the two stores of a round. -/
def midF (p q m h x : Nat) : Nat := if x = h then distR p q (m + 1) h else nxtF p q m h x
theorem midF_other {p q m h x : Nat} (hx : x ≠ h) : midF p q m h x = nxtF p q m h x := by unfold midF; rw [if_neg hx]
theorem nxtF_next {p q m h x : Nat} (hx : x ≠ h + 1) : nxtF p q m (h + 1) x = midF p q m h x := by
  unfold midF nxtF
  by_cases h1 : x = h
  · subst h1; rw [if_pos (by omega), if_pos rfl]
  · rw [if_neg h1]
    by_cases h2 : x < h
    · rw [if_pos (by omega), if_pos h2]
    · rw [if_neg (by omega), if_neg hx, if_neg h2, if_neg h1]
theorem nxtF_new (p q m h : Nat) : nxtF p q m (h + 1) (h + 1) = distR p q m h * p := by unfold nxtF; rw [if_neg (by omega), if_pos rfl]

set_option maxRecDepth 100000 in
set_option maxHeartbeats 8000000 in
theorem rFew_any (n k j num den : Nat) (hn : n ≤ 100) (hk : k ≤ n) (hj : j ≤ 256) (hnum : num ≤ 1073741824) (hden : den ≤ 1073741824) (v : Bool) (hv : fewB n k j num den = v) (w : World) :
    Calls Try.prog 63 #[.int .i64 (n : Int), .int .i64 (k : Int), .int .i64 (j : Int), frv num den] w fun e w' => e = .returned (.bool v) ∧ Below w.heap.size w w' := by
  obtain ⟨i0, hi, hz0, hz1, hz2⟩ := info_parts jinfo_rlong
  have k7 := (((Blk.new w 33 #[.int .i64 (num : Int), .int .i64 (den : Int)]).alloc (.cells #[.int .i64 1] 3)).alloc (.cells #[.slice (some ⟨w.heap.size + 1, 0, none⟩) 1 1] 153)).alloc (.cells #[.int .i64 1] 3)
  have k8 := by simpa only [World.size_alloc] using ((Blk.new (w.alloc (.cells #[.int .i64 (num : Int), .int .i64 (den : Int)] 33)) 3 #[.int .i64 1]).alloc (.cells #[.slice (some ⟨w.heap.size + 1, 0, none⟩) 1 1] 153)).alloc (.cells #[.int .i64 1] 3)
  have k9 := by simpa only [World.size_alloc] using (Blk.new ((w.alloc (.cells #[.int .i64 (num : Int), .int .i64 (den : Int)] 33)).alloc (.cells #[.int .i64 1] 3)) 153 #[.slice (some ⟨w.heap.size + 1, 0, none⟩) 1 1]).alloc (.cells #[.int .i64 1] 3)
  have k10 := by simpa only [World.size_alloc] using Blk.new (((w.alloc (.cells #[.int .i64 (num : Int), .int .i64 (den : Int)] 33)).alloc (.cells #[.int .i64 1] 3)).alloc (.cells #[.slice (some ⟨w.heap.size + 1, 0, none⟩) 1 1] 153)) 3 #[.int .i64 1]
  have hB := jwd_al (jwd_al (jwd_al (jwd_al (Below.refl _ w) (.cells #[.int .i64 (num : Int), .int .i64 (den : Int)] 33)) (.cells #[.int .i64 1] 3)) (.cells #[.slice (some ⟨w.heap.size + 1, 0, none⟩) 1 1] 153)) (.cells #[.int .i64 1] 3)
  obtain ⟨W1, hW1⟩ : ∃ W, (((w.alloc (.cells #[.int .i64 (num : Int), .int .i64 (den : Int)] 33)).alloc (.cells #[.int .i64 1] 3)).alloc (.cells #[.slice (some ⟨w.heap.size + 1, 0, none⟩) 1 1] 153)).alloc (.cells #[.int .i64 1] 3) = W := ⟨_, rfl⟩
  rw [hW1] at k7 k8 k9 k10 hB
  obtain ⟨q, hq⟩ : ∃ q, 256 - j = q := ⟨_, rfl⟩
  have hone := LdR.one k8
  have hrow0 : RdLd W1.heap.size W1 (some ⟨w.heap.size + 1 + 1, 0, none⟩) (distR j q 0) 1 1 := fun i hi => by
    have : i = 0 := by omega
    subst this
    exact ⟨_, 0, rfl, k9.lt, some ⟨w.heap.size + 1, 0, none⟩, [1], 1, 1, k9.cell rfl, rfl, hone.ldB, Nat.le_refl _⟩
  have hall0 : LdR W1 (some ⟨w.heap.size + 1 + 1 + 1, 0, none⟩) [1] (256 ^ 0) := LdR.one k10
  have hrow0H := Lib.hid hrow0
  have hall0H := Lib.hid hall0
  have hWH := Lib.hid hW1
  have hvH := Lib.hid hv
  have hnumH := Lib.hid hnum
  have hdenH := Lib.hid hden
  have hqH := Lib.hid hq
  have hqi : (256 : Int) - (j : Int) = (q : Int) := by omega
  have hqb : q ≤ 256 := by omega
  clear hW1 hv hnum hden hone hrow0 hall0 k8 k9 k10 hq
  go_enter Try.func63, Try.ntmps63
  go_wp2_with fail
  rw [hWH.out]
  clear hWH
  go_loopw [9, 10, 11] (fun rv av i wr => ∃ (m : Nat) (a a2 : Option Addr) (c l2 c2 : Nat) (zs : List Nat), m ≤ n ∧ i = .int .i64 (m : Int) ∧ rv = .slice a (m + 1) c ∧ av = .slice a2 l2 c2 ∧ Hid (RdLd wr.heap.size wr a (distR j q m) (m + 1) (3 * m + 1)) ∧ Hid (zs.length = l2) ∧ l2 ≤ m + 1 ∧ Hid (LdR wr a2 zs (256 ^ m)) ∧ Blk wr w.heap.size 33 #[.int .i64 (num : Int), .int .i64 (den : Int)] ∧ Below w.heap.size w wr) (fun _ _ i _ => n - (intOf i).toNat)
  case atStart => exact ⟨0, _, _, 1, 1, 1, [1], Nat.zero_le _, rfl, rfl, rfl, hrow0H, Lib.hid rfl, by omega, hall0H, k7, hB⟩
  case round =>
    clear k7 hB hrow0H hall0H
    clear W1
    obtain ⟨m, a, a2, c, l2, c2, zs, hm, rfl, rfl, rfl, hrow, hzl, hl2m, hall, kf, hBw⟩ := hrel
    obtain ⟨wo, rfl⟩ : ∃ wo : World, wo = wr := ⟨_, rfl⟩
    by_cases hlt : m < n
    · have hzH := Lib.hid (jmade_slices (m + 2))
      go_wp2_with (at_make; refine wpList_make_full _ rfl _ _ 165 rfl wo.heap.size 153 i0 (.slice none 0 0) 1 Try.underlying165 hi hz0 hz1 .i64 .i64 ((m : Int) + 1 + 1) ((m : Int) + 1 + 1) (m + 2) rfl rfl (by simp <;> omega) (by simp <;> omega) (by rw [hz2]; omega) (by unfold maxLen; omega) (by simp) ?_; intro w1 hown hg)
      rw [hzH.out] at hown
      have hB1 : Below wo.heap.size wo w1 := (Below.refl _ wo).grown hg (Nat.le_refl _) (fun k e => by cases e)
      obtain ⟨G, hG⟩ : ∃ G, wo.heap.size = G := ⟨_, rfl⟩
      have hG0 := Lib.hid hG
      have hent0 := Lib.hid ((EntF.zeros w1 (m + 2) (mA m 0) G).congr (g := nxtF j q m 0) (fun x _ => nxtF_zero j q m x))
      have hrowo := Lib.hid hrow.out
      rw [hG] at hown hB1 hrowo ⊢
      clear hg hzH hG
      go_loopw [13] (fun i wr => ∃ (h : Nat) (L : List Value), h ≤ m + 1 ∧ i = .int .i64 (h : Int) ∧ wr.ownsRow G 153 1 (.slice (some ⟨G, 0, none⟩) (m + 2) (m + 2)) (m + 2) L ∧ Hid (EntF wr L (nxtF j q m h) (m + 2) (mA m h) G) ∧ Below G wo wr) (fun i _ => m + 1 - (intOf i).toNat)
      case atStart => exact ⟨0, _, Nat.zero_le _, rfl, hown, hent0, hB1⟩
      case round =>
        clear hown hB1 hent0
        clear w1
        obtain ⟨h, L, hhm, rfl, rowh, hent, hBx⟩ := hrel
        by_cases hhlt : h < m + 1
        · obtain ⟨b, o, rfl, hb, a1, ys1, l1, c1, hc1, hl1, hL1, hM1⟩ := hrowo.out h hhlt
          obtain ⟨a3, ys3, l3, c3, hc3, hl3, hL3, hM3, ha3⟩ := hent.out.2 h (by omega)
          rw [mA_at] at hM3
          have hGlt : G < wr.heap.size := (rowh.lt G rfl).2
          have hbw : b < wr.heap.size := by omega
          have x1 := (hBx.cell (p := ⟨b, o + h, none⟩) hb).trans hc1
          have x3 := (rowh.cellAt h (by omega)).trans hc3
          have hrowc := hc1
          have hL1H := Lib.hid hL1
          have hL3H := Lib.hid hL3
          have hl1H := Lib.hid hl1
          have hl3H := Lib.hid hl3
          have hS := (Below.refl wr.heap.size wr).drew
          have hat := Lib.hid (nxtF_at j q m h)
          obtain ⟨V, hV⟩ : ∃ V, distR j q m h = V := ⟨_, rfl⟩
          have hVH := Lib.hid hV
          rw [hV] at hL1H hat
          clear hL1 hL3 hl1 hl3 hc1 hc3 hV
          go_wp2_with fail
          refine plain_region (fun W' => Below wr.heap.size wr W') 15 16 (by kernel_rfl) rfl ?_
          simp only [Array.replicate_succ, Array.replicate_zero, List.push_toArray, List.nil_append, List.cons_append]
          refine take_op 0 (v := ?av0) rfl (by kernel_rfl) (fun _ _ _ h => h) (by rfl) hS (fun w' hS' => ?ay0) ?az0
          case ay0 =>
            go_simp
            rfl
          simp only [List.setIfInBounds_toArray, List.set_cons_zero, List.set_cons_succ]
          refine take_op 1 (v := ?av1) rfl (by kernel_rfl) (fun _ _ _ h => h) (by rfl) hS (fun w' hS' => ?ay1) ?az1
          case ay1 =>
            go_simp
            rfl
          simp only [List.setIfInBounds_toArray, List.set_cons_zero, List.set_cons_succ]
          refine take_op 2 (v := ?av2) rfl (by kernel_rfl) (fun _ _ _ h => h) (by rfl) hS (fun w' hS' => ?ay2) ?az2
          case ay2 =>
            go_simp
            rfl
          simp only [List.setIfInBounds_toArray, List.set_cons_zero, List.set_cons_succ]
          refine take_op 3 (v := ?av3) rfl (by kernel_rfl) (fun _ _ _ h => h) (by rfl) hS (fun w' hS' => ?ay3) ?az3
          case ay3 =>
            go_simp
            rfl
          simp only [List.setIfInBounds_toArray, List.set_cons_zero, List.set_cons_succ]
          refine take_op 4 (v := ?av4) rfl (by kernel_rfl) (fun _ _ _ h => h) (by rfl) hS (fun w' hS' => ?ay4) ?az4
          case ay4 =>
            go_simp
            try go_ints
            first
            | rfl
            | (rw [if_pos (by omega)]; done)
            | rw [if_pos ⟨by omega, by omega⟩]
          simp only [List.setIfInBounds_toArray, List.set_cons_zero, List.set_cons_succ]
          refine take_op 5 (v := ?av5) rfl (by kernel_rfl) (fun _ _ _ h => h) (by rfl) hS (fun w' hS' => ?ay5) ?az5
          case ay5 =>
            have z1 := (hS'.cell (p := ⟨b, o + h, none⟩) hbw).trans x1
            have z3 := (hS'.cell (p := ⟨G, h, none⟩) hGlt).trans x3
            clear hS'
            go_simp
            rfl
          simp only [List.setIfInBounds_toArray, List.set_cons_zero, List.set_cons_succ]
          refine take_op 6 (v := ?av6) rfl (by kernel_rfl) (fun _ _ _ h => h) (by rfl) hS (fun w' hS' => ?ay6) ?az6
          case ay6 =>
            go_simp
            rfl
          simp only [List.setIfInBounds_toArray, List.set_cons_zero, List.set_cons_succ]
          refine take_op 7 (v := ?av7) rfl (by kernel_rfl) (fun _ _ _ h => h) (by rfl) hS (fun w' hS' => ?ay7) ?az7
          case ay7 =>
            go_simp
            rfl
          simp only [List.setIfInBounds_toArray, List.set_cons_zero, List.set_cons_succ]
          refine take_op 8 (v := ?av8) rfl (by kernel_rfl) (fun _ _ _ h => h) (by rfl) hS (fun w' hS' => ?ay8) ?az8
          case ay8 =>
            go_simp
            try go_ints
            first
            | rfl
            | (rw [if_pos (by omega)]; done)
            | rw [if_pos ⟨by omega, by omega⟩]
          simp only [List.setIfInBounds_toArray, List.set_cons_zero, List.set_cons_succ]
          refine take_op 9 (v := ?av9) rfl (by kernel_rfl) (fun _ _ _ h => h) (by rfl) hS (fun w' hS' => ?ay9) ?az9
          case ay9 =>
            have z1 := (hS'.cell (p := ⟨b, o + h, none⟩) hbw).trans x1
            have z3 := (hS'.cell (p := ⟨G, h, none⟩) hGlt).trans x3
            clear hS'
            go_simp
            rfl
          simp only [List.setIfInBounds_toArray, List.set_cons_zero, List.set_cons_succ]
          refine take_op 10 (v := ?av10) rfl (by kernel_rfl) (fun _ _ _ h => h) (by rfl) hS (fun w' hS' => ?ay10) ?az10
          case ay10 =>
            go_simp
            rfl
          simp only [List.setIfInBounds_toArray, List.set_cons_zero, List.set_cons_succ]
          refine take_op 11 (v := ?av11) rfl (by kernel_rfl) (fun _ _ _ h => h) (by rfl) hS (fun w' hS' => ?ay11) ?az11
          case ay11 =>
            go_simp
            try go_ints
            rfl
          simp only [List.setIfInBounds_toArray, List.set_cons_zero, List.set_cons_succ]
          refine step_op 12 (by kernel_rfl) rfl (fun K hK => ?_)
          rw [if_pos (by rfl)]
          go_simp
          refine (Scaled_any a1 c1 l1 ys1 V q hl1H.out (by omega) (by omega) _ ((hL1H.out.below (Nat.le_refl _) (hBx.trans (hS.mono (Nat.le_of_lt hGlt)))).ldR (Nat.le_trans (Nat.le_of_lt hGlt) hS.size))).mono ?_
          rintro e W3 ⟨zs4, a4, c4, rfl, hr4, hl4, hb3⟩
          have hS3 := hS.trans (hb3.mono hS.size)
          obtain ⟨l4, hl4'⟩ : ∃ l, zs4.length = l := ⟨_, rfl⟩
          rw [hl4'] at hl4 ⊢
          have hl4H := Lib.hid hl4'
          clear hl4' hb3
          refine hK.out _ _ (fun h => hS3) ?_
          clear hK K
          try simp only [Act.put, List.setIfInBounds_toArray, List.set_cons_zero, List.set_cons_succ]
          refine step_op 13 (by kernel_rfl) rfl (fun K hK => ?_)
          rw [if_pos (by rfl)]
          go_simp
          refine (Plus_any a3 a4 c3 c4 l3 l4 ys3 zs4 _ _ hl3H.out hl4H.out (by omega) (by omega) _ (hL3H.out.later hS3) hr4).mono ?_
          rintro e W4 ⟨zs5, a5, c5, rfl, hr5, hl5, hb4, hfr⟩
          rw [hat.out] at hr5
          have hS4 := hS3.trans (hb4.mono hS3.size)
          obtain ⟨l5, hl5'⟩ : ∃ l, zs5.length = l := ⟨_, rfl⟩
          rw [hl5'] at hl5 ⊢
          have hl5H := Lib.hid hl5'
          have hrowcH := Lib.hid hrowc
          clear hl5' hb4
          refine hK.out _ _ (fun h => hS4) ?_
          clear hK K
          try simp only [Act.put, List.setIfInBounds_toArray, List.set_cons_zero, List.set_cons_succ]
          refine take_op 14 (v := ?av14) rfl (by kernel_rfl) (fun _ _ _ h => h) (by rfl) hS4 (fun w' hS' => ?ay14) ?az14
          case ay14 =>
            go_simp
            try go_ints
            first
            | rfl
            | (rw [if_pos (by omega)]; done)
            | rw [if_pos ⟨by omega, by omega⟩]
          simp only [List.setIfInBounds_toArray, List.set_cons_zero, List.set_cons_succ]
          refine step_op 15 (by kernel_rfl) rfl (fun K hK => ?_)
          rw [if_pos (by rfl)]
          have row4 := row_below rowh hS4
          have z1 := (hS4.cell (p := ⟨b, o + h, none⟩) hbw).trans x1
          have z3 := (hS4.cell (p := ⟨G, h, none⟩) hGlt).trans x3
          have zf := row4.frozenAt h
          have z4 := row4.lt G rfl
          go_simp
          refine hK.out _ _ (fun h => absurd h (by omega)) ?_
          clear hK K
          try simp only [Act.put, List.setIfInBounds_toArray, List.set_cons_zero, List.set_cons_succ]
          refine done_ops (by kernel_rfl) ?_
          obtain ⟨V5, hV5⟩ : ∃ X, W4.setCell ⟨G, h, none⟩ (.slice a5 l5 c5) = X := ⟨_, rfl⟩
          have row5 := (row4.stored h (.slice a5 l5 c5)).1
          have ent5 := ((hent.out.below hS4).store (g := midF j q m h) (by omega) hl5H.out (by unfold midF; rw [if_pos rfl]; exact hr5) (M' := mB m h) (c := c5) (by rw [mB_at]; omega) (fun ad e => ⟨by have := (hfr ad e).1; have := hS3.size; omega, (hfr ad e).2⟩) (fun x _ hne => midF_other hne) (fun x _ hne => mA_mB hne))
          have hB5 : Below G wo (W4.setCell ⟨G, h, none⟩ (.slice a5 l5 c5)) := (hBx.trans (hS4.mono (Nat.le_of_lt hGlt))).setCell (p := ⟨G, h, none⟩) (Nat.le_refl _) _
          rw [hV5] at row5 ent5 hB5 ⊢
          have hx1 := (hB5.cell (p := ⟨b, o + h, none⟩) hb).trans (hrowcH.out)
          obtain ⟨a6, ys6, l6, c6, hc6, hl6, hL6, hM6, ha6⟩ := ent5.2 (h + 1) (by omega)
          rw [mB_up] at hM6
          have hGlt5 : G < V5.heap.size := (row5.lt G rfl).2
          have hbw5 : b < V5.heap.size := by omega
          have x6 := (row5.cellAt (h + 1) (by omega)).trans hc6
          rw [midF_other (by omega), nxtF_up] at hL6
          have hL6H := Lib.hid hL6
          have hl6H := Lib.hid hl6
          have ent5H := Lib.hid ent5
          have hT := (Below.refl V5.heap.size V5).drew
          clear hV5 hL6 hl6 hc6 ent5 hent rowh x1 x3 hfr hS4 hr5 row4 hS3 hS z1 z3 zf z4
          go_wp2_with fail
          refine plain_region (fun W' => Below V5.heap.size V5 W') 16 17 (by kernel_rfl) rfl ?_
          simp only [Array.replicate_succ, Array.replicate_zero, List.push_toArray, List.nil_append, List.cons_append]
          refine take_op 0 (v := ?bv0) rfl (by kernel_rfl) (fun _ _ _ h => h) (by rfl) hT (fun w' hS' => ?by0) ?bz0
          case by0 =>
            go_simp
            rfl
          simp only [List.setIfInBounds_toArray, List.set_cons_zero, List.set_cons_succ]
          refine take_op 1 (v := ?bv1) rfl (by kernel_rfl) (fun _ _ _ h => h) (by rfl) hT (fun w' hS' => ?by1) ?bz1
          case by1 =>
            go_simp
            rfl
          simp only [List.setIfInBounds_toArray, List.set_cons_zero, List.set_cons_succ]
          refine take_op 2 (v := ?bv2) rfl (by kernel_rfl) (fun _ _ _ h => h) (by rfl) hT (fun w' hS' => ?by2) ?bz2
          case by2 =>
            go_simp
            try go_ints
            rfl
          simp only [List.setIfInBounds_toArray, List.set_cons_zero, List.set_cons_succ]
          refine take_op 3 (v := ?bv3) rfl (by kernel_rfl) (fun _ _ _ h => h) (by rfl) hT (fun w' hS' => ?by3) ?bz3
          case by3 =>
            go_simp
            rfl
          simp only [List.setIfInBounds_toArray, List.set_cons_zero, List.set_cons_succ]
          refine take_op 4 (v := ?bv4) rfl (by kernel_rfl) (fun _ _ _ h => h) (by rfl) hT (fun w' hS' => ?by4) ?bz4
          case by4 =>
            go_simp
            rfl
          simp only [List.setIfInBounds_toArray, List.set_cons_zero, List.set_cons_succ]
          refine take_op 5 (v := ?bv5) rfl (by kernel_rfl) (fun _ _ _ h => h) (by rfl) hT (fun w' hS' => ?by5) ?bz5
          case by5 =>
            go_simp
            try go_ints
            rfl
          simp only [List.setIfInBounds_toArray, List.set_cons_zero, List.set_cons_succ]
          refine take_op 6 (v := ?bv6) rfl (by kernel_rfl) (fun _ _ _ h => h) (by rfl) hT (fun w' hS' => ?by6) ?bz6
          case by6 =>
            go_simp
            try go_ints
            first
            | rfl
            | (rw [if_pos (by omega)]; done)
            | rw [if_pos ⟨by omega, by omega⟩]
          simp only [List.setIfInBounds_toArray, List.set_cons_zero, List.set_cons_succ]
          refine take_op 7 (v := ?bv7) rfl (by kernel_rfl) (fun _ _ _ h => h) (by rfl) hT (fun w' hS' => ?by7) ?bz7
          case by7 =>
            have z1 := (hS'.cell (p := ⟨b, o + h, none⟩) hbw5).trans hx1
            have z3 := (hS'.cell (p := ⟨G, h + 1, none⟩) hGlt5).trans x6
            clear hS'
            go_simp
            rfl
          simp only [List.setIfInBounds_toArray, List.set_cons_zero, List.set_cons_succ]
          refine take_op 8 (v := ?bv8) rfl (by kernel_rfl) (fun _ _ _ h => h) (by rfl) hT (fun w' hS' => ?by8) ?bz8
          case by8 =>
            go_simp
            rfl
          simp only [List.setIfInBounds_toArray, List.set_cons_zero, List.set_cons_succ]
          refine take_op 9 (v := ?bv9) rfl (by kernel_rfl) (fun _ _ _ h => h) (by rfl) hT (fun w' hS' => ?by9) ?bz9
          case by9 =>
            go_simp
            rfl
          simp only [List.setIfInBounds_toArray, List.set_cons_zero, List.set_cons_succ]
          refine take_op 10 (v := ?bv10) rfl (by kernel_rfl) (fun _ _ _ h => h) (by rfl) hT (fun w' hS' => ?by10) ?bz10
          case by10 =>
            go_simp
            try go_ints
            first
            | rfl
            | (rw [if_pos (by omega)]; done)
            | rw [if_pos ⟨by omega, by omega⟩]
          simp only [List.setIfInBounds_toArray, List.set_cons_zero, List.set_cons_succ]
          refine take_op 11 (v := ?bv11) rfl (by kernel_rfl) (fun _ _ _ h => h) (by rfl) hT (fun w' hS' => ?by11) ?bz11
          case by11 =>
            have z1 := (hS'.cell (p := ⟨b, o + h, none⟩) hbw5).trans hx1
            have z3 := (hS'.cell (p := ⟨G, h + 1, none⟩) hGlt5).trans x6
            clear hS'
            go_simp
            rfl
          simp only [List.setIfInBounds_toArray, List.set_cons_zero, List.set_cons_succ]
          refine take_op 12 (v := ?bv12) rfl (by kernel_rfl) (fun _ _ _ h => h) (by rfl) hT (fun w' hS' => ?by12) ?bz12
          case by12 =>
            go_simp
            rfl
          simp only [List.setIfInBounds_toArray, List.set_cons_zero, List.set_cons_succ]
          refine step_op 13 (by kernel_rfl) rfl (fun K hK => ?_)
          rw [if_pos (by rfl)]
          go_simp
          refine (Scaled_any a1 c1 l1 ys1 V j hl1H.out (by omega) (by omega) _ ((hL1H.out.below (Nat.le_refl _) (hB5.trans (hT.mono (Nat.le_of_lt hGlt5)))).ldR (Nat.le_trans (Nat.le_of_lt hGlt5) hT.size))).mono ?_
          rintro e W7 ⟨zs7, a7, c7, rfl, hr7, hl7, hb7⟩
          have hT3 := hT.trans (hb7.mono hT.size)
          obtain ⟨l7, hl7'⟩ : ∃ l, zs7.length = l := ⟨_, rfl⟩
          rw [hl7'] at hl7 ⊢
          have hl7H := Lib.hid hl7'
          clear hl7' hb7
          refine hK.out _ _ (fun h => hT3) ?_
          clear hK K
          try simp only [Act.put, List.setIfInBounds_toArray, List.set_cons_zero, List.set_cons_succ]
          refine step_op 14 (by kernel_rfl) rfl (fun K hK => ?_)
          rw [if_pos (by rfl)]
          go_simp
          refine (Plus_any a6 a7 c6 c7 l6 l7 ys6 zs7 _ _ hl6H.out hl7H.out (by omega) (by omega) _ (hL6H.out.later hT3) hr7).mono ?_
          rintro e W8 ⟨zs8, a8, c8, rfl, hr8, hl8, hb8, hfr8⟩
          rw [Nat.zero_add] at hr8
          have hT4 := hT3.trans (hb8.mono hT3.size)
          obtain ⟨l8, hl8'⟩ : ∃ l, zs8.length = l := ⟨_, rfl⟩
          rw [hl8'] at hl8 ⊢
          have hl8H := Lib.hid hl8'
          clear hl8' hb8
          refine hK.out _ _ (fun h => hT4) ?_
          clear hK K
          try simp only [Act.put, List.setIfInBounds_toArray, List.set_cons_zero, List.set_cons_succ]
          refine take_op 15 (v := ?bv15) rfl (by kernel_rfl) (fun _ _ _ h => h) (by rfl) hT4 (fun w' hS' => ?by15) ?bz15
          case by15 =>
            go_simp
            try go_ints
            first
            | rfl
            | (rw [if_pos (by omega)]; done)
            | rw [if_pos ⟨by omega, by omega⟩]
          simp only [List.setIfInBounds_toArray, List.set_cons_zero, List.set_cons_succ]
          refine step_op 16 (by kernel_rfl) rfl (fun K hK => ?_)
          rw [if_pos (by rfl)]
          have row8 := row_below row5 hT4
          have z3 := (hT4.cell (p := ⟨G, h + 1, none⟩) hGlt5).trans x6
          have zf := row8.frozenAt (h + 1)
          have z4 := row8.lt G rfl
          go_simp
          refine hK.out _ _ (fun h => absurd h (by omega)) ?_
          clear hK K
          try simp only [Act.put, List.setIfInBounds_toArray, List.set_cons_zero, List.set_cons_succ]
          refine done_ops (by kernel_rfl) ?_
          have row9 := (row8.stored (h + 1) (.slice a8 l8 c8)).1
          have ent9 := ((ent5H.out.below hT4).store (g := nxtF j q m (h + 1)) (by omega) hl8H.out (by rw [nxtF_new, hVH.out]; exact hr8) (M' := mA m (h + 1)) (c := c8) (by rw [mA_at]; omega) (fun ad e => ⟨by have := (hfr8 ad e).1; have := hT3.size; omega, (hfr8 ad e).2⟩) (fun x _ hne => nxtF_next hne) (fun x _ hne => mB_mA hne))
          have hB9 : Below G wo (W8.setCell ⟨G, h + 1, none⟩ (.slice a8 l8 c8)) := (hB5.trans (hT4.mono (Nat.le_of_lt hGlt5))).setCell (p := ⟨G, h + 1, none⟩) (Nat.le_refl _) _
          have ent9H := Lib.hid ent9
          clear ent9 ent5H row8 hr8 hfr8
          go_wp2_with fail
          go_roundw
          case rel => exact ⟨h + 1, _, by omega, by go_num, row9, ent9H, hB9⟩
          case measure => simp [intOf]; omega
        · have hhe : h = m + 1 := by omega
          subst hhe
          have hBx' : Below wo.heap.size wo wr := by rw [hG0.out]; exact hBx
          have hsc := Lib.hid (Scaled_any a2 c2 l2 zs (256 ^ m) 256 hzl.out (by omega) (by omega) wr (hall.out.later hBx'))
          have kf2 := kf.below hBx' kf.lt
          have hent2 := Lib.hid (hent.out.congr (g := distR j q (m + 1)) fun x hx => (nxtF_done j q m x hx).symm)
          clear hent hall hzl
          go_wp2_with (go_at_call 85; refine hsc.out.mono ?_; rintro e W5 ⟨ds, a5, c5, rfl, hr5, hl5, hb5⟩; have row5 := row_below rowh hb5; have rd5 := (hent2.out.below hb5).rd (fun x _ => mA_le m (m + 1) x) row5; have kf5 := kf2.below hb5 kf2.lt; have hB5 := hBx'.trans (hb5.mono hBx'.size); rw [← Nat.pow_succ] at hr5; obtain ⟨l5, hl5'⟩ : ∃ l, ds.length = l := ⟨_, rfl⟩; rw [hl5'] at hl5 ⊢; have hl5H := Lib.hid hl5'; have rd5H := Lib.hid rd5; have hr5H := Lib.hid hr5; clear hl5' rd5 hr5 hb5 row5)
          go_roundw
          case rel => exact ⟨m + 1, _, a5, m + 2, l5, c5, ds, by omega, by go_num, rfl, rfl, rd5H, hl5H, by omega, hr5H, kf5, hBw.trans (hB5.mono hBw.size)⟩
          case measure => simp [intOf]; omega
    · have hmn : m = n := by omega
      subst hmn
      have hall2 := hall
      go_wp2_with fail
      go_loopw [14, 15] (fun sv i wr => ∃ (x : Nat) (ys : List Nat) (a1 : Option Addr) (l c1 : Nat), x ≤ k + 1 ∧ i = .int .i64 (x : Int) ∧ sv = .slice a1 l c1 ∧ Hid (ys.length = l) ∧ l ≤ 302 + x ∧ Hid (LdR wr a1 ys (sumR (distR j q m) x)) ∧ Hid (RdLd wr.heap.size wr a (distR j q m) (m + 1) (3 * m + 1)) ∧ Hid (LdR wr a2 zs (256 ^ m)) ∧ Blk wr w.heap.size 33 #[.int .i64 (num : Int), .int .i64 (den : Int)] ∧ Below w.heap.size w wr) (fun _ i _ => k + 1 - (intOf i).toNat)
      case atStart => exact ⟨0, [], none, 0, 0, Nat.zero_le _, rfl, rfl, Lib.hid rfl, by omega, Lib.hid ⟨.inl rfl, fun x hx => by simp at hx, rfl⟩, hrow, hall, kf, hBw⟩
      case round =>
        clear hrow kf hBw hall hall2
        obtain ⟨x, ys, a1, l, c1, hxk, rfl, rfl, hyl, hlx, hs, hrow, hall, kf, hBw⟩ := hrel
        by_cases hxlt : x < k + 1
        · obtain ⟨b, o, rfl, hb, a3, us, l3, c3, hc3, hl3, hL3, hM3⟩ := hrow.out x (by omega)
          have hp1 := Lib.hid (Plus_any a1 a3 c1 c3 l l3 ys us (sumR (distR j q m) x) (distR j q m x) hyl.out hl3 (by omega) (by omega) wr hs.out (hL3.ldR (Nat.le_refl _)))
          have hxle : x ≤ k := by omega
          clear hl3 hL3
          go_wp2_with (go_at_call 93; refine hp1.out.mono ?_; rintro e W4 ⟨ts, a5, c5, rfl, hr5, hl5, hb5, _⟩; obtain ⟨l5, hl5'⟩ : ∃ l, ts.length = l := ⟨_, rfl⟩; rw [hl5'] at hl5 ⊢; have hl5H := Lib.hid hl5'; clear hl5')
          go_roundw
          case rel => exact ⟨x + 1, ts, a5, l5, c5, by omega, by go_num, rfl, hl5H, by omega, Lib.hid hr5, Lib.hid (hrow.out.later hb5), Lib.hid (hall.out.later hb5), kf.below hb5 kf.lt, hBw.trans (hb5.mono hBw.size)⟩
          case measure => simp [intOf]; omega
        · have hxe : x = k + 1 := by omega
          subst hxe
          have hvv := hvH.out
          unfold fewB fewR at hvv
          rw [hqH.out] at hvv
          have hvvH := Lib.hid hvv
          obtain ⟨F, hF⟩ : ∃ F, sumR (distR j q m) (k + 1) = F := ⟨_, rfl⟩
          have hsum := hs.out
          rw [hF] at hsum hvvH
          have hsumH := Lib.hid hsum
          have hvw : decide (F * den ≤ 256 ^ m * num) = v := by rw [← hvvH.out, Nat.mul_comm num]
          have hvwH := Lib.hid hvw
          have hS := (Below.refl wr.heap.size wr).drew
          have hs1 := Lib.hid (fun (W : World) (hb : Below wr.heap.size wr W) => Scaled_any a1 c1 l ys F den hyl.out (by omega) hdenH.out W (hsumH.out.later hb))
          have hs2 := Lib.hid (fun (W : World) (hb : Below wr.heap.size wr W) => Scaled_any a2 c2 l2 zs (256 ^ m) num hzl.out (by omega) hnumH.out W (hall.out.later hb))
          clear hs hsum hvv hvH hF hrow hvw hvvH
          go_wp2_with fail
          refine plain_region (fun W' => Below wr.heap.size wr W') 10 10 (by kernel_rfl) rfl ?_
          simp only [Array.replicate_succ, Array.replicate_zero, List.push_toArray, List.nil_append, List.cons_append]
          refine take_op 0 (v := ?cv0) rfl (by kernel_rfl) (fun _ _ _ h => h) (by rfl) hS (fun w' hS' => ?cy0) ?cz0
          case cy0 =>
            go_simp
            rfl
          simp only [List.setIfInBounds_toArray, List.set_cons_zero, List.set_cons_succ]
          refine take_op 1 (v := ?cv1) rfl (by kernel_rfl) (fun _ _ _ h => h) (by rfl) hS (fun w' hS' => ?cy1) ?cz1
          case cy1 =>
            go_simp
            rfl
          simp only [List.setIfInBounds_toArray, List.set_cons_zero, List.set_cons_succ]
          refine take_op 2 (v := ?cv2) rfl (by kernel_rfl) (fun _ _ _ h => h) (by rfl) hS (fun w' hS' => ?cy2) ?cz2
          case cy2 =>
            have z0 := (kf.below hS' kf.lt).cell (i := 0) rfl
            have z1 := (kf.below hS' kf.lt).cell (i := 1) rfl
            clear hS'
            go_simp
            rfl
          simp only [List.setIfInBounds_toArray, List.set_cons_zero, List.set_cons_succ]
          refine take_op 4 (v := ?cv4) rfl (by kernel_rfl) (fun _ _ _ h => h) (by rfl) hS (fun w' hS' => ?cy4) ?cz4
          case cy4 =>
            go_simp
            rfl
          simp only [List.setIfInBounds_toArray, List.set_cons_zero, List.set_cons_succ]
          refine take_op 5 (v := ?cv5) rfl (by kernel_rfl) (fun _ _ _ h => h) (by rfl) hS (fun w' hS' => ?cy5) ?cz5
          case cy5 =>
            go_simp
            rfl
          simp only [List.setIfInBounds_toArray, List.set_cons_zero, List.set_cons_succ]
          refine take_op 6 (v := ?cv6) rfl (by kernel_rfl) (fun _ _ _ h => h) (by rfl) hS (fun w' hS' => ?cy6) ?cz6
          case cy6 =>
            have z0 := (kf.below hS' kf.lt).cell (i := 0) rfl
            have z1 := (kf.below hS' kf.lt).cell (i := 1) rfl
            clear hS'
            go_simp
            rfl
          simp only [List.setIfInBounds_toArray, List.set_cons_zero, List.set_cons_succ]
          refine step_op 3 (by kernel_rfl) rfl (fun K hK => ?_)
          rw [if_pos (by rfl)]
          go_simp
          refine (hs1.out _ hS).mono ?_
          rintro e W5 ⟨ts, aT, cT, rfl, hT, hTl, hb5⟩
          have hS5 := hS.trans (hb5.mono hS.size)
          obtain ⟨lT, hlT⟩ : ∃ l, ts.length = l := ⟨_, rfl⟩
          rw [hlT] at hTl ⊢
          have hlTH := Lib.hid hlT
          clear hlT hb5
          refine hK.out _ _ (fun h => hS5) ?_
          clear hK K
          try simp only [Act.put, List.setIfInBounds_toArray, List.set_cons_zero, List.set_cons_succ]
          refine step_op 7 (by kernel_rfl) rfl (fun K hK => ?_)
          rw [if_pos (by rfl)]
          go_simp
          refine (hs2.out _ hS5).mono ?_
          rintro e W6 ⟨ps, aP, cP, rfl, hP, hPl, hb6⟩
          have hS7 := hS5.trans (hb6.mono hS5.size)
          have hT6 := hT.later hb6
          obtain ⟨lP, hlP⟩ : ∃ l, ps.length = l := ⟨_, rfl⟩
          rw [hlP] at hPl ⊢
          have hlPH := Lib.hid hlP
          clear hlP hb6
          refine hK.out _ _ (fun h => hS7) ?_
          clear hK K
          try simp only [Act.put, List.setIfInBounds_toArray, List.set_cons_zero, List.set_cons_succ]
          refine step_op 8 (by kernel_rfl) rfl (fun K hK => ?_)
          rw [if_pos (by rfl)]
          go_simp
          refine (Least_any aT aP cT cP lT lP ts ps _ _ v hvwH.out hlTH.out hlPH.out (by omega) (by omega) _ hT6 hP).mono ?_
          rintro e W7 ⟨rfl, rfl⟩
          refine hK.out _ _ (fun h => hS7) ?_
          clear hK K
          try simp only [Act.put, List.setIfInBounds_toArray, List.set_cons_zero, List.set_cons_succ]
          refine take_op 9 (v := ?cv9) rfl (by kernel_rfl) (fun _ _ _ h => h) (by rfl) hS7 (fun w' hS' => ?cy9) ?cz9
          case cy9 =>
            go_simp
            rfl
          simp only [List.setIfInBounds_toArray, List.set_cons_zero, List.set_cons_succ]
          refine done_ops (by kernel_rfl) ?_
          go_wp2_with fail
          go_ret
          exact ⟨rfl, hBw.trans (hS7.mono hBw.size)⟩

end Go.Proofs.Ytaejdgjfnoefjaa

/- Contracts and laws (Sh, Ts, Thr, Rl, Rt, Rf, Th, Tj). -/
import Derived.Shelf.Lays
import Derived.Shelf.Lays8
import Derived.Shelf.Abstract
import Derived.Test.YtbfigbpjoaccdaaGreatProg
import Derived.Shelf.Sort.Plain
import Derived.Sort.OwnSortedInts
import Derived.Shelf.Slices.Turned
import Derived.Shelf.Spec.SlicesGrow
import Derived.Lib.Hide
import Derived.Lib.MinMax
import Derived.Test.YtbfigbpjoaccdaaGreatQD8
import Derived.Test.YtbfigbpjoaccdaaGreatQD1
import Derived.Test.YtbfigbpjoaccdaaGreatQD11
import Derived.Test.YtbfigbpjoaccdaaGreatQD10
import Derived.Test.YtbfigbpjoaccdaaGreatQD16
import Derived.Test.YtbfigbpjoaccdaaGreatQD14
import Derived.Test.YtbfigbpjoaccdaaGreatQD15
namespace Go.Proofs.YtbfigbpjoaccdaaGreat
open Go Go.Shelf
set_option maxRecDepth 100000

def shMax_ren : Go.Shelf.Ren := ⟨fun | 113 => 63 | n => n, fun | 28 => 25 | 3 => 3 | 4 => 4 | 9 => 9 | 20 => 20 | 0 => 0 | n => n, fun | n => n⟩

theorem shMax : Go.Proofs.Lays.n113 Tryz.prog shMax_ren := {
  mixed := by kernel_rfl,
  f113 := Tryz.func63.trans (congrArg some (by kernel_rfl)),
  t0 := Tryz.underlying0,
  a0 := Tryz.isAgg0,
  z0 := Tryz.sizeOf0,
  v0 := Tryz.zeroValue0,
  t3 := Tryz.underlying3,
  a3 := Tryz.isAgg3,
  z3 := Tryz.sizeOf3,
  v3 := Tryz.zeroValue3,
  t4 := Tryz.underlying4,
  a4 := Tryz.isAgg4,
  z4 := Tryz.sizeOf4,
  v4 := Tryz.zeroValue4,
  t9 := Tryz.underlying9,
  a9 := Tryz.isAgg9,
  z9 := Tryz.sizeOf9,
  v9 := Tryz.zeroValue9,
  t20 := Tryz.underlying20,
  a20 := Tryz.isAgg20,
  z20 := Tryz.sizeOf20,
  v20 := Tryz.zeroValue20,
  t28 := Tryz.underlying25,
  a28 := Tryz.isAgg25,
  z28 := Tryz.sizeOf25,
  v28 := Tryz.zeroValue25 }

def shSort_ren : Go.Shelf.Ren := ⟨fun | 189 => 64 | 125 => 105 | 257 => 104 | 128 => 139 | 129 => 140 | 294 => 130 | 295 => 131 | 296 => 132 | 297 => 133 | 298 => 134 | 299 => 135 | 216 => 136 | 300 => 137 | 301 => 138 | 328 => 149 | 329 => 150 | 330 => 151 | 331 => 152 | 332 => 153 | 215 => 154 | 343 => 158 | n => n, fun | 28 => 25 | 3 => 3 | 46 => 129 | 0 => 0 | 51 => 183 | 53 => 140 | 4 => 4 | 183 => 192 | 182 => 191 | 131 => 196 | 5 => 5 | 9 => 9 | 218 => 210 | 222 => 214 | 228 => 221 | 229 => 222 | n => n, fun | n => n⟩

theorem shSort : Go.Proofs.Lays.n189 Tryz.prog shSort_ren := {
  mixed := by kernel_rfl,
  f125 := Tryz.func105.trans (congrArg some (by kernel_rfl)),
  f128 := Tryz.func139.trans (congrArg some (by kernel_rfl)),
  f129 := Tryz.func140.trans (congrArg some (by kernel_rfl)),
  f189 := Tryz.func64.trans (congrArg some (by kernel_rfl)),
  f215 := Tryz.func154.trans (congrArg some (by kernel_rfl)),
  f216 := Tryz.func136.trans (congrArg some (by kernel_rfl)),
  f257 := Tryz.func104.trans (congrArg some (by kernel_rfl)),
  f294 := Tryz.func130.trans (congrArg some (by kernel_rfl)),
  f295 := Tryz.func131.trans (congrArg some (by kernel_rfl)),
  f296 := Tryz.func132.trans (congrArg some (by kernel_rfl)),
  f297 := Tryz.func133.trans (congrArg some (by kernel_rfl)),
  f298 := Tryz.func134.trans (congrArg some (by kernel_rfl)),
  f299 := Tryz.func135.trans (congrArg some (by kernel_rfl)),
  f300 := Tryz.func137.trans (congrArg some (by kernel_rfl)),
  f301 := Tryz.func138.trans (congrArg some (by kernel_rfl)),
  f328 := Tryz.func149.trans (congrArg some (by kernel_rfl)),
  f329 := Tryz.func150.trans (congrArg some (by kernel_rfl)),
  f330 := Tryz.func151.trans (congrArg some (by kernel_rfl)),
  f331 := Tryz.func152.trans (congrArg some (by kernel_rfl)),
  f332 := Tryz.func153.trans (congrArg some (by kernel_rfl)),
  f343 := Tryz.func158.trans (congrArg some (by kernel_rfl)),
  t0 := Tryz.underlying0,
  a0 := Tryz.isAgg0,
  z0 := Tryz.sizeOf0,
  v0 := Tryz.zeroValue0,
  t3 := Tryz.underlying3,
  a3 := Tryz.isAgg3,
  z3 := Tryz.sizeOf3,
  v3 := Tryz.zeroValue3,
  t4 := Tryz.underlying4,
  a4 := Tryz.isAgg4,
  z4 := Tryz.sizeOf4,
  v4 := Tryz.zeroValue4,
  t5 := Tryz.underlying5,
  a5 := Tryz.isAgg5,
  z5 := Tryz.sizeOf5,
  v5 := Tryz.zeroValue5,
  t9 := Tryz.underlying9,
  a9 := Tryz.isAgg9,
  z9 := Tryz.sizeOf9,
  v9 := Tryz.zeroValue9,
  t28 := Tryz.underlying25,
  a28 := Tryz.isAgg25,
  z28 := Tryz.sizeOf25,
  v28 := Tryz.zeroValue25,
  t46 := Tryz.underlying129,
  a46 := Tryz.isAgg129,
  z46 := Tryz.sizeOf129,
  v46 := Tryz.zeroValue129,
  t51 := Tryz.underlying183,
  a51 := Tryz.isAgg183,
  z51 := Tryz.sizeOf183,
  v51 := Tryz.zeroValue183,
  t53 := Tryz.underlying140,
  a53 := Tryz.isAgg140,
  z53 := Tryz.sizeOf140,
  v53 := Tryz.zeroValue140,
  t131 := Tryz.underlying196,
  a131 := Tryz.isAgg196,
  z131 := Tryz.sizeOf196,
  v131 := Tryz.zeroValue196,
  t182 := Tryz.underlying191,
  a182 := Tryz.isAgg191,
  z182 := Tryz.sizeOf191,
  v182 := Tryz.zeroValue191,
  t183 := Tryz.underlying192,
  a183 := Tryz.isAgg192,
  z183 := Tryz.sizeOf192,
  v183 := Tryz.zeroValue192,
  t218 := Tryz.underlying210,
  a218 := Tryz.isAgg210,
  z218 := Tryz.sizeOf210,
  v218 := Tryz.zeroValue210,
  t222 := Tryz.underlying214,
  a222 := Tryz.isAgg214,
  z222 := Tryz.sizeOf214,
  v222 := Tryz.zeroValue214,
  t228 := Tryz.underlying221,
  a228 := Tryz.isAgg221,
  z228 := Tryz.sizeOf221,
  v228 := Tryz.zeroValue221,
  t229 := Tryz.underlying222,
  a229 := Tryz.isAgg222,
  z229 := Tryz.sizeOf222,
  v229 := Tryz.zeroValue222 }

def shGrow_ren : Go.Shelf.Ren := ⟨fun | 4 => 103 | n => n, fun | 22 => 25 | 25 => 3 | 3 => 3 | 4 => 4 | 9 => 9 | 20 => 20 | 0 => 0 | n => n, fun | n => n⟩

theorem shGrow : Go.Proofs.Lays8.n4 Tryz.prog shGrow_ren := {
  mixed := by kernel_rfl,
  f4 := ⟨Tryz.f103.name, by decide, Tryz.func103.trans (congrArg some (by kernel_rfl))⟩,
  t0 := Tryz.underlying0,
  a0 := Tryz.isAgg0,
  z0 := Tryz.sizeOf0,
  v0 := Tryz.zeroValue0,
  t3 := Tryz.underlying3,
  a3 := Tryz.isAgg3,
  z3 := Tryz.sizeOf3,
  v3 := Tryz.zeroValue3,
  t4 := Tryz.underlying4,
  a4 := Tryz.isAgg4,
  z4 := Tryz.sizeOf4,
  v4 := Tryz.zeroValue4,
  t9 := Tryz.underlying9,
  a9 := Tryz.isAgg9,
  z9 := Tryz.sizeOf9,
  v9 := Tryz.zeroValue9,
  t20 := Tryz.underlying20,
  a20 := Tryz.isAgg20,
  z20 := Tryz.sizeOf20,
  v20 := Tryz.zeroValue20,
  t22 := Tryz.underlying25,
  a22 := Tryz.isAgg25,
  z22 := Tryz.sizeOf25,
  v22 := Tryz.zeroValue25 }

end Go.Proofs.YtbfigbpjoaccdaaGreat

namespace Go.Proofs.YtbfigbpjoaccdaaGreat
open Go Go.RowKit Go.Shelf
set_option linter.unusedVariables false
set_option linter.unusedSimpArgs false

/-- The greatest of a list. -/
structure Top (M : Int) (l : List Int) : Prop where
  mem : M ∈ l
  le : ∀ x ∈ l, x ≤ M
theorem Top.unique {M N : Int} {l : List Int} (h : Top M l) (k : Top N l) : M = N := by
  have h1 := h.le N k.mem
  have h2 := k.le M h.mem
  omega
theorem foldl_max_top : ∀ (l : List Int) (a : Int), (l.foldl max a = a ∨ l.foldl max a ∈ l) ∧ a ≤ l.foldl max a ∧ ∀ x ∈ l, x ≤ l.foldl max a
  | [], a => ⟨.inl rfl, Int.le_refl _, fun x hx => by cases hx⟩
  | b :: l, a => by
    obtain ⟨h1, h2, h3⟩ := foldl_max_top l (max a b)
    simp only [List.foldl_cons]
    refine ⟨?_, by omega, fun x hx => ?_⟩
    · rcases h1 with h1 | h1
      · by_cases hab : a ≤ b
        · exact .inr (by rw [h1, Int.max_eq_right hab]; exact List.mem_cons_self)
        · exact .inl (by rw [h1, Int.max_eq_left (by omega)])
      · exact .inr (List.mem_cons_of_mem _ h1)
    · rcases List.mem_cons.1 hx with rfl | hx
      · omega
      · exact h3 x hx
theorem maxOf_top {l : List Int} (h : 0 < l.length) : Top (Lib.maxOf l) l := by
  cases l with
  | nil => simp at h
  | cons a l =>
    obtain ⟨h1, h2, h3⟩ := foldl_max_top (a :: l) a
    refine ⟨?_, h3⟩
    unfold Lib.maxOf
    simp only [List.headD_cons]
    rcases h1 with h1 | h1
    · rw [h1]; exact List.mem_cons_self
    · exact h1

theorem Max_any (a : Option Addr) (c n : Nat) (xs : List Int) (hn : xs.length = n) (h0 : 0 < n) (hbig : n ≤ 9223372036854775807) (w : World) (hr : Rd w.heap.size w a xs) :
    Calls Tryz.prog 63 #[.slice a n c] w fun e w' => ∃ M, e = .returned (.int .i64 M) ∧ Top M xs ∧ w = w' := by
  subst hn
  rcases hr with h | ⟨b, o, rfl, hb, hc⟩
  · subst h; simp at h0
  have h1 := Any.slices_Max_int shMax b o xs.length c xs w h0 (Nat.le_refl _) hbig (fun j hj => by rw [hc j hj]; simp [List.getD])
  refine h1.mono fun e w' ⟨he, hw⟩ => ⟨_, he, ?_, hw.symm⟩
  rw [List.take_length]
  exact maxOf_top h0

theorem Sort_any (base : Nat) (v : Value) (n : Nat) (zs : List Int) (h0 : 0 < n) (hbig : n < 4611686018427387904) (w : World) (hown : w.ownsRow base 3 1 v n (zs.map (Value.int .i64))) :
    Calls Tryz.prog 64 #[v] w fun e w' => e = .returned (.tuple #[]) ∧ ∃ ts : List Int, ts.Perm zs ∧ ts.Pairwise (· ≤ ·) ∧ w'.ownsRow base 3 1 v n (ts.map (Value.int .i64)) ∧ w.grownBy w' v.ownBlock := by
  obtain ⟨hl, h⟩ := hown
  have hl' : zs.length = n := by simpa using hl
  rcases h with ⟨rfl, h2⟩ | ⟨g, cap, cur, rfl, hbase, hb, h1, h2, h3, h4⟩
  · omega
  subst hl'
  have hg : g < w.heap.size := (Array.getElem?_eq_some_iff.1 hb).1
  have hc := Any.slices_Sort_int shSort g 0 cap zs w (holds_of_blockI hb (by simpa using h4)) hg hbig
  refine hc.mono fun e w' ⟨he, n, os, hw⟩ => ⟨he, _, List.mergeSort_perm zs (fun x y => decide (x ≤ y)), ?_, ?_, ?_⟩
  · have hp := List.pairwise_mergeSort (le := fun x y : Int => decide (x ≤ y)) (fun a b c h1 h2 => by simp only [decide_eq_true_eq] at h1 h2 ⊢; omega) (fun a b => by simp only [Bool.or_eq_true, decide_eq_true_eq]; omega) zs
    exact hp.imp fun h => by simpa using h
  · subst hw
    exact ownsRow_sortedI (by simp) hbase hb h1 h2 h3
  · subst hw
    exact grownBy_sortedI _

theorem owns_zero {w : World} {base : Nat} {e : TypeId} (cur : Array Value) (cap : Nat) (hb : base ≤ w.heap.size) (hm : cap ≤ maxLen) (hs : cur.size = cap) :
    (w.alloc (.cells cur e)).ownsRow base e 1 (.slice (some ⟨w.heap.size, 0, none⟩) 0 cap) 0 [] :=
  ⟨rfl, .inr ⟨w.heap.size, cap, cur, rfl, hb, (by show (w.heap.push _)[w.heap.size]? = _; exact Array.getElem?_push_size), Nat.zero_le _, hm, by omega, by simp⟩⟩

theorem Grow_any (n : Nat) (hbig : n * 8 ≤ 140737488355328) (w : World) :
    Calls Tryz.prog 103 #[.slice none 0 0, .int .i64 n] w fun e w' => ∃ v, e = .returned v ∧ w'.ownsRow w.heap.size 3 1 v 0 [] ∧ Below w.heap.size w w' := by
  obtain ⟨i0, hi, hz0, hz1, hz2⟩ := info_parts jinfo_int
  by_cases h0 : n = 0
  · subst h0
    refine (Any8.slices_Grow_room shGrow none 0 0 0 w (by decide) (by decide) (by decide) (by decide)).mono fun e w' ⟨he, hw⟩ => ?_
    subst hw
    exact ⟨_, he, World.ownsRow_nil _ _ _ _, Below.refl _ _⟩
  · have hc := Any8.slices_Grow_grow shGrow i0 (.int .i64 0) hi hz0 (by rw [hz1]; decide) none 0 0 n [] w (by decide) (by omega) (by rw [hz2]; omega) (by omega) (by simp) (fun _ => rfl) (fun a ha => by cases ha)
    refine hc.mono fun e w' ⟨he, hw⟩ => ⟨_, he, ?_, ?_⟩
    · subst hw
      refine owns_zero _ _ ?_ (grownCap_le_maxLen _ _ _ _ (by unfold maxLen; omega)) ?_
      · exact Nat.le_refl _
      · have hge := grownCap_ge w n 0 (shGrow_ren.t 25)
        simp only [List.size_toArray, List.length_nil, Array.size_append, size_zeroCells, Value.cells]
        simp
        omega
    · subst hw
      exact jb_al ((Below.refl _ w).drew) _

set_option maxRecDepth 100000 in
set_option maxHeartbeats 2000000 in
/-- Two rows one after the other, in a row of the call's own. -/
theorem Concat_any (a1 a2 : Option Addr) (n1 c1 n2 c2 b c : Nat) (xs ys : List Int) (hn1 : xs.length = n1) (hn2 : ys.length = n2) (hs1 : n1 ≤ 1000) (hs2 : n2 ≤ 1000) (w : World)
    (hk : Blk w b 25 #[.slice a1 n1 c1, .slice a2 n2 c2]) (hr1 : Rd w.heap.size w a1 xs) (hr2 : Rd w.heap.size w a2 ys) :
    Calls Tryz.prog 62 #[.slice (some ⟨b, 0, none⟩) 2 c] w fun e w' => ∃ v, e = .returned v ∧ w'.ownsRow w.heap.size 3 1 v (n1 + n2) ((xs ++ ys).map (Value.int .i64)) ∧ Below w.heap.size w w' := by
  obtain ⟨i0, hi, hz0, hz1, hz2⟩ := info_parts jinfo_int
  have k0 := hk.cell (i := 0) rfl
  have k1 := hk.cell (i := 1) rfl
  go_enter Tryz.func62, Tryz.ntmps62
  go_wp2
  go_loop [3, 11] (fun s i => (i = .int .i64 0 ∧ s = .int .i64 0) ∨ (i = .int .i64 1 ∧ s = .int .i64 (n1 : Int)) ∨ (i = .int .i64 2 ∧ s = .int .i64 ((n1 + n2 : Nat) : Int))) (fun _ i => 2 - (intOf i).toNat)
  case atStart => exact .inl ⟨rfl, rfl⟩
  case round =>
    rcases hrel with ⟨rfl, rfl⟩ | ⟨rfl, rfl⟩ | ⟨rfl, rfl⟩
    · go_wp2
      go_round
      case rel => exact .inr (.inl ⟨rfl, by go_num⟩)
      case measure => simp [intOf]
    · have hneg : ¬ ((n1 : Int) + (n2 : Int) < 0) := by omega
      go_wp2
      go_round
      case rel => exact .inr (.inr ⟨rfl, by go_num⟩)
      case measure => simp [intOf]
    · have hg := Grow_any (n1 + n2) (by omega) w
      obtain ⟨nn, hnn⟩ : ∃ nn, n1 + n2 = nn := ⟨_, rfl⟩
      rw [hnn] at hg
      rw [hnn]
      have hnnH := Lib.hid hnn
      clear hnn
      go_wp2_with (go_at_call 103; refine hg.mono ?_; rintro e w1 ⟨v1, rfl, own1, hB1⟩)
      go_loopw [6, 27] (fun v i wr => ∃ (k : Nat) (zs : List Int), i = .int .i64 (k : Int) ∧ k ≤ 2 ∧ Hid (zs = if k = 0 then [] else if k = 1 then xs else xs ++ ys) ∧ wr.ownsRow w.heap.size 3 1 v zs.length (zs.map (Value.int .i64)) ∧ Below w.heap.size w wr) (fun _ i _ => 2 - (intOf i).toNat)
      case atStart => exact ⟨0, [], rfl, by omega, Lib.hid rfl, by simpa using own1, hB1⟩
      case round =>
        clear own1 hB1 hg
        obtain ⟨k, zs, rfl, hk2, hzs, own, hB⟩ := hrel
        by_cases hkk : k = 2
        · subst hkk
          have e := hzs.out
          simp at e
          have hl : zs.length = nn := by rw [e, ← hnnH.out, ← hn1, ← hn2]; simp
          rw [hl] at own
          rw [e] at own
          have ownH := Lib.hid own
          clear own
          go_wp2_with fail
          go_ret
          exact ⟨u6, rfl, by rw [hnnH.out]; exact ownH.out, hB⟩
        · obtain ⟨a, m, cc, us, hk3, hm, hus, hz2, hms⟩ : ∃ a m cc us, w.cell? ⟨b, k, none⟩ = some (.slice a m cc) ∧ us.length = m ∧ Rd w.heap.size w a us ∧ (zs ++ us = if k + 1 = 1 then xs else xs ++ ys) ∧ m ≤ 1000 := by
            have e := hzs.out
            rcases (show k = 0 ∨ k = 1 by omega) with rfl | rfl
            · exact ⟨a1, n1, c1, xs, k0, hn1, hr1, by rw [e]; simp, hs1⟩
            · exact ⟨a2, n2, c2, ys, k1, hn2, hr2, by rw [e]; simp, hs2⟩
          have hzl : zs.length ≤ 2000 := by
            have e := hzs.out
            rw [e]
            split
            · simp
            · split
              · omega
              · simp; omega
          have d := (hB.cell (p := ⟨b, k, none⟩) hk.lt).trans hk3
          have hnews := (hus.below (Nat.le_refl _) hB).news hm
          have hk4 : k < 2 := by omega
          have hz2H := Lib.hid hz2
          have ownH := Lib.hid own
          have honeH := Lib.hid (vint_one us)
          have hmH := Lib.hid hm
          have hnewsH := Lib.hid hnews
          have hzsH := Lib.hid (show zs.length + m = (zs ++ us).length by simp [hm])
          clear own hz2 hus hk3 hm hnews hkk
          go_wp2_with (at_builtin; refine wpList_append_any rfl (.tmp 31) (.tmp 32) 25 rfl w.heap.size 3 i0 (.int .i64 0) 8 Tryz.underlying25 hi hz0 hz1 hz2 rfl u6 zs.length (zs.map (Value.int .i64)) rfl ownH.out a m cc (us.map (Value.int .i64)) rfl (by rw [List.length_map]; exact hmH.out) hnewsH.out honeH.out (by unfold maxLen; omega) (by omega) hB.size ?_; intro v2 W2 own2 hg2 _; have hB2 := hB.grown hg2 hB.size (fun k e => (ownH.out.lt k e).1); rw [← List.map_append, hzsH.out] at own2; clear hg2)
          go_roundw
          case rel => exact ⟨k + 1, zs ++ us, by go_num, by omega, Lib.hid (by rw [if_neg (by omega)]; exact hz2H.out), own2, hB2⟩
          case measure => simp [intOf]; omega

end Go.Proofs.YtbfigbpjoaccdaaGreat

namespace Go.Proofs.YtbfigbpjoaccdaaGreat
set_option linter.unusedVariables false
set_option linter.unusedSimpArgs false

def costL (f : Int → Int) : List Int → Int
  | [] => 0
  | x :: r => costL f r + f x
theorem costL_append (f : Int → Int) : ∀ (l r : List Int), costL f (l ++ r) = costL f l + costL f r
  | [], r => by simp [costL]
  | x :: l, r => by simp only [List.cons_append, costL]; rw [costL_append f l r]; omega
theorem costL_snoc (f : Int → Int) (l : List Int) (x : Int) : costL f (l ++ [x]) = costL f l + f x := by rw [costL_append]; simp [costL]
theorem costL_bd {f : Int → Int} {B : Int} : ∀ {l : List Int}, (∀ x ∈ l, 0 ≤ f x ∧ f x ≤ B) → 0 ≤ costL f l ∧ costL f l ≤ B * l.length
  | [], _ => by simp [costL]
  | x :: r, h => by
    have ih := costL_bd (l := r) fun y hy => h y (List.mem_cons_of_mem _ hy)
    have hx := h x List.mem_cons_self
    simp only [costL, List.length_cons]
    rw [Int.natCast_succ, Int.mul_add, Int.mul_one]
    omega
/-- What good scores below a threshold cost, and bad ones not below. -/
def goodC (alarm t : Int) (s : Int) : Int := if s < t then alarm else 0
def badC (miss t : Int) (s : Int) : Int := if t ≤ s then miss else 0
def costT (good bad : List Int) (miss alarm t : Int) : Int := costL (goodC alarm t) good + costL (badC miss t) bad
theorem costT_bd {good bad : List Int} {miss alarm t : Int} (hm : 0 ≤ miss) (hm2 : miss ≤ 10000) (ha : 0 ≤ alarm) (ha2 : alarm ≤ 10000) (hg : good.length ≤ 100) (hb : bad.length ≤ 100) : 0 ≤ costT good bad miss alarm t ∧ costT good bad miss alarm t ≤ 2000000 := by
  have h1 := costL_bd (f := goodC alarm t) (B := 10000) (l := good) fun s _ => by unfold goodC; split <;> omega
  have h2 := costL_bd (f := badC miss t) (B := 10000) (l := bad) fun s _ => by unfold badC; split <;> omega
  unfold costT
  omega

/-- A number of a list with the least cost, the least one of these. -/
structure IsBest (c : Int → Int) (l : List Int) (t : Int) : Prop where
  mem : t ∈ l
  best : ∀ s ∈ l, c t < c s ∨ (c t = c s ∧ t ≤ s)
theorem IsBest.unique {c : Int → Int} {l m : List Int} {t u : Int} (h : IsBest c l t) (h2 : IsBest c m u) (hlm : ∀ x, x ∈ l ↔ x ∈ m) : t = u := by
  have h3 := h.best u ((hlm u).2 h2.mem)
  have h4 := h2.best t ((hlm t).1 h.mem)
  omega
theorem IsBest.one (c : Int → Int) (t : Int) : IsBest c [t] t := ⟨by simp, fun s hs => by simp at hs; subst hs; exact .inr ⟨rfl, Int.le_refl _⟩⟩
/-- One number more. -/
theorem IsBest.snoc {c : Int → Int} {l : List Int} {t u : Int} (h : IsBest c l t) : IsBest c (l ++ [u]) (if c u < c t ∨ (c u = c t ∧ u < t) then u else t) := by
  by_cases hc : c u < c t ∨ (c u = c t ∧ u < t)
  · rw [if_pos hc]
    refine ⟨by simp, fun s hs => ?_⟩
    rcases List.mem_append.1 hs with h1 | h1
    · have := h.best s h1; omega
    · simp at h1; subst h1; exact .inr ⟨rfl, Int.le_refl _⟩
  · rw [if_neg hc]
    refine ⟨List.mem_append_left _ h.mem, fun s hs => ?_⟩
    rcases List.mem_append.1 hs with h1 | h1
    · exact h.best s h1
    · simp at h1; subst h1; omega
/-- One number more that is not below the others: only its cost counts. -/
theorem IsBest.next {c : Int → Int} {l : List Int} {t u : Int} (h : IsBest c l t) (hu : ∀ s ∈ l, s ≤ u) : IsBest c (l ++ [u]) (if c u < c t then u else t) := by
  have h1 := h.snoc (u := u)
  have h2 := hu t h.mem
  by_cases hc : c u < c t
  · rw [if_pos (.inl hc)] at h1; rw [if_pos hc]; exact h1
  · rw [if_neg (by omega)] at h1; rw [if_neg hc]; exact h1

end Go.Proofs.YtbfigbpjoaccdaaGreat

namespace Go.Proofs.YtbfigbpjoaccdaaGreat
open Go Go.RowKit Go.Shelf
set_option linter.unusedVariables false
set_option linter.unusedSimpArgs false

def b30 : Nat := 1073741824
theorem b30_eq : b30 = 1073741824 := rfl
theorem b30_pos : 0 < b30 := by decide
def ints (ds : List Nat) : List Int := ds.map fun d : Nat => (d : Int)
/-- A number of the specification, in memory. -/
structure LdR (W : World) (a : Option Addr) (ds : List Nat) (V : Nat) : Prop where
  rd : Rd W.heap.size W a (ints ds)
  words : wordsB b30 ds
  val : valB b30 ds = V
theorem LdR.later {W W' : World} {a : Option Addr} {ds : List Nat} {V : Nat} (h : LdR W a ds V) (hb : Below W.heap.size W W') : LdR W' a ds V := ⟨(h.rd.below (Nat.le_refl _) hb).mono hb.size, h.words, h.val⟩
/-! ### Products -/

/-- What has been laid down of a product. -/
structure MulD (ds : List Nat) (n k : Nat) (os : List Nat) (cy : Nat) : Prop where
  len : os.length = k
  words : wordsB b30 os
  carry : cy < b30
  val : valB b30 os + b30 ^ k * cy = valB b30 (ds.take k) * n
  over : k ≤ ds.length ∨ (k = ds.length + 1 ∧ cy = 0)
theorem MulD.start (ds : List Nat) (n : Nat) : MulD ds n 0 [] 0 := ⟨rfl, fun x hx => by simp at hx, by decide, by simp [valB], .inl (Nat.zero_le _)⟩
theorem MulD.step {ds : List Nat} {n k : Nat} {os : List Nat} {cy : Nat} (h : MulD ds n k os cy) (hn : n ≤ b30) (hds : wordsB b30 ds) (hgo : k < ds.length ∨ 0 < cy) {d x s c' : Nat} (hd : ds[k]?.getD 0 = d) (hx : d * n + cy = x) (hs : x % b30 = s) (hc : x / b30 = c') : MulD ds n (k + 1) (os ++ [s]) c' := by
  have hdb : d < b30 := by rw [← hd]; exact wordsB_get b30_pos hds k
  have hcy := h.carry
  have hxe : x = b30 * c' + s := by rw [← hs, ← hc]; exact (Nat.div_add_mod _ _).symm
  have hsb : s < b30 := by rw [← hs]; exact Nat.mod_lt _ b30_pos
  have hxb : x < b30 * b30 := by
    have h1 : d * n ≤ (b30 - 1) * b30 := Nat.mul_le_mul (by omega) hn
    have h2 : (b30 - 1) * b30 + b30 = b30 * b30 := by decide
    omega
  have hcb : c' < b30 := by rw [← hc]; exact Nat.div_lt_of_lt_mul hxb
  refine ⟨by simp [h.len], fun y hy => ?_, hcb, ?_, ?_⟩
  · rcases List.mem_append.1 hy with h1 | h1
    · exact h.words y h1
    · simp at h1; subst h1; exact hsb
  · rw [valB_snoc, h.len, valB_take_more, hd, Nat.add_mul, ← h.val, Nat.mul_assoc]
    have e1 := congrArg (b30 ^ k * ·) hx
    simp only [Nat.mul_add] at e1
    rw [hxe, Nat.mul_add] at e1
    rw [Nat.pow_succ, Nat.mul_assoc (b30 ^ k) b30 c']
    omega
  · by_cases hk : k < ds.length
    · exact .inl (by omega)
    · rcases h.over with h1 | ⟨h1, h2⟩
      · refine .inr ⟨by omega, ?_⟩
        have hd0 : d = 0 := by rw [← hd, List.getElem?_eq_none (by omega)]; rfl
        rw [hd0, Nat.zero_mul, Nat.zero_add] at hx
        rw [← hc, ← hx]
        exact Nat.div_eq_of_lt hcy
      · omega
theorem MulD.done {ds : List Nat} {n k : Nat} {os : List Nat} (h : MulD ds n k os 0) (hk : ds.length ≤ k) : valB b30 os = valB b30 ds * n := by
  have := h.val
  rw [Nat.mul_zero, Nat.add_zero, List.take_of_length_le hk] at this
  exact this

/-! ### Sums -/

structure SumD (xs ys : List Nat) (k : Nat) (os : List Nat) (cy : Nat) : Prop where
  len : os.length = k
  words : wordsB b30 os
  carry : cy ≤ 1
  val : valB b30 os + b30 ^ k * cy = valB b30 (xs.take k) + valB b30 (ys.take k)
  over : k ≤ max xs.length ys.length ∨ (k = max xs.length ys.length + 1 ∧ cy = 0)
theorem SumD.start (xs ys : List Nat) : SumD xs ys 0 [] 0 := ⟨rfl, fun x hx => by simp at hx, by omega, by simp [valB], .inl (Nat.zero_le _)⟩
theorem SumD.step {xs ys : List Nat} {k : Nat} {os : List Nat} {cy : Nat} (h : SumD xs ys k os cy) (hxs : wordsB b30 xs) (hys : wordsB b30 ys) (hgo : k < max xs.length ys.length ∨ 0 < cy) {d e x s c' : Nat} (hd : xs[k]?.getD 0 = d) (he : ys[k]?.getD 0 = e) (hx : d + e + cy = x) (hs : x % b30 = s) (hc : x / b30 = c') : SumD xs ys (k + 1) (os ++ [s]) c' := by
  have hdb : d < b30 := by rw [← hd]; exact wordsB_get b30_pos hxs k
  have heb : e < b30 := by rw [← he]; exact wordsB_get b30_pos hys k
  have hcy := h.carry
  have hxe : x = b30 * c' + s := by rw [← hs, ← hc]; exact (Nat.div_add_mod _ _).symm
  have hsb : s < b30 := by rw [← hs]; exact Nat.mod_lt _ b30_pos
  have hcb : c' ≤ 1 := by
    have : x / b30 < 2 := Nat.div_lt_of_lt_mul (by omega)
    omega
  refine ⟨by simp [h.len], fun y hy => ?_, hcb, ?_, ?_⟩
  · rcases List.mem_append.1 hy with h1 | h1
    · exact h.words y h1
    · simp at h1; subst h1; exact hsb
  · rw [valB_snoc, h.len, valB_take_more, valB_take_more, hd, he]
    have h2 := h.val
    have e1 := congrArg (b30 ^ k * ·) hx
    simp only [Nat.mul_add] at e1
    rw [hxe, Nat.mul_add] at e1
    rw [Nat.pow_succ, Nat.mul_assoc (b30 ^ k) b30 c']
    omega
  · by_cases hk : k < max xs.length ys.length
    · exact .inl (by omega)
    · rcases h.over with h1 | ⟨h1, h2⟩
      · refine .inr ⟨by omega, ?_⟩
        have hd0 : d = 0 := by rw [← hd, List.getElem?_eq_none (by omega)]; rfl
        have he0 : e = 0 := by rw [← he, List.getElem?_eq_none (by omega)]; rfl
        rw [← hc, ← hx, hd0, he0]
        exact Nat.div_eq_of_lt (by rw [b30_eq]; omega)
      · omega
theorem SumD.done {xs ys : List Nat} {k : Nat} {os : List Nat} (h : SumD xs ys k os 0) (hk : max xs.length ys.length ≤ k) : valB b30 os = valB b30 xs + valB b30 ys := by
  have := h.val
  rw [Nat.mul_zero, Nat.add_zero, List.take_of_length_le (by omega), List.take_of_length_le (by omega)] at this
  exact this

/-! ### Comparison -/

end Go.Proofs.YtbfigbpjoaccdaaGreat

namespace Go.Proofs.YtbfigbpjoaccdaaGreat
open Go Go.RowKit Go.Shelf
set_option linter.unusedVariables false
set_option linter.unusedSimpArgs false

theorem LdR.one {W : World} {b : Nat} (h : Blk W b 3 #[.int .i64 1]) : LdR W (some ⟨b, 0, none⟩) [1] 1 where
  rd := .inr ⟨b, 0, rfl, h.lt, fun i hi => by
    have : i = 0 := by simp [ints] at hi; exact hi
    subst this
    exact h.cell rfl⟩
  words := fun y hy => by simp at hy; subst hy; decide
  val := by simp [valB]

end Go.Proofs.YtbfigbpjoaccdaaGreat

namespace Go.Proofs.YtbfigbpjoaccdaaGreat
open Go Go.RowKit Go.Shelf
set_option linter.unusedVariables false
set_option linter.unusedSimpArgs false

def LdB (B : Nat) (W : World) (a : Option Addr) (ys : List Nat) (V : Nat) : Prop := Rd B W a (ints ys) ∧ wordsB b30 ys ∧ valB b30 ys = V
theorem LdB.below {B B' : Nat} {W W' : World} {a : Option Addr} {ys : List Nat} {V : Nat} (h : LdB B W a ys V) (hB : B ≤ B') (hb : Below B' W W') : LdB B W' a ys V := ⟨h.1.below hB hb, h.2⟩
/-- The slice at 'a' reads as the numbers f 0 .. f (n - 1), of at most M digits each, in blocks below B. -/
def RdLd (B : Nat) (W : World) (a : Option Addr) (f : Nat → Nat) (n M : Nat) : Prop :=
  ∀ i, i < n → ∃ b o, a = some ⟨b, o, none⟩ ∧ b < B ∧ ∃ a' ys l c, W.cell? ⟨b, o + i, none⟩ = some (.slice a' l c) ∧ ys.length = l ∧ LdB B W a' ys (f i) ∧ l ≤ M
theorem RdLd.below {B B' : Nat} {W W' : World} {a : Option Addr} {f : Nat → Nat} {n M : Nat} (h : RdLd B W a f n M) (hB : B ≤ B') (hb : Below B' W W') : RdLd B W' a f n M := fun i hi => by
  obtain ⟨b, o, h1, h2, a', ys, l, c, h3, h4, h5, h6⟩ := h i hi
  exact ⟨b, o, h1, h2, a', ys, l, c, (hb.cell (p := ⟨b, o + i, none⟩) (by show b < B'; omega)).trans h3, h4, h5.below hB hb, h6⟩
theorem RdLd.later {W W' : World} {a : Option Addr} {f : Nat → Nat} {n M : Nat} (h : RdLd W.heap.size W a f n M) (hb : Below W.heap.size W W') : RdLd W'.heap.size W' a f n M := fun i hi => by
  obtain ⟨b, o, h1, h2, a', ys, l, c, h3, h4, h5, h6⟩ := h.below (Nat.le_refl _) hb i hi
  exact ⟨b, o, h1, Nat.lt_of_lt_of_le h2 hb.size, a', ys, l, c, h3, h4, ⟨h5.1.mono hb.size, h5.2⟩, h6⟩

/-- The values in L are the numbers f 0 .. f (n - 1), none of them in block G. -/
def EntF (W : World) (L : List Value) (f : Nat → Nat) (n : Nat) (M : Nat → Nat) (G : Nat) : Prop :=
  L.length = n ∧ ∀ i, i < n → ∃ a ys l c, L[i]? = some (.slice a l c) ∧ ys.length = l ∧ LdR W a ys (f i) ∧ l ≤ M i ∧ ∀ ad, a = some ad → ad.block ≠ G ∧ ad.block < W.heap.size
theorem EntF.below {W W' : World} {L : List Value} {f : Nat → Nat} {n G : Nat} {M : Nat → Nat} (h : EntF W L f n M G) (hb : Below W.heap.size W W') : EntF W' L f n M G := ⟨h.1, fun i hi => by
  obtain ⟨a, ys, l, c, h1, h2, h3, h4, h5⟩ := h.2 i hi
  exact ⟨a, ys, l, c, h1, h2, h3.later hb, h4, fun ad e => ⟨(h5 ad e).1, Nat.lt_of_lt_of_le (h5 ad e).2 hb.size⟩⟩⟩
theorem LdR.setCell {W : World} {a : Option Addr} {ys : List Nat} {V G i : Nat} (h : LdR W a ys V) (ha : ∀ ad, a = some ad → ad.block ≠ G) (v : Value) : LdR (W.setCell ⟨G, i, none⟩ v) a ys V := by
  refine ⟨?_, h.words, h.val⟩
  rcases h.rd with h1 | ⟨b, o, h1, h2, h3⟩
  · exact .inl h1
  · refine .inr ⟨b, o, h1, by simpa [World.setCell] using h2, fun k hk => ?_⟩
    rw [← h3 k hk]
    exact World.cell?_of_block (Below.heap_setCell _ _ _ _ (by simpa using (ha _ h1)))
theorem EntF.congr {W : World} {L : List Value} {f g : Nat → Nat} {n G : Nat} {M : Nat → Nat} (h : EntF W L f n M G) (hg : ∀ x, x < n → g x = f x) : EntF W L g n M G := ⟨h.1, fun i hi => by rw [hg i hi]; exact h.2 i hi⟩
end Go.Proofs.YtbfigbpjoaccdaaGreat

namespace Go.Proofs.YtbfigbpjoaccdaaGreat
open Go Go.RowKit Go.Shelf
set_option linter.unusedVariables false
set_option linter.unusedSimpArgs false

/-- A list of scores is valid. -/
def scoB (xs : List Int) : Bool := decide (xs.length ≤ 100) && allIn (-1152921504606846976) 1152921504606846976 xs
theorem costL_take {f : Int → Int} {xs : List Int} {k : Nat} (hk : k < xs.length) : costL f (xs.take (k + 1)) = costL f (xs.take k) + f (xs[k]?.getD 0) := by
  rw [List.take_succ_eq_append_getElem hk, costL_snoc, List.getElem?_eq_getElem hk]
  rfl
theorem costB_bd {miss t : Int} {l : List Int} (h0 : 0 ≤ miss) (h1 : miss ≤ 10000) (hl : l.length ≤ 100) : 0 ≤ costL (badC miss t) l ∧ costL (badC miss t) l ≤ 1000000 := by
  have := costL_bd (f := badC miss t) (B := 10000) (l := l) fun s _ => by unfold badC; split <;> omega
  omega
theorem costG_bd {alarm t : Int} {l : List Int} (h0 : 0 ≤ alarm) (h1 : alarm ≤ 10000) (hl : l.length ≤ 100) : 0 ≤ costL (goodC alarm t) l ∧ costL (goodC alarm t) l ≤ 1000000 := by
  have := costL_bd (f := goodC alarm t) (B := 10000) (l := l) fun s _ => by unfold goodC; split <;> omega
  omega

end Go.Proofs.YtbfigbpjoaccdaaGreat

namespace Go.Proofs.YtbfigbpjoaccdaaGreat
open Go Go.RowKit Go.Shelf
set_option linter.unusedVariables false
set_option linter.unusedSimpArgs false

/-- Scores and costs are valid. -/
def thrB (gs bs : List Int) (miss alarm : Int) : Bool := scoB gs && scoB bs && allIn 0 10000 [miss, alarm]
/-- What a threshold answers. -/
structure ThS (gs bs : List Int) (miss alarm t c f : Int) : Prop where
  bad : thrB gs bs miss alarm = false → t = 0 ∧ c = 0 ∧ f = 2
  none : thrB gs bs miss alarm = true → gs ++ bs = [] → t = 0 ∧ c = 0 ∧ f = 0
  some : thrB gs bs miss alarm = true → gs ++ bs ≠ [] → f = 0 ∧ c = costT gs bs miss alarm t ∧ ∃ M, Top M (gs ++ bs) ∧ IsBest (costT gs bs miss alarm) (gs ++ bs ++ [M + 1]) t
theorem ThS.unique {gs bs : List Int} {miss alarm t c f t' c' f' : Int} (h : ThS gs bs miss alarm t c f) (k : ThS gs bs miss alarm t' c' f') : t = t' ∧ c = c' ∧ f = f' := by
  cases hb : thrB gs bs miss alarm with
  | false =>
    obtain ⟨h1, h2, h3⟩ := h.bad hb
    obtain ⟨k1, k2, k3⟩ := k.bad hb
    exact ⟨h1.trans k1.symm, h2.trans k2.symm, h3.trans k3.symm⟩
  | true =>
    by_cases hn : gs ++ bs = []
    · obtain ⟨h1, h2, h3⟩ := h.none hb hn
      obtain ⟨k1, k2, k3⟩ := k.none hb hn
      exact ⟨h1.trans k1.symm, h2.trans k2.symm, h3.trans k3.symm⟩
    · obtain ⟨h1, h2, M, hM, h3⟩ := h.some hb hn
      obtain ⟨k1, k2, N, hN, k3⟩ := k.some hb hn
      have e := hM.unique hN
      subst e
      have e := h3.unique k3 fun _ => Iff.rfl
      subst e
      exact ⟨rfl, h2.trans k2.symm, h1.trans k1.symm⟩
theorem ThS.ofBad {gs bs : List Int} {miss alarm : Int} (h : thrB gs bs miss alarm = false) : ThS gs bs miss alarm 0 0 2 := ⟨fun _ => ⟨rfl, rfl, rfl⟩, fun k => (by rw [h] at k; cases k), fun k => (by rw [h] at k; cases k)⟩
theorem ThS.ofNone {gs bs : List Int} {miss alarm : Int} (h : thrB gs bs miss alarm = true) (hn : gs ++ bs = []) : ThS gs bs miss alarm 0 0 0 := ⟨fun k => (by rw [h] at k; cases k), fun _ _ => ⟨rfl, rfl, rfl⟩, fun _ k => (k hn).elim⟩
theorem ThS.ofSome {gs bs : List Int} {miss alarm t M : Int} (h : thrB gs bs miss alarm = true) (hn : gs ++ bs ≠ []) (hM : Top M (gs ++ bs)) (hb : IsBest (costT gs bs miss alarm) (gs ++ bs ++ [M + 1]) t) : ThS gs bs miss alarm t (costT gs bs miss alarm t) 0 :=
  ⟨fun k => (by rw [h] at k; cases k), fun _ k => (hn k).elim, fun _ _ => ⟨rfl, rfl, M, hM, hb⟩⟩
theorem IsBest.congr {c : Int → Int} {l m : List Int} {t : Int} (h : IsBest c l t) (hlm : ∀ x, x ∈ l ↔ x ∈ m) : IsBest c m t := ⟨(hlm t).1 h.mem, fun s hs => h.best s ((hlm s).2 hs)⟩
def RetTh (gs bs : List Int) (miss alarm : Int) (w : World) (e : Ending) (w' : World) : Prop :=
  ∃ t c f : Int, e = .returned (.tuple #[.int .i64 t, .int .i64 c, .int .i64 f]) ∧ Below w.heap.size w w' ∧ ThS gs bs miss alarm t c f

theorem own_mono {W : World} {base base' : Nat} {e : TypeId} {size : Nat} {v : Value} {n : Nat} {xs : List Value} (h : W.ownsRow base e size v n xs) (hb : base' ≤ base) : W.ownsRow base' e size v n xs := by
  refine ⟨h.1, ?_⟩
  rcases h.2 with h2 | ⟨g, cap, cur, h1, h2, h3⟩
  · exact .inl h2
  · exact .inr ⟨g, cap, cur, h1, Nat.le_trans hb h2, h3⟩
theorem rd_later {W W' : World} {a : Option Addr} {xs : List Int} (h : Rd W.heap.size W a xs) (hb : Below W.heap.size W W') : Rd W'.heap.size W' a xs := (h.below (Nat.le_refl _) hb).mono hb.size
/-- The best of the first k, and what it costs. -/
def BestAt (c : Int → Int) (ts : List Int) (k : Nat) (t l : Int) : Prop := (k = 0 ∧ t = 0 ∧ l = -1) ∨ (1 ≤ k ∧ IsBest c (ts.take k) t ∧ l = c t)
theorem take_next {ts : List Int} {k : Nat} (hk : k < ts.length) (hs : ts.Pairwise (· ≤ ·)) : ∀ s ∈ ts.take k, s ≤ ts[k]?.getD 0 := fun s hs' => by
  obtain ⟨i, hi, rfl⟩ := List.getElem_of_mem hs'
  simp only [List.length_take] at hi
  rw [List.getElem_take, List.getElem?_eq_getElem hk]
  exact List.pairwise_iff_getElem.1 hs i k (by omega) hk (by omega)

theorem BestAt.next {c : Int → Int} {ts : List Int} {k : Nat} {t l x : Int} (h : BestAt c ts k t l) (hk : k < ts.length) (hs : ts.Pairwise (· ≤ ·)) (hc : ∀ t, 0 ≤ c t) (hx : ts[k]?.getD 0 = x) :
    (l < 0 ∨ c x < l → BestAt c ts (k + 1) x (c x)) ∧ (¬ (l < 0 ∨ c x < l) → BestAt c ts (k + 1) t l) := by
  have e : ts.take (k + 1) = ts.take k ++ [x] := by rw [List.take_succ_eq_append_getElem hk, ← hx, List.getElem?_eq_getElem hk]; rfl
  rcases h with ⟨rfl, rfl, rfl⟩ | ⟨h1, h2, rfl⟩
  · refine ⟨fun _ => .inr ⟨by omega, ?_, rfl⟩, fun h => (h (.inl (by omega))).elim⟩
    rw [e]
    simpa using IsBest.one c x
  · have hn := take_next hk hs
    rw [hx] at hn
    have h3 := h2.next hn
    rw [← e] at h3
    have h4 := hc t
    refine ⟨fun hh => .inr ⟨by omega, ?_, rfl⟩, fun hh => .inr ⟨by omega, ?_, rfl⟩⟩
    · rw [if_pos (by omega)] at h3; exact h3
    · rw [if_neg (by omega)] at h3; exact h3

set_option maxRecDepth 100000 in
set_option maxHeartbeats 8000000 in
theorem Threshold_any (ga ba : Option Addr) (gc bc gn bn : Nat) (gs bs : List Int) (hgn : gs.length = gn) (hbn : bs.length = bn) (hgl : gn ≤ 9223372036854775807) (hbl : bn ≤ 9223372036854775807) (miss alarm : Int)
    (w : World) (hrg : Rd w.heap.size w ga gs) (hrb : Rd w.heap.size w ba bs) :
    Calls Tryz.prog 25 #[.slice ga gn gc, .slice ba bn bc, .int .i64 miss, .int .i64 alarm] w (RetTh gs bs miss alarm w) := by
  obtain ⟨i0, hi, hz0, hz1, hz2⟩ := info_parts jinfo_int
  have tok1 : True := trivial
  have tok2 : True := trivial
  have tok3 : True := trivial
  have hwg := jwithin_any (-1152921504606846976) 1152921504606846976 ga gc gs w (by rw [hgn]; exact hgl) hrg
  have hwb := jwithin_any (-1152921504606846976) 1152921504606846976 ba bc bs w (by rw [hbn]; exact hbl) hrb
  rw [hgn] at hwg
  rw [hbn] at hwb
  obtain ⟨vg, hvg⟩ : ∃ v, allIn (-1152921504606846976) 1152921504606846976 gs = v := ⟨_, rfl⟩
  obtain ⟨vb, hvb⟩ : ∃ v, allIn (-1152921504606846976) 1152921504606846976 bs = v := ⟨_, rfl⟩
  obtain ⟨vm, hvm⟩ : ∃ v, allIn 0 10000 [miss, alarm] = v := ⟨_, rfl⟩
  have kb := Blk.new w 3 #[.int .i64 miss, .int .i64 alarm]
  have hwm := jwithin_any 0 10000 (some ⟨w.heap.size, 0, none⟩) 2 [miss, alarm] (w.alloc (.cells #[.int .i64 miss, .int .i64 alarm] 3)) (by simp) (.inr ⟨w.heap.size, 0, rfl, by simp, fun i hi => by
    have : i = 0 ∨ i = 1 := by simp at hi; omega
    rcases this with rfl | rfl
    · exact kb.cell rfl
    · exact kb.cell rfl⟩)
  rw [hvg] at hwg
  rw [hvb] at hwb
  rw [hvm] at hwm
  have hwgH := Lib.hid hwg
  have hwbH := Lib.hid hwb
  have hwmH := Lib.hid (show Calls Tryz.prog 48 #[.int .i64 0, .int .i64 10000, .slice (some ⟨w.heap.size, 0, none⟩) 2 2] (w.alloc (.cells #[.int .i64 miss, .int .i64 alarm] 3)) fun e w' => e = .returned (.bool vm) ∧ w.alloc (.cells #[.int .i64 miss, .int .i64 alarm] 3) = w' from hwm)
  have hT : thrB gs bs miss alarm = ((decide (gn ≤ 100) && vg) && (decide (bn ≤ 100) && vb) && vm) := by unfold thrB scoB; rw [hgn, hbn, hvg, hvb, hvm]
  have hBm : Below w.heap.size w (w.alloc (.cells #[.int .i64 miss, .int .i64 alarm] 3)) := jb_al (Below.refl _ w) _
  have hTH := Lib.hid hT
  have badH := Lib.hid (fun (W : World) (hb : Below w.heap.size w W) (h : thrB gs bs miss alarm = false) => (⟨0, 0, 2, rfl, hb, ThS.ofBad h⟩ : RetTh gs bs miss alarm w (.returned (.tuple #[.int .i64 0, .int .i64 0, .int .i64 2])) W))
  have hvgH := Lib.hid hvg
  have hvbH := Lib.hid hvb
  have hvmH := Lib.hid hvm
  have hrgH := Lib.hid hrg
  have hrbH := Lib.hid hrb
  have hgnH := Lib.hid hgn
  have hbnH := Lib.hid hbn
  clear hwg hwb hwm hT hvg hvb hvm kb hrg hrb hgn hbn
  by_cases h1 : gn ≤ 100
  case neg =>
    clear hwgH hwbH hwmH
    go_enter Tryz.func25, Tryz.ntmps25
    go_wp2_with (refine ⟨trivial, ?_⟩)
    go_ret3
    exact badH.out _ (Below.refl _ w) (by rw [hTH.out]; simp [h1])
  by_cases h2 : bn ≤ 100
  case neg =>
    clear hwgH hwbH hwmH
    go_enter Tryz.func25, Tryz.ntmps25
    go_wp2_with (refine ⟨trivial, ?_⟩)
    go_ret3
    exact badH.out _ (Below.refl _ w) (by rw [hTH.out]; simp [h2])
  cases vg with
  | false =>
    clear hwbH hwmH
    go_enter Tryz.func25, Tryz.ntmps25
    go_wp2_with (first | (go_at_call 48; have _t := tok1; refine hwgH.out.mono ?_; clear _t tok1; rintro e w1 ⟨rfl, rfl⟩) | (refine ⟨trivial, ?_⟩))
    go_ret3
    exact badH.out _ (Below.refl _ w) (by rw [hTH.out]; simp)
  | true =>
  cases vb with
  | false =>
    clear hwmH
    go_enter Tryz.func25, Tryz.ntmps25
    go_wp2_with (first | (go_at_call 48; have _t := tok1; refine hwgH.out.mono ?_; clear _t tok1; rintro e w1 ⟨rfl, rfl⟩) | (go_at_call 48; have _t := tok2; refine hwbH.out.mono ?_; clear _t tok2; rintro e w1 ⟨rfl, rfl⟩) | (refine ⟨trivial, ?_⟩))
    go_ret3
    exact badH.out _ (Below.refl _ w) (by rw [hTH.out]; simp)
  | true =>
  cases vm with
  | false =>
    go_enter Tryz.func25, Tryz.ntmps25
    go_wp2_with (first | (go_at_call 48; have _t := tok1; refine hwgH.out.mono ?_; clear _t tok1; rintro e w1 ⟨rfl, rfl⟩) | (go_at_call 48; have _t := tok2; refine hwbH.out.mono ?_; clear _t tok2; rintro e w1 ⟨rfl, rfl⟩) | (go_at_call 48; have _t := tok3; refine hwmH.out.mono ?_; clear _t tok3; rintro e w1 ⟨rfl, rfl⟩) | (refine ⟨trivial, ?_⟩))
    go_ret3
    exact badH.out _ hBm (by rw [hTH.out]; simp)
  | true =>
  have hval : thrB gs bs miss alarm = true := by rw [hTH.out]; simp [h1, h2]
  have hm1 := allIn_mem hvmH.out (x := miss) (by simp)
  have ha1 := allIn_mem hvmH.out (x := alarm) (by simp)
  obtain ⟨zs, hzs⟩ : ∃ zs, gs ++ bs = zs := ⟨_, rfl⟩
  obtain ⟨m, hm⟩ : ∃ m, gn + bn = m := ⟨_, rfl⟩
  have hzl : zs.length = m := by rw [← hzs, ← hm, List.length_append, hgnH.out, hbnH.out]
  have hzb : ∀ x ∈ zs, -1152921504606846976 ≤ x ∧ x ≤ 1152921504606846976 := fun x hx => by
    rw [← hzs] at hx
    rcases List.mem_append.1 hx with h | h
    · exact allIn_mem hvgH.out h
    · exact allIn_mem hvbH.out h
  obtain ⟨o1, ho1⟩ : ∃ o, (.cells #[.int .i64 miss, .int .i64 alarm] 3 : Obj) = o := ⟨_, rfl⟩
  obtain ⟨o2, ho2⟩ : ∃ o, (.cells #[.slice ga gn gc, .slice ba bn bc] 25 : Obj) = o := ⟨_, rfl⟩
  have hBk : Below w.heap.size w ((w.alloc o1).alloc o2) := jb_al (jb_al (Below.refl _ w) _) _
  have hcon : Calls Tryz.prog 62 #[.slice (some ⟨w.heap.size + 1, 0, none⟩) 2 2] ((w.alloc o1).alloc o2) fun e w' => ∃ v, e = .returned v ∧ w'.ownsRow w.heap.size 3 1 v m (zs.map (Value.int .i64)) ∧ Below w.heap.size w w' := by
    have hk : Blk ((w.alloc o1).alloc o2) (w.heap.size + 1) 25 #[.slice ga gn gc, .slice ba bn bc] := by
      rw [← ho2]
      have := Blk.new (w.alloc o1) 25 #[.slice ga gn gc, .slice ba bn bc]
      simpa only [World.size_alloc] using this
    refine (Concat_any ga ba gn gc bn bc (w.heap.size + 1) 2 gs bs hgnH.out hbnH.out (by omega) (by omega) _ hk (rd_later hrgH.out hBk) (rd_later hrbH.out hBk)).mono fun e w' ⟨v, h1, h2, h3⟩ => ⟨v, h1, ?_, hBk.trans (h3.mono hBk.size)⟩
    rw [hzs, hm] at h2
    exact own_mono h2 hBk.size
  rw [← ho1, ← ho2] at hcon
  have hconH := Lib.hid hcon
  have hzbH := Lib.hid hzb
  have hzlH := Lib.hid hzl
  have hzsH := Lib.hid hzs
  have hvalH := Lib.hid hval
  clear hcon hzb hzl hzs hval hBk ho1 ho2 o1 o2 badH hTH hvgH hvbH hvmH hBm
  by_cases h0 : m = 0
  · have hz0' : zs = [] := List.eq_nil_of_length_eq_zero (by rw [hzlH.out]; exact h0)
    have ezH := Lib.hid (hzsH.out.trans hz0')
    subst h0
    clear hz0' hm
    go_enter Tryz.func25, Tryz.ntmps25
    go_wp2_with (first | (go_at_call 48; have _t := tok1; refine hwgH.out.mono ?_; clear _t tok1; rintro e w1 ⟨rfl, rfl⟩) | (go_at_call 48; have _t := tok2; refine hwbH.out.mono ?_; clear _t tok2; rintro e w1 ⟨rfl, rfl⟩) | (go_at_call 48; have _t := tok3; refine hwmH.out.mono ?_; clear _t tok3; rintro e w1 ⟨rfl, rfl⟩) | (go_at_call 62; refine hconH.out.mono ?_; rintro e w1 ⟨v1, rfl, own1, hB1⟩; obtain ⟨a1, c1, rfl⟩ := jrow_slice own1) | (refine ⟨trivial, ?_⟩))
    go_ret3
    exact ⟨0, 0, 0, rfl, hB1, ThS.ofNone hvalH.out ezH.out⟩
  have hne : zs ≠ [] := fun h => by have := hzlH.out; rw [h] at this; simp at this; omega
  have hneH := Lib.hid hne
  have hms : m ≤ 200 := by omega
  clear hne
  go_enter Tryz.func25, Tryz.ntmps25
  go_wp2_with (first | (go_at_call 48; have _t := tok1; refine hwgH.out.mono ?_; clear _t tok1; rintro e w1 ⟨rfl, rfl⟩) | (go_at_call 48; have _t := tok2; refine hwbH.out.mono ?_; clear _t tok2; rintro e w1 ⟨rfl, rfl⟩) | (go_at_call 48; have _t := tok3; refine hwmH.out.mono ?_; clear _t tok3; rintro e w1 ⟨rfl, rfl⟩) | (go_at_call 62; refine hconH.out.mono ?_; rintro e w1 ⟨v1, rfl, own1, hB1⟩; obtain ⟨a1, c1, rfl⟩ := jrow_slice own1) | (go_at_call 63; refine (Max_any a1 c1 m zs hzlH.out (by omega) (by omega) w1 (rowI_rd hzlH.out own1)).mono ?_; rintro e w2 ⟨M, rfl, hM, rfl⟩; have hMb := hzbH.out M hM.mem) | (at_builtin; refine wpList_append_own _ rfl (.tmp 53) (.tmp 57) 25 rfl w.heap.size 3 i0 (.int .i64 0) 1 8 Tryz.underlying25 hi hz0 hz1 hz2 rfl (by decide) (.slice a1 m c1) m (zs.map (Value.int .i64)) rfl (own1.alloc _) ⟨w1.heap.size, 0, none⟩ 1 1 [.int .i64 (M + 1)] rfl rfl (cell_one_new _ _ _) (by simp [Value.oneCell']) (by unfold maxLen; omega) (by omega) (jb_al hB1 _).size ?_; intro v4 W4 own4 hg4 _; have hB4 := (jb_al hB1 (.cells #[.int .i64 (M + 1)] 3)).grown hg4 (jb_al hB1 _).size (fun k e => ((own1.alloc (.cells #[.int .i64 (M + 1)] 3)).lt k e).1); have own5 : W4.ownsRow w.heap.size 3 1 v4 (m + 1) ((zs ++ [M + 1]).map (Value.int .i64)) := (by simpa using own4); clear hg4 own4 own1) | (go_at_call 64; refine (Sort_any w.heap.size v4 (m + 1) (zs ++ [M + 1]) (by omega) (by omega) W4 own5).mono ?_; rintro e w6 ⟨rfl, ts, hp, hs, own6, hg6⟩; have hB6 := hB4.grown hg6 hB4.size (fun k e => (own5.lt k e).1); obtain ⟨a6, c6, rfl⟩ := jrow_slice own5; clear hg6 own5 hB4) | (refine ⟨trivial, ?_⟩))
  have hlen6 : ts.length = m + 1 := by rw [hp.length_eq, List.length_append, hzlH.out]; rfl
  have rd6 := rowI_rd hlen6 own6
  have hrg6 := rd_later hrgH.out hB6
  have hrb6 := rd_later hrbH.out hB6
  have hlen6H := Lib.hid hlen6
  have hpH := Lib.hid hp
  have hsH := Lib.hid hs
  have hcT := Lib.hid (fun t => costT_bd (good := gs) (bad := bs) (miss := miss) (alarm := alarm) (t := t) hm1.1 hm1.2 ha1.1 ha1.2 (by rw [hgnH.out]; exact h1) (by rw [hbnH.out]; exact h2))
  have hggH := Lib.hid (fun t k => costG_bd (t := t) ha1.1 ha1.2 (l := gs.take k) (by simp; have := hgnH.out; omega))
  have hbbH := Lib.hid (fun t k => costB_bd (t := t) hm1.1 hm1.2 (l := bs.take k) (by simp; have := hbnH.out; omega))
  clear hlen6 hp hs own6 hwgH hwbH hwmH hconH hB1
  go_loop [12, 13, 63] (fun b l i => ∃ (k : Nat) (T L : Int), i = .int .i64 (k : Int) ∧ b = .int .i64 T ∧ l = .int .i64 L ∧ k ≤ m + 1 ∧ Hid (BestAt (costT gs bs miss alarm) ts k T L) ∧ -1 ≤ L ∧ L ≤ 2000000) (fun _ _ i => m + 1 - (intOf i).toNat)
  case atStart => exact ⟨0, 0, -1, rfl, rfl, rfl, by omega, Lib.hid (.inl ⟨rfl, rfl, rfl⟩), by omega, by omega⟩
  case round =>
    obtain ⟨k, T, L, rfl, rfl, rfl, hk, hbest, hL0, hL1⟩ := hrel
    by_cases hlt : k < m + 1
    case neg =>
      have hkm : k = m + 1 := by omega
      have hfin : RetTh gs bs miss alarm w (.returned (.tuple #[.int .i64 T, .int .i64 L, .int .i64 0])) w6 := by
        have hb := hbest.out
        rw [hkm] at hb
        rcases hb with ⟨hb, _⟩ | ⟨_, hb, hl⟩
        · omega
        · rw [← hlen6H.out, List.take_length] at hb
          refine ⟨T, L, 0, rfl, hB6, ?_⟩
          rw [hl]
          refine ThS.ofSome hvalH.out (by rw [hzsH.out]; exact hneH.out) (M := M) (by rw [hzsH.out]; exact hM) ?_
          rw [hzsH.out]
          exact hb.congr fun x => hpH.out.mem_iff
      have hfinH := Lib.hid hfin
      clear hfin hbest
      go_wp2
      go_ret3
      exact hfinH.out
    case pos =>
      have hkl : k < ts.length := by have := hlen6H.out; omega
      rcases rd6 with h0' | ⟨b6, o6, rfl, hb6, hc6⟩
      · rw [h0'] at hkl; simp at hkl
      have hcell := hc6 k hkl
      obtain ⟨x, hx⟩ : ∃ x, ts[k]?.getD 0 = x := ⟨_, rfl⟩
      rw [hx] at hcell
      have hnx := hbest.out.next hkl hsH.out (fun t => (hcT.out t).1) hx
      have hnxH := Lib.hid hnx
      have hrg6H := Lib.hid hrg6
      have hrb6H := Lib.hid hrb6
      clear hnx hx hbest hc6 hrg6 hrb6
      go_wp2
      go_loop [16, 69] (fun s i => ∃ (j : Nat) (y : Int), j ≤ gn ∧ i = .int .i64 (j : Int) ∧ s = .int .i64 y ∧ Hid (costL (goodC alarm x) (gs.take j) = y) ∧ 0 ≤ y ∧ y ≤ 1000000) (fun _ i => gn - (intOf i).toNat)
      case atStart => exact ⟨0, 0, Nat.zero_le _, rfl, rfl, Lib.hid rfl, by omega, by omega⟩
      case round =>
        clear hcell
        obtain ⟨j, y, hj, rfl, rfl, hy, hy0, hy1⟩ := hrel
        by_cases hlt2 : j < gn
        · have hlx : j < gs.length := by have := hgnH.out; omega
          rcases hrg6H.out with h0 | ⟨b, o, rfl, hb, hc⟩
          · subst h0; simp at hlx
          have hcell := hc j hlx
          obtain ⟨s, hs⟩ : ∃ s, gs[j]?.getD 0 = s := ⟨_, rfl⟩
          rw [hs] at hcell
          have hst := costL_take (f := goodC alarm x) hlx
          rw [hs, hy.out] at hst
          have hbd := hggH.out x (j + 1)
          rw [hst] at hbd
          have hstH := Lib.hid hst
          clear hst hs hc
          by_cases hxt : s < x
          · have hb2 : goodC alarm x s = alarm := by unfold goodC; rw [if_pos hxt]
            rw [hb2] at hbd hstH
            go_wp2
            go_round
            case rel => exact ⟨j + 1, y + alarm, by omega, by go_num, by go_num, hstH, by omega, by omega⟩
            case measure => simp [intOf]; omega
          · have hb2 : goodC alarm x s = 0 := by unfold goodC; rw [if_neg hxt]
            rw [hb2, Int.add_zero] at hbd hstH
            go_wp2
            go_round
            case rel => exact ⟨j + 1, y, by omega, by go_num, rfl, hstH, by omega, by omega⟩
            case measure => simp [intOf]; omega
        · have hjn : j = gn := by omega
          have hyG : costL (goodC alarm x) gs = y := by have := hy.out; rw [hjn, ← hgnH.out, List.take_length] at this; exact this
          have hyGH := Lib.hid hyG
          subst hjn
          clear hyG hy
          go_wp2
          go_loop [16, 82] (fun s i => ∃ (j : Nat) (z : Int), j ≤ bn ∧ i = .int .i64 (j : Int) ∧ s = .int .i64 (y + z) ∧ Hid (costL (badC miss x) (bs.take j) = z) ∧ 0 ≤ z ∧ z ≤ 1000000) (fun _ i => bn - (intOf i).toNat)
          case atStart => exact ⟨0, 0, Nat.zero_le _, rfl, by simp, Lib.hid rfl, by omega, by omega⟩
          case round =>
            obtain ⟨q, z, hq, rfl, rfl, hz, hz0, hz1⟩ := hrel
            by_cases hlt3 : q < bn
            · have hlx : q < bs.length := by have := hbnH.out; omega
              rcases hrb6H.out with h0 | ⟨b, o, rfl, hb, hc⟩
              · subst h0; simp at hlx
              have hcell := hc q hlx
              obtain ⟨s, hs⟩ : ∃ s, bs[q]?.getD 0 = s := ⟨_, rfl⟩
              rw [hs] at hcell
              have hst := costL_take (f := badC miss x) hlx
              rw [hs, hz.out] at hst
              have hbd := hbbH.out x (q + 1)
              rw [hst] at hbd
              have hstH := Lib.hid hst
              clear hst hs hc
              by_cases hxt : x ≤ s
              · have hb2 : badC miss x s = miss := by unfold badC; rw [if_pos hxt]
                rw [hb2] at hbd hstH
                go_wp2
                go_round
                case rel => exact ⟨q + 1, z + miss, by omega, by go_num, by go_num, hstH, by omega, by omega⟩
                case measure => simp [intOf]; omega
              · have hb2 : badC miss x s = 0 := by unfold badC; rw [if_neg hxt]
                rw [hb2, Int.add_zero] at hbd hstH
                go_wp2
                go_round
                case rel => exact ⟨q + 1, z, by omega, by go_num, rfl, hstH, by omega, by omega⟩
                case measure => simp [intOf]; omega
            · have hqn : q = bn := by omega
              have hzB : costL (badC miss x) bs = z := by have := hz.out; rw [hqn, ← hbnH.out, List.take_length] at this; exact this
              have hres : costT gs bs miss alarm x = y + z := by unfold costT; rw [hyGH.out, hzB]
              have hnx := hnxH.out
              rw [hres] at hnx
              subst hqn
              by_cases hlow : L < 0 ∨ y + z < L
              · have hnew := Lib.hid (hnx.1 hlow)
                clear hnx hres hzB hz hnxH hyGH
                by_cases hl0 : L < 0
                · clear hlow
                  go_wp2
                  go_round
                  case rel => exact ⟨k + 1, x, y + z, by go_num, rfl, rfl, by omega, hnew, by omega, by omega⟩
                  case measure => simp [intOf]; omega
                · have hl1 : y + z < L := by omega
                  clear hlow
                  go_wp2
                  go_round
                  case rel => exact ⟨k + 1, x, y + z, by go_num, rfl, rfl, by omega, hnew, by omega, by omega⟩
                  case measure => simp [intOf]; omega
              · have hnew := Lib.hid (hnx.2 hlow)
                have hl0 : ¬ L < 0 := by omega
                have hl1 : ¬ y + z < L := by omega
                clear hnx hres hzB hz hnxH hyGH hlow
                go_wp2
                go_round
                case rel => exact ⟨k + 1, T, L, by go_num, rfl, rfl, by omega, hnew, by omega, by omega⟩
                case measure => simp [intOf]; omega

end Go.Proofs.YtbfigbpjoaccdaaGreat

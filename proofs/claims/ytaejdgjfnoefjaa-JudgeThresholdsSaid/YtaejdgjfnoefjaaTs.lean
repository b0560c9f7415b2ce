/- slices.Max, Sort, Grow and Concat at integers: off the shelf, and one walk. -/
import Derived.Test.YtaejdgjfnoefjaaAp
import Derived.Test.YtaejdgjfnoefjaaSh
import Derived.Shelf.Sort.Plain
import Derived.Sort.OwnSortedInts
import Derived.Shelf.Slices.Turned
import Derived.Shelf.Spec.SlicesGrow
namespace Go.Proofs.Ytaejdgjfnoefjaa
open Go Go.RowKit Go.Shelf
set_option linter.unusedVariables false
set_option linter.unusedSimpArgs false

/-- The greatest of a list. -/
structure Top (M : Int) (l : List Int) : Prop where
  mem : M ∈ l
  le : ∀ x ∈ l, x ≤ M
theorem Top.unique {M N : Int} {l : List Int} (h : Top M l) (k : Top N l) : M = N := by
  have h1 := h.le N k.mem
  have h2 := k.le M h.mem
  omega
theorem foldl_max_top : ∀ (l : List Int) (a : Int), (l.foldl max a = a ∨ l.foldl max a ∈ l) ∧ a ≤ l.foldl max a ∧ ∀ x ∈ l, x ≤ l.foldl max a
  | [], a => ⟨.inl rfl, Int.le_refl _, fun x hx => by cases hx⟩
  | b :: l, a => by
    obtain ⟨h1, h2, h3⟩ := foldl_max_top l (max a b)
    simp only [List.foldl_cons]
    refine ⟨?_, by omega, fun x hx => ?_⟩
    · rcases h1 with h1 | h1
      · by_cases hab : a ≤ b
        · exact .inr (by rw [h1, Int.max_eq_right hab]; exact List.mem_cons_self)
        · exact .inl (by rw [h1, Int.max_eq_left (by omega)])
      · exact .inr (List.mem_cons_of_mem _ h1)
    · rcases List.mem_cons.1 hx with rfl | hx
      · omega
      · exact h3 x hx
theorem maxOf_top {l : List Int} (h : 0 < l.length) : Top (Lib.maxOf l) l := by
  cases l with
  | nil => simp at h
  | cons a l =>
    obtain ⟨h1, h2, h3⟩ := foldl_max_top (a :: l) a
    refine ⟨?_, h3⟩
    unfold Lib.maxOf
    simp only [List.headD_cons]
    rcases h1 with h1 | h1
    · rw [h1]; exact List.mem_cons_self
    · exact h1

theorem Max_any (a : Option Addr) (c n : Nat) (xs : List Int) (hn : xs.length = n) (h0 : 0 < n) (hbig : n ≤ 9223372036854775807) (w : World) (hr : Rd w.heap.size w a xs) :
    Calls Try.prog 76 #[.slice a n c] w fun e w' => ∃ M, e = .returned (.int .i64 M) ∧ Top M xs ∧ w = w' := by
  subst hn
  rcases hr with h | ⟨b, o, rfl, hb, hc⟩
  · subst h; simp at h0
  have h1 := Any.slices_Max_int shMax b o xs.length c xs w h0 (Nat.le_refl _) hbig (fun j hj => by rw [hc j hj]; simp [List.getD])
  refine h1.mono fun e w' ⟨he, hw⟩ => ⟨_, he, ?_, hw.symm⟩
  rw [List.take_length]
  exact maxOf_top h0

theorem Sort_any (base : Nat) (v : Value) (n : Nat) (zs : List Int) (h0 : 0 < n) (hbig : n < 4611686018427387904) (w : World) (hown : w.ownsRow base 3 1 v n (zs.map (Value.int .i64))) :
    Calls Try.prog 77 #[v] w fun e w' => e = .returned (.tuple #[]) ∧ ∃ ts : List Int, ts.Perm zs ∧ ts.Pairwise (· ≤ ·) ∧ w'.ownsRow base 3 1 v n (ts.map (Value.int .i64)) ∧ w.grownBy w' v.ownBlock := by
  obtain ⟨hl, h⟩ := hown
  have hl' : zs.length = n := by simpa using hl
  rcases h with ⟨rfl, h2⟩ | ⟨g, cap, cur, rfl, hbase, hb, h1, h2, h3, h4⟩
  · omega
  subst hl'
  have hg : g < w.heap.size := (Array.getElem?_eq_some_iff.1 hb).1
  have hc := Any.slices_Sort_int shSort g 0 cap zs w (holds_of_blockI hb (by simpa using h4)) hg hbig
  refine hc.mono fun e w' ⟨he, n, os, hw⟩ => ⟨he, _, List.mergeSort_perm zs (fun x y => decide (x ≤ y)), ?_, ?_, ?_⟩
  · have hp := List.pairwise_mergeSort (le := fun x y : Int => decide (x ≤ y)) (fun a b c h1 h2 => by simp only [decide_eq_true_eq] at h1 h2 ⊢; omega) (fun a b => by simp only [Bool.or_eq_true, decide_eq_true_eq]; omega) zs
    exact hp.imp fun h => by simpa using h
  · subst hw
    exact ownsRow_sortedI (by simp) hbase hb h1 h2 h3
  · subst hw
    exact grownBy_sortedI _

theorem owns_zero {w : World} {base : Nat} {e : TypeId} (cur : Array Value) (cap : Nat) (hb : base ≤ w.heap.size) (hm : cap ≤ maxLen) (hs : cur.size = cap) :
    (w.alloc (.cells cur e)).ownsRow base e 1 (.slice (some ⟨w.heap.size, 0, none⟩) 0 cap) 0 [] :=
  ⟨rfl, .inr ⟨w.heap.size, cap, cur, rfl, hb, (by show (w.heap.push _)[w.heap.size]? = _; exact Array.getElem?_push_size), Nat.zero_le _, hm, by omega, by simp⟩⟩

theorem Grow_any (n : Nat) (hbig : n * 8 ≤ 140737488355328) (w : World) :
    Calls Try.prog 112 #[.slice none 0 0, .int .i64 n] w fun e w' => ∃ v, e = .returned v ∧ w'.ownsRow w.heap.size 3 1 v 0 [] ∧ Below w.heap.size w w' := by
  obtain ⟨i0, hi, hz0, hz1, hz2⟩ := info_parts jinfo_int
  by_cases h0 : n = 0
  · subst h0
    refine (Any8.slices_Grow_room shGrow none 0 0 0 w (by decide) (by decide) (by decide) (by decide)).mono fun e w' ⟨he, hw⟩ => ?_
    subst hw
    exact ⟨_, he, World.ownsRow_nil _ _ _ _, Below.refl _ _⟩
  · have hc := Any8.slices_Grow_grow shGrow i0 (.int .i64 0) hi hz0 (by rw [hz1]; decide) none 0 0 n [] w (by decide) (by omega) (by rw [hz2]; omega) (by omega) (by simp) (fun _ => rfl) (fun a ha => by cases ha)
    refine hc.mono fun e w' ⟨he, hw⟩ => ⟨_, he, ?_, ?_⟩
    · subst hw
      refine owns_zero _ _ ?_ (grownCap_le_maxLen _ _ _ _ (by unfold maxLen; omega)) ?_
      · exact Nat.le_refl _
      · have hge := grownCap_ge w n 0 (shGrow_ren.t 25)
        simp only [List.size_toArray, List.length_nil, Array.size_append, size_zeroCells, Value.cells]
        simp
        omega
    · subst hw
      exact jb_al ((Below.refl _ w).drew) _

set_option maxRecDepth 100000 in
set_option maxHeartbeats 2000000 in
/-- Two rows one after the other, in a row of the call's own. -/
theorem Concat_any (a1 a2 : Option Addr) (n1 c1 n2 c2 b c : Nat) (xs ys : List Int) (hn1 : xs.length = n1) (hn2 : ys.length = n2) (hs1 : n1 ≤ 1000) (hs2 : n2 ≤ 1000) (w : World)
    (hk : Blk w b 24 #[.slice a1 n1 c1, .slice a2 n2 c2]) (hr1 : Rd w.heap.size w a1 xs) (hr2 : Rd w.heap.size w a2 ys) :
    Calls Try.prog 75 #[.slice (some ⟨b, 0, none⟩) 2 c] w fun e w' => ∃ v, e = .returned v ∧ w'.ownsRow w.heap.size 3 1 v (n1 + n2) ((xs ++ ys).map (Value.int .i64)) ∧ Below w.heap.size w w' := by
  obtain ⟨i0, hi, hz0, hz1, hz2⟩ := info_parts jinfo_int
  have k0 := hk.cell (i := 0) rfl
  have k1 := hk.cell (i := 1) rfl
  go_enter Try.func75, Try.ntmps75
  go_wp2
  go_loop [3, 11] (fun s i => (i = .int .i64 0 ∧ s = .int .i64 0) ∨ (i = .int .i64 1 ∧ s = .int .i64 (n1 : Int)) ∨ (i = .int .i64 2 ∧ s = .int .i64 ((n1 + n2 : Nat) : Int))) (fun _ i => 2 - (intOf i).toNat)
  case atStart => exact .inl ⟨rfl, rfl⟩
  case round =>
    rcases hrel with ⟨rfl, rfl⟩ | ⟨rfl, rfl⟩ | ⟨rfl, rfl⟩
    · go_wp2
      go_round
      case rel => exact .inr (.inl ⟨rfl, by go_num⟩)
      case measure => simp [intOf]
    · have hneg : ¬ ((n1 : Int) + (n2 : Int) < 0) := by omega
      go_wp2
      go_round
      case rel => exact .inr (.inr ⟨rfl, by go_num⟩)
      case measure => simp [intOf]
    · have hg := Grow_any (n1 + n2) (by omega) w
      obtain ⟨nn, hnn⟩ : ∃ nn, n1 + n2 = nn := ⟨_, rfl⟩
      rw [hnn] at hg
      rw [hnn]
      have hnnH := Lib.hid hnn
      clear hnn
      go_wp2_with (go_at_call 112; refine hg.mono ?_; rintro e w1 ⟨v1, rfl, own1, hB1⟩)
      go_loopw [6, 27] (fun v i wr => ∃ (k : Nat) (zs : List Int), i = .int .i64 (k : Int) ∧ k ≤ 2 ∧ Hid (zs = if k = 0 then [] else if k = 1 then xs else xs ++ ys) ∧ wr.ownsRow w.heap.size 3 1 v zs.length (zs.map (Value.int .i64)) ∧ Below w.heap.size w wr) (fun _ i _ => 2 - (intOf i).toNat)
      case atStart => exact ⟨0, [], rfl, by omega, Lib.hid rfl, by simpa using own1, hB1⟩
      case round =>
        clear own1 hB1 hg
        obtain ⟨k, zs, rfl, hk2, hzs, own, hB⟩ := hrel
        by_cases hkk : k = 2
        · subst hkk
          have e := hzs.out
          simp at e
          have hl : zs.length = nn := by rw [e, ← hnnH.out, ← hn1, ← hn2]; simp
          rw [hl] at own
          rw [e] at own
          have ownH := Lib.hid own
          clear own
          go_wp2_with fail
          go_ret
          exact ⟨u6, rfl, by rw [hnnH.out]; exact ownH.out, hB⟩
        · obtain ⟨a, m, cc, us, hk3, hm, hus, hz2, hms⟩ : ∃ a m cc us, w.cell? ⟨b, k, none⟩ = some (.slice a m cc) ∧ us.length = m ∧ Rd w.heap.size w a us ∧ (zs ++ us = if k + 1 = 1 then xs else xs ++ ys) ∧ m ≤ 1000 := by
            have e := hzs.out
            rcases (show k = 0 ∨ k = 1 by omega) with rfl | rfl
            · exact ⟨a1, n1, c1, xs, k0, hn1, hr1, by rw [e]; simp, hs1⟩
            · exact ⟨a2, n2, c2, ys, k1, hn2, hr2, by rw [e]; simp, hs2⟩
          have hzl : zs.length ≤ 2000 := by
            have e := hzs.out
            rw [e]
            split
            · simp
            · split
              · omega
              · simp; omega
          have d := (hB.cell (p := ⟨b, k, none⟩) hk.lt).trans hk3
          have hnews := (hus.below (Nat.le_refl _) hB).news hm
          have hk4 : k < 2 := by omega
          have hz2H := Lib.hid hz2
          have ownH := Lib.hid own
          have honeH := Lib.hid (vint_one us)
          have hmH := Lib.hid hm
          have hnewsH := Lib.hid hnews
          have hzsH := Lib.hid (show zs.length + m = (zs ++ us).length by simp [hm])
          clear own hz2 hus hk3 hm hnews hkk
          go_wp2_with (at_builtin; refine wpList_append_any rfl (.tmp 31) (.tmp 32) 24 rfl w.heap.size 3 i0 (.int .i64 0) 8 Try.underlying24 hi hz0 hz1 hz2 rfl u6 zs.length (zs.map (Value.int .i64)) rfl ownH.out a m cc (us.map (Value.int .i64)) rfl (by rw [List.length_map]; exact hmH.out) hnewsH.out honeH.out (by unfold maxLen; omega) (by omega) hB.size ?_; intro v2 W2 own2 hg2 _; have hB2 := hB.grown hg2 hB.size (fun k e => (ownH.out.lt k e).1); rw [← List.map_append, hzsH.out] at own2; clear hg2)
          go_roundw
          case rel => exact ⟨k + 1, zs ++ us, by go_num, by omega, Lib.hid (by rw [if_neg (by omega)]; exact hz2H.out), own2, hB2⟩
          case measure => simp [intOf]; omega

end Go.Proofs.Ytaejdgjfnoefjaa

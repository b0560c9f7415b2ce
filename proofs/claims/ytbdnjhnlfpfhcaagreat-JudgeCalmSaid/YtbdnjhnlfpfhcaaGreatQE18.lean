/- Contracts and laws (JT, AlA, Pr). -/
import Derived.Test.YtbdnjhnlfpfhcaaGreatQE17
import Derived.Test.YtbdnjhnlfpfhcaaGreatQE15
import Derived.Test.YtbdnjhnlfpfhcaaGreatQE16
namespace Go.Proofs.YtbdnjhnlfpfhcaaGreat
open Go Go.RowKit Go.Shelf
set_option linter.unusedVariables false
set_option linter.unusedSimpArgs false

theorem row_lt {W : World} {base g n c : Nat} {e : TypeId} {size : Nat} {xs : List Value} (h : W.ownsRow base e size (.slice (some ⟨g, 0, none⟩) n c) n xs) : base ≤ g ∧ g < W.heap.size := by
  rcases h.2 with ⟨h1, _⟩ | ⟨g', cap, cur, h1, h0, h2, _⟩
  · cases h1
  · simp only [Value.slice.injEq, Option.some.injEq, Addr.mk.injEq, true_and, and_true] at h1
    rw [← h1.1] at h2 h0
    exact ⟨h0, (Array.getElem?_eq_some_iff.1 h2).1⟩
theorem row_ne {W : World} {base base' g g' n c n' c' : Nat} {e e' : TypeId} {size size' : Nat} {xs xs' : List Value} (h : W.ownsRow base e size (.slice (some ⟨g, 0, none⟩) n c) n xs) (h' : W.ownsRow base' e' size' (.slice (some ⟨g', 0, none⟩) n' c') n' xs') (hne : e ≠ e') : g ≠ g' := by
  rcases h.2 with ⟨h1, _⟩ | ⟨g1, cap, cur, h1, h0, h2, _⟩
  · cases h1
  rcases h'.2 with ⟨k1, _⟩ | ⟨g2, cap2, cur2, k1, k0, k2, _⟩
  · cases k1
  simp only [Value.slice.injEq, Option.some.injEq, Addr.mk.injEq, true_and, and_true] at h1 k1
  rw [← h1.1] at h2
  rw [← k1.1] at k2
  intro e0
  subst e0
  rw [h2] at k2
  simp only [Option.some.injEq, Obj.cells.injEq] at k2
  exact hne k2.2.1

/-- How many of the first k parts inspector i labelled l where the verdict is v. -/
def cntJ (lab : Nat → Nat → Nat) (vf : Nat → Nat) (i v l k : Nat) : Int := sumJ (fun q => if vf q = v ∧ lab i q = l then 1 else 0) k
def talJ (lab : Nat → Nat → Nat) (vf : Nat → Nat) (i k : Nat) : Array Value :=
  #[.int .i64 (cntJ lab vf i 0 0 k), .int .i64 (cntJ lab vf i 0 1 k), .int .i64 (cntJ lab vf i 0 2 k), .int .i64 (cntJ lab vf i 1 0 k), .int .i64 (cntJ lab vf i 1 1 k), .int .i64 (cntJ lab vf i 1 2 k),
    .int .i64 (cntJ lab vf i 2 0 k), .int .i64 (cntJ lab vf i 2 1 k), .int .i64 (cntJ lab vf i 2 2 k), .int .i64 (cntJ lab vf i 3 0 k), .int .i64 (cntJ lab vf i 3 1 k), .int .i64 (cntJ lab vf i 3 2 k)]
theorem talJ_zero (lab : Nat → Nat → Nat) (vf : Nat → Nat) (i : Nat) : talJ lab vf i 0 = #[.int .i64 0, .int .i64 0, .int .i64 0, .int .i64 0, .int .i64 0, .int .i64 0, .int .i64 0, .int .i64 0, .int .i64 0, .int .i64 0, .int .i64 0, .int .i64 0] := rfl
theorem talJ_cell (lab : Nat → Nat → Nat) (vf : Nat → Nat) (i k : Nat) {v l : Nat} (hv : v ≤ 3) (hl : l ≤ 2) : (talJ lab vf i k)[v * 3 + l]? = some (.int .i64 (cntJ lab vf i v l k)) := by
  have h1 : v = 0 ∨ v = 1 ∨ v = 2 ∨ v = 3 := by omega
  have h2 : l = 0 ∨ l = 1 ∨ l = 2 := by omega
  rcases h1 with rfl | rfl | rfl | rfl <;> rcases h2 with rfl | rfl | rfl <;> rfl
theorem talJ_step (lab : Nat → Nat → Nat) (vf : Nat → Nat) (i k : Nat) {v l : Nat} (hv : v ≤ 3) (hl : l ≤ 2) (e1 : vf k = v) (e2 : lab i k = l) : (talJ lab vf i k).setIfInBounds (v * 3 + l) (.int .i64 (cntJ lab vf i v l k + 1)) = talJ lab vf i (k + 1) := by
  have h1 : v = 0 ∨ v = 1 ∨ v = 2 ∨ v = 3 := by omega
  have h2 : l = 0 ∨ l = 1 ∨ l = 2 := by omega
  rcases h1 with rfl | rfl | rfl | rfl <;> rcases h2 with rfl | rfl | rfl <;> simp [talJ, cntJ, sumJ, e1, e2]
theorem cntJ_bd (lab : Nat → Nat → Nat) (vf : Nat → Nat) (i v l k : Nat) : -(k : Int) ≤ cntJ lab vf i v l k ∧ cntJ lab vf i v l k ≤ k := by
  have := sumJ_bd (f := fun q => if vf q = v ∧ lab i q = l then (1 : Int) else 0) (B := 1) (n := k) fun q _ => by split <;> omega
  unfold cntJ
  omega
theorem cntJ_net (lab : Nat → Nat → Nat) (vf : Nat → Nat) (i : Nat) : ∀ k : Nat, (∀ q, q < k → (1 ≤ vf q ∧ vf q ≤ 3) ∧ lab i q ≤ 2) → cntJ lab vf i 1 1 k + cntJ lab vf i 2 2 k - cntJ lab vf i 1 2 k - cntJ lab vf i 2 1 k = netJ lab vf i k
  | 0, _ => rfl
  | k + 1, h => by
    have ih := cntJ_net lab vf i k fun q hq => h q (by omega)
    obtain ⟨⟨h1, h2⟩, h3⟩ := h k (by omega)
    have hs : netJ lab vf i (k + 1) = netJ lab vf i k + scoreJ (vf k) (lab i k) := rfl
    have hc : ∀ v l, cntJ lab vf i v l (k + 1) = cntJ lab vf i v l k + (if vf k = v ∧ lab i k = l then 1 else 0) := fun v l => rfl
    rw [hs, hc, hc, hc, hc, ← ih]
    have e1 : vf k = 1 ∨ vf k = 2 ∨ vf k = 3 := by omega
    have e2 : lab i k = 0 ∨ lab i k = 1 ∨ lab i k = 2 := by omega
    rcases e1 with e1 | e1 | e1 <;> rcases e2 with e2 | e2 | e2 <;> simp [e1, e2, scoreJ] <;> omega

theorem voteL_13 (lab : Nat → Nat → Nat) (J K : Nat) (ws : List Int) (k : Nat) (hk : k < K) : 1 ≤ (voteL lab J K ws)[k]?.getD 0 ∧ (voteL lab J K ws)[k]?.getD 0 ≤ 3 := by
  unfold voteL
  rw [List.getElem?_map, List.getElem?_range hk]
  have := verd_mem (sumW lab (fun i => ws[i]?.getD 0) 1 k J) (sumW lab (fun i => ws[i]?.getD 0) 2 k J)
  simp only [Option.map_some, Option.getD_some, voteF]
  omega

/-- 'within' of one number in a block. -/
theorem jwithin1 (lo hi x : Int) (v : Bool) (hv : (decide (lo ≤ x) && decide (x ≤ hi)) = v) (b c : Nat) (w : World) (t : TypeId) (h : Blk w b t #[.int .i64 x]) :
    Calls Tryz.prog 23 #[.int .i64 lo, .int .i64 hi, .slice (some ⟨b, 0, none⟩) 1 c] w fun e w' => e = .returned (.bool v) ∧ w = w' := by
  have h' := jwithin_any lo hi (some ⟨b, 0, none⟩) c [x] w (by simp) (.inr ⟨b, 0, rfl, h.lt, fun i hi => by
    have : i = 0 := by simp at hi; omega
    subst this
    exact h.cell rfl⟩)
  refine h'.mono fun e w' ⟨he, hw⟩ => ⟨he.trans (ret_bool (by rw [← hv]; simp [allIn])), hw⟩


/-- Verdicts, weights and an error; the lists are the call's own. -/
def RetJo (w : World) (r : List Nat × List Int × Int) (e : Ending) (w' : World) : Prop :=
  ∃ a1 c1 a2 c2, e = .returned (.tuple #[.slice a1 r.1.length c1, .slice a2 r.2.1.length c2, .int .i64 r.2.2]) ∧ w'.ownsRow w.heap.size 5 1 (.slice a1 r.1.length c1) r.1.length (r.1.map vu8) ∧
    w'.ownsRow w.heap.size 3 1 (.slice a2 r.2.1.length c2) r.2.1.length (r.2.1.map (Value.int .i64)) ∧ Below w.heap.size w w'

set_option maxRecDepth 100000 in
set_option maxHeartbeats 8000000 in
theorem Reconcile_own (xss : List (List Nat)) (n : Nat) (hn : xss.length = n) (a : Option Addr) (c : Nat) (w : World) (hr : RdL w.heap.size w a xss) :
    Calls Tryz.prog 20 #[.slice a n c] w (RetJo w (recJ xss)) := by
  obtain ⟨i0, hi, hz0, hz1, hz2⟩ := info_parts jinfo_int
  have hB1 : Below w.heap.size w (w.alloc (.cells #[.int .i64 n] 3)) := jb_al (Below.refl _ _) _
  have k1 := Blk.new w 3 #[.int .i64 n]
  have bad : vldJ xss = false → ∀ W : World, Below w.heap.size w W → RetJo w (recJ xss) (.returned (.tuple #[.slice none 0 0, .slice none 0 0, .int .i64 2])) W := fun h W hb => by
    have e : recJ xss = ([], [], 2) := by unfold recJ; rw [h]; rfl
    rw [e]
    exact ⟨none, 0, none, 0, rfl, World.ownsRow_nil _ _ _ _, World.ownsRow_nil _ _ _ _, hb⟩
  have badH := Lib.hid bad
  have hnH := Lib.hid hn
  clear hn bad
  by_cases hn18 : 1 ≤ n ∧ n ≤ 8
  case neg =>
    have hv : vldJ xss = false := by
      unfold vldJ
      rw [hnH.out]
      by_cases h1 : 1 ≤ n
      · rw [show decide (n ≤ 8) = false by simp; omega]; simp
      · rw [show decide (1 ≤ n) = false by simp; omega]; simp
    have hw1 := jwithin1 1 8 (n : Int) false (by simp; omega) w.heap.size 1 _ 3 k1
    have hvH := Lib.hid hv
    clear hv
    go_enter Tryz.func20, Tryz.ntmps20
    go_wp2_with (go_at_call 23; refine hw1.mono ?_; rintro e w' ⟨rfl, rfl⟩)
    exact bodyPost_ret (v := .tuple #[.slice none 0 0, .slice none 0 0, .int .i64 2]) (by simp [results, Tryz.results20, go_sem]) rfl (badH.out hvH.out _ hB1)
  obtain ⟨n1, n8⟩ := hn18
  obtain ⟨xs0, hxs0⟩ : ∃ x, xss[0]? = some x := ⟨_, List.getElem?_eq_getElem (by have := hnH.out; omega)⟩
  obtain ⟨b, o, rfl, hb, a0, c0, hc0, hr0⟩ := hr.at hxs0
  rw [show o + 0 = o from rfl] at hc0
  obtain ⟨l0, hl0⟩ : ∃ l, xs0.length = l := ⟨_, rfl⟩
  rw [hl0] at hc0
  have hlen0 : len0 xss = l0 := by unfold len0; rw [hxs0]; exact hl0
  have hrH := Lib.hid hr
  have hlH := Lib.hid hlen0
  have hw1 := jwithin1 1 8 (n : Int) true (by simp; omega) w.heap.size 1 _ 3 k1
  have hc0' := (hB1.cell (p := ⟨b, o, none⟩) hb).trans hc0
  clear hr hlen0 hr0 hl0 hxs0
  by_cases h100 : 100 < l0
  · have hvH := Lib.hid (show vldJ xss = false by
      unfold vldJ; rw [hlH.out, show decide (l0 ≤ 100) = false by simp; omega]; simp)
    go_enter Tryz.func20, Tryz.ntmps20
    go_wp2_with (go_at_call 23; refine hw1.mono ?_; rintro e w' ⟨rfl, rfl⟩)
    exact bodyPost_ret (v := .tuple #[.slice none 0 0, .slice none 0 0, .int .i64 2]) (by simp [results, Tryz.results20, go_sem]) rfl (badH.out hvH.out _ hB1)
  have hvf := Lib.hid (show xss.all (rowOk l0) = false → vldJ xss = false from fun h => by
    unfold vldJ; rw [hlH.out, h]; simp)
  have hvt := Lib.hid (show xss.all (rowOk l0) = true → vldJ xss = true from fun h => by
    unfold vldJ; rw [hlH.out, h, hnH.out]; simp; omega)
  obtain ⟨W1, hW1⟩ : ∃ W, w.alloc (.cells #[.int .i64 n] 3) = W := ⟨_, rfl⟩
  rw [hW1] at hB1 hc0' k1 hw1
  go_enter Tryz.func20, Tryz.ntmps20
  go_wp2_with (go_at_call 23; refine hw1.mono ?_; rintro e w' ⟨rfl, rfl⟩)
  clear hW1 hw1 hc0
  go_loop [29] (fun i => ∃ m : Nat, m ≤ n ∧ i = .int .i64 (m : Int) ∧ Hid ((xss.take m).all (rowOk l0) = true)) (fun i => n - (intOf i).toNat)
  case atStart => exact ⟨0, Nat.zero_le _, rfl, Lib.hid (by simp)⟩
  case round =>
    obtain ⟨m, hm, rfl, hall⟩ := hrel
    by_cases hmt : m < n
    · obtain ⟨xs, hxs⟩ : ∃ x, xss[m]? = some x := ⟨_, List.getElem?_eq_getElem (by have := hnH.out; omega)⟩
      obtain ⟨b', o', hbo, _, a1, c1, hc1, hr1⟩ := hrH.out.at hxs
      simp only [Option.some.injEq, Addr.mk.injEq, and_true] at hbo
      obtain ⟨rfl, rfl⟩ := hbo
      have hc1' := (hB1.cell (p := ⟨b, o + m, none⟩) hb).trans hc1
      obtain ⟨lx, hlx⟩ : ∃ l, xs.length = l := ⟨_, rfl⟩
      rw [hlx] at hc1'
      by_cases e : lx = l0
      · subst e
        have hcf := ContainsFunc_any a1 c1 lx xs hlx (by omega) W1 ((hr1.below (Nat.le_refl _) hB1).mono hB1.size)
        obtain ⟨bg, hbg⟩ : ∃ v, bigN xs = v := ⟨_, rfl⟩
        rw [hbg] at hcf
        have hlxH := Lib.hid hlx
        have hxsH := Lib.hid hxs
        have hbgH := Lib.hid hbg
        clear hc1 hlx hxs hbg
        cases bg with
        | true =>
          have hvH := Lib.hid (hvf.out (all_hit hxsH.out (by unfold rowOk; rw [hbgH.out]; simp)))
          go_wp2_with (go_at_call 48; refine hcf.mono ?_; rintro e w' ⟨rfl, rfl⟩)
          exact bodyPost_ret (v := .tuple #[.slice none 0 0, .slice none 0 0, .int .i64 2]) (by simp [results, Tryz.results20, go_sem]) rfl (badH.out hvH.out _ hB1)
        | false =>
          have hnx := Lib.hid (all_succ hxsH.out hall.out (by unfold rowOk; rw [hbgH.out, hlxH.out]; simp))
          go_wp2_with (go_at_call 48; refine hcf.mono ?_; rintro e w' ⟨rfl, rfl⟩)
          go_round
          case rel => exact ⟨m + 1, by omega, by go_num, hnx⟩
          case measure => simp [intOf]; omega
      · have hvH := Lib.hid (hvf.out (all_hit hxs (by unfold rowOk; rw [hlx, show decide (lx = l0) = false by simp [e]]; rfl)))
        have ed : ((lx : Int) == (l0 : Int)) = false := by simp; omega
        have ed2 : ¬ (lx : Int) = (l0 : Int) := by omega
        clear hc1 hlx hxs
        go_wp2_with fail
        exact bodyPost_ret (v := .tuple #[.slice none 0 0, .slice none 0 0, .int .i64 2]) (by simp [results, Tryz.results20, go_sem]) rfl (badH.out hvH.out _ hB1)
    · have hvt2 := hvt.out (by have h := hall.out; rw [List.take_of_length_le (by have := hnH.out; omega)] at h; exact h)
      have hrc : recJ xss = ((reconS (labF xss) n l0).1, (reconS (labF xss) n l0).2, 0) := by unfold recJ; rw [if_pos hvt2, hnH.out, hlH.out]
      obtain ⟨_, _, _, hlen, hlab⟩ := vldJ_true hvt2
      rw [hlH.out] at hlen
      have hrcH := Lib.hid hrc
      have hlenH := Lib.hid hlen
      have hlabH := Lib.hid hlab
      have hzH := Lib.hid (jmade_int n)
      clear hvt2 hrc hlen hlab hvf hvt badH hall hc0' k1
      have hB2 := jb_al (w := W1) hB1 (.cells #[.int .i64 1] 3)
      have k2 := Blk.new W1 3 #[.int .i64 1]
      obtain ⟨W2, hW2⟩ : ∃ W, W1.alloc (.cells #[.int .i64 1] 3) = W := ⟨_, rfl⟩
      rw [hW2] at hB2 k2
      have hrep := RepeatI_any 1 n n1 (by omega) W1.heap.size 0 1 W2 k2.lt (k2.cell (i := 0) rfl)
      have hvote := fun W aw cw h1 h2 => vote_any xss n l0 hnH.out (by omega) (by omega) (by omega) hlenH.out hlabH.out (List.replicate n 1) (by simp) (ones_bd n) (some ⟨b, o, none⟩) aw c cw W h1 h2
      have h13 := voteL_13 (labF xss) n l0 (List.replicate n 1)
      have hvlt := voteL_lt (labF xss) n l0 (List.replicate n 1)
      have hrc0 : reconL (labF xss) n l0 (10 - 0) (voteL (labF xss) n l0 (List.replicate n 1)) (List.replicate n 1) = reconS (labF xss) n l0 := rfl
      have hvl0 : (voteL (labF xss) n l0 (List.replicate n 1)).length = l0 := by simp [voteL]
      obtain ⟨vs0, hvs0⟩ : ∃ L, voteL (labF xss) n l0 (List.replicate n 1) = L := ⟨_, rfl⟩
      rw [hvs0] at hvote h13 hvlt hrc0 hvl0
      have hvoteH := Lib.hid hvote
      have h13H := Lib.hid h13
      have hvltH := Lib.hid hvlt
      have hrc0H := Lib.hid hrc0
      have hvl0H := Lib.hid hvl0
      clear hvote h13 hvlt hrc0 hvs0 hvl0
      go_wp2_with (first
        | (go_at_call 51; refine hrep.mono ?_; rintro e w3 ⟨rfl, row3, hb3⟩; have hB3 := hB2.trans (hb3.mono hB2.size); rw [show List.replicate n (Value.int IntKind.i64 1) = (List.replicate n (1 : Int)).map (Value.int .i64) by simp] at row3; have rd3 := rowI_rd (by simp) row3; clear row3 hrep)
        | (go_at_call 50; refine (hvoteH.out _ _ _ ((hrH.out.below (Nat.le_refl _) hB3).mono hB3.size) rd3).mono ?_; rintro e w4 ⟨gv, rfl, row4, hb4⟩; have hB4 := hB3.trans (hb4.mono hB3.size); replace row4 := jrow_weaken row4 hB3.size; clear rd3)
        | (at_make; refine wpList_make_full _ rfl _ _ 49 rfl w4.heap.size 3 i0 (.int .i64 0) 1 Tryz.underlying49 hi hz0 hz1 .i64 .i64 (n : Int) (n : Int) n rfl rfl (by simp) (by simp) (by rw [hz2]; omega) (by unfold maxLen; omega) (by simp) ?_; intro w5 row5 hg5; rw [hzH.out] at row5; have hb5 := (Below.refl _ w4).grown hg5 (Nat.le_refl _) (fun k e => by cases e); have hB5 := hB4.trans (hb5.mono hB4.size); replace row5 := jrow_weaken row5 hB4.size; have rowv5 := row_below row4 hb5; clear row4 hg5))
      obtain ⟨G, hG⟩ : ∃ G, w4.heap.size = G := ⟨_, rfl⟩
      rw [hG] at row5 ⊢
      clear hb5 hG hB4 hb4 hB3 hb3 hzH hB2 k2 hW2
      clear w4
      clear w3
      go_loopw [7, 54] (fun y i wr => ∃ (r : Nat) (vs : List Nat) (ws : List Int) (gv : Nat), r ≤ 10 ∧ i = .int .i64 (r : Int) ∧ y = .slice (some ⟨gv, 0, none⟩) l0 l0 ∧ vs.length = l0 ∧ ws.length = n ∧ Hid (∀ k, k < l0 → 1 ≤ vs[k]?.getD 0 ∧ vs[k]?.getD 0 ≤ 3) ∧ Hid (∀ v ∈ vs, v < 256) ∧ wr.ownsRow w.heap.size 5 1 (.slice (some ⟨gv, 0, none⟩) l0 l0) l0 (vs.map vu8) ∧ wr.ownsRow w.heap.size 3 1 (.slice (some ⟨G, 0, none⟩) n n) n (ws.map (Value.int .i64)) ∧ Hid (reconL (labF xss) n l0 (10 - r) vs ws = reconS (labF xss) n l0) ∧ Below w.heap.size w wr) (fun _ i _ => 10 - (intOf i).toNat)
      case atStart => exact ⟨0, vs0, List.replicate n 0, gv, Nat.zero_le _, rfl, rfl, hvl0H.out, by simp, h13H, hvltH, rowv5, row5, Lib.hid (show _ from hrc0H.out), hB5⟩
      case round =>
        clear rowv5 row5 hB5 hvl0H hrc0H hvltH h13H hvoteH
        obtain ⟨r, vs, ws, gv, hr10, rfl, rfl, hvl, hwl, h13, hvlt, rowv, roww, hrc, hB⟩ := hrel
        by_cases hrt : r < 10
        · obtain ⟨wF, hwF⟩ : ∃ f, weighF (labF xss) (fun k => vs[k]?.getD 0) l0 = f := ⟨_, rfl⟩
          rw [← mixJ_zero wF ws] at roww
          have hrd : decide ((r : Int) < 10) = true := by simp; omega
          have hri : (r : Int) < 10 := by omega
          go_wp2_with fail
          go_loopw [58] (fun i wr => ∃ m : Nat, m ≤ n ∧ i = .int .i64 (m : Int) ∧ wr.ownsRow w.heap.size 5 1 (.slice (some ⟨gv, 0, none⟩) l0 l0) l0 (vs.map vu8) ∧ wr.ownsRow w.heap.size 3 1 (.slice (some ⟨G, 0, none⟩) n n) n ((mixJ wF ws m).map (Value.int .i64)) ∧ Below w.heap.size w wr) (fun i _ => n - (intOf i).toNat)
          case atStart => exact ⟨0, Nat.zero_le _, rfl, rowv, roww, hB⟩
          case round =>
            clear rowv roww hB
            obtain ⟨q, hq, rfl, rowv, roww, hB⟩ := hrel
            by_cases hqt : q < n
            · obtain ⟨xs, hxs⟩ : ∃ x, xss[q]? = some x := ⟨_, List.getElem?_eq_getElem (by have := hnH.out; omega)⟩
              obtain ⟨b', o', hbo, _, a1, c1, hc1, hr1⟩ := hrH.out.at hxs
              simp only [Option.some.injEq, Addr.mk.injEq, and_true] at hbo
              obtain ⟨rfl, rfl⟩ := hbo
              have hxl := hlenH.out q xs hxs
              rw [hxl] at hc1
              have hc1' := (hB.cell (p := ⟨b, o + q, none⟩) hb).trans hc1
              have hlkH := Lib.hid (show ∀ k, labF xss q k = xs[k]?.getD 0 from fun k => by unfold labF; rw [hxs]; rfl)
              have hxlH := Lib.hid hxl
              clear hxl hxs hc1
              have hnew := Blk.new wr 114 (talJ (labF xss) (fun k => vs[k]?.getD 0) q 0)
              obtain ⟨V, hV⟩ : ∃ V, wr.alloc (.cells (talJ (labF xss) (fun k => vs[k]?.getD 0) q 0) 114) = V := ⟨_, rfl⟩
              have hBV : Below w.heap.size w V := hV ▸ jb_al hB _
              have hgV : Below wr.heap.size wr V := hV ▸ jb_al (Below.refl _ _) _
              have rowvV := row_below rowv hgV
              have rowwV := row_below roww hgV
              rw [hV] at hnew
              obtain ⟨_, l1⟩ := row_lt rowv
              obtain ⟨_, l2⟩ := row_lt roww
              have l3 : w.heap.size ≤ wr.heap.size := hB.size
              rw [talJ_zero] at hV
              clear rowv roww hB hgV
              go_wp2_with fail
              obtain ⟨B1, hB1e⟩ : ∃ n, wr.heap.size = n := ⟨_, rfl⟩
              rw [hB1e] at hnew l1 l2 l3 ⊢
              clear hV hB1e hc1'
              clear wr
              go_loopw [65] (fun i wr => ∃ k : Nat, k ≤ l0 ∧ i = .int .i64 (k : Int) ∧ Blk wr B1 114 (talJ (labF xss) (fun k => vs[k]?.getD 0) q k) ∧ wr.ownsRow w.heap.size 5 1 (.slice (some ⟨gv, 0, none⟩) l0 l0) l0 (vs.map vu8) ∧ wr.ownsRow w.heap.size 3 1 (.slice (some ⟨G, 0, none⟩) n n) n ((mixJ wF ws q).map (Value.int .i64)) ∧ Below w.heap.size w wr) (fun i _ => l0 - (intOf i).toNat)
              case atStart => exact ⟨0, Nat.zero_le _, rfl, hnew, rowvV, rowwV, hBV⟩
              case round =>
                clear hnew rowvV rowwV hBV
                obtain ⟨k, hk, rfl, hbk, rowv, roww, hB⟩ := hrel
                by_cases hkt : k < l0
                · rcases hr1 with h0 | ⟨b1, o1, rfl, hb1, hcl⟩
                  · exfalso; have := hxlH.out; rw [h0] at this; simp at this; omega
                  have hcl1 := (hB.cell (p := ⟨b1, o1 + k, none⟩) hb1).trans (hcl k (by have := hxlH.out; omega))
                  rw [← hlkH.out k] at hcl1
                  have hcv1 := rowv.cellAt k (by rw [Nat.mul_one]; exact hkt)
                  rw [List.getElem?_map, List.getElem?_eq_getElem (by rw [hvl]; exact hkt)] at hcv1
                  have hvk : vs[k]?.getD 0 = vs[k]'(by rw [hvl]; exact hkt) := by rw [List.getElem?_eq_getElem (by rw [hvl]; exact hkt)]; rfl
                  simp only [Option.map_some] at hcv1
                  rw [← hvk] at hcv1
                  obtain ⟨l, hl⟩ : ∃ l, labF xss q k = l := ⟨_, rfl⟩
                  obtain ⟨v, hv⟩ : ∃ v, vs[k]?.getD 0 = v := ⟨_, rfl⟩
                  have hl2 : l ≤ 2 := hl ▸ hlabH.out q k
                  have hv3 : v ≤ 3 := hv ▸ (h13.out k hkt).2
                  rw [hl] at hcl1
                  rw [hv] at hcv1
                  change wr.cell? ⟨gv, k, none⟩ = some (.int .u8 (v : Int)) at hcv1
                  have hct := hbk.cell (talJ_cell (labF xss) (fun k => vs[k]?.getD 0) q k hv3 hl2)
                  have hstepH := Lib.hid (talJ_step (labF xss) (fun k => vs[k]?.getD 0) q k hv3 hl2 hv hl)
                  have hfr := hbk.frozen (v * 3 + l)
                  obtain ⟨cb1, cb2⟩ := cntJ_bd (labF xss) (fun k => vs[k]?.getD 0) q v l k
                  obtain ⟨s, hs⟩ : ∃ s, cntJ (labF xss) (fun k => vs[k]?.getD 0) q v l k = s := ⟨_, rfl⟩
                  rw [hs] at hct hstepH cb1 cb2
                  have hS0 : wr.drew.heap = wr.heap := rfl
                  clear hcl hvk hl hv hs
                  go_wp2_with fail
                  refine plain_region (fun W' => W'.heap = wr.heap) 11 12 (by kernel_rfl) rfl ?_
                  simp only [Array.replicate_succ, Array.replicate_zero, List.push_toArray, List.nil_append, List.cons_append]
                  refine take_op 0 (v := ?rv0) rfl (by kernel_rfl) (fun _ _ _ h => h) (by rfl) hS0 (fun w' hS' => ?ry0) ?rz0
                  case ry0 =>
                    go_simp
                    rfl
                  simp only [List.setIfInBounds_toArray, List.set_cons_zero, List.set_cons_succ]
                  refine take_op 1 (v := ?rv1) rfl (by kernel_rfl) (fun _ _ _ h => h) (by rfl) hS0 (fun w' hS' => ?ry1) ?rz1
                  case ry1 =>
                    go_simp
                    rfl
                  simp only [List.setIfInBounds_toArray, List.set_cons_zero, List.set_cons_succ]
                  refine take_op 2 (v := ?rv2) rfl (by kernel_rfl) (fun _ _ _ h => h) (by rfl) hS0 (fun w' hS' => ?ry2) ?rz2
                  case ry2 =>
                    go_simp
                    rfl
                  simp only [List.setIfInBounds_toArray, List.set_cons_zero, List.set_cons_succ]
                  refine take_op 3 (v := ?rv3) rfl (by kernel_rfl) (fun _ _ _ h => h) (by rfl) hS0 (fun w' hS' => ?ry3) ?rz3
                  case ry3 =>
                    go_simp
                    try go_ints
                    first
                    | rfl
                    | (rw [if_pos (by omega)]; done)
                    | rw [if_pos ⟨by omega, by omega⟩]
                  simp only [List.setIfInBounds_toArray, List.set_cons_zero, List.set_cons_succ]
                  refine take_op 4 (v := ?rv4) rfl (by kernel_rfl) (fun _ _ _ h => h) (by rfl) hS0 (fun w' hS' => ?ry4) ?rz4
                  case ry4 =>
                    have e1 := (World.cell?_of_block (w := wr) (w' := w') (a := ⟨b1, o1 + k, none⟩) (by rw [hS'])).trans hcl1
                    have e3 := (World.cell?_of_block (w := wr) (w' := w') (a := ⟨B1, v * 3 + l, none⟩) (by rw [hS'])).trans hct
                    clear hS'
                    go_simp
                    rfl
                  simp only [List.setIfInBounds_toArray, List.set_cons_zero, List.set_cons_succ]
                  refine take_op 5 (v := ?rv5) rfl (by kernel_rfl) (fun _ _ _ h => h) (by rfl) hS0 (fun w' hS' => ?ry5) ?rz5
                  case ry5 =>
                    go_simp
                    try go_ints
                    first
                    | rfl
                    | (rw [if_pos (by omega)]; done)
                    | rw [if_pos ⟨by omega, by omega⟩]
                  simp only [List.setIfInBounds_toArray, List.set_cons_zero, List.set_cons_succ]
                  refine take_op 6 (v := ?rv6) rfl (by kernel_rfl) (fun _ _ _ h => h) (by rfl) hS0 (fun w' hS' => ?ry6) ?rz6
                  case ry6 =>
                    go_simp
                    try go_ints
                    first
                    | rfl
                    | (rw [if_pos (by omega)]; done)
                    | rw [if_pos ⟨by omega, by omega⟩]
                  simp only [List.setIfInBounds_toArray, List.set_cons_zero, List.set_cons_succ]
                  refine take_op 7 (v := ?rv7) rfl (by kernel_rfl) (fun _ _ _ h => h) (by rfl) hS0 (fun w' hS' => ?ry7) ?rz7
                  case ry7 =>
                    have e1 := (World.cell?_of_block (w := wr) (w' := w') (a := ⟨b1, o1 + k, none⟩) (by rw [hS'])).trans hcl1
                    have e3 := (World.cell?_of_block (w := wr) (w' := w') (a := ⟨B1, v * 3 + l, none⟩) (by rw [hS'])).trans hct
                    clear hS'
                    go_simp
                    rfl
                  simp only [List.setIfInBounds_toArray, List.set_cons_zero, List.set_cons_succ]
                  refine take_op 8 (v := ?rv8) rfl (by kernel_rfl) (fun _ _ _ h => h) (by rfl) hS0 (fun w' hS' => ?ry8) ?rz8
                  case ry8 =>
                    go_simp
                    try go_ints
                    rfl
                  simp only [List.setIfInBounds_toArray, List.set_cons_zero, List.set_cons_succ]
                  refine step_op 9 (by kernel_rfl) rfl (fun K hK => ?_)
                  rw [if_pos (by rfl)]
                  go_simp
                  rw [if_pos (by omega)]
                  refine hK.out _ _ (fun h => hS0) ?_
                  clear hK K
                  try simp only [Act.put, List.setIfInBounds_toArray, List.set_cons_zero, List.set_cons_succ]
                  refine take_op 10 (v := ?rv10) rfl (by kernel_rfl) (fun _ _ _ h => h) (by rfl) hS0 (fun w' hS' => ?ry10) ?rz10
                  case ry10 =>
                    go_simp
                    try go_ints
                    first
                    | rfl
                    | (rw [if_pos (by omega)]; done)
                    | rw [if_pos ⟨by omega, by omega⟩]
                  simp only [List.setIfInBounds_toArray, List.set_cons_zero, List.set_cons_succ]
                  refine step_op 11 (by kernel_rfl) rfl (fun K hK => ?_)
                  have hfr2 : wr.drew.frozen? ⟨B1, v * 3 + l, none⟩ = false := hfr
                  have hct2 : wr.drew.cell? ⟨B1, v * 3 + l, none⟩ = some (.int .i64 s) := hct
                  rw [if_pos (by rfl)]
                  go_simp
                  refine hK.out _ _ (fun h => absurd h (by omega)) ?_
                  clear hK K
                  try simp only [Act.put, List.setIfInBounds_toArray, List.set_cons_zero, List.set_cons_succ]
                  refine done_ops (by kernel_rfl) ?_
                  go_wp2_with fail
                  go_roundw
                  case rel =>
                    have t1 : Blk wr.drew B1 114 (talJ (labF xss) (fun k => vs[k]?.getD 0) q k) := hbk
                    have t2 := t1.set (v * 3 + l) (.int .i64 (s + 1))
                    rw [hstepH.out] at t2
                    exact ⟨k + 1, by omega, by go_num, t2, row_setCell (W := wr.drew) (a := ⟨B1, v * 3 + l, none⟩) rowv (by simp [Value.ownBlock]; omega) _, row_setCell (W := wr.drew) (a := ⟨B1, v * 3 + l, none⟩) roww (by simp [Value.ownBlock]; omega) _, (hB.drew).setCell (p := ⟨B1, v * 3 + l, none⟩) l3 _⟩
                  case measure => simp [intOf]; omega
                · have hkl : k = l0 := by omega
                  subst hkl
                  have hnet := cntJ_net (labF xss) (fun j => vs[j]?.getD 0) q k (fun j hj => ⟨h13.out j hj, hlabH.out q j⟩)
                  obtain ⟨p1, p2⟩ := cntJ_bd (labF xss) (fun j => vs[j]?.getD 0) q 1 1 k
                  obtain ⟨p3, p4⟩ := cntJ_bd (labF xss) (fun j => vs[j]?.getD 0) q 2 2 k
                  obtain ⟨p5, p6⟩ := cntJ_bd (labF xss) (fun j => vs[j]?.getD 0) q 1 2 k
                  obtain ⟨p7, p8⟩ := cntJ_bd (labF xss) (fun j => vs[j]?.getD 0) q 2 1 k
                  have d4 := hbk.cell (i := 4) (talJ_cell (labF xss) (fun j => vs[j]?.getD 0) q k (v := 1) (l := 1) (by omega) (by omega))
                  have d8 := hbk.cell (i := 8) (talJ_cell (labF xss) (fun j => vs[j]?.getD 0) q k (v := 2) (l := 2) (by omega) (by omega))
                  have d5 := hbk.cell (i := 5) (talJ_cell (labF xss) (fun j => vs[j]?.getD 0) q k (v := 1) (l := 2) (by omega) (by omega))
                  have d7 := hbk.cell (i := 7) (talJ_cell (labF xss) (fun j => vs[j]?.getD 0) q k (v := 2) (l := 1) (by omega) (by omega))
                  obtain ⟨x11, e11⟩ : ∃ x, cntJ (labF xss) (fun j => vs[j]?.getD 0) q 1 1 k = x := ⟨_, rfl⟩
                  obtain ⟨x22, e22⟩ : ∃ x, cntJ (labF xss) (fun j => vs[j]?.getD 0) q 2 2 k = x := ⟨_, rfl⟩
                  obtain ⟨x12, e12⟩ : ∃ x, cntJ (labF xss) (fun j => vs[j]?.getD 0) q 1 2 k = x := ⟨_, rfl⟩
                  obtain ⟨x21, e21⟩ : ∃ x, cntJ (labF xss) (fun j => vs[j]?.getD 0) q 2 1 k = x := ⟨_, rfl⟩
                  rw [e11] at hnet d4 p1 p2
                  rw [e22] at hnet d8 p3 p4
                  rw [e12] at hnet d5 p5 p6
                  rw [e21] at hnet d7 p7 p8
                  obtain ⟨mx, hmx⟩ : ∃ x, max 0 (x11 + x22 - x12 - x21) = x := ⟨_, rfl⟩
                  have hwk : wF q = mx := by
                    rw [← hwF, ← hmx, hnet]
                    unfold weighF
                    exact Int.max_comm _ _
                  have hst := (roww.stored q (.int .i64 mx)).1
                  rw [map_set_i, ← hwk, mixJ_set wF ws (by rw [hwl]; exact hqt), hwk] at hst
                  have hfr := roww.frozenAt q
                  have hcell := roww.cellAt q (by rw [Nat.mul_one]; exact hqt)
                  rw [List.getElem?_map, List.getElem?_eq_getElem (by rw [mixJ_length, hwl]; exact hqt)] at hcell
                  simp only [Option.map_some] at hcell
                  obtain ⟨y, hy⟩ : ∃ y, (mixJ wF ws q)[q]'(by rw [mixJ_length, hwl]; exact hqt) = y := ⟨_, rfl⟩
                  rw [hy] at hcell
                  change wr.cell? ⟨G, q, none⟩ = some (.int .i64 y) at hcell
                  have hstH := Lib.hid hst
                  have hneH := Lib.hid (row_ne roww rowv (by decide))
                  have hGw := (row_lt roww).1
                  clear hst hnet e11 e22 e12 e21 hwk hy
                  go_wp2_with fail
                  go_roundw
                  case rel => exact ⟨q + 1, by omega, by go_num, row_setCell (a := ⟨G, q, none⟩) rowv (by simp [Value.ownBlock]; exact hneH.out) _, hstH.out, hB.setCell (p := ⟨G, q, none⟩) hGw _⟩
                  case measure => simp [intOf]; omega
            · have hqn : q = n := by omega
              subst hqn
              rw [mixJ_all wF ws hwl, ← hwF] at roww
              have hwlen : (weighL (labF xss) q l0 vs).length = q := by simp [weighL]
              have hwb := weighL_bd (labF xss) (J := q) (K := l0) (by omega) vs
              change wr.ownsRow w.heap.size 3 1 (.slice (some ⟨G, 0, none⟩) q q) q ((weighL (labF xss) q l0 vs).map (Value.int .i64)) at roww
              have hvlen : (voteL (labF xss) q l0 (weighL (labF xss) q l0 vs)).length = l0 := by simp [voteL]
              have hvl13 := voteL_13 (labF xss) q l0 (weighL (labF xss) q l0 vs)
              have hvl256 := voteL_lt (labF xss) q l0 (weighL (labF xss) q l0 vs)
              have hvote := vote_any xss q l0 hnH.out (by omega) (by omega) (by omega) hlenH.out hlabH.out (weighL (labF xss) q l0 vs) hwlen hwb (some ⟨b, o, none⟩) (some ⟨G, 0, none⟩) c q wr ((hrH.out.below (Nat.le_refl _) hB).mono hB.size) (rowI_rd hwlen roww)
              have hstep : reconL (labF xss) q l0 (10 - r) vs ws = if voteL (labF xss) q l0 (weighL (labF xss) q l0 vs) = vs then (vs, weighL (labF xss) q l0 vs) else reconL (labF xss) q l0 (10 - (r + 1)) (voteL (labF xss) q l0 (weighL (labF xss) q l0 vs)) (weighL (labF xss) q l0 vs) := by
                rw [show 10 - r = (10 - (r + 1)) + 1 by omega, reconL]
              rw [hrc.out] at hstep
              obtain ⟨ws1, hws1⟩ : ∃ L, weighL (labF xss) q l0 vs = L := ⟨_, rfl⟩
              rw [hws1] at roww hwlen hvlen hvl13 hvl256 hvote hstep
              obtain ⟨vs1, hvs1⟩ : ∃ L, voteL (labF xss) q l0 ws1 = L := ⟨_, rfl⟩
              rw [hvs1] at hvlen hvl13 hvl256 hvote hstep
              have hstepH := Lib.hid hstep
              have h13H := Lib.hid hvl13
              have hltH := Lib.hid hvl256
              clear hstep hvl13 hvl256 hws1 hvs1 hwb hrc
              by_cases e : vs1 = vs
              · subst e
                rw [if_pos rfl] at hstepH
                go_wp2_with (first
                  | (go_at_call 50; refine hvote.mono ?_; rintro e w4 ⟨g4, rfl, row4, hb4⟩; have hB4 := hB.trans (hb4.mono hB.size); have rowv4 := row_below rowv hb4; have roww4 := row_below roww hb4; have heq := EqualN_any (some ⟨g4, 0, none⟩) (some ⟨gv, 0, none⟩) l0 l0 l0 vs1 vs1 hvlen hvlen (by omega) w4 (rowN_rd hvlen row4) (rowN_rd hvlen rowv4) hltH.out hltH.out; rw [show decide (vs1 = vs1) = true by simp] at heq; clear row4)
                  | (go_at_call 52; refine heq.mono ?_; rintro e w5 ⟨rfl, hb5⟩; have hB5 := hB4.trans (hb5.mono hB4.size); have rowv5 := row_below rowv4 hb5; have roww5 := row_below roww4 hb5))
                exact bodyPost_ret (v := .tuple #[.slice (some ⟨gv, 0, none⟩) l0 l0, .slice (some ⟨G, 0, none⟩) q q, .int .i64 0]) (by simp [results, Tryz.results20, go_sem]) rfl (by
                  rw [hrcH.out, hstepH.out]
                  exact ⟨some ⟨gv, 0, none⟩, l0, some ⟨G, 0, none⟩, q, by rw [hvlen, hwlen], by rw [hvlen]; exact rowv5, by rw [hwlen]; exact roww5, hB5⟩)
              · rw [if_neg e] at hstepH
                go_wp2_with (first
                  | (go_at_call 50; refine hvote.mono ?_; rintro e w4 ⟨g4, rfl, row4, hb4⟩; have hB4 := hB.trans (hb4.mono hB.size); have rowv4 := row_below rowv hb4; have roww4 := row_below roww hb4; have heq := EqualN_any (some ⟨g4, 0, none⟩) (some ⟨gv, 0, none⟩) l0 l0 l0 vs1 vs hvlen hvl (by omega) w4 (rowN_rd hvlen row4) (rowN_rd hvl rowv4) hltH.out hvlt.out; rw [show decide (vs1 = vs) = false by simp [e]] at heq; replace row4 := jrow_weaken row4 hB.size)
                  | (go_at_call 52; refine heq.mono ?_; rintro e w5 ⟨rfl, hb5⟩; have hB5 := hB4.trans (hb5.mono hB4.size); have row5 := row_below row4 hb5; have roww5 := row_below roww4 hb5))
                go_roundw
                case rel => exact ⟨r + 1, vs1, ws1, g4, by omega, by go_num, rfl, hvlen, hwlen, h13H, hltH, row5, roww5, Lib.hid hstepH.out.symm, hB5⟩
                case measure => simp [intOf]; omega
        · have hr : r = 10 := by omega
          subst hr
          have hrc2 : (vs, ws) = reconS (labF xss) n l0 := hrc.out
          have hrc2H := Lib.hid hrc2
          clear hrc2
          go_wp2_with fail
          exact bodyPost_ret (v := .tuple #[.slice (some ⟨gv, 0, none⟩) l0 l0, .slice (some ⟨G, 0, none⟩) n n, .int .i64 0]) (by simp [results, Tryz.results20, go_sem]) rfl (by
            rw [hrcH.out, ← hrc2H.out]
            exact ⟨some ⟨gv, 0, none⟩, l0, some ⟨G, 0, none⟩, n, by rw [hvl, hwl], by rw [hvl]; exact rowv, by rw [hwl]; exact roww, hB⟩)
theorem Reconcile_any (xss : List (List Nat)) (n : Nat) (hn : xss.length = n) (a : Option Addr) (c : Nat) (w : World) (hr : RdL w.heap.size w a xss) :
    Calls Tryz.prog 20 #[.slice a n c] w (RetJ w (recJ xss)) :=
  (Reconcile_own xss n hn a c w hr).mono fun e w' ⟨a1, c1, a2, c2, h1, h2, h3, h4⟩ => ⟨a1, c1, a2, c2, h1, rowN_rd rfl h2, rowI_rd rfl h3, h4⟩

end Go.Proofs.YtbdnjhnlfpfhcaaGreat

namespace Go.Proofs.YtbdnjhnlfpfhcaaGreat
open Go Go.RowKit Go.Shelf
set_option linter.unusedVariables false
set_option linter.unusedSimpArgs false

theorem rd_litA {W : World} {b : Nat} {A : Array Value} {t : TypeId} {xs : List Int} (k : Blk W b t A) (h : A.toList = xs.map (Value.int .i64)) : Rd W.heap.size W (some ⟨b, 0, none⟩) xs := by
  refine .inr ⟨b, 0, rfl, k.lt, fun i hi => ?_⟩
  rw [Nat.zero_add]
  refine k.cell ?_
  have : A.toList[i]? = some (.int .i64 (xs[i]?.getD 0)) := by rw [h, List.getElem?_map, List.getElem?_eq_getElem hi]; rfl
  simpa using this
theorem rdn_litA {W : World} {b : Nat} {A : Array Value} {t : TypeId} {xs : List Nat} (k : Blk W b t A) (h : A.toList = xs.map vu8) : RdN W.heap.size W (some ⟨b, 0, none⟩) xs := by
  refine .inr ⟨b, 0, rfl, k.lt, fun i hi => ?_⟩
  rw [Nat.zero_add]
  refine k.cell ?_
  have : A.toList[i]? = some (vu8 (xs[i]?.getD 0)) := by rw [h, List.getElem?_map, List.getElem?_eq_getElem hi]; rfl
  simpa [vu8] using this
set_option maxRecDepth 100000 in
set_option maxHeartbeats 2000000 in
theorem row8_any (a : Option Addr) (n c : Nat) (w : World) :
    Calls Tryz.prog 14 #[.slice a n c] w fun e w' => e = .returned (imv n 1 a n c) ∧ Below w.heap.size w w' := by
  have k2 := Blk.new w 51 #[.int .i64 n, .int .i64 1, .slice a n c]
  have hb : Below w.heap.size w (w.alloc (.cells #[.int .i64 n, .int .i64 1, .slice a n c] 51)) := jb_al (Below.refl _ w) _
  have g0 := k2.cell (i := 0) rfl
  have g1 := k2.cell (i := 1) rfl
  have g2 := k2.cell (i := 2) rfl
  go_enter Tryz.func14, Tryz.ntmps14
  go_wp2_with fail
  exact bodyPost_ret (v := imv n 1 a n c) (by simp [results, Tryz.results14, go_sem, g0, g1, g2]) rfl ⟨rfl, hb⟩
set_option maxRecDepth 100000 in
set_option maxHeartbeats 2000000 in
theorem quarter8_any (w : World) : Calls Tryz.prog 21 #[] w fun e w' => e = .returned (frv 1 4) ∧ Below w.heap.size w w' := by
  have k2 := Blk.new w 23 #[.int .i64 1, .int .i64 4]
  have hb : Below w.heap.size w (w.alloc (.cells #[.int .i64 1, .int .i64 4] 23)) := jb_al (Below.refl _ w) _
  have g0 := k2.cell (i := 0) rfl
  have g1 := k2.cell (i := 1) rfl
  go_enter Tryz.func21, Tryz.ntmps21
  go_wp2_with fail
  exact bodyPost_ret (v := frv 1 4) (by simp [results, Tryz.results21, go_sem, g0, g1]) rfl ⟨rfl, hb⟩
/-- The network of the chapter's examples. -/
def twoN : NetN := ⟨2, 1, 2, 1, [⟨[[1, -1], [-1, 1]], [0, 0]⟩, ⟨[[1, 1]], [0]⟩], 10, 20⟩
theorem twoN_sz : NetSz twoN where
  n := by decide
  ly := fun i => by
    match i with
    | 0 => decide
    | 1 => decide
    | _ + 2 => simp [layAt, twoN]
  row := fun i k => by
    match i, k with
    | 0, 0 => decide
    | 0, 1 => decide
    | 0, _ + 2 => simp [layAt, twoN]
    | 1, 0 => decide
    | 1, _ + 1 => simp [layAt, twoN]
    | _ + 2, _ => simp [layAt, twoN]
set_option maxRecDepth 100000 in
set_option maxHeartbeats 4000000 in
theorem two_any (w : World) : Calls Tryz.prog 13 #[] w fun e w' => ∃ na nc, e = .returned (netv twoN na 2 nc) ∧ RdLs w'.heap.size w' na twoN.Ls ∧ Below w.heap.size w w' := by
  have hbA0 : Below w.heap.size w (w.alloc (.cells #[.int .i64 0, .int .i64 0, .int .i64 0, .int .i64 0, .slice none 0 0, .int .i64 0, .int .i64 0] 47)) := jb_al (Below.refl _ w) _
  have k0 := Blk.new w 47 #[.int .i64 0, .int .i64 0, .int .i64 0, .int .i64 0, .slice none 0 0, .int .i64 0, .int .i64 0]
  obtain ⟨A0, hEA0⟩ : ∃ X, w.alloc (.cells #[.int .i64 0, .int .i64 0, .int .i64 0, .int .i64 0, .slice none 0 0, .int .i64 0, .int .i64 0] 47) = X := ⟨_, rfl⟩
  rw [hEA0] at hbA0 k0
  have l0 := k0.lt
  have hbA1 : Below A0.heap.size A0 (A0.alloc (.cells #[.int .i64 1, .int .i64 (-1)] 3)) := jb_al (Below.refl _ A0) _
  have k1 := Blk.new A0 3 #[.int .i64 1, .int .i64 (-1)]
  obtain ⟨A1, hEA1⟩ : ∃ X, A0.alloc (.cells #[.int .i64 1, .int .i64 (-1)] 3) = X := ⟨_, rfl⟩
  rw [hEA1] at hbA1 k1
  replace k0 := k0.below hbA1 k0.lt
  have l1 := k1.lt
  have hbA2 : Below A1.heap.size A1 (A1.alloc (.cells #[.int .i64 (-1), .int .i64 1] 3)) := jb_al (Below.refl _ A1) _
  have k2 := Blk.new A1 3 #[.int .i64 (-1), .int .i64 1]
  obtain ⟨A2, hEA2⟩ : ∃ X, A1.alloc (.cells #[.int .i64 (-1), .int .i64 1] 3) = X := ⟨_, rfl⟩
  rw [hEA2] at hbA2 k2
  replace k0 := k0.below hbA2 k0.lt
  replace k1 := k1.below hbA2 k1.lt
  have l2 := k2.lt
  have hbA3 : Below A2.heap.size A2 (A2.alloc (.cells #[.slice (some ⟨A0.heap.size, 0, none⟩) 2 2, .slice (some ⟨A1.heap.size, 0, none⟩) 2 2] 49)) := jb_al (Below.refl _ A2) _
  have k3 := Blk.new A2 49 #[.slice (some ⟨A0.heap.size, 0, none⟩) 2 2, .slice (some ⟨A1.heap.size, 0, none⟩) 2 2]
  obtain ⟨A3, hEA3⟩ : ∃ X, A2.alloc (.cells #[.slice (some ⟨A0.heap.size, 0, none⟩) 2 2, .slice (some ⟨A1.heap.size, 0, none⟩) 2 2] 49) = X := ⟨_, rfl⟩
  rw [hEA3] at hbA3 k3
  replace k0 := k0.below hbA3 k0.lt
  replace k1 := k1.below hbA3 k1.lt
  replace k2 := k2.below hbA3 k2.lt
  have l3 := k3.lt
  have hbA4 : Below A3.heap.size A3 (A3.alloc (.cells #[.int .i64 0, .int .i64 0] 3)) := jb_al (Below.refl _ A3) _
  have k4 := Blk.new A3 3 #[.int .i64 0, .int .i64 0]
  obtain ⟨A4, hEA4⟩ : ∃ X, A3.alloc (.cells #[.int .i64 0, .int .i64 0] 3) = X := ⟨_, rfl⟩
  rw [hEA4] at hbA4 k4
  replace k0 := k0.below hbA4 k0.lt
  replace k1 := k1.below hbA4 k1.lt
  replace k2 := k2.below hbA4 k2.lt
  replace k3 := k3.below hbA4 k3.lt
  have l4 := k4.lt
  have hbA5 : Below A4.heap.size A4 (A4.alloc (.cells #[.int .i64 1, .int .i64 1] 3)) := jb_al (Below.refl _ A4) _
  have k5 := Blk.new A4 3 #[.int .i64 1, .int .i64 1]
  obtain ⟨A5, hEA5⟩ : ∃ X, A4.alloc (.cells #[.int .i64 1, .int .i64 1] 3) = X := ⟨_, rfl⟩
  rw [hEA5] at hbA5 k5
  replace k0 := k0.below hbA5 k0.lt
  replace k1 := k1.below hbA5 k1.lt
  replace k2 := k2.below hbA5 k2.lt
  replace k3 := k3.below hbA5 k3.lt
  replace k4 := k4.below hbA5 k4.lt
  have l5 := k5.lt
  have hbA6 : Below A5.heap.size A5 (A5.alloc (.cells #[.slice (some ⟨A4.heap.size, 0, none⟩) 2 2] 49)) := jb_al (Below.refl _ A5) _
  have k6 := Blk.new A5 49 #[.slice (some ⟨A4.heap.size, 0, none⟩) 2 2]
  obtain ⟨A6, hEA6⟩ : ∃ X, A5.alloc (.cells #[.slice (some ⟨A4.heap.size, 0, none⟩) 2 2] 49) = X := ⟨_, rfl⟩
  rw [hEA6] at hbA6 k6
  replace k0 := k0.below hbA6 k0.lt
  replace k1 := k1.below hbA6 k1.lt
  replace k2 := k2.below hbA6 k2.lt
  replace k3 := k3.below hbA6 k3.lt
  replace k4 := k4.below hbA6 k4.lt
  replace k5 := k5.below hbA6 k5.lt
  have l6 := k6.lt
  have hbA7 : Below A6.heap.size A6 (A6.alloc (.cells #[.int .i64 0] 3)) := jb_al (Below.refl _ A6) _
  have k7 := Blk.new A6 3 #[.int .i64 0]
  obtain ⟨A7, hEA7⟩ : ∃ X, A6.alloc (.cells #[.int .i64 0] 3) = X := ⟨_, rfl⟩
  rw [hEA7] at hbA7 k7
  replace k0 := k0.below hbA7 k0.lt
  replace k1 := k1.below hbA7 k1.lt
  replace k2 := k2.below hbA7 k2.lt
  replace k3 := k3.below hbA7 k3.lt
  replace k4 := k4.below hbA7 k4.lt
  replace k5 := k5.below hbA7 k5.lt
  replace k6 := k6.below hbA7 k6.lt
  have l7 := k7.lt
  have hbA8 : Below A7.heap.size A7 (A7.alloc (.cells #[.slice (some ⟨A2.heap.size, 0, none⟩) 2 2, .slice (some ⟨A3.heap.size, 0, none⟩) 2 2, .slice (some ⟨A5.heap.size, 0, none⟩) 1 1, .slice (some ⟨A6.heap.size, 0, none⟩) 1 1] 91)) := jb_al (Below.refl _ A7) _
  have k8 := Blk.new A7 91 #[.slice (some ⟨A2.heap.size, 0, none⟩) 2 2, .slice (some ⟨A3.heap.size, 0, none⟩) 2 2, .slice (some ⟨A5.heap.size, 0, none⟩) 1 1, .slice (some ⟨A6.heap.size, 0, none⟩) 1 1]
  obtain ⟨A8, hEA8⟩ : ∃ X, A7.alloc (.cells #[.slice (some ⟨A2.heap.size, 0, none⟩) 2 2, .slice (some ⟨A3.heap.size, 0, none⟩) 2 2, .slice (some ⟨A5.heap.size, 0, none⟩) 1 1, .slice (some ⟨A6.heap.size, 0, none⟩) 1 1] 91) = X := ⟨_, rfl⟩
  rw [hEA8] at hbA8 k8
  replace k0 := k0.below hbA8 k0.lt
  replace k1 := k1.below hbA8 k1.lt
  replace k2 := k2.below hbA8 k2.lt
  replace k3 := k3.below hbA8 k3.lt
  replace k4 := k4.below hbA8 k4.lt
  replace k5 := k5.below hbA8 k5.lt
  replace k6 := k6.below hbA8 k6.lt
  replace k7 := k7.below hbA8 k7.lt
  have l8 := k8.lt
  have hc0 := hbA0
  have hc1 := hc0.trans (hbA1.mono hc0.size)
  have hc2 := hc1.trans (hbA2.mono hc1.size)
  have hc3 := hc2.trans (hbA3.mono hc2.size)
  have hc4 := hc3.trans (hbA4.mono hc3.size)
  have hc5 := hc4.trans (hbA5.mono hc4.size)
  have hc6 := hc5.trans (hbA6.mono hc5.size)
  have hc7 := hc6.trans (hbA7.mono hc6.size)
  have hc8 := hc7.trans (hbA8.mono hc7.size)
  have x0 := k0.cell (i := 0) rfl
  have fx0 := k0.frozen 0
  have x1 := k0.cell (i := 1) rfl
  have fx1 := k0.frozen 1
  have x2 := k0.cell (i := 2) rfl
  have fx2 := k0.frozen 2
  have x3 := k0.cell (i := 3) rfl
  have fx3 := k0.frozen 3
  have x4 := k0.cell (i := 4) rfl
  have fx4 := k0.frozen 4
  have x5 := k0.cell (i := 5) rfl
  have fx5 := k0.frozen 5
  have x6 := k0.cell (i := 6) rfl
  have fx6 := k0.frozen 6
  have s1 := hbA1.size
  have s2 := hbA2.size
  have s3 := hbA3.size
  have s4 := hbA4.size
  have s5 := hbA5.size
  have s6 := hbA6.size
  have s7 := hbA7.size
  have s8 := hbA8.size
  have kz := (((((((k0.set 0 (.int .i64 2)).set 1 (.int .i64 1)).set 2 (.int .i64 2)).set 3 (.int .i64 1)).set 4 (.slice (some ⟨A7.heap.size, 0, none⟩) 2 2)).set 5 (.int .i64 10)).set 6 (.int .i64 20))
  have hz := (((((((hc8.setCell (p := ⟨w.heap.size, 0, none⟩) (Nat.le_refl _) (.int .i64 2)).setCell (p := ⟨w.heap.size, 1, none⟩) (Nat.le_refl _) (.int .i64 1)).setCell (p := ⟨w.heap.size, 2, none⟩) (Nat.le_refl _) (.int .i64 2)).setCell (p := ⟨w.heap.size, 3, none⟩) (Nat.le_refl _) (.int .i64 1)).setCell (p := ⟨w.heap.size, 4, none⟩) (Nat.le_refl _) (.slice (some ⟨A7.heap.size, 0, none⟩) 2 2)).setCell (p := ⟨w.heap.size, 5, none⟩) (Nat.le_refl _) (.int .i64 10)).setCell (p := ⟨w.heap.size, 6, none⟩) (Nat.le_refl _) (.int .i64 20))
  have n1 := hc0.size
  replace k1 := (((((((k1.other (a := ⟨w.heap.size, 0, none⟩) (by show _ ≠ w.heap.size; omega) (.int .i64 2)).other (a := ⟨w.heap.size, 1, none⟩) (by show _ ≠ w.heap.size; omega) (.int .i64 1)).other (a := ⟨w.heap.size, 2, none⟩) (by show _ ≠ w.heap.size; omega) (.int .i64 2)).other (a := ⟨w.heap.size, 3, none⟩) (by show _ ≠ w.heap.size; omega) (.int .i64 1)).other (a := ⟨w.heap.size, 4, none⟩) (by show _ ≠ w.heap.size; omega) (.slice (some ⟨A7.heap.size, 0, none⟩) 2 2)).other (a := ⟨w.heap.size, 5, none⟩) (by show _ ≠ w.heap.size; omega) (.int .i64 10)).other (a := ⟨w.heap.size, 6, none⟩) (by show _ ≠ w.heap.size; omega) (.int .i64 20))
  have n2 := hc1.size
  replace k2 := (((((((k2.other (a := ⟨w.heap.size, 0, none⟩) (by show _ ≠ w.heap.size; omega) (.int .i64 2)).other (a := ⟨w.heap.size, 1, none⟩) (by show _ ≠ w.heap.size; omega) (.int .i64 1)).other (a := ⟨w.heap.size, 2, none⟩) (by show _ ≠ w.heap.size; omega) (.int .i64 2)).other (a := ⟨w.heap.size, 3, none⟩) (by show _ ≠ w.heap.size; omega) (.int .i64 1)).other (a := ⟨w.heap.size, 4, none⟩) (by show _ ≠ w.heap.size; omega) (.slice (some ⟨A7.heap.size, 0, none⟩) 2 2)).other (a := ⟨w.heap.size, 5, none⟩) (by show _ ≠ w.heap.size; omega) (.int .i64 10)).other (a := ⟨w.heap.size, 6, none⟩) (by show _ ≠ w.heap.size; omega) (.int .i64 20))
  have n3 := hc2.size
  replace k3 := (((((((k3.other (a := ⟨w.heap.size, 0, none⟩) (by show _ ≠ w.heap.size; omega) (.int .i64 2)).other (a := ⟨w.heap.size, 1, none⟩) (by show _ ≠ w.heap.size; omega) (.int .i64 1)).other (a := ⟨w.heap.size, 2, none⟩) (by show _ ≠ w.heap.size; omega) (.int .i64 2)).other (a := ⟨w.heap.size, 3, none⟩) (by show _ ≠ w.heap.size; omega) (.int .i64 1)).other (a := ⟨w.heap.size, 4, none⟩) (by show _ ≠ w.heap.size; omega) (.slice (some ⟨A7.heap.size, 0, none⟩) 2 2)).other (a := ⟨w.heap.size, 5, none⟩) (by show _ ≠ w.heap.size; omega) (.int .i64 10)).other (a := ⟨w.heap.size, 6, none⟩) (by show _ ≠ w.heap.size; omega) (.int .i64 20))
  have n4 := hc3.size
  replace k4 := (((((((k4.other (a := ⟨w.heap.size, 0, none⟩) (by show _ ≠ w.heap.size; omega) (.int .i64 2)).other (a := ⟨w.heap.size, 1, none⟩) (by show _ ≠ w.heap.size; omega) (.int .i64 1)).other (a := ⟨w.heap.size, 2, none⟩) (by show _ ≠ w.heap.size; omega) (.int .i64 2)).other (a := ⟨w.heap.size, 3, none⟩) (by show _ ≠ w.heap.size; omega) (.int .i64 1)).other (a := ⟨w.heap.size, 4, none⟩) (by show _ ≠ w.heap.size; omega) (.slice (some ⟨A7.heap.size, 0, none⟩) 2 2)).other (a := ⟨w.heap.size, 5, none⟩) (by show _ ≠ w.heap.size; omega) (.int .i64 10)).other (a := ⟨w.heap.size, 6, none⟩) (by show _ ≠ w.heap.size; omega) (.int .i64 20))
  have n5 := hc4.size
  replace k5 := (((((((k5.other (a := ⟨w.heap.size, 0, none⟩) (by show _ ≠ w.heap.size; omega) (.int .i64 2)).other (a := ⟨w.heap.size, 1, none⟩) (by show _ ≠ w.heap.size; omega) (.int .i64 1)).other (a := ⟨w.heap.size, 2, none⟩) (by show _ ≠ w.heap.size; omega) (.int .i64 2)).other (a := ⟨w.heap.size, 3, none⟩) (by show _ ≠ w.heap.size; omega) (.int .i64 1)).other (a := ⟨w.heap.size, 4, none⟩) (by show _ ≠ w.heap.size; omega) (.slice (some ⟨A7.heap.size, 0, none⟩) 2 2)).other (a := ⟨w.heap.size, 5, none⟩) (by show _ ≠ w.heap.size; omega) (.int .i64 10)).other (a := ⟨w.heap.size, 6, none⟩) (by show _ ≠ w.heap.size; omega) (.int .i64 20))
  have n6 := hc5.size
  replace k6 := (((((((k6.other (a := ⟨w.heap.size, 0, none⟩) (by show _ ≠ w.heap.size; omega) (.int .i64 2)).other (a := ⟨w.heap.size, 1, none⟩) (by show _ ≠ w.heap.size; omega) (.int .i64 1)).other (a := ⟨w.heap.size, 2, none⟩) (by show _ ≠ w.heap.size; omega) (.int .i64 2)).other (a := ⟨w.heap.size, 3, none⟩) (by show _ ≠ w.heap.size; omega) (.int .i64 1)).other (a := ⟨w.heap.size, 4, none⟩) (by show _ ≠ w.heap.size; omega) (.slice (some ⟨A7.heap.size, 0, none⟩) 2 2)).other (a := ⟨w.heap.size, 5, none⟩) (by show _ ≠ w.heap.size; omega) (.int .i64 10)).other (a := ⟨w.heap.size, 6, none⟩) (by show _ ≠ w.heap.size; omega) (.int .i64 20))
  have n7 := hc6.size
  replace k7 := (((((((k7.other (a := ⟨w.heap.size, 0, none⟩) (by show _ ≠ w.heap.size; omega) (.int .i64 2)).other (a := ⟨w.heap.size, 1, none⟩) (by show _ ≠ w.heap.size; omega) (.int .i64 1)).other (a := ⟨w.heap.size, 2, none⟩) (by show _ ≠ w.heap.size; omega) (.int .i64 2)).other (a := ⟨w.heap.size, 3, none⟩) (by show _ ≠ w.heap.size; omega) (.int .i64 1)).other (a := ⟨w.heap.size, 4, none⟩) (by show _ ≠ w.heap.size; omega) (.slice (some ⟨A7.heap.size, 0, none⟩) 2 2)).other (a := ⟨w.heap.size, 5, none⟩) (by show _ ≠ w.heap.size; omega) (.int .i64 10)).other (a := ⟨w.heap.size, 6, none⟩) (by show _ ≠ w.heap.size; omega) (.int .i64 20))
  have n8 := hc7.size
  replace k8 := (((((((k8.other (a := ⟨w.heap.size, 0, none⟩) (by show _ ≠ w.heap.size; omega) (.int .i64 2)).other (a := ⟨w.heap.size, 1, none⟩) (by show _ ≠ w.heap.size; omega) (.int .i64 1)).other (a := ⟨w.heap.size, 2, none⟩) (by show _ ≠ w.heap.size; omega) (.int .i64 2)).other (a := ⟨w.heap.size, 3, none⟩) (by show _ ≠ w.heap.size; omega) (.int .i64 1)).other (a := ⟨w.heap.size, 4, none⟩) (by show _ ≠ w.heap.size; omega) (.slice (some ⟨A7.heap.size, 0, none⟩) 2 2)).other (a := ⟨w.heap.size, 5, none⟩) (by show _ ≠ w.heap.size; omega) (.int .i64 10)).other (a := ⟨w.heap.size, 6, none⟩) (by show _ ≠ w.heap.size; omega) (.int .i64 20))
  obtain ⟨Z, hZ⟩ : ∃ X, (((((((A8.setCell ⟨w.heap.size, 0, none⟩ (.int .i64 2)).setCell ⟨w.heap.size, 1, none⟩ (.int .i64 1)).setCell ⟨w.heap.size, 2, none⟩ (.int .i64 2)).setCell ⟨w.heap.size, 3, none⟩ (.int .i64 1)).setCell ⟨w.heap.size, 4, none⟩ (.slice (some ⟨A7.heap.size, 0, none⟩) 2 2)).setCell ⟨w.heap.size, 5, none⟩ (.int .i64 10)).setCell ⟨w.heap.size, 6, none⟩ (.int .i64 20)) = X := ⟨_, rfl⟩
  rw [hZ] at kz hz k1 k2 k3 k4 k5 k6 k7 k8
  have g0 := kz.cell (i := 0) rfl
  have g1 := kz.cell (i := 1) rfl
  have g2 := kz.cell (i := 2) rfl
  have g3 := kz.cell (i := 3) rfl
  have g4 := kz.cell (i := 4) rfl
  have g5 := kz.cell (i := 5) rfl
  have g6 := kz.cell (i := 6) rfl
  have hP : RdLs Z.heap.size Z (some ⟨A7.heap.size, 0, none⟩) twoN.Ls := by
    refine .inr ⟨A7.heap.size, 0, rfl, k8.lt, fun i hi => ?_⟩
    have hi2 : i < 2 := hi
    rcases (show i = 0 ∨ i = 1 by omega) with rfl | rfl
    · refine ⟨_, _, _, _, k8.cell (i := 0) rfl, k8.cell (i := 1) rfl, .inr ⟨A2.heap.size, 0, rfl, k3.lt, fun j hj => ?_⟩, rd_litA k4 rfl⟩
      have hj2 : j < 2 := hj
      rcases (show j = 0 ∨ j = 1 by omega) with rfl | rfl
      · exact ⟨_, _, k3.cell (i := 0) rfl, rd_litA k1 rfl⟩
      · exact ⟨_, _, k3.cell (i := 1) rfl, rd_litA k2 rfl⟩
    · refine ⟨_, _, _, _, k8.cell (i := 2) rfl, k8.cell (i := 3) rfl, .inr ⟨A5.heap.size, 0, rfl, k6.lt, fun j hj => ?_⟩, rd_litA k7 rfl⟩
      have hj2 : j < 1 := hj
      obtain rfl : j = 0 := by omega
      exact ⟨_, _, k6.cell (i := 0) rfl, rd_litA k5 rfl⟩
  go_enter Tryz.func13, Tryz.ntmps13
  go_wp2_with fail
  exact bodyPost_ret (v := netv twoN (some ⟨A7.heap.size, 0, none⟩) 2 2) (by simp [results, Tryz.results13, go_sem, g0, g1, g2, g3, g4, g5, g6, twoN]) rfl ⟨some ⟨A7.heap.size, 0, none⟩, 2, rfl, hP, hz⟩

end Go.Proofs.YtbdnjhnlfpfhcaaGreat

namespace Go.Proofs.YtbdnjhnlfpfhcaaGreat
open Go Go.RowKit Go.Shelf
set_option linter.unusedVariables false
set_option linter.unusedSimpArgs false

def flat : List (Int × Int) → List Int
  | [] => []
  | p :: l => p.1 :: p.2 :: flat l
theorem flat_length : ∀ l : List (Int × Int), (flat l).length = 2 * l.length
  | [] => rfl
  | p :: l => by rw [flat, List.length_cons, List.length_cons, flat_length l, List.length_cons]; omega
theorem flat_lo : ∀ (l : List (Int × Int)) (i : Nat), (flat l)[i * 2]?.getD 0 = loAt l i
  | [], i => by simp [flat, loAt]
  | p :: l, 0 => rfl
  | p :: l, i + 1 => by
    rw [flat, show (i + 1) * 2 = i * 2 + 1 + 1 by omega, List.getElem?_cons_succ, List.getElem?_cons_succ, flat_lo l i]
    unfold loAt; rw [List.getElem?_cons_succ]
theorem flat_hi : ∀ (l : List (Int × Int)) (i : Nat), (flat l)[i * 2 + 1]?.getD 0 = hiAt l i
  | [], i => by simp [flat, hiAt]
  | p :: l, 0 => rfl
  | p :: l, i + 1 => by
    rw [flat, show (i + 1) * 2 + 1 = i * 2 + 1 + 1 + 1 by omega, List.getElem?_cons_succ, List.getElem?_cons_succ, flat_hi l i]
    unfold hiAt; rw [List.getElem?_cons_succ]
theorem flat_set : ∀ (l : List (Int × Int)) (i : Nat) (a b : Int), ((flat l).set (i * 2) a).set (i * 2 + 1) b = flat (l.set i (a, b))
  | [], i, a, b => rfl
  | p :: l, 0, a, b => rfl
  | p :: l, i + 1, a, b => by
    rw [flat, show (i + 1) * 2 = i * 2 + 1 + 1 by omega, List.set_cons_succ, List.set_cons_succ, List.set_cons_succ, List.set_cons_succ, flat_set l i a b, List.set_cons_succ, flat]
theorem flat_rep : ∀ n : Nat, flat (List.replicate n (0, 0)) = List.replicate (2 * n) 0
  | 0 => rfl
  | n + 1 => by rw [List.replicate_succ, flat, flat_rep n, show 2 * (n + 1) = 2 * n + 1 + 1 by omega, List.replicate_succ, List.replicate_succ]
/-- What is filled so far. -/
def layP (F : Nat → Int × Int) (n k : Nat) : List (Int × Int) := (List.range n).map fun i => if i < k then F i else (0, 0)
theorem layP_length (F : Nat → Int × Int) (n k : Nat) : (layP F n k).length = n := by simp [layP]
theorem layP_zero (F : Nat → Int × Int) (n : Nat) : layP F n 0 = List.replicate n (0, 0) := by simp [layP, List.map_const']
theorem layP_all (F : Nat → Int × Int) (n : Nat) : layP F n n = (List.range n).map F := List.map_congr_left fun i hi => if_pos (List.mem_range.1 hi)
theorem layP_set (F : Nat → Int × Int) {n k : Nat} (hk : k < n) : (layP F n k).set k (F k) = layP F n (k + 1) := by
  refine List.ext_getElem (by simp [layP]) fun i h1 h2 => ?_
  simp only [List.length_set, layP_length] at h1
  rw [List.getElem_set]
  simp only [layP, List.getElem_map, List.getElem_range]
  by_cases e : k = i
  · subst e; rw [if_pos rfl, if_pos (by omega)]
  · rw [if_neg e]
    by_cases h : i < k
    · rw [if_pos h, if_pos (by omega)]
    · rw [if_neg h, if_neg (by omega)]
/-- What a row of pairs holds can be read. -/
theorem rowP_rd {W : World} {base : Nat} {e : TypeId} {a : Option Addr} {c n : Nat} {ys : List Int} (hn : ys.length = 2 * n) (h : W.ownsRow base e 2 (.slice a n c) n (ys.map (Value.int .i64))) : Rd W.heap.size W a ys := by
  rcases h.2 with ⟨h1, h2⟩ | ⟨g, cap, cur, h1, _, hg, _⟩
  · exact .inl (List.eq_nil_of_length_eq_zero (by omega))
  · simp only [Value.slice.injEq, true_and] at h1
    obtain ⟨rfl, rfl⟩ := h1
    refine .inr ⟨g, 0, rfl, (Array.getElem?_eq_some_iff.1 hg).1, fun i hi => ?_⟩
    have := h.cellAt i (by omega)
    rw [Nat.zero_add, this]
    simp [hi]
theorem jinfo_bnd : (Tryz.prog.info? 88).map (fun i => (i.zero, i.size, i.bytes)) = some (some (.agg #[.int .i64 0, .int .i64 0]), 2, 16) := by kernel_rfl
theorem jmade_bnd (n : Nat) : (madeCells (Value.agg #[.int .i64 0, .int .i64 0]).cells (n * 2)).toList = (flat (List.replicate n (0, 0))).map (Value.int .i64) := by
  rw [flat_rep]
  refine List.ext_getElem (by simp [size_madeCells]; omega) fun i h1 h2 => ?_
  have : i % 2 = 0 ∨ i % 2 = 1 := by omega
  simp [madeCells, Value.cells]
  rcases this with h | h <;> simp [h]

/-- A pair is stored into a row of pairs. -/
theorem rowP_store {W : World} {base : Nat} {e : TypeId} {g n j : Nat} {F : Nat → Int × Int} (h : W.ownsRow base e 2 (.slice (some ⟨g, 0, none⟩) n n) n ((flat (layP F n j)).map (Value.int .i64))) (hj : j < n) {a b : Int} (hF : F j = (a, b)) :
    (∃ u, W.cell? ⟨g, j * 2, none⟩ = some (.int .i64 u)) ∧ (∃ u, W.cell? ⟨g, j * 2 + 1, none⟩ = some (.int .i64 u)) ∧ W.frozen? ⟨g, j * 2, none⟩ = false ∧ W.frozen? ⟨g, j * 2 + 1, none⟩ = false ∧
      ((W.setCell ⟨g, j * 2, none⟩ (.int .i64 a)).setCell ⟨g, j * 2 + 1, none⟩ (.int .i64 b)).ownsRow base e 2 (.slice (some ⟨g, 0, none⟩) n n) n ((flat (layP F n (j + 1))).map (Value.int .i64)) := by
  have hlen : (flat (layP F n j)).length = 2 * n := by rw [flat_length, layP_length]
  have c0 := h.cellAt (j * 2) (by omega)
  have c1 := h.cellAt (j * 2 + 1) (by omega)
  rw [List.getElem?_map, List.getElem?_eq_getElem (by omega)] at c0 c1
  refine ⟨⟨_, c0⟩, ⟨_, c1⟩, h.frozenAt _, h.frozenAt _, ?_⟩
  have s1 := (h.stored (j * 2) (.int .i64 a)).1
  have s2 := (s1.stored (j * 2 + 1) (.int .i64 b)).1
  rw [map_set_i, map_set_i, flat_set, ← hF, layP_set F hj] at s2
  exact s2

end Go.Proofs.YtbdnjhnlfpfhcaaGreat

/- The specification's Threshold. -/
import Derived.Test.YtaejdgjfnoefjaaTj
import Derived.Lib.MinMax
namespace Go.Proofs.Ytaejdgjfnoefjaa
open Go Go.RowKit Go.Shelf
set_option linter.unusedVariables false
set_option linter.unusedSimpArgs false

theorem rd_some {B : Nat} {W : World} {a : Option Addr} {xs : List Int} (h : xs ≠ []) (hr : Rd B W a xs) : ∃ b o, a = some ⟨b, o, none⟩ ∧ b < B ∧ ∀ i, i < xs.length → W.cell? ⟨b, o + i, none⟩ = some (.int .i64 (xs[i]?.getD 0)) := by
  rcases hr with h0 | h1
  · exact (h h0).elim
  · exact h1
theorem foldl_top {zs : List Int} {k : Nat} {M : Int} (hk : k < zs.length) (h : M ∈ zs ∧ ∀ x ∈ zs.take k, x ≤ M) : max M (zs[k]?.getD 0) ∈ zs ∧ ∀ x ∈ zs.take (k + 1), x ≤ max M (zs[k]?.getD 0) := by
  rw [List.getElem?_eq_getElem hk]
  simp only [Option.getD_some]
  refine ⟨?_, fun x hx => ?_⟩
  · by_cases c : M ≤ zs[k]
    · rw [Int.max_eq_right c]; exact List.getElem_mem hk
    · rw [Int.max_eq_left (by omega)]; exact h.1
  · rw [List.take_succ_eq_append_getElem hk] at hx
    rcases List.mem_append.1 hx with hx | hx
    · have := h.2 x hx; omega
    · simp at hx; omega
/-- The best one of the first k and of the first. -/
theorem IsBest.step {c : Int → Int} {l : List Int} {k : Nat} {t x : Int} (hk : k < l.length) (hx : l[k]?.getD 0 = x) (h : t ∈ l ∧ ∀ s ∈ l.take k, c t < c s ∨ (c t = c s ∧ t ≤ s)) :
    ((c x < c t ∨ (c x = c t ∧ x < t)) → x ∈ l ∧ ∀ s ∈ l.take (k + 1), c x < c s ∨ (c x = c s ∧ x ≤ s)) ∧ (¬ (c x < c t ∨ (c x = c t ∧ x < t)) → t ∈ l ∧ ∀ s ∈ l.take (k + 1), c t < c s ∨ (c t = c s ∧ t ≤ s)) := by
  have e : l.take (k + 1) = l.take k ++ [x] := by rw [List.take_succ_eq_append_getElem hk, ← hx, List.getElem?_eq_getElem hk]; rfl
  rw [e]
  have hm : x ∈ l := by rw [← hx, List.getElem?_eq_getElem hk]; exact List.getElem_mem hk
  refine ⟨fun hc => ⟨hm, fun s hs => ?_⟩, fun hc => ⟨h.1, fun s hs => ?_⟩⟩
  · rcases List.mem_append.1 hs with h1 | h1
    · have := h.2 s h1; omega
    · simp at h1; subst h1; exact .inr ⟨rfl, Int.le_refl _⟩
  · rcases List.mem_append.1 hs with h1 | h1
    · exact h.2 s h1
    · simp at h1; subst h1; omega

set_option maxRecDepth 100000 in
set_option maxHeartbeats 8000000 in
theorem rThreshold_any (ga ba : Option Addr) (gc bc gn bn : Nat) (gs bs : List Int) (hgn : gs.length = gn) (hbn : bs.length = bn) (hgl : gn ≤ 9223372036854775807) (hbl : bn ≤ 9223372036854775807) (miss alarm : Int)
    (w : World) (hrg : Rd w.heap.size w ga gs) (hrb : Rd w.heap.size w ba bs) :
    Calls Try.prog 35 #[.slice ga gn gc, .slice ba bn bc, .int .i64 miss, .int .i64 alarm] w (RetTh gs bs miss alarm w) := by
  obtain ⟨i0, hi, hz0, hz1, hz2⟩ := info_parts jinfo_int
  have tok1 : True := trivial
  have tok2 : True := trivial
  have tok3 : True := trivial
  have tok4 : True := trivial
  obtain ⟨vg, hvg⟩ : ∃ v, scoB gs = v := ⟨_, rfl⟩
  obtain ⟨vb, hvb⟩ : ∃ v, scoB bs = v := ⟨_, rfl⟩
  obtain ⟨vm, hvm⟩ : ∃ v, decide (0 ≤ miss ∧ miss ≤ 10000) = v := ⟨_, rfl⟩
  obtain ⟨va, hva⟩ : ∃ v, decide (0 ≤ alarm ∧ alarm ≤ 10000) = v := ⟨_, rfl⟩
  have hwg := rScores_any ga gc gn gs hgn hgl w hrg
  have hwb := rScores_any ba bc bn bs hbn hbl w hrb
  have hwm := rin_any miss 0 10000 vm hvm w
  have hwa := rin_any alarm 0 10000 va hva w
  rw [hvg] at hwg
  rw [hvb] at hwb
  have hwgH := Lib.hid hwg
  have hwbH := Lib.hid hwb
  have hwmH := Lib.hid hwm
  have hwaH := Lib.hid hwa
  have hT : thrB gs bs miss alarm = ((vg && vb) && (vm && va)) := by
    unfold thrB
    rw [hvg, hvb, ← hvm, ← hva]
    congr 1
    unfold allIn
    simp [Bool.and_assoc]
  have hTH := Lib.hid hT
  have badH := Lib.hid (fun (W : World) (hb : Below w.heap.size w W) (h : thrB gs bs miss alarm = false) => (⟨0, 0, 2, rfl, hb, ThS.ofBad h⟩ : RetTh gs bs miss alarm w (.returned (.tuple #[.int .i64 0, .int .i64 0, .int .i64 2])) W))
  have hvgH := Lib.hid hvg
  have hvbH := Lib.hid hvb
  have hvmH := Lib.hid hvm
  have hvaH := Lib.hid hva
  have hrgH := Lib.hid hrg
  have hrbH := Lib.hid hrb
  have hgnH := Lib.hid hgn
  have hbnH := Lib.hid hbn
  clear hwg hwb hwm hwa hT hvg hvb hvm hva hrg hrb hgn hbn
  cases vg with
  | false =>
    clear hwbH hwmH hwaH
    go_enter Try.func35, Try.ntmps35
    go_wp2_with (first | (go_at_call 78; have _t := tok1; refine hwgH.out.mono ?_; clear _t tok1; rintro e w1 ⟨rfl, rfl⟩) | (refine ⟨trivial, ?_⟩))
    go_ret3
    exact badH.out _ (Below.refl _ w) (by rw [hTH.out]; simp)
  | true =>
  cases vb with
  | false =>
    clear hwmH hwaH
    go_enter Try.func35, Try.ntmps35
    go_wp2_with (first | (go_at_call 78; have _t := tok1; refine hwgH.out.mono ?_; clear _t tok1; rintro e w1 ⟨rfl, rfl⟩) | (go_at_call 78; have _t := tok2; refine hwbH.out.mono ?_; clear _t tok2; rintro e w1 ⟨rfl, rfl⟩) | (refine ⟨trivial, ?_⟩))
    go_ret3
    exact badH.out _ (Below.refl _ w) (by rw [hTH.out]; simp)
  | true =>
  cases vm with
  | false =>
    clear hwaH
    go_enter Try.func35, Try.ntmps35
    go_wp2_with (first | (go_at_call 78; have _t := tok1; refine hwgH.out.mono ?_; clear _t tok1; rintro e w1 ⟨rfl, rfl⟩) | (go_at_call 78; have _t := tok2; refine hwbH.out.mono ?_; clear _t tok2; rintro e w1 ⟨rfl, rfl⟩) | (go_at_call 61; have _t := tok3; refine hwmH.out.mono ?_; clear _t tok3; rintro e w1 ⟨rfl, rfl⟩) | (refine ⟨trivial, ?_⟩))
    go_ret3
    exact badH.out _ (Below.refl _ w) (by rw [hTH.out]; simp)
  | true =>
  cases va with
  | false =>
    go_enter Try.func35, Try.ntmps35
    go_wp2_with (first | (go_at_call 78; have _t := tok1; refine hwgH.out.mono ?_; clear _t tok1; rintro e w1 ⟨rfl, rfl⟩) | (go_at_call 78; have _t := tok2; refine hwbH.out.mono ?_; clear _t tok2; rintro e w1 ⟨rfl, rfl⟩) | (go_at_call 61; have _t := tok3; refine hwmH.out.mono ?_; clear _t tok3; rintro e w1 ⟨rfl, rfl⟩) | (go_at_call 61; have _t := tok4; refine hwaH.out.mono ?_; clear _t tok4; rintro e w1 ⟨rfl, rfl⟩) | (refine ⟨trivial, ?_⟩))
    go_ret3
    exact badH.out _ (Below.refl _ w) (by rw [hTH.out]; simp)
  | true =>
  have hval : thrB gs bs miss alarm = true := by rw [hTH.out]; rfl
  have hm1 := of_decide_eq_true hvmH.out
  have ha1 := of_decide_eq_true hvaH.out
  have hg100 : gn ≤ 100 := by have := hvgH.out; unfold scoB at this; rw [hgnH.out] at this; simp at this; exact this.1
  have hb100 : bn ≤ 100 := by have := hvbH.out; unfold scoB at this; rw [hbnH.out] at this; simp at this; exact this.1
  obtain ⟨zs, hzs⟩ : ∃ zs, gs ++ bs = zs := ⟨_, rfl⟩
  obtain ⟨m, hm⟩ : ∃ m, gn + bn = m := ⟨_, rfl⟩
  have hzl : zs.length = m := by rw [← hzs, ← hm, List.length_append, hgnH.out, hbnH.out]
  have hzb : ∀ x ∈ zs, -1152921504606846976 ≤ x ∧ x ≤ 1152921504606846976 := fun x hx => by
    have e1 := hvgH.out
    have e2 := hvbH.out
    unfold scoB at e1 e2
    rw [Bool.and_eq_true] at e1 e2
    rw [← hzs] at hx
    rcases List.mem_append.1 hx with h | h
    · exact allIn_mem e1.2 h
    · exact allIn_mem e2.2 h
  have hB1 : Below w.heap.size w (w.alloc (.cells #[] 3)) := jb_al (Below.refl _ w) _
  have own1 := World.ownsRow_made (e := 3) (size := 1) (base := w.heap.size) w #[] 0 (Nat.le_refl _) (by decide) rfl
  have hn1 := ((hrgH.out.below (Nat.le_refl _) hB1)).news hgnH.out
  have hn2 := Lib.hid (fun (W : World) (hb : Below w.heap.size w W) => ((hrbH.out.below (Nat.le_refl _) hb)).news hbnH.out)
  have own1H := Lib.hid own1
  have hn1H := Lib.hid hn1
  have hone1 := Lib.hid (vint_one gs)
  have hone2 := Lib.hid (vint_one bs)
  have hmap := Lib.hid (show gs.map (Value.int .i64) ++ bs.map (Value.int .i64) = zs.map (Value.int .i64) by rw [← hzs, List.map_append])
  have hB1H := Lib.hid hB1
  have hmH := Lib.hid hm
  have hms : m ≤ 200 := by omega
  have hzbH := Lib.hid hzb
  have hzlH := Lib.hid hzl
  have hzsH := Lib.hid hzs
  have hvalH := Lib.hid hval
  have hcT := Lib.hid (fun t => costT_bd (good := gs) (bad := bs) (miss := miss) (alarm := alarm) (t := t) hm1.1 hm1.2 ha1.1 ha1.2 (by rw [hgnH.out]; exact hg100) (by rw [hbnH.out]; exact hb100))
  have hcostH := Lib.hid (fun (t : Int) (W : World) (hb : Below w.heap.size w W) => Cost_any ga ba gc bc gn bn gs bs hgnH.out hbnH.out hg100 hb100 miss alarm t hm1.1 hm1.2 ha1.1 ha1.2 W (rd_later hrgH.out hb) (rd_later hrbH.out hb))
  clear hzb hzl hzs hval hm badH hTH hvgH hvbH hvmH hvaH own1 hn1 hB1
  by_cases h0 : m = 0
  · have hz0' : zs = [] := List.eq_nil_of_length_eq_zero (by rw [hzlH.out]; exact h0)
    have ezH := Lib.hid (hzsH.out.trans hz0')
    clear hz0' hcostH
    go_enter Try.func35, Try.ntmps35
    go_wp2_with (first | (go_at_call 78; have _t := tok1; refine hwgH.out.mono ?_; clear _t tok1; rintro e w1 ⟨rfl, rfl⟩) | (go_at_call 78; have _t := tok2; refine hwbH.out.mono ?_; clear _t tok2; rintro e w1 ⟨rfl, rfl⟩) | (go_at_call 61; have _t := tok3; refine hwmH.out.mono ?_; clear _t tok3; rintro e w1 ⟨rfl, rfl⟩) | (go_at_call 61; have _t := tok4; refine hwaH.out.mono ?_; clear _t tok4; rintro e w1 ⟨rfl, rfl⟩) | (at_builtin; refine wpList_append_any rfl (.tmp 36) (.tmp 37) 24 rfl w.heap.size 3 i0 (.int .i64 0) 8 Try.underlying24 hi hz0 hz1 hz2 rfl (.slice (some ⟨w.heap.size, 0, none⟩) 0 0) 0 [] rfl own1H.out ga gn gc (gs.map (Value.int .i64)) rfl (by rw [List.length_map]; exact hgnH.out) hn1H.out hone1.out (by unfold maxLen; omega) (by omega) hB1H.out.size ?_; intro v2 W2 own2 hg2 _; rw [Nat.zero_add, List.nil_append] at own2; have hB2 := hB1H.out.grown hg2 hB1H.out.size (fun k e => (own1H.out.lt k e).1); have hn2' := Lib.hid (hn2.out W2 hB2); have own2H := Lib.hid own2; clear hg2 own2) | (at_builtin; refine wpList_append_any rfl (.tmp 38) (.tmp 39) 24 rfl w.heap.size 3 i0 (.int .i64 0) 8 Try.underlying24 hi hz0 hz1 hz2 rfl v2 gn (gs.map (Value.int .i64)) rfl own2H.out ba bn bc (bs.map (Value.int .i64)) rfl (by rw [List.length_map]; exact hbnH.out) hn2'.out hone2.out (by unfold maxLen; omega) (by omega) hB2.size ?_; intro v3 W3 own3 hg3 _; rw [hmH.out, hmap.out] at own3; have hB3 := hB2.grown hg3 hB2.size (fun k e => (own2H.out.lt k e).1); obtain ⟨a3, c3, rfl⟩ := jrow_slice own3; have own3H := Lib.hid own3; clear hg3 own3 own2H hn2' hB2) | (refine ⟨trivial, ?_⟩))
    go_ret3
    exact ⟨0, 0, 0, rfl, hB3, ThS.ofNone hvalH.out ezH.out⟩
  have hne : zs ≠ [] := fun h => by have := hzlH.out; rw [h] at this; simp at this; omega
  have hneH := Lib.hid hne
  obtain ⟨z0, hz00⟩ : ∃ z, zs[0]?.getD 0 = z := ⟨_, rfl⟩
  have hz0m : z0 ∈ zs := by
    rw [← hz00, List.getElem?_eq_getElem (by have := hzlH.out; omega)]
    exact List.getElem_mem _
  have hz0mH := Lib.hid hz0m
  have hz00H := Lib.hid hz00
  clear hne hz00 hz0m
  go_enter Try.func35, Try.ntmps35
  go_wp2_with (first | (go_at_call 78; have _t := tok1; refine hwgH.out.mono ?_; clear _t tok1; rintro e w1 ⟨rfl, rfl⟩) | (go_at_call 78; have _t := tok2; refine hwbH.out.mono ?_; clear _t tok2; rintro e w1 ⟨rfl, rfl⟩) | (go_at_call 61; have _t := tok3; refine hwmH.out.mono ?_; clear _t tok3; rintro e w1 ⟨rfl, rfl⟩) | (go_at_call 61; have _t := tok4; refine hwaH.out.mono ?_; clear _t tok4; rintro e w1 ⟨rfl, rfl⟩) | (at_builtin; refine wpList_append_any rfl (.tmp 36) (.tmp 37) 24 rfl w.heap.size 3 i0 (.int .i64 0) 8 Try.underlying24 hi hz0 hz1 hz2 rfl (.slice (some ⟨w.heap.size, 0, none⟩) 0 0) 0 [] rfl own1H.out ga gn gc (gs.map (Value.int .i64)) rfl (by rw [List.length_map]; exact hgnH.out) hn1H.out hone1.out (by unfold maxLen; omega) (by omega) hB1H.out.size ?_; intro v2 W2 own2 hg2 _; rw [Nat.zero_add, List.nil_append] at own2; have hB2 := hB1H.out.grown hg2 hB1H.out.size (fun k e => (own1H.out.lt k e).1); have hn2' := Lib.hid (hn2.out W2 hB2); have own2H := Lib.hid own2; clear hg2 own2) | (at_builtin; refine wpList_append_any rfl (.tmp 38) (.tmp 39) 24 rfl w.heap.size 3 i0 (.int .i64 0) 8 Try.underlying24 hi hz0 hz1 hz2 rfl v2 gn (gs.map (Value.int .i64)) rfl own2H.out ba bn bc (bs.map (Value.int .i64)) rfl (by rw [List.length_map]; exact hbnH.out) hn2'.out hone2.out (by unfold maxLen; omega) (by omega) hB2.size ?_; intro v3 W3 own3 hg3 _; rw [hmH.out, hmap.out] at own3; have hB3 := hB2.grown hg3 hB2.size (fun k e => (own2H.out.lt k e).1); obtain ⟨a3, c3, rfl⟩ := jrow_slice own3; have own3H := Lib.hid own3; clear hg3 own3 own2H hn2' hB2; obtain ⟨b3, o3, rfl, hb3, hc3'⟩ := rd_some hneH.out (rowI_rd hzlH.out own3H.out); have d0 := hc3' 0 (by have := hzlH.out; omega); rw [Nat.add_zero, hz00H.out] at d0; have hc3 := Lib.hid hc3'; clear hc3' hb3) | (refine ⟨trivial, ?_⟩))
  go_loop [12, 13] (fun s i => ∃ (k : Nat) (M : Int), i = .int .i64 (k : Int) ∧ s = .int .i64 M ∧ k ≤ m ∧ Hid (M ∈ zs ∧ ∀ x ∈ zs.take k, x ≤ M)) (fun _ i => m - (intOf i).toNat)
  case atStart => exact ⟨0, z0, rfl, rfl, Nat.zero_le _, Lib.hid ⟨hz0mH.out, fun x hx => by simp at hx⟩⟩
  case round =>
    obtain ⟨k, M, rfl, rfl, hk, hM⟩ := hrel
    by_cases hlt : k < m
    · have hkl : k < zs.length := by have := hzlH.out; omega
      have hcell := hc3.out k hkl
      obtain ⟨x, hx⟩ : ∃ x, zs[k]?.getD 0 = x := ⟨_, rfl⟩
      have hnx := foldl_top hkl hM.out
      rw [hx] at hcell hnx
      obtain ⟨y, hy⟩ : ∃ y, max M x = y := ⟨_, rfl⟩
      rw [hy] at hnx
      have hnxH := Lib.hid hnx
      clear hnx hx hM d0
      go_wp2
      go_round
      case rel => exact ⟨k + 1, y, by go_num, rfl, by omega, hnxH⟩
      case measure => simp [intOf]; omega
    · have hkm : k = m := by omega
      have hTop : Top M zs := by
        have h := hM.out
        rw [hkm, ← hzlH.out, List.take_length] at h
        exact ⟨h.1, h.2⟩
      have hMb := hzbH.out M hTop.mem
      have hTopH := Lib.hid hTop
      subst hkm
      clear hTop hM d0 hc3
      go_wp2_with (first | (at_builtin; refine wpList_append_own _ rfl (.tmp 59) (.tmp 62) 24 rfl w.heap.size 3 i0 (.int .i64 0) 1 8 Try.underlying24 hi hz0 hz1 hz2 rfl (by decide) (.slice (some ⟨b3, o3, none⟩) k c3) k (zs.map (Value.int .i64)) rfl (own3H.out.alloc _) ⟨W3.heap.size, 0, none⟩ 1 1 [.int .i64 (M + 1)] rfl rfl (cell_one_new _ _ _) (by simp [Value.oneCell']) (by unfold maxLen; omega) (by omega) (jb_al hB3 _).size ?_; intro v4 W4 own4 hg4 _; have hB4 := (jb_al hB3 (.cells #[.int .i64 (M + 1)] 3)).grown hg4 (jb_al hB3 _).size (fun k e => ((own3H.out.alloc (.cells #[.int .i64 (M + 1)] 3)).lt k e).1); have own5 : W4.ownsRow w.heap.size 3 1 v4 (k + 1) ((zs ++ [M + 1]).map (Value.int .i64)) := (by simpa using own4); clear hg4 own4; obtain ⟨a4, c4, rfl⟩ := jrow_slice own5; obtain ⟨b4, o4, rfl, hb4, hc4'⟩ := rd_some (show zs ++ [M + 1] ≠ [] from by simp) (rowI_rd (by rw [List.length_append, hzlH.out]; rfl) own5); have d0 := hc4' 0 (by simp); rw [Nat.add_zero, show (zs ++ [M + 1])[0]?.getD 0 = z0 from (by rw [List.getElem?_append_left (by have := hzlH.out; omega)]; exact hz00H.out)] at d0; have hc4 := Lib.hid hc4'; clear hc4' hb4 own5) | (refine ⟨trivial, ?_⟩))
      have hlen4 : (zs ++ [M + 1]).length = k + 1 := by rw [List.length_append, hzlH.out]; rfl
      have hls : ∃ ls, zs ++ [M + 1] = ls := ⟨_, rfl⟩
      obtain ⟨ls, hls⟩ := hls
      go_loop [14, 15] (fun s i => ∃ (q : Nat) (t : Int), i = .int .i64 (q : Int) ∧ s = .int .i64 t ∧ q ≤ k + 1 ∧ Hid (t ∈ zs ++ [M + 1] ∧ ∀ s ∈ (zs ++ [M + 1]).take q, costT gs bs miss alarm t < costT gs bs miss alarm s ∨ (costT gs bs miss alarm t = costT gs bs miss alarm s ∧ t ≤ s))) (fun _ i => k + 1 - (intOf i).toNat)
      case atStart => exact ⟨0, z0, rfl, rfl, Nat.zero_le _, Lib.hid ⟨List.mem_append_left _ hz0mH.out, fun x hx => by simp at hx⟩⟩
      case round =>
        obtain ⟨q, t, rfl, rfl, hq, hbest⟩ := hrel
        have hct := hcostH.out t W4 hB4
        obtain ⟨ct, hct'⟩ : ∃ c, costT gs bs miss alarm t = c := ⟨_, rfl⟩
        rw [hct'] at hct
        by_cases hlt : q < k + 1
        · have hql : q < (zs ++ [M + 1]).length := by omega
          have hcell := hc4.out q hql
          obtain ⟨x, hx⟩ : ∃ x, (zs ++ [M + 1])[q]?.getD 0 = x := ⟨_, rfl⟩
          rw [hx] at hcell
          have hnx := IsBest.step hql hx hbest.out
          have hcx := hcostH.out x W4 hB4
          obtain ⟨cx, hcx'⟩ : ∃ c, costT gs bs miss alarm x = c := ⟨_, rfl⟩
          rw [hcx', hct'] at hnx
          rw [hcx'] at hcx
          have hcxH := Lib.hid hcx
          have hctH := Lib.hid hct
          have tokx : True := trivial
          by_cases hc : cx < ct ∨ (cx = ct ∧ x < t)
          · have hnew := hnx.1 hc
            rw [← hcx'] at hnew
            have hnewH := Lib.hid hnew
            clear hnew hnx hcx hct hx hbest d0 hcx' hct' hls
            by_cases hc1 : cx < ct
            · clear hc
              go_wp2_with (first | (go_at_call 79; have _t := tokx; refine hcxH.out.mono ?_; clear _t tokx; rintro e w1 ⟨rfl, rfl⟩) | (go_at_call 79; refine hctH.out.mono ?_; rintro e w1 ⟨rfl, rfl⟩) | (refine ⟨trivial, ?_⟩))
              go_round
              case rel => exact ⟨q + 1, x, by go_num, rfl, by omega, hnewH⟩
              case measure => simp [intOf]; omega
            · have hc2 : cx = ct := by omega
              have hc3' : x < t := by omega
              subst hc2
              clear hc hc1
              go_wp2_with (first | (go_at_call 79; have _t := tokx; refine hcxH.out.mono ?_; clear _t tokx; rintro e w1 ⟨rfl, rfl⟩) | (go_at_call 79; refine hctH.out.mono ?_; rintro e w1 ⟨rfl, rfl⟩) | (refine ⟨trivial, ?_⟩))
              go_round
              case rel => exact ⟨q + 1, x, by go_num, rfl, by omega, hnewH⟩
              case measure => simp [intOf]; omega
          · have hnew := hnx.2 hc
            rw [← hct'] at hnew
            have hnewH := Lib.hid hnew
            have hc1 : ¬ cx < ct := by omega
            clear hnew hnx hcx hct hx hbest d0 hcx' hct' hls
            by_cases hc2 : cx = ct
            · have hc3' : ¬ x < t := by omega
              subst hc2
              clear hc hc1
              go_wp2_with (first | (go_at_call 79; have _t := tokx; refine hcxH.out.mono ?_; clear _t tokx; rintro e w1 ⟨rfl, rfl⟩) | (go_at_call 79; refine hctH.out.mono ?_; rintro e w1 ⟨rfl, rfl⟩) | (refine ⟨trivial, ?_⟩))
              go_round
              case rel => exact ⟨q + 1, t, by go_num, rfl, by omega, hnewH⟩
              case measure => simp [intOf]; omega
            · clear hc
              go_wp2_with (first | (go_at_call 79; have _t := tokx; refine hcxH.out.mono ?_; clear _t tokx; rintro e w1 ⟨rfl, rfl⟩) | (go_at_call 79; refine hctH.out.mono ?_; rintro e w1 ⟨rfl, rfl⟩) | (refine ⟨trivial, ?_⟩))
              go_round
              case rel => exact ⟨q + 1, t, by go_num, rfl, by omega, hnewH⟩
              case measure => simp [intOf]; omega
        · have hqk : q = k + 1 := by omega
          have hfin : RetTh gs bs miss alarm w (.returned (.tuple #[.int .i64 t, .int .i64 ct, .int .i64 0])) W4 := by
            have hb := hbest.out
            rw [hqk, ← hlen4, List.take_length] at hb
            refine ⟨t, ct, 0, rfl, hB4, ?_⟩
            rw [← hct']
            exact ThS.ofSome hvalH.out (by rw [hzsH.out]; exact hneH.out) (M := M) (by rw [hzsH.out]; exact hTopH.out) (by rw [hzsH.out]; exact ⟨hb.1, hb.2⟩)
          have hfinH := Lib.hid hfin
          have hctH := Lib.hid hct
          clear hfin hct hbest d0 hct' hls
          go_wp2_with (first | (go_at_call 79; refine hctH.out.mono ?_; rintro e w1 ⟨rfl, rfl⟩) | (refine ⟨trivial, ?_⟩))
          go_ret3
          exact hfinH.out

end Go.Proofs.Ytaejdgjfnoefjaa

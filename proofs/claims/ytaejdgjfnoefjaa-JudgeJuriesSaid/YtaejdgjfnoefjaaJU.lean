/- The specification's Reconcile. -/
import Derived.Test.YtaejdgjfnoefjaaJS
import Derived.Laws.BytesArg
import Derived.Shelf.Bytes.SlSmallAll
namespace Go.Proofs.Ytaejdgjfnoefjaa
open Go Go.RowKit Go.Shelf
set_option linter.unusedVariables false
set_option linter.unusedSimpArgs false

/-! ### Bytes as text -/

def bsN (xs : List Nat) : ByteArray := strOfNums (xs.map fun x : Nat => (x : Int))
theorem bsN_inj : ∀ {xs ys : List Nat}, (∀ x ∈ xs, x < 256) → (∀ x ∈ ys, x < 256) → bsN xs = bsN ys → xs = ys := by
  intro xs ys hx hy h
  have h1 : (bsN xs).data.toList = (bsN ys).data.toList := by rw [h]
  unfold bsN at h1
  rw [strOfNums_data, strOfNums_data, List.map_map, List.map_map] at h1
  refine List.ext_getElem? fun i => ?_
  have h2 := congrArg (fun l => l[i]?) h1
  simp only [List.getElem?_map] at h2
  cases e1 : xs[i]? with
  | none =>
    cases e2 : ys[i]? with
    | none => rfl
    | some y => simp [e1, e2] at h2
  | some x =>
    cases e2 : ys[i]? with
    | none => simp [e1, e2] at h2
    | some y =>
      simp only [e1, e2, Option.map_some, Function.comp, Option.some.injEq, Int.toNat_natCast] at h2
      have a1 := hx x (List.mem_of_getElem? e1)
      have a2 := hy y (List.mem_of_getElem? e2)
      have h3 := congrArg UInt8.toNat h2
      simp only [UInt8.toNat_ofNat'] at h3
      rw [Nat.mod_eq_of_lt (by simpa using a1), Nat.mod_eq_of_lt (by simpa using a2)] at h3
      rw [h3]

theorem bsN_beq {xs ys : List Nat} (hx : ∀ x ∈ xs, x < 256) (hy : ∀ x ∈ ys, x < 256) : ((bsN xs).toList == (bsN ys).toList) = decide (xs = ys) := by
  by_cases h : xs = ys
  · subst h; simp
  · rw [show decide (xs = ys) = false by simp [h], beq_eq_false_iff_ne]
    intro e
    rw [ByteArray.toList_eq, ByteArray.toList_eq] at e
    exact h (bsN_inj hx hy (by cases h1 : bsN xs; cases h2 : bsN ys; rw [h1, h2] at e; simp at e; simp [e]))

theorem conv_bytes {W : World} {B : Nat} {a : Option Addr} {xs : List Nat} {n : Nat} (c : Nat) (hn : xs.length = n) (h : RdN B W a xs) : (convert 23 9 (.slice a n c)).run Try.prog W = .ok (.string (bsN xs)) W := by
  rcases h with h | ⟨b, o, h1, h2, h3⟩
  · subst h
    simp at hn
    subst hn
    rw [show bsN [] = ByteArray.empty from rfl]
    exact run_convert_bytes_zero W 23 5 Try.underlying23 Try.underlying5 a c 9 Try.underlying9
  · subst h1
    refine run_convert_bytes_arg W 23 5 Try.underlying23 Try.underlying5 b o n c (xs.map fun x : Nat => (x : Int)) (by simpa using hn) (fun i hi => ?_) 9 Try.underlying9
    rw [h3 i (by omega)]
    rw [List.getD_eq_getElem?_getD, List.getElem?_map, List.getElem?_eq_getElem (by omega)]
    rfl

/-! ### Rows that are written place by place -/

def mixJ (f : Nat → Int) (L : List Int) (k : Nat) : List Int := (List.range L.length).map fun j => if j < k then f j else L[j]?.getD 0
theorem mixJ_length (f : Nat → Int) (L : List Int) (k : Nat) : (mixJ f L k).length = L.length := by simp [mixJ]
theorem mixJ_zero (f : Nat → Int) (L : List Int) : mixJ f L 0 = L := by
  refine List.ext_getElem (by simp [mixJ]) fun i h1 h2 => ?_
  simp [mixJ, h2]
theorem mixJ_all (f : Nat → Int) (L : List Int) {n : Nat} (hn : L.length = n) : mixJ f L n = (List.range n).map f := by
  subst hn
  refine List.ext_getElem (by simp [mixJ]) fun i h1 h2 => ?_
  simp only [List.length_map, List.length_range] at h2
  simp [mixJ, h2]
theorem mixJ_set (f : Nat → Int) (L : List Int) {k : Nat} (hk : k < L.length) : (mixJ f L k).set k (f k) = mixJ f L (k + 1) := by
  refine List.ext_getElem (by simp [mixJ]) fun i h1 h2 => ?_
  simp only [mixJ, List.getElem_set, List.getElem_map, List.getElem_range]
  by_cases e : k = i
  · subst e; simp
  · rw [if_neg e]
    by_cases h : i < k
    · rw [if_pos h, if_pos (by omega)]
    · rw [if_neg h, if_neg (by omega)]

/-! ### What the jury's functions return -/

theorem vldJ_true {xss : List (List Nat)} (h : vldJ xss = true) : 1 ≤ xss.length ∧ xss.length ≤ 8 ∧ len0 xss ≤ 100 ∧ (∀ (i : Nat) (xs : List Nat), xss[i]? = some xs → xs.length = len0 xss) ∧ ∀ i k, labF xss i k ≤ 2 := by
  unfold vldJ at h
  simp only [Bool.and_eq_true, decide_eq_true_eq] at h
  obtain ⟨⟨⟨h1, h2⟩, h3⟩, h4⟩ := h
  have h5 : ∀ (i : Nat) (xs : List Nat), xss[i]? = some xs → rowOk (len0 xss) xs = true := fun i xs hi => List.all_eq_true.1 h4 xs (List.mem_of_getElem? hi)
  refine ⟨h1, h2, h3, fun i xs hi => ?_, fun i k => ?_⟩
  · have := h5 i xs hi
    unfold rowOk at this
    simp only [Bool.and_eq_true, decide_eq_true_eq] at this
    exact this.1
  · unfold labF
    cases e : xss[i]? with
    | none => simp
    | some xs =>
      have := h5 i xs e
      unfold rowOk at this
      simp only [Bool.and_eq_true, Bool.not_eq_true'] at this
      exact bigN_le this.2 k

def recJ (xss : List (List Nat)) : List Nat × List Int × Int :=
  if vldJ xss = true then ((reconS (labF xss) xss.length (len0 xss)).1, (reconS (labF xss) xss.length (len0 xss)).2, 0) else ([], [], 2)

/-- Verdicts, weights and an error, in memory. -/
def RetJ (w : World) (r : List Nat × List Int × Int) (e : Ending) (w' : World) : Prop :=
  ∃ a1 c1 a2 c2, e = .returned (.tuple #[.slice a1 r.1.length c1, .slice a2 r.2.1.length c2, .int .i64 r.2.2]) ∧ RdN w'.heap.size w' a1 r.1 ∧ Rd w'.heap.size w' a2 r.2.1 ∧ Below w.heap.size w w'

theorem voteL_lt (lab : Nat → Nat → Nat) (J K : Nat) (ws : List Int) : ∀ x ∈ voteL lab J K ws, x < 256 := by
  intro x hx
  unfold voteL at hx
  obtain ⟨k, _, rfl⟩ := List.mem_map.1 hx
  unfold voteF
  have := verd_mem (sumW lab (fun i => ws[i]?.getD 0) 1 k J) (sumW lab (fun i => ws[i]?.getD 0) 2 k J)
  omega
theorem weighL_bd (lab : Nat → Nat → Nat) {J K : Nat} (hK : K ≤ 1000) (vs : List Nat) (i : Nat) : -1000000 ≤ (weighL lab J K vs)[i]?.getD 0 ∧ (weighL lab J K vs)[i]?.getD 0 ≤ 1000000 := by
  unfold weighL
  rw [List.getElem?_map]
  cases e : (List.range J)[i]? with
  | none => simp
  | some j =>
    have := weighF_bd (lab := lab) (K := K) (fun k => vs[k]?.getD 0) j
    simp only [Option.map_some, Option.getD_some]
    omega
theorem ones_bd (J i : Nat) : -1000000 ≤ (List.replicate J (1 : Int))[i]?.getD 0 ∧ (List.replicate J (1 : Int))[i]?.getD 0 ≤ 1000000 := by
  rw [List.getElem?_replicate]
  split <;> simp

theorem RdN.later {W W' : World} {a : Option Addr} {xs : List Nat} (h : RdN W.heap.size W a xs) (hb : Below W.heap.size W W') : RdN W'.heap.size W' a xs := (h.below (Nat.le_refl _) hb).mono hb.size
theorem Rd.later {W W' : World} {a : Option Addr} {xs : List Int} (h : Rd W.heap.size W a xs) (hb : Below W.heap.size W W') : Rd W'.heap.size W' a xs := (h.below (Nat.le_refl _) hb).mono hb.size
theorem RdL.later {W W' : World} {a : Option Addr} {xss : List (List Nat)} (h : RdL W.heap.size W a xss) (hb : Below W.heap.size W W') : RdL W'.heap.size W' a xss := (h.below (Nat.le_refl _) hb).mono hb.size


set_option maxRecDepth 100000 in
set_option maxHeartbeats 4000000 in
theorem rReconcile_any (xss : List (List Nat)) (n : Nat) (hn : xss.length = n) (a : Option Addr) (c : Nat) (w : World) (hr : RdL w.heap.size w a xss) :
    Calls Try.prog 11 #[.slice a n c] w (RetJ w (recJ xss)) := by
  obtain ⟨i0, hi, hz0, hz1, hz2⟩ := info_parts jinfo_int
  have hvl := ValidLabels_any xss n hn a c w hr
  have hrec : vldJ xss = true → recJ xss = ((reconS (labF xss) n (len0 xss)).1, (reconS (labF xss) n (len0 xss)).2, 0) := fun h => by unfold recJ; rw [if_pos h, hn]
  have hrec0 : vldJ xss = false → recJ xss = ([], [], 2) := fun h => by unfold recJ; rw [h]; rfl
  have hvt := fun h => vldJ_true (xss := xss) h
  rw [hn] at hvt
  obtain ⟨v, hv⟩ : ∃ v, vldJ xss = v := ⟨_, rfl⟩
  rw [hv] at hvl hrec hrec0 hvt
  have hnH := Lib.hid hn
  have hrH := Lib.hid hr
  clear hn hr hv
  cases v with
  | false =>
    have hrec0H := Lib.hid (hrec0 rfl)
    clear hvt hrec hrec0
    go_enter Try.func11, Try.ntmps11
    go_wp2_with (go_at_call 42; refine hvl.mono ?_; rintro e w' ⟨rfl, hB⟩)
    rw [hrec0H.out]
    exact bodyPost_ret (v := .tuple #[.slice none 0 0, .slice none 0 0, .int .i64 2]) (by simp [results, Try.results11, go_sem]) rfl ⟨none, 0, none, 0, rfl, .inl rfl, .inl rfl, hB⟩
  | true =>
    obtain ⟨b1, b2, b3, hlen, hlab⟩ := hvt rfl
    have hrc := hrec rfl
    obtain ⟨K, hK⟩ : ∃ K, len0 xss = K := ⟨_, rfl⟩
    rw [hK] at b3 hlen hrc
    have hrcH := Lib.hid hrc
    have hlenH := Lib.hid hlen
    have hlabH := Lib.hid hlab
    have hzH := Lib.hid (jmade_int n)
    clear hvt hrc hlen hlab hrec hrec0 hK
    go_enter Try.func11, Try.ntmps11
    go_wp2_with (first
      | (go_at_call 42; refine hvl.mono ?_; rintro e w1 ⟨rfl, hB1⟩)
      | (at_make; refine wpList_make_full _ rfl _ _ 24 rfl w1.heap.size 3 i0 (.int .i64 0) 1 Try.underlying24 hi hz0 hz1 .i64 .i64 (n : Int) (n : Int) n rfl rfl (by simp) (by simp) (by rw [hz2]; omega) (by unfold maxLen; omega) (by simp) ?_; intro w2 hown hg))
    rw [hzH.out, ← mixJ_zero (fun _ => 1) (List.replicate n 0)] at hown
    have hs1 := hB1.size
    have hB2 : Below w.heap.size w w2 := hB1.trans (((Below.refl _ w1).grown hg (Nat.le_refl _) (fun k e => by cases e)).mono hs1)
    have hgt : w.heap.size ≤ w1.heap.size := hs1
    obtain ⟨G, hG⟩ : ∃ G, w1.heap.size = G := ⟨_, rfl⟩
    rw [hG] at hown hgt ⊢
    clear hB1 hg hG hs1 hzH
    clear w1
    go_loopw [6] (fun i wr => ∃ m : Nat, m ≤ n ∧ i = .int .i64 (m : Int) ∧ wr.ownsRow G 3 1 (.slice (some ⟨G, 0, none⟩) n n) n ((mixJ (fun _ => 1) (List.replicate n 0) m).map (Value.int .i64)) ∧ Below w.heap.size w wr) (fun i _ => n - (intOf i).toNat)
    case atStart => exact ⟨0, Nat.zero_le _, rfl, hown, hB2⟩
    case round =>
      clear hown hB2
      obtain ⟨m, hm, rfl, rowm, hB⟩ := hrel
      by_cases hmt : m < n
      · have hst := (rowm.stored m (.int .i64 1)).1
        rw [map_set_i, mixJ_set (fun _ => 1) (List.replicate n 0) (by rw [List.length_replicate]; exact hmt)] at hst
        have hstH := Lib.hid hst
        have hfr := rowm.frozenAt m
        have hcell := rowm.cellAt m (by rw [Nat.mul_one]; exact hmt)
        rw [List.getElem?_map, List.getElem?_eq_getElem (by rw [mixJ_length, List.length_replicate]; exact hmt)] at hcell
        simp only [Option.map_some] at hcell
        obtain ⟨y, hy⟩ : ∃ y, (mixJ (fun _ => 1) (List.replicate n 0) m)[m]'(by rw [mixJ_length, List.length_replicate]; exact hmt) = y := ⟨_, rfl⟩
        rw [hy] at hcell
        clear hst hy
        go_wp2_with fail
        go_roundw
        case rel => exact ⟨m + 1, by omega, by go_num, hstH.out, hB.setCell (p := ⟨G, m, none⟩) hgt _⟩
        case measure => simp [intOf]; omega
      · have hmn : m = n := by omega
        subst hmn
        rw [mixJ_all (fun _ => 1) (List.replicate m 0) (by simp), show (List.range m).map (fun _ => (1 : Int)) = List.replicate m 1 from List.eq_replicate_iff.2 ⟨by simp, by simp⟩] at rowm
        have rdw := rowI_rd (by simp) rowm
        have hvote := Voted_any xss m K hnH.out (by omega) (by omega) (by omega) hlenH.out (List.replicate m 1) (by simp) (ones_bd m) a (some ⟨G, 0, none⟩) c m wr ((hrH.out.below (Nat.le_refl _) hB).mono hB.size) rdw
        clear rowm
        go_wp2_with (go_at_call 43; refine hvote.mono ?_; rintro e w3 ⟨sv, scv, rfl, rowv, hb3⟩)
        have rdv := rowN_rd (by simp [voteL]) rowv
        have rdw3 := rdw.later hb3
        have hB3 := hB.trans (hb3.mono hB.size)
        clear hvote rdw rowv hb3 hB
        clear wr
        go_loopw [5, 7, 8] (fun x y i wr => ∃ (r : Nat) (vs : List Nat) (ws : List Int) (av aw : Option Addr) (cv cw : Nat), r ≤ 10 ∧ i = .int .i64 (r : Int) ∧ x = .slice aw m cw ∧ y = .slice av K cv ∧ vs.length = K ∧ ws.length = m ∧ Hid (∀ v ∈ vs, v < 256) ∧ RdN wr.heap.size wr av vs ∧ Rd wr.heap.size wr aw ws ∧ Hid (reconL (labF xss) m K (10 - r) vs ws = reconS (labF xss) m K) ∧ Below w.heap.size w wr) (fun _ _ i _ => 10 - (intOf i).toNat)
        case atStart => exact ⟨0, _, _, sv, some ⟨G, 0, none⟩, scv, m, Nat.zero_le _, rfl, rfl, rfl, by simp [voteL], by simp, Lib.hid (voteL_lt _ _ _ _), rdv, rdw3, Lib.hid rfl, hB3⟩
        case round =>
          clear rdv rdw3 hB3
          obtain ⟨r, vs, ws, av, aw, cv, cw, hr10, rfl, rfl, rfl, hvl, hwl, hlt, rdv, rdw, hrc, hB⟩ := hrel
          have fin : ∀ (av aw : Option Addr) (cv cw : Nat) (vs : List Nat) (ws : List Int) (W : World), vs.length = K → ws.length = m → (vs, ws) = reconS (labF xss) m K → RdN W.heap.size W av vs → Rd W.heap.size W aw ws → Below w.heap.size w W → RetJ w (recJ xss) (.returned (.tuple #[.slice av K cv, .slice aw m cw, .int .i64 0])) W := by
            intro av aw cv cw vs ws W h1 h2 h3 h4 h5 h6
            rw [hrcH.out, ← h3]
            exact ⟨av, cv, aw, cw, by rw [h1, h2], h4, h5, h6⟩
          have finH := Lib.hid fin
          clear fin
          by_cases hrt : r < 10
          · have hw1 := Weighed_any xss m K hnH.out (by omega) (by omega) hlenH.out vs hvl a av c cv wr ((hrH.out.below (Nat.le_refl _) hB).mono hB.size) rdv
            obtain ⟨ws1, hws1⟩ : ∃ L, weighL (labF xss) m K vs = L := ⟨_, rfl⟩
            have hwl1 : ws1.length = m := by rw [← hws1]; simp [weighL]
            have hwb1 := weighL_bd (labF xss) (J := m) (K := K) (by omega) vs
            rw [hws1] at hw1 hwb1
            have hvote := fun W aw cw h1 h2 => Voted_any xss m K hnH.out (by omega) (by omega) (by omega) hlenH.out ws1 hwl1 hwb1 a aw c cw W h1 h2
            obtain ⟨vs1, hvs1⟩ : ∃ L, voteL (labF xss) m K ws1 = L := ⟨_, rfl⟩
            have hvl1 : vs1.length = K := by rw [← hvs1]; simp [voteL]
            have hlt1 : ∀ v ∈ vs1, v < 256 := by rw [← hvs1]; exact voteL_lt _ _ _ _
            rw [hvs1] at hvote
            have hstep : reconL (labF xss) m K (10 - r) vs ws = if vs1 = vs then (vs, ws1) else reconL (labF xss) m K (10 - (r + 1)) vs1 ws1 := by
              rw [show 10 - r = (10 - (r + 1)) + 1 by omega, reconL, hws1, hvs1]
            rw [hrc.out] at hstep
            have hstepH := Lib.hid hstep
            have hlt1H := Lib.hid hlt1
            have hwb1H := Lib.hid hwb1
            have hvoteH := Lib.hid hvote
            clear hstep hlt1 hwb1 hvote hws1 hvs1 hrc
            by_cases e : vs1 = vs
            · subst e
              rw [if_pos rfl] at hstepH
              go_wp2_with (first
                | (go_at_call 44; refine hw1.mono ?_; rintro e w4 ⟨sw, scw, rfl, roww, hb4⟩; have hB4 := hB.trans (hb4.mono hB.size); have rdv4 := rdv.later hb4; have rdw4 := rowI_rd hwl1 roww; clear roww)
                | (go_at_call 43; refine (hvoteH.out _ _ _ ((hrH.out.below (Nat.le_refl _) hB4).mono hB4.size) rdw4).mono ?_; rintro e w5 ⟨sv5, scv5, rfl, rowv5, hb5⟩; have hB5 := hB4.trans (hb5.mono hB4.size); have rdv5 := rdv4.later hb5; have rdw5 := rdw4.later hb5; have rdn5 := rowN_rd hvl1 rowv5; clear rowv5; have cv1 := conv_bytes scv5 hvl1 rdn5; have cv2 := conv_bytes cv hvl rdv5))
              exact bodyPost_ret (v := .tuple #[.slice av K cv, .slice sw m scw, .int .i64 0]) (by simp [results, Try.results11, go_sem]) rfl (finH.out av sw cv scw vs1 ws1 w5 hvl1 hwl1 hstepH.out.symm rdv5 rdw5 hB5)
            · rw [if_neg e] at hstepH
              have hne : ((bsN vs1).toList == (bsN vs).toList) = false := by rw [bsN_beq hlt1H.out hlt.out]; simp [e]
              go_wp2_with (first
                | (go_at_call 44; refine hw1.mono ?_; rintro e w4 ⟨sw, scw, rfl, roww, hb4⟩; have hB4 := hB.trans (hb4.mono hB.size); have rdv4 := rdv.later hb4; have rdw4 := rowI_rd hwl1 roww; clear roww)
                | (go_at_call 43; refine (hvoteH.out _ _ _ ((hrH.out.below (Nat.le_refl _) hB4).mono hB4.size) rdw4).mono ?_; rintro e w5 ⟨sv5, scv5, rfl, rowv5, hb5⟩; have hB5 := hB4.trans (hb5.mono hB4.size); have rdv5 := rdv4.later hb5; have rdw5 := rdw4.later hb5; have rdn5 := rowN_rd hvl1 rowv5; clear rowv5; have cv1 := conv_bytes scv5 hvl1 rdn5; have cv2 := conv_bytes cv hvl rdv5))
              go_roundw
              case rel => exact ⟨r + 1, vs1, ws1, sv5, sw, scv5, scw, by omega, by go_num, rfl, rfl, hvl1, hwl1, hlt1H, rdn5, rdw5, Lib.hid hstepH.out.symm, hB5⟩
              case measure => simp [intOf]; omega
          · have hr : r = 10 := by omega
            subst hr
            go_wp2_with fail
            exact bodyPost_ret (v := .tuple #[.slice av K cv, .slice aw m cw, .int .i64 0]) (by simp [results, Try.results11, go_sem]) rfl (finH.out av aw cv cw vs ws wr hvl hwl hrc.out rdv rdw hB)

end Go.Proofs.Ytaejdgjfnoefjaa

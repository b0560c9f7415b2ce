/- Contracts and laws (Cf, Wd). -/
import Derived.Test.YtbfigbpjoaccdaaGreatProg
import Derived.Shelf.Spec.BitsCarry
import Derived.Test.YtbfigbpjoaccdaaGreatQD9
import Derived.Test.YtbfigbpjoaccdaaGreatQD1
namespace Go.Proofs.YtbfigbpjoaccdaaGreat
open Go Go.RowKit Go.Shelf
set_option linter.unusedVariables false
set_option linter.unusedSimpArgs false

/-- The bounds of two images' features. -/
def bndF (N : NetN) (xs ys : List Int) (i : Nat) : Int × Int := ((featL N xs)[i]?.getD 0, (featL N ys)[i]?.getD 0)
def bndL (N : NetN) (xs ys : List Int) : List (Int × Int) := (List.range N.nf).map (bndF N xs ys)
def leB (xs ys : List Int) : Bool := allTo (fun i => decide (xs[i]?.getD 0 ≤ ys[i]?.getD 0)) xs.length
/-- What Certify answers. -/
def certV (N : NetN) (m m' : ImN) (s : Int) : Int := if chkF N [m, m'] = 0 ∧ leB m.px m'.px = true ∧ nIn 0 8 s = true then ((certN N.Ls N.low N.high s.toNat (bndL N m.px m'.px) : Nat) : Int) else 0
def certE (N : NetN) (m m' : ImN) (s : Int) : Int := if chkF N [m, m'] = 0 then if leB m.px m'.px = true ∧ nIn 0 8 s = true then 0 else 2 else chkF N [m, m']
def RetCert (N : NetN) (m m' : ImN) (s : Int) (w : World) (e : Ending) (w' : World) : Prop := e = .returned (.tuple #[.int .u8 (certV N m m' s), .int .i64 (certE N m m' s)]) ∧ Below w.heap.size w w'
theorem cert_bad {N : NetN} {m m' : ImN} {s : Int} (h : ¬ chkF N [m, m'] = 0) : certV N m m' s = 0 ∧ certE N m m' s = chkF N [m, m'] := ⟨if_neg fun k => h k.1, if_neg h⟩
theorem cert_arg {N : NetN} {m m' : ImN} {s : Int} (h : chkF N [m, m'] = 0) (k : leB m.px m'.px = false ∨ nIn 0 8 s = false) : certV N m m' s = 0 ∧ certE N m m' s = 2 := by
  have hk : ¬ (leB m.px m'.px = true ∧ nIn 0 8 s = true) := fun ⟨h1, h2⟩ => by rcases k with k | k <;> simp_all
  exact ⟨if_neg fun h => hk h.2, by unfold certE; rw [if_pos h, if_neg hk]⟩
theorem cert_good {N : NetN} {m m' : ImN} {s : Int} (h : chkF N [m, m'] = 0) (h1 : leB m.px m'.px = true) (h2 : nIn 0 8 s = true) : certV N m m' s = ((certN N.Ls N.low N.high s.toNat (bndL N m.px m'.px) : Nat) : Int) ∧ certE N m m' s = 0 :=
  ⟨if_pos ⟨h, h1, h2⟩, by unfold certE; rw [if_pos h, if_pos ⟨h1, h2⟩]⟩
theorem chkF_two {N : NetN} {m m' : ImN} (h : chkF N [m, m'] = 0) : NetOk N ∧ (m.w = N.w ∧ m.h = N.h ∧ camB m = true) ∧ m'.w = N.w ∧ m'.h = N.h ∧ camB m' = true := by
  unfold chkF at h
  cases h1 : netOk N with
  | false => rw [h1] at h; simp at h
  | true =>
    cases h2 : camsB [m, m'] with
    | false => rw [h1, h2] at h; simp at h
    | true =>
      cases h3 : fitsB N [m, m'] with
      | false => rw [h1, h2, h3] at h; simp at h
      | true =>
        have a0 := of_decide_eq_true (allTo_at h3 (k := 0) (by simp))
        have a1 := of_decide_eq_true (allTo_at h3 (k := 1) (by simp))
        exact ⟨netOk_of h1, ⟨a0.1, a0.2, allTo_at h2 (k := 0) (by simp)⟩, a1.1, a1.2, allTo_at h2 (k := 1) (by simp)⟩
theorem rdis_two {W : World} {b : Nat} {m m' : ImN} {pa pa' : Option Addr} {l pc l' pc' : Nat} (hl : m.px.length = l) (hl' : m'.px.length = l') (h : Blk W b 27 #[.int .i64 m.w, .int .i64 m.h, .slice pa l pc, .int .i64 m'.w, .int .i64 m'.h, .slice pa' l' pc']) (hp : Rd W.heap.size W pa m.px) (hp' : Rd W.heap.size W pa' m'.px) : RdIs W.heap.size W (some ⟨b, 0, none⟩) [m, m'] :=
  .inr ⟨b, 0, rfl, h.lt, fun i hi => by
    have : i = 0 ∨ i = 1 := by simp at hi; omega
    rcases this with rfl | rfl
    · exact ⟨pa, pc, h.cell (i := 0) rfl, h.cell (i := 1) rfl, by rw [show imAt [m, m'] 0 = m from rfl, hl]; exact h.cell (i := 2) rfl, hp⟩
    · exact ⟨pa', pc', h.cell (i := 3) rfl, h.cell (i := 4) rfl, by rw [show imAt [m, m'] 1 = m' from rfl, hl']; exact h.cell (i := 5) rfl, hp'⟩⟩
theorem bnd_le {N : NetN} (hN : NetOk N) {xs ys : List Int} (hx : xs.length ≤ 256) (hy : ys.length ≤ 256) (hvx : allIn 0 255 xs = true) (hvy : allIn 0 255 ys = true) : LeP 65280 (bndL N xs ys) := fun i => by
  by_cases hi : i < N.nf
  · unfold loAt hiAt bndL
    rw [getD_map_range _ _ hi]
    exact ⟨featL_le hN hx hvx i, featL_le hN hy hvy i⟩
  · unfold loAt hiAt
    rw [List.getElem?_eq_none (by simp [bndL]; omega)]
    show (_ ≤ (0 : Int) ∧ (0 : Int) ≤ _) ∧ (_ ≤ (0 : Int) ∧ (0 : Int) ≤ _)
    omega
theorem im_len {N : NetN} (hN : NetOk N) {m : ImN} (hw : m.w = N.w) (hh : m.h = N.h) (hc : camB m = true) : m.px.length ≤ 256 ∧ allIn 0 255 m.px = true ∧ m.px.length = N.h.toNat * N.w.toNat := by
  obtain ⟨pw, ph, _, _, _, _, e1, e2, _, _, _, _, _, _, g3, g4, hlen, hv, _⟩ := net_letters hN hw hh hc
  refine ⟨?_, hv, ?_⟩
  · rw [hlen]; exact Nat.mul_le_mul g4.2 g3.2
  · rw [hlen, e1, e2]; rfl

set_option maxRecDepth 100000 in
set_option maxHeartbeats 16000000 in
theorem Certify_any (N : NetN) (na : Option Addr) (nn nc : Nat) (hnn : N.Ls.length = nn) (hz : NetSz N) (m m' : ImN) (pa pa' : Option Addr) (l pc l' pc' : Nat) (hl : m.px.length = l) (hl' : m'.px.length = l') (hpm : l ≤ 9223372036854775807) (hpm' : l' ≤ 9223372036854775807) (s : Int)
    (w : World) (hrn : RdLs w.heap.size w na N.Ls) (hp : Rd w.heap.size w pa m.px) (hp' : Rd w.heap.size w pa' m'.px) :
    Calls Tryz.prog 17 #[netv N na nn nc, imv m.w m.h pa l pc, imv m'.w m'.h pa' l' pc', .int .i64 s] w (RetCert N m m' s w) := by
  obtain ⟨v, hv⟩ : ∃ v, chkF N [m, m'] = v := ⟨_, rfl⟩
  have tok1 : True := trivial
  have tok2 : True := trivial
  have tok3 : True := trivial
  have tok4 : True := trivial
  have tok5 : True := trivial
  have tok6 : True := trivial
  have hbW1 : Below w.heap.size w (w.alloc (.cells #[.int .i64 N.w, .int .i64 N.h, .int .i64 N.gx, .int .i64 N.gy, .slice na nn nc, .int .i64 N.low, .int .i64 N.high] 24)) := jb_al (Below.refl _ w) _
  have kn := Blk.new w 24 #[.int .i64 N.w, .int .i64 N.h, .int .i64 N.gx, .int .i64 N.gy, .slice na nn nc, .int .i64 N.low, .int .i64 N.high]
  obtain ⟨W1, hEW1⟩ : ∃ X, w.alloc (.cells #[.int .i64 N.w, .int .i64 N.h, .int .i64 N.gx, .int .i64 N.gy, .slice na nn nc, .int .i64 N.low, .int .i64 N.high] 24) = X := ⟨_, rfl⟩
  rw [hEW1] at hbW1 kn
  have hbW2 : Below W1.heap.size W1 (W1.alloc (.cells #[.int .i64 m.w, .int .i64 m.h, .slice pa l pc] 27)) := jb_al (Below.refl _ W1) _
  have ki := Blk.new W1 27 #[.int .i64 m.w, .int .i64 m.h, .slice pa l pc]
  obtain ⟨W2, hEW2⟩ : ∃ X, W1.alloc (.cells #[.int .i64 m.w, .int .i64 m.h, .slice pa l pc] 27) = X := ⟨_, rfl⟩
  rw [hEW2] at hbW2 ki
  have hbW3 : Below W2.heap.size W2 (W2.alloc (.cells #[.int .i64 m'.w, .int .i64 m'.h, .slice pa' l' pc'] 27)) := jb_al (Below.refl _ W2) _
  have kj := Blk.new W2 27 #[.int .i64 m'.w, .int .i64 m'.h, .slice pa' l' pc']
  obtain ⟨W3, hEW3⟩ : ∃ X, W2.alloc (.cells #[.int .i64 m'.w, .int .i64 m'.h, .slice pa' l' pc'] 27) = X := ⟨_, rfl⟩
  rw [hEW3] at hbW3 kj
  have hbW4 : Below W3.heap.size W3 (W3.alloc (.cells #[.int .i64 m.w, .int .i64 m.h, .slice pa l pc, .int .i64 m'.w, .int .i64 m'.h, .slice pa' l' pc'] 27)) := jb_al (Below.refl _ W3) _
  have ks := Blk.new W3 27 #[.int .i64 m.w, .int .i64 m.h, .slice pa l pc, .int .i64 m'.w, .int .i64 m'.h, .slice pa' l' pc']
  obtain ⟨W4, hEW4⟩ : ∃ X, W3.alloc (.cells #[.int .i64 m.w, .int .i64 m.h, .slice pa l pc, .int .i64 m'.w, .int .i64 m'.h, .slice pa' l' pc'] 27) = X := ⟨_, rfl⟩
  rw [hEW4] at hbW4 ks
  have hB3 : Below w.heap.size w W3 := hbW1.trans ((hbW2.trans (hbW3.mono hbW2.size)).mono hbW1.size)
  have hB4 := hB3.trans (hbW4.mono hB3.size)
  have kn3 := (kn.below hbW2 kn.lt).below hbW3 (Nat.lt_of_lt_of_le kn.lt hbW2.size)
  have ki3 := ki.below hbW3 ki.lt
  have c0 : W3.cell? ⟨w.heap.size, 0, none⟩ = some (.int .i64 N.w) := kn3.cell (i := 0) rfl
  have c1 : W3.cell? ⟨w.heap.size, 1, none⟩ = some (.int .i64 N.h) := kn3.cell (i := 1) rfl
  have c2 : W3.cell? ⟨w.heap.size, 2, none⟩ = some (.int .i64 N.gx) := kn3.cell (i := 2) rfl
  have c3 : W3.cell? ⟨w.heap.size, 3, none⟩ = some (.int .i64 N.gy) := kn3.cell (i := 3) rfl
  have c4 : W3.cell? ⟨w.heap.size, 4, none⟩ = some (.slice na nn nc) := kn3.cell (i := 4) rfl
  have c5 : W3.cell? ⟨w.heap.size, 5, none⟩ = some (.int .i64 N.low) := kn3.cell (i := 5) rfl
  have c6 : W3.cell? ⟨w.heap.size, 6, none⟩ = some (.int .i64 N.high) := kn3.cell (i := 6) rfl
  have d0 : W3.cell? ⟨W1.heap.size, 0, none⟩ = some (.int .i64 m.w) := ki3.cell (i := 0) rfl
  have d1 : W3.cell? ⟨W1.heap.size, 1, none⟩ = some (.int .i64 m.h) := ki3.cell (i := 1) rfl
  have d2 : W3.cell? ⟨W1.heap.size, 2, none⟩ = some (.slice pa l pc) := ki3.cell (i := 2) rfl
  have g0 : W3.cell? ⟨W2.heap.size, 0, none⟩ = some (.int .i64 m'.w) := kj.cell (i := 0) rfl
  have g1 : W3.cell? ⟨W2.heap.size, 1, none⟩ = some (.int .i64 m'.h) := kj.cell (i := 1) rfl
  have g2 : W3.cell? ⟨W2.heap.size, 2, none⟩ = some (.slice pa' l' pc') := kj.cell (i := 2) rfl
  have hcall := check_any N na nn nc hnn hz [m, m'] (some ⟨W3.heap.size, 0, none⟩) 2 2 rfl (by omega) (imAt_len (by simp; omega)) W4 (later_l hrn hB4) (rdis_two hl hl' ks (later_i hp hB4) (later_i hp' hB4)) v hv
  have hcallH := Lib.hid hcall
  have knH := Lib.hid (kn3.below hbW4 kn3.lt)
  have kiH := Lib.hid (ki3.below hbW4 ki3.lt)
  have kjH := Lib.hid (kj.below hbW4 kj.lt)
  have hpH := Lib.hid (fun (W : World) (hb : Below W4.heap.size W4 W) => later_i (later_i hp hB4) hb)
  have hp'H := Lib.hid (fun (W : World) (hb : Below W4.heap.size W4 W) => later_i (later_i hp' hB4) hb)
  have hrnH := Lib.hid (fun (W : World) (hb : Below W4.heap.size W4 W) => later_l (later_l hrn hB4) hb)
  have hlnH := Lib.hid hl
  have hlnH' := Lib.hid hl'
  have hnnH := Lib.hid hnn
  clear hcall ks kn ki kj kn3 ki3 hp hp' hl hl' hrn hz hnn
  by_cases h0 : v = 0
  case neg =>
    have h0' : (v != 0) = true := by simpa using h0
    obtain ⟨r1, r2⟩ := cert_bad (s := s) (N := N) (m := m) (m' := m') (by rw [hv]; exact h0)
    rw [hv] at r2
    have r1H := Lib.hid r1
    have r2H := Lib.hid r2
    clear r1 r2 hv
    go_enter Tryz.func17, Tryz.ntmps17
    go_wp2_with (go_at_call 47; have _t := tok1; refine (hcallH.out).mono ?_; clear _t tok1; rintro e w4 ⟨rfl, hb4⟩)
    go_ret2
    exact ⟨by rw [r1H.out, r2H.out]; rfl, hB4.trans (hb4.mono hB4.size)⟩
  subst h0
  obtain ⟨hN, ⟨hw, hh, hc⟩, hw', hh', hc'⟩ := chkF_two hv
  obtain ⟨i1, i2, i3⟩ := im_len hN hw hh hc
  obtain ⟨i1', i2', i3'⟩ := im_len hN hw' hh' hc'
  have hll : l' = l := by rw [← hlnH.out, ← hlnH'.out, i3, i3']
  subst hll
  have hl256 : l' ≤ 256 := by rw [← hlnH.out]; exact i1
  have hf1 := fun (W : World) (hb : Below W4.heap.size W4 W) => features_any N hN na nn nc m hw hh hc pa l' pc hlnH.out W (hpH.out W hb)
  have hf2 := fun (W : World) (hb : Below W4.heap.size W4 W) => features_any N hN na nn nc m' hw' hh' hc' pa' l' pc' hlnH'.out W (hp'H.out W hb)
  have hble := bnd_le hN i1 i1' i2 i2'
  have hceI := fun s' (hs : s' ≤ 8) => cert_any N hN na nn nc hnnH.out s' hs
  obtain ⟨nf, hnf⟩ : ∃ n, N.nf = n := ⟨_, rfl⟩
  have hn1 := hN.nf.1
  have hn16 := hN.nf.2.1
  have hfl1 := featL_length N m.px
  have hfl2 := featL_length N m'.px
  have hbl : (bndL N m.px m'.px).length = N.nf := by simp [bndL]
  have hcc := fun s' (hs : s' ≤ 8) (a : Option Addr) (c : Nat) (W : World) (h1 : RdLs W.heap.size W na N.Ls) (h2 : Rd W.heap.size W a (flat (bndL N m.px m'.px))) => hceI s' hs (bndL N m.px m'.px) hbl hble a c W h1 h2
  rw [hnf] at hf1 hf2 hn1 hn16 hfl1 hfl2 hbl
  simp only [hnf] at hcc
  have hf1H := Lib.hid hf1
  have hf2H := Lib.hid hf2
  have hccH := Lib.hid hcc
  have hvH := Lib.hid hv
  have hnfH := Lib.hid hnf
  have hfl1H := Lib.hid hfl1
  have hfl2H := Lib.hid hfl2
  clear hf1 hf2 hble hceI hcc hv hN hw hh hc hw' hh' hc' i1 i2 i3 i1' i2' i3' hnf hfl1 hfl2 hbl
  go_enter Tryz.func17, Tryz.ntmps17
  go_wp2_with (go_at_call 47; have _t := tok1; refine (hcallH.out).mono ?_; clear _t tok1; rintro e w4 ⟨rfl, hb4⟩; have ki4 := kiH.out.below hb4 kiH.out.lt; have x2 : w4.cell? ⟨W1.heap.size, 2, none⟩ = some (.slice pa l' pc) := ki4.cell (i := 2) rfl)
  have kn4H := Lib.hid (knH.out.below hb4 knH.out.lt)
  have ki4H := Lib.hid ki4
  have kj4H := Lib.hid (kjH.out.below hb4 kjH.out.lt)
  clear hcallH hEW1 hEW2 hEW3 hEW4 c0 c1 c2 c3 c4 c5 c6 d0 d1 d2 g0 g1 g2 x2 ki4
  go_loopw [27] (fun i wr => ∃ k : Nat, k ≤ l' ∧ i = .int .i64 (k : Int) ∧ Hid (allTo (fun i => decide (m.px[i]?.getD 0 ≤ m'.px[i]?.getD 0)) k = true) ∧ Below w4.heap.size w4 wr) (fun i _ => l' - (intOf i).toNat)
  case atStart => exact ⟨0, Nat.zero_le _, rfl, Lib.hid rfl, Below.refl _ _⟩
  case round =>
    obtain ⟨k, hk, rfl, hall, hb⟩ := hrel
    have hbr := hb4.trans (hb.mono hb4.size)
    have hBr := hB4.trans (hbr.mono hB4.size)
    by_cases hlt : k < l'
    case pos =>
      have hkl : k < m.px.length := by rw [hlnH.out]; exact hlt
      have hkl' : k < m'.px.length := by rw [hlnH'.out]; exact hlt
      rcases hpH.out wr hbr with h0 | ⟨b, o, hbo, _, hcx⟩
      · rw [h0] at hkl; simp at hkl
      rcases hp'H.out wr hbr with h0 | ⟨b', o', hbo', _, hcy⟩
      · rw [h0] at hkl'; simp at hkl'
      have xc := hcx k hkl
      have xc' := hcy k hkl'
      obtain ⟨x, hx⟩ : ∃ x, m.px[k]?.getD 0 = x := ⟨_, rfl⟩
      obtain ⟨y, hy⟩ : ∃ y, m'.px[k]?.getD 0 = y := ⟨_, rfl⟩
      rw [hx] at xc
      rw [hy] at xc'
      have x2 : wr.cell? ⟨W1.heap.size, 2, none⟩ = some (.slice pa l' pc) := (ki4H.out.below hb ki4H.out.lt).cell (i := 2) rfl
      have x5 : wr.cell? ⟨W2.heap.size, 2, none⟩ = some (.slice pa' l' pc') := (kj4H.out.below hb kj4H.out.lt).cell (i := 2) rfl
      have hS0 : wr.drew.heap = wr.heap := rfl
      rw [hbo] at x2
      rw [hbo'] at x5
      have hxH := Lib.hid hx
      have hyH := Lib.hid hy
      clear hcx hcy hbo hbo' hx hy
      by_cases hd : y < x
      case pos =>
        have ed : decide (y < x) = true := decide_eq_true hd
        obtain ⟨r1, r2⟩ := cert_arg (s := s) hvH.out (.inl (allTo_false hkl (decide_eq_false (by rw [hxH.out, hyH.out]; omega))))
        have r1H := Lib.hid r1
        have r2H := Lib.hid r2
        clear r1 r2
        go_wp2_with fail
        refine plain_region (fun W' => W'.heap = wr.heap) 11 11 (by kernel_rfl) rfl ?_
        simp only [Array.replicate_succ, Array.replicate_zero, List.push_toArray, List.nil_append, List.cons_append]
        refine take_op 0 (v := ?bv0) rfl (by kernel_rfl) (fun _ _ _ h => h) (by rfl) hS0 (fun w' hS' => ?by0) ?bz0
        case by0 =>
          go_simp
          rfl
        simp only [List.setIfInBounds_toArray, List.set_cons_zero, List.set_cons_succ]
        refine take_op 1 (v := ?bv1) rfl (by kernel_rfl) (fun _ _ _ h => h) (by rfl) hS0 (fun w' hS' => ?by1) ?bz1
        case by1 =>
          have e0 := (World.cell?_of_block (w := wr) (w' := w') (a := ⟨W1.heap.size, 2, none⟩) (by rw [hS'])).trans x2
          have e1 := (World.cell?_of_block (w := wr) (w' := w') (a := ⟨W2.heap.size, 2, none⟩) (by rw [hS'])).trans x5
          have e2 := (World.cell?_of_block (w := wr) (w' := w') (a := ⟨b, o + k, none⟩) (by rw [hS'])).trans xc
          have e3 := (World.cell?_of_block (w := wr) (w' := w') (a := ⟨b', o' + k, none⟩) (by rw [hS'])).trans xc'
          clear hS'
          go_simp
          rfl
        simp only [List.setIfInBounds_toArray, List.set_cons_zero, List.set_cons_succ]
        refine take_op 2 (v := ?bv2) rfl (by kernel_rfl) (fun _ _ _ h => h) (by rfl) hS0 (fun w' hS' => ?by2) ?bz2
        case by2 =>
          go_simp
          rfl
        simp only [List.setIfInBounds_toArray, List.set_cons_zero, List.set_cons_succ]
        refine take_op 3 (v := ?bv3) rfl (by kernel_rfl) (fun _ _ _ h => h) (by rfl) hS0 (fun w' hS' => ?by3) ?bz3
        case by3 =>
          go_simp
          try go_ints
          first
          | rfl
          | (rw [if_pos (by omega)]; done)
          | rw [if_pos ⟨by omega, by omega⟩]
        simp only [List.setIfInBounds_toArray, List.set_cons_zero, List.set_cons_succ]
        refine take_op 4 (v := ?bv4) rfl (by kernel_rfl) (fun _ _ _ h => h) (by rfl) hS0 (fun w' hS' => ?by4) ?bz4
        case by4 =>
          have e0 := (World.cell?_of_block (w := wr) (w' := w') (a := ⟨W1.heap.size, 2, none⟩) (by rw [hS'])).trans x2
          have e1 := (World.cell?_of_block (w := wr) (w' := w') (a := ⟨W2.heap.size, 2, none⟩) (by rw [hS'])).trans x5
          have e2 := (World.cell?_of_block (w := wr) (w' := w') (a := ⟨b, o + k, none⟩) (by rw [hS'])).trans xc
          have e3 := (World.cell?_of_block (w := wr) (w' := w') (a := ⟨b', o' + k, none⟩) (by rw [hS'])).trans xc'
          clear hS'
          go_simp
          rfl
        simp only [List.setIfInBounds_toArray, List.set_cons_zero, List.set_cons_succ]
        refine take_op 5 (v := ?bv5) rfl (by kernel_rfl) (fun _ _ _ h => h) (by rfl) hS0 (fun w' hS' => ?by5) ?bz5
        case by5 =>
          go_simp
          rfl
        simp only [List.setIfInBounds_toArray, List.set_cons_zero, List.set_cons_succ]
        refine take_op 6 (v := ?bv6) rfl (by kernel_rfl) (fun _ _ _ h => h) (by rfl) hS0 (fun w' hS' => ?by6) ?bz6
        case by6 =>
          have e0 := (World.cell?_of_block (w := wr) (w' := w') (a := ⟨W1.heap.size, 2, none⟩) (by rw [hS'])).trans x2
          have e1 := (World.cell?_of_block (w := wr) (w' := w') (a := ⟨W2.heap.size, 2, none⟩) (by rw [hS'])).trans x5
          have e2 := (World.cell?_of_block (w := wr) (w' := w') (a := ⟨b, o + k, none⟩) (by rw [hS'])).trans xc
          have e3 := (World.cell?_of_block (w := wr) (w' := w') (a := ⟨b', o' + k, none⟩) (by rw [hS'])).trans xc'
          clear hS'
          go_simp
          rfl
        simp only [List.setIfInBounds_toArray, List.set_cons_zero, List.set_cons_succ]
        refine take_op 7 (v := ?bv7) rfl (by kernel_rfl) (fun _ _ _ h => h) (by rfl) hS0 (fun w' hS' => ?by7) ?bz7
        case by7 =>
          go_simp
          rfl
        simp only [List.setIfInBounds_toArray, List.set_cons_zero, List.set_cons_succ]
        refine take_op 8 (v := ?bv8) rfl (by kernel_rfl) (fun _ _ _ h => h) (by rfl) hS0 (fun w' hS' => ?by8) ?bz8
        case by8 =>
          go_simp
          try go_ints
          first
          | rfl
          | (rw [if_pos (by omega)]; done)
          | rw [if_pos ⟨by omega, by omega⟩]
        simp only [List.setIfInBounds_toArray, List.set_cons_zero, List.set_cons_succ]
        refine take_op 9 (v := ?bv9) rfl (by kernel_rfl) (fun _ _ _ h => h) (by rfl) hS0 (fun w' hS' => ?by9) ?bz9
        case by9 =>
          have e0 := (World.cell?_of_block (w := wr) (w' := w') (a := ⟨W1.heap.size, 2, none⟩) (by rw [hS'])).trans x2
          have e1 := (World.cell?_of_block (w := wr) (w' := w') (a := ⟨W2.heap.size, 2, none⟩) (by rw [hS'])).trans x5
          have e2 := (World.cell?_of_block (w := wr) (w' := w') (a := ⟨b, o + k, none⟩) (by rw [hS'])).trans xc
          have e3 := (World.cell?_of_block (w := wr) (w' := w') (a := ⟨b', o' + k, none⟩) (by rw [hS'])).trans xc'
          clear hS'
          go_simp
          rfl
        simp only [List.setIfInBounds_toArray, List.set_cons_zero, List.set_cons_succ]
        refine take_op 10 (v := .bool true) rfl (by kernel_rfl) (fun _ _ _ h => h) (by rfl) hS0 (fun w' hS' => ?by10) ?bz10
        case by10 =>
          clear hS'
          go_simp
          try simp only [ed]
          try rfl
          try omega
        simp only [List.setIfInBounds_toArray, List.set_cons_zero, List.set_cons_succ]
        refine done_ops (by kernel_rfl) ?_
        go_wp2_with fail
        go_ret2
        exact ⟨by rw [r1H.out, r2H.out]; rfl, hBr.drew⟩
      case neg =>
        have ed : decide (y < x) = false := decide_eq_false hd
        have hnx := Lib.hid (allTo_succ hall.out (show decide (m.px[k]?.getD 0 ≤ m'.px[k]?.getD 0) = true from decide_eq_true (by rw [hxH.out, hyH.out]; omega)))
        clear hall
        go_wp2_with fail
        refine plain_region (fun W' => W'.heap = wr.heap) 11 11 (by kernel_rfl) rfl ?_
        simp only [Array.replicate_succ, Array.replicate_zero, List.push_toArray, List.nil_append, List.cons_append]
        refine take_op 0 (v := ?dv0) rfl (by kernel_rfl) (fun _ _ _ h => h) (by rfl) hS0 (fun w' hS' => ?dy0) ?dz0
        case dy0 =>
          go_simp
          rfl
        simp only [List.setIfInBounds_toArray, List.set_cons_zero, List.set_cons_succ]
        refine take_op 1 (v := ?dv1) rfl (by kernel_rfl) (fun _ _ _ h => h) (by rfl) hS0 (fun w' hS' => ?dy1) ?dz1
        case dy1 =>
          have e0 := (World.cell?_of_block (w := wr) (w' := w') (a := ⟨W1.heap.size, 2, none⟩) (by rw [hS'])).trans x2
          have e1 := (World.cell?_of_block (w := wr) (w' := w') (a := ⟨W2.heap.size, 2, none⟩) (by rw [hS'])).trans x5
          have e2 := (World.cell?_of_block (w := wr) (w' := w') (a := ⟨b, o + k, none⟩) (by rw [hS'])).trans xc
          have e3 := (World.cell?_of_block (w := wr) (w' := w') (a := ⟨b', o' + k, none⟩) (by rw [hS'])).trans xc'
          clear hS'
          go_simp
          rfl
        simp only [List.setIfInBounds_toArray, List.set_cons_zero, List.set_cons_succ]
        refine take_op 2 (v := ?dv2) rfl (by kernel_rfl) (fun _ _ _ h => h) (by rfl) hS0 (fun w' hS' => ?dy2) ?dz2
        case dy2 =>
          go_simp
          rfl
        simp only [List.setIfInBounds_toArray, List.set_cons_zero, List.set_cons_succ]
        refine take_op 3 (v := ?dv3) rfl (by kernel_rfl) (fun _ _ _ h => h) (by rfl) hS0 (fun w' hS' => ?dy3) ?dz3
        case dy3 =>
          go_simp
          try go_ints
          first
          | rfl
          | (rw [if_pos (by omega)]; done)
          | rw [if_pos ⟨by omega, by omega⟩]
        simp only [List.setIfInBounds_toArray, List.set_cons_zero, List.set_cons_succ]
        refine take_op 4 (v := ?dv4) rfl (by kernel_rfl) (fun _ _ _ h => h) (by rfl) hS0 (fun w' hS' => ?dy4) ?dz4
        case dy4 =>
          have e0 := (World.cell?_of_block (w := wr) (w' := w') (a := ⟨W1.heap.size, 2, none⟩) (by rw [hS'])).trans x2
          have e1 := (World.cell?_of_block (w := wr) (w' := w') (a := ⟨W2.heap.size, 2, none⟩) (by rw [hS'])).trans x5
          have e2 := (World.cell?_of_block (w := wr) (w' := w') (a := ⟨b, o + k, none⟩) (by rw [hS'])).trans xc
          have e3 := (World.cell?_of_block (w := wr) (w' := w') (a := ⟨b', o' + k, none⟩) (by rw [hS'])).trans xc'
          clear hS'
          go_simp
          rfl
        simp only [List.setIfInBounds_toArray, List.set_cons_zero, List.set_cons_succ]
        refine take_op 5 (v := ?dv5) rfl (by kernel_rfl) (fun _ _ _ h => h) (by rfl) hS0 (fun w' hS' => ?dy5) ?dz5
        case dy5 =>
          go_simp
          rfl
        simp only [List.setIfInBounds_toArray, List.set_cons_zero, List.set_cons_succ]
        refine take_op 6 (v := ?dv6) rfl (by kernel_rfl) (fun _ _ _ h => h) (by rfl) hS0 (fun w' hS' => ?dy6) ?dz6
        case dy6 =>
          have e0 := (World.cell?_of_block (w := wr) (w' := w') (a := ⟨W1.heap.size, 2, none⟩) (by rw [hS'])).trans x2
          have e1 := (World.cell?_of_block (w := wr) (w' := w') (a := ⟨W2.heap.size, 2, none⟩) (by rw [hS'])).trans x5
          have e2 := (World.cell?_of_block (w := wr) (w' := w') (a := ⟨b, o + k, none⟩) (by rw [hS'])).trans xc
          have e3 := (World.cell?_of_block (w := wr) (w' := w') (a := ⟨b', o' + k, none⟩) (by rw [hS'])).trans xc'
          clear hS'
          go_simp
          rfl
        simp only [List.setIfInBounds_toArray, List.set_cons_zero, List.set_cons_succ]
        refine take_op 7 (v := ?dv7) rfl (by kernel_rfl) (fun _ _ _ h => h) (by rfl) hS0 (fun w' hS' => ?dy7) ?dz7
        case dy7 =>
          go_simp
          rfl
        simp only [List.setIfInBounds_toArray, List.set_cons_zero, List.set_cons_succ]
        refine take_op 8 (v := ?dv8) rfl (by kernel_rfl) (fun _ _ _ h => h) (by rfl) hS0 (fun w' hS' => ?dy8) ?dz8
        case dy8 =>
          go_simp
          try go_ints
          first
          | rfl
          | (rw [if_pos (by omega)]; done)
          | rw [if_pos ⟨by omega, by omega⟩]
        simp only [List.setIfInBounds_toArray, List.set_cons_zero, List.set_cons_succ]
        refine take_op 9 (v := ?dv9) rfl (by kernel_rfl) (fun _ _ _ h => h) (by rfl) hS0 (fun w' hS' => ?dy9) ?dz9
        case dy9 =>
          have e0 := (World.cell?_of_block (w := wr) (w' := w') (a := ⟨W1.heap.size, 2, none⟩) (by rw [hS'])).trans x2
          have e1 := (World.cell?_of_block (w := wr) (w' := w') (a := ⟨W2.heap.size, 2, none⟩) (by rw [hS'])).trans x5
          have e2 := (World.cell?_of_block (w := wr) (w' := w') (a := ⟨b, o + k, none⟩) (by rw [hS'])).trans xc
          have e3 := (World.cell?_of_block (w := wr) (w' := w') (a := ⟨b', o' + k, none⟩) (by rw [hS'])).trans xc'
          clear hS'
          go_simp
          rfl
        simp only [List.setIfInBounds_toArray, List.set_cons_zero, List.set_cons_succ]
        refine take_op 10 (v := .bool false) rfl (by kernel_rfl) (fun _ _ _ h => h) (by rfl) hS0 (fun w' hS' => ?dy10) ?dz10
        case dy10 =>
          clear hS'
          go_simp
          try simp only [ed]
          try rfl
          try omega
        simp only [List.setIfInBounds_toArray, List.set_cons_zero, List.set_cons_succ]
        refine done_ops (by kernel_rfl) ?_
        go_wp2_with fail
        go_roundw
        case rel => exact ⟨k + 1, by omega, by go_num, hnx, hb.drew⟩
        case measure => simp [intOf]; omega
    case neg =>
      have hkn : k = l' := by omega
      subst hkn
      have hle : leB m.px m'.px = true := by unfold leB; rw [hlnH.out]; exact hall.out
      clear hall
      have x5 : wr.cell? ⟨W2.heap.size, 2, none⟩ = some (.slice pa' k pc') := (kj4H.out.below hb kj4H.out.lt).cell (i := 2) rfl
      cases h8 : nIn 0 8 s with
      | false =>
        obtain ⟨r1, r2⟩ := cert_arg (s := s) hvH.out (.inr h8)
        have r1H := Lib.hid r1
        have r2H := Lib.hid r2
        have h8H := Lib.hid h8
        clear r1 r2 h8 hle
        go_wp2_with (go_at_call 48; have _t := tok2; refine (jw1 0 8 s false h8H.out _ _ _ _ (cell_new (by simp) rfl)).mono ?_; clear _t tok2; rintro e w' ⟨rfl, rfl⟩)
        go_ret2
        exact ⟨by rw [r1H.out, r2H.out]; rfl, jb_al2 hBr _⟩
      | true =>
      obtain ⟨r1, r2⟩ := cert_good (s := s) hvH.out hle h8
      have hs8 := nIn_true.1 h8
      obtain ⟨S, rfl⟩ := Int.eq_ofNat_of_zero_le hs8.1
      have hS8 : S ≤ 8 := by omega
      rw [Int.toNat_natCast] at r1
      have r1H := Lib.hid r1
      have r2H := Lib.hid r2
      have h8H := Lib.hid h8
      clear r1 r2 h8 hle hs8 x5
      have hbY : Below wr.heap.size wr (wr.alloc (.cells #[.int .i64 (S : Int)] 3)) := jb_al (Below.refl _ wr) _
      have ky := Blk.new wr 3 #[.int .i64 (S : Int)]
      obtain ⟨Y, hEY⟩ : ∃ X, wr.alloc (.cells #[.int .i64 (S : Int)] 3) = X := ⟨_, rfl⟩
      rw [hEY] at hbY ky
      have ky0 : Y.cell? ⟨wr.heap.size, 0, none⟩ = some (.int .i64 (S : Int)) := ky.cell (i := 0) rfl
      have hbYY := hbY
      have hbY := hbr.trans (hbYY.mono hbr.size)
      have kn5H := Lib.hid ((kn4H.out.below hb kn4H.out.lt).below hbYY (Nat.lt_of_lt_of_le kn4H.out.lt hb.size))
      have ki5H := Lib.hid ((ki4H.out.below hb ki4H.out.lt).below hbYY (Nat.lt_of_lt_of_le ki4H.out.lt hb.size))
      have kj5H := Lib.hid ((kj4H.out.below hb kj4H.out.lt).below hbYY (Nat.lt_of_lt_of_le kj4H.out.lt hb.size))
      clear ky hbYY
      go_wp2_with (go_at_call 48; have _t := tok2; refine (jw1 0 8 (S : Int) true h8H.out _ _ _ _ ky0).mono ?_; clear _t tok2; rintro e w' ⟨rfl, rfl⟩)
      have hS : Below Y.heap.size Y Y.drew := (Below.refl _ _).drew
      refine plain_region (fun W' => Below Y.heap.size Y W') 8 8 (by kernel_rfl) rfl ?_
      simp only [Array.replicate_succ, Array.replicate_zero, List.push_toArray, List.nil_append, List.cons_append]
      refine take_op 0 (v := ?ev0) rfl (by kernel_rfl) (fun _ _ _ h => h) (by rfl) hS (fun w' hS' => ?ey0) ?ez0
      case ey0 =>
        have e0 := (kn5H.out.below hS' kn5H.out.lt).cell (i := 0) rfl
        have e1 := (kn5H.out.below hS' kn5H.out.lt).cell (i := 1) rfl
        have e2 := (kn5H.out.below hS' kn5H.out.lt).cell (i := 2) rfl
        have e3 := (kn5H.out.below hS' kn5H.out.lt).cell (i := 3) rfl
        have e4 := (kn5H.out.below hS' kn5H.out.lt).cell (i := 4) rfl
        have e5 := (kn5H.out.below hS' kn5H.out.lt).cell (i := 5) rfl
        have e6 := (kn5H.out.below hS' kn5H.out.lt).cell (i := 6) rfl
        have f0 := (ki5H.out.below hS' ki5H.out.lt).cell (i := 0) rfl
        have f1 := (ki5H.out.below hS' ki5H.out.lt).cell (i := 1) rfl
        have f2 := (ki5H.out.below hS' ki5H.out.lt).cell (i := 2) rfl
        have g0 := (kj5H.out.below hS' kj5H.out.lt).cell (i := 0) rfl
        have g1 := (kj5H.out.below hS' kj5H.out.lt).cell (i := 1) rfl
        have g2 := (kj5H.out.below hS' kj5H.out.lt).cell (i := 2) rfl
        clear hS'
        go_simp
        rfl
      simp only [List.setIfInBounds_toArray, List.set_cons_zero, List.set_cons_succ]
      refine take_op 1 (v := ?ev1) rfl (by kernel_rfl) (fun _ _ _ h => h) (by rfl) hS (fun w' hS' => ?ey1) ?ez1
      case ey1 =>
        have e0 := (kn5H.out.below hS' kn5H.out.lt).cell (i := 0) rfl
        have e1 := (kn5H.out.below hS' kn5H.out.lt).cell (i := 1) rfl
        have e2 := (kn5H.out.below hS' kn5H.out.lt).cell (i := 2) rfl
        have e3 := (kn5H.out.below hS' kn5H.out.lt).cell (i := 3) rfl
        have e4 := (kn5H.out.below hS' kn5H.out.lt).cell (i := 4) rfl
        have e5 := (kn5H.out.below hS' kn5H.out.lt).cell (i := 5) rfl
        have e6 := (kn5H.out.below hS' kn5H.out.lt).cell (i := 6) rfl
        have f0 := (ki5H.out.below hS' ki5H.out.lt).cell (i := 0) rfl
        have f1 := (ki5H.out.below hS' ki5H.out.lt).cell (i := 1) rfl
        have f2 := (ki5H.out.below hS' ki5H.out.lt).cell (i := 2) rfl
        have g0 := (kj5H.out.below hS' kj5H.out.lt).cell (i := 0) rfl
        have g1 := (kj5H.out.below hS' kj5H.out.lt).cell (i := 1) rfl
        have g2 := (kj5H.out.below hS' kj5H.out.lt).cell (i := 2) rfl
        clear hS'
        go_simp
        rfl
      simp only [List.setIfInBounds_toArray, List.set_cons_zero, List.set_cons_succ]
      refine take_op 3 (v := ?ev3) rfl (by kernel_rfl) (fun _ _ _ h => h) (by rfl) hS (fun w' hS' => ?ey3) ?ez3
      case ey3 =>
        have e0 := (kn5H.out.below hS' kn5H.out.lt).cell (i := 0) rfl
        have e1 := (kn5H.out.below hS' kn5H.out.lt).cell (i := 1) rfl
        have e2 := (kn5H.out.below hS' kn5H.out.lt).cell (i := 2) rfl
        have e3 := (kn5H.out.below hS' kn5H.out.lt).cell (i := 3) rfl
        have e4 := (kn5H.out.below hS' kn5H.out.lt).cell (i := 4) rfl
        have e5 := (kn5H.out.below hS' kn5H.out.lt).cell (i := 5) rfl
        have e6 := (kn5H.out.below hS' kn5H.out.lt).cell (i := 6) rfl
        have f0 := (ki5H.out.below hS' ki5H.out.lt).cell (i := 0) rfl
        have f1 := (ki5H.out.below hS' ki5H.out.lt).cell (i := 1) rfl
        have f2 := (ki5H.out.below hS' ki5H.out.lt).cell (i := 2) rfl
        have g0 := (kj5H.out.below hS' kj5H.out.lt).cell (i := 0) rfl
        have g1 := (kj5H.out.below hS' kj5H.out.lt).cell (i := 1) rfl
        have g2 := (kj5H.out.below hS' kj5H.out.lt).cell (i := 2) rfl
        clear hS'
        go_simp
        rfl
      simp only [List.setIfInBounds_toArray, List.set_cons_zero, List.set_cons_succ]
      refine take_op 4 (v := ?ev4) rfl (by kernel_rfl) (fun _ _ _ h => h) (by rfl) hS (fun w' hS' => ?ey4) ?ez4
      case ey4 =>
        have e0 := (kn5H.out.below hS' kn5H.out.lt).cell (i := 0) rfl
        have e1 := (kn5H.out.below hS' kn5H.out.lt).cell (i := 1) rfl
        have e2 := (kn5H.out.below hS' kn5H.out.lt).cell (i := 2) rfl
        have e3 := (kn5H.out.below hS' kn5H.out.lt).cell (i := 3) rfl
        have e4 := (kn5H.out.below hS' kn5H.out.lt).cell (i := 4) rfl
        have e5 := (kn5H.out.below hS' kn5H.out.lt).cell (i := 5) rfl
        have e6 := (kn5H.out.below hS' kn5H.out.lt).cell (i := 6) rfl
        have f0 := (ki5H.out.below hS' ki5H.out.lt).cell (i := 0) rfl
        have f1 := (ki5H.out.below hS' ki5H.out.lt).cell (i := 1) rfl
        have f2 := (ki5H.out.below hS' ki5H.out.lt).cell (i := 2) rfl
        have g0 := (kj5H.out.below hS' kj5H.out.lt).cell (i := 0) rfl
        have g1 := (kj5H.out.below hS' kj5H.out.lt).cell (i := 1) rfl
        have g2 := (kj5H.out.below hS' kj5H.out.lt).cell (i := 2) rfl
        clear hS'
        go_simp
        rfl
      simp only [List.setIfInBounds_toArray, List.set_cons_zero, List.set_cons_succ]
      refine step_op 2 (by kernel_rfl) rfl (fun K hK => ?_)
      rw [if_pos (by rfl)]
      go_simp
      refine (hf1H.out _ (hbY.trans (hS.mono hbY.size))).mono ?_
      rintro e V1 ⟨s1, c1, rfl, hrow1, hv1⟩
      have hS1 := hS.trans (hv1.mono hS.size)
      have rd1 := rowI_rd hfl1H.out hrow1
      clear hrow1 hv1
      refine hK.out _ _ (fun h => hS1) ?_
      clear hK K
      try simp only [Act.put, List.setIfInBounds_toArray, List.set_cons_zero, List.set_cons_succ]
      refine step_op 5 (by kernel_rfl) rfl (fun K hK => ?_)
      rw [if_pos (by rfl)]
      go_simp
      refine (hf2H.out _ (hbY.trans (hS1.mono hbY.size))).mono ?_
      rintro e V2 ⟨s2, c2, rfl, hrow2, hv2⟩
      have hS2 := hS1.trans (hv2.mono hS1.size)
      have rd2 := rowI_rd hfl2H.out hrow2
      have rd1' := later_i rd1 hv2
      clear hrow2 hv2 rd1
      refine hK.out _ _ (fun h => hS2) ?_
      clear hK K
      try simp only [Act.put, List.setIfInBounds_toArray, List.set_cons_zero, List.set_cons_succ]
      refine take_op 6 (v := ?ev6) rfl (by kernel_rfl) (fun _ _ _ h => h) (by rfl) hS2 (fun w' hS' => ?ey6) ?ez6
      case ey6 =>
        go_simp
        rfl
      simp only [List.setIfInBounds_toArray, List.set_cons_zero, List.set_cons_succ]
      refine take_op 7 (v := ?ev7) rfl (by kernel_rfl) (fun _ _ _ h => h) (by rfl) hS2 (fun w' hS' => ?ey7) ?ez7
      case ey7 =>
        go_simp
        rfl
      simp only [List.setIfInBounds_toArray, List.set_cons_zero, List.set_cons_succ]
      refine done_ops (by kernel_rfl) ?_
      have hbV := hbY.trans (hS2.mono hbY.size)
      have knVH := Lib.hid (kn5H.out.below hS2 kn5H.out.lt)
      have rd1H := Lib.hid rd1'
      have rd2H := Lib.hid rd2
      obtain ⟨i0, hi, hz0, hz1, hz2⟩ := info_parts jinfo_bnd
      have hzH := Lib.hid (jmade_bnd nf)
      clear hS hS1 hS2 rd1' rd2 hEY ky0
      go_wp2_with (at_make; refine wpList_make_full _ rfl _ _ 97 rfl V2.heap.size 99 i0 (.agg #[.int .i64 0, .int .i64 0]) 2 Tryz.underlying97 hi hz0 hz1 .i64 .i64 (nf : Int) (nf : Int) nf rfl rfl (by simp) (by simp) (by rw [hz2]; omega) (by unfold maxLen; omega) (by simp) ?_; intro V3 hown hg)
      have row3 : V3.ownsRow V2.heap.size 99 2 (.slice (some ⟨V2.heap.size, 0, none⟩) nf nf) nf (madeCells (Value.cells (.agg #[.int .i64 0, .int .i64 0])) (nf * 2)).toList := hown
      rw [hzH.out, ← layP_zero (bndF N m.px m'.px) nf] at row3
      have hb3 : Below V2.heap.size V2 V3 := (Below.refl _ _).grown hg (Nat.le_refl _) (fun k e => by cases e)
      clear hown hg hzH
      go_loopw [57] (fun i wr => ∃ k : Nat, k ≤ nf ∧ i = .int .i64 (k : Int) ∧ wr.ownsRow V2.heap.size 99 2 (.slice (some ⟨V2.heap.size, 0, none⟩) nf nf) nf ((flat (layP (bndF N m.px m'.px) nf k)).map (Value.int .i64)) ∧ Below V2.heap.size V2 wr) (fun i _ => nf - (intOf i).toNat)
      case atStart => exact ⟨0, Nat.zero_le _, rfl, row3, hb3⟩
      case round =>
        clear row3 hb3
        obtain ⟨k, hk, rfl, rowk, hbq⟩ := hrel
        by_cases hlt : k < nf
        case pos =>
          have hk1 : k < (featL N m.px).length := by rw [hfl1H.out]; exact hlt
          have hk2 : k < (featL N m'.px).length := by rw [hfl2H.out]; exact hlt
          rcases rd1H.out with h0 | ⟨b1, o1, rfl, hbb1, hcc1⟩
          · rw [h0] at hk1; simp at hk1
          rcases rd2H.out with h0 | ⟨b2, o2, rfl, hbb2, hcc2⟩
          · rw [h0] at hk2; simp at hk2
          have y1 := (hbq.cell (p := ⟨b1, o1 + k, none⟩) hbb1).trans (hcc1 k hk1)
          have y2 := (hbq.cell (p := ⟨b2, o2 + k, none⟩) hbb2).trans (hcc2 k hk2)
          obtain ⟨x, hx⟩ : ∃ x, (featL N m.px)[k]?.getD 0 = x := ⟨_, rfl⟩
          obtain ⟨y, hy⟩ : ∃ y, (featL N m'.px)[k]?.getD 0 = y := ⟨_, rfl⟩
          rw [hx] at y1
          rw [hy] at y2
          have hF : bndF N m.px m'.px k = (x, y) := by unfold bndF; rw [hx, hy]
          obtain ⟨⟨u0, hr0⟩, ⟨u1, hr1⟩, hf0, hf1, hrow'⟩ := rowP_store rowk hlt hF
          have hrowH := Lib.hid hrow'
          have hS0 : wr.drew.heap = wr.heap := rfl
          clear hcc1 hcc2 hx hy hF hrow' rowk
          go_wp2_with fail
          refine plain_region (fun W' => W'.heap = wr.heap) 12 13 (by kernel_rfl) rfl ?_
          simp only [Array.replicate_succ, Array.replicate_zero, List.push_toArray, List.nil_append, List.cons_append]
          refine take_op 0 (v := ?hv0) rfl (by kernel_rfl) (fun _ _ _ h => h) (by rfl) hS0 (fun w' hS' => ?hy0) ?hz0
          case hy0 =>
            go_simp
            rfl
          simp only [List.setIfInBounds_toArray, List.set_cons_zero, List.set_cons_succ]
          refine take_op 1 (v := ?hv1) rfl (by kernel_rfl) (fun _ _ _ h => h) (by rfl) hS0 (fun w' hS' => ?hy1) ?hz1
          case hy1 =>
            go_simp
            rfl
          simp only [List.setIfInBounds_toArray, List.set_cons_zero, List.set_cons_succ]
          refine take_op 2 (v := ?hv2) rfl (by kernel_rfl) (fun _ _ _ h => h) (by rfl) hS0 (fun w' hS' => ?hy2) ?hz2
          case hy2 =>
            go_simp
            rfl
          simp only [List.setIfInBounds_toArray, List.set_cons_zero, List.set_cons_succ]
          refine take_op 3 (v := ?hv3) rfl (by kernel_rfl) (fun _ _ _ h => h) (by rfl) hS0 (fun w' hS' => ?hy3) ?hz3
          case hy3 =>
            go_simp
            rfl
          simp only [List.setIfInBounds_toArray, List.set_cons_zero, List.set_cons_succ]
          refine take_op 4 (v := ?hv4) rfl (by kernel_rfl) (fun _ _ _ h => h) (by rfl) hS0 (fun w' hS' => ?hy4) ?hz4
          case hy4 =>
            go_simp
            try go_ints
            first
            | rfl
            | (rw [if_pos (by omega)]; done)
            | rw [if_pos ⟨by omega, by omega⟩]
          simp only [List.setIfInBounds_toArray, List.set_cons_zero, List.set_cons_succ]
          refine take_op 5 (v := ?hv5) rfl (by kernel_rfl) (fun _ _ _ h => h) (by rfl) hS0 (fun w' hS' => ?hy5) ?hz5
          case hy5 =>
            have e0 := (World.cell?_of_block (w := wr) (w' := w') (a := ⟨b1, o1 + k, none⟩) (by rw [hS'])).trans y1
            have e1 := (World.cell?_of_block (w := wr) (w' := w') (a := ⟨b2, o2 + k, none⟩) (by rw [hS'])).trans y2
            clear hS'
            go_simp
            rfl
          simp only [List.setIfInBounds_toArray, List.set_cons_zero, List.set_cons_succ]
          refine take_op 6 (v := ?hv6) rfl (by kernel_rfl) (fun _ _ _ h => h) (by rfl) hS0 (fun w' hS' => ?hy6) ?hz6
          case hy6 =>
            go_simp
            rfl
          simp only [List.setIfInBounds_toArray, List.set_cons_zero, List.set_cons_succ]
          refine take_op 7 (v := ?hv7) rfl (by kernel_rfl) (fun _ _ _ h => h) (by rfl) hS0 (fun w' hS' => ?hy7) ?hz7
          case hy7 =>
            go_simp
            rfl
          simp only [List.setIfInBounds_toArray, List.set_cons_zero, List.set_cons_succ]
          refine take_op 8 (v := ?hv8) rfl (by kernel_rfl) (fun _ _ _ h => h) (by rfl) hS0 (fun w' hS' => ?hy8) ?hz8
          case hy8 =>
            go_simp
            try go_ints
            first
            | rfl
            | (rw [if_pos (by omega)]; done)
            | rw [if_pos ⟨by omega, by omega⟩]
          simp only [List.setIfInBounds_toArray, List.set_cons_zero, List.set_cons_succ]
          refine take_op 9 (v := ?hv9) rfl (by kernel_rfl) (fun _ _ _ h => h) (by rfl) hS0 (fun w' hS' => ?hy9) ?hz9
          case hy9 =>
            have e0 := (World.cell?_of_block (w := wr) (w' := w') (a := ⟨b1, o1 + k, none⟩) (by rw [hS'])).trans y1
            have e1 := (World.cell?_of_block (w := wr) (w' := w') (a := ⟨b2, o2 + k, none⟩) (by rw [hS'])).trans y2
            clear hS'
            go_simp
            rfl
          simp only [List.setIfInBounds_toArray, List.set_cons_zero, List.set_cons_succ]
          refine take_op 10 (v := ?hv10) rfl (by kernel_rfl) (fun _ _ _ h => h) (by rfl) hS0 (fun w' hS' => ?hy10) ?hz10
          case hy10 =>
            go_simp
            rfl
          simp only [List.setIfInBounds_toArray, List.set_cons_zero, List.set_cons_succ]
          refine take_op 11 (v := ?hv11) rfl (by kernel_rfl) (fun _ _ _ h => h) (by rfl) hS0 (fun w' hS' => ?hy11) ?hz11
          case hy11 =>
            go_simp
            try go_ints
            first
            | rfl
            | (rw [if_pos (by omega)]; done)
            | rw [if_pos ⟨by omega, by omega⟩]
          simp only [List.setIfInBounds_toArray, List.set_cons_zero, List.set_cons_succ]
          refine step_op 12 (by kernel_rfl) rfl (fun K hK => ?_)
          have hf0' : wr.drew.frozen? ⟨V2.heap.size, k * 2, none⟩ = false := hf0
          have hf1' : wr.drew.frozen? ⟨V2.heap.size, k * 2 + 1, none⟩ = false := hf1
          have hr0' : wr.drew.cell? ⟨V2.heap.size, k * 2, none⟩ = some (.int .i64 u0) := hr0
          have hr1' : wr.drew.cell? ⟨V2.heap.size, k * 2 + 1, none⟩ = some (.int .i64 u1) := hr1
          rw [if_pos (by rfl)]
          go_simp
          refine hK.out _ _ (fun h => absurd h (by omega)) ?_
          clear hK K
          try simp only [Act.put, List.setIfInBounds_toArray, List.set_cons_zero, List.set_cons_succ]
          refine done_ops (by kernel_rfl) ?_
          go_wp2_with fail
          go_roundw
          case rel => exact ⟨k + 1, by omega, by go_num, hrowH.out, (hbq.drew.setCell (p := ⟨V2.heap.size, k * 2, none⟩) (Nat.le_refl _) _).setCell (p := ⟨V2.heap.size, k * 2 + 1, none⟩) (Nat.le_refl _) _⟩
          case measure => simp [intOf]; omega
        case neg =>
          have hkn : k = nf := by omega
          subst hkn
          have hrd := rowP_rd (by rw [flat_length, layP_length]) rowk
          rw [layP_all] at hrd
          have hrdH := Lib.hid (show Rd wr.heap.size wr (some ⟨V2.heap.size, 0, none⟩) (flat (bndL N m.px m'.px)) by unfold bndL; rw [hnfH.out]; exact hrd)
          have hbF := hbV.trans (hbq.mono hbV.size)
          have knF := knVH.out.below hbq knVH.out.lt
          have c0 : wr.cell? ⟨w.heap.size, 0, none⟩ = some (.int .i64 N.w) := knF.cell (i := 0) rfl
          have c1 : wr.cell? ⟨w.heap.size, 1, none⟩ = some (.int .i64 N.h) := knF.cell (i := 1) rfl
          have c2 : wr.cell? ⟨w.heap.size, 2, none⟩ = some (.int .i64 N.gx) := knF.cell (i := 2) rfl
          have c3 : wr.cell? ⟨w.heap.size, 3, none⟩ = some (.int .i64 N.gy) := knF.cell (i := 3) rfl
          have c4 : wr.cell? ⟨w.heap.size, 4, none⟩ = some (.slice na nn nc) := knF.cell (i := 4) rfl
          have c5 : wr.cell? ⟨w.heap.size, 5, none⟩ = some (.int .i64 N.low) := knF.cell (i := 5) rfl
          have c6 : wr.cell? ⟨w.heap.size, 6, none⟩ = some (.int .i64 N.high) := knF.cell (i := 6) rfl
          clear rowk hrd knF
          go_wp2_with (go_at_call 50; have _t := tok3; refine (hccH.out S hS8 (some ⟨V2.heap.size, 0, none⟩) k wr (hrnH.out wr hbF) hrdH.out).mono ?_; clear _t tok3; rintro e Z ⟨rfl, hbZ⟩)
          go_ret2
          exact ⟨by rw [r1H.out, r2H.out]; rfl, hB4.trans ((hbF.trans (hbZ.mono hbF.size)).mono hB4.size)⟩

end Go.Proofs.YtbfigbpjoaccdaaGreat

namespace Go.Proofs.YtbfigbpjoaccdaaGreat
open Go Go.RowKit Go.Shelf
set_option linter.unusedVariables false
set_option linter.unusedSimpArgs false

theorem run_add_any (x y c : Nat) (hc : c ≤ 1) (w : World) : (callFunc 141 #[.int .u64 (x : Int), .int .u64 (y : Int), .int .u64 (c : Int)]).run Tryz.prog w =
    .ok (.value (.tuple #[.int .u64 (((x + y + c) % 18446744073709551616 : Nat) : Int), .int .u64 (((x + y + c) / 18446744073709551616 : Nat) : Int)])) w := by
  rw [run_callFunc_extern Tryz.func141 (by kernel_rfl) (by kernel_rfl) (by kernel_rfl) (e := add64Entry) (by kernel_rfl), run_add64 x y c (by omega) (by omega) (by omega) (by omega)]
  simp only [Result.andThen]
  congr 5 <;> omega
theorem jwd_al {a w : World} (h : Below a.heap.size a w) (o : Obj) : Below a.heap.size a (w.alloc o) := h.alloc h.size o

















def two64 : Nat := 18446744073709551616
def two63 : Nat := 9223372036854775808
theorem lt_two64 {n : Nat} : n < two64 ↔ n < 18446744073709551616 := Iff.rfl
theorem lt_two63 {n : Nat} : n < two63 ↔ n < 9223372036854775808 := Iff.rfl

theorem ret_u64 {a b : Int} (h : a = b) : Ending.returned (.int .u64 a) = .returned (.int .u64 b) := by rw [h]
/-- The memory of the division. -/
structure PW (w : World) (a b q r : Nat) (W : World) : Prop where
  k2 : Blk W w.heap.size 206 #[.int .u64 0, .int .u64 (a : Int)]
  k3 : Blk W (w.heap.size + 1) 206 #[.int .u64 0, .int .u64 (b : Int)]
  k4 : Blk W (w.heap.size + 1 + 1) 206 #[.int .u64 0, .int .u64 0]
  k5 : Blk W (w.heap.size + 1 + 1 + 1) 206 #[.int .u64 0, .int .u64 0]
  k6 : Blk W (w.heap.size + 1 + 1 + 1 + 1) 206 #[.int .u64 0, .int .u64 (q : Int)]
  k7 : Blk W (w.heap.size + 1 + 1 + 1 + 1 + 1) 206 #[.int .u64 0, .int .u64 (r : Int)]
  low : Below w.heap.size w W
theorem PW.start (w : World) (a b : Nat) : PW w a b 0 0 ((((((w.alloc (.cells #[.int .u64 0, .int .u64 (a : Int)] 206)).alloc (.cells #[.int .u64 0, .int .u64 (b : Int)] 206)).alloc (.cells #[.int .u64 0, .int .u64 0] 206)).alloc (.cells #[.int .u64 0, .int .u64 0] 206)).alloc (.cells #[.int .u64 0, .int .u64 0] 206)).alloc (.cells #[.int .u64 0, .int .u64 0] 206)) where
  k2 := (((((Blk.new w _ _).alloc _).alloc _).alloc _).alloc _).alloc _
  k3 := by simpa only [World.size_alloc] using ((((Blk.new (w.alloc (.cells #[.int .u64 0, .int .u64 (a : Int)] 206)) 206 #[.int .u64 0, .int .u64 (b : Int)]).alloc _).alloc _).alloc _).alloc _
  k4 := by simpa only [World.size_alloc] using (((Blk.new ((w.alloc (.cells #[.int .u64 0, .int .u64 (a : Int)] 206)).alloc (.cells #[.int .u64 0, .int .u64 (b : Int)] 206)) 206 #[.int .u64 0, .int .u64 0]).alloc _).alloc _).alloc _
  k5 := by simpa only [World.size_alloc] using ((Blk.new (((w.alloc (.cells #[.int .u64 0, .int .u64 (a : Int)] 206)).alloc (.cells #[.int .u64 0, .int .u64 (b : Int)] 206)).alloc (.cells #[.int .u64 0, .int .u64 0] 206)) 206 #[.int .u64 0, .int .u64 0]).alloc _).alloc _
  k6 := by
    have h := (Blk.new ((((w.alloc (.cells #[.int .u64 0, .int .u64 (a : Int)] 206)).alloc (.cells #[.int .u64 0, .int .u64 (b : Int)] 206)).alloc (.cells #[.int .u64 0, .int .u64 0] 206)).alloc (.cells #[.int .u64 0, .int .u64 0] 206)) 206 #[.int .u64 0, .int .u64 0]).alloc (.cells #[.int .u64 0, .int .u64 0] 206)
    simp only [World.size_alloc] at h
    exact h
  k7 := by
    have h := (Blk.new (((((w.alloc (.cells #[.int .u64 0, .int .u64 (a : Int)] 206)).alloc (.cells #[.int .u64 0, .int .u64 (b : Int)] 206)).alloc (.cells #[.int .u64 0, .int .u64 0] 206)).alloc (.cells #[.int .u64 0, .int .u64 0] 206)).alloc (.cells #[.int .u64 0, .int .u64 0] 206)) 206 #[.int .u64 0, .int .u64 0])
    simp only [World.size_alloc] at h
    exact h
  low := jwd_al (jwd_al (jwd_al (jwd_al (jwd_al (jwd_al (Below.refl _ _) _) _) _) _) _) _
theorem PW.below {w : World} {a b q r : Nat} {W W' : World} (h : PW w a b q r W) (hb : Below W.heap.size W W') : PW w a b q r W' where
  k2 := h.k2.below hb h.k2.lt
  k3 := h.k3.below hb h.k3.lt
  k4 := h.k4.below hb h.k4.lt
  k5 := h.k5.below hb h.k5.lt
  k6 := h.k6.below hb h.k6.lt
  k7 := h.k7.below hb h.k7.lt
  low := h.low.trans (hb.mono h.low.size)
/-! ### The greatest common divisor -/

/-- The memory of it. -/
structure GW (w : World) (a b : Nat) (W : World) : Prop where
  k2 : Blk W w.heap.size 206 #[.int .u64 0, .int .u64 (a : Int)]
  k3 : Blk W (w.heap.size + 1) 206 #[.int .u64 0, .int .u64 (b : Int)]
  k4 : Blk W (w.heap.size + 1 + 1) 206 #[.int .u64 0, .int .u64 0]
  low : Below w.heap.size w W
theorem GW.start (w : World) (a b : Nat) : GW w a b (((w.alloc (.cells #[.int .u64 0, .int .u64 (a : Int)] 206)).alloc (.cells #[.int .u64 0, .int .u64 (b : Int)] 206)).alloc (.cells #[.int .u64 0, .int .u64 0] 206)) where
  k2 := ((Blk.new w _ _).alloc _).alloc _
  k3 := by simpa only [World.size_alloc] using (Blk.new (w.alloc (.cells #[.int .u64 0, .int .u64 (a : Int)] 206)) 206 #[.int .u64 0, .int .u64 (b : Int)]).alloc _
  k4 := by simpa only [World.size_alloc] using Blk.new ((w.alloc (.cells #[.int .u64 0, .int .u64 (a : Int)] 206)).alloc (.cells #[.int .u64 0, .int .u64 (b : Int)] 206)) 206 #[.int .u64 0, .int .u64 0]
  low := jwd_al (jwd_al (jwd_al (Below.refl _ _) _) _) _
theorem GW.below {w : World} {a b : Nat} {W W' : World} (h : GW w a b W) (hb : Below W.heap.size W W') : GW w a b W' where
  k2 := h.k2.below hb h.k2.lt
  k3 := h.k3.below hb h.k3.lt
  k4 := h.k4.below hb h.k4.lt
  low := h.low.trans (hb.mono h.low.size)

theorem GW.next {w : World} {x y : Nat} {V : World} (h : GW w x y V) (q r : Nat) : GW w y r ((((((V.setCell ⟨w.heap.size, 0, none⟩ (.int .u64 0)).setCell ⟨w.heap.size, 1, none⟩ (.int .u64 (y : Int))).setCell ⟨w.heap.size + 1, 0, none⟩ (.int .u64 0)).setCell ⟨w.heap.size + 1, 1, none⟩ (.int .u64 (r : Int))).alloc (.cells #[.int .u64 0, .int .u64 (q : Int)] 206)).alloc (.cells #[.int .u64 0, .int .u64 (r : Int)] 206)) where
  k2 := (((((h.k2.set 0 _).set 1 _).other (by simp) _).other (by simp) _).alloc _).alloc _
  k3 := (((((h.k3.other (by simp) _).other (by simp) _).set 0 _).set 1 _).alloc _).alloc _
  k4 := (((((h.k4.other (by simp <;> omega) _).other (by simp <;> omega) _).other (by simp) _).other (by simp) _).alloc _).alloc _
  low := by
    have h4 := (((h.low.setCell (p := ⟨w.heap.size, 0, none⟩) (by simp) (.int .u64 0)).setCell (p := ⟨w.heap.size, 1, none⟩) (by simp) (.int .u64 (y : Int))).setCell (p := ⟨w.heap.size + 1, 0, none⟩) (by simp) (.int .u64 0)).setCell (p := ⟨w.heap.size + 1, 1, none⟩) (by simp) (.int .u64 (r : Int))
    exact jwd_al (jwd_al h4 _) _

theorem gcd_rec (a b : Nat) : Nat.gcd a b = Nat.gcd b (a % b) := by rw [Nat.gcd_comm a b, Nat.gcd_rec b a, Nat.gcd_comm]

/-! ### The absolute value; valid fractions -/

/-- A fraction in lowest terms, of parts that are not too large. -/
def fracOk (num den : Int) : Bool := decide (1 ≤ den ∧ den ≤ 4611686018427387903 ∧ -4611686018427387903 ≤ num ∧ num ≤ 4611686018427387903) && (Nat.gcd num.natAbs den.natAbs == 1)
abbrev frv (num den : Int) : Value := .agg #[.int .i64 num, .int .i64 den]

theorem fracOk_bad {num den : Int} (h : den < 1 ∨ 4611686018427387903 < den ∨ num < -4611686018427387903 ∨ 4611686018427387903 < num) : fracOk num den = false := by
  unfold fracOk
  rw [show decide (1 ≤ den ∧ den ≤ 4611686018427387903 ∧ -4611686018427387903 ≤ num ∧ num ≤ 4611686018427387903) = false by simp only [decide_eq_false_iff_not]; omega]
  rfl
theorem fracOk_good {num den : Int} (h1 : ¬ den < 1) (h2 : ¬ 4611686018427387903 < den) (h3 : ¬ num < -4611686018427387903) (h4 : ¬ 4611686018427387903 < num) : fracOk num den = (Nat.gcd num.natAbs den.natAbs == 1) := by
  unfold fracOk
  rw [show decide (1 ≤ den ∧ den ≤ 4611686018427387903 ∧ -4611686018427387903 ≤ num ∧ num ≤ 4611686018427387903) = true by simp only [decide_eq_true_eq]; omega]
  rfl
theorem ret_b {a b : Bool} (h : a = b) : Ending.returned (.bool a) = .returned (.bool b) := by rw [h]

end Go.Proofs.YtbfigbpjoaccdaaGreat

/- Features of the program and of the specification. -/
import Derived.Test.YtbfigbpjoaccdaaFr
namespace Go.Proofs.Ytbfigbpjoaccdaa
open Go Go.RowKit Go.Shelf
set_option linter.unusedVariables false
set_option linter.unusedSimpArgs false

theorem imAt_one (m : ImN) : imAt [m] 0 = m := rfl
theorem imAt_len {ms : List ImN} (h : ∀ m ∈ ms, m.px.length ≤ 9223372036854775807) (i : Nat) : (imAt ms i).px.length ≤ 9223372036854775807 := by
  unfold imAt
  cases e : ms[i]? with
  | none => simp
  | some m => exact h m (List.mem_of_getElem? e)
/-- A slice of one image in a block of its own. -/
theorem rdis_one {W : World} {b : Nat} {m : ImN} {pa : Option Addr} {l pc : Nat} (hl : m.px.length = l) (h : Blk W b 27 #[.int .i64 m.w, .int .i64 m.h, .slice pa l pc]) (hp : Rd W.heap.size W pa m.px) : RdIs W.heap.size W (some ⟨b, 0, none⟩) [m] :=
  .inr ⟨b, 0, rfl, h.lt, fun i hi => by
    have : i = 0 := by simp at hi; exact hi
    subst this
    exact ⟨pa, pc, h.cell (i := 0) rfl, h.cell (i := 1) rfl, by rw [imAt_one, hl]; exact h.cell (i := 2) rfl, hp⟩⟩
theorem chkF_zero {N : NetN} {m : ImN} (h : chkF N [m] = 0) : NetOk N ∧ m.w = N.w ∧ m.h = N.h ∧ camB m = true := by
  unfold chkF at h
  cases h1 : netOk N with
  | false => rw [h1] at h; simp at h
  | true =>
    cases h2 : camsB [m] with
    | false => rw [h1, h2] at h; simp at h
    | true =>
      cases h3 : fitsB N [m] with
      | false => rw [h1, h2, h3] at h; simp at h
      | true =>
        have h3' := of_decide_eq_true (allTo_at h3 (k := 0) (by simp))
        exact ⟨netOk_of h1, h3'.1, h3'.2, allTo_at h2 (k := 0) (by simp)⟩
theorem chkF_err {N : NetN} {ms : List ImN} (h : ¬ chkF N ms = 0) : chkF N ms = 80 ∨ chkF N ms = 20 ∨ chkF N ms = 21 := by
  unfold chkF at h ⊢
  split
  · rename_i h1
    rw [if_pos h1] at h
    split
    · rename_i h2
      rw [if_pos h2] at h
      split
      · rename_i h3; rw [if_pos h3] at h; exact (h rfl).elim
      · simp
    · simp
  · simp
/-- What both Features answer. -/
def RetFea (N : NetN) (m : ImN) (w : World) (e : Ending) (w' : World) : Prop :=
  ∃ (a : Option Addr) (n c : Nat) (xs : List Int), e = .returned (.tuple #[.slice a n c, .int .i64 (chkF N [m])]) ∧ xs.length = n ∧ w'.ownsRow w.heap.size 3 1 (.slice a n c) n (xs.map (Value.int .i64)) ∧
    xs = (if chkF N [m] = 0 then featL N m.px else []) ∧ Below w.heap.size w w'

set_option maxRecDepth 100000 in
set_option maxHeartbeats 4000000 in
theorem Features_any (N : NetN) (na : Option Addr) (nn nc : Nat) (hnn : N.Ls.length = nn) (hz : NetSz N) (m : ImN) (pa : Option Addr) (l pc : Nat) (hl : m.px.length = l) (hpm : l ≤ 9223372036854775807)
    (w : World) (hrn : RdLs w.heap.size w na N.Ls) (hp : Rd w.heap.size w pa m.px) :
    Calls Try.prog 7 #[netv N na nn nc, imv m.w m.h pa l pc] w (RetFea N m w) := by
  obtain ⟨v, hv⟩ : ∃ v, chkF N [m] = v := ⟨_, rfl⟩
  have tok1 : True := trivial
  have tok2 : True := trivial
  have hbW1 : Below w.heap.size w (w.alloc (.cells #[.int .i64 N.w, .int .i64 N.h, .int .i64 N.gx, .int .i64 N.gy, .slice na nn nc, .int .i64 N.low, .int .i64 N.high] 24)) := jb_al (Below.refl _ w) _
  have kn := Blk.new w 24 #[.int .i64 N.w, .int .i64 N.h, .int .i64 N.gx, .int .i64 N.gy, .slice na nn nc, .int .i64 N.low, .int .i64 N.high]
  obtain ⟨W1, hEW1⟩ : ∃ X, w.alloc (.cells #[.int .i64 N.w, .int .i64 N.h, .int .i64 N.gx, .int .i64 N.gy, .slice na nn nc, .int .i64 N.low, .int .i64 N.high] 24) = X := ⟨_, rfl⟩
  rw [hEW1] at hbW1 kn
  have hbW2 : Below W1.heap.size W1 (W1.alloc (.cells #[.int .i64 m.w, .int .i64 m.h, .slice pa l pc] 27)) := jb_al (Below.refl _ W1) _
  have ki := Blk.new W1 27 #[.int .i64 m.w, .int .i64 m.h, .slice pa l pc]
  obtain ⟨W2, hEW2⟩ : ∃ X, W1.alloc (.cells #[.int .i64 m.w, .int .i64 m.h, .slice pa l pc] 27) = X := ⟨_, rfl⟩
  rw [hEW2] at hbW2 ki
  have hbW3 : Below W2.heap.size W2 (W2.alloc (.cells #[.int .i64 m.w, .int .i64 m.h, .slice pa l pc] 27)) := jb_al (Below.refl _ W2) _
  have ks := Blk.new W2 27 #[.int .i64 m.w, .int .i64 m.h, .slice pa l pc]
  obtain ⟨W3, hEW3⟩ : ∃ X, W2.alloc (.cells #[.int .i64 m.w, .int .i64 m.h, .slice pa l pc] 27) = X := ⟨_, rfl⟩
  rw [hEW3] at hbW3 ks
  have hB : Below w.heap.size w W3 := hbW1.trans ((hbW2.trans (hbW3.mono hbW2.size)).mono hbW1.size)
  have kn3 := (kn.below hbW2 kn.lt).below hbW3 (Nat.lt_of_lt_of_le kn.lt hbW2.size)
  have ki3 := ki.below hbW3 ki.lt
  have c0 : W2.cell? ⟨w.heap.size, 0, none⟩ = some (.int .i64 N.w) := (kn.below hbW2 kn.lt).cell (i := 0) rfl
  have c1 : W2.cell? ⟨w.heap.size, 1, none⟩ = some (.int .i64 N.h) := (kn.below hbW2 kn.lt).cell (i := 1) rfl
  have c2 : W2.cell? ⟨w.heap.size, 2, none⟩ = some (.int .i64 N.gx) := (kn.below hbW2 kn.lt).cell (i := 2) rfl
  have c3 : W2.cell? ⟨w.heap.size, 3, none⟩ = some (.int .i64 N.gy) := (kn.below hbW2 kn.lt).cell (i := 3) rfl
  have c4 : W2.cell? ⟨w.heap.size, 4, none⟩ = some (.slice na nn nc) := (kn.below hbW2 kn.lt).cell (i := 4) rfl
  have c5 : W2.cell? ⟨w.heap.size, 5, none⟩ = some (.int .i64 N.low) := (kn.below hbW2 kn.lt).cell (i := 5) rfl
  have c6 : W2.cell? ⟨w.heap.size, 6, none⟩ = some (.int .i64 N.high) := (kn.below hbW2 kn.lt).cell (i := 6) rfl
  have d0 : W2.cell? ⟨W1.heap.size, 0, none⟩ = some (.int .i64 m.w) := ki.cell (i := 0) rfl
  have d1 : W2.cell? ⟨W1.heap.size, 1, none⟩ = some (.int .i64 m.h) := ki.cell (i := 1) rfl
  have d2 : W2.cell? ⟨W1.heap.size, 2, none⟩ = some (.slice pa l pc) := ki.cell (i := 2) rfl
  have hcall := check_any N na nn nc hnn hz [m] (some ⟨W2.heap.size, 0, none⟩) 1 1 rfl (by omega) (imAt_len (by simp; omega)) W3 (later_l hrn hB) (rdis_one hl ks (later_i hp hB)) v hv
  have hcallH := Lib.hid hcall
  have hpH := Lib.hid (later_i hp hB)
  have kn3H := Lib.hid kn3
  have ki3H := Lib.hid ki3
  have hlnH := Lib.hid hl
  clear hcall ks kn ki kn3 ki3 hp hl hrn hz hnn
  by_cases h0 : v = 0
  case neg =>
    have h0' : (v != 0) = true := by simpa using h0
    have hfin : ∀ (W : World), Below W3.heap.size W3 W → RetFea N m w (.returned (.tuple #[.slice none 0 0, .int .i64 v])) W := fun W hb => ⟨none, 0, 0, [], by rw [hv], rfl, World.ownsRow_nil _ _ _ _, by rw [if_neg (by rw [hv]; exact h0)], hB.trans (hb.mono hB.size)⟩
    have hfinH := Lib.hid hfin
    clear hfin hv
    go_enter Try.func7, Try.ntmps7
    go_wp2_with (go_at_call 19; have _t := tok1; refine (hcallH.out).mono ?_; clear _t tok1; rintro e w4 ⟨rfl, hb4⟩)
    go_ret2
    exact hfinH.out _ hb4
  subst h0
  obtain ⟨hN, hw, hh, hc⟩ := chkF_zero hv
  have hfeaH := Lib.hid (fun (W : World) (hb : Below W3.heap.size W3 W) => features_any N hN na nn nc m hw hh hc pa l pc hlnH.out W (later_i hpH.out hb))
  have hfin : ∀ (W W' : World) (s : Option Addr) (sc : Nat), Below W3.heap.size W3 W → W'.ownsRow W.heap.size 3 1 (.slice s N.nf sc) N.nf ((featL N m.px).map (Value.int .i64)) → Below W.heap.size W W' → RetFea N m w (.returned (.tuple #[.slice s N.nf sc, .int .i64 0])) W' := fun W W' s sc hb hr hb' =>
    ⟨s, N.nf, sc, featL N m.px, by rw [hv], featL_length N m.px, own_mono_j hr (Nat.le_trans hB.size hb.size), by rw [if_pos hv], hB.trans ((hb.trans (hb'.mono hb.size)).mono hB.size)⟩
  have hfinH := Lib.hid hfin
  clear hfin hv hN hw hh hc
  go_enter Try.func7, Try.ntmps7
  go_wp2_with (first
    | (go_at_call 19; have _t := tok1; refine (hcallH.out).mono ?_; clear _t tok1; rintro e w4 ⟨rfl, hb4⟩; have kn4 := kn3H.out.below hb4 kn3H.out.lt; have ki4 := ki3H.out.below hb4 ki3H.out.lt; have q0 : w4.cell? ⟨w.heap.size, 0, none⟩ = some (.int .i64 N.w) := kn4.cell (i := 0) rfl; have q1 : w4.cell? ⟨w.heap.size, 1, none⟩ = some (.int .i64 N.h) := kn4.cell (i := 1) rfl; have q2 : w4.cell? ⟨w.heap.size, 2, none⟩ = some (.int .i64 N.gx) := kn4.cell (i := 2) rfl; have q3 : w4.cell? ⟨w.heap.size, 3, none⟩ = some (.int .i64 N.gy) := kn4.cell (i := 3) rfl; have q4 : w4.cell? ⟨w.heap.size, 4, none⟩ = some (.slice na nn nc) := kn4.cell (i := 4) rfl; have q5 : w4.cell? ⟨w.heap.size, 5, none⟩ = some (.int .i64 N.low) := kn4.cell (i := 5) rfl; have q6 : w4.cell? ⟨w.heap.size, 6, none⟩ = some (.int .i64 N.high) := kn4.cell (i := 6) rfl; have r0 : w4.cell? ⟨W1.heap.size, 0, none⟩ = some (.int .i64 m.w) := ki4.cell (i := 0) rfl; have r1 : w4.cell? ⟨W1.heap.size, 1, none⟩ = some (.int .i64 m.h) := ki4.cell (i := 1) rfl; have r2 : w4.cell? ⟨W1.heap.size, 2, none⟩ = some (.slice pa l pc) := ki4.cell (i := 2) rfl)
    | (go_at_call 20; have _t := tok2; refine (hfeaH.out w4 hb4).mono ?_; clear _t tok2; rintro e w5 ⟨s, sc, rfl, hrow, hb5⟩))
  go_ret2
  exact hfinH.out _ _ _ _ hb4 hrow hb5

set_option maxRecDepth 100000 in
set_option maxHeartbeats 4000000 in
theorem rFeatures_any (N : NetN) (na : Option Addr) (nn nc : Nat) (hnn : N.Ls.length = nn) (hz : NetSz N) (m : ImN) (pa : Option Addr) (l pc : Nat) (hl : m.px.length = l) (hpm : l ≤ 9223372036854775807)
    (w : World) (hrn : RdLs w.heap.size w na N.Ls) (hp : Rd w.heap.size w pa m.px) :
    Calls Try.prog 8 #[netv N na nn nc, imv m.w m.h pa l pc] w (RetFea N m w) := by
  obtain ⟨v, hv⟩ : ∃ v, chkF N [m] = v := ⟨_, rfl⟩
  have tok1 : True := trivial
  have tok2 : True := trivial
  have hbW1 : Below w.heap.size w (w.alloc (.cells #[.int .i64 N.w, .int .i64 N.h, .int .i64 N.gx, .int .i64 N.gy, .slice na nn nc, .int .i64 N.low, .int .i64 N.high] 24)) := jb_al (Below.refl _ w) _
  have kn := Blk.new w 24 #[.int .i64 N.w, .int .i64 N.h, .int .i64 N.gx, .int .i64 N.gy, .slice na nn nc, .int .i64 N.low, .int .i64 N.high]
  obtain ⟨W1, hEW1⟩ : ∃ X, w.alloc (.cells #[.int .i64 N.w, .int .i64 N.h, .int .i64 N.gx, .int .i64 N.gy, .slice na nn nc, .int .i64 N.low, .int .i64 N.high] 24) = X := ⟨_, rfl⟩
  rw [hEW1] at hbW1 kn
  have hbW2 : Below W1.heap.size W1 (W1.alloc (.cells #[.int .i64 m.w, .int .i64 m.h, .slice pa l pc] 27)) := jb_al (Below.refl _ W1) _
  have ki := Blk.new W1 27 #[.int .i64 m.w, .int .i64 m.h, .slice pa l pc]
  obtain ⟨W2, hEW2⟩ : ∃ X, W1.alloc (.cells #[.int .i64 m.w, .int .i64 m.h, .slice pa l pc] 27) = X := ⟨_, rfl⟩
  rw [hEW2] at hbW2 ki
  have hB : Below w.heap.size w W2 := hbW1.trans ((hbW2).mono hbW1.size)
  have kn3 := kn.below hbW2 kn.lt
  have ki3 := ki
  have c0 : W2.cell? ⟨w.heap.size, 0, none⟩ = some (.int .i64 N.w) := kn3.cell (i := 0) rfl
  have c1 : W2.cell? ⟨w.heap.size, 1, none⟩ = some (.int .i64 N.h) := kn3.cell (i := 1) rfl
  have c2 : W2.cell? ⟨w.heap.size, 2, none⟩ = some (.int .i64 N.gx) := kn3.cell (i := 2) rfl
  have c3 : W2.cell? ⟨w.heap.size, 3, none⟩ = some (.int .i64 N.gy) := kn3.cell (i := 3) rfl
  have c4 : W2.cell? ⟨w.heap.size, 4, none⟩ = some (.slice na nn nc) := kn3.cell (i := 4) rfl
  have c5 : W2.cell? ⟨w.heap.size, 5, none⟩ = some (.int .i64 N.low) := kn3.cell (i := 5) rfl
  have c6 : W2.cell? ⟨w.heap.size, 6, none⟩ = some (.int .i64 N.high) := kn3.cell (i := 6) rfl
  have d0 : W2.cell? ⟨W1.heap.size, 0, none⟩ = some (.int .i64 m.w) := ki3.cell (i := 0) rfl
  have d1 : W2.cell? ⟨W1.heap.size, 1, none⟩ = some (.int .i64 m.h) := ki3.cell (i := 1) rfl
  have d2 : W2.cell? ⟨W1.heap.size, 2, none⟩ = some (.slice pa l pc) := ki3.cell (i := 2) rfl
  have hcall := rsized_any N na nn nc hnn hz m pa l pc hl hpm W2 (later_l hrn hB) (later_i hp hB) v hv
  have hcallH := Lib.hid hcall
  have hpH := Lib.hid (later_i hp hB)
  have kn3H := Lib.hid kn3
  have ki3H := Lib.hid ki3
  have hlnH := Lib.hid hl
  clear hcall kn ki kn3 ki3 hp hl hrn hz hnn
  by_cases h0 : v = 0
  case neg =>
    have h0' : (v != 0) = true := by simpa using h0
    have hfin : ∀ (W : World), Below W2.heap.size W2 W → RetFea N m w (.returned (.tuple #[.slice none 0 0, .int .i64 v])) W := fun W hb => ⟨none, 0, 0, [], by rw [hv], rfl, World.ownsRow_nil _ _ _ _, by rw [if_neg (by rw [hv]; exact h0)], hB.trans (hb.mono hB.size)⟩
    have hfinH := Lib.hid hfin
    clear hfin hv
    go_enter Try.func8, Try.ntmps8
    go_wp2_with (go_at_call 21; have _t := tok1; refine (hcallH.out).mono ?_; clear _t tok1; rintro e w4 ⟨rfl, hb4⟩)
    go_ret2
    exact hfinH.out _ hb4
  subst h0
  obtain ⟨hN, hw, hh, hc⟩ := chkF_zero hv
  have hfeaH := Lib.hid (fun (W : World) (hb : Below W2.heap.size W2 W) => Featured_any N hN na nn nc m hw hh hc pa l pc hlnH.out W (later_i hpH.out hb))
  have hfin : ∀ (W W' : World) (s : Option Addr) (sc : Nat), Below W2.heap.size W2 W → W'.ownsRow W.heap.size 3 1 (.slice s N.nf sc) N.nf ((featL N m.px).map (Value.int .i64)) → Below W.heap.size W W' → RetFea N m w (.returned (.tuple #[.slice s N.nf sc, .int .i64 0])) W' := fun W W' s sc hb hr hb' =>
    ⟨s, N.nf, sc, featL N m.px, by rw [hv], featL_length N m.px, own_mono_j hr (Nat.le_trans hB.size hb.size), by rw [if_pos hv], hB.trans ((hb.trans (hb'.mono hb.size)).mono hB.size)⟩
  have hfinH := Lib.hid hfin
  clear hfin hv hN hw hh hc
  go_enter Try.func8, Try.ntmps8
  go_wp2_with (first
    | (go_at_call 21; have _t := tok1; refine (hcallH.out).mono ?_; clear _t tok1; rintro e w4 ⟨rfl, hb4⟩; have kn4 := kn3H.out.below hb4 kn3H.out.lt; have ki4 := ki3H.out.below hb4 ki3H.out.lt; have q0 : w4.cell? ⟨w.heap.size, 0, none⟩ = some (.int .i64 N.w) := kn4.cell (i := 0) rfl; have q1 : w4.cell? ⟨w.heap.size, 1, none⟩ = some (.int .i64 N.h) := kn4.cell (i := 1) rfl; have q2 : w4.cell? ⟨w.heap.size, 2, none⟩ = some (.int .i64 N.gx) := kn4.cell (i := 2) rfl; have q3 : w4.cell? ⟨w.heap.size, 3, none⟩ = some (.int .i64 N.gy) := kn4.cell (i := 3) rfl; have q4 : w4.cell? ⟨w.heap.size, 4, none⟩ = some (.slice na nn nc) := kn4.cell (i := 4) rfl; have q5 : w4.cell? ⟨w.heap.size, 5, none⟩ = some (.int .i64 N.low) := kn4.cell (i := 5) rfl; have q6 : w4.cell? ⟨w.heap.size, 6, none⟩ = some (.int .i64 N.high) := kn4.cell (i := 6) rfl; have r0 : w4.cell? ⟨W1.heap.size, 0, none⟩ = some (.int .i64 m.w) := ki4.cell (i := 0) rfl; have r1 : w4.cell? ⟨W1.heap.size, 1, none⟩ = some (.int .i64 m.h) := ki4.cell (i := 1) rfl; have r2 : w4.cell? ⟨W1.heap.size, 2, none⟩ = some (.slice pa l pc) := ki4.cell (i := 2) rfl)
    | (go_at_call 22; have _t := tok2; refine (hfeaH.out w4 hb4).mono ?_; clear _t tok2; rintro e w5 ⟨s, sc, rfl, hrow, hb5⟩))
  go_ret2
  exact hfinH.out _ _ _ _ hb4 hrow hb5

end Go.Proofs.Ytbfigbpjoaccdaa

/- Valid changes and changed values of the specification. -/
import Derived.Test.YtbfigbpjoaccdaaGreatQD18
import Derived.Test.YtbfigbpjoaccdaaGreatQD3
namespace Go.Proofs.YtbfigbpjoaccdaaGreat
open Go Go.RowKit Go.Shelf
set_option linter.unusedVariables false
set_option linter.unusedSimpArgs false

set_option maxRecDepth 100000 in
set_option maxHeartbeats 2000000 in
theorem ValidChange_any (C : ChgN) (v : Bool) (hv : chgB C = v) (w : World) :
    Calls Tryz.prog 23 #[C.val] w fun e w' => e = .returned (.bool v) ∧ Below w.heap.size w w' := by
  obtain ⟨s, gl, gh, off, noi⟩ := C
  have hveq : v = (((nIn 0 2 s && (nIn 0 400 gl && nIn 0 400 gh)) && decide (gl ≤ gh)) && (nIn 0 255 off && nIn 0 255 noi)) := hv.symm
  have hveqH := Lib.hid hveq
  clear hveq hv
  have tok1 : True := trivial
  have tok2 : True := trivial
  have tok3 : True := trivial
  have hbW1 : Below w.heap.size w (w.alloc (.cells #[.int .i64 s, .int .i64 gl, .int .i64 gh, .int .i64 off, .int .i64 noi] 39)) := jb_al (Below.refl _ w) _
  have k1 := Blk.new w 39 #[.int .i64 s, .int .i64 gl, .int .i64 gh, .int .i64 off, .int .i64 noi]
  obtain ⟨W1, hEW1⟩ : ∃ X, w.alloc (.cells #[.int .i64 s, .int .i64 gl, .int .i64 gh, .int .i64 off, .int .i64 noi] 39) = X := ⟨_, rfl⟩
  rw [hEW1] at hbW1 k1
  have c0 : W1.cell? ⟨w.heap.size, 0, none⟩ = some (.int .i64 s) := k1.cell (i := 0) rfl
  have c1 : W1.cell? ⟨w.heap.size, 1, none⟩ = some (.int .i64 gl) := k1.cell (i := 1) rfl
  have c2 : W1.cell? ⟨w.heap.size, 2, none⟩ = some (.int .i64 gh) := k1.cell (i := 2) rfl
  have c3 : W1.cell? ⟨w.heap.size, 3, none⟩ = some (.int .i64 off) := k1.cell (i := 3) rfl
  have c4 : W1.cell? ⟨w.heap.size, 4, none⟩ = some (.int .i64 noi) := k1.cell (i := 4) rfl
  clear k1
  obtain ⟨v1, hv1⟩ : ∃ z, nIn 0 2 s = z := ⟨_, rfl⟩
  have h1H := Lib.hid hv1
  clear hv1
  cases v1 with
  | false =>
    have hvf : v = false := by rw [hveqH.out, h1H.out]; rfl
    subst hvf
    go_enter Tryz.func23, Tryz.ntmps23
    go_wp2_with (go_at_call 61; have _t := tok1; refine (rw1 0 2 _ false h1H.out _).mono ?_; clear _t tok1; rintro e w' ⟨rfl, rfl⟩)
    go_ret
    exact ⟨rfl, hbW1⟩
  | true =>
  by_cases g1 : 0 ≤ gl
  case neg =>
    have hvf : v = false := by
      have h : nIn 0 400 gl = false := nIn_false.2 (by omega)
      rw [hveqH.out, h]; simp
    subst hvf
    go_enter Tryz.func23, Tryz.ntmps23
    go_wp2_with (go_at_call 61; have _t := tok1; refine (rw1 0 2 _ true h1H.out _).mono ?_; clear _t tok1; rintro e w' ⟨rfl, rfl⟩)
    go_ret
    exact ⟨rfl, hbW1⟩
  by_cases g2 : gl ≤ gh
  case neg =>
    have hvf : v = false := by
      have h : decide (gl ≤ gh) = false := by simp; omega
      rw [hveqH.out, h]; simp
    subst hvf
    go_enter Tryz.func23, Tryz.ntmps23
    go_wp2_with (go_at_call 61; have _t := tok1; refine (rw1 0 2 _ true h1H.out _).mono ?_; clear _t tok1; rintro e w' ⟨rfl, rfl⟩)
    go_ret
    exact ⟨rfl, hbW1⟩
  by_cases g3 : gh ≤ 400
  case neg =>
    have hvf : v = false := by
      have h : nIn 0 400 gh = false := nIn_false.2 (by omega)
      rw [hveqH.out, h]; simp
    subst hvf
    go_enter Tryz.func23, Tryz.ntmps23
    go_wp2_with (go_at_call 61; have _t := tok1; refine (rw1 0 2 _ true h1H.out _).mono ?_; clear _t tok1; rintro e w' ⟨rfl, rfl⟩)
    go_ret
    exact ⟨rfl, hbW1⟩
  obtain ⟨v2, hv2⟩ : ∃ z, nIn 0 255 off = z := ⟨_, rfl⟩
  have h2H := Lib.hid hv2
  obtain ⟨v3, hv3⟩ : ∃ z, nIn 0 255 noi = z := ⟨_, rfl⟩
  have h3H := Lib.hid hv3
  clear hv2 hv3
  have hvt : v = (v2 && v3) := by
    have e1 : nIn 0 400 gl = true := nIn_true.2 ⟨g1, by omega⟩
    have e2 : nIn 0 400 gh = true := nIn_true.2 ⟨by omega, g3⟩
    rw [hveqH.out, h1H.out, h2H.out, h3H.out, e1, e2]; simp [g2]
  clear hveqH
  subst hvt
  cases v2 with
  | false =>
    go_enter Tryz.func23, Tryz.ntmps23
    go_wp2_with (first
      | (go_at_call 61; have _t := tok1; refine (rw1 0 2 _ true h1H.out _).mono ?_; clear _t tok1; rintro e w' ⟨rfl, rfl⟩)
      | (go_at_call 61; have _t := tok2; refine (rw1 0 255 _ false h2H.out _).mono ?_; clear _t tok2; rintro e w' ⟨rfl, rfl⟩))
    go_ret
    exact ⟨rfl, hbW1⟩
  | true =>
    go_enter Tryz.func23, Tryz.ntmps23
    go_wp2_with (first
      | (go_at_call 61; have _t := tok1; refine (rw1 0 2 _ true h1H.out _).mono ?_; clear _t tok1; rintro e w' ⟨rfl, rfl⟩)
      | (go_at_call 61; have _t := tok2; refine (rw1 0 255 _ true h2H.out _).mono ?_; clear _t tok2; rintro e w' ⟨rfl, rfl⟩)
      | (go_at_call 61; have _t := tok3; refine (rw1 0 255 _ v3 h3H.out _).mono ?_; clear _t tok3; rintro e w' ⟨rfl, rfl⟩))
    go_ret
    exact ⟨ret_bool (by simp), hbW1⟩

theorem px_byte {xs : List Int} (h : allIn 0 255 xs = true) (q : Int) : 0 ≤ px xs q ∧ px xs q ≤ 255 := by
  unfold px
  by_cases hk : q.toNat < xs.length
  · exact allIn_getD h hk
  · rw [List.getElem?_eq_none (by omega)]; simp
theorem bey_byte {xs : List Int} (h : allIn 0 255 xs = true) (iw ih x y : Int) : 0 ≤ beyF 2 iw ih xs x y ∧ beyF 2 iw ih xs x y ≤ 255 := by rw [beyF_2]; exact px_byte h _
end Go.Proofs.YtbfigbpjoaccdaaGreat

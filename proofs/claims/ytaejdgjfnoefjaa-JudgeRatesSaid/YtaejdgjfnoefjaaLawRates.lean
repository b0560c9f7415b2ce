/- The walk of the law JudgeRates: it returns true, and nothing that lay has turned. -/
import Derived.Test.YtaejdgjfnoefjaaRr
namespace Go.Proofs.Ytaejdgjfnoefjaa
open Go Go.RowKit Go.Shelf
set_option linter.unusedVariables false
set_option linter.unusedSimpArgs false

set_option maxRecDepth 100000 in
set_option maxHeartbeats 4000000 in
theorem law_rates (n k j num den : Int) (hn : (Lit.int .i64 num).wf = true) (hd : (Lit.int .i64 den).wf = true) (w : World) :
    Calls Try.prog 6 #[.int .i64 n, .int .i64 k, .int .i64 j, frv num den] w fun e w' => e = .returned (.bool true) ∧ Below w.heap.size w w' := by
  have k0 := Blk.new w 33 #[.int .i64 num, .int .i64 den]
  have hB0 := jwd_al (Below.refl _ w) (.cells #[.int .i64 num, .int .i64 den] 33)
  obtain ⟨⟨x1, xe⟩, hx⟩ : ∃ x, rateS n k j num den = x := ⟨_, rfl⟩
  obtain ⟨⟨y1, ye⟩, hy⟩ : ∃ x, boundS n k num den = x := ⟨_, rfl⟩
  have h1 := fun W => AtMost_any n k j num den hn hd W
  have h2 := fun W => rAtMost_any n k j num den hn hd W
  have h3 := fun W => Bound_any n k num den hn hd W
  have h4 := fun W => rBound_any n k num den hn hd W
  rw [hx] at h1 h2
  rw [hy] at h3 h4
  have h1H := Lib.hid h1
  have h2H := Lib.hid h2
  have h3H := Lib.hid h3
  have h4H := Lib.hid h4
  have c00 := k0.cell (i := 0) rfl
  have c01 := k0.cell (i := 1) rfl
  clear h1 h2 h3 h4 hx hy hn hd
  go_enter Try.func6, Try.ntmps6
  go_wp2_with fail
  refine (h1H.out _).mono ?_
  rintro e W1 ⟨rfl, hb⟩
  have k1 := k0.below hb k0.lt
  have hB1 := hB0.trans (hb.mono hB0.size)
  clear c00 c01 hb k0 hB0
  have c00 := k1.cell (i := 0) rfl
  have c01 := k1.cell (i := 1) rfl
  go_wp2_with fail
  refine (h2H.out _).mono ?_
  rintro e W2 ⟨rfl, hb⟩
  have k2 := k1.below hb k1.lt
  have hB2 := hB1.trans (hb.mono hB1.size)
  clear c00 c01 hb k1 hB1
  have c00 := k2.cell (i := 0) rfl
  have c01 := k2.cell (i := 1) rfl
  go_wp2_with fail
  refine (h3H.out _).mono ?_
  rintro e W3 ⟨rfl, hb⟩
  have k3 := k2.below hb k2.lt
  have hB3 := hB2.trans (hb.mono hB2.size)
  clear c00 c01 hb k2 hB2
  have c00 := k3.cell (i := 0) rfl
  have c01 := k3.cell (i := 1) rfl
  go_wp2_with fail
  refine (h4H.out _).mono ?_
  rintro e W4 ⟨rfl, hb⟩
  have hB4 := hB3.trans (hb.mono hB3.size)
  clear c00 c01 hb k3 hB3
  go_wp2_with fail
  go_ret
  exact ⟨rfl, hB4⟩

end Go.Proofs.Ytaejdgjfnoefjaa

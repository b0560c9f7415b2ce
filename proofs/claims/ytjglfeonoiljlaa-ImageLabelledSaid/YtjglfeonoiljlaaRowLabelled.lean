/- ImageLabelled returns true for every image. No condition. -/
import Derived.Test.YtjglfeonoiljlaaHead
import Derived.Test.YtjglfeonoiljlaaOpen
import Derived.Test.YtjglfeonoiljlaaLawLabelled
namespace Go.Proofs.Ytjglfeonoiljlaa.imageLabelled
open Go Go.ChangeShapes Go.WideShapes Go.ChangeAt Go.RowKit
set_option linter.unusedVariables false
set_option maxRecDepth 100000

theorem lifted (os : Os) (started : os.Started) (H : Type) (enc : TypeId × Value → H) :
    ReturnsInHanded {} Try.checked os 10 .any (Rows.imageLabelledSpec.pre6 enc Try.prog Try.f10 Rows.imageLabelledRow.domain false) (Rows.imageLabelledSpec.post enc Try.prog Try.f10 false true false false) := by
  refine returnsInHanded_of_change_sized (C := Try.checked) tryOwn started (by kernel_rfl) Try.func10
    (ChangeSpec.witness6 (enc := enc) (C := Try.checked) false ⟨#[], #[.agg #[.int .i64 0, .int .i64 0, .slice none 0 0]], []⟩ 8 (by kernel_rfl) (by kernel_rfl) (by kernel_rfl) (by kernel_rfl)) ?_
  intro W base args ds gs before hval0 hW hcnd hsz _
  have hval : ∀ (j : Nat) t v, Try.f10.params[j]? = some t → args[j]? = some v → Value.okWide Try.prog W .any base t v := hval0
  have hW0 : DataW.Whole enc Try.prog Try.f10.params.toList [] false W args.toList ds gs before := hW
  obtain ⟨p, q, hA0, hV, rfl, hfz, hnd⟩ := hW0
  have hA : DataW.TrodAll enc Try.prog W 0 (fun _ => true) true Try.f10.params.toList args.toList ds p := hA0
  obtain ⟨rfl, rfl⟩ := trodVars_none hV
  have hsz' : (DataW.weightsEach Try.prog (Try.f10.params.toList ++ []) (ds ++ [])).all (· ≤ reachBytes) = true := hsz
  rw [Try.params10] at hA hval hsz'
  simp only [List.append_nil] at hsz'
  obtain ⟨v0, vs0, d0, ds0, p0, q0, hargs, rfl, rfl, h0, r0⟩ := trodAll_cons hA
  obtain ⟨rfl, rfl, rfl⟩ := trodAll_nil r0
  obtain rfl : args = #[v0] := by cases args; simp_all
  obtain ⟨iw0, ih0, a0, n0, c0, xs0, rfl, hn0, hr0, hnil0, hm0, hxs0, wiw0, wih0⟩ := open_im (hval 0 _ _ rfl rfl) h0 (wt_at hsz' (j := 0) rfl rfl)
  refine (law_labelled iw0 ih0 a0 c0 n0 xs0 hn0 W (by omega) hr0).mono fun e W' ⟨he, hb⟩ => ?_
  subst he
  exact ⟨_, rfl, post_true rfl (by kernel_rfl) rfl hW ⟨rfl, rfl, rfl⟩ hb⟩

theorem facts : joinedFacts Try.pinned.checked.prog 10 Try.f10 Rows.imageLabelledSpec Rows.imageLabelledRow = true :=
  facts_of _ _ _ _ rfl rfl (by kernel_rfl) (by kernel_rfl) (by kernel_rfl) (by kernel_rfl) (by kernel_rfl) (by kernel_rfl) (by kernel_rfl) rfl rfl (by kernel_rfl) (by kernel_rfl)

theorem over : Rows.imageLabelledRow.holds Try.pinned (OpenSpec.ofChange Rows.imageLabelledSpec) :=
  OpenClaim.holds_of_wide 10 Try.f10 rfl rfl rfl rfl rfl rfl rfl ⟨rfl, rfl, rfl, rfl, rfl⟩ rfl rfl rfl rfl rfl (by kernel_rfl) Try.func10 facts
    (of_decide_eq_true (by kernel_rfl)) (by unfold Func.isWrapper; first | (rw [if_pos (by decide +kernel)]; kernel_rfl) | (rw [if_neg (by decide +kernel)]; exact ⟨rfl, rfl⟩))
    (fun os started H enc _ => lifted os started H enc)

theorem proved : Rows.ImageLabelledSaid :=
  over
#print axioms proved
end Go.Proofs.Ytjglfeonoiljlaa.imageLabelled

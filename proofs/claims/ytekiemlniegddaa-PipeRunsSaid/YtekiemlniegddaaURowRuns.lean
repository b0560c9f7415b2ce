/- PipeRuns returns true for every machine, code and images. No condition. -/
import Derived.Test.YtekiemlniegddaaQR1
import Derived.Test.YtekiemlniegddaaQR6
import Derived.Test.YtekiemlniegddaaULawRuns
import Derived.Test.YtekiemlniegddaaQR3
namespace Go.Proofs.Ytekiemlniegddaa.pipeRuns
open Go Go.ChangeShapes Go.WideShapes Go.ChangeAt Go.RowKit
set_option linter.unusedVariables false
set_option maxRecDepth 100000

theorem lifted (os : Os) (started : os.Started) (H : Type) (enc : TypeId × Value → H) :
    ReturnsInHanded {} Try.checked os 4 .any (Rows.pipeRunsSpec.pre6 enc Try.prog Try.f4 Rows.pipeRunsRow.domain false) (Rows.pipeRunsSpec.post enc Try.prog Try.f4 false true false false) := by
  refine returnsInHanded_of_change_sized (C := Try.checked) tryOwn started (by kernel_rfl) Try.func4
    (ChangeSpec.witness6 (enc := enc) (C := Try.checked) false ⟨#[], #[.agg #[.int .i64 0, .int .i64 0, .int .i64 0], .agg #[.int .i64 0, .int .i64 0, .slice none 0 0, .int .i64 0, .slice none 0 0], .slice none 0 0], []⟩ 8 (by kernel_rfl) (by kernel_rfl) (by kernel_rfl) (by kernel_rfl)) ?_
  intro W base args ds gs before hval0 hW hcnd hsz _
  have hval : ∀ (j : Nat) t v, Try.f4.params[j]? = some t → args[j]? = some v → Value.okWide Try.prog W .any base t v := hval0
  have hW0 : DataW.Whole enc Try.prog Try.f4.params.toList [] false W args.toList ds gs before := hW
  obtain ⟨p, q, hA0, hV, rfl, hfz, hnd⟩ := hW0
  have hA : DataW.TrodAll enc Try.prog W 0 (fun _ => true) true Try.f4.params.toList args.toList ds p := hA0
  obtain ⟨rfl, rfl⟩ := trodVars_none hV
  have hsz' : (DataW.weightsEach Try.prog (Try.f4.params.toList ++ []) (ds ++ [])).all (· ≤ reachBytes) = true := hsz
  rw [Try.params4] at hA hval hsz'
  simp only [List.append_nil] at hsz'
  obtain ⟨v0, vs0, d0, ds0, p0, q0, hargs, rfl, rfl, h0, r0⟩ := trodAll_cons hA
  obtain ⟨v1, vs1, d1, ds1, p1, q1, rfl, rfl, rfl, h1, r1⟩ := trodAll_cons r0
  obtain ⟨v2, vs2, d2, ds2, p2, q2, rfl, rfl, rfl, h2, r2⟩ := trodAll_cons r1
  obtain ⟨rfl, rfl, rfl⟩ := trodAll_nil r2
  obtain rfl : args = #[v0, v1, v2] := by cases args; simp_all
  obtain ⟨V0, rfl, hV0⟩ := open_vec (hval 0 _ _ rfl rfl) h0
  obtain ⟨C1, ia1, ic1, xa1, xc1, rfl, hC1, hci1, hcx1⟩ := open_code (hval 1 _ _ rfl rfl) h1
  obtain ⟨a2, n2, c2, ms2, rfl, hn2, hr2, hm2, hpl2⟩ := open_ims (hval 2 _ _ rfl rfl) h2 (wt_at hsz' (j := 2) rfl rfl)
  refine (law_runs V0 C1 ia1 xa1 ic1 xc1 hC1 ms2 a2 n2 c2 hn2 (by omega) hpl2 W hci1 hcx1 hr2).mono fun e W' ⟨he, hb⟩ => ?_
  subst he
  exact ⟨_, rfl, post_true rfl (by kernel_rfl) rfl hW ⟨rfl, rfl, rfl⟩ hb⟩

theorem facts : joinedFacts Try.pinned.checked.prog 4 Try.f4 Rows.pipeRunsSpec Rows.pipeRunsRow = true :=
  facts_of _ _ _ _ rfl rfl (by kernel_rfl) (by kernel_rfl) (by kernel_rfl) (by kernel_rfl) (by kernel_rfl) (by kernel_rfl) (by kernel_rfl) rfl rfl (by kernel_rfl) (by kernel_rfl)

theorem over : Rows.pipeRunsRow.holds Try.pinned (OpenSpec.ofChange Rows.pipeRunsSpec) :=
  OpenClaim.holds_of_wide 4 Try.f4 rfl rfl rfl rfl rfl rfl rfl ⟨rfl, rfl, rfl, rfl, rfl⟩ rfl rfl rfl rfl rfl (by kernel_rfl) Try.func4 facts
    (of_decide_eq_true (by kernel_rfl)) (by unfold Func.isWrapper; first | (rw [if_pos (by decide +kernel)]; kernel_rfl) | (rw [if_neg (by decide +kernel)]; exact ⟨rfl, rfl⟩))
    (fun os started H enc _ => lifted os started H enc)

theorem proved : Rows.PipeRunsSaid :=
  over
#print axioms proved
end Go.Proofs.Ytekiemlniegddaa.pipeRuns

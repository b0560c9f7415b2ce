/- PipeMachine returns true for every machine, image and three places. No condition. -/
import Derived.Test.YtekiemlniegddaaGreatQM1
import Derived.Test.YtekiemlniegddaaGreatQM10
import Derived.Test.YtekiemlniegddaaGreatULawMach
import Derived.Test.YtekiemlniegddaaGreatQM4
namespace Go.Proofs.YtekiemlniegddaaGreat.pipeMachine
open Go Go.ChangeShapes Go.WideShapes Go.ChangeAt Go.RowKit
set_option linter.unusedVariables false
set_option maxRecDepth 100000

theorem lifted (os : Os) (started : os.Started) (H : Type) (enc : TypeId × Value → H) :
    ReturnsInHanded {} Tryz.checked os 9 .any (Rows.pipeMachineSpec.pre6 enc Tryz.prog Tryz.f9 Rows.pipeMachineRow.domain false) (Rows.pipeMachineSpec.post enc Tryz.prog Tryz.f9 false true false false) := by
  refine returnsInHanded_of_change_sized (C := Tryz.checked) tryOwn started (by kernel_rfl) Tryz.func9
    (ChangeSpec.witness6 (enc := enc) (C := Tryz.checked) false ⟨#[], #[.agg #[.int .i64 0, .int .i64 0, .int .i64 0], .agg #[.int .i64 0, .int .i64 0, .slice none 0 0], .int .i64 0, .int .i64 0, .int .i64 0], []⟩ 8 (by kernel_rfl) (by kernel_rfl) (by kernel_rfl) (by kernel_rfl)) ?_
  intro W base args ds gs before hval0 hW hcnd hsz _
  have hval : ∀ (j : Nat) t v, Tryz.f9.params[j]? = some t → args[j]? = some v → Value.okWide Tryz.prog W .any base t v := hval0
  have hW0 : DataW.Whole enc Tryz.prog Tryz.f9.params.toList [] false W args.toList ds gs before := hW
  obtain ⟨p, q, hA0, hV, rfl, hfz, hnd⟩ := hW0
  have hA : DataW.TrodAll enc Tryz.prog W 0 (fun _ => true) true Tryz.f9.params.toList args.toList ds p := hA0
  obtain ⟨rfl, rfl⟩ := trodVars_none hV
  have hsz' : (DataW.weightsEach Tryz.prog (Tryz.f9.params.toList ++ []) (ds ++ [])).all (· ≤ reachBytes) = true := hsz
  rw [Tryz.params9] at hA hval hsz'
  simp only [List.append_nil] at hsz'
  obtain ⟨v0, vs0, d0, ds0, p0, q0, hargs, rfl, rfl, h0, r0⟩ := trodAll_cons hA
  obtain ⟨v1, vs1, d1, ds1, p1, q1, rfl, rfl, rfl, h1, r1⟩ := trodAll_cons r0
  obtain ⟨v2, vs2, d2, ds2, p2, q2, rfl, rfl, rfl, h2, r2⟩ := trodAll_cons r1
  obtain ⟨v3, vs3, d3, ds3, p3, q3, rfl, rfl, rfl, h3, r3⟩ := trodAll_cons r2
  obtain ⟨v4, vs4, d4, ds4, p4, q4, rfl, rfl, rfl, h4, r4⟩ := trodAll_cons r3
  obtain ⟨rfl, rfl, rfl⟩ := trodAll_nil r4
  obtain rfl : args = #[v0, v1, v2, v3, v4] := by cases args; simp_all
  obtain ⟨V0, rfl, hV0⟩ := open_vec (hval 0 _ _ rfl rfl) h0
  obtain ⟨iw1, ih1, a1, n1, c1, xs1, rfl, hn1, hr1, hnil1, hm1, hxs1, wiw1, wih1⟩ := open_im (hval 1 _ _ rfl rfl) h1 (wt_at hsz' (j := 1) rfl rfl)
  obtain ⟨x2, rfl, _, _, w2⟩ := open_int Tryz.underlying3 (hval 2 _ _ rfl rfl) h2
  obtain ⟨x3, rfl, _, _, w3⟩ := open_int Tryz.underlying3 (hval 3 _ _ rfl rfl) h3
  obtain ⟨x4, rfl, _, _, w4⟩ := open_int Tryz.underlying3 (hval 4 _ _ rfl rfl) h4
  refine (law_machine V0 iw1 ih1 a1 c1 n1 xs1 hn1 (by omega) (fun e => (hnil1.out e).2) x2 x3 x4 W hr1).mono fun e W' ⟨he, hb⟩ => ?_
  subst he
  exact ⟨_, rfl, post_true rfl (by kernel_rfl) rfl hW ⟨rfl, rfl, rfl⟩ hb⟩

theorem facts : joinedFacts Tryz.pinned.checked.prog 9 Tryz.f9 Rows.pipeMachineSpec Rows.pipeMachineRow = true :=
  facts_of _ _ _ _ rfl rfl (by kernel_rfl) (by kernel_rfl) (by kernel_rfl) (by kernel_rfl) (by kernel_rfl) (by kernel_rfl) (by kernel_rfl) rfl rfl (by kernel_rfl) (by kernel_rfl)

theorem over : Rows.pipeMachineRow.holds Tryz.pinned (OpenSpec.ofChange Rows.pipeMachineSpec) :=
  OpenClaim.holds_of_wide 9 Tryz.f9 rfl rfl rfl rfl rfl rfl rfl ⟨rfl, rfl, rfl, rfl, rfl⟩ rfl rfl rfl rfl rfl (by kernel_rfl) Tryz.func9 facts
    (of_decide_eq_true (by kernel_rfl)) (by unfold Func.isWrapper; first | (rw [if_pos (by decide +kernel)]; kernel_rfl) | (rw [if_neg (by decide +kernel)]; exact ⟨rfl, rfl⟩))
    (fun os started H enc _ => lifted os started H enc)

theorem proved : Rows.PipeMachineSaid :=
  over
#print axioms proved
end Go.Proofs.YtekiemlniegddaaGreat.pipeMachine

/- JudgeMore returns true for every network, images, numbers of splits and choices. No condition. -/
import Derived.Test.YtbfigbpjoaccdaaGreatQD1
import Derived.Test.YtbfigbpjoaccdaaGreatUOpNet
import Derived.Test.YtbfigbpjoaccdaaGreatULawMore
import Derived.Test.YtbfigbpjoaccdaaGreatQD21
namespace Go.Proofs.YtbfigbpjoaccdaaGreat.judgeMore
open Go Go.ChangeShapes Go.WideShapes Go.ChangeAt Go.RowKit
set_option linter.unusedVariables false
set_option maxRecDepth 100000

theorem lifted (os : Os) (started : os.Started) (H : Type) (enc : TypeId × Value → H) :
    ReturnsInHanded {} Tryz.checked os 12 .any (Rows.judgeMoreSpec.pre6 enc Tryz.prog Tryz.f12 Rows.judgeMoreRow.domain false) (Rows.judgeMoreSpec.post enc Tryz.prog Tryz.f12 false true false false) := by
  refine returnsInHanded_of_change_sized (C := Tryz.checked) tryOwn started (by kernel_rfl) Tryz.func12
    (ChangeSpec.witness6 (enc := enc) (C := Tryz.checked) false ⟨#[], #[.agg #[.int .i64 0, .int .i64 0, .int .i64 0, .int .i64 0, .slice none 0 0, .int .i64 0, .int .i64 0], .agg #[.int .i64 0, .int .i64 0, .slice none 0 0], .agg #[.int .i64 0, .int .i64 0, .slice none 0 0], .int .i64 0, .int .i64 0, .slice none 0 0, .slice none 0 0], []⟩ 8 (by kernel_rfl) (by kernel_rfl) (by kernel_rfl) (by kernel_rfl)) ?_
  intro W base args ds gs before hval0 hW hcnd hsz _
  have hval : ∀ (j : Nat) t v, Tryz.f12.params[j]? = some t → args[j]? = some v → Value.okWide Tryz.prog W .any base t v := hval0
  have hW0 : DataW.Whole enc Tryz.prog Tryz.f12.params.toList [] false W args.toList ds gs before := hW
  obtain ⟨p, q, hA0, hV, rfl, hfz, hnd⟩ := hW0
  have hA : DataW.TrodAll enc Tryz.prog W 0 (fun _ => true) true Tryz.f12.params.toList args.toList ds p := hA0
  obtain ⟨rfl, rfl⟩ := trodVars_none hV
  have hsz' : (DataW.weightsEach Tryz.prog (Tryz.f12.params.toList ++ []) (ds ++ [])).all (· ≤ reachBytes) = true := hsz
  rw [Tryz.params12] at hA hval hsz'
  simp only [List.append_nil] at hsz'
  obtain ⟨v0, vs0, d0, ds0, p0, q0, hargs, rfl, rfl, h0, r0⟩ := trodAll_cons hA
  obtain ⟨v1, vs1, d1, ds1, p1, q1, rfl, rfl, rfl, h1, r1⟩ := trodAll_cons r0
  obtain ⟨v2, vs2, d2, ds2, p2, q2, rfl, rfl, rfl, h2, r2⟩ := trodAll_cons r1
  obtain ⟨v3, vs3, d3, ds3, p3, q3, rfl, rfl, rfl, h3, r3⟩ := trodAll_cons r2
  obtain ⟨v4, vs4, d4, ds4, p4, q4, rfl, rfl, rfl, h4, r4⟩ := trodAll_cons r3
  obtain ⟨v5, vs5, d5, ds5, p5, q5, rfl, rfl, rfl, h5, r5⟩ := trodAll_cons r4
  obtain ⟨v6, vs6, d6, ds6, p6, q6, rfl, rfl, rfl, h6, r6⟩ := trodAll_cons r5
  obtain ⟨rfl, rfl, rfl⟩ := trodAll_nil r6
  obtain rfl : args = #[v0, v1, v2, v3, v4, v5, v6] := by cases args; simp_all
  obtain ⟨N0, na0, nn0, nc0, rfl, hnn0, hz0, hrn0⟩ := open_network (hval 0 _ _ rfl rfl) h0
  obtain ⟨iw1, ih1, a1, n1, c1, xs1, rfl, hn1, hr1, hnil1, hm1, hxs1, wiw1, wih1⟩ := open_im (hval 1 _ _ rfl rfl) h1 (wt_at hsz' (j := 1) rfl rfl)
  obtain ⟨iw2, ih2, a2, n2, c2, xs2, rfl, hn2, hr2, hnil2, hm2, hxs2, wiw2, wih2⟩ := open_im (hval 2 _ _ rfl rfl) h2 (wt_at hsz' (j := 2) rfl rfl)
  obtain ⟨x3, rfl, _, _, w3⟩ := open_int Tryz.underlying3 (hval 3 _ _ rfl rfl) h3
  obtain ⟨x4, rfl, _, _, w4⟩ := open_int Tryz.underlying3 (hval 4 _ _ rfl rfl) h4
  obtain ⟨a5, n5, c5, xs5, rfl, hn5, hr5, hm5, hxs5⟩ := open_bytes (hval 5 _ _ rfl rfl) h5 (wt_at hsz' (j := 5) rfl rfl)
  obtain ⟨a6, n6, c6, xs6, rfl, hn6, hr6, hm6, hxs6⟩ := open_bytes (hval 6 _ _ rfl rfl) h6 (wt_at hsz' (j := 6) rfl rfl)
  refine (law_more N0 na0 nn0 nc0 hnn0 hz0 iw1 ih1 a1 c1 n1 xs1 hn1 iw2 ih2 a2 c2 n2 xs2 hn2 x3 x4 w3 w4 a5 c5 n5 xs5 hn5.out hxs5 hm5 a6 c6 n6 xs6 hn6.out hxs6 hm6 W hm1 hm2 hrn0 hr1 hr2 hr5 hr6).mono fun e W' ⟨he, hb⟩ => ?_
  subst he
  exact ⟨_, rfl, post_true rfl (by kernel_rfl) rfl hW ⟨rfl, rfl, rfl⟩ hb⟩

theorem facts : joinedFacts Tryz.pinned.checked.prog 12 Tryz.f12 Rows.judgeMoreSpec Rows.judgeMoreRow = true :=
  facts_of _ _ _ _ rfl rfl (by kernel_rfl) (by kernel_rfl) (by kernel_rfl) (by kernel_rfl) (by kernel_rfl) (by kernel_rfl) (by kernel_rfl) rfl rfl (by kernel_rfl) (by kernel_rfl)

theorem over : Rows.judgeMoreRow.holds Tryz.pinned (OpenSpec.ofChange Rows.judgeMoreSpec) :=
  OpenClaim.holds_of_wide 12 Tryz.f12 rfl rfl rfl rfl rfl rfl rfl ⟨rfl, rfl, rfl, rfl, rfl⟩ rfl rfl rfl rfl rfl (by kernel_rfl) Tryz.func12 facts
    (of_decide_eq_true (by kernel_rfl)) (by unfold Func.isWrapper; first | (rw [if_pos (by decide +kernel)]; kernel_rfl) | (rw [if_neg (by decide +kernel)]; exact ⟨rfl, rfl⟩))
    (fun os started H enc _ => lifted os started H enc)

theorem proved : Rows.JudgeMoreSaid :=
  over
#print axioms proved
end Go.Proofs.YtbfigbpjoaccdaaGreat.judgeMore

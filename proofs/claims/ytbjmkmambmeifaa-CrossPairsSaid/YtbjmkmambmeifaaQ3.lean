/- CrossPairs answers true for every input: which pairs are valid, which stations touch at a tilt, the span of tilts at a station, and which heights meet are, as the program computes them, what the reference computes; and the examples hold. No condition. -/
import Derived.Test.YtbjmkmambmeifaaRows
import Derived.Test.YtbjmkmambmeifaaP23
import Derived.Test.YtbjmkmambmeifaaP24
set_option linter.all false
set_option linter.unnecessarySimpa false
set_option linter.unusedSimpArgs false
set_option linter.unusedVariables false
set_option linter.unusedSectionVars false

namespace Go.Proofs.Ytbjmkmambmeifaa.crossPairs
open Go.ChangeShapes Go.WideShapes Go.ChangeAt Go.RowKit Go.Deep

set_option maxRecDepth 100000 in
theorem lifted (os : Os) (started : os.Started) (H : Type) (enc : TypeId × Value → H) :
    ReturnsInHanded {} Try.checked os 3 .any (Rows.crossPairsSpec.pre6 enc Try.prog Try.f3 Rows.crossPairsRow.domain false) (Rows.crossPairsSpec.post enc Try.prog Try.f3 false true false false) := by
  refine returnsInHanded_of_change (C := Try.checked) own started (by kernel_rfl) Try.func3
    (ChangeSpec.witness6 (enc := enc) (C := Try.checked) false ⟨#[], #[.slice none 0 0, .slice none 0 0, .agg #[.int .i64 0, .int .i64 0], .int .i64 0, .slice none 0 0], []⟩ 8 (by kernel_rfl) (by kernel_rfl) (by kernel_rfl) (by kernel_rfl)) ?_
  intro W base args ds gs before hval0 hW hcnd _
  have hval : ∀ (j : Nat) t v, Try.f3.params[j]? = some t → args[j]? = some v → Value.okWide Try.prog W .any base t v := hval0
  have hW2 : DataW.Whole enc Try.prog Try.f3.params.toList Rows.crossPairsSpec.vars false W args.toList ds gs before := hW
  obtain ⟨p, q, hA0, hV, rfl, hfz, hnd⟩ := hW
  have hA : DataW.TrodAll enc Try.prog W 0 (fun _ => true) true Try.f3.params.toList args.toList ds p := hA0
  rw [Try.params3] at hA hval
  obtain ⟨v0, vs0, d0, ds0, p0, q0, hargs, rfl, rfl, h0, r0⟩ := trodAll_cons hA
  obtain ⟨v1, vs1, d1, ds1, p1, q1, rfl, rfl, rfl, h1, r1⟩ := trodAll_cons r0
  obtain ⟨v2, vs2, d2, ds2, p2, q2, rfl, rfl, rfl, h2, r2⟩ := trodAll_cons r1
  obtain ⟨v3, vs3, d3, ds3, p3, q3, rfl, rfl, rfl, h3, r3⟩ := trodAll_cons r2
  obtain ⟨v4, vs4, d4, ds4, p4, q4, rfl, rfl, rfl, h4, r4⟩ := trodAll_cons r3
  obtain ⟨rfl, rfl, rfl⟩ := trodAll_nil r4
  obtain rfl : args = #[v0, v1, v2, v3, v4] := by cases args; simp_all
  obtain ⟨rfl, rfl⟩ := trodVars_none hV
  obtain ⟨l0, g0, m0⟩ := open_sts (hval 0 22 v0 rfl rfl) h0
  obtain ⟨l1, g1, m1⟩ := open_i64s (hval 1 23 v1 rfl rfl) h1
  obtain ⟨l2, rfl, g2⟩ := open_ra (hval 2 25 v2 rfl rfl) h2
  obtain ⟨l3, rfl, rfl, rfl, g3⟩ := open_int Try.underlying3 (hval 3 3 v3 rfl rfl) h3
  obtain ⟨l4, g4, k4, m4⟩ := open_ras (hval 4 26 v4 rfl rfl) h4
  refine (pairs_row l0 v0 g0 m0 l1 v1 g1 m1 l2 g2 l3 g3 l4 v4 g4 k4 m4 W).mono fun e W' ⟨he, hg⟩ => ?_
  subst he
  exact ⟨_, rfl, law_done hW2 rfl rfl rfl (by rw [Try.params3]; decide +kernel) hg⟩

theorem over : Rows.crossPairsRow.holds Try.pinned (OpenSpec.ofChange Rows.crossPairsSpec) :=
  OpenClaim.holds_of_wide 3 Try.f3 rfl rfl rfl rfl rfl rfl rfl ⟨rfl, rfl, rfl, rfl, rfl⟩ rfl rfl rfl rfl rfl (by kernel_rfl) Try.func3 (by kernel_rfl)
    (of_decide_eq_true (by kernel_rfl)) (by unfold Func.isWrapper; first | (rw [if_pos (by decide +kernel)]; kernel_rfl) | (rw [if_neg (by decide +kernel)]; exact ⟨rfl, rfl⟩))
    (fun os started H enc _ => lifted os started H enc)

theorem proved : Rows.CrossPairsSaid :=
  over
end Go.Proofs.Ytbjmkmambmeifaa.crossPairs
namespace Go.Proofs.Ytbjmkmambmeifaa
theorem crossPairs_proved : Rows.CrossPairsSaid := crossPairs.proved
#print axioms crossPairs_proved
end Go.Proofs.Ytbjmkmambmeifaa

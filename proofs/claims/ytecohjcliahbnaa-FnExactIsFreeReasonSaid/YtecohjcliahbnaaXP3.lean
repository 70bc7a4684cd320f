import Derived.Test.YtecohjcliahbnaaXf3
namespace Go.Proofs.Ytecohjcliahbnaa.X
set_option linter.unusedVariables false
set_option linter.unusedSimpArgs false
theorem pure3 (a : Int) (hw : (Lit.int .i64 a).wf = true) : laws_FnExactIsFreeReason.f a = some true := by
  unfold laws_FnExactIsFreeReason.f spec_IsFreeReason.f spec_exReason.f impl_IsFreeReason.f impl_isReason.f spec_l1In.f impl_inside.f
  by_cases h : a ≥ 0
  · rw [if_pos h]
    simp only [Option.bind_some, bne_self_eq_false, Bool.false_eq_true, if_false]
  · rw [if_neg h]
    simp only [Option.bind_some, bne_self_eq_false, Bool.false_eq_true, if_false]
end Go.Proofs.Ytecohjcliahbnaa.X

import Derived.Test.YtoifmopgchigoaaXw11
import Derived.Test.YtoifmopgchigoaaXQ31
import Derived.Test.YtoifmopgchigoaaXQ40
namespace Go.Proofs.Ytoifmopgchigoaa.X
set_option linter.unusedVariables false
set_option linter.unusedSimpArgs false
theorem pure11 (l : List S37) (hb : l.length ≤ 9223372036854775807) (x y : Int) (wx : (Lit.int .i64 x).wf = true) (wy : (Lit.int .i64 y).wf = true) : ∃ k, laws_FnExactQuarterSteps.f k l x y = some true := by
  by_cases h : l.length ≤ 1000000
  · obtain ⟨k, hk⟩ : ∃ k, k = 2 * l.length + 100 := ⟨_, rfl⟩
    have h1 : ∀ j, k ≤ j + 1 → spec_QuarterSteps.f j (l.map laws_toSpotS.cv) x y = some (stepF (l.map laws_toSpotS.cv) ⟨x, y⟩) := fun j hj => sQuart_f _ ⟨x, y⟩ _ (by omega)
    have h2 : ∀ j, k ≤ j + 1 → impl_QuarterSteps.f j (l.map laws_toSpotS.cv) x y = some (stepF (l.map laws_toSpotS.cv) ⟨x, y⟩) := fun j hj => iQuart_f _ ⟨x, y⟩ _ (by omega)
    have h3 : ∀ j, k ≤ j + 1 → laws_intactSpotS.f j (l.map laws_toSpotS.cv) (l.map laws_toSpotS.cv) = some true := fun j hj => intactSpotS_self _ _ (by simpa using h) (by simp; omega)
    refine ⟨k + 1, ?_⟩
    unfold laws_FnExactQuarterSteps.f
    rw [szSpotS_small l h, Option.bind_some, if_neg (by omega)]
    simp only [laws_FnExactQuarterSteps.j0, laws_toSpot.f, toSpotS_f _ _ _ h, Option.bind_some, h1 (k + 1) (by omega), h2 (k + 1) (by omega), h1 k (by omega), h2 k (by omega), h3 k (by omega), h3 (k + 1) (by omega), bne_self_eq_false, Bool.false_eq_true, if_false, if_true]
  · refine ⟨0, ?_⟩
    unfold laws_FnExactQuarterSteps.f
    rw [szSpotS_big l hb (by omega), Option.bind_some, if_pos (by omega)]
end Go.Proofs.Ytoifmopgchigoaa.X

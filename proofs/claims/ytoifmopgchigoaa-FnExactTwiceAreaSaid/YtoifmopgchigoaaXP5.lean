import Derived.Test.YtoifmopgchigoaaXw5
import Derived.Test.YtoifmopgchigoaaXQ31
import Derived.Test.YtoifmopgchigoaaXQ24
namespace Go.Proofs.Ytoifmopgchigoaa.X
set_option linter.unusedVariables false
set_option linter.unusedSimpArgs false
theorem pure5 (l : List S37) (hb : l.length ≤ 9223372036854775807) : ∃ k, laws_FnExactTwiceArea.f k l = some true := by
  by_cases h : l.length ≤ 1000000
  · obtain ⟨k, hk⟩ : ∃ k, k = 2 * l.length + 100 := ⟨_, rfl⟩
    have h1 : ∀ j, k ≤ j + 1 → spec_TwiceArea.f j (l.map laws_toSpotS.cv) = some (areaF (l.map laws_toSpotS.cv)) := fun j hj => sArea_f _ _ (by omega)
    have h2 : ∀ j, k ≤ j + 1 → impl_TwiceArea.f j (l.map laws_toSpotS.cv) = some (areaF (l.map laws_toSpotS.cv)) := fun j hj => iArea_f _ _ (by omega)
    have h3 : ∀ j, k ≤ j + 1 → laws_intactSpotS.f j (l.map laws_toSpotS.cv) (l.map laws_toSpotS.cv) = some true := fun j hj => intactSpotS_self _ _ (by simpa using h) (by simp; omega)
    refine ⟨k + 1, ?_⟩
    unfold laws_FnExactTwiceArea.f
    rw [szSpotS_small l h, Option.bind_some, if_neg (by omega)]
    simp only [laws_FnExactTwiceArea.j0, toSpotS_f _ _ _ h, Option.bind_some, h1 (k + 1) (by omega), h2 (k + 1) (by omega), h1 k (by omega), h2 k (by omega), h3 k (by omega), h3 (k + 1) (by omega), bne_self_eq_false, Bool.false_eq_true, if_false, if_true]
  · refine ⟨0, ?_⟩
    unfold laws_FnExactTwiceArea.f
    rw [szSpotS_big l hb (by omega), Option.bind_some, if_pos (by omega)]
end Go.Proofs.Ytoifmopgchigoaa.X

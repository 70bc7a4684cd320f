import Derived.Test.YtecohjcliahbnaaXw6
import Derived.Test.YtecohjcliahbnaaXQ20
namespace Go.Proofs.Ytecohjcliahbnaa.X
set_option linter.unusedVariables false
set_option linter.unusedSimpArgs false
theorem pure6 (l : List Int) (hb : l.length ≤ 9223372036854775807) : ∃ k, laws_FnExactChangesOf.f k l = some true := by
  by_cases h : l.length ≤ 1000000
  · obtain ⟨k, hk⟩ : ∃ k, k = 2 * l.length + 200 := ⟨_, rfl⟩
    have h1 : ∀ j, k ≤ j + 1 → spec_ChangesOf.f j (l.map laws_toIntS.cv) = some (chgF (l.map laws_toIntS.cv)) := fun j hj => sChg_f _ _ (by omega)
    have h2 : ∀ j, k ≤ j + 1 → impl_ChangesOf.f j (l.map laws_toIntS.cv) = some (chgF (l.map laws_toIntS.cv)) := fun j hj => iChg_f _ _ (by omega)
    have h3 : ∀ j, k ≤ j + 1 → laws_intactIntS.f j (l.map laws_toIntS.cv) (l.map laws_toIntS.cv) = some true := fun j hj => intactIntS_self _ _ (by simpa using h) (by simp; omega)
    refine ⟨k + 1, ?_⟩
    unfold laws_FnExactChangesOf.f
    rw [if_neg (by omega)]
    simp only [laws_FnExactChangesOf.j0, toIntS_f _ _ _ h, Option.bind_some, h1 (k + 1) (by omega), h2 (k + 1) (by omega), h1 k (by omega), h2 k (by omega), h3 k (by omega), h3 (k + 1) (by omega), bne_self_eq_false, Bool.false_eq_true, if_false, if_true]
  · refine ⟨0, ?_⟩
    unfold laws_FnExactChangesOf.f
    rw [if_pos (by omega)]
end Go.Proofs.Ytecohjcliahbnaa.X

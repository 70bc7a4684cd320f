import Derived.Test.YtecohjcliahbnaaXw4
import Derived.Test.YtecohjcliahbnaaXQ16
import Derived.Test.YtecohjcliahbnaaXQ11
namespace Go.Proofs.Ytecohjcliahbnaa.X
set_option linter.unusedVariables false
set_option linter.unusedSimpArgs false
theorem pure4 (l : List Int) (hb : l.length ≤ 9223372036854775807) : ∃ k, laws_FnExactRaiseCoefficients.f k l = some true := by
  by_cases h : l.length ≤ 1000000
  · obtain ⟨k, hk⟩ : ∃ k, k = 2 * l.length + 200 := ⟨_, rfl⟩
    obtain ⟨x, hx⟩ : ∃ x, x = l.map laws_toIntS.cv := ⟨_, rfl⟩
    have hxl : x.length = l.length := by rw [hx, List.length_map]
    obtain ⟨R, hR⟩ : ∃ R, R = raiF x := ⟨_, rfl⟩
    have hl : R.1.length ≤ 5 := by rw [hR]; exact raiF_len x
    have h0 : ∀ j b, laws_toIntS.f j l b = some x := fun j b => by rw [hx]; exact toIntS_f l j b h
    have h1 : ∀ j, k ≤ j + 5 → spec_RaiseCoefficients.f j x = some R := fun j hj => by rw [hR]; exact sRai_f _ _ (by omega)
    have h2 : ∀ j, k ≤ j + 5 → impl_RaiseCoefficients.f j x = some R := fun j hj => by rw [hR]; exact iRai_f _ _ (by omega)
    have h3 : ∀ j, k ≤ j + 5 → laws_intactIntS.f j x x = some true := fun j hj => intactIntS_self _ _ (by omega) (by omega)
    have h4 : ∀ j, k ≤ j + 5 → laws_eqIntS.f j R.1 R.1 = some true := fun j hj => eqIntS_self _ _ (by omega) (by omega)
    have h5 : ∀ j, k ≤ j + 5 → laws_markIntS.f j x 101 = some (101 + (x.length : Int), markI x.length 101) := fun j hj => markI_f _ _ (by omega) (by omega)
    have h6 : ∀ j, k ≤ j + 5 → laws_markIntS.f j R.1 101 = some (101 + (R.1.length : Int), markI R.1.length 101) := fun j hj => markI_f _ _ (by omega) (by omega)
    have h7 : ∀ j, k ≤ j + 5 → laws_heldIntS.f j (markI R.1.length 101) 101 = some (101 + (R.1.length : Int)) := fun j hj => heldI_f _ _ (by omega) (by omega)
    clear hR
    refine ⟨k + 3, ?_⟩
    unfold laws_FnExactRaiseCoefficients.f
    rw [if_neg (by omega)]
    simp only [laws_FnExactRaiseCoefficients.j0, laws_FnExactRaiseCoefficients.j1, laws_FnExactRaiseCoefficients.j2, h0, Option.bind_some, h1 _ (show k ≤ k + 3 + 5 by omega), h2 _ (show k ≤ k + 3 + 5 by omega), h4 _ (show k ≤ k + 3 + 5 by omega), bne_self_eq_false, Bool.false_eq_true, if_false, if_true,
      h3 _ (show k ≤ k + 2 + 5 by omega), h5 _ (show k ≤ k + 2 + 5 by omega), h4 _ (show k ≤ k + 2 + 5 by omega), if_neg (show ¬ (101 + (x.length : Int) < 0) by omega), if_neg (show ¬ (101 + (R.1.length : Int) < 0) by omega),
      h6 _ (show k ≤ k + 1 + 5 by omega), h7 _ (show k ≤ k + 1 + 5 by omega), h2 _ (show k ≤ k + 1 + 5 by omega), h4 _ (show k ≤ k + 1 + 5 by omega), h7 _ (show k ≤ k + 5 by omega)]
  · refine ⟨0, ?_⟩
    unfold laws_FnExactRaiseCoefficients.f
    rw [if_pos (by omega)]
end Go.Proofs.Ytecohjcliahbnaa.X

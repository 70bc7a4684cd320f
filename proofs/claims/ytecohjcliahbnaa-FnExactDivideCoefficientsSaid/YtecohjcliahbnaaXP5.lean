import Derived.Test.YtecohjcliahbnaaXw5
import Derived.Test.YtecohjcliahbnaaXQ16
import Derived.Test.YtecohjcliahbnaaXQ18
namespace Go.Proofs.Ytecohjcliahbnaa.X
set_option linter.unusedVariables false
set_option linter.unusedSimpArgs false
theorem markI_fc (k : Nat) (l : List Int) (c : Int) (hc : 0 ≤ c ∧ c ≤ 1000000) (hk : l.length < k) (hl : l.length ≤ 1000000) : laws_markIntS.f k l c = some (c + (l.length : Int), markI l.length c) := by
  have := markI_l l.length k l c 0 (by omega) (by omega) hk (by omega) (by omega) (by omega)
  unfold laws_markIntS.f
  simpa using this
theorem heldI_fc (k n : Nat) (c : Int) (hc : 0 ≤ c ∧ c ≤ 1000000) (hk : n < k) (hl : n ≤ 1000000) : laws_heldIntS.f k (markI n c) c = some (c + (n : Int)) := by
  have := heldI_l n k (markI n c) c 0 (by rw [markI_len]; omega) (by omega) (by simp) hk (by omega) (by omega) (by rw [markI_len]; omega)
  unfold laws_heldIntS.f
  simpa using this
theorem pure5 (l : List Int) (hb : l.length ≤ 9223372036854775807) : ∃ k, laws_FnExactDivideCoefficients.f k l = some true := by
  by_cases h : l.length ≤ 1000000
  · obtain ⟨k, hk⟩ : ∃ k, k = 2 * l.length + 200 := ⟨_, rfl⟩
    obtain ⟨x, hx⟩ : ∃ x, x = l.map laws_toIntS.cv := ⟨_, rfl⟩
    have hxl : x.length = l.length := by rw [hx, List.length_map]
    obtain ⟨R, hl1, hl2, hs, hi⟩ := div_all x
    have h0 : ∀ j b, laws_toIntS.f j l b = some x := fun j b => by rw [hx]; exact toIntS_f l j b h
    have h1 : ∀ j, k ≤ j + 5 → spec_DivideCoefficients.f j x = some R := fun j hj => hs _ (by omega)
    have h2 : ∀ j, k ≤ j + 5 → impl_DivideCoefficients.f j x = some R := fun j hj => hi _ (by omega)
    have h3 : ∀ j, k ≤ j + 5 → laws_intactIntS.f j x x = some true := fun j hj => intactIntS_self _ _ (by omega) (by omega)
    have h4 : ∀ j, k ≤ j + 5 → laws_eqIntS.f j R.1 R.1 = some true := fun j hj => eqIntS_self _ _ (by omega) (by omega)
    have h4' : ∀ j, k ≤ j + 5 → laws_eqIntS.f j R.2.1 R.2.1 = some true := fun j hj => eqIntS_self _ _ (by omega) (by omega)
    have h5 : ∀ j, k ≤ j + 5 → laws_markIntS.f j x 101 = some (101 + (x.length : Int), markI x.length 101) := fun j hj => markI_fc _ _ _ (by omega) (by omega) (by omega)
    have h6 : ∀ j, k ≤ j + 5 → laws_markIntS.f j R.1 101 = some (101 + (R.1.length : Int), markI R.1.length 101) := fun j hj => markI_fc _ _ _ (by omega) (by omega) (by omega)
    have h6' : ∀ j, k ≤ j + 5 → laws_markIntS.f j R.2.1 (101 + (R.1.length : Int)) = some (101 + (R.1.length : Int) + (R.2.1.length : Int), markI R.2.1.length (101 + (R.1.length : Int))) := fun j hj => markI_fc _ _ _ (by omega) (by omega) (by omega)
    have h7 : ∀ j, k ≤ j + 5 → laws_heldIntS.f j (markI R.1.length 101) 101 = some (101 + (R.1.length : Int)) := fun j hj => heldI_fc _ _ _ (by omega) (by omega) (by omega)
    have h7' : ∀ j, k ≤ j + 5 → laws_heldIntS.f j (markI R.2.1.length (101 + (R.1.length : Int))) (101 + (R.1.length : Int)) = some (101 + (R.1.length : Int) + (R.2.1.length : Int)) := fun j hj => heldI_fc _ _ _ (by omega) (by omega) (by omega)
    clear hs hi
    refine ⟨k + 3, ?_⟩
    unfold laws_FnExactDivideCoefficients.f
    rw [if_neg (by omega)]
    simp only [laws_FnExactDivideCoefficients.j0, laws_FnExactDivideCoefficients.j1, laws_FnExactDivideCoefficients.j2, h0, Option.bind_some, h1 _ (show k ≤ k + 3 + 5 by omega), h2 _ (show k ≤ k + 3 + 5 by omega), h4 _ (show k ≤ k + 3 + 5 by omega), h4' _ (show k ≤ k + 3 + 5 by omega), bne_self_eq_false, Bool.false_eq_true, if_false, if_true,
      h3 _ (show k ≤ k + 2 + 5 by omega), h5 _ (show k ≤ k + 2 + 5 by omega), h4 _ (show k ≤ k + 2 + 5 by omega), h4' _ (show k ≤ k + 2 + 5 by omega), if_neg (show ¬ (101 + (x.length : Int) < 0) by omega), if_neg (show ¬ (101 + (R.1.length : Int) < 0) by omega), if_neg (show ¬ (101 + (R.1.length : Int) + (R.2.1.length : Int) < 0) by omega),
      h6 _ (show k ≤ k + 1 + 5 by omega), h7 _ (show k ≤ k + 1 + 5 by omega), h6' _ (show k ≤ k + 1 + 5 by omega), h7' _ (show k ≤ k + 1 + 5 by omega), h2 _ (show k ≤ k + 1 + 5 by omega), h4 _ (show k ≤ k + 1 + 5 by omega), h4' _ (show k ≤ k + 1 + 5 by omega), h7 _ (show k ≤ k + 5 by omega), h7' _ (show k ≤ k + 5 by omega)]
  · refine ⟨0, ?_⟩
    unfold laws_FnExactDivideCoefficients.f
    rw [if_pos (by omega)]
end Go.Proofs.Ytecohjcliahbnaa.X

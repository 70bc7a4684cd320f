import Derived.Test.YtoifmopgchigoaaXw7
import Derived.Test.YtoifmopgchigoaaXQ31
import Derived.Test.YtoifmopgchigoaaXQ32
import Derived.Test.YtoifmopgchigoaaXQ29
namespace Go.Proofs.Ytoifmopgchigoaa.X
set_option linter.unusedVariables false
set_option linter.unusedSimpArgs false
theorem pure7 (l : List S37) (hb : l.length ≤ 9223372036854775807) : ∃ k, laws_FnExactReversePolygon.f k l = some true := by
  by_cases h : l.length ≤ 1000000
  · obtain ⟨k, hk⟩ : ∃ k, k = 2 * l.length + 200 := ⟨_, rfl⟩
    obtain ⟨x, hx⟩ : ∃ x, x = l.map laws_toSpotS.cv := ⟨_, rfl⟩
    have hxl : x.length = l.length := by rw [hx, List.length_map]
    have h0 : ∀ j b, laws_toSpotS.f j l b = some x := fun j b => by rw [hx]; exact toSpotS_f l j b h
    have h1 : ∀ j, k ≤ j + 5 → spec_ReversePolygon.f j x = some (revF x) := fun j hj => sRev_f _ _ (by omega)
    have h2 : ∀ j, k ≤ j + 5 → impl_ReversePolygon.f j x = some (revF x) := fun j hj => iRev_f _ _ (by omega)
    have h3 : ∀ j, k ≤ j + 5 → laws_intactSpotS.f j x x = some true := fun j hj => intactSpotS_self _ _ (by omega) (by omega)
    have hl := revF_len x
    have h4 : ∀ j, k ≤ j + 5 → laws_eqSpotS.f j (revF x).1 (revF x).1 = some true := fun j hj => eqSpotS_self _ _ (by omega) (by omega)
    have h5 : ∀ j, k ≤ j + 5 → laws_markSpotS.f j x 101 = some (101 + 2 * (x.length : Int), markOf x.length 101) := fun j hj => mark_f _ _ (by omega) (by omega)
    have h6 : ∀ j, k ≤ j + 5 → laws_markSpotS.f j (revF x).1 101 = some (101 + 2 * ((revF x).1.length : Int), markOf (revF x).1.length 101) := fun j hj => mark_f _ _ (by omega) (by omega)
    have h7 : ∀ j, k ≤ j + 5 → laws_heldSpotS.f j (markOf (revF x).1.length 101) 101 = some (101 + 2 * ((revF x).1.length : Int)) := fun j hj => held_f _ _ (by omega) (by omega)
    refine ⟨k + 3, ?_⟩
    unfold laws_FnExactReversePolygon.f
    rw [szSpotS_small l h, Option.bind_some, if_neg (by omega)]
    simp only [laws_FnExactReversePolygon.j0, laws_FnExactReversePolygon.j1, laws_FnExactReversePolygon.j2, h0, Option.bind_some, h1 _ (show k ≤ k + 3 + 5 by omega), h2 _ (show k ≤ k + 3 + 5 by omega), h4 _ (show k ≤ k + 3 + 5 by omega), bne_self_eq_false, Bool.false_eq_true, if_false, if_true,
      h3 _ (show k ≤ k + 2 + 5 by omega), h5 _ (show k ≤ k + 2 + 5 by omega), h4 _ (show k ≤ k + 2 + 5 by omega), if_neg (show ¬ (101 + 2 * (x.length : Int) < 0) by omega), if_neg (show ¬ (101 + 2 * ((revF x).1.length : Int) < 0) by omega),
      h6 _ (show k ≤ k + 1 + 5 by omega), h7 _ (show k ≤ k + 1 + 5 by omega), h2 _ (show k ≤ k + 1 + 5 by omega), h4 _ (show k ≤ k + 1 + 5 by omega), h7 _ (show k ≤ k + 5 by omega)]
  · refine ⟨0, ?_⟩
    unfold laws_FnExactReversePolygon.f
    rw [szSpotS_big l hb (by omega), Option.bind_some, if_pos (by omega)]
end Go.Proofs.Ytoifmopgchigoaa.X

import Derived.Test.YtoifmopgchigoaaXw9
import Derived.Test.YtoifmopgchigoaaXQ31
import Derived.Test.YtoifmopgchigoaaXQ32
import Derived.Test.YtoifmopgchigoaaXQ36
namespace Go.Proofs.Ytoifmopgchigoaa.X
open Go.RowKit Go.Proofs.YtoifmopgchigoaaW.PrintWords Go.Proofs.YtoifmopgchigoaaW.PrintLast Go.Proofs.YtoifmopgchigoaaW.PrintMore
set_option linter.unusedVariables false
set_option linter.unusedSimpArgs false
theorem sz_big (l : List S37) (a : Int) (hb : l.length ≤ 9223372036854775807) (h0 : 0 ≤ a) (h1 : a ≤ 1000000) (h : a < l.length) : laws_szSpotS.f l a = some (-1) := by
  unfold laws_szSpotS.f
  rw [if_pos (by unfold wrap64; omega)]
theorem sz_small (l : List S37) (a : Int) (h1 : a ≤ 1000000) (h : l.length ≤ a) : laws_szSpotS.f l a = some (a - (l.length : Int)) := by
  have e : wrap64 (a - (l.length : Int)) = a - (l.length : Int) := by unfold wrap64; omega
  unfold laws_szSpotS.f
  rw [e, if_neg (by omega)]
theorem pure9 (l : List S37) (hb : l.length ≤ 9223372036854775807) (l' : List S37) (hb' : l'.length ≤ 9223372036854775807) : ∃ k, laws_FnExactJoinPolygons.f k l l' = some true := by
  by_cases h : l.length ≤ 1000000
  · by_cases h' : (l'.length : Int) ≤ 1000000 - l.length
    · obtain ⟨k, hk⟩ : ∃ k, k = 2 * l.length + 2 * l'.length + 200 := ⟨_, rfl⟩
      obtain ⟨x, hx⟩ : ∃ x, x = l.map laws_toSpotS.cv := ⟨_, rfl⟩
      have hxl : x.length = l.length := by rw [hx, List.length_map]
      obtain ⟨y, hy⟩ : ∃ y, y = l'.map laws_toSpotS.cv := ⟨_, rfl⟩
      have hyl : y.length = l'.length := by rw [hy, List.length_map]
      obtain ⟨R, hR⟩ : ∃ R, R = joinF x y := ⟨_, rfl⟩
      have hl : R.1.length ≤ 48 := by rw [hR]; exact joinF_len x y
      have h0 : ∀ j b, laws_toSpotS.f j l b = some x := fun j b => by rw [hx]; exact toSpotS_f l j b h
      have h0' : ∀ j b, laws_toSpotS.f j l' b = some y := fun j b => by rw [hy]; exact toSpotS_f l' j b (by omega)
      have h1 : ∀ j, k ≤ j + 5 → spec_JoinPolygons.f j x y = some R := fun j hj => by rw [hR]; exact sJoin_f _ _ _ (by omega)
      have h2 : ∀ j, k ≤ j + 5 → impl_JoinPolygons.f j x y = some R := fun j hj => by rw [hR]; exact iJoin_f _ _ _ (by omega)
      have h3 : ∀ j, k ≤ j + 5 → laws_intactSpotS.f j x x = some true := fun j hj => intactSpotS_self _ _ (by omega) (by omega)
      have h3' : ∀ j, k ≤ j + 5 → laws_intactSpotS.f j y y = some true := fun j hj => intactSpotS_self _ _ (by omega) (by omega)
      have h4 : ∀ j, k ≤ j + 5 → laws_eqSpotS.f j R.1 R.1 = some true := fun j hj => eqSpotS_self _ _ (by omega) (by omega)
      have h5 : ∀ j, k ≤ j + 5 → laws_markSpotS.f j x 101 = some (101 + 2 * (x.length : Int), markOf x.length 101) := fun j hj => mark_f _ _ (by omega) (by omega)
      have h5' : ∀ j, k ≤ j + 5 → laws_markSpotS.f j y (101 + 2 * (x.length : Int)) = some (101 + 2 * (x.length : Int) + 2 * (y.length : Int), markOf y.length (101 + 2 * (x.length : Int))) := fun j hj => by
        have := mark_l y.length j y (101 + 2 * (x.length : Int)) 0 (by omega) (by omega) (by omega) (by omega) (by omega) (by omega)
        unfold laws_markSpotS.f
        simpa using this
      have h6 : ∀ j, k ≤ j + 5 → laws_markSpotS.f j R.1 101 = some (101 + 2 * (R.1.length : Int), markOf R.1.length 101) := fun j hj => mark_f _ _ (by omega) (by omega)
      have h7 : ∀ j, k ≤ j + 5 → laws_heldSpotS.f j (markOf R.1.length 101) 101 = some (101 + 2 * (R.1.length : Int)) := fun j hj => held_f _ _ (by omega) (by omega)
      clear hR
      refine ⟨k + 3, ?_⟩
      unfold laws_FnExactJoinPolygons.f
      rw [szSpotS_small l h, Option.bind_some, if_neg (by omega), sz_small l' _ (by omega) h', Option.bind_some, if_neg (by omega)]
      simp only [laws_FnExactJoinPolygons.j0, laws_FnExactJoinPolygons.j1, laws_FnExactJoinPolygons.j2, h0, h0', Option.bind_some, h1 _ (show k ≤ k + 3 + 5 by omega), h2 _ (show k ≤ k + 3 + 5 by omega), h4 _ (show k ≤ k + 3 + 5 by omega), bne_self_eq_false, Bool.false_eq_true, if_false, if_true,
        h3 _ (show k ≤ k + 2 + 5 by omega), h3' _ (show k ≤ k + 2 + 5 by omega), h5 _ (show k ≤ k + 2 + 5 by omega), h5' _ (show k ≤ k + 2 + 5 by omega), h4 _ (show k ≤ k + 2 + 5 by omega), if_neg (show ¬ (101 + 2 * (x.length : Int) + 2 * (y.length : Int) < 0) by omega), if_neg (show ¬ (101 + 2 * (R.1.length : Int) < 0) by omega),
        h6 _ (show k ≤ k + 1 + 5 by omega), h7 _ (show k ≤ k + 1 + 5 by omega), h2 _ (show k ≤ k + 1 + 5 by omega), h4 _ (show k ≤ k + 1 + 5 by omega), h7 _ (show k ≤ k + 5 by omega)]
    · refine ⟨0, ?_⟩
      unfold laws_FnExactJoinPolygons.f
      rw [szSpotS_small l h, Option.bind_some, if_neg (by omega), sz_big l' _ hb' (by omega) (by omega) (by omega), Option.bind_some, if_pos (by omega)]
  · refine ⟨0, ?_⟩
    unfold laws_FnExactJoinPolygons.f
    rw [szSpotS_big l hb (by omega), Option.bind_some, if_pos (by omega)]
end Go.Proofs.Ytoifmopgchigoaa.X

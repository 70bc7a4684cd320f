import Derived.Test.YtoifmopgchigoaaXw8
import Derived.Test.YtoifmopgchigoaaXQ31
import Derived.Test.YtoifmopgchigoaaXQ32
import Derived.Test.YtoifmopgchigoaaXQ34
namespace Go.Proofs.Ytoifmopgchigoaa.X
set_option linter.unusedVariables false
set_option linter.unusedSimpArgs false
theorem pure8 (l : List S37) (hb : l.length ≤ 9223372036854775807) (i : Int) (wi : (Lit.int .i64 i).wf = true) : ∃ k, laws_FnExactBeginAt.f k l i = some true := by
  by_cases h : l.length ≤ 1000000
  · obtain ⟨k, hk⟩ : ∃ k, k = 2 * l.length + 200 := ⟨_, rfl⟩
    obtain ⟨x, hx⟩ : ∃ x, x = l.map laws_toSpotS.cv := ⟨_, rfl⟩
    have hxl : x.length = l.length := by rw [hx, List.length_map]
    obtain ⟨R, hR⟩ : ∃ R, R = beginF x i := ⟨_, rfl⟩
    have hl : R.1.length ≤ 48 := by rw [hR]; exact beginF_len x i
    have h0 : ∀ j b, laws_toSpotS.f j l b = some x := fun j b => by rw [hx]; exact toSpotS_f l j b h
    have h1 : ∀ j, k ≤ j + 5 → spec_BeginAt.f j x i = some R := fun j hj => by rw [hR]; exact sBegin_f _ _ _ (by omega)
    have h2 : ∀ j, k ≤ j + 5 → impl_BeginAt.f j x i = some R := fun j hj => by rw [hR]; exact iBegin_f _ _ _ (by omega)
    have h3 : ∀ j, k ≤ j + 5 → laws_intactSpotS.f j x x = some true := fun j hj => intactSpotS_self _ _ (by omega) (by omega)
    have h4 : ∀ j, k ≤ j + 5 → laws_eqSpotS.f j R.1 R.1 = some true := fun j hj => eqSpotS_self _ _ (by omega) (by omega)
    have h5 : ∀ j, k ≤ j + 5 → laws_markSpotS.f j x 101 = some (101 + 2 * (x.length : Int), markOf x.length 101) := fun j hj => mark_f _ _ (by omega) (by omega)
    have h6 : ∀ j, k ≤ j + 5 → laws_markSpotS.f j R.1 101 = some (101 + 2 * (R.1.length : Int), markOf R.1.length 101) := fun j hj => mark_f _ _ (by omega) (by omega)
    have h7 : ∀ j, k ≤ j + 5 → laws_heldSpotS.f j (markOf R.1.length 101) 101 = some (101 + 2 * (R.1.length : Int)) := fun j hj => held_f _ _ (by omega) (by omega)
    clear hR
    refine ⟨k + 3, ?_⟩
    unfold laws_FnExactBeginAt.f
    rw [szSpotS_small l h, Option.bind_some, if_neg (by omega)]
    simp only [laws_FnExactBeginAt.j0, laws_FnExactBeginAt.j1, laws_FnExactBeginAt.j2, h0, Option.bind_some, h1 _ (show k ≤ k + 3 + 5 by omega), h2 _ (show k ≤ k + 3 + 5 by omega), h4 _ (show k ≤ k + 3 + 5 by omega), bne_self_eq_false, Bool.false_eq_true, if_false, if_true,
      h3 _ (show k ≤ k + 2 + 5 by omega), h5 _ (show k ≤ k + 2 + 5 by omega), h4 _ (show k ≤ k + 2 + 5 by omega), if_neg (show ¬ (101 + 2 * (x.length : Int) < 0) by omega), if_neg (show ¬ (101 + 2 * (R.1.length : Int) < 0) by omega),
      h6 _ (show k ≤ k + 1 + 5 by omega), h7 _ (show k ≤ k + 1 + 5 by omega), h2 _ (show k ≤ k + 1 + 5 by omega), h4 _ (show k ≤ k + 1 + 5 by omega), h7 _ (show k ≤ k + 5 by omega)]
  · refine ⟨0, ?_⟩
    unfold laws_FnExactBeginAt.f
    rw [szSpotS_big l hb (by omega), Option.bind_some, if_pos (by omega)]
end Go.Proofs.Ytoifmopgchigoaa.X

import Derived.Test.YtoifmopgchigoaaXf36
import Derived.Test.YtoifmopgchigoaaXf37
import Derived.Test.YtoifmopgchigoaaXQ54
namespace Go.Proofs.Ytoifmopgchigoaa.X
open Go.RowKit Go.Proofs.YtoifmopgchigoaaW.PrintWords Go.Proofs.YtoifmopgchigoaaW.PrintLast Go.Proofs.YtoifmopgchigoaaW.PrintMore
set_option linter.unusedVariables false
theorem gl36 {l : List S40} (h : goodB l = true) : 2 ≤ l.length ∧ l.length ≤ 24 := by
  unfold goodB at h
  rw [Bool.and_eq_true, decide_eq_true_eq] at h
  exact h.1
/-- The first corners are not the same. -/
def neqF (a b : List S40) : Bool := !((rd_T40 a 0).f0 == (rd_T40 b 0).f0) || !((rd_T40 a 0).f1 == (rd_T40 b 0).f1)
def joinF (a b : List S40) : List S40 × Bool := if (goodB a && (goodB b && (!neqF a b && goodB (a ++ b)))) = true then (a ++ b, true) else ([], false)
theorem sJoin_f (a b : List S40) (k : Nat) (hk : 40 < k) : spec_JoinPolygons.f k a b = some (joinF a b) := by
  obtain ⟨k, rfl⟩ : ∃ m, k = m + 1 := ⟨k - 1, by omega⟩
  unfold spec_JoinPolygons.f joinF
  rw [wiGood_f a _ (by omega), Option.bind_some]
  simp only [spec_JoinPolygons.j0]
  cases ha : goodB a with
  | false => rfl
  | true =>
    have la := gl36 ha
    rw [if_pos rfl, wiGood_f b _ (by omega), Option.bind_some]
    cases hb : goodB b with
    | false => rfl
    | true =>
      have lb := gl36 hb
      rw [if_pos rfl, if_pos (by omega), if_pos (by omega), show (!((rd_T40 a 0).f0 == (rd_T40 b 0).f0) || !((rd_T40 a 0).f1 == (rd_T40 b 0).f1)) = neqF a b from rfl]
      cases neqF a b with
      | true => rfl
      | false =>
        simp only [Bool.false_eq_true, if_false, Option.bind_some, List.length_nil, List.nil_append, Nat.zero_add]
        rw [if_pos (by omega), if_pos (by omega), wiGood_f _ _ (by omega), Option.bind_some]
        cases goodB (a ++ b) <;> rfl
theorem iJoin_f (a b : List S40) (k : Nat) (hk : 40 < k) : impl_JoinPolygons.f k a b = some (joinF a b) := by
  obtain ⟨k, rfl⟩ : ∃ m, k = m + 1 := ⟨k - 1, by omega⟩
  unfold impl_JoinPolygons.f joinF
  rw [isPolygon_f a _ (by omega), Option.bind_some]
  simp only [impl_JoinPolygons.j0]
  cases ha : goodB a with
  | false => rfl
  | true =>
    have la := gl36 ha
    rw [if_pos rfl, isPolygon_f b _ (by omega), Option.bind_some]
    cases hb : goodB b with
    | false => rfl
    | true =>
      have lb := gl36 hb
      have hc : concat73.f [a, b] = some (a ++ b) := by
        unfold concat73.f
        have e : [a, b].flatten = a ++ b := by simp
        rw [e, if_pos (by rw [List.length_append]; omega)]
      rw [if_pos rfl, if_pos (by omega), if_pos (by omega), show (!((rd_T40 a 0).f0 == (rd_T40 b 0).f0) || !((rd_T40 a 0).f1 == (rd_T40 b 0).f1)) = neqF a b from rfl]
      cases neqF a b with
      | true => rfl
      | false =>
        simp only [Bool.false_eq_true, if_false]
        rw [hc, Option.bind_some, isPolygon_f _ _ (by omega), Option.bind_some]
        cases goodB (a ++ b) <;> rfl
theorem joinF_len (a b : List S40) : (joinF a b).1.length ≤ 48 := by
  unfold joinF
  split
  · rename_i h
    rw [Bool.and_eq_true, Bool.and_eq_true] at h
    have := gl36 h.1
    have := gl36 h.2.1
    show (a ++ b).length ≤ 48
    rw [List.length_append]; omega
  · simp
end Go.Proofs.Ytoifmopgchigoaa.X

import Derived.Test.YtoifmopgchigoaaXf34
import Derived.Test.YtoifmopgchigoaaXf35
import Derived.Test.YtoifmopgchigoaaXQ54
namespace Go.Proofs.Ytoifmopgchigoaa.X
open Go.RowKit Go.Proofs.YtoifmopgchigoaaW.PrintWords Go.Proofs.YtoifmopgchigoaaW.PrintLast Go.Proofs.YtoifmopgchigoaaW.PrintMore
set_option linter.unusedVariables false
theorem gl34 {l : List S40} (h : goodB l = true) : 2 ≤ l.length ∧ l.length ≤ 24 := by
  unfold goodB at h
  rw [Bool.and_eq_true, decide_eq_true_eq] at h
  exact h.1
def beginF (l : List S40) (i : Int) : List S40 × Bool := if (goodB l && decide (0 ≤ i ∧ i ≤ (l.length : Int) - 1)) = true then (l.drop i.toNat ++ l.take i.toNat, true) else ([], false)
theorem sBegin_f (l : List S40) (i : Int) (k : Nat) (hk : 30 < k) : spec_BeginAt.f k l i = some (beginF l i) := by
  unfold spec_BeginAt.f beginF
  rw [wiGood_f l k (by omega), Option.bind_some]
  cases hg : goodB l with
  | false => rfl
  | true =>
    have := gl34 hg
    have hw : wrap64 ((l.length : Int) - 1) = (l.length : Int) - 1 := by unfold wrap64; omega
    rw [if_pos rfl, hw, l1In_f, Option.bind_some]
    by_cases h : 0 ≤ i ∧ i ≤ (l.length : Int) - 1
    · have hlen : ((l.drop i.toNat).length) ≤ 24 := by rw [List.length_drop]; omega
      have hlen2 : ((l.take i.toNat).length) ≤ 24 := by rw [List.length_take]; omega
      simp only [decide_eq_true h, if_true, Option.bind_some, List.length_nil, List.nil_append, Bool.and_self, Nat.zero_add]
      rw [if_pos h.1, if_pos (by omega), if_pos (by omega), if_pos (by omega)]
    · simp only [decide_eq_false h, Bool.and_false, Bool.false_eq_true, if_false]
theorem iBegin_f (l : List S40) (i : Int) (k : Nat) (hk : 30 < k) : impl_BeginAt.f k l i = some (beginF l i) := by
  unfold impl_BeginAt.f beginF
  rw [isPolygon_f l k (by omega), Option.bind_some]
  cases hg : goodB l with
  | false => rfl
  | true =>
    have := gl34 hg
    have hw : wrap64 ((l.length : Int) - 1) = (l.length : Int) - 1 := by unfold wrap64; omega
    rw [if_pos rfl, hw, inside_f, Option.bind_some]
    by_cases h : 0 ≤ i ∧ i ≤ (l.length : Int) - 1
    · have hlen : ((l.drop i.toNat).length) ≤ 24 := by rw [List.length_drop]; omega
      have hlen2 : ((l.take i.toNat).length) ≤ 24 := by rw [List.length_take]; omega
      have hc : concat73.f [l.drop i.toNat, l.take i.toNat] = some (l.drop i.toNat ++ l.take i.toNat) := by
        unfold concat73.f
        have e : [l.drop i.toNat, l.take i.toNat].flatten = l.drop i.toNat ++ l.take i.toNat := by simp
        rw [e, if_pos (by rw [List.length_append]; omega)]
      simp only [decide_eq_true h, if_true, Bool.and_self]
      rw [if_pos h.1, if_pos (by omega), hc, Option.bind_some]
    · simp only [decide_eq_false h, Bool.and_false, Bool.false_eq_true, if_false]
theorem beginF_len (l : List S40) (i : Int) : (beginF l i).1.length ≤ 48 := by
  unfold beginF
  split
  · rename_i h
    have := gl34 (Bool.and_eq_true_iff.1 h).1
    show (l.drop i.toNat ++ l.take i.toNat).length ≤ 48
    rw [List.length_append, List.length_drop, List.length_take]; omega
  · simp
end Go.Proofs.Ytoifmopgchigoaa.X

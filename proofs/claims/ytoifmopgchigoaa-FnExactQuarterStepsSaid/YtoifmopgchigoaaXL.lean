import Derived.Test.YtoifmopgchigoaaXB
import Derived.Test.YtoifmopgchigoaaXfA
namespace Go.Proofs.Ytoifmopgchigoaa.X
open Go.RowKit Go.Proofs.YtoifmopgchigoaaW.PrintWords Go.Proofs.YtoifmopgchigoaaW.PrintLast Go.Proofs.YtoifmopgchigoaaW.PrintMore
set_option linter.unusedVariables false
theorem take_set_succ {α : Type} (l : List α) (i : Nat) (v : α) (h : i < l.length) : (l.set i v).take (i + 1) = l.take i ++ [v] := by
  rw [List.take_set, List.take_succ_eq_append_getElem h, List.set_append_right _ _ (by simp; omega)]
  simp [Nat.min_eq_left (Nat.le_of_lt h)]
theorem set_drop_succ {α : Type} (l : List α) (i : Nat) (v : α) : (l.set i v).drop (i + 1) = l.drop (i + 1) := by
  rw [List.drop_set]; simp
theorem wrap_succ {i : Int} {n : Nat} (h0 : 0 ≤ i) (h : i < (n : Int)) (hn : n ≤ 4611686018427387904) : wrap64 (i + 1) = i + 1 := by
  unfold wrap64; omega
theorem sum_wrap (a b : Nat) (h : a ≤ 1000000) (h2 : b ≤ a + 1) : wrap64 ((a : Int) + (b : Int)) = ((a + b : Nat) : Int) := by unfold wrap64; omega
def room (n : Nat) : Nat := if n % 6 = 5 then 0 else if n % 3 = 0 then 1 else n
theorem room_f (n : Nat) (h : n ≤ 1000000) : laws_roomBehind.f (n : Int) = some (room n : Int) := by
  unfold laws_roomBehind.f room
  have h1 : Int.tmod (n : Int) 6 = ((n % 6 : Nat) : Int) := by rw [Int.tmod_eq_emod_of_nonneg (by omega)]; rfl
  have h2 : Int.tmod (n : Int) 3 = ((n % 3 : Nat) : Int) := by rw [Int.tmod_eq_emod_of_nonneg (by omega)]; rfl
  rw [h1, h2]
  by_cases a : n % 6 = 5
  · rw [if_pos (by omega), if_pos a]; rfl
  · rw [if_neg (by omega), if_neg a]
    by_cases b : n % 3 = 0
    · rw [if_pos (by omega), if_pos b]; rfl
    · rw [if_neg (by omega), if_neg b]
theorem room_le (n : Nat) : room n ≤ n + 1 := by unfold room; split <;> (try split) <;> omega
/-- What stands behind a row that the laws lay. -/
def spare {α : Type} (z : α) (l : List α) : List α := List.replicate (room l.length) z
namespace Kx
section
variable {α : Type} {sp : List α → List α} {d : Kd α} {e : Nat} {W W2 : World} {base : Nat} {ok : Nat → Prop} {S : Nat → Prop} {v : Value} {xs : List α}
theorem R_keptB (h : R sp d e W base ok v xs) (hk : Kept W W2 S) (hne : ∀ k, ok k → ¬ S k) : R sp d e W2 base (fun k => ok k ∧ (¬ S k ∧ k < W.heap.size)) v xs := by
  obtain ⟨A, c, rfl, h⟩ := h
  exact ⟨A, c, rfl, Kd.R_keptB h hk hne⟩
theorem okk (h : R sp d e W base ok v xs) : ∀ k, v.ownBlock = some k → ok k := (toR h).1
end
end Kx
end Go.Proofs.Ytoifmopgchigoaa.X

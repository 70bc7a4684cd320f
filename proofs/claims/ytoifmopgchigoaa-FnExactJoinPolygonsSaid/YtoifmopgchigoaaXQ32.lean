import Derived.Test.YtoifmopgchigoaaXf32
import Derived.Test.YtoifmopgchigoaaXf33
import Derived.Test.YtoifmopgchigoaaXQ54
namespace Go.Proofs.Ytoifmopgchigoaa.X
open Go.RowKit Go.Proofs.YtoifmopgchigoaaW.PrintWords Go.Proofs.YtoifmopgchigoaaW.PrintLast Go.Proofs.YtoifmopgchigoaaW.PrintMore
set_option linter.unusedVariables false
def markOf : Nat → Int → List S40
  | 0, _ => []
  | n + 1, c => ⟨c, c + 1⟩ :: markOf n (c + 2)
theorem markOf_len : ∀ (n : Nat) (c : Int), (markOf n c).length = n := by
  intro n
  induction n with
  | zero => intro c; rfl
  | succ n ih => intro c; simp [markOf, ih]
theorem rd_set_same (l : List S40) (i : Nat) (v : S40) (h : i < l.length) : rd_T40 (l.set i v) (i : Int) = v := by
  simp [rd_T40, List.getD_eq_getElem?_getD, h]
theorem mark_l : ∀ (d k : Nat) (l : List S40) (c : Int) (i : Nat), l.length - i = d → i ≤ l.length → d < k → 0 ≤ c → c + 2 * d ≤ 4000000000 → l.length ≤ 1000000000 →
    laws_markSpotS.l0 k l c i = some (c + 2 * d, l.take i ++ markOf d c) := by
  intro d
  induction d with
  | zero =>
    intro k l c i hd hi hk h0 h1 hl
    obtain ⟨k, rfl⟩ : ∃ m, k = m + 1 := ⟨k - 1, by omega⟩
    simp only [laws_markSpotS.l0, markOf]
    rw [if_neg (by omega), List.take_of_length_le (by omega), List.append_nil]
    simp
  | succ d ih =>
    intro k l c i hd hi hk h0 h1 hl
    obtain ⟨k, rfl⟩ : ∃ m, k = m + 1 := ⟨k - 1, by omega⟩
    have hlt : i < l.length := by omega
    have e1 : wrap64 (c + 1) = c + 1 := by unfold wrap64; omega
    have e2 : wrap64 (c + 1 + 1) = c + 2 := by unfold wrap64; omega
    simp only [laws_markSpotS.l0, Option.bind_some, Int.toNat_natCast]
    rw [if_pos (by omega), if_pos (by omega), e1, e2, rd_set_same _ _ _ hlt, List.set_set, wrap_succ (n := l.length) (by omega) (by omega) (by omega), show ((i : Int) + 1) = ((i + 1 : Nat) : Int) from by omega,
      ih k _ (c + 2) (i + 1) (by rw [List.length_set]; omega) (by rw [List.length_set]; omega) (by omega) (by omega) (by omega) (by rw [List.length_set]; omega), take_set_succ _ _ _ hlt]
    simp only [markOf, List.append_assoc, List.cons_append, List.nil_append]
    congr 2
    omega
theorem mark_f (k : Nat) (l : List S40) (hk : l.length < k) (hl : l.length ≤ 1000000000) : laws_markSpotS.f k l 101 = some (101 + 2 * (l.length : Int), markOf l.length 101) := by
  have := mark_l l.length k l 101 0 (by omega) (by omega) hk (by omega) (by omega) hl
  unfold laws_markSpotS.f
  simpa using this
theorem held_l : ∀ (d k : Nat) (l : List S40) (c : Int) (i : Nat), l.length - i = d → i ≤ l.length → l.drop i = markOf d c → d < k → 0 ≤ c → c + 2 * d ≤ 4000000000 → l.length ≤ 1000000000 →
    laws_heldSpotS.l0 k l c i = some (c + 2 * d) := by
  intro d
  induction d with
  | zero =>
    intro k l c i hd hi he hk h0 h1 hl
    obtain ⟨k, rfl⟩ : ∃ m, k = m + 1 := ⟨k - 1, by omega⟩
    simp only [laws_heldSpotS.l0]
    rw [if_neg (by omega)]
    simp
  | succ d ih =>
    intro k l c i hd hi he hk h0 h1 hl
    obtain ⟨k, rfl⟩ : ∃ m, k = m + 1 := ⟨k - 1, by omega⟩
    have hlt : i < l.length := by omega
    have e1 : wrap64 (c + 1) = c + 1 := by unfold wrap64; omega
    have e2 : wrap64 (c + 1 + 1) = c + 2 := by unfold wrap64; omega
    rw [List.drop_eq_getElem_cons hlt, markOf] at he
    injection he with he1 he2
    have hr : rd_T40 l (i : Int) = ⟨c, c + 1⟩ := by simp [rd_T40, List.getD_eq_getElem?_getD, List.getElem?_eq_getElem hlt, he1]
    simp only [laws_heldSpotS.l0]
    rw [if_pos (by omega), if_pos (by omega), hr, e1, if_pos rfl, if_pos rfl, e2, wrap_succ (n := l.length) (by omega) (by omega) (by omega), show ((i : Int) + 1) = ((i + 1 : Nat) : Int) from by omega,
      ih k l (c + 2) (i + 1) (by omega) (by omega) he2 (by omega) (by omega) (by omega) hl]
    congr 1
    omega
theorem held_f (k n : Nat) (hk : n < k) (hl : n ≤ 1000000000) : laws_heldSpotS.f k (markOf n 101) 101 = some (101 + 2 * (n : Int)) := by
  have := held_l n k (markOf n 101) 101 0 (by rw [markOf_len]; omega) (by omega) (by simp) hk (by omega) (by omega) (by rw [markOf_len]; exact hl)
  unfold laws_heldSpotS.f
  simpa using this
end Go.Proofs.Ytoifmopgchigoaa.X

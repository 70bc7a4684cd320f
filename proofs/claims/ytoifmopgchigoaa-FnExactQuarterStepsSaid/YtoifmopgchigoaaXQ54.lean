import Derived.Test.YtoifmopgchigoaaXf54
import Derived.Test.YtoifmopgchigoaaXf57
import Derived.Test.YtoifmopgchigoaaXL
namespace Go.Proofs.Ytoifmopgchigoaa.X
open Go.RowKit Go.Proofs.YtoifmopgchigoaaW.PrintWords Go.Proofs.YtoifmopgchigoaaW.PrintLast Go.Proofs.YtoifmopgchigoaaW.PrintMore
set_option linter.unusedVariables false
def nth (l : List S40) (i : Nat) : S40 := l.getD i z40
/-- The corner behind corner i. -/
def nxt (l : List S40) (i : Nat) : S40 := nth l ((i + 1) % l.length)
theorem rd_nat (l : List S40) (i : Nat) : rd_T40 l (i : Int) = nth l i := rfl
theorem tmod_nxt (n i : Nat) (hi : i < n) (hn : n ≤ 4611686018427387904) : Int.tmod (wrap64 ((i : Int) + 1)) (n : Int) = (((i + 1) % n : Nat) : Int) := by
  rw [wrap_succ (n := n) (by omega) (by omega) hn, Int.tmod_eq_emod_of_nonneg (by omega)]
  rfl
def spotB (s : S40) : Bool := decide (-1000 ≤ s.f0 ∧ s.f0 ≤ 1000 ∧ -1000 ≤ s.f1 ∧ s.f1 ≤ 1000)
theorem l1In_f (a b c : Int) : spec_l1In.f a b c = some (decide (b ≤ a ∧ a ≤ c)) := by
  unfold spec_l1In.f
  by_cases h : a ≥ b
  · rw [if_pos h]; congr 1; simp; omega
  · rw [if_neg h]; congr 1; simp; omega
theorem inside_f (a b c : Int) : impl_inside.f a b c = some (decide (b ≤ a ∧ a ≤ c)) := by
  unfold impl_inside.f
  by_cases h : a ≥ b
  · rw [if_pos h]; congr 1; simp; omega
  · rw [if_neg h]; congr 1; simp; omega
theorem wiSpot_f (s : S40) : spec_wiSpot.f s.f0 s.f1 = some (spotB s) := by
  unfold spec_wiSpot.f
  rw [l1In_f, l1In_f, Option.bind_some]
  by_cases h : -1000 ≤ s.f0 ∧ s.f0 ≤ 1000
  · rw [if_pos (by simpa using h), Option.bind_some]; congr 1; unfold spotB; rw [decide_eq_decide]; omega
  · rw [if_neg (by simpa using h)]; congr 1; unfold spotB; symm; rw [decide_eq_false_iff_not]; omega
theorem isSpot_f (s : S40) : impl_isSpot.f s.f0 s.f1 = some (spotB s) := by
  unfold impl_isSpot.f
  rw [inside_f, inside_f, Option.bind_some]
  by_cases h : -1000 ≤ s.f0 ∧ s.f0 ≤ 1000
  · rw [if_pos (by simpa using h), Option.bind_some]; congr 1; unfold spotB; rw [decide_eq_decide]; omega
  · rw [if_neg (by simpa using h)]; congr 1; unfold spotB; symm; rw [decide_eq_false_iff_not]; omega
theorem wiNext_f (l : List S40) (i : Nat) (hi : i < l.length) (hn : l.length ≤ 4611686018427387904) : spec_wiNext.f l (i : Int) = some ((nxt l i).f0, (nxt l i).f1) := by
  have hm := Nat.mod_lt (i + 1) (show 0 < l.length by omega)
  unfold spec_wiNext.f
  rw [tmod_nxt _ _ hi hn, if_neg (by omega), if_pos (by omega), if_pos (by omega)]
  rfl
/-- Corners from i on, d of them: each a spot, and none the same as the next. -/
def goodL (l : List S40) : Nat → Nat → Bool
  | 0, _ => true
  | d + 1, i => spotB (nth l i) && (!((nth l i).f0 == (nxt l i).f0 && (nth l i).f1 == (nxt l i).f1) && goodL l d (i + 1))
theorem wiGood_l (l : List S40) (hn : l.length ≤ 4611686018427387904) : ∀ (d k i : Nat), l.length - i = d → i ≤ l.length → d < k → spec_wiGood.l0 k l l (l.length : Int) i = some (goodL l d i) := by
  intro d
  induction d with
  | zero =>
    intro k i hd hi hk
    obtain ⟨k, rfl⟩ : ∃ m, k = m + 1 := ⟨k - 1, by omega⟩
    simp only [spec_wiGood.l0, goodL]
    rw [if_neg (by omega)]
  | succ d ih =>
    intro k i hd hi hk
    obtain ⟨k, rfl⟩ : ∃ m, k = m + 1 := ⟨k - 1, by omega⟩
    have hlt : i < l.length := by omega
    simp only [spec_wiGood.l0]
    rw [if_pos (by omega), if_pos (by omega), if_pos (by omega), rd_nat, wiSpot_f, Option.bind_some, wiNext_f l i hlt hn, Option.bind_some]
    unfold goodL
    cases spotB (nth l i) with
    | false => simp
    | true =>
      rw [if_pos rfl]
      cases ((nth l i).f0 == (nxt l i).f0 && (nth l i).f1 == (nxt l i).f1) with
      | true => simp
      | false =>
        rw [if_neg (by simp), wrap_succ (n := l.length) (by omega) (by omega) (by omega), show ((i : Int) + 1) = ((i + 1 : Nat) : Int) from by omega, ih k (i + 1) (by omega) (by omega) (by omega)]
        simp
theorem isPolygon_l (l : List S40) (hn : l.length ≤ 4611686018427387904) : ∀ (d k i : Nat), l.length - i = d → i ≤ l.length → d < k → impl_isPolygon.l0 k l l (l.length : Int) i = some (goodL l d i) := by
  intro d
  induction d with
  | zero =>
    intro k i hd hi hk
    obtain ⟨k, rfl⟩ : ∃ m, k = m + 1 := ⟨k - 1, by omega⟩
    simp only [impl_isPolygon.l0, goodL]
    rw [if_neg (by omega)]
  | succ d ih =>
    intro k i hd hi hk
    obtain ⟨k, rfl⟩ : ∃ m, k = m + 1 := ⟨k - 1, by omega⟩
    have hlt : i < l.length := by omega
    have hm := Nat.mod_lt (i + 1) (show 0 < l.length by omega)
    simp only [impl_isPolygon.l0]
    rw [if_pos (by omega), if_pos (by omega), if_pos (by omega), rd_nat, isSpot_f, Option.bind_some, tmod_nxt _ _ hlt hn, rd_nat, show nth l ((i + 1) % l.length) = nxt l i from rfl]
    unfold goodL
    cases spotB (nth l i) with
    | false => simp
    | true =>
      rw [if_pos rfl, if_neg (by omega), if_pos (by omega), if_pos (by omega)]
      cases ((nth l i).f0 == (nxt l i).f0 && (nth l i).f1 == (nxt l i).f1) with
      | true => simp
      | false =>
        rw [if_neg (by simp), wrap_succ (n := l.length) (by omega) (by omega) (by omega), show ((i : Int) + 1) = ((i + 1 : Nat) : Int) from by omega, ih k (i + 1) (by omega) (by omega) (by omega)]
        simp
def goodB (l : List S40) : Bool := decide (2 ≤ l.length ∧ l.length ≤ 24) && goodL l l.length 0
theorem wiGood_f (l : List S40) (k : Nat) (hk : 24 < k) : spec_wiGood.f k l = some (goodB l) := by
  unfold spec_wiGood.f goodB
  rw [l1In_f, Option.bind_some]
  by_cases h : 2 ≤ l.length ∧ l.length ≤ 24
  · rw [if_pos (by simp; omega), decide_eq_true h]
    exact wiGood_l l (by omega) l.length k 0 (by omega) (by omega) (by omega)
  · rw [if_neg (by simp; omega), decide_eq_false h]; rfl
theorem isPolygon_f (l : List S40) (k : Nat) (hk : 24 < k) : impl_isPolygon.f k l = some (goodB l) := by
  unfold impl_isPolygon.f goodB
  rw [inside_f, Option.bind_some]
  by_cases h : 2 ≤ l.length ∧ l.length ≤ 24
  · rw [if_pos (by simp; omega), decide_eq_true h]
    exact isPolygon_l l (by omega) l.length k 0 (by omega) (by omega) (by omega)
  · rw [if_neg (by simp; omega), decide_eq_false h]; rfl
end Go.Proofs.Ytoifmopgchigoaa.X

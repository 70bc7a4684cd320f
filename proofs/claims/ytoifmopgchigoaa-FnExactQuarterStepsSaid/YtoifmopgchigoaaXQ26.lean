import Derived.Test.YtoifmopgchigoaaXf26
import Derived.Test.YtoifmopgchigoaaXf28
import Derived.Test.YtoifmopgchigoaaXQ54
namespace Go.Proofs.Ytoifmopgchigoaa.X
open Go.RowKit Go.Proofs.YtoifmopgchigoaaW.PrintWords Go.Proofs.YtoifmopgchigoaaW.PrintLast Go.Proofs.YtoifmopgchigoaaW.PrintMore
set_option linter.unusedVariables false
/-- To which side of the way from a to b is t. -/
def turnI (a b t : S40) : Int := wrap64 ((wrap64 ((wrap64 (b.f0 - a.f0)) * (wrap64 (t.f1 - a.f1)))) - (wrap64 ((wrap64 (b.f1 - a.f1)) * (wrap64 (t.f0 - a.f0)))))
theorem wiSide_f (a b t : S40) : spec_wiSide.f a.f0 a.f1 b.f0 b.f1 t.f0 t.f1 = some (turnI a b t) := rfl
theorem turn_f (a b t : S40) : impl_turn.f a.f0 a.f1 b.f0 b.f1 t.f0 t.f1 = some (turnI a b t) := rfl
def onB (a b t : S40) : Bool := decide (turnI a b t = 0 ∧ (mn a.f0 b.f0 ≤ t.f0 ∧ t.f0 ≤ mx a.f0 b.f0) ∧ (mn a.f1 b.f1 ≤ t.f1 ∧ t.f1 ≤ mx a.f1 b.f1))
theorem least_f (a b : Int) : spec_l1Least.f a b = some (mn a b) := by
  unfold spec_l1Least.f mn
  by_cases h : a < b
  · rw [if_pos h, if_neg (by omega)]
  · rw [if_neg h]
    by_cases h2 : b < a
    · rw [if_pos h2]
    · rw [if_neg h2]; congr 1; omega
theorem most_f (a b : Int) : spec_l1Most.f a b = some (mx a b) := by
  unfold spec_l1Most.f mx
  by_cases h : a > b
  · rw [if_pos h, if_neg (by omega)]
  · rw [if_neg h]
    by_cases h2 : a < b
    · rw [if_pos h2]
    · rw [if_neg h2]; congr 1; omega
theorem wiOnEdge_f (a b t : S40) : spec_wiOnEdge.f a.f0 a.f1 b.f0 b.f1 t.f0 t.f1 = some (onB a b t) := by
  unfold spec_wiOnEdge.f onB
  simp only [wiSide_f, least_f, most_f, l1In_f, Option.bind_some]
  by_cases h1 : turnI a b t = 0
  · rw [if_pos h1]
    by_cases h2 : mn a.f0 b.f0 ≤ t.f0 ∧ t.f0 ≤ mx a.f0 b.f0
    · rw [if_pos (by simpa using h2)]; congr 1; rw [decide_eq_decide]; exact ⟨fun h => ⟨h1, h2, h⟩, fun h => h.2.2⟩
    · rw [if_neg (by simpa using h2)]; congr 1; symm; rw [decide_eq_false_iff_not]; exact fun h => h2 h.2.1
  · rw [if_neg h1]; congr 1; symm; rw [decide_eq_false_iff_not]; exact fun h => h1 h.1
theorem isBetween_f (a b t : S40) : impl_isBetween.f a.f0 a.f1 b.f0 b.f1 t.f0 t.f1 = some (onB a b t) := by
  unfold impl_isBetween.f onB
  simp only [turn_f, inside_f, Option.bind_some]
  by_cases h1 : turnI a b t = 0
  · rw [if_pos h1]
    by_cases h2 : mn a.f0 b.f0 ≤ t.f0 ∧ t.f0 ≤ mx a.f0 b.f0
    · rw [if_pos (by simpa using h2)]; congr 1; rw [decide_eq_decide]; exact ⟨fun h => ⟨h1, h2, h⟩, fun h => h.2.2⟩
    · rw [if_neg (by simpa using h2)]; congr 1; symm; rw [decide_eq_false_iff_not]; exact fun h => h2 h.2.1
  · rw [if_neg h1]; congr 1; symm; rw [decide_eq_false_iff_not]; exact fun h => h1 h.1
def onL (l : List S40) (t : S40) : Nat → Nat → Bool
  | 0, _ => false
  | d + 1, i => onB (nth l i) (nxt l i) t || onL l t d (i + 1)
theorem wiOn_l (l : List S40) (t : S40) (hn : l.length ≤ 4611686018427387904) : ∀ (d k i : Nat), l.length - i = d → i ≤ l.length → d < k → spec_wiOn.l0 k l l (l.length : Int) i t.f0 t.f1 = some (onL l t d i) := by
  intro d
  induction d with
  | zero =>
    intro k i hd hi hk
    obtain ⟨k, rfl⟩ : ∃ m, k = m + 1 := ⟨k - 1, by omega⟩
    simp only [spec_wiOn.l0, onL]
    rw [if_neg (by omega)]
  | succ d ih =>
    intro k i hd hi hk
    obtain ⟨k, rfl⟩ : ∃ m, k = m + 1 := ⟨k - 1, by omega⟩
    have hlt : i < l.length := by omega
    simp only [spec_wiOn.l0]
    rw [if_pos (by omega), if_pos (by omega), if_pos (by omega), wiNext_f l i hlt hn, Option.bind_some, rd_nat, wiOnEdge_f, Option.bind_some, wrap_succ (n := l.length) (by omega) (by omega) (by omega), show ((i : Int) + 1) = ((i + 1 : Nat) : Int) from by omega, ih k (i + 1) (by omega) (by omega) (by omega)]
    show _ = some (onB (nth l i) (nxt l i) t || onL l t d (i + 1))
    cases onB (nth l i) (nxt l i) t <;> simp
theorem isOn_l (l : List S40) (t : S40) (hn : l.length ≤ 4611686018427387904) : ∀ (d k i : Nat), l.length - i = d → i ≤ l.length → d < k → impl_isOnPolygon.l0 k l l (l.length : Int) i t.f0 t.f1 = some (onL l t d i) := by
  intro d
  induction d with
  | zero =>
    intro k i hd hi hk
    obtain ⟨k, rfl⟩ : ∃ m, k = m + 1 := ⟨k - 1, by omega⟩
    simp only [impl_isOnPolygon.l0, onL]
    rw [if_neg (by omega)]
  | succ d ih =>
    intro k i hd hi hk
    obtain ⟨k, rfl⟩ : ∃ m, k = m + 1 := ⟨k - 1, by omega⟩
    have hlt : i < l.length := by omega
    have hm := Nat.mod_lt (i + 1) (show 0 < l.length by omega)
    simp only [impl_isOnPolygon.l0]
    rw [tmod_nxt _ _ hlt hn, if_pos (by omega), if_pos (by omega), if_pos (by omega), if_neg (by omega), if_pos (by omega), if_pos (by omega), rd_nat, rd_nat, isBetween_f, Option.bind_some, wrap_succ (n := l.length) (by omega) (by omega) (by omega), show ((i : Int) + 1) = ((i + 1 : Nat) : Int) from by omega, ih k (i + 1) (by omega) (by omega) (by omega)]
    show _ = some (onB (nth l i) (nth l ((i + 1) % l.length)) t || onL l t d (i + 1))
    cases onB (nth l i) (nth l ((i + 1) % l.length)) t <;> simp
theorem glen {l : List S40} (h : goodB l = true) : 2 ≤ l.length ∧ l.length ≤ 24 := by
  unfold goodB at h
  rw [Bool.and_eq_true, decide_eq_true_eq] at h
  exact h.1
theorem wiOn_f (l : List S40) (t : S40) (k : Nat) (h : l.length ≤ 24) (hk : 24 < k) : spec_wiOn.f k l t.f0 t.f1 = some (onL l t l.length 0) := wiOn_l l t (by omega) l.length k 0 (by omega) (by omega) (by omega)
theorem isOn_f (l : List S40) (t : S40) (k : Nat) (h : l.length ≤ 24) (hk : 24 < k) : impl_isOnPolygon.f k l t.f0 t.f1 = some (onL l t l.length 0) := isOn_l l t (by omega) l.length k 0 (by omega) (by omega) (by omega)
theorem wiAsked_f (l : List S40) (t : S40) (k : Nat) (hk : 24 < k) : spec_wiAsked.f k l t.f0 t.f1 = some (goodB l && spotB t) := by
  unfold spec_wiAsked.f
  rw [wiGood_f l k hk, Option.bind_some, wiSpot_f]
  cases goodB l <;> rfl
def isOnF (l : List S40) (t : S40) : Bool × Bool := if (goodB l && spotB t) = true then (onL l t l.length 0, true) else (false, false)
theorem sOn_f (l : List S40) (t : S40) (k : Nat) (hk : 24 < k) : spec_IsOnPolygon.f k l t.f0 t.f1 = some (isOnF l t) := by
  unfold spec_IsOnPolygon.f isOnF
  rw [wiAsked_f l t k hk, Option.bind_some]
  by_cases h : (goodB l && spotB t) = true
  · have := glen (Bool.and_eq_true_iff.1 h).1
    rw [if_pos h, if_pos h, wiOn_f l t k (by omega) hk, Option.bind_some]
  · rw [if_neg h, if_neg h]
theorem iOn_f (l : List S40) (t : S40) (k : Nat) (hk : 24 < k) : impl_IsOnPolygon.f k l t.f0 t.f1 = some (isOnF l t) := by
  unfold impl_IsOnPolygon.f isOnF
  rw [isPolygon_f l k hk, Option.bind_some, isSpot_f]
  cases hg : goodB l with
  | false => rfl
  | true =>
    have := glen hg
    rw [if_pos rfl, Option.bind_some]
    cases hs : spotB t with
    | false => rfl
    | true => rw [if_pos rfl, isOn_f l t k (by omega) hk]; rfl
end Go.Proofs.Ytoifmopgchigoaa.X

import Derived.Test.YtoifmopgchigoaaXQ26
import Derived.Test.YtoifmopgchigoaaXf40
import Derived.Test.YtoifmopgchigoaaXf41
namespace Go.Proofs.Ytoifmopgchigoaa.X
open Go.RowKit Go.Proofs.YtoifmopgchigoaaW.PrintWords Go.Proofs.YtoifmopgchigoaaW.PrintLast Go.Proofs.YtoifmopgchigoaaW.PrintMore
set_option linter.unusedVariables false
set_option linter.unusedSimpArgs false
def quaI (x y : Int) : Int := if x > 0 ∧ y ≥ 0 then 0 else if x ≤ 0 ∧ y > 0 then 1 else if x < 0 then 2 else 3
theorem quaI_bd (x y : Int) : 0 ≤ quaI x y ∧ quaI x y ≤ 3 := by unfold quaI; split <;> (try split) <;> (try split) <;> omega
theorem quarter_f (x y : Int) (k : Nat) (hk : 1 < k) : impl_quarter.f k x y = some (quaI x y) := by
  obtain ⟨k, rfl⟩ : ∃ m, k = m + 2 := ⟨k - 2, by omega⟩
  unfold impl_quarter.f quaI
  by_cases h1 : x > 0 <;> by_cases h2 : y ≥ 0 <;> by_cases h3 : y > 0 <;> by_cases h4 : x < 0 <;> by_cases h5 : x ≤ 0 <;> first | omega | (simp [impl_quarter.j0, impl_quarter.j1, h1, h2, h3, h4, h5] <;> omega) | (simp [impl_quarter.j0, impl_quarter.j1, h1, h2, h3, h4, h5]; done)
theorem wiQuarter_f (a t : S40) (k : Nat) (hk : 1 < k) : spec_wiQuarter.f k a.f0 a.f1 t.f0 t.f1 = some (quaI (wrap64 (a.f0 - t.f0)) (wrap64 (a.f1 - t.f1))) := by
  obtain ⟨k, rfl⟩ : ∃ m, k = m + 2 := ⟨k - 2, by omega⟩
  unfold spec_wiQuarter.f quaI
  generalize wrap64 (a.f0 - t.f0) = x
  generalize wrap64 (a.f1 - t.f1) = y
  by_cases h1 : x > 0 <;> by_cases h2 : y ≥ 0 <;> by_cases h3 : y > 0 <;> by_cases h4 : x < 0 <;> by_cases h5 : x ≤ 0 <;> first | omega | (simp [spec_wiQuarter.j0, spec_wiQuarter.j1, h1, h2, h3, h4, h5] <;> omega) | (simp [spec_wiQuarter.j0, spec_wiQuarter.j1, h1, h2, h3, h4, h5]; done)
def qua (a t : S40) : Int := quaI (wrap64 (a.f0 - t.f0)) (wrap64 (a.f1 - t.f1))
def difI (a b t : S40) : Int := Int.tmod (wrap64 ((wrap64 (qua b t - qua a t)) + 4)) 4
theorem dif_bd (a b t : S40) : difI a b t = 0 ∨ difI a b t = 1 ∨ difI a b t = 2 ∨ difI a b t = 3 := by
  have h1 := quaI_bd (wrap64 (a.f0 - t.f0)) (wrap64 (a.f1 - t.f1))
  have h2 := quaI_bd (wrap64 (b.f0 - t.f0)) (wrap64 (b.f1 - t.f1))
  unfold difI qua
  generalize quaI (wrap64 (a.f0 - t.f0)) (wrap64 (a.f1 - t.f1)) = p at h1 ⊢
  generalize quaI (wrap64 (b.f0 - t.f0)) (wrap64 (b.f1 - t.f1)) = q at h2 ⊢
  have e : wrap64 (wrap64 (q - p) + 4) = q - p + 4 := by unfold wrap64; omega
  rw [e, Int.tmod_eq_emod_of_nonneg (by omega)]
  omega
def stepI (a b t : S40) : Int := if difI a b t = 0 then 0 else if difI a b t = 1 then 1 else if difI a b t = 3 then -1 else if turnI a b t > 0 then 2 else -2
theorem step_bd (a b t : S40) : -2 ≤ stepI a b t ∧ stepI a b t ≤ 2 := by unfold stepI; split <;> (try split) <;> (try split) <;> (try split) <;> omega
theorem wiStep_f (a b t : S40) (k : Nat) (hk : 1 < k) : spec_wiStep.f k a.f0 a.f1 b.f0 b.f1 t.f0 t.f1 = some (stepI a b t) := by
  unfold spec_wiStep.f
  rw [wiQuarter_f b t k hk, wiQuarter_f a t k hk, Option.bind_some, Option.bind_some, wiSide_f, Option.bind_some]
  show (if difI a b t = 0 then _ else if difI a b t = 1 then _ else if difI a b t = 3 then _ else _) = some (stepI a b t)
  unfold stepI
  split
  · rfl
  · split
    · rfl
    · split
      · rfl
      · split <;> rfl
def stepS (l : List S40) (t : S40) : Nat → Nat → Int
  | 0, _ => 0
  | d + 1, i => stepI (nth l i) (nxt l i) t + stepS l t d (i + 1)
theorem sStep_l (l : List S40) (t : S40) (hn : l.length ≤ 1000000) : ∀ (d k i : Nat) (a : Int), l.length - i = d → i ≤ l.length → d + 2 < k → -(2 * (i : Int)) ≤ a → a ≤ 2 * i → spec_QuarterSteps.l0 k l a l (l.length : Int) i t.f0 t.f1 = some (a + stepS l t d i, true) := by
  intro d
  induction d with
  | zero =>
    intro k i a hd hi hk h0 h1
    obtain ⟨k, rfl⟩ : ∃ m, k = m + 1 := ⟨k - 1, by omega⟩
    simp only [spec_QuarterSteps.l0, stepS]
    rw [if_neg (by omega), Int.add_zero]
  | succ d ih =>
    intro k i a hd hi hk h0 h1
    obtain ⟨k, rfl⟩ : ∃ m, k = m + 1 := ⟨k - 1, by omega⟩
    have hb := step_bd (nth l i) (nxt l i) t
    have hw : wrap64 ((i : Int) + 1) = ((i + 1 : Nat) : Int) := by unfold wrap64; omega
    have hw2 : wrap64 (a + stepI (nth l i) (nxt l i) t) = a + stepI (nth l i) (nxt l i) t := by unfold wrap64; omega
    simp only [spec_QuarterSteps.l0, stepS]
    rw [if_pos (by omega), if_pos (by omega), if_pos (by omega), wiNext_f l i (by omega) (by omega), Option.bind_some, rd_nat, wiStep_f _ (nxt l i) t k (by omega), Option.bind_some, hw, hw2, ih k (i + 1) _ (by omega) (by omega) (by omega) (by omega) (by omega), Int.add_assoc]
theorem iStep_l (l : List S40) (t : S40) (hn : l.length ≤ 1000000) : ∀ (d k i : Nat) (a : Int), l.length - i = d → i ≤ l.length → d + 2 < k → -(2 * (i : Int)) ≤ a → a ≤ 2 * i → impl_QuarterSteps.l0 k l a l (l.length : Int) i t.f0 t.f1 = some (a + stepS l t d i, true) := by
  intro d
  induction d with
  | zero =>
    intro k i a hd hi hk h0 h1
    obtain ⟨k, rfl⟩ : ∃ m, k = m + 1 := ⟨k - 1, by omega⟩
    simp only [impl_QuarterSteps.l0, stepS]
    rw [if_neg (by omega), Int.add_zero]
  | succ d ih =>
    intro k i a hd hi hk h0 h1
    obtain ⟨k, rfl⟩ : ∃ m, k = m + 1 := ⟨k - 1, by omega⟩
    have hb := step_bd (nth l i) (nxt l i) t
    have hlt : i < l.length := by omega
    have hm : (i + 1) % l.length < l.length := Nat.mod_lt _ (by omega)
    have hw : wrap64 ((i : Int) + 1) = ((i + 1 : Nat) : Int) := by unfold wrap64; omega
    have hw2 : wrap64 (a + stepI (nth l i) (nxt l i) t) = a + stepI (nth l i) (nxt l i) t := by unfold wrap64; omega
    have e := ih k (i + 1) (a + stepI (nth l i) (nxt l i) t) (by omega) (by omega) (by omega) (by omega) (by omega)
    simp only [impl_QuarterSteps.l0, stepS]
    rw [if_pos (by omega), if_pos (by omega), if_pos (by omega), if_neg (by omega), tmod_nxt _ _ hlt (by omega), if_pos (by omega), if_pos (by omega), quarter_f _ _ k (by omega), quarter_f _ _ k (by omega), Option.bind_some, Option.bind_some, rd_nat, rd_nat, hw, ← Int.add_assoc, ← e]
    have hd4 := dif_bd (nth l i) (nxt l i) t
    show (if difI (nth l i) (nxt l i) t = 1 then _ else if difI (nth l i) (nxt l i) t = 2 then _ else if difI (nth l i) (nxt l i) t = 3 then _ else _) = _
    have ht : impl_turn.f (nth l i).f0 (nth l i).f1 (nth l ((i + 1) % l.length)).f0 (nth l ((i + 1) % l.length)).f1 t.f0 t.f1 = some (turnI (nth l i) (nxt l i) t) := rfl
    unfold stepI at hw2 ⊢
    rcases hd4 with h | h | h | h <;> rw [h] at hw2 ⊢
    · simp at hw2 ⊢
    · simp at hw2 ⊢; rw [hw2]
    · simp at hw2 ⊢
      rw [ht, Option.bind_some]
      split
      · rename_i hp; rw [if_pos hp] at hw2; rw [hw2]
      · rename_i hp; rw [if_neg hp] at hw2; rw [show a - 2 = a + -2 by omega, hw2]
    · simp at hw2 ⊢; rw [show a - 1 = a + -1 by omega, hw2]
def stepF (l : List S40) (t : S40) : Int × Bool := if (goodB l && (spotB t && !onL l t l.length 0)) = true then (stepS l t l.length 0, true) else (0, false)
theorem sQuart_f (l : List S40) (t : S40) (k : Nat) (hk : 60 < k) : spec_QuarterSteps.f k l t.f0 t.f1 = some (stepF l t) := by
  obtain ⟨k, rfl⟩ : ∃ m, k = m + 1 := ⟨k - 1, by omega⟩
  unfold spec_QuarterSteps.f stepF
  rw [wiAsked_f l t _ (by omega), Option.bind_some]
  simp only [spec_QuarterSteps.j0]
  cases hg : goodB l with
  | false => rfl
  | true =>
    have := glen hg
    cases hs : spotB t with
    | false => rfl
    | true =>
      rw [if_pos (by rfl), wiOn_f l t _ (by omega) (by omega), Option.bind_some]
      cases onL l t l.length 0 with
      | true => rfl
      | false =>
        rw [if_neg (by simp)]
        have := sStep_l l t (by omega) l.length k 0 0 (by omega) (by omega) (by omega) (by omega) (by omega)
        simpa using this
theorem iQuart_f (l : List S40) (t : S40) (k : Nat) (hk : 60 < k) : impl_QuarterSteps.f k l t.f0 t.f1 = some (stepF l t) := by
  obtain ⟨k, rfl⟩ : ∃ m, k = m + 1 := ⟨k - 1, by omega⟩
  unfold impl_QuarterSteps.f stepF
  rw [isPolygon_f l _ (by omega), Option.bind_some, isSpot_f]
  simp only [impl_QuarterSteps.j0]
  cases hg : goodB l with
  | false => rfl
  | true =>
    have := glen hg
    rw [if_pos rfl, Option.bind_some]
    cases hs : spotB t with
    | false => rfl
    | true =>
      rw [if_pos rfl, isOn_f l t _ (by omega) (by omega), Option.bind_some]
      cases onL l t l.length 0 with
      | true => rfl
      | false =>
        rw [if_neg (by simp)]
        have := iStep_l l t (by omega) l.length k 0 0 (by omega) (by omega) (by omega) (by omega) (by omega)
        simpa using this
end Go.Proofs.Ytoifmopgchigoaa.X

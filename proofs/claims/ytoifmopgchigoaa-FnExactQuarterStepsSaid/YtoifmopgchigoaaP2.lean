/- Quarter steps: both ways of counting them agree. -/
import Derived.Test.YtoifmopgchigoaaP1
set_option linter.unusedVariables false
set_option linter.unusedSimpArgs false
set_option maxRecDepth 100000
namespace Go.Proofs.Ytoifmopgchigoaa.Z
open Go.Proofs.Ytoifmopgchigoaa.Ev
def quaI (x y : Int) : Int := if 0 < x then (if 0 ≤ y then 0 else 3) else if 0 < y then 1 else if x < 0 then 2 else 3
theorem quaI_bd (x y : Int) : 0 ≤ quaI x y ∧ quaI x y ≤ 3 := by unfold quaI; split <;> (try split) <;> (try split) <;> omega
theorem quarter_f (n : Nat) (x y : Int) : fn_impl_quarter.f n x y = some (quaI x y) := by
  unfold fn_impl_quarter.f quaI
  by_cases h1 : 0 < x
  · rw [ltI_t h1, br_t, if_pos h1, leI_f (x := x) (y := 0) (by omega), br_f, ltI_f (x := x) (y := 0) (by omega), br_f]
    by_cases h2 : 0 ≤ y
    · rw [leI_t h2, br_t, if_pos h2]
    · rw [leI_f h2, br_f, if_neg h2]
  · rw [ltI_f h1, br_f, if_neg h1, leI_t (x := x) (y := 0) (by omega), br_t]
    by_cases h3 : 0 < y
    · rw [ltI_t h3, br_t, if_pos h3]
    · rw [ltI_f h3, br_f, if_neg h3]
      by_cases h4 : x < 0
      · rw [ltI_t h4, br_t, if_pos h4]
      · rw [ltI_f h4, br_f, if_neg h4]
theorem wiQuarter_f (n : Nat) (a t : Int × Int) : fn_spec_wiQuarter.f n a t = some (quaI (sub .i64 a.1 t.1) (sub .i64 a.2 t.2)) := quarter_f n (sub .i64 a.1 t.1) (sub .i64 a.2 t.2)
def qua (a t : Int × Int) : Int := quaI (sub .i64 a.1 t.1) (sub .i64 a.2 t.2)
def difI (a b t : Int × Int) : Int := rem (add .i64 (sub .i64 (qua b t) (qua a t)) 4) 4
theorem dif_bd (a b t : Int × Int) : difI a b t = 0 ∨ difI a b t = 1 ∨ difI a b t = 2 ∨ difI a b t = 3 := by
  have h1 := quaI_bd (sub .i64 a.1 t.1) (sub .i64 a.2 t.2)
  have h2 := quaI_bd (sub .i64 b.1 t.1) (sub .i64 b.2 t.2)
  unfold difI qua
  generalize quaI (sub .i64 a.1 t.1) (sub .i64 a.2 t.2) = p at h1 ⊢
  generalize quaI (sub .i64 b.1 t.1) (sub .i64 b.2 t.2) = q at h2 ⊢
  rw [sub_in (by omega) (by omega), add_in (by omega) (by omega)]
  unfold rem
  rw [Int.tmod_eq_emod_of_nonneg (by omega)]
  omega
def stepI (a b t : Int × Int) : Int := if difI a b t = 0 then 0 else if difI a b t = 1 then 1 else if difI a b t = 3 then -1 else if 0 < turnI a b t then 2 else -2
theorem step_bd (a b t : Int × Int) : -2 ≤ stepI a b t ∧ stepI a b t ≤ 2 := by unfold stepI; split <;> (try split) <;> (try split) <;> (try split) <;> omega
theorem wiStep_f (n : Nat) (a b t : Int × Int) : fn_spec_wiStep.f n a b t = some (stepI a b t) := by
  unfold fn_spec_wiStep.f
  rw [wiQuarter_f, Option.bind_some, wiQuarter_f, Option.bind_some, eqI_f (by decide), br_f]
  change br (eqI (difI a b t) 0) _ (br (eqI (difI a b t) 1) _ (br (eqI (difI a b t) 3) _ _)) = _
  unfold stepI
  rcases dif_bd a b t with h | h | h | h <;> rw [h]
  · rfl
  · rfl
  · rw [eqI_f (by decide), br_f, eqI_f (by decide), br_f, eqI_f (by decide), br_f, wiSide_f, Option.bind_some]
    rw [if_neg (by decide), if_neg (by decide), if_neg (by decide)]
    by_cases h2 : 0 < turnI a b t
    · rw [ltI_t h2, br_t, if_pos h2]
    · rw [ltI_f h2, br_f, if_neg h2]
  · rfl
def stepS (l : List (Int × Int)) (t : Int × Int) : Nat → Nat → Int
  | 0, _ => 0
  | d + 1, i => stepI (cor l i) (nx l i) t + stepS l t d (i + 1)
theorem sStep_l {R : Type} (n : Nat) (l : List (Int × Int)) (t : Int × Int) (K0 : Int → Option R) (hl : l.length ≤ 1000000) : ∀ (d k i : Nat) (a : Int), l.length - i = d → i ≤ l.length → d < k → -(2 * (i : Int)) ≤ a → a ≤ 2 * i →
    fn_spec_QuarterSteps.l5 n k l [t] l a (ilen l) (i : Int) K0 = K0 (a + stepS l t d i) := by
  intro d
  induction d with
  | zero =>
    intro k i a hd hi hk h0 h1
    obtain ⟨k, rfl⟩ : ∃ m, k = m + 1 := ⟨k - 1, by omega⟩
    simp only [fn_spec_QuarterSteps.l5, stepS]
    rw [ltI_f (by rw [ilen_eq]; omega), br_f, Int.add_zero]
  | succ d ih =>
    intro k i a hd hi hk h0 h1
    obtain ⟨k, rfl⟩ : ∃ m, k = m + 1 := ⟨k - 1, by omega⟩
    have hlt : i < l.length := by omega
    have hb := step_bd (cor l i) (nx l i) t
    simp only [fn_spec_QuarterSteps.l5, stepS]
    rw [ltI_t (by rw [ilen_eq]; omega), br_t, okIx_t (by omega) (by rw [ilen_eq]; omega), br_t, wiNext_f n l i hlt hl, Option.bind_some, wiStep_f, Option.bind_some, nat_cast]
    change fn_spec_QuarterSteps.l5 n k l [t] l (add .i64 a (stepI (cor l i) (nx l i) t)) _ _ _ = _
    rw [add_one i (by omega), add_in (by omega) (by omega), ih k (i + 1) _ (by omega) (by omega) (by omega) (by omega) (by omega), Int.add_assoc]
theorem iStep_l {R : Type} (n : Nat) (l : List (Int × Int)) (t : Int × Int) (K0 : Int → Option R) (hl : l.length ≤ 1000000) : ∀ (d k i : Nat) (a : Int), l.length - i = d → i ≤ l.length → d < k → -(2 * (i : Int)) ≤ a → a ≤ 2 * i →
    fn_impl_QuarterSteps.l5 n k l [t] l a (ilen l) (i : Int) K0 = K0 (a + stepS l t d i) := by
  intro d
  induction d with
  | zero =>
    intro k i a hd hi hk h0 h1
    obtain ⟨k, rfl⟩ : ∃ m, k = m + 1 := ⟨k - 1, by omega⟩
    simp only [fn_impl_QuarterSteps.l5, stepS]
    rw [ltI_f (by rw [ilen_eq]; omega), br_f, Int.add_zero]
  | succ d ih =>
    intro k i a hd hi hk h0 h1
    obtain ⟨k, rfl⟩ : ∃ m, k = m + 1 := ⟨k - 1, by omega⟩
    have hlt : i < l.length := by omega
    have hn := nx_lt l i hlt
    have hb := step_bd (cor l i) (nx l i) t
    have next : ∀ b : Int, b = a + stepI (cor l i) (nx l i) t → fn_impl_QuarterSteps.l5 n k l [t] l b (ilen l) (add .i64 (i : Int) 1) K0 = K0 (a + (stepI (cor l i) (nx l i) t + stepS l t d (i + 1))) := fun b hbe => by
      rw [hbe, add_one i (by omega), ih k (i + 1) _ (by omega) (by omega) (by omega) (by omega) (by omega), Int.add_assoc]
    simp only [fn_impl_QuarterSteps.l5, stepS]
    rw [ltI_t (by rw [ilen_eq]; omega), br_t, okIx_t (by omega) (by rw [ilen_eq]; omega), br_t, eqI_f (by rw [ilen_eq]; omega), br_f, nx_rem l i hlt hl, okIx_t (by omega) (by rw [ilen_eq]; omega), br_t, quarter_f, Option.bind_some, quarter_f, Option.bind_some, eqI_f (by decide), br_f, nat_cast, nat_cast]
    change br (eqI (difI (cor l i) (nx l i) t) 1) _ (br (eqI (difI (cor l i) (nx l i) t) 2) _ (br (eqI (difI (cor l i) (nx l i) t) 3) _ _)) = _
    unfold stepI at next hb ⊢
    rcases dif_bd (cor l i) (nx l i) t with h | h | h | h <;> rw [h] at next hb ⊢
    · rw [eqI_f (by decide), br_f, eqI_f (by decide), br_f, eqI_f (by decide), br_f]
      exact next a (by simp)
    · rw [eqI_t rfl, br_t, add_in (by omega) (by omega)]
      exact next _ (by simp)
    · rw [eqI_f (by decide), br_f, eqI_t rfl, br_t, turn_f, Option.bind_some]
      change br (ltI 0 (turnI (cor l i) (nx l i) t)) _ _ = _
      rw [if_neg (by decide), if_neg (by decide), if_neg (by decide)] at next ⊢
      by_cases h2 : 0 < turnI (cor l i) (nx l i) t
      · rw [ltI_t h2, br_t, add_in (by omega) (by omega)]
        exact next _ (by rw [if_pos h2])
      · rw [ltI_f h2, br_f, sub_in (by omega) (by omega)]
        exact next _ (by rw [if_neg h2]; omega)
    · rw [eqI_f (by decide), br_f, eqI_f (by decide), br_f, eqI_t rfl, br_t, sub_in (by omega) (by omega)]
      exact next _ (by simp; omega)
def quS (l : List (Int × Int)) (t : Int × Int) : Int × Bool := match goodB l && spotB t with
  | true => (match onS l t l.length 0 with | true => (0, false) | false => (stepS l t l.length 0, true))
  | false => (0, false)
theorem sQuarter_f (n : Nat) (l : List (Int × Int)) (t : Int × Int) (hl : l.length ≤ 1000000) (hn : 1000001 < n) : fn_spec_QuarterSteps.f n l t = some (quS l t) := by
  unfold fn_spec_QuarterSteps.f quS
  rw [wiAsked_f n l t hl hn, Option.bind_some]
  cases goodB l
  · rfl
  · cases spotB t
    · rfl
    · rw [Bool.and_self, bnot_t, br_f, wiOn_f n l t hl hn, Option.bind_some]
      cases onS l t l.length 0
      · rw [br_f]
        refine (sStep_l n l t _ hl l.length n 0 0 (by omega) (by omega) (by omega) (by omega) (by omega)).trans ?_
        rw [Int.zero_add]
      · rfl
theorem iQuarter_f (n : Nat) (l : List (Int × Int)) (t : Int × Int) (hl : l.length ≤ 1000000) (hn : 1000001 < n) : fn_impl_QuarterSteps.f n l t = some (quS l t) := by
  unfold fn_impl_QuarterSteps.f quS
  rw [isPolygon_f n l hl hn, Option.bind_some]
  cases goodB l
  · rfl
  · rw [bnot_t, br_f, isSpot_f, Option.bind_some]
    cases spotB t
    · rfl
    · rw [bnot_t, br_f, Bool.and_self, isOn_f n l t hl hn, Option.bind_some]
      cases onS l t l.length 0
      · rw [br_f]
        refine (iStep_l n l t _ hl l.length n 0 0 (by omega) (by omega) (by omega) (by omega) (by omega)).trans ?_
        rw [Int.zero_add]
      · rfl
theorem pureQuarter (l : List (Int × Int)) (t : Int × Int) (hw : Ev.WF (.slice 37 Sp) l) (_ : Ev.WF Sp t) : ∃ n, fn_laws_FnExactQuarterSteps.f n l t = some true := by
  refine ⟨5000000, ?_⟩
  have hm : l.length ≤ 9223372036854775807 := by
    have := hw.1
    unfold maxLen at this
    omega
  unfold fn_laws_FnExactQuarterSteps.f
  by_cases hl : l.length ≤ 1000000
  · obtain ⟨r, hr, hr2⟩ := toSpotS_b 5000000 l hl (by omega)
    have hr2 : preL r l.length = l := hr2
    rw [sz_f _ l hl, Option.bind_some, ltI_f (by omega), br_f, toSpotS_nb _ l hl (by omega), Option.bind_some, toSpot_f, Option.bind_some]
    dsimp only
    rw [rowSpotS_take, sQuarter_f _ l t hl (by omega), Option.bind_some, Option.bind_some, Option.bind_some]
    dsimp only
    rw [rowSpotS_take, iQuarter_f _ l t hl (by omega), Option.bind_some, neI_f rfl, br_f, boolEq_self, bnot_t, br_f, Option.bind_some]
    rw [intactSpotS_self _ _ _ (by omega) hl (by rw [rowSpotS_len]; omega), Option.bind_some]
    dsimp only
    rw [bnot_t, br_f, hr, Option.bind_some, Option.bind_some]
    dsimp only
    rw [hr2, iQuarter_f _ l t hl (by omega), Option.bind_some, neI_f rfl, br_f, boolEq_self, bnot_t, br_f]
  · rw [sz_t _ l hl hm, Option.bind_some, ltI_t (by omega), br_t]
end Go.Proofs.Ytoifmopgchigoaa.Z

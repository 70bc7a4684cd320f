/- What both sides take as valid polynomials and boxes. -/
import Derived.Test.YtpfjneaoankllaaP1
set_option linter.unusedVariables false
set_option linter.unusedSimpArgs false
set_option maxRecDepth 100000
namespace Go.Proofs.Ytpfjneaoankllaa.Z
open Go.Proofs.Ytpfjneaoankllaa.Ev
noncomputable section
def sg (x : Int) : Int := if 0 < x then 1 else if x < 0 then -1 else 0
theorem sign_f (n : Nat) (x : Int) : fn_spec_l1Sign.f n x = some (sg x) := by
  unfold fn_spec_l1Sign.f sg
  by_cases h : 0 < x
  · rw [ltI_t h, br_t, if_pos h]
  · rw [ltI_f h, br_f, if_neg h]
    by_cases h2 : x < 0
    · rw [ltI_t h2, br_t, if_pos h2]
    · rw [ltI_f h2, br_f, if_neg h2]
theorem cmp_f (n : Nat) (x y : Int) : fn_cmp_Compare_int_.f n x y = some (sg (x - y)) := by
  unfold fn_cmp_Compare_int_.f fn_cmp_isNaN_int_.f sg
  rw [neI_f rfl, neI_f rfl, Option.bind_some, Option.bind_some, br_f, br_f]
  by_cases h : x < y
  · rw [ltI_t h, br_t, if_neg (by omega), if_pos (by omega)]
  · rw [ltI_f h, br_f]
    by_cases h2 : y < x
    · rw [ltI_t h2, br_t, if_pos (by omega)]
    · rw [ltI_f h2, br_f, if_neg (by omega), if_neg (by omega)]
theorem or_f (n : Nat) (x y z : Int) (hn : 4 < n) : fn_cmp_Or_int_.f n [x, y, z] = some (if x = 0 then (if y = 0 then z else y) else x) := by
  obtain ⟨n, rfl⟩ : ∃ m, n = m + 4 := ⟨n - 4, by omega⟩
  unfold fn_cmp_Or_int_.f
  have h0 : rd (.int .i64) [x, y, z] (nat 0) = x := rfl
  have h1 : rd (.int .i64) [x, y, z] (nat 1) = y := rfl
  have h2 : rd (.int .i64) [x, y, z] (nat 2) = z := rfl
  have e0 : ilen [x, y, z] = 3 := rfl
  have a1 : add .i64 0 1 = 1 := rfl
  have a2 : add .i64 1 1 = 2 := rfl
  have a3 : add .i64 2 1 = 3 := rfl
  rw [e0]
  simp only [fn_cmp_Or_int_.l3, e0, h0, h1, h2, a1, a2, a3]
  rw [ltI_t (by omega), br_t, okIx_t (by omega) (by omega), br_t]
  by_cases hx : x = 0
  · rw [neI_f hx, br_f, ltI_t (by omega), br_t, okIx_t (by omega) (by omega), br_t, if_pos hx]
    by_cases hy : y = 0
    · rw [neI_f hy, br_f, ltI_t (by omega), br_t, okIx_t (by omega) (by omega), br_t, if_pos hy]
      by_cases hz : z = 0
      · rw [neI_f hz, br_f, ltI_f (by omega), br_f, hz]
      · rw [neI_t hz, br_t]
    · rw [neI_t hy, br_t, if_neg hy]
  · rw [neI_t hx, br_t, if_neg hx]
theorem inB_t {a x y : Int} (h : inB a x y = true) : x ≤ a ∧ a ≤ y := by
  unfold inB at h
  simp only [Bool.and_eq_true] at h
  exact ⟨leI_of h.1, leI_of h.2⟩
theorem inB_eq (a x y : Int) : inB a x y = decide (x ≤ a ∧ a ≤ y) := by
  unfold inB
  rw [leI_eq, leI_eq, Bool.decide_and]
def cB (t : Tm) : Bool := inB t.1 (-1000) 1000
def expB (t : Tm) : Bool := inB t.2.1 0 4 && (inB t.2.2.1 0 4 && (inB t.2.2.2 0 4 && leI (t.2.1 + t.2.2.1 + t.2.2.2) 4))
theorem expB_of {t : Tm} (h : expB t = true) : (0 ≤ t.2.1 ∧ t.2.1 ≤ 4) ∧ (0 ≤ t.2.2.1 ∧ t.2.2.1 ≤ 4) ∧ (0 ≤ t.2.2.2 ∧ t.2.2.2 ≤ 4) ∧ t.2.1 + t.2.2.1 + t.2.2.2 ≤ 4 := by
  unfold expB at h
  simp only [Bool.and_eq_true] at h
  exact ⟨inB_t h.1, inB_t h.2.1, inB_t h.2.2.1, leI_of h.2.2.2⟩
theorem degree_f (n : Nat) (t : Tm) (h1 : 0 ≤ t.2.1 ∧ t.2.1 ≤ 4) (h2 : 0 ≤ t.2.2.1 ∧ t.2.2.1 ≤ 4) (h3 : 0 ≤ t.2.2.2 ∧ t.2.2.2 ≤ 4) : fn_impl_Term__degree.f n t = some (t.2.1 + t.2.2.1 + t.2.2.2) := by
  unfold fn_impl_Term__degree.f
  rw [add_in (x := t.2.1) (y := t.2.2.1) (by omega) (by omega), add_in (by omega) (by omega)]
theorem hasDegree_f (n : Nat) (t : Tm) : fn_impl_hasDegree.f n t = some (expB t) := by
  unfold fn_impl_hasDegree.f expB
  rw [inside_f, Option.bind_some]
  cases h1 : inB t.2.1 0 4
  · rfl
  · rw [br_t, inside_f, Option.bind_some]
    cases h2 : inB t.2.2.1 0 4
    · rfl
    · rw [br_t, inside_f, Option.bind_some]
      cases h3 : inB t.2.2.2 0 4
      · rfl
      · rw [br_t, degree_f n t (inB_t h1) (inB_t h2) (inB_t h3)]
        rfl
theorem poTerm_f (n : Nat) (t : Tm) : fn_spec_poTerm.f n t = some (cB t && expB t) := by
  unfold fn_spec_poTerm.f cB expB
  rw [l1In_f, Option.bind_some]
  cases h0 : inB t.1 (-1000) 1000
  · rfl
  · rw [br_t, l1In_f, Option.bind_some]
    cases h1 : inB t.2.1 0 4
    · rfl
    · rw [br_t, l1In_f, Option.bind_some]
      cases h2 : inB t.2.2.1 0 4
      · rfl
      · rw [br_t, l1In_f, Option.bind_some]
        cases h3 : inB t.2.2.2 0 4
        · rfl
        · have a1 := inB_t h1
          have a2 := inB_t h2
          have a3 := inB_t h3
          rw [br_t, add_in (x := t.2.1) (y := t.2.2.1) (by omega) (by omega), add_in (by omega) (by omega)]
          rfl
/-- How two terms compare. -/
def ordI (a b : Tm) : Int := if a.2.1 = b.2.1 then (if a.2.2.1 = b.2.2.1 then sg (a.2.2.2 - b.2.2.2) else sg (a.2.2.1 - b.2.2.1)) else sg (a.2.1 - b.2.1)
theorem sg_zero {x : Int} : sg x = 0 ↔ x = 0 := by unfold sg; (repeat' split) <;> omega
theorem compare_f (n : Nat) (a b : Tm) (hn : 4 < n) : fn_impl_compareTerms.f n a b = some (ordI a b) := by
  unfold fn_impl_compareTerms.f ordI
  rw [cmp_f, Option.bind_some, cmp_f, Option.bind_some, cmp_f, Option.bind_some, or_f n _ _ _ hn, Option.bind_some]
  have e1 : sg (a.2.1 - b.2.1) = 0 ↔ a.2.1 = b.2.1 := by rw [sg_zero]; omega
  have e2 : sg (a.2.2.1 - b.2.2.1) = 0 ↔ a.2.2.1 = b.2.2.1 := by rw [sg_zero]; omega
  congr 1
  by_cases h1 : a.2.1 = b.2.1
  · rw [if_pos (e1.2 h1), if_pos h1]
    by_cases h2 : a.2.2.1 = b.2.2.1
    · rw [if_pos (e2.2 h2), if_pos h2]
    · rw [if_neg (fun h => h2 (e2.1 h)), if_neg h2]
  · rw [if_neg (fun h => h1 (e1.1 h)), if_neg h1]
theorem order_f (n : Nat) (a b : Tm) (ha : expB a = true) (hb : expB b = true) : fn_spec_poOrder.f n a b = some (ordI a b) := by
  have h1 := expB_of ha
  have h2 := expB_of hb
  unfold fn_spec_poOrder.f ordI
  by_cases e1 : a.2.1 = b.2.1
  · rw [neI_f e1, br_f, if_pos e1]
    by_cases e2 : a.2.2.1 = b.2.2.1
    · rw [neI_f e2, br_f, if_pos e2, sub_in (by omega) (by omega), sign_f]; rfl
    · rw [neI_t e2, br_t, if_neg e2, sub_in (by omega) (by omega), sign_f]; rfl
  · rw [neI_t e1, br_t, if_neg e1, sub_in (by omega) (by omega), sign_f]; rfl
def ordAt (p : List Tm) : Nat → Bool
  | 0 => true
  | j + 1 => ltI (ordI (rd T4 p j) (rd T4 p (j + 1))) 0
/-- Terms from number i on are valid and in order. -/
def polyS (p : List Tm) : Nat → Nat → Bool
  | 0, _ => true
  | d + 1, i => cB (rd T4 p i) && (expB (rd T4 p i) && (neI (rd T4 p i).1 0 && (ordAt p i && polyS p d (i + 1))))
theorem sPoly_l {R : Type} (n : Nat) (p : List Tm) (K0 : Bool → Option R) (K1 : List Tm → Option R) (hl : p.length ≤ 1000000) : ∀ (d k i : Nat), p.length - i = d → i ≤ p.length → d < k → (∀ j, i = j + 1 → expB (rd T4 p j) = true) →
    fn_spec_poGood.l2 n k p p (ilen p) (i : Int) K0 K1 = br (polyS p d i) (K1 p) (K0 false) := by
  intro d
  induction d with
  | zero =>
    intro k i hd hi hk hp
    obtain ⟨k, rfl⟩ : ∃ m, k = m + 1 := ⟨k - 1, by omega⟩
    simp only [fn_spec_poGood.l2, polyS]
    rw [ltI_f (by rw [ilen_eq]; omega), br_f, br_t]
  | succ d ih =>
    intro k i hd hi hk hp
    obtain ⟨k, rfl⟩ : ∃ m, k = m + 1 := ⟨k - 1, by omega⟩
    simp only [fn_spec_poGood.l2, polyS]
    rw [ltI_t (by rw [ilen_eq]; omega), br_t, okIx_t (by omega) (by rw [ilen_eq]; omega), br_t, nat_cast, poTerm_f, Option.bind_some]
    cases h1 : cB (rd T4 p i)
    · rfl
    · cases h2 : expB (rd T4 p i)
      · rfl
      · rw [Bool.and_self, bnot_t, br_f, Bool.true_and, Bool.true_and]
        have hnext : ∀ j, i + 1 = j + 1 → expB (rd T4 p j) = true := fun j hj => by
          obtain rfl : i = j := by omega
          exact h2
        by_cases h3 : (rd T4 p i).1 = 0
        · rw [eqI_t h3, br_t, neI_f h3]; rfl
        · rw [eqI_f h3, br_f, neI_t h3, Bool.true_and]
          cases i with
          | zero =>
            rw [ltI_f (by omega), br_f, show add .i64 ((0 : Nat) : Int) 1 = ((0 + 1 : Nat) : Int) from add_one 0 (by omega), ih k (0 + 1) (by omega) (by omega) (by omega) hnext]
            rfl
          | succ j =>
            have e : sub .i64 ((j + 1 : Nat) : Int) 1 = (j : Int) := by rw [sub_in (by omega) (by omega)]; omega
            rw [ltI_t (by omega), br_t, e, okIx_t (by omega) (by rw [ilen_eq]; omega), br_t, nat_cast, order_f n _ _ (hp j rfl) h2, Option.bind_some, add_one (j + 1) (by omega), ih k (j + 1 + 1) (by omega) (by omega) (by omega) hnext]
            simp only [ordAt]
            by_cases h4 : ordI (rd T4 p j) (rd T4 p (j + 1)) < 0
            · rw [leI_f (x := 0) (y := ordI (rd T4 p j) (rd T4 p (j + 1))) (by omega), br_f, ltI_t h4, Bool.true_and]
            · rw [leI_t (x := 0) (y := ordI (rd T4 p j) (rd T4 p (j + 1))) (by omega), br_t, ltI_f h4]; rfl
theorem iPoly_l {R : Type} (n : Nat) (p : List Tm) (K0 : Bool → Option R) (K1 : List Tm → Option R) (hl : p.length ≤ 1000000) (hn : 4 < n) : ∀ (d k i : Nat), p.length - i = d → i ≤ p.length → d < k →
    fn_impl_isPoly.l2 n k p p (ilen p) (i : Int) K0 K1 = br (polyS p d i) (K1 p) (K0 false) := by
  intro d
  induction d with
  | zero =>
    intro k i hd hi hk
    obtain ⟨k, rfl⟩ : ∃ m, k = m + 1 := ⟨k - 1, by omega⟩
    simp only [fn_impl_isPoly.l2, polyS]
    rw [ltI_f (by rw [ilen_eq]; omega), br_f, br_t]
  | succ d ih =>
    intro k i hd hi hk
    obtain ⟨k, rfl⟩ : ∃ m, k = m + 1 := ⟨k - 1, by omega⟩
    simp only [fn_impl_isPoly.l2, polyS]
    rw [ltI_t (by rw [ilen_eq]; omega), br_t, okIx_t (by omega) (by rw [ilen_eq]; omega), br_t, nat_cast]
    by_cases h3 : (rd T4 p i).1 = 0
    · rw [eqI_t h3, br_t, neI_f h3, Bool.false_and, Bool.and_false, Bool.and_false, br_f]
    · rw [eqI_f h3, br_f, neI_t h3, Bool.true_and, inside_f, Option.bind_some]
      cases h1 : cB (rd T4 p i)
      · unfold cB at h1
        rw [h1]; rfl
      · unfold cB at h1
        rw [h1, bnot_t, br_f, hasDegree_f, Option.bind_some, Bool.true_and]
        cases h2 : expB (rd T4 p i)
        · rfl
        · rw [bnot_t, br_f, Bool.true_and]
          cases i with
          | zero =>
            rw [ltI_f (by omega), br_f, show add .i64 ((0 : Nat) : Int) 1 = ((0 + 1 : Nat) : Int) from add_one 0 (by omega), ih k (0 + 1) (by omega) (by omega) (by omega)]
            rfl
          | succ j =>
            have e : sub .i64 ((j + 1 : Nat) : Int) 1 = (j : Int) := by rw [sub_in (by omega) (by omega)]; omega
            rw [ltI_t (by omega), br_t, e, okIx_t (by omega) (by rw [ilen_eq]; omega), br_t, nat_cast, compare_f n _ _ hn, Option.bind_some, add_one (j + 1) (by omega), ih k (j + 1 + 1) (by omega) (by omega) (by omega)]
            simp only [ordAt]
            by_cases h4 : ordI (rd T4 p j) (rd T4 p (j + 1)) < 0
            · rw [leI_f (x := 0) (y := ordI (rd T4 p j) (rd T4 p (j + 1))) (by omega), br_f, ltI_t h4, Bool.true_and]
            · rw [leI_t (x := 0) (y := ordI (rd T4 p j) (rd T4 p (j + 1))) (by omega), br_t, ltI_f h4]; rfl
def polyB (p : List Tm) : Bool := polyS p p.length 0 && leI p.length 20
theorem isPoly_f (n : Nat) (p : List Tm) (hl : p.length ≤ 1000000) (hn : 1000001 < n) : fn_impl_isPoly.f n p = some (polyB p) := by
  unfold fn_impl_isPoly.f polyB
  rw [show ((0 : Int)) = ((0 : Nat) : Int) from rfl, iPoly_l n p _ _ hl (by omega) p.length n 0 (by omega) (by omega) (by omega)]
  cases polyS p p.length 0 <;> rfl
theorem poGood_f (n : Nat) (p : List Tm) (hl : p.length ≤ 1000000) (hn : 1000001 < n) : fn_spec_poGood.f n p = some (polyB p) := by
  unfold fn_spec_poGood.f polyB
  rw [show ((0 : Int)) = ((0 : Nat) : Int) from rfl, sPoly_l n p _ _ hl p.length n 0 (by omega) (by omega) (by omega) (fun j hj => by omega)]
  cases polyS p p.length 0 <;> rfl
theorem polyS_at {p : List Tm} : ∀ {d i : Nat}, polyS p d i = true → ∀ j, i ≤ j → j < i + d → expB (rd T4 p j) = true ∧ cB (rd T4 p j) = true
  | 0, i, _, j, h1, h2 => by omega
  | d + 1, i, h, j, h1, h2 => by
    simp only [polyS, Bool.and_eq_true] at h
    rcases Nat.lt_or_ge i j with h3 | h3
    · exact polyS_at h.2.2.2.2 j (by omega) (by omega)
    · obtain rfl : i = j := by omega
      exact ⟨h.2.1, h.1⟩
theorem polyB_at {p : List Tm} (h : polyB p = true) : p.length ≤ 20 ∧ ∀ j, j < p.length → expB (rd T4 p j) = true ∧ cB (rd T4 p j) = true := by
  unfold polyB at h
  simp only [Bool.and_eq_true] at h
  have := leI_of h.2
  exact ⟨by omega, fun j hj => polyS_at h.1 j (Nat.zero_le _) (by omega)⟩
end
end Go.Proofs.Ytpfjneaoankllaa.Z

import Derived.Test.YtecohjcliahbnaaXi15
import Derived.Test.YtecohjcliahbnaaXf38
import Derived.Test.YtecohjcliahbnaaXe40
namespace Go.Proofs.Ytecohjcliahbnaa.X
open Go.RowKit Go.Proofs.YtecohjcliahbnaaW.PrintWords Go.Proofs.YtecohjcliahbnaaW.PrintLast Go.Proofs.YtecohjcliahbnaaW.PrintMore
set_option linter.unusedVariables false
set_option linter.unusedSimpArgs false
theorem eqIntS_refl (l : List Int) (hb : l.length ≤ 4611686018427387904) : ∀ (d k i : Nat), l.length - i = d → i ≤ l.length → d < k → laws_eqIntS.l0 k l l i = some true := by
  intro d
  induction d with
  | zero =>
    intro k i hd hi hk
    obtain ⟨k, rfl⟩ : ∃ m, k = m + 1 := ⟨k - 1, by omega⟩
    simp only [laws_eqIntS.l0]
    rw [if_neg (by omega)]
  | succ d ih =>
    intro k i hd hi hk
    obtain ⟨k, rfl⟩ : ∃ m, k = m + 1 := ⟨k - 1, by omega⟩
    simp only [laws_eqIntS.l0]
    have hw : wrap64 ((i : Int) + 1) = ((i + 1 : Nat) : Int) := by unfold wrap64; omega
    rw [if_pos (by omega), if_pos (by omega), if_pos (by omega), if_pos trivial, hw]
    exact ih k (i + 1) (by omega) (by omega) (by omega)
theorem eqIntS_self (l : List Int) (k : Nat) (hb : l.length ≤ 4611686018427387904) (hk : l.length < k) : laws_eqIntS.f k l l = some true := by
  unfold laws_eqIntS.f
  rw [if_pos rfl]
  exact eqIntS_refl l hb l.length k 0 (by omega) (by omega) hk
theorem intactIntS_self (l : List Int) (k : Nat) (h : l.length ≤ 1000000) (hk : 2 * l.length + 2 ≤ k) : laws_intactIntS.f k l l = some true := by
  have hr := room_le l.length
  have hlen : (l ++ laws_toIntS.sp false l).length = l.length + room l.length := by simp [laws_toIntS.sp, spare]
  unfold laws_intactIntS.f
  rw [if_pos ⟨rfl, h⟩, eqIntS_self _ k (by rw [hlen]; omega) (by rw [hlen]; omega), Option.bind_some, if_pos rfl]
theorem toIntS_f (l : List Int) (k : Nat) (b : Bool) (h : l.length ≤ 1000000) : laws_toIntS.f k l b = some (l.map laws_toIntS.cv) := by
  unfold laws_toIntS.f
  rw [if_pos h]
theorem l1In_f (a b c : Int) : spec_l1In.f a b c = some (decide (b ≤ a ∧ a ≤ c)) := by
  unfold spec_l1In.f
  by_cases h : a ≥ b
  · rw [if_pos h]; simp [h]
  · rw [if_neg h]; simp; omega
theorem rd_nat (l : List Int) (i : Nat) (h : i < l.length) : rd l (i : Int) = l[i] := by unfold rd; simp [List.getD, h]
/-- All from i on lie in a..b. -/
theorem l1All_l (a b : Int) (l : List Int) (hn : l.length ≤ 4611686018427387904) : ∀ (d k i : Nat), l.length - i = d → i ≤ l.length → d < k → spec_l1All.l0 k a b l (l.length : Int) i = some (!(l.drop i).any (fun x => !decide (a ≤ x ∧ x ≤ b))) := by
  intro d
  induction d with
  | zero =>
    intro k i hd hi hk
    obtain ⟨k, rfl⟩ : ∃ m, k = m + 1 := ⟨k - 1, by omega⟩
    obtain rfl : i = l.length := by omega
    simp only [spec_l1All.l0]
    rw [if_neg (by omega), List.drop_length]
    rfl
  | succ d ih =>
    intro k i hd hi hk
    obtain ⟨k, rfl⟩ : ∃ m, k = m + 1 := ⟨k - 1, by omega⟩
    have hlt : i < l.length := by omega
    have hw : wrap64 ((i : Int) + 1) = ((i + 1 : Nat) : Int) := by unfold wrap64; omega
    simp only [spec_l1All.l0]
    rw [if_pos (by omega), if_pos (by omega), if_pos (by omega), l1In_f, Option.bind_some, rd_nat l i hlt, List.drop_eq_getElem_cons hlt, List.any_cons, hw, ih k (i + 1) (by omega) (by omega) (by omega)]
    cases h : decide (a ≤ l[i] ∧ l[i] ≤ b) <;> simp
theorem l1All_f (a b : Int) (l : List Int) (k : Nat) (hn : l.length ≤ 4611686018427387904) (hk : l.length < k) : spec_l1All.f k l a b = some (!l.any (fun x => !decide (a ≤ x ∧ x ≤ b))) := by
  unfold spec_l1All.f
  have := l1All_l a b l hn l.length k 0 (by omega) (by omega) hk
  rw [List.drop_zero] at this
  exact this
/-- The coefficients are good. -/
def numB (l : List Int) : Bool := decide (1 ≤ l.length ∧ l.length ≤ 5) && !l.any (fun x => !decide (-1000000000000000 ≤ x ∧ x ≤ 1000000000000000))
theorem numB_len {l : List Int} (h : numB l = true) : 1 ≤ l.length ∧ l.length ≤ 5 := by
  unfold numB at h
  rw [Bool.and_eq_true] at h
  exact of_decide_eq_true h.1
theorem beNumbers_f (l : List Int) (k : Nat) (hk : 5 < k) : spec_beNumbers.f k l = some (numB l) := by
  unfold spec_beNumbers.f numB
  rw [l1In_f, Option.bind_some]
  by_cases h : 1 ≤ l.length ∧ l.length ≤ 5
  · rw [decide_eq_true (show (1 : Int) ≤ (l.length : Int) ∧ (l.length : Int) ≤ 5 by omega), if_pos rfl, decide_eq_true h, l1All_f _ _ l k (by omega) (by omega)]
    rfl
  · rw [decide_eq_false (show ¬ ((1 : Int) ≤ (l.length : Int) ∧ (l.length : Int) ≤ 5) by omega), if_neg (by simp), decide_eq_false h]
    rfl
theorem areCoeff_f (l : List Int) : impl_areCoefficients.f l = some (numB l) := rfl
end Go.Proofs.Ytecohjcliahbnaa.X

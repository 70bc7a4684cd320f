import Derived.Test.YtecohjcliahbnaaXQ1
import Derived.Test.YtecohjcliahbnaaXf20
import Derived.Test.YtecohjcliahbnaaXf21
namespace Go.Proofs.Ytecohjcliahbnaa.X
open Go.RowKit Go.Proofs.YtecohjcliahbnaaW.PrintWords Go.Proofs.YtecohjcliahbnaaW.PrintLast Go.Proofs.YtecohjcliahbnaaW.PrintMore
set_option linter.unusedVariables false
set_option linter.unusedSimpArgs false
def sgn (x : Int) : Int := if x > 0 then 1 else if x < 0 then -1 else 0
theorem l1Sign_f (x : Int) : spec_l1Sign.f x = some (sgn x) := by
  unfold spec_l1Sign.f sgn
  split
  · rfl
  · split <;> rfl
theorem compare_f (x : Int) : cmp_Compare_int.f x 0 = some (sgn x) := by
  unfold cmp_Compare_int.f cmp_isNaN_int.f sgn
  simp only [Option.bind_some, bne_self_eq_false, Bool.false_eq_true, if_false]
  by_cases h : x > 0
  · rw [if_neg (by omega), if_pos h, if_pos h]
  · rw [if_neg h, if_neg h]
    split <;> rfl
theorem sgn_zero (x : Int) : sgn x = 0 ↔ x = 0 := by
  unfold sgn
  constructor
  · intro h
    split at h
    · omega
    · split at h <;> omega
  · intro h; subst h; decide
theorem sgn_in (x : Int) : sgn x = -1 ∨ sgn x = 0 ∨ sgn x = 1 := by
  unfold sgn
  split
  · omega
  · split <;> omega
def chgL (l : List Int) : Nat → Nat → Int → Int → Int
  | 0, _, c, _ => c
  | d + 1, i, c, z => if rd l (i : Int) = 0 then chgL l d (i + 1) c z else if z = -sgn (rd l (i : Int)) then chgL l d (i + 1) (wrap64 (c + 1)) (sgn (rd l (i : Int))) else chgL l d (i + 1) c (sgn (rd l (i : Int)))
theorem sChg_l (l : List Int) (hn : l.length ≤ 4611686018427387904) : ∀ (d k i : Nat) (c z : Int), (z = -1 ∨ z = 0 ∨ z = 1) → l.length - i = d → i ≤ l.length → d < k → spec_beChanges.l0 k c z l (l.length : Int) i = some (chgL l d i c z) := by
  intro d
  induction d with
  | zero =>
    intro k i c z hz hd hi hk
    obtain ⟨k, rfl⟩ : ∃ m, k = m + 1 := ⟨k - 1, by omega⟩
    simp only [spec_beChanges.l0, chgL]
    rw [if_neg (by omega)]
  | succ d ih =>
    intro k i c z hz hd hi hk
    obtain ⟨k, rfl⟩ : ∃ m, k = m + 1 := ⟨k - 1, by omega⟩
    have hlt : i < l.length := by omega
    have hw : wrap64 ((i : Int) + 1) = ((i + 1 : Nat) : Int) := by unfold wrap64; omega
    simp only [spec_beChanges.l0, chgL, l1Sign_f, Option.bind_some]
    rw [if_pos (by omega), if_pos (by omega), if_pos (by omega), hw]
    by_cases h0 : rd l (i : Int) = 0
    · rw [if_pos h0, if_pos h0]
      exact ih k (i + 1) c z hz (by omega) (by omega) (by omega)
    · rw [if_neg h0, if_neg h0]
      have hs : sgn (rd l (i : Int)) ≠ 0 := fun e => h0 ((sgn_zero _).mp e)
      have hs2 := sgn_in (rd l (i : Int))
      generalize sgn (rd l (i : Int)) = s at hs hs2 ⊢
      by_cases h1 : z = -s
      · rw [if_pos h1, if_pos (by rcases hz with rfl | rfl | rfl <;> rcases hs2 with rfl | rfl | rfl <;> simp [wrap64] at h1 hs ⊢)]
        exact ih k (i + 1) _ s hs2 (by omega) (by omega) (by omega)
      · rw [if_neg h1, if_neg (by rcases hz with rfl | rfl | rfl <;> rcases hs2 with rfl | rfl | rfl <;> simp [wrap64] at h1 hs ⊢)]
        exact ih k (i + 1) _ s hs2 (by omega) (by omega) (by omega)
theorem iChg_l (l : List Int) (hn : l.length ≤ 4611686018427387904) : ∀ (d k i : Nat) (c z : Int), (z = -1 ∨ z = 0 ∨ z = 1) → l.length - i = d → i ≤ l.length → d < k → impl_changes.l0 k c z l (l.length : Int) i = some (chgL l d i c z) := by
  intro d
  induction d with
  | zero =>
    intro k i c z hz hd hi hk
    obtain ⟨k, rfl⟩ : ∃ m, k = m + 1 := ⟨k - 1, by omega⟩
    simp only [impl_changes.l0, chgL]
    rw [if_neg (by omega)]
  | succ d ih =>
    intro k i c z hz hd hi hk
    obtain ⟨k, rfl⟩ : ∃ m, k = m + 1 := ⟨k - 1, by omega⟩
    have hlt : i < l.length := by omega
    have hw : wrap64 ((i : Int) + 1) = ((i + 1 : Nat) : Int) := by unfold wrap64; omega
    simp only [impl_changes.l0, chgL, compare_f, Option.bind_some]
    rw [if_pos (by omega), if_pos (by omega), if_pos (by omega), hw]
    by_cases h0 : rd l (i : Int) = 0
    · rw [if_pos ((sgn_zero _).mpr h0), if_pos h0]
      exact ih k (i + 1) c z hz (by omega) (by omega) (by omega)
    · have hs : sgn (rd l (i : Int)) ≠ 0 := fun e => h0 ((sgn_zero _).mp e)
      rw [if_neg hs, if_neg h0]
      have hs2 := sgn_in (rd l (i : Int))
      generalize sgn (rd l (i : Int)) = s at hs hs2 ⊢
      by_cases h1 : z = -s
      · rw [if_pos h1, if_pos (by rcases hz with rfl | rfl | rfl <;> rcases hs2 with rfl | rfl | rfl <;> simp [wrap64] at h1 hs ⊢)]
        exact ih k (i + 1) _ s hs2 (by omega) (by omega) (by omega)
      · rw [if_neg h1, if_neg (by rcases hz with rfl | rfl | rfl <;> rcases hs2 with rfl | rfl | rfl <;> simp [wrap64] at h1 hs ⊢)]
        exact ih k (i + 1) _ s hs2 (by omega) (by omega) (by omega)
def chgF (l : List Int) : Int × Bool := if numB l = true then (chgL l l.length 0 0 0, true) else (0, false)
theorem sChg_f (l : List Int) (k : Nat) (hk : 5 < k) : spec_ChangesOf.f k l = some (chgF l) := by
  unfold spec_ChangesOf.f chgF spec_beChanges.f
  rw [beNumbers_f l k hk, Option.bind_some]
  by_cases h : numB l = true
  · have hl := numB_len h
    rw [if_pos h, if_pos h]
    have := sChg_l l (by omega) l.length k 0 0 0 (by omega) (by omega) (by omega) (by omega)
    erw [this]
    rfl
  · rw [if_neg h, if_neg h]
theorem iChg_f (l : List Int) (k : Nat) (hk : 5 < k) : impl_ChangesOf.f k l = some (chgF l) := by
  unfold impl_ChangesOf.f chgF impl_changes.f
  rw [areCoeff_f l, Option.bind_some]
  by_cases h : numB l = true
  · have hl := numB_len h
    rw [if_pos h, if_pos h]
    have := iChg_l l (by omega) l.length k 0 0 0 (by omega) (by omega) (by omega) (by omega)
    erw [this]
    rfl
  · rw [if_neg h, if_neg h]
end Go.Proofs.Ytecohjcliahbnaa.X

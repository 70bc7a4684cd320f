/- Middles of fit intervals. -/
import Derived.Test.YtipjdipahebnbaaP9
import Derived.Test.YtipjdipahebnbaaPD
import Derived.Test.YtipjdipahebnbaaPU
set_option linter.unusedVariables false
set_option linter.unusedSimpArgs false
set_option maxRecDepth 100000
namespace Go.Proofs.Ytipjdipahebnbaa.Z
open Go.Proofs.Ytipjdipahebnbaa.Ev
noncomputable section
theorem redN_val : ∀ (k u : Nat), (redN k u).1 * 2 ^ (k - (redN k u).2) = u
  | 0, u => by simp [redN]
  | k + 1, u => by
    unfold redN
    split
    · have h1 := redN_val k (u / 2)
      have h2 := (redN_le k (u / 2)).2
      rw [show k + 1 - (redN k (u / 2)).2 = (k - (redN k (u / 2)).2) + 1 from by omega, Nat.pow_succ, ← Nat.mul_assoc, h1]
      omega
    · simp
theorem sv_mul (b : Bool) (u p : Nat) : sv b u * (p : Int) = sv b (u * p) := by
  unfold sv
  cases b <;> simp [Int.neg_mul]
theorem X24_mult {a : Int × Int} (ha : DV a) (h : a.2 ≤ 5) : ∃ q : Int, X24 a = q * 524288 := by
  obtain ⟨h0, _, _, _⟩ := ha
  obtain ⟨i, hi⟩ : ∃ i : Nat, a.2 = (i : Int) := ⟨a.2.toNat, by omega⟩
  refine ⟨a.1 * ((2 ^ (5 - i) : Nat) : Int), ?_⟩
  unfold X24
  rw [hi, Int.toNat_natCast, show 24 - i = (5 - i) + 19 from by omega, Nat.pow_add, Int.natCast_mul, ← Int.mul_assoc]
  rfl
theorem half_val (a b : Int × Int) (ha : DV a) (hb : DV b) (ka : a.2 ≤ 5) (kb : b.2 ≤ 5) (xa : -134217728 ≤ X24 a) (xa' : X24 a ≤ 134217728) (xb : -134217728 ≤ X24 b) (xb' : X24 b ≤ 134217728) :
    ∃ m, sumD a b 1 = (m, true) ∧ dyB m = true ∧ 2 * X24 m = X24 a + X24 b := by
  have hdy := sumD_dyB a b 1
  obtain ⟨i, j, hi, hj, hmx, hik, hjk, hk24, hor'⟩ := kMax_spec ha hb
  have hk5 : kMax a b ≤ 5 := by omega
  obtain ⟨k, hk⟩ : ∃ k, k = kMax a b := ⟨_, rfl⟩
  have hX : X24 a + X24 b = sumZ a b * ((2 ^ (24 - k) : Nat) : Int) := by
    unfold X24 sumZ
    rw [hi, hj, Int.toNat_natCast, Int.toNat_natCast, ← hk, Int.add_mul, Int.mul_assoc, Int.mul_assoc, ← Int.natCast_mul, ← Int.natCast_mul, ← Nat.pow_add, ← Nat.pow_add, show k - i + (24 - k) = 24 - i from by omega, show k - j + (24 - k) = 24 - j from by omega]
  have hz : (sumZ a b).natAbs ≤ 268435456 := by
    have h1 : (sumZ a b * ((2 ^ (24 - k) : Nat) : Int)).natAbs ≤ 268435456 := by rw [← hX]; omega
    rw [Int.natAbs_mul, Int.natAbs_natCast] at h1
    exact Nat.le_trans (Nat.le_mul_of_pos_right _ (Nat.two_pow_pos _)) h1
  unfold sumD mkD at hdy ⊢
  rw [← hk] at hdy ⊢
  have hsv := sv_abs (sumZ a b)
  obtain ⟨u, hu⟩ : ∃ u, u = (sumZ a b).natAbs := ⟨_, rfl⟩
  rw [← hu] at hdy hsv hz ⊢
  obtain ⟨bb, hbb⟩ : ∃ bb, bb = ltI (sumZ a b) 0 := ⟨_, rfl⟩
  rw [← hbb] at hdy hsv ⊢
  by_cases h0 : u = 0
  · rw [if_pos h0] at hdy ⊢
    refine ⟨_, rfl, hdy, ?_⟩
    rw [hX, ← hsv, h0]
    unfold X24 sv
    cases bb <;> simp
  · rw [if_neg h0] at hdy ⊢
    obtain ⟨r1, r2⟩ := redN_le (k + 1) u
    rw [if_neg (by omega)] at hdy ⊢
    refine ⟨_, rfl, hdy, ?_⟩
    have hv := redN_val (k + 1) u
    rw [hX, ← hsv]
    conv => rhs; rw [← hv]
    unfold X24
    dsimp only
    rw [Int.toNat_natCast]
    generalize (redN (k + 1) u).1 = y at *
    generalize (redN (k + 1) u).2 = z at *
    rw [← sv_mul, Int.mul_assoc, ← Int.natCast_mul, ← Nat.pow_add, show (2 : Int) = ((2 : Nat) : Int) from rfl, Int.mul_comm, Int.mul_assoc, ← Int.natCast_mul, ← Nat.pow_succ, show (24 - z).succ = k + 1 - z + (24 - k) from by omega]
theorem allS_at {l : List Int} {a b : Int} : ∀ {d i : Nat}, allS l a b d i = true → ∀ j, i ≤ j → j < i + d → a ≤ rd I64 l j ∧ rd I64 l j ≤ b
  | 0, i, _, j, h1, h2 => by omega
  | d + 1, i, h, j, h1, h2 => by
    simp only [allS, Bool.and_eq_true] at h
    rcases Nat.lt_or_ge i j with h3 | h3
    · exact allS_at h.2 j h3 (by omega)
    · obtain rfl : j = i := by omega
      exact inB_t h.1
theorem small_dig {l : List Int} (h : smallB l = true) (j : Nat) : (dig l j).natAbs ≤ 1000 := by
  unfold smallB at h
  simp only [Bool.and_eq_true] at h
  unfold dig
  split
  · rename_i hj
    have h1 := allS_at h.2.2 j (by omega) (by omega)
    have h2 : rd I64 l j = l[j] := rd_get hj
    rw [h2] at h1
    obtain ⟨h3, h4⟩ : (-1000 : Int) ≤ l[j] ∧ l[j] ≤ (1000 : Int) := h1
    omega
  · simp
end
end Go.Proofs.Ytipjdipahebnbaa.Z

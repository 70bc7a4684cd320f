/- The two ways to reckon a value. -/
import Derived.Test.YtipjdipahebnbaaPS
set_option linter.unusedVariables false
set_option linter.unusedSimpArgs false
set_option maxRecDepth 100000
namespace Go.Proofs.Ytipjdipahebnbaa.Z
open Go.Proofs.Ytipjdipahebnbaa.Ev
noncomputable section
/-- The value from the lowest coefficient on. -/
def upS (p : List Int) (N : Int) (K : Nat) : Nat → Int
  | 0 => 0
  | j + 1 => upS p N K j * 2 ^ K + dig p j * N ^ j
theorem upS_hor (p : List Int) (N : Int) (K : Nat) : ∀ d, d ≤ p.length → upS p N K p.length = upS p N K (p.length - d) * 2 ^ (K * d) + N ^ (p.length - d) * hor p N K d
  | 0, _ => by simp [hor]
  | d + 1, h => by
    rw [upS_hor p N K d (by omega)]
    obtain ⟨j, hj⟩ : ∃ j, p.length - d = j + 1 := ⟨p.length - d - 1, by omega⟩
    have e1 : p.length - (d + 1) = j := by omega
    have e2 : p.length - 1 - d = j := by omega
    rw [hj, e1]
    simp only [upS, hor]
    have e3 : (2 : Int) ^ (K * (d + 1)) = 2 ^ (K * d) * 2 ^ K := by rw [Nat.mul_add, Nat.mul_one, Int.pow_add]
    have e4 : N ^ (j + 1) = N ^ j * N := Int.pow_succ N j
    rw [e2, e3, e4]
    generalize (2 : Int) ^ (K * d) = a
    generalize (2 : Int) ^ K = b
    generalize N ^ j = c
    generalize dig p j = x
    generalize upS p N K j = y
    generalize hor p N K d = z
    grind
theorem upS_eq (p : List Int) (N : Int) (K : Nat) : upS p N K p.length = hor p N K p.length := by
  rw [upS_hor p N K p.length (Nat.le_refl _), Nat.sub_self]
  simp [upS]
theorem powA_bd {N : Int} (h : N.natAbs ≤ 256) : ∀ j, (N ^ j).natAbs ≤ 256 ^ j
  | 0 => by simp
  | j + 1 => by
    rw [Int.pow_succ, Int.natAbs_mul, Nat.pow_succ]
    exact Nat.mul_le_mul (powA_bd h j) h
theorem upS_bd {p : List Int} {N : Int} {K : Nat} (h : N.natAbs ≤ 256) (hK : K ≤ 5) (hp : ∀ j, (dig p j).natAbs ≤ 1000) : ∀ j, (upS p N K j).natAbs ≤ 1000 * j * 256 ^ j
  | 0 => by simp [upS]
  | j + 1 => by
    have h1 := upS_bd h hK hp j
    have h2 := powA_bd h j
    have h3 : (2 ^ K : Int).natAbs ≤ 32 := by
      rw [Int.natAbs_pow]
      exact Nat.pow_le_pow_right (n := 2) (by omega) hK
    have h4 : (upS p N K j * 2 ^ K).natAbs ≤ 1000 * j * 256 ^ j * 32 := by rw [Int.natAbs_mul]; exact Nat.mul_le_mul h1 h3
    have h5 : (dig p j * N ^ j).natAbs ≤ 1000 * 256 ^ j := by rw [Int.natAbs_mul]; exact Nat.mul_le_mul (hp j) h2
    have h6 := Int.natAbs_add_le (upS p N K j * 2 ^ K) (dig p j * N ^ j)
    simp only [upS]
    have e : 1000 * (j + 1) * 256 ^ (j + 1) = 1000 * j * 256 ^ j * 256 + 1000 * 256 ^ j * 256 := by
      rw [Nat.pow_succ]
      generalize 256 ^ j = q
      rw [Nat.mul_add, Nat.add_mul, Nat.mul_one, Nat.mul_assoc (1000 * j) q 256, Nat.mul_assoc 1000 q 256]
    omega
theorem powB_f (n K : Nat) (h : K ≤ 5) : fn_spec_dyPower.f n (K : Int) = some (2 ^ K : Int) := by
  unfold fn_spec_dyPower.f
  have e : IntKind.wrap .u64 (K : Int) = (K : Int) := by rw [IntKind.wrap_u64]; omega
  rw [e, ltI_f (by omega), br_f]
  unfold shl
  rw [nat_cast, Nat.min_eq_left (by show K ≤ 64; omega), Int.one_mul]
  have : (2 : Int) ^ K ≤ 32 := by
    have := Nat.pow_le_pow_right (n := 2) (by omega) h
    have h2 : ((2 ^ K : Nat) : Int) ≤ 32 := by omega
    rw [Int.natCast_pow] at h2
    exact h2
  have h0 : (0 : Int) < 2 ^ K := Int.pow_pos (by decide)
  rw [wrap_in (by omega) (by omega)]
theorem sgSign_l {R : Type} (n : Nat) (p : List Int) (N : Int) (K : Nat) (hN : N.natAbs ≤ 256) (hK : K ≤ 5) (hl : p.length ≤ 6) (hp : ∀ j, (dig p j).natAbs ≤ 1000) (K0 : Int → Option R) :
    ∀ (d k j : Nat), p.length - j = d → j ≤ p.length → d < k → fn_spec_sgSign.l3 n k p N (K : Int) (upS p N K j) (N ^ j) (ilen p) (j : Int) K0 = K0 (upS p N K p.length) := by
  intro d
  induction d with
  | zero =>
    intro k j h1 h2 h3
    obtain ⟨k, rfl⟩ : ∃ m, k = m + 1 := ⟨k - 1, by omega⟩
    obtain rfl : j = p.length := by omega
    simp only [fn_spec_sgSign.l3]
    rw [ilen_eq, ltI_f (by omega), br_f]
  | succ d ih =>
    intro k j h1 h2 h3
    obtain ⟨k, rfl⟩ : ∃ m, k = m + 1 := ⟨k - 1, by omega⟩
    have hj : j < p.length := by omega
    have b1 := upS_bd hN hK hp j
    have b2 := powA_bd hN j
    have b3 := upS_bd hN hK hp (j + 1)
    have b4 := powA_bd hN (j + 1)
    have c1 : 256 ^ j ≤ 256 ^ 5 := Nat.pow_le_pow_right (by omega) (by omega)
    have c2 : 256 ^ (j + 1) ≤ 256 ^ 6 := Nat.pow_le_pow_right (by omega) (by omega)
    have d1 : 1000 * j * 256 ^ j ≤ 1000 * 5 * 256 ^ 5 := Nat.mul_le_mul (by omega) c1
    have d2 : 1000 * (j + 1) * 256 ^ (j + 1) ≤ 1000 * 6 * 256 ^ 6 := Nat.mul_le_mul (by omega) c2
    have h3' : (2 ^ K : Int).natAbs ≤ 32 := by
      rw [Int.natAbs_pow]
      exact Nat.pow_le_pow_right (n := 2) (by omega) hK
    have m1 : (upS p N K j * 2 ^ K).natAbs ≤ 1000 * 5 * 256 ^ 5 * 32 := by rw [Int.natAbs_mul]; exact Nat.mul_le_mul (Nat.le_trans b1 d1) h3'
    have m2 : (dig p j * N ^ j).natAbs ≤ 1000 * 256 ^ 5 := by rw [Int.natAbs_mul]; exact Nat.mul_le_mul (hp j) (Nat.le_trans b2 c1)
    have e5 : N ^ (j + 1) = N ^ j * N := Int.pow_succ N j
    rw [e5] at b4
    have hd : rd (.int .i64) p j = dig p j := by
      unfold dig
      rw [dif_pos hj]
      exact rd_get hj
    have := ih k (j + 1) (by omega) (by omega) (by omega)
    simp only [fn_spec_sgSign.l3]
    rw [ilen_eq, ltI_t (by omega), br_t, okIx_t (by omega) (by omega), br_t, powB_f n K hK]
    simp only [Option.bind]
    rw [nat_cast, hd, mul_in (x := upS p N K j) (by omega) (by omega), mul_in (x := dig p j) (by omega) (by omega), add_in (by omega) (by omega), mul_in (x := N ^ j) (by omega) (by omega), add_one j (by omega), ← e5, ← ilen_eq]
    exact this
theorem sgSign_f (n : Nat) (p : List Int) (N : Int) (K : Nat) (hN : N.natAbs ≤ 256) (hK : K ≤ 5) (hl : p.length ≤ 6) (hp : ∀ j, (dig p j).natAbs ≤ 1000) (hn : 10 ≤ n) : fn_spec_sgSign.f n p N (K : Int) = some (cmpI (hor p N K p.length) 0) := by
  unfold fn_spec_sgSign.f
  have := sgSign_l n p N K hN hK hl hp (fun (z8 : Int) => ((fn_spec_l1Sign.f n z8)).bind fun (y9 : Int) => some y9) p.length n 0 (by omega) (by omega) (by omega)
  simp only [upS, Int.pow_zero] at this
  refine Eq.trans this ?_
  rw [upS_eq]
  unfold fn_spec_l1Sign.f cmpI
  by_cases h : hor p N K p.length < 0
  · rw [ltI_f (by omega), ltI_t h, if_pos h]; rfl
  · by_cases h2 : 0 < hor p N K p.length
    · rw [ltI_t h2, if_neg h, if_pos h2]; rfl
    · rw [ltI_f h2, ltI_f h, if_neg h, if_neg h2]; rfl
end
end Go.Proofs.Ytipjdipahebnbaa.Z

/- Long numbers: compared. -/
import Derived.Test.YtipjdipahebnbaaPM
set_option linter.unusedVariables false
set_option linter.unusedSimpArgs false
set_option maxRecDepth 100000
namespace Go.Proofs.Ytipjdipahebnbaa.Z
open Go.Proofs.Ytipjdipahebnbaa.Ev
noncomputable section
/-- A digit, 0 beyond the last one. -/
def dig (l : List Int) (i : Nat) : Int := if h : i < l.length then l[i] else 0
theorem digit_f (n : Nat) (a : Bool × List Int) (i : Nat) : fn_impl_long__digit.f n a (i : Int) = some (dig a.2 i) := by
  unfold fn_impl_long__digit.f dig
  by_cases h : i < a.2.length
  · rw [ltI_t (by show (i : Int) < ((a.2.length : Nat) : Int); omega), br_t, okIx_t (by omega) (by show (i : Int) < ((a.2.length : Nat) : Int); omega), br_t, nat_cast, dif_pos h, show rd (.int .u32) a.2 i = a.2[i] from rd_get h]
  · rw [ltI_f (by show ¬ (i : Int) < ((a.2.length : Nat) : Int); omega), br_f, dif_neg h]
theorem dig_ok {l : List Int} (h : DOK l) (i : Nat) : 0 ≤ dig l i ∧ dig l i < 4294967296 := by
  unfold dig
  split
  · rename_i hi; exact h.at i hi
  · omega
/-- The lowest digits' value. -/
def dS (l : List Int) : Nat → Int
  | 0 => 0
  | m + 1 => dS l m + 4294967296 ^ m * dig l m
theorem dS_take (l : List Int) : ∀ m, dS l m = dv (l.take m)
  | 0 => by simp [dS, dv]
  | m + 1 => by
    simp only [dS]
    rw [dS_take l m]
    by_cases h : m < l.length
    · rw [List.take_add_one, List.getElem?_eq_getElem h, Option.toList_some, dv_snoc, List.length_take, Nat.min_eq_left (by omega)]
      unfold dig
      rw [dif_pos h]
    · rw [List.take_of_length_le (by omega), List.take_of_length_le (by omega)]
      unfold dig
      rw [dif_neg h]
      simp
theorem dS_all {l : List Int} {m : Nat} (h : l.length ≤ m) : dS l m = dv l := by rw [dS_take, List.take_of_length_le h]
theorem dS_range {l : List Int} (h : DOK l) : ∀ m, 0 ≤ dS l m ∧ dS l m < 4294967296 ^ m
  | 0 => by simp [dS]
  | m + 1 => by
    obtain ⟨h1, h2⟩ := dS_range h m
    obtain ⟨h3, h4⟩ := dig_ok h m
    have hp : (0 : Int) < 4294967296 ^ m := Int.pow_pos (by decide)
    have h5 : 0 ≤ 4294967296 ^ m * dig l m := Int.mul_nonneg (Int.le_of_lt hp) h3
    have h6 : 4294967296 ^ m * dig l m ≤ 4294967296 ^ m * 4294967295 := Int.mul_le_mul_of_nonneg_left (by omega) (Int.le_of_lt hp)
    simp only [dS, Int.pow_succ]
    omega
theorem dv_range {l : List Int} (h : DOK l) : 0 ≤ dv l ∧ dv l < 4294967296 ^ l.length := by
  rw [← dS_all (Nat.le_refl _)]
  exact dS_range h _
def cmpI (x y : Int) : Int := if x < y then -1 else if y < x then 1 else 0
theorem cmp32_f (n : Nat) (x y : Int) : fn_cmp_Compare_uint32_.f n x y = some (cmpI x y) := by
  unfold fn_cmp_Compare_uint32_.f fn_cmp_isNaN_uint32_.f cmpI
  rw [neI_f rfl, neI_f rfl]
  simp only [Option.bind, br_f]
  by_cases h : x < y
  · rw [ltI_t h, br_t, if_pos h]
  · rw [ltI_f h, br_f, if_neg h]
    by_cases h2 : y < x
    · rw [ltI_t h2, br_t, if_pos h2]
    · rw [ltI_f h2, br_f, if_neg h2]
theorem cmpD_l {R : Type} (n : Nat) (a b : Bool × List Int) (ha : DOK a.2) (hb : DOK b.2) (K0 : Int → Option R) (K1 : Unit → Option R) : ∀ (i k : Nat), i < k → i ≤ 1000000 →
    fn_impl_compareDigits.l2 n k [a] [b] ((i : Int) - 1) K0 K1 = if dS a.2 i < dS b.2 i then K0 (-1) else if dS b.2 i < dS a.2 i then K0 1 else K1 () := by
  intro i
  induction i with
  | zero =>
    intro k hk _
    obtain ⟨k, rfl⟩ : ∃ m, k = m + 1 := ⟨k - 1, by omega⟩
    simp only [fn_impl_compareDigits.l2]
    rw [leI_f (by omega), br_f]
    simp [dS]
  | succ i ih =>
    intro k hk hi
    obtain ⟨k, rfl⟩ : ∃ m, k = m + 1 := ⟨k - 1, by omega⟩
    simp only [fn_impl_compareDigits.l2]
    rw [show ((i + 1 : Nat) : Int) - 1 = (i : Int) from by omega, leI_t (by omega), br_t]
    rw [show rd (.pair .bool (.slice 121 (.int .u32))) [a] 0 = a from rfl, show rd (.pair .bool (.slice 121 (.int .u32))) [b] 0 = b from rfl, digit_f, digit_f]
    simp only [Option.bind]
    rw [cmp32_f]
    dsimp only
    obtain ⟨r1, r2⟩ := dS_range ha i
    obtain ⟨r3, r4⟩ := dS_range hb i
    have hp : (0 : Int) < 4294967296 ^ i := Int.pow_pos (by decide)
    have key : ∀ x y : Int, x < y → 4294967296 ^ i * x + 4294967296 ^ i ≤ 4294967296 ^ i * y := fun x y h => by
      have := Int.mul_le_mul_of_nonneg_left (show x + 1 ≤ y from h) (Int.le_of_lt hp)
      rw [Int.mul_add, Int.mul_one] at this
      exact this
    have eA : dS a.2 (i + 1) = dS a.2 i + 4294967296 ^ i * dig a.2 i := rfl
    have eB : dS b.2 (i + 1) = dS b.2 i + 4294967296 ^ i * dig b.2 i := rfl
    unfold cmpI
    by_cases h1 : dig a.2 i < dig b.2 i
    · have := key _ _ h1
      have h2 : dS a.2 (i + 1) < dS b.2 (i + 1) := by omega
      rw [if_pos h1, neI_t (by decide), br_t, if_pos h2]
    · rw [if_neg h1]
      by_cases h2 : dig b.2 i < dig a.2 i
      · have := key _ _ h2
        have h3 : dS b.2 (i + 1) < dS a.2 (i + 1) := by omega
        have h4 : ¬ dS a.2 (i + 1) < dS b.2 (i + 1) := by omega
        rw [if_pos h2, neI_t (by decide), br_t, if_neg h4, if_pos h3]
      · have e : dig a.2 i = dig b.2 i := by omega
        rw [e] at eA
        rw [if_neg h2, neI_f rfl, br_f, sub_in (by omega) (by omega), ih k (by omega) (by omega)]
        by_cases h3 : dS a.2 i < dS b.2 i
        · have h4 : dS a.2 (i + 1) < dS b.2 (i + 1) := by omega
          rw [if_pos h3, if_pos h4]
        · have h4 : ¬ dS a.2 (i + 1) < dS b.2 (i + 1) := by omega
          rw [if_neg h3, if_neg h4]
          by_cases h5 : dS b.2 i < dS a.2 i
          · have h6 : dS b.2 (i + 1) < dS a.2 (i + 1) := by omega
            rw [if_pos h5, if_pos h6]
          · have h6 : ¬ dS b.2 (i + 1) < dS a.2 (i + 1) := by omega
            rw [if_neg h5, if_neg h6]
theorem cmpD_f' (n : Nat) (a b : Bool × List Int) (ha : DOK a.2) (hb : DOK b.2) (hla : a.2.length ≤ 100000) (hlb : b.2.length ≤ 100000) (hn : 1000000 ≤ n) : fn_impl_compareDigits.f n a b = some (cmpI (dv a.2) (dv b.2)) := by
  unfold fn_impl_compareDigits.f
  obtain ⟨m, hm⟩ : ∃ m, m = max a.2.length b.2.length := ⟨_, rfl⟩
  have e : mx (ilen a.2) (ilen b.2) = (m : Int) := by
    rw [hm]; unfold mx ilen; split <;> omega
  rw [e, sub_in (by omega) (by omega), cmpD_l n a b ha hb _ _ m n (by omega) (by omega), dS_all (by omega), dS_all (by omega)]
  unfold cmpI
  by_cases h1 : dv a.2 < dv b.2
  · rw [if_pos h1, if_pos h1]
  · rw [if_neg h1, if_neg h1]
    by_cases h2 : dv b.2 < dv a.2
    · rw [if_pos h2, if_pos h2]
    · rw [if_neg h2, if_neg h2]
end
end Go.Proofs.Ytipjdipahebnbaa.Z

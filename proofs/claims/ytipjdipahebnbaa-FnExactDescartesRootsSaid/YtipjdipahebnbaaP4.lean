/- Dyadic numbers compared: both sides agree. -/
import Derived.Test.YtipjdipahebnbaaP1
set_option linter.unusedVariables false
set_option linter.unusedSimpArgs false
set_option maxRecDepth 100000
namespace Go.Proofs.Ytipjdipahebnbaa.Z
open Go.Proofs.Ytipjdipahebnbaa.Ev
noncomputable section
def sg (x : Int) : Int := if 0 < x then 1 else if x < 0 then -1 else 0
def DV (a : Int × Int) : Prop := 0 ≤ a.2 ∧ a.2 ≤ 24 ∧ -1099511627776 ≤ a.1 ∧ a.1 ≤ 1099511627776
def dyB (a : Int × Int) : Bool := inB a.2 0 24 && (inB a.1 (-1099511627776) 1099511627776 && (eqI a.2 0 || neI (rem a.1 2) 0))
theorem inB_t {a x y : Int} (h : inB a x y = true) : x ≤ a ∧ a ≤ y := by
  unfold inB at h
  simp only [Bool.and_eq_true] at h
  exact ⟨leI_of h.1, leI_of h.2⟩
theorem dyB_DV {a : Int × Int} (h : dyB a = true) : DV a := by
  unfold dyB at h
  simp only [Bool.and_eq_true] at h
  have h1 := inB_t h.1
  have h2 := inB_t h.2.1
  exact ⟨h1.1, h1.2, h2.1, h2.2⟩
theorem isDyadic_f (n : Nat) (a : Int × Int) : fn_impl_isDyadic.f n a = some (dyB a) := by
  unfold fn_impl_isDyadic.f fn_impl_isPlaces.f dyB
  rw [inside_f, Option.bind_some, Option.bind_some]
  cases inB a.2 0 24
  · rfl
  · rw [br_t, inside_f, Option.bind_some, Bool.true_and]
    cases inB a.1 (-1099511627776) 1099511627776
    · rfl
    · rw [br_t, Bool.true_and, eqI_f (x := 2) (y := 0) (by decide), br_f]
      cases eqI a.2 0 <;> rfl
theorem dyGood_f (n : Nat) (a : Int × Int) : fn_spec_dyGood.f n a = some (dyB a) := by
  unfold fn_spec_dyGood.f dyB
  rw [l1In_f, Option.bind_some]
  cases inB a.2 0 24
  · rfl
  · rw [br_t, l1In_f, Option.bind_some, Bool.true_and]
    cases inB a.1 (-1099511627776) 1099511627776
    · rfl
    · rw [br_t, Bool.true_and, eqI_f (x := 2) (y := 0) (by decide), br_f]
      cases eqI a.2 0 <;> rfl
theorem two_le {i j : Nat} (h : i ≤ j) : (2 : Nat) ^ i ≤ 2 ^ j := Nat.pow_le_pow_right (by omega) h
theorem wrapU_in {x : Int} (h : 0 ≤ x) (h' : x < 18446744073709551616) : IntKind.u64.wrap x = x := by rw [IntKind.wrap_u64]; omega
theorem size_f (n : Nat) (x : Int) (h : -1099511627776 ≤ x) (h' : x ≤ 1099511627776) : fn_impl_size.f n x = some (x.natAbs : Int) := by
  unfold fn_impl_size.f
  by_cases h0 : x < 0
  · rw [ltI_t h0, br_t, sub_in (by omega) (by omega), wrapU_in (by omega) (by omega)]
    congr 1
    omega
  · rw [ltI_f h0, br_f, wrapU_in (by omega) (by omega)]
    congr 1
    omega
theorem shiftW_f (n : Nat) (b : Bool) (m s : Nat) (hm : m ≤ 1099511627776) (hs : s ≤ 24) :
    fn_impl_wide__shift.f n (b, (0, (m : Int))) (s : Int) = some (b, ((m * 2 ^ s / 18446744073709551616 : Nat) : Int), ((m * 2 ^ s % 18446744073709551616 : Nat) : Int)) := by
  unfold fn_impl_wide__shift.f
  have e64 : sub .i64 64 (s : Int) = ((64 - s : Nat) : Int) := by rw [sub_in (by omega) (by omega)]; omega
  rw [leI_t (x := 0) (y := (s : Int)) (by omega), br_t, leI_f (x := 64) (y := (s : Int)) (by omega), br_f, e64, ltI_f (x := (s : Int)) (y := 0) (by omega), br_f, ltI_f (x := ((64 - s : Nat) : Int)) (y := 0) (by omega), br_f, br_f]
  have h0 : shl .u64 0 (s : Int) = 0 := by unfold shl; rw [Int.zero_mul]; rfl
  have h1 : shl .u64 (m : Int) (s : Int) = ((m * 2 ^ s % 18446744073709551616 : Nat) : Int) := by
    unfold shl
    rw [IntKind.wrap_u64, nat_cast, Nat.min_eq_left (by show s ≤ 64; omega)]
    simp
  have hp : (0 : Nat) < 2 ^ (64 - s) := Nat.pos_of_ne_zero (by simp)
  have h2 : shr .u64 (m : Int) ((64 - s : Nat) : Int) = ((m / 2 ^ (64 - s) : Nat) : Int) := by
    unfold shr
    rw [nat_cast, Nat.min_eq_left (by show 64 - s ≤ 64; omega), Int.fdiv_eq_ediv_of_nonneg _ (by exact Int.pow_nonneg (by decide))]
    simp
  have h3 : m * 2 ^ s / 18446744073709551616 = m / 2 ^ (64 - s) := by
    rw [show (18446744073709551616 : Nat) = 2 ^ (64 - s) * 2 ^ s from by rw [← Nat.pow_add, Nat.sub_add_cancel (by omega)], Nat.mul_div_mul_right _ _ (Nat.pos_of_ne_zero (by simp))]
  have h4 : m / 2 ^ (64 - s) ≤ 1 := by
    have : m < 2 * 2 ^ (64 - s) := by
      have := two_le (show 40 ≤ 64 - s by omega)
      omega
    have := Nat.div_lt_of_lt_mul (show m < 2 ^ (64 - s) * 2 by omega)
    omega
  rw [h0, h1, h2, h3]
  dsimp only
  rcases Nat.lt_or_ge (m / 2 ^ (64 - s)) 1 with h5 | h5
  · rw [show m / 2 ^ (64 - s) = 0 by omega]
    rfl
  · rw [show m / 2 ^ (64 - s) = 1 by omega]
    rfl
def cm (x y : Int) : Int := if x < y then -1 else if y < x then 1 else 0
theorem cmp64_f (n : Nat) (x y : Int) : fn_cmp_Compare_uint64_.f n x y = some (cm x y) := by
  unfold fn_cmp_Compare_uint64_.f fn_cmp_isNaN_uint64_.f cm
  rw [neI_f rfl, neI_f rfl, Option.bind_some, Option.bind_some, br_f, br_f]
  by_cases h : x < y
  · rw [ltI_t h, br_t, if_pos h]
  · rw [ltI_f h, br_f, if_neg h]
    by_cases h2 : y < x
    · rw [ltI_t h2, br_t, if_pos h2]
    · rw [ltI_f h2, br_f, if_neg h2]
theorem or_f (n : Nat) (a b : Int) : fn_cmp_Or_int_.f (n + 3) [a, b] = some (if a = 0 then b else a) := by
  unfold fn_cmp_Or_int_.f
  have e2 : ilen [a, b] = 2 := rfl
  have r0 : rd I64 [a, b] 0 = a := rfl
  have r1 : rd I64 [a, b] 1 = b := rfl
  have n0 : nat 0 = 0 := rfl
  have n1 : nat 1 = 1 := rfl
  have a1 : add .i64 0 1 = 1 := rfl
  have a2 : add .i64 1 1 = 2 := rfl
  rw [e2]
  simp only [fn_cmp_Or_int_.l3]
  rw [e2, ltI_t (x := 0) (y := 2) (by decide), br_t, okIx_t (i := 0) (n := 2) (by decide) (by decide), br_t, n0, r0]
  by_cases h : a = 0
  · rw [neI_f h, br_f, a1, ltI_t (x := 1) (y := 2) (by decide), br_t, okIx_t (i := 1) (n := 2) (by decide) (by decide), br_t, n1, r1, if_pos h]
    by_cases h2 : b = 0
    · rw [neI_f h2, br_f, a2, ltI_f (x := 2) (y := 2) (by decide), br_f, h2]
    · rw [neI_t h2, br_t]
  · rw [neI_t h, br_t, if_neg h]
theorem sizes_f (n : Nat) (b c : Bool) (u v : Nat) : fn_impl_compareSizes.f (n + 3) (b, (((u / 18446744073709551616 : Nat) : Int), ((u % 18446744073709551616 : Nat) : Int))) (c, (((v / 18446744073709551616 : Nat) : Int), ((v % 18446744073709551616 : Nat) : Int))) = some (cm (u : Int) (v : Int)) := by
  unfold fn_impl_compareSizes.f
  rw [cmp64_f, Option.bind_some, cmp64_f, Option.bind_some, or_f, Option.bind_some]
  congr 1
  unfold cm
  dsimp only
  (repeat' split) <;> omega
theorem isZero_f (n : Nat) (b : Bool) (u : Nat) : fn_impl_wide__isZero.f n (b, (((u / 18446744073709551616 : Nat) : Int), ((u % 18446744073709551616 : Nat) : Int))) = some (eqI (u : Int) 0) := by
  unfold fn_impl_wide__isZero.f
  dsimp only
  by_cases h : (u : Int) = 0
  · rw [eqI_t (by omega), br_t, eqI_t h, eqI_t (by omega)]
  · rw [eqI_f h]
    by_cases h1 : ((u / 18446744073709551616 : Nat) : Int) = 0
    · rw [eqI_t h1, br_t, eqI_f (by omega)]
    · rw [eqI_f h1, br_f]
def sv (b : Bool) (u : Nat) : Int := match b with | true => -(u : Int) | false => (u : Int)
theorem cmpWide_f (n : Nat) (b c : Bool) (u v : Nat) (hb : b = true → 0 < u) (hc : c = true → 0 < v) :
    fn_impl_compareWide.f (n + 3) (b, (((u / 18446744073709551616 : Nat) : Int), ((u % 18446744073709551616 : Nat) : Int))) (c, (((v / 18446744073709551616 : Nat) : Int), ((v % 18446744073709551616 : Nat) : Int))) = some (sg (sv b u - sv c v)) := by
  unfold fn_impl_compareWide.f
  have rest : br (bnot (boolEq b c)) (br b (some (-1 : Int)) (some 1)) (br b ((fn_impl_compareSizes.f (n + 3) (c, (((v / 18446744073709551616 : Nat) : Int), ((v % 18446744073709551616 : Nat) : Int))) (b, (((u / 18446744073709551616 : Nat) : Int), ((u % 18446744073709551616 : Nat) : Int)))).bind fun y => some y) ((fn_impl_compareSizes.f (n + 3) (b, (((u / 18446744073709551616 : Nat) : Int), ((u % 18446744073709551616 : Nat) : Int))) (c, (((v / 18446744073709551616 : Nat) : Int), ((v % 18446744073709551616 : Nat) : Int)))).bind fun y => some y)) = (if u = 0 ∧ v = 0 then some (cm 0 0) else some (sg (sv b u - sv c v))) ∨ (u = 0 ∧ v = 0) := by
    by_cases h0 : u = 0 ∧ v = 0
    · exact .inr h0
    · left
      rw [if_neg h0, sizes_f, sizes_f]
      cases b <;> cases c
      · show some (cm (u : Int) v) = some (sg ((u : Int) - v))
        congr 1; unfold cm sg; (repeat' split) <;> omega
      · show some (1 : Int) = some (sg ((u : Int) - -(v : Int)))
        have := hc rfl
        congr 1; unfold sg; (repeat' split) <;> omega
      · show some (-1 : Int) = some (sg (-(u : Int) - (v : Int)))
        have := hb rfl
        congr 1; unfold sg; (repeat' split) <;> omega
      · show some (cm (v : Int) u) = some (sg (-(u : Int) - -(v : Int)))
        congr 1; unfold cm sg; (repeat' split) <;> omega
  rw [isZero_f, isZero_f, Option.bind_some, Option.bind_some]
  by_cases hu : (u : Int) = 0
  · rw [eqI_t hu, br_t]
    by_cases hv : (v : Int) = 0
    · rw [eqI_t hv, br_t]
      have hbf : b = false := by cases b; rfl; exact absurd (hb rfl) (by omega)
      have hcf : c = false := by cases c; rfl; exact absurd (hc rfl) (by omega)
      subst hbf hcf
      have : sg (sv false u - sv false v) = 0 := by unfold sv sg; dsimp only; (repeat' split) <;> omega
      rw [this]
    · rw [eqI_f hv, br_f]
      rcases rest with h | h
      · rw [if_neg (by omega)] at h; exact h
      · omega
  · rw [eqI_f hu, br_f]
    rcases rest with h | h
    · rw [if_neg (by omega)] at h; exact h
    · omega
/-- A dyadic number times 2^24. -/
def X24 (a : Int × Int) : Int := a.1 * ((2 ^ (24 - a.2.toNat) : Nat) : Int)
theorem sg_mul (x : Int) (p : Nat) (hp : 0 < p) : sg (x * (p : Int)) = sg x := by
  have hp' : (0 : Int) < (p : Int) := by omega
  unfold sg
  by_cases h1 : 0 < x
  · rw [if_pos h1, if_pos (Int.mul_pos h1 hp')]
  · by_cases h2 : x < 0
    · have := Int.mul_neg_of_neg_of_pos h2 hp'
      rw [if_neg h1, if_pos h2, if_neg (by omega), if_pos this]
    · have : x = 0 := by omega
      subst this
      simp
theorem sv_val (x : Int) (p : Nat) : sv (ltI x 0) (x.natAbs * p) = x * (p : Int) := by
  by_cases h : x < 0
  · rw [ltI_t h]
    show -((x.natAbs * p : Nat) : Int) = _
    have : (x.natAbs : Int) = -x := by omega
    rw [Int.natCast_mul, this, Int.neg_mul, Int.neg_neg]
  · rw [ltI_f h]
    show ((x.natAbs * p : Nat) : Int) = _
    have : (x.natAbs : Int) = x := by omega
    rw [Int.natCast_mul, this]
theorem cmpD_f (n : Nat) (a b : Int × Int) (ha : DV a) (hb : DV b) : fn_impl_compareD.f (n + 3) a b = some (sg (X24 a - X24 b)) := by
  obtain ⟨a1, a2, a3, a4⟩ := ha
  obtain ⟨b1, b2, b3, b4⟩ := hb
  obtain ⟨i, hi⟩ : ∃ i : Nat, a.2 = (i : Int) := ⟨a.2.toNat, by omega⟩
  obtain ⟨j, hj⟩ : ∃ j : Nat, b.2 = (j : Int) := ⟨b.2.toNat, by omega⟩
  obtain ⟨k, hk, hik, hjk, hk24⟩ : ∃ k : Nat, mx a.2 b.2 = (k : Int) ∧ i ≤ k ∧ j ≤ k ∧ k ≤ 24 := by
    rw [hi, hj]
    unfold mx
    split
    · exact ⟨j, rfl, by omega, by omega, by omega⟩
    · exact ⟨i, rfl, by omega, by omega, by omega⟩
  unfold fn_impl_compareD.f fn_impl_wideOf.f
  rw [hk, size_f _ a.1 a3 a4, size_f _ b.1 b3 b4, Option.bind_some, Option.bind_some, Option.bind_some]
  have e1 : sub .i64 (k : Int) a.2 = ((k - i : Nat) : Int) := by rw [hi, sub_in (by omega) (by omega)]; omega
  have e2 : sub .i64 (k : Int) b.2 = ((k - j : Nat) : Int) := by rw [hj, sub_in (by omega) (by omega)]; omega
  rw [e1, e2, shiftW_f _ _ _ _ (by omega) (by omega), Option.bind_some, Option.bind_some, shiftW_f _ _ _ _ (by omega) (by omega), Option.bind_some]
  have pos : ∀ e : Nat, 0 < 2 ^ e := fun e => Nat.pos_of_ne_zero (by simp)
  rw [cmpWide_f n _ _ _ _ (fun h => by
      have : a.1 < 0 := of_decide_eq_true ((ltI_eq _ _).symm.trans h)
      exact Nat.mul_pos (by omega) (pos _)) (fun h => by
      have : b.1 < 0 := of_decide_eq_true ((ltI_eq _ _).symm.trans h)
      exact Nat.mul_pos (by omega) (pos _)), Option.bind_some, sv_val, sv_val]
  congr 1
  have h1 : X24 a = a.1 * ((2 ^ (k - i) : Nat) : Int) * ((2 ^ (24 - k) : Nat) : Int) := by
    unfold X24
    rw [hi, Int.mul_assoc, ← Int.natCast_mul, ← Nat.pow_add, Int.toNat_natCast, show k - i + (24 - k) = 24 - i by omega]
  have h2 : X24 b = b.1 * ((2 ^ (k - j) : Nat) : Int) * ((2 ^ (24 - k) : Nat) : Int) := by
    unfold X24
    rw [hj, Int.mul_assoc, ← Int.natCast_mul, ← Nat.pow_add, Int.toNat_natCast, show k - j + (24 - k) = 24 - j by omega]
  rw [h1, h2, ← Int.sub_mul, sg_mul _ _ (pos _)]
theorem sign_f (n : Nat) (x : Int) : fn_spec_l1Sign.f n x = some (sg x) := by
  unfold fn_spec_l1Sign.f sg
  by_cases h : 0 < x
  · rw [ltI_t h, br_t, if_pos h]
  · rw [ltI_f h, br_f, if_neg h]
    by_cases h2 : x < 0
    · rw [ltI_t h2, br_t, if_pos h2]
    · rw [ltI_f h2, br_f, if_neg h2]
theorem power_f (n i : Nat) (hi : i ≤ 62) : fn_spec_dyPower.f n (i : Int) = some ((2 ^ i : Nat) : Int) := by
  unfold fn_spec_dyPower.f
  have hw : IntKind.wrap .u64 (i : Int) = (i : Int) := wrapU_in (by omega) (by omega)
  rw [hw, ltI_f (by omega), br_f]
  congr 1
  unfold shl
  rw [nat_cast, Nat.min_eq_left (by show i ≤ 64; omega), Int.one_mul]
  have hle : (2 : Nat) ^ i ≤ 4611686018427387904 := two_le hi
  have e : ((2 : Int) ^ i) = ((2 ^ i : Nat) : Int) := by simp
  rw [e]
  generalize (2 : Nat) ^ i = p at hle
  exact wrap_in (by omega) (by omega)
theorem down_f (n : Nat) (x d : Int) (hd : 0 < d) (hx : -1099511627776 ≤ x) (hx' : x ≤ 1099511627776) : fn_spec_dyDown.f n x d = some (x / d) := by
  unfold fn_spec_dyDown.f
  rw [eqI_f (by omega), br_f, br_f]
  have hb : ∀ y : Int, 0 ≤ y → 0 ≤ y / d ∧ y / d ≤ y := fun y hy => ⟨Int.ediv_nonneg hy (by omega), Int.ediv_le_self _ hy⟩
  by_cases h0 : 0 ≤ x
  · have e1 : rem x d = x % d := by unfold rem; rw [Int.tmod_eq_emod_of_nonneg h0]
    have h2 := Int.emod_nonneg x (show d ≠ 0 by omega)
    have h3 := hb x h0
    rw [e1, ltI_f (by omega), br_f]
    unfold quo
    rw [Int.tdiv_eq_ediv_of_nonneg h0, wrap_in (by omega) (by omega)]
  · obtain ⟨y, rfl⟩ : ∃ y, x = -y := ⟨-x, by omega⟩
    have hy : 0 ≤ y := by omega
    have h3 := hb y hy
    have e1 : rem (-y) d = -(y % d) := by unfold rem; rw [Int.neg_tmod, Int.tmod_eq_emod_of_nonneg hy]
    have e2 : quo .i64 (-y) d = -(y / d) := by
      unfold quo
      rw [Int.neg_tdiv, Int.tdiv_eq_ediv_of_nonneg hy, wrap_in (by omega) (by omega)]
    have h4 := Int.emod_nonneg y (show d ≠ 0 by omega)
    have h5 := Int.emod_lt_of_pos y hd
    have h6 := Int.mul_ediv_add_emod y d
    rw [e1, e2]
    by_cases hz : y % d = 0
    · rw [ltI_f (by omega), br_f]
      congr 1
      refine ((Int.ediv_emod_unique (a := -y) (r := 0) (q := -(y / d)) hd).2 ⟨?_, by omega, hd⟩).1.symm
      rw [Int.mul_neg]; omega
    · rw [ltI_t (by omega), br_t, sub_in (by omega) (by omega)]
      congr 1
      refine ((Int.ediv_emod_unique (a := -y) (r := d - y % d) (q := -(y / d) - 1) hd).2 ⟨?_, by omega, by omega⟩).1.symm
      rw [Int.mul_sub, Int.mul_neg]; omega
theorem at_l {R : Type} (n : Nat) (i : Int) (K0 : Int → Bool → Option R) (K1 : List (Int × Int) → Option R) : ∀ (d k j : Nat) (N : Int), j + d = 24 → d < k → 0 ≤ N → N * ((2 ^ d : Nat) : Int) < 16777216 →
    fn_spec_dyAt.l4 n k [(N, i)] 24 (j : Int) K0 K1 = K1 [(N * ((2 ^ d : Nat) : Int), i)] := by
  intro d
  induction d with
  | zero =>
    intro k j N hj hk h0 h1
    obtain ⟨k, rfl⟩ : ∃ m, k = m + 1 := ⟨k - 1, by omega⟩
    simp only [fn_spec_dyAt.l4]
    rw [ltI_f (by omega), br_f]
    simp
  | succ d ih =>
    intro k j N hj hk h0 h1
    obtain ⟨k, rfl⟩ : ∃ m, k = m + 1 := ⟨k - 1, by omega⟩
    have hp : (1 : Int) ≤ ((2 ^ d : Nat) : Int) := by
      have : 0 < 2 ^ d := Nat.pos_of_ne_zero (by simp)
      omega
    have e : N * ((2 ^ (d + 1) : Nat) : Int) = N * 2 * ((2 ^ d : Nat) : Int) := by
      rw [Nat.pow_succ, Nat.mul_comm, Int.natCast_mul, ← Int.mul_assoc]; rfl
    have hN : N < 16777216 := by
      have h2 : N * 1 ≤ N * ((2 ^ (d + 1) : Nat) : Int) := Int.mul_le_mul_of_nonneg_left (by
        have : 0 < 2 ^ (d + 1) := Nat.pos_of_ne_zero (by simp)
        omega) h0
      omega
    have r0 : rd (.pair (.int .i64) (.int .i64)) [(N, i)] 0 = (N, i) := rfl
    have s0 : ∀ y : Int × Int, setL [(N, i)] 0 y = [y] := fun y => rfl
    simp only [fn_spec_dyAt.l4]
    rw [ltI_t (by omega), br_t, r0]
    change (fn_spec_dyPower.f n ((60 : Nat) : Int)).bind _ = _
    rw [power_f n 60 (by omega), Option.bind_some]
    change (fn_spec_dyPower.f n ((60 : Nat) : Int)).bind _ = _
    rw [power_f n 60 (by omega), Option.bind_some, l1In_f, Option.bind_some]
    have hin : inB N (sub .i64 0 ((2 ^ 60 : Nat) : Int)) ((2 ^ 60 : Nat) : Int) = true := by
      have e60 : ((2 ^ 60 : Nat) : Int) = 1152921504606846976 := rfl
      rw [e60, sub_in (by omega) (by omega)]
      unfold inB
      rw [leI_t (by omega), leI_t (by omega)]; rfl
    rw [hin, bnot_t, br_f, s0, mul_in (by omega) (by omega), add_one j (by omega), e]
    exact ih k (j + 1) (N * 2) (by omega) (by omega) (by omega) (by rw [← e]; exact h1)
theorem at_f (n i : Nat) (N : Int) (hi : i ≤ 24) (h0 : 0 ≤ N) (h1 : N < ((2 ^ i : Nat) : Int)) (hn : 100 < n) : fn_spec_dyAt.f n (N, (i : Int)) 24 = some (N * ((2 ^ (24 - i) : Nat) : Int), true) := by
  unfold fn_spec_dyAt.f
  by_cases hz : N = 0
  · rw [eqI_t hz, br_t, hz, Int.zero_mul]
  · rw [eqI_f hz, br_f]
    refine (at_l n (i : Int) _ _ (24 - i) n i N (by omega) (by omega) h0 ?_).trans rfl
    have hp : (0 : Int) < ((2 ^ (24 - i) : Nat) : Int) := by
      have : 0 < 2 ^ (24 - i) := Nat.pos_of_ne_zero (by simp)
      omega
    have := Int.mul_lt_mul_of_pos_right h1 hp
    rw [← Int.natCast_mul, ← Nat.pow_add, show i + (24 - i) = 24 by omega] at this
    exact this
theorem X24_split (N : Int) (i : Nat) (hi : i ≤ 24) : X24 (N, (i : Int)) = N / ((2 ^ i : Nat) : Int) * 16777216 + N % ((2 ^ i : Nat) : Int) * ((2 ^ (24 - i) : Nat) : Int) := by
  unfold X24
  have h6 := Int.mul_ediv_add_emod N ((2 ^ i : Nat) : Int)
  have e : (16777216 : Int) = ((2 ^ i : Nat) : Int) * ((2 ^ (24 - i) : Nat) : Int) := by
    rw [← Int.natCast_mul, ← Nat.pow_add, show i + (24 - i) = 24 by omega]; rfl
  dsimp only
  rw [Int.toNat_natCast, e, ← Int.mul_assoc, ← Int.add_mul, Int.mul_comm (N / _)]
  rw [h6]
theorem floor_f (n : Nat) (a : Int × Int) (i : Nat) (h : a.2 = (i : Int)) (ha : DV a) : fn_spec_dyFloor.f n a = some (a.1 / ((2 ^ i : Nat) : Int)) := by
  unfold fn_spec_dyFloor.f
  obtain ⟨a1, a2, a3, a4⟩ := ha
  have hp : 0 < 2 ^ i := Nat.pos_of_ne_zero (by simp)
  rw [h, power_f n i (by omega), Option.bind_some, down_f n a.1 _ (by omega) a3 a4]
  rfl
theorem dyCmp_f (n : Nat) (a b : Int × Int) (ha : DV a) (hb : DV b) (hn : 100 < n) : fn_spec_dyCmp.f n a b = some (sg (X24 a - X24 b)) := by
  have ha' := ha
  have hb' := hb
  obtain ⟨a1, a2, a3, a4⟩ := ha
  obtain ⟨b1, b2, b3, b4⟩ := hb
  obtain ⟨i, hi⟩ : ∃ i : Nat, a.2 = (i : Int) := ⟨a.2.toNat, by omega⟩
  obtain ⟨j, hj⟩ : ∃ j : Nat, b.2 = (j : Int) := ⟨b.2.toNat, by omega⟩
  have pos : ∀ e : Nat, (0 : Int) < ((2 ^ e : Nat) : Int) := fun e => by
    have : 0 < 2 ^ e := Nat.pos_of_ne_zero (by simp)
    omega
  have xa : X24 a = _ := (show X24 a = X24 (a.1, (i : Int)) by rw [← hi]).trans (X24_split a.1 i (by omega))
  have xb : X24 b = _ := (show X24 b = X24 (b.1, (j : Int)) by rw [← hj]).trans (X24_split b.1 j (by omega))
  have bound : ∀ (N : Int) (e : Nat), e ≤ 24 → 0 ≤ N % ((2 ^ e : Nat) : Int) * ((2 ^ (24 - e) : Nat) : Int) ∧ N % ((2 ^ e : Nat) : Int) * ((2 ^ (24 - e) : Nat) : Int) < 16777216 := fun N e he => by
    have h1 := Int.emod_nonneg N (show ((2 ^ e : Nat) : Int) ≠ 0 by have := pos e; omega)
    have h2 := Int.emod_lt_of_pos N (pos e)
    refine ⟨Int.mul_nonneg h1 (by have := pos (24 - e); omega), ?_⟩
    have := Int.mul_lt_mul_of_pos_right h2 (pos (24 - e))
    rw [← Int.natCast_mul, ← Nat.pow_add, show e + (24 - e) = 24 by omega] at this
    exact this
  have ba := bound a.1 i (by omega)
  have bb := bound b.1 j (by omega)
  have fa : -1099511627776 ≤ a.1 / ((2 ^ i : Nat) : Int) ∧ a.1 / ((2 ^ i : Nat) : Int) ≤ 1099511627776 := by
    have h := pos i
    constructor
    · exact Int.le_ediv_of_mul_le h (Int.le_trans (Int.mul_le_mul_of_nonpos_left (by omega) (show (1 : Int) ≤ ((2 ^ i : Nat) : Int) by omega)) (by omega))
    · by_cases h0 : 0 ≤ a.1
      · exact Int.le_trans (Int.ediv_le_self _ h0) a4
      · exact Int.le_trans (Int.le_of_lt (Int.ediv_neg_of_neg_of_pos (by omega) h)) (by omega)
  have fb : -1099511627776 ≤ b.1 / ((2 ^ j : Nat) : Int) ∧ b.1 / ((2 ^ j : Nat) : Int) ≤ 1099511627776 := by
    have h := pos j
    constructor
    · exact Int.le_ediv_of_mul_le h (Int.le_trans (Int.mul_le_mul_of_nonpos_left (by omega) (show (1 : Int) ≤ ((2 ^ j : Nat) : Int) by omega)) (by omega))
    · by_cases h0 : 0 ≤ b.1
      · exact Int.le_trans (Int.ediv_le_self _ h0) b4
      · exact Int.le_trans (Int.le_of_lt (Int.ediv_neg_of_neg_of_pos (by omega) h)) (by omega)
  have rest : ∀ (N : Int) (e : Nat), e ≤ 24 → -1099511627776 ≤ N → N ≤ 1099511627776 → sub .i64 N (mul .i64 (N / ((2 ^ e : Nat) : Int)) ((2 ^ e : Nat) : Int)) = N % ((2 ^ e : Nat) : Int) := fun N e he h1 h2 => by
    have h6 := Int.mul_ediv_add_emod N ((2 ^ e : Nat) : Int)
    have h3 := Int.emod_nonneg N (show ((2 ^ e : Nat) : Int) ≠ 0 by have := pos e; omega)
    have h4 := Int.emod_lt_of_pos N (pos e)
    have h5 : (2 : Nat) ^ e ≤ 2 ^ 24 := two_le he
    have h7 : N / ((2 ^ e : Nat) : Int) * ((2 ^ e : Nat) : Int) = N - N % ((2 ^ e : Nat) : Int) := by rw [Int.mul_comm]; omega
    rw [mul_in (by rw [h7]; omega) (by rw [h7]; omega), h7, sub_in (by omega) (by omega)]
    omega
  unfold fn_spec_dyCmp.f
  rw [floor_f n a i hi ha', floor_f n b j hj hb', Option.bind_some, Option.bind_some]
  by_cases hq : a.1 / ((2 ^ i : Nat) : Int) = b.1 / ((2 ^ j : Nat) : Int)
  · rw [neI_f hq, br_f, hi, hj, power_f n i (by omega), Option.bind_some, rest a.1 i (by omega) a3 a4,
      at_f n i _ (by omega) (Int.emod_nonneg _ (by have := pos i; omega)) (Int.emod_lt_of_pos _ (pos i)) hn, Option.bind_some, power_f n j (by omega), Option.bind_some, rest b.1 j (by omega) b3 b4,
      at_f n j _ (by omega) (Int.emod_nonneg _ (by have := pos j; omega)) (Int.emod_lt_of_pos _ (pos j)) hn, Option.bind_some]
    dsimp only
    rw [sub_in (by omega) (by omega), sign_f, Option.bind_some, xa, xb, hq]
    congr 2
    omega
  · rw [neI_t hq, br_t, sub_in (by omega) (by omega), sign_f, Option.bind_some, xa, xb]
    congr 1
    unfold sg
    (repeat' split) <;> omega
end
end Go.Proofs.Ytipjdipahebnbaa.Z

/- Dyadic numbers added: both sides agree. -/
import Derived.Test.YtipjdipahebnbaaP4
import Derived.Laws.Bits64b
set_option linter.unusedVariables false
set_option linter.unusedSimpArgs false
set_option maxRecDepth 100000
namespace Go.Proofs.Ytipjdipahebnbaa.Z
open Go.Proofs.Ytipjdipahebnbaa.Ev
noncomputable section
/-- Halved while it is even, at most so many times. -/
def redN : Nat → Nat → Nat × Nat
  | 0, u => (u, 0)
  | k + 1, u => if u % 2 = 0 then redN k (u / 2) else (u, k + 1)
abbrev Wd (b : Bool) (u : Nat) : Bool × Int × Int := (b, ((u / 18446744073709551616 : Nat) : Int), ((u % 18446744073709551616 : Nat) : Int))
theorem redN_pos : ∀ (k u : Nat), 0 < u → 0 < (redN k u).1
  | 0, u, h => h
  | k + 1, u, h => by
    unfold redN
    split
    · exact redN_pos k (u / 2) (by omega)
    · exact h
theorem redN_le : ∀ (k u : Nat), (redN k u).1 ≤ u ∧ (redN k u).2 ≤ k
  | 0, u => ⟨Nat.le_refl _, Nat.le_refl _⟩
  | k + 1, u => by
    unfold redN
    split
    · have := redN_le k (u / 2); omega
    · exact ⟨Nat.le_refl _, Nat.le_refl _⟩
theorem redN_odd : ∀ (k u : Nat), (redN k u).2 = 0 ∨ (redN k u).1 % 2 = 1
  | 0, u => .inl rfl
  | k + 1, u => by
    unfold redN
    split
    · exact redN_odd k (u / 2)
    · right; show u % 2 = 1; omega
/-- n / 2^k in its form, if this is a dyadic number. -/
def mkD (b : Bool) (u k : Nat) : (Int × Int) × Bool :=
  if u = 0 then ((0, 0), true) else if 24 < (redN k u).2 ∨ 1099511627776 < (redN k u).1 then ((0, 0), false) else ((sv b (redN k u).1, ((redN k u).2 : Int)), true)
theorem mkD_DV (b : Bool) (u k : Nat) : DV (mkD b u k).1 := by
  unfold mkD DV
  split
  · refine ⟨?_, ?_, ?_, ?_⟩ <;> (dsimp only; omega)
  · split
    · refine ⟨?_, ?_, ?_, ?_⟩ <;> (dsimp only; omega)
    · rename_i h
      simp only [not_or, Nat.not_lt] at h
      dsimp only
      refine ⟨by omega, by omega, ?_, ?_⟩ <;> (unfold sv; cases b <;> dsimp only <;> omega)
theorem half_f (n : Nat) (b : Bool) (u : Nat) (hu : u < 340282366920938463463374607431768211456) : fn_impl_wide__shift.f n (Wd b u) (-1) = some (Wd b (u / 2)) := by
  unfold fn_impl_wide__shift.f
  have e1 : sub .i64 0 (-1) = 1 := by rw [sub_in (by omega) (by omega)]; rfl
  have e2 : sub .i64 64 1 = 63 := by rw [sub_in (by omega) (by omega)]; rfl
  rw [leI_f (x := 0) (y := -1) (by omega), br_f, e1, leI_f (x := 64) (y := 1) (by omega), br_f, ltI_f (x := 1) (y := 0) (by omega), br_f, br_f, e2, ltI_f (x := 63) (y := 0) (by omega), br_f]
  have hs : ∀ m : Nat, shr .u64 (m : Int) 1 = ((m / 2 : Nat) : Int) := fun m => by
    unfold shr
    have : nat 1 = 1 := rfl
    rw [this, show min 1 IntKind.u64.bits = 1 from rfl, Int.fdiv_eq_ediv_of_nonneg _ (by decide)]
    simp
  have hl : ∀ m : Nat, shl .u64 (m : Int) 63 = ((m % 2 * 9223372036854775808 : Nat) : Int) := fun m => by
    unfold shl
    have : nat 63 = 63 := rfl
    rw [this, show min 63 IntKind.u64.bits = 63 from rfl, IntKind.wrap_u64]
    omega
  dsimp only
  rw [hs, hs, hl, bits_or_u64_nat _ _ (by omega) (by omega)]
  have ho : u % 18446744073709551616 / 2 ||| u / 18446744073709551616 % 2 * 9223372036854775808 = u / 2 % 18446744073709551616 := by
    have h1 : u % 18446744073709551616 / 2 < 2 ^ 63 := by omega
    have h2 := Nat.two_pow_add_eq_or_of_lt h1 (u / 18446744073709551616 % 2)
    rw [Nat.or_comm, Nat.mul_comm, show (9223372036854775808 : Nat) = 2 ^ 63 from rfl, ← h2]
    omega
  rw [ho]
  have h3 : u / 18446744073709551616 / 2 = u / 2 / 18446744073709551616 := by omega
  rw [h3]
theorem rem2_f (b : Bool) (u : Nat) : rem (sv b u) 2 = sv b (u % 2) := by
  unfold rem sv
  cases b
  · show Int.tmod ((u : Int)) 2 = _
    rw [Int.tmod_eq_emod_of_nonneg (by omega)]
    rfl
  · show Int.tmod (-(u : Int)) 2 = _
    rw [Int.neg_tmod, Int.tmod_eq_emod_of_nonneg (by omega)]
    rfl
theorem quo2_f (b : Bool) (u : Nat) (hu : u < 9223372036854775808) : quo .i64 (sv b u) 2 = sv b (u / 2) := by
  unfold quo sv
  cases b
  · show IntKind.i64.wrap (Int.tdiv ((u : Int)) 2) = _
    rw [Int.tdiv_eq_ediv_of_nonneg (by omega), wrap_in (by omega) (by omega)]
    rfl
  · show IntKind.i64.wrap (Int.tdiv (-(u : Int)) 2) = _
    rw [Int.neg_tdiv, Int.tdiv_eq_ediv_of_nonneg (by omega), wrap_in (by omega) (by omega)]
    rfl
theorem fit_l {R : Type} (n : Nat) (b : Bool) (z : List (Int × Int)) (K0 : List (Bool × (Int × Int)) → List (Int × Int) → Int → Option R) : ∀ (k : Nat) (d u : Nat), k < d → k < 100 → u < 340282366920938463463374607431768211456 →
    fn_impl_wide__fit.l3 n d [Wd b u] z (k : Int) K0 = K0 [Wd b (redN k u).1] z ((redN k u).2 : Int) := by
  intro k
  induction k with
  | zero =>
    intro d u hd _ hu
    obtain ⟨d, rfl⟩ : ∃ m, d = m + 1 := ⟨d - 1, by omega⟩
    simp only [fn_impl_wide__fit.l3]
    rw [ltI_f (by omega), br_f]
    rfl
  | succ k ih =>
    intro d u hd hk hu
    obtain ⟨d, rfl⟩ : ∃ m, d = m + 1 := ⟨d - 1, by omega⟩
    simp only [fn_impl_wide__fit.l3]
    have r0 : rd (.pair .bool (.pair (.int .u64) (.int .u64))) [Wd b u] 0 = Wd b u := rfl
    rw [ltI_t (by omega), br_t, eqI_f (x := 2) (y := 0) (by decide), br_f, r0]
    have hr : rem ((u % 18446744073709551616 : Nat) : Int) 2 = ((u % 2 : Nat) : Int) := by
      have := rem2_f false (u % 18446744073709551616)
      have h2 : u % 18446744073709551616 % 2 = u % 2 := by omega
      rw [h2] at this
      exact this
    dsimp only
    rw [hr]
    unfold redN
    by_cases h : u % 2 = 0
    · rw [eqI_t (by omega), br_t, if_pos h]
      have := half_f n b u hu
      unfold Wd at this
      rw [this, Option.bind_some]
      have s0 : ∀ y : Bool × Int × Int, setL [Wd b u] 0 y = [y] := fun y => rfl
      have e : sub .i64 ((k + 1 : Nat) : Int) 1 = (k : Int) := by rw [sub_in (by omega) (by omega)]; omega
      unfold Wd at s0
      rw [s0, e]
      exact ih d (u / 2) (by omega) (by omega) (by omega)
    · rw [eqI_f (by omega), br_f, if_neg h]
theorem fit_f (n : Nat) (b : Bool) (u k : Nat) (hk : k < n) (hk' : k < 100) (hu : u < 340282366920938463463374607431768211456) : fn_impl_wide__fit.f n (Wd b u) (k : Int) = some (mkD b u k) := by
  unfold fn_impl_wide__fit.f mkD
  have hz := isZero_f n b u
  unfold Wd
  rw [hz, Option.bind_some]
  by_cases h0 : u = 0
  · rw [eqI_t (by omega), br_t, if_pos h0]
  · rw [eqI_f (by omega), br_f, if_neg h0]
    have hl := fit_l n b [((0 : Int), (0 : Int))] (R := (Int × Int) × Bool)
    unfold Wd at hl
    rw [hl _ k n u hk hk' hu]
    have hp := redN_le k u
    have r0 : ∀ x : Bool × Int × Int, rd (.pair .bool (.pair (.int .u64) (.int .u64))) [x] 0 = x := fun x => rfl
    have s0 : ∀ y : Int × Int, rd (.pair (.int .i64) (.int .i64)) (setL [((0 : Int), (0 : Int))] 0 y) 0 = y := fun y => rfl
    simp only [r0, s0]
    generalize (redN k u).1 = m at *
    generalize (redN k u).2 = j at *
    by_cases h1 : 24 < j
    · rw [ltI_t (by omega), br_t, if_pos (.inl h1)]
    · rw [ltI_f (by omega), br_f]
      by_cases h2 : 1099511627776 < m
      · rw [if_pos (.inr h2)]
        by_cases h3 : 0 < m / 18446744073709551616
        · rw [ltI_t (by omega), br_t]
        · rw [ltI_f (by omega), br_f, ltI_t (by omega), br_t]
      · rw [if_neg (by omega), ltI_f (by omega), br_f, ltI_f (by omega), br_f]
        have e : m % 18446744073709551616 = m := by omega
        rw [e, wrap_in (by omega) (by omega)]
        cases b
        · rfl
        · rw [br_t, sub_in (by omega) (by omega)]
          show some ((0 - (m : Int), (j : Int)), true) = some ((-(m : Int), (j : Int)), true)
          rw [Int.zero_sub]
theorem make_l {R : Type} (n : Nat) (b : Bool) (z : List (Int × Int)) (K0 : List (Int × Int) → Int → Int → Option R) : ∀ (k : Nat) (d u : Nat), k < d → k < 100 → u < 9223372036854775808 →
    fn_spec_dyMake.l3 n d z (sv b u) (k : Int) K0 = K0 z (sv b (redN k u).1) ((redN k u).2 : Int) := by
  intro k
  induction k with
  | zero =>
    intro d u hd _ hu
    obtain ⟨d, rfl⟩ : ∃ m, d = m + 1 := ⟨d - 1, by omega⟩
    simp only [fn_spec_dyMake.l3]
    rw [ltI_f (by omega), br_f]
    rfl
  | succ k ih =>
    intro d u hd hk hu
    obtain ⟨d, rfl⟩ : ∃ m, d = m + 1 := ⟨d - 1, by omega⟩
    simp only [fn_spec_dyMake.l3]
    rw [ltI_t (by omega), br_t, eqI_f (x := 2) (y := 0) (by decide), br_f, rem2_f]
    unfold redN
    by_cases h : u % 2 = 0
    · have e : sub .i64 ((k + 1 : Nat) : Int) 1 = (k : Int) := by rw [sub_in (by omega) (by omega)]; omega
      rw [eqI_t (by rw [h]; cases b <;> rfl), br_t, br_f, if_pos h, quo2_f b u hu, e]
      exact ih d (u / 2) (by omega) (by omega) (by omega)
    · have h1 : u % 2 = 1 := by omega
      rw [eqI_f (by rw [h1]; cases b <;> decide), br_f, if_neg h]
theorem sv_zero {b : Bool} {u : Nat} : sv b u = 0 ↔ u = 0 := by
  unfold sv; cases b <;> dsimp only <;> omega
theorem good_sv (n : Nat) (b : Bool) (m j : Nat) (h : j = 0 ∨ m % 2 = 1) : fn_spec_dyGood.f n (sv b m, (j : Int)) = some (decide (¬ (24 < j ∨ 1099511627776 < m))) := by
  rw [dyGood_f]
  unfold dyB
  congr 1
  by_cases h1 : 24 < j
  · have : inB ((j : Int)) 0 24 = false := by unfold inB; rw [leI_f (x := (j : Int)) (by omega), Bool.and_false]
    rw [this, Bool.false_and, decide_eq_false (by omega)]
  · have e1 : inB ((j : Int)) 0 24 = true := by unfold inB; rw [leI_t (by omega), leI_t (by omega)]; rfl
    rw [e1, Bool.true_and]
    by_cases h2 : 1099511627776 < m
    · have : inB (sv b m) (-1099511627776) 1099511627776 = false := by
        unfold inB sv
        cases b <;> dsimp only
        · rw [leI_f (x := (m : Int)) (by omega), Bool.and_false]
        · rw [leI_f (y := -(m : Int)) (by omega), Bool.false_and]
      rw [this, Bool.false_and, decide_eq_false (by omega)]
    · have e2 : inB (sv b m) (-1099511627776) 1099511627776 = true := by
        unfold inB sv
        cases b <;> dsimp only <;> rw [leI_t (by omega), leI_t (by omega)] <;> rfl
      rw [e2, Bool.true_and, decide_eq_true (by omega)]
      rcases h with h | h
      · rw [eqI_t (by omega)]; rfl
      · rw [rem2_f, h, neI_t (by cases b <;> decide), Bool.or_true]
theorem make_f (n : Nat) (b : Bool) (u k : Nat) (hk : k < n) (hk' : k < 100) (hu : u < 9223372036854775808) : fn_spec_dyMake.f n (sv b u) (k : Int) = some (mkD b u k) := by
  have fin : ∀ (j : Nat), j < n → j < 100 → (u = 0 → j = 0) → fn_spec_dyMake.l3 n n [((0 : Int), (0 : Int))] (sv b u) (j : Int) (fun (z3 : (List (Int × Int))) (z4 : Int) (z5 : Int) => ((fn_spec_dyGood.f n ((z4, z5)))).bind fun (y6 : Bool) => br ((bnot y6)) (some (((rd (.pair (.int .i64) (.int .i64)) (setL z3 0 (((0 : Int), (0 : Int)))) 0), false))) (some (((rd (.pair (.int .i64) (.int .i64)) (setL z3 0 ((z4, z5))) 0), true)))) = some (mkD b u j) := fun j hj hj' h0 => by
    rw [make_l n b _ _ j n u hj hj' hu, good_sv n b _ _ (redN_odd j u), Option.bind_some]
    have s0 : ∀ y : Int × Int, rd (.pair (.int .i64) (.int .i64)) (setL [((0 : Int), (0 : Int))] 0 y) 0 = y := fun y => rfl
    simp only [s0]
    unfold mkD
    by_cases hz : u = 0
    · have := h0 hz
      subst this
      subst hz
      rw [if_pos rfl]
      have hd : decide (¬ (24 < (redN 0 0).2 ∨ 1099511627776 < (redN 0 0).1)) = true := by decide
      rw [hd]
      cases b <;> rfl
    · rw [if_neg hz]
      by_cases h1 : 24 < (redN j u).2 ∨ 1099511627776 < (redN j u).1
      · rw [if_pos h1, decide_eq_false (fun hh => hh h1)]
        rfl
      · rw [if_neg h1, decide_eq_true h1]
        rfl
  unfold fn_spec_dyMake.f
  by_cases hz : u = 0
  · rw [eqI_t (sv_zero.2 hz), br_t]
    have h0 : mkD b u 0 = mkD b u k := by unfold mkD; rw [if_pos hz, if_pos hz]
    by_cases hk0 : 0 < k
    · rw [ltI_t (by omega), br_t]
      exact (fin 0 (by omega) (by omega) (fun _ => rfl)).trans (by rw [h0])
    · have : k = 0 := by omega
      subst this
      rw [ltI_f (by omega), br_f]
      exact fin 0 hk (by omega) (fun _ => rfl)
  · rw [eqI_f (fun h => hz (sv_zero.1 h)), br_f]
    exact fin k hk hk' (fun h => absurd h hz)
theorem mkD_sv {b c : Bool} {u v : Nat} (k : Nat) (h : sv b u = sv c v) : mkD b u k = mkD c v k := by
  have huv : u = v := by unfold sv at h; cases b <;> cases c <;> dsimp only at h <;> omega
  subst huv
  by_cases h0 : u = 0
  · unfold mkD; rw [if_pos h0, if_pos h0]
  · have : b = c := by
      unfold sv at h
      cases b <;> cases c <;> dsimp only at h
      · rfl
      · omega
      · omega
      · rfl
    rw [this]
theorem dyB_iff (b : Bool) (m j : Nat) (h : j = 0 ∨ m % 2 = 1) (h1 : j ≤ 24) (h2 : m ≤ 1099511627776) : dyB (sv b m, (j : Int)) = true := by
  have := good_sv 0 b m j h
  rw [dyGood_f, decide_eq_true (by omega)] at this
  exact Option.some.inj this
theorem mkD_dyB (b : Bool) (u k : Nat) : dyB (mkD b u k).1 = true := by
  unfold mkD
  have z : dyB ((0 : Int), (0 : Int)) = true := dyB_iff false 0 0 (.inl rfl) (by omega) (by omega)
  split
  · exact z
  · split
    · exact z
    · rename_i h
      simp only [not_or, Nat.not_lt] at h
      exact dyB_iff b _ _ (redN_odd k u) h.1 h.2
theorem add_f (n : Nat) (b c : Bool) (u v : Nat) (hu : u < 170141183460469231731687303715884105728) (hv : v < 170141183460469231731687303715884105728) :
    ∃ d w, fn_impl_wide__add.f (n + 3) (Wd b u) (Wd c v) = some (Wd d w) ∧ sv d w = sv b u + sv c v ∧ w < 340282366920938463463374607431768211456 := by
  have inc : ∀ (x y s : Int) (r : Int × Int), 0 ≤ x → 0 ≤ y → 0 ≤ s → s ≤ 1 → y < 18446744073709551616 → inC x y s r = some r := fun x y s r h1 h2 h3 h4 h5 => by
    unfold inC
    rw [leI_t h1, leI_t h2, leI_t h3, leI_t h4, ltI_t h5]
    rfl
  have sumc : ∀ p q : Nat, p + q < 340282366920938463463374607431768211456 → ∀ e : Bool, (((fn_bits_Add64.f (n + 3) ((p % 18446744073709551616 : Nat) : Int) ((q % 18446744073709551616 : Nat) : Int) 0)).bind fun (y0 : (Int × Int)) => ((fn_bits_Add64.f (n + 3) ((p / 18446744073709551616 : Nat) : Int) ((q / 18446744073709551616 : Nat) : Int) y0.2)).bind fun (y1 : (Int × Int)) => some ((e, (y1.1, y0.1)))) = some (Wd e (p + q)) := fun p q hpq e => by
    unfold fn_bits_Add64.f
    rw [inc _ _ _ _ (by omega) (by omega) (by omega) (by omega) (by omega), Option.bind_some]
    dsimp only
    unfold addC addS
    rw [inc _ _ _ _ (by omega) (by omega) (by omega) (by omega) (by omega), Option.bind_some]
    dsimp only
    unfold Wd
    have e1 : ((((p / 18446744073709551616 : Nat) : Int) + ((q / 18446744073709551616 : Nat) : Int) + (((p % 18446744073709551616 : Nat) : Int) + ((q % 18446744073709551616 : Nat) : Int) + 0) / 18446744073709551616) % 18446744073709551616) = (((p + q) / 18446744073709551616 : Nat) : Int) := by omega
    have e2 : (((p % 18446744073709551616 : Nat) : Int) + ((q % 18446744073709551616 : Nat) : Int) + 0) % 18446744073709551616 = (((p + q) % 18446744073709551616 : Nat) : Int) := by omega
    rw [e1, e2]
  have subc : ∀ p q : Nat, q ≤ p → p < 340282366920938463463374607431768211456 → ∀ e : Bool, (((fn_bits_Sub64.f (n + 3) ((p % 18446744073709551616 : Nat) : Int) ((q % 18446744073709551616 : Nat) : Int) 0)).bind fun (y0 : (Int × Int)) => ((fn_bits_Sub64.f (n + 3) ((p / 18446744073709551616 : Nat) : Int) ((q / 18446744073709551616 : Nat) : Int) y0.2)).bind fun (y1 : (Int × Int)) => some ((e, (y1.1, y0.1)))) = some (Wd e (p - q)) := fun p q hpq hp e => by
    unfold fn_bits_Sub64.f
    rw [inc _ _ _ _ (by omega) (by omega) (by omega) (by omega) (by omega), Option.bind_some]
    dsimp only
    have hb : 0 ≤ subB ((p % 18446744073709551616 : Nat) : Int) ((q % 18446744073709551616 : Nat) : Int) 0 ∧ subB ((p % 18446744073709551616 : Nat) : Int) ((q % 18446744073709551616 : Nat) : Int) 0 ≤ 1 := by unfold subB; split <;> omega
    rw [inc _ _ _ _ (by omega) (by omega) hb.1 hb.2 (by omega), Option.bind_some]
    dsimp only
    unfold Wd
    have e1 : subS ((p / 18446744073709551616 : Nat) : Int) ((q / 18446744073709551616 : Nat) : Int) (subB ((p % 18446744073709551616 : Nat) : Int) ((q % 18446744073709551616 : Nat) : Int) 0) = (((p - q) / 18446744073709551616 : Nat) : Int) := by
      unfold subS subB
      split <;> omega
    have e2 : subS ((p % 18446744073709551616 : Nat) : Int) ((q % 18446744073709551616 : Nat) : Int) 0 = (((p - q) % 18446744073709551616 : Nat) : Int) := by
      unfold subS; omega
    rw [e1, e2]
  unfold fn_impl_wide__add.f
  by_cases hbc : b = c
  · subst hbc
    refine ⟨b, u + v, ?_, ?_, by omega⟩
    · rw [boolEq_self, br_t]
      exact sumc u v (by omega) b
    · unfold sv; cases b <;> dsimp only <;> omega
  · have hne : boolEq b c = false := by cases b <;> cases c <;> first | rfl | exact absurd rfl hbc
    have hs := sizes_f n b c u v
    have hse : fn_impl_compareSizes.f (n + 3) (Wd b u) (Wd c v) = some (cm (u : Int) (v : Int)) := hs
    have hb : (Wd b u).1 = b := rfl
    have hc : (Wd c v).1 = c := rfl
    rw [hb, hc, hne, br_f, hse, Option.bind_some]
    by_cases huv : u < v
    · have : cm (u : Int) v = -1 := by unfold cm; rw [if_pos (by omega)]
      rw [this, ltI_t (by omega), br_t]
      refine ⟨c, v - u, subc v u (by omega) (by omega) c, ?_, by omega⟩
      unfold sv; cases b <;> cases c <;> dsimp only <;> first | omega | exact absurd rfl hbc
    · have : ¬ cm (u : Int) v < 0 := by unfold cm; rw [if_neg (by omega)]; split <;> omega
      rw [ltI_f this, br_f]
      refine ⟨b, u - v, subc u v (by omega) (by omega) b, ?_, by omega⟩
      unfold sv; cases b <;> cases c <;> dsimp only <;> first | omega | exact absurd rfl hbc
def kMax (a b : Int × Int) : Nat := (mx a.2 b.2).toNat
/-- The sum, in units of 1 / 2^k. -/
def sumZ (a b : Int × Int) : Int := a.1 * ((2 ^ (kMax a b - a.2.toNat) : Nat) : Int) + b.1 * ((2 ^ (kMax a b - b.2.toNat) : Nat) : Int)
def sumD (a b : Int × Int) (e : Nat) : (Int × Int) × Bool := mkD (ltI (sumZ a b) 0) (sumZ a b).natAbs (kMax a b + e)
theorem sv_abs (x : Int) : sv (ltI x 0) x.natAbs = x := by
  have := sv_val x 1
  simpa using this
theorem kMax_spec {a b : Int × Int} (ha : DV a) (hb : DV b) : ∃ i j : Nat, a.2 = (i : Int) ∧ b.2 = (j : Int) ∧ mx a.2 b.2 = (kMax a b : Int) ∧ i ≤ kMax a b ∧ j ≤ kMax a b ∧ kMax a b ≤ 24 ∧ (kMax a b = i ∨ kMax a b = j) := by
  obtain ⟨a1, a2, _, _⟩ := ha
  obtain ⟨b1, b2, _, _⟩ := hb
  refine ⟨a.2.toNat, b.2.toNat, by omega, by omega, ?_⟩
  unfold kMax mx
  split <;> (refine ⟨?_, ?_, ?_, ?_, ?_⟩ <;> omega)
theorem wsum_f (n : Nat) (a b : Int × Int) (ha : DV a) (hb : DV b) (e : Nat) (he : e ≤ 1) (hn : 100 < n) {K : Int} (hK : K = ((kMax a b + e : Nat) : Int)) :
    (((fn_impl_wideOf.f (n + 3) a.1)).bind fun (y0 : (Bool × (Int × Int))) => ((fn_impl_wide__shift.f (n + 3) y0 ((sub .i64 ((mx a.2 b.2)) a.2)))).bind fun (y1 : (Bool × (Int × Int))) => ((fn_impl_wideOf.f (n + 3) b.1)).bind fun (y2 : (Bool × (Int × Int))) => ((fn_impl_wide__shift.f (n + 3) y2 ((sub .i64 ((mx a.2 b.2)) b.2)))).bind fun (y3 : (Bool × (Int × Int))) => ((fn_impl_wide__add.f (n + 3) y1 y3)).bind fun (y4 : (Bool × (Int × Int))) => ((fn_impl_wide__fit.f (n + 3) y4 K)).bind fun (y5 : ((Int × Int) × Bool)) => some y5) = some (sumD a b e) := by
  obtain ⟨i, j, hi, hj, hk, hik, hjk, hk24, _⟩ := kMax_spec ha hb
  obtain ⟨a1, a2, a3, a4⟩ := ha
  obtain ⟨b1, b2, b3, b4⟩ := hb
  subst hK
  have ni : a.2.toNat = i := by omega
  have nj : b.2.toNat = j := by omega
  unfold sumD
  have hz : sumZ a b = a.1 * ((2 ^ (kMax a b - i) : Nat) : Int) + b.1 * ((2 ^ (kMax a b - j) : Nat) : Int) := by unfold sumZ; rw [ni, nj]
  rw [hz]
  generalize kMax a b = k at *
  unfold fn_impl_wideOf.f
  rw [hk, size_f _ a.1 a3 a4, size_f _ b.1 b3 b4, Option.bind_some, Option.bind_some, Option.bind_some]
  have e1 : sub .i64 (k : Int) a.2 = ((k - i : Nat) : Int) := by rw [hi, sub_in (by omega) (by omega)]; omega
  have e2 : sub .i64 (k : Int) b.2 = ((k - j : Nat) : Int) := by rw [hj, sub_in (by omega) (by omega)]; omega
  rw [e1, e2, shiftW_f _ _ _ _ (by omega) (by omega), Option.bind_some, Option.bind_some, shiftW_f _ _ _ _ (by omega) (by omega), Option.bind_some]
  have p1 : a.1.natAbs * 2 ^ (k - i) < 170141183460469231731687303715884105728 := by
    have h1 : (2 : Nat) ^ (k - i) ≤ 2 ^ 24 := two_le (by omega)
    have := Nat.mul_le_mul (show a.1.natAbs ≤ 1099511627776 by omega) h1
    omega
  have p2 : b.1.natAbs * 2 ^ (k - j) < 170141183460469231731687303715884105728 := by
    have h1 : (2 : Nat) ^ (k - j) ≤ 2 ^ 24 := two_le (by omega)
    have := Nat.mul_le_mul (show b.1.natAbs ≤ 1099511627776 by omega) h1
    omega
  obtain ⟨d, w, h1, h2, h3⟩ := add_f n (ltI a.1 0) (ltI b.1 0) _ _ p1 p2
  have h1' := h1
  unfold Wd at h1'
  rw [h1', Option.bind_some]
  have hf := fit_f (n + 3) d w (k + e) (by omega) (by omega) h3
  unfold Wd at hf
  rw [hf, Option.bind_some, mkD_sv (k + e) (h2.trans ?_)]
  rw [sv_val, sv_val, sv_abs]
theorem middleOf_f (n : Nat) (a b : Int × Int) (ha : DV a) (hb : DV b) (hn : 100 < n) : fn_impl_middleOf.f (n + 3) a b = some (sumD a b 1) := by
  obtain ⟨_, _, _, _, hk, _, _, h24, _⟩ := kMax_spec ha hb
  unfold fn_impl_middleOf.f
  exact wsum_f n a b ha hb 1 (by omega) hn (K := add .i64 (mx a.2 b.2) 1) (by rw [hk, add_one _ (by omega)])
theorem at3_l {R : Type} (n : Nat) (b : Bool) (i : Int) (kk : Nat) (K0 : Int → Bool → Option R) (K1 : List (Int × Int) → Option R) : ∀ (d fuel j u : Nat), j + d = kk → kk ≤ 24 → d < fuel → u ≤ 2305843009213693952 →
    fn_spec_dyAt.l4 n fuel [(sv b u, i)] (kk : Int) (j : Int) K0 K1 = if d = 0 ∨ u * 2 ^ (d - 1) ≤ 1152921504606846976 then K1 [(sv b (u * 2 ^ d), i)] else K0 0 false := by
  intro d
  induction d with
  | zero =>
    intro fuel j u hj hk hf hu
    obtain ⟨fuel, rfl⟩ : ∃ m, fuel = m + 1 := ⟨fuel - 1, by omega⟩
    simp only [fn_spec_dyAt.l4]
    rw [ltI_f (by omega), br_f, if_pos (by simp)]
    simp
  | succ d ih =>
    intro fuel j u hj hk hf hu
    obtain ⟨fuel, rfl⟩ : ∃ m, fuel = m + 1 := ⟨fuel - 1, by omega⟩
    have r0 : ∀ x : Int × Int, rd (.pair (.int .i64) (.int .i64)) [x] 0 = x := fun x => rfl
    have s0 : ∀ x y : Int × Int, setL [x] 0 y = [y] := fun x y => rfl
    simp only [fn_spec_dyAt.l4]
    rw [ltI_t (by omega), br_t]
    simp only [r0, s0]
    have hp60 : fn_spec_dyPower.f n (60 : Int) = some 1152921504606846976 := power_f n 60 (by omega)
    rw [hp60, Option.bind_some, Option.bind_some, l1In_f, Option.bind_some, sub_in (by omega) (by omega)]
    have hin : inB (sv b u) (0 - 1152921504606846976) 1152921504606846976 = decide (u ≤ 1152921504606846976) := by
      unfold inB sv
      by_cases h : u ≤ 1152921504606846976
      · rw [decide_eq_true h]
        cases b <;> dsimp only <;> rw [leI_t (by omega), leI_t (by omega)] <;> rfl
      · rw [decide_eq_false h]
        cases b <;> dsimp only
        · rw [leI_f (x := (u : Int)) (by omega), Bool.and_false]
        · rw [leI_f (y := -(u : Int)) (by omega), Bool.false_and]
    rw [hin]
    by_cases h : u ≤ 1152921504606846976
    · rw [decide_eq_true h, bnot_t, br_f]
      have hm : mul .i64 (sv b u) 2 = sv b (u * 2) := by
        unfold sv
        cases b <;> dsimp only <;> rw [mul_in (by omega) (by omega)] <;> omega
      rw [hm, add_one j (by omega), ih fuel (j + 1) (u * 2) (by omega) hk (by omega) (by omega)]
      have e1 : u * 2 * 2 ^ d = u * 2 ^ (d + 1) := by rw [Nat.pow_succ, Nat.mul_assoc, Nat.mul_comm 2]
      rw [e1]
      have hiff : (d = 0 ∨ u * 2 * 2 ^ (d - 1) ≤ 1152921504606846976) ↔ (d + 1 = 0 ∨ u * 2 ^ (d + 1 - 1) ≤ 1152921504606846976) := by
        cases d with
        | zero => simp; exact h
        | succ d =>
          have : u * 2 * 2 ^ (d + 1 - 1) = u * 2 ^ (d + 1 + 1 - 1) := by
            show u * 2 * 2 ^ d = u * 2 ^ (d + 1)
            rw [Nat.pow_succ, Nat.mul_assoc, Nat.mul_comm 2]
          rw [this]
          simp
      simp only [hiff]
    · rw [decide_eq_false h, bnot_f, br_t, if_neg]
      intro hh
      rcases hh with hh | hh
      · omega
      · have hp : 1 ≤ 2 ^ (d + 1 - 1) := Nat.pos_of_ne_zero (by simp)
        have := Nat.mul_le_mul_left u hp
        omega
/-- A number laid at more places, as the other side does it. -/
theorem at3_f (n : Nat) (b : Bool) (u i kk : Nat) (hik : i ≤ kk) (hk : kk ≤ 24) (hu : u ≤ 1099511627776) (hn : 100 < n) :
    fn_spec_dyAt.f n (sv b u, (i : Int)) (kk : Int) = some (if kk = i ∨ u * 2 ^ (kk - i - 1) ≤ 1152921504606846976 then (sv b (u * 2 ^ (kk - i)), true) else (0, false)) := by
  unfold fn_spec_dyAt.f
  by_cases hz : u = 0
  · subst hz
    rw [eqI_t (sv_zero.2 rfl), br_t, if_pos (.inr (by simp))]
    have : sv b (0 * 2 ^ (kk - i)) = 0 := sv_zero.2 (by simp)
    rw [this]
  · rw [eqI_f (fun h => hz (sv_zero.1 h)), br_f]
    refine (at3_l n b (i : Int) kk _ _ (kk - i) n i u (by omega) hk (by omega) (by omega)).trans ?_
    have e : (kk - i = 0) ↔ (kk = i) := by omega
    simp only [e]
    split
    · rfl
    · rfl
theorem redN_odd_id (k u : Nat) (h : u % 2 = 1) : redN k u = (u, k) := by
  cases k with
  | zero => rfl
  | succ k => unfold redN; rw [if_neg (by omega)]
theorem dyB_odd {a : Int × Int} (h : dyB a = true) : a.2 = 0 ∨ a.1.natAbs % 2 = 1 := by
  unfold dyB at h
  simp only [Bool.and_eq_true, Bool.or_eq_true] at h
  rcases h.2.2 with h | h
  · exact .inl (eqI_of h)
  · right
    have h2 : ¬ rem a.1 2 = 0 := fun e => by rw [neI_f e] at h; cases h
    have h3 := rem2_f (ltI a.1 0) a.1.natAbs
    rw [sv_abs] at h3
    have h4 : ¬ a.1.natAbs % 2 = 0 := fun e => h2 (by rw [h3, e]; cases ltI a.1 0 <;> rfl)
    omega
/-- The sum of numbers that are laid at the same places: half of the two ways to fail. -/
theorem far_fail (a b : Int × Int) (ha : dyB a = true) (hb : dyB b = true) (e : Nat) (h : ¬ (kMax a b = a.2.toNat ∨ a.1.natAbs * 2 ^ (kMax a b - a.2.toNat - 1) ≤ 1152921504606846976)) : sumD a b e = ((0, 0), false) ∧ sumD b a e = ((0, 0), false) := by
  have ha' := dyB_DV ha
  have hb' := dyB_DV hb
  obtain ⟨i, j, hi, hj, hk, hik, hjk, hk24, hor⟩ := kMax_spec ha' hb'
  have ni : a.2.toNat = i := by omega
  have nj : b.2.toNat = j := by omega
  have hcomm : sumD b a e = sumD a b e := by
    have h1 : kMax b a = kMax a b := by unfold kMax mx; (repeat' split) <;> omega
    have h2 : sumZ b a = sumZ a b := by unfold sumZ; rw [h1, Int.add_comm]
    unfold sumD
    rw [h1, h2]
  rw [hcomm, and_self]
  simp only [not_or, Nat.not_le] at h
  obtain ⟨h1, h2⟩ := h
  rw [ni] at h1 h2
  have hjk : kMax a b = j := by rcases hor with h | h <;> omega
  have hodd : b.1.natAbs % 2 = 1 := by
    rcases dyB_odd hb with h | h
    · omega
    · exact h
  unfold sumD
  have hz : sumZ a b = a.1 * ((2 ^ (kMax a b - i) : Nat) : Int) + b.1 := by unfold sumZ; rw [ni, nj, hjk]; simp
  obtain ⟨_, _, b3, b4⟩ := hb'
  generalize kMax a b = k at *
  obtain ⟨d, hd⟩ : ∃ d, k - i = d + 1 := ⟨k - i - 1, by omega⟩
  have e1 : k - i - 1 = d := by omega
  rw [e1] at h2
  rw [hd, Nat.pow_succ] at hz
  have hbig : 2305843009213693952 < (a.1 * ((2 ^ d * 2 : Nat) : Int)).natAbs := by
    rw [Int.natAbs_mul, Int.natAbs_natCast, ← Nat.mul_assoc]; omega
  have hev : (a.1 * ((2 ^ d * 2 : Nat) : Int)) % 2 = 0 := by
    rw [Int.natCast_mul, ← Int.mul_assoc]
    exact Int.mul_emod_left _ _
  generalize a.1 * ((2 ^ d * 2 : Nat) : Int) = y at *
  have hodd2 : (sumZ a b).natAbs % 2 = 1 := by rw [hz]; omega
  have hbig2 : 1099511627776 < (sumZ a b).natAbs := by rw [hz]; omega
  unfold mkD
  rw [if_neg (by omega), redN_odd_id _ _ hodd2, if_pos (.inr hbig2)]
theorem most3_f (n : Nat) (x y : Int) : fn_spec_l1Most.f n x y = some (mx x y) := by
  unfold fn_spec_l1Most.f mx
  by_cases h : y < x
  · rw [ltI_t h, br_t]; split <;> first | rfl | (congr 1; omega)
  · rw [ltI_f h, br_f]; split <;> first | rfl | (congr 1; omega)
theorem ssum_f (n : Nat) (a b : Int × Int) (ha : dyB a = true) (hb : dyB b = true) (e : Nat) (he : e ≤ 1) (hn : 100 < n) (g : Int → Int) (hg : g (kMax a b : Int) = ((kMax a b + e : Nat) : Int)) :
    ((fn_spec_l1Most.f n a.2 b.2).bind fun (y0 : Int) => ((fn_spec_dyAt.f n a y0)).bind fun (y1 : (Int × Bool)) => ((fn_spec_dyAt.f n b y0)).bind fun (y2 : (Int × Bool)) => br ((bnot y1.2)) (some ((((0 : Int), (0 : Int)), false))) (br ((bnot y2.2)) (some ((((0 : Int), (0 : Int)), false))) (((fn_spec_dyMake.f n ((add .i64 y1.1 y2.1)) (g y0))).bind fun (y3 : ((Int × Int) × Bool)) => some y3))) = some (sumD a b e) := by
  have ha' := dyB_DV ha
  have hb' := dyB_DV hb
  have f1 := far_fail a b ha hb e
  have f2 := far_fail b a hb ha e
  have hkc : kMax b a = kMax a b := by unfold kMax mx; (repeat' split) <;> omega
  rw [hkc] at f2
  obtain ⟨i, j, hi, hj, hk, hik, hjk, hk24, _⟩ := kMax_spec ha' hb'
  obtain ⟨a1, a2, a3, a4⟩ := ha'
  obtain ⟨b1, b2, b3, b4⟩ := hb'
  have ni : a.2.toNat = i := by omega
  have nj : b.2.toNat = j := by omega
  rw [ni] at f1
  rw [nj] at f2
  have hz : sumZ a b = a.1 * ((2 ^ (kMax a b - i) : Nat) : Int) + b.1 * ((2 ^ (kMax a b - j) : Nat) : Int) := by unfold sumZ; rw [ni, nj]
  have ea : a = (sv (ltI a.1 0) a.1.natAbs, (i : Int)) := by rw [sv_abs, ← hi]
  have eb : b = (sv (ltI b.1 0) b.1.natAbs, (j : Int)) := by rw [sv_abs, ← hj]
  rw [most3_f, Option.bind_some, hk]
  have A1 : fn_spec_dyAt.f n a (kMax a b : Int) = some (if kMax a b = i ∨ a.1.natAbs * 2 ^ (kMax a b - i - 1) ≤ 1152921504606846976 then (sv (ltI a.1 0) (a.1.natAbs * 2 ^ (kMax a b - i)), true) else (0, false)) := by
    have := at3_f n (ltI a.1 0) a.1.natAbs i (kMax a b) hik hk24 (by omega) hn
    rw [← ea] at this
    exact this
  have B1 : fn_spec_dyAt.f n b (kMax a b : Int) = some (if kMax a b = j ∨ b.1.natAbs * 2 ^ (kMax a b - j - 1) ≤ 1152921504606846976 then (sv (ltI b.1 0) (b.1.natAbs * 2 ^ (kMax a b - j)), true) else (0, false)) := by
    have := at3_f n (ltI b.1 0) b.1.natAbs j (kMax a b) hjk hk24 (by omega) hn
    rw [← eb] at this
    exact this
  rw [A1, Option.bind_some, B1, Option.bind_some]
  by_cases c1 : kMax a b = i ∨ a.1.natAbs * 2 ^ (kMax a b - i - 1) ≤ 1152921504606846976
  · rw [if_pos c1]
    dsimp only
    rw [bnot_t, br_f]
    by_cases c2 : kMax a b = j ∨ b.1.natAbs * 2 ^ (kMax a b - j - 1) ≤ 1152921504606846976
    · rw [if_pos c2]
      dsimp only
      rw [bnot_t, br_f, sv_val, sv_val, hg]
      have bnd : ∀ (x : Int) (l : Nat), l ≤ kMax a b → x.natAbs ≤ 1099511627776 → (kMax a b = l ∨ x.natAbs * 2 ^ (kMax a b - l - 1) ≤ 1152921504606846976) → (x * ((2 ^ (kMax a b - l) : Nat) : Int)).natAbs ≤ 2305843009213693952 := fun x l hl hx hc => by
        rw [Int.natAbs_mul, Int.natAbs_natCast]
        rcases hc with hc | hc
        · rw [hc, Nat.sub_self]; simp; omega
        · by_cases hz : kMax a b = l
          · rw [hz, Nat.sub_self]; simp; omega
          · obtain ⟨d, hd⟩ : ∃ d, kMax a b - l = d + 1 := ⟨kMax a b - l - 1, by omega⟩
            rw [hd] at hc ⊢
            rw [Nat.pow_succ, ← Nat.mul_assoc]
            simp at hc
            omega
      have q1 := bnd a.1 i hik (by omega) c1
      have q2 := bnd b.1 j hjk (by omega) c2
      rw [add_in (by omega) (by omega), ← hz]
      have q3 : (sumZ a b).natAbs ≤ 4611686018427387904 := by rw [hz]; omega
      have hm := make_f n (ltI (sumZ a b) 0) (sumZ a b).natAbs (kMax a b + e) (by omega) (by omega) (by omega)
      rw [sv_abs] at hm
      rw [hm]
      rfl
    · rw [if_neg c2]
      dsimp only
      rw [bnot_f, br_t, (f2 c2).2]
  · rw [if_neg c1]
    dsimp only
    rw [bnot_f, br_t, (f1 c1).1]
theorem dyHalf_f (n : Nat) (a b : Int × Int) (ha : dyB a = true) (hb : dyB b = true) (hn : 100 < n) : fn_spec_dyHalf.f n a b = some (sumD a b 1) := by
  obtain ⟨_, _, _, _, hk, _, _, h24, _⟩ := kMax_spec (dyB_DV ha) (dyB_DV hb)
  unfold fn_spec_dyHalf.f
  exact ssum_f n a b ha hb 1 (by omega) hn (fun x => add .i64 x 1) (add_one _ (by omega))
theorem minus_dyB {a : Int × Int} (h : dyB a = true) : sub .i64 0 a.1 = -a.1 ∧ dyB (-a.1, a.2) = true := by
  have hd := dyB_DV h
  obtain ⟨h1, h2, h3, h4⟩ := hd
  refine ⟨by rw [sub_in (by omega) (by omega)]; omega, ?_⟩
  have ho := dyB_odd h
  have e : (-a.1, a.2) = (sv (ltI (-a.1) 0) a.1.natAbs, (a.2.toNat : Int)) := by
    have h5 := sv_abs (-a.1)
    rw [Int.natAbs_neg] at h5
    rw [h5]
    exact Prod.ext rfl (by dsimp only; omega)
  rw [e]
  exact dyB_iff _ _ _ (by omega) (by omega) (by omega)
theorem sumD_dyB (a b : Int × Int) (e : Nat) : dyB (sumD a b e).1 = true := mkD_dyB _ _ _
end
end Go.Proofs.Ytipjdipahebnbaa.Z

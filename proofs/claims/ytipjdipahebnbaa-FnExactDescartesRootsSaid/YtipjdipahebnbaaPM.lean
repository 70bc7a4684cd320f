/- Long numbers: products. -/
import Derived.Test.YtipjdipahebnbaaPL
set_option linter.unusedVariables false
set_option linter.unusedSimpArgs false
set_option maxRecDepth 100000
namespace Go.Proofs.Ytipjdipahebnbaa.Z
open Go.Proofs.Ytipjdipahebnbaa.Ev
noncomputable section
/-- The value of a long number. -/
def lv (a : Bool × List Int) : Int := match a.1 with
  | true => - dv a.2
  | false => dv a.2
theorem times_f (n : Nat) (a : Bool × List Int) (s : Int) (hl : a.2.length ≤ 100000) (hd : DOK a.2) (hs : -4294967296 < s) (hs' : s < 4294967296) (hn : a.2.length < n) :
    ∃ r, fn_impl_long__times.f n a s = some r ∧ DOK r.2 ∧ r.2.length = a.2.length + 1 ∧ lv r = lv a * s := by
  obtain ⟨out, c', q1, q2, q3, q4, q5, q6⟩ := times_l n [] false (bnot (boolEq a.1 (ltI s 0))) a.2 s (fun (z10 : List Int) (z11 : Bool) (z12 : List Int) (z13 : Bool) (z14 : Int) => br (okApp (nadd (List.length z12) (List.length ((IntKind.wrap .u32 z14) :: ([] : List Int)))) 4) (some (z13, appL z12 ((IntKind.wrap .u32 z14) :: ([] : List Int)))) none) (by omega) hd hs hs' a.2.length n 0 [] 0 (by omega) (by omega) hn (by omega) (by omega) DOK.nil rfl
  refine ⟨(bnot (boolEq a.1 (ltI s 0)), out ++ [c']), ?_, q1.snoc q3 q4, by simp [q2], ?_⟩
  · unfold fn_impl_long__times.f
    rw [show ((0 : Int)) = ((0 : Nat) : Int) from rfl] at *
    rw [q5, okApp_t (by simp [nadd, q2]; omega), br_t, wrap32_mod, Int.emod_eq_of_lt q3 q4]
    rfl
  · have h : dv (out ++ [c']) = dv a.2 * (s.natAbs : Int) := by
      rw [dv_snoc, q2, q6]; simp [dv]
    unfold lv
    dsimp only
    rw [h]
    by_cases hs0 : s < 0
    · rw [ltI_t hs0]
      cases h1 : a.1 <;> simp only [bnot, boolEq] <;> rw [show (s.natAbs : Int) = -s from by omega] <;> simp [Int.mul_neg, Int.neg_mul]
    · rw [ltI_f hs0]
      cases h1 : a.1 <;> simp only [bnot, boolEq] <;> rw [show (s.natAbs : Int) = s from by omega] <;> simp [Int.neg_mul]
theorem dv_app (l m : List Int) : dv (l ++ m) = dv l + 4294967296 ^ l.length * dv m := by
  induction l with
  | nil => simp [dv]
  | cons x r ih =>
    simp only [List.cons_append, dv, ih, List.length_cons, Int.pow_succ]
    rw [Int.mul_add, ← Int.mul_assoc, Int.mul_comm 4294967296 (4294967296 ^ r.length), Int.add_assoc]
theorem dv_rep (q : Nat) : dv (List.replicate q 0) = 0 := by
  induction q with
  | zero => rfl
  | succ q ih => rw [List.replicate_succ]; simp [dv, ih]
theorem longOf_f (n : Nat) (x : Int) (k : Nat) (h0 : -4611686018427387904 < x) (h1 : x < 4611686018427387904) (hk : k ≤ 100000) :
    ∃ ds, fn_impl_longOf.f n x (k : Int) = some (ltI x 0, ds) ∧ DOK ds ∧ ds.length = k / 32 + 3 ∧ dv ds = (x.natAbs : Int) * 2 ^ k := by
  have er : rem (k : Int) 32 = ((k % 32 : Nat) : Int) := by unfold rem; exact (Int.ofNat_tmod k 32).symm
  have eq : quo .i64 (k : Int) 32 = ((k / 32 : Nat) : Int) := by
    unfold quo
    rw [show (k : Int).tdiv 32 = ((k / 32 : Nat) : Int) from (Int.ofNat_tdiv k 32).symm]
    exact wrap_in (by omega) (by omega)
  obtain ⟨u, hu⟩ : ∃ u, u = x.natAbs := ⟨_, rfl⟩
  have hu2 : u < 4611686018427387904 := by omega
  obtain ⟨r, hr⟩ : ∃ r, r = k % 32 := ⟨_, rfl⟩
  have hr2 : r < 32 := by omega
  have hp : 2 ^ r ≤ 2 ^ 31 := Nat.pow_le_pow_right (by omega) (by omega)
  have hpos : 0 < 2 ^ r := Nat.two_pow_pos r
  have hlow : shl .u64 (u : Int) (r : Int) = ((u * 2 ^ r % 18446744073709551616 : Nat) : Int) := by
    unfold shl
    rw [nat_cast, Nat.min_eq_left (by show r ≤ 64; omega), IntKind.wrap_u64, Int.natCast_emod, Int.natCast_mul, Int.natCast_pow]
    rfl
  have hhigh : 0 < r → shr .u64 (u : Int) (sub .i64 64 (r : Int)) = ((u * 2 ^ r / 18446744073709551616 : Nat) : Int) := fun hr0 => by
    rw [sub_in (by omega) (by omega), show (64 : Int) - (r : Int) = ((64 - r : Nat) : Int) from by omega]
    unfold shr
    rw [nat_cast, Nat.min_eq_left (by show 64 - r ≤ 64; omega), Int.fdiv_eq_ediv_of_nonneg _ (Int.pow_nonneg (by decide))]
    have : (18446744073709551616 : Nat) = 2 ^ (64 - r) * 2 ^ r := by rw [← Nat.pow_add, show 64 - r + r = 64 from by omega]
    rw [this, Nat.mul_div_mul_right _ _ hpos, Int.natCast_ediv, Int.natCast_pow]
    rfl
  obtain ⟨v, hv⟩ : ∃ v, v = u * 2 ^ r := ⟨_, rfl⟩
  have hv2 : v < 79228162514264337593543950336 := by
    rw [hv]
    calc u * 2 ^ r ≤ u * 2 ^ 31 := Nat.mul_le_mul_left _ hp
      _ < 79228162514264337593543950336 := by omega
  rw [← hv] at hlow hhigh
  have fin : ∀ hi : Int, hi = ((v / 18446744073709551616 : Nat) : Int) → DOK (repL (k / 32) (0 : Int) ++ [IntKind.wrap .u32 ((v % 18446744073709551616 : Nat) : Int), IntKind.wrap .u32 (shr .u64 ((v % 18446744073709551616 : Nat) : Int) 32), IntKind.wrap .u32 hi]) ∧
      (repL (k / 32) (0 : Int) ++ [IntKind.wrap .u32 ((v % 18446744073709551616 : Nat) : Int), IntKind.wrap .u32 (shr .u64 ((v % 18446744073709551616 : Nat) : Int) 32), IntKind.wrap .u32 hi]).length = k / 32 + 3 ∧
      dv (repL (k / 32) (0 : Int) ++ [IntKind.wrap .u32 ((v % 18446744073709551616 : Nat) : Int), IntKind.wrap .u32 (shr .u64 ((v % 18446744073709551616 : Nat) : Int) 32), IntKind.wrap .u32 hi]) = (u : Int) * 2 ^ k := fun hi hh => by
    subst hh
    rw [wrap32_mod, shr32, wrap32_mod, wrap32_mod]
    refine ⟨fun d hd => ?_, by simp [repL], ?_⟩
    · rcases List.mem_append.1 hd with hd | hd
      · have := (List.mem_replicate.1 (show d ∈ List.replicate (k / 32) (0 : Int) from hd)).2
        omega
      · simp only [List.mem_cons, List.not_mem_nil, or_false] at hd
        rcases hd with rfl | rfl | rfl <;> omega
    · rw [dv_app, show dv (repL (k / 32) (0 : Int)) = 0 from dv_rep _, show (repL (k / 32) (0 : Int)).length = k / 32 from by simp [repL]]
      have e1 : dv [((v % 18446744073709551616 : Nat) : Int) % 4294967296, ((v % 18446744073709551616 : Nat) : Int) / 4294967296 % 4294967296, ((v / 18446744073709551616 : Nat) : Int) % 4294967296] = (v : Int) := by
        simp only [dv]; omega
      rw [e1, Int.zero_add, hv]
      have e2 : (4294967296 : Int) ^ (k / 32) = 2 ^ (32 * (k / 32)) := by
        rw [Int.pow_mul]; rfl
      rw [e2, Int.natCast_mul, Int.natCast_pow, show ((2 : Nat) : Int) = 2 from rfl]
      have e3 : (2 : Int) ^ k = 2 ^ r * 2 ^ (32 * (k / 32)) := by
        rw [← Int.pow_add, hr, show k % 32 + 32 * (k / 32) = k from Nat.mod_add_div k 32]
      rw [e3, Int.mul_comm (2 ^ (32 * (k / 32))), Int.mul_assoc]
  rw [← hu]
  have hmake : okMake ((k / 32 : Nat) : Int) ((k / 32 : Nat) : Int) 4 = true := by
    unfold okMake; exact decide_eq_true (by omega)
  have happ : ∀ a b c : Int, okApp (nadd (List.length (repL (k / 32) (0 : Int))) (List.length (a :: b :: c :: ([] : List Int)))) 4 = true := fun a b c => okApp_t (by simp [nadd, repL]; omega)
  unfold fn_impl_longOf.f
  rw [sizeL_f n x h0 h1, ← hu, er, eq, ← hr]
  simp only [Option.bind]
  rw [eqI_f (x := 32) (y := 0) (by omega), ltI_f (x := (r : Int)) (y := 0) (by omega), hmake, ltI_f (x := 32) (y := 0) (by omega), nat_cast, hlow]
  by_cases hr0 : 0 < r
  · rw [ltI_t (x := 0) (y := (r : Int)) (by omega), hhigh hr0, ltI_f (x := sub .i64 64 (r : Int)) (y := 0) (by rw [sub_in (by omega) (by omega)]; omega)]
    simp only [br_t, br_f, happ]
    exact ⟨_, rfl, fin _ rfl⟩
  · rw [ltI_f (x := 0) (y := (r : Int)) (by omega)]
    simp only [br_t, br_f, happ]
    have hr1 : r = 0 := by omega
    refine ⟨_, rfl, fin 0 ?_⟩
    rw [hv, hr1]
    omega
end
end Go.Proofs.Ytipjdipahebnbaa.Z

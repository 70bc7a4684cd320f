/- Long numbers: their values. -/
import Derived.Test.YtipjdipahebnbaaG1
set_option linter.unusedVariables false
set_option linter.unusedSimpArgs false
set_option maxRecDepth 100000
namespace Go.Proofs.Ytipjdipahebnbaa.Z
open Go.Proofs.Ytipjdipahebnbaa.Ev
noncomputable section
/-- The value of digits to the base 2^32, the lowest one first. -/
def dv : List Int → Int
  | [] => 0
  | d :: r => d + 4294967296 * dv r
def DOK (l : List Int) : Prop := ∀ d ∈ l, 0 ≤ d ∧ d < 4294967296
theorem DOK.nil : DOK [] := fun _ h => by cases h
theorem DOK.snoc {l : List Int} (h : DOK l) {d : Int} (h0 : 0 ≤ d) (h1 : d < 4294967296) : DOK (l ++ [d]) := fun x hx => by
  rcases List.mem_append.1 hx with hx | hx
  · exact h x hx
  · obtain rfl : x = d := by simpa using hx
    exact ⟨h0, h1⟩
theorem DOK.at {l : List Int} (h : DOK l) (i : Nat) (hi : i < l.length) : 0 ≤ l[i] ∧ l[i] < 4294967296 := h _ (List.getElem_mem hi)
theorem dv_snoc (l : List Int) (d : Int) : dv (l ++ [d]) = dv l + 4294967296 ^ l.length * d := by
  induction l with
  | nil => simp [dv]
  | cons x r ih =>
    simp only [List.cons_append, dv, ih, List.length_cons, Int.pow_succ]
    rw [Int.mul_add, ← Int.mul_assoc, Int.mul_comm 4294967296 (4294967296 ^ r.length), Int.add_assoc]
theorem dv_drop (l : List Int) (i : Nat) (hi : i < l.length) : dv (l.drop i) = l[i] + 4294967296 * dv (l.drop (i + 1)) := by
  rw [List.drop_eq_getElem_cons hi]; rfl
theorem sizeL_f (n : Nat) (x : Int) (h0 : -4611686018427387904 < x) (h1 : x < 4611686018427387904) : fn_impl_size.f n x = some (x.natAbs : Int) := by
  unfold fn_impl_size.f
  by_cases hx : x < 0
  · rw [ltI_t hx, br_t, sub_in (by omega) (by omega), IntKind.wrap_u64]
    congr 1; omega
  · rw [ltI_f hx, br_f, IntKind.wrap_u64]
    congr 1; omega
theorem wrap32_mod (x : Int) : IntKind.wrap .u32 x = x % 4294967296 := by
  rw [IntKind.wrap_u32]
theorem shr32 (x : Int) : shr .u64 x 32 = x / 4294967296 := by
  unfold shr
  have : nat 32 = 32 := rfl
  rw [this, show min 32 IntKind.u64.bits = 32 from rfl, Int.fdiv_eq_ediv_of_nonneg _ (by decide)]
  rfl
theorem times_step {d s c : Int} (hd : 0 ≤ d) (hd' : d < 4294967296) (hs : 0 ≤ s) (hs' : s < 4294967296) (hc : 0 ≤ c) (hc' : c < 4294967296) :
    add .u64 c (mul .u64 (IntKind.wrap .u64 d) s) = c + d * s ∧ 0 ≤ c + d * s ∧ (c + d * s) / 4294967296 < 4294967296 := by
  have h1 : 0 ≤ d * s := Int.mul_nonneg hd hs
  have h2 : d * s ≤ 4294967295 * 4294967295 := Int.mul_le_mul (by omega) (by omega) hs (by omega)
  have e1 : IntKind.wrap .u64 d = d := by rw [IntKind.wrap_u64]; omega
  have e2 : mul .u64 d s = d * s := by unfold mul; rw [IntKind.wrap_u64]; omega
  refine ⟨?_, by omega, by omega⟩
  rw [e1, e2]
  unfold add
  rw [IntKind.wrap_u64]; omega
theorem times_l {R : Type} (n : Nat) (x0 : List Int) (x1 x3 : Bool) (l : List Int) (s : Int) (K0 : List Int → Bool → List Int → Bool → Int → Option R) (hl : l.length ≤ 1000000) (hd : DOK l) (hs : -4294967296 < s) (hs' : s < 4294967296) :
    ∀ (d k i : Nat) (x2 : List Int) (c : Int), l.length - i = d → i ≤ l.length → d < k → 0 ≤ c → c < 4294967296 → DOK x2 → x2.length = i →
    ∃ out c', DOK out ∧ out.length = l.length ∧ 0 ≤ c' ∧ c' < 4294967296 ∧ fn_impl_long__times.l4 n k x0 x1 x2 x3 l s c (ilen l) (i : Int) K0 = K0 x0 x1 out x3 c' ∧
      dv out + 4294967296 ^ l.length * c' = dv x2 + 4294967296 ^ i * (c + dv (l.drop i) * (s.natAbs : Int)) := by
  intro d
  induction d with
  | zero =>
    intro k i x2 c h1 h2 h3 h4 h5 h6 h7
    obtain ⟨k, rfl⟩ : ∃ m, k = m + 1 := ⟨k - 1, by omega⟩
    obtain rfl : i = l.length := by omega
    refine ⟨x2, c, h6, h7, h4, h5, ?_, ?_⟩
    · simp only [fn_impl_long__times.l4]
      rw [ltI_f (by show ¬ ((l.length : Int) < ((l.length : Nat) : Int)); omega), br_f]
    · rw [List.drop_length]; simp [dv]
  | succ d ih =>
    intro k i x2 c h1 h2 h3 h4 h5 h6 h7
    obtain ⟨k, rfl⟩ : ∃ m, k = m + 1 := ⟨k - 1, by omega⟩
    have hi : i < l.length := by omega
    obtain ⟨g1, g2⟩ := hd.at i hi
    obtain ⟨e1, e2, e3⟩ := times_step (s := (s.natAbs : Int)) g1 g2 (by omega) (by omega) h4 h5
    obtain ⟨out, c', q1, q2, q3, q4, q5, q6⟩ := ih k (i + 1) (x2 ++ [(c + l[i] * (s.natAbs : Int)) % 4294967296]) ((c + l[i] * (s.natAbs : Int)) / 4294967296) (by omega) (by omega) (by omega) (by omega) e3 (h6.snoc (by omega) (by omega)) (by simp [h7])
    refine ⟨out, c', q1, q2, q3, q4, ?_, ?_⟩
    · simp only [fn_impl_long__times.l4]
      rw [ltI_t (by show ((i : Int) < ((l.length : Nat) : Int)); omega), br_t, okIx_t (by omega) (by show ((i : Int) < ((l.length : Nat) : Int)); omega), br_t, sizeL_f n s (by omega) (by omega)]
      simp only [Option.bind]
      rw [nat_cast, show rd (.int .u32) l i = l[i] from rd_get hi, e1, okApp_t (by simp [nadd]; omega), br_t, ltI_f (x := 32) (y := 0) (by omega), br_f, wrap32_mod, shr32, add_one i (by omega)]
      exact q5
    · rw [q6, dv_snoc, h7, dv_drop l i hi, Int.pow_succ]
      have := Int.emod_add_mul_ediv (c + l[i] * (s.natAbs : Int)) 4294967296
      generalize (c + l[i] * (s.natAbs : Int)) % 4294967296 = u at *
      generalize (c + l[i] * (s.natAbs : Int)) / 4294967296 = v at *
      rw [Int.add_mul, ← Int.add_assoc c, ← this]
      generalize (4294967296 : Int) ^ i = p
      generalize dv (l.drop (i + 1)) = y
      generalize (s.natAbs : Int) = t
      generalize dv x2 = z
      grind
end
end Go.Proofs.Ytipjdipahebnbaa.Z

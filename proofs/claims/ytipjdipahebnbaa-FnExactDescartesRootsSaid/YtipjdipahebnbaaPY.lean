/- The roots by changes of signs: both sides agree. -/
import Derived.Test.YtipjdipahebnbaaPX
set_option linter.unusedVariables false
set_option linter.unusedSimpArgs false
set_option maxRecDepth 100000
namespace Go.Proofs.Ytipjdipahebnbaa.Z
open Go.Proofs.Ytipjdipahebnbaa.Ev
noncomputable section
theorem small_num {m : Int × Int} {K : Nat} (hK : m.2 = (K : Int)) (hk : K ≤ 5) (h : -134217728 ≤ X24 m) (h' : X24 m ≤ 134217728) : m.1.natAbs ≤ 256 := by
  have h1 : (X24 m).natAbs ≤ 134217728 := by omega
  unfold X24 at h1
  rw [hK, Int.toNat_natCast, Int.natAbs_mul, Int.natAbs_natCast, show 24 - K = (5 - K) + 19 from by omega, Nat.pow_add] at h1
  have h2 : 1 ≤ 2 ^ (5 - K) := Nat.two_pow_pos _
  have h3 : m.1.natAbs * (1 * 2 ^ 19) ≤ m.1.natAbs * (2 ^ (5 - K) * 2 ^ 19) := Nat.mul_le_mul_left _ (Nat.mul_le_mul_right _ h2)
  omega
theorem signs_same {p : List Int} (hs : smallB p = true) {m : Int × Int} (hm : DV m) (h5 : m.2 ≤ 5) (h : -134217728 ≤ X24 m) (h' : X24 m ≤ 134217728) (n : Nat) (hn : 1000000 ≤ n) :
    ∃ s, fn_impl_signAt.f n p m = some s ∧ fn_spec_sgSign.f n p m.1 m.2 = some s := by
  obtain ⟨m0, _, _, _⟩ := hm
  obtain ⟨K, hK⟩ : ∃ K : Nat, m.2 = (K : Int) := ⟨m.2.toNat, by omega⟩
  have hN := small_num hK (by omega) h h'
  have hl := smallB_len hs
  have hm2 : m = (m.1, (K : Int)) := Prod.ext rfl hK
  refine ⟨cmpI (hor p m.1 K p.length) 0, ?_, ?_⟩
  · rw [hm2]
    refine signAt_f n p m.1 K (by omega) (by omega) (by omega) (by omega) (fun c hc => ?_) hn
    obtain ⟨j, hj, rfl⟩ := List.mem_iff_getElem.1 hc
    have := small_dig hs j
    unfold dig at this
    rw [dif_pos hj] at this
    omega
  · rw [hK]
    exact sgSign_f n p m.1 K hN (by omega) (by omega) (small_dig hs) (by omega)
theorem fit_of {l h : Int × Int} (hl : dyB l = true) (hh : dyB h = true) (h1 : X24 l < X24 h) (h2 : -134217728 ≤ X24 l) (h3 : X24 h ≤ 134217728) (h4 : l.2 ≤ 5) (h5 : h.2 ≤ 5) : fitB (l, h) = true := by
  unfold fitB
  simp only [Bool.and_eq_true]
  exact ⟨hl, hh, decide_eq_true ⟨h1, h2, h3, h4, h5⟩⟩
theorem roots_same {p : List Int} (hs : smallB p = true) (hpr : AllR p) : ∀ (d n : Nat) (l h : Int × Int), fitB (l, h) = true → X24 h - X24 l ≤ 524288 * 2 ^ d → d ≤ 10 → 1000200 + d < n →
    ∃ r b, fn_impl_descartesRoots.f n p (l, h) = some (r, b) ∧ fn_spec_deRoots.f n p (l, h) = some (r, b) ∧ r.length + 1 ≤ 2 ^ (d + 1) := by
  intro d
  induction d with
  | zero =>
    intro n l h hf hw hd hn
    obtain ⟨n, rfl⟩ : ∃ m, n = m + 1 := ⟨n - 1, by omega⟩
    have hf' := hf
    unfold fitB at hf'
    simp only [Bool.and_eq_true, decide_eq_true_eq] at hf'
    obtain ⟨f1, f2, f3, f4, f5, f6, f7⟩ := hf'
    have h6 := smallB_len hs
    have va := dyB_DV f1
    have vb := dyB_DV f2
    obtain ⟨o, o1, o2, o3, o4⟩ := over_same (n + 1) p (l, h) h6.1 h6.2 hpr va vb f6 f7 (by omega)
    obtain ⟨m, m1, m2, m3⟩ := half_val l h va vb f6 f7 f4 (by omega) (by omega) f5
    simp only [fn_impl_descartesRoots.f, fn_spec_deRoots.f]
    rw [o1, o2]
    simp only [Option.bind]
    rw [iCh_f (n + 1) o (by omega) (by omega), sCh_f (n + 1) o (by omega) (by omega)]
    dsimp only
    by_cases c0 : chS o o.length 0 0 0 = 0
    · rw [eqI_t c0, br_t, br_t]
      exact ⟨_, _, rfl, rfl, by simp⟩
    rw [eqI_f c0, br_f, br_f]
    by_cases c1 : chS o o.length 0 0 0 = 1
    · rw [eqI_t c1, br_t, br_t]
      exact ⟨_, _, rfl, rfl, by simp⟩
    rw [eqI_f c1, br_f, br_f]
    rw [show n + 1 = (n - 2) + 3 from by omega, middleOf_f (n - 2) l h va vb (by omega), show (n - 2) + 3 = n + 1 from by omega, dyHalf_f (n + 1) l h f1 f2 (by omega), m1]
    dsimp only
    have k5 : 5 < m.2 := by
      rcases Int.lt_or_le 5 m.2 with k | k
      · exact k
      · obtain ⟨q1, e1⟩ := X24_mult va f6
        obtain ⟨q2, e2⟩ := X24_mult vb f7
        obtain ⟨q3, e3⟩ := X24_mult (dyB_DV m2) k
        omega
    rw [ltI_t k5, br_t, br_t]
    exact ⟨_, _, rfl, rfl, by simp⟩
  | succ d ih =>
    intro n l h hf hw hd hn
    obtain ⟨n, rfl⟩ : ∃ m, n = m + 1 := ⟨n - 1, by omega⟩
    have hf' := hf
    unfold fitB at hf'
    simp only [Bool.and_eq_true, decide_eq_true_eq] at hf'
    obtain ⟨f1, f2, f3, f4, f5, f6, f7⟩ := hf'
    have h6 := smallB_len hs
    have va := dyB_DV f1
    have vb := dyB_DV f2
    have hpow : 1 ≤ 2 ^ (d + 1) := Nat.two_pow_pos _
    have hpow2 : 2 ^ (d + 1 + 1) = 2 * 2 ^ (d + 1) := by rw [Nat.pow_succ]; omega
    have hpow3 : 2 ^ (d + 1) ≤ 2 ^ 10 := Nat.pow_le_pow_right (by omega) hd
    obtain ⟨o, o1, o2, o3, o4⟩ := over_same (n + 1) p (l, h) h6.1 h6.2 hpr va vb f6 f7 (by omega)
    obtain ⟨m, m1, m2, m3⟩ := half_val l h va vb f6 f7 f4 (by omega) (by omega) f5
    simp only [fn_impl_descartesRoots.f, fn_spec_deRoots.f]
    rw [o1, o2]
    simp only [Option.bind]
    rw [iCh_f (n + 1) o (by omega) (by omega), sCh_f (n + 1) o (by omega) (by omega)]
    dsimp only
    by_cases c0 : chS o o.length 0 0 0 = 0
    · rw [eqI_t c0, br_t, br_t]
      exact ⟨_, _, rfl, rfl, by simp; omega⟩
    rw [eqI_f c0, br_f, br_f]
    by_cases c1 : chS o o.length 0 0 0 = 1
    · rw [eqI_t c1, br_t, br_t]
      exact ⟨_, _, rfl, rfl, by simp; omega⟩
    rw [eqI_f c1, br_f, br_f]
    rw [show n + 1 = (n - 2) + 3 from by omega, middleOf_f (n - 2) l h va vb (by omega), show (n - 2) + 3 = n + 1 from by omega, dyHalf_f (n + 1) l h f1 f2 (by omega), m1]
    dsimp only
    by_cases k5 : 5 < m.2
    · rw [ltI_t k5, br_t, br_t]
      exact ⟨_, _, rfl, rfl, by simp; omega⟩
    rw [ltI_f k5, br_f, br_f]
    have e1 : X24 m - X24 l ≤ 524288 * 2 ^ d := by rw [Int.pow_succ] at hw; omega
    have e2 : X24 h - X24 m ≤ 524288 * 2 ^ d := by rw [Int.pow_succ] at hw; omega
    have vm := dyB_DV m2
    obtain ⟨r1, b1, g1, g2, g3⟩ := ih n l m (fit_of f1 m2 (by omega) f4 (by omega) f6 (by omega)) e1 (by omega) (by omega)
    obtain ⟨r2, b2, g4, g5, g6⟩ := ih n m h (fit_of m2 f2 (by omega) (by omega) f5 (by omega) f7) e2 (by omega) (by omega)
    obtain ⟨s, s1, s2⟩ := signs_same hs vm (by omega) (by omega) (by omega) (n + 1) (by omega)
    rw [g1, g2, g4, g5, s1, s2]
    dsimp only
    have ok1 : ∀ x : (Int × Int) × (Int × Int), okApp (nadd r1.length (List.length (x :: ([] : List ((Int × Int) × (Int × Int)))))) 32 = true := fun x => okApp_t (by simp [nadd]; omega)
    have ok2 : ∀ x : (Int × Int) × (Int × Int), okApp (nadd (List.length (appL r1 (x :: ([] : List ((Int × Int) × (Int × Int)))))) r2.length) 32 = true := fun x => okApp_t (by simp [nadd, appL]; omega)
    have ok3 : okApp (nadd r1.length r2.length) 32 = true := okApp_t (by simp [nadd]; omega)
    rw [show fn_impl_single.f (n + 1) m = some (m, m) from rfl]
    dsimp only
    cases b1
    · rw [bnot_f, br_t]
      by_cases hz : s = 0
      · rw [eqI_t hz, br_t, ok1, br_t, br_t]
        exact ⟨_, _, rfl, rfl, by simp; omega⟩
      · rw [eqI_f hz, br_f, br_t]
        exact ⟨_, _, rfl, rfl, by simp; omega⟩
    rw [bnot_t, br_f]
    cases b2
    · rw [bnot_f, br_t]
      by_cases hz : s = 0
      · rw [eqI_t hz, br_t, ok1, br_t, br_f, br_t]
        exact ⟨_, _, rfl, rfl, by simp; omega⟩
      · rw [eqI_f hz, br_f, br_f, br_t]
        exact ⟨_, _, rfl, rfl, by simp; omega⟩
    rw [bnot_t, br_f]
    by_cases hz : s = 0
    · rw [eqI_t hz, br_t, br_t, ok1, br_t, br_t, ok2, br_t, br_f, br_f]
      exact ⟨_, _, rfl, rfl, by simp [appL]; omega⟩
    · rw [eqI_f hz, br_f, br_f, ok3, br_t, br_f, br_f]
      exact ⟨_, _, rfl, rfl, by simp [appL]; omega⟩
end
end Go.Proofs.Ytipjdipahebnbaa.Z

/- Fit intervals and polynomials over them: both sides agree. -/
import Derived.Test.YtipjdipahebnbaaP7
set_option linter.unusedVariables false
set_option linter.unusedSimpArgs false
set_option maxRecDepth 100000
namespace Go.Proofs.Ytipjdipahebnbaa.Z
open Go.Proofs.Ytipjdipahebnbaa.Ev
noncomputable section
theorem most_f (n : Nat) (a b : Int) : fn_spec_l1Most.f n a b = some (mx a b) := by
  unfold fn_spec_l1Most.f mx
  by_cases h : b < a
  · rw [ltI_t h, br_t, if_neg (by omega)]
  · rw [ltI_f h, br_f]
    by_cases h2 : b > a
    · rw [if_pos h2]
    · rw [if_neg h2, show a = b from by omega]
theorem over_same (n : Nat) (p : List Int) (v : (Int × Int) × (Int × Int)) (hp1 : 1 ≤ p.length) (hp : p.length ≤ 6) (hpr : AllR p) (ha : DV v.1) (hb : DV v.2) (ka : v.1.2 ≤ 5) (kb : v.2.2 ≤ 5) (hn : 1000001 < n) :
    ∃ r, fn_impl_overInterval.f n p v = some r ∧ fn_spec_deOver.f n p v = some r ∧ r.length = p.length ∧ AllR r := by
  obtain ⟨a1, a2, a3, a4⟩ := ha
  obtain ⟨b1, b2, b3, b4⟩ := hb
  obtain ⟨i, hi⟩ : ∃ i : Nat, v.1.2 = (i : Int) := ⟨v.1.2.toNat, by omega⟩
  obtain ⟨j, hj⟩ : ∃ j : Nat, v.2.2 = (j : Int) := ⟨v.2.2.toNat, by omega⟩
  obtain ⟨k, hk, hik, hjk, hk5⟩ : ∃ k : Nat, mx v.1.2 v.2.2 = (k : Int) ∧ i ≤ k ∧ j ≤ k ∧ k ≤ 5 := by
    rw [hi, hj]
    unfold mx
    split
    · exact ⟨j, rfl, by omega, by omega, by omega⟩
    · exact ⟨i, rfl, by omega, by omega, by omega⟩
  have e1 : sub .i64 (k : Int) v.1.2 = ((k - i : Nat) : Int) := by rw [hi, sub_in (by omega) (by omega)]; omega
  have e2 : sub .i64 (k : Int) v.2.2 = ((k - j : Nat) : Int) := by rw [hj, sub_in (by omega) (by omega)]; omega
  have e3 : shl .i64 1 (k : Int) = ((2 ^ k : Nat) : Int) := by rw [shl_v 1 k hk5 (by omega) (by omega), Int.one_mul]
  obtain ⟨s, s1, s2, s3, s4⟩ := iOver_l n p (v.1.1 * ((2 ^ (k - i) : Nat) : Int)) (v.2.1 * ((2 ^ (k - j) : Nat) : Int)) ((2 ^ k : Nat) : Int) (fun z13 z14 => fn_impl_overInterval.l10 n n z13 z14 (fun z17 => some z17)) hp1 hp hn p.length n 0 [] (fun _ => 0) (by omega) (by omega) (by simp) (fun a ha => by cases ha) (fun m => eqm_refl _)
  have s1 : fn_impl_overInterval.l5 n n p [] p (v.1.1 * ((2 ^ (k - i) : Nat) : Int)) (v.2.1 * ((2 ^ (k - j) : Nat) : Int)) ((2 ^ k : Nat) : Int) (ilen p) 0 (fun z13 z14 => fn_impl_overInterval.l10 n n z13 z14 (fun z17 => some z17)) = _ := s1
  have hi1 : fn_impl_overInterval.f n p v = some (s ++ List.replicate (p.length - s.length) 0) := by
    unfold fn_impl_overInterval.f
    rw [hk, ltI_f (x := (k : Int)) (y := 0) (by omega), br_f, e1, e2, ltI_f (x := ((k - i : Nat) : Int)) (y := 0) (by omega), br_f, ltI_f (x := ((k - j : Nat) : Int)) (y := 0) (by omega), br_f, shl_v v.1.1 (k - i) (by omega) a3 a4, shl_v v.2.1 (k - j) (by omega) b3 b4, e3, s1]
    exact pad_l n p _ hp (p.length - s.length) n s (by omega) (by omega)
  obtain ⟨t, t1, t2, t3, t4⟩ := sOver_l n p (v.1.1 * ((2 ^ (k - i) : Nat) : Int)) (v.2.1 * ((2 ^ (k - j) : Nat) : Int)) k (fun z54 => some z54) hp1 hp hpr (by omega) hn p.length n 0 (repL p.length 0) (fun _ => 0) (by omega) (by omega) (rep_len _) (rep_inR _) (fun m => by rw [cf_rep]; exact eqm_refl _)
  have t1 : fn_spec_deOver.l7 n n (repL p.length 0) p (k : Int) (v.1.1 * ((2 ^ (k - i) : Nat) : Int)) (v.2.1 * ((2 ^ (k - j) : Nat) : Int)) ((p.length - 1 : Nat) : Int) (ilen p) 0 (fun z54 => some z54) = _ := t1
  have hs1 : fn_spec_deOver.f n p v = some t := by
    unfold fn_spec_deOver.f
    have ea : fn_spec_dyAt.f n v.1 (k : Int) = _ := (show fn_spec_dyAt.f n v.1 (k : Int) = fn_spec_dyAt.f n (v.1.1, (i : Int)) (k : Int) by rw [← hi]).trans (at2_f n i k v.1.1 hik hk5 a3 a4 (by omega))
    have eb : fn_spec_dyAt.f n v.2 (k : Int) = _ := (show fn_spec_dyAt.f n v.2 (k : Int) = fn_spec_dyAt.f n (v.2.1, (j : Int)) (k : Int) by rw [← hj]).trans (at2_f n j k v.2.1 hjk hk5 b3 b4 (by omega))
    rw [most_f, Option.bind_some, hk, ea, Option.bind_some, eb, Option.bind_some, ilen_eq, sub_in (x := (p.length : Int)) (y := 1) (by omega) (by omega), add_in (x := (p.length : Int) - 1) (y := 1) (by omega) (by omega), okMake_t (by omega) (by omega) (by omega), br_t]
    have e5 : nat ((p.length : Int) - 1 + 1) = p.length := by unfold nat; omega
    have e6 : (p.length : Int) - 1 = ((p.length - 1 : Nat) : Int) := by omega
    rw [e5, e6]
    exact t1
  have hsame : s ++ List.replicate (p.length - s.length) 0 = t := by
    refine same_list (by simp; omega) (fun a ha => ?_) t3 (fun m => ?_)
    · rcases List.mem_append.1 ha with h | h
      · exact s3 a h
      · have : a = 0 := List.eq_of_mem_replicate h
        subst this; unfold InR; omega
    · rw [cf_app_zeros]
      exact (s4 m).trans (t4 m).symm
  exact ⟨t, by rw [hi1, hsame], hs1, t2, t3⟩
theorem X_half (N M : Int) (i j : Nat) (hij : i < j) (hj : j ≤ 24) (h : X24 (N, (i : Int)) = X24 (M, (j : Int))) : M % 2 = 0 := by
  unfold X24 at h
  dsimp only at h
  rw [Int.toNat_natCast, Int.toNat_natCast] at h
  have e : (2 : Nat) ^ (24 - i) = 2 ^ (j - i - 1) * 2 * 2 ^ (24 - j) := by
    rw [← Nat.pow_succ, ← Nat.pow_add, show j - i - 1 + 1 + (24 - j) = 24 - i by omega]
  have hp : (0 : Int) < ((2 ^ (24 - j) : Nat) : Int) := by
    have : 0 < 2 ^ (24 - j) := Nat.pos_of_ne_zero (by simp)
    omega
  rw [e, Int.natCast_mul, ← Int.mul_assoc] at h
  have h2 := Int.eq_of_mul_eq_mul_right (by omega) h
  rw [← h2, Int.natCast_mul, ← Int.mul_assoc]
  exact Int.mul_emod_left _ _
theorem X_inj {a b : Int × Int} (ha : dyB a = true) (hb : dyB b = true) (h : X24 a = X24 b) : a = b := by
  have va := dyB_DV ha
  have vb := dyB_DV hb
  obtain ⟨a1, a2, a3, a4⟩ := va
  obtain ⟨b1, b2, b3, b4⟩ := vb
  obtain ⟨N, ai⟩ := a
  obtain ⟨M, bj⟩ := b
  obtain ⟨i, rfl⟩ : ∃ i : Nat, ai = (i : Int) := ⟨ai.toNat, by dsimp only at a1; omega⟩
  obtain ⟨j, rfl⟩ : ∃ j : Nat, bj = (j : Int) := ⟨bj.toNat, by dsimp only at b1; omega⟩
  dsimp only at a1 a2 b1 b2
  have odd : ∀ (M : Int) (j : Nat), dyB (M, (j : Int)) = true → 0 < j → M % 2 ≠ 0 := fun M j hd hj => by
    unfold dyB at hd
    simp only [Bool.and_eq_true, Bool.or_eq_true] at hd
    rcases hd.2.2 with h5 | h5
    · have : (j : Int) = 0 := eqI_of h5
      omega
    · unfold rem at h5
      intro h6
      have h7 : M.tmod 2 = 0 := Int.tmod_eq_zero_of_dvd (Int.dvd_of_emod_eq_zero h6)
      rw [h7, neI_f rfl] at h5
      cases h5
  rcases Nat.lt_trichotomy i j with hij | hij | hij
  · exact absurd (X_half N M i j hij (by omega) h) (odd M j hb (by omega))
  · subst hij
    unfold X24 at h
    dsimp only at h
    have hp : ((2 ^ (24 - (i : Int).toNat) : Nat) : Int) ≠ 0 := by
      have : 0 < 2 ^ (24 - (i : Int).toNat) := Nat.pos_of_ne_zero (by simp)
      omega
    rw [Int.eq_of_mul_eq_mul_right hp h]
  · exact absurd (X_half M N j i hij (by omega) h.symm) (odd N i ha (by omega))
def fitB (v : (Int × Int) × (Int × Int)) : Bool := dyB v.1 && (dyB v.2 && decide (X24 v.1 < X24 v.2 ∧ -134217728 ≤ X24 v.1 ∧ X24 v.2 ≤ 134217728 ∧ v.1.2 ≤ 5 ∧ v.2.2 ≤ 5))
theorem sg_le {x : Int} : leI (sg x) 0 = decide (x ≤ 0) := by
  rw [leI_eq]
  unfold sg
  by_cases h1 : 0 < x
  · rw [if_pos h1, decide_eq_false (by omega), decide_eq_false (by omega)]
  · rw [if_neg h1]
    by_cases h2 : x < 0
    · rw [if_pos h2, decide_eq_true (by omega), decide_eq_true (by omega)]
    · rw [if_neg h2, decide_eq_true (by omega), decide_eq_true (by omega)]
theorem sg_lt {x : Int} : ltI (sg x) 0 = decide (x < 0) := by
  rw [ltI_eq]
  unfold sg
  by_cases h1 : 0 < x
  · rw [if_pos h1, decide_eq_false (by omega), decide_eq_false (by omega)]
  · rw [if_neg h1]
    by_cases h2 : x < 0
    · rw [if_pos h2, decide_eq_true (by omega), decide_eq_true (by omega)]
    · rw [if_neg h2, decide_eq_false (by omega), decide_eq_false (by omega)]
theorem br_dec {R : Type} {P : Prop} [Decidable P] (x y : Option R) : br (decide P) x y = if P then x else y := by
  by_cases h : P
  · rw [decide_eq_true h, br_t, if_pos h]
  · rw [decide_eq_false h, br_f, if_neg h]
theorem br_some (x y : Bool) : br x (some y) (some false) = some (x && y) := by cases x <;> rfl
theorem X_int (c : Int) : X24 (c, 0) = c * 16777216 := rfl
theorem DV_int (c : Int) (h : -1099511627776 ≤ c) (h' : c ≤ 1099511627776) : DV (c, 0) := ⟨by show (0 : Int) ≤ 0; omega, by show (0 : Int) ≤ 24; omega, h, h'⟩
theorem isFit_f (n : Nat) (v : (Int × Int) × (Int × Int)) : fn_impl_isFit.f (n + 3) v = some (fitB v) := by
  unfold fn_impl_isFit.f fn_impl_isInterval.f fn_impl_inRange.f fn_impl_integer.f fitB
  rw [isDyadic_f, Option.bind_some]
  cases ha : dyB v.1
  · rfl
  · rw [br_t, isDyadic_f, Option.bind_some, Bool.true_and]
    cases hb : dyB v.2
    · rfl
    · have va := dyB_DV ha
      have vb := dyB_DV hb
      have v8 := DV_int (-8) (by omega) (by omega)
      have v9 := DV_int 8 (by omega) (by omega)
      rw [br_t, cmpD_f n _ _ va vb, Option.bind_some, Option.bind_some, Bool.true_and]
      simp only [Option.bind_some, cmpD_f n _ _ v8 va, cmpD_f n _ _ v8 vb, cmpD_f n _ _ va v9, cmpD_f n _ _ vb v9, sg_le, br_some, X_int]
      have hinj : X24 v.1 = X24 v.2 → v.1 = v.2 := X_inj ha hb
      have hne : andB (eqI v.1.1 v.2.1) (eqI v.1.2 v.2.2) = decide (X24 v.1 = X24 v.2) := by
        by_cases h : X24 v.1 = X24 v.2
        · rw [decide_eq_true h, hinj h, eqI_t rfl, eqI_t rfl]; rfl
        · rw [decide_eq_false h]
          by_cases h1 : v.1.1 = v.2.1
          · by_cases h2 : v.1.2 = v.2.2
            · exact absurd (by rw [show v.1 = v.2 from Prod.ext h1 h2]) h
            · rw [eqI_f h2, eqI_t h1]; rfl
          · rw [eqI_f h1]; rfl
      rw [hne]
      have l5 : ∀ x : Int, leI x 5 = decide (x ≤ 5) := fun x => leI_eq x 5
      simp only [l5, br_some]
      congr 1
      rw [Bool.eq_iff_iff]
      simp only [Bool.and_eq_true, decide_eq_true_eq, bnot, Bool.not_eq_true', decide_eq_false_iff_not]
      omega
theorem deFit_f (n : Nat) (v : (Int × Int) × (Int × Int)) (hn : 100 < n) : fn_spec_deFit.f n v = some (fitB v) := by
  unfold fn_spec_deFit.f fn_spec_ivGood.f fn_spec_dyInt.f fitB
  rw [dyGood_f, Option.bind_some]
  cases ha : dyB v.1
  · rfl
  · rw [br_t, dyGood_f, Option.bind_some, Bool.true_and]
    cases hb : dyB v.2
    · rfl
    · have va := dyB_DV ha
      have vb := dyB_DV hb
      have v8 := DV_int (-8) (by omega) (by omega)
      have v9 := DV_int 8 (by omega) (by omega)
      rw [br_t, dyCmp_f n _ _ va vb hn, Option.bind_some, Option.bind_some, Bool.true_and, Option.bind_some, Option.bind_some, Option.bind_some, dyCmp_f n _ _ v8 va hn, dyCmp_f n _ _ vb v9 hn]
      simp only [Option.bind_some, sg_le, sg_lt, br_dec, X_int]
      have l5 : ∀ x : Int, leI x 5 = decide (x ≤ 5) := fun x => leI_eq x 5
      simp only [l5, br_dec]
      (repeat' split) <;> (first | rfl | (simp only [Option.some.injEq]; first | (symm; exact decide_eq_false (by omega)) | exact decide_eq_decide.2 (by omega) | omega))
end
end Go.Proofs.Ytipjdipahebnbaa.Z

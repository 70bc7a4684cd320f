/- Polynomials over an interval: the other side. -/
import Derived.Test.YtipjdipahebnbaaP4
import Derived.Test.YtipjdipahebnbaaP6
set_option linter.unusedVariables false
set_option linter.unusedSimpArgs false
set_option maxRecDepth 100000
namespace Go.Proofs.Ytipjdipahebnbaa.Z
open Go.Proofs.Ytipjdipahebnbaa.Ev
noncomputable section
theorem part_l {R : Type} (n : Nat) (o3 p4 : List Int) (k5 : Nat) (l h : Int) (e : Nat) (x20 x21 : Int) (K0 : List Int → List Int → List Int → Int → Int → Int → Int → Int → Int → Option R) (N : Nat) (hN : N ≤ 5) (he : e ≤ N) (hk5 : k5 ≤ 62) (hn : 1000001 < n) : ∀ (d k m : Nat) (part : List Int) (f : Nat → Int), m + d = N → d < k → part.length = m + 1 → AllR part → (∀ q, eqm (cf part q) (f q)) →
    ∃ r, fn_spec_deOver.l11 n k o3 part p4 (k5 : Int) l h (N : Int) (e : Int) (m : Int) x20 x21 K0 = K0 o3 r p4 (k5 : Int) l h (N : Int) x20 x21 ∧ r.length = N + 1 ∧ AllR r ∧
      ∀ q, eqm (cf r q) (itM ((2 ^ k5 : Nat) : Int) ((2 ^ k5 : Nat) : Int) (d - (e - m)) (itM l h (e - m) f) q) := by
  intro d
  induction d with
  | zero =>
    intro k m part f hm hk hl hr hf
    obtain ⟨k, rfl⟩ : ∃ q, k = q + 1 := ⟨k - 1, by omega⟩
    refine ⟨part, ?_, by omega, hr, fun q => ?_⟩
    · simp only [fn_spec_deOver.l11]
      rw [ltI_f (x := (m : Int)) (y := (N : Int)) (by omega), br_f]
    · rw [show e - m = 0 by omega]; exact hf q
  | succ d ih =>
    intro k m part f hm hk hl hr hf
    obtain ⟨k, rfl⟩ : ∃ q, k = q + 1 := ⟨k - 1, by omega⟩
    by_cases hme : m < e
    · obtain ⟨r, h1, h2, h3, h4⟩ := sgG_f n part [l, h] (by omega) (by simp) (by omega) (by simp) hn
      have h2 : r.length = part.length + 2 - 1 := h2
      obtain ⟨r', g1, g2, g3, g4⟩ := ih k (m + 1) r (mulL l h f) (by omega) (by omega) (by omega) h3 (fun q => by
        refine (h4 q).trans ?_
        rw [cv_two]
        exact mulL_congr hf q)
      refine ⟨r', ?_, g2, g3, fun q => ?_⟩
      · simp only [fn_spec_deOver.l11]
        rw [ltI_t (x := (m : Int)) (y := (N : Int)) (by omega), br_t, ltI_t (x := (m : Int)) (y := (e : Int)) (by omega), br_t, h1, Option.bind_some, add_one m (by omega)]
        exact g1
      · refine (g4 q).trans ?_
        rw [show e - m = (e - (m + 1)) + 1 by omega, show d + 1 - (e - (m + 1) + 1) = d - (e - (m + 1)) by omega]
        exact eqm_refl _
    · obtain ⟨r, h1, h2, h3, h4⟩ := sgG_f n part [((2 ^ k5 : Nat) : Int), ((2 ^ k5 : Nat) : Int)] (by omega) (by simp) (by omega) (by simp) hn
      have h2 : r.length = part.length + 2 - 1 := h2
      obtain ⟨r', g1, g2, g3, g4⟩ := ih k (m + 1) r (mulL ((2 ^ k5 : Nat) : Int) ((2 ^ k5 : Nat) : Int) f) (by omega) (by omega) (by omega) h3 (fun q => by
        refine (h4 q).trans ?_
        rw [cv_two]
        exact mulL_congr hf q)
      refine ⟨r', ?_, g2, g3, fun q => ?_⟩
      · simp only [fn_spec_deOver.l11]
        rw [ltI_t (x := (m : Int)) (y := (N : Int)) (by omega), br_t, ltI_f (x := (m : Int)) (y := (e : Int)) (by omega), br_f, power_f n k5 hk5, Option.bind_some, Option.bind_some, h1, Option.bind_some, add_one m (by omega)]
        exact g1
      · refine (g4 q).trans ?_
        rw [show e - (m + 1) = 0 by omega, show e - m = 0 by omega]
        exact eqm_refl _
theorem acc_l {R : Type} (n : Nat) (p4 part : List Int) (x38 x39 x40 x41 x42 x43 : Int) (K0 : List Int → List Int → Int → Int → Int → Int → Int → Int → Option R) (L : Nat) (hL : L ≤ 6) (hp : part.length = L) : ∀ (d k j : Nat) (out : List Int), j + d = L → d < k → out.length = L → AllR out →
    ∃ r, fn_spec_deOver.l17 n k out p4 part x38 x39 x40 x41 x42 x43 (ilen part) (j : Int) K0 = K0 r p4 x38 x39 x40 x41 x42 x43 ∧ r.length = L ∧ AllR r ∧ ∀ m, eqm (cf r m) (cf out m + (if j ≤ m then cf part m else 0)) := by
  intro d
  induction d with
  | zero =>
    intro k j out hd hk ho hr
    obtain ⟨k, rfl⟩ : ∃ q, k = q + 1 := ⟨k - 1, by omega⟩
    refine ⟨out, ?_, ho, hr, fun m => ?_⟩
    · simp only [fn_spec_deOver.l17]
      rw [ltI_f (by rw [ilen_eq]; omega), br_f]
    · split
      · rw [cf_out part m (by omega), Int.add_zero]; exact eqm_refl _
      · rw [Int.add_zero]; exact eqm_refl _
  | succ d ih =>
    intro k j out hd hk ho hr
    obtain ⟨k, rfl⟩ : ∃ q, k = q + 1 := ⟨k - 1, by omega⟩
    obtain ⟨r, h1, h2, h3, h4⟩ := ih k (j + 1) (setL out j (add .i64 (rd I64 out j) (rd I64 part j))) (by omega) (by omega) (by rw [setL_len]; exact ho) (setL_inR hr (add_inR _ _))
    refine ⟨r, ?_, h2, h3, fun m => ?_⟩
    · simp only [fn_spec_deOver.l17]
      rw [ltI_t (by rw [ilen_eq]; omega), br_t, okIx_t (by omega) (by rw [ilen_eq]; omega), br_t, okIx_t (by omega) (by rw [ilen_eq]; omega), br_t, br_t, nat_cast, add_one j (by omega)]
      exact h1
    · refine (h4 m).trans ?_
      rw [cf_set _ _ _ _ (by omega)]
      by_cases e : m = j
      · subst e
        rw [if_pos rfl, if_neg (by omega), if_pos (Nat.le_refl _), Int.add_zero]
        exact eqm_add _ _
      · rw [if_neg e]
        by_cases h5 : j + 1 ≤ m
        · rw [if_pos h5, if_pos (by omega)]; exact eqm_refl _
        · rw [if_neg h5, if_neg (by omega)]; exact eqm_refl _
theorem sOver_l {R : Type} (n : Nat) (p : List Int) (l h : Int) (k5 : Nat) (K0 : List Int → Option R) (hp1 : 1 ≤ p.length) (hp : p.length ≤ 6) (hpr : AllR p) (hk5 : k5 ≤ 62) (hn : 1000001 < n) : ∀ (d k e : Nat) (s : List Int) (f : Nat → Int), e + d = p.length → d < k → s.length = p.length → AllR s → (∀ m, eqm (cf s m) (f m)) →
    ∃ r, fn_spec_deOver.l7 n k s p (k5 : Int) l h ((p.length - 1 : Nat) : Int) (ilen p) (e : Int) K0 = K0 r ∧ r.length = p.length ∧ AllR r ∧ ∀ m, eqm (cf r m) (f m + sumT l h ((2 ^ k5 : Nat) : Int) p (p.length - 1) m d e) := by
  intro d
  induction d with
  | zero =>
    intro k e s f hd hk hs hr hf
    obtain ⟨k, rfl⟩ : ∃ m, k = m + 1 := ⟨k - 1, by omega⟩
    refine ⟨s, ?_, hs, hr, fun m => by rw [sumT, Int.add_zero]; exact hf m⟩
    simp only [fn_spec_deOver.l7]
    rw [ltI_f (by rw [ilen_eq]; omega), br_f]
  | succ d ih =>
    intro k e s f hd hk hs hr hf
    obtain ⟨k, rfl⟩ : ∃ m, k = m + 1 := ⟨k - 1, by omega⟩
    have hlt : e < p.length := by omega
    have hin := rd_inR hpr e hlt
    simp only [fn_spec_deOver.l7]
    rw [ltI_t (by rw [ilen_eq]; omega), br_t, okIx_t (by omega) (by rw [ilen_eq]; omega), br_t, nat_cast]
    obtain ⟨A, a1, a2, a3, a4⟩ := part_l n s p k5 l h e (ilen p) (e : Int) (fun z26 z27 z28 z29 z30 z31 z32 z33 z34 => fn_spec_deOver.l17 n n z26 z28 z27 z29 z30 z31 z32 z33 z34 (ilen z27) 0 (fun z46 z47 z48 z49 z50 z51 z52 z53 => fn_spec_deOver.l7 n k z46 z47 z48 z49 z50 z51 z52 (add .i64 z53 1) K0)) (p.length - 1) (by omega) (by omega) hk5 hn (p.length - 1) n 0 [rd I64 p e] (fun m => one m * rd I64 p e) (by omega) (by omega) (by simp) (fun a ha => by
      have : a = rd I64 p e := by simpa using ha
      rw [this]; exact hin) (fun q => by
      cases q with
      | zero => rw [cf_zero]; show eqm _ (1 * _); rw [Int.one_mul]; exact eqm_refl _
      | succ q => rw [cf_succ, cf_nil]; show eqm _ (0 * _); rw [Int.zero_mul]; exact eqm_refl _)
    have a1 : fn_spec_deOver.l11 n n s [rd I64 p e] p (k5 : Int) l h ((p.length - 1 : Nat) : Int) (e : Int) 0 (ilen p) (e : Int) _ = _ := a1
    obtain ⟨B, b1, b2, b3, b4⟩ := acc_l n p A (k5 : Int) l h ((p.length - 1 : Nat) : Int) (ilen p) (e : Int) (fun z46 z47 z48 z49 z50 z51 z52 z53 => fn_spec_deOver.l7 n k z46 z47 z48 z49 z50 z51 z52 (add .i64 z53 1) K0) p.length hp (by omega) p.length n 0 s (by omega) (by omega) hs hr
    have b1 : fn_spec_deOver.l17 n n s p A (k5 : Int) l h ((p.length - 1 : Nat) : Int) (ilen p) (e : Int) (ilen A) 0 _ = _ := b1
    obtain ⟨r, h1, h2, h3, h4⟩ := ih k (e + 1) B (fun m => f m + term l h ((2 ^ k5 : Nat) : Int) (rd I64 p e) (p.length - 1) e m) (by omega) (by omega) b2 b3 (fun m => by
      refine (b4 m).trans ?_
      rw [if_pos (Nat.zero_le _)]
      refine (hf m).add ((a4 m).trans ?_)
      rw [Nat.sub_zero, itM_scale, itM_scale]
      exact eqm_refl _)
    refine ⟨r, ?_, h2, h3, fun m => ?_⟩
    · refine a1.trans (b1.trans ?_)
      rw [add_one e (by omega)]
      exact h1
    · refine (h4 m).trans ?_
      show eqm (f m + term l h _ (rd I64 p e) (p.length - 1) e m + sumT l h _ p (p.length - 1) m d (e + 1)) (f m + sumT l h _ p (p.length - 1) m (d + 1) e)
      rw [sumT, Int.add_assoc]; exact eqm_refl _
theorem at2_l {R : Type} (n : Nat) (i : Int) (T : Nat) (hT : T ≤ 5) (K0 : Int → Bool → Option R) (K1 : List (Int × Int) → Option R) : ∀ (d k j : Nat) (N B : Int), j + d = T → d < k → 0 ≤ B → -B ≤ N → N ≤ B → B * ((2 ^ d : Nat) : Int) ≤ 35184372088832 →
    fn_spec_dyAt.l4 n k [(N, i)] (T : Int) (j : Int) K0 K1 = K1 [(N * ((2 ^ d : Nat) : Int), i)] := by
  intro d
  induction d with
  | zero =>
    intro k j N B hj hk h0 h1 h2 h3
    obtain ⟨k, rfl⟩ : ∃ m, k = m + 1 := ⟨k - 1, by omega⟩
    simp only [fn_spec_dyAt.l4]
    rw [ltI_f (x := (j : Int)) (y := (T : Int)) (by omega), br_f]
    simp
  | succ d ih =>
    intro k j N B hj hk h0 h1 h2 h3
    obtain ⟨k, rfl⟩ : ∃ m, k = m + 1 := ⟨k - 1, by omega⟩
    have hp : (1 : Int) ≤ ((2 ^ (d + 1) : Nat) : Int) := by
      have : 0 < 2 ^ (d + 1) := Nat.pos_of_ne_zero (by simp)
      omega
    have e : ∀ z : Int, z * ((2 ^ (d + 1) : Nat) : Int) = z * 2 * ((2 ^ d : Nat) : Int) := fun z => by
      rw [Nat.pow_succ, Nat.mul_comm, Int.natCast_mul, ← Int.mul_assoc]; rfl
    have hB : B ≤ 35184372088832 := by
      have h5 : B * 1 ≤ B * ((2 ^ (d + 1) : Nat) : Int) := Int.mul_le_mul_of_nonneg_left hp h0
      omega
    have r0 : rd (.pair (.int .i64) (.int .i64)) [(N, i)] 0 = (N, i) := rfl
    have s0 : ∀ y : Int × Int, setL [(N, i)] 0 y = [y] := fun y => rfl
    simp only [fn_spec_dyAt.l4]
    rw [ltI_t (x := (j : Int)) (y := (T : Int)) (by omega), br_t, r0]
    change (fn_spec_dyPower.f n ((60 : Nat) : Int)).bind _ = _
    rw [power_f n 60 (by omega), Option.bind_some]
    change (fn_spec_dyPower.f n ((60 : Nat) : Int)).bind _ = _
    rw [power_f n 60 (by omega), Option.bind_some, l1In_f, Option.bind_some]
    have hin : inB N (sub .i64 0 ((2 ^ 60 : Nat) : Int)) ((2 ^ 60 : Nat) : Int) = true := by
      have e60 : ((2 ^ 60 : Nat) : Int) = 1152921504606846976 := rfl
      rw [e60, sub_in (by omega) (by omega)]
      unfold inB
      rw [leI_t (by omega), leI_t (by omega)]; rfl
    rw [hin, bnot_t, br_f, s0, mul_in (by omega) (by omega), add_one j (by omega), e N]
    exact ih k (j + 1) (N * 2) (B * 2) (by omega) (by omega) (by omega) (by omega) (by omega) (by rw [← e]; exact h3)
theorem at2_f (n i T : Nat) (N : Int) (hi : i ≤ T) (hT : T ≤ 5) (h0 : -1099511627776 ≤ N) (h1 : N ≤ 1099511627776) (hn : 100 < n) : fn_spec_dyAt.f n (N, (i : Int)) (T : Int) = some (N * ((2 ^ (T - i) : Nat) : Int), true) := by
  unfold fn_spec_dyAt.f
  by_cases hz : N = 0
  · rw [eqI_t hz, br_t, hz, Int.zero_mul]
  · rw [eqI_f hz, br_f]
    have : (2 : Nat) ^ (T - i) ≤ 2 ^ 5 := two_le (by omega)
    exact (at2_l n (i : Int) T hT _ _ (T - i) n i N 1099511627776 (by omega) (by omega) (by omega) (by omega) (by omega) (by omega)).trans rfl
theorem shl_v (N : Int) (s : Nat) (hs : s ≤ 5) (h0 : -1099511627776 ≤ N) (h1 : N ≤ 1099511627776) : shl .i64 N (s : Int) = N * ((2 ^ s : Nat) : Int) := by
  unfold shl
  rw [nat_cast, Nat.min_eq_left (by show s ≤ 64; omega)]
  have e : ((2 : Int) ^ s) = ((2 ^ s : Nat) : Int) := by simp
  have h5 : (2 : Nat) ^ s ≤ 32 := two_le (j := 5) hs
  rw [e]
  generalize (2 : Nat) ^ s = q at h5
  have hq : (0 : Int) ≤ (q : Int) := by omega
  have a := Int.mul_le_mul_of_nonneg_right h1 hq
  have b := Int.mul_le_mul_of_nonneg_right h0 hq
  exact wrap_in (by omega) (by omega)
end
end Go.Proofs.Ytipjdipahebnbaa.Z

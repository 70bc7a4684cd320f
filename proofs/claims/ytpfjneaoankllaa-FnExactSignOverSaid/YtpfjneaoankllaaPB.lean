/- All coefficients. -/
import Derived.Test.YtpfjneaoankllaaPA
set_option linter.unusedVariables false
set_option linter.unusedSimpArgs false
set_option maxRecDepth 100000
namespace Go.Proofs.Ytpfjneaoankllaa.Z
open Go.Proofs.Ytpfjneaoankllaa.Ev
noncomputable section
/-- Along the third unknown: places of a line. -/
theorem pA_in {R : Type} (n : Nat) (a : List Int) (d0 d1 d2 o m : Nat) (K0 : List Int → List Int → List Int → Int → Int → Option R) (hd : d0 ≤ 4 ∧ d1 ≤ 4 ∧ d2 ≤ 4) (ho : o ≤ d0) (hm : m ≤ d1) :
    ∀ (e k i : Nat) (at' : List Int), d2 + 1 - i = e → i ≤ d2 + 1 → e < k → at'.length = i → (∀ q, q < i → cf at' q = ((atN d1 d2 o m q : Nat) : Int)) →
    ∃ r, fn_spec_beList.l10 n k a [(d0 : Int), (d1 : Int), (d2 : Int)] at' (o : Int) (m : Int) (i : Int) K0 = K0 a [(d0 : Int), (d1 : Int), (d2 : Int)] r (o : Int) (m : Int) ∧ r.length = d2 + 1 ∧ ∀ q, q < d2 + 1 → cf r q = ((atN d1 d2 o m q : Nat) : Int) := by
  have r0 : rd (.int .i64) [(d0 : Int), (d1 : Int), (d2 : Int)] (nat 2) = (d2 : Int) := rfl
  intro e
  induction e with
  | zero =>
    intro k i at' he hi hk hl hq
    obtain ⟨k, rfl⟩ : ∃ m, k = m + 1 := ⟨k - 1, by omega⟩
    refine ⟨at', ?_, by omega, fun q h => hq q (by omega)⟩
    simp only [fn_spec_beList.l10, r0]
    rw [okIx_t (i := 2) (by omega) (by rw [ilen_eq]; simp), br_t, leI_f (x := (i : Int)) (by omega), br_f]
  | succ e ih =>
    intro k i at' he hi hk hl hq
    obtain ⟨k, rfl⟩ : ∃ m, k = m + 1 := ⟨k - 1, by omega⟩
    obtain ⟨r, h1, h2⟩ := ih k (i + 1) (appL at' [((atN d1 d2 o m i : Nat) : Int)]) (by omega) (by omega) (by omega) (by simp [appL, hl]) (fun q h => by
      unfold appL
      rw [cf_app]
      by_cases h8 : q < at'.length
      · rw [if_pos h8]; exact hq q (by omega)
      · rw [if_neg h8]
        obtain rfl : q = i := by omega
        rw [hl, Nat.sub_self]
        rfl)
    refine ⟨r, ?_, h2⟩
    simp only [fn_spec_beList.l10, r0]
    rw [okIx_t (i := 2) (by omega) (by rw [ilen_eq]; simp), br_t, leI_t (x := (i : Int)) (by omega), br_t, at_f n d0 d1 d2 o m i hd.2.1 hd.2.2 (by omega) (by omega) (by omega), Option.bind_some, okApp_t (by simp [nadd]; omega), br_t, add_one i (by omega)]
    exact h1
theorem pA_mid {R : Type} (n : Nat) (d0 d1 d2 o : Nat) (K0 : List Int → List Int → Int → Option R) (hd : d0 ≤ 4 ∧ d1 ≤ 4 ∧ d2 ≤ 4) (ho : o ≤ d0) (hn : 1000001 < n) :
    ∀ (e k m : Nat) (a : List Int), d1 + 1 - m = e → m ≤ d1 + 1 → e < k → a.length = (d0 + 1) * (d1 + 1) * (d2 + 1) → AllR a →
    ∃ b, fn_spec_beList.l6 n k a [(d0 : Int), (d1 : Int), (d2 : Int)] (o : Int) (m : Int) K0 = K0 b [(d0 : Int), (d1 : Int), (d2 : Int)] (o : Int) ∧ b.length = (d0 + 1) * (d1 + 1) * (d2 + 1) ∧ AllR b ∧
      (∀ m' i, m ≤ m' → m' ≤ d1 → i ≤ d2 → eqm (cf b (atN d1 d2 o m' i)) (sumF (fun j => MV d2 i j * cf a (atN d1 d2 o m' j)) 0 (i + 1))) ∧
      (∀ x, (∀ m' i, m ≤ m' → m' ≤ d1 → i ≤ d2 → x ≠ atN d1 d2 o m' i) → cf b x = cf a x) := by
  have r0 : rd (.int .i64) [(d0 : Int), (d1 : Int), (d2 : Int)] (nat 1) = (d1 : Int) := rfl
  intro e
  induction e with
  | zero =>
    intro k m a he hm hk hl hr
    obtain ⟨k, rfl⟩ : ∃ m, k = m + 1 := ⟨k - 1, by omega⟩
    refine ⟨a, ?_, hl, hr, fun m' i h1 h2 _ => by omega, fun x _ => rfl⟩
    simp only [fn_spec_beList.l6, r0]
    rw [okIx_t (i := 1) (by omega) (by rw [ilen_eq]; simp), br_t, leI_f (x := (m : Int)) (by omega), br_f]
  | succ e ih =>
    intro k m a he hm hk hl hr
    obtain ⟨k, rfl⟩ : ∃ m, k = m + 1 := ⟨k - 1, by omega⟩
    obtain ⟨at', h1, h2, h3⟩ := pA_in n a d0 d1 d2 o m (fun z15 z16 z17 z18 z19 => (fn_spec_beLine.f n z15 z17).bind fun y20 => fn_spec_beList.l6 n k y20 z16 z18 (add .i64 z19 1) K0) hd ho (by omega) (d2 + 1) n 0 [] (by omega) (by omega) (by omega) rfl (fun q h => by omega)
    obtain ⟨c, g1, g2, g3, g4, g5⟩ := line_f n a at' (fun q => atN d1 d2 o m q) d2 (by omega) h2 hr (fun q hq => ⟨h3 q hq, by rw [hl]; exact atN_bd (by omega) (by omega) (by omega)⟩) (fun q q' hq hq' hqq => by
      have := atN_inj (by omega) (by omega) (by omega) (by omega) hqq
      omega) hn
    obtain ⟨b, f1, f2, f3, f4, f5⟩ := ih k (m + 1) c (by omega) (by omega) (by omega) (by rw [g2]; exact hl) g3
    have old : ∀ m' j, m < m' → m' ≤ d1 → j ≤ d2 → cf c (atN d1 d2 o m' j) = cf a (atN d1 d2 o m' j) := fun m' j q1 q2 q3 => g5 _ (fun q hq hqq => by
      have := atN_inj (by omega) (by omega) (by omega) (by omega) hqq
      omega)
    refine ⟨b, ?_, f2, f3, fun m' i q1 q2 q3 => ?_, fun x hx => ?_⟩
    · simp only [fn_spec_beList.l6, r0]
      rw [okIx_t (i := 1) (by omega) (by rw [ilen_eq]; simp), br_t, leI_t (x := (m : Int)) (by omega), br_t]
      refine h1.trans ?_
      rw [g1, Option.bind_some, add_one m (by omega)]
      exact f1
    · rcases Nat.lt_or_ge m m' with h8 | h8
      · refine (f4 m' i (by omega) q2 q3).trans (sumF_eqm fun j _ hj => ?_)
        rw [old m' j h8 q2 (by omega)]
        exact eqm_refl _
      · obtain rfl : m = m' := by omega
        rw [f5 _ (fun m2 i2 a1 a2 a3 hqq => by
          have := atN_inj (by omega) (by omega) (by omega) (by omega) hqq
          omega)]
        exact g4 i (by omega)
    · rw [f5 x (fun m' i a1 a2 a3 => hx m' i (by omega) a2 a3)]
      exact g5 x (fun q hq => hx m q (Nat.le_refl _) (by omega) (by omega))
theorem pA_out {R : Type} (n : Nat) (d0 d1 d2 : Nat) (K0 : List Int → List Int → Option R) (hd : d0 ≤ 4 ∧ d1 ≤ 4 ∧ d2 ≤ 4) (hn : 1000001 < n) :
    ∀ (e k o : Nat) (a : List Int), d0 + 1 - o = e → o ≤ d0 + 1 → e < k → a.length = (d0 + 1) * (d1 + 1) * (d2 + 1) → AllR a →
    ∃ b, fn_spec_beList.l3 n k a [(d0 : Int), (d1 : Int), (d2 : Int)] (o : Int) K0 = K0 b [(d0 : Int), (d1 : Int), (d2 : Int)] ∧ b.length = (d0 + 1) * (d1 + 1) * (d2 + 1) ∧ AllR b ∧
      (∀ o' m i, o ≤ o' → o' ≤ d0 → m ≤ d1 → i ≤ d2 → eqm (cf b (atN d1 d2 o' m i)) (sumF (fun j => MV d2 i j * cf a (atN d1 d2 o' m j)) 0 (i + 1))) ∧
      (∀ x, (∀ o' m i, o ≤ o' → o' ≤ d0 → m ≤ d1 → i ≤ d2 → x ≠ atN d1 d2 o' m i) → cf b x = cf a x) := by
  have r0 : rd (.int .i64) [(d0 : Int), (d1 : Int), (d2 : Int)] (nat 0) = (d0 : Int) := rfl
  intro e
  induction e with
  | zero =>
    intro k o a he ho hk hl hr
    obtain ⟨k, rfl⟩ : ∃ m, k = m + 1 := ⟨k - 1, by omega⟩
    refine ⟨a, ?_, hl, hr, fun o' m i h1 h2 _ _ => by omega, fun x _ => rfl⟩
    simp only [fn_spec_beList.l3, r0]
    rw [okIx_t (i := 0) (by omega) (by rw [ilen_eq]; simp), br_t, leI_f (x := (o : Int)) (by omega), br_f]
  | succ e ih =>
    intro k o a he ho hk hl hr
    obtain ⟨k, rfl⟩ : ∃ m, k = m + 1 := ⟨k - 1, by omega⟩
    obtain ⟨c, g1, g2, g3, g4, g5⟩ := pA_mid n d0 d1 d2 o (fun z21 z22 z23 => fn_spec_beList.l3 n k z21 z22 (add .i64 z23 1) K0) hd (by omega) hn (d1 + 1) n 0 a (by omega) (by omega) (by omega) hl hr
    obtain ⟨b, f1, f2, f3, f4, f5⟩ := ih k (o + 1) c (by omega) (by omega) (by omega) g2 g3
    have old : ∀ o' m j, o < o' → o' ≤ d0 → m ≤ d1 → j ≤ d2 → cf c (atN d1 d2 o' m j) = cf a (atN d1 d2 o' m j) := fun o' m j q1 q2 q3 q4 => g5 _ (fun m2 q hq hqm hqi hqq => by
      have := atN_inj (by omega) (by omega) (by omega) (by omega) hqq
      omega)
    refine ⟨b, ?_, f2, f3, fun o' m i q1 q2 q3 q4 => ?_, fun x hx => ?_⟩
    · simp only [fn_spec_beList.l3, r0]
      rw [okIx_t (i := 0) (by omega) (by rw [ilen_eq]; simp), br_t, leI_t (x := (o : Int)) (by omega), br_t]
      refine g1.trans ?_
      rw [add_one o (by omega)]
      exact f1
    · rcases Nat.lt_or_ge o o' with h8 | h8
      · refine (f4 o' m i (by omega) q2 q3 q4).trans (sumF_eqm fun j _ hj => ?_)
        rw [old o' m j h8 q2 q3 (by omega)]
        exact eqm_refl _
      · obtain rfl : o = o' := by omega
        rw [f5 _ (fun o2 m2 i2 a1 a2 a3 a4 hqq => by
          have := atN_inj (by omega) (by omega) (by omega) (by omega) hqq
          omega)]
        exact g4 m i (Nat.zero_le _) q3 q4
    · rw [f5 x (fun o' m i a1 a2 a3 a4 => hx o' m i (by omega) a2 a3 a4)]
      exact g5 x (fun m q hq hqm hqi => hx o m q (Nat.le_refl _) (by omega) hqm hqi)
/-- Along the second unknown: places of a line. -/
theorem pB_in {R : Type} (n : Nat) (a : List Int) (d0 d1 d2 o m : Nat) (K0 : List Int → List Int → List Int → Int → Int → Option R) (hd : d0 ≤ 4 ∧ d1 ≤ 4 ∧ d2 ≤ 4) (ho : o ≤ d0) (hm : m ≤ d2) :
    ∀ (e k i : Nat) (at' : List Int), d1 + 1 - i = e → i ≤ d1 + 1 → e < k → at'.length = i → (∀ q, q < i → cf at' q = ((atN d1 d2 o q m : Nat) : Int)) →
    ∃ r, fn_spec_beList.l22 n k a [(d0 : Int), (d1 : Int), (d2 : Int)] at' (o : Int) (m : Int) (i : Int) K0 = K0 a [(d0 : Int), (d1 : Int), (d2 : Int)] r (o : Int) (m : Int) ∧ r.length = d1 + 1 ∧ ∀ q, q < d1 + 1 → cf r q = ((atN d1 d2 o q m : Nat) : Int) := by
  have r0 : rd (.int .i64) [(d0 : Int), (d1 : Int), (d2 : Int)] (nat 1) = (d1 : Int) := rfl
  intro e
  induction e with
  | zero =>
    intro k i at' he hi hk hl hq
    obtain ⟨k, rfl⟩ : ∃ m, k = m + 1 := ⟨k - 1, by omega⟩
    refine ⟨at', ?_, by omega, fun q h => hq q (by omega)⟩
    simp only [fn_spec_beList.l22, r0]
    rw [okIx_t (i := 1) (by omega) (by rw [ilen_eq]; simp), br_t, leI_f (x := (i : Int)) (by omega), br_f]
  | succ e ih =>
    intro k i at' he hi hk hl hq
    obtain ⟨k, rfl⟩ : ∃ m, k = m + 1 := ⟨k - 1, by omega⟩
    obtain ⟨r, h1, h2⟩ := ih k (i + 1) (appL at' [((atN d1 d2 o i m : Nat) : Int)]) (by omega) (by omega) (by omega) (by simp [appL, hl]) (fun q h => by
      unfold appL
      rw [cf_app]
      by_cases h8 : q < at'.length
      · rw [if_pos h8]; exact hq q (by omega)
      · rw [if_neg h8]
        obtain rfl : q = i := by omega
        rw [hl, Nat.sub_self]
        rfl)
    refine ⟨r, ?_, h2⟩
    simp only [fn_spec_beList.l22, r0]
    rw [okIx_t (i := 1) (by omega) (by rw [ilen_eq]; simp), br_t, leI_t (x := (i : Int)) (by omega), br_t, at_f n d0 d1 d2 o i m hd.2.1 hd.2.2 (by omega) (by omega) (by omega), Option.bind_some, okApp_t (by simp [nadd]; omega), br_t, add_one i (by omega)]
    exact h1
theorem pB_mid {R : Type} (n : Nat) (d0 d1 d2 o : Nat) (K0 : List Int → List Int → Int → Option R) (hd : d0 ≤ 4 ∧ d1 ≤ 4 ∧ d2 ≤ 4) (ho : o ≤ d0) (hn : 1000001 < n) :
    ∀ (e k m : Nat) (a : List Int), d2 + 1 - m = e → m ≤ d2 + 1 → e < k → a.length = (d0 + 1) * (d1 + 1) * (d2 + 1) → AllR a →
    ∃ b, fn_spec_beList.l18 n k a [(d0 : Int), (d1 : Int), (d2 : Int)] (o : Int) (m : Int) K0 = K0 b [(d0 : Int), (d1 : Int), (d2 : Int)] (o : Int) ∧ b.length = (d0 + 1) * (d1 + 1) * (d2 + 1) ∧ AllR b ∧
      (∀ m' i, m ≤ m' → m' ≤ d2 → i ≤ d1 → eqm (cf b (atN d1 d2 o i m')) (sumF (fun j => MV d1 i j * cf a (atN d1 d2 o j m')) 0 (i + 1))) ∧
      (∀ x, (∀ m' i, m ≤ m' → m' ≤ d2 → i ≤ d1 → x ≠ atN d1 d2 o i m') → cf b x = cf a x) := by
  have r0 : rd (.int .i64) [(d0 : Int), (d1 : Int), (d2 : Int)] (nat 2) = (d2 : Int) := rfl
  intro e
  induction e with
  | zero =>
    intro k m a he hm hk hl hr
    obtain ⟨k, rfl⟩ : ∃ m, k = m + 1 := ⟨k - 1, by omega⟩
    refine ⟨a, ?_, hl, hr, fun m' i h1 h2 _ => by omega, fun x _ => rfl⟩
    simp only [fn_spec_beList.l18, r0]
    rw [okIx_t (i := 2) (by omega) (by rw [ilen_eq]; simp), br_t, leI_f (x := (m : Int)) (by omega), br_f]
  | succ e ih =>
    intro k m a he hm hk hl hr
    obtain ⟨k, rfl⟩ : ∃ m, k = m + 1 := ⟨k - 1, by omega⟩
    obtain ⟨at', h1, h2, h3⟩ := pB_in n a d0 d1 d2 o m (fun z15 z16 z17 z18 z19 => (fn_spec_beLine.f n z15 z17).bind fun y20 => fn_spec_beList.l18 n k y20 z16 z18 (add .i64 z19 1) K0) hd ho (by omega) (d1 + 1) n 0 [] (by omega) (by omega) (by omega) rfl (fun q h => by omega)
    obtain ⟨c, g1, g2, g3, g4, g5⟩ := line_f n a at' (fun q => atN d1 d2 o q m) d1 (by omega) h2 hr (fun q hq => ⟨h3 q hq, by rw [hl]; exact atN_bd (by omega) (by omega) (by omega)⟩) (fun q q' hq hq' hqq => by
      have := atN_inj (by omega) (by omega) (by omega) (by omega) hqq
      omega) hn
    obtain ⟨b, f1, f2, f3, f4, f5⟩ := ih k (m + 1) c (by omega) (by omega) (by omega) (by rw [g2]; exact hl) g3
    have old : ∀ m' j, m < m' → m' ≤ d2 → j ≤ d1 → cf c (atN d1 d2 o j m') = cf a (atN d1 d2 o j m') := fun m' j q1 q2 q3 => g5 _ (fun q hq hqq => by
      have := atN_inj (by omega) (by omega) (by omega) (by omega) hqq
      omega)
    refine ⟨b, ?_, f2, f3, fun m' i q1 q2 q3 => ?_, fun x hx => ?_⟩
    · simp only [fn_spec_beList.l18, r0]
      rw [okIx_t (i := 2) (by omega) (by rw [ilen_eq]; simp), br_t, leI_t (x := (m : Int)) (by omega), br_t]
      refine h1.trans ?_
      rw [g1, Option.bind_some, add_one m (by omega)]
      exact f1
    · rcases Nat.lt_or_ge m m' with h8 | h8
      · refine (f4 m' i (by omega) q2 q3).trans (sumF_eqm fun j _ hj => ?_)
        rw [old m' j h8 q2 (by omega)]
        exact eqm_refl _
      · obtain rfl : m = m' := by omega
        rw [f5 _ (fun m2 i2 a1 a2 a3 hqq => by
          have := atN_inj (by omega) (by omega) (by omega) (by omega) hqq
          omega)]
        exact g4 i (by omega)
    · rw [f5 x (fun m' i a1 a2 a3 => hx m' i (by omega) a2 a3)]
      exact g5 x (fun q hq => hx m q (Nat.le_refl _) (by omega) (by omega))
theorem pB_out {R : Type} (n : Nat) (d0 d1 d2 : Nat) (K0 : List Int → List Int → Option R) (hd : d0 ≤ 4 ∧ d1 ≤ 4 ∧ d2 ≤ 4) (hn : 1000001 < n) :
    ∀ (e k o : Nat) (a : List Int), d0 + 1 - o = e → o ≤ d0 + 1 → e < k → a.length = (d0 + 1) * (d1 + 1) * (d2 + 1) → AllR a →
    ∃ b, fn_spec_beList.l15 n k a [(d0 : Int), (d1 : Int), (d2 : Int)] (o : Int) K0 = K0 b [(d0 : Int), (d1 : Int), (d2 : Int)] ∧ b.length = (d0 + 1) * (d1 + 1) * (d2 + 1) ∧ AllR b ∧
      (∀ o' m i, o ≤ o' → o' ≤ d0 → m ≤ d2 → i ≤ d1 → eqm (cf b (atN d1 d2 o' i m)) (sumF (fun j => MV d1 i j * cf a (atN d1 d2 o' j m)) 0 (i + 1))) ∧
      (∀ x, (∀ o' m i, o ≤ o' → o' ≤ d0 → m ≤ d2 → i ≤ d1 → x ≠ atN d1 d2 o' i m) → cf b x = cf a x) := by
  have r0 : rd (.int .i64) [(d0 : Int), (d1 : Int), (d2 : Int)] (nat 0) = (d0 : Int) := rfl
  intro e
  induction e with
  | zero =>
    intro k o a he ho hk hl hr
    obtain ⟨k, rfl⟩ : ∃ m, k = m + 1 := ⟨k - 1, by omega⟩
    refine ⟨a, ?_, hl, hr, fun o' m i h1 h2 _ _ => by omega, fun x _ => rfl⟩
    simp only [fn_spec_beList.l15, r0]
    rw [okIx_t (i := 0) (by omega) (by rw [ilen_eq]; simp), br_t, leI_f (x := (o : Int)) (by omega), br_f]
  | succ e ih =>
    intro k o a he ho hk hl hr
    obtain ⟨k, rfl⟩ : ∃ m, k = m + 1 := ⟨k - 1, by omega⟩
    obtain ⟨c, g1, g2, g3, g4, g5⟩ := pB_mid n d0 d1 d2 o (fun z21 z22 z23 => fn_spec_beList.l15 n k z21 z22 (add .i64 z23 1) K0) hd (by omega) hn (d2 + 1) n 0 a (by omega) (by omega) (by omega) hl hr
    obtain ⟨b, f1, f2, f3, f4, f5⟩ := ih k (o + 1) c (by omega) (by omega) (by omega) g2 g3
    have old : ∀ o' m j, o < o' → o' ≤ d0 → m ≤ d2 → j ≤ d1 → cf c (atN d1 d2 o' j m) = cf a (atN d1 d2 o' j m) := fun o' m j q1 q2 q3 q4 => g5 _ (fun m2 q hq hqm hqi hqq => by
      have := atN_inj (by omega) (by omega) (by omega) (by omega) hqq
      omega)
    refine ⟨b, ?_, f2, f3, fun o' m i q1 q2 q3 q4 => ?_, fun x hx => ?_⟩
    · simp only [fn_spec_beList.l15, r0]
      rw [okIx_t (i := 0) (by omega) (by rw [ilen_eq]; simp), br_t, leI_t (x := (o : Int)) (by omega), br_t]
      refine g1.trans ?_
      rw [add_one o (by omega)]
      exact f1
    · rcases Nat.lt_or_ge o o' with h8 | h8
      · refine (f4 o' m i (by omega) q2 q3 q4).trans (sumF_eqm fun j _ hj => ?_)
        rw [old o' m j h8 q2 q3 (by omega)]
        exact eqm_refl _
      · obtain rfl : o = o' := by omega
        rw [f5 _ (fun o2 m2 i2 a1 a2 a3 a4 hqq => by
          have := atN_inj (by omega) (by omega) (by omega) (by omega) hqq
          omega)]
        exact g4 m i (Nat.zero_le _) q3 q4
    · rw [f5 x (fun o' m i a1 a2 a3 a4 => hx o' m i (by omega) a2 a3 a4)]
      exact g5 x (fun m q hq hqm hqi => hx o m q (Nat.le_refl _) (by omega) hqm hqi)
/-- Along the first unknown: places of a line. -/
theorem pC_in {R : Type} (n : Nat) (a : List Int) (d0 d1 d2 o m : Nat) (K0 : List Int → List Int → List Int → Int → Int → Option R) (hd : d0 ≤ 4 ∧ d1 ≤ 4 ∧ d2 ≤ 4) (ho : o ≤ d1) (hm : m ≤ d2) :
    ∀ (e k i : Nat) (at' : List Int), d0 + 1 - i = e → i ≤ d0 + 1 → e < k → at'.length = i → (∀ q, q < i → cf at' q = ((atN d1 d2 q o m : Nat) : Int)) →
    ∃ r, fn_spec_beList.l34 n k a [(d0 : Int), (d1 : Int), (d2 : Int)] at' (o : Int) (m : Int) (i : Int) K0 = K0 a [(d0 : Int), (d1 : Int), (d2 : Int)] r (o : Int) (m : Int) ∧ r.length = d0 + 1 ∧ ∀ q, q < d0 + 1 → cf r q = ((atN d1 d2 q o m : Nat) : Int) := by
  have r0 : rd (.int .i64) [(d0 : Int), (d1 : Int), (d2 : Int)] (nat 0) = (d0 : Int) := rfl
  intro e
  induction e with
  | zero =>
    intro k i at' he hi hk hl hq
    obtain ⟨k, rfl⟩ : ∃ m, k = m + 1 := ⟨k - 1, by omega⟩
    refine ⟨at', ?_, by omega, fun q h => hq q (by omega)⟩
    simp only [fn_spec_beList.l34, r0]
    rw [okIx_t (i := 0) (by omega) (by rw [ilen_eq]; simp), br_t, leI_f (x := (i : Int)) (by omega), br_f]
  | succ e ih =>
    intro k i at' he hi hk hl hq
    obtain ⟨k, rfl⟩ : ∃ m, k = m + 1 := ⟨k - 1, by omega⟩
    obtain ⟨r, h1, h2⟩ := ih k (i + 1) (appL at' [((atN d1 d2 i o m : Nat) : Int)]) (by omega) (by omega) (by omega) (by simp [appL, hl]) (fun q h => by
      unfold appL
      rw [cf_app]
      by_cases h8 : q < at'.length
      · rw [if_pos h8]; exact hq q (by omega)
      · rw [if_neg h8]
        obtain rfl : q = i := by omega
        rw [hl, Nat.sub_self]
        rfl)
    refine ⟨r, ?_, h2⟩
    simp only [fn_spec_beList.l34, r0]
    rw [okIx_t (i := 0) (by omega) (by rw [ilen_eq]; simp), br_t, leI_t (x := (i : Int)) (by omega), br_t, at_f n d0 d1 d2 i o m hd.2.1 hd.2.2 (by omega) (by omega) (by omega), Option.bind_some, okApp_t (by simp [nadd]; omega), br_t, add_one i (by omega)]
    exact h1
theorem pC_mid {R : Type} (n : Nat) (d0 d1 d2 o : Nat) (K0 : List Int → List Int → Int → Option R) (hd : d0 ≤ 4 ∧ d1 ≤ 4 ∧ d2 ≤ 4) (ho : o ≤ d1) (hn : 1000001 < n) :
    ∀ (e k m : Nat) (a : List Int), d2 + 1 - m = e → m ≤ d2 + 1 → e < k → a.length = (d0 + 1) * (d1 + 1) * (d2 + 1) → AllR a →
    ∃ b, fn_spec_beList.l30 n k a [(d0 : Int), (d1 : Int), (d2 : Int)] (o : Int) (m : Int) K0 = K0 b [(d0 : Int), (d1 : Int), (d2 : Int)] (o : Int) ∧ b.length = (d0 + 1) * (d1 + 1) * (d2 + 1) ∧ AllR b ∧
      (∀ m' i, m ≤ m' → m' ≤ d2 → i ≤ d0 → eqm (cf b (atN d1 d2 i o m')) (sumF (fun j => MV d0 i j * cf a (atN d1 d2 j o m')) 0 (i + 1))) ∧
      (∀ x, (∀ m' i, m ≤ m' → m' ≤ d2 → i ≤ d0 → x ≠ atN d1 d2 i o m') → cf b x = cf a x) := by
  have r0 : rd (.int .i64) [(d0 : Int), (d1 : Int), (d2 : Int)] (nat 2) = (d2 : Int) := rfl
  intro e
  induction e with
  | zero =>
    intro k m a he hm hk hl hr
    obtain ⟨k, rfl⟩ : ∃ m, k = m + 1 := ⟨k - 1, by omega⟩
    refine ⟨a, ?_, hl, hr, fun m' i h1 h2 _ => by omega, fun x _ => rfl⟩
    simp only [fn_spec_beList.l30, r0]
    rw [okIx_t (i := 2) (by omega) (by rw [ilen_eq]; simp), br_t, leI_f (x := (m : Int)) (by omega), br_f]
  | succ e ih =>
    intro k m a he hm hk hl hr
    obtain ⟨k, rfl⟩ : ∃ m, k = m + 1 := ⟨k - 1, by omega⟩
    obtain ⟨at', h1, h2, h3⟩ := pC_in n a d0 d1 d2 o m (fun z15 z16 z17 z18 z19 => (fn_spec_beLine.f n z15 z17).bind fun y20 => fn_spec_beList.l30 n k y20 z16 z18 (add .i64 z19 1) K0) hd ho (by omega) (d0 + 1) n 0 [] (by omega) (by omega) (by omega) rfl (fun q h => by omega)
    obtain ⟨c, g1, g2, g3, g4, g5⟩ := line_f n a at' (fun q => atN d1 d2 q o m) d0 (by omega) h2 hr (fun q hq => ⟨h3 q hq, by rw [hl]; exact atN_bd (by omega) (by omega) (by omega)⟩) (fun q q' hq hq' hqq => by
      have := atN_inj (by omega) (by omega) (by omega) (by omega) hqq
      omega) hn
    obtain ⟨b, f1, f2, f3, f4, f5⟩ := ih k (m + 1) c (by omega) (by omega) (by omega) (by rw [g2]; exact hl) g3
    have old : ∀ m' j, m < m' → m' ≤ d2 → j ≤ d0 → cf c (atN d1 d2 j o m') = cf a (atN d1 d2 j o m') := fun m' j q1 q2 q3 => g5 _ (fun q hq hqq => by
      have := atN_inj (by omega) (by omega) (by omega) (by omega) hqq
      omega)
    refine ⟨b, ?_, f2, f3, fun m' i q1 q2 q3 => ?_, fun x hx => ?_⟩
    · simp only [fn_spec_beList.l30, r0]
      rw [okIx_t (i := 2) (by omega) (by rw [ilen_eq]; simp), br_t, leI_t (x := (m : Int)) (by omega), br_t]
      refine h1.trans ?_
      rw [g1, Option.bind_some, add_one m (by omega)]
      exact f1
    · rcases Nat.lt_or_ge m m' with h8 | h8
      · refine (f4 m' i (by omega) q2 q3).trans (sumF_eqm fun j _ hj => ?_)
        rw [old m' j h8 q2 (by omega)]
        exact eqm_refl _
      · obtain rfl : m = m' := by omega
        rw [f5 _ (fun m2 i2 a1 a2 a3 hqq => by
          have := atN_inj (by omega) (by omega) (by omega) (by omega) hqq
          omega)]
        exact g4 i (by omega)
    · rw [f5 x (fun m' i a1 a2 a3 => hx m' i (by omega) a2 a3)]
      exact g5 x (fun q hq => hx m q (Nat.le_refl _) (by omega) (by omega))
theorem pC_out {R : Type} (n : Nat) (d0 d1 d2 : Nat) (K0 : List Int → List Int → Option R) (hd : d0 ≤ 4 ∧ d1 ≤ 4 ∧ d2 ≤ 4) (hn : 1000001 < n) :
    ∀ (e k o : Nat) (a : List Int), d1 + 1 - o = e → o ≤ d1 + 1 → e < k → a.length = (d0 + 1) * (d1 + 1) * (d2 + 1) → AllR a →
    ∃ b, fn_spec_beList.l27 n k a [(d0 : Int), (d1 : Int), (d2 : Int)] (o : Int) K0 = K0 b [(d0 : Int), (d1 : Int), (d2 : Int)] ∧ b.length = (d0 + 1) * (d1 + 1) * (d2 + 1) ∧ AllR b ∧
      (∀ o' m i, o ≤ o' → o' ≤ d1 → m ≤ d2 → i ≤ d0 → eqm (cf b (atN d1 d2 i o' m)) (sumF (fun j => MV d0 i j * cf a (atN d1 d2 j o' m)) 0 (i + 1))) ∧
      (∀ x, (∀ o' m i, o ≤ o' → o' ≤ d1 → m ≤ d2 → i ≤ d0 → x ≠ atN d1 d2 i o' m) → cf b x = cf a x) := by
  have r0 : rd (.int .i64) [(d0 : Int), (d1 : Int), (d2 : Int)] (nat 1) = (d1 : Int) := rfl
  intro e
  induction e with
  | zero =>
    intro k o a he ho hk hl hr
    obtain ⟨k, rfl⟩ : ∃ m, k = m + 1 := ⟨k - 1, by omega⟩
    refine ⟨a, ?_, hl, hr, fun o' m i h1 h2 _ _ => by omega, fun x _ => rfl⟩
    simp only [fn_spec_beList.l27, r0]
    rw [okIx_t (i := 1) (by omega) (by rw [ilen_eq]; simp), br_t, leI_f (x := (o : Int)) (by omega), br_f]
  | succ e ih =>
    intro k o a he ho hk hl hr
    obtain ⟨k, rfl⟩ : ∃ m, k = m + 1 := ⟨k - 1, by omega⟩
    obtain ⟨c, g1, g2, g3, g4, g5⟩ := pC_mid n d0 d1 d2 o (fun z21 z22 z23 => fn_spec_beList.l27 n k z21 z22 (add .i64 z23 1) K0) hd (by omega) hn (d2 + 1) n 0 a (by omega) (by omega) (by omega) hl hr
    obtain ⟨b, f1, f2, f3, f4, f5⟩ := ih k (o + 1) c (by omega) (by omega) (by omega) g2 g3
    have old : ∀ o' m j, o < o' → o' ≤ d1 → m ≤ d2 → j ≤ d0 → cf c (atN d1 d2 j o' m) = cf a (atN d1 d2 j o' m) := fun o' m j q1 q2 q3 q4 => g5 _ (fun m2 q hq hqm hqi hqq => by
      have := atN_inj (by omega) (by omega) (by omega) (by omega) hqq
      omega)
    refine ⟨b, ?_, f2, f3, fun o' m i q1 q2 q3 q4 => ?_, fun x hx => ?_⟩
    · simp only [fn_spec_beList.l27, r0]
      rw [okIx_t (i := 1) (by omega) (by rw [ilen_eq]; simp), br_t, leI_t (x := (o : Int)) (by omega), br_t]
      refine g1.trans ?_
      rw [add_one o (by omega)]
      exact f1
    · rcases Nat.lt_or_ge o o' with h8 | h8
      · refine (f4 o' m i (by omega) q2 q3 q4).trans (sumF_eqm fun j _ hj => ?_)
        rw [old o' m j h8 q2 q3 (by omega)]
        exact eqm_refl _
      · obtain rfl : o = o' := by omega
        rw [f5 _ (fun o2 m2 i2 a1 a2 a3 a4 hqq => by
          have := atN_inj (by omega) (by omega) (by omega) (by omega) hqq
          omega)]
        exact g4 m i (Nat.zero_le _) q3 q4
    · rw [f5 x (fun o' m i a1 a2 a3 a4 => hx o' m i (by omega) a2 a3 a4)]
      exact g5 x (fun m q hq hqm hqi => hx o m q (Nat.le_refl _) (by omega) hqm hqi)
/-- All Bernstein coefficients, times the denominator. -/
def BV (p : List Tm) (b : Bx) (d0 d1 d2 x y z : Nat) : Int := sumF (fun i => MV d0 x i * sumF (fun j => MV d1 y j * sumF (fun l => MV d2 z l * GV p b i j l) 0 (z + 1)) 0 (y + 1)) 0 (x + 1)
theorem list_f (n : Nat) (p : List Tm) (b : Bx) (hp : polyB p = true) (hb : boxB b = true) (hk : b.1 ≤ 4) (hn : 1000001 < n) :
    ∃ o, fn_spec_beList.f n p b.2.1 b.2.2 b.1 = some (o, degE p b.2.1.length) ∧ o.length = (dN p b.2.1.length 0 + 1) * (dN p b.2.1.length 1 + 1) * (dN p b.2.1.length 2 + 1) ∧ AllR o ∧
      ∀ x y z, x ≤ dN p b.2.1.length 0 → y ≤ dN p b.2.1.length 1 → z ≤ dN p b.2.1.length 2 → eqm (cf o (atN (dN p b.2.1.length 1) (dN p b.2.1.length 2) x y z)) (BV p b (dN p b.2.1.length 0) (dN p b.2.1.length 1) (dN p b.2.1.length 2) x y z) := by
  obtain ⟨w1, w2, w3, w4⟩ := boxB_of hb
  obtain ⟨o, g1, g2, g3, g4⟩ := grid_f n p b hp hb hk hn
  obtain ⟨eD, hd⟩ := degE_N p hp b.2.1.length w2.2
  generalize dN p b.2.1.length 0 = d0 at *
  generalize dN p b.2.1.length 1 = d1 at *
  generalize dN p b.2.1.length 2 = d2 at *
  obtain ⟨oA, a1, a2, a3, a4, _⟩ := pA_out n d0 d1 d2 (fun z24 z25 => fn_spec_beList.l15 n n z24 z25 0 (fun z49 z50 => fn_spec_beList.l27 n n z49 z50 0 (fun z74 z75 => some (z74, z75)))) hd hn (d0 + 1) n 0 o (by omega) (by omega) (by omega) g2 g3
  obtain ⟨oB, b1, b2, b3, b4, _⟩ := pB_out n d0 d1 d2 (fun z49 z50 => fn_spec_beList.l27 n n z49 z50 0 (fun z74 z75 => some (z74, z75))) hd hn (d0 + 1) n 0 oA (by omega) (by omega) (by omega) a2 a3
  obtain ⟨oC, c1, c2, c3, c4, _⟩ := pC_out n d0 d1 d2 (fun z74 z75 => some (z74, z75)) hd hn (d1 + 1) n 0 oB (by omega) (by omega) (by omega) b2 b3
  refine ⟨oC, ?_, c2, c3, fun x y z hx hy hz => ?_⟩
  · unfold fn_spec_beList.f
    rw [g1, Option.bind_some, eD]
    exact a1.trans (b1.trans c1)
  · refine (c4 y z x (Nat.zero_le _) hy hz hx).trans ?_
    unfold BV
    refine sumF_eqm fun i _ hi => (eqm_refl _).mul ((b4 i z y (Nat.zero_le _) (by omega) hz hy).trans (sumF_eqm fun j _ hj => (eqm_refl _).mul ((a4 i j z (Nat.zero_le _) (by omega) (by omega) hz).trans (sumF_eqm fun l _ hl => (eqm_refl _).mul (g4 i j l (by omega) (by omega) (by omega))))))
end
end Go.Proofs.Ytpfjneaoankllaa.Z

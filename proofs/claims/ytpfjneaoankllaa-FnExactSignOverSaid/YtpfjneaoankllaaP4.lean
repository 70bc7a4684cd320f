/- Denominators: both sides agree. -/
import Derived.Test.YtpfjneaoankllaaP3
set_option linter.unusedVariables false
set_option linter.unusedSimpArgs false
set_option maxRecDepth 100000
namespace Go.Proofs.Ytpfjneaoankllaa.Z
open Go.Proofs.Ytpfjneaoankllaa.Ev
noncomputable section
def pw (t : Tm) : Nat → Int
  | 0 => t.2.1
  | 1 => t.2.2.1
  | _ => t.2.2.2
/-- The greatest exponent of unknown k, from term i on; a: so far. -/
def mxS (p : List Tm) (k : Nat) : Nat → Nat → Int → Int
  | 0, _, a => a
  | d + 1, i, a => mxS p k d (i + 1) (mx a (pw (rd T4 p i) k))
theorem mx_le {a b c : Int} : mx a b ≤ c ↔ a ≤ c ∧ b ≤ c := by unfold mx; split <;> omega
theorem mx_ge (a b : Int) : a ≤ mx a b := by unfold mx; split <;> omega
theorem mxS_le {p : List Tm} {k : Nat} {c : Int} : ∀ {d i : Nat} {a : Int}, mxS p k d i a ≤ c ↔ a ≤ c ∧ ∀ j, i ≤ j → j < i + d → pw (rd T4 p j) k ≤ c
  | 0, i, a => by
    simp only [mxS]
    exact ⟨fun h => ⟨h, fun j h1 h2 => by omega⟩, fun h => h.1⟩
  | d + 1, i, a => by
    simp only [mxS]
    rw [mxS_le, mx_le]
    constructor
    · rintro ⟨⟨h1, h2⟩, h3⟩
      refine ⟨h1, fun j h4 h5 => ?_⟩
      rcases Nat.lt_or_ge i j with h6 | h6
      · exact h3 j (by omega) (by omega)
      · obtain rfl : i = j := by omega
        exact h2
    · rintro ⟨h1, h2⟩
      exact ⟨⟨h1, h2 i (Nat.le_refl _) (by omega)⟩, fun j h4 h5 => h2 j (by omega) (by omega)⟩
theorem mxS_ge (p : List Tm) (k : Nat) : ∀ (d i : Nat) (a : Int), a ≤ mxS p k d i a
  | 0, _, a => Int.le_refl _
  | d + 1, i, a => by
    simp only [mxS]
    exact Int.le_trans (mx_ge _ _) (mxS_ge p k d (i + 1) _)
theorem mx_assoc (a b c : Int) : mx (mx a b) c = mx a (mx b c) := by unfold mx; (repeat' split) <;> omega
theorem mxS_mx (p : List Tm) (k : Nat) : ∀ (d i : Nat) (a b : Int), mxS p k d i (mx a b) = mx a (mxS p k d i b)
  | 0, _, a, b => rfl
  | d + 1, i, a, b => by
    simp only [mxS]
    rw [mx_assoc, mxS_mx p k d (i + 1)]
theorem power_f (n : Nat) (t : Tm) (k : Nat) (hk : k ≤ 2) : fn_spec_poPower.f n t (k : Int) = some (pw t k) := by
  unfold fn_spec_poPower.f
  have h : k = 0 ∨ k = 1 ∨ k = 2 := by omega
  rcases h with rfl | rfl | rfl
  · rw [eqI_t (by omega), br_t]; rfl
  · rw [eqI_f (by omega), br_f, eqI_t (by omega), br_t]; rfl
  · rw [eqI_f (by omega), br_f, eqI_f (by omega), br_f]; rfl
theorem most_f (n : Nat) (a b : Int) : fn_spec_l1Most.f n a b = some (mx a b) := by
  unfold fn_spec_l1Most.f mx
  by_cases h : b < a
  · rw [ltI_t h, br_t, if_neg (by omega)]
  · rw [ltI_f h, br_f]
    by_cases h2 : b > a
    · rw [if_pos h2]
    · rw [if_neg h2, show a = b from by omega]
theorem degIn_l {R : Type} (n : Nat) (p : List Tm) (u : Nat) (hu : u ≤ 2) (K0 : Int → Option R) (hl : p.length ≤ 1000000) : ∀ (d k i : Nat) (a : Int), p.length - i = d → i ≤ p.length → d < k →
    fn_spec_poDegreeIn.l3 n k p (u : Int) a (ilen p) (i : Int) K0 = K0 (mxS p u d i a) := by
  intro d
  induction d with
  | zero =>
    intro k i a hd hi hk
    obtain ⟨k, rfl⟩ : ∃ m, k = m + 1 := ⟨k - 1, by omega⟩
    simp only [fn_spec_poDegreeIn.l3, mxS]
    rw [ltI_f (by rw [ilen_eq]; omega), br_f]
  | succ d ih =>
    intro k i a hd hi hk
    obtain ⟨k, rfl⟩ : ∃ m, k = m + 1 := ⟨k - 1, by omega⟩
    simp only [fn_spec_poDegreeIn.l3, mxS]
    rw [ltI_t (by rw [ilen_eq]; omega), br_t, okIx_t (by omega) (by rw [ilen_eq]; omega), br_t, nat_cast, power_f n _ u hu, Option.bind_some, most_f, Option.bind_some, add_one i (by omega)]
    exact ih k (i + 1) _ (by omega) (by omega) (by omega)
theorem degIn_f (n : Nat) (p : List Tm) (u : Nat) (hu : u ≤ 2) (hl : p.length ≤ 1000000) (hn : 1000001 < n) : fn_spec_poDegreeIn.f n p (u : Int) = some (mxS p u p.length 0 (-1)) := by
  unfold fn_spec_poDegreeIn.f
  exact degIn_l n p u hu _ hl p.length n 0 (-1) (by omega) (by omega) (by omega)
/-- A term has no unknown from number s on. -/
def tN (s X Y Z : Int) : Bool := (bnot (leI s 0) || bnot (ltI 0 X)) && ((bnot (leI s 1) || bnot (ltI 0 Y)) && (bnot (leI s 2) || bnot (ltI 0 Z)))
theorem need_l5 {R : Type} (n : Nat) (p : List Tm) (s len i X Y Z : Int) (K0 : Bool → Option R) (K1 : List Tm → Int → Int → Int → Option R) (hn : 4 < n) :
    fn_impl_needsAtMost.l5 n n p s len i X Y Z 0 K0 K1 = br (tN s X Y Z) (K1 p s len i) (K0 false) := by
  obtain ⟨n', rfl⟩ : ∃ m, n = m + 4 := ⟨n - 4, by omega⟩
  have h0 : rd (.int .i64) [X, Y, Z] (nat 0) = X := rfl
  have h1 : rd (.int .i64) [X, Y, Z] (nat 1) = Y := rfl
  have h2 : rd (.int .i64) [X, Y, Z] (nat 2) = Z := rfl
  have a1 : add .i64 0 1 = 1 := rfl
  have a2 : add .i64 1 1 = 2 := rfl
  have a3 : add .i64 2 1 = 3 := rfl
  have t0 : ltI 0 3 = true := ltI_t (by omega)
  have t1 : ltI 1 3 = true := ltI_t (by omega)
  have t2 : ltI 2 3 = true := ltI_t (by omega)
  have t3 : ltI 3 3 = false := ltI_f (by omega)
  have o0 : okIx 0 (inat 3) = true := by decide
  have o1 : okIx 1 (inat 3) = true := by decide
  have o2 : okIx 2 (inat 3) = true := by decide
  unfold tN
  simp only [fn_impl_needsAtMost.l5, h0, h1, h2, a1, a2, a3, t0, t1, t2, t3, o0, o1, o2, br_t, br_f]
  generalize leI s 0 = b0
  generalize leI s 1 = b1
  generalize leI s 2 = b2
  generalize ltI 0 X = c0
  generalize ltI 0 Y = c1
  generalize ltI 0 Z = c2
  cases b0 <;> cases c0 <;> cases b1 <;> cases c1 <;> cases b2 <;> cases c2 <;> rfl
def needS (p : List Tm) (s : Int) : Nat → Nat → Bool
  | 0, _ => true
  | d + 1, i => tN s (pw (rd T4 p i) 0) (pw (rd T4 p i) 1) (pw (rd T4 p i) 2) && needS p s d (i + 1)
theorem expo_f (n : Nat) (t : Tm) : fn_impl_Term__exponents.f n t = some (pw t 0, (pw t 1, (pw t 2, ()))) := rfl
theorem need_l {R : Type} (n : Nat) (p : List Tm) (s : Int) (K0 : Bool → Option R) (K1 : Unit → Option R) (hl : p.length ≤ 1000000) (hn : 4 < n) : ∀ (d k i : Nat), p.length - i = d → i ≤ p.length → d < k →
    fn_impl_needsAtMost.l2 n k p s (ilen p) (i : Int) K0 K1 = br (needS p s d i) (K1 ()) (K0 false) := by
  intro d
  induction d with
  | zero =>
    intro k i hd hi hk
    obtain ⟨k, rfl⟩ : ∃ m, k = m + 1 := ⟨k - 1, by omega⟩
    simp only [fn_impl_needsAtMost.l2, needS]
    rw [ltI_f (by rw [ilen_eq]; omega), br_f, br_t]
  | succ d ih =>
    intro k i hd hi hk
    obtain ⟨k, rfl⟩ : ∃ m, k = m + 1 := ⟨k - 1, by omega⟩
    simp only [fn_impl_needsAtMost.l2, needS]
    rw [ltI_t (by rw [ilen_eq]; omega), br_t, okIx_t (by omega) (by rw [ilen_eq]; omega), br_t, nat_cast, expo_f, Option.bind_some]
    dsimp only
    rw [need_l5 n p s _ _ _ _ _ _ _ hn, add_one i (by omega), ih k (i + 1) (by omega) (by omega) (by omega)]
    cases tN s (pw (rd T4 p i) 0) (pw (rd T4 p i) 1) (pw (rd T4 p i) 2) <;> rfl
theorem need_f (n : Nat) (p : List Tm) (s : Int) (hl : p.length ≤ 1000000) (hn : 1000001 < n) : fn_impl_needsAtMost.f n p s = some (needS p s p.length 0) := by
  unfold fn_impl_needsAtMost.f
  rw [show ((0 : Int)) = ((0 : Nat) : Int) from rfl, need_l n p s _ _ hl (by omega) p.length n 0 (by omega) (by omega) (by omega)]
  cases needS p s p.length 0 <;> rfl
theorem needS_iff {p : List Tm} {s : Int} : ∀ {d i : Nat}, needS p s d i = true ↔ ∀ j, i ≤ j → j < i + d → tN s (pw (rd T4 p j) 0) (pw (rd T4 p j) 1) (pw (rd T4 p j) 2) = true
  | 0, i => by
    simp only [needS, true_iff]
    intro j h1 h2
    omega
  | d + 1, i => by
    simp only [needS, Bool.and_eq_true]
    rw [needS_iff]
    constructor
    · rintro ⟨h1, h2⟩ j h3 h4
      rcases Nat.lt_or_ge i j with h6 | h6
      · exact h2 j (by omega) (by omega)
      · obtain rfl : i = j := by omega
        exact h1
    · intro h
      exact ⟨h i (Nat.le_refl _) (by omega), fun j h4 h5 => h j (by omega) (by omega)⟩
/-- The other side's test: no unknown from number s on. -/
def needB (p : List Tm) (s : Nat) : Bool := (bnot (decide (s ≤ 1)) || bnot (ltI 0 (mxS p 1 p.length 0 (-1)))) && (bnot (decide (s ≤ 2)) || bnot (ltI 0 (mxS p 2 p.length 0 (-1))))
theorem needB_eq (p : List Tm) (s : Nat) (h1 : 1 ≤ s) (h3 : s ≤ 3) : needS p (s : Int) p.length 0 = needB p s := by
  rw [Bool.eq_iff_iff, needS_iff]
  unfold needB tN
  have l0 : ∀ k, ltI 0 (mxS p k p.length 0 (-1)) = false ↔ ∀ j, 0 ≤ j → j < 0 + p.length → pw (rd T4 p j) k ≤ 0 := fun k => by
    rw [ltI_eq, decide_eq_false_iff_not]
    constructor
    · intro h
      exact (mxS_le.1 (show mxS p k p.length 0 (-1) ≤ 0 by omega)).2
    · intro h
      have := mxS_le.2 ⟨show (-1 : Int) ≤ 0 by omega, h⟩
      omega
  have b0 : ∀ b : Bool, bnot b = true ↔ b = false := fun b => by cases b <;> simp [bnot]
  have p0 : ∀ x : Int, ltI 0 x = false ↔ x ≤ 0 := fun x => by rw [ltI_eq, decide_eq_false_iff_not]; omega
  have q0 : ∀ x : Int, leI (s : Int) x = false ↔ x < (s : Int) := fun x => by rw [leI_eq, decide_eq_false_iff_not]; omega
  simp only [Bool.and_eq_true, Bool.or_eq_true, b0, l0, p0, q0, decide_eq_false_iff_not]
  constructor
  · intro h
    exact ⟨by
      rcases Nat.lt_or_ge 1 s with h4 | h4
      · exact .inl (by omega)
      · exact .inr fun j j1 j2 => by rcases (h j j1 j2).2.1 with h5 | h5 <;> omega, by
      rcases Nat.lt_or_ge 2 s with h4 | h4
      · exact .inl (by omega)
      · exact .inr fun j j1 j2 => by rcases (h j j1 j2).2.2 with h5 | h5 <;> omega⟩
  · rintro ⟨h, h'⟩ j j1 j2
    refine ⟨.inl (by omega), ?_, ?_⟩
    · rcases h with h | h
      · exact .inl (by omega)
      · exact .inr (h j j1 j2)
    · rcases h' with h | h
      · exact .inl (by omega)
      · exact .inr (h j j1 j2)
theorem asked_l4 {R : Type} (n : Nat) (p : List Tm) (s : Nat) (K0 : Bool → Option R) (K1 : Unit → Option R) (hl : p.length ≤ 1000000) (hn : 1000001 < n) (h1 : 1 ≤ s) (h3 : s ≤ 3) :
    fn_spec_beAsked.l4 n n p (s : Int) K0 K1 = br (needB p s) (K1 ()) (K0 false) := by
  obtain ⟨m, hm⟩ : ∃ m, n = m + 4 := ⟨n - 4, by omega⟩
  have t1 : ltI 1 3 = true := ltI_t (by omega)
  have t2 : ltI 2 3 = true := ltI_t (by omega)
  have t3 : ltI 3 3 = false := ltI_f (by omega)
  have a2 : add .i64 1 1 = 2 := rfl
  have a3 : add .i64 2 1 = 3 := rfl
  have d1 : fn_spec_poDegreeIn.f n p 1 = _ := degIn_f n p 1 (by omega) hl hn
  have d2 : fn_spec_poDegreeIn.f n p 2 = _ := degIn_f n p 2 (by omega) hl hn
  unfold needB
  have h : s = 1 ∨ s = 2 ∨ s = 3 := by omega
  have key : ∀ s : Int, fn_spec_beAsked.l4 n n p s K0 K1 = fn_spec_beAsked.l4 n (m + 4) p s K0 K1 := fun s => by rw [← hm]
  rw [key]
  rcases h with rfl | rfl | rfl
  · simp only [fn_spec_beAsked.l4, show ((1 : Nat) : Int) = 1 from rfl, t1, t2, t3, a2, a3, br_t, br_f, d1, d2, Option.bind_some]
    cases ltI 0 (mxS p 1 p.length 0 (-1)) <;> cases ltI 0 (mxS p 2 p.length 0 (-1)) <;> rfl
  · simp only [fn_spec_beAsked.l4, show ((2 : Nat) : Int) = 2 from rfl, t1, t2, t3, a2, a3, br_t, br_f, d1, d2, Option.bind_some]
    cases ltI 0 (mxS p 1 p.length 0 (-1)) <;> cases ltI 0 (mxS p 2 p.length 0 (-1)) <;> rfl
  · simp only [fn_spec_beAsked.l4, show ((3 : Nat) : Int) = 3 from rfl, t1, t2, t3, a2, a3, br_t, br_f, d1, d2, Option.bind_some]
    cases ltI 0 (mxS p 1 p.length 0 (-1)) <;> cases ltI 0 (mxS p 2 p.length 0 (-1)) <;> rfl
/-- A polynomial and a coarse box that belong to each other. -/
def askB (p : List Tm) (b : Bx) : Bool := polyB p && (boxB b && (leI b.1 4 && needB p b.2.1.length))
theorem asked_f (n : Nat) (p : List Tm) (b : Bx) (hl : p.length ≤ 1000000) (hn : 1000001 < n) : fn_spec_beAsked.f n p b = some (askB p b) := by
  unfold fn_spec_beAsked.f askB
  rw [poGood_f n p hl hn, Option.bind_some]
  cases h1 : polyB p
  · rfl
  · rw [bnot_t, br_f, bxGood_f n b (by omega), Option.bind_some]
    cases h2 : boxB b
    · rfl
    · obtain ⟨w1, w2, _, _⟩ := boxB_of h2
      rw [bnot_t, br_f]
      by_cases h3 : b.1 ≤ 4
      · rw [ltI_f (by omega), br_f, leI_t h3, ilen_eq, asked_l4 n p _ _ _ hl hn (by omega) (by omega)]
        cases needB p b.2.1.length <;> rfl
      · rw [ltI_t (by omega), br_t, leI_f h3]; rfl
theorem belongs_f (n : Nat) (p : List Tm) (b : Bx) (hl : p.length ≤ 1000000) (hn : 1000001 < n) : fn_impl_belongs.f n p b = some (askB p b) := by
  unfold fn_impl_belongs.f fn_impl_polyOver.f askB
  rw [isPoly_f n p hl hn, Option.bind_some]
  cases h1 : polyB p
  · rfl
  · rw [br_t, isBox_f n b (by omega), Option.bind_some]
    cases h2 : boxB b
    · rfl
    · obtain ⟨w1, w2, _, _⟩ := boxB_of h2
      rw [br_t, ilen_eq, need_f n p _ hl hn, Option.bind_some, needB_eq p _ (by omega) (by omega), Option.bind_some]
      cases needB p b.2.1.length
      · rw [br_f, Bool.and_false, Bool.and_false, Bool.and_false]
      · rw [br_t, Bool.and_true, Bool.true_and, Bool.true_and]
theorem askB_of {p : List Tm} {b : Bx} (h : askB p b = true) : polyB p = true ∧ boxB b = true ∧ b.1 ≤ 4 := by
  unfold askB at h
  simp only [Bool.and_eq_true] at h
  exact ⟨h.1, h.2.1, leI_of h.2.2.1⟩
end
end Go.Proofs.Ytpfjneaoankllaa.Z

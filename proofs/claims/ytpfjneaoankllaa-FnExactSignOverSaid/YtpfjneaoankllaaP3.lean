/- Degrees of polynomials over boxes: both sides agree. -/
import Derived.Test.YtpfjneaoankllaaP2
set_option linter.unusedVariables false
set_option linter.unusedSimpArgs false
set_option maxRecDepth 100000
namespace Go.Proofs.Ytpfjneaoankllaa.Z
open Go.Proofs.Ytpfjneaoankllaa.Ev
noncomputable section
def sideB (m lo hi : Int) : Bool := inB lo (-m) m && inB hi (lo + 1) m
def oddE (x : Int) : Bool := neI (rem x 2) 0
/-- Sides from number i on are valid; o: some number so far is odd. -/
def boxS (m : Int) (l h : List Int) : Nat → Nat → Bool → Bool
  | 0, _, o => o
  | d + 1, i, o => sideB m (rd I64 l i) (rd I64 h i) && boxS m l h d (i + 1) (o || (oddE (rd I64 l i) || oddE (rd I64 h i)))
theorem iBox_l (n : Nat) (b : Bx) (m : Int) (h0 : 0 < m) (h1 : m ≤ 2048) (hlen : b.2.2.length = b.2.1.length) (hl : b.2.1.length ≤ 3) : ∀ (d k i : Nat) (o : Bool), b.2.1.length - i = d → i ≤ b.2.1.length → d < k →
    fn_impl_isBox.l5 n k [b] b.2.1 m o (ilen b.2.1) (i : Int) (fun z => some z) (fun z => some z) = some (boxS m b.2.1 b.2.2 d i o) := by
  have hr : rd (.pair (.int .i64) (.pair (.slice 3 (.int .i64)) (.slice 3 (.int .i64)))) [b] 0 = b := rfl
  intro d
  induction d with
  | zero =>
    intro k i o hd hi hk
    obtain ⟨k, rfl⟩ : ∃ m, k = m + 1 := ⟨k - 1, by omega⟩
    simp only [fn_impl_isBox.l5, boxS]
    rw [ltI_f (by rw [ilen_eq]; omega), br_f]
  | succ d ih =>
    intro k i o hd hi hk
    obtain ⟨k, rfl⟩ : ∃ m, k = m + 1 := ⟨k - 1, by omega⟩
    have hok : okIx (i : Int) (ilen b.2.2) = true := okIx_t (by omega) (by rw [ilen_eq]; omega)
    have h2 : ∀ (x y : Option Bool), br (eqI 2 0) x y = y := fun x y => by rw [eqI_f (by omega), br_f]
    simp only [fn_impl_isBox.l5, boxS, hr, hok, br_t, nat_cast, h2]
    rw [ltI_t (by rw [ilen_eq]; omega), br_t, okIx_t (by omega) (by rw [ilen_eq]; omega), br_t, sub_in (x := 0) (y := m) (by omega) (by omega), Int.zero_sub, inside_f, Option.bind_some, add_one i (by omega)]
    unfold sideB
    cases q1 : inB (rd (.int .i64) b.2.1 i) (-m) m
    · rfl
    · have w1 := inB_t q1
      rw [bnot_t, br_f, add_in (by omega) (by omega), inside_f, Option.bind_some]
      cases q2 : inB (rd (.int .i64) b.2.2 i) (rd (.int .i64) b.2.1 i + 1) m
      · rfl
      · rw [bnot_t, br_f]
        have step : ∀ o', fn_impl_isBox.l5 n k [b] b.2.1 m o' (ilen b.2.1) ((i + 1 : Nat) : Int) (fun z => some z) (fun z => some z) = some (boxS m b.2.1 b.2.2 d (i + 1) o') := fun o' => ih k (i + 1) o' (by omega) (by omega) (by omega)
        rw [step, step]
        cases o
        · rw [br_f]
          unfold oddE
          cases q3 : neI (rem (rd (.int .i64) b.2.1 i) 2) 0
          · rw [br_f]; rfl
          · rw [br_t]; rfl
        · rw [br_t]; rfl
theorem sBox_l (n : Nat) (b : Bx) (m : Int) (h0 : 0 < m) (h1 : m ≤ 2048) (hlen : b.2.2.length = b.2.1.length) (hl : b.2.1.length ≤ 3) : ∀ (d k i : Nat) (o : Bool), b.2.1.length - i = d → i ≤ b.2.1.length → d < k →
    fn_spec_bxGood.l6 n k [b] b.2.1 m o (ilen b.2.1) (i : Int) (fun z => some z) (fun z => some z) = some (boxS m b.2.1 b.2.2 d i o) := by
  have hr : rd (.pair (.int .i64) (.pair (.slice 3 (.int .i64)) (.slice 3 (.int .i64)))) [b] 0 = b := rfl
  intro d
  induction d with
  | zero =>
    intro k i o hd hi hk
    obtain ⟨k, rfl⟩ : ∃ m, k = m + 1 := ⟨k - 1, by omega⟩
    simp only [fn_spec_bxGood.l6, boxS]
    rw [ltI_f (by rw [ilen_eq]; omega), br_f]
  | succ d ih =>
    intro k i o hd hi hk
    obtain ⟨k, rfl⟩ : ∃ m, k = m + 1 := ⟨k - 1, by omega⟩
    have hok : okIx (i : Int) (ilen b.2.2) = true := okIx_t (by omega) (by rw [ilen_eq]; omega)
    have h2 : ∀ (x y : Option Bool), br (eqI 2 0) x y = y := fun x y => by rw [eqI_f (by omega), br_f]
    simp only [fn_spec_bxGood.l6, boxS, hr, hok, br_t, nat_cast, h2]
    rw [ltI_t (by rw [ilen_eq]; omega), br_t, okIx_t (by omega) (by rw [ilen_eq]; omega), br_t, sub_in (x := 0) (y := m) (by omega) (by omega), Int.zero_sub, l1In_f, Option.bind_some, add_one i (by omega)]
    have side : sideB m (rd (.int .i64) b.2.1 i) (rd (.int .i64) b.2.2 i) = (inB (rd (.int .i64) b.2.1 i) (-m) m && (inB (rd (.int .i64) b.2.2 i) (-m) m && bnot (leI (rd (.int .i64) b.2.2 i) (rd (.int .i64) b.2.1 i)))) := by
      unfold sideB
      rw [inB_eq, inB_eq, inB_eq, leI_eq, Bool.eq_iff_iff]
      simp only [Bool.and_eq_true, decide_eq_true_eq, bnot, Bool.not_eq_true', decide_eq_false_iff_not]
      omega
    rw [side]
    cases q1 : inB (rd (.int .i64) b.2.1 i) (-m) m
    · rfl
    · rw [bnot_t, br_f, l1In_f, Option.bind_some]
      cases q2 : inB (rd (.int .i64) b.2.2 i) (-m) m
      · rfl
      · rw [bnot_t, br_f]
        cases q3 : leI (rd (.int .i64) b.2.2 i) (rd (.int .i64) b.2.1 i)
        · rw [br_f]
          have step : ∀ o', fn_spec_bxGood.l6 n k [b] b.2.1 m o' (ilen b.2.1) ((i + 1 : Nat) : Int) (fun z => some z) (fun z => some z) = some (boxS m b.2.1 b.2.2 d (i + 1) o') := fun o' => ih k (i + 1) o' (by omega) (by omega) (by omega)
          rw [step, step]
          cases o
          · rw [br_f]
            unfold oddE
            cases q4 : neI (rem (rd (.int .i64) b.2.1 i) 2) 0
            · rw [br_f]; rfl
            · rw [br_t]; rfl
          · rw [br_t]; rfl
        · rfl
def boxB (b : Bx) : Bool := inB b.1 0 8 && (inB (ilen b.2.1) 1 3 && (eqI (ilen b.2.2) (ilen b.2.1) && boxS (shl .i64 8 b.1) b.2.1 b.2.2 b.2.1.length 0 (eqI b.1 0)))
theorem most_of {K : Int} (h : 0 ≤ K ∧ K ≤ 8) : 0 < shl .i64 8 K ∧ shl .i64 8 K ≤ 2048 ∧ ∀ n, ∃ y, fn_spec_dyPower.f n K = some y ∧ mul .i64 8 y = shl .i64 8 K ∧ y = 2 ^ K.toNat := by
  have h9 : K = 0 ∨ K = 1 ∨ K = 2 ∨ K = 3 ∨ K = 4 ∨ K = 5 ∨ K = 6 ∨ K = 7 ∨ K = 8 := by omega
  unfold fn_spec_dyPower.f
  rcases h9 with rfl | rfl | rfl | rfl | rfl | rfl | rfl | rfl | rfl <;>
    exact ⟨by decide, by decide, fun n => ⟨_, by rw [ltI_f (by decide), br_f], by decide, by decide⟩⟩
theorem neI_bnot (x y : Int) : neI x y = bnot (eqI x y) := by rw [neI_eq, eqI_eq]; rfl
theorem isBox_f (n : Nat) (b : Bx) (hn : 100 < n) : fn_impl_isBox.f n b = some (boxB b) := by
  unfold fn_impl_isBox.f boxB
  rw [inside_f, Option.bind_some]
  cases h1 : inB b.1 0 8
  · rfl
  · have w1 := inB_t h1
    rw [bnot_t, br_f, inside_f, Option.bind_some]
    cases h2 : inB (ilen b.2.1) 1 3
    · rfl
    · have w2 := inB_t h2
      rw [ilen_eq] at w2
      rw [bnot_t, br_f, neI_bnot]
      cases h3 : eqI (ilen b.2.2) (ilen b.2.1)
      · rfl
      · have w3 := eqI_of h3
        rw [ilen_eq, ilen_eq] at w3
        obtain ⟨m0, m1, _⟩ := most_of w1
        rw [bnot_t, br_f, ltI_f (by omega), br_f]
        exact iBox_l n b _ m0 m1 (by omega) (by omega) b.2.1.length n 0 _ (by omega) (by omega) (by omega)
theorem bxGood_f (n : Nat) (b : Bx) (hn : 100 < n) : fn_spec_bxGood.f n b = some (boxB b) := by
  unfold fn_spec_bxGood.f boxB
  rw [l1In_f, Option.bind_some]
  cases h1 : inB b.1 0 8
  · rfl
  · have w1 := inB_t h1
    rw [bnot_t, br_f, l1In_f, Option.bind_some]
    cases h2 : inB (ilen b.2.1) 1 3
    · rfl
    · have w2 := inB_t h2
      rw [ilen_eq] at w2
      rw [bnot_t, br_f, neI_bnot]
      cases h3 : eqI (ilen b.2.2) (ilen b.2.1)
      · rfl
      · have w3 := eqI_of h3
        rw [ilen_eq, ilen_eq] at w3
        obtain ⟨m0, m1, m2⟩ := most_of w1
        obtain ⟨y, e1, e2, _⟩ := m2 n
        rw [bnot_t, br_f, e1, Option.bind_some, e2]
        exact sBox_l n b _ m0 m1 (by omega) (by omega) b.2.1.length n 0 _ (by omega) (by omega) (by omega)
theorem boxS_at {m : Int} {l h : List Int} : ∀ {d i : Nat} {o : Bool}, boxS m l h d i o = true → ∀ j, i ≤ j → j < i + d → sideB m (rd I64 l j) (rd I64 h j) = true
  | 0, i, _, _, j, h1, h2 => by omega
  | d + 1, i, o, hb, j, h1, h2 => by
    simp only [boxS, Bool.and_eq_true] at hb
    rcases Nat.lt_or_ge i j with h3 | h3
    · exact boxS_at hb.2 j (by omega) (by omega)
    · obtain rfl : i = j := by omega
      exact hb.1
theorem boxB_of {b : Bx} (h : boxB b = true) : (0 ≤ b.1 ∧ b.1 ≤ 8) ∧ (1 ≤ b.2.1.length ∧ b.2.1.length ≤ 3) ∧ b.2.2.length = b.2.1.length ∧ ∀ j, j < b.2.1.length → ∃ x y : Int, rd I64 b.2.1 j = x ∧ rd I64 b.2.2 j = y ∧ -2048 ≤ x ∧ x < y ∧ y ≤ 2048 := by
  unfold boxB at h
  simp only [Bool.and_eq_true] at h
  obtain ⟨h1, h2, h3, h4⟩ := h
  have w1 := inB_t h1
  have w2 := inB_t h2
  have w3 := eqI_of h3
  rw [ilen_eq] at w2
  rw [ilen_eq, ilen_eq] at w3
  obtain ⟨m0, m1, _⟩ := most_of w1
  refine ⟨w1, by omega, by omega, fun j hj => ?_⟩
  have := boxS_at h4 j (Nat.zero_le _) (by omega)
  unfold sideB at this
  simp only [Bool.and_eq_true] at this
  have a1 := inB_t this.1
  have a2 := inB_t this.2
  exact ⟨_, _, rfl, rfl, by omega, by omega, by omega⟩
end
end Go.Proofs.Ytpfjneaoankllaa.Z

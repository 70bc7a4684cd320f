/- Simple polygons: both sides agree. -/
import Derived.Test.YtlfiikkfodpbbaaP1
set_option linter.unusedVariables false
set_option linter.unusedSimpArgs false
set_option maxRecDepth 100000
namespace Go.Proofs.Ytlfiikkfodpbbaa.Z
open Go.Proofs.Ytlfiikkfodpbbaa.Ev
noncomputable section
def sg (x : Int) : Int := if 0 < x then 1 else if x < 0 then -1 else 0
theorem sign_f (n : Nat) (x : Int) : fn_spec_l1Sign.f n x = some (sg x) := by
  unfold fn_spec_l1Sign.f sg
  by_cases h : 0 < x
  · rw [ltI_t h, br_t, if_pos h]
  · rw [ltI_f h, br_f, if_neg h]
    by_cases h2 : x < 0
    · rw [ltI_t h2, br_t, if_pos h2]
    · rw [ltI_f h2, br_f, if_neg h2]
def opp (x y : Int) : Bool := decide ((0 < x ∧ y < 0) ∨ (x < 0 ∧ 0 < y))
theorem br_and (x y : Bool) : br x (some y) (some false) = some (x && y) := by cases x <;> rfl
theorem opp_i (x y : Int) : (bnot (boolEq (ltI 0 x) (ltI 0 y)) && (neI x 0 && neI y 0)) = opp x y := by
  unfold opp
  by_cases h1 : 0 < x
  · rw [ltI_t h1, neI_t (by omega)]
    by_cases h2 : 0 < y
    · rw [ltI_t h2, decide_eq_false (by omega)]; rfl
    · rw [ltI_f h2]
      by_cases h3 : y = 0
      · rw [neI_f h3, decide_eq_false (by omega)]; rfl
      · rw [neI_t h3, decide_eq_true (by omega)]; rfl
  · rw [ltI_f h1]
    by_cases h2 : 0 < y
    · rw [ltI_t h2, neI_t (x := y) (by omega)]
      by_cases h3 : x = 0
      · rw [neI_f h3, decide_eq_false (by omega)]; rfl
      · rw [neI_t h3, decide_eq_true (by omega)]; rfl
    · rw [ltI_f h2, decide_eq_false (by omega)]; rfl
theorem opp_s (x y : Int) : ltI (mul .i64 (sg x) (sg y)) 0 = opp x y := by
  unfold opp
  have hx : sg x = 1 ∧ 0 < x ∨ sg x = -1 ∧ x < 0 ∨ sg x = 0 ∧ x = 0 := by unfold sg; (repeat' split) <;> omega
  have hy : sg y = 1 ∧ 0 < y ∨ sg y = -1 ∧ y < 0 ∨ sg y = 0 ∧ y = 0 := by unfold sg; (repeat' split) <;> omega
  rcases hx with ⟨e, h⟩ | ⟨e, h⟩ | ⟨e, h⟩ <;> rcases hy with ⟨f, k⟩ | ⟨f, k⟩ | ⟨f, k⟩ <;>
    rw [e, f, mul_in (by omega) (by omega)] <;> first | (rw [ltI_t (by omega), decide_eq_true (by omega)]) | (rw [ltI_f (by omega), decide_eq_false (by omega)])
def meetB (a b c d : Int × Int) : Bool := betB a b c || (betB a b d || (betB c d a || (betB c d b || (opp (turnI a b c) (turnI a b d) && opp (turnI c d a) (turnI c d b)))))
theorem doMeet_f (n : Nat) (a b c d : Int × Int) : fn_impl_doMeet.f n a b c d = some (meetB a b c d) := by
  unfold fn_impl_doMeet.f meetB
  rw [isBetween_f, Option.bind_some]
  cases betB a b c
  · rw [br_f, isBetween_f, Option.bind_some, Bool.false_or]
    cases betB a b d
    · rw [br_f, isBetween_f, Option.bind_some, Bool.false_or]
      cases betB c d a
      · rw [br_f, isBetween_f, Option.bind_some, Bool.false_or]
        cases betB c d b
        · simp only [br_f, turn_f, Option.bind_some, Bool.false_or, br_and]
          rw [← opp_i, ← opp_i]
          congr 1
          cases bnot (boolEq (ltI 0 (turnI a b c)) (ltI 0 (turnI a b d))) <;> cases bnot (boolEq (ltI 0 (turnI c d a)) (ltI 0 (turnI c d b))) <;> cases neI (turnI a b c) 0 <;> cases neI (turnI a b d) 0 <;> rfl
        · rfl
      · rfl
    · rfl
  · rfl
theorem wiMeet_f (n : Nat) (a b c d : Int × Int) : fn_spec_wiMeet.f n a b c d = some (meetB a b c d) := by
  unfold fn_spec_wiMeet.f meetB
  rw [wiOnEdge_f, Option.bind_some]
  cases betB a b c
  · rw [br_f, wiOnEdge_f, Option.bind_some, Bool.false_or]
    cases betB a b d
    · rw [br_f, wiOnEdge_f, Option.bind_some, Bool.false_or]
      cases betB c d a
      · rw [br_f, wiOnEdge_f, Option.bind_some, Bool.false_or]
        cases betB c d b
        · simp only [br_f, wiSide_f, sign_f, Option.bind_some, Bool.false_or, opp_s, br_and]
        · rfl
      · rfl
    · rfl
  · rfl
theorem bet_self (a b : Int × Int) : betB a b a = true := by
  unfold betB turnI inB
  have z : ∀ x : Int, sub .i64 x x = 0 := fun x => by rw [sub_in (by omega) (by omega)]; omega
  have m1 : ∀ x : Int, mul .i64 x 0 = 0 := fun x => by rw [mul_in (by simp) (by simp)]; simp
  rw [z, z, m1, m1, z, eqI_t rfl]
  have h1 : ∀ x y : Int, mn x y ≤ x ∧ x ≤ mx x y := fun x y => by unfold mn mx; constructor <;> split <;> omega
  rw [leI_t (h1 _ _).1, leI_t (h1 _ _).2, leI_t (h1 _ _).1, leI_t (h1 _ _).2]
  rfl
theorem samB_iff {a b : Int × Int} : samB a b = true ↔ a = b := by
  unfold samB andB
  rw [Bool.and_eq_true]
  constructor
  · rintro ⟨h1, h2⟩
    exact Prod.ext (eqI_of h1) (eqI_of h2)
  · rintro rfl
    exact ⟨eqI_t rfl, eqI_t rfl⟩
/-- All of d numbers from k on. -/
def allF (f : Nat → Bool) : Nat → Nat → Bool
  | 0, _ => true
  | d + 1, k => f k && allF f d (k + 1)
theorem allF_iff (f : Nat → Bool) : ∀ (d k : Nat), allF f d k = true ↔ ∀ j, k ≤ j → j < k + d → f j = true
  | 0, k => by simp only [allF, true_iff]; intro j h1 h2; omega
  | d + 1, k => by
    simp only [allF, Bool.and_eq_true, allF_iff f d (k + 1)]
    constructor
    · rintro ⟨h1, h2⟩ j h3 h4
      by_cases e : j = k
      · rw [e]; exact h1
      · exact h2 j (by omega) (by omega)
    · intro h
      exact ⟨h k (Nat.le_refl _) (by omega), fun j h3 h4 => h j (by omega) (by omega)⟩
theorem con_l {R : Type} (n : Nat) (l : List (Int × Int)) (x : Int × Int) (K0 : Int → Option R) (K1 : Unit → Option R) : ∀ (d k i : Nat), l.length - i = d → i ≤ l.length → d < k → l.length ≤ 1000000 →
    ∃ j : Nat, fn_impl_Spot__76.l2 n k l [x] (ilen l) (i : Int) K0 K1 = br (allF (fun j => !samB x (cor l j)) d i) (K1 ()) (K0 (j : Int)) := by
  intro d
  induction d with
  | zero =>
    intro k i hd hi hk hl
    obtain ⟨k, rfl⟩ : ∃ m, k = m + 1 := ⟨k - 1, by omega⟩
    refine ⟨0, ?_⟩
    simp only [fn_impl_Spot__76.l2]
    rw [ltI_f (by rw [ilen_eq]; omega), br_f]
    rfl
  | succ d ih =>
    intro k i hd hi hk hl
    obtain ⟨k, rfl⟩ : ∃ m, k = m + 1 := ⟨k - 1, by omega⟩
    have hlt : i < l.length := by omega
    simp only [fn_impl_Spot__76.l2, allF]
    rw [ltI_t (by rw [ilen_eq]; omega), br_t, okIx_t (by omega) (by rw [ilen_eq]; omega), br_t, nat_cast]
    change ∃ j : Nat, br (samB x (cor l i)) _ _ = _
    cases samB x (cor l i)
    · rw [br_f, add_one i (by omega)]
      exact ih k (i + 1) (by omega) (by omega) (by omega) hl
    · exact ⟨i, rfl⟩
theorem con_f (n : Nat) (l : List (Int × Int)) (x : Int × Int) (hl : l.length ≤ 1000000) (hn : 1000001 < n) : fn_impl_Spot_.f n l x = some (!allF (fun j => !samB x (cor l j)) l.length 0) := by
  unfold fn_impl_Spot_.f fn_impl_Spot__76.f
  obtain ⟨j, hj⟩ := con_l n l x (fun z4 : Int => some z4) (fun _ => some (-1 : Int)) l.length n 0 (by omega) (by omega) (by omega) hl
  have hj : fn_impl_Spot__76.l2 n n l [x] (ilen l) 0 (fun z4 : Int => some z4) (fun _ => some (-1 : Int)) = _ := hj
  rw [hj]
  cases allF (fun j => !samB x (cor l j)) l.length 0
  · rw [br_f, Option.bind_some, leI_t (by omega)]; rfl
  · rw [br_t, Option.bind_some, leI_f (by omega)]; rfl
/-- Corner i is none of those ahead. -/
def newB (l : List (Int × Int)) (i : Nat) : Bool := allF (fun j => !samB (cor l i) (cor l j)) i 0
theorem cor_pre (l : List (Int × Int)) (i j : Nat) (hj : j < i) (hi : i ≤ l.length) : cor (preL l i) j = cor l j := by
  unfold cor preL
  rw [rd_at Sp _ j (by simp; omega), rd_at Sp l j (by omega)]
  simp
theorem dup_l {R : Type} (n : Nat) (l : List (Int × Int)) (hn : 1000001 < n) (m : Int) (K0 : Bool → Option R) (K1 : List (Int × Int) → Int → Option R) : ∀ (d k i : Nat), l.length - i = d → i ≤ l.length → d < k → l.length ≤ 1000000 →
    fn_impl_isSimple.l3 n k l l m (ilen l) (i : Int) K0 K1 = br (allF (newB l) d i) (K1 l m) (K0 false) := by
  intro d
  induction d with
  | zero =>
    intro k i hd hi hk hl
    obtain ⟨k, rfl⟩ : ∃ m, k = m + 1 := ⟨k - 1, by omega⟩
    simp only [fn_impl_isSimple.l3]
    rw [ltI_f (by rw [ilen_eq]; omega), br_f]
    rfl
  | succ d ih =>
    intro k i hd hi hk hl
    obtain ⟨k, rfl⟩ : ∃ m, k = m + 1 := ⟨k - 1, by omega⟩
    have hlt : i < l.length := by omega
    have hlen : (preL l i).length = i := by unfold preL; simp; omega
    simp only [fn_impl_isSimple.l3, allF]
    rw [ltI_t (by rw [ilen_eq]; omega), br_t, okIx_t (by omega) (by rw [ilen_eq]; omega), br_t, okSl_t (by omega) (by rw [ilen_eq]; omega), br_t, nat_cast, con_f n _ _ (by rw [hlen]; omega) hn, hlen, Option.bind_some]
    have e : allF (fun j => !samB (rd Sp l i) (cor (preL l i) j)) i 0 = newB l i := by
      unfold newB
      rw [Bool.eq_iff_iff, allF_iff, allF_iff]
      constructor
      · intro h j h1 h2
        have := h j h1 h2
        rw [cor_pre l i j (by omega) hi] at this
        exact this
      · intro h j h1 h2
        rw [cor_pre l i j (by omega) hi]
        exact h j h1 h2
    change br (!allF (fun j => !samB (rd Sp l i) (cor (preL l i) j)) i 0) _ _ = _
    rw [e]
    cases newB l i
    · rfl
    · rw [Bool.not_true, br_f, add_one i (by omega), Bool.true_and]
      exact ih k (i + 1) (by omega) (by omega) (by omega) hl
def pairB (l : List (Int × Int)) (i k : Nat) : Bool :=
  if samB (nx l i) (cor l k) = true then !(betB (cor l i) (nx l i) (nx l k) || betB (cor l k) (nx l k) (cor l i))
  else if samB (nx l k) (cor l i) = true then !(betB (cor l i) (nx l i) (cor l k) || betB (cor l k) (nx l k) (nx l i))
  else !meetB (cor l i) (nx l i) (cor l k) (nx l k)
def simI (l : List (Int × Int)) : Bool := allF (newB l) l.length 0 && (allF (fun i => allF (pairB l i) (l.length - (i + 1)) (i + 1)) l.length 0 && leI 3 (ilen l))
def edgeB (l : List (Int × Int)) (i : Nat) : Bool := !(betB (cor l i) (nx l i) (nx l ((i + 1) % l.length)) || betB (nx l i) (nx l ((i + 1) % l.length)) (cor l i))
def farB (l : List (Int × Int)) (i k : Nat) : Bool := !(!decide ((k + 1) % l.length = i) && meetB (cor l i) (nx l i) (cor l k) (nx l k))
def simS (l : List (Int × Int)) : Bool := leI 3 (ilen l) && allF (fun i => edgeB l i && allF (farB l i) (l.length - (i + 2)) (i + 2)) l.length 0
theorem polyS_adj (l : List (Int × Int)) : ∀ (d i j : Nat), polyS l d i = true → i ≤ j → j < i + d → samB (cor l j) (nx l j) = false
  | 0, i, j, _, h1, h2 => by omega
  | d + 1, i, j, h, h1, h2 => by
    simp only [polyS, Bool.and_eq_true] at h
    by_cases e : j = i
    · rw [e]; simpa using h.2.1
    · exact polyS_adj l d (i + 1) j h.2.2 (by omega) (by omega)
theorem good_adj {l : List (Int × Int)} (h : goodB l = true) : ∀ j, j < l.length → cor l j ≠ nx l j := fun j hj e => by
  unfold goodB at h
  rw [Bool.and_eq_true] at h
  have := polyS_adj l l.length 0 j h.2 (by omega) (by omega)
  rw [samB_iff.2 e] at this
  cases this
theorem samB_ne {a b : Int × Int} (h : a ≠ b) : samB a b = false := by
  cases hs : samB a b
  · rfl
  · exact absurd (samB_iff.1 hs) h
theorem sim_eq (l : List (Int × Int)) (hg : goodB l = true) : simI l = simS l := by
  have hadj := good_adj hg
  have hlen := goodB_len hg
  unfold simI simS
  by_cases h3 : (3 : Int) ≤ ilen l
  · have hN : 3 ≤ l.length := by rw [ilen_eq] at h3; omega
    rw [leI_t h3, Bool.true_and, Bool.and_true]
    have nxc : ∀ i, nx l i = cor l ((i + 1) % l.length) := fun i => rfl
    have nx1 : ∀ i, i + 1 < l.length → nx l i = cor l (i + 1) := fun i hi => by rw [nxc, Nat.mod_eq_of_lt hi]
    have nx0 : nx l (l.length - 1) = cor l 0 := by rw [nxc, show l.length - 1 + 1 = l.length by omega, Nat.mod_self]
    have md : ∀ k, k < l.length → (k + 1) % l.length = if k + 1 = l.length then 0 else k + 1 := fun k hk => by
      split
      · rename_i e; rw [e, Nat.mod_self]
      · exact Nat.mod_eq_of_lt (by omega)
    rw [Bool.eq_iff_iff, Bool.and_eq_true, allF_iff, allF_iff, allF_iff]
    constructor
    · rintro ⟨hnew, hpair⟩ i _ hi
      have hdis : ∀ p q, p < l.length → q < l.length → p ≠ q → cor l p ≠ cor l q := fun p q hp hq hpq e => by
        rcases Nat.lt_or_ge p q with h | h
        · have := (allF_iff _ _ _).1 (hnew q (by omega) (by omega)) p (by omega) (by omega)
          rw [samB_iff.2 e.symm] at this
          cases this
        · have := (allF_iff _ _ _).1 (hnew p (by omega) (by omega)) q (by omega) (by omega)
          rw [samB_iff.2 e] at this
          cases this
      have hp : ∀ i k, i < k → k < l.length → pairB l i k = true := fun i k h1 h2 => (allF_iff _ _ _).1 (hpair i (by omega) (by omega)) k (by omega) (by omega)
      rw [Bool.and_eq_true]
      constructor
      · by_cases hi1 : i + 1 < l.length
        · have h := hp i (i + 1) (by omega) hi1
          unfold pairB at h
          rw [nx1 i hi1, if_pos (samB_iff.2 rfl)] at h
          unfold edgeB
          rw [Nat.mod_eq_of_lt hi1, nx1 i hi1]
          exact h
        · have e : i = l.length - 1 := by omega
          have h := hp 0 (l.length - 1) (by omega) (by omega)
          unfold pairB at h
          rw [nx1 0 (by omega), samB_ne (hdis _ _ (by omega) (by omega) (by omega)), if_neg (by simp), nx0, if_pos (samB_iff.2 rfl)] at h
          unfold edgeB
          rw [e, nx0, show l.length - 1 + 1 = l.length by omega, Nat.mod_self, nx1 0 (by omega)]
          rw [Bool.or_comm]
          exact h
      · rw [allF_iff]
        intro k hk1 hk2
        have hk : k < l.length := by omega
        have h := hp i k (by omega) hk
        unfold pairB at h
        rw [nx1 i (by omega), samB_ne (hdis _ _ (by omega) hk (by omega)), if_neg (by simp)] at h
        unfold farB
        rw [nx1 i (by omega)]
        by_cases hki : (k + 1) % l.length = i
        · rw [decide_eq_true hki]; rfl
        · have hlt : (k + 1) % l.length < l.length := Nat.mod_lt _ (by omega)
          rw [nxc k, samB_ne (hdis _ _ hlt (by omega) hki), if_neg (by simp)] at h
          rw [decide_eq_false hki, nxc k]
          simpa using h
    · intro hs
      have hedge : ∀ i, i < l.length → edgeB l i = true := fun i hi => by
        have := hs i (by omega) (by omega)
        rw [Bool.and_eq_true] at this
        exact this.1
      have hfar : ∀ i k, i + 2 ≤ k → k < l.length → (k + 1) % l.length ≠ i → meetB (cor l i) (nx l i) (cor l k) (nx l k) = false := fun i k h1 h2 h3 => by
        have := hs i (by omega) (by omega)
        rw [Bool.and_eq_true] at this
        have := (allF_iff _ _ _).1 this.2 k (by omega) (by omega)
        unfold farB at this
        rw [decide_eq_false h3] at this
        simpa using this
      have hlt2 : ∀ j i, j < i → i < l.length → cor l i ≠ cor l j := fun j i h1 h2 e => by
        by_cases a1 : i = j + 1
        · have := hadj j (by omega)
          rw [nx1 j (by omega), ← a1] at this
          exact this e.symm
        · by_cases a2 : j = 0 ∧ i = l.length - 1
          · have := hadj i h2
            rw [a2.2, nx0, ← a2.1, ← a2.2] at this
            exact this e
          · have h := hfar j i (by omega) h2 (by rw [md i h2]; split <;> omega)
            unfold meetB at h
            rw [e, bet_self] at h
            cases h
      have hdis : ∀ p q, p < l.length → q < l.length → p ≠ q → cor l p ≠ cor l q := fun p q hp hq hpq e => by
        rcases Nat.lt_or_ge p q with h | h
        · exact hlt2 p q h hq e.symm
        · exact hlt2 q p (by omega) hp e
      refine ⟨fun i _ hi => ?_, fun i _ hi => ?_⟩
      · unfold newB
        rw [allF_iff]
        intro j _ hj
        rw [samB_ne (hlt2 j i (by omega) (by omega))]
        rfl
      · rw [allF_iff]
        intro k hk1 hk2
        have hk : k < l.length := by omega
        unfold pairB
        by_cases a1 : k = i + 1
        · have h := hedge i (by omega)
          unfold edgeB at h
          rw [Nat.mod_eq_of_lt (by omega), nx1 i (by omega)] at h
          rw [a1, nx1 i (by omega), if_pos (samB_iff.2 rfl)]
          exact h
        · rw [nx1 i (by omega), samB_ne (hdis _ _ (by omega) hk (by omega)), if_neg (by simp)]
          by_cases hki : (k + 1) % l.length = i
          · have hk' : k = l.length - 1 ∧ i = 0 := by rw [md k hk] at hki; split at hki <;> omega
            have h := hedge (l.length - 1) (by omega)
            unfold edgeB at h
            rw [nx0, show l.length - 1 + 1 = l.length by omega, Nat.mod_self, nx1 0 (by omega), Bool.or_comm] at h
            rw [hk'.1, hk'.2, nx0, if_pos (samB_iff.2 rfl)]
            exact h
          · have hlt : (k + 1) % l.length < l.length := Nat.mod_lt _ (by omega)
            have h := hfar i k (by omega) hk hki
            rw [nx1 i (by omega)] at h
            rw [nxc k, samB_ne (hdis _ _ hlt (by omega) hki), if_neg (by simp), ← nxc k, h]
            rfl
  · rw [leI_f h3, Bool.and_false, Bool.and_false, Bool.false_and]
theorem s14_f {R : Type} (n : Nat) (l : List (Int × Int)) (i k : Nat) (hi : i < l.length) (hk : k < l.length) (hl : l.length ≤ 1000000) (u v : Int) (K0 : (List (Int × Int)) → (List (Int × Int)) → (List (Int × Int)) → (List (Int × Int)) → (List (Int × Int)) → Int → Int → Int → Int → Int → Option R) :
    fn_impl_isSimple.s14 n l (ilen l) (i : Int) (k : Int) u v K0 = K0 l [cor l i] [nx l i] [cor l k] [nx l k] (ilen l) (i : Int) (k : Int) u v := by
  simp only [fn_impl_isSimple.s14, agree_self]
  rw [okIx_t (by omega) (by rw [ilen_eq]; omega), br_t, eqI_f (by rw [ilen_eq]; omega), br_f, nx_rem l i hi hl, okIx_t (by omega) (by rw [ilen_eq]; have := nx_lt l i hi; omega), br_t, okIx_t (by omega) (by rw [ilen_eq]; omega), br_t, br_f, nx_rem l k hk hl, okIx_t (by omega) (by rw [ilen_eq]; have := nx_lt l k hk; omega), br_t]
  simp only [nat_cast]
  rfl
theorem pair_l {R : Type} (n : Nat) (l : List (Int × Int)) (i : Nat) (u v : Int) (K0 : Bool → Option R) (K1 : List (Int × Int) → Int → Int → Int → Option R) : ∀ (d f k : Nat), l.length - k = d → i < k → k ≤ l.length → d < f → l.length ≤ 1000000 →
    fn_impl_isSimple.l12 n f l (ilen l) (i : Int) (k : Int) u v K0 K1 = br (allF (pairB l i) d k) (K1 l (ilen l) u v) (K0 false) := by
  intro d
  induction d with
  | zero =>
    intro f k hd hik hk hf hl
    obtain ⟨f, rfl⟩ : ∃ m, f = m + 1 := ⟨f - 1, by omega⟩
    simp only [fn_impl_isSimple.l12]
    rw [ltI_f (by rw [ilen_eq]; omega), br_f]
    rfl
  | succ d ih =>
    intro f k hd hik hk hf hl
    obtain ⟨f, rfl⟩ : ∃ m, f = m + 1 := ⟨f - 1, by omega⟩
    have hlt : k < l.length := by omega
    have r0 : ∀ y : Int × Int, rd (.pair (.int .i64) (.int .i64)) [y] 0 = y := fun y => rfl
    have go : ∀ x y : Bool, br x (K0 false) (br y (K0 false) (fn_impl_isSimple.l12 n f l (ilen l) (i : Int) (add .i64 (k : Int) 1) u v K0 K1)) = br (!(x || y) && allF (pairB l i) d (k + 1)) (K1 l (ilen l) u v) (K0 false) := fun x y => by
      rw [add_one k (by omega), ih f (k + 1) (by omega) (by omega) (by omega) (by omega) hl]
      cases x <;> cases y <;> rfl
    simp only [fn_impl_isSimple.l12, allF]
    rw [ltI_t (by rw [ilen_eq]; omega), br_t, s14_f n l i k (by omega) hlt hl]
    simp only [r0, isBetween_f, doMeet_f, Option.bind_some]
    change br (samB (nx l i) (cor l k)) _ (br (samB (nx l k) (cor l i)) _ _) = _
    unfold pairB
    cases samB (nx l i) (cor l k)
    · rw [br_f, if_neg (by simp)]
      cases samB (nx l k) (cor l i)
      · rw [br_f, if_neg (by simp)]
        have := go false (meetB (cor l i) (nx l i) (cor l k) (nx l k))
        rw [br_f, Bool.false_or] at this
        exact this
      · rw [br_t, if_pos rfl]
        exact go _ _
    · rw [br_t, if_pos rfl]
      exact go _ _
theorem all_l {R : Type} (n : Nat) (l : List (Int × Int)) (hn : 1000001 < n) (K0 : Bool → Option R) (K1 : Int → Option R) : ∀ (d f i : Nat), l.length - i = d → i ≤ l.length → d < f → l.length ≤ 1000000 →
    fn_impl_isSimple.l9 n f l (ilen l) (ilen l) (i : Int) K0 K1 = br (allF (fun i => allF (pairB l i) (l.length - (i + 1)) (i + 1)) d i) (K1 (ilen l)) (K0 false) := by
  intro d
  induction d with
  | zero =>
    intro f i hd hi hf hl
    obtain ⟨f, rfl⟩ : ∃ m, f = m + 1 := ⟨f - 1, by omega⟩
    simp only [fn_impl_isSimple.l9]
    rw [ltI_f (by rw [ilen_eq]; omega), br_f]
    rfl
  | succ d ih =>
    intro f i hd hi hf hl
    obtain ⟨f, rfl⟩ : ∃ m, f = m + 1 := ⟨f - 1, by omega⟩
    have hlt : i < l.length := by omega
    simp only [fn_impl_isSimple.l9, allF]
    rw [ltI_t (by rw [ilen_eq]; omega), br_t, add_one i (by omega), pair_l n l i _ _ _ _ (l.length - (i + 1)) n (i + 1) rfl (by omega) (by omega) (by omega) hl, add_one i (by omega), ih f (i + 1) (by omega) (by omega) (by omega) hl]
    cases allF (pairB l i) (l.length - (i + 1)) (i + 1) <;> rfl
theorem iSim_f (n : Nat) (l : List (Int × Int)) (hl : l.length ≤ 1000000) (hn : 1000001 < n) : fn_impl_isSimple.f n l = some (simI l) := by
  unfold fn_impl_isSimple.f simI
  have h1 := dup_l n l hn (ilen l) (fun z6 : Bool => some z6) (fun (z7 : (List (Int × Int))) (z8 : Int) => fn_impl_isSimple.l9 n n z7 z8 z8 ((0 : Int)) (fun (z45 : Bool) => some z45) (fun (z46 : Int) => some ((leI ((3 : Int)) z46)))) l.length n 0 (by omega) (by omega) (by omega) hl
  refine h1.trans ?_
  have h2 := all_l n l hn (fun z45 : Bool => some z45) (fun z46 : Int => some (leI 3 z46)) l.length n 0 (by omega) (by omega) (by omega) hl
  have h2 : fn_impl_isSimple.l9 n n l (ilen l) (ilen l) 0 (fun z45 : Bool => some z45) (fun z46 : Int => some (leI 3 z46)) = _ := h2
  rw [h2]
  cases allF (newB l) l.length 0
  · rfl
  · rw [br_t, Bool.true_and]
    cases allF (fun i => allF (pairB l i) (l.length - (i + 1)) (i + 1)) l.length 0 <;> rfl
theorem far_l {R : Type} (n : Nat) (l : List (Int × Int)) (i : Nat) (hi : i < l.length) (u v : Int) (K0 : Bool → Option R) (K1 : List (Int × Int) → List (Int × Int) → Int → Int → Int → Option R) : ∀ (d f k : Nat), l.length - k = d → d < f → l.length ≤ 1000000 → k ≤ 2000000 →
    fn_spec_wiSimple.l12 n f l [cor l i] [nx l i] l (ilen l) (i : Int) (k : Int) u v K0 K1 = br (allF (farB l i) d k) (K1 l l (ilen l) u v) (K0 false) := by
  intro d
  induction d with
  | zero =>
    intro f k hd hf hl hk
    obtain ⟨f, rfl⟩ : ∃ m, f = m + 1 := ⟨f - 1, by omega⟩
    simp only [fn_spec_wiSimple.l12]
    rw [ltI_f (by rw [ilen_eq]; omega), br_f]
    rfl
  | succ d ih =>
    intro f k hd hf hl hk
    obtain ⟨f, rfl⟩ : ∃ m, f = m + 1 := ⟨f - 1, by omega⟩
    have hlt : k < l.length := by omega
    have r0 : ∀ y : Int × Int, rd (.pair (.int .i64) (.int .i64)) [y] 0 = y := fun y => rfl
    simp only [fn_spec_wiSimple.l12, allF, r0]
    rw [ltI_t (by rw [ilen_eq]; omega), br_t, eqI_f (by rw [ilen_eq]; omega), br_f, nx_rem l k hlt hl, okIx_t (by omega) (by rw [ilen_eq]; omega), br_t, wiNext_f n l k hlt hl, Option.bind_some, nat_cast]
    change br _ ((fn_spec_wiMeet.f n (cor l i) (nx l i) (cor l k) (nx l k)).bind _) _ = _
    rw [wiMeet_f, Option.bind_some, add_one k (by omega), ih f (k + 1) (by omega) (by omega) hl (by omega)]
    unfold farB
    by_cases hki : (k + 1) % l.length = i
    · rw [neI_f (by omega), br_f, decide_eq_true hki]
      rfl
    · rw [neI_t (by omega), br_t, decide_eq_false hki]
      cases meetB (cor l i) (nx l i) (cor l k) (nx l k) <;> rfl
theorem edge_l {R : Type} (n : Nat) (l : List (Int × Int)) (hn : 1000001 < n) (K0 : Bool → Option R) (K1 : Unit → Option R) : ∀ (d f i : Nat), l.length - i = d → i ≤ l.length → d < f → l.length ≤ 1000000 →
    fn_spec_wiSimple.l5 n f l l (ilen l) (ilen l) (i : Int) K0 K1 = br (allF (fun i => edgeB l i && allF (farB l i) (l.length - (i + 2)) (i + 2)) d i) (K1 ()) (K0 false) := by
  intro d
  induction d with
  | zero =>
    intro f i hd hi hf hl
    obtain ⟨f, rfl⟩ : ∃ m, f = m + 1 := ⟨f - 1, by omega⟩
    simp only [fn_spec_wiSimple.l5]
    rw [ltI_f (by rw [ilen_eq]; omega), br_f]
    rfl
  | succ d ih =>
    intro f i hd hi hf hl
    obtain ⟨f, rfl⟩ : ∃ m, f = m + 1 := ⟨f - 1, by omega⟩
    have hlt : i < l.length := by omega
    have hl2 := nx_lt l i hlt
    have e2 : add .i64 (i : Int) 2 = ((i + 2 : Nat) : Int) := by rw [add_in (by omega) (by omega)]; omega
    simp only [fn_spec_wiSimple.l5, allF]
    rw [ltI_t (by rw [ilen_eq]; omega), br_t, okIx_t (by omega) (by rw [ilen_eq]; omega), br_t, wiNext_f n l i hlt hl, Option.bind_some, eqI_f (by rw [ilen_eq]; omega), br_f, nx_rem l i hlt hl, wiNext_f n l _ hl2 hl, Option.bind_some, nat_cast, e2, wiOnEdge_f, Option.bind_some, wiOnEdge_f, Option.bind_some]
    change br (betB (cor l i) (nx l i) (nx l ((i + 1) % l.length))) _ (br (betB (nx l i) (nx l ((i + 1) % l.length)) (cor l i)) _ (fn_spec_wiSimple.l12 n n l [cor l i] [nx l i] l (ilen l) (i : Int) ((i + 2 : Nat) : Int) (ilen l) (i : Int) _ _)) = _
    rw [far_l n l i hlt _ _ _ _ (l.length - (i + 2)) n (i + 2) rfl (by omega) hl (by omega), add_one i (by omega), ih f (i + 1) (by omega) (by omega) (by omega) hl]
    unfold edgeB
    cases betB (cor l i) (nx l i) (nx l ((i + 1) % l.length)) <;> cases betB (nx l i) (nx l ((i + 1) % l.length)) (cor l i) <;> cases allF (farB l i) (l.length - (i + 2)) (i + 2) <;> rfl
theorem sSim_f (n : Nat) (l : List (Int × Int)) (hl : l.length ≤ 1000000) (hn : 1000001 < n) : fn_spec_wiSimple.f n l = some (simS l) := by
  unfold fn_spec_wiSimple.f simS
  by_cases h3 : ilen l < 3
  · rw [ltI_t h3, br_t, leI_f (by omega)]
    rfl
  · rw [ltI_f h3, br_f, leI_t (by omega), Bool.true_and]
    refine (edge_l n l hn _ _ l.length n 0 (by omega) (by omega) (by omega) hl).trans ?_
    cases allF (fun i => edgeB l i && allF (farB l i) (l.length - (i + 2)) (i + 2)) l.length 0 <;> rfl
def simD (l : List (Int × Int)) : Bool × Bool := match goodB l with
  | true => (simS l, true)
  | false => (false, false)
theorem iIS_f (l : List (Int × Int)) (hl : l.length ≤ 1000000) : fn_impl_IsSimple.f 5000000 l = some (simD l) := by
  unfold fn_impl_IsSimple.f simD
  rw [isPolygon_f _ l hl (by omega), Option.bind_some]
  cases h : goodB l
  · rfl
  · rw [bnot_t, br_f, iSim_f _ l hl (by omega), Option.bind_some, sim_eq l h]
theorem sIS_f (l : List (Int × Int)) (hl : l.length ≤ 1000000) : fn_spec_IsSimple.f 5000000 l = some (simD l) := by
  unfold fn_spec_IsSimple.f simD
  rw [wiGood_f _ l hl (by omega), Option.bind_some]
  cases h : goodB l
  · rfl
  · rw [bnot_t, br_f, sSim_f _ l hl (by omega), Option.bind_some]
theorem pureSim (p : List (Int × Int)) (hw : Ev.WF (.slice 31 Sp) p) : ∃ n, fn_laws_FnExactIsSimple.f n p = some true := by
  refine ⟨5000000, ?_⟩
  unfold fn_laws_FnExactIsSimple.f
  have hlen : p.length ≤ 9223372036854775807 := Nat.le_trans hw.1 (by decide)
  by_cases hl : p.length ≤ 1000000
  · obtain ⟨r, hr, hr2⟩ := toSpotS_b 5000000 p hl (by omega)
    have hr2 : preL r p.length = p := hr2
    rw [sz_f _ p hl, Option.bind_some, ltI_f (by omega), br_f, toSpotS_nb _ p hl (by omega), Option.bind_some]
    dsimp only
    rw [rowSpotS_take, sIS_f p hl, Option.bind_some, Option.bind_some]
    dsimp only
    rw [rowSpotS_take, iIS_f p hl, Option.bind_some, boolEq_self, bnot_t, br_f, boolEq_self, bnot_t, br_f, Option.bind_some]
    rw [intactSpotS_self _ _ _ (by omega) hl (by rw [rowSpotS_len]; omega), Option.bind_some]
    dsimp only
    rw [bnot_t, br_f, hr, Option.bind_some]
    dsimp only
    rw [hr2, iIS_f p hl, Option.bind_some, boolEq_self, bnot_t, br_f, boolEq_self, bnot_t, br_f]
  · rw [sz_t _ p hl hlen, Option.bind_some, ltI_t (by omega), br_t]
end
end Go.Proofs.Ytlfiikkfodpbbaa.Z

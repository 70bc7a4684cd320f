/- The laws hold. -/
import Derived.Test.YtpfjneaoankllaaPF
set_option linter.unusedVariables false
set_option linter.unusedSimpArgs false
set_option maxRecDepth 100000
namespace Go.Proofs.Ytpfjneaoankllaa.Z
open Go.Proofs.Ytpfjneaoankllaa.Ev
noncomputable section
theorem both_ex (p : List Tm) (b : Bx) (ha : askB p b = true) : ∃ o, fn_impl_bernstein.f 5000000 p b.1 b.2.1 b.2.2 = some o ∧ fn_spec_beList.f 5000000 p b.2.1 b.2.2 b.1 = some (o, degE p b.2.1.length) ∧ o.length ≤ 125 ∧ 1 ≤ o.length ∧ AllR o := both_f 5000000 p b ha (by omega)
noncomputable def bcL (p : List Tm) (b : Bx) : List Int := (fn_impl_bernstein.f 5000000 p b.1 b.2.1 b.2.2).getD []
noncomputable def bcS (p : List Tm) (b : Bx) : List Int × Bool := match askB p b with
  | true => (bcL p b, true)
  | false => ([], false)
theorem bcL_f (p : List Tm) (b : Bx) (ha : askB p b = true) : fn_impl_bernstein.f 5000000 p b.1 b.2.1 b.2.2 = some (bcL p b) ∧ fn_spec_beList.f 5000000 p b.2.1 b.2.2 b.1 = some (bcL p b, degE p b.2.1.length) ∧ (bcL p b).length ≤ 125 ∧ 1 ≤ (bcL p b).length := by
  obtain ⟨o, h1, h2, h3, h4, _⟩ := both_ex p b ha
  have e : bcL p b = o := by unfold bcL; rw [h1]; rfl
  rw [e]
  exact ⟨h1, h2, h3, h4⟩
theorem iBc_f (n : Nat) (p : List Tm) (b : Bx) (hl : p.length ≤ 1000000) (hn : n = 5000000) : fn_impl_BernsteinCoefficients.f n p b = some (bcS p b) := by
  subst hn
  unfold fn_impl_BernsteinCoefficients.f bcS
  rw [belongs_f _ p b hl (by omega), Option.bind_some]
  cases h : askB p b
  · rfl
  · rw [bnot_t, br_f, (bcL_f p b h).1]; rfl
theorem sBc_f (n : Nat) (p : List Tm) (b : Bx) (hl : p.length ≤ 1000000) (hn : n = 5000000) : fn_spec_BernsteinCoefficients.f n p b = some (bcS p b) := by
  subst hn
  unfold fn_spec_BernsteinCoefficients.f bcS
  rw [asked_f _ p b hl (by omega), Option.bind_some]
  cases h : askB p b
  · rfl
  · rw [bnot_t, br_f, (bcL_f p b h).2.1]; rfl
theorem bcS_len (p : List Tm) (b : Bx) : (bcS p b).1.length ≤ 1000000 := by
  unfold bcS
  cases h : askB p b
  · simp
  · have := (bcL_f p b h).2.2.1
    show (bcL p b).length ≤ 1000000
    omega
theorem pureCoef (p : List Tm) (b : Bx) (hw : Ev.WF (.slice 71 T4) p) (hb : Ev.WF (.pair (.int .i64) (.pair (.slice 3 (.int .i64)) (.slice 3 (.int .i64)))) b) : ∃ n, fn_laws_FnExactBernsteinCoefficients.f n p b = some true := by
  refine ⟨5000000, ?_⟩
  have q0 : p.length ≤ 9223372036854775807 := Nat.le_trans hw.1 (by decide)
  have q1 : b.2.1.length ≤ 9223372036854775807 := Nat.le_trans hb.2.1.1 (by decide)
  have q2 : b.2.2.length ≤ 9223372036854775807 := Nat.le_trans hb.2.2.1 (by decide)
  unfold fn_laws_FnExactBernsteinCoefficients.f
  rw [szTermS_f _ p 1000000 (by omega) (by omega) q0, Option.bind_some]
  by_cases hl : (1000000 : Int) - p.length < 0
  · rw [if_pos hl, ltI_t (by omega), br_t]
  · rw [if_neg hl, ltI_f hl, br_f]
    obtain ⟨y, ey, hy⟩ := szBox_f 5000000 b ((1000000 : Int) - p.length) (by omega) (by omega) q1 q2
    rw [ey, Option.bind_some]
    by_cases hy0 : y < 0
    · rw [ltI_t hy0, br_t]
    · obtain ⟨hb1, hb2⟩ := hy (by omega)
      have hl' : p.length ≤ 1000000 := by omega
      have hg := bcS_len p b
      have hmk := mark_f 5000000 (bcS p b).1 (bcS p b).1.length (Nat.le_refl _) hg (by omega)
      rw [List.drop_length, List.append_nil] at hmk
      obtain ⟨y13, e13⟩ := markT_f 5000000 (rowTermS p) p.length (by rw [rowTermS_len]; omega) hl' (by omega)
      obtain ⟨y14, e14⟩ := markBox_f 5000000 b.1 (rowIntS b.2.1) (rowIntS b.2.2) b.2.1.length b.2.2.length (101 + 4 * (p.length : Int)) (by omega) hb1 hb2 (by rw [rowIntS_len]; omega) (by rw [rowIntS_len]; omega) (by omega) (by omega)
      obtain ⟨r, er, er2⟩ := toTermS_b 5000000 p hl' (by omega)
      have er2 : preL r p.length = p := er2
      obtain ⟨u, v, eu, eu1, eu2⟩ := toBox_b 5000000 b hb1 hb2 (by omega)
      rw [ltI_f hy0, br_f, toTermS_nb _ p hl' (by omega), Option.bind_some, toBox_nb _ b hb1 hb2 (by omega), Option.bind_some]
      dsimp only
      rw [rowTermS_take, rowIntS_take, rowIntS_take, sBc_f _ p (b.1, (b.2.1, b.2.2)) hl' rfl, Option.bind_some, Option.bind_some, Option.bind_some]
      dsimp only
      rw [rowTermS_take, rowIntS_take, rowIntS_take, iBc_f _ p (b.1, (b.2.1, b.2.2)) hl' rfl, Option.bind_some, eqIntS_self _ _ (by omega) (by show (bcS p b).1.length ≤ _; omega), Option.bind_some, bnot_t, br_f, boolEq_self, bnot_t, br_f, Option.bind_some]
      rw [intactTermS_self _ _ _ (by omega) hl' (by rw [rowTermS_len]; omega), Option.bind_some]
      dsimp only
      rw [bnot_t, br_f, Option.bind_some]
      dsimp only
      rw [intactBox_self _ _ _ _ _ _ (by omega) hb1 hb2 (by rw [rowIntS_len]; omega) (by rw [rowIntS_len]; omega), Option.bind_some]
      dsimp only
      rw [bnot_t, br_f, e13, Option.bind_some]
      dsimp only
      rw [e14, Option.bind_some]
      dsimp only
      rw [ltI_f (by omega), br_f, Option.bind_some, br_f, bnot_t, br_f, llen_eq]
      have hmk' : fn_laws_markIntS.f 5000000 ((bcS p (b.1, (b.2.1, b.2.2))).1, (bcS p (b.1, (b.2.1, b.2.2))).1.length) 101 = _ := hmk
      rw [hmk', Option.bind_some]
      dsimp only
      rw [held_f _ _ hg (by omega), Option.bind_some, ltI_f (by omega), br_f, neI_f rfl, br_f, er, Option.bind_some, eu, Option.bind_some]
      dsimp only
      rw [er2, eu1, eu2, iBc_f _ p (b.1, (b.2.1, b.2.2)) hl' rfl, Option.bind_some, eqIntS_self _ _ (by omega) (by show (bcS p b).1.length ≤ _; omega), Option.bind_some, bnot_t, br_f, boolEq_self, bnot_t, br_f, Option.bind_some, ltI_f (by omega), br_f, neI_f rfl, br_f]
/-- The least number of a list, from number i on. -/
def lmn (l : List Int) : Nat → Nat → Int → Int
  | 0, _, a => a
  | d + 1, i, a => lmn l d (i + 1) (mn a (rd I64 l i))
def lmx (l : List Int) : Nat → Nat → Int → Int
  | 0, _, a => a
  | d + 1, i, a => lmx l d (i + 1) (mx a (rd I64 l i))
theorem mn_gt {a b : Int} : 0 < mn a b ↔ 0 < a ∧ 0 < b := by unfold mn; split <;> omega
theorem mx_lt {a b : Int} : mx a b < 0 ↔ a < 0 ∧ b < 0 := by unfold mx; split <;> omega
theorem lmn_gt {l : List Int} : ∀ {d i : Nat} {a : Int}, 0 < lmn l d i a ↔ 0 < a ∧ ∀ j, i ≤ j → j < i + d → 0 < cf l j
  | 0, i, a => by
    simp only [lmn]
    exact ⟨fun h => ⟨h, fun j h1 h2 => by omega⟩, fun h => h.1⟩
  | d + 1, i, a => by
    simp only [lmn]
    rw [lmn_gt, mn_gt]
    constructor
    · rintro ⟨⟨h1, h2⟩, h3⟩
      refine ⟨h1, fun j h4 h5 => ?_⟩
      rcases Nat.lt_or_ge i j with h6 | h6
      · exact h3 j (by omega) (by omega)
      · obtain rfl : i = j := by omega
        exact h2
    · rintro ⟨h1, h2⟩
      exact ⟨⟨h1, h2 i (Nat.le_refl _) (by omega)⟩, fun j h4 h5 => h2 j (by omega) (by omega)⟩
theorem lmx_lt {l : List Int} : ∀ {d i : Nat} {a : Int}, lmx l d i a < 0 ↔ a < 0 ∧ ∀ j, i ≤ j → j < i + d → cf l j < 0
  | 0, i, a => by
    simp only [lmx]
    exact ⟨fun h => ⟨h, fun j h1 h2 => by omega⟩, fun h => h.1⟩
  | d + 1, i, a => by
    simp only [lmx]
    rw [lmx_lt, mx_lt]
    constructor
    · rintro ⟨⟨h1, h2⟩, h3⟩
      refine ⟨h1, fun j h4 h5 => ?_⟩
      rcases Nat.lt_or_ge i j with h6 | h6
      · exact h3 j (by omega) (by omega)
      · obtain rfl : i = j := by omega
        exact h2
    · rintro ⟨h1, h2⟩
      exact ⟨⟨h1, h2 i (Nat.le_refl _) (by omega)⟩, fun j h4 h5 => h2 j (by omega) (by omega)⟩
theorem min_l {R : Type} (n : Nat) (l : List Int) (K0 : Int → Option R) (hl : l.length ≤ 1000000) : ∀ (d k i : Nat) (a : Int), l.length - i = d → i ≤ l.length → d < k → fn_slices_Min___int_int_.l5 n k l a (i : Int) K0 = K0 (lmn l d i a) := by
  intro d
  induction d with
  | zero =>
    intro k i a hd hi hk
    obtain ⟨k, rfl⟩ : ∃ m, k = m + 1 := ⟨k - 1, by omega⟩
    simp only [fn_slices_Min___int_int_.l5, lmn]
    rw [ltI_f (by rw [ilen_eq]; omega), br_f]
  | succ d ih =>
    intro k i a hd hi hk
    obtain ⟨k, rfl⟩ : ∃ m, k = m + 1 := ⟨k - 1, by omega⟩
    simp only [fn_slices_Min___int_int_.l5, lmn]
    rw [ltI_t (by rw [ilen_eq]; omega), br_t, okIx_t (by omega) (by rw [ilen_eq]; omega), br_t, nat_cast, add_one i (by omega)]
    exact ih k (i + 1) _ (by omega) (by omega) (by omega)
theorem max_l {R : Type} (n : Nat) (l : List Int) (K0 : Int → Option R) (hl : l.length ≤ 1000000) : ∀ (d k i : Nat) (a : Int), l.length - i = d → i ≤ l.length → d < k → fn_slices_Max___int_int_.l5 n k l a (i : Int) K0 = K0 (lmx l d i a) := by
  intro d
  induction d with
  | zero =>
    intro k i a hd hi hk
    obtain ⟨k, rfl⟩ : ∃ m, k = m + 1 := ⟨k - 1, by omega⟩
    simp only [fn_slices_Max___int_int_.l5, lmx]
    rw [ltI_f (by rw [ilen_eq]; omega), br_f]
  | succ d ih =>
    intro k i a hd hi hk
    obtain ⟨k, rfl⟩ : ∃ m, k = m + 1 := ⟨k - 1, by omega⟩
    simp only [fn_slices_Max___int_int_.l5, lmx]
    rw [ltI_t (by rw [ilen_eq]; omega), br_t, okIx_t (by omega) (by rw [ilen_eq]; omega), br_t, nat_cast, add_one i (by omega)]
    exact ih k (i + 1) _ (by omega) (by omega) (by omega)
theorem min_f (n : Nat) (l : List Int) (h1 : 1 ≤ l.length) (hl : l.length ≤ 125) (hn : 1000 < n) : fn_slices_Min___int_int_.f n l = some (lmn l (l.length - 1) 1 (rd I64 l 0)) := by
  unfold fn_slices_Min___int_int_.f
  rw [ltI_f (by rw [ilen_eq]; omega), br_f, okIx_t (by omega) (by rw [ilen_eq]; omega), br_t]
  exact min_l n l _ (by omega) (l.length - 1) n 1 _ rfl (by omega) (by omega)
theorem max_f (n : Nat) (l : List Int) (h1 : 1 ≤ l.length) (hl : l.length ≤ 125) (hn : 1000 < n) : fn_slices_Max___int_int_.f n l = some (lmx l (l.length - 1) 1 (rd I64 l 0)) := by
  unfold fn_slices_Max___int_int_.f
  rw [ltI_f (by rw [ilen_eq]; omega), br_f, okIx_t (by omega) (by rw [ilen_eq]; omega), br_t]
  exact max_l n l _ (by omega) (l.length - 1) n 1 _ rfl (by omega) (by omega)
def sameS (l : List Int) (s : Int) : Nat → Nat → Bool
  | 0, _ => true
  | d + 1, i => bnot (neI (sg (rd I64 l i)) s) && sameS l s d (i + 1)
theorem sameS_iff {l : List Int} {s : Int} : ∀ {d i : Nat}, sameS l s d i = true ↔ ∀ j, i ≤ j → j < i + d → sg (cf l j) = s
  | 0, i => by
    simp only [sameS, true_iff]
    intro j h1 h2
    omega
  | d + 1, i => by
    simp only [sameS, Bool.and_eq_true]
    rw [sameS_iff]
    have e : bnot (neI (sg (rd I64 l i)) s) = true ↔ sg (cf l i) = s := by
      rw [neI_eq]
      show (!(!decide (sg (cf l i) = s))) = true ↔ _
      simp
    rw [e]
    constructor
    · rintro ⟨h1, h2⟩ j h3 h4
      rcases Nat.lt_or_ge i j with h6 | h6
      · exact h2 j (by omega) (by omega)
      · obtain rfl : i = j := by omega
        exact h1
    · intro h
      exact ⟨h i (Nat.le_refl _) (by omega), fun j h4 h5 => h j (by omega) (by omega)⟩
theorem sign_l3 {R : Type} (n : Nat) (l : List Int) (s : Int) (K0 K1 : Int → Option R) (hl : l.length ≤ 1000000) : ∀ (d k i : Nat), l.length - i = d → i ≤ l.length → d < k → fn_spec_beSign.l3 n k l s (ilen l) (i : Int) K0 K1 = br (sameS l s d i) (K1 s) (K0 0) := by
  intro d
  induction d with
  | zero =>
    intro k i hd hi hk
    obtain ⟨k, rfl⟩ : ∃ m, k = m + 1 := ⟨k - 1, by omega⟩
    simp only [fn_spec_beSign.l3, sameS]
    rw [ltI_f (by rw [ilen_eq]; omega), br_f, br_t]
  | succ d ih =>
    intro k i hd hi hk
    obtain ⟨k, rfl⟩ : ∃ m, k = m + 1 := ⟨k - 1, by omega⟩
    simp only [fn_spec_beSign.l3, sameS]
    rw [ltI_t (by rw [ilen_eq]; omega), br_t, okIx_t (by omega) (by rw [ilen_eq]; omega), br_t, nat_cast, sign_f, Option.bind_some, add_one i (by omega), ih k (i + 1) (by omega) (by omega) (by omega)]
    cases neI (sg (rd I64 l i)) s <;> rfl
/-- The sign that all have, or 0. -/
def csV (l : List Int) : Int := if 0 < lmn l (l.length - 1) 1 (rd I64 l 0) then 1 else if lmx l (l.length - 1) 1 (rd I64 l 0) < 0 then -1 else 0
theorem common_f (n : Nat) (l : List Int) (h1 : 1 ≤ l.length) (hl : l.length ≤ 125) (hn : 1000 < n) : fn_impl_commonSign.f n l = some (csV l) := by
  unfold fn_impl_commonSign.f csV
  rw [min_f n l h1 hl hn, Option.bind_some]
  by_cases h : 0 < lmn l (l.length - 1) 1 (rd I64 l 0)
  · rw [ltI_t h, br_t, if_pos h]
  · rw [ltI_f h, br_f, if_neg h, max_f n l h1 hl hn, Option.bind_some]
    by_cases h' : lmx l (l.length - 1) 1 (rd I64 l 0) < 0
    · rw [ltI_t h', br_t, if_pos h']
    · rw [ltI_f h', br_f, if_neg h']
theorem beSign_f (n : Nat) (l : List Int) (h1 : 1 ≤ l.length) (hl : l.length ≤ 125) (hn : 1000 < n) : fn_spec_beSign.f n l = some (csV l) := by
  unfold fn_spec_beSign.f
  have r0 : rd (.int .i64) l (nat 0) = cf l 0 := rfl
  rw [okIx_t (by omega) (by rw [ilen_eq]; omega), br_t, r0, sign_f, Option.bind_some]
  refine (sign_l3 n l (sg (cf l 0)) (fun z6 => some z6) (fun z7 => some z7) (by omega) l.length n 0 (by omega) (by omega) (by omega)).trans ?_
  have hpos : 0 < lmn l (l.length - 1) 1 (rd I64 l 0) ↔ ∀ j, j < l.length → 0 < cf l j := by
    rw [lmn_gt]
    constructor
    · rintro ⟨a1, a2⟩ j hj
      cases j with
      | zero => exact a1
      | succ j => exact a2 (j + 1) (by omega) (by omega)
    · intro h
      exact ⟨h 0 (by omega), fun j a1 a2 => h j (by omega)⟩
  have hneg : lmx l (l.length - 1) 1 (rd I64 l 0) < 0 ↔ ∀ j, j < l.length → cf l j < 0 := by
    rw [lmx_lt]
    constructor
    · rintro ⟨a1, a2⟩ j hj
      cases j with
      | zero => exact a1
      | succ j => exact a2 (j + 1) (by omega) (by omega)
    · intro h
      exact ⟨h 0 (by omega), fun j a1 a2 => h j (by omega)⟩
  have sgp : ∀ x, sg x = 1 ↔ 0 < x := fun x => by unfold sg; (repeat' split) <;> omega
  have sgn : ∀ x, sg x = -1 ↔ x < 0 := fun x => by unfold sg; (repeat' split) <;> omega
  have h0 := h1
  unfold csV
  cases hs : sameS l (sg (cf l 0)) l.length 0
  · rw [br_f]
    have hno : ¬ ∀ j, 0 ≤ j → j < 0 + l.length → sg (cf l j) = sg (cf l 0) := fun h => by rw [sameS_iff.2 h] at hs; cases hs
    rw [if_neg (fun h => hno fun j _ hj => by rw [(sgp _).2 (hpos.1 h j (by omega)), (sgp _).2 (hpos.1 h 0 (by omega))]), if_neg (fun h => hno fun j _ hj => by rw [(sgn _).2 (hneg.1 h j (by omega)), (sgn _).2 (hneg.1 h 0 (by omega))])]
  · rw [br_t]
    have hall := sameS_iff.1 hs
    rcases Int.lt_trichotomy (cf l 0) 0 with h | h | h
    · have e := (sgn _).2 h
      have hn' : lmx l (l.length - 1) 1 (rd I64 l 0) < 0 := hneg.2 fun j hj => (sgn _).1 ((hall j (Nat.zero_le _) (by omega)).trans e)
      rw [if_neg (fun hp => by have := hpos.1 hp 0 (by omega); omega), if_pos hn', e]
    · have e : sg (cf l 0) = 0 := sg_zero.2 h
      rw [if_neg (fun hp => by have := hpos.1 hp 0 (by omega); omega), if_neg (fun hp => by have := hneg.1 hp 0 (by omega); omega), e]
    · have e := (sgp _).2 h
      have hp' : 0 < lmn l (l.length - 1) 1 (rd I64 l 0) := hpos.2 fun j hj => (sgp _).1 ((hall j (Nat.zero_le _) (by omega)).trans e)
      rw [if_pos hp', e]
noncomputable def dnS2 (p : List Tm) (b : Bx) : Int × Bool := match askB p b with
  | true => (csV (bcL p b), true)
  | false => (0, false)
theorem iSo_f (n : Nat) (p : List Tm) (b : Bx) (hl : p.length ≤ 1000000) (hn : n = 5000000) : fn_impl_SignOver.f n p b = some (dnS2 p b) := by
  subst hn
  unfold fn_impl_SignOver.f dnS2
  rw [belongs_f _ p b hl (by omega), Option.bind_some]
  cases h : askB p b
  · rfl
  · obtain ⟨h1, h2, h3, h4⟩ := bcL_f p b h
    rw [bnot_t, br_f, h1, Option.bind_some, common_f _ _ h4 h3 (by omega)]; rfl
theorem sSo_f (n : Nat) (p : List Tm) (b : Bx) (hl : p.length ≤ 1000000) (hn : n = 5000000) : fn_spec_SignOver.f n p b = some (dnS2 p b) := by
  subst hn
  unfold fn_spec_SignOver.f dnS2
  rw [asked_f _ p b hl (by omega), Option.bind_some]
  cases h : askB p b
  · rfl
  · obtain ⟨h1, h2, h3, h4⟩ := bcL_f p b h
    unfold fn_spec_beOver.f
    rw [bnot_t, br_f, h2, Option.bind_some, beSign_f _ _ h4 h3 (by omega)]; rfl
theorem pureSign (p : List Tm) (b : Bx) (hw : Ev.WF (.slice 71 T4) p) (hb : Ev.WF (.pair (.int .i64) (.pair (.slice 3 (.int .i64)) (.slice 3 (.int .i64)))) b) : ∃ n, fn_laws_FnExactSignOver.f n p b = some true := by
  refine ⟨5000000, ?_⟩
  have q0 : p.length ≤ 9223372036854775807 := Nat.le_trans hw.1 (by decide)
  have q1 : b.2.1.length ≤ 9223372036854775807 := Nat.le_trans hb.2.1.1 (by decide)
  have q2 : b.2.2.length ≤ 9223372036854775807 := Nat.le_trans hb.2.2.1 (by decide)
  unfold fn_laws_FnExactSignOver.f
  rw [szTermS_f _ p 1000000 (by omega) (by omega) q0, Option.bind_some]
  by_cases hl : (1000000 : Int) - p.length < 0
  · rw [if_pos hl, ltI_t (by omega), br_t]
  · rw [if_neg hl, ltI_f hl, br_f]
    obtain ⟨y, ey, hy⟩ := szBox_f 5000000 b ((1000000 : Int) - p.length) (by omega) (by omega) q1 q2
    rw [ey, Option.bind_some]
    by_cases hy0 : y < 0
    · rw [ltI_t hy0, br_t]
    · obtain ⟨hb1, hb2⟩ := hy (by omega)
      have hl' : p.length ≤ 1000000 := by omega
      obtain ⟨r, er, er2⟩ := toTermS_b 5000000 p hl' (by omega)
      have er2 : preL r p.length = p := er2
      obtain ⟨u, v, eu, eu1, eu2⟩ := toBox_b 5000000 b hb1 hb2 (by omega)
      rw [ltI_f hy0, br_f, toTermS_nb _ p hl' (by omega), Option.bind_some, toBox_nb _ b hb1 hb2 (by omega), Option.bind_some]
      dsimp only
      rw [rowTermS_take, rowIntS_take, rowIntS_take, sSo_f _ p (b.1, (b.2.1, b.2.2)) hl' rfl, Option.bind_some, Option.bind_some, Option.bind_some]
      dsimp only
      rw [rowTermS_take, rowIntS_take, rowIntS_take, iSo_f _ p (b.1, (b.2.1, b.2.2)) hl' rfl, Option.bind_some, neI_f rfl, br_f, boolEq_self, bnot_t, br_f, Option.bind_some]
      rw [intactTermS_self _ _ _ (by omega) hl' (by rw [rowTermS_len]; omega), Option.bind_some]
      dsimp only
      rw [bnot_t, br_f, Option.bind_some]
      dsimp only
      rw [intactBox_self _ _ _ _ _ _ (by omega) hb1 hb2 (by rw [rowIntS_len]; omega) (by rw [rowIntS_len]; omega), Option.bind_some]
      dsimp only
      rw [bnot_t, br_f, er, Option.bind_some, eu, Option.bind_some]
      dsimp only
      rw [er2, eu1, eu2, iSo_f _ p (b.1, (b.2.1, b.2.2)) hl' rfl, Option.bind_some, neI_f rfl, br_f, boolEq_self, bnot_t, br_f]
end
end Go.Proofs.Ytpfjneaoankllaa.Z

/- Polynomials over intervals and their changes of signs: both sides agree. -/
import Derived.Test.YtipjdipahebnbaaP8
set_option linter.unusedVariables false
set_option linter.unusedSimpArgs false
set_option maxRecDepth 100000
namespace Go.Proofs.Ytipjdipahebnbaa.Z
open Go.Proofs.Ytipjdipahebnbaa.Ev
theorem wf_inR {x : Int} (h : (Lit.int .i64 x).wf = true) : InR x := by
  have h : IntKind.i64.min ≤ x ∧ x ≤ IntKind.i64.max := by simpa [Lit.wf] using h
  have e1 : IntKind.i64.min = -9223372036854775808 := rfl
  have e2 : IntKind.i64.max = 9223372036854775807 := rfl
  unfold InR
  omega
noncomputable def ovR (p : List Int) (v : (Int × Int) × (Int × Int)) : List Int := (fn_impl_overInterval.f 5000000 p v).getD []
theorem fitB_v {v : (Int × Int) × (Int × Int)} (h : fitB v = true) : DV v.1 ∧ DV v.2 ∧ v.1.2 ≤ 5 ∧ v.2.2 ≤ 5 := by
  unfold fitB at h
  simp only [Bool.and_eq_true, decide_eq_true_eq] at h
  exact ⟨dyB_DV h.1, dyB_DV h.2.1, h.2.2.2.2.2.1, h.2.2.2.2.2.2⟩
theorem ovR_f (p : List Int) (v : (Int × Int) × (Int × Int)) (hs : smallB p = true) (hf : fitB v = true) (hpr : AllR p) : fn_impl_overInterval.f 5000000 p v = some (ovR p v) ∧ fn_spec_deOver.f 5000000 p v = some (ovR p v) ∧ (ovR p v).length = p.length ∧ AllR (ovR p v) := by
  have h6 := smallB_len hs
  obtain ⟨va, vb, ka, kb⟩ := fitB_v hf
  obtain ⟨r, h1, h2, h3, h4⟩ := over_same 5000000 p v h6.1 h6.2 hpr va vb ka kb (by omega)
  have e : ovR p v = r := by unfold ovR; rw [h1]; rfl
  rw [e]
  exact ⟨h1, h2, h3, h4⟩
noncomputable def ovS (p : List Int) (v : (Int × Int) × (Int × Int)) : List Int × Bool := match smallB p && fitB v with
  | true => (ovR p v, true)
  | false => ([], false)
theorem deAsked_f (p : List Int) (v : (Int × Int) × (Int × Int)) (hl : p.length ≤ 1000000) : fn_spec_deAsked.f 5000000 p v = some (smallB p && fitB v) := by
  unfold fn_spec_deAsked.f
  rw [deGood_f _ p hl (by omega), Option.bind_some]
  cases smallB p
  · rfl
  · rw [br_t, deFit_f _ v (by omega)]; rfl
theorem sOverI_f (p : List Int) (v : (Int × Int) × (Int × Int)) (hl : p.length ≤ 1000000) (hpr : AllR p) : fn_spec_OverInterval.f 5000000 p v = some (ovS p v) := by
  unfold fn_spec_OverInterval.f ovS
  rw [deAsked_f p v hl, Option.bind_some]
  cases h1 : smallB p
  · rfl
  · cases h2 : fitB v
    · rfl
    · rw [Bool.and_self, bnot_t, br_f, (ovR_f p v h1 h2 hpr).2.1]; rfl
theorem iOverI_f (p : List Int) (v : (Int × Int) × (Int × Int)) (hl : p.length ≤ 1000000) (hpr : AllR p) : fn_impl_OverInterval.f 5000000 p v = some (ovS p v) := by
  unfold fn_impl_OverInterval.f ovS
  rw [isSmall_f _ p hl (by omega), Option.bind_some]
  cases h1 : smallB p
  · rfl
  · have hf : fn_impl_isFit.f 5000000 v = some (fitB v) := isFit_f 4999997 v
    rw [bnot_t, br_f, hf, Option.bind_some]
    cases h2 : fitB v
    · rfl
    · rw [Bool.and_self, bnot_t, br_f, (ovR_f p v h1 h2 hpr).1]; rfl
theorem ovS_len (p : List Int) (v : (Int × Int) × (Int × Int)) (hpr : AllR p) (hl : p.length ≤ 1000000) : (ovS p v).1.length ≤ 1000000 := by
  unfold ovS
  cases h1 : smallB p
  · simp
  · cases h2 : fitB v
    · simp
    · rw [Bool.and_self]
      have := (ovR_f p v h1 h2 hpr).2.2.1
      show (ovR p v).length ≤ _
      omega
theorem toInterval_f (n : Nat) (v : (Int × Int) × (Int × Int)) : fn_laws_toInterval.f n v = some v := rfl
theorem pureOver (p : List Int) (v : (Int × Int) × (Int × Int)) (hw : Ev.WF (.slice 3 I64) p) (_ : Ev.WF (.pair (.pair I64 I64) (.pair I64 I64)) v) : ∃ n, fn_laws_FnExactOverInterval.f n p v = some true := by
  refine ⟨5000000, ?_⟩
  have hpr : AllR p := fun a ha => wf_inR (hw.2 a ha)
  unfold fn_laws_FnExactOverInterval.f
  by_cases hl : p.length ≤ 1000000
  · obtain ⟨r, hr, hr2⟩ := toIntS_b 5000000 p hl (by omega)
    have hr2 : preL r p.length = p := hr2
    have hg := ovS_len p v hpr hl
    have hmk := mark_f 5000000 (ovS p v).1 (ovS p v).1.length (Nat.le_refl _) hg (by omega)
    rw [List.drop_length, List.append_nil] at hmk
    rw [ltI_f (by rw [ilen_eq]; omega), br_f, toIntS_nb _ p hl (by omega), Option.bind_some, toInterval_f, Option.bind_some]
    dsimp only
    rw [rowIntS_take, sOverI_f p v hl hpr, Option.bind_some, Option.bind_some, Option.bind_some]
    dsimp only
    rw [rowIntS_take, iOverI_f p v hl hpr, Option.bind_some, eqIntS_self _ _ (by omega) (by omega), Option.bind_some, bnot_t, br_f, boolEq_self, bnot_t, br_f, Option.bind_some]
    rw [intactIntS_self _ _ _ (by omega) hl (by rw [rowIntS_len]; omega), Option.bind_some]
    dsimp only
    rw [bnot_t, br_f, mark_f _ _ _ (by rw [rowIntS_len]; omega) hl (by omega), Option.bind_some]
    dsimp only
    rw [ltI_f (by omega), br_f, Option.bind_some, br_f, bnot_t, br_f, llen_eq, hmk, Option.bind_some]
    dsimp only
    rw [held_f _ _ hg (by omega), Option.bind_some, ltI_f (by omega), br_f, neI_f rfl, br_f, hr, Option.bind_some, Option.bind_some]
    dsimp only
    rw [hr2, iOverI_f p v hl hpr, Option.bind_some, eqIntS_self _ _ (by omega) (by omega), Option.bind_some, bnot_t, br_f, boolEq_self, bnot_t, br_f, Option.bind_some, ltI_f (by omega), br_f, neI_f rfl, br_f]
  · rw [ltI_t (by rw [ilen_eq]; omega), br_t]
/-- Changes of signs from number i on; t: the last sign, c: those so far. -/
def chS (l : List Int) : Nat → Nat → Int → Int → Int
  | 0, _, _, c => c
  | d + 1, i, t, c => if rd I64 l i = 0 then chS l d (i + 1) t c else if t * sg (rd I64 l i) < 0 then chS l d (i + 1) (sg (rd I64 l i)) (c + 1) else chS l d (i + 1) (sg (rd I64 l i)) c
theorem sg_bd (x : Int) : -1 ≤ sg x ∧ sg x ≤ 1 := by unfold sg; (repeat' split) <;> omega
theorem sg_ne {x : Int} (h : x ≠ 0) : sg x = 1 ∨ sg x = -1 := by unfold sg; (repeat' split) <;> omega
theorem cmpI_f (n : Nat) (x : Int) : fn_cmp_Compare_int_.f n x 0 = some (sg x) := by
  unfold fn_cmp_Compare_int_.f fn_cmp_isNaN_int_.f sg
  rw [neI_f rfl, neI_f rfl, Option.bind_some, Option.bind_some, br_f, br_f]
  by_cases h : x < 0
  · rw [ltI_t h, br_t, if_neg (by omega), if_pos h]
  · rw [ltI_f h, br_f]
    by_cases h2 : 0 < x
    · rw [ltI_t h2, br_t, if_pos h2]
    · rw [ltI_f h2, br_f, if_neg h2, if_neg h]
theorem iCh_l {R : Type} (n : Nat) (l : List Int) (K0 : Int → Option R) (hl : l.length ≤ 1000000) : ∀ (d k i : Nat) (t c : Int), l.length - i = d → i ≤ l.length → d < k → -1 ≤ t → t ≤ 1 → 0 ≤ c → c ≤ i →
    fn_impl_changes.l3 n k l c t (ilen l) (i : Int) K0 = K0 (chS l d i t c) := by
  intro d
  induction d with
  | zero =>
    intro k i t c hd hi hk h1 h2 h3 h4
    obtain ⟨k, rfl⟩ : ∃ m, k = m + 1 := ⟨k - 1, by omega⟩
    simp only [fn_impl_changes.l3, chS]
    rw [ltI_f (by rw [ilen_eq]; omega), br_f]
  | succ d ih =>
    intro k i t c hd hi hk h1 h2 h3 h4
    obtain ⟨k, rfl⟩ : ∃ m, k = m + 1 := ⟨k - 1, by omega⟩
    have hb := sg_bd (rd I64 l i)
    simp only [fn_impl_changes.l3, chS]
    rw [ltI_t (by rw [ilen_eq]; omega), br_t, okIx_t (by omega) (by rw [ilen_eq]; omega), br_t, nat_cast, cmpI_f, Option.bind_some, add_one i (by omega)]
    by_cases h0 : rd I64 l i = 0
    · have hz : sg (rd I64 l i) = 0 := by rw [h0]; rfl
      rw [if_pos h0, eqI_t hz, br_t]
      exact ih k (i + 1) t c (by omega) (by omega) (by omega) h1 h2 h3 (by omega)
    · have hn := sg_ne h0
      rw [if_neg h0, eqI_f (x := sg (rd I64 l i)) (y := 0) (by omega), br_f, sub_in (by omega) (by omega)]
      have key : t * sg (rd I64 l i) < 0 ↔ sg (rd I64 l i) = 0 - t := by
        rcases hn with h | h <;> rw [h] <;> omega
      by_cases h5 : t * sg (rd I64 l i) < 0
      · rw [if_pos h5, eqI_t (key.1 h5), br_t, add_in (by omega) (by omega)]
        exact ih k (i + 1) _ (c + 1) (by omega) (by omega) (by omega) hb.1 hb.2 (by omega) (by omega)
      · rw [if_neg h5, eqI_f (fun h => h5 (key.2 h)), br_f]
        exact ih k (i + 1) _ c (by omega) (by omega) (by omega) hb.1 hb.2 h3 (by omega)
theorem sCh_l {R : Type} (n : Nat) (l : List Int) (K0 : Int → Option R) (hl : l.length ≤ 1000000) : ∀ (d k i : Nat) (t c : Int), l.length - i = d → i ≤ l.length → d < k → -1 ≤ t → t ≤ 1 → 0 ≤ c → c ≤ i →
    fn_spec_beChanges.l3 n k l c t (ilen l) (i : Int) K0 = K0 (chS l d i t c) := by
  intro d
  induction d with
  | zero =>
    intro k i t c hd hi hk h1 h2 h3 h4
    obtain ⟨k, rfl⟩ : ∃ m, k = m + 1 := ⟨k - 1, by omega⟩
    simp only [fn_spec_beChanges.l3, chS]
    rw [ltI_f (by rw [ilen_eq]; omega), br_f]
  | succ d ih =>
    intro k i t c hd hi hk h1 h2 h3 h4
    obtain ⟨k, rfl⟩ : ∃ m, k = m + 1 := ⟨k - 1, by omega⟩
    have hb := sg_bd (rd I64 l i)
    simp only [fn_spec_beChanges.l3, chS]
    rw [ltI_t (by rw [ilen_eq]; omega), br_t, okIx_t (by omega) (by rw [ilen_eq]; omega), br_t, nat_cast, sign_f, Option.bind_some, Option.bind_some, Option.bind_some, add_one i (by omega)]
    by_cases h0 : rd I64 l i = 0
    · rw [if_pos h0, eqI_t h0, br_t]
      exact ih k (i + 1) t c (by omega) (by omega) (by omega) h1 h2 h3 (by omega)
    · have hn := sg_ne h0
      have hm : -1 ≤ t * sg (rd I64 l i) ∧ t * sg (rd I64 l i) ≤ 1 := by rcases hn with h | h <;> rw [h] <;> omega
      rw [if_neg h0, eqI_f h0, br_f, mul_in (x := t) (y := sg (rd (.int .i64) l i)) (by exact (by omega : (-9223372036854775808 : Int) ≤ t * sg (rd I64 l i))) (by exact (by omega : t * sg (rd I64 l i) ≤ (9223372036854775807 : Int)))]
      by_cases h5 : t * sg (rd I64 l i) < 0
      · rw [if_pos h5, ltI_t h5, br_t, add_in (by omega) (by omega)]
        exact ih k (i + 1) _ (c + 1) (by omega) (by omega) (by omega) hb.1 hb.2 (by omega) (by omega)
      · rw [if_neg h5, ltI_f h5, br_f]
        exact ih k (i + 1) _ c (by omega) (by omega) (by omega) hb.1 hb.2 h3 (by omega)
theorem iCh_f (n : Nat) (l : List Int) (hl : l.length ≤ 1000000) (hn : 1000001 < n) : fn_impl_changes.f n l = some (chS l l.length 0 0 0) := by
  unfold fn_impl_changes.f
  exact iCh_l n l (fun z6 => some z6) hl l.length n 0 0 0 (by omega) (by omega) (by omega) (by omega) (by omega) (by omega) (by omega)
theorem sCh_f (n : Nat) (l : List Int) (hl : l.length ≤ 1000000) (hn : 1000001 < n) : fn_spec_beChanges.f n l = some (chS l l.length 0 0 0) := by
  unfold fn_spec_beChanges.f
  exact sCh_l n l (fun z8 => some z8) hl l.length n 0 0 0 (by omega) (by omega) (by omega) (by omega) (by omega) (by omega) (by omega)
noncomputable def vaS (p : List Int) (v : (Int × Int) × (Int × Int)) : Int × Bool := match smallB p && fitB v with
  | true => (chS (ovR p v) (ovR p v).length 0 0 0, true)
  | false => (0, false)
theorem sVar_f (p : List Int) (v : (Int × Int) × (Int × Int)) (hl : p.length ≤ 1000000) (hpr : AllR p) : fn_spec_VariationsOver.f 5000000 p v = some (vaS p v) := by
  unfold fn_spec_VariationsOver.f vaS
  rw [deAsked_f p v hl, Option.bind_some]
  cases h1 : smallB p
  · rfl
  · cases h2 : fitB v
    · rfl
    · obtain ⟨_, e2, e3, _⟩ := ovR_f p v h1 h2 hpr
      rw [Bool.and_self, bnot_t, br_f, e2, Option.bind_some, sCh_f _ _ (by omega) (by omega)]; rfl
theorem iVar_f (p : List Int) (v : (Int × Int) × (Int × Int)) (hl : p.length ≤ 1000000) (hpr : AllR p) : fn_impl_VariationsOver.f 5000000 p v = some (vaS p v) := by
  unfold fn_impl_VariationsOver.f vaS
  rw [isSmall_f _ p hl (by omega), Option.bind_some]
  cases h1 : smallB p
  · rfl
  · have hf : fn_impl_isFit.f 5000000 v = some (fitB v) := isFit_f 4999997 v
    rw [bnot_t, br_f, hf, Option.bind_some]
    cases h2 : fitB v
    · rfl
    · obtain ⟨e1, _, e3, _⟩ := ovR_f p v h1 h2 hpr
      rw [Bool.and_self, bnot_t, br_f, e1, Option.bind_some, iCh_f _ _ (by omega) (by omega)]; rfl
theorem pureVar (p : List Int) (v : (Int × Int) × (Int × Int)) (hw : Ev.WF (.slice 3 I64) p) (_ : Ev.WF (.pair (.pair I64 I64) (.pair I64 I64)) v) : ∃ n, fn_laws_FnExactVariationsOver.f n p v = some true := by
  refine ⟨5000000, ?_⟩
  have hpr : AllR p := fun a ha => wf_inR (hw.2 a ha)
  unfold fn_laws_FnExactVariationsOver.f
  by_cases hl : p.length ≤ 1000000
  · obtain ⟨r, hr, hr2⟩ := toIntS_b 5000000 p hl (by omega)
    have hr2 : preL r p.length = p := hr2
    rw [ltI_f (by rw [ilen_eq]; omega), br_f, toIntS_nb _ p hl (by omega), Option.bind_some, toInterval_f, Option.bind_some]
    dsimp only
    rw [rowIntS_take, sVar_f p v hl hpr, Option.bind_some, Option.bind_some, Option.bind_some]
    dsimp only
    rw [rowIntS_take, iVar_f p v hl hpr, Option.bind_some, neI_f rfl, br_f, boolEq_self, bnot_t, br_f, Option.bind_some]
    rw [intactIntS_self _ _ _ (by omega) hl (by rw [rowIntS_len]; omega), Option.bind_some]
    dsimp only
    rw [bnot_t, br_f, hr, Option.bind_some, Option.bind_some]
    dsimp only
    rw [hr2, iVar_f p v hl hpr, Option.bind_some, neI_f rfl, br_f, boolEq_self, bnot_t, br_f]
  · rw [ltI_t (by rw [ilen_eq]; omega), br_t]
end Go.Proofs.Ytipjdipahebnbaa.Z

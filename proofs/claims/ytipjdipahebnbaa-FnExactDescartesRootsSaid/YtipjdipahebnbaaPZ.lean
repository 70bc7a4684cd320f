/- DescartesRoots: the law holds. -/
import Derived.Test.YtipjdipahebnbaaPY
import Derived.Test.YtipjdipahebnbaaPE
set_option linter.unusedVariables false
set_option linter.unusedSimpArgs false
set_option maxRecDepth 100000
namespace Go.Proofs.Ytipjdipahebnbaa.Z
open Go.Proofs.Ytipjdipahebnbaa.Ev
noncomputable section
theorem roots_f (p : List Int) (v : (Int × Int) × (Int × Int)) (hs : smallB p = true) (hf : fitB v = true) (hpr : AllR p) : ∃ r b, fn_impl_descartesRoots.f 5000000 p v = some (r, b) ∧ fn_spec_deRoots.f 5000000 p v = some (r, b) ∧ r.length ≤ 1000000 := by
  obtain ⟨l, h⟩ := v
  have hf' := hf
  unfold fitB at hf'
  simp only [Bool.and_eq_true, decide_eq_true_eq] at hf'
  obtain ⟨f1, f2, f3, f4, f5, f6, f7⟩ := hf'
  obtain ⟨r, b, h1, h2, h3⟩ := roots_same hs hpr 9 5000000 l h hf (by rw [show (524288 : Int) * 2 ^ 9 = 268435456 from rfl]; omega) (by omega) (by omega)
  exact ⟨r, b, h1, h2, by omega⟩
noncomputable def rtS (p : List Int) (v : (Int × Int) × (Int × Int)) : List ((Int × Int) × (Int × Int)) × Bool := match smallB p && fitB v with
  | true => (fn_impl_descartesRoots.f 5000000 p v).getD ([], false)
  | false => ([], false)
theorem deAsked_f (p : List Int) (v : (Int × Int) × (Int × Int)) (hl : p.length ≤ 1000000) : fn_spec_deAsked.f 5000000 p v = some (smallB p && fitB v) := by
  unfold fn_spec_deAsked.f
  rw [deGood_f _ p hl (by omega), Option.bind_some]
  cases smallB p
  · rfl
  · rw [br_t, deFit_f _ v (by omega)]; rfl
theorem sRt_f (p : List Int) (v : (Int × Int) × (Int × Int)) (hl : p.length ≤ 1000000) (hpr : AllR p) : fn_spec_DescartesRoots.f 5000000 p v = some (rtS p v) := by
  unfold fn_spec_DescartesRoots.f rtS
  rw [deAsked_f p v hl, Option.bind_some]
  cases h1 : smallB p
  · rfl
  · cases h2 : fitB v
    · rfl
    · obtain ⟨r, b, e1, e2, _⟩ := roots_f p v h1 h2 hpr
      rw [Bool.and_self, bnot_t, br_f, e1, e2]; rfl
theorem iRt_f (p : List Int) (v : (Int × Int) × (Int × Int)) (hl : p.length ≤ 1000000) (hpr : AllR p) : fn_impl_DescartesRoots.f 5000000 p v = some (rtS p v) := by
  unfold fn_impl_DescartesRoots.f rtS
  rw [isSmall_f _ p hl (by omega), Option.bind_some]
  cases h1 : smallB p
  · rfl
  · have hf : fn_impl_isFit.f 5000000 v = some (fitB v) := isFit_f 4999997 v
    rw [bnot_t, br_f, hf, Option.bind_some]
    cases h2 : fitB v
    · rfl
    · obtain ⟨r, b, e1, e2, _⟩ := roots_f p v h1 h2 hpr
      rw [Bool.and_self, bnot_t, br_f, e1]; rfl
theorem rtS_len (p : List Int) (v : (Int × Int) × (Int × Int)) (hpr : AllR p) : (rtS p v).1.length ≤ 1000000 := by
  unfold rtS
  cases h1 : smallB p
  · simp
  · cases h2 : fitB v
    · simp
    · obtain ⟨r, b, e1, e2, e3⟩ := roots_f p v h1 h2 hpr
      rw [Bool.and_self, e1]
      exact e3
theorem wf_inR {x : Int} (h : (Lit.int .i64 x).wf = true) : InR x := by
  have h : IntKind.i64.min ≤ x ∧ x ≤ IntKind.i64.max := by simpa [Lit.wf] using h
  have e1 : IntKind.i64.min = -9223372036854775808 := rfl
  have e2 : IntKind.i64.max = 9223372036854775807 := rfl
  unfold InR
  omega
theorem toInterval_f (n : Nat) (v : (Int × Int) × (Int × Int)) : fn_laws_toInterval.f n v = some v := rfl
theorem pureDesc (p : List Int) (v : (Int × Int) × (Int × Int)) (hw : Ev.WF (.slice 3 I64) p) (_ : Ev.WF (.pair (.pair I64 I64) (.pair I64 I64)) v) : ∃ n, fn_laws_FnExactDescartesRoots.f n p v = some true := by
  refine ⟨5000000, ?_⟩
  have hpr : AllR p := fun a ha => wf_inR (hw.2 a ha)
  unfold fn_laws_FnExactDescartesRoots.f
  by_cases hl : p.length ≤ 1000000
  · obtain ⟨r, hr, hr2⟩ := toIntS_b 5000000 p hl (by omega)
    have hr2 : preL r p.length = p := hr2
    have hg := rtS_len p v hpr
    have hmk := markIv_f 5000000 (rtS p v).1 (rtS p v).1.length (Nat.le_refl _) hg (by omega)
    rw [List.drop_length, List.append_nil] at hmk
    rw [ltI_f (by rw [ilen_eq]; omega), br_f, toIntS_nb _ p hl (by omega), Option.bind_some, toInterval_f, Option.bind_some]
    dsimp only
    rw [rowIntS_take, sRt_f p v hl hpr, Option.bind_some, Option.bind_some, Option.bind_some]
    dsimp only
    rw [rowIntS_take, iRt_f p v hl hpr, Option.bind_some, eqIntervalS_self _ _ (by omega) (by omega), Option.bind_some, bnot_t, br_f, boolEq_self, bnot_t, br_f, Option.bind_some]
    rw [intactIntS_self _ _ _ (by omega) hl (by rw [rowIntS_len]; omega), Option.bind_some]
    dsimp only
    rw [bnot_t, br_f, mark_f _ _ _ (by rw [rowIntS_len]; omega) hl (by omega), Option.bind_some]
    dsimp only
    rw [ltI_f (by omega), br_f, Option.bind_some, br_f, bnot_t, br_f, llen_eq, hmk, Option.bind_some]
    dsimp only
    rw [heldIv_f _ _ hg (by omega), Option.bind_some, ltI_f (by omega), br_f, neI_f rfl, br_f, hr, Option.bind_some, Option.bind_some]
    dsimp only
    rw [hr2, iRt_f p v hl hpr, Option.bind_some, eqIntervalS_self _ _ (by omega) (by omega), Option.bind_some, bnot_t, br_f, boolEq_self, bnot_t, br_f, Option.bind_some, ltI_f (by omega), br_f, neI_f rfl, br_f]
  · rw [ltI_t (by rw [ilen_eq]; omega), br_t]
end
end Go.Proofs.Ytipjdipahebnbaa.Z

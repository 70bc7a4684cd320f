/- For every list of spots, the law FnExactIsPolygon of the given program returns true, and its argument reads afterwards as it read before. No conditions. -/
import Derived.Test.YtoifmopgchigoaaRows
import Derived.Test.YtoifmopgchigoaaXw3
import Derived.Test.YtoifmopgchigoaaXQ31
import Derived.Test.YtoifmopgchigoaaXQ54
import Derived.Test.YtoifmopgchigoaaXO37
import Derived.WalkKit
import Derived.ProofKit
import Derived.OpenShut
import Derived.ShutString
import Derived.ChangeOld
import Derived.Below
import Derived.SizedLaws
namespace Go.Proofs.Ytoifmopgchigoaa.X
theorem pure3 (l : List S37) (hb : l.length ≤ 9223372036854775807) : ∃ k, laws_FnExactIsPolygon.f k l = some true := by
  by_cases h : l.length ≤ 1000000
  · refine ⟨2 * l.length + 100, ?_⟩
    have h1 : ∀ k, 24 < k → spec_IsPolygon.f k (l.map laws_toSpotS.cv) = some (goodB (l.map laws_toSpotS.cv)) := fun k hk => by
      unfold spec_IsPolygon.f; rw [wiGood_f _ _ hk, Option.bind_some]
    have h2 : ∀ k, 24 < k → impl_IsPolygon.f k (l.map laws_toSpotS.cv) = some (goodB (l.map laws_toSpotS.cv)) := fun k hk => by
      unfold impl_IsPolygon.f; rw [isPolygon_f _ _ hk, Option.bind_some]
    unfold laws_FnExactIsPolygon.f
    rw [szSpotS_small l h, Option.bind_some, if_neg (by omega)]
    simp only [toSpotS_f _ _ _ h, Option.bind_some, h1 _ (show 24 < 2 * l.length + 100 by omega), h2 _ (show 24 < 2 * l.length + 100 by omega), bne_self_eq_false, Bool.false_eq_true, if_false,
      intactSpotS_self (l.map laws_toSpotS.cv) (2 * l.length + 100) (by simpa using h) (by simp), if_true]
  · refine ⟨0, ?_⟩
    unfold laws_FnExactIsPolygon.f
    rw [szSpotS_big l hb (by omega), Option.bind_some, if_pos (by omega)]
end Go.Proofs.Ytoifmopgchigoaa.X
namespace Go.Proofs.Ytoifmopgchigoaa.fnExactIsPolygon
open Go.ChangeShapes Go.WideShapes Go.ChangeAt Go.RowKit
open Go.ChangeMaps (open_string shut_string)
set_option linter.unusedVariables false
theorem own : ownKnob Try.prog.godebug = none := by kernel_rfl
theorem laidOut : laidOutB Try.prog = true := by kernel_rfl
set_option maxRecDepth 100000 in
theorem lifted (os : Os) (started : os.Started) (H : Type) (enc : TypeId × Value → H) :
    ReturnsInHanded {} Try.checked os 3 .any (Rows.fnExactIsPolygonSpec.pre6 enc Try.prog Try.f3 Rows.fnExactIsPolygonRow.domain false) (Rows.fnExactIsPolygonSpec.post enc Try.prog Try.f3 false true false false) := by
  refine returnsInHanded_of_change_sized (C := Try.checked) own started (by kernel_rfl) Try.func3
    (ChangeSpec.witness6 (enc := enc) (C := Try.checked) false ⟨#[], #[.slice none 0 0], []⟩ 8 (by kernel_rfl) (by kernel_rfl) (by kernel_rfl) (by kernel_rfl)) ?_
  intro W base args ds gs before hval0 hW hcnd hsz0 _
  have hval : ∀ (j : Nat) t v, Try.f3.params[j]? = some t → args[j]? = some v → Value.okWide Try.prog W .any base t v := hval0
  have hW' := hW
  obtain ⟨p, q, hA0, hV, rfl, hfz, hnd⟩ := hW
  have hA : DataW.TrodAll enc Try.prog W 0 (fun _ => true) true Try.f3.params.toList args.toList ds p := hA0
  rw [Try.params3] at hA hval
  obtain ⟨v0, vs0, d0, ds0, p0, q0, hargs, rfl, rfl, h0, r0⟩ := trodAll_cons hA
  obtain ⟨rfl, rfl, rfl⟩ := trodAll_nil r0
  obtain rfl : args = #[v0] := by cases args; simp_all
  obtain ⟨rfl, rfl⟩ := trodVars_none hV
  have k0 := h0
  have lt0 : ∀ x ∈ p0, x.block < W.heap.size := by obtain ⟨m, hm⟩ := k0; exact DataW.trod_lt m _ _ _ hm
  obtain ⟨A0, c0, l0, rfl, hc0, hr0, hq0⟩ := X.open_arg_slice (d := X.k37) Try.underlying22 (by kernel_rfl) X.opn37 (hval 0 22 v0 rfl rfl) h0
  obtain ⟨k, hk⟩ := X.pure3 l0 hr0.2.1
  clear hA0 hval0 hsz0
  refine (X.laws_FnExactIsPolygon.calls k A0 c0 l0 true W hr0 hc0 hk).mono fun e W' ⟨he, bel⟩ => ?_
  subst he
  exact ⟨_, rfl, _, _, _, [], _, [], hW', trodAll_mk1 (shut_bool Try.underlying4 _), (trodAll_cons_mk (Below.trod laidOut (by kernel_rfl) (of_decide_eq_true (by kernel_rfl)) k0 bel lt0) trodAll_mk0), rfl, bel.frame _, fun h => by cases h⟩
theorem over : Rows.fnExactIsPolygonRow.holds Try.pinned (OpenSpec.ofChange Rows.fnExactIsPolygonSpec) :=
  OpenClaim.holds_of_wide 3 Try.f3 rfl rfl rfl rfl rfl rfl rfl ⟨rfl, rfl, rfl, rfl, rfl⟩ rfl rfl rfl rfl rfl (by kernel_rfl) Try.func3 (by kernel_rfl)
    (of_decide_eq_true (by kernel_rfl)) (by unfold Func.isWrapper; first | (rw [if_pos (by decide +kernel)]; kernel_rfl) | (rw [if_neg (by decide +kernel)]; exact ⟨rfl, rfl⟩))
    (fun os started H enc _ => lifted os started H enc)
end Go.Proofs.Ytoifmopgchigoaa.fnExactIsPolygon
namespace Go.Proofs.Ytoifmopgchigoaa
theorem fnExactIsPolygon_holds : Rows.FnExactIsPolygonSaid := fnExactIsPolygon.over
#print axioms fnExactIsPolygon_holds
end Go.Proofs.Ytoifmopgchigoaa

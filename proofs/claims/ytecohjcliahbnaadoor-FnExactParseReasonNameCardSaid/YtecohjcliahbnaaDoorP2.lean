/- The names of the reasons: both sides agree. -/
import Derived.Test.YtecohjcliahbnaaDoorP1
set_option linter.unusedVariables false
set_option linter.unusedSimpArgs false
set_option maxRecDepth 100000
namespace Go.Proofs.YtecohjcliahbnaaDoor.Z
open Go.Proofs.YtecohjcliahbnaaDoor.Ev
/-- The names of the reasons. -/
def nmL : List ByteArray := [ByteArray.mk #[98, 48], ByteArray.mk #[98, 49], ByteArray.mk #[98, 50], ByteArray.mk #[118, 48], ByteArray.mk #[118, 49], ByteArray.mk #[118, 50], ByteArray.mk #[109, 48], ByteArray.mk #[109, 49], ByteArray.mk #[109, 50]]
def nm (k : Nat) : ByteArray := nmL.getD k ByteArray.empty
theorem exName_c (n : Nat) : ∀ k : Nat, k < 9 → fn_spec_exName.f n (k : Int) = some (nm k)
  | 0, _ => by kernel_rfl
  | 1, _ => by kernel_rfl
  | 2, _ => by kernel_rfl
  | 3, _ => by kernel_rfl
  | 4, _ => by kernel_rfl
  | 5, _ => by kernel_rfl
  | 6, _ => by kernel_rfl
  | 7, _ => by kernel_rfl
  | 8, _ => by kernel_rfl
  | _ + 9, h => absurd h (by omega)
theorem reasonName_c (n : Nat) : ∀ k : Nat, k < 9 → fn_impl_reasonName.f n (k : Int) = some (nm k)
  | 0, _ => by kernel_rfl
  | 1, _ => by kernel_rfl
  | 2, _ => by kernel_rfl
  | 3, _ => by kernel_rfl
  | 4, _ => by kernel_rfl
  | 5, _ => by kernel_rfl
  | 6, _ => by kernel_rfl
  | 7, _ => by kernel_rfl
  | 8, _ => by kernel_rfl
  | _ + 9, h => absurd h (by omega)
theorem exReason_f (n : Nat) (a : Int) : fn_spec_exReason.f n a = some (inB a 0 8) := by
  unfold fn_spec_exReason.f
  rw [l1In_f]; rfl
theorem isReason_f (n : Nat) (a : Int) : fn_impl_isReason.f n a = some (inB a 0 8) := by
  unfold fn_impl_isReason.f
  rw [inside_f]; rfl
theorem pureName (a : Int) (_ : Ev.WF I64 a) : ∃ n, fn_laws_FnExactReasonName.f n a = some true := by
  refine ⟨0, ?_⟩
  unfold fn_laws_FnExactReasonName.f fn_spec_ReasonName.f fn_impl_ReasonName.f
  rw [exReason_f, isReason_f, Option.bind_some, Option.bind_some]
  cases h : inB a 0 8
  · rw [bnot_f, br_t, br_t, Option.bind_some, Option.bind_some]
    dsimp only
    rw [strEq_self, boolEq_self, bnot_t, br_f, br_f]
  · have hb := inB_t h
    obtain ⟨k, rfl⟩ : ∃ k : Nat, a = (k : Int) := ⟨a.toNat, by omega⟩
    rw [bnot_t, br_f, br_f, exName_c 0 k (by omega), reasonName_c 0 k (by omega), Option.bind_some, Option.bind_some, Option.bind_some]
    dsimp only
    rw [strEq_self, boolEq_self, bnot_t, br_f, br_f]
/-- The reason with a name, looked for from number i on. -/
def par (s : ByteArray) : Nat → Nat → Int × Bool
  | 0, _ => (0, false)
  | d + 1, i => match strEq (nm i) s with
    | true => ((i : Int), true)
    | false => par s d (i + 1)
theorem exParse_l (n : Nat) (s : ByteArray) : ∀ (d k i : Nat), i + d = 9 → d < k → fn_spec_exParse.l2 n k s (i : Int) (fun z3 z4 => some (z3, z4)) (fun _ => some ((0 : Int), false)) = some (par s d i) := by
  intro d
  induction d with
  | zero =>
    intro k i hi hk
    obtain ⟨k, rfl⟩ : ∃ m, k = m + 1 := ⟨k - 1, by omega⟩
    simp only [fn_spec_exParse.l2, par]
    rw [leI_f (by omega), br_f]
  | succ d ih =>
    intro k i hi hk
    obtain ⟨k, rfl⟩ : ∃ m, k = m + 1 := ⟨k - 1, by omega⟩
    simp only [fn_spec_exParse.l2, par]
    rw [leI_t (by omega), br_t, exName_c n i (by omega), Option.bind_some]
    cases strEq (nm i) s
    · rw [br_f, add_one i (by omega)]
      exact ih k (i + 1) (by omega) (by omega)
    · rfl
theorem iParse_l (n : Nat) (s : ByteArray) : ∀ (d k i : Nat), i + d = 9 → d < k → fn_impl_ParseReasonName.l2 n k s (i : Int) (fun z3 z4 => some (z3, z4)) (fun _ => some ((0 : Int), false)) = some (par s d i) := by
  intro d
  induction d with
  | zero =>
    intro k i hi hk
    obtain ⟨k, rfl⟩ : ∃ m, k = m + 1 := ⟨k - 1, by omega⟩
    simp only [fn_impl_ParseReasonName.l2, par]
    rw [ltI_f (by omega), br_f]
  | succ d ih =>
    intro k i hi hk
    obtain ⟨k, rfl⟩ : ∃ m, k = m + 1 := ⟨k - 1, by omega⟩
    simp only [fn_impl_ParseReasonName.l2, par]
    rw [ltI_t (by omega), br_t, reasonName_c n i (by omega), Option.bind_some]
    cases strEq (nm i) s
    · rw [br_f, add_one i (by omega)]
      exact ih k (i + 1) (by omega) (by omega)
    · rfl
theorem pureParse (s : ByteArray) (_ : Ev.WF .str s) : ∃ n, fn_laws_FnExactParseReasonName.f n s = some true := by
  refine ⟨100, ?_⟩
  unfold fn_laws_FnExactParseReasonName.f fn_spec_ParseReasonName.f fn_spec_exParse.f fn_impl_ParseReasonName.f
  cases ltI 1000000 (inat s.size)
  · have h1 := exParse_l 100 s 9 100 0 rfl (by omega)
    have h2 := iParse_l 100 s 9 100 0 rfl (by omega)
    have h1 : fn_spec_exParse.l2 100 100 s 0 (fun z3 z4 => some (z3, z4)) (fun _ => some ((0 : Int), false)) = _ := h1
    have h2 : fn_impl_ParseReasonName.l2 100 100 s 0 (fun z3 z4 => some (z3, z4)) (fun _ => some ((0 : Int), false)) = _ := h2
    rw [br_f, h1, h2, Option.bind_some, Option.bind_some, Option.bind_some]
    rw [neI_f rfl, br_f, boolEq_self, bnot_t, br_f]
  · rfl
end Go.Proofs.YtecohjcliahbnaaDoor.Z

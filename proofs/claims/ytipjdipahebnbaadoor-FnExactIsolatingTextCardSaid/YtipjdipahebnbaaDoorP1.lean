/- The helpers of the laws, told plainly. -/
import Derived.Test.YtipjdipahebnbaaDoorG1
set_option linter.unusedVariables false
set_option linter.unusedSimpArgs false
set_option maxRecDepth 100000
namespace Go.Proofs.YtipjdipahebnbaaDoor.Z
open Go.Proofs.YtipjdipahebnbaaDoor.Ev
noncomputable section
def inB (x a b : Int) : Bool := leI a x && leI x b
theorem inside_f (n : Nat) (x a b : Int) : fn_impl_inside.f n x a b = some (inB x a b) := by
  unfold fn_impl_inside.f inB
  cases leI a x <;> rfl
theorem l1In_f (n : Nat) (x a b : Int) : fn_spec_l1In.f n x a b = some (inB x a b) := inside_f n x a b
abbrev I64 : Ty := .int .i64
abbrev IvE : Ty := .pair (.pair I64 I64) (.pair I64 I64)
theorem toInterval_f (n : Nat) (x : (Int × Int) × (Int × Int)) : fn_laws_toInterval.f n x = some x := rfl
theorem toDyadic_f (n : Nat) (x : Int × Int) : fn_laws_toDyadic.f n x = some x := rfl
theorem fillerIv_f (n : Nat) : fn_laws_fillerInterval.f n = some ((-7000000000000000101, -7000000000000000101), (-7000000000000000101, -7000000000000000101)) := rfl
theorem eqDyadic_self (n : Nat) (x : Int × Int) : fn_laws_eqDyadic.f n x x = some true := by
  unfold fn_laws_eqDyadic.f
  rw [neI_f rfl, br_f, neI_f rfl, br_f]
theorem eqInterval_self (n : Nat) (x : (Int × Int) × (Int × Int)) : fn_laws_eqInterval.f n x x = some true := by
  unfold fn_laws_eqInterval.f
  rw [eqDyadic_self, eqDyadic_self]
  rfl
theorem room_f (n m : Nat) (hm : m ≤ 4000000) : fn_laws_roomBehind.f n (m : Int) = some ((roomN m : Nat) : Int) := by
  unfold fn_laws_roomBehind.f roomN
  rw [eqI_f (by omega), br_f]
  have e1 : rem (m : Int) 6 = ((m % 6 : Nat) : Int) := by unfold rem; rw [Int.tmod_eq_emod_of_nonneg (by omega)]; omega
  have e2 : rem (m : Int) 3 = ((m % 3 : Nat) : Int) := by unfold rem; rw [Int.tmod_eq_emod_of_nonneg (by omega)]; omega
  rw [e1, e2]
  by_cases h5 : m % 6 = 5
  · rw [eqI_t (by omega), br_t, if_pos h5]; rfl
  · rw [eqI_f (by omega), br_f, eqI_f (by omega), br_f, if_neg h5]
    by_cases h3 : m % 3 = 0
    · rw [eqI_t (by omega), br_t, if_pos h3]; rfl
    · rw [eqI_f (by omega), br_f, if_neg h3]
theorem toIntervalS_l5 {R : Type} (n : Nat) (x : List ((Int × Int) × (Int × Int))) (K0 : List ((Int × Int) × (Int × Int)) → List ((Int × Int) × (Int × Int)) → Option R) : ∀ (d k i : Nat) (out : List ((Int × Int) × (Int × Int))), x.length - i = d → i ≤ x.length → x.length ≤ out.length → d < k → x.length ≤ 1000000 →
    fn_laws_toIntervalS.l5 n k x out (i : Int) K0 = K0 x (out.take i ++ x.drop i ++ out.drop x.length) := by
  intro d
  induction d with
  | zero =>
    intro k i out hd hi ho hk hx
    obtain ⟨k, rfl⟩ : ∃ m, k = m + 1 := ⟨k - 1, by omega⟩
    obtain rfl : i = x.length := by omega
    simp only [fn_laws_toIntervalS.l5]
    rw [ltI_f (by rw [ilen_eq]; omega), br_f, List.drop_length, List.append_nil, List.take_append_drop]
  | succ d ih =>
    intro k i out hd hi ho hk hx
    obtain ⟨k, rfl⟩ : ∃ m, k = m + 1 := ⟨k - 1, by omega⟩
    have hlt : i < x.length := by omega
    simp only [fn_laws_toIntervalS.l5]
    rw [ltI_t (by rw [ilen_eq]; omega), br_t, okIx_t (by omega) (by rw [ilen_eq]; omega), br_t, toInterval_f, Option.bind_some]
    rw [okIx_t (by omega) (by rw [ilen_eq]; omega), br_t, nat_cast, rd_at IvE x i hlt, add_one i (by omega)]
    rw [ih k (i + 1) _ (by omega) (by omega) (by unfold setL; simp; omega) (by omega) hx]
    congr 1
    unfold setL
    rw [take_set _ _ _ (by omega), drop_set _ _ _ _ hlt, List.drop_eq_getElem_cons hlt]
    simp
theorem toIntervalS_l9 {R : Type} (n : Nat) (x : List ((Int × Int) × (Int × Int))) (K0 : List ((Int × Int) × (Int × Int)) → List ((Int × Int) × (Int × Int)) → Option R) : ∀ (d k i : Nat) (out : List ((Int × Int) × (Int × Int))), out.length - i = d → i ≤ out.length → d < k → out.length ≤ 4000000 →
    fn_laws_toIntervalS.l9 n k x out (i : Int) K0 = K0 x (out.take i ++ List.replicate (out.length - i) (((-7000000000000000101 : Int), (-7000000000000000101 : Int)), ((-7000000000000000101 : Int), (-7000000000000000101 : Int)))) := by
  intro d
  induction d with
  | zero =>
    intro k i out hd hi hk hx
    obtain ⟨k, rfl⟩ : ∃ m, k = m + 1 := ⟨k - 1, by omega⟩
    obtain rfl : i = out.length := by omega
    simp only [fn_laws_toIntervalS.l9]
    rw [ltI_f (by rw [ilen_eq]; omega), br_f]
    simp
  | succ d ih =>
    intro k i out hd hi hk hx
    obtain ⟨k, rfl⟩ : ∃ m, k = m + 1 := ⟨k - 1, by omega⟩
    have hlt : i < out.length := by omega
    simp only [fn_laws_toIntervalS.l9]
    rw [ltI_t (by rw [ilen_eq]; omega), br_t, fillerIv_f, Option.bind_some]
    rw [okIx_t (by omega) (by rw [ilen_eq]; omega), br_t, nat_cast, add_one i (by omega)]
    rw [ih k (i + 1) _ (by unfold setL; simp; omega) (by unfold setL; simp; omega) (by omega) (by unfold setL; simp; omega)]
    congr 1
    unfold setL
    rw [take_set _ _ _ (by omega), List.length_set, show out.length - i = (out.length - (i + 1)) + 1 from by omega, List.replicate_succ]
    simp
/-- The row that an argument is laid into. -/
def rowIntervalS (l : List ((Int × Int) × (Int × Int))) : List ((Int × Int) × (Int × Int)) := l ++ List.replicate (roomN l.length) (((-7000000000000000101 : Int), (-7000000000000000101 : Int)), ((-7000000000000000101 : Int), (-7000000000000000101 : Int)))
theorem toIntervalS_nb (n : Nat) (l : List ((Int × Int) × (Int × Int))) (hl : l.length ≤ 1000000) (hn : 3000000 < n) : fn_laws_toIntervalS.f n l false = some (rowIntervalS l, l.length) := by
  unfold fn_laws_toIntervalS.f
  have hr := roomN_le l.length
  rw [br_f, ilen_eq, room_f n l.length (by omega), Option.bind_some, add_in (by omega) (by omega), okMake_t (by omega) (by omega) (by omega), br_t]
  have e : nat ((l.length : Int) + ((roomN l.length : Nat) : Int)) = l.length + roomN l.length := by unfold nat; omega
  have := toIntervalS_l5 n l (fun z w => fn_laws_toIntervalS.l9 n n z w (ilen z) fun a b => br (okSl (ilen a) (ilen b)) (some (b, nat (ilen a))) none) l.length n 0 (repL (nat ((l.length : Int) + ((roomN l.length : Nat) : Int))) (((0 : Int), (0 : Int)), ((0 : Int), (0 : Int)))) (by omega) (by omega) (by unfold repL; rw [e]; simp) (by omega) hl
  refine this.trans ?_
  rw [e]
  unfold repL
  simp only [List.take_zero, List.nil_append, List.drop_zero, List.drop_replicate, Nat.add_sub_cancel_left]
  rw [ilen_eq, toIntervalS_l9 n l _ (roomN l.length) n l.length _ (by simp) (by simp) (by omega) (by simp; omega)]
  rw [okSl_t (by rw [ilen_eq]; omega) (by rw [ilen_eq, ilen_eq]; simp; omega), br_t, ilen_eq, nat_cast]
  simp [rowIntervalS]
theorem toIntervalS_b (n : Nat) (l : List ((Int × Int) × (Int × Int))) (hl : l.length ≤ 1000000) (hn : 3000000 < n) : ∃ r, fn_laws_toIntervalS.f n l true = some (r, l.length) ∧ r.take l.length = l := by
  have h := toIntervalS_nb n l hl hn
  unfold fn_laws_toIntervalS.f at h ⊢
  rw [br_f] at h
  rw [br_t, ilen_eq]
  rw [ilen_eq] at h
  by_cases h0 : (l.length : Int) = 0
  · rw [eqI_t h0, br_t]
    have : l = [] := List.eq_nil_of_length_eq_zero (by omega)
    subst this
    exact ⟨[], rfl, rfl⟩
  · rw [eqI_f h0, br_f, h]
    exact ⟨_, rfl, by simp [rowIntervalS]⟩
theorem rowIntervalS_take (l : List ((Int × Int) × (Int × Int))) : preL (rowIntervalS l) l.length = l := by simp [preL, rowIntervalS]
theorem eqIntervalS_loop {R : Type} (n : Nat) (x : List ((Int × Int) × (Int × Int))) (K0 : Bool → Option R) (K1 : Unit → Option R) : ∀ (d k i : Nat), x.length - i = d → i ≤ x.length → d < k → x.length ≤ 4000000 → fn_laws_eqIntervalS.l4 n k x x (i : Int) K0 K1 = K1 () := by
  intro d
  induction d with
  | zero =>
    intro k i hd hi hk hx
    obtain ⟨k, rfl⟩ : ∃ m, k = m + 1 := ⟨k - 1, by omega⟩
    simp only [fn_laws_eqIntervalS.l4]
    rw [ltI_f (by rw [ilen_eq]; omega), br_f]
  | succ d ih =>
    intro k i hd hi hk hx
    obtain ⟨k, rfl⟩ : ∃ m, k = m + 1 := ⟨k - 1, by omega⟩
    simp only [fn_laws_eqIntervalS.l4]
    rw [ltI_t (by rw [ilen_eq]; omega), br_t, okIx_t (by omega) (by rw [ilen_eq]; omega), br_t, br_t, eqInterval_self, Option.bind_some, bnot_t, br_f, add_one i (by omega)]
    exact ih k (i + 1) (by omega) (by omega) (by omega) hx
theorem eqIntervalS_self (n : Nat) (x : List ((Int × Int) × (Int × Int))) (hn : 4000000 < n) (hx : x.length ≤ 4000000) : fn_laws_eqIntervalS.f n x x = some true := by
  unfold fn_laws_eqIntervalS.f
  rw [neI_f rfl, br_f]
  exact eqIntervalS_loop n x _ _ x.length n 0 (by omega) (by omega) (by omega) hx
theorem intactIntervalS_self (n : Nat) (r : List ((Int × Int) × (Int × Int))) (m : Nat) (hn : 4000000 < n) (hm : m ≤ 1000000) (hr : m + roomN m ≤ r.length) : fn_laws_intactIntervalS.f n (r, m) (r, m) = some (true, (r, r)) := by
  unfold fn_laws_intactIntervalS.f
  have h1 := roomN_le m
  dsimp only
  rw [inat_eq, room_f n m (by omega), Option.bind_some, eqI_t rfl, br_t, add_in (by omega) (by omega)]
  rw [okSl_t (by omega) (by rw [ilen_eq]; omega), br_t, br_t]
  rw [eqIntervalS_self n _ hn (by unfold preL nat; simp; omega)]
  rfl
theorem rowIntervalS_len (l : List ((Int × Int) × (Int × Int))) : (rowIntervalS l).length = l.length + roomN l.length := by simp [rowIntervalS]
end
end Go.Proofs.YtipjdipahebnbaaDoor.Z

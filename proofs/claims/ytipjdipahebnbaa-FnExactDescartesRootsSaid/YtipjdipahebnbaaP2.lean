/- Single polynomials: what both sides take as valid. -/
import Derived.Test.YtipjdipahebnbaaP1
set_option linter.unusedVariables false
set_option linter.unusedSimpArgs false
set_option maxRecDepth 100000
namespace Go.Proofs.Ytipjdipahebnbaa.Z
open Go.Proofs.Ytipjdipahebnbaa.Ev
noncomputable section
theorem clone_f (n : Nat) (l : List Int) (hl : l.length ≤ 1000000) : fn_slices_Clone___int_int_.f n l = some l := by
  unfold fn_slices_Clone___int_int_.f
  have h : okApp (nadd (List.length ([] : List Int)) (List.length l)) 8 = true := okApp_t (by unfold nadd; simp; omega)
  have e : appL ([] : List Int) l = l := rfl
  rw [h, br_t, e]
  cases l with
  | nil =>
    rw [ltI_f (by rw [ilen_eq]; simp), br_f]
    unfold agree
    simp
  | cons a r => rw [ltI_t (by rw [ilen_eq]; simp), br_t]
/-- A list without zeros at its end. -/
def strip (l : List Int) : List Int := (l.reverse.dropWhile (fun a => decide (a = 0))).reverse
theorem strip_nil : strip [] = [] := rfl
theorem strip_zero (l : List Int) : strip (l ++ [0]) = strip l := by simp [strip]
theorem strip_last (l : List Int) (a : Int) (h : a ≠ 0) : strip (l ++ [a]) = l ++ [a] := by simp [strip, h]
theorem strip_zeros (l : List Int) (r : Nat) : strip (l ++ List.replicate r 0) = strip l := by
  induction r with
  | zero => simp
  | succ r ih => rw [List.replicate_succ', ← List.append_assoc, strip_zero, ih]
theorem concat_cases (l : List Int) : l = [] ∨ ∃ ys a, l = ys ++ [a] := by
  rcases List.eq_nil_or_concat l with h | ⟨ys, a, h⟩
  · exact .inl h
  · exact .inr ⟨ys, a, by simpa using h⟩
theorem strip_split : ∀ (m : Nat) (l : List Int), l.length = m → ∃ r, l = strip l ++ List.replicate r 0 := by
  intro m
  induction m with
  | zero =>
    intro l h
    obtain rfl := List.eq_nil_of_length_eq_zero h
    exact ⟨0, rfl⟩
  | succ m ih =>
    intro l h
    rcases concat_cases l with rfl | ⟨ys, a, rfl⟩
    · cases h
    · by_cases ha : a = 0
      · subst ha
        obtain ⟨r, hr⟩ := ih ys (by simpa using h)
        refine ⟨r + 1, ?_⟩
        rw [strip_zero, List.replicate_succ', ← List.append_assoc, ← hr]
      · exact ⟨0, by rw [strip_last _ _ ha]; simp⟩
theorem strip_le (l : List Int) : (strip l).length ≤ l.length := by
  obtain ⟨r, hr⟩ := strip_split _ l rfl
  have := congrArg List.length hr
  simp at this
  omega
theorem trim2_l {R : Type} (n : Nat) (K0 : List Int → Option R) : ∀ (m k : Nat) (x : List Int), x.length = m → m < k → x.length ≤ 1000000 → fn_impl_stripped.l1 n k x K0 = K0 (strip x) := by
  intro m
  induction m with
  | zero =>
    intro k x hx hk hb
    obtain ⟨k, rfl⟩ : ∃ m, k = m + 1 := ⟨k - 1, by omega⟩
    obtain rfl := List.eq_nil_of_length_eq_zero hx
    simp only [fn_impl_stripped.l1]
    rw [ltI_f (by rw [ilen_eq]; simp), br_f, strip_nil]
  | succ m ih =>
    intro k x hx hk hb
    obtain ⟨k, rfl⟩ : ∃ m, k = m + 1 := ⟨k - 1, by omega⟩
    rcases concat_cases x with rfl | ⟨ys, a, rfl⟩
    · cases hx
    · have hy : ys.length = m := by simpa using hx
      have e : (((ys ++ [a]).length : Nat) : Int) = (ys.length : Int) + 1 := by simp
      have e1 : sub .i64 (ilen (ys ++ [a])) 1 = (ys.length : Int) := by rw [ilen_eq, e, sub_in (by omega) (by omega)]; omega
      simp only [fn_impl_stripped.l1]
      rw [e1, ilen_eq, e, ltI_t (by omega), br_t, okIx_t (by omega) (by omega), br_t, nat_cast, rd_at I64 (ys ++ [a]) ys.length (by simp)]
      have e2 : (ys ++ [a])[ys.length]'(by simp) = a := by simp
      rw [e2]
      by_cases ha : a = 0
      · rw [eqI_t ha, br_t, okSl_t (by omega) (by omega), br_t]
        have e3 : preL (ys ++ [a]) ys.length = ys := by simp [preL]
        rw [e3, ih k ys hy (by omega) (by simp at hb; omega), ha, strip_zero]
      · rw [eqI_f ha, br_f, strip_last _ _ ha]
theorem stripped_f (n : Nat) (x : List Int) (hx : x.length ≤ 1000000) (hn : 1000001 < n) : fn_impl_stripped.f n x = some (strip x) := by
  unfold fn_impl_stripped.f
  rw [trim2_l n _ _ n x rfl (by omega) hx, clone_f n _ (by have := strip_le x; omega)]
  rfl
/-- The numbers of a list lie within bounds. -/
def allS (l : List Int) (a b : Int) : Nat → Nat → Bool
  | 0, _ => true
  | d + 1, i => inB (rd I64 l i) a b && allS l a b d (i + 1)
theorem l1All_l {R : Type} (n : Nat) (l : List Int) (a b : Int) (K0 : Bool → Option R) (K1 : Unit → Option R) (hl : l.length ≤ 1000000) : ∀ (d k i : Nat), l.length - i = d → i ≤ l.length → d < k →
    fn_spec_l1All.l2 n k l a b (ilen l) (i : Int) K0 K1 = br (allS l a b d i) (K1 ()) (K0 false) := by
  intro d
  induction d with
  | zero =>
    intro k i hd hi hk
    obtain ⟨k, rfl⟩ : ∃ m, k = m + 1 := ⟨k - 1, by omega⟩
    simp only [fn_spec_l1All.l2, allS]
    rw [ltI_f (by rw [ilen_eq]; omega), br_f]; rfl
  | succ d ih =>
    intro k i hd hi hk
    obtain ⟨k, rfl⟩ : ∃ m, k = m + 1 := ⟨k - 1, by omega⟩
    simp only [fn_spec_l1All.l2, allS]
    rw [ltI_t (by rw [ilen_eq]; omega), br_t, okIx_t (by omega) (by rw [ilen_eq]; omega), br_t, l1In_f, Option.bind_some, nat_cast]
    cases inB (rd I64 l i) a b
    · rfl
    · rw [bnot_t, br_f, add_one i (by omega)]
      exact ih k (i + 1) (by omega) (by omega) (by omega)
theorem l1All_f (n : Nat) (l : List Int) (a b : Int) (hl : l.length ≤ 1000000) (hn : 1000001 < n) : fn_spec_l1All.f n l a b = some (allS l a b l.length 0) := by
  unfold fn_spec_l1All.f
  refine (l1All_l n l a b _ _ hl l.length n 0 (by omega) (by omega) (by omega)).trans ?_
  cases allS l a b l.length 0 <;> rfl
theorem single_l {R : Type} (n : Nat) (l : List Int) (K0 : Bool → Option R) (K1 : List Int → Option R) (hl : l.length ≤ 1000000) : ∀ (d k i : Nat), l.length - i = d → i ≤ l.length → d < k →
    fn_impl_isSingle.l2 n k l l (ilen l) (i : Int) K0 K1 = br (allS l (-1000000) 1000000 d i) (K1 l) (K0 false) := by
  intro d
  induction d with
  | zero =>
    intro k i hd hi hk
    obtain ⟨k, rfl⟩ : ∃ m, k = m + 1 := ⟨k - 1, by omega⟩
    simp only [fn_impl_isSingle.l2, allS]
    rw [ltI_f (by rw [ilen_eq]; omega), br_f]; rfl
  | succ d ih =>
    intro k i hd hi hk
    obtain ⟨k, rfl⟩ : ∃ m, k = m + 1 := ⟨k - 1, by omega⟩
    simp only [fn_impl_isSingle.l2, allS]
    rw [ltI_t (by rw [ilen_eq]; omega), br_t, okIx_t (by omega) (by rw [ilen_eq]; omega), br_t, inside_f, Option.bind_some, nat_cast]
    cases inB (rd I64 l i) (-1000000) 1000000
    · rfl
    · rw [bnot_t, br_f, add_one i (by omega)]
      exact ih k (i + 1) (by omega) (by omega) (by omega)
theorem contains_l {R : Type} (n : Nat) (l : List Int) (K0 : Int → Option R) (K1 : Unit → Option R) (hl : l.length ≤ 1000000) : ∀ (d k i : Nat), l.length - i = d → i ≤ l.length → d < k →
    ∃ j : Nat, fn_slices_IndexFunc___int_int__f92.l2 n k l (ilen l) (i : Int) K0 K1 = br (allS l (-1000) 1000 d i) (K1 ()) (K0 (j : Int)) := by
  intro d
  induction d with
  | zero =>
    intro k i hd hi hk
    obtain ⟨k, rfl⟩ : ∃ m, k = m + 1 := ⟨k - 1, by omega⟩
    simp only [fn_slices_IndexFunc___int_int__f92.l2, allS]
    exact ⟨0, by rw [ltI_f (by rw [ilen_eq]; omega), br_f]; rfl⟩
  | succ d ih =>
    intro k i hd hi hk
    obtain ⟨k, rfl⟩ : ∃ m, k = m + 1 := ⟨k - 1, by omega⟩
    have e : fn_impl_isSmall_1.f n (rd I64 l i) = some (bnot (inB (rd I64 l i) (-1000) 1000)) := by
      unfold fn_impl_isSmall_1.f
      rw [inside_f]; rfl
    simp only [fn_slices_IndexFunc___int_int__f92.l2, allS]
    rw [ltI_t (by rw [ilen_eq]; omega), br_t, okIx_t (by omega) (by rw [ilen_eq]; omega), br_t, nat_cast]
    change ∃ j : Nat, (fn_impl_isSmall_1.f n (rd I64 l i)).bind _ = _
    rw [e, Option.bind_some]
    cases inB (rd I64 l i) (-1000) 1000
    · exact ⟨i, rfl⟩
    · rw [bnot_t, br_f, add_one i (by omega)]
      exact ih k (i + 1) (by omega) (by omega) (by omega)
def singB (l : List Int) : Bool := allS l (-1000000) 1000000 l.length 0 && (eqI (ilen l) 0 || (leI (ilen l) 9 && neI (rd I64 l (l.length - 1)) 0))
theorem isSingle_f (n : Nat) (l : List Int) (hl : l.length ≤ 1000000) (hn : 1000001 < n) : fn_impl_isSingle.f n l = some (singB l) := by
  unfold fn_impl_isSingle.f singB
  refine (single_l n l _ _ hl l.length n 0 (by omega) (by omega) (by omega)).trans ?_
  cases allS l (-1000000) 1000000 l.length 0
  · rfl
  · rw [br_t, Bool.true_and]
    by_cases h0 : ilen l = 0
    · rw [eqI_t h0]; rfl
    · have h1 : (l.length : Int) ≠ 0 := h0
      rw [eqI_f h0, br_f, Bool.false_or]
      cases leI (ilen l) 9
      · rfl
      · rw [br_t, Bool.true_and, ilen_eq, sub_in (by omega) (by omega), okIx_t (by omega) (by omega), br_t]
        have : nat ((l.length : Int) - 1) = l.length - 1 := by unfold nat; omega
        rw [this]
theorem sgGood_f (n : Nat) (l : List Int) (hl : l.length ≤ 1000000) (hn : 1000001 < n) : fn_spec_sgGood.f n l = some (singB l) := by
  unfold fn_spec_sgGood.f singB
  rw [l1All_f n l _ _ hl hn, Option.bind_some]
  by_cases h9 : (9 : Int) < ilen l
  · rw [ltI_t h9, br_t, leI_f (by omega), eqI_f (by omega)]
    simp
  · rw [ltI_f h9, br_f, leI_t (by omega)]
    cases allS l (-1000000) 1000000 l.length 0
    · rfl
    · rw [bnot_t, br_f, Bool.true_and]
      by_cases h0 : ilen l = 0
      · rw [eqI_t h0]; rfl
      · have h1 : (l.length : Int) ≠ 0 := h0
        rw [eqI_f h0, br_f, Bool.false_or, Bool.true_and, ilen_eq, sub_in (by omega) (by omega), okIx_t (by omega) (by omega), br_t]
        have : nat ((l.length : Int) - 1) = l.length - 1 := by unfold nat; omega
        rw [this]
def smallB (l : List Int) : Bool := singB l && (inB (ilen l) 1 6 && allS l (-1000) 1000 l.length 0)
theorem isSmall_f (n : Nat) (l : List Int) (hl : l.length ≤ 1000000) (hn : 1000001 < n) : fn_impl_isSmall.f n l = some (smallB l) := by
  unfold fn_impl_isSmall.f smallB
  rw [isSingle_f n l hl hn, Option.bind_some]
  cases singB l
  · rfl
  · rw [br_t, inside_f, Option.bind_some, Bool.true_and]
    cases inB (ilen l) 1 6
    · rfl
    · rw [br_t, Bool.true_and]
      unfold fn_slices_ContainsFunc___int_int__f92.f fn_slices_IndexFunc___int_int__f92.f
      obtain ⟨j, hj⟩ := contains_l n l (fun z4 => some z4) (fun _ => some ((-1 : Int))) hl l.length n 0 (by omega) (by omega) (by omega)
      have hj : fn_slices_IndexFunc___int_int__f92.l2 n n l (ilen l) 0 (fun z4 => some z4) (fun _ => some ((-1 : Int))) = _ := hj
      rw [hj]
      cases allS l (-1000) 1000 l.length 0
      · rw [br_f, Option.bind_some, Option.bind_some, leI_t (by omega)]; rfl
      · rw [br_t, Option.bind_some, Option.bind_some, leI_f (by omega)]; rfl
theorem deGood_f (n : Nat) (l : List Int) (hl : l.length ≤ 1000000) (hn : 1000001 < n) : fn_spec_deGood.f n l = some (smallB l) := by
  unfold fn_spec_deGood.f smallB
  rw [sgGood_f n l hl hn, Option.bind_some]
  cases singB l
  · rfl
  · rw [br_t, l1In_f, Option.bind_some, Bool.true_and]
    cases inB (ilen l) 1 6
    · rfl
    · rw [br_t, Bool.true_and, l1All_f n l _ _ hl hn]; rfl
theorem smallB_len {l : List Int} (h : smallB l = true) : 1 ≤ l.length ∧ l.length ≤ 6 := by
  unfold smallB inB at h
  simp only [Bool.and_eq_true] at h
  have h1 := leI_of h.2.1.1
  have h2 := leI_of h.2.1.2
  rw [ilen_eq] at h1 h2
  omega
end
end Go.Proofs.Ytipjdipahebnbaa.Z

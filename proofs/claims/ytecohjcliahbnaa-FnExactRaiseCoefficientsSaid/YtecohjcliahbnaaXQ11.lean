import Derived.Test.YtecohjcliahbnaaXQ1
import Derived.Test.YtecohjcliahbnaaXf11
import Derived.Test.YtecohjcliahbnaaXf13
namespace Go.Proofs.Ytecohjcliahbnaa.X
open Go.RowKit Go.Proofs.YtecohjcliahbnaaW.PrintWords Go.Proofs.YtecohjcliahbnaaW.PrintLast Go.Proofs.YtecohjcliahbnaaW.PrintMore
set_option linter.unusedVariables false
set_option linter.unusedSimpArgs false
def raiT (l : List Int) (i : Nat) : Int :=
  if (i : Int) > 0 then (if (i : Int) < (l.length : Int) then wrap64 ((wrap64 ((wrap64 ((i : Int) * (rd l (wrap64 ((i : Int) - 1))))))) + (wrap64 ((wrap64 ((l.length : Int) - (i : Int))) * (rd l (i : Int))))) else wrap64 (wrap64 ((i : Int) * (rd l (wrap64 ((i : Int) - 1))))))
  else (if (i : Int) < (l.length : Int) then wrap64 (wrap64 ((wrap64 ((l.length : Int) - (i : Int))) * (rd l (i : Int)))) else 0)
def raiL (l : List Int) : Nat → Nat → List Int
  | 0, _ => []
  | d + 1, i => raiT l i :: raiL l d (i + 1)
theorem raiL_len (l : List Int) : ∀ d i, (raiL l d i).length = d := by
  intro d
  induction d with
  | zero => intro i; rfl
  | succ d ih => intro i; simp [raiL, ih]
theorem sRai_l (l : List Int) (hn : 1 ≤ l.length ∧ l.length ≤ 4) : ∀ (d k i : Nat) (acc : List Int), l.length + 1 - i = d → i ≤ l.length + 1 → d < k → acc.length ≤ 100 + i → spec_RaiseCoefficients.l0 k l (l.length : Int) acc i = some (acc ++ raiL l d i, true) := by
  intro d
  induction d with
  | zero =>
    intro k i acc hd hi hk ha
    obtain ⟨k, rfl⟩ : ∃ m, k = m + 1 := ⟨k - 1, by omega⟩
    simp only [spec_RaiseCoefficients.l0, raiL]
    rw [if_neg (by omega), List.append_nil]
  | succ d ih =>
    intro k i acc hd hi hk ha
    obtain ⟨k, rfl⟩ : ∃ m, k = m + 1 := ⟨k - 1, by omega⟩
    have hw : wrap64 ((i : Int) + 1) = ((i + 1 : Nat) : Int) := by unfold wrap64; omega
    have e := fun x => ih k (i + 1) (acc ++ [x]) (by omega) (by omega) (by omega) (by rw [List.length_append, List.length_singleton]; omega)
    simp only [spec_RaiseCoefficients.l0, raiL]
    rw [if_pos (by omega), hw]
    simp only [e, List.append_assoc, List.singleton_append, raiT]
    by_cases h0 : (i : Int) > 0
    · have hw1 : wrap64 ((i : Int) - 1) = (i : Int) - 1 := by unfold wrap64; omega
      rw [if_pos h0, if_pos h0, if_pos (by omega), if_pos (by omega)]
      by_cases h1 : (i : Int) < (l.length : Int)
      · rw [if_pos h1, if_pos h1, if_pos (by omega), if_pos h1, if_pos (by omega)]
      · rw [if_neg h1, if_neg h1, if_pos (by omega)]
    · rw [if_neg h0, if_neg h0]
      have h1 : (i : Int) < (l.length : Int) := by omega
      rw [if_pos h1, if_pos h1, if_pos (by omega), if_pos h1, if_pos (by omega)]
theorem rd_set_int (l : List Int) (i : Nat) (v : Int) (h : i < l.length) : rd (l.set i v) (i : Int) = v := by
  simp [rd, List.getD_eq_getElem?_getD, h]
theorem iRai_l (l : List Int) (hn : 1 ≤ l.length ∧ l.length ≤ 4) : ∀ (d k i : Nat) (x : List Int), l.length + 1 - i = d → i ≤ l.length + 1 → d < k → x.length = l.length + 1 → (∀ j : Nat, i ≤ j → rd x (j : Int) = 0) → impl_RaiseCoefficients.l0 k l (wrap64 ((l.length : Int) - 1)) x ((l.length + 1 : Nat) : Int) i = some (x.take i ++ raiL l d i, true) := by
  intro d
  induction d with
  | zero =>
    intro k i x hd hi hk hx h0
    obtain ⟨k, rfl⟩ : ∃ m, k = m + 1 := ⟨k - 1, by omega⟩
    simp only [impl_RaiseCoefficients.l0, raiL]
    rw [if_neg (by omega), List.append_nil, List.take_of_length_le (by omega)]
  | succ d ih =>
    intro k i x hd hi hk hx h0
    obtain ⟨k, rfl⟩ : ∃ m, k = m + 1 := ⟨k - 1, by omega⟩
    have hw : wrap64 ((i : Int) + 1) = ((i + 1 : Nat) : Int) := by unfold wrap64; omega
    have hm : wrap64 ((l.length : Int) - 1) = (l.length : Int) - 1 := by unfold wrap64; omega
    have hm2 : wrap64 ((l.length : Int) - 1 + 1) = (l.length : Int) := by unfold wrap64; omega
    have hlt : i < x.length := by omega
    have hr := h0 i (Nat.le_refl _)
    have hz : ∀ (v : Int) (j : Nat), i + 1 ≤ j → rd (x.set i v) (j : Int) = 0 := by
      intro v j hj
      have := h0 j (by omega)
      unfold rd at this ⊢
      rw [Int.toNat_natCast] at this ⊢
      rw [List.getD_eq_getElem?_getD] at this ⊢
      rw [List.getElem?_set_ne (by omega)]
      exact this
    have e := fun v => ih k (i + 1) (x.set i v) (by omega) (by omega) (by omega) (by rw [List.length_set]; omega) (hz v)
    rw [hm] at e
    simp only [impl_RaiseCoefficients.l0, raiL, Option.bind_some, Int.toNat_natCast]
    rw [if_pos (by omega), hw, hm, hm2]
    simp only [rd_set_int _ _ _ hlt, List.set_set, e, hr, Int.zero_add, take_set_succ _ _ _ hlt, List.append_assoc, List.singleton_append, raiT]
    by_cases h1 : (i : Int) > 0
    · have hw1 : wrap64 ((i : Int) - 1) = (i : Int) - 1 := by unfold wrap64; omega
      rw [if_pos h1, if_pos h1, if_pos (by omega), if_pos (by omega), if_pos (by omega), if_pos (by omega)]
      by_cases h2 : (i : Int) < (l.length : Int)
      · rw [if_pos (by omega), if_pos h2, if_pos h2]
      · rw [if_neg (by omega), if_neg h2]
    · rw [if_neg h1, if_neg h1]
      have h2 : (i : Int) < (l.length : Int) := by omega
      rw [if_pos (by omega), if_pos (by omega), if_pos (by omega), if_pos h2, if_pos h2]
def raiF (l : List Int) : List Int × Bool := if numB l = true ∧ l.length ≤ 4 then (raiL l (l.length + 1) 0, true) else ([], false)
theorem raiF_len (l : List Int) : (raiF l).1.length ≤ 5 := by
  unfold raiF
  split
  · rename_i h
    show (raiL l (l.length + 1) 0).length ≤ 5
    rw [raiL_len]; omega
  · simp
theorem sRai_f (l : List Int) (k : Nat) (hk : 20 < k) : spec_RaiseCoefficients.f k l = some (raiF l) := by
  obtain ⟨j, rfl⟩ : ∃ m, k = m + 1 := ⟨k - 1, by omega⟩
  unfold spec_RaiseCoefficients.f raiF
  rw [beNumbers_f l _ (by omega), Option.bind_some]
  by_cases h : numB l = true
  · have hl := numB_len h
    rw [if_pos h]
    simp only [spec_RaiseCoefficients.j0]
    by_cases h4 : l.length ≤ 4
    · rw [if_neg (by simp; omega), if_pos ⟨h, h4⟩]
      have := sRai_l l ⟨hl.1, h4⟩ (l.length + 1) j 0 [] (by omega) (by omega) (by omega) (by simp)
      exact this
    · rw [if_pos (by simp; omega), if_neg (fun e => h4 e.2)]
  · rw [if_neg h, if_neg (fun e => h e.1)]
    simp only [spec_RaiseCoefficients.j0]
    rw [if_pos trivial]
theorem iRai_f (l : List Int) (k : Nat) (hk : 20 < k) : impl_RaiseCoefficients.f k l = some (raiF l) := by
  obtain ⟨j, rfl⟩ : ∃ m, k = m + 1 := ⟨k - 1, by omega⟩
  unfold impl_RaiseCoefficients.f raiF
  rw [areCoeff_f l, Option.bind_some]
  by_cases h : numB l = true
  · have hl := numB_len h
    rw [if_pos h]
    simp only [impl_RaiseCoefficients.j0]
    by_cases h4 : l.length ≤ 4
    · have hm : wrap64 (wrap64 ((l.length : Int) - 1) + 2) = ((l.length + 1 : Nat) : Int) := by
        have hm1 : wrap64 ((l.length : Int) - 1) = (l.length : Int) - 1 := by unfold wrap64; omega
        rw [hm1]; unfold wrap64; omega
      rw [if_neg (by simp; omega), hm, Int.toNat_natCast, if_pos (by omega), if_pos (by omega), Option.bind_some, List.length_replicate, if_pos ⟨h, h4⟩]
      have := iRai_l l ⟨hl.1, h4⟩ (l.length + 1) j 0 (List.replicate (l.length + 1) 0) (by omega) (by omega) (by omega) (by simp) (by
        intro j hj
        unfold rd
        rw [List.getD_eq_getElem?_getD, List.getElem?_replicate]
        split <;> rfl)
      exact this
    · rw [if_pos (by simp; omega), if_neg (fun e => h4 e.2)]
  · rw [if_neg h, if_neg (fun e => h e.1)]
    simp only [impl_RaiseCoefficients.j0]
    rw [if_pos trivial]
end Go.Proofs.Ytecohjcliahbnaa.X

import Derived.Test.YtecohjcliahbnaaXQ1
import Derived.Test.YtecohjcliahbnaaXf18
import Derived.Test.YtecohjcliahbnaaXf19
namespace Go.Proofs.Ytecohjcliahbnaa.X
open Go.RowKit Go.Proofs.YtecohjcliahbnaaW.PrintWords Go.Proofs.YtecohjcliahbnaaW.PrintLast Go.Proofs.YtecohjcliahbnaaW.PrintMore
set_option linter.unusedVariables false
set_option linter.unusedSimpArgs false
set_option maxRecDepth 100000
theorem shl0 (x : Int) : shl .i64 x 0 = wrap64 (x * 1) := i64_w _
theorem shl1 (x : Int) : shl .i64 x 1 = wrap64 (x * 2) := i64_w _
theorem shl2 (x : Int) : shl .i64 x 2 = wrap64 (x * 4) := i64_w _
theorem shl3 (x : Int) : shl .i64 x 3 = wrap64 (x * 8) := i64_w _
theorem shl4 (x : Int) : shl .i64 x 4 = wrap64 (x * 16) := i64_w _
theorem sdiv1 (a : Int) : spec_DivideCoefficients.l0 40 0 [0] [0] [a] 0 = some ([wrap64 (a * 1)], [wrap64 (a * 1)], true) := by kernel_rfl
theorem idiv1 (a : Int) : impl_DivideCoefficients.l0 40 0 [0] [0] [a] 1 0 = some ([wrap64 (a * 1)], [wrap64 (a * 1)], true) := by
  have h : impl_DivideCoefficients.l0 40 0 [0] [0] [a] 1 0 = some ([shl .i64 a 0], [shl .i64 a 0], true) := by kernel_rfl
  rw [h]
  simp only [shl0, shl1, shl2, shl3, shl4]
theorem sdiv2 (a b : Int) : spec_DivideCoefficients.l0 40 1 [0, 0] [0, 0] [a, b] 0 = some ([wrap64 (a * 2), wrap64 ((wrap64 (a + b)) * 1)], [wrap64 ((wrap64 (a + b)) * 1), wrap64 (b * 2)], true) := by kernel_rfl
theorem idiv2 (a b : Int) : impl_DivideCoefficients.l0 40 1 [0, 0] [0, 0] [a, b] 2 0 = some ([wrap64 (a * 2), wrap64 ((wrap64 (a + b)) * 1)], [wrap64 ((wrap64 (a + b)) * 1), wrap64 (b * 2)], true) := by
  have h : impl_DivideCoefficients.l0 40 1 [0, 0] [0, 0] [a, b] 2 0 = some ([shl .i64 a 1, shl .i64 (wrap64 (a + b)) 0], [shl .i64 (wrap64 (a + b)) 0, shl .i64 b 1], true) := by kernel_rfl
  rw [h]
  simp only [shl0, shl1, shl2, shl3, shl4]
theorem sdiv3 (a b c : Int) : spec_DivideCoefficients.l0 40 2 [0, 0, 0] [0, 0, 0] [a, b, c] 0 = some ([wrap64 (a * 4), wrap64 ((wrap64 (a + b)) * 2), wrap64 ((wrap64 ((wrap64 (a + b)) + (wrap64 (b + c)))) * 1)], [wrap64 ((wrap64 ((wrap64 (a + b)) + (wrap64 (b + c)))) * 1), wrap64 ((wrap64 (b + c)) * 2), wrap64 (c * 4)], true) := by kernel_rfl
theorem idiv3 (a b c : Int) : impl_DivideCoefficients.l0 40 2 [0, 0, 0] [0, 0, 0] [a, b, c] 3 0 = some ([wrap64 (a * 4), wrap64 ((wrap64 (a + b)) * 2), wrap64 ((wrap64 ((wrap64 (a + b)) + (wrap64 (b + c)))) * 1)], [wrap64 ((wrap64 ((wrap64 (a + b)) + (wrap64 (b + c)))) * 1), wrap64 ((wrap64 (b + c)) * 2), wrap64 (c * 4)], true) := by
  have h : impl_DivideCoefficients.l0 40 2 [0, 0, 0] [0, 0, 0] [a, b, c] 3 0 = some ([shl .i64 a 2, shl .i64 (wrap64 (a + b)) 1, shl .i64 (wrap64 ((wrap64 (a + b)) + (wrap64 (b + c)))) 0], [shl .i64 (wrap64 ((wrap64 (a + b)) + (wrap64 (b + c)))) 0, shl .i64 (wrap64 (b + c)) 1, shl .i64 c 2], true) := by kernel_rfl
  rw [h]
  simp only [shl0, shl1, shl2, shl3, shl4]
theorem sdiv4 (a b c d : Int) : spec_DivideCoefficients.l0 40 3 [0, 0, 0, 0] [0, 0, 0, 0] [a, b, c, d] 0 = some ([wrap64 (a * 8), wrap64 ((wrap64 (a + b)) * 4), wrap64 ((wrap64 ((wrap64 (a + b)) + (wrap64 (b + c)))) * 2), wrap64 ((wrap64 ((wrap64 ((wrap64 (a + b)) + (wrap64 (b + c)))) + (wrap64 ((wrap64 (b + c)) + (wrap64 (c + d)))))) * 1)], [wrap64 ((wrap64 ((wrap64 ((wrap64 (a + b)) + (wrap64 (b + c)))) + (wrap64 ((wrap64 (b + c)) + (wrap64 (c + d)))))) * 1), wrap64 ((wrap64 ((wrap64 (b + c)) + (wrap64 (c + d)))) * 2), wrap64 ((wrap64 (c + d)) * 4), wrap64 (d * 8)], true) := by kernel_rfl
theorem idiv4 (a b c d : Int) : impl_DivideCoefficients.l0 40 3 [0, 0, 0, 0] [0, 0, 0, 0] [a, b, c, d] 4 0 = some ([wrap64 (a * 8), wrap64 ((wrap64 (a + b)) * 4), wrap64 ((wrap64 ((wrap64 (a + b)) + (wrap64 (b + c)))) * 2), wrap64 ((wrap64 ((wrap64 ((wrap64 (a + b)) + (wrap64 (b + c)))) + (wrap64 ((wrap64 (b + c)) + (wrap64 (c + d)))))) * 1)], [wrap64 ((wrap64 ((wrap64 ((wrap64 (a + b)) + (wrap64 (b + c)))) + (wrap64 ((wrap64 (b + c)) + (wrap64 (c + d)))))) * 1), wrap64 ((wrap64 ((wrap64 (b + c)) + (wrap64 (c + d)))) * 2), wrap64 ((wrap64 (c + d)) * 4), wrap64 (d * 8)], true) := by
  have h : impl_DivideCoefficients.l0 40 3 [0, 0, 0, 0] [0, 0, 0, 0] [a, b, c, d] 4 0 = some ([shl .i64 a 3, shl .i64 (wrap64 (a + b)) 2, shl .i64 (wrap64 ((wrap64 (a + b)) + (wrap64 (b + c)))) 1, shl .i64 (wrap64 ((wrap64 ((wrap64 (a + b)) + (wrap64 (b + c)))) + (wrap64 ((wrap64 (b + c)) + (wrap64 (c + d)))))) 0], [shl .i64 (wrap64 ((wrap64 ((wrap64 (a + b)) + (wrap64 (b + c)))) + (wrap64 ((wrap64 (b + c)) + (wrap64 (c + d)))))) 0, shl .i64 (wrap64 ((wrap64 (b + c)) + (wrap64 (c + d)))) 1, shl .i64 (wrap64 (c + d)) 2, shl .i64 d 3], true) := by kernel_rfl
  rw [h]
  simp only [shl0, shl1, shl2, shl3, shl4]
theorem sdiv5 (a b c d e : Int) : spec_DivideCoefficients.l0 40 4 [0, 0, 0, 0, 0] [0, 0, 0, 0, 0] [a, b, c, d, e] 0 = some ([wrap64 (a * 16), wrap64 ((wrap64 (a + b)) * 8), wrap64 ((wrap64 ((wrap64 (a + b)) + (wrap64 (b + c)))) * 4), wrap64 ((wrap64 ((wrap64 ((wrap64 (a + b)) + (wrap64 (b + c)))) + (wrap64 ((wrap64 (b + c)) + (wrap64 (c + d)))))) * 2), wrap64 ((wrap64 ((wrap64 ((wrap64 ((wrap64 (a + b)) + (wrap64 (b + c)))) + (wrap64 ((wrap64 (b + c)) + (wrap64 (c + d)))))) + (wrap64 ((wrap64 ((wrap64 (b + c)) + (wrap64 (c + d)))) + (wrap64 ((wrap64 (c + d)) + (wrap64 (d + e)))))))) * 1)], [wrap64 ((wrap64 ((wrap64 ((wrap64 ((wrap64 (a + b)) + (wrap64 (b + c)))) + (wrap64 ((wrap64 (b + c)) + (wrap64 (c + d)))))) + (wrap64 ((wrap64 ((wrap64 (b + c)) + (wrap64 (c + d)))) + (wrap64 ((wrap64 (c + d)) + (wrap64 (d + e)))))))) * 1), wrap64 ((wrap64 ((wrap64 ((wrap64 (b + c)) + (wrap64 (c + d)))) + (wrap64 ((wrap64 (c + d)) + (wrap64 (d + e)))))) * 2), wrap64 ((wrap64 ((wrap64 (c + d)) + (wrap64 (d + e)))) * 4), wrap64 ((wrap64 (d + e)) * 8), wrap64 (e * 16)], true) := by kernel_rfl
theorem idiv5 (a b c d e : Int) : impl_DivideCoefficients.l0 40 4 [0, 0, 0, 0, 0] [0, 0, 0, 0, 0] [a, b, c, d, e] 5 0 = some ([wrap64 (a * 16), wrap64 ((wrap64 (a + b)) * 8), wrap64 ((wrap64 ((wrap64 (a + b)) + (wrap64 (b + c)))) * 4), wrap64 ((wrap64 ((wrap64 ((wrap64 (a + b)) + (wrap64 (b + c)))) + (wrap64 ((wrap64 (b + c)) + (wrap64 (c + d)))))) * 2), wrap64 ((wrap64 ((wrap64 ((wrap64 ((wrap64 (a + b)) + (wrap64 (b + c)))) + (wrap64 ((wrap64 (b + c)) + (wrap64 (c + d)))))) + (wrap64 ((wrap64 ((wrap64 (b + c)) + (wrap64 (c + d)))) + (wrap64 ((wrap64 (c + d)) + (wrap64 (d + e)))))))) * 1)], [wrap64 ((wrap64 ((wrap64 ((wrap64 ((wrap64 (a + b)) + (wrap64 (b + c)))) + (wrap64 ((wrap64 (b + c)) + (wrap64 (c + d)))))) + (wrap64 ((wrap64 ((wrap64 (b + c)) + (wrap64 (c + d)))) + (wrap64 ((wrap64 (c + d)) + (wrap64 (d + e)))))))) * 1), wrap64 ((wrap64 ((wrap64 ((wrap64 (b + c)) + (wrap64 (c + d)))) + (wrap64 ((wrap64 (c + d)) + (wrap64 (d + e)))))) * 2), wrap64 ((wrap64 ((wrap64 (c + d)) + (wrap64 (d + e)))) * 4), wrap64 ((wrap64 (d + e)) * 8), wrap64 (e * 16)], true) := by
  have h : impl_DivideCoefficients.l0 40 4 [0, 0, 0, 0, 0] [0, 0, 0, 0, 0] [a, b, c, d, e] 5 0 = some ([shl .i64 a 4, shl .i64 (wrap64 (a + b)) 3, shl .i64 (wrap64 ((wrap64 (a + b)) + (wrap64 (b + c)))) 2, shl .i64 (wrap64 ((wrap64 ((wrap64 (a + b)) + (wrap64 (b + c)))) + (wrap64 ((wrap64 (b + c)) + (wrap64 (c + d)))))) 1, shl .i64 (wrap64 ((wrap64 ((wrap64 ((wrap64 (a + b)) + (wrap64 (b + c)))) + (wrap64 ((wrap64 (b + c)) + (wrap64 (c + d)))))) + (wrap64 ((wrap64 ((wrap64 (b + c)) + (wrap64 (c + d)))) + (wrap64 ((wrap64 (c + d)) + (wrap64 (d + e)))))))) 0], [shl .i64 (wrap64 ((wrap64 ((wrap64 ((wrap64 (a + b)) + (wrap64 (b + c)))) + (wrap64 ((wrap64 (b + c)) + (wrap64 (c + d)))))) + (wrap64 ((wrap64 ((wrap64 (b + c)) + (wrap64 (c + d)))) + (wrap64 ((wrap64 (c + d)) + (wrap64 (d + e)))))))) 0, shl .i64 (wrap64 ((wrap64 ((wrap64 (b + c)) + (wrap64 (c + d)))) + (wrap64 ((wrap64 (c + d)) + (wrap64 (d + e)))))) 1, shl .i64 (wrap64 ((wrap64 (c + d)) + (wrap64 (d + e)))) 2, shl .i64 (wrap64 (d + e)) 3, shl .i64 e 4], true) := by kernel_rfl
  rw [h]
  simp only [shl0, shl1, shl2, shl3, shl4]
theorem div_ex (l : List Int) : ∃ R : List Int × List Int × Bool, R.1.length ≤ 5 ∧ R.2.1.length ≤ 5 ∧ spec_DivideCoefficients.f 40 l = some R ∧ impl_DivideCoefficients.f 40 l = some R := by
  unfold spec_DivideCoefficients.f impl_DivideCoefficients.f
  rw [beNumbers_f l _ (by omega), areCoeff_f l, Option.bind_some, Option.bind_some]
  by_cases h : numB l = true
  · have hl := numB_len h
    rw [if_pos h, if_pos h]
    have ho : spec_l1Own.f l = some l := by
      unfold spec_l1Own.f
      rw [Option.bind_some, if_pos (by simp; omega), List.nil_append]
    have hc : clone43.f l = some l := by
      unfold clone43.f
      rw [if_pos (by omega)]
    rw [ho, hc, Option.bind_some, Option.bind_some]
    have hm : wrap64 ((l.length : Int) - 1) = (l.length : Int) - 1 := by unfold wrap64; omega
    have hm2 : wrap64 ((l.length : Int) - 1 + 1) = (l.length : Int) := by unfold wrap64; omega
    rw [hm, hm2, if_pos (by omega), if_pos (by omega), if_pos (by omega), if_pos (by omega), Int.toNat_natCast]
    match l, hl with
    | [a], _ => exact ⟨_, by simp, by simp, sdiv1 a, idiv1 a⟩
    | [a, b], _ => exact ⟨_, by simp, by simp, sdiv2 a b, idiv2 a b⟩
    | [a, b, c], _ => exact ⟨_, by simp, by simp, sdiv3 a b c, idiv3 a b c⟩
    | [a, b, c, d], _ => exact ⟨_, by simp, by simp, sdiv4 a b c d, idiv4 a b c d⟩
    | [a, b, c, d, e], _ => exact ⟨_, by simp, by simp, sdiv5 a b c d e, idiv5 a b c d e⟩
    | [], h => simp at h
    | _ :: _ :: _ :: _ :: _ :: _ :: _, h => simp at h
  · rw [if_neg h, if_neg h]
    exact ⟨_, by simp, by simp, rfl, rfl⟩
theorem up_to {α : Type} (f : Nat → Option α) (hf : ∀ k, LeO (f k) (f (k + 1))) (n : Nat) (r : α) (h : f n = some r) : ∀ j, n ≤ j → f j = some r := by
  intro j hj
  induction j with
  | zero => rw [show n = 0 by omega] at h; exact h
  | succ j ih =>
    by_cases e : n = j + 1
    · rw [← e]; exact h
    · exact hf j r (ih (by omega))
theorem div_all (l : List Int) : ∃ R : List Int × List Int × Bool, R.1.length ≤ 5 ∧ R.2.1.length ≤ 5 ∧ (∀ k, 40 ≤ k → spec_DivideCoefficients.f k l = some R) ∧ (∀ k, 40 ≤ k → impl_DivideCoefficients.f k l = some R) := by
  obtain ⟨R, h1, h2, h3, h4⟩ := div_ex l
  exact ⟨R, h1, h2, up_to (fun k => spec_DivideCoefficients.f k l) (fun k => spec_DivideCoefficients.mono l k) 40 R h3, up_to (fun k => impl_DivideCoefficients.f k l) (fun k => impl_DivideCoefficients.mono l k) 40 R h4⟩
end Go.Proofs.Ytecohjcliahbnaa.X

import Derived.Test.YtoifmopgchigoaaXf29
import Derived.Test.YtoifmopgchigoaaXf30
import Derived.Test.YtoifmopgchigoaaXQ54
namespace Go.Proofs.Ytoifmopgchigoaa.X
open Go.RowKit Go.Proofs.YtoifmopgchigoaaW.PrintWords Go.Proofs.YtoifmopgchigoaaW.PrintLast Go.Proofs.YtoifmopgchigoaaW.PrintMore
set_option linter.unusedVariables false
theorem gl {l : List S40} (h : goodB l = true) : 2 ≤ l.length ∧ l.length ≤ 24 := by
  unfold goodB at h
  rw [Bool.and_eq_true, decide_eq_true_eq] at h
  exact h.1
theorem rd_mid (A B : List S40) (a : S40) (n : Nat) (h : n = A.length) : rd_T40 (A ++ a :: B) (n : Int) = a := by
  subst h
  simp [rd_T40, List.getD_eq_getElem?_getD]
theorem set_mid (A B : List S40) (a b : S40) (n : Nat) (h : n = A.length) : (A ++ a :: B).set n b = A ++ b :: B := by
  subst h
  rw [List.set_append_right _ _ (Nat.le_refl _), Nat.sub_self]
  rfl
theorem rev_l : ∀ (d k : Nat) (A M B : List S40), M.length ≤ d → d < k → A.length + M.length + B.length ≤ 1000000 →
    impl_Spot_69.l0 k (A ++ (M ++ B)) A.length ((A.length : Int) + M.length - 1) = some (A ++ (M.reverse ++ B)) := by
  intro d
  induction d with
  | zero =>
    intro k A M B hM hk hb
    obtain ⟨k, rfl⟩ : ∃ m, k = m + 1 := ⟨k - 1, by omega⟩
    obtain rfl := List.eq_nil_of_length_eq_zero (Nat.le_zero.1 hM)
    simp only [impl_Spot_69.l0, List.length_nil]
    rw [if_neg (by omega)]
    rfl
  | succ d ih =>
    intro k A M B hM hk hb
    obtain ⟨k, rfl⟩ : ∃ m, k = m + 1 := ⟨k - 1, by omega⟩
    by_cases h1 : M.length ≤ 1
    · simp only [impl_Spot_69.l0]
      rw [if_neg (by omega)]
      have : M.reverse = M := by
        match M, h1 with
        | [], _ => rfl
        | [a], _ => rfl
      rw [this]
    · obtain ⟨a, M1, rfl⟩ : ∃ a M1, M = a :: M1 := by
        match M, h1 with
        | a :: M1, _ => exact ⟨a, M1, rfl⟩
      have hne : M1 ≠ [] := by rintro rfl; simp at h1
      obtain ⟨M2, b, rfl⟩ : ∃ M2 b, M1 = M2 ++ [b] := ⟨M1.dropLast, M1.getLast hne, (List.dropLast_concat_getLast hne).symm⟩
      simp only [List.length_cons, List.length_append, List.length_nil] at hM hb h1 ⊢
      have hj : ((A.length : Int) + ((M2.length + (0 + 1) + 1 : Nat) : Int) - 1) = (((A ++ a :: M2).length : Nat) : Int) := by simp; omega
      have hx : A ++ (a :: (M2 ++ [b]) ++ B) = (A ++ a :: M2) ++ b :: B := by simp
      have hx2 : A ++ (a :: (M2 ++ [b]) ++ B) = A ++ a :: (M2 ++ b :: B) := by simp
      have hlen : (A ++ (a :: (M2 ++ [b]) ++ B)).length = A.length + M2.length + B.length + 2 := by simp; omega
      have hl2 : (A ++ a :: M2).length = A.length + M2.length + 1 := by simp; omega
      simp only [impl_Spot_69.l0]
      rw [hj, hlen, hl2]
      rw [if_pos (by omega), if_pos (by omega), if_pos (by omega), if_pos (by omega), if_pos (by omega)]
      rw [hx, rd_mid _ _ _ _ hl2.symm, ← hx, hx2, rd_mid _ _ _ _ rfl, Int.toNat_natCast, Int.toNat_natCast, set_mid _ _ _ _ _ rfl,
        show A ++ (⟨b.f0, b.f1⟩ : S40) :: (M2 ++ b :: B) = (A ++ b :: M2) ++ b :: B from by simp, set_mid _ _ _ _ _ (by simp; omega)]
      have hw : wrap64 ((A.length : Int) + 1) = (((A ++ [b]).length : Nat) : Int) := by unfold wrap64; simp; omega
      have hw2 : wrap64 (((A.length + M2.length + 1 : Nat) : Int) - 1) = (((A ++ [b]).length : Nat) : Int) + M2.length - 1 := by unfold wrap64; simp; omega
      rw [hw, hw2, show (A ++ b :: M2) ++ (⟨a.f0, a.f1⟩ : S40) :: B = (A ++ [b]) ++ (M2 ++ a :: B) from by simp, ih k (A ++ [b]) M2 (a :: B) (by omega) (by omega) (by simp; omega)]
      simp
theorem rev_f (l : List S40) (k : Nat) (hk : l.length < k) (hb : l.length ≤ 1000000) : impl_Spot_69.f k l = some l.reverse := by
  have := rev_l l.length k [] l [] (Nat.le_refl _) hk (by simpa using hb)
  simp only [List.nil_append, List.append_nil, List.length_nil] at this
  unfold impl_Spot_69.f
  rw [show wrap64 ((l.length : Int) - 1) = (((0 : Nat) : Int)) + l.length - 1 from by unfold wrap64; omega]
  exact this
theorem srev_l (x : List S40) (hx : x.length ≤ 1000000) : ∀ (d k : Nat) (acc : List S40), d ≤ x.length → d < k → acc.length + d ≤ x.length → spec_ReversePolygon.l0 k x acc ((d : Int) - 1) = some (acc ++ (x.take d).reverse, true) := by
  intro d
  induction d with
  | zero =>
    intro k acc hd hk ha
    obtain ⟨k, rfl⟩ : ∃ m, k = m + 1 := ⟨k - 1, by omega⟩
    simp only [spec_ReversePolygon.l0]
    rw [if_neg (by omega)]
    simp
  | succ d ih =>
    intro k acc hd hk ha
    obtain ⟨k, rfl⟩ : ∃ m, k = m + 1 := ⟨k - 1, by omega⟩
    have hlt : d < x.length := by omega
    have hr : rd_T40 x (d : Int) = x[d] := by simp [rd_T40, List.getD_eq_getElem?_getD, List.getElem?_eq_getElem hlt]
    simp only [spec_ReversePolygon.l0]
    rw [show (((d + 1 : Nat) : Int) - 1) = (d : Int) from by omega, if_pos (by omega), if_pos (by omega), if_pos (by omega), if_pos (by omega), hr, show wrap64 ((d : Int) - 1) = (d : Int) - 1 from by unfold wrap64; omega,
      ih k _ (by omega) (by omega) (by simp; omega), List.take_succ_eq_append_getElem hlt]
    simp only [List.reverse_append, List.reverse_cons, List.reverse_nil, List.nil_append, List.append_assoc, List.cons_append]
def revF (l : List S40) : List S40 × Bool := if goodB l = true then (l.reverse, true) else ([], false)
theorem sRev_f (l : List S40) (k : Nat) (hk : 30 < k) : spec_ReversePolygon.f k l = some (revF l) := by
  unfold spec_ReversePolygon.f revF
  rw [wiGood_f l k (by omega), Option.bind_some]
  by_cases h : goodB l = true
  · have := gl h
    rw [if_pos h, if_pos h, show wrap64 ((l.length : Int) - 1) = (l.length : Int) - 1 from by unfold wrap64; omega, srev_l l (by omega) l.length k [] (Nat.le_refl _) (by omega) (by simp)]
    simp
  · rw [if_neg h, if_neg h]
theorem iRev_f (l : List S40) (k : Nat) (hk : 30 < k) : impl_ReversePolygon.f k l = some (revF l) := by
  unfold impl_ReversePolygon.f revF
  rw [isPolygon_f l k (by omega), Option.bind_some]
  by_cases h : goodB l = true
  · have := gl h
    rw [if_pos h, if_pos h]
    unfold clone68.f
    rw [if_pos (by omega), Option.bind_some, rev_f l k (by omega) (by omega), Option.bind_some]
  · rw [if_neg h, if_neg h]
theorem revF_len (l : List S40) : (revF l).1.length ≤ 24 := by
  unfold revF
  split
  · rename_i h; have := gl h; simp; omega
  · simp
end Go.Proofs.Ytoifmopgchigoaa.X

import Derived.Test.YtecohjcliahbnaaXf16
import Derived.Test.YtecohjcliahbnaaXf17
import Derived.Test.YtecohjcliahbnaaXQ1
namespace Go.Proofs.Ytecohjcliahbnaa.X
open Go.RowKit Go.Proofs.YtecohjcliahbnaaW.PrintWords Go.Proofs.YtecohjcliahbnaaW.PrintLast Go.Proofs.YtecohjcliahbnaaW.PrintMore
set_option linter.unusedVariables false
def markI : Nat → Int → List Int
  | 0, _ => []
  | n + 1, c => c :: markI n (c + 1)
theorem markI_len : ∀ (n : Nat) (c : Int), (markI n c).length = n := by
  intro n
  induction n with
  | zero => intro c; rfl
  | succ n ih => intro c; simp [markI, ih]
theorem markI_l : ∀ (d k : Nat) (l : List Int) (c : Int) (i : Nat), l.length - i = d → i ≤ l.length → d < k → 0 ≤ c → c + 2 * d ≤ 4000000000 → l.length ≤ 1000000000 →
    laws_markIntS.l0 k l c i = some (c + d, l.take i ++ markI d c) := by
  intro d
  induction d with
  | zero =>
    intro k l c i hd hi hk h0 h1 hl
    obtain ⟨k, rfl⟩ : ∃ m, k = m + 1 := ⟨k - 1, by omega⟩
    simp only [laws_markIntS.l0, markI]
    rw [if_neg (by omega), List.take_of_length_le (by omega), List.append_nil]
    simp
  | succ d ih =>
    intro k l c i hd hi hk h0 h1 hl
    obtain ⟨k, rfl⟩ : ∃ m, k = m + 1 := ⟨k - 1, by omega⟩
    have hlt : i < l.length := by omega
    have e1 : wrap64 (c + 1) = c + 1 := by unfold wrap64; omega
    have hw : wrap64 ((i : Int) + 1) = ((i + 1 : Nat) : Int) := by unfold wrap64; omega
    simp only [laws_markIntS.l0, Int.toNat_natCast]
    rw [if_pos (by omega), if_pos (by omega), e1, hw,
      ih k _ (c + 1) (i + 1) (by rw [List.length_set]; omega) (by rw [List.length_set]; omega) (by omega) (by omega) (by omega) (by rw [List.length_set]; omega), take_set_succ _ _ _ hlt]
    simp only [markI, List.append_assoc, List.cons_append, List.nil_append]
    congr 2
    omega
theorem markI_f (k : Nat) (l : List Int) (hk : l.length < k) (hl : l.length ≤ 1000000000) : laws_markIntS.f k l 101 = some (101 + (l.length : Int), markI l.length 101) := by
  have := markI_l l.length k l 101 0 (by omega) (by omega) hk (by omega) (by omega) hl
  unfold laws_markIntS.f
  simpa using this
theorem heldI_l : ∀ (d k : Nat) (l : List Int) (c : Int) (i : Nat), l.length - i = d → i ≤ l.length → l.drop i = markI d c → d < k → 0 ≤ c → c + 2 * d ≤ 4000000000 → l.length ≤ 1000000000 →
    laws_heldIntS.l0 k l c i = some (c + d) := by
  intro d
  induction d with
  | zero =>
    intro k l c i hd hi he hk h0 h1 hl
    obtain ⟨k, rfl⟩ : ∃ m, k = m + 1 := ⟨k - 1, by omega⟩
    simp only [laws_heldIntS.l0]
    rw [if_neg (by omega)]
    simp
  | succ d ih =>
    intro k l c i hd hi he hk h0 h1 hl
    obtain ⟨k, rfl⟩ : ∃ m, k = m + 1 := ⟨k - 1, by omega⟩
    have hlt : i < l.length := by omega
    have e1 : wrap64 (c + 1) = c + 1 := by unfold wrap64; omega
    have hw : wrap64 ((i : Int) + 1) = ((i + 1 : Nat) : Int) := by unfold wrap64; omega
    rw [List.drop_eq_getElem_cons hlt, markI] at he
    injection he with he1 he2
    simp only [laws_heldIntS.l0]
    rw [if_pos (by omega), if_pos (by omega), rd_nat l i hlt, he1, if_pos rfl, e1, hw,
      ih k l (c + 1) (i + 1) (by omega) (by omega) he2 (by omega) (by omega) (by omega) hl]
    congr 1
    omega
theorem heldI_f (k n : Nat) (hk : n < k) (hl : n ≤ 1000000000) : laws_heldIntS.f k (markI n 101) 101 = some (101 + (n : Int)) := by
  have := heldI_l n k (markI n 101) 101 0 (by rw [markI_len]; omega) (by omega) (by simp) hk (by omega) (by omega) (by rw [markI_len]; exact hl)
  unfold laws_heldIntS.f
  simpa using this
end Go.Proofs.Ytecohjcliahbnaa.X

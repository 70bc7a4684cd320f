import Derived.Test.YtoifmopgchigoaaXf24
import Derived.Test.YtoifmopgchigoaaXf25
import Derived.Test.YtoifmopgchigoaaXQ54
namespace Go.Proofs.Ytoifmopgchigoaa.X
open Go.RowKit Go.Proofs.YtoifmopgchigoaaW.PrintWords Go.Proofs.YtoifmopgchigoaaW.PrintLast Go.Proofs.YtoifmopgchigoaaW.PrintMore
set_option linter.unusedVariables false
def areaL (l : List S40) : Nat → Nat → Int → Int
  | 0, _, a => a
  | d + 1, i, a => areaL l d (i + 1) (wrap64 (a + (wrap64 ((wrap64 ((nth l i).f0 * (nxt l i).f1)) - (wrap64 ((nth l i).f1 * (nxt l i).f0))))))
theorem sArea_l (l : List S40) (hn : l.length ≤ 4611686018427387904) : ∀ (d k i : Nat) (a : Int), l.length - i = d → i ≤ l.length → d < k → spec_TwiceArea.l0 k l a l (l.length : Int) i = some (areaL l d i a, true) := by
  intro d
  induction d with
  | zero =>
    intro k i a hd hi hk
    obtain ⟨k, rfl⟩ : ∃ m, k = m + 1 := ⟨k - 1, by omega⟩
    simp only [spec_TwiceArea.l0, areaL]
    rw [if_neg (by omega)]
  | succ d ih =>
    intro k i a hd hi hk
    obtain ⟨k, rfl⟩ : ∃ m, k = m + 1 := ⟨k - 1, by omega⟩
    have hlt : i < l.length := by omega
    simp only [spec_TwiceArea.l0]
    rw [if_pos (by omega), if_pos (by omega), if_pos (by omega), wiNext_f l i hlt hn, Option.bind_some, rd_nat, wrap_succ (n := l.length) (by omega) (by omega) (by omega), show ((i : Int) + 1) = ((i + 1 : Nat) : Int) from by omega, ih k (i + 1) _ (by omega) (by omega) (by omega)]
    rfl
theorem iArea_l (l : List S40) (hn : l.length ≤ 4611686018427387904) : ∀ (d k i : Nat) (a : Int), l.length - i = d → i ≤ l.length → d < k → impl_TwiceArea.l0 k l a l (l.length : Int) i = some (areaL l d i a, true) := by
  intro d
  induction d with
  | zero =>
    intro k i a hd hi hk
    obtain ⟨k, rfl⟩ : ∃ m, k = m + 1 := ⟨k - 1, by omega⟩
    simp only [impl_TwiceArea.l0, areaL]
    rw [if_neg (by omega)]
  | succ d ih =>
    intro k i a hd hi hk
    obtain ⟨k, rfl⟩ : ∃ m, k = m + 1 := ⟨k - 1, by omega⟩
    have hlt : i < l.length := by omega
    have hm := Nat.mod_lt (i + 1) (show 0 < l.length by omega)
    simp only [impl_TwiceArea.l0]
    rw [tmod_nxt _ _ hlt hn, if_pos (by omega), if_pos (by omega), if_pos (by omega), if_neg (by omega), if_pos (by omega), if_pos (by omega), rd_nat, rd_nat, wrap_succ (n := l.length) (by omega) (by omega) (by omega), show ((i : Int) + 1) = ((i + 1 : Nat) : Int) from by omega, ih k (i + 1) _ (by omega) (by omega) (by omega)]
    rfl
def areaF (l : List S40) : Int × Bool := if goodB l = true then (areaL l l.length 0 0, true) else (0, false)
theorem good_len {l : List S40} (h : goodB l = true) : 2 ≤ l.length ∧ l.length ≤ 24 := by
  unfold goodB at h
  rw [Bool.and_eq_true, decide_eq_true_eq] at h
  exact h.1
theorem sArea_f (l : List S40) (k : Nat) (hk : 24 < k) : spec_TwiceArea.f k l = some (areaF l) := by
  unfold spec_TwiceArea.f areaF
  rw [wiGood_f l k hk, Option.bind_some]
  by_cases h : goodB l = true
  · have := good_len h
    rw [if_pos h, if_pos h]; exact sArea_l l (by omega) l.length k 0 0 (by omega) (by omega) (by omega)
  · rw [if_neg h, if_neg h]
theorem iArea_f (l : List S40) (k : Nat) (hk : 24 < k) : impl_TwiceArea.f k l = some (areaF l) := by
  unfold impl_TwiceArea.f areaF
  rw [isPolygon_f l k hk, Option.bind_some]
  by_cases h : goodB l = true
  · have := good_len h
    rw [if_pos h, if_pos h]; exact iArea_l l (by omega) l.length k 0 0 (by omega) (by omega) (by omega)
  · rw [if_neg h, if_neg h]
end Go.Proofs.Ytoifmopgchigoaa.X

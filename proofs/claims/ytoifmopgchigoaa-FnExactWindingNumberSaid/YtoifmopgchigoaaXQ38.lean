import Derived.Test.YtoifmopgchigoaaXf38
import Derived.Test.YtoifmopgchigoaaXf39
import Derived.Test.YtoifmopgchigoaaXQ26
namespace Go.Proofs.Ytoifmopgchigoaa.X
open Go.RowKit Go.Proofs.YtoifmopgchigoaaW.PrintWords Go.Proofs.YtoifmopgchigoaaW.PrintLast Go.Proofs.YtoifmopgchigoaaW.PrintMore
set_option linter.unusedVariables false
/-- An edge crosses up, down, or not. -/
def crossI (a b t : S40) : Int := if a.f1 ≤ t.f1 ∧ b.f1 > t.f1 ∧ turnI a b t > 0 then 1 else if a.f1 > t.f1 ∧ b.f1 ≤ t.f1 ∧ turnI a b t < 0 then -1 else 0
theorem cross_bd (a b t : S40) : -1 ≤ crossI a b t ∧ crossI a b t ≤ 1 := by unfold crossI; split <;> (try split) <;> omega
theorem wiCross_f (a b t : S40) (k : Nat) (hk : 0 < k) : spec_wiCross.f k a.f0 a.f1 b.f0 b.f1 t.f0 t.f1 = some (crossI a b t) := by
  obtain ⟨k, rfl⟩ : ∃ m, k = m + 1 := ⟨k - 1, by omega⟩
  unfold spec_wiCross.f crossI
  simp only [spec_wiCross.j0, wiSide_f, Option.bind_some]
  by_cases h1 : a.f1 ≤ t.f1
  · rw [if_pos h1]
    by_cases h2 : b.f1 > t.f1
    · rw [if_pos h2]
      by_cases h3 : turnI a b t > 0
      · rw [if_pos (by simpa using h3), if_pos ⟨h1, h2, h3⟩]
      · rw [if_neg (by simpa using h3), if_neg (by omega), if_neg (by omega), if_neg (by omega)]
    · rw [if_neg h2, if_neg (by simp), if_neg (by omega), if_neg (by omega), if_neg (by omega)]
  · rw [if_neg h1, if_neg (by simp), if_pos (by omega), if_neg (show ¬ (a.f1 ≤ t.f1 ∧ _) by omega)]
    by_cases h2 : b.f1 ≤ t.f1
    · rw [if_pos h2]
      by_cases h3 : turnI a b t < 0
      · rw [if_pos h3, if_pos ⟨by omega, h2, h3⟩]
      · rw [if_neg h3, if_neg (by omega)]
    · rw [if_neg h2, if_neg (by omega)]
/-- The sum of the crossings of d edges from i on. -/
def crossS (l : List S40) (t : S40) : Nat → Nat → Int
  | 0, _ => 0
  | d + 1, i => crossI (nth l i) (nxt l i) t + crossS l t d (i + 1)
theorem crossS_bd (l : List S40) (t : S40) : ∀ (d i : Nat), -(d : Int) ≤ crossS l t d i ∧ crossS l t d i ≤ d := by
  intro d
  induction d with
  | zero => intro i; simp [crossS]
  | succ d ih => intro i; have := ih (i + 1); have := cross_bd (nth l i) (nxt l i) t; unfold crossS; omega
theorem wiAround_l (l : List S40) (t : S40) (hn : l.length ≤ 1000000) : ∀ (d k i : Nat) (a : Int), l.length - i = d → i ≤ l.length → d < k → -(i : Int) ≤ a → a ≤ i → spec_wiAround.l0 k l a l (l.length : Int) i t.f0 t.f1 = some (a + crossS l t d i) := by
  intro d
  induction d with
  | zero =>
    intro k i a hd hi hk h1 h2
    obtain ⟨k, rfl⟩ : ∃ m, k = m + 1 := ⟨k - 1, by omega⟩
    simp only [spec_wiAround.l0, crossS]
    rw [if_neg (by omega), Int.add_zero]
  | succ d ih =>
    intro k i a hd hi hk h1 h2
    obtain ⟨k, rfl⟩ : ∃ m, k = m + 1 := ⟨k - 1, by omega⟩
    have hlt : i < l.length := by omega
    have hb := cross_bd (nth l i) (nxt l i) t
    have hw : wrap64 (a + crossI (nth l i) (nxt l i) t) = a + crossI (nth l i) (nxt l i) t := by unfold wrap64; omega
    simp only [spec_wiAround.l0]
    rw [if_pos (by omega), if_pos (by omega), if_pos (by omega), wiNext_f l i hlt (by omega), Option.bind_some, rd_nat, wiCross_f _ _ _ _ (by omega), Option.bind_some, hw, wrap_succ (n := l.length) (by omega) (by omega) (by omega), show ((i : Int) + 1) = ((i + 1 : Nat) : Int) from by omega, ih k (i + 1) _ (by omega) (by omega) (by omega) (by omega) (by omega)]
    exact congrArg some (Int.add_assoc _ _ _)
/-- The crossings of d edges from i on, as lists. -/
def crossL (l : List S40) (t : S40) : Nat → Nat → List (List Int)
  | 0, _ => []
  | d + 1, i => if crossI (nth l i) (nxt l i) t = 0 then crossL l t d (i + 1) else [(i : Int), crossI (nth l i) (nxt l i) t] :: crossL l t d (i + 1)
theorem crossings_l (l : List S40) (t : S40) (hn : l.length ≤ 1000000) : ∀ (d k i : Nat) (L : List (List Int)), l.length - i = d → i ≤ l.length → 2 * d < k → L.length ≤ i → impl_crossings.l0 k l L l (l.length : Int) i t.f0 t.f1 = some (L ++ crossL l t d i) := by
  intro d
  induction d with
  | zero =>
    intro k i L hd hi hk hL
    obtain ⟨k, rfl⟩ : ∃ m, k = m + 1 := ⟨k - 1, by omega⟩
    simp only [impl_crossings.l0, crossL]
    rw [if_neg (by omega), List.append_nil]
  | succ d ih =>
    intro k i L hd hi hk hL
    obtain ⟨k, rfl⟩ : ∃ m, k = m + 1 + 1 := ⟨k - 2, by omega⟩
    have hlt : i < l.length := by omega
    have hm := Nat.mod_lt (i + 1) (show 0 < l.length by omega)
    have ih0 := ih k (i + 1) L (by omega) (by omega) (by omega) (by omega)
    have ih1 : ∀ c : Int, impl_crossings.l0 k l (L ++ [[(i : Int), c]]) l (l.length : Int) ((i + 1 : Nat) : Int) t.f0 t.f1 = some (L ++ [[(i : Int), c]] ++ crossL l t d (i + 1)) := fun c => ih k (i + 1) _ (by omega) (by omega) (by omega) (by simp; omega)
    have hs : wrap64 ((i : Int) + 1) = ((i + 1 : Nat) : Int) := by rw [wrap_succ (n := l.length) (by omega) (by omega) (by omega)]; omega
    have hLl : L.length < 5864062014805 := by omega
    simp only [impl_crossings.l0, impl_crossings.j1]
    rw [tmod_nxt _ _ hlt (by omega), hs, if_pos (by omega), if_pos (by omega), if_pos (by omega), if_neg (by omega), if_pos (by omega), if_pos (by omega)]
    simp only [rd_nat, turn_f, Option.bind_some, show nth l ((i + 1) % l.length) = nxt l i from rfl, ih0, ih1, if_pos hLl]
    have e0 : crossI (nth l i) (nxt l i) t = 0 → crossL l t (d + 1) i = crossL l t d (i + 1) := fun h => if_pos h
    have e1 : crossI (nth l i) (nxt l i) t ≠ 0 → crossL l t (d + 1) i = [(i : Int), crossI (nth l i) (nxt l i) t] :: crossL l t d (i + 1) := fun h => if_neg h
    by_cases h1 : (nth l i).f1 ≤ t.f1
    · rw [if_pos h1, if_neg (show ¬ (nth l i).f1 > t.f1 by omega)]
      by_cases h2 : (nxt l i).f1 > t.f1
      · rw [if_pos h2]
        by_cases h3 : turnI (nth l i) (nxt l i) t > 0
        · have hc : crossI (nth l i) (nxt l i) t = 1 := if_pos ⟨h1, h2, h3⟩
          rw [if_pos (by simpa using h3), e1 (by omega), hc]; simp
        · have hc : crossI (nth l i) (nxt l i) t = 0 := by unfold crossI; rw [if_neg (by omega), if_neg (by omega)]
          rw [if_neg (by simpa using h3), e0 hc]
      · have hc : crossI (nth l i) (nxt l i) t = 0 := by unfold crossI; rw [if_neg (by omega), if_neg (by omega)]
        rw [if_neg h2, if_neg (by simp), e0 hc]
    · rw [if_neg h1, if_neg (by simp), if_pos (by omega)]
      by_cases h2 : (nxt l i).f1 ≤ t.f1
      · rw [if_pos h2]
        by_cases h3 : turnI (nth l i) (nxt l i) t < 0
        · have hc : crossI (nth l i) (nxt l i) t = -1 := by unfold crossI; rw [if_neg (by omega), if_pos ⟨by omega, h2, h3⟩]
          rw [if_pos h3, e1 (by omega), hc]; simp
        · have hc : crossI (nth l i) (nxt l i) t = 0 := by unfold crossI; rw [if_neg (by omega), if_neg (by omega)]
          rw [if_neg h3, e0 hc]
      · have hc : crossI (nth l i) (nxt l i) t = 0 := by unfold crossI; rw [if_neg (by omega), if_neg (by omega)]
        rw [if_neg h2, e0 hc]
theorem crossings_f (l : List S40) (t : S40) (k : Nat) (hn : l.length ≤ 24) (hk : 50 < k) : impl_crossings.f k l t.f0 t.f1 = some (crossL l t l.length 0) :=
  crossings_l l t (by omega) l.length k 0 [] (by omega) (by omega) (by omega) (by simp)
theorem crossL_len (l : List S40) (t : S40) : ∀ (d i : Nat), (crossL l t d i).length ≤ d := by
  intro d
  induction d with
  | zero => intro i; simp [crossL]
  | succ d ih => intro i; have := ih (i + 1); unfold crossL; split <;> simp <;> omega
def sumL : List (List Int) → Int
  | [] => 0
  | x :: r => rd x 1 + sumL r
theorem sum_crossL (l : List S40) (t : S40) : ∀ (d i : Nat), sumL (crossL l t d i) = crossS l t d i := by
  intro d
  induction d with
  | zero => intro i; rfl
  | succ d ih =>
    intro i
    unfold crossL crossS
    split
    · rename_i h; rw [h, ih, Int.zero_add]
    · rw [sumL, ih]; rfl
theorem mem_crossL (l : List S40) (t : S40) : ∀ (d i : Nat) (x : List Int), x ∈ crossL l t d i → x.length = 2 ∧ -1 ≤ rd x 1 ∧ rd x 1 ≤ 1 := by
  intro d
  induction d with
  | zero => intro i x h; simp [crossL] at h
  | succ d ih =>
    intro i x h
    unfold crossL at h
    split at h
    · exact ih _ _ h
    · rcases List.mem_cons.1 h with rfl | h
      · exact ⟨rfl, cross_bd _ _ _⟩
      · exact ih _ _ h
theorem wsum_l (L : List (List Int)) (hL : L.length ≤ 1000000) (hm : ∀ x ∈ L, x.length = 2 ∧ -1 ≤ rd x 1 ∧ rd x 1 ≤ 1) : ∀ (d k i : Nat) (a : Int), L.length - i = d → i ≤ L.length → d < k → -(i : Int) ≤ a → a ≤ i → impl_WindingNumber.l0 k a L (L.length : Int) i = some (a + sumL (L.drop i), true) := by
  intro d
  induction d with
  | zero =>
    intro k i a hd hi hk h1 h2
    obtain ⟨k, rfl⟩ : ∃ m, k = m + 1 := ⟨k - 1, by omega⟩
    simp only [impl_WindingNumber.l0]
    rw [if_neg (by omega), List.drop_eq_nil_of_le (by omega), sumL, Int.add_zero]
  | succ d ih =>
    intro k i a hd hi hk h1 h2
    obtain ⟨k, rfl⟩ : ∃ m, k = m + 1 := ⟨k - 1, by omega⟩
    have hlt : i < L.length := by omega
    have hr : rd_L4 L (i : Int) = L[i] := by simp [rd_L4, List.getD_eq_getElem?_getD, List.getElem?_eq_getElem hlt]
    obtain ⟨hl2, hb⟩ := hm L[i] (List.getElem_mem hlt)
    have hw : wrap64 (a + rd L[i] 1) = a + rd L[i] 1 := by unfold wrap64; omega
    simp only [impl_WindingNumber.l0]
    rw [hr, hw, if_pos (by omega), if_pos (by omega), if_pos (by omega), if_pos (by omega), wrap_succ (n := L.length) (by omega) (by omega) (by omega), show ((i : Int) + 1) = ((i + 1 : Nat) : Int) from by omega, ih k (i + 1) _ (by omega) (by omega) (by omega) (by omega) (by omega), List.drop_eq_getElem_cons hlt, sumL, Int.add_assoc]
def windF (l : List S40) (t : S40) : Int × Bool := if (goodB l && (spotB t && !onL l t l.length 0)) = true then (crossS l t l.length 0, true) else (0, false)
theorem sWind_f (l : List S40) (t : S40) (k : Nat) (hk : 24 < k) : spec_WindingNumber.f k l t.f0 t.f1 = some (windF l t) := by
  unfold spec_WindingNumber.f windF
  rw [wiAsked_f l t k hk, Option.bind_some]
  cases hg : goodB l with
  | false => rfl
  | true =>
    have := glen hg
    cases hs : spotB t with
    | false => rfl
    | true =>
      rw [if_pos (by rfl), wiOn_f l t k (by omega) hk, Option.bind_some]
      cases onL l t l.length 0 with
      | true => rfl
      | false =>
        rw [if_neg (by simp)]
        unfold spec_wiAround.f
        rw [show ((0 : Int)) = ((0 : Nat) : Int) from rfl, wiAround_l l t (by omega) l.length k 0 _ (by omega) (by omega) (by omega) (by omega) (by omega)]
        simp
theorem iWind_f (l : List S40) (t : S40) (k : Nat) (hk : 60 < k) : impl_WindingNumber.f k l t.f0 t.f1 = some (windF l t) := by
  obtain ⟨k, rfl⟩ : ∃ m, k = m + 1 := ⟨k - 1, by omega⟩
  unfold impl_WindingNumber.f windF
  rw [isPolygon_f l _ (by omega), Option.bind_some, isSpot_f]
  simp only [impl_WindingNumber.j0]
  cases hg : goodB l with
  | false => rfl
  | true =>
    have := glen hg
    rw [if_pos rfl, Option.bind_some]
    cases hs : spotB t with
    | false => rfl
    | true =>
      rw [if_pos rfl, isOn_f l t _ (by omega) (by omega), Option.bind_some]
      cases onL l t l.length 0 with
      | true => rfl
      | false =>
        have hc := crossL_len l t l.length 0
        rw [if_neg (by simp), crossings_f l t _ (by omega) (by omega), Option.bind_some]
        have := wsum_l (crossL l t l.length 0) (by omega) (fun x hx => mem_crossL l t _ _ x hx) (crossL l t l.length 0).length k 0 0 (by omega) (by omega) (by omega) (by omega) (by omega)
        rw [List.drop_zero, sum_crossL] at this
        rw [show ((0 : Nat) : Int) = 0 from rfl] at this
        rw [this]
        simp
end Go.Proofs.Ytoifmopgchigoaa.X

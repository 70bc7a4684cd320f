import Derived.Test.YtoifmopgchigoaaXi23
import Derived.Test.YtoifmopgchigoaaXf20
import Derived.Test.YtoifmopgchigoaaXf22
import Derived.Test.YtoifmopgchigoaaXQ54
namespace Go.Proofs.Ytoifmopgchigoaa.X
open Go.RowKit Go.Proofs.YtoifmopgchigoaaW.PrintWords Go.Proofs.YtoifmopgchigoaaW.PrintLast Go.Proofs.YtoifmopgchigoaaW.PrintMore
set_option linter.unusedVariables false
set_option linter.unusedSimpArgs false
theorem eqIntS_refl (l : List Int) (hb : l.length ≤ 4611686018427387904) : ∀ (d k i : Nat), l.length - i = d → i ≤ l.length → d < k → laws_eqIntS.l0 k l l i = some true := by
  intro d
  induction d with
  | zero =>
    intro k i hd hi hk
    obtain ⟨k, rfl⟩ : ∃ m, k = m + 1 := ⟨k - 1, by omega⟩
    simp only [laws_eqIntS.l0]
    rw [if_neg (by omega)]
  | succ d ih =>
    intro k i hd hi hk
    obtain ⟨k, rfl⟩ : ∃ m, k = m + 1 := ⟨k - 1, by omega⟩
    simp only [laws_eqIntS.l0]
    rw [if_pos (by omega), if_pos (by omega), if_pos (by omega), if_pos trivial, wrap_succ (n := l.length) (by omega) (by omega) (by omega), show ((i : Int) + 1) = ((i + 1 : Nat) : Int) from by omega]
    exact ih k (i + 1) (by omega) (by omega) (by omega)
theorem eqIntS_self (l : List Int) (k : Nat) (hb : l.length ≤ 4611686018427387904) (hk : l.length < k) : laws_eqIntS.f k l l = some true := by
  unfold laws_eqIntS.f
  rw [if_pos rfl]
  exact eqIntS_refl l hb l.length k 0 (by omega) (by omega) hk
theorem intactIntS_self (l : List Int) (k : Nat) (h : l.length ≤ 1000000) (hk : 2 * l.length + 2 ≤ k) : laws_intactIntS.f k l l = some true := by
  have hr := room_le l.length
  have hlen : (l ++ laws_toIntS.sp false l).length = l.length + room l.length := by simp [laws_toIntS.sp, spare]
  unfold laws_intactIntS.f
  rw [if_pos ⟨rfl, h⟩, eqIntS_self _ k (by rw [hlen]; omega) (by rw [hlen]; omega), Option.bind_some, if_pos rfl]
theorem toIntS_f (l : List Int) (k : Nat) (b : Bool) (h : l.length ≤ 1000000) : laws_toIntS.f k l b = some (l.map laws_toIntS.cv) := by
  unfold laws_toIntS.f
  rw [if_pos h]
/-- All from i on lie in 0..3. -/
theorem l1All_l (l : List Int) (hn : l.length ≤ 4611686018427387904) : ∀ (d k i : Nat), l.length - i = d → i ≤ l.length → d < k → spec_l1All.l0 k 0 3 l (l.length : Int) i = some (!(l.drop i).any (fun x => !decide (0 ≤ x ∧ x ≤ 3))) := by
  intro d
  induction d with
  | zero =>
    intro k i hd hi hk
    obtain ⟨k, rfl⟩ : ∃ m, k = m + 1 := ⟨k - 1, by omega⟩
    obtain rfl : i = l.length := by omega
    simp only [spec_l1All.l0]
    rw [if_neg (by omega), List.drop_length]
    rfl
  | succ d ih =>
    intro k i hd hi hk
    obtain ⟨k, rfl⟩ : ∃ m, k = m + 1 := ⟨k - 1, by omega⟩
    have hlt : i < l.length := by omega
    have hrd : rd l (i : Int) = l[i] := by unfold rd; simp [List.getD, hlt]
    simp only [spec_l1All.l0]
    rw [if_pos (by omega), if_pos (by omega), if_pos (by omega), l1In_f, Option.bind_some, hrd, List.drop_eq_getElem_cons hlt, List.any_cons, wrap_succ (n := l.length) (by omega) (by omega) (by omega), show ((i : Int) + 1) = ((i + 1 : Nat) : Int) from by omega, ih k (i + 1) (by omega) (by omega) (by omega)]
    cases h : decide (0 ≤ l[i] ∧ l[i] ≤ 3) <;> simp
theorem imList_f (l : List Int) (k : Nat) (hk : 128 < k) : spec_imList.f k l = some (decide (l.length ≤ 128) && !l.any (fun x => !decide (0 ≤ x ∧ x ≤ 3))) := by
  unfold spec_imList.f
  by_cases h : l.length ≤ 128
  · rw [if_pos (by omega)]
    unfold spec_l1All.f
    have := l1All_l l (by omega) l.length k 0 (by omega) (by omega) (by omega)
    rw [List.drop_zero] at this
    rw [show (0 : Int) = ((0 : Nat) : Int) from rfl]
    rw [decide_eq_true h, Bool.true_and]
    erw [this]
    rfl
  · rw [if_neg (by omega), decide_eq_false h, Bool.false_and]
def turnI (l : List Int) (i : Nat) : Int := Int.tmod (wrap64 ((wrap64 ((rd l (((i + 1) % l.length : Nat) : Int)) - (rd l (i : Int)))) + 4)) 4
def turnsL (l : List Int) : Nat → Nat → Int → Option Int
  | 0, _, a => some a
  | d + 1, i, a => if turnI l i = 1 then turnsL l d (i + 1) (wrap64 (a + 1)) else if turnI l i = 2 then none else if turnI l i = 3 then turnsL l d (i + 1) (wrap64 (a - 1)) else turnsL l d (i + 1) a
theorem imTurns_l (l : List Int) (hn : l.length ≤ 4611686018427387904) : ∀ (d k i : Nat) (a : Int), l.length - i = d → i ≤ l.length → d < k → spec_imTurns.l0 k l a l (l.length : Int) i = some (match turnsL l d i a with | none => (0, false) | some b => (wrap64 (Int.tdiv b 4), Int.tmod b 4 == 0)) := by
  intro d
  induction d with
  | zero =>
    intro k i a hd hi hk
    obtain ⟨k, rfl⟩ : ∃ m, k = m + 1 := ⟨k - 1, by omega⟩
    simp only [spec_imTurns.l0, turnsL]
    rw [if_neg (by omega)]
  | succ d ih =>
    intro k i a hd hi hk
    obtain ⟨k, rfl⟩ : ∃ m, k = m + 1 := ⟨k - 1, by omega⟩
    have hlt : i < l.length := by omega
    have hm : (i + 1) % l.length < l.length := Nat.mod_lt _ (by omega)
    simp only [spec_imTurns.l0, turnsL]
    have hw : wrap64 ((i : Int) + 1) = ((i + 1 : Nat) : Int) := by unfold wrap64; omega
    have e := fun a => ih k (i + 1) a (by omega) (by omega) (by omega)
    rw [if_pos (by omega), if_pos (by omega), if_pos (by omega), if_neg (by omega), tmod_nxt _ _ hlt hn, if_pos (by omega), if_pos (by omega), hw]
    simp only [e]
    show (if turnI l i = 1 then _ else if turnI l i = 2 then _ else if turnI l i = 3 then _ else _) = _
    by_cases h1 : turnI l i = 1
    · rw [if_pos h1, if_pos h1]
    · rw [if_neg h1, if_neg h1]
      by_cases h2 : turnI l i = 2
      · rw [if_pos h2, if_pos h2]
      · rw [if_neg h2, if_neg h2]
        by_cases h3 : turnI l i = 3
        · rw [if_pos h3, if_pos h3]
        · rw [if_neg h3, if_neg h3]
theorem turnsOf_l (l : List Int) (hn : l.length ≤ 4611686018427387904) : ∀ (d k i : Nat) (a : Int), l.length - i = d → i ≤ l.length → d < k → impl_turnsOf.l0 k l a l (l.length : Int) i = some (match turnsL l d i a with | none => (0, false) | some b => if Int.tmod b 4 = 0 then (wrap64 (Int.tdiv b 4), true) else (0, false)) := by
  intro d
  induction d with
  | zero =>
    intro k i a hd hi hk
    obtain ⟨k, rfl⟩ : ∃ m, k = m + 1 := ⟨k - 1, by omega⟩
    simp only [impl_turnsOf.l0, turnsL]
    rw [if_neg (by omega)]
    by_cases h : Int.tmod a 4 = 0
    · rw [if_pos h, if_pos h]
    · rw [if_neg h, if_neg h]
  | succ d ih =>
    intro k i a hd hi hk
    obtain ⟨k, rfl⟩ : ∃ m, k = m + 1 := ⟨k - 1, by omega⟩
    have hlt : i < l.length := by omega
    have hm : (i + 1) % l.length < l.length := Nat.mod_lt _ (by omega)
    simp only [impl_turnsOf.l0, turnsL]
    have hw : wrap64 ((i : Int) + 1) = ((i + 1 : Nat) : Int) := by unfold wrap64; omega
    have e := fun a => ih k (i + 1) a (by omega) (by omega) (by omega)
    rw [if_pos (by omega), if_pos (by omega), if_pos (by omega), if_neg (by omega), tmod_nxt _ _ hlt hn, if_pos (by omega), if_pos (by omega), hw]
    simp only [e]
    show (if turnI l i = 1 then _ else if turnI l i = 2 then _ else if turnI l i = 3 then _ else _) = _
    by_cases h1 : turnI l i = 1
    · rw [if_pos h1, if_pos h1]
    · rw [if_neg h1, if_neg h1]
      by_cases h2 : turnI l i = 2
      · rw [if_pos h2, if_pos h2]
      · rw [if_neg h2, if_neg h2]
        by_cases h3 : turnI l i = 3
        · rw [if_pos h3, if_pos h3]
        · rw [if_neg h3, if_neg h3]
def turnsF (l : List Int) : Int × Bool := if (decide (l.length ≤ 128) && !l.any (fun x => !decide (0 ≤ x ∧ x ≤ 3))) = true ∧ l.length ≠ 0 then (match turnsL l l.length 0 0 with | none => (0, false) | some b => if Int.tmod b 4 = 0 then (wrap64 (Int.tdiv b 4), true) else (0, false)) else (0, false)
theorem sTurns_f (l : List Int) (k : Nat) (hk : 130 < k) : spec_TurnsOf.f k l = some (turnsF l) := by
  obtain ⟨j, rfl⟩ : ∃ m, k = m + 1 := ⟨k - 1, by omega⟩
  unfold spec_TurnsOf.f turnsF
  rw [imList_f l _ (by omega), Option.bind_some]
  by_cases h : (decide (l.length ≤ 128) && !l.any (fun x => !decide (0 ≤ x ∧ x ≤ 3))) = true
  · have hl : l.length ≤ 128 := by simp at h; exact h.1
    rw [if_pos h]
    by_cases h0 : l.length = 0
    · rw [if_neg (by simp [h0])]
      simp only [spec_TurnsOf.j0]
      rw [if_pos (by simp [h0])]
    · rw [if_pos ⟨h, h0⟩]
      simp only [spec_TurnsOf.j0]
      rw [if_neg (by simp; intro e; apply h0; rw [e]; rfl)]
      unfold spec_imTurns.f
      have := imTurns_l l (by omega) l.length j 0 0 (by omega) (by omega) (by omega)
      erw [this]
      rw [Option.bind_some]
      cases turnsL l l.length 0 0 with
      | none => rfl
      | some b =>
        by_cases hb : Int.tmod b 4 = 0
        · simp [hb]
        · simp [hb]
  · rw [if_neg h, if_neg (fun e => h e.1)]
    rfl
theorem iTurns_f (l : List Int) (k : Nat) (hk : 130 < k) : impl_TurnsOf.f k l = some (turnsF l) := by
  unfold impl_TurnsOf.f impl_areReasons.f turnsF
  rw [Option.bind_some]
  by_cases h : (decide (l.length ≤ 128) && !l.any (fun x => !decide (0 ≤ x ∧ x ≤ 3))) = true
  · have hl : l.length ≤ 128 := by simp at h; exact h.1
    rw [if_pos h]
    by_cases h0 : l.length = 0
    · rw [if_pos (by omega), if_neg (by simp [h0])]
    · rw [if_neg (by omega), if_pos ⟨h, h0⟩]
      unfold impl_turnsOf.f
      have := turnsOf_l l (by omega) l.length k 0 0 (by omega) (by omega) (by omega)
      erw [this]
      rfl
  · rw [if_neg h, if_neg (fun e => h e.1)]
end Go.Proofs.Ytoifmopgchigoaa.X

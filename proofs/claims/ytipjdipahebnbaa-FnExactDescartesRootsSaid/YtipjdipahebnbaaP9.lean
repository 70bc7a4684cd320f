/- Changes of signs: both sides agree. -/
import Derived.Test.YtipjdipahebnbaaP8
set_option linter.unusedVariables false
set_option linter.unusedSimpArgs false
set_option maxRecDepth 100000
namespace Go.Proofs.Ytipjdipahebnbaa.Z
open Go.Proofs.Ytipjdipahebnbaa.Ev
noncomputable section
/-- Changes of signs from number i on; t: the last sign, c: those so far. -/
def chS (l : List Int) : Nat → Nat → Int → Int → Int
  | 0, _, _, c => c
  | d + 1, i, t, c => if rd I64 l i = 0 then chS l d (i + 1) t c else if t * sg (rd I64 l i) < 0 then chS l d (i + 1) (sg (rd I64 l i)) (c + 1) else chS l d (i + 1) (sg (rd I64 l i)) c
theorem sg_bd (x : Int) : -1 ≤ sg x ∧ sg x ≤ 1 := by unfold sg; (repeat' split) <;> omega
theorem sg_ne {x : Int} (h : x ≠ 0) : sg x = 1 ∨ sg x = -1 := by unfold sg; (repeat' split) <;> omega
theorem cmpI_f (n : Nat) (x : Int) : fn_cmp_Compare_int_.f n x 0 = some (sg x) := by
  unfold fn_cmp_Compare_int_.f fn_cmp_isNaN_int_.f sg
  rw [neI_f rfl, neI_f rfl, Option.bind_some, Option.bind_some, br_f, br_f]
  by_cases h : x < 0
  · rw [ltI_t h, br_t, if_neg (by omega), if_pos h]
  · rw [ltI_f h, br_f]
    by_cases h2 : 0 < x
    · rw [ltI_t h2, br_t, if_pos h2]
    · rw [ltI_f h2, br_f, if_neg h2, if_neg h]
theorem iCh_l {R : Type} (n : Nat) (l : List Int) (K0 : Int → Option R) (hl : l.length ≤ 1000000) : ∀ (d k i : Nat) (t c : Int), l.length - i = d → i ≤ l.length → d < k → -1 ≤ t → t ≤ 1 → 0 ≤ c → c ≤ i →
    fn_impl_changes.l3 n k l c t (ilen l) (i : Int) K0 = K0 (chS l d i t c) := by
  intro d
  induction d with
  | zero =>
    intro k i t c hd hi hk h1 h2 h3 h4
    obtain ⟨k, rfl⟩ : ∃ m, k = m + 1 := ⟨k - 1, by omega⟩
    simp only [fn_impl_changes.l3, chS]
    rw [ltI_f (by rw [ilen_eq]; omega), br_f]
  | succ d ih =>
    intro k i t c hd hi hk h1 h2 h3 h4
    obtain ⟨k, rfl⟩ : ∃ m, k = m + 1 := ⟨k - 1, by omega⟩
    have hb := sg_bd (rd I64 l i)
    simp only [fn_impl_changes.l3, chS]
    rw [ltI_t (by rw [ilen_eq]; omega), br_t, okIx_t (by omega) (by rw [ilen_eq]; omega), br_t, nat_cast, cmpI_f, Option.bind_some, add_one i (by omega)]
    by_cases h0 : rd I64 l i = 0
    · have hz : sg (rd I64 l i) = 0 := by rw [h0]; rfl
      rw [if_pos h0, eqI_t hz, br_t]
      exact ih k (i + 1) t c (by omega) (by omega) (by omega) h1 h2 h3 (by omega)
    · have hn := sg_ne h0
      rw [if_neg h0, eqI_f (x := sg (rd I64 l i)) (y := 0) (by omega), br_f, sub_in (by omega) (by omega)]
      have key : t * sg (rd I64 l i) < 0 ↔ sg (rd I64 l i) = 0 - t := by
        rcases hn with h | h <;> rw [h] <;> omega
      by_cases h5 : t * sg (rd I64 l i) < 0
      · rw [if_pos h5, eqI_t (key.1 h5), br_t, add_in (by omega) (by omega)]
        exact ih k (i + 1) _ (c + 1) (by omega) (by omega) (by omega) hb.1 hb.2 (by omega) (by omega)
      · rw [if_neg h5, eqI_f (fun h => h5 (key.2 h)), br_f]
        exact ih k (i + 1) _ c (by omega) (by omega) (by omega) hb.1 hb.2 h3 (by omega)
theorem sCh_l {R : Type} (n : Nat) (l : List Int) (K0 : Int → Option R) (hl : l.length ≤ 1000000) : ∀ (d k i : Nat) (t c : Int), l.length - i = d → i ≤ l.length → d < k → -1 ≤ t → t ≤ 1 → 0 ≤ c → c ≤ i →
    fn_spec_beChanges.l3 n k l c t (ilen l) (i : Int) K0 = K0 (chS l d i t c) := by
  intro d
  induction d with
  | zero =>
    intro k i t c hd hi hk h1 h2 h3 h4
    obtain ⟨k, rfl⟩ : ∃ m, k = m + 1 := ⟨k - 1, by omega⟩
    simp only [fn_spec_beChanges.l3, chS]
    rw [ltI_f (by rw [ilen_eq]; omega), br_f]
  | succ d ih =>
    intro k i t c hd hi hk h1 h2 h3 h4
    obtain ⟨k, rfl⟩ : ∃ m, k = m + 1 := ⟨k - 1, by omega⟩
    have hb := sg_bd (rd I64 l i)
    simp only [fn_spec_beChanges.l3, chS]
    rw [ltI_t (by rw [ilen_eq]; omega), br_t, okIx_t (by omega) (by rw [ilen_eq]; omega), br_t, nat_cast, sign_f, Option.bind_some, Option.bind_some, Option.bind_some, add_one i (by omega)]
    by_cases h0 : rd I64 l i = 0
    · rw [if_pos h0, eqI_t h0, br_t]
      exact ih k (i + 1) t c (by omega) (by omega) (by omega) h1 h2 h3 (by omega)
    · have hn := sg_ne h0
      have hm : -1 ≤ t * sg (rd I64 l i) ∧ t * sg (rd I64 l i) ≤ 1 := by rcases hn with h | h <;> rw [h] <;> omega
      rw [if_neg h0, eqI_f h0, br_f, mul_in (x := t) (y := sg (rd (.int .i64) l i)) (by exact (by omega : (-9223372036854775808 : Int) ≤ t * sg (rd I64 l i))) (by exact (by omega : t * sg (rd I64 l i) ≤ (9223372036854775807 : Int)))]
      by_cases h5 : t * sg (rd I64 l i) < 0
      · rw [if_pos h5, ltI_t h5, br_t, add_in (by omega) (by omega)]
        exact ih k (i + 1) _ (c + 1) (by omega) (by omega) (by omega) hb.1 hb.2 (by omega) (by omega)
      · rw [if_neg h5, ltI_f h5, br_f]
        exact ih k (i + 1) _ c (by omega) (by omega) (by omega) hb.1 hb.2 h3 (by omega)
theorem iCh_f (n : Nat) (l : List Int) (hl : l.length ≤ 1000000) (hn : 1000001 < n) : fn_impl_changes.f n l = some (chS l l.length 0 0 0) := by
  unfold fn_impl_changes.f
  exact iCh_l n l (fun z6 => some z6) hl l.length n 0 0 0 (by omega) (by omega) (by omega) (by omega) (by omega) (by omega) (by omega)
theorem sCh_f (n : Nat) (l : List Int) (hl : l.length ≤ 1000000) (hn : 1000001 < n) : fn_spec_beChanges.f n l = some (chS l l.length 0 0 0) := by
  unfold fn_spec_beChanges.f
  exact sCh_l n l (fun z8 => some z8) hl l.length n 0 0 0 (by omega) (by omega) (by omega) (by omega) (by omega) (by omega) (by omega)
end
end Go.Proofs.Ytipjdipahebnbaa.Z

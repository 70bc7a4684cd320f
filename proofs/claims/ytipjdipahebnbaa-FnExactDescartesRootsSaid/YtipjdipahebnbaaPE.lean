/- Lists of intervals: compared, marked. -/
import Derived.Test.YtipjdipahebnbaaP1
set_option linter.unusedVariables false
set_option linter.unusedSimpArgs false
set_option maxRecDepth 100000
namespace Go.Proofs.Ytipjdipahebnbaa.Z
open Go.Proofs.Ytipjdipahebnbaa.Ev
noncomputable section
abbrev IvE : Ty := .pair (.pair I64 I64) (.pair I64 I64)
theorem eqDyadic_self (n : Nat) (x : Int × Int) : fn_laws_eqDyadic.f n x x = some true := by
  unfold fn_laws_eqDyadic.f
  rw [neI_f rfl, br_f, neI_f rfl, br_f]
theorem eqInterval_self (n : Nat) (x : (Int × Int) × (Int × Int)) : fn_laws_eqInterval.f n x x = some true := by
  unfold fn_laws_eqInterval.f
  rw [eqDyadic_self, eqDyadic_self]
  rfl
theorem eqIntervalS_loop {R : Type} (n : Nat) (x : List ((Int × Int) × (Int × Int))) (K0 : Bool → Option R) (K1 : Unit → Option R) : ∀ (d k i : Nat), x.length - i = d → i ≤ x.length → d < k → x.length ≤ 4000000 → fn_laws_eqIntervalS.l4 n k x x (i : Int) K0 K1 = K1 () := by
  intro d
  induction d with
  | zero =>
    intro k i hd hi hk hx
    obtain ⟨k, rfl⟩ : ∃ m, k = m + 1 := ⟨k - 1, by omega⟩
    simp only [fn_laws_eqIntervalS.l4]
    rw [ltI_f (by rw [ilen_eq]; omega), br_f]
  | succ d ih =>
    intro k i hd hi hk hx
    obtain ⟨k, rfl⟩ : ∃ m, k = m + 1 := ⟨k - 1, by omega⟩
    simp only [fn_laws_eqIntervalS.l4]
    rw [ltI_t (by rw [ilen_eq]; omega), br_t, okIx_t (by omega) (by rw [ilen_eq]; omega), br_t, br_t, eqInterval_self, Option.bind_some, bnot_t, br_f, add_one i (by omega)]
    exact ih k (i + 1) (by omega) (by omega) (by omega) hx
theorem eqIntervalS_self (n : Nat) (x : List ((Int × Int) × (Int × Int))) (hn : 4000000 < n) (hx : x.length ≤ 4000000) : fn_laws_eqIntervalS.f n x x = some true := by
  unfold fn_laws_eqIntervalS.f
  rw [neI_f rfl, br_f]
  exact eqIntervalS_loop n x _ _ x.length n 0 (by omega) (by omega) (by omega) hx
theorem rd_setL {e : Ty} (x : List e.den) (i : Nat) (y : e.den) (h : i < x.length) : rd e (setL x i y) i = y := by
  rw [rd_at e _ i (by unfold setL; simpa using h)]
  simp [setL]
theorem setL_setL {α : Type} (x : List α) (i : Nat) (a b : α) : setL (setL x i a) i b = setL x i b := by unfold setL; simp
/-- Marks of intervals. -/
def marksIv (c : Int) : Nat → List ((Int × Int) × (Int × Int))
  | 0 => []
  | d + 1 => ((c, c + 1), (c + 1 + 1, c + 1 + 1 + 1)) :: marksIv (c + 1 + 1 + 1 + 1) d
theorem marksIv_len (c : Int) (d : Nat) : (marksIv c d).length = d := by
  induction d generalizing c with
  | zero => rfl
  | succ d ih => simp [marksIv, ih]
theorem markIv_l {R : Type} (n m : Nat) (K0 : List ((Int × Int) × (Int × Int)) → Int → Option R) : ∀ (d k i : Nat) (x : List ((Int × Int) × (Int × Int))) (c : Int), m - i = d → i ≤ m → m ≤ x.length → d < k → m ≤ 1000000 → 0 ≤ c → c ≤ 1000000 + 4 * i →
    fn_laws_markIntervalS.l2 n k x m c (i : Int) K0 = K0 (x.take i ++ (marksIv c d ++ x.drop m)) (c + 4 * d) := by
  intro d
  induction d with
  | zero =>
    intro k i x c hd hi hx hk hm h0 h1
    obtain ⟨k, rfl⟩ : ∃ m, k = m + 1 := ⟨k - 1, by omega⟩
    obtain rfl : i = m := by omega
    simp only [fn_laws_markIntervalS.l2, marksIv]
    rw [ltI_f (by rw [inat_eq]; omega), br_f, List.nil_append, List.take_append_drop]
    simp
  | succ d ih =>
    intro k i x c hd hi hx hk hm h0 h1
    obtain ⟨k, rfl⟩ : ∃ m, k = m + 1 := ⟨k - 1, by omega⟩
    have hlt : i < x.length := by omega
    have e1 : add .i64 c 1 = c + 1 := add_in (by omega) (by omega)
    have e2 : add .i64 (c + 1) 1 = c + 1 + 1 := add_in (by omega) (by omega)
    have e3 : add .i64 (c + 1 + 1) 1 = c + 1 + 1 + 1 := add_in (by omega) (by omega)
    have e4 : add .i64 (c + 1 + 1 + 1) 1 = c + 1 + 1 + 1 + 1 := add_in (by omega) (by omega)
    have hk : ∀ y : (Int × Int) × (Int × Int), rd (.pair (.pair (.int .i64) (.int .i64)) (.pair (.int .i64) (.int .i64))) (setL x i y) i = y := fun y => rd_setL (e := .pair (.pair (.int .i64) (.int .i64)) (.pair (.int .i64) (.int .i64))) x i y hlt
    have hok : okIx (i : Int) (inat m) = true := okIx_t (by omega) (by rw [inat_eq]; omega)
    simp only [fn_laws_markIntervalS.l2, marksIv]
    simp only [nat_cast, e1, e2, e3, e4, hok, br_t, setL_setL, hk]
    rw [ltI_t (by rw [inat_eq]; omega), br_t, add_one i (by omega)]
    rw [ih k (i + 1) _ _ (by omega) (by omega) (by unfold setL; simp; omega) (by omega) hm (by omega) (by omega)]
    unfold setL
    rw [take_set _ _ _ (by omega), drop_set _ _ _ _ (by omega)]
    congr 1
    · simp
    · omega
theorem markIv_f (n : Nat) (x : List ((Int × Int) × (Int × Int))) (m : Nat) (hx : m ≤ x.length) (hm : m ≤ 1000000) (hn : 1000001 < n) : fn_laws_markIntervalS.f n (x, m) 101 = some (101 + 4 * (m : Int), marksIv 101 m ++ x.drop m) := by
  unfold fn_laws_markIntervalS.f
  refine (markIv_l n m _ m n 0 x 101 (by omega) (by omega) hx (by omega) hm (by omega) (by omega)).trans ?_
  simp
theorem heldIv_l {R : Type} (n : Nat) (K0 K1 : Int → Option R) : ∀ (d k i : Nat) (x : List ((Int × Int) × (Int × Int))) (c : Int), x.length - i = d → i ≤ x.length → x.drop i = marksIv c d → d < k → x.length ≤ 1000000 → 0 ≤ c → c ≤ 1000000 + 4 * i →
    fn_laws_heldIntervalS.l2 n k x c (i : Int) K0 K1 = K1 (c + 4 * d) := by
  intro d
  induction d with
  | zero =>
    intro k i x c hd hi hx hk hm h0 h1
    obtain ⟨k, rfl⟩ : ∃ m, k = m + 1 := ⟨k - 1, by omega⟩
    simp only [fn_laws_heldIntervalS.l2]
    rw [ltI_f (by rw [ilen_eq]; omega), br_f]
    simp
  | succ d ih =>
    intro k i x c hd hi hx hk hm h0 h1
    obtain ⟨k, rfl⟩ : ∃ m, k = m + 1 := ⟨k - 1, by omega⟩
    have hlt : i < x.length := by omega
    rw [List.drop_eq_getElem_cons hlt, marksIv] at hx
    injection hx with q1 q2
    have e1 : add .i64 c 1 = c + 1 := add_in (by omega) (by omega)
    have e2 : add .i64 (c + 1) 1 = c + 1 + 1 := add_in (by omega) (by omega)
    have e3 : add .i64 (c + 1 + 1) 1 = c + 1 + 1 + 1 := add_in (by omega) (by omega)
    have e4 : add .i64 (c + 1 + 1 + 1) 1 = c + 1 + 1 + 1 + 1 := add_in (by omega) (by omega)
    have hr : rd (.pair (.pair (.int .i64) (.int .i64)) (.pair (.int .i64) (.int .i64))) x i = ((c, c + 1), (c + 1 + 1, c + 1 + 1 + 1)) := (rd_at (.pair (.pair (.int .i64) (.int .i64)) (.pair (.int .i64) (.int .i64))) x i hlt).trans q1
    have hok : okIx (i : Int) (ilen x) = true := okIx_t (by omega) (by rw [ilen_eq]; omega)
    have hne : ∀ y : Int, neI y y = false := fun y => neI_f rfl
    simp only [fn_laws_heldIntervalS.l2]
    simp only [nat_cast, e1, e2, e3, e4, hok, br_t, hr, hne, br_f]
    rw [ltI_t (by rw [ilen_eq]; omega), br_t, add_one i (by omega)]
    rw [ih k (i + 1) x _ (by omega) (by omega) q2 (by omega) hm (by omega) (by omega)]
    congr 1
    omega
theorem heldIv_f (n m : Nat) (hm : m ≤ 1000000) (hn : 1000001 < n) : fn_laws_heldIntervalS.f n (marksIv 101 m) 101 = some (101 + 4 * (m : Int)) := by
  unfold fn_laws_heldIntervalS.f
  have e := marksIv_len 101 m
  exact heldIv_l n _ _ m n 0 (marksIv 101 m) 101 (by omega) (by omega) rfl (by omega) (by omega) (by omega) (by omega)
end
end Go.Proofs.Ytipjdipahebnbaa.Z

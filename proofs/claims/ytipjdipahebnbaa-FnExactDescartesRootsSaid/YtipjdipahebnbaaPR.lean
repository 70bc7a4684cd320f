/- Long numbers: sums. -/
import Derived.Test.YtipjdipahebnbaaPQ
set_option linter.unusedVariables false
set_option linter.unusedSimpArgs false
set_option maxRecDepth 100000
namespace Go.Proofs.Ytipjdipahebnbaa.Z
open Go.Proofs.Ytipjdipahebnbaa.Ev
noncomputable section
/-- A sum or a difference of digits. -/
def pm (b : Bool) (x y : Int) : Int := match b with
  | true => x + y
  | false => x - y
theorem plus_l {R : Type} (n : Nat) (a b : Bool × List Int) (ha : DOK a.2) (hb : DOK b.2) (x3 : List Int) (x4 x6 : Bool) (m : Nat) (hm : m ≤ 1000000) (K0 : List Int → Bool → List Int → Bool → Option R) :
    ∀ (d k i : Nat) (out : List Int) (c : Int), m - i = d → i ≤ m → d < k → -1 ≤ c → c ≤ 1 → DOK out → out.length = i → dv out + 4294967296 ^ i * c = pm (boolEq a.1 b.1) (dS a.2 i) (dS b.2 i) →
    ∃ out' c', DOK out' ∧ out'.length = m ∧ fn_impl_long__plus.l6 n k [a] [b] x3 x4 out x6 c (m : Int) (i : Int) K0 = K0 x3 x4 out' x6 ∧ dv out' + 4294967296 ^ m * c' = pm (boolEq a.1 b.1) (dS a.2 m) (dS b.2 m) := by
  intro d
  induction d with
  | zero =>
    intro k i out c h1 h2 h3 h4 h5 h6 h7 h8
    obtain ⟨k, rfl⟩ : ∃ m, k = m + 1 := ⟨k - 1, by omega⟩
    obtain rfl : i = m := by omega
    refine ⟨out, c, h6, h7, ?_, h8⟩
    simp only [fn_impl_long__plus.l6]
    rw [ltI_f (by omega), br_f]
  | succ d ih =>
    intro k i out c h1 h2 h3 h4 h5 h6 h7 h8
    obtain ⟨k, rfl⟩ : ∃ m, k = m + 1 := ⟨k - 1, by omega⟩
    obtain ⟨a0, a1⟩ := dig_ok ha i
    obtain ⟨b0, b1⟩ := dig_ok hb i
    obtain ⟨u, hu⟩ : ∃ u, u = pm (boolEq a.1 b.1) (c + dig a.2 i) (dig b.2 i) := ⟨_, rfl⟩
    have hu0 : -4294967297 ≤ u ∧ u ≤ 8589934591 := by
      rw [hu]; unfold pm; split <;> omega
    have hcar : -1 ≤ u / 4294967296 ∧ u / 4294967296 ≤ 1 := by
      have : -4294967296 ≤ u := by rw [hu]; unfold pm; split <;> omega
      omega
    have hs32 : shr .i64 u 32 = u / 4294967296 := by
      unfold shr
      have : nat 32 = 32 := rfl
      rw [this, show min 32 IntKind.i64.bits = 32 from rfl, Int.fdiv_eq_ediv_of_nonneg _ (by decide)]
      rfl
    obtain ⟨out', c', q1, q2, q3, q4⟩ := ih k (i + 1) (out ++ [u % 4294967296]) (u / 4294967296) (by omega) (by omega) (by omega) hcar.1 hcar.2 (h6.snoc (by omega) (by omega)) (by simp [h7]) (by
      have hmod := Int.emod_add_mul_ediv u 4294967296
      rw [dv_snoc, h7, Int.pow_succ]
      have eA : dS a.2 (i + 1) = dS a.2 i + 4294967296 ^ i * dig a.2 i := rfl
      have eB : dS b.2 (i + 1) = dS b.2 i + 4294967296 ^ i * dig b.2 i := rfl
      rw [eA, eB]
      generalize u % 4294967296 = v at *
      generalize u / 4294967296 = w at *
      generalize (4294967296 : Int) ^ i = p at *
      generalize dS a.2 i = A at *
      generalize dS b.2 i = B at *
      cases hbe : boolEq a.1 b.1 <;> rw [hbe] at h8 hu <;> simp only [pm] at h8 hu ⊢ <;> grind)
    refine ⟨out', c', q1, q2, ?_, q4⟩
    rw [← q3]
    simp only [fn_impl_long__plus.l6]
    rw [ltI_t (by omega), br_t, show rd (.pair .bool (.slice 121 (.int .u32))) [a] 0 = a from rfl, show rd (.pair .bool (.slice 121 (.int .u32))) [b] 0 = b from rfl, digit_f, digit_f]
    simp only [Option.bind]
    rw [wrap_in (x := dig a.2 i) (by omega) (by omega), wrap_in (x := dig b.2 i) (by omega) (by omega), add_in (x := c) (y := dig a.2 i) (by omega) (by omega), ltI_f (x := 32) (y := 0) (by omega), br_f, br_f, add_one i (by omega)]
    have hok : ∀ x : Int, okApp (nadd (List.length out) (List.length (x :: ([] : List Int)))) 4 = true := fun x => okApp_t (by simp [nadd, h7]; omega)
    cases hbe : boolEq a.1 b.1
    · rw [hbe] at hu
      simp only [pm] at hu
      rw [br_f, hok, br_t, sub_in (by omega) (by omega), ← hu, wrap32_mod, hs32]
      rfl
    · rw [hbe] at hu
      simp only [pm] at hu
      rw [br_t, hok, br_t, add_in (by omega) (by omega), ← hu, wrap32_mod, hs32]
      rfl
theorem dS_le {l : List Int} (h : DOK l) (m : Nat) (hlt : dv l < 4294967296 ^ m) : dS l m = dv l := by
  by_cases hm : l.length ≤ m
  · exact dS_all hm
  · have e : dv l = dS l m + 4294967296 ^ m * dv (l.drop m) := by
      rw [dS_take]
      conv => lhs; rw [← List.take_append_drop m l, dv_app]
      rw [List.length_take, Nat.min_eq_left (by omega)]
    have h1 := (dS_range h m).1
    have h2 := (dv_range (l := l.drop m) (fun d hd => h d (List.mem_of_mem_drop hd))).1
    have hp : (0 : Int) < 4294967296 ^ m := Int.pow_pos (by decide)
    rcases Int.lt_or_le 0 (dv (l.drop m)) with h3 | h3
    · have := Int.mul_le_mul_of_nonneg_left (show (1 : Int) ≤ dv (l.drop m) from h3) (Int.le_of_lt hp)
      rw [Int.mul_one] at this
      omega
    · have h4 : dv (l.drop m) = 0 := by omega
      rw [h4, Int.mul_zero] at e
      omega
theorem plus_go {R : Type} (n : Nat) (a b : Bool × List Int) (ha : DOK a.2) (hb : DOK b.2) (hle : dv b.2 ≤ dv a.2) (x3 : List Int) (x4 x6 : Bool) (hl : a.2.length ≤ 100000) (hn : 1000000 ≤ n) (K0 : List Int → Bool → List Int → Bool → Option R) :
    ∃ out, DOK out ∧ out.length = a.2.length + 1 ∧ fn_impl_long__plus.l6 n n [a] [b] x3 x4 [] x6 0 (add .i64 (ilen a.2) 1) 0 K0 = K0 x3 x4 out x6 ∧ dv out = pm (boolEq a.1 b.1) (dv a.2) (dv b.2) := by
  obtain ⟨out, c, q1, q2, q3, q4⟩ := plus_l n a b ha hb x3 x4 x6 (a.2.length + 1) (by omega) K0 (a.2.length + 1) n 0 [] 0 (by omega) (by omega) (by omega) (by omega) (by omega) DOK.nil rfl (by cases boolEq a.1 b.1 <;> simp [dS, dv, pm])
  refine ⟨out, q1, q2, ?_, ?_⟩
  · rw [← q3, ilen_eq, add_one _ (by omega)]
    rfl
  · obtain ⟨r1, r2⟩ := dv_range ha
    obtain ⟨r3, r4⟩ := dv_range hb
    obtain ⟨r5, r6⟩ := dv_range q1
    rw [q2] at r6
    have hp : (0 : Int) < 4294967296 ^ a.2.length := Int.pow_pos (by decide)
    rw [Int.pow_succ] at r6 q4
    have e1 : dS a.2 (a.2.length + 1) = dv a.2 := dS_all (by omega)
    have e2 : dS b.2 (a.2.length + 1) = dv b.2 := dS_le hb _ (by rw [Int.pow_succ]; omega)
    rw [e1, e2] at q4
    have hr : 0 ≤ pm (boolEq a.1 b.1) (dv a.2) (dv b.2) ∧ pm (boolEq a.1 b.1) (dv a.2) (dv b.2) < 4294967296 ^ a.2.length * 4294967296 := by
      cases boolEq a.1 b.1 <;> simp only [pm] <;> omega
    generalize (4294967296 : Int) ^ a.2.length = p at *
    generalize pm (boolEq a.1 b.1) (dv a.2) (dv b.2) = V at *
    have hc : c = 0 := by
      have hpp : 0 < p * 4294967296 := by omega
      rcases Int.lt_trichotomy c 0 with h | h | h
      · have := Int.mul_le_mul_of_nonneg_left (show c ≤ -1 by omega) (Int.le_of_lt hpp)
        omega
      · exact h
      · have := Int.mul_le_mul_of_nonneg_left (show (1 : Int) ≤ c from h) (Int.le_of_lt hpp)
        omega
    rw [hc, Int.mul_zero] at q4
    omega
theorem plus_f (n : Nat) (a b : Bool × List Int) (ha : DOK a.2) (hb : DOK b.2) (hla : a.2.length ≤ 100000) (hlb : b.2.length ≤ 100000) (hn : 1000000 ≤ n) :
    ∃ r, fn_impl_long__plus.f n a b = some r ∧ DOK r.2 ∧ r.2.length ≤ max a.2.length b.2.length + 1 ∧ lv r = lv a + lv b := by
  unfold fn_impl_long__plus.f
  rw [cmpD_f' n a b ha hb hla hlb hn]
  simp only [Option.bind]
  unfold cmpI
  by_cases h : dv a.2 < dv b.2
  · rw [if_pos h, ltI_t (by decide), br_t]
    obtain ⟨out, q1, q2, q3, q4⟩ := plus_go n b a hb ha (Int.le_of_lt h) [] false b.1 hlb hn (fun (z13 : List Int) (z14 : Bool) (z15 : List Int) (z16 : Bool) => some (z16, z15))
    refine ⟨(b.1, out), q3, q1, by dsimp only; omega, ?_⟩
    unfold lv
    dsimp only
    rw [q4]
    cases a.1 <;> cases b.1 <;> simp only [boolEq, pm] <;> simp <;> omega
  · rw [if_neg h, ltI_f (by split <;> decide), br_f]
    obtain ⟨out, q1, q2, q3, q4⟩ := plus_go n a b ha hb (by omega) [] false a.1 hla hn (fun (z13 : List Int) (z14 : Bool) (z15 : List Int) (z16 : Bool) => some (z16, z15))
    refine ⟨(a.1, out), q3, q1, by dsimp only; omega, ?_⟩
    unfold lv
    dsimp only
    rw [q4]
    cases a.1 <;> cases b.1 <;> simp only [boolEq, pm] <;> simp <;> omega
end
end Go.Proofs.Ytipjdipahebnbaa.Z

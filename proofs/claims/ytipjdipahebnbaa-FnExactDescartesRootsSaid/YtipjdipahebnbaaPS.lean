/- The sign at a mark. -/
import Derived.Test.YtipjdipahebnbaaPR
set_option linter.unusedVariables false
set_option linter.unusedSimpArgs false
set_option maxRecDepth 100000
namespace Go.Proofs.Ytipjdipahebnbaa.Z
open Go.Proofs.Ytipjdipahebnbaa.Ev
noncomputable section
theorem dv_zero {d : Int} {r : List Int} (h : DOK (d :: r)) : dv (d :: r) = 0 ↔ d = 0 ∧ dv r = 0 := by
  have h1 := h d (List.mem_cons_self ..)
  have h2 := (dv_range (l := r) (fun x hx => h x (List.mem_cons_of_mem _ hx))).1
  simp only [dv]
  omega
theorem idx133_l {R : Type} (n : Nat) (l : List Int) (hd : DOK l) (hl : l.length ≤ 1000000) (K0 : Int → Option R) (K1 : Unit → Option R) : ∀ (d k i : Nat), l.length - i = d → i ≤ l.length → d < k →
    (dv (l.drop i) = 0 ∧ fn_slices_IndexFunc___uint32_uint32__f143.l2 n k l (ilen l) (i : Int) K0 K1 = K1 ()) ∨ (dv (l.drop i) ≠ 0 ∧ ∃ j : Nat, fn_slices_IndexFunc___uint32_uint32__f143.l2 n k l (ilen l) (i : Int) K0 K1 = K0 (j : Int)) := by
  intro d
  induction d with
  | zero =>
    intro k i h1 h2 h3
    obtain ⟨k, rfl⟩ : ∃ m, k = m + 1 := ⟨k - 1, by omega⟩
    obtain rfl : i = l.length := by omega
    refine .inl ⟨by simp [dv], ?_⟩
    simp only [fn_slices_IndexFunc___uint32_uint32__f143.l2]
    rw [ilen_eq, ltI_f (by omega), br_f]
  | succ d ih =>
    intro k i h1 h2 h3
    obtain ⟨k, rfl⟩ : ∃ m, k = m + 1 := ⟨k - 1, by omega⟩
    have hi : i < l.length := by omega
    have hdr : l.drop i = l[i] :: l.drop (i + 1) := List.drop_eq_getElem_cons hi
    have hz : dv (l.drop i) = 0 ↔ l[i] = 0 ∧ dv (l.drop (i + 1)) = 0 := by
      rw [hdr]
      refine dv_zero fun x hx => hd x ?_
      rw [← hdr] at hx
      exact List.mem_of_mem_drop hx
    simp only [fn_slices_IndexFunc___uint32_uint32__f143.l2]
    rw [ilen_eq, ltI_t (by omega), br_t, okIx_t (by omega) (by omega), br_t, nat_cast, show rd (.int .u32) l i = l[i] from rd_get hi]
    unfold fn_impl_long__sign_1.f
    simp only [Option.bind]
    by_cases h0 : l[i] = 0
    · rw [neI_f h0, br_f, add_one i (by omega), ← ilen_eq]
      rcases ih k (i + 1) (by omega) (by omega) (by omega) with ⟨e1, e2⟩ | ⟨e1, e2⟩
      · exact .inl ⟨hz.2 ⟨h0, e1⟩, e2⟩
      · exact .inr ⟨fun h => e1 (hz.1 h).2, e2⟩
    · rw [neI_t h0, br_t]
      exact .inr ⟨fun h => h0 (hz.1 h).1, i, rfl⟩
theorem longSign_f (n : Nat) (a : Bool × List Int) (ha : DOK a.2) (hl : a.2.length ≤ 100000) (hn : 1000000 ≤ n) : fn_impl_long__sign.f n a = some (cmpI (lv a) 0) := by
  have h0 := (dv_range ha).1
  unfold fn_impl_long__sign.f fn_slices_ContainsFunc___uint32_uint32__f143.f fn_slices_IndexFunc___uint32_uint32__f143.f
  rcases idx133_l n a.2 ha (by omega) (fun (z4 : Int) => some z4) (fun _ => some ((-1 : Int))) a.2.length n 0 (by omega) (by omega) (by omega) with ⟨e1, e2⟩ | ⟨e1, j, e2⟩
  · rw [List.drop_zero] at e1
    rw [show (0 : Int) = ((0 : Nat) : Int) from rfl, e2]
    simp only [Option.bind]
    rw [leI_f (by decide), bnot_f, br_t]
    unfold lv cmpI
    cases a.1 <;> simp [e1]
  · rw [List.drop_zero] at e1
    rw [show (0 : Int) = ((0 : Nat) : Int) from rfl, e2]
    simp only [Option.bind]
    rw [leI_t (by omega), bnot_t, br_f]
    unfold lv cmpI
    cases a.1
    · rw [br_f]
      dsimp only
      rw [if_neg (by omega), if_pos (by omega)]
    · rw [br_t]
      dsimp only
      rw [if_pos (by omega)]
/-- The value times 2 to the power of K times the degree, the highest coefficient first. -/
def hor (p : List Int) (N : Int) (K : Nat) : Nat → Int
  | 0 => 0
  | d + 1 => hor p N K d * N + dig p (p.length - 1 - d) * 2 ^ (K * d)
theorem signAt_l {R : Type} (n : Nat) (p : List Int) (N : Int) (K : Nat) (hK : K ≤ 1000) (hp : p.length ≤ 20) (hN : -4294967296 < N) (hN' : N < 4294967296) (hc : ∀ c ∈ p, -4611686018427387904 < c ∧ c < 4611686018427387904) (hn : 1000000 ≤ n) (K0 : List (Bool × List Int) → Option R) :
    ∀ (i k d : Nat) (s : Bool × List Int), i + d = p.length → i < k → DOK s.2 → s.2.length ≤ 1100 * d → lv s = hor p N K d →
    ∃ s', fn_impl_signAt.l3 n k p [(N, (K : Int))] [s] ((i : Int) - 1) K0 = K0 [s'] ∧ DOK s'.2 ∧ s'.2.length ≤ 1100 * p.length ∧ lv s' = hor p N K p.length := by
  intro i
  induction i with
  | zero =>
    intro k d s h1 h2 h3 h4 h5
    obtain ⟨k, rfl⟩ : ∃ m, k = m + 1 := ⟨k - 1, by omega⟩
    obtain rfl : d = p.length := by omega
    refine ⟨s, ?_, h3, h4, h5⟩
    simp only [fn_impl_signAt.l3]
    rw [leI_f (by omega), br_f]
  | succ i ih =>
    intro k d s h1 h2 h3 h4 h5
    obtain ⟨k, rfl⟩ : ∃ m, k = m + 1 := ⟨k - 1, by omega⟩
    have hi : i < p.length := by omega
    obtain ⟨c0, c1⟩ := hc _ (List.getElem_mem hi)
    obtain ⟨s1, a1, a2, a3, a4⟩ := times_f n s N (by omega) h3 hN hN' (by omega)
    have hkd : K * d ≤ 1000 * 20 := Nat.mul_le_mul hK (by omega)
    have hkd2 : K * d ≤ 1000 * d := Nat.mul_le_mul_right d hK
    obtain ⟨ds, b1, b2, b3, b4⟩ := longOf_f n p[i] (K * d) c0 c1 (by omega)
    obtain ⟨s2, g1, g2, g3, g4⟩ := plus_f n s1 (ltI p[i] 0, ds) a2 b2 (by omega) (by dsimp only; omega) hn
    have hlv : lv (ltI p[i] 0, ds) = p[i] * 2 ^ (K * d) := by
      unfold lv
      dsimp only
      rw [b4]
      by_cases hneg : p[i] < 0
      · rw [ltI_t hneg, show ((p[i]).natAbs : Int) = -p[i] from by omega]
        simp [Int.neg_mul]
      · rw [ltI_f hneg, show ((p[i]).natAbs : Int) = p[i] from by omega]
    obtain ⟨s', e1, e2, e3, e4⟩ := ih k (d + 1) s2 (by omega) (by omega) g2 (by dsimp only at g3; omega) (by
      rw [g4, a4, h5, hlv]
      simp only [hor]
      unfold dig
      rw [dif_pos (by omega)]
      simp only [show p.length - 1 - d = i from by omega])
    refine ⟨s', ?_, e2, e3, e4⟩
    rw [← e1]
    simp only [fn_impl_signAt.l3]
    rw [show ((i + 1 : Nat) : Int) - 1 = (i : Int) from by omega, leI_t (by omega), br_t, ilen_eq, okIx_t (by omega) (by omega), br_t,
      show rd (.pair .bool (.slice 121 (.int .u32))) [s] 0 = s from rfl, show rd (.pair (.int .i64) (.int .i64)) [(N, (K : Int))] 0 = (N, (K : Int)) from rfl, a1, nat_cast, show rd (.int .i64) p i = p[i] from rd_get hi]
    simp only [Option.bind]
    rw [sub_in (x := (p.length : Int)) (y := 1) (by omega) (by omega), sub_in (x := (p.length : Int) - 1) (y := (i : Int)) (by omega) (by omega), show (p.length : Int) - 1 - (i : Int) = (d : Int) from by omega,
      show mul .i64 (K : Int) (d : Int) = ((K * d : Nat) : Int) from by rw [mul_in (by rw [← Int.natCast_mul]; omega) (by rw [← Int.natCast_mul]; omega), Int.natCast_mul], b1]
    dsimp only
    rw [g1, sub_in (x := (i : Int)) (y := 1) (by omega) (by omega)]
    rfl
theorem signAt_f (n : Nat) (p : List Int) (N : Int) (K : Nat) (hK : K ≤ 1000) (hp : p.length ≤ 20) (hN : -4294967296 < N) (hN' : N < 4294967296) (hc : ∀ c ∈ p, -4611686018427387904 < c ∧ c < 4611686018427387904) (hn : 1000000 ≤ n) :
    fn_impl_signAt.f n p (N, (K : Int)) = some (cmpI (hor p N K p.length) 0) := by
  unfold fn_impl_signAt.f
  obtain ⟨s', e1, e2, e3, e4⟩ := signAt_l n p N K hK hp hN hN' hc hn (fun (z7 : List (Bool × List Int)) => ((fn_impl_long__sign.f n (rd (.pair .bool (.slice 121 (.int .u32))) z7 0))).bind fun (y8 : Int) => some y8) p.length n 0 (false, []) (by omega) (by omega) DOK.nil (by simp) (by simp [lv, dv, hor])
  rw [ilen_eq, sub_in (by omega) (by omega), e1, show rd (.pair .bool (.slice 121 (.int .u32))) [s'] 0 = s' from rfl, longSign_f n s' e2 (by omega) hn, e4]
  rfl
end
end Go.Proofs.Ytipjdipahebnbaa.Z

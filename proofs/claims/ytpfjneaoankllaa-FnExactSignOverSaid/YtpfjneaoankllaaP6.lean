/- Denominators: the law holds. -/
import Derived.Test.YtpfjneaoankllaaP5
set_option linter.unusedVariables false
set_option linter.unusedSimpArgs false
set_option maxRecDepth 100000
namespace Go.Proofs.Ytpfjneaoankllaa.Z
open Go.Proofs.Ytpfjneaoankllaa.Ev
noncomputable section
theorem degree_le (p : List Tm) (h : polyB p = true) (j : Nat) (hj : j < p.length) : 0 ≤ pw (rd T4 p j) 0 ∧ 0 ≤ pw (rd T4 p j) 1 ∧ 0 ≤ pw (rd T4 p j) 2 ∧ pw (rd T4 p j) 0 + pw (rd T4 p j) 1 + pw (rd T4 p j) 2 ≤ 4 := by
  have := expB_of ((polyB_at h).2 j hj).1
  exact ⟨this.1.1, this.2.1.1, this.2.2.1.1, this.2.2.2⟩
/-- The greatest degree, from term i on. -/
def dgS0 (p : List Tm) : Nat → Nat → Int → Int
  | 0, _, a => a
  | d + 1, i, a => dgS0 p d (i + 1) (mx a (pw (rd T4 p i) 0 + pw (rd T4 p i) 1 + pw (rd T4 p i) 2))
theorem dgS0_le {p : List Tm} {c : Int} : ∀ {d i : Nat} {a : Int}, a ≤ c → (∀ j, i ≤ j → j < i + d → pw (rd T4 p j) 0 + pw (rd T4 p j) 1 + pw (rd T4 p j) 2 ≤ c) → dgS0 p d i a ≤ c
  | 0, _, _, h, _ => h
  | d + 1, i, a, h, h' => by
    simp only [dgS0]
    exact dgS0_le (mx_le.2 ⟨h, h' i (Nat.le_refl _) (by omega)⟩) (fun j h1 h2 => h' j (by omega) (by omega))
theorem iDgr_l {R : Type} (n : Nat) (p : List Tm) (K0 : Int → Option R) (hp : polyB p = true) : ∀ (d k i : Nat) (a : Int), p.length - i = d → i ≤ p.length → d < k →
    fn_impl_degreeOf.l3 n k p a (ilen p) (i : Int) K0 = K0 (dgS0 p d i a) := by
  have hl := (polyB_at hp).1
  intro d
  induction d with
  | zero =>
    intro k i a hd hi hk
    obtain ⟨k, rfl⟩ : ∃ m, k = m + 1 := ⟨k - 1, by omega⟩
    simp only [fn_impl_degreeOf.l3, dgS0]
    rw [ltI_f (by rw [ilen_eq]; omega), br_f]
  | succ d ih =>
    intro k i a hd hi hk
    obtain ⟨k, rfl⟩ : ∃ m, k = m + 1 := ⟨k - 1, by omega⟩
    have he := expB_of ((polyB_at hp).2 i (by omega)).1
    simp only [fn_impl_degreeOf.l3, dgS0]
    rw [ltI_t (by rw [ilen_eq]; omega), br_t, okIx_t (by omega) (by rw [ilen_eq]; omega), br_t, nat_cast, degree_f n _ he.1 he.2.1 he.2.2.1, Option.bind_some, add_one i (by omega)]
    exact ih k (i + 1) _ (by omega) (by omega) (by omega)
theorem sDgr_l {R : Type} (n : Nat) (p : List Tm) (K0 : Int → Option R) (hp : polyB p = true) : ∀ (d k i : Nat) (a : Int), p.length - i = d → i ≤ p.length → d < k →
    fn_spec_poDegree.l3 n k p a (ilen p) (i : Int) K0 = K0 (dgS0 p d i a) := by
  have hl := (polyB_at hp).1
  intro d
  induction d with
  | zero =>
    intro k i a hd hi hk
    obtain ⟨k, rfl⟩ : ∃ m, k = m + 1 := ⟨k - 1, by omega⟩
    simp only [fn_spec_poDegree.l3, dgS0]
    rw [ltI_f (by rw [ilen_eq]; omega), br_f]
  | succ d ih =>
    intro k i a hd hi hk
    obtain ⟨k, rfl⟩ : ∃ m, k = m + 1 := ⟨k - 1, by omega⟩
    have he := degree_f n _ (expB_of ((polyB_at hp).2 i (by omega)).1).1 (expB_of ((polyB_at hp).2 i (by omega)).1).2.1 (expB_of ((polyB_at hp).2 i (by omega)).1).2.2.1
    unfold fn_impl_Term__degree.f at he
    have he := Option.some.inj he
    simp only [fn_spec_poDegree.l3, dgS0]
    rw [ltI_t (by rw [ilen_eq]; omega), br_t, okIx_t (by omega) (by rw [ilen_eq]; omega), br_t, nat_cast, he, most_f, Option.bind_some, add_one i (by omega)]
    exact ih k (i + 1) _ (by omega) (by omega) (by omega)
def dgP (p : List Tm) : Int := dgS0 p p.length 0 (-1)
theorem iDgr_f (n : Nat) (p : List Tm) (hp : polyB p = true) (hn : 100 < n) : fn_impl_degreeOf.f n p = some (dgP p) := by
  unfold fn_impl_degreeOf.f
  have hl := (polyB_at hp).1
  exact iDgr_l n p _ hp p.length n 0 (-1) (by omega) (by omega) (by omega)
theorem sDgr_f (n : Nat) (p : List Tm) (hp : polyB p = true) (hn : 100 < n) : fn_spec_poDegree.f n p = some (dgP p) := by
  unfold fn_spec_poDegree.f
  have hl := (polyB_at hp).1
  exact sDgr_l n p _ hp p.length n 0 (-1) (by omega) (by omega) (by omega)
theorem dgP_le (p : List Tm) (hp : polyB p = true) : dgP p ≤ 4 := by
  unfold dgP
  exact dgS0_le (by omega) (fun j _ h => (degree_le p hp j (by omega)).2.2.2)
theorem mx_comm (a b : Int) : mx a b = mx b a := by unfold mx; (repeat' split) <;> omega
theorem dgE_bd (p : List Tm) (hp : polyB p = true) (k : Nat) : 0 ≤ dgE p k ∧ dgE p k ≤ 4 := by
  unfold dgE
  refine ⟨mxS_ge p k _ _ _, mxS_le.2 ⟨by omega, fun j _ h => ?_⟩⟩
  have := degree_le p hp j (by omega)
  match k with
  | 0 => show pw (rd T4 p j) 0 ≤ 4; omega
  | 1 => show pw (rd T4 p j) 1 ≤ 4; omega
  | _ + 2 => show pw (rd T4 p j) 2 ≤ 4; omega
/-- The common multiples. -/
def mulF (x : Int) : Int := rd I64 [1, 1, 2, 3, 12] x.toNat
theorem mulF_f (n : Nat) (x : Int) (h0 : 0 ≤ x) (h1 : x ≤ 4) : fn_impl_multiple.f n x = some (mulF x) := by
  unfold fn_impl_multiple.f
  rw [okIx_t h0 (by rw [inat_eq]; omega), br_t]; rfl
theorem fac_f (n : Nat) (x : Int) (h0 : 0 ≤ x) (h1 : x ≤ 4) : fn_spec_beFactor.f n x = some (mulF x) := by
  unfold fn_spec_beFactor.f
  rw [okIx_t h0 (by rw [ilen_eq]; simp; omega), br_t]; rfl
theorem mulF_bd (x : Int) (h0 : 0 ≤ x) (h1 : x ≤ 4) : 1 ≤ mulF x ∧ mulF x ≤ 12 := by
  have h : x = 0 ∨ x = 1 ∨ x = 2 ∨ x = 3 ∨ x = 4 := by omega
  rcases h with rfl | rfl | rfl | rfl | rfl <;> decide
theorem mulF_0 : mulF 0 = 1 := by decide
/-- 2 to the power of K times the degree. -/
def pwD (K g : Int) : Int := 2 ^ (K * g).toNat
theorem pwD_facts {K g : Int} (hk : 0 ≤ K ∧ K ≤ 4) (hg : 0 ≤ g ∧ g ≤ 4) : 0 < pwD K g ∧ pwD K g ≤ 65536 ∧ shl .i64 1 (K * g) = pwD K g ∧ mul .i64 K g = K * g ∧ 0 ≤ K * g := by
  have h1 : K = 0 ∨ K = 1 ∨ K = 2 ∨ K = 3 ∨ K = 4 := by omega
  have h2 : g = 0 ∨ g = 1 ∨ g = 2 ∨ g = 3 ∨ g = 4 := by omega
  rcases h1 with rfl | rfl | rfl | rfl | rfl <;> rcases h2 with rfl | rfl | rfl | rfl | rfl <;> decide
theorem bePow_f (n : Nat) {K g y : Int} (hk : 0 ≤ K ∧ K ≤ 4) (hg : 0 ≤ g ∧ g ≤ 4) (hy : y = 2 ^ K.toNat) (hn : 10 < n) : fn_spec_bePower.f n y g = some (pwD K g) := by
  obtain ⟨m, rfl⟩ : ∃ m, n = m + 6 := ⟨n - 6, by omega⟩
  have h1 : K = 0 ∨ K = 1 ∨ K = 2 ∨ K = 3 ∨ K = 4 := by omega
  have h2 : g = 0 ∨ g = 1 ∨ g = 2 ∨ g = 3 ∨ g = 4 := by omega
  have t0 : ltI 0 0 = false := ltI_f (by omega)
  have t1 : ltI 0 1 = true := ltI_t (by omega)
  have t2 : ltI 0 2 = true := ltI_t (by omega)
  have t3 : ltI 0 3 = true := ltI_t (by omega)
  have t4 : ltI 0 4 = true := ltI_t (by omega)
  have s1 : sub .i64 1 1 = 0 := rfl
  have s2 : sub .i64 2 1 = 1 := rfl
  have s3 : sub .i64 3 1 = 2 := rfl
  have s4 : sub .i64 4 1 = 3 := rfl
  subst hy
  unfold fn_spec_bePower.f
  rcases h2 with rfl | rfl | rfl | rfl | rfl <;> simp only [fn_spec_bePower.l2, t0, t1, t2, t3, t4, s1, s2, s3, s4, br_t, br_f] <;> congr 1 <;> rcases h1 with rfl | rfl | rfl | rfl | rfl <;> decide
theorem mul3 {a b : Int} (ha : 0 ≤ a) (hb : 1 ≤ b ∧ b ≤ 12) {c : Int} (hc : a ≤ c) (h : c ≤ 100000000) : mul .i64 a b = a * b ∧ 0 ≤ a * b ∧ a * b ≤ c * 12 := by
  have h1 : 0 ≤ a * b := Int.mul_nonneg ha (by omega)
  have h2 : a * b ≤ a * 12 := Int.mul_le_mul_of_nonneg_left hb.2 ha
  exact ⟨mul_in (by omega) (by omega), h1, by omega⟩
/-- The denominator. -/
def denV (p : List Tm) (b : Bx) : Int := pwD b.1 (mx 0 (dgP p)) * mulF (rd I64 (degE p b.2.1.length) 0) * mulF (rd I64 (degE p b.2.1.length) 1) * mulF (rd I64 (degE p b.2.1.length) 2)
theorem mx0_bd (p : List Tm) (hp : polyB p = true) : 0 ≤ mx 0 (dgP p) ∧ mx 0 (dgP p) ≤ 4 := ⟨mx_ge _ _, mx_le.2 ⟨by omega, dgP_le p hp⟩⟩
theorem degE_bd (p : List Tm) (hp : polyB p = true) (s k : Nat) (h3 : s ≤ 3) (hk : k ≤ 2) : ∃ x : Int, rd I64 (degE p s) k = x ∧ 0 ≤ x ∧ x ≤ 4 := by
  have d0 := dgE_bd p hp 0
  have d1 := dgE_bd p hp 1
  have d2 := dgE_bd p hp 2
  have h : s = 0 ∨ s = 1 ∨ s = 2 ∨ s = 3 := by omega
  have h' : k = 0 ∨ k = 1 ∨ k = 2 := by omega
  rcases h with rfl | rfl | rfl | rfl <;> rcases h' with rfl | rfl | rfl <;> first | exact ⟨_, rfl, d0⟩ | exact ⟨_, rfl, d1⟩ | exact ⟨_, rfl, d2⟩ | exact ⟨0, rfl, by omega, by omega⟩
def dnS (p : List Tm) (b : Bx) : Int × Bool := match askB p b with
  | true => (denV p b, true)
  | false => (0, false)
end
end Go.Proofs.Ytpfjneaoankllaa.Z

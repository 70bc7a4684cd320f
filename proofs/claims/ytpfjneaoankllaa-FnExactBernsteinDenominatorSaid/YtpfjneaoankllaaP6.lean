/- Denominators: the law holds. -/
import Derived.Test.YtpfjneaoankllaaP5
set_option linter.unusedVariables false
set_option linter.unusedSimpArgs false
set_option maxRecDepth 100000
namespace Go.Proofs.Ytpfjneaoankllaa.Z
open Go.Proofs.Ytpfjneaoankllaa.Ev
noncomputable section
theorem degree_le (p : List Tm) (h : polyB p = true) (j : Nat) (hj : j < p.length) : 0 ≤ pw (rd T4 p j) 0 ∧ 0 ≤ pw (rd T4 p j) 1 ∧ 0 ≤ pw (rd T4 p j) 2 ∧ pw (rd T4 p j) 0 + pw (rd T4 p j) 1 + pw (rd T4 p j) 2 ≤ 4 := by
  have := expB_of ((polyB_at h).2 j hj).1
  exact ⟨this.1.1, this.2.1.1, this.2.2.1.1, this.2.2.2⟩
/-- The greatest degree, from term i on. -/
def dgS0 (p : List Tm) : Nat → Nat → Int → Int
  | 0, _, a => a
  | d + 1, i, a => dgS0 p d (i + 1) (mx a (pw (rd T4 p i) 0 + pw (rd T4 p i) 1 + pw (rd T4 p i) 2))
theorem dgS0_le {p : List Tm} {c : Int} : ∀ {d i : Nat} {a : Int}, a ≤ c → (∀ j, i ≤ j → j < i + d → pw (rd T4 p j) 0 + pw (rd T4 p j) 1 + pw (rd T4 p j) 2 ≤ c) → dgS0 p d i a ≤ c
  | 0, _, _, h, _ => h
  | d + 1, i, a, h, h' => by
    simp only [dgS0]
    exact dgS0_le (mx_le.2 ⟨h, h' i (Nat.le_refl _) (by omega)⟩) (fun j h1 h2 => h' j (by omega) (by omega))
theorem iDgr_l {R : Type} (n : Nat) (p : List Tm) (K0 : Int → Option R) (hp : polyB p = true) : ∀ (d k i : Nat) (a : Int), p.length - i = d → i ≤ p.length → d < k →
    fn_impl_degreeOf.l3 n k p a (ilen p) (i : Int) K0 = K0 (dgS0 p d i a) := by
  have hl := (polyB_at hp).1
  intro d
  induction d with
  | zero =>
    intro k i a hd hi hk
    obtain ⟨k, rfl⟩ : ∃ m, k = m + 1 := ⟨k - 1, by omega⟩
    simp only [fn_impl_degreeOf.l3, dgS0]
    rw [ltI_f (by rw [ilen_eq]; omega), br_f]
  | succ d ih =>
    intro k i a hd hi hk
    obtain ⟨k, rfl⟩ : ∃ m, k = m + 1 := ⟨k - 1, by omega⟩
    have he := expB_of ((polyB_at hp).2 i (by omega)).1
    simp only [fn_impl_degreeOf.l3, dgS0]
    rw [ltI_t (by rw [ilen_eq]; omega), br_t, okIx_t (by omega) (by rw [ilen_eq]; omega), br_t, nat_cast, degree_f n _ he.1 he.2.1 he.2.2.1, Option.bind_some, add_one i (by omega)]
    exact ih k (i + 1) _ (by omega) (by omega) (by omega)
theorem sDgr_l {R : Type} (n : Nat) (p : List Tm) (K0 : Int → Option R) (hp : polyB p = true) : ∀ (d k i : Nat) (a : Int), p.length - i = d → i ≤ p.length → d < k →
    fn_spec_poDegree.l3 n k p a (ilen p) (i : Int) K0 = K0 (dgS0 p d i a) := by
  have hl := (polyB_at hp).1
  intro d
  induction d with
  | zero =>
    intro k i a hd hi hk
    obtain ⟨k, rfl⟩ : ∃ m, k = m + 1 := ⟨k - 1, by omega⟩
    simp only [fn_spec_poDegree.l3, dgS0]
    rw [ltI_f (by rw [ilen_eq]; omega), br_f]
  | succ d ih =>
    intro k i a hd hi hk
    obtain ⟨k, rfl⟩ : ∃ m, k = m + 1 := ⟨k - 1, by omega⟩
    have he := degree_f n _ (expB_of ((polyB_at hp).2 i (by omega)).1).1 (expB_of ((polyB_at hp).2 i (by omega)).1).2.1 (expB_of ((polyB_at hp).2 i (by omega)).1).2.2.1
    unfold fn_impl_Term__degree.f at he
    have he := Option.some.inj he
    simp only [fn_spec_poDegree.l3, dgS0]
    rw [ltI_t (by rw [ilen_eq]; omega), br_t, okIx_t (by omega) (by rw [ilen_eq]; omega), br_t, nat_cast, he, most_f, Option.bind_some, add_one i (by omega)]
    exact ih k (i + 1) _ (by omega) (by omega) (by omega)
def dgP (p : List Tm) : Int := dgS0 p p.length 0 (-1)
theorem iDgr_f (n : Nat) (p : List Tm) (hp : polyB p = true) (hn : 100 < n) : fn_impl_degreeOf.f n p = some (dgP p) := by
  unfold fn_impl_degreeOf.f
  have hl := (polyB_at hp).1
  exact iDgr_l n p _ hp p.length n 0 (-1) (by omega) (by omega) (by omega)
theorem sDgr_f (n : Nat) (p : List Tm) (hp : polyB p = true) (hn : 100 < n) : fn_spec_poDegree.f n p = some (dgP p) := by
  unfold fn_spec_poDegree.f
  have hl := (polyB_at hp).1
  exact sDgr_l n p _ hp p.length n 0 (-1) (by omega) (by omega) (by omega)
theorem dgP_le (p : List Tm) (hp : polyB p = true) : dgP p ≤ 4 := by
  unfold dgP
  exact dgS0_le (by omega) (fun j _ h => (degree_le p hp j (by omega)).2.2.2)
theorem mx_comm (a b : Int) : mx a b = mx b a := by unfold mx; (repeat' split) <;> omega
theorem dgE_bd (p : List Tm) (hp : polyB p = true) (k : Nat) : 0 ≤ dgE p k ∧ dgE p k ≤ 4 := by
  unfold dgE
  refine ⟨mxS_ge p k _ _ _, mxS_le.2 ⟨by omega, fun j _ h => ?_⟩⟩
  have := degree_le p hp j (by omega)
  match k with
  | 0 => show pw (rd T4 p j) 0 ≤ 4; omega
  | 1 => show pw (rd T4 p j) 1 ≤ 4; omega
  | _ + 2 => show pw (rd T4 p j) 2 ≤ 4; omega
/-- The common multiples. -/
def mulF (x : Int) : Int := rd I64 [1, 1, 2, 3, 12] x.toNat
theorem mulF_f (n : Nat) (x : Int) (h0 : 0 ≤ x) (h1 : x ≤ 4) : fn_impl_multiple.f n x = some (mulF x) := by
  unfold fn_impl_multiple.f
  rw [okIx_t h0 (by rw [inat_eq]; omega), br_t]; rfl
theorem fac_f (n : Nat) (x : Int) (h0 : 0 ≤ x) (h1 : x ≤ 4) : fn_spec_beFactor.f n x = some (mulF x) := by
  unfold fn_spec_beFactor.f
  rw [okIx_t h0 (by rw [ilen_eq]; simp; omega), br_t]; rfl
theorem mulF_bd (x : Int) (h0 : 0 ≤ x) (h1 : x ≤ 4) : 1 ≤ mulF x ∧ mulF x ≤ 12 := by
  have h : x = 0 ∨ x = 1 ∨ x = 2 ∨ x = 3 ∨ x = 4 := by omega
  rcases h with rfl | rfl | rfl | rfl | rfl <;> decide
theorem mulF_0 : mulF 0 = 1 := by decide
/-- 2 to the power of K times the degree. -/
def pwD (K g : Int) : Int := 2 ^ (K * g).toNat
theorem pwD_facts {K g : Int} (hk : 0 ≤ K ∧ K ≤ 4) (hg : 0 ≤ g ∧ g ≤ 4) : 0 < pwD K g ∧ pwD K g ≤ 65536 ∧ shl .i64 1 (K * g) = pwD K g ∧ mul .i64 K g = K * g ∧ 0 ≤ K * g := by
  have h1 : K = 0 ∨ K = 1 ∨ K = 2 ∨ K = 3 ∨ K = 4 := by omega
  have h2 : g = 0 ∨ g = 1 ∨ g = 2 ∨ g = 3 ∨ g = 4 := by omega
  rcases h1 with rfl | rfl | rfl | rfl | rfl <;> rcases h2 with rfl | rfl | rfl | rfl | rfl <;> decide
theorem bePow_f (n : Nat) {K g y : Int} (hk : 0 ≤ K ∧ K ≤ 4) (hg : 0 ≤ g ∧ g ≤ 4) (hy : y = 2 ^ K.toNat) (hn : 10 < n) : fn_spec_bePower.f n y g = some (pwD K g) := by
  obtain ⟨m, rfl⟩ : ∃ m, n = m + 6 := ⟨n - 6, by omega⟩
  have h1 : K = 0 ∨ K = 1 ∨ K = 2 ∨ K = 3 ∨ K = 4 := by omega
  have h2 : g = 0 ∨ g = 1 ∨ g = 2 ∨ g = 3 ∨ g = 4 := by omega
  have t0 : ltI 0 0 = false := ltI_f (by omega)
  have t1 : ltI 0 1 = true := ltI_t (by omega)
  have t2 : ltI 0 2 = true := ltI_t (by omega)
  have t3 : ltI 0 3 = true := ltI_t (by omega)
  have t4 : ltI 0 4 = true := ltI_t (by omega)
  have s1 : sub .i64 1 1 = 0 := rfl
  have s2 : sub .i64 2 1 = 1 := rfl
  have s3 : sub .i64 3 1 = 2 := rfl
  have s4 : sub .i64 4 1 = 3 := rfl
  subst hy
  unfold fn_spec_bePower.f
  rcases h2 with rfl | rfl | rfl | rfl | rfl <;> simp only [fn_spec_bePower.l2, t0, t1, t2, t3, t4, s1, s2, s3, s4, br_t, br_f] <;> congr 1 <;> rcases h1 with rfl | rfl | rfl | rfl | rfl <;> decide
theorem mul3 {a b : Int} (ha : 0 ≤ a) (hb : 1 ≤ b ∧ b ≤ 12) {c : Int} (hc : a ≤ c) (h : c ≤ 100000000) : mul .i64 a b = a * b ∧ 0 ≤ a * b ∧ a * b ≤ c * 12 := by
  have h1 : 0 ≤ a * b := Int.mul_nonneg ha (by omega)
  have h2 : a * b ≤ a * 12 := Int.mul_le_mul_of_nonneg_left hb.2 ha
  exact ⟨mul_in (by omega) (by omega), h1, by omega⟩
theorem ibd_1 (n : Nat) (x z : Int) (K0 : Int → Option Int) (hx : 0 ≤ x ∧ x ≤ 4) (hz : 0 ≤ z ∧ z ≤ 65536) (hn : 10 < n) : fn_impl_bernsteinDenominator.l3 n n [x] z 1 0 K0 = K0 (z * mulF x) := by
  obtain ⟨m, hm⟩ : ∃ m, n = m + 4 := ⟨n - 4, by omega⟩
  have e1 := (mul3 hz.1 (mulF_bd x hx.1 hx.2) (c := 65536) hz.2 (by omega)).1
  have key : fn_impl_bernsteinDenominator.l3 n n [x] z 1 0 K0 = fn_impl_bernsteinDenominator.l3 n (m + 4) [x] z 1 0 K0 := by rw [← hm]
  have r0 : rd (.int .i64) [x] (nat 0) = x := rfl
  have a1 : add .i64 0 1 = 1 := rfl
  have t0 : ltI 0 1 = true := ltI_t (by omega)
  have t1 : ltI 1 1 = false := ltI_f (by omega)
  have o1 : okIx 0 (ilen [x]) = true := okIx_t (by omega) (by rw [ilen_eq]; simp)
  rw [key]
  simp only [fn_impl_bernsteinDenominator.l3, r0, a1, t0, t1, o1, br_t, br_f, mulF_f n x hx.1 hx.2, Option.bind_some, e1]
theorem ibd_2 (n : Nat) (x y z : Int) (K0 : Int → Option Int) (hx : 0 ≤ x ∧ x ≤ 4) (hy : 0 ≤ y ∧ y ≤ 4) (hz : 0 ≤ z ∧ z ≤ 65536) (hn : 10 < n) : fn_impl_bernsteinDenominator.l3 n n [x, y] z 2 0 K0 = K0 (z * mulF x * mulF y) := by
  obtain ⟨m, hm⟩ : ∃ m, n = m + 4 := ⟨n - 4, by omega⟩
  obtain ⟨e1, f1, f2⟩ := mul3 hz.1 (mulF_bd x hx.1 hx.2) (c := 65536) hz.2 (by omega)
  have e2 := (mul3 f1 (mulF_bd y hy.1 hy.2) f2 (by omega)).1
  have key : fn_impl_bernsteinDenominator.l3 n n [x, y] z 2 0 K0 = fn_impl_bernsteinDenominator.l3 n (m + 4) [x, y] z 2 0 K0 := by rw [← hm]
  have r0 : rd (.int .i64) [x, y] (nat 0) = x := rfl
  have r1 : rd (.int .i64) [x, y] (nat 1) = y := rfl
  have a1 : add .i64 0 1 = 1 := rfl
  have a2 : add .i64 1 1 = 2 := rfl
  have t0 : ltI 0 2 = true := ltI_t (by omega)
  have t1 : ltI 1 2 = true := ltI_t (by omega)
  have t2 : ltI 2 2 = false := ltI_f (by omega)
  have o0 : okIx 0 (ilen [x, y]) = true := okIx_t (by omega) (by rw [ilen_eq]; simp)
  have o1 : okIx 1 (ilen [x, y]) = true := okIx_t (by omega) (by rw [ilen_eq]; simp)
  rw [key]
  simp only [fn_impl_bernsteinDenominator.l3, r0, r1, a1, a2, t0, t1, t2, o0, o1, br_t, br_f, mulF_f n x hx.1 hx.2, mulF_f n y hy.1 hy.2, Option.bind_some, e1, e2]
theorem ibd_3 (n : Nat) (x y u z : Int) (K0 : Int → Option Int) (hx : 0 ≤ x ∧ x ≤ 4) (hy : 0 ≤ y ∧ y ≤ 4) (hu : 0 ≤ u ∧ u ≤ 4) (hz : 0 ≤ z ∧ z ≤ 65536) (hn : 10 < n) : fn_impl_bernsteinDenominator.l3 n n [x, y, u] z 3 0 K0 = K0 (z * mulF x * mulF y * mulF u) := by
  obtain ⟨m, hm⟩ : ∃ m, n = m + 4 := ⟨n - 4, by omega⟩
  obtain ⟨e1, f1, f2⟩ := mul3 hz.1 (mulF_bd x hx.1 hx.2) (c := 65536) hz.2 (by omega)
  obtain ⟨e2, f3, f4⟩ := mul3 f1 (mulF_bd y hy.1 hy.2) f2 (by omega)
  have e3 := (mul3 f3 (mulF_bd u hu.1 hu.2) f4 (by omega)).1
  have key : fn_impl_bernsteinDenominator.l3 n n [x, y, u] z 3 0 K0 = fn_impl_bernsteinDenominator.l3 n (m + 4) [x, y, u] z 3 0 K0 := by rw [← hm]
  have r0 : rd (.int .i64) [x, y, u] (nat 0) = x := rfl
  have r1 : rd (.int .i64) [x, y, u] (nat 1) = y := rfl
  have r2 : rd (.int .i64) [x, y, u] (nat 2) = u := rfl
  have a1 : add .i64 0 1 = 1 := rfl
  have a2 : add .i64 1 1 = 2 := rfl
  have a3 : add .i64 2 1 = 3 := rfl
  have t0 : ltI 0 3 = true := ltI_t (by omega)
  have t1 : ltI 1 3 = true := ltI_t (by omega)
  have t2 : ltI 2 3 = true := ltI_t (by omega)
  have t3 : ltI 3 3 = false := ltI_f (by omega)
  have o0 : okIx 0 (ilen [x, y, u]) = true := okIx_t (by omega) (by rw [ilen_eq]; simp)
  have o1 : okIx 1 (ilen [x, y, u]) = true := okIx_t (by omega) (by rw [ilen_eq]; simp)
  have o2 : okIx 2 (ilen [x, y, u]) = true := okIx_t (by omega) (by rw [ilen_eq]; simp)
  rw [key]
  simp only [fn_impl_bernsteinDenominator.l3, r0, r1, r2, a1, a2, a3, t0, t1, t2, t3, o0, o1, o2, br_t, br_f, mulF_f n x hx.1 hx.2, mulF_f n y hy.1 hy.2, mulF_f n u hu.1 hu.2, Option.bind_some, e1, e2, e3]
/-- The denominator. -/
def denV (p : List Tm) (b : Bx) : Int := pwD b.1 (mx 0 (dgP p)) * mulF (rd I64 (degE p b.2.1.length) 0) * mulF (rd I64 (degE p b.2.1.length) 1) * mulF (rd I64 (degE p b.2.1.length) 2)
theorem mx0_bd (p : List Tm) (hp : polyB p = true) : 0 ≤ mx 0 (dgP p) ∧ mx 0 (dgP p) ≤ 4 := ⟨mx_ge _ _, mx_le.2 ⟨by omega, dgP_le p hp⟩⟩
theorem iDen_f (n : Nat) (p : List Tm) (b : Bx) (hp : polyB p = true) (hb : boxB b = true) (hk : b.1 ≤ 4) (hn : 1000001 < n) : fn_impl_bernsteinDenominator.f n p b.1 (ilen b.2.1) = some (denV p b) := by
  obtain ⟨w1, w2, w3, w4⟩ := boxB_of hb
  have hl := (polyB_at hp).1
  have hm := mx0_bd p hp
  obtain ⟨f1, f2, f3, f4, f5⟩ := pwD_facts ⟨w1.1, hk⟩ hm
  have d0 := dgE_bd p hp 0
  have d1 := dgE_bd p hp 1
  have d2 := dgE_bd p hp 2
  unfold fn_impl_bernsteinDenominator.f
  rw [iDgr_f n p hp (by omega), Option.bind_some, mx_comm (dgP p) 0, f4, ltI_f (by omega), br_f, ilen_eq, degreesOf_f n p _ (by omega) hn w2.1 w2.2, Option.bind_some, f3]
  unfold denV
  have h : b.2.1.length = 1 ∨ b.2.1.length = 2 ∨ b.2.1.length = 3 := by omega
  rcases h with h | h | h <;> rw [h]
  · refine (ibd_1 n (dgE p 0) _ _ d0 ⟨by omega, f2⟩ (by omega)).trans ?_
    show some (pwD b.1 (mx 0 (dgP p)) * mulF (dgE p 0)) = some (pwD b.1 (mx 0 (dgP p)) * mulF (dgE p 0) * mulF 0 * mulF 0)
    rw [mulF_0, Int.mul_one, Int.mul_one]
  · refine (ibd_2 n (dgE p 0) (dgE p 1) _ _ d0 d1 ⟨by omega, f2⟩ (by omega)).trans ?_
    show some (pwD b.1 (mx 0 (dgP p)) * mulF (dgE p 0) * mulF (dgE p 1)) = some (pwD b.1 (mx 0 (dgP p)) * mulF (dgE p 0) * mulF (dgE p 1) * mulF 0)
    rw [mulF_0, Int.mul_one]
  · exact ibd_3 n (dgE p 0) (dgE p 1) (dgE p 2) _ _ d0 d1 d2 ⟨by omega, f2⟩ (by omega)
theorem degE_bd (p : List Tm) (hp : polyB p = true) (s k : Nat) (h3 : s ≤ 3) (hk : k ≤ 2) : ∃ x : Int, rd I64 (degE p s) k = x ∧ 0 ≤ x ∧ x ≤ 4 := by
  have d0 := dgE_bd p hp 0
  have d1 := dgE_bd p hp 1
  have d2 := dgE_bd p hp 2
  have h : s = 0 ∨ s = 1 ∨ s = 2 ∨ s = 3 := by omega
  have h' : k = 0 ∨ k = 1 ∨ k = 2 := by omega
  rcases h with rfl | rfl | rfl | rfl <;> rcases h' with rfl | rfl | rfl <;> first | exact ⟨_, rfl, d0⟩ | exact ⟨_, rfl, d1⟩ | exact ⟨_, rfl, d2⟩ | exact ⟨0, rfl, by omega, by omega⟩
theorem sDen_f (n : Nat) (p : List Tm) (b : Bx) (hp : polyB p = true) (hb : boxB b = true) (hk : b.1 ≤ 4) (hn : 1000001 < n) : fn_spec_beDenominator.f n p (degE p b.2.1.length) b.1 = some (denV p b) := by
  obtain ⟨w1, w2, w3, w4⟩ := boxB_of hb
  have hm := mx0_bd p hp
  obtain ⟨f1, f2, _⟩ := pwD_facts ⟨w1.1, hk⟩ hm
  obtain ⟨_, _, m2⟩ := most_of w1
  obtain ⟨y, e1, _, e3⟩ := m2 n
  obtain ⟨x0, q0, q1⟩ := degE_bd p hp b.2.1.length 0 w2.2 (by omega)
  obtain ⟨x1, q2, q3⟩ := degE_bd p hp b.2.1.length 1 w2.2 (by omega)
  obtain ⟨x2, q4, q5⟩ := degE_bd p hp b.2.1.length 2 w2.2 (by omega)
  have r0 : rd (.int .i64) (degE p b.2.1.length) (nat 0) = x0 := q0
  have r1 : rd (.int .i64) (degE p b.2.1.length) (nat 1) = x1 := q2
  have r2 : rd (.int .i64) (degE p b.2.1.length) (nat 2) = x2 := q4
  obtain ⟨a1, g1, g2⟩ := mul3 (a := pwD b.1 (mx 0 (dgP p))) (by omega) (mulF_bd x0 q1.1 q1.2) f2 (by omega)
  obtain ⟨a2, g3, g4⟩ := mul3 g1 (mulF_bd x1 q3.1 q3.2) g2 (by omega)
  have a3 := (mul3 g3 (mulF_bd x2 q5.1 q5.2) g4 (by omega)).1
  unfold fn_spec_beDenominator.f denV
  rw [okIx_t (n := ilen (degE p b.2.1.length)) (i := 0) (by omega) (by rw [ilen_eq, degE_len]; omega), br_t, okIx_t (i := 1) (by omega) (by rw [ilen_eq, degE_len]; omega), br_t, okIx_t (i := 2) (by omega) (by rw [ilen_eq, degE_len]; omega), br_t, e1, Option.bind_some, sDgr_f n p hp (by omega), Option.bind_some, most_f, Option.bind_some, bePow_f n ⟨w1.1, hk⟩ hm e3 (by omega), Option.bind_some, r0, r1, r2, fac_f n x0 q1.1 q1.2, Option.bind_some, fac_f n x1 q3.1 q3.2, Option.bind_some, fac_f n x2 q5.1 q5.2, Option.bind_some, a1, a2, a3]
  rw [q0, q2, q4]
def dnS (p : List Tm) (b : Bx) : Int × Bool := match askB p b with
  | true => (denV p b, true)
  | false => (0, false)
theorem iDnm_f (n : Nat) (p : List Tm) (b : Bx) (hl : p.length ≤ 1000000) (hn : 1000001 < n) : fn_impl_BernsteinDenominator.f n p b = some (dnS p b) := by
  unfold fn_impl_BernsteinDenominator.f dnS
  rw [belongs_f n p b hl hn, Option.bind_some]
  cases h : askB p b
  · rfl
  · obtain ⟨h1, h2, h3⟩ := askB_of h
    rw [bnot_t, br_f, iDen_f n p b h1 h2 h3 hn]; rfl
theorem sDnm_f (n : Nat) (p : List Tm) (b : Bx) (hl : p.length ≤ 1000000) (hn : 1000001 < n) : fn_spec_BernsteinDenominator.f n p b = some (dnS p b) := by
  unfold fn_spec_BernsteinDenominator.f dnS
  rw [asked_f n p b hl hn, Option.bind_some]
  cases h : askB p b
  · rfl
  · obtain ⟨h1, h2, h3⟩ := askB_of h
    rw [bnot_t, br_f, beDegrees_f n p b hl hn h2, Option.bind_some, sDen_f n p b h1 h2 h3 hn]; rfl
theorem pureDen (p : List Tm) (b : Bx) (hw : Ev.WF (.slice 71 T4) p) (hb : Ev.WF (.pair (.int .i64) (.pair (.slice 3 (.int .i64)) (.slice 3 (.int .i64)))) b) : ∃ n, fn_laws_FnExactBernsteinDenominator.f n p b = some true := by
  refine ⟨5000000, ?_⟩
  have q0 : p.length ≤ 9223372036854775807 := Nat.le_trans hw.1 (by decide)
  have q1 : b.2.1.length ≤ 9223372036854775807 := Nat.le_trans hb.2.1.1 (by decide)
  have q2 : b.2.2.length ≤ 9223372036854775807 := Nat.le_trans hb.2.2.1 (by decide)
  unfold fn_laws_FnExactBernsteinDenominator.f
  rw [szTermS_f _ p 1000000 (by omega) (by omega) q0, Option.bind_some]
  by_cases hl : (1000000 : Int) - p.length < 0
  · rw [if_pos hl, ltI_t (by omega), br_t]
  · rw [if_neg hl, ltI_f hl, br_f]
    obtain ⟨y, ey, hy⟩ := szBox_f 5000000 b ((1000000 : Int) - p.length) (by omega) (by omega) q1 q2
    rw [ey, Option.bind_some]
    by_cases hy0 : y < 0
    · rw [ltI_t hy0, br_t]
    · obtain ⟨hb1, hb2⟩ := hy (by omega)
      have hl' : p.length ≤ 1000000 := by omega
      obtain ⟨r, er, er2⟩ := toTermS_b 5000000 p hl' (by omega)
      have er2 : preL r p.length = p := er2
      obtain ⟨u, v, eu, eu1, eu2⟩ := toBox_b 5000000 b hb1 hb2 (by omega)
      rw [ltI_f hy0, br_f, toTermS_nb _ p hl' (by omega), Option.bind_some, toBox_nb _ b hb1 hb2 (by omega), Option.bind_some]
      dsimp only
      rw [rowTermS_take, rowIntS_take, rowIntS_take, sDnm_f _ p (b.1, (b.2.1, b.2.2)) hl' (by omega), Option.bind_some, Option.bind_some, Option.bind_some]
      dsimp only
      rw [rowTermS_take, rowIntS_take, rowIntS_take, iDnm_f _ p (b.1, (b.2.1, b.2.2)) hl' (by omega), Option.bind_some, neI_f rfl, br_f, boolEq_self, bnot_t, br_f, Option.bind_some]
      rw [intactTermS_self _ _ _ (by omega) hl' (by rw [rowTermS_len]; omega), Option.bind_some]
      dsimp only
      rw [bnot_t, br_f, Option.bind_some]
      dsimp only
      rw [intactBox_self _ _ _ _ _ _ (by omega) hb1 hb2 (by rw [rowIntS_len]; omega) (by rw [rowIntS_len]; omega), Option.bind_some]
      dsimp only
      rw [bnot_t, br_f, er, Option.bind_some, eu, Option.bind_some]
      dsimp only
      rw [er2, eu1, eu2, iDnm_f _ p (b.1, (b.2.1, b.2.2)) hl' (by omega), Option.bind_some, neI_f rfl, br_f, boolEq_self, bnot_t, br_f]
end
end Go.Proofs.Ytpfjneaoankllaa.Z

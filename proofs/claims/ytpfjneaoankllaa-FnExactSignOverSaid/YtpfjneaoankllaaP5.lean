/- The laws hold. -/
import Derived.Test.YtpfjneaoankllaaP4
set_option linter.unusedVariables false
set_option linter.unusedSimpArgs false
set_option maxRecDepth 100000
namespace Go.Proofs.Ytpfjneaoankllaa.Z
open Go.Proofs.Ytpfjneaoankllaa.Ev
noncomputable section
/-- The greatest exponent of unknown k, at least 0. -/
def dgE (p : List Tm) (k : Nat) : Int := mxS p k p.length 0 0
theorem dgE_eq (p : List Tm) (k : Nat) : mx 0 (mxS p k p.length 0 (-1)) = dgE p k := by
  rw [← mxS_mx]; rfl
def degL (p : List Tm) : Nat → List Int
  | 1 => [dgE p 0]
  | 2 => [dgE p 0, dgE p 1]
  | _ => [dgE p 0, dgE p 1, dgE p 2]
theorem deg_l7_1 {R : Type} (n : Nat) (p : List Tm) (a X Y Z s len i : Int) (K0 : List Int → List Tm → Int → Int → Int → Option R) (hn : 4 < n) :
    fn_impl_degreesOf.l7 n n [a] p [X] s len i 1 0 K0 = K0 [mx a X] p s len i := by
  obtain ⟨m, rfl⟩ : ∃ m, n = m + 4 := ⟨n - 4, by omega⟩
  have r0 : rd (.int .i64) [a] (nat 0) = a := rfl
  have r1 : rd (.int .i64) [X] (nat 0) = X := rfl
  have w0 : ∀ x : Int, setL [a] (nat 0) x = [x] := fun _ => rfl
  have a1 : add .i64 0 1 = 1 := rfl
  have t0 : ltI 0 1 = true := ltI_t (by omega)
  have t1 : ltI 1 1 = false := ltI_f (by omega)
  have o0 : okIx 0 (ilen [X]) = true := okIx_t (by omega) (by rw [ilen_eq]; simp)
  have o1 : okIx 0 (ilen [a]) = true := okIx_t (by omega) (by rw [ilen_eq]; simp)
  simp only [fn_impl_degreesOf.l7, r0, r1, w0, a1, t0, t1, o0, o1, br_t, br_f]
theorem deg_l7_2 {R : Type} (n : Nat) (p : List Tm) (a b X Y s len i : Int) (K0 : List Int → List Tm → Int → Int → Int → Option R) (hn : 4 < n) :
    fn_impl_degreesOf.l7 n n [a, b] p [X, Y] s len i 2 0 K0 = K0 [mx a X, mx b Y] p s len i := by
  obtain ⟨m, rfl⟩ : ∃ m, n = m + 4 := ⟨n - 4, by omega⟩
  have r0 : ∀ x y : Int, rd (.int .i64) [x, y] (nat 0) = x := fun _ _ => rfl
  have r1 : ∀ x y : Int, rd (.int .i64) [x, y] (nat 1) = y := fun _ _ => rfl
  have w0 : ∀ x y z : Int, setL [x, y] (nat 0) z = [z, y] := fun _ _ _ => rfl
  have w1 : ∀ x y z : Int, setL [x, y] (nat 1) z = [x, z] := fun _ _ _ => rfl
  have a1 : add .i64 0 1 = 1 := rfl
  have a2 : add .i64 1 1 = 2 := rfl
  have t0 : ltI 0 2 = true := ltI_t (by omega)
  have t1 : ltI 1 2 = true := ltI_t (by omega)
  have t2 : ltI 2 2 = false := ltI_f (by omega)
  have o0 : ∀ x y : Int, okIx 0 (ilen [x, y]) = true := fun x y => okIx_t (by omega) (by rw [ilen_eq]; simp)
  have o1 : ∀ x y : Int, okIx 1 (ilen [x, y]) = true := fun x y => okIx_t (by omega) (by rw [ilen_eq]; simp)
  simp only [fn_impl_degreesOf.l7, r0, r1, w0, w1, a1, a2, t0, t1, t2, o0, o1, br_t, br_f]
theorem deg_l7_3 {R : Type} (n : Nat) (p : List Tm) (a b c X Y Z s len i : Int) (K0 : List Int → List Tm → Int → Int → Int → Option R) (hn : 4 < n) :
    fn_impl_degreesOf.l7 n n [a, b, c] p [X, Y, Z] s len i 3 0 K0 = K0 [mx a X, mx b Y, mx c Z] p s len i := by
  obtain ⟨m, rfl⟩ : ∃ m, n = m + 4 := ⟨n - 4, by omega⟩
  have r0 : ∀ x y z : Int, rd (.int .i64) [x, y, z] (nat 0) = x := fun _ _ _ => rfl
  have r1 : ∀ x y z : Int, rd (.int .i64) [x, y, z] (nat 1) = y := fun _ _ _ => rfl
  have r2 : ∀ x y z : Int, rd (.int .i64) [x, y, z] (nat 2) = z := fun _ _ _ => rfl
  have w0 : ∀ x y z u : Int, setL [x, y, z] (nat 0) u = [u, y, z] := fun _ _ _ _ => rfl
  have w1 : ∀ x y z u : Int, setL [x, y, z] (nat 1) u = [x, u, z] := fun _ _ _ _ => rfl
  have w2 : ∀ x y z u : Int, setL [x, y, z] (nat 2) u = [x, y, u] := fun _ _ _ _ => rfl
  have a1 : add .i64 0 1 = 1 := rfl
  have a2 : add .i64 1 1 = 2 := rfl
  have a3 : add .i64 2 1 = 3 := rfl
  have t0 : ltI 0 3 = true := ltI_t (by omega)
  have t1 : ltI 1 3 = true := ltI_t (by omega)
  have t2 : ltI 2 3 = true := ltI_t (by omega)
  have t3 : ltI 3 3 = false := ltI_f (by omega)
  have o0 : ∀ x y z : Int, okIx 0 (ilen [x, y, z]) = true := fun x y z => okIx_t (by omega) (by rw [ilen_eq]; simp)
  have o1 : ∀ x y z : Int, okIx 1 (ilen [x, y, z]) = true := fun x y z => okIx_t (by omega) (by rw [ilen_eq]; simp)
  have o2 : ∀ x y z : Int, okIx 2 (ilen [x, y, z]) = true := fun x y z => okIx_t (by omega) (by rw [ilen_eq]; simp)
  simp only [fn_impl_degreesOf.l7, r0, r1, r2, w0, w1, w2, a1, a2, a3, t0, t1, t2, t3, o0, o1, o2, br_t, br_f]
theorem deg_l3_1 {R : Type} (n : Nat) (p : List Tm) (K0 : List Int → Option R) (hl : p.length ≤ 1000000) (hn : 4 < n) : ∀ (d k i : Nat) (a : Int), p.length - i = d → i ≤ p.length → d < k →
    fn_impl_degreesOf.l3 n k [a] p 1 (ilen p) (i : Int) K0 = K0 [mxS p 0 d i a] := by
  intro d
  induction d with
  | zero =>
    intro k i a hd hi hk
    obtain ⟨k, rfl⟩ : ∃ m, k = m + 1 := ⟨k - 1, by omega⟩
    simp only [fn_impl_degreesOf.l3, mxS]
    rw [ltI_f (by rw [ilen_eq]; omega), br_f]
  | succ d ih =>
    intro k i a hd hi hk
    obtain ⟨k, rfl⟩ : ∃ m, k = m + 1 := ⟨k - 1, by omega⟩
    simp only [fn_impl_degreesOf.l3, mxS]
    rw [ltI_t (by rw [ilen_eq]; omega), br_t, okIx_t (by omega) (by rw [ilen_eq]; omega), br_t, nat_cast, expo_f, Option.bind_some, okSl_t (by omega) (by rw [inat_eq]; omega), br_t]
    refine (deg_l7_1 n p a (pw (rd T4 p i) 0) 0 0 1 (ilen p) (i : Int) _ hn).trans ?_
    rw [add_one i (by omega)]
    exact ih k (i + 1) _ (by omega) (by omega) (by omega)
theorem deg_l3_2 {R : Type} (n : Nat) (p : List Tm) (K0 : List Int → Option R) (hl : p.length ≤ 1000000) (hn : 4 < n) : ∀ (d k i : Nat) (a b : Int), p.length - i = d → i ≤ p.length → d < k →
    fn_impl_degreesOf.l3 n k [a, b] p 2 (ilen p) (i : Int) K0 = K0 [mxS p 0 d i a, mxS p 1 d i b] := by
  intro d
  induction d with
  | zero =>
    intro k i a b hd hi hk
    obtain ⟨k, rfl⟩ : ∃ m, k = m + 1 := ⟨k - 1, by omega⟩
    simp only [fn_impl_degreesOf.l3, mxS]
    rw [ltI_f (by rw [ilen_eq]; omega), br_f]
  | succ d ih =>
    intro k i a b hd hi hk
    obtain ⟨k, rfl⟩ : ∃ m, k = m + 1 := ⟨k - 1, by omega⟩
    simp only [fn_impl_degreesOf.l3, mxS]
    rw [ltI_t (by rw [ilen_eq]; omega), br_t, okIx_t (by omega) (by rw [ilen_eq]; omega), br_t, nat_cast, expo_f, Option.bind_some, okSl_t (by omega) (by rw [inat_eq]; omega), br_t]
    refine (deg_l7_2 n p a b (pw (rd T4 p i) 0) (pw (rd T4 p i) 1) 2 (ilen p) (i : Int) _ hn).trans ?_
    rw [add_one i (by omega)]
    exact ih k (i + 1) _ _ (by omega) (by omega) (by omega)
theorem deg_l3_3 {R : Type} (n : Nat) (p : List Tm) (K0 : List Int → Option R) (hl : p.length ≤ 1000000) (hn : 4 < n) : ∀ (d k i : Nat) (a b c : Int), p.length - i = d → i ≤ p.length → d < k →
    fn_impl_degreesOf.l3 n k [a, b, c] p 3 (ilen p) (i : Int) K0 = K0 [mxS p 0 d i a, mxS p 1 d i b, mxS p 2 d i c] := by
  intro d
  induction d with
  | zero =>
    intro k i a b c hd hi hk
    obtain ⟨k, rfl⟩ : ∃ m, k = m + 1 := ⟨k - 1, by omega⟩
    simp only [fn_impl_degreesOf.l3, mxS]
    rw [ltI_f (by rw [ilen_eq]; omega), br_f]
  | succ d ih =>
    intro k i a b c hd hi hk
    obtain ⟨k, rfl⟩ : ∃ m, k = m + 1 := ⟨k - 1, by omega⟩
    simp only [fn_impl_degreesOf.l3, mxS]
    rw [ltI_t (by rw [ilen_eq]; omega), br_t, okIx_t (by omega) (by rw [ilen_eq]; omega), br_t, nat_cast, expo_f, Option.bind_some, okSl_t (by omega) (by rw [inat_eq]; omega), br_t]
    refine (deg_l7_3 n p a b c (pw (rd T4 p i) 0) (pw (rd T4 p i) 1) (pw (rd T4 p i) 2) 3 (ilen p) (i : Int) _ hn).trans ?_
    rw [add_one i (by omega)]
    exact ih k (i + 1) _ _ _ (by omega) (by omega) (by omega)
theorem degreesOf_f (n : Nat) (p : List Tm) (s : Nat) (hl : p.length ≤ 1000000) (hn : 1000001 < n) (h1 : 1 ≤ s) (h3 : s ≤ 3) : fn_impl_degreesOf.f n p (s : Int) = some (degL p s) := by
  unfold fn_impl_degreesOf.f
  rw [okMake_t (by omega) (by omega) (by omega), br_t]
  have h : s = 1 ∨ s = 2 ∨ s = 3 := by omega
  rcases h with rfl | rfl | rfl
  · exact deg_l3_1 n p _ hl (by omega) p.length n 0 0 (by omega) (by omega) (by omega)
  · exact deg_l3_2 n p _ hl (by omega) p.length n 0 0 0 (by omega) (by omega) (by omega)
  · exact deg_l3_3 n p _ hl (by omega) p.length n 0 0 0 0 (by omega) (by omega) (by omega)
/-- The degrees of all three unknowns; 0 from number s on. -/
def degE (p : List Tm) : Nat → List Int
  | 0 => [0, 0, 0]
  | 1 => [dgE p 0, 0, 0]
  | 2 => [dgE p 0, dgE p 1, 0]
  | _ => [dgE p 0, dgE p 1, dgE p 2]
theorem set_degE (p : List Tm) (j : Nat) (hj : j ≤ 2) : setL (degE p j) j (dgE p j) = degE p (j + 1) := by
  have h : j = 0 ∨ j = 1 ∨ j = 2 := by omega
  rcases h with rfl | rfl | rfl <;> rfl
theorem degE_len (p : List Tm) (j : Nat) : (degE p j).length = 3 := by
  match j with
  | 0 => rfl
  | 1 => rfl
  | 2 => rfl
  | _ + 3 => rfl
theorem beDeg_l {R : Type} (n : Nat) (p : List Tm) (l h : List Int) (K0 : List Int → Option R) (hp : p.length ≤ 1000000) (hn : 1000001 < n) (hl : l.length ≤ 3) (hh : h.length = l.length) (hlt : ∀ j, j < l.length → ∃ x y : Int, rd I64 l j = x ∧ rd I64 h j = y ∧ -2048 ≤ x ∧ x < y ∧ y ≤ 2048) :
    ∀ (d k i : Nat), l.length - i = d → i ≤ l.length → d < k → fn_spec_beDegrees.l3 n k p l h (degE p i) (ilen l) (i : Int) K0 = K0 (degE p l.length) := by
  intro d
  induction d with
  | zero =>
    intro k i hd hi hk
    obtain ⟨k, rfl⟩ : ∃ m, k = m + 1 := ⟨k - 1, by omega⟩
    obtain rfl : i = l.length := by omega
    simp only [fn_spec_beDegrees.l3]
    rw [ltI_f (by rw [ilen_eq]; omega), br_f]
  | succ d ih =>
    intro k i hd hi hk
    obtain ⟨k, rfl⟩ : ∃ m, k = m + 1 := ⟨k - 1, by omega⟩
    obtain ⟨x, y, e1, e2, _, e3, _⟩ := hlt i (by omega)
    simp only [fn_spec_beDegrees.l3]
    rw [ltI_t (by rw [ilen_eq]; omega), br_t, okIx_t (n := ilen h) (by omega) (by rw [ilen_eq]; omega), br_t, okIx_t (n := ilen l) (by omega) (by rw [ilen_eq]; omega), br_t, nat_cast]
    have hb : ltI (rd (.int .i64) l i) (rd (.int .i64) h i) = true := by
      have e1' : rd (.int .i64) l i = x := e1
      have e2' : rd (.int .i64) h i = y := e2
      rw [e1', e2']
      exact ltI_t e3
    rw [hb, br_t, degIn_f n p i (by omega) hp hn, Option.bind_some, most_f, Option.bind_some, okIx_t (by omega) (by rw [ilen_eq, degE_len]; omega), br_t, dgE_eq, set_degE p i (by omega), add_one i (by omega)]
    exact ih k (i + 1) (by omega) (by omega) (by omega)
theorem beDegrees_f (n : Nat) (p : List Tm) (b : Bx) (hp : p.length ≤ 1000000) (hn : 1000001 < n) (hb : boxB b = true) : fn_spec_beDegrees.f n p b.2.1 b.2.2 = some (degE p b.2.1.length) := by
  obtain ⟨w1, w2, w3, w4⟩ := boxB_of hb
  unfold fn_spec_beDegrees.f
  exact beDeg_l n p b.2.1 b.2.2 _ hp hn (by omega) w3 w4 b.2.1.length n 0 (by omega) (by omega) (by omega)
theorem degE_pre (p : List Tm) (s : Nat) (h1 : 1 ≤ s) (h3 : s ≤ 3) : preL (degE p s) s = degL p s := by
  have h : s = 1 ∨ s = 2 ∨ s = 3 := by omega
  rcases h with rfl | rfl | rfl <;> rfl
def dgS (p : List Tm) (b : Bx) : List Int × Bool := match askB p b with
  | true => (degL p b.2.1.length, true)
  | false => ([], false)
theorem dgS_len (p : List Tm) (b : Bx) : (dgS p b).1.length ≤ 1000000 := by
  unfold dgS
  cases askB p b
  · simp
  · show (degL p b.2.1.length).length ≤ 1000000
    unfold degL
    split <;> simp
end
end Go.Proofs.Ytpfjneaoankllaa.Z

/- Single polynomials shifted: both sides agree. -/
import Derived.Test.YtipjdipahebnbaaP2
set_option linter.unusedVariables false
set_option linter.unusedSimpArgs false
set_option maxRecDepth 100000
namespace Go.Proofs.Ytipjdipahebnbaa.Z
open Go.Proofs.Ytipjdipahebnbaa.Ev
noncomputable section
def InR (a : Int) : Prop := -9223372036854775808 ≤ a ∧ a ≤ 9223372036854775807
def AllR (l : List Int) : Prop := ∀ a ∈ l, InR a
theorem wrap_inR (x : Int) : InR (IntKind.i64.wrap x) := by
  unfold InR
  rw [IntKind.wrap_i64]
  omega
theorem add_inR (x y : Int) : InR (add .i64 x y) := wrap_inR _
theorem add_z {x : Int} (h : InR x) : add .i64 x 0 = x := by
  unfold InR at h
  rw [add_in (by omega) (by omega), Int.add_zero]
theorem z_add {x : Int} (h : InR x) : add .i64 0 x = x := by
  unfold InR at h
  rw [add_in (by omega) (by omega), Int.zero_add]
theorem mul_one' {x : Int} (h : InR x) : mul .i64 x 1 = x := by
  unfold InR at h
  rw [mul_in (by omega) (by omega), Int.mul_one]
theorem z_mul (x : Int) : mul .i64 0 x = 0 := by rw [mul_in (by omega) (by omega), Int.zero_mul]
def upd (b : Int) (z : List Int) (i : Nat) (a : Int) : List Int :=
  setL (setL z i (add .i64 (rd I64 z i) (mul .i64 a b))) (i + 1) (add .i64 (rd I64 (setL z i (add .i64 (rd I64 z i) (mul .i64 a b))) (i + 1)) a)
def pass (b : Int) : List Int → List Int → Nat → List Int
  | z, [], _ => z
  | z, a :: r, i => pass b (upd b z i a) r (i + 1)
theorem setL_len (z : List Int) (i : Nat) (x : Int) : (setL z i x).length = z.length := by simp [setL]
theorem upd_len (b : Int) (z : List Int) (i : Nat) (a : Int) : (upd b z i a).length = z.length := by simp [upd, setL]
theorem pass_len (b : Int) : ∀ (xs z : List Int) (i : Nat), (pass b z xs i).length = z.length
  | [], z, i => rfl
  | a :: r, z, i => by rw [pass, pass_len b r, upd_len]
theorem setL_inR {z : List Int} {i : Nat} {x : Int} (h : AllR z) (hx : InR x) : AllR (setL z i x) := fun a ha => by
  rcases List.mem_or_eq_of_mem_set ha with h1 | h1
  · exact h a h1
  · rw [h1]; exact hx
theorem upd_inR {b : Int} {z : List Int} {i : Nat} {a : Int} (h : AllR z) : AllR (upd b z i a) := setL_inR (setL_inR h (add_inR _ _)) (add_inR _ _)
theorem pass_inR (b : Int) : ∀ (xs z : List Int) (i : Nat), AllR z → AllR (pass b z xs i)
  | [], z, i, h => h
  | a :: r, z, i, h => pass_inR b r _ _ (upd_inR h)
theorem rd_app (z t : List Int) (i : Nat) (h : i < z.length) : rd I64 (z ++ t) i = rd I64 z i := by
  rw [rd_at I64 (z ++ t) i (by simp; omega), rd_at I64 z i h, List.getElem_append_left h]
theorem setL_app (z t : List Int) (i : Nat) (x : Int) (h : i < z.length) : setL (z ++ t) i x = setL z i x ++ t := by
  unfold setL
  exact List.set_append_left i x h
theorem upd_app (b : Int) (z t : List Int) (i : Nat) (a : Int) (h : i + 1 < z.length) : upd b (z ++ t) i a = upd b z i a ++ t := by
  unfold upd
  rw [rd_app z t i (by omega), setL_app z t i _ (by omega), rd_app _ t (i + 1) (by rw [setL_len]; omega), setL_app _ t (i + 1) _ (by rw [setL_len]; omega)]
theorem pass_app (b : Int) (t : List Int) : ∀ (xs z : List Int) (i : Nat), i + xs.length + 1 ≤ z.length → pass b (z ++ t) xs i = pass b z xs i ++ t
  | [], z, i, h => rfl
  | a :: r, z, i, h => by
    simp only [List.length_cons] at h
    rw [pass, pass, upd_app b z t i a (by omega), pass_app b t r _ _ (by rw [upd_len]; omega)]
theorem set_rd (z : List Int) (i : Nat) (h : i < z.length) : setL z i (rd I64 z i) = z := by
  rw [rd_at I64 z i h]
  unfold setL
  exact List.set_getElem_self h
theorem rd_inR {z : List Int} (h : AllR z) (i : Nat) (hi : i < z.length) : InR (rd I64 z i) := by
  rw [rd_at I64 z i hi]
  exact h _ (List.getElem_mem hi)
theorem upd_zero (b : Int) (z : List Int) (i : Nat) (h : AllR z) (hi : i + 1 < z.length) : upd b z i 0 = z := by
  unfold upd
  rw [z_mul, add_z (rd_inR h i (by omega)), set_rd z i (by omega), add_z (rd_inR h (i + 1) hi), set_rd z (i + 1) hi]
theorem pass_zeros (b : Int) (z : List Int) (h : AllR z) : ∀ (r i : Nat), i + r + 1 ≤ z.length → pass b z (List.replicate r 0) i = z
  | 0, i, _ => rfl
  | r + 1, i, hi => by rw [List.replicate_succ, pass, upd_zero b z i h (by omega), pass_zeros b z h r (i + 1) (by omega)]
theorem pass_xs (b : Int) : ∀ (xs ys z : List Int) (i : Nat), pass b z (xs ++ ys) i = pass b (pass b z xs i) ys (i + xs.length)
  | [], ys, z, i => rfl
  | a :: r, ys, z, i => by
    rw [List.cons_append, pass, pass, pass_xs b r, List.length_cons]
    congr 1
    omega
def Pm (xs : List Int) (b : Int) : List Int := pass b (repL (xs.length + 1) 0) xs 0
theorem rep_inR (m : Nat) : AllR (repL m (0 : Int)) := fun a ha => by
  have : a = 0 := List.eq_of_mem_replicate ha
  subst this
  unfold InR
  omega
theorem rep_len (m : Nat) : (repL m (0 : Int)).length = m := by simp [repL]
theorem Pm_len (xs : List Int) (b : Int) : (Pm xs b).length = xs.length + 1 := by rw [Pm, pass_len, rep_len]
theorem Pm_inR (xs : List Int) (b : Int) : AllR (Pm xs b) := pass_inR b xs _ _ (rep_inR _)
theorem rep_add (m r : Nat) : repL (m + r) (0 : Int) = repL m 0 ++ List.replicate r 0 := by unfold repL; rw [List.replicate_append_replicate]
theorem Pm_zeros (ys : List Int) (r : Nat) (b : Int) : Pm (ys ++ List.replicate r 0) b = Pm ys b ++ List.replicate r 0 := by
  unfold Pm
  rw [pass_xs, List.length_append, List.length_replicate, show ys.length + r + 1 = (ys.length + 1) + r from by omega, rep_add, pass_app b _ ys _ _ (by rw [rep_len]; omega)]
  refine pass_zeros b _ ?_ r _ (by rw [List.length_append, pass_len, rep_len, List.length_replicate]; omega)
  intro a ha
  rcases List.mem_append.1 ha with h | h
  · exact pass_inR b ys _ _ (rep_inR _) a h
  · exact rep_inR r a h
theorem mul_l6 {R : Type} (n k : Nat) (x5 x7 out : List Int) (b a : Int) (i : Nat) (x11 x12 : Int) (K0 : List Int → List Int → List Int → Int → Int → Option R) (hi : i + 1 < out.length) (ho : out.length ≤ 1000000) (ha : InR a) :
    fn_impl_multiplySingle.l6 n (k + 3) x5 out x7 [b, 1] (i : Int) a x11 x12 (ilen [b, 1]) 0 K0 = K0 x5 (upd b out i a) x7 x11 x12 := by
  have e2 : ilen [b, (1 : Int)] = 2 := rfl
  have a0 : add .i64 (i : Int) 0 = (i : Int) := by rw [add_in (by omega) (by omega), Int.add_zero]
  have a1 : add .i64 0 1 = 1 := rfl
  have a2 : add .i64 1 1 = 2 := rfl
  have n0 : nat 0 = 0 := rfl
  have n1 : nat 1 = 1 := rfl
  have r0 : rd I64 [b, 1] 0 = b := rfl
  have r1 : rd I64 [b, 1] 1 = 1 := rfl
  rw [e2]
  simp only [fn_impl_multiplySingle.l6]
  rw [e2, ltI_t (by omega), br_t, okIx_t (by omega) (by omega), br_t, a0, okIx_t (by omega) (by rw [ilen_eq]; omega), br_t, br_t, nat_cast, a1, n0, r0]
  rw [ltI_t (by omega), br_t, okIx_t (by omega) (by omega), br_t, add_one i (by omega), okIx_t (by omega) (by rw [ilen_eq, setL_len]; omega), br_t, br_t, nat_cast, a2, n1, r1]
  rw [ltI_f (by omega), br_f, mul_one' ha]
  rfl
theorem mul_l3 {R : Type} (n : Nat) (p : List Int) (b : Int) (K0 : List Int → Option R) (hp : p.length ≤ 1000) (hr : AllR p) (hn : 1000001 < n) : ∀ (d k j : Nat) (out : List Int), p.length - j = d → j ≤ p.length → d < k → out.length = p.length + 2 →
    fn_impl_multiplySingle.l3 n k [b, 1] out p (ilen p) (j : Int) K0 = K0 (pass b out (p.drop j) j) := by
  intro d
  induction d with
  | zero =>
    intro k j z hd hj hk hz
    obtain ⟨k, rfl⟩ : ∃ m, k = m + 1 := ⟨k - 1, by omega⟩
    obtain rfl : j = p.length := by omega
    simp only [fn_impl_multiplySingle.l3]
    rw [ltI_f (by rw [ilen_eq]; omega), br_f, List.drop_length, pass]
  | succ d ih =>
    intro k j z hd hj hk hz
    obtain ⟨k, rfl⟩ : ∃ m, k = m + 1 := ⟨k - 1, by omega⟩
    obtain ⟨q, rfl⟩ : ∃ q, n = q + 3 := ⟨n - 3, by omega⟩
    have hlt : j < p.length := by omega
    simp only [fn_impl_multiplySingle.l3]
    rw [ltI_t (by rw [ilen_eq]; omega), br_t, okIx_t (by omega) (by rw [ilen_eq]; omega), br_t, nat_cast, rd_at I64 p j hlt]
    rw [mul_l6 (q + 3) q [b, 1] p z b p[j] j _ _ _ (by omega) (by omega) (hr _ (List.getElem_mem hlt))]
    rw [add_one j (by omega), List.drop_eq_getElem_cons hlt, pass]
    exact ih k (j + 1) _ (by omega) (by omega) (by omega) (by rw [upd_len]; exact hz)
theorem mult_f (n : Nat) (p : List Int) (b : Int) (hp : p.length ≤ 1000) (hr : AllR p) (hn : 1000001 < n) : fn_impl_multiplySingle.f n p [b, 1] = some (strip (Pm p b)) := by
  unfold fn_impl_multiplySingle.f
  have e2 : ilen [b, (1 : Int)] = 2 := rfl
  rw [e2, ilen_eq, add_in (by omega) (by omega), okMake_t (by omega) (by omega) (by omega), br_t]
  have e : nat ((p.length : Int) + 2) = p.length + 2 := by unfold nat; omega
  rw [e]
  refine (mul_l3 n p b _ hp hr hn p.length n 0 _ (by omega) (by omega) (by omega) (rep_len _)).trans ?_
  have h1 : pass b (repL (p.length + 2) 0) (p.drop 0) 0 = Pm p b ++ [0] := by
    rw [List.drop_zero, show p.length + 2 = (p.length + 1) + 1 from rfl, rep_add, pass_app b _ p _ _ (by rw [rep_len]; omega)]
    rfl
  rw [h1, stripped_f n _ (by simp [Pm_len]; omega) hn, strip_zero]
  rfl
/-- A number added in front. -/
def addp : List Int → Int → List Int
  | [], p => [add .i64 0 p]
  | a :: r, p => add .i64 a p :: r
theorem addp_inR {z : List Int} (h : AllR z) (p : Int) : AllR (addp z p) := by
  cases z with
  | nil => intro a ha; simp [addp] at ha; rw [ha]; exact add_inR _ _
  | cons a r =>
    intro x hx
    simp only [addp, List.mem_cons] at hx
    rcases hx with rfl | hx
    · exact add_inR _ _
    · exact h x (List.mem_cons_of_mem _ hx)
theorem as_tail {R : Type} (n : Nat) (u : List Int) (p : Int) (K0 : List Int → Option R) (hu : u.length ≤ 1000) (hr : AllR u) : ∀ (d k j : Nat) (out : List Int), u.length - j = d → 1 ≤ j → j ≤ u.length → d < k → out.length = u.length → (∀ m, j ≤ m → m < out.length → rd I64 out m = 0) →
    fn_impl_addSingle.l3 n k u [p] out (u.length : Int) (j : Int) K0 = K0 (out.take j ++ u.drop j) := by
  intro d
  induction d with
  | zero =>
    intro k j out hd h1 hj hk ho hz
    obtain ⟨k, rfl⟩ : ∃ m, k = m + 1 := ⟨k - 1, by omega⟩
    obtain rfl : j = u.length := by omega
    simp only [fn_impl_addSingle.l3]
    rw [ltI_f (by omega), br_f, List.drop_length, List.append_nil, ← ho, List.take_length]
  | succ d ih =>
    intro k j out hd h1 hj hk ho hz
    obtain ⟨k, rfl⟩ : ∃ m, k = m + 1 := ⟨k - 1, by omega⟩
    have hlt : j < u.length := by omega
    have e1 : ilen [p] = 1 := rfl
    simp only [fn_impl_addSingle.l3]
    rw [ltI_t (by omega), br_t, ltI_t (by rw [ilen_eq]; omega), br_t, okIx_t (by omega) (by rw [ilen_eq]; omega), br_t, okIx_t (by omega) (by rw [ilen_eq]; omega), br_t, br_t, e1, ltI_f (by omega), br_f, nat_cast, add_one j (by omega), hz j (by omega) (by omega), z_add (rd_inR hr j hlt)]
    rw [ih k (j + 1) _ (by omega) (by omega) (by omega) (by omega) (by rw [setL_len]; exact ho) (fun m hm hm2 => by
      rw [setL_len] at hm2
      rw [rd_at I64 _ m (by rw [setL_len]; exact hm2)]
      have := hz m (by omega) hm2
      rw [rd_at I64 _ m hm2] at this
      unfold setL
      rw [List.getElem_set_ne (by omega)]
      exact this)]
    unfold setL
    rw [take_set _ _ _ (by omega), rd_at I64 u j hlt, List.drop_eq_getElem_cons hlt, List.append_assoc]
    rfl
theorem adds_f (n : Nat) (u : List Int) (p : Int) (hu : u.length ≤ 1000) (hr : AllR u) (hn : 1000001 < n) : fn_impl_addSingle.f n u [p] = some (strip (addp u p)) := by
  obtain ⟨k, rfl⟩ : ∃ k, n = k + 2 := ⟨n - 2, by omega⟩
  unfold fn_impl_addSingle.f
  have e1 : ilen [p] = 1 := rfl
  have n0 : nat 0 = 0 := rfl
  have a1 : add .i64 0 1 = 1 := rfl
  have rp : rd I64 [p] 0 = p := rfl
  cases u with
  | nil =>
    have e0 : mx (ilen ([] : List Int)) (ilen [p]) = 1 := rfl
    have e2 : ilen ([] : List Int) = 0 := rfl
    have r1 : repL (nat 1) (0 : Int) = [0] := rfl
    have e3 : ilen [(0 : Int)] = 1 := rfl
    have rz : rd I64 [0] 0 = (0 : Int) := rfl
    rw [e0, okMake_t (by omega) (by omega) (by omega), br_t, r1, e3]
    simp only [fn_impl_addSingle.l3]
    rw [ltI_t (by omega), br_t, e2, ltI_f (by omega), br_f, e1, ltI_t (by omega), br_t, okIx_t (by omega) (by rw [e3]; omega), br_t, okIx_t (by omega) (by omega), br_t, br_t, n0, a1, rp, rz]
    rw [ltI_f (by omega), br_f, stripped_f _ _ (by rw [setL_len]; simp) hn]
    rfl
  | cons a r =>
    have hlen : (a :: r).length = r.length + 1 := rfl
    have e0 : mx (ilen (a :: r)) (ilen [p]) = ((r.length + 1 : Nat) : Int) := by
      rw [e1, ilen_eq, hlen]
      unfold mx
      split <;> omega
    rw [e0, okMake_t (by omega) (by simp only [List.length_cons] at hu; omega) (by simp only [List.length_cons] at hu; omega), br_t, nat_cast]
    have e3 : ilen (repL (r.length + 1) (0 : Int)) = ((r.length + 1 : Nat) : Int) := by rw [ilen_eq, rep_len]
    rw [e3]
    have r1 : repL (r.length + 1) (0 : Int) = 0 :: List.replicate r.length 0 := rfl
    rw [r1]
    have l0 : ∀ x : Int, ilen (x :: List.replicate r.length (0 : Int)) = ((r.length + 1 : Nat) : Int) := fun x => by rw [ilen_eq]; simp
    have l1 : ilen (a :: r) = ((r.length + 1 : Nat) : Int) := rfl
    have rz : ∀ x : Int, rd I64 (x :: List.replicate r.length (0 : Int)) 0 = x := fun x => rfl
    have ra : rd I64 (a :: r) 0 = a := rfl
    have s0 : ∀ x y : Int, setL (x :: List.replicate r.length (0 : Int)) 0 y = y :: List.replicate r.length 0 := fun x y => rfl
    rw [fn_impl_addSingle.l3]
    rw [ltI_t (by omega), br_t, l1, ltI_t (by omega), br_t, l0, okIx_t (by omega) (by omega), br_t, br_t, br_t, e1, ltI_t (by omega), br_t, n0, rz, ra, z_add (hr a (List.mem_cons_self ..)), s0, l0, okIx_t (by omega) (by omega), br_t, okIx_t (by omega) (by omega), br_t, br_t, rz, rp, s0, a1]
    have := as_tail (k + 2) (a :: r) p (fun z5 => (fn_impl_stripped.f (k + 2) z5).bind fun y6 => some y6) hu hr r.length (k + 1) 1 (add .i64 a p :: List.replicate r.length 0) (by simp) (by omega) (by simp) (by simp only [List.length_cons] at hu; omega) (by simp) (fun m h1 h2 => by
      rw [rd_at I64 _ m h2]
      obtain ⟨m, rfl⟩ : ∃ q, m = q + 1 := ⟨m - 1, by omega⟩
      simp)
    refine this.trans ?_
    rw [stripped_f _ _ (by simp; simp only [List.length_cons] at hu; omega) hn]
    rfl
theorem addp_strip (u : List Int) (m : Nat) (p : Int) (h : u ≠ [] ∨ 0 < m) : strip (addp (u ++ List.replicate m 0) p) = strip (addp u p) := by
  cases u with
  | nil =>
    obtain ⟨m, rfl⟩ : ∃ q, m = q + 1 := ⟨m - 1, by rcases h with h | h; exact absurd rfl h; omega⟩
    rw [List.nil_append, List.replicate_succ, addp, addp]
    exact strip_zeros [add .i64 0 p] m
  | cons a r => exact strip_zeros (add .i64 a p :: r) m
theorem strip_step (xs : List Int) (b p : Int) : strip (addp (Pm xs b) p) = strip (addp (strip (Pm (strip xs) b)) p) := by
  obtain ⟨r, hr⟩ := strip_split _ xs rfl
  obtain ⟨q, hq⟩ := strip_split _ (Pm (strip xs) b) rfl
  have h1 : Pm xs b = strip (Pm (strip xs) b) ++ List.replicate (q + r) 0 := by
    rw [← List.replicate_append_replicate, ← List.append_assoc, ← hq, ← Pm_zeros, ← hr]
  rw [h1]
  refine addp_strip _ _ _ ?_
  have hl := congrArg List.length hq
  rw [Pm_len] at hl
  simp only [List.length_append, List.length_replicate] at hl
  by_cases h0 : strip (Pm (strip xs) b) = []
  · right
    rw [h0] at hl
    simp at hl
    omega
  · exact .inl h0
theorem strip_inR {l : List Int} (h : AllR l) : AllR (strip l) := fun a ha => by
  obtain ⟨r, hr⟩ := strip_split _ l rfl
  exact h a (by rw [hr]; exact List.mem_append_left _ ha)
/-- The coefficients at x + b. -/
def go (p : List Int) (b : Int) : Nat → List Int → List Int
  | 0, xs => xs
  | d + 1, xs => go p b d (addp (Pm xs b) (rd I64 p d))
theorem addp_len (z : List Int) (p : Int) (h : z ≠ []) : (addp z p).length = z.length := by
  cases z with
  | nil => exact absurd rfl h
  | cons a r => rfl
theorem Pm_ne (xs : List Int) (b : Int) : Pm xs b ≠ [] := fun h => by
  have := Pm_len xs b
  rw [h] at this
  simp at this
theorem go_len (p : List Int) (b : Int) : ∀ (d : Nat) (xs : List Int), (go p b d xs).length = xs.length + d
  | 0, xs => rfl
  | d + 1, xs => by rw [go, go_len p b d, addp_len _ _ (Pm_ne _ _), Pm_len]; omega
theorem setL_addp (z : List Int) (p : Int) (h : z ≠ []) : setL z 0 (add .i64 (rd I64 z 0) p) = addp z p := by
  cases z with
  | nil => exact absurd rfl h
  | cons a r => rfl
def shS (p : List Int) (b : Int) : List Int × Bool := match smallB p && inB b (-8) 8 with
  | true => (match singB (strip (go p b p.length [])) with | true => (strip (go p b p.length []), true) | false => ([], false))
  | false => ([], false)
theorem shS_len (p : List Int) (b : Int) (hl : p.length ≤ 1000000) : (shS p b).1.length ≤ 1000000 := by
  unfold shS
  split
  · split
    · have hgl := go_len p b p.length []
      have hsl := strip_le (go p b p.length [])
      simp only [List.length_nil] at hgl
      show (strip _).length ≤ _
      omega
    · simp
  · simp
end
end Go.Proofs.Ytipjdipahebnbaa.Z

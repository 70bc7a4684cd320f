/- Polynomials over an interval: sums of products. -/
import Derived.Test.YtipjdipahebnbaaP5
set_option linter.unusedVariables false
set_option linter.unusedSimpArgs false
set_option maxRecDepth 100000
namespace Go.Proofs.Ytipjdipahebnbaa.Z
open Go.Proofs.Ytipjdipahebnbaa.Ev
noncomputable section
def one (m : Nat) : Int := match m with
  | 0 => 1
  | _ + 1 => 0
def mulL (x y : Int) (f : Nat → Int) (m : Nat) : Int := f m * x + shf f m * y
def itM (x y : Int) : Nat → (Nat → Int) → Nat → Int
  | 0, f => f
  | d + 1, f => itM x y d (mulL x y f)
theorem shf_congr {f g : Nat → Int} (h : ∀ m, eqm (f m) (g m)) : ∀ m, eqm (shf f m) (shf g m)
  | 0 => eqm_refl _
  | m + 1 => h m
theorem cv_congr {f g : Nat → Int} (h : ∀ m, eqm (f m) (g m)) : ∀ (p : List Int) (m : Nat), eqm (cv p f m) (cv p g m)
  | [], m => eqm_refl _
  | a :: r, m => ((eqm_refl a).mul (h m)).add (shf_congr (cv_congr h r) m)
theorem mulL_congr {x y : Int} {f g : Nat → Int} (h : ∀ m, eqm (f m) (g m)) (m : Nat) : eqm (mulL x y f m) (mulL x y g m) := ((h m).mul (eqm_refl x)).add ((shf_congr h m).mul (eqm_refl y))
theorem itM_congr {x y : Int} : ∀ (d : Nat) {f g : Nat → Int}, (∀ m, eqm (f m) (g m)) → ∀ m, eqm (itM x y d f m) (itM x y d g m)
  | 0, _, _, h, m => h m
  | d + 1, _, _, h, m => itM_congr d (mulL_congr h) m
theorem itM_succ (x y : Int) : ∀ (d : Nat) (f : Nat → Int), itM x y (d + 1) f = mulL x y (itM x y d f)
  | 0, f => rfl
  | d + 1, f => itM_succ x y d (mulL x y f)
theorem cv_two (x y : Int) : ∀ (p : List Int) (m : Nat), cv p (cf [x, y]) m = mulL x y (cf p) m
  | [], m => by cases m <;> simp [cv, mulL, cf_nil, shf]
  | a :: r, 0 => by simp [cv, mulL, shf, cf_zero]
  | a :: r, 1 => by
    show a * y + cv r (cf [x, y]) 0 = cf r 0 * x + a * y
    rw [cv_two x y r 0]
    show a * y + (cf r 0 * x + 0 * y) = _
    rw [Int.zero_mul, Int.add_zero, Int.add_comm]
  | a :: r, m + 2 => by
    show a * 0 + cv r (cf [x, y]) (m + 1) = cf r (m + 1) * x + cf r m * y
    rw [cv_two x y r (m + 1), Int.mul_zero, Int.zero_add]
    rfl
theorem cv_single (c : Int) : ∀ (p : List Int) (m : Nat), cv p (cf [c]) m = cf p m * c
  | [], m => by simp [cv, cf_nil]
  | a :: r, 0 => by simp [cv, shf, cf_zero]
  | a :: r, m + 1 => by
    show a * 0 + cv r (cf [c]) m = cf r m * c
    rw [cv_single c r m, Int.mul_zero, Int.zero_add]
theorem cv_one : ∀ (p : List Int) (m : Nat), cv p one m = cf p m
  | [], m => by simp [cv, cf_nil]
  | a :: r, 0 => by simp [cv, shf, cf_zero, one]
  | a :: r, m + 1 => by
    show a * 0 + cv r one m = cf r m
    rw [cv_one r m, Int.mul_zero, Int.zero_add]
theorem shf_mulL (x y : Int) (f : Nat → Int) (m : Nat) : shf (mulL x y f) m = mulL x y (shf f) m := by
  cases m with
  | zero => simp [shf, mulL]
  | succ m => rfl
theorem cv_mulL (x y : Int) (f : Nat → Int) : ∀ (p : List Int), cv p (mulL x y f) = mulL x y (cv p f)
  | [] => by funext m; cases m <;> simp [cv, mulL, shf]
  | a :: r => by
    funext m
    have ih := cv_mulL x y f r
    show a * mulL x y f m + shf (cv r (mulL x y f)) m = mulL x y (cv (a :: r) f) m
    rw [ih, shf_mulL]
    have e : shf (cv (a :: r) f) m = a * shf f m + shf (shf (cv r f)) m := by
      cases m with
      | zero => simp [shf]
      | succ m => rfl
    show a * (f m * x + shf f m * y) + (shf (cv r f) m * x + shf (shf (cv r f)) m * y) = (a * f m + shf (cv r f) m) * x + shf (cv (a :: r) f) m * y
    rw [e]
    simp only [Int.add_mul, Int.mul_add, Int.mul_assoc]
    omega
theorem cv_itM (x y : Int) (p : List Int) : ∀ (d : Nat) (f : Nat → Int), cv p (itM x y d f) = itM x y d (cv p f)
  | 0, f => rfl
  | d + 1, f => by rw [itM, cv_itM x y p d, cv_mulL]; rfl
theorem mulL_scale (x y c : Int) (f : Nat → Int) : mulL x y (fun m => f m * c) = fun m => mulL x y f m * c := by
  funext m
  have e : shf (fun m => f m * c) m = shf f m * c := by cases m <;> simp [shf]
  show f m * c * x + shf (fun m => f m * c) m * y = (f m * x + shf f m * y) * c
  rw [e, Int.add_mul, Int.mul_right_comm, Int.mul_right_comm (shf f m)]
theorem itM_scale (x y c : Int) : ∀ (d : Nat) (f : Nat → Int), itM x y d (fun m => f m * c) = fun m => itM x y d f m * c
  | 0, f => rfl
  | d + 1, f => by rw [itM, mulL_scale, itM_scale x y c d]; rfl
/-- Sums of lists, place by place. -/
def upA (a b out : List Int) (j : Nat) : List Int :=
  let o1 := if j < a.length then setL out j (add .i64 (rd I64 out j) (rd I64 a j)) else out
  if j < b.length then setL o1 j (add .i64 (rd I64 o1 j) (rd I64 b j)) else o1
def adL (a b : List Int) : List Int → Nat → Nat → List Int
  | out, 0, _ => out
  | out, d + 1, j => adL a b (upA a b out j) d (j + 1)
theorem upA_len (a b out : List Int) (j : Nat) : (upA a b out j).length = out.length := by
  unfold upA; dsimp only; split <;> split <;> simp [setL]
theorem upA_inR {a b out : List Int} {j : Nat} (h : AllR out) : AllR (upA a b out j) := by
  unfold upA; dsimp only
  split <;> split
  · exact setL_inR (setL_inR h (add_inR _ _)) (add_inR _ _)
  · exact setL_inR h (add_inR _ _)
  · exact setL_inR h (add_inR _ _)
  · exact h
theorem adL_len (a b : List Int) : ∀ (d : Nat) (out : List Int) (j : Nat), (adL a b out d j).length = out.length
  | 0, out, j => rfl
  | d + 1, out, j => by rw [adL, adL_len a b d, upA_len]
theorem adL_inR (a b : List Int) : ∀ (d : Nat) (out : List Int) (j : Nat), AllR out → AllR (adL a b out d j)
  | 0, out, j, h => h
  | d + 1, out, j, h => adL_inR a b d _ _ (upA_inR h)
theorem cf_upA (a b out : List Int) (j m : Nat) (hj : j < out.length) : eqm (cf (upA a b out j) m) (cf out m + (if m = j then cf a j + cf b j else 0)) := by
  unfold upA
  dsimp only
  by_cases h1 : j < a.length
  · by_cases h2 : j < b.length
    · rw [if_pos h1, if_pos h2, cf_set _ _ _ _ (by rw [setL_len]; exact hj), rd_cf, rd_cf, rd_cf, rd_cf, cf_set _ _ _ _ hj, cf_set _ _ _ _ hj]
      by_cases h : m = j
      · subst h
        rw [if_pos rfl, if_pos rfl, if_pos rfl]
        refine (eqm_add _ _).trans (((eqm_add _ _).add (eqm_refl _)).trans ?_)
        rw [Int.add_assoc]; exact eqm_refl _
      · rw [if_neg h, if_neg h, if_neg h, Int.add_zero]; exact eqm_refl _
    · rw [if_pos h1, if_neg h2, cf_set _ _ _ _ hj, rd_cf, rd_cf, cf_out b j (by omega)]
      by_cases h : m = j
      · subst h
        rw [if_pos rfl, if_pos rfl, Int.add_zero]; exact eqm_add _ _
      · rw [if_neg h, if_neg h, Int.add_zero]; exact eqm_refl _
  · by_cases h2 : j < b.length
    · rw [if_neg h1, if_pos h2, cf_set _ _ _ _ hj, rd_cf, rd_cf, cf_out a j (by omega)]
      by_cases h : m = j
      · subst h
        rw [if_pos rfl, if_pos rfl, Int.zero_add]; exact eqm_add _ _
      · rw [if_neg h, if_neg h, Int.add_zero]; exact eqm_refl _
    · rw [if_neg h1, if_neg h2, cf_out a j (by omega), cf_out b j (by omega)]
      split <;> simp only [Int.add_zero] <;> exact eqm_refl _
theorem cf_adL (a b : List Int) : ∀ (d : Nat) (out : List Int) (j m : Nat), j + d ≤ out.length → eqm (cf (adL a b out d j) m) (cf out m + (if j ≤ m ∧ m < j + d then cf a m + cf b m else 0))
  | 0, out, j, m, h => by rw [adL, if_neg (by omega), Int.add_zero]; exact eqm_refl _
  | d + 1, out, j, m, h => by
    rw [adL]
    refine (cf_adL a b d _ (j + 1) m (by rw [upA_len]; omega)).trans ?_
    refine ((cf_upA a b out j m (by omega)).add (eqm_refl _)).trans ?_
    by_cases h1 : m = j
    · subst h1
      rw [if_pos rfl, if_neg (by omega), if_pos (by omega), Int.add_zero]; exact eqm_refl _
    · rw [if_neg h1, Int.add_zero]
      by_cases h2 : j + 1 ≤ m ∧ m < j + 1 + d
      · rw [if_pos h2, if_pos (by omega)]; exact eqm_refl _
      · rw [if_neg h2, if_neg (by omega)]; exact eqm_refl _
theorem addG_l3 {R : Type} (n : Nat) (a b : List Int) (L : Nat) (K0 : List Int → Option R) (hL : L ≤ 1000) : ∀ (d k j : Nat) (out : List Int), j + d = L → d < k → out.length = L →
    fn_impl_addSingle.l3 n k a b out (L : Int) (j : Int) K0 = K0 (adL a b out d j) := by
  intro d
  induction d with
  | zero =>
    intro k j out hd hk ho
    obtain ⟨k, rfl⟩ : ∃ m, k = m + 1 := ⟨k - 1, by omega⟩
    simp only [fn_impl_addSingle.l3]
    rw [ltI_f (x := (j : Int)) (y := (L : Int)) (by omega), br_f, adL]
  | succ d ih =>
    intro k j out hd hk ho
    obtain ⟨k, rfl⟩ : ∃ m, k = m + 1 := ⟨k - 1, by omega⟩
    have ix : ∀ z : List Int, z.length = L → okIx (j : Int) (ilen z) = true := fun z hz => okIx_t (by omega) (by rw [ilen_eq]; omega)
    have e : upA a b out j = (let o1 := if j < a.length then setL out j (add .i64 (rd I64 out j) (rd I64 a j)) else out; if j < b.length then setL o1 j (add .i64 (rd I64 o1 j) (rd I64 b j)) else o1) := rfl
    have next := ih k (j + 1) (upA a b out j) (by omega) (by omega) (by rw [upA_len]; exact ho)
    simp only [fn_impl_addSingle.l3]
    rw [ltI_t (x := (j : Int)) (y := (L : Int)) (by omega), br_t, ix out ho, add_one j (by omega), nat_cast, adL]
    by_cases h1 : j < a.length
    · rw [ltI_t (x := (j : Int)) (y := ilen a) (by rw [ilen_eq]; omega), br_t, br_t, okIx_t (i := (j : Int)) (n := ilen a) (by omega) (by rw [ilen_eq]; omega), br_t, br_t]
      by_cases h2 : j < b.length
      · rw [ltI_t (x := (j : Int)) (y := ilen b) (by rw [ilen_eq]; omega), br_t, ix _ (by rw [setL_len]; exact ho), br_t, okIx_t (i := (j : Int)) (n := ilen b) (by omega) (by rw [ilen_eq]; omega), br_t, br_t, ← next]
        congr 1
        rw [e]; dsimp only; rw [if_pos h1, if_pos h2]
      · rw [ltI_f (x := (j : Int)) (y := ilen b) (by rw [ilen_eq]; omega), br_f, ← next]
        congr 1
        rw [e]; dsimp only; rw [if_pos h1, if_neg h2]
    · rw [ltI_f (x := (j : Int)) (y := ilen a) (by rw [ilen_eq]; omega), br_f]
      by_cases h2 : j < b.length
      · rw [ltI_t (x := (j : Int)) (y := ilen b) (by rw [ilen_eq]; omega), br_t, br_t, okIx_t (i := (j : Int)) (n := ilen b) (by omega) (by rw [ilen_eq]; omega), br_t, br_t, ← next]
        congr 1
        rw [e]; dsimp only; rw [if_neg h1, if_pos h2]
      · rw [ltI_f (x := (j : Int)) (y := ilen b) (by rw [ilen_eq]; omega), br_f, ← next]
        congr 1
        rw [e]; dsimp only; rw [if_neg h1, if_neg h2]
theorem addG_f (n : Nat) (a b : List Int) (ha : a.length ≤ 1000) (hb : b.length ≤ 1000) (hn : 1000001 < n) : ∃ r, fn_impl_addSingle.f n a b = some r ∧ Good r (max a.length b.length) (fun m => cf a m + cf b m) := by
  have e0 : mx (ilen a) (ilen b) = ((max a.length b.length : Nat) : Int) := by
    rw [ilen_eq, ilen_eq]
    unfold mx
    split <;> omega
  have hL : max a.length b.length ≤ 1000 := by omega
  refine ⟨strip (adL a b (repL (max a.length b.length) 0) (max a.length b.length) 0), ?_, ?_, strip_inR (adL_inR a b _ _ _ (rep_inR _)), fun m => ?_⟩
  · unfold fn_impl_addSingle.f
    rw [e0, okMake_t (by omega) (by omega) (by omega), br_t, nat_cast]
    have e3 : ilen (repL (max a.length b.length) (0 : Int)) = ((max a.length b.length : Nat) : Int) := by rw [ilen_eq, rep_len]
    rw [e3]
    refine (addG_l3 n a b (max a.length b.length) _ hL (max a.length b.length) n 0 _ (by omega) (by omega) (rep_len _)).trans ?_
    rw [stripped_f n _ (by rw [adL_len, rep_len]; omega) hn]
    rfl
  · have := strip_le (adL a b (repL (max a.length b.length) 0) (max a.length b.length) 0)
    rw [adL_len, rep_len] at this
    exact this
  · rw [cf_strip]
    refine (cf_adL a b _ _ 0 m (by rw [rep_len]; omega)).trans ?_
    rw [cf_rep, Int.zero_add]
    by_cases h : m < max a.length b.length
    · rw [if_pos (by omega)]; exact eqm_refl _
    · rw [if_neg (by omega)]
      show eqm 0 (cf a m + cf b m)
      rw [cf_out a m (by omega), cf_out b m (by omega)]; exact eqm_refl _
theorem pow_l {R : Type} (n : Nat) (x y : Int) (E : Nat) (K0 : List Int → Option R) (hn : 1000001 < n) (hE : E ≤ 100) : ∀ (d k j : Nat) (out : List Int) (f : Nat → Int), j + d = E → d < k → out.length ≤ j + 1 → AllR out → (∀ m, eqm (cf out m) (f m)) →
    ∃ r, fn_impl_powerSingle.l3 n k [x, y] out (E : Int) (j : Int) K0 = K0 r ∧ Good r (E + 1) (itM x y d f) := by
  intro d
  induction d with
  | zero =>
    intro k j out f hd hk ho hr hf
    obtain ⟨k, rfl⟩ : ∃ m, k = m + 1 := ⟨k - 1, by omega⟩
    refine ⟨out, ?_, by omega, hr, hf⟩
    simp only [fn_impl_powerSingle.l3]
    rw [ltI_f (by omega), br_f]
  | succ d ih =>
    intro k j out f hd hk ho hr hf
    obtain ⟨k, rfl⟩ : ∃ m, k = m + 1 := ⟨k - 1, by omega⟩
    obtain ⟨r, h1, h2, h3, h4⟩ := mulG_f n out [x, y] (by omega) (by simp) hn
    simp only [fn_impl_powerSingle.l3]
    rw [ltI_t (by omega), br_t, h1, Option.bind_some, add_one j (by omega)]
    have h2 : r.length ≤ out.length + 2 - 1 := h2
    exact ih k (j + 1) r (mulL x y f) (by omega) (by omega) (by omega) h3 (fun m => by
      refine (h4 m).trans ?_
      rw [cv_two]
      exact mulL_congr hf m)
theorem pow_f (n : Nat) (x y : Int) (E : Nat) (hn : 1000001 < n) (hE : E ≤ 100) : ∃ r, fn_impl_powerSingle.f n [x, y] (E : Int) = some r ∧ Good r (E + 1) (itM x y E one) := by
  unfold fn_impl_powerSingle.f
  exact pow_l n x y E (fun z5 : List Int => some z5) hn hE E n 0 [1] one (by omega) (by omega) (by simp) (fun a ha => by
    have : a = 1 := by simpa using ha
    subst this; unfold InR; omega) (fun m => by cases m <;> exact eqm_refl _)
/-- The part of one coefficient. -/
def term (l h D c : Int) (N e m : Nat) : Int := itM D D (N - e) (itM l h e one) m * c
def sumT (l h D : Int) (p : List Int) (N m : Nat) : Nat → Nat → Int
  | 0, _ => 0
  | d + 1, e => term l h D (rd I64 p e) N e m + sumT l h D p N m d (e + 1)
theorem iOver_l {R : Type} (n : Nat) (p : List Int) (l h D : Int) (K0 : List Int → List Int → Option R) (hp1 : 1 ≤ p.length) (hp : p.length ≤ 6) (hn : 1000001 < n) : ∀ (d k e : Nat) (s : List Int) (f : Nat → Int), e + d = p.length → d < k → s.length ≤ p.length → AllR s → (∀ m, eqm (cf s m) (f m)) →
    ∃ r, fn_impl_overInterval.l5 n k p s p l h D (ilen p) (e : Int) K0 = K0 p r ∧ Good r p.length (fun m => f m + sumT l h D p (p.length - 1) m d e) := by
  intro d
  induction d with
  | zero =>
    intro k e s f hd hk hs hr hf
    obtain ⟨k, rfl⟩ : ∃ m, k = m + 1 := ⟨k - 1, by omega⟩
    refine ⟨s, ?_, hs, hr, fun m => by show eqm _ (f m + sumT l h D p (p.length - 1) m 0 e); rw [sumT, Int.add_zero]; exact hf m⟩
    simp only [fn_impl_overInterval.l5]
    rw [ltI_f (by rw [ilen_eq]; omega), br_f]
  | succ d ih =>
    intro k e s f hd hk hs hr hf
    obtain ⟨k, rfl⟩ : ∃ m, k = m + 1 := ⟨k - 1, by omega⟩
    have hlt : e < p.length := by omega
    obtain ⟨A, a1, a2, a3, a4⟩ := pow_f n l h e hn (by omega)
    obtain ⟨B, b1, b2, b3, b4⟩ := pow_f n D D (p.length - 1 - e) hn (by omega)
    obtain ⟨C, c1, c2, c3, c4⟩ := mulG_f n A B (by omega) (by omega) hn
    obtain ⟨G, g1, g2, g3, g4⟩ := mulG_f n C [rd I64 p e] (by omega) (by simp) hn
    have g2 : G.length ≤ C.length + 1 - 1 := g2
    obtain ⟨S, s1, s2, s3, s4⟩ := addG_f n s G (by omega) (by omega) hn
    have es : sub .i64 (sub .i64 (ilen p) 1) (e : Int) = ((p.length - 1 - e : Nat) : Int) := by
      rw [ilen_eq, sub_in (x := (p.length : Int)) (y := 1) (by omega) (by omega), sub_in (by omega) (by omega)]; omega
    have hG : ∀ m, eqm (cf G m) (term l h D (rd I64 p e) (p.length - 1) e m) := fun m => by
      refine (g4 m).trans ?_
      rw [cv_single]
      refine eqm.mul ?_ (eqm_refl _)
      refine (c4 m).trans ((cv_congr b4 A m).trans ?_)
      rw [cv_itM, show cv A one = cf A from funext (cv_one A)]
      exact itM_congr _ a4 m
    obtain ⟨r, h1, h2⟩ := ih k (e + 1) S (fun m => f m + term l h D (rd I64 p e) (p.length - 1) e m) (by omega) (by omega) (by omega) s3 (fun m => (s4 m).trans ((hf m).add (hG m)))
    refine ⟨r, ?_, h2.1, h2.2.1, fun m => ?_⟩
    · simp only [fn_impl_overInterval.l5]
      rw [ltI_t (by rw [ilen_eq]; omega), br_t, okIx_t (by omega) (by rw [ilen_eq]; omega), br_t, a1, Option.bind_some, es, b1, Option.bind_some, c1, Option.bind_some, nat_cast, g1, Option.bind_some, s1, Option.bind_some, add_one e (by omega)]
      exact h1
    · refine (h2.2.2 m).trans ?_
      show eqm (f m + term l h D (rd I64 p e) (p.length - 1) e m + sumT l h D p (p.length - 1) m d (e + 1)) (f m + sumT l h D p (p.length - 1) m (d + 1) e)
      rw [sumT, Int.add_assoc]; exact eqm_refl _
theorem pad_l {R : Type} (n : Nat) (p : List Int) (K0 : List Int → Option R) (hp : p.length ≤ 6) : ∀ (d k : Nat) (s : List Int), s.length + d = p.length → d < k → fn_impl_overInterval.l10 n k p s K0 = K0 (s ++ List.replicate d 0) := by
  intro d
  induction d with
  | zero =>
    intro k s hd hk
    obtain ⟨k, rfl⟩ : ∃ m, k = m + 1 := ⟨k - 1, by omega⟩
    simp only [fn_impl_overInterval.l10]
    rw [ltI_f (by rw [ilen_eq, ilen_eq]; omega), br_f]
    simp
  | succ d ih =>
    intro k s hd hk
    obtain ⟨k, rfl⟩ : ∃ m, k = m + 1 := ⟨k - 1, by omega⟩
    simp only [fn_impl_overInterval.l10]
    rw [ltI_t (by rw [ilen_eq, ilen_eq]; omega), br_t, okApp_t (by unfold nadd; simp; omega), br_t]
    have e : appL s [(0 : Int)] = s ++ [0] := rfl
    rw [e, ih k (s ++ [0]) (by simp; omega) (by omega), List.append_assoc, List.replicate_succ]
    rfl
end
end Go.Proofs.Ytipjdipahebnbaa.Z

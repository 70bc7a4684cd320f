/- The other side: sums. -/
import Derived.Test.YtpfjneaoankllaaPD
set_option linter.unusedVariables false
set_option linter.unusedSimpArgs false
set_option maxRecDepth 100000
namespace Go.Proofs.Ytpfjneaoankllaa.Z
open Go.Proofs.Ytpfjneaoankllaa.Ev
noncomputable section
theorem shl_eqm (x : Int) (w : Nat) (hw : w ≤ 60) : eqm (shl .i64 x (w : Int)) (x * 2 ^ w) := by
  unfold shl
  have e : min (nat (w : Int)) IntKind.i64.bits = w := by
    rw [nat_cast]
    exact Nat.min_eq_left (by show w ≤ 64; omega)
  rw [e]
  exact eqm_wrap _
theorem shl_inR (x y : Int) : InR (shl .i64 x y) := wrap_inR _
theorem pow_pow (K g : Nat) : ((2 : Int) ^ K) ^ g = 2 ^ (K * g) := by rw [← Int.pow_mul]
/-- The three exponents, those of the first s unknowns. -/
theorem num_ex (X Y Z s : Nat) (h4 : X ≤ 4 ∧ Y ≤ 4 ∧ Z ≤ 4) (h1 : 1 ≤ s) (h3 : s ≤ 3) : Num (preL [(X : Int), (Y : Int), (Z : Int)] s) s (dig X Y Z) := by
  have hs : s = 1 ∨ s = 2 ∨ s = 3 := by omega
  rcases hs with rfl | rfl | rfl
  · exact ⟨rfl, fun k hk => by
      obtain rfl : k = 0 := by omega
      exact ⟨rfl, h4.1⟩⟩
  · exact ⟨rfl, fun k hk => by
      have : k = 0 ∨ k = 1 := by omega
      rcases this with rfl | rfl
      · exact ⟨rfl, h4.1⟩
      · exact ⟨rfl, h4.2.1⟩⟩
  · exact ⟨rfl, fun k hk => by
      have : k = 0 ∨ k = 1 ∨ k = 2 := by omega
      rcases this with rfl | rfl | rfl
      · exact ⟨rfl, h4.1⟩
      · exact ⟨rfl, h4.2.1⟩
      · exact ⟨rfl, h4.2.2⟩⟩
theorem be_l10 {R : Type} (n : Nat) (lo hi d : List Int) (all : List (List Int)) (t : Tm) (p : List Tm) (K g X Y Z s N : Nat) (dg x26 x27 : Int) (Jm : Nat → Nat → Nat)
    (K0 : List Int → List Int → List Int → List (List Int) → List Int → List Tm → Int → Int → Int → Int → Int → Option R)
    (hX : t.2.1 = (X : Int)) (hY : t.2.2.1 = (Y : Int)) (hZ : t.2.2.2 = (Z : Int)) (h4 : X ≤ 4 ∧ Y ≤ 4 ∧ Z ≤ 4) (hK : K ≤ 4) (hg : dg - ((X : Int) + (Y : Int) + (Z : Int)) = (g : Int)) (hg4 : g ≤ 4) (hdg : -100 ≤ dg ∧ dg ≤ 100)
    (hb : Bds lo hi s) (h1 : 1 ≤ s) (h3 : s ≤ 3) (hall : all.length = N) (hN : N ≤ 125) (hJ : ∀ m, m < N → Num (rd LS all m) s (Jm m)) (hn : 1000001 < n) :
    ∀ (c k x : Nat) (a : List Int), N - x = c → x ≤ N → c < k → a.length = N → AllR a →
    ∃ b, fn_impl_bernstein.l10 n k lo hi d all a [t] [((X : Int), ((Y : Int), ((Z : Int), ())))] p (K : Int) (s : Int) dg x26 x27 (ilen all) (x : Int) K0 = K0 lo hi d all b p (K : Int) (s : Int) dg x26 x27 ∧ b.length = N ∧ AllR b ∧
      ∀ m, m < N → eqm (cf b m) (cf a m + if x ≤ m then prodF (fun k => ptV (cf lo k) (cf hi k) (dig X Y Z k) (Jm m k)) (t.1 * ((2 : Int) ^ K) ^ g) 0 s else 0) := by
  have rt : rd (.pair (.int .i64) (.pair (.int .i64) (.pair (.int .i64) (.int .i64)))) [t] 0 = t := rfl
  have re : rd (.pair (.int .i64) (.pair (.int .i64) (.pair (.int .i64) .unit))) [((X : Int), ((Y : Int), ((Z : Int), ())))] 0 = ((X : Int), ((Y : Int), ((Z : Int), ()))) := rfl
  have hKg : K * g ≤ 16 := by
    have : K * g ≤ 4 * 4 := Nat.mul_le_mul hK hg4
    omega
  have pKg : (K : Int) * (g : Int) = ((K * g : Nat) : Int) := by rw [Int.natCast_mul]
  intro c
  induction c with
  | zero =>
    intro k x a hc hx hk ha hr
    obtain ⟨k, rfl⟩ : ∃ m, k = m + 1 := ⟨k - 1, by omega⟩
    refine ⟨a, ?_, ha, hr, fun m hm => by rw [if_neg (by omega), Int.add_zero]; exact eqm_refl _⟩
    simp only [fn_impl_bernstein.l10]
    rw [ltI_f (by rw [ilen_eq]; omega), br_f]
  | succ c ih =>
    intro k x a hc hx hk ha hr
    obtain ⟨k, rfl⟩ : ∃ m, k = m + 1 := ⟨k - 1, by omega⟩
    obtain ⟨r, g1, g2, g3⟩ := be_l14 (R := R) n lo hi d all a [t] [((X : Int), ((Y : Int), ((Z : Int), ())))] (rd LS all x) p (preL [(X : Int), (Y : Int), (Z : Int)] s) (K : Int) (s : Int) dg (x : Int) x26 x27 (ilen all) (x : Int) s (dig X Y Z) (Jm x)
      (fun z148 z149 z150 z151 z152 z153 z154 z155 z156 z157 z158 z159 z160 z161 z162 z163 z164 => br (okIx z159 (ilen z152)) (br (okIx z159 (ilen z152)) (fn_impl_bernstein.l10 n k z148 z149 z150 z151 (setL z152 (nat z159) (add .i64 (rd (.int .i64) z152 (nat z159)) z160)) z153 z154 z155 z156 z157 z158 z161 z162 z163 (add .i64 z164 1) K0) none) none)
      hb (num_ex X Y Z s h4 h1 h3) (hJ x (by omega)) h3 hn s n 0 (shl .i64 t.1 ((K * g : Nat) : Int)) (by omega) (by omega) (by omega) (shl_inR _ _)
    obtain ⟨b, f1, f2, f3, f4⟩ := ih k (x + 1) (setL a x (add .i64 (rd I64 a x) r)) (by omega) (by omega) (by omega) (by rw [setL_len]; exact ha) (setL_inR hr (add_inR _ _))
    refine ⟨b, ?_, f2, f3, fun m hm => ?_⟩
    · simp only [fn_impl_bernstein.l10, rt, re]
      rw [ltI_t (by rw [ilen_eq]; omega), br_t, okIx_t (by omega) (by rw [ilen_eq]; omega), br_t, degree_f n t (by omega) (by omega) (by omega), Option.bind_some, hX, hY, hZ, sub_in (by omega) (by omega), hg, mul_in (by rw [pKg]; omega) (by rw [pKg]; omega), pKg, ltI_f (by omega), br_f, okSl_t (by omega) (by rw [inat_eq]; omega), br_t, nat_cast, nat_cast, inat_eq]
      refine g1.trans ?_
      rw [okIx_t (by omega) (by rw [ilen_eq]; omega), br_t, br_t, nat_cast, add_one x (by omega)]
      exact f1
    · refine (f4 m hm).trans ?_
      rw [cf_set _ _ _ _ (by omega)]
      by_cases h : m = x
      · rw [if_pos h, if_neg (by omega), if_pos (by omega), Int.add_zero, h]
        refine (eqm_add _ _).trans ((eqm_refl _).add (g3.trans (prodF_eqm ((shl_eqm _ _ (by omega)).trans ?_))))
        rw [pow_pow]
        exact eqm_refl _
      · rw [if_neg h]
        by_cases h' : x ≤ m
        · rw [if_pos h', if_pos (by omega)]; exact eqm_refl _
        · rw [if_neg h', if_neg (by omega)]; exact eqm_refl _
/-- What is reckoned at a place, over the terms. -/
def AV (p : List Tm) (b : Bx) (s : Nat) (J : Nat → Nat) (z c : Nat) : Int := sumF (fun i => prodF (fun k => ptV (cf b.2.1 k) (cf b.2.2 k) (dig (eN p i 0) (eN p i 1) (eN p i 2) k) (J k)) (cT p b.1 i) 0 s) z c
theorem be_l6 {R : Type} (n : Nat) (b : Bx) (d : List Int) (all : List (List Int)) (p : List Tm) (K s N : Nat) (Jm : Nat → Nat → Nat) (K0 : List Int → List (List Int) → List Int → Int → Option R)
    (hp : polyB p = true) (hK : b.1 = (K : Int)) (hK4 : K ≤ 4) (hb : Bds b.2.1 b.2.2 s) (h1 : 1 ≤ s) (h3 : s ≤ 3) (hall : all.length = N) (hN : N ≤ 125) (hJ : ∀ m, m < N → Num (rd LS all m) s (Jm m)) (hn : 1000001 < n) :
    ∀ (c k i : Nat) (a : List Int), p.length - i = c → i ≤ p.length → c < k → a.length = N → AllR a →
    ∃ o, fn_impl_bernstein.l6 n k b.2.1 b.2.2 d all a p (K : Int) (s : Int) (dgP p) (ilen p) (i : Int) K0 = K0 d all o (s : Int) ∧ o.length = N ∧ AllR o ∧ ∀ m, m < N → eqm (cf o m) (cf a m + AV p b s (Jm m) i c) := by
  have hl := (polyB_at hp).1
  intro c
  induction c with
  | zero =>
    intro k i a hc hi hk ha hr
    obtain ⟨k, rfl⟩ : ∃ m, k = m + 1 := ⟨k - 1, by omega⟩
    refine ⟨a, ?_, ha, hr, fun m hm => by unfold AV; simp only [sumF]; rw [Int.add_zero]; exact eqm_refl _⟩
    simp only [fn_impl_bernstein.l6]
    rw [ltI_f (by rw [ilen_eq]; omega), br_f]
  | succ c ih =>
    intro k i a hc hi hk ha hr
    obtain ⟨k, rfl⟩ : ∃ m, k = m + 1 := ⟨k - 1, by omega⟩
    obtain ⟨he, _⟩ := (polyB_at hp).2 i (by omega)
    obtain ⟨t1, t2, t3, t4⟩ := expB_of he
    have hdg : pw (rd T4 p i) 0 + pw (rd T4 p i) 1 + pw (rd T4 p i) 2 ≤ dgP p := dgS0_at p p.length 0 (-1) i (Nat.zero_le _) (by omega)
    have hdg4 := dgP_le p hp
    have x0 : (rd T4 p i).2.1 = ((eN p i 0 : Nat) : Int) := by unfold eN; show _ = (((rd T4 p i).2.1).toNat : Int); omega
    have x1 : (rd T4 p i).2.2.1 = ((eN p i 1 : Nat) : Int) := by unfold eN; show _ = (((rd T4 p i).2.2.1).toNat : Int); omega
    have x2 : (rd T4 p i).2.2.2 = ((eN p i 2 : Nat) : Int) := by unfold eN; show _ = (((rd T4 p i).2.2.2).toNat : Int); omega
    have hdg' : ((eN p i 0 : Nat) : Int) + ((eN p i 1 : Nat) : Int) + ((eN p i 2 : Nat) : Int) ≤ dgP p := by rw [← x0, ← x1, ← x2]; exact hdg
    obtain ⟨g, hg⟩ : ∃ g : Nat, g = (dgP p - (((eN p i 0 : Nat) : Int) + ((eN p i 1 : Nat) : Int) + ((eN p i 2 : Nat) : Int))).toNat := ⟨_, rfl⟩
    obtain ⟨o1, g1, g2, g3, g4⟩ := be_l10 (R := R) n b.2.1 b.2.2 d all (rd T4 p i) p K g (eN p i 0) (eN p i 1) (eN p i 2) s N (dgP p) (ilen p) (i : Int) Jm
      (fun z165 z166 z167 z168 z169 z170 z171 z172 z173 z174 z175 => fn_impl_bernstein.l6 n k z165 z166 z167 z168 z169 z170 z171 z172 z173 z174 (add .i64 z175 1) K0)
      x0 x1 x2 (by omega) hK4 (by omega) (by omega) (by omega) hb h1 h3 hall hN hJ hn N n 0 a (by omega) (by omega) (by omega) ha hr
    obtain ⟨o, f1, f2, f3, f4⟩ := ih k (i + 1) o1 (by omega) (by omega) (by omega) g2 g3
    refine ⟨o, ?_, f2, f3, fun m hm => ?_⟩
    · simp only [fn_impl_bernstein.l6]
      rw [ltI_t (by rw [ilen_eq]; omega), br_t, okIx_t (by omega) (by rw [ilen_eq]; omega), br_t, nat_cast, expo_f, Option.bind_some]
      dsimp only
      have y0 : pw (rd T4 p i) 0 = ((eN p i 0 : Nat) : Int) := x0
      have y1 : pw (rd T4 p i) 1 = ((eN p i 1 : Nat) : Int) := x1
      have y2 : pw (rd T4 p i) 2 = ((eN p i 2 : Nat) : Int) := x2
      rw [y0, y1, y2]
      refine g1.trans ?_
      rw [add_one i (by omega)]
      exact f1
    · refine (f4 m hm).trans ?_
      unfold AV
      simp only [sumF]
      rw [← Int.add_assoc]
      refine eqm.add ((g4 m hm).trans ((eqm_refl _).add ?_)) (eqm_refl _)
      rw [if_pos (Nat.zero_le _)]
      have : cT p b.1 i = (rd T4 p i).1 * ((2 : Int) ^ K) ^ g := by
        unfold cT
        rw [hK, Int.toNat_natCast, hg, ← x0, ← x1, ← x2]
        rfl
      rw [this]
      exact eqm_refl _
theorem be_l39 {R : Type} (n : Nat) (d : List Int) (all : List (List Int)) (a out il jl : List Int) (x205 x207 x208 x209 x210 : Int) (s : Nat) (D I J : Nat → Nat)
    (K0 : List Int → List (List Int) → List Int → List Int → List Int → Int → Int → Int → Int → Int → Int → Int → Option R)
    (hD : Num d s D) (hI : Num il s I) (hJ : Num jl s J) (hJD : ∀ k, k < s → J k ≤ D k) (hs : s ≤ 3) (hn : 1000001 < n) :
    ∀ (c k i : Nat) (cc : Int), s - i = c → i ≤ s → c < k → InR cc →
    ∃ r, fn_impl_bernstein.l39 n k d all a out il jl (s : Int) x205 cc x207 x208 x209 x210 (s : Int) (i : Int) K0 = K0 d all a out il (s : Int) x205 r x207 x208 x209 x210 ∧ InR r ∧ eqm r (prodF (fun k => MV (D k) (I k) (J k)) cc i c) := by
  intro c
  induction c with
  | zero =>
    intro k i cc hc hi hk hr
    obtain ⟨k, rfl⟩ : ∃ m, k = m + 1 := ⟨k - 1, by omega⟩
    refine ⟨cc, ?_, hr, eqm_refl _⟩
    simp only [fn_impl_bernstein.l39]
    rw [ltI_f (by omega), br_f]
  | succ c ih =>
    intro k i cc hc hi hk hr
    obtain ⟨k, rfl⟩ : ∃ m, k = m + 1 := ⟨k - 1, by omega⟩
    obtain ⟨u1, u2⟩ := hD.2 i (by omega)
    obtain ⟨v1, v2⟩ := hI.2 i (by omega)
    obtain ⟨w1, w2⟩ := hJ.2 i (by omega)
    have u1' : rd (.int .i64) d i = ((D i : Nat) : Int) := u1
    have v1' : rd (.int .i64) il i = ((I i : Nat) : Int) := v1
    have w1' : rd (.int .i64) jl i = ((J i : Nat) : Int) := w1
    obtain ⟨q1, q2⟩ := quo_tab (D i) (J i) u2 (hJD i (by omega))
    have hd1 := hD.1
    have hd2 := hI.1
    have hd3 := hJ.1
    obtain ⟨r, f1, f2, f3⟩ := ih k (i + 1) (mul .i64 cc (mul .i64 ((mulF ((D i : Nat) : Int)).tdiv ((chN (D i) (J i) : Nat) : Int)) ((chN (I i) (J i) : Nat) : Int))) (by omega) (by omega) (by omega) (mul_inR _ _)
    refine ⟨r, ?_, f2, ?_⟩
    · simp only [fn_impl_bernstein.l39]
      rw [ltI_t (by omega), br_t, okIx_t (n := ilen d) (by omega) (by rw [ilen_eq]; omega), br_t, br_t, okIx_t (n := ilen jl) (by omega) (by rw [ilen_eq]; omega), br_t, okIx_t (n := ilen il) (by omega) (by rw [ilen_eq]; omega), br_t, br_t, nat_cast, u1', w1', v1', mulF_f n _ (by omega) (by omega), Option.bind_some, iCh_f n _ _ u2 w2 (by omega), Option.bind_some, eqI_f q2, br_f, iCh_f n _ _ v2 w2 (by omega), Option.bind_some, q1, add_one i (by omega)]
      exact f1
    · simp only [prodF]
      refine f3.trans (prodF_eqm ((eqm_mul _ _).trans ((eqm_refl _).mul ((eqm_mul _ _).trans ?_))))
      unfold MV
      rw [Int.mul_comm]
      exact eqm_refl _
theorem be_l35 {R : Type} (n : Nat) (d : List Int) (all : List (List Int)) (a : List Int) (s N x : Nat) (x195 : Int) (D : Nat → Nat) (Jm : Nat → Nat → Nat)
    (K0 : List Int → List (List Int) → List Int → List Int → Int → Int → Int → Option R)
    (hD : Num d s D) (hx : x < N) (hall : all.length = N) (hN : N ≤ 125) (hJ : ∀ m, m < N → Num (rd LS all m) s (Jm m)) (hJD : ∀ m, m < N → ∀ k, k < s → Jm m k ≤ D k) (ha : a.length = N) (har : AllR a) (hs : s ≤ 3) (hn : 1000001 < n) :
    ∀ (c k y : Nat) (out : List Int), N - y = c → y ≤ N → c < k → out.length = N → AllR out →
    ∃ o, fn_impl_bernstein.l35 n k d all a out (rd LS all x) (s : Int) (x : Int) (ilen all) x195 (ilen all) (y : Int) K0 = K0 d all a o (s : Int) (ilen all) x195 ∧ o.length = N ∧ AllR o ∧
      ∀ m, eqm (cf o m) (cf out m + if m = x then sumF (fun y => prodF (fun k => MV (D k) (Jm x k) (Jm y k)) (cf a y) 0 s) y c else 0) := by
  intro c
  induction c with
  | zero =>
    intro k y out hc hy hk ho hr
    obtain ⟨k, rfl⟩ : ∃ m, k = m + 1 := ⟨k - 1, by omega⟩
    refine ⟨out, ?_, ho, hr, fun m => by simp only [sumF]; rw [ite_self, Int.add_zero]; exact eqm_refl _⟩
    simp only [fn_impl_bernstein.l35]
    rw [ltI_f (by rw [ilen_eq]; omega), br_f]
  | succ c ih =>
    intro k y out hc hy hk ho hr
    obtain ⟨k, rfl⟩ : ∃ m, k = m + 1 := ⟨k - 1, by omega⟩
    obtain ⟨r, g1, g2, g3⟩ := be_l39 (R := R) n d all a out (rd LS all x) (rd LS all y) (x : Int) (ilen all) x195 (ilen all) (y : Int) s D (Jm x) (Jm y)
      (fun z216 z217 z218 z219 z220 z221 z222 z223 z224 z225 z226 z227 => br (okIx z222 (ilen z219)) (br (okIx z222 (ilen z219)) (fn_impl_bernstein.l35 n k z216 z217 z218 (setL z219 (nat z222) (add .i64 (rd (.int .i64) z219 (nat z222)) z223)) z220 z221 z222 z224 z225 z226 (add .i64 z227 1) K0) none) none)
      hD (hJ x hx) (hJ y (by omega)) (hJD y (by omega)) hs hn s n 0 (rd I64 a y) (by omega) (by omega) (by omega) (cf_inR har y)
    obtain ⟨o, f1, f2, f3, f4⟩ := ih k (y + 1) (setL out x (add .i64 (rd I64 out x) r)) (by omega) (by omega) (by omega) (by rw [setL_len]; exact ho) (setL_inR hr (add_inR _ _))
    refine ⟨o, ?_, f2, f3, fun m => ?_⟩
    · simp only [fn_impl_bernstein.l35]
      rw [ltI_t (by rw [ilen_eq]; omega), br_t, okIx_t (n := ilen all) (by omega) (by rw [ilen_eq]; omega), br_t, okIx_t (n := ilen a) (by omega) (by rw [ilen_eq]; omega), br_t, nat_cast]
      refine g1.trans ?_
      rw [okIx_t (n := ilen out) (by omega) (by rw [ilen_eq]; omega), br_t, br_t, nat_cast, add_one y (by omega)]
      exact f1
    · refine (f4 m).trans ?_
      simp only [sumF]
      rw [cf_set _ _ _ _ (by omega)]
      by_cases h : m = x
      · rw [if_pos h, if_pos h, if_pos h, ← Int.add_assoc, h]
        exact eqm.add ((eqm_add _ _).trans ((eqm_refl _).add g3)) (eqm_refl _)
      · rw [if_neg h, if_neg h, if_neg h]
        exact eqm_refl _
theorem be_l32 {R : Type} (n : Nat) (d : List Int) (all : List (List Int)) (a : List Int) (s N : Nat) (D : Nat → Nat) (Jm : Nat → Nat → Nat) (K0 : List Int → Option R)
    (hD : Num d s D) (hall : all.length = N) (hN : N ≤ 125) (hJ : ∀ m, m < N → Num (rd LS all m) s (Jm m)) (hJD : ∀ m, m < N → ∀ k, k < s → Jm m k ≤ D k) (ha : a.length = N) (har : AllR a) (hs : s ≤ 3) (hn : 1000001 < n) :
    ∀ (c k x : Nat) (out : List Int), N - x = c → x ≤ N → c < k → out.length = N → AllR out →
    ∃ o, fn_impl_bernstein.l32 n k d all a out (s : Int) (ilen all) (x : Int) K0 = K0 o ∧ o.length = N ∧ AllR o ∧
      ∀ m, m < N → eqm (cf o m) (cf out m + if x ≤ m then sumF (fun y => prodF (fun k => MV (D k) (Jm m k) (Jm y k)) (cf a y) 0 s) 0 N else 0) := by
  intro c
  induction c with
  | zero =>
    intro k x out hc hx hk ho hr
    obtain ⟨k, rfl⟩ : ∃ m, k = m + 1 := ⟨k - 1, by omega⟩
    refine ⟨out, ?_, ho, hr, fun m hm => by rw [if_neg (by omega), Int.add_zero]; exact eqm_refl _⟩
    simp only [fn_impl_bernstein.l32]
    rw [ltI_f (by rw [ilen_eq]; omega), br_f]
  | succ c ih =>
    intro k x out hc hx hk ho hr
    obtain ⟨k, rfl⟩ : ∃ m, k = m + 1 := ⟨k - 1, by omega⟩
    obtain ⟨o1, g1, g2, g3, g4⟩ := be_l35 (R := R) n d all a s N x (x : Int) D Jm
      (fun z228 z229 z230 z231 z232 z233 z234 => fn_impl_bernstein.l32 n k z228 z229 z230 z231 z232 z233 (add .i64 z234 1) K0)
      hD (by omega) hall hN hJ hJD ha har hs hn N n 0 out (by omega) (by omega) (by omega) ho hr
    obtain ⟨o, f1, f2, f3, f4⟩ := ih k (x + 1) o1 (by omega) (by omega) (by omega) g2 g3
    refine ⟨o, ?_, f2, f3, fun m hm => ?_⟩
    · simp only [fn_impl_bernstein.l32]
      rw [ltI_t (by rw [ilen_eq]; omega), br_t, okIx_t (n := ilen all) (by omega) (by rw [ilen_eq]; omega), br_t, nat_cast]
      refine g1.trans ?_
      rw [add_one x (by omega)]
      exact f1
    · refine (f4 m hm).trans ?_
      by_cases h : m = x
      · rw [if_neg (by omega), if_pos (by omega), Int.add_zero]
        refine (g4 m).trans ?_
        rw [if_pos h, h]
        exact eqm_refl _
      · have hg := g4 m
        rw [if_neg h, Int.add_zero] at hg
        by_cases h' : x ≤ m
        · rw [if_pos h', if_pos (by omega)]
          exact hg.add (eqm_refl _)
        · rw [if_neg h', if_neg (by omega)]
          exact hg.add (eqm_refl _)
end
end Go.Proofs.Ytpfjneaoankllaa.Z

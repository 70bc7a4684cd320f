/- The other side: products. -/
import Derived.Test.YtpfjneaoankllaaPC
set_option linter.unusedVariables false
set_option linter.unusedSimpArgs false
set_option maxRecDepth 100000
namespace Go.Proofs.Ytpfjneaoankllaa.Z
open Go.Proofs.Ytpfjneaoankllaa.Ev
noncomputable section
def prodF (f : Nat → Int) : Int → Nat → Nat → Int
  | c, _, 0 => c
  | c, i, e + 1 => prodF f (c * f i) (i + 1) e
theorem prodF_eqm {f : Nat → Int} : ∀ {e i : Nat} {c c' : Int}, eqm c c' → eqm (prodF f c i e) (prodF f c' i e)
  | 0, _, _, _, h => h
  | e + 1, _, _, _, h => prodF_eqm (e := e) (h.mul (eqm_refl _))
theorem prodF_congr {f g : Nat → Int} : ∀ {e i : Nat} {c : Int}, (∀ k, i ≤ k → k < i + e → f k = g k) → prodF f c i e = prodF g c i e
  | 0, _, _, _ => rfl
  | e + 1, i, c, h => by
    simp only [prodF]
    rw [h i (Nat.le_refl _) (by omega), prodF_congr fun k h1 h2 => h k (by omega) (by omega)]
theorem prodF_ones {f : Nat → Int} : ∀ {e i : Nat} {c : Int}, (∀ k, i ≤ k → k < i + e → f k = 1) → prodF f c i e = c
  | 0, _, _, _ => rfl
  | e + 1, i, c, h => by
    simp only [prodF]
    rw [h i (Nat.le_refl _) (by omega), Int.mul_one, prodF_ones fun k h1 h2 => h k (by omega) (by omega)]
theorem prodF_app (f : Nat → Int) : ∀ (a b i : Nat) (c : Int), prodF f c i (a + b) = prodF f (prodF f c i a) (i + a) b
  | 0, b, i, c => by rw [Nat.zero_add]; rfl
  | a + 1, b, i, c => by
    rw [show a + 1 + b = (a + b) + 1 from by omega]
    simp only [prodF]
    rw [prodF_app f a b, show i + 1 + a = i + (a + 1) from by omega]
theorem pow_step (c D : Int) (e : Nat) : c * D * D ^ e = c * D ^ (e + 1) := by rw [Int.pow_succ, Int.mul_assoc, Int.mul_comm D]
theorem be_l19 {R : Type} (n : Nat) (lo hi d : List Int) (all : List (List Int)) (a : List Int) (t1 : List Tm) (e1 : List (Int × (Int × (Int × Unit)))) (pp : List Int) (p : List Tm) (ex : List Int) (x63 x64 x65 x66 x69 x70 x71 x72 x73 x74 x75 x76 : Int) (i J : Nat)
    (K0 : List Int → List Int → List Int → List (List Int) → List Int → List Tm → List (Int × (Int × (Int × Unit))) → List Int → List Tm → List Int → Int → Int → Int → Int → Int → Int → Int → Int → Int → Int → Int → Int → Int → Int → Option R)
    (hlo : i < lo.length) (hhi : i < hi.length) (hb : (-2048 ≤ cf lo i ∧ cf lo i ≤ 2048) ∧ (-2048 ≤ cf hi i ∧ cf hi i ≤ 2048)) (hJ : J ≤ 4) :
    ∀ (c k q : Nat) (cc : Int), J - q = c → q ≤ J → c < k → InR cc →
    ∃ r, fn_impl_bernstein.l19 n k lo hi d all a t1 e1 pp p ex x63 x64 x65 x66 cc (i : Int) x69 x70 x71 x72 x73 x74 x75 x76 (J : Int) (q : Int) K0 = K0 lo hi d all a t1 e1 pp p ex x63 x64 x65 x66 r (i : Int) x69 x70 x71 x72 x73 x74 x75 x76 ∧ InR r ∧ eqm r (cc * (cf hi i - cf lo i) ^ c) := by
  intro c
  induction c with
  | zero =>
    intro k q cc hc hq hk hr
    obtain ⟨k, rfl⟩ : ∃ m, k = m + 1 := ⟨k - 1, by omega⟩
    refine ⟨cc, ?_, hr, by rw [Int.pow_zero, Int.mul_one]; exact eqm_refl _⟩
    simp only [fn_impl_bernstein.l19]
    rw [ltI_f (by omega), br_f]
  | succ c ih =>
    intro k q cc hc hq hk hr
    obtain ⟨k, rfl⟩ : ∃ m, k = m + 1 := ⟨k - 1, by omega⟩
    have r1 : rd (.int .i64) hi i = cf hi i := rfl
    have r2 : rd (.int .i64) lo i = cf lo i := rfl
    obtain ⟨r, h1, h2, h3⟩ := ih k (q + 1) (mul .i64 cc (cf hi i - cf lo i)) (by omega) (by omega) (by omega) (mul_inR _ _)
    refine ⟨r, ?_, h2, ?_⟩
    · simp only [fn_impl_bernstein.l19]
      rw [ltI_t (by omega), br_t, okIx_t (n := ilen hi) (by omega) (by rw [ilen_eq]; omega), br_t, okIx_t (n := ilen lo) (by omega) (by rw [ilen_eq]; omega), br_t, nat_cast, r1, r2, sub_in (by omega) (by omega), add_one q (by omega)]
      exact h1
    · refine h3.trans (((eqm_mul _ _).mul (eqm_refl _)).trans ?_)
      rw [pow_step]
      exact eqm_refl _
theorem be_l23 {R : Type} (n : Nat) (lo hi d : List Int) (all : List (List Int)) (a : List Int) (t1 : List Tm) (e1 : List (Int × (Int × (Int × Unit)))) (pp : List Int) (p : List Tm) (ex : List Int) (x113 x114 x115 x116 x119 x120 x121 x122 x123 x124 : Int) (i J : Nat)
    (K0 : List Int → List Int → List Int → List (List Int) → List Int → List Tm → List (Int × (Int × (Int × Unit))) → List Int → List Tm → List Int → Int → Int → Int → Int → Int → Int → Int → Int → Int → Int → Int → Option R)
    (hlo : i < lo.length) (hJ : J ≤ 4) :
    ∀ (c k q : Nat) (cc : Int), J - q = c → q ≤ J → c < k → InR cc →
    ∃ r, fn_impl_bernstein.l23 n k lo hi d all a t1 e1 pp p ex x113 x114 x115 x116 cc (i : Int) x119 x120 x121 x122 x123 x124 (J : Int) (q : Int) K0 = K0 lo hi d all a t1 e1 pp p ex x113 x114 x115 x116 r x119 x120 x121 x122 x123 x124 ∧ InR r ∧ eqm r (cc * (cf lo i) ^ c) := by
  intro c
  induction c with
  | zero =>
    intro k q cc hc hq hk hr
    obtain ⟨k, rfl⟩ : ∃ m, k = m + 1 := ⟨k - 1, by omega⟩
    refine ⟨cc, ?_, hr, by rw [Int.pow_zero, Int.mul_one]; exact eqm_refl _⟩
    simp only [fn_impl_bernstein.l23]
    rw [ltI_f (by omega), br_f]
  | succ c ih =>
    intro k q cc hc hq hk hr
    obtain ⟨k, rfl⟩ : ∃ m, k = m + 1 := ⟨k - 1, by omega⟩
    have r2 : rd (.int .i64) lo i = cf lo i := rfl
    obtain ⟨r, h1, h2, h3⟩ := ih k (q + 1) (mul .i64 cc (cf lo i)) (by omega) (by omega) (by omega) (mul_inR _ _)
    refine ⟨r, ?_, h2, ?_⟩
    · simp only [fn_impl_bernstein.l23]
      rw [ltI_t (by omega), br_t, okIx_t (n := ilen lo) (by omega) (by rw [ilen_eq]; omega), br_t, nat_cast, r2, add_one q (by omega)]
      exact h1
    · refine h3.trans (((eqm_mul _ _).mul (eqm_refl _)).trans ?_)
      rw [pow_step]
      exact eqm_refl _
/-- Bounds of a box that are not too great. -/
def Bds (lo hi : List Int) (s : Nat) : Prop := lo.length = s ∧ hi.length = s ∧ ∀ m, m < s → (-2048 ≤ cf lo m ∧ cf lo m ≤ 2048) ∧ (-2048 ≤ cf hi m ∧ cf hi m ≤ 2048)
/-- A list of s numbers, each at most 4. -/
def Num (l : List Int) (s : Nat) (J : Nat → Nat) : Prop := l.length = s ∧ ∀ k, k < s → cf l k = ((J k : Nat) : Int) ∧ J k ≤ 4
theorem be_l14 {R : Type} (n : Nat) (lo hi d : List Int) (all : List (List Int)) (a : List Int) (t1 : List Tm) (e1 : List (Int × (Int × (Int × Unit)))) (pp : List Int) (p : List Tm) (ex : List Int) (x41 x42 x43 x44 x46 x47 x48 x49 : Int) (s : Nat) (E J : Nat → Nat)
    (K0 : List Int → List Int → List Int → List (List Int) → List Int → List Tm → List (Int × (Int × (Int × Unit))) → List Tm → Int → Int → Int → Int → Int → Int → Int → Int → Int → Option R)
    (hb : Bds lo hi s) (hE : Num ex s E) (hJ : Num pp s J) (hs : s ≤ 3) (hn : 1000001 < n) :
    ∀ (c k i : Nat) (cc : Int), s - i = c → i ≤ s → c < k → InR cc →
    ∃ r, fn_impl_bernstein.l14 n k lo hi d all a t1 e1 pp p ex x41 x42 x43 x44 cc x46 x47 x48 x49 (s : Int) (i : Int) K0 = K0 lo hi d all a t1 e1 p x41 x42 x43 x44 r x46 x47 x48 x49 ∧ InR r ∧ eqm r (prodF (fun k => ptV (cf lo k) (cf hi k) (E k) (J k)) cc i c) := by
  obtain ⟨b1, b2, b3⟩ := hb
  obtain ⟨c1, c2⟩ := hE
  obtain ⟨d1, d2⟩ := hJ
  intro c
  induction c with
  | zero =>
    intro k i cc hc hi' hk hr
    obtain ⟨k, rfl⟩ : ∃ m, k = m + 1 := ⟨k - 1, by omega⟩
    refine ⟨cc, ?_, hr, eqm_refl _⟩
    simp only [fn_impl_bernstein.l14]
    rw [ltI_f (by omega), br_f]
  | succ c ih =>
    intro k i cc hc hi' hk hr
    obtain ⟨k, rfl⟩ : ∃ m, k = m + 1 := ⟨k - 1, by omega⟩
    obtain ⟨u1, u2⟩ := c2 i (by omega)
    obtain ⟨v1, v2⟩ := d2 i (by omega)
    have u1' : rd (.int .i64) ex i = ((E i : Nat) : Int) := u1
    have v1' : rd (.int .i64) pp i = ((J i : Nat) : Int) := v1
    have a1 := fun K1 => be_l19 (R := R) n lo hi d all a t1 e1 pp p ex x41 x42 x43 x44 ((E i : Nat) : Int) ((J i : Nat) : Int) x46 x47 x48 x49 (s : Int) (i : Int) i (J i) K1 (by omega) (by omega) (b3 i (by omega)) v2 (J i) n 0 (mul .i64 cc ((chN (E i) (J i) : Nat) : Int)) (by omega) (by omega) (by omega) (mul_inR _ _)
    obtain ⟨r1, h1, h2, h3⟩ := a1 (fun z79 z80 z81 z82 z83 z84 z85 z86 z87 z88 z89 z90 z91 z92 z93 z94 z95 z96 z97 z98 z99 z100 z101 z102 => fn_impl_bernstein.l23 n n z79 z80 z81 z82 z83 z84 z85 z86 z87 z88 z89 z90 z91 z92 z93 z94 z97 z98 z99 z100 z101 z102 (sub .i64 z95 z96) 0 (fun z127 z128 z129 z130 z131 z132 z133 z134 z135 z136 z137 z138 z139 z140 z141 z142 z143 z144 z145 z146 z147 => fn_impl_bernstein.l14 n k z127 z128 z129 z130 z131 z132 z133 z134 z135 z136 z137 z138 z139 z140 z141 z142 z143 z144 z145 z146 (add .i64 z147 1) K0))
    have second : ∃ r2, fn_impl_bernstein.l23 n n lo hi d all a t1 e1 pp p ex x41 x42 x43 x44 r1 (i : Int) x46 x47 x48 x49 (s : Int) (i : Int) (sub .i64 ((E i : Nat) : Int) ((J i : Nat) : Int)) 0 (fun z127 z128 z129 z130 z131 z132 z133 z134 z135 z136 z137 z138 z139 z140 z141 z142 z143 z144 z145 z146 z147 => fn_impl_bernstein.l14 n k z127 z128 z129 z130 z131 z132 z133 z134 z135 z136 z137 z138 z139 z140 z141 z142 z143 z144 z145 z146 (add .i64 z147 1) K0)
        = fn_impl_bernstein.l14 n k lo hi d all a t1 e1 pp p ex x41 x42 x43 x44 r2 x46 x47 x48 x49 (s : Int) ((i + 1 : Nat) : Int) K0 ∧ InR r2 ∧ eqm r2 (cc * ptV (cf lo i) (cf hi i) (E i) (J i)) := by
      rcases Nat.lt_or_ge (E i) (J i) with h8 | h8
      · obtain ⟨m, hm⟩ : ∃ m, n = m + 1 := ⟨n - 1, by omega⟩
        refine ⟨r1, ?_, h2, ?_⟩
        · have key : ∀ x K1, fn_impl_bernstein.l23 (R := R) n n lo hi d all a t1 e1 pp p ex x41 x42 x43 x44 r1 (i : Int) x46 x47 x48 x49 (s : Int) (i : Int) x 0 K1 = fn_impl_bernstein.l23 n (m + 1) lo hi d all a t1 e1 pp p ex x41 x42 x43 x44 r1 (i : Int) x46 x47 x48 x49 (s : Int) (i : Int) x 0 K1 := fun x K1 => by rw [← hm]
          rw [key]
          simp only [fn_impl_bernstein.l23]
          rw [sub_in (by omega) (by omega), ltI_f (by omega), br_f, add_one i (by omega)]
        · refine h3.trans (((eqm_mul _ _).mul (eqm_refl _)).trans ?_)
          rw [chN_out _ _ h8, ptV_out h8]
          simp [eqm]
      · rw [sub_in (by omega) (by omega), show ((E i : Nat) : Int) - ((J i : Nat) : Int) = ((E i - J i : Nat) : Int) from by omega]
        obtain ⟨r2, g1, g2, g3⟩ := be_l23 (R := R) n lo hi d all a t1 e1 pp p ex x41 x42 x43 x44 x46 x47 x48 x49 (s : Int) (i : Int) i (E i - J i) (fun z127 z128 z129 z130 z131 z132 z133 z134 z135 z136 z137 z138 z139 z140 z141 z142 z143 z144 z145 z146 z147 => fn_impl_bernstein.l14 n k z127 z128 z129 z130 z131 z132 z133 z134 z135 z136 z137 z138 z139 z140 z141 z142 z143 z144 z145 z146 (add .i64 z147 1) K0) (by omega) (by omega) (E i - J i) n 0 r1 (by omega) (by omega) (by omega) h2
        refine ⟨r2, ?_, g2, ?_⟩
        · refine g1.trans ?_
          rw [add_one i (by omega)]
        · refine g3.trans ((h3.mul (eqm_refl _)).trans ((((eqm_mul _ _).mul (eqm_refl _)).mul (eqm_refl _)).trans ?_))
          unfold ptV
          rw [Int.mul_assoc, Int.mul_assoc, Int.mul_assoc, Int.mul_comm ((cf hi i - cf lo i) ^ J i)]
          exact eqm_refl _
    obtain ⟨r2, g1, g2, g3⟩ := second
    obtain ⟨r, f1, f2, f3⟩ := ih k (i + 1) r2 (by omega) (by omega) (by omega) g2
    refine ⟨r, ?_, f2, ?_⟩
    · simp only [fn_impl_bernstein.l14]
      rw [ltI_t (by omega), br_t, okIx_t (n := ilen ex) (by omega) (by rw [ilen_eq]; omega), br_t, okIx_t (n := ilen pp) (by omega) (by rw [ilen_eq]; omega), br_t, nat_cast, u1', v1', iCh_f n _ _ u2 v2 (by omega), Option.bind_some]
      exact h1.trans (g1.trans f1)
    · simp only [prodF]
      exact f3.trans (prodF_eqm g3)
end
end Go.Proofs.Ytpfjneaoankllaa.Z

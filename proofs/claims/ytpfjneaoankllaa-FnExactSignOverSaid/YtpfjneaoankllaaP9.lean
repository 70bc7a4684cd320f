/- The grid of coefficients: loops. -/
import Derived.Test.YtpfjneaoankllaaP8
set_option linter.unusedVariables false
set_option linter.unusedSimpArgs false
set_option maxRecDepth 100000
namespace Go.Proofs.Ytpfjneaoankllaa.Z
open Go.Proofs.Ytpfjneaoankllaa.Ev
noncomputable section
theorem least_f (n : Nat) (a b : Nat) : fn_spec_l1Least.f n (a : Int) (b : Int) = some ((min a b : Nat) : Int) := by
  unfold fn_spec_l1Least.f
  by_cases h : a < b
  · rw [ltI_t (by omega), br_t, Nat.min_eq_left (by omega)]
  · rw [ltI_f (by omega), br_f, Nat.min_eq_right (by omega)]
/-- The place of three numbers in a table. -/
def atN (d1 d2 x y z : Nat) : Nat := (x * (d1 + 1) + y) * (d2 + 1) + z
theorem atN_bd {d0 d1 d2 x y z : Nat} (hx : x ≤ d0) (hy : y ≤ d1) (hz : z ≤ d2) : atN d1 d2 x y z < (d0 + 1) * (d1 + 1) * (d2 + 1) := by
  unfold atN
  have h1 : x * (d1 + 1) + y < (d0 + 1) * (d1 + 1) := by
    have : x * (d1 + 1) ≤ d0 * (d1 + 1) := Nat.mul_le_mul_right _ hx
    rw [Nat.add_mul]
    omega
  have h2 : (x * (d1 + 1) + y) * (d2 + 1) + (d2 + 1) ≤ (d0 + 1) * (d1 + 1) * (d2 + 1) := by
    rw [← Nat.succ_mul]
    exact Nat.mul_le_mul_right _ h1
  omega
theorem atN_inj {d1 d2 x y z x' y' z' : Nat} (hy : y ≤ d1) (hz : z ≤ d2) (hy' : y' ≤ d1) (hz' : z' ≤ d2) (h : atN d1 d2 x y z = atN d1 d2 x' y' z') : x = x' ∧ y = y' ∧ z = z' := by
  unfold atN at h
  have e1 : ((x * (d1 + 1) + y) * (d2 + 1) + z) % (d2 + 1) = z := by rw [Nat.mul_add_mod_self_right]; exact Nat.mod_eq_of_lt (by omega)
  have e2 : ((x' * (d1 + 1) + y') * (d2 + 1) + z') % (d2 + 1) = z' := by rw [Nat.mul_add_mod_self_right]; exact Nat.mod_eq_of_lt (by omega)
  have hzz : z = z' := by rw [← e1, ← e2, h]
  subst hzz
  have h3 : x * (d1 + 1) + y = x' * (d1 + 1) + y' := Nat.eq_of_mul_eq_mul_right (Nat.succ_pos d2) (Nat.add_right_cancel h)
  have e3 : (x * (d1 + 1) + y) % (d1 + 1) = y := by rw [Nat.mul_add_mod_self_right]; exact Nat.mod_eq_of_lt (by omega)
  have e4 : (x' * (d1 + 1) + y') % (d1 + 1) = y' := by rw [Nat.mul_add_mod_self_right]; exact Nat.mod_eq_of_lt (by omega)
  have hyy : y = y' := by rw [← e3, ← e4, h3]
  subst hyy
  exact ⟨Nat.eq_of_mul_eq_mul_right (Nat.succ_pos d1) (Nat.add_right_cancel h3), rfl, rfl⟩
theorem at_f (n d0 d1 d2 x y z : Nat) (h1 : d1 ≤ 4) (h2 : d2 ≤ 4) (hx : x ≤ 4) (hy : y ≤ 4) (hz : z ≤ 4) : fn_spec_beAt.f n [(d0 : Int), (d1 : Int), (d2 : Int)] (x : Int) (y : Int) (z : Int) = some ((atN d1 d2 x y z : Nat) : Int) := by
  unfold fn_spec_beAt.f
  have r1 : rd (.int .i64) [(d0 : Int), (d1 : Int), (d2 : Int)] (nat 1) = (d1 : Int) := rfl
  have r2 : rd (.int .i64) [(d0 : Int), (d1 : Int), (d2 : Int)] (nat 2) = (d2 : Int) := rfl
  have a1 : x * (d1 + 1) ≤ 4 * 5 := Nat.mul_le_mul hx (by omega)
  have a2 : (x * (d1 + 1) + y) * (d2 + 1) ≤ 24 * 5 := Nat.mul_le_mul (by omega) (by omega)
  have p1 : (x : Int) * ((d1 : Int) + 1) = ((x * (d1 + 1) : Nat) : Int) := by rw [Int.natCast_mul]; rfl
  have p2 : (((x * (d1 + 1) + y : Nat) : Int)) * ((d2 : Int) + 1) = (((x * (d1 + 1) + y) * (d2 + 1) : Nat) : Int) := by rw [Int.natCast_mul]; rfl
  rw [okIx_t (i := 1) (by omega) (by rw [ilen_eq]; simp), br_t, okIx_t (i := 2) (by omega) (by rw [ilen_eq]; simp), br_t, r1, r2, add_in (x := (d1 : Int)) (y := 1) (by omega) (by omega), add_in (x := (d2 : Int)) (y := 1) (by omega) (by omega)]
  rw [mul_in (x := (x : Int)) (y := (d1 : Int) + 1) (by rw [p1]; omega) (by rw [p1]; omega), p1]
  rw [add_in (x := ((x * (d1 + 1) : Nat) : Int)) (y := (y : Int)) (by omega) (by omega), show ((x * (d1 + 1) : Nat) : Int) + (y : Int) = ((x * (d1 + 1) + y : Nat) : Int) from by omega]
  rw [mul_in (by rw [p2]; omega) (by rw [p2]; omega), p2, add_in (by omega) (by omega)]
  unfold atN
  congr 1
/-- What a term adds at a place. -/
def tmV (ls ms : List Int) (c : Int) (X Y Z x y z : Nat) : Int := c * ptV (cf ls 0) (cf ms 0) X x * ptV (cf ls 1) (cf ms 1) Y y * ptV (cf ls 2) (cf ms 2) Z z
/-- Two lists of three bounds. -/
def Bd3 (ls ms : List Int) : Prop := ls.length = 3 ∧ ms.length = 3 ∧ ∀ m, m < 3 → (-2048 ≤ cf ls m ∧ cf ls m ≤ 2048) ∧ (-2048 ≤ cf ms m ∧ cf ms m ≤ 2048)
theorem grid_l21 {R : Type} (n : Nat) (p p' : List Tm) (t : Tm) (ls ms : List Int) (d0 d1 d2 X Y Z x y : Nat) (K c len i : Int) (K0 : List Tm → List Int → List Int → List Int → List Int → List Tm → List Tm → Int → Int → Int → Int → Int → Int → Option R)
    (hX : t.2.1 = (X : Int)) (hY : t.2.2.1 = (Y : Int)) (hZ : t.2.2.2 = (Z : Int)) (h4 : X ≤ 4 ∧ Y ≤ 4 ∧ Z ≤ 4) (hd : d0 ≤ 4 ∧ d1 ≤ 4 ∧ d2 ≤ 4) (hx : x ≤ X ∧ x ≤ d0) (hy : y ≤ Y ∧ y ≤ d1) (hb : Bd3 ls ms) (hn : 1000001 < n) :
    ∀ (e k z : Nat) (out : List Int), min Z d2 + 1 - z = e → z ≤ min Z d2 + 1 → e < k → out.length = (d0 + 1) * (d1 + 1) * (d2 + 1) → AllR out →
    ∃ o, fn_spec_beGrid.l21 n k p [(d0 : Int), (d1 : Int), (d2 : Int)] out ls ms [t] p' K c (x : Int) (y : Int) (z : Int) len i K0 = K0 p [(d0 : Int), (d1 : Int), (d2 : Int)] o ls ms [t] p' K c (x : Int) (y : Int) len i ∧ o.length = (d0 + 1) * (d1 + 1) * (d2 + 1) ∧ AllR o ∧
      ∀ m, eqm (cf o m) (cf out m + sumF (fun z => if m = atN d1 d2 x y z then tmV ls ms c X Y Z x y z else 0) z e) := by
  obtain ⟨b1, b2, b3⟩ := hb
  have rt : rd (.pair (.int .i64) (.pair (.int .i64) (.pair (.int .i64) (.int .i64)))) [t] 0 = t := rfl
  have r2 : rd (.int .i64) [(d0 : Int), (d1 : Int), (d2 : Int)] (nat 2) = (d2 : Int) := rfl
  intro e
  induction e with
  | zero =>
    intro k z out he hz hk ho hr
    obtain ⟨k, rfl⟩ : ∃ m, k = m + 1 := ⟨k - 1, by omega⟩
    refine ⟨out, ?_, ho, hr, fun m => by simp only [sumF]; rw [Int.add_zero]; exact eqm_refl _⟩
    simp only [fn_spec_beGrid.l21, rt, r2]
    rw [okIx_t (i := 2) (by omega) (by rw [ilen_eq]; simp), br_t, hZ, least_f, Option.bind_some, leI_f (x := (z : Int)) (by omega), br_f]
  | succ e ih =>
    intro k z out he hz hk ho hr
    obtain ⟨k, rfl⟩ : ∃ m, k = m + 1 := ⟨k - 1, by omega⟩
    have hzb : z ≤ Z ∧ z ≤ d2 := by omega
    have q0 : rd (.int .i64) ls (nat 0) = cf ls 0 := rfl
    have q1 : rd (.int .i64) ls (nat 1) = cf ls 1 := rfl
    have q2 : rd (.int .i64) ls (nat 2) = cf ls 2 := rfl
    have w0 : rd (.int .i64) ms (nat 0) = cf ms 0 := rfl
    have w1 : rd (.int .i64) ms (nat 1) = cf ms 1 := rfl
    have w2 : rd (.int .i64) ms (nat 2) = cf ms 2 := rfl
    obtain ⟨p0, f0, g0, e0⟩ := part_f n (cf ls 0) (cf ms 0) X x h4.1 hx.1 (b3 0 (by omega)).1 (b3 0 (by omega)).2 hn
    obtain ⟨p1, f1, g1, e1⟩ := part_f n (cf ls 1) (cf ms 1) Y y h4.2.1 hy.1 (b3 1 (by omega)).1 (b3 1 (by omega)).2 hn
    obtain ⟨p2, f2, g2, e2⟩ := part_f n (cf ls 2) (cf ms 2) Z z h4.2.2 hzb.1 (b3 2 (by omega)).1 (b3 2 (by omega)).2 hn
    have hat := at_f n d0 d1 d2 x y z hd.2.1 hd.2.2 (by omega) (by omega) (by omega)
    have hlt := atN_bd hx.2 hy.2 hzb.2
    obtain ⟨o, h1, h2, h3, h5⟩ := ih k (z + 1) (setL out (atN d1 d2 x y z) (add .i64 (rd I64 out (atN d1 d2 x y z)) (mul .i64 (mul .i64 (mul .i64 c p0) p1) p2))) (by omega) (by omega) (by omega) (by rw [setL_len]; exact ho) (setL_inR hr (add_inR _ _))
    refine ⟨o, ?_, h2, h3, fun m => ?_⟩
    · simp only [fn_spec_beGrid.l21, rt, r2, q0, q1, q2, w0, w1, w2]
      rw [okIx_t (i := 2) (n := ilen [(d0 : Int), (d1 : Int), (d2 : Int)]) (by omega) (by rw [ilen_eq]; simp), br_t, hZ, least_f, Option.bind_some, leI_t (x := (z : Int)) (by omega), br_t]
      rw [okIx_t (i := 0) (n := ilen ls) (by omega) (by rw [ilen_eq]; omega), br_t, okIx_t (i := 0) (n := ilen ms) (by omega) (by rw [ilen_eq]; omega), br_t, okIx_t (i := 1) (n := ilen ls) (by omega) (by rw [ilen_eq]; omega), br_t, okIx_t (i := 1) (n := ilen ms) (by omega) (by rw [ilen_eq]; omega), br_t, okIx_t (i := 2) (n := ilen ls) (by omega) (by rw [ilen_eq]; omega), br_t, okIx_t (i := 2) (n := ilen ms) (by omega) (by rw [ilen_eq]; omega), br_t]
      rw [hat, Option.bind_some, okIx_t (n := ilen out) (by omega) (by rw [ilen_eq]; omega), br_t, hX, hY, f0, Option.bind_some, f1, Option.bind_some, f2, Option.bind_some, br_t, nat_cast, add_one z (by omega)]
      exact h1
    · refine (h5 m).trans ?_
      simp only [sumF]
      rw [cf_set _ _ _ _ (by omega)]
      by_cases hm : m = atN d1 d2 x y z
      · rw [if_pos hm, if_pos hm, ← Int.add_assoc, hm]
        refine eqm.add ((eqm_add _ _).trans ((eqm_refl _).add ((eqm_mul _ _).trans ?_))) (eqm_refl _)
        unfold tmV
        exact ((eqm_mul _ _).trans (((eqm_mul _ _).trans ((eqm_refl c).mul e0)).mul e1)).mul e2
      · rw [if_neg hm, if_neg hm, Int.zero_add]
        exact eqm_refl _
theorem grid_l18 {R : Type} (n : Nat) (p p' : List Tm) (t : Tm) (ls ms : List Int) (d0 d1 d2 X Y Z x : Nat) (K c len i : Int) (K0 : List Tm → List Int → List Int → List Int → List Int → List Tm → List Tm → Int → Int → Int → Int → Int → Option R)
    (hX : t.2.1 = (X : Int)) (hY : t.2.2.1 = (Y : Int)) (hZ : t.2.2.2 = (Z : Int)) (h4 : X ≤ 4 ∧ Y ≤ 4 ∧ Z ≤ 4) (hd : d0 ≤ 4 ∧ d1 ≤ 4 ∧ d2 ≤ 4) (hx : x ≤ X ∧ x ≤ d0) (hb : Bd3 ls ms) (hn : 1000001 < n) :
    ∀ (e k y : Nat) (out : List Int), min Y d1 + 1 - y = e → y ≤ min Y d1 + 1 → e < k → out.length = (d0 + 1) * (d1 + 1) * (d2 + 1) → AllR out →
    ∃ o, fn_spec_beGrid.l18 n k p [(d0 : Int), (d1 : Int), (d2 : Int)] out ls ms [t] p' K c (x : Int) (y : Int) len i K0 = K0 p [(d0 : Int), (d1 : Int), (d2 : Int)] o ls ms [t] p' K c (x : Int) len i ∧ o.length = (d0 + 1) * (d1 + 1) * (d2 + 1) ∧ AllR o ∧
      ∀ m, eqm (cf o m) (cf out m + sumF (fun y => sumF (fun z => if m = atN d1 d2 x y z then tmV ls ms c X Y Z x y z else 0) 0 (min Z d2 + 1)) y e) := by
  have rt : rd (.pair (.int .i64) (.pair (.int .i64) (.pair (.int .i64) (.int .i64)))) [t] 0 = t := rfl
  have r1 : rd (.int .i64) [(d0 : Int), (d1 : Int), (d2 : Int)] (nat 1) = (d1 : Int) := rfl
  intro e
  induction e with
  | zero =>
    intro k y out he hz hk ho hr
    obtain ⟨k, rfl⟩ : ∃ m, k = m + 1 := ⟨k - 1, by omega⟩
    refine ⟨out, ?_, ho, hr, fun m => by simp only [sumF]; rw [Int.add_zero]; exact eqm_refl _⟩
    simp only [fn_spec_beGrid.l18, rt, r1]
    rw [okIx_t (i := 1) (by omega) (by rw [ilen_eq]; simp), br_t, hY, least_f, Option.bind_some, leI_f (x := (y : Int)) (by omega), br_f]
  | succ e ih =>
    intro k y out he hz hk ho hr
    obtain ⟨k, rfl⟩ : ∃ m, k = m + 1 := ⟨k - 1, by omega⟩
    have hyb : y ≤ Y ∧ y ≤ d1 := by omega
    have inner := fun K1 => grid_l21 (R := R) n p p' t ls ms d0 d1 d2 X Y Z x y K c len i K1 hX hY hZ h4 hd hx hyb hb hn (min Z d2 + 1) n 0 out (by omega) (by omega) (by omega) ho hr
    obtain ⟨o1, h1, h2, h3, h5⟩ := inner (fun z75 z76 z77 z78 z79 z80 z81 z82 z83 z84 z85 z86 z87 => fn_spec_beGrid.l18 n k z75 z76 z77 z78 z79 z80 z81 z82 z83 z84 (add .i64 z85 1) z86 z87 K0)
    obtain ⟨o, g1, g2, g3, g5⟩ := ih k (y + 1) o1 (by omega) (by omega) (by omega) h2 h3
    refine ⟨o, ?_, g2, g3, fun m => ?_⟩
    · simp only [fn_spec_beGrid.l18, rt, r1]
      rw [okIx_t (i := 1) (by omega) (by rw [ilen_eq]; simp), br_t, hY, least_f, Option.bind_some, leI_t (x := (y : Int)) (by omega), br_t]
      refine h1.trans ?_
      rw [add_one y (by omega)]
      exact g1
    · refine (g5 m).trans ?_
      simp only [sumF]
      rw [← Int.add_assoc]
      exact (h5 m).add (eqm_refl _)
theorem grid_l15 {R : Type} (n : Nat) (p p' : List Tm) (t : Tm) (ls ms : List Int) (d0 d1 d2 X Y Z : Nat) (K c len i : Int) (K0 : List Tm → List Int → List Int → List Int → List Int → List Tm → Int → Int → Int → Option R)
    (hX : t.2.1 = (X : Int)) (hY : t.2.2.1 = (Y : Int)) (hZ : t.2.2.2 = (Z : Int)) (h4 : X ≤ 4 ∧ Y ≤ 4 ∧ Z ≤ 4) (hd : d0 ≤ 4 ∧ d1 ≤ 4 ∧ d2 ≤ 4) (hb : Bd3 ls ms) (hn : 1000001 < n) :
    ∀ (e k x : Nat) (out : List Int), min X d0 + 1 - x = e → x ≤ min X d0 + 1 → e < k → out.length = (d0 + 1) * (d1 + 1) * (d2 + 1) → AllR out →
    ∃ o, fn_spec_beGrid.l15 n k p [(d0 : Int), (d1 : Int), (d2 : Int)] out ls ms [t] p' K c (x : Int) len i K0 = K0 p [(d0 : Int), (d1 : Int), (d2 : Int)] o ls ms p' K len i ∧ o.length = (d0 + 1) * (d1 + 1) * (d2 + 1) ∧ AllR o ∧
      ∀ m, eqm (cf o m) (cf out m + sumF (fun x => sumF (fun y => sumF (fun z => if m = atN d1 d2 x y z then tmV ls ms c X Y Z x y z else 0) 0 (min Z d2 + 1)) 0 (min Y d1 + 1)) x e) := by
  have rt : rd (.pair (.int .i64) (.pair (.int .i64) (.pair (.int .i64) (.int .i64)))) [t] 0 = t := rfl
  have r0 : rd (.int .i64) [(d0 : Int), (d1 : Int), (d2 : Int)] (nat 0) = (d0 : Int) := rfl
  intro e
  induction e with
  | zero =>
    intro k x out he hz hk ho hr
    obtain ⟨k, rfl⟩ : ∃ m, k = m + 1 := ⟨k - 1, by omega⟩
    refine ⟨out, ?_, ho, hr, fun m => by simp only [sumF]; rw [Int.add_zero]; exact eqm_refl _⟩
    simp only [fn_spec_beGrid.l15, rt, r0]
    rw [okIx_t (i := 0) (by omega) (by rw [ilen_eq]; simp), br_t, hX, least_f, Option.bind_some, leI_f (x := (x : Int)) (by omega), br_f]
  | succ e ih =>
    intro k x out he hz hk ho hr
    obtain ⟨k, rfl⟩ : ∃ m, k = m + 1 := ⟨k - 1, by omega⟩
    have hxb : x ≤ X ∧ x ≤ d0 := by omega
    have inner := fun K1 => grid_l18 (R := R) n p p' t ls ms d0 d1 d2 X Y Z x K c len i K1 hX hY hZ h4 hd hxb hb hn (min Y d1 + 1) n 0 out (by omega) (by omega) (by omega) ho hr
    obtain ⟨o1, h1, h2, h3, h5⟩ := inner (fun z88 z89 z90 z91 z92 z93 z94 z95 z96 z97 z98 z99 => fn_spec_beGrid.l15 n k z88 z89 z90 z91 z92 z93 z94 z95 z96 (add .i64 z97 1) z98 z99 K0)
    obtain ⟨o, g1, g2, g3, g5⟩ := ih k (x + 1) o1 (by omega) (by omega) (by omega) h2 h3
    refine ⟨o, ?_, g2, g3, fun m => ?_⟩
    · simp only [fn_spec_beGrid.l15, rt, r0]
      rw [okIx_t (i := 0) (by omega) (by rw [ilen_eq]; simp), br_t, hX, least_f, Option.bind_some, leI_t (x := (x : Int)) (by omega), br_t]
      refine h1.trans ?_
      rw [add_one x (by omega)]
      exact g1
    · refine (g5 m).trans ?_
      simp only [sumF]
      rw [← Int.add_assoc]
      exact (h5 m).add (eqm_refl _)
end
end Go.Proofs.Ytpfjneaoankllaa.Z

/- The grid of coefficients. -/
import Derived.Test.YtpfjneaoankllaaP9
set_option linter.unusedVariables false
set_option linter.unusedSimpArgs false
set_option maxRecDepth 100000
namespace Go.Proofs.Ytpfjneaoankllaa.Z
open Go.Proofs.Ytpfjneaoankllaa.Ev
noncomputable section
theorem tmV_out {ls ms : List Int} {c : Int} {X Y Z x y z : Nat} (h : X < x ∨ Y < y ∨ Z < z) : tmV ls ms c X Y Z x y z = 0 := by
  unfold tmV
  rcases h with h | h | h
  · rw [ptV_out h]; simp
  · rw [ptV_out h]; simp
  · rw [ptV_out h]; simp
theorem term_at (ls ms : List Int) (c : Int) {d0 d1 d2 X Y Z a b e : Nat} (ha : a ≤ d0) (hb : b ≤ d1) (he : e ≤ d2) :
    sumF (fun x => sumF (fun y => sumF (fun z => if atN d1 d2 a b e = atN d1 d2 x y z then tmV ls ms c X Y Z x y z else 0) 0 (min Z d2 + 1)) 0 (min Y d1 + 1)) 0 (min X d0 + 1) = tmV ls ms c X Y Z a b e := by
  have h1 : ∀ x y, y < min Y d1 + 1 → sumF (fun z => if atN d1 d2 a b e = atN d1 d2 x y z then tmV ls ms c X Y Z x y z else 0) 0 (min Z d2 + 1) = if y = b then (if x = a then tmV ls ms c X Y Z x y e else 0) else 0 := fun x y hy => by
    rw [sumF_congr (g := fun z => if z = e then (if y = b then (if x = a then tmV ls ms c X Y Z x y z else 0) else 0) else 0)]
    · rw [sumF_one]
      by_cases h : e < 0 + (min Z d2 + 1)
      · rw [if_pos ⟨Nat.zero_le _, h⟩]
      · rw [if_neg (fun hh => h hh.2), tmV_out (.inr (.inr (by omega)))]
        simp
    · intro z _ hz
      by_cases heq : atN d1 d2 a b e = atN d1 d2 x y z
      · obtain ⟨q1, q2, q3⟩ := atN_inj hb he (by omega) (by omega) heq
        rw [if_pos heq, if_pos q3.symm, if_pos q2.symm, if_pos q1.symm]
      · rw [if_neg heq]
        by_cases q3 : z = e
        · rw [if_pos q3]
          by_cases q2 : y = b
          · rw [if_pos q2]
            by_cases q1 : x = a
            · exact absurd (by rw [q1, q2, q3]) heq
            · rw [if_neg q1]
          · rw [if_neg q2]
        · rw [if_neg q3]
  have h2 : ∀ x, sumF (fun y => sumF (fun z => if atN d1 d2 a b e = atN d1 d2 x y z then tmV ls ms c X Y Z x y z else 0) 0 (min Z d2 + 1)) 0 (min Y d1 + 1) = if x = a then tmV ls ms c X Y Z x b e else 0 := fun x => by
    rw [sumF_congr (g := fun y => if y = b then (if x = a then tmV ls ms c X Y Z x y e else 0) else 0) (fun y _ hy => h1 x y (by omega)), sumF_one]
    by_cases h : b < 0 + (min Y d1 + 1)
    · rw [if_pos ⟨Nat.zero_le _, h⟩]
    · rw [if_neg (fun hh => h hh.2), tmV_out (.inr (.inl (by omega)))]
      simp
  rw [sumF_congr (g := fun x => if x = a then tmV ls ms c X Y Z x b e else 0) (fun x _ _ => h2 x), sumF_one]
  by_cases h : a < 0 + (min X d0 + 1)
  · rw [if_pos ⟨Nat.zero_le _, h⟩]
  · rw [if_neg (fun hh => h hh.2), tmV_out (.inl (by omega))]
def eN (p : List Tm) (i k : Nat) : Nat := (pw (rd T4 p i) k).toNat
theorem dgS0_ge (p : List Tm) : ∀ (d i : Nat) (a : Int), a ≤ dgS0 p d i a
  | 0, _, a => Int.le_refl _
  | d + 1, i, a => by
    simp only [dgS0]
    exact Int.le_trans (mx_ge _ _) (dgS0_ge p d (i + 1) _)
theorem mx_ge' (a b : Int) : b ≤ mx a b := by unfold mx; split <;> omega
theorem dgS0_at (p : List Tm) : ∀ (d i : Nat) (a : Int) (j : Nat), i ≤ j → j < i + d → pw (rd T4 p j) 0 + pw (rd T4 p j) 1 + pw (rd T4 p j) 2 ≤ dgS0 p d i a
  | 0, i, a, j, h1, h2 => by omega
  | d + 1, i, a, j, h1, h2 => by
    simp only [dgS0]
    rcases Nat.lt_or_ge i j with h3 | h3
    · exact dgS0_at p d (i + 1) _ j (by omega) (by omega)
    · obtain rfl : i = j := by omega
      exact Int.le_trans (mx_ge' _ _) (dgS0_ge p d (i + 1) _)
/-- A term's coefficient, scaled to the degree. -/
def cT (p : List Tm) (K : Int) (i : Nat) : Int := (rd T4 p i).1 * ((2 : Int) ^ K.toNat) ^ (dgP p - (pw (rd T4 p i) 0 + pw (rd T4 p i) 1 + pw (rd T4 p i) 2)).toNat
theorem tmV_eqm {ls ms : List Int} {c c' : Int} {X Y Z x y z : Nat} (h : eqm c c') : eqm (tmV ls ms c X Y Z x y z) (tmV ls ms c' X Y Z x y z) := by
  unfold tmV
  exact ((h.mul (eqm_refl _)).mul (eqm_refl _)).mul (eqm_refl _)
theorem grid_l11 {R : Type} (n : Nat) (p : List Tm) (ls ms : List Int) (d0 d1 d2 : Nat) (K : Int) (K0 : List Int → List Int → Option R) (hp : polyB p = true) (hK : 0 ≤ K ∧ K ≤ 4) (hd : d0 ≤ 4 ∧ d1 ≤ 4 ∧ d2 ≤ 4) (hb : Bd3 ls ms) (hn : 1000001 < n) :
    ∀ (c k i : Nat) (out : List Int), p.length - i = c → i ≤ p.length → c < k → out.length = (d0 + 1) * (d1 + 1) * (d2 + 1) → AllR out →
    ∃ o, fn_spec_beGrid.l11 n k p [(d0 : Int), (d1 : Int), (d2 : Int)] out ls ms p K (ilen p) (i : Int) K0 = K0 [(d0 : Int), (d1 : Int), (d2 : Int)] o ∧ o.length = (d0 + 1) * (d1 + 1) * (d2 + 1) ∧ AllR o ∧
      ∀ a b e, a ≤ d0 → b ≤ d1 → e ≤ d2 → eqm (cf o (atN d1 d2 a b e)) (cf out (atN d1 d2 a b e) + sumF (fun i => tmV ls ms (cT p K i) (eN p i 0) (eN p i 1) (eN p i 2) a b e) i c) := by
  have hl := (polyB_at hp).1
  intro c
  induction c with
  | zero =>
    intro k i out hc hi hk ho hr
    obtain ⟨k, rfl⟩ : ∃ m, k = m + 1 := ⟨k - 1, by omega⟩
    refine ⟨out, ?_, ho, hr, fun a b e _ _ _ => by simp only [sumF]; rw [Int.add_zero]; exact eqm_refl _⟩
    simp only [fn_spec_beGrid.l11]
    rw [ltI_f (by rw [ilen_eq]; omega), br_f]
  | succ c ih =>
    intro k i out hc hi hk ho hr
    obtain ⟨k, rfl⟩ : ∃ m, k = m + 1 := ⟨k - 1, by omega⟩
    obtain ⟨he, _⟩ := (polyB_at hp).2 i (by omega)
    obtain ⟨t1, t2, t3, t4⟩ := expB_of he
    have hdg : pw (rd T4 p i) 0 + pw (rd T4 p i) 1 + pw (rd T4 p i) 2 ≤ dgP p := dgS0_at p p.length 0 (-1) i (Nat.zero_le _) (by omega)
    have hdg4 := dgP_le p hp
    obtain ⟨_, _, m2⟩ := most_of (K := K) ⟨hK.1, by omega⟩
    obtain ⟨y, e1, _, e3⟩ := m2 n
    have x0 : (rd T4 p i).2.1 = ((eN p i 0 : Nat) : Int) := by unfold eN; show _ = (((rd T4 p i).2.1).toNat : Int); omega
    have x1 : (rd T4 p i).2.2.1 = ((eN p i 1 : Nat) : Int) := by unfold eN; show _ = (((rd T4 p i).2.2.1).toNat : Int); omega
    have x2 : (rd T4 p i).2.2.2 = ((eN p i 2 : Nat) : Int) := by unfold eN; show _ = (((rd T4 p i).2.2.2).toNat : Int); omega
    have hdg' : ((eN p i 0 : Nat) : Int) + ((eN p i 1 : Nat) : Int) + ((eN p i 2 : Nat) : Int) ≤ dgP p := by rw [← x0, ← x1, ← x2]; exact hdg
    obtain ⟨g, hg⟩ : ∃ g : Nat, g = (dgP p - (((eN p i 0 : Nat) : Int) + ((eN p i 1 : Nat) : Int) + ((eN p i 2 : Nat) : Int))).toNat := ⟨_, rfl⟩
    obtain ⟨q, q1, q2, q3⟩ := pow_f n y g (by omega) hn
    have inner := fun K1 => grid_l15 (R := R) n p p (rd T4 p i) ls ms d0 d1 d2 (eN p i 0) (eN p i 1) (eN p i 2) K (mul .i64 (rd T4 p i).1 q) (ilen p) (i : Int) K1 x0 x1 x2 (by omega) hd hb hn (min (eN p i 0) d0 + 1) n 0 out (by omega) (by omega) (by omega) ho hr
    obtain ⟨o1, h1, h2, h3, h5⟩ := inner (fun z100 z101 z102 z103 z104 z105 z106 z107 z108 => fn_spec_beGrid.l11 n k z100 z101 z102 z103 z104 z105 z106 z107 (add .i64 z108 1) K0)
    obtain ⟨o, g1, g2, g3, g5⟩ := ih k (i + 1) o1 (by omega) (by omega) (by omega) h2 h3
    refine ⟨o, ?_, g2, g3, fun a b e ha hbb he' => ?_⟩
    · simp only [fn_spec_beGrid.l11]
      rw [ltI_t (by rw [ilen_eq]; omega), br_t, okIx_t (by omega) (by rw [ilen_eq]; omega), br_t, nat_cast, e1, Option.bind_some, sDgr_f n p hp (by omega), Option.bind_some, x0, x1, x2]
      rw [sub_in (x := dgP p) (by omega) (by omega), sub_in (x := dgP p - ((eN p i 0 : Nat) : Int)) (by omega) (by omega), sub_in (by omega) (by omega), show dgP p - ((eN p i 0 : Nat) : Int) - ((eN p i 1 : Nat) : Int) - ((eN p i 2 : Nat) : Int) = (g : Int) from by omega, q1, Option.bind_some]
      refine h1.trans ?_
      rw [add_one i (by omega)]
      exact g1
    · refine (g5 a b e ha hbb he').trans ?_
      simp only [sumF]
      rw [← Int.add_assoc]
      refine eqm.add ((h5 (atN d1 d2 a b e)).trans ((eqm_refl _).add ?_)) (eqm_refl _)
      rw [term_at ls ms _ ha hbb he']
      refine tmV_eqm ((eqm_mul _ _).trans ?_)
      unfold cT
      refine (eqm_refl _).mul (q3.trans ?_)
      rw [e3, hg, ← x0, ← x1, ← x2]
      exact eqm_refl _
theorem grid_l5 {R : Type} (n : Nat) (p : List Tm) (l h D out : List Int) (K : Int) (K0 : List Tm → List Int → List Int → List Int → List Int → Int → Option R) (hl : l.length ≤ 3) (hh : h.length = l.length) :
    ∀ (c k i : Nat) (ls ms : List Int), l.length - i = c → i ≤ l.length → c < k → ls.length = 3 → ms.length = 3 → (∀ m, m < i → cf ls m = cf l m ∧ cf ms m = cf h m) → (∀ m, i ≤ m → cf ls m = 0 ∧ cf ms m = 0) →
    ∃ ls' ms', fn_spec_beGrid.l5 n k p l h D out ls ms K (ilen l) (i : Int) K0 = K0 p D out ls' ms' K ∧ ls'.length = 3 ∧ ms'.length = 3 ∧ ∀ m, cf ls' m = cf l m ∧ cf ms' m = cf h m := by
  intro c
  induction c with
  | zero =>
    intro k i ls ms hc hi hk h1 h2 h3 h4
    obtain ⟨k, rfl⟩ : ∃ m, k = m + 1 := ⟨k - 1, by omega⟩
    refine ⟨ls, ms, ?_, h1, h2, fun m => ?_⟩
    · simp only [fn_spec_beGrid.l5]
      rw [ltI_f (by rw [ilen_eq]; omega), br_f]
    · by_cases hm : m < i
      · exact h3 m hm
      · rw [cf_out l m (by omega), cf_out h m (by omega)]
        exact h4 m (by omega)
  | succ c ih =>
    intro k i ls ms hc hi hk h1 h2 h3 h4
    obtain ⟨k, rfl⟩ : ∃ m, k = m + 1 := ⟨k - 1, by omega⟩
    obtain ⟨ls', ms', g1, g2⟩ := ih k (i + 1) (setL ls i (rd I64 l i)) (setL ms i (rd I64 h i)) (by omega) (by omega) (by omega) (by rw [setL_len]; exact h1) (by rw [setL_len]; exact h2) (fun m hm => by
      rw [cf_set _ _ _ _ (by omega), cf_set _ _ _ _ (by omega)]
      by_cases e : m = i
      · rw [if_pos e, if_pos e, e]; exact ⟨rfl, rfl⟩
      · rw [if_neg e, if_neg e]; exact h3 m (by omega)) (fun m hm => by
      rw [cf_set _ _ _ _ (by omega), cf_set _ _ _ _ (by omega), if_neg (by omega), if_neg (by omega)]
      exact h4 m (by omega))
    refine ⟨ls', ms', ?_, g2⟩
    simp only [fn_spec_beGrid.l5]
    rw [ltI_t (by rw [ilen_eq]; omega), br_t, okIx_t (n := ilen l) (by omega) (by rw [ilen_eq]; omega), br_t, okIx_t (n := ilen ls) (by omega) (by rw [ilen_eq]; omega), br_t, okIx_t (n := ilen h) (by omega) (by rw [ilen_eq]; omega), br_t, okIx_t (n := ilen ms) (by omega) (by rw [ilen_eq]; omega), br_t, nat_cast, add_one i (by omega)]
    exact g1
/-- A degree of the box's polynomial, as a number. -/
def dN (p : List Tm) (s k : Nat) : Nat := (cf (degE p s) k).toNat
theorem degE_N (p : List Tm) (hp : polyB p = true) (s : Nat) (h3 : s ≤ 3) : degE p s = [((dN p s 0 : Nat) : Int), ((dN p s 1 : Nat) : Int), ((dN p s 2 : Nat) : Int)] ∧ dN p s 0 ≤ 4 ∧ dN p s 1 ≤ 4 ∧ dN p s 2 ≤ 4 := by
  have d0 := dgE_bd p hp 0
  have d1 := dgE_bd p hp 1
  have d2 := dgE_bd p hp 2
  have c0 : ∀ x y z : Int, cf [x, y, z] 0 = x := fun _ _ _ => rfl
  have c1 : ∀ x y z : Int, cf [x, y, z] 1 = y := fun _ _ _ => rfl
  have c2 : ∀ x y z : Int, cf [x, y, z] 2 = z := fun _ _ _ => rfl
  have h : s = 0 ∨ s = 1 ∨ s = 2 ∨ s = 3 := by omega
  unfold dN
  rcases h with rfl | rfl | rfl | rfl <;> simp only [degE, c0, c1, c2] <;>
    exact ⟨by rw [List.cons.injEq, List.cons.injEq, List.cons.injEq]; exact ⟨by omega, by omega, by omega, rfl⟩, by omega, by omega, by omega⟩
/-- The coefficients of the powers of all t. -/
def GV (p : List Tm) (b : Bx) (x y z : Nat) : Int := sumF (fun i => tmV b.2.1 b.2.2 (cT p b.1 i) (eN p i 0) (eN p i 1) (eN p i 2) x y z) 0 p.length
theorem grid_f (n : Nat) (p : List Tm) (b : Bx) (hp : polyB p = true) (hb : boxB b = true) (hk : b.1 ≤ 4) (hn : 1000001 < n) :
    ∃ o, fn_spec_beGrid.f n p b.2.1 b.2.2 b.1 = some (o, degE p b.2.1.length) ∧ o.length = (dN p b.2.1.length 0 + 1) * (dN p b.2.1.length 1 + 1) * (dN p b.2.1.length 2 + 1) ∧ AllR o ∧
      ∀ x y z, x ≤ dN p b.2.1.length 0 → y ≤ dN p b.2.1.length 1 → z ≤ dN p b.2.1.length 2 → eqm (cf o (atN (dN p b.2.1.length 1) (dN p b.2.1.length 2) x y z)) (GV p b x y z) := by
  obtain ⟨w1, w2, w3, w4⟩ := boxB_of hb
  have hl := (polyB_at hp).1
  obtain ⟨eD, hd⟩ := degE_N p hp b.2.1.length w2.2
  generalize dN p b.2.1.length 0 = d0 at *
  generalize dN p b.2.1.length 1 = d1 at *
  generalize dN p b.2.1.length 2 = d2 at *
  have r0 : rd (.int .i64) [(d0 : Int), (d1 : Int), (d2 : Int)] (nat 0) = (d0 : Int) := rfl
  have r1 : rd (.int .i64) [(d0 : Int), (d1 : Int), (d2 : Int)] (nat 1) = (d1 : Int) := rfl
  have r2 : rd (.int .i64) [(d0 : Int), (d1 : Int), (d2 : Int)] (nat 2) = (d2 : Int) := rfl
  have b1 : (d0 + 1) * (d1 + 1) ≤ 5 * 5 := Nat.mul_le_mul (by omega) (by omega)
  have b2 : (d0 + 1) * (d1 + 1) * (d2 + 1) ≤ 25 * 5 := Nat.mul_le_mul b1 (by omega)
  have p1 : ((d0 : Int) + 1) * ((d1 : Int) + 1) = (((d0 + 1) * (d1 + 1) : Nat) : Int) := by rw [Int.natCast_mul]; rfl
  have p2 : (((d0 + 1) * (d1 + 1) : Nat) : Int) * ((d2 : Int) + 1) = (((d0 + 1) * (d1 + 1) * (d2 + 1) : Nat) : Int) := by rw [Int.natCast_mul ((d0 + 1) * (d1 + 1))]; rfl
  have hN : mul .i64 (mul .i64 (add .i64 (d0 : Int) 1) (add .i64 (d1 : Int) 1)) (add .i64 (d2 : Int) 1) = (((d0 + 1) * (d1 + 1) * (d2 + 1) : Nat) : Int) := by
    rw [add_in (x := (d0 : Int)) (by omega) (by omega), add_in (x := (d1 : Int)) (by omega) (by omega), add_in (x := (d2 : Int)) (by omega) (by omega), mul_in (x := (d0 : Int) + 1) (by rw [p1]; omega) (by rw [p1]; omega), p1, mul_in (by rw [p2]; omega) (by rw [p2]; omega), p2]
  obtain ⟨ls, ms, g1, g2, g3, g4⟩ := grid_l5 n p b.2.1 b.2.2 [(d0 : Int), (d1 : Int), (d2 : Int)] (repL ((d0 + 1) * (d1 + 1) * (d2 + 1)) 0) b.1 (fun z11 z12 z13 z14 z15 z16 => fn_spec_beGrid.l11 n n z11 z12 z13 z14 z15 z11 z16 (ilen z11) 0 (fun z109 z110 => some (z110, z109))) w2.2 w3 b.2.1.length n 0 [0, 0, 0] [0, 0, 0] (by omega) (by omega) (by omega) rfl rfl (fun m hm => by omega) (fun m _ => by
    match m with
    | 0 => exact ⟨rfl, rfl⟩
    | 1 => exact ⟨rfl, rfl⟩
    | 2 => exact ⟨rfl, rfl⟩
    | m + 3 => exact ⟨cf_out _ _ (by simp), cf_out _ _ (by simp)⟩)
  have hbd : Bd3 ls ms := ⟨g2, g3, fun m hm => by
    rw [(g4 m).1, (g4 m).2]
    by_cases h : m < b.2.1.length
    · obtain ⟨x, y, e1, e2, e3, e4, e5⟩ := w4 m h
      have e1' : cf b.2.1 m = x := e1
      have e2' : cf b.2.2 m = y := e2
      rw [e1', e2']
      omega
    · rw [cf_out _ _ (by omega), cf_out _ _ (by omega)]; omega⟩
  obtain ⟨o, h1, h2, h3, h5⟩ := grid_l11 n p ls ms d0 d1 d2 b.1 (fun z109 z110 => some (z110, z109)) hp ⟨w1.1, hk⟩ hd hbd hn p.length n 0 (repL ((d0 + 1) * (d1 + 1) * (d2 + 1)) 0) (by omega) (by omega) (by omega) (rep_len _) (rep_inR _)
  refine ⟨o, ?_, h2, h3, fun x y z hx hy hz => ?_⟩
  · unfold fn_spec_beGrid.f
    rw [beDegrees_f n p b (by omega) hn hb, Option.bind_some, eD, okIx_t (i := 0) (by omega) (by rw [ilen_eq]; simp), br_t, okIx_t (i := 1) (by omega) (by rw [ilen_eq]; simp), br_t, okIx_t (i := 2) (by omega) (by rw [ilen_eq]; simp), br_t, r0, r1, r2, hN, okMake_t (by omega) (by omega) (by omega), br_t, nat_cast]
    exact g1.trans h1
  · refine (h5 x y z hx hy hz).trans ?_
    rw [cf_rep, Int.zero_add]
    unfold GV tmV
    rw [(g4 0).1, (g4 1).1, (g4 2).1, (g4 0).2, (g4 1).2, (g4 2).2]
    exact eqm_refl _
end
end Go.Proofs.Ytpfjneaoankllaa.Z

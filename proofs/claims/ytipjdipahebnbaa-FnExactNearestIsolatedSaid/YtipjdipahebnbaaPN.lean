/- The nearest interval: both sides agree. -/
import Derived.Test.YtipjdipahebnbaaPD
set_option linter.unusedVariables false
set_option linter.unusedSimpArgs false
set_option maxRecDepth 100000
namespace Go.Proofs.Ytipjdipahebnbaa.Z
open Go.Proofs.Ytipjdipahebnbaa.Ev
noncomputable section
theorem cmpN_f (a b : Int × Int) (ha : DV a) (hb : DV b) : fn_impl_compareD.f 5000000 a b = some (sg (X24 a - X24 b)) := cmpD_f 4999997 a b ha hb
theorem sumN_f (a b : Int × Int) (ha : DV a) (hb : DV b) : fn_impl_sumOf.f 5000000 a b = some (sumD a b 0) := sumOf_f 4999997 a b ha hb (by omega)
theorem midN_f (a b : Int × Int) (ha : DV a) (hb : DV b) : fn_impl_middleOf.f 5000000 a b = some (sumD a b 1) := middleOf_f 4999997 a b ha hb (by omega)
def ivB (v : (Int × Int) × (Int × Int)) : Bool := dyB v.1 && (dyB v.2 && leI (sg (X24 v.1 - X24 v.2)) 0)
theorem iInt_f (v : (Int × Int) × (Int × Int)) : fn_impl_isInterval.f 5000000 v = some (ivB v) := by
  unfold fn_impl_isInterval.f ivB
  rw [isDyadic_f, Option.bind_some]
  cases h1 : dyB v.1
  · rfl
  · rw [br_t, isDyadic_f, Option.bind_some, Bool.true_and]
    cases h2 : dyB v.2
    · rfl
    · rw [br_t, cmpN_f _ _ (dyB_DV h1) (dyB_DV h2)]
      rfl
theorem sInt_f (v : (Int × Int) × (Int × Int)) : fn_spec_ivGood.f 5000000 v = some (ivB v) := by
  unfold fn_spec_ivGood.f ivB
  rw [dyGood_f, Option.bind_some]
  cases h1 : dyB v.1
  · rfl
  · rw [br_t, dyGood_f, Option.bind_some, Bool.true_and]
    cases h2 : dyB v.2
    · rfl
    · rw [br_t, dyCmp_f _ _ _ (dyB_DV h1) (dyB_DV h2) (by omega)]
      rfl
theorem so_l {R : Type} (l : List ((Int × Int) × (Int × Int))) (K0 : Bool → Option R) (K1 : List ((Int × Int) × (Int × Int)) → Option R) : ∀ (d k i : Nat), l.length - i = d → i ≤ l.length → d < k → l.length ≤ 1000000 →
    fn_spec_soList.l2 5000000 k l l (ilen l) (i : Int) K0 K1 = br ((l.drop i).all ivB) (K1 l) (K0 false) := by
  intro d
  induction d with
  | zero =>
    intro k i hd hi hk hl
    obtain ⟨k, rfl⟩ : ∃ m, k = m + 1 := ⟨k - 1, by omega⟩
    obtain rfl : i = l.length := by omega
    simp only [fn_spec_soList.l2]
    rw [ltI_f (by rw [ilen_eq]; omega), br_f, List.drop_length]
    rfl
  | succ d ih =>
    intro k i hd hi hk hl
    obtain ⟨k, rfl⟩ : ∃ m, k = m + 1 := ⟨k - 1, by omega⟩
    have hlt : i < l.length := by omega
    simp only [fn_spec_soList.l2]
    rw [ltI_t (by rw [ilen_eq]; omega), br_t, okIx_t (by omega) (by rw [ilen_eq]; omega), br_t, nat_cast, rd_at IvE l i hlt, sInt_f, Option.bind_some, List.drop_eq_getElem_cons hlt, List.all_cons]
    cases ivB l[i]
    · rfl
    · rw [bnot_t, br_f, add_one i (by omega), Bool.true_and]
      exact ih k (i + 1) (by omega) (by omega) (by omega) hl
theorem so_f (l : List ((Int × Int) × (Int × Int))) (hl : l.length ≤ 1000000) : fn_spec_soList.f 5000000 l = some (l.all ivB && leI (ilen l) 10) := by
  unfold fn_spec_soList.f
  refine (so_l l _ _ l.length 5000000 0 (by omega) (by omega) (by omega) hl).trans ?_
  rw [List.drop_zero]
  cases l.all ivB <;> rfl
theorem ix_l {R : Type} (l : List ((Int × Int) × (Int × Int))) (K0 : Int → Option R) (K1 : Unit → Option R) : ∀ (d k i : Nat), l.length - i = d → i ≤ l.length → d < k → l.length ≤ 1000000 →
    ∃ j : Nat, fn_impl_Interval__133_f111.l2 5000000 k l (ilen l) (i : Int) K0 K1 = br ((l.drop i).all ivB) (K1 ()) (K0 (j : Int)) := by
  intro d
  induction d with
  | zero =>
    intro k i hd hi hk hl
    obtain ⟨k, rfl⟩ : ∃ m, k = m + 1 := ⟨k - 1, by omega⟩
    obtain rfl : i = l.length := by omega
    refine ⟨0, ?_⟩
    simp only [fn_impl_Interval__133_f111.l2]
    rw [ltI_f (by rw [ilen_eq]; omega), br_f, List.drop_length]
    rfl
  | succ d ih =>
    intro k i hd hi hk hl
    obtain ⟨k, rfl⟩ : ∃ m, k = m + 1 := ⟨k - 1, by omega⟩
    have hlt : i < l.length := by omega
    simp only [fn_impl_Interval__133_f111.l2]
    have e : fn_impl_areIntervals_1.f 5000000 l[i] = some (bnot (ivB l[i])) := by
      unfold fn_impl_areIntervals_1.f
      rw [iInt_f]
      rfl
    rw [ltI_t (by rw [ilen_eq]; omega), br_t, okIx_t (by omega) (by rw [ilen_eq]; omega), br_t, nat_cast, rd_at IvE l i hlt, e, Option.bind_some, List.drop_eq_getElem_cons hlt, List.all_cons]
    cases ivB l[i]
    · exact ⟨i, rfl⟩
    · rw [bnot_t, br_f, add_one i (by omega), Bool.true_and]
      exact ih k (i + 1) (by omega) (by omega) (by omega) hl
theorem are_f (l : List ((Int × Int) × (Int × Int))) (hl : l.length ≤ 1000000) : fn_impl_areIntervals.f 5000000 l = some (leI (ilen l) 10 && l.all ivB) := by
  unfold fn_impl_areIntervals.f
  cases leI (ilen l) 10
  · rfl
  · rw [br_t, Bool.true_and]
    unfold fn_impl_Interval__f111.f fn_impl_Interval__133_f111.f
    obtain ⟨j, hj⟩ := ix_l l (fun (z4 : Int) => some z4) (fun _ => some ((-1 : Int))) l.length 5000000 0 (by omega) (by omega) (by omega) hl
    have hj : fn_impl_Interval__133_f111.l2 5000000 5000000 l (ilen l) 0 (fun (z4 : Int) => some z4) (fun _ => some ((-1 : Int))) = _ := hj
    rw [hj, List.drop_zero]
    cases l.all ivB
    · rw [br_f, Option.bind_some, Option.bind_some, leI_t (by omega)]; rfl
    · rw [br_t, Option.bind_some, Option.bind_some, leI_f (by omega)]; rfl
/-- The nearest one: which it is, and how far. -/
def nearL (x : Int × Int) : List ((Int × Int) × (Int × Int)) → Nat → Int → (Int × Int) → Option Int
  | [], _, best, _ => some best
  | v :: r, i, best, least =>
    if (sumD v.1 v.2 1).2 = false then none else
    if (sumD (sumD v.1 v.2 1).1 (-x.1, x.2) 0).2 = false then none else
    if i = 0 ∨ sg (X24 (((sumD (sumD v.1 v.2 1).1 (-x.1, x.2) 0).1.1.natAbs : Int), (sumD (sumD v.1 v.2 1).1 (-x.1, x.2) 0).1.2) - X24 least) < 0
    then nearL x r (i + 1) (i : Int) (((sumD (sumD v.1 v.2 1).1 (-x.1, x.2) 0).1.1.natAbs : Int), (sumD (sumD v.1 v.2 1).1 (-x.1, x.2) 0).1.2)
    else nearL x r (i + 1) best least
def endN {R : Type} (K0 : Int → Bool → Option R) (K1 : Int → Option R) : Option Int → Option R
  | some b => K1 b
  | none => K0 0 false
theorem abs_dyB {a : Int × Int} (h : dyB a = true) : dyB ((a.1.natAbs : Int), a.2) = true := by
  have hd := dyB_DV h
  obtain ⟨h1, h2, h3, h4⟩ := hd
  have ho := dyB_odd h
  have e : ((a.1.natAbs : Int), a.2) = (sv false a.1.natAbs, (a.2.toNat : Int)) := Prod.ext rfl (by dsimp only; omega)
  rw [e]
  exact dyB_iff _ _ _ (by omega) (by omega) (by omega)
theorem dySub_f (a b : Int × Int) (ha : dyB a = true) (hb : dyB b = true) : fn_spec_dySub.f 5000000 a b = some (sumD a (-b.1, b.2) 0) := by
  unfold fn_spec_dySub.f fn_spec_dyMinus.f
  obtain ⟨e1, e2⟩ := minus_dyB hb
  rw [e1, Option.bind_some, dyAdd_f _ _ _ ha e2 (by omega)]
  rfl
theorem sNear_l {R : Type} (x : Int × Int) (hx : dyB x = true) (l : List ((Int × Int) × (Int × Int))) (hv : ∀ v ∈ l, ivB v = true) (K0 : Int → Bool → Option R) (K1 : Int → Option R) : ∀ (d k i : Nat) (best : Int) (least : Int × Int), l.length - i = d → i ≤ l.length → d < k → l.length ≤ 1000000 → dyB least = true →
    fn_spec_NearestIsolated.l5 5000000 k [x] [least] l best (ilen l) (i : Int) K0 K1 = endN K0 K1 (nearL x (l.drop i) i best least) := by
  intro d
  induction d with
  | zero =>
    intro k i best least hd hi hk hl hle
    obtain ⟨k, rfl⟩ : ∃ m, k = m + 1 := ⟨k - 1, by omega⟩
    obtain rfl : i = l.length := by omega
    simp only [fn_spec_NearestIsolated.l5]
    rw [ltI_f (by rw [ilen_eq]; omega), br_f, List.drop_length]
    rfl
  | succ d ih =>
    intro k i best least hd hi hk hl hle
    obtain ⟨k, rfl⟩ : ∃ m, k = m + 1 := ⟨k - 1, by omega⟩
    have hlt : i < l.length := by omega
    have hiv := hv l[i] (List.getElem_mem hlt)
    unfold ivB at hiv
    simp only [Bool.and_eq_true] at hiv
    have r0 : ∀ y : Int × Int, rd (.pair (.int .i64) (.int .i64)) [y] 0 = y := fun y => rfl
    have s0 : ∀ y z : Int × Int, setL [z] 0 y = [y] := fun y z => rfl
    simp only [fn_spec_NearestIsolated.l5]
    rw [ltI_t (by rw [ilen_eq]; omega), br_t, okIx_t (by omega) (by rw [ilen_eq]; omega), br_t, nat_cast, rd_at IvE l i hlt, dyHalf_f _ _ _ hiv.1 hiv.2.1 (by omega), Option.bind_some, List.drop_eq_getElem_cons hlt]
    simp only [nearL, r0, s0]
    have m1 := sumD_dyB l[i].1 l[i].2 1
    generalize sumD l[i].1 l[i].2 1 = m at *
    cases hm : m.2
    · rw [bnot_f, br_t, if_pos rfl]; rfl
    · rw [bnot_t, br_f, if_neg (by simp), dySub_f _ _ m1 hx, Option.bind_some]
      have d1 := sumD_dyB m.1 (-x.1, x.2) 0
      generalize sumD m.1 (-x.1, x.2) 0 = q at *
      cases hq : q.2
      · rw [bnot_f, br_t, if_pos rfl]; rfl
      · have hb := dyB_DV d1
        have ha : fn_spec_l1Abs.f 5000000 q.1.1 = some (q.1.1.natAbs : Int) := by
          unfold fn_spec_l1Abs.f
          rw [sub_in (by have := hb.2.2; omega) (by have := hb.2.2; omega), most_f, Option.bind_some]
          unfold mx
          congr 1
          split <;> omega
        rw [bnot_t, br_f, if_neg (by simp), ha, Option.bind_some]
        have a1 := abs_dyB d1
        by_cases h0 : i = 0
        · rw [eqI_t (by omega), br_t, if_pos (.inl h0), add_one i (by omega)]
          exact ih k (i + 1) _ _ (by omega) (by omega) (by omega) hl a1
        · rw [eqI_f (by omega), br_f, dyCmp_f _ _ _ (dyB_DV a1) (dyB_DV hle) (by omega), Option.bind_some]
          by_cases hs : sg (X24 ((q.1.1.natAbs : Int), q.1.2) - X24 least) < 0
          · rw [ltI_t hs, br_t, if_pos (.inr hs), add_one i (by omega)]
            exact ih k (i + 1) _ _ (by omega) (by omega) (by omega) hl a1
          · rw [ltI_f hs, br_f, if_neg (by omega), add_one i (by omega)]
            exact ih k (i + 1) _ _ (by omega) (by omega) (by omega) hl hle
theorem iNear_l {R : Type} (x : Int × Int) (hx : dyB x = true) (l : List ((Int × Int) × (Int × Int))) (hv : ∀ v ∈ l, ivB v = true) (K0 : Int → Bool → Option R) (K1 : Int → Option R) : ∀ (d k i : Nat) (best : Int) (least : Int × Int), l.length - i = d → i ≤ l.length → d < k → l.length ≤ 1000000 → dyB least = true → (best < 0 ↔ i = 0) →
    fn_impl_NearestIsolated.l5 5000000 k [x] [least] l best (ilen l) (i : Int) K0 K1 = endN K0 K1 (nearL x (l.drop i) i best least) := by
  intro d
  induction d with
  | zero =>
    intro k i best least hd hi hk hl hle hbi
    obtain ⟨k, rfl⟩ : ∃ m, k = m + 1 := ⟨k - 1, by omega⟩
    obtain rfl : i = l.length := by omega
    simp only [fn_impl_NearestIsolated.l5]
    rw [ltI_f (by rw [ilen_eq]; omega), br_f, List.drop_length]
    rfl
  | succ d ih =>
    intro k i best least hd hi hk hl hle hbi
    obtain ⟨k, rfl⟩ : ∃ m, k = m + 1 := ⟨k - 1, by omega⟩
    have hlt : i < l.length := by omega
    have hiv := hv l[i] (List.getElem_mem hlt)
    unfold ivB at hiv
    simp only [Bool.and_eq_true] at hiv
    have r0 : ∀ y : Int × Int, rd (.pair (.int .i64) (.int .i64)) [y] 0 = y := fun y => rfl
    have s0 : ∀ y z : Int × Int, setL [z] 0 y = [y] := fun y z => rfl
    have mn : ∀ y : Int × Int, dyB y = true → fn_impl_minus.f 5000000 y = some (-y.1, y.2) := fun y hy => by
      unfold fn_impl_minus.f
      rw [(minus_dyB hy).1]
    simp only [fn_impl_NearestIsolated.l5, fn_impl_NearestIsolated.s8, r0, s0, agree_self]
    rw [ltI_t (by rw [ilen_eq]; omega), br_t, okIx_t (by omega) (by rw [ilen_eq]; omega), br_t, nat_cast, rd_at IvE l i hlt, midN_f _ _ (dyB_DV hiv.1) (dyB_DV hiv.2.1), Option.bind_some, List.drop_eq_getElem_cons hlt, mn x hx, Option.bind_some]
    simp only [nearL]
    have m1 := sumD_dyB l[i].1 l[i].2 1
    generalize sumD l[i].1 l[i].2 1 = m at *
    rw [sumN_f _ _ (dyB_DV m1) (dyB_DV (minus_dyB hx).2), Option.bind_some]
    have d1 := sumD_dyB m.1 (-x.1, x.2) 0
    generalize sumD m.1 (-x.1, x.2) 0 = q at *
    cases hm : m.2
    · rw [bnot_f, br_t, if_pos rfl]; rfl
    · rw [bnot_t, br_f, if_neg (by simp)]
      cases hq : q.2
      · rw [bnot_f, br_t, if_pos rfl]; rfl
      · rw [bnot_t, br_f, if_neg (by simp)]
        have a1 := abs_dyB d1
        have rest : ∀ e : Int × Int, e = ((q.1.1.natAbs : Int), q.1.2) → br (ltI best 0) (fn_impl_NearestIsolated.l5 5000000 k [x] [e] l (i : Int) (ilen l) (add .i64 (i : Int) 1) K0 K1)
            ((fn_impl_compareD.f 5000000 e least).bind fun (y34 : Int) => br (ltI y34 0) (fn_impl_NearestIsolated.l5 5000000 k [x] [e] l (i : Int) (ilen l) (add .i64 (i : Int) 1) K0 K1) (fn_impl_NearestIsolated.l5 5000000 k [x] [least] l best (ilen l) (add .i64 (i : Int) 1) K0 K1)) =
            endN K0 K1 (if i = 0 ∨ sg (X24 ((q.1.1.natAbs : Int), q.1.2) - X24 least) < 0 then nearL x (l.drop (i + 1)) (i + 1) (i : Int) ((q.1.1.natAbs : Int), q.1.2) else nearL x (l.drop (i + 1)) (i + 1) best least) := fun e he => by
          subst he
          by_cases h0 : i = 0
          · rw [ltI_t (hbi.2 h0), br_t, if_pos (.inl h0), add_one i (by omega)]
            exact ih k (i + 1) _ _ (by omega) (by omega) (by omega) hl a1 (by omega)
          · rw [ltI_f (fun h => h0 (hbi.1 h)), br_f, cmpN_f _ _ (dyB_DV a1) (dyB_DV hle), Option.bind_some]
            by_cases hs : sg (X24 ((q.1.1.natAbs : Int), q.1.2) - X24 least) < 0
            · rw [ltI_t hs, br_t, if_pos (.inr hs), add_one i (by omega)]
              exact ih k (i + 1) _ _ (by omega) (by omega) (by omega) hl a1 (by omega)
            · rw [ltI_f hs, br_f, if_neg (by omega), add_one i (by omega)]
              exact ih k (i + 1) _ _ (by omega) (by omega) (by omega) hl hle (by omega)
        by_cases hneg : q.1.1 < 0
        · rw [ltI_t hneg, br_t, mn _ d1, Option.bind_some]
          exact rest _ (Prod.ext (by dsimp only; omega) rfl)
        · rw [ltI_f hneg, br_f]
          exact rest _ (Prod.ext (by dsimp only; omega) rfl)
def nearD (l : List ((Int × Int) × (Int × Int))) (x : Int × Int) : Int × Bool :=
  if (l.all ivB && leI (ilen l) 10) = true ∧ ¬ ilen l = 0 ∧ dyB x = true then (match nearL x l 0 0 (0, 0) with | some b => (b, true) | none => (0, false)) else (0, false)
theorem near_first (x : Int × Int) (l : List ((Int × Int) × (Int × Int))) (h : ¬ ilen l = 0) : nearL x l 0 (-1) (0, 0) = nearL x l 0 0 (0, 0) := by
  cases l with
  | nil => exact absurd rfl h
  | cons v r => simp only [nearL, true_or, if_true]
theorem zero_dyB : dyB ((0 : Int), (0 : Int)) = true := dyB_iff false 0 0 (.inl rfl) (by omega) (by omega)
theorem sNear_f (l : List ((Int × Int) × (Int × Int))) (x : Int × Int) (hl : l.length ≤ 1000000) : fn_spec_NearestIsolated.f 5000000 l x = some (nearD l x) := by
  unfold fn_spec_NearestIsolated.f nearD
  rw [so_f l hl, Option.bind_some]
  cases h1 : (l.all ivB && leI (ilen l) 10)
  · rw [bnot_f, br_t, if_neg (by simp)]
  · rw [bnot_t, br_f]
    by_cases h2 : ilen l = 0
    · rw [eqI_t h2, br_t, if_neg (by simp [h2])]
    · rw [eqI_f h2, br_f, dyGood_f, Option.bind_some]
      cases h3 : dyB x
      · rw [bnot_f, br_t, if_neg (by simp)]
      · rw [bnot_t, br_f, if_pos ⟨rfl, h2, rfl⟩]
        have hv : ∀ v ∈ l, ivB v = true := fun v hv => by
          rw [Bool.and_eq_true] at h1
          exact List.all_eq_true.1 h1.1 v hv
        refine (sNear_l x h3 l hv _ _ l.length 5000000 0 0 (0, 0) (by omega) (by omega) (by omega) hl zero_dyB).trans ?_
        rw [List.drop_zero]
        cases nearL x l 0 0 (0, 0) <;> rfl
theorem iNear_f (l : List ((Int × Int) × (Int × Int))) (x : Int × Int) (hl : l.length ≤ 1000000) : fn_impl_NearestIsolated.f 5000000 l x = some (nearD l x) := by
  unfold fn_impl_NearestIsolated.f nearD
  rw [are_f l hl, Option.bind_some, Bool.and_comm]
  cases h1 : (l.all ivB && leI (ilen l) 10)
  · rw [bnot_f, br_t, if_neg (by simp)]
  · rw [bnot_t, br_f]
    by_cases h2 : ilen l = 0
    · rw [eqI_t h2, br_t, if_neg (by simp [h2])]
    · rw [eqI_f h2, br_f, isDyadic_f, Option.bind_some]
      cases h3 : dyB x
      · rw [bnot_f, br_t, if_neg (by simp)]
      · rw [bnot_t, br_f, if_pos ⟨rfl, h2, rfl⟩]
        have hv : ∀ v ∈ l, ivB v = true := fun v hv => by
          rw [Bool.and_eq_true] at h1
          exact List.all_eq_true.1 h1.1 v hv
        refine (iNear_l x h3 l hv _ _ l.length 5000000 0 (-1) (0, 0) (by omega) (by omega) (by omega) hl zero_dyB (by omega)).trans ?_
        rw [List.drop_zero, near_first x l h2]
        cases nearL x l 0 0 (0, 0) <;> rfl
theorem pureNear (p : List ((Int × Int) × (Int × Int))) (v : Int × Int) (hw : Ev.WF (.slice 32 IvE) p) (_ : Ev.WF (.pair I64 I64) v) : ∃ n, fn_laws_FnExactNearestIsolated.f n p v = some true := by
  refine ⟨5000000, ?_⟩
  unfold fn_laws_FnExactNearestIsolated.f fn_laws_szIntervalS.f

  have hlen : p.length ≤ 9223372036854775807 := Nat.le_trans hw.1 (by decide)
  rw [sub_in (by rw [ilen_eq]; omega) (by rw [ilen_eq]; omega)]
  by_cases hl : p.length ≤ 1000000
  · obtain ⟨r, hr, hr2⟩ := toIntervalS_b 5000000 p hl (by omega)
    have hr2 : preL r p.length = p := hr2
    rw [ltI_f (by rw [ilen_eq]; omega), br_f, Option.bind_some, ltI_f (by rw [ilen_eq]; omega), br_f, toIntervalS_nb _ p hl (by omega), Option.bind_some, toDyadic_f, Option.bind_some]
    dsimp only
    rw [rowIntervalS_take, sNear_f p v hl, Option.bind_some, Option.bind_some, Option.bind_some]
    dsimp only
    rw [rowIntervalS_take, iNear_f p v hl, Option.bind_some, neI_f rfl, br_f, boolEq_self, bnot_t, br_f, Option.bind_some]
    rw [intactIntervalS_self _ _ _ (by omega) hl (by rw [rowIntervalS_len]; omega), Option.bind_some]
    dsimp only
    rw [bnot_t, br_f, hr, Option.bind_some, Option.bind_some]
    dsimp only
    rw [hr2, iNear_f p v hl, Option.bind_some, neI_f rfl, br_f, boolEq_self, bnot_t, br_f]
  · rw [ltI_t (by rw [ilen_eq]; omega), br_t, Option.bind_some, ltI_t (by omega), br_t]
end
end Go.Proofs.Ytipjdipahebnbaa.Z

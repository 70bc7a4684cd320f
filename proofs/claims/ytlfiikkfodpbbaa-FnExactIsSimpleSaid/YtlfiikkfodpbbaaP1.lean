/- Polygons and the helpers of the laws, told plainly. -/
import Derived.Test.YtlfiikkfodpbbaaG1
set_option linter.unusedVariables false
set_option linter.unusedSimpArgs false
set_option maxRecDepth 100000
namespace Go.Proofs.Ytlfiikkfodpbbaa.Z
open Go.Proofs.Ytlfiikkfodpbbaa.Ev
noncomputable section
abbrev Sp : Ty := .pair (.int .i64) (.int .i64)
def cor (l : List (Int × Int)) (i : Nat) : Int × Int := rd Sp l i
def nx (l : List (Int × Int)) (i : Nat) : Int × Int := rd Sp l ((i + 1) % l.length)
theorem nx_rem (l : List (Int × Int)) (i : Nat) (hi : i < l.length) (hl : l.length ≤ 1000000) : rem (add .i64 (i : Int) 1) (ilen l) = (((i + 1) % l.length : Nat) : Int) := by
  rw [add_one i (by omega), ilen_eq]
  unfold rem
  rw [Int.tmod_eq_emod_of_nonneg (by omega)]
  omega
theorem nx_lt (l : List (Int × Int)) (i : Nat) (hi : i < l.length) : (i + 1) % l.length < l.length := Nat.mod_lt _ (by omega)
theorem wiNext_f (n : Nat) (l : List (Int × Int)) (i : Nat) (hi : i < l.length) (hl : l.length ≤ 1000000) : fn_spec_wiNext.f n l (i : Int) = some (nx l i) := by
  unfold fn_spec_wiNext.f
  have h := nx_lt l i hi
  rw [eqI_f (by rw [ilen_eq]; omega), br_f, nx_rem l i hi hl, okIx_t (by omega) (by rw [ilen_eq]; omega), br_t, nat_cast]
  rfl
def inB (x a b : Int) : Bool := leI a x && leI x b
theorem inside_f (n : Nat) (x a b : Int) : fn_impl_inside.f n x a b = some (inB x a b) := by
  unfold fn_impl_inside.f inB
  cases leI a x <;> rfl
theorem l1In_f (n : Nat) (x a b : Int) : fn_spec_l1In.f n x a b = some (inB x a b) := inside_f n x a b
def spotB (a : Int × Int) : Bool := inB a.1 (-1000) 1000 && inB a.2 (-1000) 1000
theorem isSpot_f (n : Nat) (a : Int × Int) : fn_impl_isSpot.f n a = some (spotB a) := by
  unfold fn_impl_isSpot.f spotB
  rw [inside_f, Option.bind_some]
  cases inB a.1 (-1000) 1000
  · rfl
  · rw [br_t, inside_f]; rfl
theorem wiSpot_f (n : Nat) (a : Int × Int) : fn_spec_wiSpot.f n a = some (spotB a) := isSpot_f n a
def samB (a b : Int × Int) : Bool := andB (eqI a.1 b.1) (eqI a.2 b.2)
def polyS (l : List (Int × Int)) : Nat → Nat → Bool
  | 0, _ => true
  | d + 1, i => spotB (cor l i) && (!samB (cor l i) (nx l i) && polyS l d (i + 1))
theorem isPolygon_l {R : Type} (n : Nat) (l : List (Int × Int)) (K0 : Bool → Option R) (K1 : Unit → Option R) (hl : l.length ≤ 1000000) : ∀ (d k i : Nat), l.length - i = d → i ≤ l.length → d < k →
    fn_impl_isPolygon.l4 n k l l (ilen l) (i : Int) K0 K1 = br (polyS l d i) (K1 ()) (K0 false) := by
  intro d
  induction d with
  | zero =>
    intro k i hd hi hk
    obtain ⟨k, rfl⟩ : ∃ m, k = m + 1 := ⟨k - 1, by omega⟩
    simp only [fn_impl_isPolygon.l4, polyS]
    rw [ltI_f (by rw [ilen_eq]; omega), br_f]; rfl
  | succ d ih =>
    intro k i hd hi hk
    obtain ⟨k, rfl⟩ : ∃ m, k = m + 1 := ⟨k - 1, by omega⟩
    have hlt : i < l.length := by omega
    have hn := nx_lt l i hlt
    simp only [fn_impl_isPolygon.l4, polyS]
    rw [ltI_t (by rw [ilen_eq]; omega), br_t, okIx_t (by omega) (by rw [ilen_eq]; omega), br_t, isSpot_f, Option.bind_some, nat_cast]
    change br (bnot (spotB (cor l i))) _ _ = _
    cases spotB (cor l i)
    · rfl
    · rw [bnot_t, br_f, eqI_f (by rw [ilen_eq]; omega), br_f, nx_rem l i hlt hl, okIx_t (by omega) (by rw [ilen_eq]; omega), br_t, nat_cast]
      change br (samB (cor l i) (nx l i)) _ _ = _
      cases samB (cor l i) (nx l i)
      · rw [br_f, add_one i (by omega)]
        exact ih k (i + 1) (by omega) (by omega) (by omega)
      · rfl
theorem wiGood_l {R : Type} (n : Nat) (l : List (Int × Int)) (K0 : Bool → Option R) (K1 : Unit → Option R) (hl : l.length ≤ 1000000) : ∀ (d k i : Nat), l.length - i = d → i ≤ l.length → d < k →
    fn_spec_wiGood.l4 n k l l (ilen l) (i : Int) K0 K1 = br (polyS l d i) (K1 ()) (K0 false) := by
  intro d
  induction d with
  | zero =>
    intro k i hd hi hk
    obtain ⟨k, rfl⟩ : ∃ m, k = m + 1 := ⟨k - 1, by omega⟩
    simp only [fn_spec_wiGood.l4, polyS]
    rw [ltI_f (by rw [ilen_eq]; omega), br_f]; rfl
  | succ d ih =>
    intro k i hd hi hk
    obtain ⟨k, rfl⟩ : ∃ m, k = m + 1 := ⟨k - 1, by omega⟩
    have hlt : i < l.length := by omega
    simp only [fn_spec_wiGood.l4, polyS]
    rw [ltI_t (by rw [ilen_eq]; omega), br_t, okIx_t (by omega) (by rw [ilen_eq]; omega), br_t, wiSpot_f, Option.bind_some, nat_cast]
    change br (bnot (spotB (cor l i))) _ _ = _
    cases spotB (cor l i)
    · rfl
    · rw [bnot_t, br_f, wiNext_f n l i hlt hl, Option.bind_some]
      change br (samB (cor l i) (nx l i)) _ _ = _
      cases samB (cor l i) (nx l i)
      · rw [br_f, add_one i (by omega)]
        exact ih k (i + 1) (by omega) (by omega) (by omega)
      · rfl
def goodB (l : List (Int × Int)) : Bool := inB (ilen l) 2 24 && polyS l l.length 0
theorem isPolygon_f (n : Nat) (l : List (Int × Int)) (hl : l.length ≤ 1000000) (hn : 1000001 < n) : fn_impl_isPolygon.f n l = some (goodB l) := by
  unfold fn_impl_isPolygon.f goodB
  rw [inside_f, Option.bind_some]
  cases inB (ilen l) 2 24
  · rfl
  · rw [bnot_t, br_f, Bool.true_and]
    refine (isPolygon_l n l _ _ hl l.length n 0 (by omega) (by omega) (by omega)).trans ?_
    cases polyS l l.length 0 <;> rfl
theorem wiGood_f (n : Nat) (l : List (Int × Int)) (hl : l.length ≤ 1000000) (hn : 1000001 < n) : fn_spec_wiGood.f n l = some (goodB l) := by
  unfold fn_spec_wiGood.f goodB
  rw [l1In_f, Option.bind_some]
  cases inB (ilen l) 2 24
  · rfl
  · rw [bnot_t, br_f, Bool.true_and]
    refine (wiGood_l n l _ _ hl l.length n 0 (by omega) (by omega) (by omega)).trans ?_
    cases polyS l l.length 0 <;> rfl
theorem goodB_len {l : List (Int × Int)} (h : goodB l = true) : 2 ≤ l.length ∧ l.length ≤ 24 := by
  unfold goodB inB at h
  simp only [Bool.and_eq_true] at h
  have h1 := leI_of h.1.1
  have h2 := leI_of h.1.2
  rw [ilen_eq] at h1 h2
  omega
def turnI (a b c : Int × Int) : Int := sub .i64 (mul .i64 (sub .i64 b.1 a.1) (sub .i64 c.2 a.2)) (mul .i64 (sub .i64 b.2 a.2) (sub .i64 c.1 a.1))
theorem turn_f (n : Nat) (a b c : Int × Int) : fn_impl_turn.f n a b c = some (turnI a b c) := rfl
theorem wiSide_f (n : Nat) (a b c : Int × Int) : fn_spec_wiSide.f n a b c = some (turnI a b c) := rfl
def betB (a b c : Int × Int) : Bool := eqI (turnI a b c) 0 && (inB c.1 (mn a.1 b.1) (mx a.1 b.1) && inB c.2 (mn a.2 b.2) (mx a.2 b.2))
theorem isBetween_f (n : Nat) (a b c : Int × Int) : fn_impl_isBetween.f n a b c = some (betB a b c) := by
  unfold fn_impl_isBetween.f betB
  rw [turn_f, Option.bind_some]
  cases eqI (turnI a b c) 0
  · rfl
  · rw [br_t, inside_f, Option.bind_some, Bool.true_and]
    cases inB c.1 (mn a.1 b.1) (mx a.1 b.1)
    · rfl
    · rw [br_t, inside_f]; rfl
theorem least_f (n : Nat) (a b : Int) : fn_spec_l1Least.f n a b = some (mn a b) := by
  unfold fn_spec_l1Least.f mn
  by_cases h : a < b
  · rw [ltI_t h, br_t, if_neg (by omega)]
  · rw [ltI_f h, br_f]
    by_cases h2 : b < a
    · rw [if_pos h2]
    · rw [if_neg h2, show a = b from by omega]
theorem most_f (n : Nat) (a b : Int) : fn_spec_l1Most.f n a b = some (mx a b) := by
  unfold fn_spec_l1Most.f mx
  by_cases h : b < a
  · rw [ltI_t h, br_t, if_neg (by omega)]
  · rw [ltI_f h, br_f]
    by_cases h2 : b > a
    · rw [if_pos h2]
    · rw [if_neg h2, show a = b from by omega]
theorem wiOnEdge_f (n : Nat) (a b c : Int × Int) : fn_spec_wiOnEdge.f n a b c = some (betB a b c) := by
  unfold fn_spec_wiOnEdge.f betB
  rw [wiSide_f, Option.bind_some]
  cases eqI (turnI a b c) 0
  · rfl
  · rw [br_t, least_f, Option.bind_some, most_f, Option.bind_some, l1In_f, Option.bind_some, Bool.true_and]
    cases inB c.1 (mn a.1 b.1) (mx a.1 b.1)
    · rfl
    · rw [br_t, least_f, Option.bind_some, most_f, Option.bind_some, l1In_f]; rfl
theorem sz_f (n : Nat) (l : List (Int × Int)) (hl : l.length ≤ 1000000) : fn_laws_szSpotS.f n l 1000000 = some (1000000 - (l.length : Int)) := by
  unfold fn_laws_szSpotS.f
  rw [ilen_eq, sub_in (by omega) (by omega), ltI_f (by omega), br_f]
theorem sz_t (n : Nat) (l : List (Int × Int)) (hl : ¬ l.length ≤ 1000000) (hm : l.length ≤ 9223372036854775807) : fn_laws_szSpotS.f n l 1000000 = some (-1) := by
  unfold fn_laws_szSpotS.f
  rw [ilen_eq, sub_in (by omega) (by omega), ltI_t (by omega), br_t]
theorem toSpot_f (n : Nat) (a : Int × Int) : fn_laws_toSpot.f n a = some a := rfl
theorem eqSpot_self (n : Nat) (a : Int × Int) : fn_laws_eqSpot.f n a a = some true := by
  unfold fn_laws_eqSpot.f
  rw [neI_f rfl, br_f, neI_f rfl, br_f]
theorem filler_f (n : Nat) : fn_laws_fillerSpot.f n = some (-7000000000000000101, -7000000000000000101) := rfl
theorem room_f (n m : Nat) (hm : m ≤ 4000000) : fn_laws_roomBehind.f n (m : Int) = some ((roomN m : Nat) : Int) := by
  unfold fn_laws_roomBehind.f roomN
  rw [eqI_f (by omega), br_f]
  have e1 : rem (m : Int) 6 = ((m % 6 : Nat) : Int) := by unfold rem; rw [Int.tmod_eq_emod_of_nonneg (by omega)]; omega
  have e2 : rem (m : Int) 3 = ((m % 3 : Nat) : Int) := by unfold rem; rw [Int.tmod_eq_emod_of_nonneg (by omega)]; omega
  rw [e1, e2]
  by_cases h5 : m % 6 = 5
  · rw [eqI_t (by omega), br_t, if_pos h5]; rfl
  · rw [eqI_f (by omega), br_f, eqI_f (by omega), br_f, if_neg h5]
    by_cases h3 : m % 3 = 0
    · rw [eqI_t (by omega), br_t, if_pos h3]; rfl
    · rw [eqI_f (by omega), br_f, if_neg h3]
theorem toSpotS_l5 {R : Type} (n : Nat) (x : List (Int × Int)) (K0 : List (Int × Int) → List (Int × Int) → Option R) : ∀ (d k i : Nat) (out : List (Int × Int)), x.length - i = d → i ≤ x.length → x.length ≤ out.length → d < k → x.length ≤ 1000000 →
    fn_laws_toSpotS.l5 n k x out (i : Int) K0 = K0 x (out.take i ++ x.drop i ++ out.drop x.length) := by
  intro d
  induction d with
  | zero =>
    intro k i out hd hi ho hk hx
    obtain ⟨k, rfl⟩ : ∃ m, k = m + 1 := ⟨k - 1, by omega⟩
    obtain rfl : i = x.length := by omega
    simp only [fn_laws_toSpotS.l5]
    rw [ltI_f (by rw [ilen_eq]; omega), br_f, List.drop_length, List.append_nil, List.take_append_drop]
  | succ d ih =>
    intro k i out hd hi ho hk hx
    obtain ⟨k, rfl⟩ : ∃ m, k = m + 1 := ⟨k - 1, by omega⟩
    have hlt : i < x.length := by omega
    simp only [fn_laws_toSpotS.l5]
    rw [ltI_t (by rw [ilen_eq]; omega), br_t, okIx_t (by omega) (by rw [ilen_eq]; omega), br_t, toSpot_f, Option.bind_some]
    rw [okIx_t (by omega) (by rw [ilen_eq]; omega), br_t, nat_cast, rd_at Sp x i hlt, add_one i (by omega)]
    rw [ih k (i + 1) _ (by omega) (by omega) (by unfold setL; simp; omega) (by omega) hx]
    congr 1
    unfold setL
    rw [take_set _ _ _ (by omega), drop_set _ _ _ _ hlt, List.drop_eq_getElem_cons hlt]
    simp
theorem toSpotS_l9 {R : Type} (n : Nat) (x : List (Int × Int)) (K0 : List (Int × Int) → List (Int × Int) → Option R) : ∀ (d k i : Nat) (out : List (Int × Int)), out.length - i = d → i ≤ out.length → d < k → out.length ≤ 4000000 →
    fn_laws_toSpotS.l9 n k x out (i : Int) K0 = K0 x (out.take i ++ List.replicate (out.length - i) ((-7000000000000000101 : Int), (-7000000000000000101 : Int))) := by
  intro d
  induction d with
  | zero =>
    intro k i out hd hi hk hx
    obtain ⟨k, rfl⟩ : ∃ m, k = m + 1 := ⟨k - 1, by omega⟩
    obtain rfl : i = out.length := by omega
    simp only [fn_laws_toSpotS.l9]
    rw [ltI_f (by rw [ilen_eq]; omega), br_f]
    simp
  | succ d ih =>
    intro k i out hd hi hk hx
    obtain ⟨k, rfl⟩ : ∃ m, k = m + 1 := ⟨k - 1, by omega⟩
    have hlt : i < out.length := by omega
    simp only [fn_laws_toSpotS.l9]
    rw [ltI_t (by rw [ilen_eq]; omega), br_t, filler_f, Option.bind_some]
    rw [okIx_t (by omega) (by rw [ilen_eq]; omega), br_t, nat_cast, add_one i (by omega)]
    rw [ih k (i + 1) _ (by unfold setL; simp; omega) (by unfold setL; simp; omega) (by omega) (by unfold setL; simp; omega)]
    congr 1
    unfold setL
    rw [take_set _ _ _ (by omega), List.length_set, show out.length - i = (out.length - (i + 1)) + 1 from by omega, List.replicate_succ]
    simp
/-- The row that an argument is laid into. -/
def rowSpotS (l : List (Int × Int)) : List (Int × Int) := l ++ List.replicate (roomN l.length) ((-7000000000000000101 : Int), (-7000000000000000101 : Int))
theorem toSpotS_nb (n : Nat) (l : List (Int × Int)) (hl : l.length ≤ 1000000) (hn : 3000000 < n) : fn_laws_toSpotS.f n l false = some (rowSpotS l, l.length) := by
  unfold fn_laws_toSpotS.f
  have hr := roomN_le l.length
  rw [br_f, ilen_eq, room_f n l.length (by omega), Option.bind_some, add_in (by omega) (by omega), okMake_t (by omega) (by omega) (by omega), br_t]
  have e : nat ((l.length : Int) + ((roomN l.length : Nat) : Int)) = l.length + roomN l.length := by unfold nat; omega
  have := toSpotS_l5 n l (fun z w => fn_laws_toSpotS.l9 n n z w (ilen z) fun a b => br (okSl (ilen a) (ilen b)) (some (b, nat (ilen a))) none) l.length n 0 (repL (nat ((l.length : Int) + ((roomN l.length : Nat) : Int))) ((0 : Int), (0 : Int))) (by omega) (by omega) (by unfold repL; rw [e]; simp) (by omega) hl
  refine this.trans ?_
  rw [e]
  unfold repL
  simp only [List.take_zero, List.nil_append, List.drop_zero, List.drop_replicate, Nat.add_sub_cancel_left]
  rw [ilen_eq, toSpotS_l9 n l _ (roomN l.length) n l.length _ (by simp) (by simp) (by omega) (by simp; omega)]
  rw [okSl_t (by rw [ilen_eq]; omega) (by rw [ilen_eq, ilen_eq]; simp; omega), br_t, ilen_eq, nat_cast]
  simp [rowSpotS]
theorem toSpotS_b (n : Nat) (l : List (Int × Int)) (hl : l.length ≤ 1000000) (hn : 3000000 < n) : ∃ r, fn_laws_toSpotS.f n l true = some (r, l.length) ∧ r.take l.length = l := by
  have h := toSpotS_nb n l hl hn
  unfold fn_laws_toSpotS.f at h ⊢
  rw [br_f] at h
  rw [br_t, ilen_eq]
  rw [ilen_eq] at h
  by_cases h0 : (l.length : Int) = 0
  · rw [eqI_t h0, br_t]
    have : l = [] := List.eq_nil_of_length_eq_zero (by omega)
    subst this
    exact ⟨[], rfl, rfl⟩
  · rw [eqI_f h0, br_f, h]
    exact ⟨_, rfl, by simp [rowSpotS]⟩
theorem rowSpotS_take (l : List (Int × Int)) : preL (rowSpotS l) l.length = l := by simp [preL, rowSpotS]
theorem eqSpotS_loop {R : Type} (n : Nat) (x : List (Int × Int)) (K0 : Bool → Option R) (K1 : Unit → Option R) : ∀ (d k i : Nat), x.length - i = d → i ≤ x.length → d < k → x.length ≤ 4000000 → fn_laws_eqSpotS.l4 n k x x (i : Int) K0 K1 = K1 () := by
  intro d
  induction d with
  | zero =>
    intro k i hd hi hk hx
    obtain ⟨k, rfl⟩ : ∃ m, k = m + 1 := ⟨k - 1, by omega⟩
    simp only [fn_laws_eqSpotS.l4]
    rw [ltI_f (by rw [ilen_eq]; omega), br_f]
  | succ d ih =>
    intro k i hd hi hk hx
    obtain ⟨k, rfl⟩ : ∃ m, k = m + 1 := ⟨k - 1, by omega⟩
    simp only [fn_laws_eqSpotS.l4]
    rw [ltI_t (by rw [ilen_eq]; omega), br_t, okIx_t (by omega) (by rw [ilen_eq]; omega), br_t, br_t, eqSpot_self, Option.bind_some, bnot_t, br_f, add_one i (by omega)]
    exact ih k (i + 1) (by omega) (by omega) (by omega) hx
theorem eqSpotS_self (n : Nat) (x : List (Int × Int)) (hn : 4000000 < n) (hx : x.length ≤ 4000000) : fn_laws_eqSpotS.f n x x = some true := by
  unfold fn_laws_eqSpotS.f
  rw [neI_f rfl, br_f]
  exact eqSpotS_loop n x _ _ x.length n 0 (by omega) (by omega) (by omega) hx
theorem intactSpotS_self (n : Nat) (r : List (Int × Int)) (m : Nat) (hn : 4000000 < n) (hm : m ≤ 1000000) (hr : m + roomN m ≤ r.length) : fn_laws_intactSpotS.f n (r, m) (r, m) = some (true, (r, r)) := by
  unfold fn_laws_intactSpotS.f
  have h1 := roomN_le m
  dsimp only
  rw [inat_eq, room_f n m (by omega), Option.bind_some, eqI_t rfl, br_t, add_in (by omega) (by omega)]
  rw [okSl_t (by omega) (by rw [ilen_eq]; omega), br_t, br_t]
  rw [eqSpotS_self n _ hn (by unfold preL nat; simp; omega)]
  rfl
theorem rowSpotS_len (l : List (Int × Int)) : (rowSpotS l).length = l.length + roomN l.length := by simp [rowSpotS]
end
end Go.Proofs.Ytlfiikkfodpbbaa.Z

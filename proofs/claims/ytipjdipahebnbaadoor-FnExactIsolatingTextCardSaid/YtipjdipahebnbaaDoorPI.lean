/- The texts of intervals: both sides agree. -/
import Derived.Test.YtipjdipahebnbaaDoorP4
set_option linter.unusedVariables false
set_option linter.unusedSimpArgs false
set_option maxRecDepth 100000
namespace Go.Proofs.YtipjdipahebnbaaDoor.Z
open Go.Proofs.YtipjdipahebnbaaDoor.Ev
noncomputable section
theorem cmpN_f (a b : Int × Int) (ha : DV a) (hb : DV b) : fn_impl_compareD.f 5000000 a b = some (sg (X24 a - X24 b)) := cmpD_f 4999997 a b ha hb
def ivB (v : (Int × Int) × (Int × Int)) : Bool := dyB v.1 && (dyB v.2 && leI (sg (X24 v.1 - X24 v.2)) 0)
theorem iInt_f (v : (Int × Int) × (Int × Int)) : fn_impl_isInterval.f 5000000 v = some (ivB v) := by
  unfold fn_impl_isInterval.f ivB
  rw [isDyadic_f, Option.bind_some]
  cases h1 : dyB v.1
  · rfl
  · rw [br_t, isDyadic_f, Option.bind_some, Bool.true_and]
    cases h2 : dyB v.2
    · rfl
    · rw [br_t, cmpN_f _ _ (dyB_DV h1) (dyB_DV h2)]
      rfl
theorem sInt_f (v : (Int × Int) × (Int × Int)) : fn_spec_ivGood.f 5000000 v = some (ivB v) := by
  unfold fn_spec_ivGood.f ivB
  rw [dyGood_f, Option.bind_some]
  cases h1 : dyB v.1
  · rfl
  · rw [br_t, dyGood_f, Option.bind_some, Bool.true_and]
    cases h2 : dyB v.2
    · rfl
    · rw [br_t, dyCmp_f _ _ _ (dyB_DV h1) (dyB_DV h2) (by omega)]
      rfl
theorem so_l {R : Type} (l : List ((Int × Int) × (Int × Int))) (K0 : Bool → Option R) (K1 : List ((Int × Int) × (Int × Int)) → Option R) : ∀ (d k i : Nat), l.length - i = d → i ≤ l.length → d < k → l.length ≤ 1000000 →
    fn_spec_soList.l2 5000000 k l l (ilen l) (i : Int) K0 K1 = br ((l.drop i).all ivB) (K1 l) (K0 false) := by
  intro d
  induction d with
  | zero =>
    intro k i hd hi hk hl
    obtain ⟨k, rfl⟩ : ∃ m, k = m + 1 := ⟨k - 1, by omega⟩
    obtain rfl : i = l.length := by omega
    simp only [fn_spec_soList.l2]
    rw [ltI_f (by rw [ilen_eq]; omega), br_f, List.drop_length]
    rfl
  | succ d ih =>
    intro k i hd hi hk hl
    obtain ⟨k, rfl⟩ : ∃ m, k = m + 1 := ⟨k - 1, by omega⟩
    have hlt : i < l.length := by omega
    simp only [fn_spec_soList.l2]
    rw [ltI_t (by rw [ilen_eq]; omega), br_t, okIx_t (by omega) (by rw [ilen_eq]; omega), br_t, nat_cast, rd_at IvE l i hlt, sInt_f, Option.bind_some, List.drop_eq_getElem_cons hlt, List.all_cons]
    cases ivB l[i]
    · rfl
    · rw [bnot_t, br_f, add_one i (by omega), Bool.true_and]
      exact ih k (i + 1) (by omega) (by omega) (by omega) hl
theorem so_f (l : List ((Int × Int) × (Int × Int))) (hl : l.length ≤ 1000000) : fn_spec_soList.f 5000000 l = some (l.all ivB && leI (ilen l) 10) := by
  unfold fn_spec_soList.f
  refine (so_l l _ _ l.length 5000000 0 (by omega) (by omega) (by omega) hl).trans ?_
  rw [List.drop_zero]
  cases l.all ivB <;> rfl
theorem ix_l {R : Type} (l : List ((Int × Int) × (Int × Int))) (K0 : Int → Option R) (K1 : Unit → Option R) : ∀ (d k i : Nat), l.length - i = d → i ≤ l.length → d < k → l.length ≤ 1000000 →
    ∃ j : Nat, fn_impl_Interval__29_f22.l2 5000000 k l (ilen l) (i : Int) K0 K1 = br ((l.drop i).all ivB) (K1 ()) (K0 (j : Int)) := by
  intro d
  induction d with
  | zero =>
    intro k i hd hi hk hl
    obtain ⟨k, rfl⟩ : ∃ m, k = m + 1 := ⟨k - 1, by omega⟩
    obtain rfl : i = l.length := by omega
    refine ⟨0, ?_⟩
    simp only [fn_impl_Interval__29_f22.l2]
    rw [ltI_f (by rw [ilen_eq]; omega), br_f, List.drop_length]
    rfl
  | succ d ih =>
    intro k i hd hi hk hl
    obtain ⟨k, rfl⟩ : ∃ m, k = m + 1 := ⟨k - 1, by omega⟩
    have hlt : i < l.length := by omega
    simp only [fn_impl_Interval__29_f22.l2]
    have e : fn_impl_areIntervals_1.f 5000000 l[i] = some (bnot (ivB l[i])) := by
      unfold fn_impl_areIntervals_1.f
      rw [iInt_f]
      rfl
    rw [ltI_t (by rw [ilen_eq]; omega), br_t, okIx_t (by omega) (by rw [ilen_eq]; omega), br_t, nat_cast, rd_at IvE l i hlt, e, Option.bind_some, List.drop_eq_getElem_cons hlt, List.all_cons]
    cases ivB l[i]
    · exact ⟨i, rfl⟩
    · rw [bnot_t, br_f, add_one i (by omega), Bool.true_and]
      exact ih k (i + 1) (by omega) (by omega) (by omega) hl
theorem are_f (l : List ((Int × Int) × (Int × Int))) (hl : l.length ≤ 1000000) : fn_impl_areIntervals.f 5000000 l = some (leI (ilen l) 10 && l.all ivB) := by
  unfold fn_impl_areIntervals.f
  cases leI (ilen l) 10
  · rfl
  · rw [br_t, Bool.true_and]
    unfold fn_impl_Interval__f22.f fn_impl_Interval__29_f22.f
    obtain ⟨j, hj⟩ := ix_l l (fun (z4 : Int) => some z4) (fun _ => some ((-1 : Int))) l.length 5000000 0 (by omega) (by omega) (by omega) hl
    have hj : fn_impl_Interval__29_f22.l2 5000000 5000000 l (ilen l) 0 (fun (z4 : Int) => some z4) (fun _ => some ((-1 : Int))) = _ := hj
    rw [hj, List.drop_zero]
    cases l.all ivB
    · rw [br_f, Option.bind_some, Option.bind_some, leI_t (by omega)]; rfl
    · rw [br_t, Option.bind_some, Option.bind_some, leI_f (by omega)]; rfl
theorem bstr1 (u : Nat) (h : u < 10) : bytesStr [IntKind.wrap .u8 (add .i64 48 (u : Int))] = ⟨#[UInt8.ofNat (48 + u)]⟩ := by
  have e : IntKind.wrap .u8 (add .i64 48 (u : Int)) = ((48 + u : Nat) : Int) := by
    rw [add_in (by omega) (by omega), IntKind.wrap_u8]; omega
  rw [e]
  rfl
theorem strApp_mk (a b : List UInt8) : strApp ⟨a.toArray⟩ ⟨b.toArray⟩ = ⟨(a ++ b).toArray⟩ := by
  unfold strApp
  apply ByteArray.ext
  rw [ByteArray.data_append]
  simp
theorem okCat_t {a b : ByteArray} (h : a.size + b.size ≤ 9223372036854775807) : okCat a b = true := decide_eq_true h
theorem size_mk (a : List UInt8) : (ByteArray.mk a.toArray).size = a.length := by
  show a.toArray.size = _
  simp
theorem dig_lt {u : Nat} (h : u < 10) : Lib.decDigits u = [UInt8.ofNat (48 + u)] := by rw [Lib.decDigits, dif_pos h]
theorem dig_ge {u : Nat} (h : ¬ u < 10) : Lib.decDigits u = Lib.decDigits (u / 10) ++ [UInt8.ofNat (48 + u % 10)] := by rw [Lib.decDigits, dif_neg h]
theorem num_f : ∀ (m u : Nat), u < 2 ^ m → u ≤ 4611686018427387904 → m ≤ 1000000000 → fn_spec_l1Num.f (m + 1) (u : Int) = some ⟨(Lib.decDigits u).toArray⟩ ∧ (Lib.decDigits u).length ≤ m + 1
  | 0, u, h, _, _ => by
    have : u = 0 := by simp at h; exact h
    subst this
    simp only [fn_spec_l1Num.f]
    rw [ltI_t (by omega), br_t]
    have hb := bstr1 0 (by omega)
    rw [hb, dig_lt (by omega)]
    exact ⟨rfl, by simp⟩
  | m + 1, u, h, hu, hm => by
    rw [fn_spec_l1Num.f]
    by_cases h10 : u < 10
    · rw [ltI_t (by omega), br_t, bstr1 u h10, dig_lt h10]
      exact ⟨rfl, by simp⟩
    · have hq : quo .i64 (u : Int) 10 = ((u / 10 : Nat) : Int) := by
        unfold quo
        rw [Int.tdiv_eq_ediv_of_nonneg (by omega), wrap_in (by omega) (by omega)]
        omega
      have hr : rem (u : Int) 10 = ((u % 10 : Nat) : Int) := by
        unfold rem
        rw [Int.tmod_eq_emod_of_nonneg (by omega)]
        omega
      obtain ⟨h1, h2⟩ := num_f m (u / 10) (by rw [Nat.pow_succ] at h; omega) (by omega) (by omega)
      rw [ltI_f (by omega), br_f, eqI_f (by decide), br_f, br_f, agree_self, hq, h1, Option.bind_some, hr, bstr1 _ (by omega), dig_ge h10]
      have e : (⟨#[UInt8.ofNat (48 + u % 10)]⟩ : ByteArray) = ⟨[UInt8.ofNat (48 + u % 10)].toArray⟩ := rfl
      rw [e, okCat_t (by rw [size_mk, size_mk, List.length_singleton]; omega), br_t, strApp_mk]
      exact ⟨rfl, by rw [List.length_append, List.length_singleton]; omega⟩
theorem int_f (n : Nat) (x : Int) (h : -4611686018427387904 ≤ x) (h' : x ≤ 4611686018427387904) (hn : 100 < n) (hn' : n ≤ 1000000000) : fn_spec_l1Int.f n x = some (itoaS x) ∧ fn_strconv_Itoa.f n x = some (itoaS x) ∧ (itoaS x).size ≤ 66 := by
  obtain ⟨m, rfl⟩ : ∃ m, n = m + 1 := ⟨n - 1, by omega⟩
  have hp : ∀ u : Nat, u ≤ 4611686018427387904 → u < 2 ^ m := fun u hu => by
    have : (2 : Nat) ^ 63 ≤ 2 ^ m := Nat.pow_le_pow_right (by omega) (by omega)
    omega
  have hlen : ∀ u : Nat, u ≤ 4611686018427387904 → (Lib.decDigits u).length ≤ 64 := fun u hu => (num_f 63 u (by omega) hu (by omega)).2
  refine ⟨?_, ?_, ?_⟩
  · unfold fn_spec_l1Int.f itoaS Lib.itoa
    by_cases hx : x < 0
    · obtain ⟨u, rfl⟩ : ∃ u : Nat, x = -(u : Int) := ⟨x.natAbs, by omega⟩
      have e1 : sub .i64 0 (-(u : Int)) = (u : Int) := by rw [sub_in (by omega) (by omega)]; omega
      have e2 : (-(u : Int)).natAbs = u := by omega
      rw [ltI_t hx, br_t, e1, (num_f m u (hp u (by omega)) (by omega) (by omega)).1, Option.bind_some, if_pos hx, e2]
      have e : (⟨#[45]⟩ : ByteArray) = ⟨[(45 : UInt8)].toArray⟩ := rfl
      have := hlen u (by omega)
      rw [e, okCat_t (by rw [size_mk, size_mk, List.length_singleton]; omega), br_t, strApp_mk]
      rfl
    · obtain ⟨u, rfl⟩ : ∃ u : Nat, x = (u : Int) := ⟨x.toNat, by omega⟩
      rw [ltI_f hx, br_f, (num_f m u (hp u (by omega)) (by omega) (by omega)).1, Option.bind_some, if_neg hx, Int.toNat_natCast]
  · unfold fn_strconv_Itoa.f itoaF
    rw [leI_t (by omega), br_t, leI_t (by omega), br_t]
  · unfold itoaS Lib.itoa
    rw [size_mk]
    by_cases hx : x < 0
    · rw [if_pos hx]
      have := hlen x.natAbs (by omega)
      rw [List.length_cons]; omega
    · rw [if_neg hx]
      have := hlen x.toNat (by omega)
      omega
theorem size_app (a b : ByteArray) : (strApp a b).size = a.size + b.size := by
  unfold strApp
  exact ByteArray.size_append
theorem strEq_self (a : ByteArray) : strEq a a = true := by unfold strEq; simp
/-- A dyadic number's text; an interval's. -/
def dyT (a : Int × Int) : ByteArray := match eqI a.2 0 with
  | true => itoaS a.1
  | false => strApp (strApp (itoaS a.1) (ByteArray.mk #[47, 50, 94])) (itoaS a.2)
def ivT (v : (Int × Int) × (Int × Int)) : ByteArray := strApp (strApp (strApp (strApp (ByteArray.mk #[91]) (dyT v.1)) (ByteArray.mk #[44])) (dyT v.2)) (ByteArray.mk #[93])
theorem s3 : (ByteArray.mk #[47, 50, 94]).size = 3 := rfl
theorem s91 : (ByteArray.mk #[91]).size = 1 := rfl
theorem s44 : (ByteArray.mk #[44]).size = 1 := rfl
theorem s93 : (ByteArray.mk #[93]).size = 1 := rfl
theorem num_itoa (n : Nat) (x : Int) (h : 0 ≤ x) (h' : x ≤ 24) (hn : 100 < n) (hn' : n ≤ 1000000000) : fn_spec_l1Num.f n x = some (itoaS x) := by
  have := (int_f n x (by omega) (by omega) hn hn').1
  unfold fn_spec_l1Int.f at this
  rw [ltI_f (by omega), br_f] at this
  cases hx : fn_spec_l1Num.f n x with
  | none => rw [hx] at this; cases this
  | some y => rw [hx] at this; exact this
theorem iDyT_f (n : Nat) (a : Int × Int) (ha : DV a) (hn : 100 < n) (hn' : n ≤ 1000000000) : fn_impl_dyadicText.f n a = some (dyT a) ∧ (dyT a).size ≤ 200 := by
  obtain ⟨h1, h2, h3, h4⟩ := ha
  obtain ⟨_, x2, x3⟩ := int_f n a.1 (by omega) (by omega) hn hn'
  obtain ⟨_, y2, y3⟩ := int_f n a.2 (by omega) (by omega) hn hn'
  unfold fn_impl_dyadicText.f dyT
  rw [x2, Option.bind_some]
  cases eqI a.2 0
  · rw [br_f, Option.bind_some, okCat_t (by rw [s3]; omega), br_t, y2, Option.bind_some, okCat_t (by rw [size_app, s3]; omega), br_t]
    exact ⟨rfl, by rw [size_app, size_app, s3]; omega⟩
  · exact ⟨rfl, by dsimp only; omega⟩
theorem sDyT_f (n : Nat) (a : Int × Int) (ha : DV a) (hn : 100 < n) (hn' : n ≤ 1000000000) : fn_spec_dyText.f n a = some (dyT a) := by
  obtain ⟨h1, h2, h3, h4⟩ := ha
  obtain ⟨x2, _, x3⟩ := int_f n a.1 (by omega) (by omega) hn hn'
  obtain ⟨_, _, y3⟩ := int_f n a.2 (by omega) (by omega) hn hn'
  unfold fn_spec_dyText.f dyT
  rw [x2, Option.bind_some]
  cases eqI a.2 0
  · rw [br_f, Option.bind_some, okCat_t (by rw [s3]; omega), br_t, num_itoa n a.2 h1 h2 hn hn', Option.bind_some, okCat_t (by rw [size_app, s3]; omega), br_t]
  · rfl
theorem iIvT_f (n : Nat) (v : (Int × Int) × (Int × Int)) (ha : DV v.1) (hb : DV v.2) (hn : 100 < n) (hn' : n ≤ 1000000000) : fn_impl_intervalText.f n v = some (ivT v) ∧ (ivT v).size ≤ 500 := by
  obtain ⟨x1, x2⟩ := iDyT_f n v.1 ha hn hn'
  obtain ⟨y1, y2⟩ := iDyT_f n v.2 hb hn hn'
  unfold fn_impl_intervalText.f ivT
  rw [x1, Option.bind_some, okCat_t (by rw [s91]; omega), br_t, okCat_t (by rw [size_app, s91, s44]; omega), br_t, y1, Option.bind_some, okCat_t (by rw [size_app, size_app, s91, s44]; omega), br_t, okCat_t (by rw [size_app, size_app, size_app, s91, s44, s93]; omega), br_t]
  exact ⟨rfl, by rw [size_app, size_app, size_app, size_app, s91, s44, s93]; omega⟩
theorem sIvT_f (n : Nat) (v : (Int × Int) × (Int × Int)) (ha : DV v.1) (hb : DV v.2) (hn : 100 < n) (hn' : n ≤ 1000000000) : fn_spec_ivText.f n v = some (ivT v) := by
  obtain ⟨_, x2⟩ := iDyT_f n v.1 ha hn hn'
  obtain ⟨_, y2⟩ := iDyT_f n v.2 hb hn hn'
  unfold fn_spec_ivText.f ivT
  rw [sDyT_f n v.1 ha hn hn', Option.bind_some, okCat_t (by rw [s91]; omega), br_t, okCat_t (by rw [size_app, s91, s44]; omega), br_t, sDyT_f n v.2 hb hn hn', Option.bind_some, okCat_t (by rw [size_app, size_app, s91, s44]; omega), br_t, okCat_t (by rw [size_app, size_app, size_app, s91, s44, s93]; omega), br_t]
def isoL : List ((Int × Int) × (Int × Int)) → ByteArray → ByteArray
  | [], o => o
  | v :: r, o => isoL r (strApp o (ivT v))
theorem iIso_l {R : Type} (l : List ((Int × Int) × (Int × Int))) (hv : ∀ v ∈ l, ivB v = true) (K0 : ByteArray → Option R) : ∀ (d k i : Nat) (out : ByteArray), l.length - i = d → i ≤ l.length → d < k → l.length ≤ 1000000 → out.size + 600 * d ≤ 1000000000 →
    fn_impl_IsolatingText.l5 5000000 k l out (ilen l) (i : Int) K0 = K0 (isoL (l.drop i) out) := by
  intro d
  induction d with
  | zero =>
    intro k i out hd hi hk hl ho
    obtain ⟨k, rfl⟩ : ∃ m, k = m + 1 := ⟨k - 1, by omega⟩
    obtain rfl : i = l.length := by omega
    simp only [fn_impl_IsolatingText.l5]
    rw [ltI_f (by rw [ilen_eq]; omega), br_f, List.drop_length]
    rfl
  | succ d ih =>
    intro k i out hd hi hk hl ho
    obtain ⟨k, rfl⟩ : ∃ m, k = m + 1 := ⟨k - 1, by omega⟩
    have hlt : i < l.length := by omega
    have hiv := hv l[i] (List.getElem_mem hlt)
    unfold ivB at hiv
    simp only [Bool.and_eq_true] at hiv
    obtain ⟨h1, h2⟩ := iIvT_f 5000000 l[i] (dyB_DV hiv.1) (dyB_DV hiv.2.1) (by omega) (by omega)
    simp only [fn_impl_IsolatingText.l5]
    rw [ltI_t (by rw [ilen_eq]; omega), br_t, okIx_t (by omega) (by rw [ilen_eq]; omega), br_t, nat_cast, rd_at IvE l i hlt, h1, Option.bind_some, okCat_t (by omega), br_t, add_one i (by omega), List.drop_eq_getElem_cons hlt]
    exact ih k (i + 1) _ (by omega) (by omega) (by omega) hl (by rw [size_app]; omega)
theorem sIso_l {R : Type} (l : List ((Int × Int) × (Int × Int))) (hv : ∀ v ∈ l, ivB v = true) (K0 : ByteArray → Option R) : ∀ (d k i : Nat) (out : ByteArray), l.length - i = d → i ≤ l.length → d < k → l.length ≤ 1000000 → out.size + 600 * d ≤ 1000000000 →
    fn_spec_soText.l3 5000000 k l out (ilen l) (i : Int) K0 = K0 (isoL (l.drop i) out) := by
  intro d
  induction d with
  | zero =>
    intro k i out hd hi hk hl ho
    obtain ⟨k, rfl⟩ : ∃ m, k = m + 1 := ⟨k - 1, by omega⟩
    obtain rfl : i = l.length := by omega
    simp only [fn_spec_soText.l3]
    rw [ltI_f (by rw [ilen_eq]; omega), br_f, List.drop_length]
    rfl
  | succ d ih =>
    intro k i out hd hi hk hl ho
    obtain ⟨k, rfl⟩ : ∃ m, k = m + 1 := ⟨k - 1, by omega⟩
    have hlt : i < l.length := by omega
    have hiv := hv l[i] (List.getElem_mem hlt)
    unfold ivB at hiv
    simp only [Bool.and_eq_true] at hiv
    obtain ⟨_, h2⟩ := iIvT_f 5000000 l[i] (dyB_DV hiv.1) (dyB_DV hiv.2.1) (by omega) (by omega)
    have h1 := sIvT_f 5000000 l[i] (dyB_DV hiv.1) (dyB_DV hiv.2.1) (by omega) (by omega)
    simp only [fn_spec_soText.l3]
    rw [ltI_t (by rw [ilen_eq]; omega), br_t, okIx_t (by omega) (by rw [ilen_eq]; omega), br_t, nat_cast, rd_at IvE l i hlt, h1, Option.bind_some, okCat_t (by omega), br_t, add_one i (by omega), List.drop_eq_getElem_cons hlt]
    exact ih k (i + 1) _ (by omega) (by omega) (by omega) hl (by rw [size_app]; omega)
def isoT (l : List ((Int × Int) × (Int × Int))) : ByteArray × Bool := match l.all ivB && leI (ilen l) 10 with
  | true => (isoL l (ByteArray.mk #[]), true)
  | false => (ByteArray.mk #[], false)
theorem iIso_f (l : List ((Int × Int) × (Int × Int))) (hl : l.length ≤ 1000000) : fn_impl_IsolatingText.f 5000000 l = some (isoT l) := by
  unfold fn_impl_IsolatingText.f isoT
  rw [are_f l hl, Option.bind_some, Bool.and_comm]
  cases h : (l.all ivB && leI (ilen l) 10)
  · rfl
  · rw [Bool.and_eq_true] at h
    rw [bnot_t, br_f]
    have h0 : (ByteArray.mk #[]).size = 0 := rfl
    have := iIso_l l (List.all_eq_true.1 h.1) (fun z6 : ByteArray => some (z6, true)) l.length 5000000 0 (ByteArray.mk #[]) (by omega) (by omega) (by omega) hl (by rw [h0]; omega)
    have this : fn_impl_IsolatingText.l5 5000000 5000000 l (ByteArray.mk #[]) (ilen l) 0 (fun z6 : ByteArray => some (z6, true)) = _ := this
    rw [this, List.drop_zero]
theorem sIso_f (l : List ((Int × Int) × (Int × Int))) (hl : l.length ≤ 1000000) : fn_spec_IsolatingText.f 5000000 l = some (isoT l) := by
  unfold fn_spec_IsolatingText.f isoT
  rw [so_f l hl, Option.bind_some]
  cases h : (l.all ivB && leI (ilen l) 10)
  · rfl
  · rw [Bool.and_eq_true] at h
    rw [bnot_t, br_f]
    unfold fn_spec_soText.f
    have h0 : (ByteArray.mk #[]).size = 0 := rfl
    have := sIso_l l (List.all_eq_true.1 h.1) (fun z6 : ByteArray => some z6) l.length 5000000 0 (ByteArray.mk #[]) (by omega) (by omega) (by omega) hl (by rw [h0]; omega)
    have this : fn_spec_soText.l3 5000000 5000000 l (ByteArray.mk #[]) (ilen l) 0 (fun z6 : ByteArray => some z6) = _ := this
    rw [this, Option.bind_some, List.drop_zero]
theorem pureIso (p : List ((Int × Int) × (Int × Int))) (hw : Ev.WF (.slice 40 IvE) p) : ∃ n, fn_laws_FnExactIsolatingText.f n p = some true := by
  refine ⟨5000000, ?_⟩
  unfold fn_laws_FnExactIsolatingText.f fn_laws_szIntervalS.f
  have hlen : p.length ≤ 9223372036854775807 := Nat.le_trans hw.1 (by decide)
  rw [sub_in (by rw [ilen_eq]; omega) (by rw [ilen_eq]; omega)]
  by_cases hl : p.length ≤ 1000000
  · obtain ⟨r, hr, hr2⟩ := toIntervalS_b 5000000 p hl (by omega)
    have hr2 : preL r p.length = p := hr2
    rw [ltI_f (by rw [ilen_eq]; omega), br_f, Option.bind_some, ltI_f (by rw [ilen_eq]; omega), br_f, toIntervalS_nb _ p hl (by omega), Option.bind_some]
    dsimp only
    rw [rowIntervalS_take, sIso_f p hl, Option.bind_some, Option.bind_some]
    dsimp only
    rw [rowIntervalS_take, iIso_f p hl, Option.bind_some, strEq_self, bnot_t, br_f, boolEq_self, bnot_t, br_f, Option.bind_some]
    rw [intactIntervalS_self _ _ _ (by omega) hl (by rw [rowIntervalS_len]; omega), Option.bind_some]
    dsimp only
    rw [bnot_t, br_f, hr, Option.bind_some]
    dsimp only
    rw [hr2, iIso_f p hl, Option.bind_some, strEq_self, bnot_t, br_f, boolEq_self, bnot_t, br_f]
  · rw [ltI_t (by rw [ilen_eq]; omega), br_t, Option.bind_some, ltI_t (by omega), br_t]
end
end Go.Proofs.YtipjdipahebnbaaDoor.Z

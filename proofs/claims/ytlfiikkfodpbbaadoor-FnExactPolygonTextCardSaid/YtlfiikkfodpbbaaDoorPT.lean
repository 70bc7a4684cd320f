/- The texts of polygons: both sides agree. -/
import Derived.Test.YtlfiikkfodpbbaaDoorP1
set_option linter.unusedVariables false
set_option linter.unusedSimpArgs false
set_option maxRecDepth 100000
namespace Go.Proofs.YtlfiikkfodpbbaaDoor.Z
open Go.Proofs.YtlfiikkfodpbbaaDoor.Ev
noncomputable section
theorem bstr1 (u : Nat) (h : u < 10) : bytesStr [IntKind.wrap .u8 (add .i64 48 (u : Int))] = ⟨#[UInt8.ofNat (48 + u)]⟩ := by
  have e : IntKind.wrap .u8 (add .i64 48 (u : Int)) = ((48 + u : Nat) : Int) := by
    rw [add_in (by omega) (by omega), IntKind.wrap_u8]; omega
  rw [e]
  rfl
theorem strApp_mk (a b : List UInt8) : strApp ⟨a.toArray⟩ ⟨b.toArray⟩ = ⟨(a ++ b).toArray⟩ := by
  unfold strApp
  apply ByteArray.ext
  rw [ByteArray.data_append]
  simp
theorem okCat_t {a b : ByteArray} (h : a.size + b.size ≤ 9223372036854775807) : okCat a b = true := decide_eq_true h
theorem size_mk (a : List UInt8) : (ByteArray.mk a.toArray).size = a.length := by
  show a.toArray.size = _
  simp
theorem dig_lt {u : Nat} (h : u < 10) : Lib.decDigits u = [UInt8.ofNat (48 + u)] := by rw [Lib.decDigits, dif_pos h]
theorem dig_ge {u : Nat} (h : ¬ u < 10) : Lib.decDigits u = Lib.decDigits (u / 10) ++ [UInt8.ofNat (48 + u % 10)] := by rw [Lib.decDigits, dif_neg h]
theorem num_f : ∀ (m u : Nat), u < 2 ^ m → u ≤ 4611686018427387904 → m ≤ 1000000000 → fn_spec_l1Num.f (m + 1) (u : Int) = some ⟨(Lib.decDigits u).toArray⟩ ∧ (Lib.decDigits u).length ≤ m + 1
  | 0, u, h, _, _ => by
    have : u = 0 := by simp at h; exact h
    subst this
    simp only [fn_spec_l1Num.f]
    rw [ltI_t (by omega), br_t]
    have hb := bstr1 0 (by omega)
    rw [hb, dig_lt (by omega)]
    exact ⟨rfl, by simp⟩
  | m + 1, u, h, hu, hm => by
    rw [fn_spec_l1Num.f]
    by_cases h10 : u < 10
    · rw [ltI_t (by omega), br_t, bstr1 u h10, dig_lt h10]
      exact ⟨rfl, by simp⟩
    · have hq : quo .i64 (u : Int) 10 = ((u / 10 : Nat) : Int) := by
        unfold quo
        rw [Int.tdiv_eq_ediv_of_nonneg (by omega), wrap_in (by omega) (by omega)]
        omega
      have hr : rem (u : Int) 10 = ((u % 10 : Nat) : Int) := by
        unfold rem
        rw [Int.tmod_eq_emod_of_nonneg (by omega)]
        omega
      obtain ⟨h1, h2⟩ := num_f m (u / 10) (by rw [Nat.pow_succ] at h; omega) (by omega) (by omega)
      rw [ltI_f (by omega), br_f, eqI_f (by decide), br_f, br_f, agree_self, hq, h1, Option.bind_some, hr, bstr1 _ (by omega), dig_ge h10]
      have e : (⟨#[UInt8.ofNat (48 + u % 10)]⟩ : ByteArray) = ⟨[UInt8.ofNat (48 + u % 10)].toArray⟩ := rfl
      rw [e, okCat_t (by rw [size_mk, size_mk, List.length_singleton]; omega), br_t, strApp_mk]
      exact ⟨rfl, by rw [List.length_append, List.length_singleton]; omega⟩
theorem int_f (n : Nat) (x : Int) (h : -4611686018427387904 ≤ x) (h' : x ≤ 4611686018427387904) (hn : 100 < n) (hn' : n ≤ 1000000000) : fn_spec_l1Int.f n x = some (itoaS x) ∧ fn_strconv_Itoa.f n x = some (itoaS x) ∧ (itoaS x).size ≤ 66 := by
  obtain ⟨m, rfl⟩ : ∃ m, n = m + 1 := ⟨n - 1, by omega⟩
  have hp : ∀ u : Nat, u ≤ 4611686018427387904 → u < 2 ^ m := fun u hu => by
    have : (2 : Nat) ^ 63 ≤ 2 ^ m := Nat.pow_le_pow_right (by omega) (by omega)
    omega
  have hlen : ∀ u : Nat, u ≤ 4611686018427387904 → (Lib.decDigits u).length ≤ 64 := fun u hu => (num_f 63 u (by omega) hu (by omega)).2
  refine ⟨?_, ?_, ?_⟩
  · unfold fn_spec_l1Int.f itoaS Lib.itoa
    by_cases hx : x < 0
    · obtain ⟨u, rfl⟩ : ∃ u : Nat, x = -(u : Int) := ⟨x.natAbs, by omega⟩
      have e1 : sub .i64 0 (-(u : Int)) = (u : Int) := by rw [sub_in (by omega) (by omega)]; omega
      have e2 : (-(u : Int)).natAbs = u := by omega
      rw [ltI_t hx, br_t, e1, (num_f m u (hp u (by omega)) (by omega) (by omega)).1, Option.bind_some, if_pos hx, e2]
      have e : (⟨#[45]⟩ : ByteArray) = ⟨[(45 : UInt8)].toArray⟩ := rfl
      have := hlen u (by omega)
      rw [e, okCat_t (by rw [size_mk, size_mk, List.length_singleton]; omega), br_t, strApp_mk]
      rfl
    · obtain ⟨u, rfl⟩ : ∃ u : Nat, x = (u : Int) := ⟨x.toNat, by omega⟩
      rw [ltI_f hx, br_f, (num_f m u (hp u (by omega)) (by omega) (by omega)).1, Option.bind_some, if_neg hx, Int.toNat_natCast]
  · unfold fn_strconv_Itoa.f itoaF
    rw [leI_t (by omega), br_t, leI_t (by omega), br_t]
  · unfold itoaS Lib.itoa
    rw [size_mk]
    by_cases hx : x < 0
    · rw [if_pos hx]
      have := hlen x.natAbs (by omega)
      rw [List.length_cons]; omega
    · rw [if_neg hx]
      have := hlen x.toNat (by omega)
      omega
theorem size_app (a b : ByteArray) : (strApp a b).size = a.size + b.size := by
  unfold strApp
  exact ByteArray.size_append
theorem strEq_self (a : ByteArray) : strEq a a = true := by unfold strEq; simp
theorem polyS_spot (l : List (Int × Int)) : ∀ (d i j : Nat), polyS l d i = true → i ≤ j → j < i + d → spotB (cor l j) = true
  | 0, i, j, _, h1, h2 => by omega
  | d + 1, i, j, h, h1, h2 => by
    simp only [polyS, Bool.and_eq_true] at h
    by_cases e : j = i
    · rw [e]; exact h.1
    · exact polyS_spot l d (i + 1) j h.2.2 (by omega) (by omega)
theorem spotB_in {a : Int × Int} (h : spotB a = true) : -1000 ≤ a.1 ∧ a.1 ≤ 1000 ∧ -1000 ≤ a.2 ∧ a.2 ≤ 1000 := by
  unfold spotB inB at h
  simp only [Bool.and_eq_true] at h
  exact ⟨leI_of h.1.1, leI_of h.1.2, leI_of h.2.1, leI_of h.2.2⟩
/-- A corner's text. -/
def spotT (a : Int × Int) : ByteArray := strApp (strApp (strApp (itoaS a.1) (ByteArray.mk #[44])) (itoaS a.2)) (ByteArray.mk #[59])
def textL : List (Int × Int) → ByteArray → ByteArray
  | [], o => o
  | a :: r, o => textL r (strApp o (spotT a))
theorem size44 : (ByteArray.mk #[44]).size = 1 := rfl
theorem size59 : (ByteArray.mk #[59]).size = 1 := rfl
theorem iText_l {R : Type} (n : Nat) (l : List (Int × Int)) (hn : 100 < n) (hn' : n ≤ 1000000000) (hv : ∀ j, j < l.length → spotB (cor l j) = true) (K0 : ByteArray → Option R) : ∀ (d k i : Nat) (out : ByteArray), l.length - i = d → i ≤ l.length → d < k → l.length ≤ 1000000 → out.size + 200 * d ≤ 1000000000 →
    fn_impl_polygonText.l3 n k l out (ilen l) (i : Int) K0 = K0 (textL (l.drop i) out) := by
  intro d
  induction d with
  | zero =>
    intro k i out hd hi hk hl ho
    obtain ⟨k, rfl⟩ : ∃ m, k = m + 1 := ⟨k - 1, by omega⟩
    obtain rfl : i = l.length := by omega
    simp only [fn_impl_polygonText.l3]
    rw [ltI_f (by rw [ilen_eq]; omega), br_f, List.drop_length]
    rfl
  | succ d ih =>
    intro k i out hd hi hk hl ho
    obtain ⟨k, rfl⟩ : ∃ m, k = m + 1 := ⟨k - 1, by omega⟩
    have hlt : i < l.length := by omega
    have hs := spotB_in (hv i hlt)
    unfold cor at hs
    simp only [fn_impl_polygonText.l3]
    rw [nat_cast]
    change br _ (br _ ((fn_strconv_Itoa.f n (rd Sp l i).1).bind _) _) _ = _
    obtain ⟨_, x2, x3⟩ := int_f n (rd Sp l i).1 (by omega) (by omega) hn hn'
    obtain ⟨_, y2, y3⟩ := int_f n (rd Sp l i).2 (by omega) (by omega) hn hn'
    rw [ltI_t (by rw [ilen_eq]; omega), br_t, okIx_t (by omega) (by rw [ilen_eq]; omega), br_t, x2, Option.bind_some, okCat_t (by rw [size44]; omega), br_t]
    change ((fn_strconv_Itoa.f n (rd Sp l i).2).bind _) = _
    rw [y2, Option.bind_some, okCat_t (by rw [size_app, size44]; omega), br_t, okCat_t (by rw [size_app, size_app, size44, size59]; omega), br_t, okCat_t (by rw [size_app, size_app, size_app, size44, size59]; omega), br_t, add_one i (by omega)]
    rw [ih k (i + 1) _ (by omega) (by omega) (by omega) hl (by rw [size_app, size_app, size_app, size_app, size44, size59]; omega), List.drop_eq_getElem_cons hlt]
    rw [rd_at Sp l i hlt]
    rfl
theorem sText_l {R : Type} (n : Nat) (l : List (Int × Int)) (hn : 100 < n) (hn' : n ≤ 1000000000) (hv : ∀ j, j < l.length → spotB (cor l j) = true) (K0 : ByteArray → Option R) : ∀ (d k i : Nat) (out : ByteArray), l.length - i = d → i ≤ l.length → d < k → l.length ≤ 1000000 → out.size + 200 * d ≤ 1000000000 →
    fn_spec_wiText.l3 n k l out (ilen l) (i : Int) K0 = K0 (textL (l.drop i) out) := by
  intro d
  induction d with
  | zero =>
    intro k i out hd hi hk hl ho
    obtain ⟨k, rfl⟩ : ∃ m, k = m + 1 := ⟨k - 1, by omega⟩
    obtain rfl : i = l.length := by omega
    simp only [fn_spec_wiText.l3]
    rw [ltI_f (by rw [ilen_eq]; omega), br_f, List.drop_length]
    rfl
  | succ d ih =>
    intro k i out hd hi hk hl ho
    obtain ⟨k, rfl⟩ : ∃ m, k = m + 1 := ⟨k - 1, by omega⟩
    have hlt : i < l.length := by omega
    have hs := spotB_in (hv i hlt)
    unfold cor at hs
    simp only [fn_spec_wiText.l3]
    rw [nat_cast]
    change br _ (br _ ((fn_spec_l1Int.f n (rd Sp l i).1).bind _) _) _ = _
    obtain ⟨x2, _, x3⟩ := int_f n (rd Sp l i).1 (by omega) (by omega) hn hn'
    obtain ⟨y2, _, y3⟩ := int_f n (rd Sp l i).2 (by omega) (by omega) hn hn'
    rw [ltI_t (by rw [ilen_eq]; omega), br_t, okIx_t (by omega) (by rw [ilen_eq]; omega), br_t, x2, Option.bind_some, okCat_t (by rw [size44]; omega), br_t]
    change ((fn_spec_l1Int.f n (rd Sp l i).2).bind _) = _
    rw [y2, Option.bind_some, okCat_t (by rw [size_app, size44]; omega), br_t, okCat_t (by rw [size_app, size_app, size44, size59]; omega), br_t, okCat_t (by rw [size_app, size_app, size_app, size44, size59]; omega), br_t, add_one i (by omega)]
    rw [ih k (i + 1) _ (by omega) (by omega) (by omega) hl (by rw [size_app, size_app, size_app, size_app, size44, size59]; omega), List.drop_eq_getElem_cons hlt]
    rw [rd_at Sp l i hlt]
    rfl
def polyT (l : List (Int × Int)) : ByteArray × Bool := match goodB l with
  | true => (textL l (ByteArray.mk #[]), true)
  | false => (ByteArray.mk #[], false)
theorem good_spots {l : List (Int × Int)} (h : goodB l = true) : ∀ j, j < l.length → spotB (cor l j) = true := fun j hj => by
  unfold goodB at h
  rw [Bool.and_eq_true] at h
  exact polyS_spot l l.length 0 j h.2 (by omega) (by omega)
theorem iPT_f (l : List (Int × Int)) (hl : l.length ≤ 1000000) : fn_impl_PolygonText.f 5000000 l = some (polyT l) := by
  unfold fn_impl_PolygonText.f polyT
  rw [isPolygon_f _ l hl (by omega), Option.bind_some]
  cases h : goodB l
  · rfl
  · rw [bnot_t, br_f]
    unfold fn_impl_polygonText.f
    have hlen := goodB_len h
    have h0 : (ByteArray.mk #[]).size = 0 := rfl
    have := iText_l 5000000 l (by omega) (by omega) (good_spots h) (fun z6 : ByteArray => some z6) l.length 5000000 0 (ByteArray.mk #[]) (by omega) (by omega) (by omega) hl (by rw [h0]; omega)
    have this : fn_impl_polygonText.l3 5000000 5000000 l (ByteArray.mk #[]) (ilen l) 0 (fun z6 : ByteArray => some z6) = _ := this
    rw [this, Option.bind_some, List.drop_zero]
theorem sPT_f (l : List (Int × Int)) (hl : l.length ≤ 1000000) : fn_spec_PolygonText.f 5000000 l = some (polyT l) := by
  unfold fn_spec_PolygonText.f polyT
  rw [wiGood_f _ l hl (by omega), Option.bind_some]
  cases h : goodB l
  · rfl
  · rw [bnot_t, br_f]
    unfold fn_spec_wiText.f
    have hlen := goodB_len h
    have h0 : (ByteArray.mk #[]).size = 0 := rfl
    have := sText_l 5000000 l (by omega) (by omega) (good_spots h) (fun z6 : ByteArray => some z6) l.length 5000000 0 (ByteArray.mk #[]) (by omega) (by omega) (by omega) hl (by rw [h0]; omega)
    have this : fn_spec_wiText.l3 5000000 5000000 l (ByteArray.mk #[]) (ilen l) 0 (fun z6 : ByteArray => some z6) = _ := this
    rw [this, Option.bind_some, List.drop_zero]
theorem purePT (p : List (Int × Int)) (hw : Ev.WF (.slice 40 Sp) p) : ∃ n, fn_laws_FnExactPolygonText.f n p = some true := by
  refine ⟨5000000, ?_⟩
  unfold fn_laws_FnExactPolygonText.f
  have hlen : p.length ≤ 9223372036854775807 := Nat.le_trans hw.1 (by decide)
  by_cases hl : p.length ≤ 1000000
  · obtain ⟨r, hr, hr2⟩ := toSpotS_b 5000000 p hl (by omega)
    have hr2 : preL r p.length = p := hr2
    rw [sz_f _ p hl, Option.bind_some, ltI_f (by omega), br_f, toSpotS_nb _ p hl (by omega), Option.bind_some]
    dsimp only
    rw [rowSpotS_take, sPT_f p hl, Option.bind_some, Option.bind_some]
    dsimp only
    rw [rowSpotS_take, iPT_f p hl, Option.bind_some, strEq_self, bnot_t, br_f, boolEq_self, bnot_t, br_f, Option.bind_some]
    rw [intactSpotS_self _ _ _ (by omega) hl (by rw [rowSpotS_len]; omega), Option.bind_some]
    dsimp only
    rw [bnot_t, br_f, hr, Option.bind_some]
    dsimp only
    rw [hr2, iPT_f p hl, Option.bind_some, strEq_self, bnot_t, br_f, boolEq_self, bnot_t, br_f]
  · rw [sz_t _ p hl hlen, Option.bind_some, ltI_t (by omega), br_t]
end
end Go.Proofs.YtlfiikkfodpbbaaDoor.Z

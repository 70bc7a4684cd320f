/- Lists of reasons and their texts: both sides agree. -/
import Derived.Test.YtecohjcliahbnaaDoorG1
set_option linter.unusedVariables false
set_option linter.unusedSimpArgs false
set_option maxRecDepth 100000
namespace Go.Proofs.YtecohjcliahbnaaDoor.Z
open Go.Proofs.YtecohjcliahbnaaDoor.Ev
def inB (x a b : Int) : Bool := leI a x && leI x b
theorem inside_f (n : Nat) (x a b : Int) : fn_impl_inside.f n x a b = some (inB x a b) := by
  unfold fn_impl_inside.f inB
  cases leI a x <;> rfl
theorem l1In_f (n : Nat) (x a b : Int) : fn_spec_l1In.f n x a b = some (inB x a b) := inside_f n x a b
abbrev I64 : Ty := .int .i64
theorem room_f (n m : Nat) (hm : m ≤ 4000000) : fn_laws_roomBehind.f n (m : Int) = some ((roomN m : Nat) : Int) := by
  unfold fn_laws_roomBehind.f roomN
  rw [eqI_f (by omega), br_f]
  have e1 : rem (m : Int) 6 = ((m % 6 : Nat) : Int) := by unfold rem; rw [Int.tmod_eq_emod_of_nonneg (by omega)]; omega
  have e2 : rem (m : Int) 3 = ((m % 3 : Nat) : Int) := by unfold rem; rw [Int.tmod_eq_emod_of_nonneg (by omega)]; omega
  rw [e1, e2]
  by_cases h5 : m % 6 = 5
  · rw [eqI_t (by omega), br_t, if_pos h5]; rfl
  · rw [eqI_f (by omega), br_f, eqI_f (by omega), br_f, if_neg h5]
    by_cases h3 : m % 3 = 0
    · rw [eqI_t (by omega), br_t, if_pos h3]; rfl
    · rw [eqI_f (by omega), br_f, if_neg h3]
theorem toIntS_l5 {R : Type} (n : Nat) (x : List Int) (K0 : List Int → List Int → Option R) : ∀ (d k i : Nat) (out : List Int), x.length - i = d → i ≤ x.length → x.length ≤ out.length → d < k → x.length ≤ 1000000 →
    fn_laws_toIntS.l5 n k x out (i : Int) K0 = K0 x (out.take i ++ x.drop i ++ out.drop x.length) := by
  intro d
  induction d with
  | zero =>
    intro k i out hd hi ho hk hx
    obtain ⟨k, rfl⟩ : ∃ m, k = m + 1 := ⟨k - 1, by omega⟩
    obtain rfl : i = x.length := by omega
    simp only [fn_laws_toIntS.l5]
    rw [ltI_f (by rw [ilen_eq]; omega), br_f, List.drop_length, List.append_nil, List.take_append_drop]
  | succ d ih =>
    intro k i out hd hi ho hk hx
    obtain ⟨k, rfl⟩ : ∃ m, k = m + 1 := ⟨k - 1, by omega⟩
    have hlt : i < x.length := by omega
    simp only [fn_laws_toIntS.l5]
    rw [ltI_t (by rw [ilen_eq]; omega), br_t, okIx_t (by omega) (by rw [ilen_eq]; omega), br_t]
    rw [okIx_t (by omega) (by rw [ilen_eq]; omega), br_t, nat_cast, rd_at I64 x i hlt, add_one i (by omega)]
    rw [ih k (i + 1) _ (by omega) (by omega) (by unfold setL; simp; omega) (by omega) hx]
    congr 1
    unfold setL
    rw [take_set _ _ _ (by omega), drop_set _ _ _ _ hlt, List.drop_eq_getElem_cons hlt]
    simp
theorem toIntS_l9 {R : Type} (n : Nat) (x : List Int) (K0 : List Int → List Int → Option R) : ∀ (d k i : Nat) (out : List Int), out.length - i = d → i ≤ out.length → d < k → out.length ≤ 4000000 →
    fn_laws_toIntS.l9 n k x out (i : Int) K0 = K0 x (out.take i ++ List.replicate (out.length - i) (-7000000000000000101 : Int)) := by
  intro d
  induction d with
  | zero =>
    intro k i out hd hi hk hx
    obtain ⟨k, rfl⟩ : ∃ m, k = m + 1 := ⟨k - 1, by omega⟩
    obtain rfl : i = out.length := by omega
    simp only [fn_laws_toIntS.l9]
    rw [ltI_f (by rw [ilen_eq]; omega), br_f]
    simp
  | succ d ih =>
    intro k i out hd hi hk hx
    obtain ⟨k, rfl⟩ : ∃ m, k = m + 1 := ⟨k - 1, by omega⟩
    have hlt : i < out.length := by omega
    simp only [fn_laws_toIntS.l9]
    rw [ltI_t (by rw [ilen_eq]; omega), br_t]
    rw [okIx_t (by omega) (by rw [ilen_eq]; omega), br_t, nat_cast, add_one i (by omega)]
    rw [ih k (i + 1) _ (by unfold setL; simp; omega) (by unfold setL; simp; omega) (by omega) (by unfold setL; simp; omega)]
    congr 1
    unfold setL
    rw [take_set _ _ _ (by omega), List.length_set, show out.length - i = (out.length - (i + 1)) + 1 from by omega, List.replicate_succ]
    simp
/-- The row that an argument is laid into. -/
def rowIntS (l : List Int) : List Int := l ++ List.replicate (roomN l.length) (-7000000000000000101 : Int)
theorem toIntS_nb (n : Nat) (l : List Int) (hl : l.length ≤ 1000000) (hn : 3000000 < n) : fn_laws_toIntS.f n l false = some (rowIntS l, l.length) := by
  unfold fn_laws_toIntS.f
  have hr := roomN_le l.length
  rw [br_f, ilen_eq, room_f n l.length (by omega), Option.bind_some, add_in (by omega) (by omega), okMake_t (by omega) (by omega) (by omega), br_t]
  have e : nat ((l.length : Int) + ((roomN l.length : Nat) : Int)) = l.length + roomN l.length := by unfold nat; omega
  have := toIntS_l5 n l (fun z w => fn_laws_toIntS.l9 n n z w (ilen z) fun a b => br (okSl (ilen a) (ilen b)) (some (b, nat (ilen a))) none) l.length n 0 (repL (nat ((l.length : Int) + ((roomN l.length : Nat) : Int))) (0 : Int)) (by omega) (by omega) (by unfold repL; rw [e]; simp) (by omega) hl
  refine this.trans ?_
  rw [e]
  unfold repL
  simp only [List.take_zero, List.nil_append, List.drop_zero, List.drop_replicate, Nat.add_sub_cancel_left]
  rw [ilen_eq, toIntS_l9 n l _ (roomN l.length) n l.length _ (by simp) (by simp) (by omega) (by simp; omega)]
  rw [okSl_t (by rw [ilen_eq]; omega) (by rw [ilen_eq, ilen_eq]; simp; omega), br_t, ilen_eq, nat_cast]
  simp [rowIntS]
theorem toIntS_b (n : Nat) (l : List Int) (hl : l.length ≤ 1000000) (hn : 3000000 < n) : ∃ r, fn_laws_toIntS.f n l true = some (r, l.length) ∧ r.take l.length = l := by
  have h := toIntS_nb n l hl hn
  unfold fn_laws_toIntS.f at h ⊢
  rw [br_f] at h
  rw [br_t, ilen_eq]
  rw [ilen_eq] at h
  by_cases h0 : (l.length : Int) = 0
  · rw [eqI_t h0, br_t]
    have : l = [] := List.eq_nil_of_length_eq_zero (by omega)
    subst this
    exact ⟨[], rfl, rfl⟩
  · rw [eqI_f h0, br_f, h]
    exact ⟨_, rfl, by simp [rowIntS]⟩
theorem rowIntS_take (l : List Int) : preL (rowIntS l) l.length = l := by simp [preL, rowIntS]
theorem eqIntS_loop {R : Type} (n : Nat) (x : List Int) (K0 : Bool → Option R) (K1 : Unit → Option R) : ∀ (d k i : Nat), x.length - i = d → i ≤ x.length → d < k → x.length ≤ 4000000 → fn_laws_eqIntS.l4 n k x x (i : Int) K0 K1 = K1 () := by
  intro d
  induction d with
  | zero =>
    intro k i hd hi hk hx
    obtain ⟨k, rfl⟩ : ∃ m, k = m + 1 := ⟨k - 1, by omega⟩
    simp only [fn_laws_eqIntS.l4]
    rw [ltI_f (by rw [ilen_eq]; omega), br_f]
  | succ d ih =>
    intro k i hd hi hk hx
    obtain ⟨k, rfl⟩ : ∃ m, k = m + 1 := ⟨k - 1, by omega⟩
    simp only [fn_laws_eqIntS.l4]
    rw [ltI_t (by rw [ilen_eq]; omega), br_t, okIx_t (by omega) (by rw [ilen_eq]; omega), br_t, br_t, neI_f rfl, br_f, add_one i (by omega)]
    exact ih k (i + 1) (by omega) (by omega) (by omega) hx
theorem eqIntS_self (n : Nat) (x : List Int) (hn : 4000000 < n) (hx : x.length ≤ 4000000) : fn_laws_eqIntS.f n x x = some true := by
  unfold fn_laws_eqIntS.f
  rw [neI_f rfl, br_f]
  exact eqIntS_loop n x _ _ x.length n 0 (by omega) (by omega) (by omega) hx
theorem intactIntS_self (n : Nat) (r : List Int) (m : Nat) (hn : 4000000 < n) (hm : m ≤ 1000000) (hr : m + roomN m ≤ r.length) : fn_laws_intactIntS.f n (r, m) (r, m) = some (true, (r, r)) := by
  unfold fn_laws_intactIntS.f
  have h1 := roomN_le m
  dsimp only
  rw [inat_eq, room_f n m (by omega), Option.bind_some, eqI_t rfl, br_t, add_in (by omega) (by omega)]
  rw [okSl_t (by omega) (by rw [ilen_eq]; omega), br_t, br_t]
  rw [eqIntS_self n _ hn (by unfold preL nat; simp; omega)]
  rfl
theorem rowIntS_len (l : List Int) : (rowIntS l).length = l.length + roomN l.length := by simp [rowIntS]
theorem strEq_self (s : ByteArray) : strEq s s = true := by simp [strEq]
def dg (a : Int) : ByteArray := if a = 0 then ByteArray.mk #[48] else if a = 1 then ByteArray.mk #[49] else if a = 2 then ByteArray.mk #[50] else ByteArray.mk #[51]
theorem dg_size (a : Int) : (dg a).size = 1 := by unfold dg; split <;> (try split) <;> (try split) <;> rfl
theorem four {a : Int} (h : 0 ≤ a ∧ a ≤ 3) : a = 0 ∨ a = 1 ∨ a = 2 ∨ a = 3 := by omega
theorem l1Num_c (n : Nat) {a : Int} (h : 0 ≤ a ∧ a ≤ 3) : fn_spec_l1Num.f n a = some (dg a) := by
  rcases four h with h | h | h | h <;> subst h <;> kernel_rfl
theorem itoa_c (n : Nat) {a : Int} (h : 0 ≤ a ∧ a ≤ 3) : fn_strconv_Itoa.f n a = some (dg a) := by
  rcases four h with h | h | h | h <;> subst h <;> kernel_rfl
theorem strApp_size (a b : ByteArray) : (strApp a b).size = a.size + b.size := by unfold strApp; exact ByteArray.size_append
def allS (l : List Int) (a b : Int) : Nat → Nat → Bool
  | 0, _ => true
  | d + 1, i => inB (rd I64 l i) a b && allS l a b d (i + 1)
theorem l1All_l {R : Type} (n : Nat) (l : List Int) (a b : Int) (K0 : Bool → Option R) (K1 : Unit → Option R) (hl : l.length ≤ 1000000) : ∀ (d k i : Nat), l.length - i = d → i ≤ l.length → d < k →
    fn_spec_l1All.l2 n k l a b (ilen l) (i : Int) K0 K1 = br (allS l a b d i) (K1 ()) (K0 false) := by
  intro d
  induction d with
  | zero =>
    intro k i hd hi hk
    obtain ⟨k, rfl⟩ : ∃ m, k = m + 1 := ⟨k - 1, by omega⟩
    simp only [fn_spec_l1All.l2, allS]
    rw [ltI_f (by rw [ilen_eq]; omega), br_f]; rfl
  | succ d ih =>
    intro k i hd hi hk
    obtain ⟨k, rfl⟩ : ∃ m, k = m + 1 := ⟨k - 1, by omega⟩
    simp only [fn_spec_l1All.l2, allS]
    rw [ltI_t (by rw [ilen_eq]; omega), br_t, okIx_t (by omega) (by rw [ilen_eq]; omega), br_t, l1In_f, Option.bind_some, nat_cast]
    cases inB (rd I64 l i) a b
    · rfl
    · rw [bnot_t, br_f, add_one i (by omega)]
      exact ih k (i + 1) (by omega) (by omega) (by omega)
theorem contains_l {R : Type} (n : Nat) (l : List Int) (K0 : Int → Option R) (K1 : Unit → Option R) (hl : l.length ≤ 1000000) : ∀ (d k i : Nat), l.length - i = d → i ≤ l.length → d < k →
    ∃ j : Nat, fn_slices_IndexFunc___int_int__f55.l2 n k l (ilen l) (i : Int) K0 K1 = br (allS l 0 3 d i) (K1 ()) (K0 (j : Int)) := by
  intro d
  induction d with
  | zero =>
    intro k i hd hi hk
    obtain ⟨k, rfl⟩ : ∃ m, k = m + 1 := ⟨k - 1, by omega⟩
    simp only [fn_slices_IndexFunc___int_int__f55.l2, allS]
    exact ⟨0, by rw [ltI_f (by rw [ilen_eq]; omega), br_f]; rfl⟩
  | succ d ih =>
    intro k i hd hi hk
    obtain ⟨k, rfl⟩ : ∃ m, k = m + 1 := ⟨k - 1, by omega⟩
    have e : fn_impl_areReasons_1.f n (rd I64 l i) = some (bnot (inB (rd I64 l i) 0 3)) := by
      unfold fn_impl_areReasons_1.f
      rw [inside_f]; rfl
    simp only [fn_slices_IndexFunc___int_int__f55.l2, allS]
    rw [ltI_t (by rw [ilen_eq]; omega), br_t, okIx_t (by omega) (by rw [ilen_eq]; omega), br_t, nat_cast]
    change ∃ j : Nat, (fn_impl_areReasons_1.f n (rd I64 l i)).bind _ = _
    rw [e, Option.bind_some]
    cases inB (rd I64 l i) 0 3
    · exact ⟨i, rfl⟩
    · rw [bnot_t, br_f, add_one i (by omega)]
      exact ih k (i + 1) (by omega) (by omega) (by omega)
def reaB (l : List Int) : Bool := leI (ilen l) 128 && allS l 0 3 l.length 0
theorem imList_f (n : Nat) (l : List Int) (hl : l.length ≤ 1000000) (hn : 1000001 < n) : fn_spec_imList.f n l = some (reaB l) := by
  unfold fn_spec_imList.f reaB
  cases leI (ilen l) 128
  · rfl
  · rw [br_t, Bool.true_and]
    have := l1All_l n l 0 3 (fun z6 : Bool => some z6) (fun _ => some true) hl l.length n 0 (by omega) (by omega) (by omega)
    unfold fn_spec_l1All.f
    have this : fn_spec_l1All.l2 n n l 0 3 (ilen l) 0 (fun z6 : Bool => some z6) (fun _ => some true) = _ := this
    rw [this]
    cases allS l 0 3 l.length 0 <;> rfl
theorem areReasons_f (n : Nat) (l : List Int) (hl : l.length ≤ 1000000) (hn : 1000001 < n) : fn_impl_areReasons.f n l = some (reaB l) := by
  unfold fn_impl_areReasons.f reaB
  cases leI (ilen l) 128
  · rfl
  · rw [br_t, Bool.true_and]
    unfold fn_slices_ContainsFunc___int_int__f55.f fn_slices_IndexFunc___int_int__f55.f
    obtain ⟨j, hj⟩ := contains_l n l (fun z4 => some z4) (fun _ => some ((-1 : Int))) hl l.length n 0 (by omega) (by omega) (by omega)
    have hj : fn_slices_IndexFunc___int_int__f55.l2 n n l (ilen l) 0 (fun z4 => some z4) (fun _ => some ((-1 : Int))) = _ := hj
    rw [hj]
    cases allS l 0 3 l.length 0
    · rw [br_f, Option.bind_some, Option.bind_some, leI_t (by omega)]; rfl
    · rw [br_t, Option.bind_some, Option.bind_some, leI_f (by omega)]; rfl
def txt (l : List Int) : Nat → Nat → ByteArray → ByteArray
  | 0, _, s => s
  | d + 1, i, s => txt l d (i + 1) (strApp s (dg (rd I64 l i)))
theorem okCat_t {a b : ByteArray} (h : a.size + b.size ≤ 9223372036854775807) : okCat a b = true := decide_eq_true h
theorem inB_t {a x y : Int} (h : inB a x y = true) : x ≤ a ∧ a ≤ y := by
  unfold inB at h
  simp only [Bool.and_eq_true] at h
  exact ⟨of_decide_eq_true h.1, of_decide_eq_true h.2⟩
theorem sTxt_l {R : Type} (n : Nat) (l : List Int) (K0 : ByteArray → Option R) (hl : l.length ≤ 1000000) : ∀ (d k i : Nat) (s : ByteArray), l.length - i = d → i ≤ l.length → d < k → allS l 0 3 d i = true → s.size ≤ i →
    fn_spec_ReasonsText.l5 n k l s (ilen l) (i : Int) K0 = K0 (txt l d i s) := by
  intro d
  induction d with
  | zero =>
    intro k i s hd hi hk ha hs
    obtain ⟨k, rfl⟩ : ∃ m, k = m + 1 := ⟨k - 1, by omega⟩
    simp only [fn_spec_ReasonsText.l5, txt]
    rw [ltI_f (by rw [ilen_eq]; omega), br_f]
  | succ d ih =>
    intro k i s hd hi hk ha hs
    obtain ⟨k, rfl⟩ : ∃ m, k = m + 1 := ⟨k - 1, by omega⟩
    simp only [allS, Bool.and_eq_true] at ha
    have hz := dg_size (rd I64 l i)
    simp only [fn_spec_ReasonsText.l5, txt]
    rw [ltI_t (by rw [ilen_eq]; omega), br_t, okIx_t (by omega) (by rw [ilen_eq]; omega), br_t, nat_cast, l1Num_c n (inB_t ha.1), Option.bind_some, okCat_t (by omega), br_t, add_one i (by omega)]
    exact ih k (i + 1) _ (by omega) (by omega) (by omega) ha.2 (by rw [strApp_size]; omega)
theorem iTxt_l {R : Type} (n : Nat) (l : List Int) (K0 : ByteArray → Option R) (hl : l.length ≤ 1000000) : ∀ (d k i : Nat) (s : ByteArray), l.length - i = d → i ≤ l.length → d < k → allS l 0 3 d i = true → s.size ≤ i →
    fn_impl_digitsText.l3 n k l s (ilen l) (i : Int) K0 = K0 (txt l d i s) := by
  intro d
  induction d with
  | zero =>
    intro k i s hd hi hk ha hs
    obtain ⟨k, rfl⟩ : ∃ m, k = m + 1 := ⟨k - 1, by omega⟩
    simp only [fn_impl_digitsText.l3, txt]
    rw [ltI_f (by rw [ilen_eq]; omega), br_f]
  | succ d ih =>
    intro k i s hd hi hk ha hs
    obtain ⟨k, rfl⟩ : ∃ m, k = m + 1 := ⟨k - 1, by omega⟩
    simp only [allS, Bool.and_eq_true] at ha
    have hz := dg_size (rd I64 l i)
    simp only [fn_impl_digitsText.l3, txt]
    rw [ltI_t (by rw [ilen_eq]; omega), br_t, okIx_t (by omega) (by rw [ilen_eq]; omega), br_t, nat_cast, itoa_c n (inB_t ha.1), Option.bind_some, okCat_t (by omega), br_t, add_one i (by omega)]
    exact ih k (i + 1) _ (by omega) (by omega) (by omega) ha.2 (by rw [strApp_size]; omega)
def texS (l : List Int) : ByteArray × Bool := match reaB l with
  | true => (txt l l.length 0 (ByteArray.mk #[]), true)
  | false => (ByteArray.mk #[], false)
theorem reaB_all {l : List Int} (h : reaB l = true) : allS l 0 3 l.length 0 = true := by
  unfold reaB at h
  simp only [Bool.and_eq_true] at h
  exact h.2
theorem sText_f (n : Nat) (l : List Int) (hl : l.length ≤ 1000000) (hn : 1000001 < n) : fn_spec_ReasonsText.f n l = some (texS l) := by
  unfold fn_spec_ReasonsText.f texS
  rw [imList_f n l hl hn, Option.bind_some]
  cases h : reaB l
  · rfl
  · rw [bnot_t, br_f]
    exact sTxt_l n l _ hl l.length n 0 _ (by omega) (by omega) (by omega) (reaB_all h) (Nat.le_refl _)
theorem iText_f (n : Nat) (l : List Int) (hl : l.length ≤ 1000000) (hn : 1000001 < n) : fn_impl_ReasonsText.f n l = some (texS l) := by
  unfold fn_impl_ReasonsText.f texS
  rw [areReasons_f n l hl hn, Option.bind_some]
  cases h : reaB l
  · rfl
  · rw [bnot_t, br_f]
    unfold fn_impl_digitsText.f
    have := iTxt_l n l (fun z5 : ByteArray => some z5) hl l.length n 0 (ByteArray.mk #[]) (by omega) (by omega) (by omega) (reaB_all h) (Nat.le_refl _)
    have this : fn_impl_digitsText.l3 n n l (ByteArray.mk #[]) (ilen l) 0 (fun z5 : ByteArray => some z5) = _ := this
    rw [this]
    rfl
theorem pureText (p : List Int) (_ : Ev.WF (.slice 3 I64) p) : ∃ n, fn_laws_FnExactReasonsText.f n p = some true := by
  refine ⟨5000000, ?_⟩
  unfold fn_laws_FnExactReasonsText.f
  by_cases hl : p.length ≤ 1000000
  · obtain ⟨r, hr, hr2⟩ := toIntS_b 5000000 p hl (by omega)
    have hr2 : preL r p.length = p := hr2
    rw [ltI_f (by rw [ilen_eq]; omega), br_f, toIntS_nb _ p hl (by omega), Option.bind_some]
    dsimp only
    rw [rowIntS_take, sText_f _ p hl (by omega), Option.bind_some, Option.bind_some]
    dsimp only
    rw [rowIntS_take, iText_f _ p hl (by omega), Option.bind_some, strEq_self, bnot_t, br_f, boolEq_self, bnot_t, br_f, Option.bind_some]
    rw [intactIntS_self _ _ _ (by omega) hl (by rw [rowIntS_len]; omega), Option.bind_some]
    dsimp only
    rw [bnot_t, br_f, hr, Option.bind_some]
    dsimp only
    rw [hr2, iText_f _ p hl (by omega), Option.bind_some, strEq_self, bnot_t, br_f, boolEq_self, bnot_t, br_f]
  · rw [ltI_t (by rw [ilen_eq]; omega), br_t]
end Go.Proofs.YtecohjcliahbnaaDoor.Z

/- The helpers of the laws, told plainly. -/
import Derived.Test.YtpfjneaoankllaaG2
set_option linter.unusedVariables false
set_option linter.unusedSimpArgs false
set_option maxRecDepth 100000
namespace Go.Proofs.Ytpfjneaoankllaa.Z
open Go.Proofs.Ytpfjneaoankllaa.Ev
noncomputable section
def inB (x a b : Int) : Bool := leI a x && leI x b
theorem inside_f (n : Nat) (x a b : Int) : fn_impl_inside.f n x a b = some (inB x a b) := by
  unfold fn_impl_inside.f inB
  cases leI a x <;> rfl
theorem l1In_f (n : Nat) (x a b : Int) : fn_spec_l1In.f n x a b = some (inB x a b) := inside_f n x a b
abbrev I64 : Ty := .int .i64
theorem room_f (n m : Nat) (hm : m ≤ 4000000) : fn_laws_roomBehind.f n (m : Int) = some ((roomN m : Nat) : Int) := by
  unfold fn_laws_roomBehind.f roomN
  rw [eqI_f (by omega), br_f]
  have e1 : rem (m : Int) 6 = ((m % 6 : Nat) : Int) := by unfold rem; rw [Int.tmod_eq_emod_of_nonneg (by omega)]; omega
  have e2 : rem (m : Int) 3 = ((m % 3 : Nat) : Int) := by unfold rem; rw [Int.tmod_eq_emod_of_nonneg (by omega)]; omega
  rw [e1, e2]
  by_cases h5 : m % 6 = 5
  · rw [eqI_t (by omega), br_t, if_pos h5]; rfl
  · rw [eqI_f (by omega), br_f, eqI_f (by omega), br_f, if_neg h5]
    by_cases h3 : m % 3 = 0
    · rw [eqI_t (by omega), br_t, if_pos h3]; rfl
    · rw [eqI_f (by omega), br_f, if_neg h3]
theorem toIntS_l5 {R : Type} (n : Nat) (x : List Int) (K0 : List Int → List Int → Option R) : ∀ (d k i : Nat) (out : List Int), x.length - i = d → i ≤ x.length → x.length ≤ out.length → d < k → x.length ≤ 1000000 →
    fn_laws_toIntS.l5 n k x out (i : Int) K0 = K0 x (out.take i ++ x.drop i ++ out.drop x.length) := by
  intro d
  induction d with
  | zero =>
    intro k i out hd hi ho hk hx
    obtain ⟨k, rfl⟩ : ∃ m, k = m + 1 := ⟨k - 1, by omega⟩
    obtain rfl : i = x.length := by omega
    simp only [fn_laws_toIntS.l5]
    rw [ltI_f (by rw [ilen_eq]; omega), br_f, List.drop_length, List.append_nil, List.take_append_drop]
  | succ d ih =>
    intro k i out hd hi ho hk hx
    obtain ⟨k, rfl⟩ : ∃ m, k = m + 1 := ⟨k - 1, by omega⟩
    have hlt : i < x.length := by omega
    simp only [fn_laws_toIntS.l5]
    rw [ltI_t (by rw [ilen_eq]; omega), br_t, okIx_t (by omega) (by rw [ilen_eq]; omega), br_t]
    rw [okIx_t (by omega) (by rw [ilen_eq]; omega), br_t, nat_cast, rd_at I64 x i hlt, add_one i (by omega)]
    rw [ih k (i + 1) _ (by omega) (by omega) (by unfold setL; simp; omega) (by omega) hx]
    congr 1
    unfold setL
    rw [take_set _ _ _ (by omega), drop_set _ _ _ _ hlt, List.drop_eq_getElem_cons hlt]
    simp
theorem toIntS_l9 {R : Type} (n : Nat) (x : List Int) (K0 : List Int → List Int → Option R) : ∀ (d k i : Nat) (out : List Int), out.length - i = d → i ≤ out.length → d < k → out.length ≤ 4000000 →
    fn_laws_toIntS.l9 n k x out (i : Int) K0 = K0 x (out.take i ++ List.replicate (out.length - i) (-7000000000000000101 : Int)) := by
  intro d
  induction d with
  | zero =>
    intro k i out hd hi hk hx
    obtain ⟨k, rfl⟩ : ∃ m, k = m + 1 := ⟨k - 1, by omega⟩
    obtain rfl : i = out.length := by omega
    simp only [fn_laws_toIntS.l9]
    rw [ltI_f (by rw [ilen_eq]; omega), br_f]
    simp
  | succ d ih =>
    intro k i out hd hi hk hx
    obtain ⟨k, rfl⟩ : ∃ m, k = m + 1 := ⟨k - 1, by omega⟩
    have hlt : i < out.length := by omega
    simp only [fn_laws_toIntS.l9]
    rw [ltI_t (by rw [ilen_eq]; omega), br_t]
    rw [okIx_t (by omega) (by rw [ilen_eq]; omega), br_t, nat_cast, add_one i (by omega)]
    rw [ih k (i + 1) _ (by unfold setL; simp; omega) (by unfold setL; simp; omega) (by omega) (by unfold setL; simp; omega)]
    congr 1
    unfold setL
    rw [take_set _ _ _ (by omega), List.length_set, show out.length - i = (out.length - (i + 1)) + 1 from by omega, List.replicate_succ]
    simp
/-- The row that an argument is laid into. -/
def rowIntS (l : List Int) : List Int := l ++ List.replicate (roomN l.length) (-7000000000000000101 : Int)
theorem toIntS_nb (n : Nat) (l : List Int) (hl : l.length ≤ 1000000) (hn : 3000000 < n) : fn_laws_toIntS.f n l false = some (rowIntS l, l.length) := by
  unfold fn_laws_toIntS.f
  have hr := roomN_le l.length
  rw [br_f, ilen_eq, room_f n l.length (by omega), Option.bind_some, add_in (by omega) (by omega), okMake_t (by omega) (by omega) (by omega), br_t]
  have e : nat ((l.length : Int) + ((roomN l.length : Nat) : Int)) = l.length + roomN l.length := by unfold nat; omega
  have := toIntS_l5 n l (fun z w => fn_laws_toIntS.l9 n n z w (ilen z) fun a b => br (okSl (ilen a) (ilen b)) (some (b, nat (ilen a))) none) l.length n 0 (repL (nat ((l.length : Int) + ((roomN l.length : Nat) : Int))) (0 : Int)) (by omega) (by omega) (by unfold repL; rw [e]; simp) (by omega) hl
  refine this.trans ?_
  rw [e]
  unfold repL
  simp only [List.take_zero, List.nil_append, List.drop_zero, List.drop_replicate, Nat.add_sub_cancel_left]
  rw [ilen_eq, toIntS_l9 n l _ (roomN l.length) n l.length _ (by simp) (by simp) (by omega) (by simp; omega)]
  rw [okSl_t (by rw [ilen_eq]; omega) (by rw [ilen_eq, ilen_eq]; simp; omega), br_t, ilen_eq, nat_cast]
  simp [rowIntS]
theorem toIntS_b (n : Nat) (l : List Int) (hl : l.length ≤ 1000000) (hn : 3000000 < n) : ∃ r, fn_laws_toIntS.f n l true = some (r, l.length) ∧ r.take l.length = l := by
  have h := toIntS_nb n l hl hn
  unfold fn_laws_toIntS.f at h ⊢
  rw [br_f] at h
  rw [br_t, ilen_eq]
  rw [ilen_eq] at h
  by_cases h0 : (l.length : Int) = 0
  · rw [eqI_t h0, br_t]
    have : l = [] := List.eq_nil_of_length_eq_zero (by omega)
    subst this
    exact ⟨[], rfl, rfl⟩
  · rw [eqI_f h0, br_f, h]
    exact ⟨_, rfl, by simp [rowIntS]⟩
theorem rowIntS_take (l : List Int) : preL (rowIntS l) l.length = l := by simp [preL, rowIntS]
theorem eqIntS_loop {R : Type} (n : Nat) (x : List Int) (K0 : Bool → Option R) (K1 : Unit → Option R) : ∀ (d k i : Nat), x.length - i = d → i ≤ x.length → d < k → x.length ≤ 4000000 → fn_laws_eqIntS.l4 n k x x (i : Int) K0 K1 = K1 () := by
  intro d
  induction d with
  | zero =>
    intro k i hd hi hk hx
    obtain ⟨k, rfl⟩ : ∃ m, k = m + 1 := ⟨k - 1, by omega⟩
    simp only [fn_laws_eqIntS.l4]
    rw [ltI_f (by rw [ilen_eq]; omega), br_f]
  | succ d ih =>
    intro k i hd hi hk hx
    obtain ⟨k, rfl⟩ : ∃ m, k = m + 1 := ⟨k - 1, by omega⟩
    simp only [fn_laws_eqIntS.l4]
    rw [ltI_t (by rw [ilen_eq]; omega), br_t, okIx_t (by omega) (by rw [ilen_eq]; omega), br_t, br_t, neI_f rfl, br_f, add_one i (by omega)]
    exact ih k (i + 1) (by omega) (by omega) (by omega) hx
theorem eqIntS_self (n : Nat) (x : List Int) (hn : 4000000 < n) (hx : x.length ≤ 4000000) : fn_laws_eqIntS.f n x x = some true := by
  unfold fn_laws_eqIntS.f
  rw [neI_f rfl, br_f]
  exact eqIntS_loop n x _ _ x.length n 0 (by omega) (by omega) (by omega) hx
theorem intactIntS_self (n : Nat) (r : List Int) (m : Nat) (hn : 4000000 < n) (hm : m ≤ 1000000) (hr : m + roomN m ≤ r.length) : fn_laws_intactIntS.f n (r, m) (r, m) = some (true, (r, r)) := by
  unfold fn_laws_intactIntS.f
  have h1 := roomN_le m
  dsimp only
  rw [inat_eq, room_f n m (by omega), Option.bind_some, eqI_t rfl, br_t, add_in (by omega) (by omega)]
  rw [okSl_t (by omega) (by rw [ilen_eq]; omega), br_t, br_t]
  rw [eqIntS_self n _ hn (by unfold preL nat; simp; omega)]
  rfl
theorem rowIntS_len (l : List Int) : (rowIntS l).length = l.length + roomN l.length := by simp [rowIntS]
def marks (c : Int) : Nat → List Int
  | 0 => []
  | d + 1 => c :: marks (c + 1) d
theorem marks_len (c : Int) (d : Nat) : (marks c d).length = d := by
  induction d generalizing c with
  | zero => rfl
  | succ d ih => simp [marks, ih]
theorem mark_l {R : Type} (n m : Nat) (K0 : List Int → Int → Option R) : ∀ (d k i : Nat) (x : List Int) (c : Int), m - i = d → i ≤ m → m ≤ x.length → d < k → m ≤ 1000000 → 0 ≤ c → c ≤ 1000000 + i →
    fn_laws_markIntS.l2 n k x m c (i : Int) K0 = K0 (x.take i ++ (marks c d ++ x.drop m)) (c + d) := by
  intro d
  induction d with
  | zero =>
    intro k i x c hd hi hx hk hm h0 h1
    obtain ⟨k, rfl⟩ : ∃ m, k = m + 1 := ⟨k - 1, by omega⟩
    obtain rfl : i = m := by omega
    simp only [fn_laws_markIntS.l2, marks]
    rw [ltI_f (by rw [inat_eq]; omega), br_f, List.nil_append, List.take_append_drop]
    simp
  | succ d ih =>
    intro k i x c hd hi hx hk hm h0 h1
    obtain ⟨k, rfl⟩ : ∃ m, k = m + 1 := ⟨k - 1, by omega⟩
    simp only [fn_laws_markIntS.l2, marks]
    rw [ltI_t (by rw [inat_eq]; omega), br_t, okIx_t (by omega) (by rw [inat_eq]; omega), br_t, nat_cast, add_one i (by omega), add_in (by omega) (by omega)]
    rw [ih k (i + 1) _ (c + 1) (by omega) (by omega) (by unfold setL; simp; omega) (by omega) hm (by omega) (by omega)]
    unfold setL
    rw [take_set _ _ _ (by omega), drop_set _ _ _ _ (by omega)]
    congr 1
    · simp
    · omega
theorem mark_f (n : Nat) (x : List Int) (m : Nat) (hx : m ≤ x.length) (hm : m ≤ 1000000) (hn : 1000001 < n) : fn_laws_markIntS.f n (x, m) 101 = some (101 + (m : Int), marks 101 m ++ x.drop m) := by
  unfold fn_laws_markIntS.f
  refine (mark_l n m _ m n 0 x 101 (by omega) (by omega) hx (by omega) hm (by omega) (by omega)).trans ?_
  simp
theorem held_l {R : Type} (n : Nat) (K0 K1 : Int → Option R) : ∀ (d k i : Nat) (x : List Int) (c : Int), x.length - i = d → i ≤ x.length → x.drop i = marks c d → d < k → x.length ≤ 1000000 → 0 ≤ c → c ≤ 1000000 + i →
    fn_laws_heldIntS.l2 n k x c (i : Int) K0 K1 = K1 (c + d) := by
  intro d
  induction d with
  | zero =>
    intro k i x c hd hi hx hk hm h0 h1
    obtain ⟨k, rfl⟩ : ∃ m, k = m + 1 := ⟨k - 1, by omega⟩
    simp only [fn_laws_heldIntS.l2]
    rw [ltI_f (by rw [ilen_eq]; omega), br_f]
    simp
  | succ d ih =>
    intro k i x c hd hi hx hk hm h0 h1
    obtain ⟨k, rfl⟩ : ∃ m, k = m + 1 := ⟨k - 1, by omega⟩
    have hlt : i < x.length := by omega
    rw [List.drop_eq_getElem_cons hlt, marks] at hx
    injection hx with e1 e2
    simp only [fn_laws_heldIntS.l2]
    rw [ltI_t (by rw [ilen_eq]; omega), br_t, okIx_t (by omega) (by rw [ilen_eq]; omega), br_t, nat_cast, rd_at I64 x i hlt, neI_f e1, br_f, add_one i (by omega), add_in (by omega) (by omega)]
    rw [ih k (i + 1) x (c + 1) (by omega) (by omega) e2 (by omega) hm (by omega) (by omega)]
    congr 1
    omega
theorem held_f (n m : Nat) (hm : m ≤ 1000000) (hn : 1000001 < n) : fn_laws_heldIntS.f n (marks 101 m) 101 = some (101 + (m : Int)) := by
  unfold fn_laws_heldIntS.f
  have e := marks_len 101 m
  exact held_l n _ _ m n 0 (marks 101 m) 101 (by omega) (by omega) rfl (by omega) (by omega) (by omega) (by omega)
abbrev T4 : Ty := .pair (.int .i64) (.pair (.int .i64) (.pair (.int .i64) (.int .i64)))
abbrev Tm := Int × (Int × (Int × Int))
abbrev Bx := Int × (List Int × List Int)
theorem toTerm_f (n : Nat) (x : Tm) : fn_laws_toTerm.f n x = some x := rfl
theorem fillerTerm_f (n : Nat) : fn_laws_fillerTerm.f n = some (-7000000000000000101, (-7000000000000000101, (-7000000000000000101, -7000000000000000101))) := rfl
theorem eqTerm_self (n : Nat) (x : Tm) : fn_laws_eqTerm.f n x x = some true := by
  unfold fn_laws_eqTerm.f
  rw [neI_f rfl, br_f, neI_f rfl, br_f, neI_f rfl, br_f, neI_f rfl, br_f]
theorem toTermS_l5 {R : Type} (n : Nat) (x : List (Int × (Int × (Int × Int)))) (K0 : List (Int × (Int × (Int × Int))) → List (Int × (Int × (Int × Int))) → Option R) : ∀ (d k i : Nat) (out : List (Int × (Int × (Int × Int)))), x.length - i = d → i ≤ x.length → x.length ≤ out.length → d < k → x.length ≤ 1000000 →
    fn_laws_toTermS.l5 n k x out (i : Int) K0 = K0 x (out.take i ++ x.drop i ++ out.drop x.length) := by
  intro d
  induction d with
  | zero =>
    intro k i out hd hi ho hk hx
    obtain ⟨k, rfl⟩ : ∃ m, k = m + 1 := ⟨k - 1, by omega⟩
    obtain rfl : i = x.length := by omega
    simp only [fn_laws_toTermS.l5]
    rw [ltI_f (by rw [ilen_eq]; omega), br_f, List.drop_length, List.append_nil, List.take_append_drop]
  | succ d ih =>
    intro k i out hd hi ho hk hx
    obtain ⟨k, rfl⟩ : ∃ m, k = m + 1 := ⟨k - 1, by omega⟩
    have hlt : i < x.length := by omega
    simp only [fn_laws_toTermS.l5]
    rw [ltI_t (by rw [ilen_eq]; omega), br_t, okIx_t (by omega) (by rw [ilen_eq]; omega), br_t, toTerm_f, Option.bind_some]
    rw [okIx_t (by omega) (by rw [ilen_eq]; omega), br_t, nat_cast, rd_at T4 x i hlt, add_one i (by omega)]
    rw [ih k (i + 1) _ (by omega) (by omega) (by unfold setL; simp; omega) (by omega) hx]
    congr 1
    unfold setL
    rw [take_set _ _ _ (by omega), drop_set _ _ _ _ hlt, List.drop_eq_getElem_cons hlt]
    simp
theorem toTermS_l9 {R : Type} (n : Nat) (x : List (Int × (Int × (Int × Int)))) (K0 : List (Int × (Int × (Int × Int))) → List (Int × (Int × (Int × Int))) → Option R) : ∀ (d k i : Nat) (out : List (Int × (Int × (Int × Int)))), out.length - i = d → i ≤ out.length → d < k → out.length ≤ 4000000 →
    fn_laws_toTermS.l9 n k x out (i : Int) K0 = K0 x (out.take i ++ List.replicate (out.length - i) ((-7000000000000000101 : Int), ((-7000000000000000101 : Int), ((-7000000000000000101 : Int), (-7000000000000000101 : Int))))) := by
  intro d
  induction d with
  | zero =>
    intro k i out hd hi hk hx
    obtain ⟨k, rfl⟩ : ∃ m, k = m + 1 := ⟨k - 1, by omega⟩
    obtain rfl : i = out.length := by omega
    simp only [fn_laws_toTermS.l9]
    rw [ltI_f (by rw [ilen_eq]; omega), br_f]
    simp
  | succ d ih =>
    intro k i out hd hi hk hx
    obtain ⟨k, rfl⟩ : ∃ m, k = m + 1 := ⟨k - 1, by omega⟩
    have hlt : i < out.length := by omega
    simp only [fn_laws_toTermS.l9]
    rw [ltI_t (by rw [ilen_eq]; omega), br_t, fillerTerm_f, Option.bind_some]
    rw [okIx_t (by omega) (by rw [ilen_eq]; omega), br_t, nat_cast, add_one i (by omega)]
    rw [ih k (i + 1) _ (by unfold setL; simp; omega) (by unfold setL; simp; omega) (by omega) (by unfold setL; simp; omega)]
    congr 1
    unfold setL
    rw [take_set _ _ _ (by omega), List.length_set, show out.length - i = (out.length - (i + 1)) + 1 from by omega, List.replicate_succ]
    simp
/-- The row that an argument is laid into. -/
def rowTermS (l : List (Int × (Int × (Int × Int)))) : List (Int × (Int × (Int × Int))) := l ++ List.replicate (roomN l.length) ((-7000000000000000101 : Int), ((-7000000000000000101 : Int), ((-7000000000000000101 : Int), (-7000000000000000101 : Int))))
theorem toTermS_nb (n : Nat) (l : List (Int × (Int × (Int × Int)))) (hl : l.length ≤ 1000000) (hn : 3000000 < n) : fn_laws_toTermS.f n l false = some (rowTermS l, l.length) := by
  unfold fn_laws_toTermS.f
  have hr := roomN_le l.length
  rw [br_f, ilen_eq, room_f n l.length (by omega), Option.bind_some, add_in (by omega) (by omega), okMake_t (by omega) (by omega) (by omega), br_t]
  have e : nat ((l.length : Int) + ((roomN l.length : Nat) : Int)) = l.length + roomN l.length := by unfold nat; omega
  have := toTermS_l5 n l (fun z w => fn_laws_toTermS.l9 n n z w (ilen z) fun a b => br (okSl (ilen a) (ilen b)) (some (b, nat (ilen a))) none) l.length n 0 (repL (nat ((l.length : Int) + ((roomN l.length : Nat) : Int))) ((0 : Int), ((0 : Int), ((0 : Int), (0 : Int))))) (by omega) (by omega) (by unfold repL; rw [e]; simp) (by omega) hl
  refine this.trans ?_
  rw [e]
  unfold repL
  simp only [List.take_zero, List.nil_append, List.drop_zero, List.drop_replicate, Nat.add_sub_cancel_left]
  rw [ilen_eq, toTermS_l9 n l _ (roomN l.length) n l.length _ (by simp) (by simp) (by omega) (by simp; omega)]
  rw [okSl_t (by rw [ilen_eq]; omega) (by rw [ilen_eq, ilen_eq]; simp; omega), br_t, ilen_eq, nat_cast]
  simp [rowTermS]
theorem toTermS_b (n : Nat) (l : List (Int × (Int × (Int × Int)))) (hl : l.length ≤ 1000000) (hn : 3000000 < n) : ∃ r, fn_laws_toTermS.f n l true = some (r, l.length) ∧ r.take l.length = l := by
  have h := toTermS_nb n l hl hn
  unfold fn_laws_toTermS.f at h ⊢
  rw [br_f] at h
  rw [br_t, ilen_eq]
  rw [ilen_eq] at h
  by_cases h0 : (l.length : Int) = 0
  · rw [eqI_t h0, br_t]
    have : l = [] := List.eq_nil_of_length_eq_zero (by omega)
    subst this
    exact ⟨[], rfl, rfl⟩
  · rw [eqI_f h0, br_f, h]
    exact ⟨_, rfl, by simp [rowTermS]⟩
theorem rowTermS_take (l : List (Int × (Int × (Int × Int)))) : preL (rowTermS l) l.length = l := by simp [preL, rowTermS]
theorem eqTermS_loop {R : Type} (n : Nat) (x : List (Int × (Int × (Int × Int)))) (K0 : Bool → Option R) (K1 : Unit → Option R) : ∀ (d k i : Nat), x.length - i = d → i ≤ x.length → d < k → x.length ≤ 4000000 → fn_laws_eqTermS.l4 n k x x (i : Int) K0 K1 = K1 () := by
  intro d
  induction d with
  | zero =>
    intro k i hd hi hk hx
    obtain ⟨k, rfl⟩ : ∃ m, k = m + 1 := ⟨k - 1, by omega⟩
    simp only [fn_laws_eqTermS.l4]
    rw [ltI_f (by rw [ilen_eq]; omega), br_f]
  | succ d ih =>
    intro k i hd hi hk hx
    obtain ⟨k, rfl⟩ : ∃ m, k = m + 1 := ⟨k - 1, by omega⟩
    simp only [fn_laws_eqTermS.l4]
    rw [ltI_t (by rw [ilen_eq]; omega), br_t, okIx_t (by omega) (by rw [ilen_eq]; omega), br_t, br_t, eqTerm_self, Option.bind_some, bnot_t, br_f, add_one i (by omega)]
    exact ih k (i + 1) (by omega) (by omega) (by omega) hx
theorem eqTermS_self (n : Nat) (x : List (Int × (Int × (Int × Int)))) (hn : 4000000 < n) (hx : x.length ≤ 4000000) : fn_laws_eqTermS.f n x x = some true := by
  unfold fn_laws_eqTermS.f
  rw [neI_f rfl, br_f]
  exact eqTermS_loop n x _ _ x.length n 0 (by omega) (by omega) (by omega) hx
theorem intactTermS_self (n : Nat) (r : List (Int × (Int × (Int × Int)))) (m : Nat) (hn : 4000000 < n) (hm : m ≤ 1000000) (hr : m + roomN m ≤ r.length) : fn_laws_intactTermS.f n (r, m) (r, m) = some (true, (r, r)) := by
  unfold fn_laws_intactTermS.f
  have h1 := roomN_le m
  dsimp only
  rw [inat_eq, room_f n m (by omega), Option.bind_some, eqI_t rfl, br_t, add_in (by omega) (by omega)]
  rw [okSl_t (by omega) (by rw [ilen_eq]; omega), br_t, br_t]
  rw [eqTermS_self n _ hn (by unfold preL nat; simp; omega)]
  rfl
theorem rowTermS_len (l : List (Int × (Int × (Int × Int)))) : (rowTermS l).length = l.length + roomN l.length := by simp [rowTermS]
theorem rd_setL {e : Ty} (x : List e.den) (i : Nat) (y : e.den) (h : i < x.length) : rd e (setL x i y) i = y := by
  rw [rd_at e _ i (by unfold setL; simpa using h)]
  simp [setL]
theorem setL_setL {α : Type} (x : List α) (i : Nat) (a b : α) : setL (setL x i a) i b = setL x i b := by unfold setL; simp
theorem markT_l {R : Type} (n m : Nat) (K0 : List Tm → Int → Option R) : ∀ (d k i : Nat) (x : List Tm) (c : Int), m - i = d → i ≤ m → m ≤ x.length → d < k → m ≤ 1000000 → 0 ≤ c → c ≤ 1000000 + 4 * i →
    ∃ y : List Tm, y.length = x.length ∧ fn_laws_markTermS.l2 n k x m c (i : Int) K0 = K0 y (c + 4 * d) := by
  intro d
  induction d with
  | zero =>
    intro k i x c hd hi hx hk hm h0 h1
    obtain ⟨k, rfl⟩ : ∃ m, k = m + 1 := ⟨k - 1, by omega⟩
    obtain rfl : i = m := by omega
    refine ⟨x, rfl, ?_⟩
    simp only [fn_laws_markTermS.l2]
    rw [ltI_f (by rw [inat_eq]; omega), br_f]
    simp
  | succ d ih =>
    intro k i x c hd hi hx hk hm h0 h1
    obtain ⟨k, rfl⟩ : ∃ m, k = m + 1 := ⟨k - 1, by omega⟩
    have hlt : i < x.length := by omega
    have e1 : add .i64 c 1 = c + 1 := add_in (by omega) (by omega)
    have e2 : add .i64 (c + 1) 1 = c + 1 + 1 := add_in (by omega) (by omega)
    have e3 : add .i64 (c + 1 + 1) 1 = c + 1 + 1 + 1 := add_in (by omega) (by omega)
    have e4 : add .i64 (c + 1 + 1 + 1) 1 = c + 1 + 1 + 1 + 1 := add_in (by omega) (by omega)
    have hk2 : ∀ y : Tm, rd (.pair (.int .i64) (.pair (.int .i64) (.pair (.int .i64) (.int .i64)))) (setL x i y) i = y := fun y => rd_setL (e := .pair (.int .i64) (.pair (.int .i64) (.pair (.int .i64) (.int .i64)))) x i y hlt
    have hok : okIx (i : Int) (inat m) = true := okIx_t (by omega) (by rw [inat_eq]; omega)
    obtain ⟨y, h2, h3⟩ := ih k (i + 1) (setL x i (c, (c + 1, (c + 1 + 1, c + 1 + 1 + 1)))) (c + 1 + 1 + 1 + 1) (by omega) (by omega) (by unfold setL; simp; omega) (by omega) hm (by omega) (by omega)
    refine ⟨y, by rw [h2]; unfold setL; simp, ?_⟩
    simp only [fn_laws_markTermS.l2]
    simp only [nat_cast, e1, e2, e3, e4, hok, br_t, setL_setL, hk2]
    rw [ltI_t (by rw [inat_eq]; omega), br_t, add_one i (by omega), h3]
    congr 1
    omega
theorem markT_f (n : Nat) (x : List Tm) (m : Nat) (hx : m ≤ x.length) (hm : m ≤ 1000000) (hn : 1000001 < n) : ∃ y, fn_laws_markTermS.f n (x, m) 101 = some (101 + 4 * (m : Int), y) := by
  unfold fn_laws_markTermS.f
  obtain ⟨y, _, h⟩ := markT_l n m (fun z4 z5 => some (z5, z4)) m n 0 x 101 (by omega) (by omega) hx (by omega) hm (by omega) (by omega)
  exact ⟨y, by rw [← h]; rfl⟩
theorem markI_l {R : Type} (n m : Nat) (K0 : List Int → Int → Option R) : ∀ (d k i : Nat) (x : List Int) (c : Int), m - i = d → i ≤ m → m ≤ x.length → d < k → m ≤ 1000000 → 0 ≤ c → c ≤ 20000000 + i →
    ∃ y : List Int, fn_laws_markIntS.l2 n k x m c (i : Int) K0 = K0 y (c + d) := by
  intro d
  induction d with
  | zero =>
    intro k i x c hd hi hx hk hm h0 h1
    obtain ⟨k, rfl⟩ : ∃ m, k = m + 1 := ⟨k - 1, by omega⟩
    obtain rfl : i = m := by omega
    refine ⟨x, ?_⟩
    simp only [fn_laws_markIntS.l2]
    rw [ltI_f (by rw [inat_eq]; omega), br_f]
    simp
  | succ d ih =>
    intro k i x c hd hi hx hk hm h0 h1
    obtain ⟨k, rfl⟩ : ∃ m, k = m + 1 := ⟨k - 1, by omega⟩
    obtain ⟨y, h3⟩ := ih k (i + 1) (setL x i c) (c + 1) (by omega) (by omega) (by unfold setL; simp; omega) (by omega) hm (by omega) (by omega)
    refine ⟨y, ?_⟩
    simp only [fn_laws_markIntS.l2]
    rw [ltI_t (by rw [inat_eq]; omega), br_t, okIx_t (by omega) (by rw [inat_eq]; omega), br_t, nat_cast, add_one i (by omega), add_in (by omega) (by omega), h3]
    congr 1
    omega
theorem markI_f (n : Nat) (x : List Int) (m : Nat) (c : Int) (hx : m ≤ x.length) (hm : m ≤ 1000000) (hn : 1000001 < n) (h0 : 0 ≤ c) (h1 : c ≤ 20000000) : ∃ y, fn_laws_markIntS.f n (x, m) c = some (c + (m : Int), y) := by
  unfold fn_laws_markIntS.f
  obtain ⟨y, h⟩ := markI_l n m (fun z4 z5 => some (z5, z4)) m n 0 x c (by omega) (by omega) hx (by omega) hm (by omega) (by omega)
  exact ⟨y, by rw [← h]; rfl⟩
/-- The two rows that a box is laid into. -/
theorem toBox_nb (n : Nat) (b : Bx) (h1 : b.2.1.length ≤ 1000000) (h2 : b.2.2.length ≤ 1000000) (hn : 3000000 < n) : fn_laws_toBox.f n b false = some (b.1, ((rowIntS b.2.1, b.2.1.length), (rowIntS b.2.2, b.2.2.length))) := by
  unfold fn_laws_toBox.f
  rw [toIntS_nb n _ h1 hn, toIntS_nb n _ h2 hn]
  rfl
theorem toBox_b (n : Nat) (b : Bx) (h1 : b.2.1.length ≤ 1000000) (h2 : b.2.2.length ≤ 1000000) (hn : 3000000 < n) : ∃ r s, fn_laws_toBox.f n b true = some (b.1, ((r, b.2.1.length), (s, b.2.2.length))) ∧ preL r b.2.1.length = b.2.1 ∧ preL s b.2.2.length = b.2.2 := by
  obtain ⟨r, e1, e2⟩ := toIntS_b n b.2.1 h1 hn
  obtain ⟨s, e3, e4⟩ := toIntS_b n b.2.2 h2 hn
  refine ⟨r, s, ?_, e2, e4⟩
  unfold fn_laws_toBox.f
  rw [e1, e3]
  rfl
theorem intactBox_self (n : Nat) (K : Int) (r s : List Int) (i j : Nat) (hn : 4000000 < n) (hi : i ≤ 1000000) (hj : j ≤ 1000000) (hr : i + roomN i ≤ r.length) (hs : j + roomN j ≤ s.length) :
    fn_laws_intactBox.f n K (r, i) (s, j) K (r, i) (s, j) = some (true, (r, (s, (r, s)))) := by
  unfold fn_laws_intactBox.f
  rw [neI_f rfl, br_f, intactIntS_self n r i hn hi hr, Option.bind_some, bnot_t, br_f, intactIntS_self n s j hn hj hs, Option.bind_some, bnot_t, br_f]
theorem markBox_f (n : Nat) (K : Int) (r s : List Int) (i j : Nat) (c : Int) (hn : 1000001 < n) (hi : i ≤ 1000000) (hj : j ≤ 1000000) (hr : i ≤ r.length) (hs : j ≤ s.length) (h0 : 0 ≤ c) (h1 : c ≤ 10000000) :
    ∃ y, fn_laws_markBox.f n K (r, i) (s, j) c = some (c + (i : Int) + (j : Int), y) := by
  unfold fn_laws_markBox.f
  obtain ⟨y, e1⟩ := markI_f n r i c hr hi hn h0 (by omega)
  obtain ⟨z, e2⟩ := markI_f n s j (c + (i : Int)) hs hj hn (by omega) (by omega)
  rw [e1, Option.bind_some, e2]
  exact ⟨_, rfl⟩
theorem szTermS_f (n : Nat) (p : List Tm) (c : Int) (h0 : 0 ≤ c) (h1 : c ≤ 1000000) (hp : p.length ≤ 9223372036854775807) : fn_laws_szTermS.f n p c = some (if c - p.length < 0 then -1 else c - p.length) := by
  unfold fn_laws_szTermS.f
  rw [ilen_eq, sub_in (by omega) (by omega)]
  by_cases h : c - (p.length : Int) < 0
  · rw [ltI_t h, br_t, if_pos h]
  · rw [ltI_f h, br_f, if_neg h]
theorem szIntS_f (n : Nat) (p : List Int) (c : Int) (h0 : 0 ≤ c) (h1 : c ≤ 1000000) (hp : p.length ≤ 9223372036854775807) : fn_laws_szIntS.f n p c = some (if c - p.length < 0 then -1 else c - p.length) := by
  unfold fn_laws_szIntS.f
  rw [ilen_eq, sub_in (by omega) (by omega)]
  by_cases h : c - (p.length : Int) < 0
  · rw [ltI_t h, br_t, if_pos h]
  · rw [ltI_f h, br_f, if_neg h]
/-- All of an argument is of some size at most; else the law says yes. -/
theorem szBox_f (n : Nat) (b : Bx) (c : Int) (h0 : 0 ≤ c) (h1 : c ≤ 1000000) (hl : b.2.1.length ≤ 9223372036854775807) (hh : b.2.2.length ≤ 9223372036854775807) : ∃ y, fn_laws_szBox.f n b c = some y ∧ (0 ≤ y → b.2.1.length ≤ 1000000 ∧ b.2.2.length ≤ 1000000) := by
  unfold fn_laws_szBox.f
  rw [szIntS_f n _ c h0 h1 hl, Option.bind_some]
  by_cases e1 : c - (b.2.1.length : Int) < 0
  · rw [if_pos e1, ltI_t (by omega), br_t]
    exact ⟨_, rfl, fun h => by omega⟩
  · rw [if_neg e1, ltI_f e1, br_f, szIntS_f n _ _ (by omega) (by omega) hh, Option.bind_some]
    by_cases e2 : c - (b.2.1.length : Int) - (b.2.2.length : Int) < 0
    · rw [if_pos e2, ltI_t (by omega), br_t]
      exact ⟨_, rfl, fun h => by omega⟩
    · rw [if_neg e2, ltI_f e2, br_f]
      exact ⟨_, rfl, fun h => by omega⟩
end
end Go.Proofs.Ytpfjneaoankllaa.Z

/- The helpers of the laws, told plainly. -/
import Derived.Test.YtipjdipahebnbaaG1
set_option linter.unusedVariables false
set_option linter.unusedSimpArgs false
set_option maxRecDepth 100000
namespace Go.Proofs.Ytipjdipahebnbaa.Z
open Go.Proofs.Ytipjdipahebnbaa.Ev
noncomputable section
def inB (x a b : Int) : Bool := leI a x && leI x b
theorem inside_f (n : Nat) (x a b : Int) : fn_impl_inside.f n x a b = some (inB x a b) := by
  unfold fn_impl_inside.f inB
  cases leI a x <;> rfl
theorem l1In_f (n : Nat) (x a b : Int) : fn_spec_l1In.f n x a b = some (inB x a b) := inside_f n x a b
abbrev I64 : Ty := .int .i64
theorem room_f (n m : Nat) (hm : m ≤ 4000000) : fn_laws_roomBehind.f n (m : Int) = some ((roomN m : Nat) : Int) := by
  unfold fn_laws_roomBehind.f roomN
  rw [eqI_f (by omega), br_f]
  have e1 : rem (m : Int) 6 = ((m % 6 : Nat) : Int) := by unfold rem; rw [Int.tmod_eq_emod_of_nonneg (by omega)]; omega
  have e2 : rem (m : Int) 3 = ((m % 3 : Nat) : Int) := by unfold rem; rw [Int.tmod_eq_emod_of_nonneg (by omega)]; omega
  rw [e1, e2]
  by_cases h5 : m % 6 = 5
  · rw [eqI_t (by omega), br_t, if_pos h5]; rfl
  · rw [eqI_f (by omega), br_f, eqI_f (by omega), br_f, if_neg h5]
    by_cases h3 : m % 3 = 0
    · rw [eqI_t (by omega), br_t, if_pos h3]; rfl
    · rw [eqI_f (by omega), br_f, if_neg h3]
theorem toIntS_l5 {R : Type} (n : Nat) (x : List Int) (K0 : List Int → List Int → Option R) : ∀ (d k i : Nat) (out : List Int), x.length - i = d → i ≤ x.length → x.length ≤ out.length → d < k → x.length ≤ 1000000 →
    fn_laws_toIntS.l5 n k x out (i : Int) K0 = K0 x (out.take i ++ x.drop i ++ out.drop x.length) := by
  intro d
  induction d with
  | zero =>
    intro k i out hd hi ho hk hx
    obtain ⟨k, rfl⟩ : ∃ m, k = m + 1 := ⟨k - 1, by omega⟩
    obtain rfl : i = x.length := by omega
    simp only [fn_laws_toIntS.l5]
    rw [ltI_f (by rw [ilen_eq]; omega), br_f, List.drop_length, List.append_nil, List.take_append_drop]
  | succ d ih =>
    intro k i out hd hi ho hk hx
    obtain ⟨k, rfl⟩ : ∃ m, k = m + 1 := ⟨k - 1, by omega⟩
    have hlt : i < x.length := by omega
    simp only [fn_laws_toIntS.l5]
    rw [ltI_t (by rw [ilen_eq]; omega), br_t, okIx_t (by omega) (by rw [ilen_eq]; omega), br_t]
    rw [okIx_t (by omega) (by rw [ilen_eq]; omega), br_t, nat_cast, rd_at I64 x i hlt, add_one i (by omega)]
    rw [ih k (i + 1) _ (by omega) (by omega) (by unfold setL; simp; omega) (by omega) hx]
    congr 1
    unfold setL
    rw [take_set _ _ _ (by omega), drop_set _ _ _ _ hlt, List.drop_eq_getElem_cons hlt]
    simp
theorem toIntS_l9 {R : Type} (n : Nat) (x : List Int) (K0 : List Int → List Int → Option R) : ∀ (d k i : Nat) (out : List Int), out.length - i = d → i ≤ out.length → d < k → out.length ≤ 4000000 →
    fn_laws_toIntS.l9 n k x out (i : Int) K0 = K0 x (out.take i ++ List.replicate (out.length - i) (-7000000000000000101 : Int)) := by
  intro d
  induction d with
  | zero =>
    intro k i out hd hi hk hx
    obtain ⟨k, rfl⟩ : ∃ m, k = m + 1 := ⟨k - 1, by omega⟩
    obtain rfl : i = out.length := by omega
    simp only [fn_laws_toIntS.l9]
    rw [ltI_f (by rw [ilen_eq]; omega), br_f]
    simp
  | succ d ih =>
    intro k i out hd hi hk hx
    obtain ⟨k, rfl⟩ : ∃ m, k = m + 1 := ⟨k - 1, by omega⟩
    have hlt : i < out.length := by omega
    simp only [fn_laws_toIntS.l9]
    rw [ltI_t (by rw [ilen_eq]; omega), br_t]
    rw [okIx_t (by omega) (by rw [ilen_eq]; omega), br_t, nat_cast, add_one i (by omega)]
    rw [ih k (i + 1) _ (by unfold setL; simp; omega) (by unfold setL; simp; omega) (by omega) (by unfold setL; simp; omega)]
    congr 1
    unfold setL
    rw [take_set _ _ _ (by omega), List.length_set, show out.length - i = (out.length - (i + 1)) + 1 from by omega, List.replicate_succ]
    simp
/-- The row that an argument is laid into. -/
def rowIntS (l : List Int) : List Int := l ++ List.replicate (roomN l.length) (-7000000000000000101 : Int)
theorem toIntS_nb (n : Nat) (l : List Int) (hl : l.length ≤ 1000000) (hn : 3000000 < n) : fn_laws_toIntS.f n l false = some (rowIntS l, l.length) := by
  unfold fn_laws_toIntS.f
  have hr := roomN_le l.length
  rw [br_f, ilen_eq, room_f n l.length (by omega), Option.bind_some, add_in (by omega) (by omega), okMake_t (by omega) (by omega) (by omega), br_t]
  have e : nat ((l.length : Int) + ((roomN l.length : Nat) : Int)) = l.length + roomN l.length := by unfold nat; omega
  have := toIntS_l5 n l (fun z w => fn_laws_toIntS.l9 n n z w (ilen z) fun a b => br (okSl (ilen a) (ilen b)) (some (b, nat (ilen a))) none) l.length n 0 (repL (nat ((l.length : Int) + ((roomN l.length : Nat) : Int))) (0 : Int)) (by omega) (by omega) (by unfold repL; rw [e]; simp) (by omega) hl
  refine this.trans ?_
  rw [e]
  unfold repL
  simp only [List.take_zero, List.nil_append, List.drop_zero, List.drop_replicate, Nat.add_sub_cancel_left]
  rw [ilen_eq, toIntS_l9 n l _ (roomN l.length) n l.length _ (by simp) (by simp) (by omega) (by simp; omega)]
  rw [okSl_t (by rw [ilen_eq]; omega) (by rw [ilen_eq, ilen_eq]; simp; omega), br_t, ilen_eq, nat_cast]
  simp [rowIntS]
theorem toIntS_b (n : Nat) (l : List Int) (hl : l.length ≤ 1000000) (hn : 3000000 < n) : ∃ r, fn_laws_toIntS.f n l true = some (r, l.length) ∧ r.take l.length = l := by
  have h := toIntS_nb n l hl hn
  unfold fn_laws_toIntS.f at h ⊢
  rw [br_f] at h
  rw [br_t, ilen_eq]
  rw [ilen_eq] at h
  by_cases h0 : (l.length : Int) = 0
  · rw [eqI_t h0, br_t]
    have : l = [] := List.eq_nil_of_length_eq_zero (by omega)
    subst this
    exact ⟨[], rfl, rfl⟩
  · rw [eqI_f h0, br_f, h]
    exact ⟨_, rfl, by simp [rowIntS]⟩
theorem rowIntS_take (l : List Int) : preL (rowIntS l) l.length = l := by simp [preL, rowIntS]
theorem eqIntS_loop {R : Type} (n : Nat) (x : List Int) (K0 : Bool → Option R) (K1 : Unit → Option R) : ∀ (d k i : Nat), x.length - i = d → i ≤ x.length → d < k → x.length ≤ 4000000 → fn_laws_eqIntS.l4 n k x x (i : Int) K0 K1 = K1 () := by
  intro d
  induction d with
  | zero =>
    intro k i hd hi hk hx
    obtain ⟨k, rfl⟩ : ∃ m, k = m + 1 := ⟨k - 1, by omega⟩
    simp only [fn_laws_eqIntS.l4]
    rw [ltI_f (by rw [ilen_eq]; omega), br_f]
  | succ d ih =>
    intro k i hd hi hk hx
    obtain ⟨k, rfl⟩ : ∃ m, k = m + 1 := ⟨k - 1, by omega⟩
    simp only [fn_laws_eqIntS.l4]
    rw [ltI_t (by rw [ilen_eq]; omega), br_t, okIx_t (by omega) (by rw [ilen_eq]; omega), br_t, br_t, neI_f rfl, br_f, add_one i (by omega)]
    exact ih k (i + 1) (by omega) (by omega) (by omega) hx
theorem eqIntS_self (n : Nat) (x : List Int) (hn : 4000000 < n) (hx : x.length ≤ 4000000) : fn_laws_eqIntS.f n x x = some true := by
  unfold fn_laws_eqIntS.f
  rw [neI_f rfl, br_f]
  exact eqIntS_loop n x _ _ x.length n 0 (by omega) (by omega) (by omega) hx
theorem intactIntS_self (n : Nat) (r : List Int) (m : Nat) (hn : 4000000 < n) (hm : m ≤ 1000000) (hr : m + roomN m ≤ r.length) : fn_laws_intactIntS.f n (r, m) (r, m) = some (true, (r, r)) := by
  unfold fn_laws_intactIntS.f
  have h1 := roomN_le m
  dsimp only
  rw [inat_eq, room_f n m (by omega), Option.bind_some, eqI_t rfl, br_t, add_in (by omega) (by omega)]
  rw [okSl_t (by omega) (by rw [ilen_eq]; omega), br_t, br_t]
  rw [eqIntS_self n _ hn (by unfold preL nat; simp; omega)]
  rfl
theorem rowIntS_len (l : List Int) : (rowIntS l).length = l.length + roomN l.length := by simp [rowIntS]
def marks (c : Int) : Nat → List Int
  | 0 => []
  | d + 1 => c :: marks (c + 1) d
theorem marks_len (c : Int) (d : Nat) : (marks c d).length = d := by
  induction d generalizing c with
  | zero => rfl
  | succ d ih => simp [marks, ih]
theorem mark_l {R : Type} (n m : Nat) (K0 : List Int → Int → Option R) : ∀ (d k i : Nat) (x : List Int) (c : Int), m - i = d → i ≤ m → m ≤ x.length → d < k → m ≤ 1000000 → 0 ≤ c → c ≤ 1000000 + i →
    fn_laws_markIntS.l2 n k x m c (i : Int) K0 = K0 (x.take i ++ (marks c d ++ x.drop m)) (c + d) := by
  intro d
  induction d with
  | zero =>
    intro k i x c hd hi hx hk hm h0 h1
    obtain ⟨k, rfl⟩ : ∃ m, k = m + 1 := ⟨k - 1, by omega⟩
    obtain rfl : i = m := by omega
    simp only [fn_laws_markIntS.l2, marks]
    rw [ltI_f (by rw [inat_eq]; omega), br_f, List.nil_append, List.take_append_drop]
    simp
  | succ d ih =>
    intro k i x c hd hi hx hk hm h0 h1
    obtain ⟨k, rfl⟩ : ∃ m, k = m + 1 := ⟨k - 1, by omega⟩
    simp only [fn_laws_markIntS.l2, marks]
    rw [ltI_t (by rw [inat_eq]; omega), br_t, okIx_t (by omega) (by rw [inat_eq]; omega), br_t, nat_cast, add_one i (by omega), add_in (by omega) (by omega)]
    rw [ih k (i + 1) _ (c + 1) (by omega) (by omega) (by unfold setL; simp; omega) (by omega) hm (by omega) (by omega)]
    unfold setL
    rw [take_set _ _ _ (by omega), drop_set _ _ _ _ (by omega)]
    congr 1
    · simp
    · omega
theorem mark_f (n : Nat) (x : List Int) (m : Nat) (hx : m ≤ x.length) (hm : m ≤ 1000000) (hn : 1000001 < n) : fn_laws_markIntS.f n (x, m) 101 = some (101 + (m : Int), marks 101 m ++ x.drop m) := by
  unfold fn_laws_markIntS.f
  refine (mark_l n m _ m n 0 x 101 (by omega) (by omega) hx (by omega) hm (by omega) (by omega)).trans ?_
  simp
end
end Go.Proofs.Ytipjdipahebnbaa.Z

/- All places. -/
import Derived.Test.YtpfjneaoankllaaPA
set_option linter.unusedVariables false
set_option linter.unusedSimpArgs false
set_option maxRecDepth 100000
namespace Go.Proofs.Ytpfjneaoankllaa.Z
open Go.Proofs.Ytpfjneaoankllaa.Ev
noncomputable section
theorem iCh_f (n e j : Nat) (he : e ≤ 4) (hj : j ≤ 4) (hn : 10 < n) : fn_impl_choose.f n (e : Int) (j : Int) = some ((chN e j : Nat) : Int) := by
  obtain ⟨m, rfl⟩ : ∃ m, n = m + 6 := ⟨n - 6, by omega⟩
  have h1 : e = 0 ∨ e = 1 ∨ e = 2 ∨ e = 3 ∨ e = 4 := by omega
  have h2 : j = 0 ∨ j = 1 ∨ j = 2 ∨ j = 3 ∨ j = 4 := by omega
  unfold fn_impl_choose.f
  rcases h1 with rfl | rfl | rfl | rfl | rfl <;> rcases h2 with rfl | rfl | rfl | rfl | rfl <;>
    (simp only [fn_impl_choose.l3, ltI_eq, eqI_eq]; rfl)
theorem clone_f (n : Nat) (l : List Int) (h : l.length ≤ 100) : fn_slices_Clone___int_int_.f n l = some l := by
  unfold fn_slices_Clone___int_int_.f
  have e : appL ([] : List Int) l = l := rfl
  cases l with
  | nil =>
    have h0 : ltI 0 (ilen ([] : List Int)) = false := ltI_f (by decide)
    rw [h0, br_f, okApp_t (by decide), br_t, e, agree_self]
  | cons x r =>
    simp only [List.length_cons] at h
    have h0 : ltI 0 (ilen (x :: r)) = true := ltI_t (by rw [ilen_eq, List.length_cons]; omega)
    rw [h0, br_t, okApp_t (by simp [nadd]; omega), br_t, e]
abbrev LS : Ty := .slice 3 (.int .i64)
/-- A list with each of the numbers q, q + 1, .. behind it. -/
def seqL (l : List Int) : Nat → Nat → List (List Int)
  | _, 0 => []
  | q, c + 1 => (l ++ [(q : Int)]) :: seqL l (q + 1) c
def extP : List (List Int) → Nat → List (List Int)
  | [], _ => []
  | l :: r, d => seqL l 0 (d + 1) ++ extP r d
theorem seqL_len (l : List Int) : ∀ q c, (seqL l q c).length = c
  | _, 0 => rfl
  | q, c + 1 => by rw [seqL, List.length_cons, seqL_len l (q + 1) c]
theorem extP_len : ∀ (o : List (List Int)) (d : Nat), (extP o d).length = o.length * (d + 1)
  | [], d => by simp [extP]
  | l :: r, d => by rw [extP, List.length_append, seqL_len, extP_len r d, List.length_cons, Nat.add_mul, Nat.one_mul, Nat.add_comm]
theorem seqL_at (l : List Int) : ∀ (c q i : Nat), i < c → (seqL l q c).getD i [] = l ++ [((q + i : Nat) : Int)]
  | 0, _, _, h => by omega
  | c + 1, q, 0, _ => rfl
  | c + 1, q, i + 1, h => by
    show (seqL l (q + 1) c).getD i [] = _
    rw [seqL_at l c (q + 1) i (by omega), show q + 1 + i = q + (i + 1) from by omega]
theorem getD_app {α : Type} (x y : List α) (i : Nat) (d : α) : (x ++ y).getD i d = if i < x.length then x.getD i d else y.getD (i - x.length) d := by
  rw [List.getD_eq_getElem?_getD, List.getD_eq_getElem?_getD, List.getD_eq_getElem?_getD]
  split
  · rename_i h; rw [List.getElem?_append_left h]
  · rename_i h; rw [List.getElem?_append_right (by omega)]
theorem extP_at : ∀ (o : List (List Int)) (d m q : Nat), m < o.length → q ≤ d → (extP o d).getD (m * (d + 1) + q) [] = o.getD m [] ++ [(q : Int)]
  | [], _, _, _, h, _ => by cases h
  | l :: r, d, 0, q, _, hq => by
    rw [extP, getD_app, Nat.zero_mul, Nat.zero_add, if_pos (by rw [seqL_len]; omega), seqL_at l (d + 1) 0 q (by omega), Nat.zero_add]
    rfl
  | l :: r, d, m + 1, q, h, hq => by
    have e : (m + 1) * (d + 1) + q - (d + 1) = m * (d + 1) + q := by rw [Nat.add_mul, Nat.one_mul]; omega
    rw [extP, getD_app, seqL_len, if_neg (by rw [Nat.add_mul, Nat.one_mul]; omega), e, extP_at r d m q (by simpa using h) hq]
    rfl
theorem pl_l10 {R : Type} (n : Nat) (l ds : List Int) (o : List (List Int)) (d : Nat) (x17 x18 x19 x20 : Int) (K0 : List (List Int) → List Int → List (List Int) → Int → Int → Int → Int → Int → Option R) (hd : d ≤ 4) (hl : l.length ≤ 4) :
    ∀ (c k q : Nat) (nx : List (List Int)), d + 1 - q = c → q ≤ d + 1 → c < k → nx.length + c ≤ 1000 → fn_impl_places.l10 n k nx l ds o (d : Int) x17 x18 x19 x20 ((d + 1 : Nat) : Int) (q : Int) K0 = K0 (nx ++ seqL l q c) ds o (d : Int) x17 x18 x19 x20 := by
  intro c
  induction c with
  | zero =>
    intro k q nx hc hq hk hnx
    obtain ⟨k, rfl⟩ : ∃ m, k = m + 1 := ⟨k - 1, by omega⟩
    simp only [fn_impl_places.l10, seqL]
    rw [ltI_f (by omega), br_f, List.append_nil]
  | succ c ih =>
    intro k q nx hc hq hk hnx
    obtain ⟨k, rfl⟩ : ∃ m, k = m + 1 := ⟨k - 1, by omega⟩
    simp only [fn_impl_places.l10, seqL]
    rw [ltI_t (by omega), br_t, clone_f n l (by omega), Option.bind_some, okApp_t (by simp [nadd]; omega), br_t, okApp_t (by simp [nadd]; omega), br_t, add_one q (by omega)]
    rw [ih k (q + 1) (appL nx [appL l [(q : Int)]]) (by omega) (by omega) (by omega) (by simp [appL]; omega)]
    simp [appL]
theorem pl_l7 {R : Type} (n : Nat) (ds : List Int) (o : List (List Int)) (d : Nat) (x8 x9 : Int) (K0 : List (List Int) → List Int → Int → Int → Option R) (hd : d ≤ 4) (hn : 1000001 < n) (ho : o.length * (d + 1) ≤ 900) (hl : ∀ l ∈ o, l.length ≤ 4) :
    ∀ (c k i : Nat) (nx : List (List Int)), o.length - i = c → i ≤ o.length → c < k → nx.length = i * (d + 1) → fn_impl_places.l7 n k nx ds o (d : Int) x8 x9 (ilen o) (i : Int) K0 = K0 (nx ++ extP (o.drop i) d) ds x8 x9 := by
  intro c
  induction c with
  | zero =>
    intro k i nx hc hi hk hnx
    obtain ⟨k, rfl⟩ : ∃ m, k = m + 1 := ⟨k - 1, by omega⟩
    obtain rfl : i = o.length := by omega
    simp only [fn_impl_places.l7]
    rw [ltI_f (by rw [ilen_eq]; omega), br_f, List.drop_length, extP, List.append_nil]
  | succ c ih =>
    intro k i nx hc hi hk hnx
    obtain ⟨k, rfl⟩ : ∃ m, k = m + 1 := ⟨k - 1, by omega⟩
    have hlt : i < o.length := by omega
    have hb : (i + 1) * (d + 1) ≤ o.length * (d + 1) := Nat.mul_le_mul_right _ hlt
    have ho' : o.length ≤ o.length * (d + 1) := Nat.le_mul_of_pos_right _ (Nat.succ_pos d)
    rw [Nat.add_mul, Nat.one_mul] at hb
    simp only [fn_impl_places.l7]
    rw [ltI_t (by rw [ilen_eq]; omega), br_t, okIx_t (by omega) (by rw [ilen_eq]; omega), br_t, nat_cast, rd_at LS o i hlt, add_in (x := (d : Int)) (y := 1) (by omega) (by omega), show (d : Int) + 1 = ((d + 1 : Nat) : Int) from by omega]
    refine (pl_l10 n o[i] ds o d x8 x9 (ilen o) (i : Int) _ hd (hl _ (List.getElem_mem hlt)) (d + 1) n 0 nx (by omega) (by omega) (by omega) (by omega)).trans ?_
    rw [add_one i (by omega)]
    refine (ih k (i + 1) (nx ++ seqL o[i] 0 (d + 1)) (by omega) (by omega) (by omega) (by rw [List.length_append, seqL_len, hnx, Nat.add_mul, Nat.one_mul])).trans ?_
    rw [List.drop_eq_getElem_cons hlt, extP, List.append_assoc]
theorem place_step (n : Nat) (ds : List Int) (o : List (List Int)) (d : Nat) (K0 : List (List Int) → Option (List (List Int))) (k i : Nat) (hi : i < ds.length) (hds : ds.length ≤ 3) (hdi : cf ds i = (d : Int)) (hd : d ≤ 4) (hn : 1000001 < n) (ho : o.length * (d + 1) ≤ 900) (hl : ∀ l ∈ o, l.length ≤ 4) :
    fn_impl_places.l3 n (k + 1) o ds (ilen ds) (i : Int) K0 = fn_impl_places.l3 n k (extP o d) ds (ilen ds) ((i + 1 : Nat) : Int) K0 := by
  have e : rd (.int .i64) ds i = (d : Int) := hdi
  have ho' : o.length ≤ o.length * (d + 1) := Nat.le_mul_of_pos_right _ (Nat.succ_pos d)
  simp only [fn_impl_places.l3]
  rw [ltI_t (by rw [ilen_eq]; omega), br_t, okIx_t (by omega) (by rw [ilen_eq]; omega), br_t, nat_cast, e]
  refine (pl_l7 n ds o d (ilen ds) (i : Int) _ hd hn ho hl o.length n 0 [] (by omega) (by omega) (by omega) (by simp)).trans ?_
  rw [add_one i (by omega)]
  rfl
theorem seqL_mem {l : List Int} {m : List Int} : ∀ {c q : Nat}, m ∈ seqL l q c → m.length = l.length + 1
  | 0, _, h => by cases h
  | c + 1, q, h => by
    rcases List.mem_cons.1 h with rfl | h
    · simp
    · exact seqL_mem h
theorem extP_mem {k : Nat} : ∀ {o : List (List Int)} {d : Nat}, (∀ l ∈ o, l.length = k) → ∀ m ∈ extP o d, m.length = k + 1
  | [], _, _, m, hm => by cases hm
  | l :: r, d, h, m, hm => by
    rcases List.mem_append.1 hm with h1 | h1
    · rw [seqL_mem h1, h l (by simp)]
    · exact extP_mem (fun x hx => h x (by simp [hx])) m h1
/-- Three numbers. -/
def dig (x y z : Nat) : Nat → Nat
  | 0 => x
  | 1 => y
  | _ => z
/-- A list of all places of a table, of s numbers each. -/
def Plc (all : List (List Int)) (s d0 d1 d2 : Nat) : Prop := all.length = (d0 + 1) * (d1 + 1) * (d2 + 1) ∧
  ∀ x y z, x ≤ d0 → y ≤ d1 → z ≤ d2 → (rd LS all (atN d1 d2 x y z)).length = s ∧ ∀ k, k < s → cf (rd LS all (atN d1 d2 x y z)) k = ((dig x y z k : Nat) : Int)
theorem places_f (n : Nat) (p : List Tm) (hp : polyB p = true) (s : Nat) (h1 : 1 ≤ s) (h3 : s ≤ 3) (hn : 1000001 < n) : ∃ all, fn_impl_places.f n (degL p s) = some all ∧ Plc all s (dN p s 0) (dN p s 1) (dN p s 2) ∧ all.length ≤ 125 := by
  obtain ⟨eD, b0, b1, b2⟩ := degE_N p hp s h3
  have hpre := degE_pre p s h1 h3
  rw [eD] at hpre
  obtain ⟨m, rfl⟩ : ∃ m, n = m + 4 := ⟨n - 4, by omega⟩
  have hs : s = 1 ∨ s = 2 ∨ s = 3 := by omega
  have e1 : ∀ l ∈ ([[]] : List (List Int)), l.length = 0 := fun l h => by simp at h; rw [h]; rfl
  have fin : ∀ (o : List (List Int)) (ds : List Int) (k i : Nat) (K0 : List (List Int) → Option (List (List Int))), i = ds.length → fn_impl_places.l3 (m + 4) (k + 1) o ds (ilen ds) (i : Int) K0 = K0 o := fun o ds k i K0 h => by
    simp only [fn_impl_places.l3]
    rw [ltI_f (by rw [ilen_eq]; omega), br_f]
  rcases hs with rfl | rfl | rfl
  · have z1 : dN p 1 1 = 0 := rfl
    have z2 : dN p 1 2 = 0 := rfl
    rw [z1, z2]
    generalize dN p 1 0 = d0 at *
    rw [← hpre]
    show ∃ all, fn_impl_places.f (m + 4) [(d0 : Int)] = some all ∧ _
    have l1 : (extP [[]] d0).length = d0 + 1 := by rw [extP_len]; simp
    refine ⟨extP [[]] d0, ?_, ⟨by rw [l1]; omega, fun x y z hx hy hz => ?_⟩, by rw [l1]; omega⟩
    · unfold fn_impl_places.f
      refine (place_step (m + 4) [(d0 : Int)] [[]] d0 _ (m + 3) 0 (by simp) (by simp) rfl b0 hn (by simp; omega) (fun l h => by rw [e1 l h]; omega)).trans ?_
      exact fin _ _ (m + 2) 1 _ rfl
    · obtain rfl : y = 0 := by omega
      obtain rfl : z = 0 := by omega
      have e : rd LS (extP [[]] d0) (atN 0 0 x 0 0) = [(x : Int)] := by
        have := extP_at [[]] d0 0 x (by simp) hx
        rw [Nat.zero_mul, Nat.zero_add] at this
        unfold atN
        simp only [Nat.zero_add, Nat.mul_one, Nat.add_zero]
        exact this
      rw [e]
      exact ⟨rfl, fun k hk => by
        obtain rfl : k = 0 := by omega
        rfl⟩
  · have z2 : dN p 2 2 = 0 := rfl
    rw [z2]
    generalize dN p 2 0 = d0 at *
    generalize dN p 2 1 = d1 at *
    rw [← hpre]
    show ∃ all, fn_impl_places.f (m + 4) [(d0 : Int), (d1 : Int)] = some all ∧ _
    have l1 : (extP [[]] d0).length = d0 + 1 := by rw [extP_len]; simp
    have m1 := extP_mem (d := d0) e1
    have l2 : (extP (extP [[]] d0) d1).length = (d0 + 1) * (d1 + 1) := by rw [extP_len, l1]
    have q1 : (d0 + 1) * (d1 + 1) ≤ 5 * 5 := Nat.mul_le_mul (by omega) (by omega)
    refine ⟨extP (extP [[]] d0) d1, ?_, ⟨by rw [l2, Nat.mul_one], fun x y z hx hy hz => ?_⟩, by rw [l2]; omega⟩
    · unfold fn_impl_places.f
      refine (place_step (m + 4) [(d0 : Int), (d1 : Int)] [[]] d0 _ (m + 3) 0 (by simp) (by simp) rfl b0 hn (by simp; omega) (fun l h => by rw [e1 l h]; omega)).trans ?_
      refine (place_step (m + 4) [(d0 : Int), (d1 : Int)] (extP [[]] d0) d1 _ (m + 2) 1 (by simp) (by simp) rfl b1 hn (by rw [l1]; omega) (fun l h => by rw [m1 l h]; omega)).trans ?_
      exact fin _ _ (m + 1) 2 _ rfl
    · obtain rfl : z = 0 := by omega
      have e : rd LS (extP (extP [[]] d0) d1) (atN d1 0 x y 0) = [(x : Int), (y : Int)] := by
        have t1 := extP_at [[]] d0 0 x (by simp) hx
        rw [Nat.zero_mul, Nat.zero_add] at t1
        have t2 := extP_at (extP [[]] d0) d1 x y (by rw [l1]; omega) hy
        rw [t1] at t2
        unfold atN
        simp only [Nat.zero_add, Nat.mul_one, Nat.add_zero]
        exact t2
      rw [e]
      exact ⟨rfl, fun k hk => by
        have : k = 0 ∨ k = 1 := by omega
        rcases this with rfl | rfl <;> rfl⟩
  · generalize dN p 3 0 = d0 at *
    generalize dN p 3 1 = d1 at *
    generalize dN p 3 2 = d2 at *
    rw [← hpre]
    show ∃ all, fn_impl_places.f (m + 4) [(d0 : Int), (d1 : Int), (d2 : Int)] = some all ∧ _
    have l1 : (extP [[]] d0).length = d0 + 1 := by rw [extP_len]; simp
    have m1 := extP_mem (d := d0) e1
    have l2 : (extP (extP [[]] d0) d1).length = (d0 + 1) * (d1 + 1) := by rw [extP_len, l1]
    have m2 := extP_mem (d := d1) m1
    have l3 : (extP (extP (extP [[]] d0) d1) d2).length = (d0 + 1) * (d1 + 1) * (d2 + 1) := by rw [extP_len, l2]
    have q1 : (d0 + 1) * (d1 + 1) ≤ 5 * 5 := Nat.mul_le_mul (by omega) (by omega)
    have q2 : (d0 + 1) * (d1 + 1) * (d2 + 1) ≤ 25 * 5 := Nat.mul_le_mul q1 (by omega)
    refine ⟨extP (extP (extP [[]] d0) d1) d2, ?_, ⟨l3, fun x y z hx hy hz => ?_⟩, by rw [l3]; omega⟩
    · unfold fn_impl_places.f
      refine (place_step (m + 4) [(d0 : Int), (d1 : Int), (d2 : Int)] [[]] d0 _ (m + 3) 0 (by simp) (by simp) rfl b0 hn (by simp; omega) (fun l h => by rw [e1 l h]; omega)).trans ?_
      refine (place_step (m + 4) [(d0 : Int), (d1 : Int), (d2 : Int)] (extP [[]] d0) d1 _ (m + 2) 1 (by simp) (by simp) rfl b1 hn (by rw [l1]; omega) (fun l h => by rw [m1 l h]; omega)).trans ?_
      refine (place_step (m + 4) [(d0 : Int), (d1 : Int), (d2 : Int)] (extP (extP [[]] d0) d1) d2 _ (m + 1) 2 (by simp) (by simp) rfl b2 hn (by rw [l2]; omega) (fun l h => by rw [m2 l h]; omega)).trans ?_
      exact fin _ _ m 3 _ rfl
    · have e : rd LS (extP (extP (extP [[]] d0) d1) d2) (atN d1 d2 x y z) = [(x : Int), (y : Int), (z : Int)] := by
        have t1 := extP_at [[]] d0 0 x (by simp) hx
        rw [Nat.zero_mul, Nat.zero_add] at t1
        have t2 := extP_at (extP [[]] d0) d1 x y (by rw [l1]; omega) hy
        rw [t1] at t2
        have hlt : x * (d1 + 1) + y < (extP (extP [[]] d0) d1).length := by
          rw [l2]
          have : x * (d1 + 1) ≤ d0 * (d1 + 1) := Nat.mul_le_mul_right _ hx
          rw [Nat.add_mul]
          omega
        have t3 := extP_at (extP (extP [[]] d0) d1) d2 (x * (d1 + 1) + y) z hlt hz
        rw [t2] at t3
        exact t3
      rw [e]
      exact ⟨rfl, fun k hk => by
        have : k = 0 ∨ k = 1 ∨ k = 2 := by omega
        rcases this with rfl | rfl | rfl <;> rfl⟩
end
end Go.Proofs.Ytpfjneaoankllaa.Z

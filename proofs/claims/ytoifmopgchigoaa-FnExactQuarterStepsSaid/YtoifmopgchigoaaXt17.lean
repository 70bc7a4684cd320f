-- laws_toSpotS: what it makes, the spare cells too
import Derived.Test.YtoifmopgchigoaaXr17
import Derived.Test.YtoifmopgchigoaaXL
namespace Go.Proofs.Ytoifmopgchigoaa.X
open Go.RowKit Go.Proofs.YtoifmopgchigoaaW.PrintWords Go.Proofs.YtoifmopgchigoaaW.PrintLast Go.Proofs.YtoifmopgchigoaaW.PrintMore
set_option linter.unusedVariables false
set_option linter.unusedSimpArgs false
def laws_toSpotS.cv (x : (S37)) : (S40) := ⟨x.f0, x.f1⟩
def laws_toSpotS.fill : (S40) := ⟨-7000000000000000101, -7000000000000000101⟩
theorem laws_toSpotS.to_l1 (x0 : List (S37)) : ∀ (d k : Nat) (x5 : List (S40)) (i : Nat), x5.length - i = d → i ≤ x5.length → x0.length ≤ x5.length → x5.length ≤ 4000000 → d < k →
    laws_toSpotSX.l1 k x0 x5 i = some (x5.take i ++ List.replicate d laws_toSpotS.fill) := by
  intro d
  induction d with
  | zero =>
    intro k x5 i hd hi hx hb hk
    obtain ⟨k, rfl⟩ : ∃ m, k = m + 1 := ⟨k - 1, by omega⟩
    simp only [laws_toSpotSX.l1]
    rw [if_neg (by omega), if_pos (by omega), if_pos (by omega), List.take_of_length_le (by omega)]; simp
  | succ d ih =>
    intro k x5 i hd hi hx hb hk
    obtain ⟨k, rfl⟩ : ∃ m, k = m + 1 := ⟨k - 1, by omega⟩
    simp only [laws_toSpotSX.l1, laws_fillerSpot.f, laws_toSpot.f, Option.bind_some]
    rw [if_pos (by omega), if_pos (by omega), wrap_succ (n := x5.length) (by omega) (by omega) (by omega)]
    have := ih k (x5.set i laws_toSpotS.fill) (i + 1) (by simp; omega) (by simp; omega) (by simpa using hx) (by simpa using hb) (by omega)
    rw [take_set_succ _ _ _ (by omega)] at this
    simp only [Int.toNat_natCast]
    rw [show ((i : Int) + 1) = ((i + 1 : Nat) : Int) from by omega]
    refine this.trans ?_
    rw [List.append_assoc]; rfl
theorem laws_toSpotS.to_l0 (x0 : List (S37)) : ∀ (d k : Nat) (x5 : List (S40)) (i : Nat), x0.length - i = d → i ≤ x0.length → x0.length ≤ x5.length → x5.length ≤ 4000000 → d + x5.length + 1 < k →
    laws_toSpotSX.l0 k x0 x5 i = some (x5.take i ++ (x0.drop i).map laws_toSpotS.cv ++ List.replicate (x5.length - x0.length) laws_toSpotS.fill) := by
  intro d
  induction d with
  | zero =>
    intro k x5 i hd hi hx hb hk
    obtain ⟨k, rfl⟩ : ∃ m, k = m + 1 := ⟨k - 1, by omega⟩
    have hi' : i = x0.length := by omega
    subst hi'
    simp only [laws_toSpotSX.l0]
    rw [if_neg (by omega), laws_toSpotS.to_l1 x0 (x5.length - x0.length) k x5 x0.length (by omega) (by omega) (by omega) hb (by omega)]
    simp
  | succ d ih =>
    intro k x5 i hd hi hx hb hk
    obtain ⟨k, rfl⟩ : ∃ m, k = m + 1 := ⟨k - 1, by omega⟩
    simp only [laws_toSpotSX.l0, laws_fillerSpot.f, laws_toSpot.f, Option.bind_some]
    rw [if_pos (by omega), if_pos (by omega), if_pos (by omega), wrap_succ (n := x0.length) (by omega) (by omega) (by omega)]
    simp only [Int.toNat_natCast]
    rw [show ((i : Int) + 1) = ((i + 1 : Nat) : Int) from by omega]
    refine (ih k _ (i + 1) (by omega) (by omega) (by simpa using hx) (by simpa using hb) (by rw [List.length_set]; omega)).trans ?_
    rw [take_set_succ _ _ _ (by omega), List.length_set]
    have hlt : i < x0.length := by omega
    have hrd : rd_T37 x0 (i : Int) = x0[i] := by simp [rd_T37, List.getD_eq_getElem?_getD, List.getElem?_eq_getElem hlt]
    rw [hrd, List.drop_eq_getElem_cons hlt]
    simp only [List.map_cons, List.append_assoc, List.cons_append, List.nil_append]
    rfl
/-- The whole row. -/
def laws_toSpotS.full (l : List (S37)) : List (S40) := l.map laws_toSpotS.cv ++ List.replicate (room l.length) laws_toSpotS.fill
theorem laws_toSpotS.full_eq (l : List (S37)) (x : (S40)) : (List.replicate (l.length + room l.length) x).take 0 ++ (l.drop 0).map laws_toSpotS.cv ++ List.replicate ((List.replicate (l.length + room l.length) x).length - l.length) laws_toSpotS.fill = laws_toSpotS.full l := by
  rw [List.length_replicate, Nat.add_sub_cancel_left]; rfl
theorem laws_toSpotS.to_j0 (l : List (S37)) (k : Nat) (h : l.length ≤ 1000000) (hk : 3 * l.length + 5 ≤ k) : laws_toSpotSX.l0 k l (List.replicate (l.length + room l.length) z40) 0 = some (laws_toSpotS.full l) := by
  have hr := room_le l.length
  have := laws_toSpotS.to_l0 l l.length k (List.replicate (l.length + room l.length) z40) 0 (by omega) (by omega) (by rw [List.length_replicate]; omega) (by rw [List.length_replicate]; omega) (by rw [List.length_replicate]; omega)
  exact this.trans (congrArg some (laws_toSpotS.full_eq l z40))
theorem laws_toSpotS.to_f (l : List (S37)) (k : Nat) (h : l.length ≤ 1000000) (hk : 3 * l.length + 6 ≤ k) : laws_toSpotSX.f k l false = some (laws_toSpotS.full l) := by
  have hr := room_le l.length
  obtain ⟨k, rfl⟩ : ∃ m, k = m + 1 := ⟨k - 1, by omega⟩
  have h1 := laws_toSpotS.to_j0 l k h (by omega)
  have hw := sum_wrap l.length (room l.length) h hr
  have hb : l.length + room l.length ≤ 17592186044416 := by omega
  unfold laws_toSpotSX.f
  rw [if_neg (by simp)]
  simp only [laws_toSpotSX.j0]
  rw [if_neg (by simp), room_f _ h, Option.bind_some, hw, if_pos (Int.natCast_nonneg _), Int.toNat_natCast, if_pos hb]
  exact h1
theorem laws_toSpotS.nil_ (A0 : Option Addr) (c0 : Nat) (w : World) :
    Calls Try.prog 17 #[.slice A0 0 c0, .bool true] w fun e w' => e = .returned (.slice none 0 0) ∧ Below w.heap.size w w' := by
  go_enter Try.func17, Try.ntmps17
  go_wp2
  go_ret
  exact ⟨rfl, by first | exact Below.refl _ _ | exact below_drew1 (Below.refl _ _)⟩
theorem laws_toSpotS.to_t (l : List (S37)) (k : Nat) (h0 : l.length ≠ 0) (h : l.length ≤ 1000000) (hk : 3 * l.length + 6 ≤ k) : laws_toSpotSX.f k l true = some (laws_toSpotS.full l) := by
  have e : ((l.length : Int) == 0) = false := by simpa using h0
  have := laws_toSpotS.to_f l k h hk
  unfold laws_toSpotSX.f at this ⊢
  rw [if_neg (by simp)] at this
  rw [if_pos rfl, e]
  exact this
/-- What the laws' arguments become. -/
def laws_toSpotS.f (k : Nat) (l0 : List (S37)) (a1 : Bool) : Option (List (S40)) := if l0.length ≤ 1000000 then some (l0.map laws_toSpotS.cv) else none
theorem laws_toSpotS.mono : ∀ a0 a1 k, LeO (laws_toSpotS.f k a0 a1) (laws_toSpotS.f (k + 1) a0 a1) := fun _ _ _ => LeO.refl _
/-- The spare cells: none where a bare list was asked for. -/
def laws_toSpotS.sp (b : Bool) (l : List (S40)) : List (S40) := if b = true then [] else spare laws_toSpotS.fill l
theorem laws_toSpotS.calls (k : Nat) (A0 : Option Addr) (c0 : Nat) (l0 : List (S37)) (a1 : Bool) (r : List (S40)) (w : World) (hr0 : Kd.C k37 w A0 l0.length l0) (hc0 : l0.length ≤ c0) (h : laws_toSpotS.f k l0 a1 = some r) :
    Calls Try.prog 17 #[.slice A0 l0.length c0, .bool a1] w fun e w' => ∃ v0_ : Value, e = .returned (v0_) ∧ Kx.R (laws_toSpotS.sp a1) k40 40 w' w.heap.size (fun _ => True) v0_ r ∧ Below w.heap.size w w' := by
  unfold laws_toSpotS.f at h
  split at h
  · rename_i hl
    obtain rfl := Option.some.inj h
    cases a1 with
    | false =>
      refine (laws_toSpotSX.calls (3 * l0.length + 6) A0 c0 l0 false (laws_toSpotS.full l0) w hr0 hc0 (laws_toSpotS.to_f l0 _ hl (Nat.le_refl _))).mono ?_
      rintro e w' ⟨A_, c_, rfl, h1, h2⟩
      refine ⟨_, rfl, ⟨A_, c_, by rw [List.length_map], ?_⟩, h2⟩
      have : l0.map laws_toSpotS.cv ++ laws_toSpotS.sp false (l0.map laws_toSpotS.cv) = laws_toSpotS.full l0 := by simp [laws_toSpotS.sp, spare, laws_toSpotS.full]
      rw [this]
      exact h1
    | true =>
      by_cases h0 : l0.length = 0
      · obtain rfl := List.eq_nil_of_length_eq_zero h0
        refine (laws_toSpotS.nil_ A0 c0 w).mono ?_
        rintro e w' ⟨rfl, h2⟩
        exact ⟨_, rfl, ⟨none, 0, rfl, Kd.R_nil _ _ _ _ _⟩, h2⟩
      · refine (laws_toSpotSX.calls (3 * l0.length + 6) A0 c0 l0 true (laws_toSpotS.full l0) w hr0 hc0 (laws_toSpotS.to_t l0 _ h0 hl (Nat.le_refl _))).mono ?_
        rintro e w' ⟨A_, c_, rfl, h1, h2⟩
        refine ⟨_, rfl, ⟨A_, c_, by rw [List.length_map], ?_⟩, h2⟩
        have := Kd.R_take (m := l0.length) h1 (by simp [laws_toSpotS.full])
        have e : (laws_toSpotS.full l0).take l0.length = l0.map laws_toSpotS.cv := by rw [laws_toSpotS.full, List.take_append_of_le_length (by simp), List.take_of_length_le (by simp)]
        rw [e] at this
        simpa [laws_toSpotS.sp] using this
  · cases h
end Go.Proofs.Ytoifmopgchigoaa.X

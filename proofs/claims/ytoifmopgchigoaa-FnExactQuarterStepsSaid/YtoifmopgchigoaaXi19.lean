-- laws_intactSpotS: the same row read twice, the spare cells too
import Derived.Test.YtoifmopgchigoaaXf31
import Derived.Test.YtoifmopgchigoaaXt17
namespace Go.Proofs.Ytoifmopgchigoaa.X
open Go.RowKit Go.Proofs.YtoifmopgchigoaaW.PrintWords Go.Proofs.YtoifmopgchigoaaW.PrintLast Go.Proofs.YtoifmopgchigoaaW.PrintMore
attribute [local go_sem] max2_int min2_int max_two min_two max_three min_three max_four min_four
set_option linter.unusedVariables false
set_option linter.unusedSimpArgs false
/-- x[:j] up to the capacity. -/
theorem laws_intactSpotS.cut_cap {P : Program} (t e : TypeId) (kh : IntKind) {i : TypeInfo} (ht : P.underlying t = some (.slice e)) (hi : P.info? e = some i) (A : Option Addr) (n c : Nat) (j : Int) (h0 : 0 ≤ j) (hm : j ≤ c) :
    ∀ W : World, (Instr.slice t (.slice A n c) none (some (.int kh j)) none).run P W = .ok (.slice A j.toNat c) W := by
  intro W
  have hel : P.elem t = e := by simp [Program.elem, ht]
  have hu : P.underlying t = some (.slice (P.elem t)) := by rw [hel]; exact ht
  have ha : (A.map fun x => x.add 0) = A := by cases A <;> simp [Addr.add]
  rw [run_slice_h W t A n c hu kh j h0 (by omega), hel]
  simp [sizeOf, typeInfo, hi, sliced, Result.andThen, ha]
def laws_intactSpotS.T2 : Bool × List (List Nat × List Nat) := (true, [([], []), ([0], [0]), ([], []), ([2], [2]), ([1, 3], [1, 3]), ([4], [4]), ([5], [5]), ([5], [5]), ([6, 7, 5], [5, 6, 7]), ([5], [5]), ([5], [5]), ([9, 10, 5], [5, 9, 10]), ([8, 11, 5, 5], [5, 8, 11]), ([5, 12], [5, 12]), ([13, 12, 0, 1, 2, 3, 4, 5, 6, 7, 8, 9, 10, 11, 12, 13], [13])])
def laws_intactSpotS.B2 : List Nat := [0, 1, 0, 4, 15, 31, 63, 63, 255, 63, 63, 1599, 4095, 8191, 16383]
theorem laws_intactSpotS.tab2 : rtab .any (opsOf Try.f19 2) = laws_intactSpotS.T2 := by kernel_rfl
theorem laws_intactSpotS.bits2 : waitsOk laws_intactSpotS.T2.2 laws_intactSpotS.B2 = true := by kernel_rfl
set_option maxHeartbeats 8000000 in
set_option maxRecDepth 100000 in
theorem laws_intactSpotS.callsX (k : Nat) (n m : Nat) (A0 A1 : Option Addr) (c0 c1 : Nat) (l : List (S40)) (w : World) (hn : n ≤ 1000000) (hm : m ≤ 1000000 + 1) (hr0 : Kd.C k40 w A0 l.length l) (hc0 : l.length ≤ c0) (hr1 : Kd.C k40 w A1 l.length l) (hc1 : l.length ≤ c1)
    (hroom : laws_roomBehind.f (n : Int) = some (m : Int)) (hl : n + m = l.length) (h : laws_eqSpotS.f k l l = some true) :
    Calls Try.prog 19 #[.slice A0 n c0, .slice A1 n c1] w fun e w' => e = .returned (.bool true) ∧ Below w.heap.size w w' := by
  have c4b0 : ((n : Int) == (n : Int)) = true := by simp
  have c4b2 : (n == n) = true := by simp
  obtain ⟨i0, hi0, _, _, _⟩ := info_parts info40
  obtain ⟨j, hj⟩ : ∃ j_ : Int, wrap64 ((n : Int) + (m : Int)) = j_ := ⟨_, rfl⟩
  have hj1 : j = (n : Int) + (m : Int) := by rw [← hj]; unfold wrap64; omega
  have hjw : (IntKind.i64.wrap ((n : Int) + (m : Int))) = j := (i64_w _).trans hj
  have hjn : j.toNat = l.length := by omega
  have hcutA := laws_intactSpotS.cut_cap (P := Try.prog) 25 40 .i64 Try.underlying25 hi0 A0 n c0 j (by omega) (by omega)
  have hcutB := laws_intactSpotS.cut_cap (P := Try.prog) 25 40 .i64 Try.underlying25 hi0 A1 n c1 j (by omega) (by omega)
  rw [hjn] at hcutA hcutB
  have HR := Aside0.mk hroom
  have HE := Aside0.mk h
  have H0 := Aside0.mk hr0
  have H1 := Aside0.mk hr1
  have H2 := Aside0.mk hc0
  have H3 := Aside0.mk hc1
  have HJ := Aside0.mk hjw
  clear hroom h hr0 hr1 hc0 hc1 hl hi0 hjn hj1 hj hjw hn hm
  have hjw := HJ.out
  go_enter Try.func19, Try.ntmps19
  go_wp2_with (go_at_call 55; refine (laws_roomBehind.calls (n : Int) (m : Int) _ HR.out).mono ?_; rintro e w' ⟨rfl, ⟨nd, rfl⟩⟩)
  try rw [hjw]
  try rw [HJ.out]
  refine start_ (n := 15) (S := fun w' => True) (ds := []) #[false, false, false, false, false, false, false, false, false, false, false, false, false, false, false] (by kernel_rfl) rfl rfl trivial (fun hHeld => ?_); refine with_tabW laws_intactSpotS.tab2 laws_intactSpotS.bits2 (fun HT_ HW_ => ?_)

  refine pure_ (i := 0) (N := some 12) (v := ?_) (a' := ?_) #[true, false, false, false, false, false, false, false, false, false, false, false, false, false, false] rfl rfl (any_of HT_.out (by kernel_rfl)) (fun _ _ _ h => h) (Or.inl ⟨by rfl, ?_⟩) ?_ ?_; rotate_left; (intro w'; go_simp; with_reducible rfl); rotate_left; (simp only [Act.put, List.setIfInBounds_toArray, List.set_cons_zero, List.set_cons_succ, i64_w, i32_w]; rfl)

  refine pure_ (i := 1) (N := some 13) (v := ?_) (a' := ?_) #[true, true, false, false, false, false, false, false, false, false, false, false, false, false, false] rfl rfl (any_of HT_.out (by kernel_rfl)) (fun _ _ _ h => h) (Or.inl ⟨by rfl, ?_⟩) ?_ ?_; rotate_left; (intro w'; go_simp; with_reducible rfl); rotate_left; (simp only [Act.put, List.setIfInBounds_toArray, List.set_cons_zero, List.set_cons_succ, i64_w, i32_w]; rfl)

  refine pure_ (i := 2) (N := some 14) (v := ?_) (a' := ?_) #[true, true, true, false, false, false, false, false, false, false, false, false, false, false, false] rfl rfl (any_of HT_.out (by kernel_rfl)) (fun _ _ _ h => h) (Or.inl ⟨by rfl, ?_⟩) ?_ ?_; rotate_left; (intro w'; go_simp; with_reducible rfl); rotate_left; (simp only [Act.put, List.setIfInBounds_toArray, List.set_cons_zero, List.set_cons_succ, i64_w, i32_w]; rfl)

  refine pure_ (i := 3) (N := some 15) (v := ?_) (a' := ?_) #[true, true, true, true, false, false, false, false, false, false, false, false, false, false, false] rfl rfl (any_of HT_.out (by kernel_rfl)) (fun _ _ _ h => h) (Or.inl ⟨by rfl, ?_⟩) ?_ ?_; rotate_left; (intro w'; go_simp; with_reducible rfl); rotate_left; (simp only [Act.put, List.setIfInBounds_toArray, List.set_cons_zero, List.set_cons_succ, i64_w, i32_w]; rfl)

  refine pure_ (i := 4) (N := some 16) (v := ?_) (a' := ?_) #[true, true, true, true, true, false, false, false, false, false, false, false, false, false, false] rfl rfl (any_of HT_.out (by kernel_rfl)) (fun _ _ _ h => h) (Or.inl ⟨by rfl, ?_⟩) ?_ ?_; rotate_left; (intro w'; go_simp; with_reducible rfl); rotate_left; (simp only [Act.put, List.setIfInBounds_toArray, List.set_cons_zero, List.set_cons_succ, i64_w, i32_w]; rfl)

  refine pure_ (i := 5) (N := some 17) (v := ?_) (a' := ?_) #[true, true, true, true, true, true, false, false, false, false, false, false, false, false, false] rfl rfl (any_of HT_.out (by kernel_rfl)) (fun _ _ _ h => h) (Or.inl ⟨by rfl, ?_⟩) ?_ ?_; rotate_left; (intro w'; go_simp; with_reducible rfl); rotate_left; (simp only [Act.put, List.setIfInBounds_toArray, List.set_cons_zero, List.set_cons_succ, i64_w, i32_w]; rfl)

  refine pure_ (i := 6) (N := some 18) (v := ?_) (a' := ?_) #[true, true, true, true, true, true, true, false, false, false, false, false, false, false, false] rfl rfl (any_of HT_.out (by kernel_rfl)) (fun _ _ _ h => h) (Or.inl ⟨by rfl, ?_⟩) ?_ ?_; rotate_left; (intro w'; go_simp; with_reducible rfl); rotate_left; (simp only [Act.put, List.setIfInBounds_toArray, List.set_cons_zero, List.set_cons_succ, i64_w, i32_w]; rfl)

  refine pure_ (i := 7) (N := some 19) (v := ?_) (a' := ?_) #[true, true, true, true, true, true, true, true, false, false, false, false, false, false, false] rfl rfl (any_of HT_.out (by kernel_rfl)) (fun _ _ _ h => h) (Or.inl ⟨by rfl, ?_⟩) ?_ ?_; rotate_left; (intro w'; go_simp; with_reducible rfl); rotate_left; (simp only [Act.put, List.setIfInBounds_toArray, List.set_cons_zero, List.set_cons_succ, i64_w, i32_w]; rfl)

  refine pure_ (i := 8) (N := some 20) (v := ?_) (a' := ?_) #[true, true, true, true, true, true, true, true, true, false, false, false, false, false, false] rfl rfl (any_of HT_.out (by kernel_rfl)) (fun _ _ _ h => h) (Or.inl ⟨by rfl, ?_⟩) ?_ ?_; rotate_left; (intro w'; go_simp; with_reducible rfl); rotate_left; (simp only [Act.put, List.setIfInBounds_toArray, List.set_cons_zero, List.set_cons_succ, i64_w, i32_w]; rfl)

  refine pure_ (i := 9) (N := some 21) (v := ?_) (a' := ?_) #[true, true, true, true, true, true, true, true, true, true, false, false, false, false, false] rfl rfl (any_of HT_.out (by kernel_rfl)) (fun _ _ _ h => h) (Or.inl ⟨by rfl, ?_⟩) ?_ ?_; rotate_left; (intro w'; go_simp; with_reducible rfl); rotate_left; (simp only [Act.put, List.setIfInBounds_toArray, List.set_cons_zero, List.set_cons_succ, i64_w, i32_w]; rfl)

  refine pure_ (i := 10) (N := some 22) (v := ?_) (a' := ?_) #[true, true, true, true, true, true, true, true, true, true, true, false, false, false, false] rfl rfl (any_of HT_.out (by kernel_rfl)) (fun _ _ _ h => h) (Or.inl ⟨by rfl, ?_⟩) ?_ ?_; rotate_left; (intro w'; go_simp; with_reducible rfl); rotate_left; (simp only [Act.put, List.setIfInBounds_toArray, List.set_cons_zero, List.set_cons_succ, i64_w, i32_w]; rfl)

  refine pure_ (i := 11) (N := some 23) (v := ?_) (a' := ?_) #[true, true, true, true, true, true, true, true, true, true, true, true, false, false, false] rfl rfl (any_of HT_.out (by kernel_rfl)) (fun _ _ _ h => h) (Or.inl ⟨by rfl, ?_⟩) ?_ ?_; rotate_left; (intro w'; go_simp; with_reducible rfl); rotate_left; (simp only [Act.put, List.setIfInBounds_toArray, List.set_cons_zero, List.set_cons_succ, i64_w, i32_w]; rfl)

  refine one_ (i := 12) (N := some 24) #[true, true, true, true, true, true, true, true, true, true, true, true, true, false, false] rfl rfl (one_of HT_.out (by kernel_rfl)) (by decide) (fun K hK => ?_)
  refine goes_ Try.func31 (by kernel_rfl) rfl #[.slice A0 l.length c0, .slice A1 l.length c1] (by rfl) rfl rfl (by (try simp only [List.map_toArray, List.map_cons, List.map_nil]); first | done | rfl | (simp only [List.length_drop, List.length_take]; rfl)) ?_
  refine (laws_eqSpotS.calls k _ _ l _ _ l true _ (by first | exact H0.out | exact Kd.C_drew H0.out | exact Kd.C_drew (Kd.C_drewN H0.out _)) H2.out (by first | exact H1.out | exact Kd.C_drew H1.out | exact Kd.C_drew (Kd.C_drewN H1.out _)) H3.out HE.out).mono ?_
  rintro e w14 ⟨rfl, hb⟩
  refine ⟨_, rfl, ?_⟩
  refine hK.out _ _ trivial (fun hHeld => ?_)
  clear hK K
  refine norm_ (a' := ?_) ?_ ?_
  rotate_left
  · show Act.put _ (some 24) _ = _
    simp only [Act.put, List.setIfInBounds_toArray, List.set_cons_zero, List.set_cons_succ, i64_w, i32_w]
    rfl

  refine pure_ (i := 13) (N := some 25) (v := ?_) (a' := ?_) #[true, true, true, true, true, true, true, true, true, true, true, true, true, true, false] rfl rfl (any_of HT_.out (by kernel_rfl)) (fun _ _ _ h => h) (Or.inl ⟨by rfl, ?_⟩) ?_ ?_; rotate_left; (intro w'; go_simp; with_reducible rfl); rotate_left; (simp only [Act.put, List.setIfInBounds_toArray, List.set_cons_zero, List.set_cons_succ, i64_w, i32_w]; rfl)

  refine pure_ (i := 14) (N := some 4) (v := ?_) (a' := ?_) #[true, true, true, true, true, true, true, true, true, true, true, true, true, true, true] rfl rfl (any_of HT_.out (by kernel_rfl)) (fun _ _ _ h => h) (Or.inl ⟨by rfl, ?_⟩) ?_ ?_; rotate_left; (intro w'; go_simp; with_reducible rfl); rotate_left; (simp only [Act.put, List.setIfInBounds_toArray, List.set_cons_zero, List.set_cons_succ, i64_w, i32_w]; rfl)

  refine done_ (done_of HT_.out (by kernel_rfl)) ?_
  try go_wp2
  go_ret
  exact ⟨rfl, by first | exact hb | exact below_step (below_drew1 (Below.refl _ _)) hb | exact below_step (below_drew1 (pw_below_drewN (Below.refl _ _) _)) hb⟩

open Classical in
/-- Two rows that the laws have laid for the same list are the same to their last spare cell. -/
noncomputable def laws_intactSpotS.f (k : Nat) (l0 l1 : List (S40)) : Option Bool := if l0 = l1 ∧ l0.length ≤ 1000000 then (laws_eqSpotS.f k (l0 ++ laws_toSpotS.sp false l0) (l0 ++ laws_toSpotS.sp false l0)).bind fun b => if b = true then some true else none else none
theorem laws_intactSpotS.mono : ∀ a0 a1 k, LeO (laws_intactSpotS.f k a0 a1) (laws_intactSpotS.f (k + 1) a0 a1) := by
  classical
  intro a0 a1 k
  unfold laws_intactSpotS.f
  exact LeO.ite (LeO.bind (laws_eqSpotS.mono _ _ _) (fun _ => LeO.refl _)) (LeO.refl _)
theorem laws_intactSpotS.calls (k : Nat) (A0 : Option Addr) (c0 : Nat) (l0 : List (S40)) (A1 : Option Addr) (c1 : Nat) (l1 : List (S40)) (r : Bool) (w : World) {e0 e1 b0 b1 : Nat} {ok0 ok1 : Nat → Prop}
    (h0 : Kx.R (laws_toSpotS.sp false) k40 e0 w b0 ok0 (.slice A0 l0.length c0) l0) (h1 : Kx.R (laws_toSpotS.sp false) k40 e1 w b1 ok1 (.slice A1 l1.length c1) l1) (h : laws_intactSpotS.f k l0 l1 = some r) :
    Calls Try.prog 19 #[.slice A0 l0.length c0, .slice A1 l1.length c1] w fun e w' => e = .returned (.bool r) ∧ Below w.heap.size w w' := by
  unfold laws_intactSpotS.f at h
  split at h
  · rename_i hl
    obtain ⟨rfl, hl⟩ := hl
    obtain ⟨b, hb, h2⟩ := Option.bind_eq_some_iff.mp h
    split at h2
    · rename_i hbt
      subst hbt
      obtain rfl := Option.some.inj h2
      obtain ⟨A, c, e1, h0⟩ := h0
      injection e1 with e2 _ e3
      subst e2 e3
      obtain ⟨A', c', e1, h1⟩ := h1
      injection e1 with e2 _ e3
      subst e2 e3
      obtain ⟨_, g1, g2⟩ := Kd.R_reads' h0
      obtain ⟨_, g3, g4⟩ := Kd.R_reads' h1
      exact laws_intactSpotS.callsX k l0.length (room l0.length) _ _ _ _ _ w hl (by have := room_le l0.length; omega) g2 g1 g4 g3 (room_f _ hl) (by simp [laws_toSpotS.sp, spare]) hb
    · cases h2
  · cases h
end Go.Proofs.Ytoifmopgchigoaa.X

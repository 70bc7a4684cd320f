-- laws_FnExactTurnsOf
import Derived.Test.YtoifmopgchigoaaXB
import Derived.Test.YtoifmopgchigoaaXf20
import Derived.Test.YtoifmopgchigoaaXt21
import Derived.Test.YtoifmopgchigoaaXf22
import Derived.Test.YtoifmopgchigoaaXi23
namespace Go.Proofs.Ytoifmopgchigoaa.X
open Go.RowKit Go.Proofs.YtoifmopgchigoaaW.PrintWords Go.Proofs.YtoifmopgchigoaaW.PrintLast Go.Proofs.YtoifmopgchigoaaW.PrintMore
attribute [local go_sem] max2_int min2_int max_two min_two max_three min_three max_four min_four
set_option linter.unusedVariables false
set_option linter.unusedSimpArgs false

/-! ### laws_FnExactTurnsOf: function 4 -/
noncomputable def laws_FnExactTurnsOf.j0 : Nat → List Int → Int → Bool → List Int → Bool → Option (Bool)
  | 0, _, _, _, _, _ => none
  | k + 1, x0, x3, x4, x5, x33 => if x33 = true then (some false) else ((laws_toIntS.f k x0 false).bind fun t211 => ((laws_intactIntS.f k x5 t211).bind fun t214 => (if t214 = true then ((laws_toIntS.f k x0 true).bind fun t215 => ((impl_TurnsOf.f k t215).bind fun bt218 => (if bt218.1 = x3 then (if (bt218.2 != x4) = true then (some false) else (some true)) else (some false)))) else (some false))))
noncomputable def laws_FnExactTurnsOf.f (k : Nat) (l0 : List Int) : Option (Bool) := if (l0.length : Int) > 1000000 then (some true) else ((laws_toIntS.f k l0 false).bind fun t201 => ((spec_TurnsOf.f k t201).bind fun bt204 => ((laws_toIntS.f k l0 false).bind fun t206 => ((impl_TurnsOf.f k t206).bind fun bt209 => (if bt209.1 = bt204.1 then (laws_FnExactTurnsOf.j0 k l0 bt204.1 bt204.2 t206 (bt209.2 != bt204.2)) else (laws_FnExactTurnsOf.j0 k l0 bt204.1 bt204.2 t206 true))))))
theorem laws_FnExactTurnsOf.mono_l : ∀ k, (∀ y0 y1 y2 y3 y4, LeO (laws_FnExactTurnsOf.j0 k y0 y1 y2 y3 y4) (laws_FnExactTurnsOf.j0 (k + 1) y0 y1 y2 y3 y4))
  | 0 => fun _ _ _ _ _ r h => by simp [laws_FnExactTurnsOf.j0] at h
  | k + 1 => by
    have ih0 := laws_FnExactTurnsOf.mono_l k
    · intro y0 y1 y2 y3 y4
      unfold laws_FnExactTurnsOf.j0
      repeat' first
      | (with_reducible exact ih0 _ _ _ _ _)
      | (with_reducible exact impl_TurnsOf.mono _ _)
      | (with_reducible exact laws_intactIntS.mono _ _ _)
      | (with_reducible exact laws_toIntS.mono _ _ _)
      | (with_reducible exact spec_TurnsOf.mono _ _)
      | (with_reducible exact LeO.refl _)
      | (with_reducible exact LeO.none _)
      | (with_reducible refine LeO.ite ?_ ?_)
      | (with_reducible refine LeO.bind ?_ (fun _ => ?_))
      | exact ih0 _ _ _ _ _
      | exact impl_TurnsOf.mono _ _
      | exact laws_intactIntS.mono _ _ _
      | exact laws_toIntS.mono _ _ _
      | exact spec_TurnsOf.mono _ _
      | exact LeO.none _
      | refine LeO.ite ?_ ?_
      | refine LeO.bind ?_ (fun _ => ?_)
theorem laws_FnExactTurnsOf.mono : ∀ a0 k, LeO (laws_FnExactTurnsOf.f k a0) (laws_FnExactTurnsOf.f (k + 1) a0) := by
  intro a0 k
  have ih0 := laws_FnExactTurnsOf.mono_l k
  unfold laws_FnExactTurnsOf.f
  repeat' first
      | (with_reducible exact ih0 _ _ _ _ _)
      | (with_reducible exact impl_TurnsOf.mono _ _)
      | (with_reducible exact laws_intactIntS.mono _ _ _)
      | (with_reducible exact laws_toIntS.mono _ _ _)
      | (with_reducible exact spec_TurnsOf.mono _ _)
      | (with_reducible exact LeO.refl _)
      | (with_reducible exact LeO.none _)
      | (with_reducible refine LeO.ite ?_ ?_)
      | (with_reducible refine LeO.bind ?_ (fun _ => ?_))
      | exact ih0 _ _ _ _ _
      | exact impl_TurnsOf.mono _ _
      | exact laws_intactIntS.mono _ _ _
      | exact laws_toIntS.mono _ _ _
      | exact spec_TurnsOf.mono _ _
      | exact LeO.none _
      | refine LeO.ite ?_ ?_
      | refine LeO.bind ?_ (fun _ => ?_)
set_option maxHeartbeats 8000000 in
set_option maxRecDepth 100000 in
theorem laws_FnExactTurnsOf.calls (k : Nat) (A0 : Option Addr) (c0 : Nat) (l0 : List Int) (r : Bool) (w : World) (hr0 : Kd.C (Kd.int .i64) w A0 l0.length l0) (hc0 : l0.length ≤ c0) (h : laws_FnExactTurnsOf.f k l0 = some r) :
    Calls Try.prog 4 #[.slice A0 l0.length c0] w fun e w' => e = .returned (.bool r) ∧ Below w.heap.size w w' := by
  have HR0 := Aside0.mk hr0
  have HC0 := Aside0.mk hc0
  clear hr0 hc0
  have HB := Aside0.mk (Below.refl w.heap.size w)
  have H : (if (l0.length : Int) > 1000000 then (some true) else ((laws_toIntS.f k l0 false).bind fun t201 => ((spec_TurnsOf.f k t201).bind fun bt204 => ((laws_toIntS.f k l0 false).bind fun t206 => ((impl_TurnsOf.f k t206).bind fun bt209 => (if bt209.1 = bt204.1 then (laws_FnExactTurnsOf.j0 k l0 bt204.1 bt204.2 t206 (bt209.2 != bt204.2)) else (laws_FnExactTurnsOf.j0 k l0 bt204.1 bt204.2 t206 true))))))) = some r := h
  clear h
  by_cases c2 : (l0.length : Int) > 1000000
  · rw [if_pos c2] at H
    have c2b0 : decide (1000000 < (l0.length : Int)) = true := decide_eq_true c2
    have c2b1 : decide (1000000 < l0.length) = true := decide_eq_true (by omega)
    clear c2
    obtain rfl := Option.some.inj H
    go_enter Try.func4, Try.ntmps4
    go_wp2
    go_ret
    exact ⟨by first | rfl | (simp [errW_none, errW_some] <;> rfl) | (simp [*, errW_none, errW_some] <;> rfl), by repeat (first | (with_reducible first | exact HB.out | apply below_alloc | apply pw_below_drewN | apply below_drew1) | exact HB.out)⟩
  · rw [if_neg c2] at H
    have c2b0 : decide (1000000 < (l0.length : Int)) = false := decide_eq_false c2
    have c2b1 : decide (1000000 < l0.length) = false := decide_eq_false (by omega)
    clear c2
    obtain ⟨t201, A3, H⟩ := bindA H
    obtain ⟨⟨t204, t205⟩, A4, H⟩ := bindA H
    dsimp only at H
    obtain ⟨t206, A5, H⟩ := bindA H
    obtain ⟨⟨t209, t210⟩, A6, H⟩ := bindA H
    dsimp only at H
    have HC7 := Aside0.mk H
    clear H
    go_enter Try.func4, Try.ntmps4
    go_upto_region 6 with (first | ((with_reducible refine gate_callee (f := 21) rfl ?_); refine goesL_ (some 15) rfl rfl Try.func21 (by kernel_rfl) rfl #[.slice A0 l0.length c0, .bool false] rfl (by (try simp only [List.map_toArray, List.map_cons, List.map_nil]); first | done | rfl | (simp only [List.length_drop, List.length_take]; rfl)) ?_; (with_reducible refine (laws_toIntS.calls k _ _ l0 false t201 _ ?side1 ?side2 A3.out).mono ?_); (case side1 => repeat (first | exact HR0.out | (with_reducible refine Kd.C_alloc ?_ _) | (with_reducible refine Kd.C_drewN ?_ _) | (with_reducible refine Kd.C_drew ?_))); (case side2 => exact HC0.out); rintro e w8 ⟨v202, rfl, ho0, hb⟩; refine ⟨_, rfl, ?_⟩; have n0_ := Aside0.mk (Kx.R_lower ho0 (below_size (by repeat (first | (with_reducible first | exact HB.out | apply below_alloc | apply pw_below_drewN | apply below_drew1) | exact HB.out)))); have n1_ := Aside0.mk (below_step (by repeat (first | (with_reducible first | exact HB.out | apply below_alloc | apply pw_below_drewN | apply below_drew1) | exact HB.out)) hb); clear HB; have HO203 := n0_; have HB := n1_; clear n0_ n1_; (try clear hb); (try clear hb2); (try clear hk); (try clear hi); (try clear ho0); obtain ⟨Ao9, co9, eo9⟩ := Kx.R_slice HO203.out; subst eo9) | ((with_reducible refine gate_callee (f := 20) rfl ?_); refine goesL_ (some 16) rfl rfl Try.func20 (by kernel_rfl) rfl #[.slice Ao9 t201.length co9] rfl (by (try simp only [List.map_toArray, List.map_cons, List.map_nil]); first | done | rfl | (simp only [List.length_drop, List.length_take]; rfl)) ?_; (with_reducible refine (spec_TurnsOf.calls k _ _ t201 t204 t205 _ ?side1 ?side2 A4.out).mono ?_); (case side1 => repeat (first | exact (Kx.R_reads' HO203.out).2.2 | (with_reducible refine Kd.C_alloc ?_ _) | (with_reducible refine Kd.C_drewN ?_ _) | (with_reducible refine Kd.C_drew ?_))); (case side2 => exact (Kx.R_reads' HO203.out).2.1); rintro e w' ⟨rfl, ⟨nd, rfl⟩⟩; refine ⟨_, rfl, ?_⟩) | ((with_reducible refine gate_callee (f := 21) rfl ?_); refine goesL_ (some 20) rfl rfl Try.func21 (by kernel_rfl) rfl #[.slice A0 l0.length c0, .bool false] rfl (by (try simp only [List.map_toArray, List.map_cons, List.map_nil]); first | done | rfl | (simp only [List.length_drop, List.length_take]; rfl)) ?_; (with_reducible refine (laws_toIntS.calls k _ _ l0 false t206 _ ?side1 ?side2 A5.out).mono ?_); (case side1 => repeat (first | exact (Kd.C_below HR0.out (by repeat (first | (with_reducible first | exact HB.out | apply below_alloc | apply pw_below_drewN | apply below_drew1) | exact HB.out))) | (with_reducible refine Kd.C_alloc ?_ _) | (with_reducible refine Kd.C_drewN ?_ _) | (with_reducible refine Kd.C_drew ?_))); (case side2 => exact HC0.out); rintro e w10 ⟨v207, rfl, ho0, hb⟩; refine ⟨_, rfl, ?_⟩; have n0_ := Aside0.mk (Kx.R_elder' (by (with_reducible repeat (first | apply Kx.R_alloc | apply Kx.R_drewN | apply Kx.R_drew)); exact HO203.out) (Kx.R_base ho0) hb); have n1_ := Aside0.mk (Kx.R_lower (Kx.R_new' ho0 (Kx.R_lt (by (with_reducible repeat (first | apply Kx.R_alloc | apply Kx.R_drewN | apply Kx.R_drew)); exact HO203.out))) (below_size (by repeat (first | (with_reducible first | exact HB.out | apply below_alloc | apply pw_below_drewN | apply below_drew1) | exact HB.out)))); have n2_ := Aside0.mk (below_step (by repeat (first | (with_reducible first | exact HB.out | apply below_alloc | apply pw_below_drewN | apply below_drew1) | exact HB.out)) hb); clear HO203; clear HB; have HO203 := n0_; have HO208 := n1_; have HB := n2_; clear n0_ n1_ n2_; (try clear hb); (try clear hb2); (try clear hk); (try clear hi); (try clear ho0); obtain ⟨Ao11, co11, eo11⟩ := Kx.R_slice HO208.out; subst eo11) | ((with_reducible refine gate_callee (f := 22) rfl ?_); refine goesL_ (some 23) rfl rfl Try.func22 (by kernel_rfl) rfl #[.slice Ao11 t206.length co11] rfl (by (try simp only [List.map_toArray, List.map_cons, List.map_nil]); first | done | rfl | (simp only [List.length_drop, List.length_take]; rfl)) ?_; (with_reducible refine (impl_TurnsOf.calls k _ _ t206 t209 t210 _ ?side1 ?side2 A6.out).mono ?_); (case side1 => repeat (first | exact (Kx.R_reads' HO208.out).2.2 | (with_reducible refine Kd.C_alloc ?_ _) | (with_reducible refine Kd.C_drewN ?_ _) | (with_reducible refine Kd.C_drew ?_))); (case side2 => exact (Kx.R_reads' HO208.out).2.1); rintro e w12 ⟨rfl, hb⟩; refine ⟨_, rfl, ?_⟩; have n0_ := Aside0.mk (Kx.R_below (by (with_reducible repeat (first | apply Kx.R_alloc | apply Kx.R_drewN | apply Kx.R_drew)); exact HO203.out) hb); have n1_ := Aside0.mk (Kx.R_below (by (with_reducible repeat (first | apply Kx.R_alloc | apply Kx.R_drewN | apply Kx.R_drew)); exact HO208.out) hb); have n2_ := Aside0.mk (below_step (by repeat (first | (with_reducible first | exact HB.out | apply below_alloc | apply pw_below_drewN | apply below_drew1) | exact HB.out)) hb); clear HO203; clear HO208; clear HB; have HO203 := n0_; have HO208 := n1_; have HB := n2_; clear n0_ n1_ n2_; (try clear hb); (try clear hb2); (try clear hk); (try clear hi)))
    (try simp only [Act.put, List.setIfInBounds_toArray, List.set_cons_zero, List.set_cons_succ])
    go_cut [33] (fun v33 wc => ∃ (kq : Nat) (x33_6 : Bool), v33 = .bool x33_6 ∧ Aside0 (laws_FnExactTurnsOf.j0 kq l0 t204 t205 t206 x33_6 = some r) ∧ Aside0 (kq ≤ k) ∧ Aside0 (Kx.R (laws_toIntS.sp false) (Kd.int .i64) 3 wc w.heap.size (fun _ => True) (.slice Ao11 t206.length co11) t206) ∧ Aside0 (Below w.heap.size w wc))
    case first =>
      have H := HC7.out
      clear HC7
      by_cases c13 : t209 = t204
      · rw [if_pos c13] at H
        have c13b0 : (t209 == t204) = true := beq_iff_eq.mpr c13
        have c13b1 : (t209 != t204) = false := bne_eq_false_iff_eq.mpr c13
        clear c13
        (first | rw [c13b0] | (simp only [i64_w, i32_w]; rw [c13b0]) | skip)
        have H' := Aside0.mk H
        clear H
        go_wp2
        go_meet
        case rel => exact ⟨_, ((t210 != t205)), (by first | rfl | (simp; done) | (simp [*]; done)), H', ⟨by first | omega | exact Nat.le_refl _⟩, ⟨by (with_reducible repeat (first | apply Kx.R_alloc | apply Kx.R_drewN | apply Kx.R_drew)); exact Kx.R_mono HO208.out (fun _ hk => trivial)⟩, ⟨by repeat (first | (with_reducible first | exact HB.out | apply below_alloc | apply pw_below_drewN | apply below_drew1) | exact HB.out)⟩⟩
      · rw [if_neg c13] at H
        have c13b0 : (t209 == t204) = false := beq_eq_false_iff_ne.mpr c13
        have c13b1 : (t209 != t204) = true := bne_iff_ne.mpr c13
        (first | rw [c13b0] | (simp only [i64_w, i32_w]; rw [c13b0]) | skip)
        have H' := Aside0.mk H
        clear H
        go_wp2
        go_meet
        case rel => exact ⟨_, (true), (by first | rfl | (simp; done) | (simp [*]; done)), H', ⟨by first | omega | exact Nat.le_refl _⟩, ⟨by (with_reducible repeat (first | apply Kx.R_alloc | apply Kx.R_drewN | apply Kx.R_drew)); exact Kx.R_mono HO208.out (fun _ hk => trivial)⟩, ⟨by repeat (first | (with_reducible first | exact HB.out | apply below_alloc | apply pw_below_drewN | apply below_drew1) | exact HB.out)⟩⟩
    case rest =>
      clear HC7
      try clear c1
      try clear c2
      try clear c2b0
      try clear c2b1
      try clear p2
      try clear c4
      try clear c13
      try clear c13b0
      try clear c13b1
      obtain ⟨kq, x33_6, rfl, HA, HJ6, HO_5, HB⟩ := hcut
      cases kq with
      | zero => exact absurd HA.out (by simp [laws_FnExactTurnsOf.j0])
      | succ kj6 =>
        have H := HA.out
        clear HA
        simp only [laws_FnExactTurnsOf.j0] at H
        by_cases c14 : x33_6 = true
        · subst c14
          rw [if_pos rfl] at H
          obtain rfl := Option.some.inj H
          go_wp2
          go_ret
          exact ⟨by first | rfl | (simp [errW_none, errW_some] <;> rfl) | (simp [*, errW_none, errW_some] <;> rfl), by repeat (first | (with_reducible first | exact HB.out | apply below_alloc | apply pw_below_drewN | apply below_drew1) | exact HB.out)⟩
        · replace c14 := Bool.eq_false_iff.mpr c14
          subst c14
          rw [if_neg (show ¬ (false = true) by decide)] at H
          obtain ⟨t211, A15, H⟩ := bindA H
          obtain ⟨t214, A16, H⟩ := bindA H
          by_cases c17 : t214 = true
          · subst c17
            rw [if_pos rfl] at H
            obtain ⟨t215, A18, H⟩ := bindA H
            obtain ⟨⟨t218, t219⟩, A19, H⟩ := bindA H
            dsimp only at H
            by_cases c20 : t218 = t204
            · rw [if_pos c20] at H
              have c20b0 : (t218 == t204) = true := beq_iff_eq.mpr c20
              have c20b1 : (t218 != t204) = false := bne_eq_false_iff_eq.mpr c20
              clear c20
              by_cases c21 : (t219 != t205) = true
              · rw [if_pos c21] at H
                have c21b0 : (t219 != t205) = true := c21
                (try (have c21b1 : decide (t219 = t205) = false := by simpa using c21))
                (try (have c21b2 : (t219 == t205) = false := by simpa using c21))
                (try (have c21b3 : ¬ (t219 = t205) := by simpa using c21))
                clear c21
                obtain rfl := Option.some.inj H
                go_wp2_with (first | ((with_reducible refine gate_callee (f := 21) rfl ?_); refine goesL_ (some 36) rfl rfl Try.func21 (by kernel_rfl) rfl #[.slice A0 l0.length c0, .bool false] rfl (by (try simp only [List.map_toArray, List.map_cons, List.map_nil]); first | done | rfl | (simp only [List.length_drop, List.length_take]; rfl)) ?_; (with_reducible refine (laws_toIntS.calls kj6 _ _ l0 false t211 _ ?side1 ?side2 A15.out).mono ?_); (case side1 => repeat (first | exact (Kd.C_below HR0.out HB.out) | (with_reducible refine Kd.C_alloc ?_ _) | (with_reducible refine Kd.C_drewN ?_ _) | (with_reducible refine Kd.C_drew ?_))); (case side2 => exact HC0.out); rintro e w22 ⟨v212, rfl, ho0, hb⟩; refine ⟨_, rfl, ?_⟩; have n0_ := Aside0.mk (Kx.R_elder' (by (with_reducible repeat (first | apply Kx.R_alloc | apply Kx.R_drewN | apply Kx.R_drew)); exact HO_5.out) (Kx.R_base ho0) hb); have n1_ := Aside0.mk (Kx.R_lower (Kx.R_new' ho0 (Kx.R_lt (by (with_reducible repeat (first | apply Kx.R_alloc | apply Kx.R_drewN | apply Kx.R_drew)); exact HO_5.out))) (below_size (by repeat (first | (with_reducible first | exact HB.out | apply below_alloc | apply pw_below_drewN | apply below_drew1) | exact HB.out)))); have n2_ := Aside0.mk (below_step (by repeat (first | (with_reducible first | exact HB.out | apply below_alloc | apply pw_below_drewN | apply below_drew1) | exact HB.out)) hb); clear HO_5; clear HB; have HO_5 := n0_; have HO213 := n1_; have HB := n2_; clear n0_ n1_ n2_; (try clear hb); (try clear hb2); (try clear hk); (try clear hi); (try clear ho0); obtain ⟨Ao23, co23, eo23⟩ := Kx.R_slice HO213.out; subst eo23) | ((with_reducible refine gate_callee (f := 23) rfl ?_); refine goesL_ (some 37) rfl rfl Try.func23 (by kernel_rfl) rfl #[.slice Ao11 t206.length co11, .slice Ao23 t211.length co23] rfl (by (try simp only [List.map_toArray, List.map_cons, List.map_nil]); first | done | rfl | (simp only [List.length_drop, List.length_take]; rfl)) ?_; (with_reducible refine (laws_intactIntS.calls kj6 _ _ t206 _ _ t211 true _ (by (with_reducible repeat (first | apply Kx.R_alloc | apply Kx.R_drewN | apply Kx.R_drew)); exact HO_5.out) (by (with_reducible repeat (first | apply Kx.R_alloc | apply Kx.R_drewN | apply Kx.R_drew)); exact HO213.out) A16.out).mono ?_); rintro e w' ⟨rfl, ⟨nd, rfl⟩⟩; refine ⟨_, rfl, ?_⟩) | ((with_reducible refine gate_callee (f := 21) rfl ?_); refine goesL_ (some 41) rfl rfl Try.func21 (by kernel_rfl) rfl #[.slice A0 l0.length c0, .bool true] rfl (by (try simp only [List.map_toArray, List.map_cons, List.map_nil]); first | done | rfl | (simp only [List.length_drop, List.length_take]; rfl)) ?_; (with_reducible refine (laws_toIntS.calls kj6 _ _ l0 true t215 _ ?side1 ?side2 A18.out).mono ?_); (case side1 => repeat (first | exact (Kd.C_below HR0.out (by repeat (first | (with_reducible first | exact HB.out | apply below_alloc | apply pw_below_drewN | apply below_drew1) | exact HB.out))) | (with_reducible refine Kd.C_alloc ?_ _) | (with_reducible refine Kd.C_drewN ?_ _) | (with_reducible refine Kd.C_drew ?_))); (case side2 => exact HC0.out); rintro e w24 ⟨v216, rfl, ho0, hb⟩; refine ⟨_, rfl, ?_⟩; have n0_ := Aside0.mk (Kx.R_elder' (by (with_reducible repeat (first | apply Kx.R_alloc | apply Kx.R_drewN | apply Kx.R_drew)); exact HO_5.out) (Kx.R_base ho0) hb); have n1_ := Aside0.mk (Kx.R_elder' (by (with_reducible repeat (first | apply Kx.R_alloc | apply Kx.R_drewN | apply Kx.R_drew)); exact HO213.out) (Kx.R_base ho0) hb); have n2_ := Aside0.mk (Kx.R_lower (Kx.R_new' (Kx.R_new' ho0 (Kx.R_lt (by (with_reducible repeat (first | apply Kx.R_alloc | apply Kx.R_drewN | apply Kx.R_drew)); exact HO_5.out))) (Kx.R_lt (by (with_reducible repeat (first | apply Kx.R_alloc | apply Kx.R_drewN | apply Kx.R_drew)); exact HO213.out))) (below_size (by repeat (first | (with_reducible first | exact HB.out | apply below_alloc | apply pw_below_drewN | apply below_drew1) | exact HB.out)))); have n3_ := Aside0.mk (below_step (by repeat (first | (with_reducible first | exact HB.out | apply below_alloc | apply pw_below_drewN | apply below_drew1) | exact HB.out)) hb); clear HO_5; clear HO213; clear HB; have HO_5 := n0_; have HO213 := n1_; have HO217 := n2_; have HB := n3_; clear n0_ n1_ n2_ n3_; (try clear hb); (try clear hb2); (try clear hk); (try clear hi); (try clear ho0); obtain ⟨Ao25, co25, eo25⟩ := Kx.R_slice HO217.out; subst eo25) | ((with_reducible refine gate_callee (f := 22) rfl ?_); refine goesL_ (some 42) rfl rfl Try.func22 (by kernel_rfl) rfl #[.slice Ao25 t215.length co25] rfl (by (try simp only [List.map_toArray, List.map_cons, List.map_nil]); first | done | rfl | (simp only [List.length_drop, List.length_take]; rfl)) ?_; (with_reducible refine (impl_TurnsOf.calls kj6 _ _ t215 t218 t219 _ ?side1 ?side2 A19.out).mono ?_); (case side1 => repeat (first | exact (Kx.R_reads' HO217.out).2.2 | (with_reducible refine Kd.C_alloc ?_ _) | (with_reducible refine Kd.C_drewN ?_ _) | (with_reducible refine Kd.C_drew ?_))); (case side2 => exact (Kx.R_reads' HO217.out).2.1); rintro e w26 ⟨rfl, hb⟩; refine ⟨_, rfl, ?_⟩; have n0_ := Aside0.mk (Kx.R_below (by (with_reducible repeat (first | apply Kx.R_alloc | apply Kx.R_drewN | apply Kx.R_drew)); exact HO_5.out) hb); have n1_ := Aside0.mk (Kx.R_below (by (with_reducible repeat (first | apply Kx.R_alloc | apply Kx.R_drewN | apply Kx.R_drew)); exact HO213.out) hb); have n2_ := Aside0.mk (Kx.R_below (by (with_reducible repeat (first | apply Kx.R_alloc | apply Kx.R_drewN | apply Kx.R_drew)); exact HO217.out) hb); have n3_ := Aside0.mk (below_step (by repeat (first | (with_reducible first | exact HB.out | apply below_alloc | apply pw_below_drewN | apply below_drew1) | exact HB.out)) hb); clear HO_5; clear HO213; clear HO217; clear HB; have HO_5 := n0_; have HO213 := n1_; have HO217 := n2_; have HB := n3_; clear n0_ n1_ n2_ n3_; (try clear hb); (try clear hb2); (try clear hk); (try clear hi)))
                go_ret
                exact ⟨by first | rfl | (simp [errW_none, errW_some] <;> rfl) | (simp [*, errW_none, errW_some] <;> rfl), by repeat (first | (with_reducible first | exact HB.out | apply below_alloc | apply pw_below_drewN | apply below_drew1) | exact HB.out)⟩
              · rw [if_neg c21] at H
                have c21b0 : (t219 != t205) = false := by simpa using c21
                (try (have c21b1 : decide (t219 = t205) = true := by simpa using c21))
                (try (have c21b2 : (t219 == t205) = true := by simpa using c21))
                clear c21
                obtain rfl := Option.some.inj H
                go_wp2_with (first | ((with_reducible refine gate_callee (f := 21) rfl ?_); refine goesL_ (some 36) rfl rfl Try.func21 (by kernel_rfl) rfl #[.slice A0 l0.length c0, .bool false] rfl (by (try simp only [List.map_toArray, List.map_cons, List.map_nil]); first | done | rfl | (simp only [List.length_drop, List.length_take]; rfl)) ?_; (with_reducible refine (laws_toIntS.calls kj6 _ _ l0 false t211 _ ?side1 ?side2 A15.out).mono ?_); (case side1 => repeat (first | exact (Kd.C_below HR0.out HB.out) | (with_reducible refine Kd.C_alloc ?_ _) | (with_reducible refine Kd.C_drewN ?_ _) | (with_reducible refine Kd.C_drew ?_))); (case side2 => exact HC0.out); rintro e w27 ⟨v212, rfl, ho0, hb⟩; refine ⟨_, rfl, ?_⟩; have n0_ := Aside0.mk (Kx.R_elder' (by (with_reducible repeat (first | apply Kx.R_alloc | apply Kx.R_drewN | apply Kx.R_drew)); exact HO_5.out) (Kx.R_base ho0) hb); have n1_ := Aside0.mk (Kx.R_lower (Kx.R_new' ho0 (Kx.R_lt (by (with_reducible repeat (first | apply Kx.R_alloc | apply Kx.R_drewN | apply Kx.R_drew)); exact HO_5.out))) (below_size (by repeat (first | (with_reducible first | exact HB.out | apply below_alloc | apply pw_below_drewN | apply below_drew1) | exact HB.out)))); have n2_ := Aside0.mk (below_step (by repeat (first | (with_reducible first | exact HB.out | apply below_alloc | apply pw_below_drewN | apply below_drew1) | exact HB.out)) hb); clear HO_5; clear HB; have HO_5 := n0_; have HO213 := n1_; have HB := n2_; clear n0_ n1_ n2_; (try clear hb); (try clear hb2); (try clear hk); (try clear hi); (try clear ho0); obtain ⟨Ao28, co28, eo28⟩ := Kx.R_slice HO213.out; subst eo28) | ((with_reducible refine gate_callee (f := 23) rfl ?_); refine goesL_ (some 37) rfl rfl Try.func23 (by kernel_rfl) rfl #[.slice Ao11 t206.length co11, .slice Ao28 t211.length co28] rfl (by (try simp only [List.map_toArray, List.map_cons, List.map_nil]); first | done | rfl | (simp only [List.length_drop, List.length_take]; rfl)) ?_; (with_reducible refine (laws_intactIntS.calls kj6 _ _ t206 _ _ t211 true _ (by (with_reducible repeat (first | apply Kx.R_alloc | apply Kx.R_drewN | apply Kx.R_drew)); exact HO_5.out) (by (with_reducible repeat (first | apply Kx.R_alloc | apply Kx.R_drewN | apply Kx.R_drew)); exact HO213.out) A16.out).mono ?_); rintro e w' ⟨rfl, ⟨nd, rfl⟩⟩; refine ⟨_, rfl, ?_⟩) | ((with_reducible refine gate_callee (f := 21) rfl ?_); refine goesL_ (some 41) rfl rfl Try.func21 (by kernel_rfl) rfl #[.slice A0 l0.length c0, .bool true] rfl (by (try simp only [List.map_toArray, List.map_cons, List.map_nil]); first | done | rfl | (simp only [List.length_drop, List.length_take]; rfl)) ?_; (with_reducible refine (laws_toIntS.calls kj6 _ _ l0 true t215 _ ?side1 ?side2 A18.out).mono ?_); (case side1 => repeat (first | exact (Kd.C_below HR0.out (by repeat (first | (with_reducible first | exact HB.out | apply below_alloc | apply pw_below_drewN | apply below_drew1) | exact HB.out))) | (with_reducible refine Kd.C_alloc ?_ _) | (with_reducible refine Kd.C_drewN ?_ _) | (with_reducible refine Kd.C_drew ?_))); (case side2 => exact HC0.out); rintro e w29 ⟨v216, rfl, ho0, hb⟩; refine ⟨_, rfl, ?_⟩; have n0_ := Aside0.mk (Kx.R_elder' (by (with_reducible repeat (first | apply Kx.R_alloc | apply Kx.R_drewN | apply Kx.R_drew)); exact HO_5.out) (Kx.R_base ho0) hb); have n1_ := Aside0.mk (Kx.R_elder' (by (with_reducible repeat (first | apply Kx.R_alloc | apply Kx.R_drewN | apply Kx.R_drew)); exact HO213.out) (Kx.R_base ho0) hb); have n2_ := Aside0.mk (Kx.R_lower (Kx.R_new' (Kx.R_new' ho0 (Kx.R_lt (by (with_reducible repeat (first | apply Kx.R_alloc | apply Kx.R_drewN | apply Kx.R_drew)); exact HO_5.out))) (Kx.R_lt (by (with_reducible repeat (first | apply Kx.R_alloc | apply Kx.R_drewN | apply Kx.R_drew)); exact HO213.out))) (below_size (by repeat (first | (with_reducible first | exact HB.out | apply below_alloc | apply pw_below_drewN | apply below_drew1) | exact HB.out)))); have n3_ := Aside0.mk (below_step (by repeat (first | (with_reducible first | exact HB.out | apply below_alloc | apply pw_below_drewN | apply below_drew1) | exact HB.out)) hb); clear HO_5; clear HO213; clear HB; have HO_5 := n0_; have HO213 := n1_; have HO217 := n2_; have HB := n3_; clear n0_ n1_ n2_ n3_; (try clear hb); (try clear hb2); (try clear hk); (try clear hi); (try clear ho0); obtain ⟨Ao30, co30, eo30⟩ := Kx.R_slice HO217.out; subst eo30) | ((with_reducible refine gate_callee (f := 22) rfl ?_); refine goesL_ (some 42) rfl rfl Try.func22 (by kernel_rfl) rfl #[.slice Ao30 t215.length co30] rfl (by (try simp only [List.map_toArray, List.map_cons, List.map_nil]); first | done | rfl | (simp only [List.length_drop, List.length_take]; rfl)) ?_; (with_reducible refine (impl_TurnsOf.calls kj6 _ _ t215 t218 t219 _ ?side1 ?side2 A19.out).mono ?_); (case side1 => repeat (first | exact (Kx.R_reads' HO217.out).2.2 | (with_reducible refine Kd.C_alloc ?_ _) | (with_reducible refine Kd.C_drewN ?_ _) | (with_reducible refine Kd.C_drew ?_))); (case side2 => exact (Kx.R_reads' HO217.out).2.1); rintro e w31 ⟨rfl, hb⟩; refine ⟨_, rfl, ?_⟩; have n0_ := Aside0.mk (Kx.R_below (by (with_reducible repeat (first | apply Kx.R_alloc | apply Kx.R_drewN | apply Kx.R_drew)); exact HO_5.out) hb); have n1_ := Aside0.mk (Kx.R_below (by (with_reducible repeat (first | apply Kx.R_alloc | apply Kx.R_drewN | apply Kx.R_drew)); exact HO213.out) hb); have n2_ := Aside0.mk (Kx.R_below (by (with_reducible repeat (first | apply Kx.R_alloc | apply Kx.R_drewN | apply Kx.R_drew)); exact HO217.out) hb); have n3_ := Aside0.mk (below_step (by repeat (first | (with_reducible first | exact HB.out | apply below_alloc | apply pw_below_drewN | apply below_drew1) | exact HB.out)) hb); clear HO_5; clear HO213; clear HO217; clear HB; have HO_5 := n0_; have HO213 := n1_; have HO217 := n2_; have HB := n3_; clear n0_ n1_ n2_ n3_; (try clear hb); (try clear hb2); (try clear hk); (try clear hi)))
                go_ret
                exact ⟨by first | rfl | (simp [errW_none, errW_some] <;> rfl) | (simp [*, errW_none, errW_some] <;> rfl), by repeat (first | (with_reducible first | exact HB.out | apply below_alloc | apply pw_below_drewN | apply below_drew1) | exact HB.out)⟩
            · rw [if_neg c20] at H
              have c20b0 : (t218 == t204) = false := beq_eq_false_iff_ne.mpr c20
              have c20b1 : (t218 != t204) = true := bne_iff_ne.mpr c20
              obtain rfl := Option.some.inj H
              go_wp2_with (first | ((with_reducible refine gate_callee (f := 21) rfl ?_); refine goesL_ (some 36) rfl rfl Try.func21 (by kernel_rfl) rfl #[.slice A0 l0.length c0, .bool false] rfl (by (try simp only [List.map_toArray, List.map_cons, List.map_nil]); first | done | rfl | (simp only [List.length_drop, List.length_take]; rfl)) ?_; (with_reducible refine (laws_toIntS.calls kj6 _ _ l0 false t211 _ ?side1 ?side2 A15.out).mono ?_); (case side1 => repeat (first | exact (Kd.C_below HR0.out HB.out) | (with_reducible refine Kd.C_alloc ?_ _) | (with_reducible refine Kd.C_drewN ?_ _) | (with_reducible refine Kd.C_drew ?_))); (case side2 => exact HC0.out); rintro e w32 ⟨v212, rfl, ho0, hb⟩; refine ⟨_, rfl, ?_⟩; have n0_ := Aside0.mk (Kx.R_elder' (by (with_reducible repeat (first | apply Kx.R_alloc | apply Kx.R_drewN | apply Kx.R_drew)); exact HO_5.out) (Kx.R_base ho0) hb); have n1_ := Aside0.mk (Kx.R_lower (Kx.R_new' ho0 (Kx.R_lt (by (with_reducible repeat (first | apply Kx.R_alloc | apply Kx.R_drewN | apply Kx.R_drew)); exact HO_5.out))) (below_size (by repeat (first | (with_reducible first | exact HB.out | apply below_alloc | apply pw_below_drewN | apply below_drew1) | exact HB.out)))); have n2_ := Aside0.mk (below_step (by repeat (first | (with_reducible first | exact HB.out | apply below_alloc | apply pw_below_drewN | apply below_drew1) | exact HB.out)) hb); clear HO_5; clear HB; have HO_5 := n0_; have HO213 := n1_; have HB := n2_; clear n0_ n1_ n2_; (try clear hb); (try clear hb2); (try clear hk); (try clear hi); (try clear ho0); obtain ⟨Ao33, co33, eo33⟩ := Kx.R_slice HO213.out; subst eo33) | ((with_reducible refine gate_callee (f := 23) rfl ?_); refine goesL_ (some 37) rfl rfl Try.func23 (by kernel_rfl) rfl #[.slice Ao11 t206.length co11, .slice Ao33 t211.length co33] rfl (by (try simp only [List.map_toArray, List.map_cons, List.map_nil]); first | done | rfl | (simp only [List.length_drop, List.length_take]; rfl)) ?_; (with_reducible refine (laws_intactIntS.calls kj6 _ _ t206 _ _ t211 true _ (by (with_reducible repeat (first | apply Kx.R_alloc | apply Kx.R_drewN | apply Kx.R_drew)); exact HO_5.out) (by (with_reducible repeat (first | apply Kx.R_alloc | apply Kx.R_drewN | apply Kx.R_drew)); exact HO213.out) A16.out).mono ?_); rintro e w' ⟨rfl, ⟨nd, rfl⟩⟩; refine ⟨_, rfl, ?_⟩) | ((with_reducible refine gate_callee (f := 21) rfl ?_); refine goesL_ (some 41) rfl rfl Try.func21 (by kernel_rfl) rfl #[.slice A0 l0.length c0, .bool true] rfl (by (try simp only [List.map_toArray, List.map_cons, List.map_nil]); first | done | rfl | (simp only [List.length_drop, List.length_take]; rfl)) ?_; (with_reducible refine (laws_toIntS.calls kj6 _ _ l0 true t215 _ ?side1 ?side2 A18.out).mono ?_); (case side1 => repeat (first | exact (Kd.C_below HR0.out (by repeat (first | (with_reducible first | exact HB.out | apply below_alloc | apply pw_below_drewN | apply below_drew1) | exact HB.out))) | (with_reducible refine Kd.C_alloc ?_ _) | (with_reducible refine Kd.C_drewN ?_ _) | (with_reducible refine Kd.C_drew ?_))); (case side2 => exact HC0.out); rintro e w34 ⟨v216, rfl, ho0, hb⟩; refine ⟨_, rfl, ?_⟩; have n0_ := Aside0.mk (Kx.R_elder' (by (with_reducible repeat (first | apply Kx.R_alloc | apply Kx.R_drewN | apply Kx.R_drew)); exact HO_5.out) (Kx.R_base ho0) hb); have n1_ := Aside0.mk (Kx.R_elder' (by (with_reducible repeat (first | apply Kx.R_alloc | apply Kx.R_drewN | apply Kx.R_drew)); exact HO213.out) (Kx.R_base ho0) hb); have n2_ := Aside0.mk (Kx.R_lower (Kx.R_new' (Kx.R_new' ho0 (Kx.R_lt (by (with_reducible repeat (first | apply Kx.R_alloc | apply Kx.R_drewN | apply Kx.R_drew)); exact HO_5.out))) (Kx.R_lt (by (with_reducible repeat (first | apply Kx.R_alloc | apply Kx.R_drewN | apply Kx.R_drew)); exact HO213.out))) (below_size (by repeat (first | (with_reducible first | exact HB.out | apply below_alloc | apply pw_below_drewN | apply below_drew1) | exact HB.out)))); have n3_ := Aside0.mk (below_step (by repeat (first | (with_reducible first | exact HB.out | apply below_alloc | apply pw_below_drewN | apply below_drew1) | exact HB.out)) hb); clear HO_5; clear HO213; clear HB; have HO_5 := n0_; have HO213 := n1_; have HO217 := n2_; have HB := n3_; clear n0_ n1_ n2_ n3_; (try clear hb); (try clear hb2); (try clear hk); (try clear hi); (try clear ho0); obtain ⟨Ao35, co35, eo35⟩ := Kx.R_slice HO217.out; subst eo35) | ((with_reducible refine gate_callee (f := 22) rfl ?_); refine goesL_ (some 42) rfl rfl Try.func22 (by kernel_rfl) rfl #[.slice Ao35 t215.length co35] rfl (by (try simp only [List.map_toArray, List.map_cons, List.map_nil]); first | done | rfl | (simp only [List.length_drop, List.length_take]; rfl)) ?_; (with_reducible refine (impl_TurnsOf.calls kj6 _ _ t215 t218 t219 _ ?side1 ?side2 A19.out).mono ?_); (case side1 => repeat (first | exact (Kx.R_reads' HO217.out).2.2 | (with_reducible refine Kd.C_alloc ?_ _) | (with_reducible refine Kd.C_drewN ?_ _) | (with_reducible refine Kd.C_drew ?_))); (case side2 => exact (Kx.R_reads' HO217.out).2.1); rintro e w36 ⟨rfl, hb⟩; refine ⟨_, rfl, ?_⟩; have n0_ := Aside0.mk (Kx.R_below (by (with_reducible repeat (first | apply Kx.R_alloc | apply Kx.R_drewN | apply Kx.R_drew)); exact HO_5.out) hb); have n1_ := Aside0.mk (Kx.R_below (by (with_reducible repeat (first | apply Kx.R_alloc | apply Kx.R_drewN | apply Kx.R_drew)); exact HO213.out) hb); have n2_ := Aside0.mk (Kx.R_below (by (with_reducible repeat (first | apply Kx.R_alloc | apply Kx.R_drewN | apply Kx.R_drew)); exact HO217.out) hb); have n3_ := Aside0.mk (below_step (by repeat (first | (with_reducible first | exact HB.out | apply below_alloc | apply pw_below_drewN | apply below_drew1) | exact HB.out)) hb); clear HO_5; clear HO213; clear HO217; clear HB; have HO_5 := n0_; have HO213 := n1_; have HO217 := n2_; have HB := n3_; clear n0_ n1_ n2_ n3_; (try clear hb); (try clear hb2); (try clear hk); (try clear hi)))
              go_ret
              exact ⟨by first | rfl | (simp [errW_none, errW_some] <;> rfl) | (simp [*, errW_none, errW_some] <;> rfl), by repeat (first | (with_reducible first | exact HB.out | apply below_alloc | apply pw_below_drewN | apply below_drew1) | exact HB.out)⟩
          · replace c17 := Bool.eq_false_iff.mpr c17
            subst c17
            rw [if_neg (show ¬ (false = true) by decide)] at H
            obtain rfl := Option.some.inj H
            go_wp2_with (first | ((with_reducible refine gate_callee (f := 21) rfl ?_); refine goesL_ (some 36) rfl rfl Try.func21 (by kernel_rfl) rfl #[.slice A0 l0.length c0, .bool false] rfl (by (try simp only [List.map_toArray, List.map_cons, List.map_nil]); first | done | rfl | (simp only [List.length_drop, List.length_take]; rfl)) ?_; (with_reducible refine (laws_toIntS.calls kj6 _ _ l0 false t211 _ ?side1 ?side2 A15.out).mono ?_); (case side1 => repeat (first | exact (Kd.C_below HR0.out HB.out) | (with_reducible refine Kd.C_alloc ?_ _) | (with_reducible refine Kd.C_drewN ?_ _) | (with_reducible refine Kd.C_drew ?_))); (case side2 => exact HC0.out); rintro e w37 ⟨v212, rfl, ho0, hb⟩; refine ⟨_, rfl, ?_⟩; have n0_ := Aside0.mk (Kx.R_elder' (by (with_reducible repeat (first | apply Kx.R_alloc | apply Kx.R_drewN | apply Kx.R_drew)); exact HO_5.out) (Kx.R_base ho0) hb); have n1_ := Aside0.mk (Kx.R_lower (Kx.R_new' ho0 (Kx.R_lt (by (with_reducible repeat (first | apply Kx.R_alloc | apply Kx.R_drewN | apply Kx.R_drew)); exact HO_5.out))) (below_size (by repeat (first | (with_reducible first | exact HB.out | apply below_alloc | apply pw_below_drewN | apply below_drew1) | exact HB.out)))); have n2_ := Aside0.mk (below_step (by repeat (first | (with_reducible first | exact HB.out | apply below_alloc | apply pw_below_drewN | apply below_drew1) | exact HB.out)) hb); clear HO_5; clear HB; have HO_5 := n0_; have HO213 := n1_; have HB := n2_; clear n0_ n1_ n2_; (try clear hb); (try clear hb2); (try clear hk); (try clear hi); (try clear ho0); obtain ⟨Ao38, co38, eo38⟩ := Kx.R_slice HO213.out; subst eo38) | ((with_reducible refine gate_callee (f := 23) rfl ?_); refine goesL_ (some 37) rfl rfl Try.func23 (by kernel_rfl) rfl #[.slice Ao11 t206.length co11, .slice Ao38 t211.length co38] rfl (by (try simp only [List.map_toArray, List.map_cons, List.map_nil]); first | done | rfl | (simp only [List.length_drop, List.length_take]; rfl)) ?_; (with_reducible refine (laws_intactIntS.calls kj6 _ _ t206 _ _ t211 false _ (by (with_reducible repeat (first | apply Kx.R_alloc | apply Kx.R_drewN | apply Kx.R_drew)); exact HO_5.out) (by (with_reducible repeat (first | apply Kx.R_alloc | apply Kx.R_drewN | apply Kx.R_drew)); exact HO213.out) A16.out).mono ?_); rintro e w' ⟨rfl, ⟨nd, rfl⟩⟩; refine ⟨_, rfl, ?_⟩))
            go_ret
            exact ⟨by first | rfl | (simp [errW_none, errW_some] <;> rfl) | (simp [*, errW_none, errW_some] <;> rfl), by repeat (first | (with_reducible first | exact HB.out | apply below_alloc | apply pw_below_drewN | apply below_drew1) | exact HB.out)⟩

/-- THE ONE PURE STATEMENT of laws_FnExactTurnsOf: yours. -/
noncomputable def laws_FnExactTurnsOf.Pure : Prop := ∀ (l0 : List Int), l0.length ≤ maxLen → l0.length * 8 ≤ 140737488351232 → (∀ x ∈ l0, (Lit.int .i64 x).wf = true) → ∃ k, laws_FnExactTurnsOf.f k l0 = some true
theorem laws_FnExactTurnsOf.walk (P : laws_FnExactTurnsOf.Pure) (a0 : Option Addr) (len0 cap0 : Nat) (z0 : List Int) (w : World) (w0 : (a0 = none ∧ len0 = 0 ∧ cap0 = 0 ∧ z0 = []) ∨ ∃ x, a0 = some x ∧ len0 ≤ cap0 ∧ cap0 ≤ maxLen ∧ z0.length = cap0 ∧ (∀ i, i < z0.length → w.cell? (x.add i) = some (.int .i64 (z0.getD i 0))) ∧ ∀ n ∈ z0, (Lit.int .i64 n).wf = true) (y0 : len0 * 8 ≤ 140737488351232) :
    Calls Try.prog 4 #[.slice a0 len0 cap0] w fun e w' => e = .returned (.bool true) ∧ Below w.heap.size w w' := by
  obtain ⟨l0, rfl, hr0, hm0, hw0, hc0⟩ := ReadsInt.ofRowC w0
  obtain ⟨k, h⟩ := P l0 hm0 y0 hw0
  refine (laws_FnExactTurnsOf.calls k _ _ l0 true w (Kd.C_of_reads (d := (0 : Int)) (h1 := fun _ => rfl) hr0) hc0 h).mono ?_
  rintro e w' ⟨rfl, hd⟩
  exact ⟨rfl, hd⟩


end Go.Proofs.Ytoifmopgchigoaa.X

-- spec_wiCross
import Derived.Test.YtoifmopgchigoaaXB
import Derived.Test.YtoifmopgchigoaaXfA
namespace Go.Proofs.Ytoifmopgchigoaa.X
open Go.RowKit Go.Proofs.YtoifmopgchigoaaW.PrintWords Go.Proofs.YtoifmopgchigoaaW.PrintLast Go.Proofs.YtoifmopgchigoaaW.PrintMore
attribute [local go_sem] max2_int min2_int max_two min_two max_three min_three max_four min_four
set_option linter.unusedVariables false
set_option linter.unusedSimpArgs false

/-! ### spec_wiCross: function 81 -/
def spec_wiCross.j0 : Nat → Int → Bool → Int → Int → Int → Int → Int → Int → Option (Int)
  | 0, _, _, _, _, _, _, _, _ => none
  | k + 1, x7, x12, x418000, x418001, x419000, x419001, x420000, x420001 => if x12 = true then (some 1) else (if x418001 > x420001 then (if x419001 ≤ x420001 then (if x7 < 0 then (some (-1)) else (some 0)) else (some 0)) else (some 0))
def spec_wiCross.f (k : Nat) (a0_0 : Int) (a0_1 : Int) (a1_0 : Int) (a1_1 : Int) (a2_0 : Int) (a2_1 : Int) : Option (Int) := (spec_wiSide.f a0_0 a0_1 a1_0 a1_1 a2_0 a2_1).bind fun t420 => (if a0_1 ≤ a2_1 then (if a1_1 > a2_1 then (spec_wiCross.j0 k t420 (decide (t420 > 0)) a0_0 a0_1 a1_0 a1_1 a2_0 a2_1) else (spec_wiCross.j0 k t420 false a0_0 a0_1 a1_0 a1_1 a2_0 a2_1)) else (spec_wiCross.j0 k t420 false a0_0 a0_1 a1_0 a1_1 a2_0 a2_1))
theorem spec_wiCross.mono_l : ∀ k, (∀ y0 y1 y2 y3 y4 y5 y6 y7, LeO (spec_wiCross.j0 k y0 y1 y2 y3 y4 y5 y6 y7) (spec_wiCross.j0 (k + 1) y0 y1 y2 y3 y4 y5 y6 y7))
  | 0 => fun _ _ _ _ _ _ _ _ r h => by simp [spec_wiCross.j0] at h
  | k + 1 => by
    have ih0 := spec_wiCross.mono_l k
    · intro y0 y1 y2 y3 y4 y5 y6 y7
      unfold spec_wiCross.j0
      repeat' first
      | (with_reducible exact ih0 _ _ _ _ _ _ _ _)
      | (with_reducible exact LeO.refl _)
      | (with_reducible exact LeO.none _)
      | (with_reducible refine LeO.ite ?_ ?_)
      | (with_reducible refine LeO.bind ?_ (fun _ => ?_))
      | exact ih0 _ _ _ _ _ _ _ _
      | exact LeO.none _
      | refine LeO.ite ?_ ?_
      | refine LeO.bind ?_ (fun _ => ?_)
theorem spec_wiCross.mono : ∀ a0 a1 a2 a3 a4 a5 k, LeO (spec_wiCross.f k a0 a1 a2 a3 a4 a5) (spec_wiCross.f (k + 1) a0 a1 a2 a3 a4 a5) := by
  intro a0 a1 a2 a3 a4 a5 k
  have ih0 := spec_wiCross.mono_l k
  unfold spec_wiCross.f
  repeat' first
      | (with_reducible exact ih0 _ _ _ _ _ _ _ _)
      | (with_reducible exact LeO.refl _)
      | (with_reducible exact LeO.none _)
      | (with_reducible refine LeO.ite ?_ ?_)
      | (with_reducible refine LeO.bind ?_ (fun _ => ?_))
      | exact ih0 _ _ _ _ _ _ _ _
      | exact LeO.none _
      | refine LeO.ite ?_ ?_
      | refine LeO.bind ?_ (fun _ => ?_)
set_option maxHeartbeats 8000000 in
set_option maxRecDepth 100000 in
theorem spec_wiCross.calls (k : Nat) (a0_0 : Int) (a0_1 : Int) (a1_0 : Int) (a1_1 : Int) (a2_0 : Int) (a2_1 : Int) (r : Int) (w : World) (h : spec_wiCross.f k a0_0 a0_1 a1_0 a1_1 a2_0 a2_1 = some r) :
    Calls Try.prog 81 #[.agg #[.int .i64 a0_0, .int .i64 a0_1], .agg #[.int .i64 a1_0, .int .i64 a1_1], .agg #[.int .i64 a2_0, .int .i64 a2_1]] w fun e w' => e = .returned (.int .i64 r) ∧ Below w.heap.size w w' := by
  have hu40 := Try.underlying40
  have HB := Aside0.mk (Below.refl w.heap.size w)
  have H : ((spec_wiSide.f a0_0 a0_1 a1_0 a1_1 a2_0 a2_1).bind fun t420 => (if a0_1 ≤ a2_1 then (if a1_1 > a2_1 then (spec_wiCross.j0 k t420 (decide (t420 > 0)) a0_0 a0_1 a1_0 a1_1 a2_0 a2_1) else (spec_wiCross.j0 k t420 false a0_0 a0_1 a1_0 a1_1 a2_0 a2_1)) else (spec_wiCross.j0 k t420 false a0_0 a0_1 a1_0 a1_1 a2_0 a2_1))) = some r := h
  clear h
  obtain ⟨t420, A4, H⟩ := bindA H
  have HC5 := Aside0.mk H
  clear H
  go_enter Try.func81, Try.ntmps81
  go_upto_region 2 with (first | ((with_reducible refine gate_dst (N := 3) rfl ?_); refine box_event ?hg (N := 3) ?hd (cs := #[.int .i64 a0_0, .int .i64 a0_1]) (t := 40) ?hr ?_; (case hd => rfl); (case hg => rfl); (case hr => first | (go_simp; done) | (go_simp; rfl)); intro gb417 hg w6 hbox hb; have n0_ := Aside0.mk (below_step (by repeat (first | (with_reducible first | exact HB.out | apply below_alloc | apply pw_below_drewN | apply below_drew1) | exact HB.out)) hb); have n1_ := Aside0.mk (hbox); have n2_ := Aside0.mk ((by rw [hg]; exact (below_size (by repeat (first | (with_reducible first | exact HB.out | apply below_alloc | apply pw_below_drewN | apply below_drew1) | exact HB.out))) : w.heap.size ≤ gb417)); have n3_ := Aside0.mk ((by rw [hg]; exact (below_size (by repeat (first | (with_reducible first | exact HB.out | apply below_alloc | apply pw_below_drewN | apply below_drew1) | exact HB.out))) : w.heap.size ≤ gb417)); clear HB; have HB := n0_; have BK417 := n1_; have GW417 := n2_; have GE417 := n3_; clear n0_ n1_ n2_ n3_; clear hb hbox hg) | ((with_reducible refine gate_dst (N := 4) rfl ?_); refine box_event ?hg (N := 4) ?hd (cs := #[.int .i64 a1_0, .int .i64 a1_1]) (t := 40) ?hr ?_; (case hd => rfl); (case hg => rfl); (case hr => first | (go_simp; done) | (go_simp; rfl)); intro gb418 hg w7 hbox hb; have n0_ := Aside0.mk (blk_below (g := gb417) (o := .cells #[.int .i64 a0_0, .int .i64 a0_1] 40 (0, 0)) (by (with_reducible repeat (first | refine blk_drewN ?_ _ | refine blk_drew ?_ | refine blk_alloc ?_ _)); exact BK417.out) hb); have n1_ := Aside0.mk (below_step (by repeat (first | (with_reducible first | exact HB.out | apply below_alloc | apply pw_below_drewN | apply below_drew1 | refine below_set ?_ GE417.out) | exact HB.out)) hb); have n2_ := Aside0.mk (hbox); have n3_ := Aside0.mk ((by rw [hg]; exact (below_size (by repeat (first | (with_reducible first | exact HB.out | apply below_alloc | apply pw_below_drewN | apply below_drew1 | refine below_set ?_ GE417.out) | exact HB.out))) : w.heap.size ≤ gb418)); have n4_ := Aside0.mk ((by rw [hg]; exact (below_size (by repeat (first | (with_reducible first | exact HB.out | apply below_alloc | apply pw_below_drewN | apply below_drew1 | refine below_set ?_ GE417.out) | exact HB.out))) : w.heap.size ≤ gb418)); have n5_ := Aside0.mk ((by rw [hg]; exact Nat.ne_of_lt (blk_lt (g := gb417) (o := .cells #[.int .i64 a0_0, .int .i64 a0_1] 40 (0, 0)) (by (with_reducible repeat (first | refine blk_drewN ?_ _ | refine blk_drew ?_ | refine blk_alloc ?_ _)); exact BK417.out)) : gb417 ≠ gb418)); have n6_ := Aside0.mk ((by rw [hg]; exact Nat.ne_of_gt (blk_lt (g := gb417) (o := .cells #[.int .i64 a0_0, .int .i64 a0_1] 40 (0, 0)) (by (with_reducible repeat (first | refine blk_drewN ?_ _ | refine blk_drew ?_ | refine blk_alloc ?_ _)); exact BK417.out)) : gb418 ≠ gb417)); clear BK417; clear HB; have BK417 := n0_; have HB := n1_; have BK418 := n2_; have GW418 := n3_; have GE418 := n4_; have NB417_418 := n5_; have NB418_417 := n6_; clear n0_ n1_ n2_ n3_ n4_ n5_ n6_; clear hb hbox hg) | ((with_reducible refine gate_dst (N := 5) rfl ?_); refine box_event ?hg (N := 5) ?hd (cs := #[.int .i64 a2_0, .int .i64 a2_1]) (t := 40) ?hr ?_; (case hd => rfl); (case hg => rfl); (case hr => first | (go_simp; done) | (go_simp; rfl)); intro gb419 hg w8 hbox hb; have n0_ := Aside0.mk (blk_below (g := gb417) (o := .cells #[.int .i64 a0_0, .int .i64 a0_1] 40 (0, 0)) (by (with_reducible repeat (first | refine blk_drewN ?_ _ | refine blk_drew ?_ | refine blk_alloc ?_ _)); exact BK417.out) hb); have n1_ := Aside0.mk (blk_below (g := gb418) (o := .cells #[.int .i64 a1_0, .int .i64 a1_1] 40 (0, 0)) (by (with_reducible repeat (first | refine blk_drewN ?_ _ | refine blk_drew ?_ | refine blk_alloc ?_ _)); exact BK418.out) hb); have n2_ := Aside0.mk (below_step (by repeat (first | (with_reducible first | exact HB.out | apply below_alloc | apply pw_below_drewN | apply below_drew1 | refine below_set ?_ GE417.out | refine below_set ?_ GE418.out) | exact HB.out)) hb); have n3_ := Aside0.mk (hbox); have n4_ := Aside0.mk ((by rw [hg]; exact (below_size (by repeat (first | (with_reducible first | exact HB.out | apply below_alloc | apply pw_below_drewN | apply below_drew1 | refine below_set ?_ GE417.out | refine below_set ?_ GE418.out) | exact HB.out))) : w.heap.size ≤ gb419)); have n5_ := Aside0.mk ((by rw [hg]; exact (below_size (by repeat (first | (with_reducible first | exact HB.out | apply below_alloc | apply pw_below_drewN | apply below_drew1 | refine below_set ?_ GE417.out | refine below_set ?_ GE418.out) | exact HB.out))) : w.heap.size ≤ gb419)); have n6_ := Aside0.mk ((by rw [hg]; exact Nat.ne_of_lt (blk_lt (g := gb417) (o := .cells #[.int .i64 a0_0, .int .i64 a0_1] 40 (0, 0)) (by (with_reducible repeat (first | refine blk_drewN ?_ _ | refine blk_drew ?_ | refine blk_alloc ?_ _)); exact BK417.out)) : gb417 ≠ gb419)); have n7_ := Aside0.mk ((by rw [hg]; exact Nat.ne_of_gt (blk_lt (g := gb417) (o := .cells #[.int .i64 a0_0, .int .i64 a0_1] 40 (0, 0)) (by (with_reducible repeat (first | refine blk_drewN ?_ _ | refine blk_drew ?_ | refine blk_alloc ?_ _)); exact BK417.out)) : gb419 ≠ gb417)); have n8_ := Aside0.mk ((by rw [hg]; exact Nat.ne_of_lt (blk_lt (g := gb418) (o := .cells #[.int .i64 a1_0, .int .i64 a1_1] 40 (0, 0)) (by (with_reducible repeat (first | refine blk_drewN ?_ _ | refine blk_drew ?_ | refine blk_alloc ?_ _)); exact BK418.out)) : gb418 ≠ gb419)); have n9_ := Aside0.mk ((by rw [hg]; exact Nat.ne_of_gt (blk_lt (g := gb418) (o := .cells #[.int .i64 a1_0, .int .i64 a1_1] 40 (0, 0)) (by (with_reducible repeat (first | refine blk_drewN ?_ _ | refine blk_drew ?_ | refine blk_alloc ?_ _)); exact BK418.out)) : gb419 ≠ gb418)); clear BK417; clear BK418; clear HB; have BK417 := n0_; have BK418 := n1_; have HB := n2_; have BK419 := n3_; have GW419 := n4_; have GE419 := n5_; have NB417_419 := n6_; have NB419_417 := n7_; have NB418_419 := n8_; have NB419_418 := n9_; clear n0_ n1_ n2_ n3_ n4_ n5_ n6_ n7_ n8_ n9_; clear hb hbox hg; have hnb9 := NB417_418.out; have hnc9 := NB418_417.out; have hnb10 := NB417_419.out; have hnc10 := NB419_417.out; have hcz11_0 : w8.cell? ⟨gb417, 0, none⟩ = some (.int .i64 a0_0) := (blk_cell BK417.out 0).trans rfl; have hcz11_1 : w8.cell? ⟨gb417, 1, none⟩ = some (.int .i64 a0_1) := (blk_cell BK417.out 1).trans rfl; have hfz11_0 := blk_frozen BK417.out 0; have hfz11_1 := blk_frozen BK417.out 1; have hnb12 := NB418_419.out; have hnc12 := NB419_418.out; have hcz13_0 : w8.cell? ⟨gb418, 0, none⟩ = some (.int .i64 a1_0) := (blk_cell BK418.out 0).trans rfl; have hcz13_1 : w8.cell? ⟨gb418, 1, none⟩ = some (.int .i64 a1_1) := (blk_cell BK418.out 1).trans rfl; have hfz13_0 := blk_frozen BK418.out 0; have hfz13_1 := blk_frozen BK418.out 1; have hcz14_0 : w8.cell? ⟨gb419, 0, none⟩ = some (.int .i64 a2_0) := (blk_cell BK419.out 0).trans rfl; have hcz14_1 : w8.cell? ⟨gb419, 1, none⟩ = some (.int .i64 a2_1) := (blk_cell BK419.out 1).trans rfl; have hfz14_0 := blk_frozen BK419.out 0; have hfz14_1 := blk_frozen BK419.out 1) | ((with_reducible refine gate_callee (f := 96) rfl ?_); refine goesL_ (some 11) rfl rfl Try.func96 (by kernel_rfl) rfl #[.agg #[.int .i64 a0_0, .int .i64 a0_1], .agg #[.int .i64 a1_0, .int .i64 a1_1], .agg #[.int .i64 a2_0, .int .i64 a2_1]] rfl (by (try simp only [List.map_toArray, List.map_cons, List.map_nil]); first | done | rfl | (simp only [List.length_drop, List.length_take]; rfl)) ?_; (with_reducible refine (spec_wiSide.calls a0_0 a0_1 a1_0 a1_1 a2_0 a2_1 t420 _ A4.out).mono ?_); rintro e w15 ⟨rfl, hb⟩; refine ⟨_, rfl, ?_⟩; have n0_ := Aside0.mk (blk_below (g := gb417) (o := .cells #[.int .i64 a0_0, .int .i64 a0_1] 40 (0, 0)) (by (with_reducible repeat (first | refine blk_drewN ?_ _ | refine blk_drew ?_ | refine blk_alloc ?_ _)); exact BK417.out) hb); have n1_ := Aside0.mk (blk_below (g := gb418) (o := .cells #[.int .i64 a1_0, .int .i64 a1_1] 40 (0, 0)) (by (with_reducible repeat (first | refine blk_drewN ?_ _ | refine blk_drew ?_ | refine blk_alloc ?_ _)); exact BK418.out) hb); have n2_ := Aside0.mk (blk_below (g := gb419) (o := .cells #[.int .i64 a2_0, .int .i64 a2_1] 40 (0, 0)) (by (with_reducible repeat (first | refine blk_drewN ?_ _ | refine blk_drew ?_ | refine blk_alloc ?_ _)); exact BK419.out) hb); have n3_ := Aside0.mk (below_step (by repeat (first | (with_reducible first | exact HB.out | apply below_alloc | apply pw_below_drewN | apply below_drew1 | refine below_set ?_ GE417.out | refine below_set ?_ GE418.out | refine below_set ?_ GE419.out) | exact HB.out)) hb); clear BK417; clear BK418; clear BK419; clear HB; have BK417 := n0_; have BK418 := n1_; have BK419 := n2_; have HB := n3_; clear n0_ n1_ n2_ n3_; (try clear hb); (try clear hb2); (try clear hk); (try clear hi)))
  (try simp only [Act.put, List.setIfInBounds_toArray, List.set_cons_zero, List.set_cons_succ])
  go_cut [12] (fun v12 wc => ∃ (kq : Nat) (x12_4 : Bool), v12 = .bool x12_4 ∧ Aside0 (spec_wiCross.j0 kq t420 x12_4 a0_0 a0_1 a1_0 a1_1 a2_0 a2_1 = some r) ∧ Aside0 (kq ≤ k) ∧ Aside0 (wc.heap[gb417]? = some (.cells #[.int .i64 a0_0, .int .i64 a0_1] 40 (0, 0))) ∧ Aside0 (wc.heap[gb418]? = some (.cells #[.int .i64 a1_0, .int .i64 a1_1] 40 (0, 0))) ∧ Aside0 (wc.heap[gb419]? = some (.cells #[.int .i64 a2_0, .int .i64 a2_1] 40 (0, 0))) ∧ Aside0 (Below w.heap.size w wc))
  case first =>
    have H := HC5.out
    clear HC5
    by_cases c16 : a0_1 ≤ a2_1
    · rw [if_pos c16] at H
      have c16b0 : decide (a0_1 ≤ a2_1) = true := decide_eq_true c16
      clear c16
      (first | rw [c16b0] | (simp only [i64_w, i32_w]; rw [c16b0]) | skip)
      by_cases c17 : a1_1 > a2_1
      · rw [if_pos c17] at H
        have c17b0 : decide (a2_1 < a1_1) = true := decide_eq_true c17
        clear c17
        have H' := Aside0.mk H
        clear H
        have hnb18 := NB417_418.out
        have hnc18 := NB418_417.out
        have hnb19 := NB417_419.out
        have hnc19 := NB419_417.out
        have hcz20_0 : w15.cell? ⟨gb417, 0, none⟩ = some (.int .i64 a0_0) := (blk_cell BK417.out 0).trans rfl
        have hcz20_1 : w15.cell? ⟨gb417, 1, none⟩ = some (.int .i64 a0_1) := (blk_cell BK417.out 1).trans rfl
        have hfz20_0 := blk_frozen BK417.out 0
        have hfz20_1 := blk_frozen BK417.out 1
        have hnb21 := NB419_418.out
        have hnc21 := NB418_419.out
        have hcz22_0 : w15.cell? ⟨gb419, 0, none⟩ = some (.int .i64 a2_0) := (blk_cell BK419.out 0).trans rfl
        have hcz22_1 : w15.cell? ⟨gb419, 1, none⟩ = some (.int .i64 a2_1) := (blk_cell BK419.out 1).trans rfl
        have hfz22_0 := blk_frozen BK419.out 0
        have hfz22_1 := blk_frozen BK419.out 1
        have hcz23_0 : w15.cell? ⟨gb418, 0, none⟩ = some (.int .i64 a1_0) := (blk_cell BK418.out 0).trans rfl
        have hcz23_1 : w15.cell? ⟨gb418, 1, none⟩ = some (.int .i64 a1_1) := (blk_cell BK418.out 1).trans rfl
        have hfz23_0 := blk_frozen BK418.out 0
        have hfz23_1 := blk_frozen BK418.out 1
        go_wp2
        go_meet
        case rel => exact ⟨_, (decide (t420 > 0)), (by first | rfl | (simp; done) | (simp [*]; done)), H', ⟨by first | omega | exact Nat.le_refl _⟩, ⟨by (with_reducible repeat (first | refine blk_drewN ?_ _ | refine blk_drew ?_ | refine blk_alloc ?_ _)); exact BK417.out⟩, ⟨by (with_reducible repeat (first | refine blk_drewN ?_ _ | refine blk_drew ?_ | refine blk_alloc ?_ _)); exact BK418.out⟩, ⟨by (with_reducible repeat (first | refine blk_drewN ?_ _ | refine blk_drew ?_ | refine blk_alloc ?_ _)); exact BK419.out⟩, ⟨by repeat (first | (with_reducible first | exact HB.out | apply below_alloc | apply pw_below_drewN | apply below_drew1 | refine below_set ?_ GE417.out | refine below_set ?_ GE418.out | refine below_set ?_ GE419.out) | exact HB.out)⟩⟩
      · rw [if_neg c17] at H
        have c17b0 : decide (a2_1 < a1_1) = false := decide_eq_false c17
        clear c17
        have H' := Aside0.mk H
        clear H
        have hnb24 := NB417_418.out
        have hnc24 := NB418_417.out
        have hnb25 := NB417_419.out
        have hnc25 := NB419_417.out
        have hcz26_0 : w15.cell? ⟨gb417, 0, none⟩ = some (.int .i64 a0_0) := (blk_cell BK417.out 0).trans rfl
        have hcz26_1 : w15.cell? ⟨gb417, 1, none⟩ = some (.int .i64 a0_1) := (blk_cell BK417.out 1).trans rfl
        have hfz26_0 := blk_frozen BK417.out 0
        have hfz26_1 := blk_frozen BK417.out 1
        have hnb27 := NB419_418.out
        have hnc27 := NB418_419.out
        have hcz28_0 : w15.cell? ⟨gb419, 0, none⟩ = some (.int .i64 a2_0) := (blk_cell BK419.out 0).trans rfl
        have hcz28_1 : w15.cell? ⟨gb419, 1, none⟩ = some (.int .i64 a2_1) := (blk_cell BK419.out 1).trans rfl
        have hfz28_0 := blk_frozen BK419.out 0
        have hfz28_1 := blk_frozen BK419.out 1
        have hcz29_0 : w15.cell? ⟨gb418, 0, none⟩ = some (.int .i64 a1_0) := (blk_cell BK418.out 0).trans rfl
        have hcz29_1 : w15.cell? ⟨gb418, 1, none⟩ = some (.int .i64 a1_1) := (blk_cell BK418.out 1).trans rfl
        have hfz29_0 := blk_frozen BK418.out 0
        have hfz29_1 := blk_frozen BK418.out 1
        go_wp2
        go_meet
        case rel => exact ⟨_, (false), (by first | rfl | (simp; done) | (simp [*]; done)), H', ⟨by first | omega | exact Nat.le_refl _⟩, ⟨by (with_reducible repeat (first | refine blk_drewN ?_ _ | refine blk_drew ?_ | refine blk_alloc ?_ _)); exact BK417.out⟩, ⟨by (with_reducible repeat (first | refine blk_drewN ?_ _ | refine blk_drew ?_ | refine blk_alloc ?_ _)); exact BK418.out⟩, ⟨by (with_reducible repeat (first | refine blk_drewN ?_ _ | refine blk_drew ?_ | refine blk_alloc ?_ _)); exact BK419.out⟩, ⟨by repeat (first | (with_reducible first | exact HB.out | apply below_alloc | apply pw_below_drewN | apply below_drew1 | refine below_set ?_ GE417.out | refine below_set ?_ GE418.out | refine below_set ?_ GE419.out) | exact HB.out)⟩⟩
    · rw [if_neg c16] at H
      have c16b0 : decide (a0_1 ≤ a2_1) = false := decide_eq_false c16
      clear c16
      (first | rw [c16b0] | (simp only [i64_w, i32_w]; rw [c16b0]) | skip)
      have H' := Aside0.mk H
      clear H
      have hnb30 := NB417_418.out
      have hnc30 := NB418_417.out
      have hnb31 := NB417_419.out
      have hnc31 := NB419_417.out
      have hcz32_0 : w15.cell? ⟨gb417, 0, none⟩ = some (.int .i64 a0_0) := (blk_cell BK417.out 0).trans rfl
      have hcz32_1 : w15.cell? ⟨gb417, 1, none⟩ = some (.int .i64 a0_1) := (blk_cell BK417.out 1).trans rfl
      have hfz32_0 := blk_frozen BK417.out 0
      have hfz32_1 := blk_frozen BK417.out 1
      have hnb33 := NB419_418.out
      have hnc33 := NB418_419.out
      have hcz34_0 : w15.cell? ⟨gb419, 0, none⟩ = some (.int .i64 a2_0) := (blk_cell BK419.out 0).trans rfl
      have hcz34_1 : w15.cell? ⟨gb419, 1, none⟩ = some (.int .i64 a2_1) := (blk_cell BK419.out 1).trans rfl
      have hfz34_0 := blk_frozen BK419.out 0
      have hfz34_1 := blk_frozen BK419.out 1
      go_wp2
      go_meet
      case rel => exact ⟨_, (false), (by first | rfl | (simp; done) | (simp [*]; done)), H', ⟨by first | omega | exact Nat.le_refl _⟩, ⟨by (with_reducible repeat (first | refine blk_drewN ?_ _ | refine blk_drew ?_ | refine blk_alloc ?_ _)); exact BK417.out⟩, ⟨by (with_reducible repeat (first | refine blk_drewN ?_ _ | refine blk_drew ?_ | refine blk_alloc ?_ _)); exact BK418.out⟩, ⟨by (with_reducible repeat (first | refine blk_drewN ?_ _ | refine blk_drew ?_ | refine blk_alloc ?_ _)); exact BK419.out⟩, ⟨by repeat (first | (with_reducible first | exact HB.out | apply below_alloc | apply pw_below_drewN | apply below_drew1 | refine below_set ?_ GE417.out | refine below_set ?_ GE418.out | refine below_set ?_ GE419.out) | exact HB.out)⟩⟩
  case rest =>
    clear HC5
    try clear c1
    try clear c2
    try clear p2
    try clear c3
    try clear c8
    try clear c9
    try clear c10
    try clear c12
    try clear c16
    try clear c16b0
    try clear c17
    try clear c17b0
    try clear c18
    try clear c19
    try clear c21
    try clear c24
    try clear c25
    try clear c27
    try clear c30
    try clear c31
    try clear c33
    try clear hcz11_0
    try clear hcz11_1
    try clear hcz13_0
    try clear hcz13_1
    try clear hcz14_0
    try clear hcz14_1
    try clear hcz20_0
    try clear hcz20_1
    try clear hcz22_0
    try clear hcz22_1
    try clear hcz23_0
    try clear hcz23_1
    try clear hcz26_0
    try clear hcz26_1
    try clear hcz28_0
    try clear hcz28_1
    try clear hcz29_0
    try clear hcz29_1
    try clear hcz32_0
    try clear hcz32_1
    try clear hcz34_0
    try clear hcz34_1
    try clear hfz11_0
    try clear hfz11_1
    try clear hfz13_0
    try clear hfz13_1
    try clear hfz14_0
    try clear hfz14_1
    try clear hfz20_0
    try clear hfz20_1
    try clear hfz22_0
    try clear hfz22_1
    try clear hfz23_0
    try clear hfz23_1
    try clear hfz26_0
    try clear hfz26_1
    try clear hfz28_0
    try clear hfz28_1
    try clear hfz29_0
    try clear hfz29_1
    try clear hfz32_0
    try clear hfz32_1
    try clear hfz34_0
    try clear hfz34_1
    obtain ⟨kq, x12_4, rfl, HA, HJ4, BK417, BK418, BK419, HB⟩ := hcut
    cases kq with
    | zero => exact absurd HA.out (by simp [spec_wiCross.j0])
    | succ kj4 =>
      have H := HA.out
      clear HA
      simp only [spec_wiCross.j0] at H
      by_cases c35 : x12_4 = true
      · subst c35
        rw [if_pos rfl] at H
        obtain rfl := Option.some.inj H
        go_wp2
        go_ret
        exact ⟨by first | rfl | (simp [errW_none, errW_some] <;> rfl) | (simp [*, errW_none, errW_some] <;> rfl), by repeat (first | (with_reducible first | exact HB.out | apply below_alloc | apply pw_below_drewN | apply below_drew1 | refine below_set ?_ GE417.out | refine below_set ?_ GE418.out | refine below_set ?_ GE419.out) | exact HB.out)⟩
      · replace c35 := Bool.eq_false_iff.mpr c35
        subst c35
        rw [if_neg (show ¬ (false = true) by decide)] at H
        by_cases c36 : a0_1 > a2_1
        · rw [if_pos c36] at H
          have c36b0 : decide (a2_1 < a0_1) = true := decide_eq_true c36
          clear c36
          by_cases c37 : a1_1 ≤ a2_1
          · rw [if_pos c37] at H
            have c37b0 : decide (a1_1 ≤ a2_1) = true := decide_eq_true c37
            clear c37
            by_cases c38 : t420 < 0
            · rw [if_pos c38] at H
              have c38b0 : decide (t420 < 0) = true := decide_eq_true c38
              clear c38
              obtain rfl := Option.some.inj H
              have hnb39 := NB417_418.out
              have hnc39 := NB418_417.out
              have hnb40 := NB417_419.out
              have hnc40 := NB419_417.out
              have hcz41_0 : wc.cell? ⟨gb417, 0, none⟩ = some (.int .i64 a0_0) := (blk_cell BK417.out 0).trans rfl
              have hcz41_1 : wc.cell? ⟨gb417, 1, none⟩ = some (.int .i64 a0_1) := (blk_cell BK417.out 1).trans rfl
              have hfz41_0 := blk_frozen BK417.out 0
              have hfz41_1 := blk_frozen BK417.out 1
              have hnb42 := NB419_418.out
              have hnc42 := NB418_419.out
              have hcz43_0 : wc.cell? ⟨gb419, 0, none⟩ = some (.int .i64 a2_0) := (blk_cell BK419.out 0).trans rfl
              have hcz43_1 : wc.cell? ⟨gb419, 1, none⟩ = some (.int .i64 a2_1) := (blk_cell BK419.out 1).trans rfl
              have hfz43_0 := blk_frozen BK419.out 0
              have hfz43_1 := blk_frozen BK419.out 1
              have hcz44_0 : wc.cell? ⟨gb418, 0, none⟩ = some (.int .i64 a1_0) := (blk_cell BK418.out 0).trans rfl
              have hcz44_1 : wc.cell? ⟨gb418, 1, none⟩ = some (.int .i64 a1_1) := (blk_cell BK418.out 1).trans rfl
              have hfz44_0 := blk_frozen BK418.out 0
              have hfz44_1 := blk_frozen BK418.out 1
              go_wp2
              go_ret
              exact ⟨by first | rfl | (simp [errW_none, errW_some] <;> rfl) | (simp [*, errW_none, errW_some] <;> rfl), by repeat (first | (with_reducible first | exact HB.out | apply below_alloc | apply pw_below_drewN | apply below_drew1 | refine below_set ?_ GE417.out | refine below_set ?_ GE418.out | refine below_set ?_ GE419.out) | exact HB.out)⟩
            · rw [if_neg c38] at H
              have c38b0 : decide (t420 < 0) = false := decide_eq_false c38
              clear c38
              obtain rfl := Option.some.inj H
              have hnb45 := NB417_418.out
              have hnc45 := NB418_417.out
              have hnb46 := NB417_419.out
              have hnc46 := NB419_417.out
              have hcz47_0 : wc.cell? ⟨gb417, 0, none⟩ = some (.int .i64 a0_0) := (blk_cell BK417.out 0).trans rfl
              have hcz47_1 : wc.cell? ⟨gb417, 1, none⟩ = some (.int .i64 a0_1) := (blk_cell BK417.out 1).trans rfl
              have hfz47_0 := blk_frozen BK417.out 0
              have hfz47_1 := blk_frozen BK417.out 1
              have hnb48 := NB419_418.out
              have hnc48 := NB418_419.out
              have hcz49_0 : wc.cell? ⟨gb419, 0, none⟩ = some (.int .i64 a2_0) := (blk_cell BK419.out 0).trans rfl
              have hcz49_1 : wc.cell? ⟨gb419, 1, none⟩ = some (.int .i64 a2_1) := (blk_cell BK419.out 1).trans rfl
              have hfz49_0 := blk_frozen BK419.out 0
              have hfz49_1 := blk_frozen BK419.out 1
              have hcz50_0 : wc.cell? ⟨gb418, 0, none⟩ = some (.int .i64 a1_0) := (blk_cell BK418.out 0).trans rfl
              have hcz50_1 : wc.cell? ⟨gb418, 1, none⟩ = some (.int .i64 a1_1) := (blk_cell BK418.out 1).trans rfl
              have hfz50_0 := blk_frozen BK418.out 0
              have hfz50_1 := blk_frozen BK418.out 1
              go_wp2
              go_ret
              exact ⟨by first | rfl | (simp [errW_none, errW_some] <;> rfl) | (simp [*, errW_none, errW_some] <;> rfl), by repeat (first | (with_reducible first | exact HB.out | apply below_alloc | apply pw_below_drewN | apply below_drew1 | refine below_set ?_ GE417.out | refine below_set ?_ GE418.out | refine below_set ?_ GE419.out) | exact HB.out)⟩
          · rw [if_neg c37] at H
            have c37b0 : decide (a1_1 ≤ a2_1) = false := decide_eq_false c37
            clear c37
            obtain rfl := Option.some.inj H
            have hnb51 := NB417_418.out
            have hnc51 := NB418_417.out
            have hnb52 := NB417_419.out
            have hnc52 := NB419_417.out
            have hcz53_0 : wc.cell? ⟨gb417, 0, none⟩ = some (.int .i64 a0_0) := (blk_cell BK417.out 0).trans rfl
            have hcz53_1 : wc.cell? ⟨gb417, 1, none⟩ = some (.int .i64 a0_1) := (blk_cell BK417.out 1).trans rfl
            have hfz53_0 := blk_frozen BK417.out 0
            have hfz53_1 := blk_frozen BK417.out 1
            have hnb54 := NB419_418.out
            have hnc54 := NB418_419.out
            have hcz55_0 : wc.cell? ⟨gb419, 0, none⟩ = some (.int .i64 a2_0) := (blk_cell BK419.out 0).trans rfl
            have hcz55_1 : wc.cell? ⟨gb419, 1, none⟩ = some (.int .i64 a2_1) := (blk_cell BK419.out 1).trans rfl
            have hfz55_0 := blk_frozen BK419.out 0
            have hfz55_1 := blk_frozen BK419.out 1
            have hcz56_0 : wc.cell? ⟨gb418, 0, none⟩ = some (.int .i64 a1_0) := (blk_cell BK418.out 0).trans rfl
            have hcz56_1 : wc.cell? ⟨gb418, 1, none⟩ = some (.int .i64 a1_1) := (blk_cell BK418.out 1).trans rfl
            have hfz56_0 := blk_frozen BK418.out 0
            have hfz56_1 := blk_frozen BK418.out 1
            go_wp2
            go_ret
            exact ⟨by first | rfl | (simp [errW_none, errW_some] <;> rfl) | (simp [*, errW_none, errW_some] <;> rfl), by repeat (first | (with_reducible first | exact HB.out | apply below_alloc | apply pw_below_drewN | apply below_drew1 | refine below_set ?_ GE417.out | refine below_set ?_ GE418.out | refine below_set ?_ GE419.out) | exact HB.out)⟩
        · rw [if_neg c36] at H
          have c36b0 : decide (a2_1 < a0_1) = false := decide_eq_false c36
          clear c36
          obtain rfl := Option.some.inj H
          have hnb57 := NB417_418.out
          have hnc57 := NB418_417.out
          have hnb58 := NB417_419.out
          have hnc58 := NB419_417.out
          have hcz59_0 : wc.cell? ⟨gb417, 0, none⟩ = some (.int .i64 a0_0) := (blk_cell BK417.out 0).trans rfl
          have hcz59_1 : wc.cell? ⟨gb417, 1, none⟩ = some (.int .i64 a0_1) := (blk_cell BK417.out 1).trans rfl
          have hfz59_0 := blk_frozen BK417.out 0
          have hfz59_1 := blk_frozen BK417.out 1
          have hnb60 := NB419_418.out
          have hnc60 := NB418_419.out
          have hcz61_0 : wc.cell? ⟨gb419, 0, none⟩ = some (.int .i64 a2_0) := (blk_cell BK419.out 0).trans rfl
          have hcz61_1 : wc.cell? ⟨gb419, 1, none⟩ = some (.int .i64 a2_1) := (blk_cell BK419.out 1).trans rfl
          have hfz61_0 := blk_frozen BK419.out 0
          have hfz61_1 := blk_frozen BK419.out 1
          go_wp2
          go_ret
          exact ⟨by first | rfl | (simp [errW_none, errW_some] <;> rfl) | (simp [*, errW_none, errW_some] <;> rfl), by repeat (first | (with_reducible first | exact HB.out | apply below_alloc | apply pw_below_drewN | apply below_drew1 | refine below_set ?_ GE417.out | refine below_set ?_ GE418.out | refine below_set ?_ GE419.out) | exact HB.out)⟩


end Go.Proofs.Ytoifmopgchigoaa.X

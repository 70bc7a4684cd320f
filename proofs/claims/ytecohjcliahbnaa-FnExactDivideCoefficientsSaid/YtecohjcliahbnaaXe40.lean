-- impl_areCoefficients: every whole number of a list lies within
import Derived.Test.YtecohjcliahbnaaXfA
namespace Go.Proofs.Ytecohjcliahbnaa.X
open Go.RowKit Go.Proofs.YtecohjcliahbnaaW.PrintWords Go.Proofs.YtecohjcliahbnaaW.PrintLast Go.Proofs.YtecohjcliahbnaaW.PrintMore
attribute [local go_sem] max2_int min2_int max_two min_two max_three min_three max_four min_four
set_option linter.unusedVariables false
set_option linter.unusedSimpArgs false
theorem impl_areCoefficients.ins (a b c : Int) : impl_inside.f a b c = some (decide (b ≤ a ∧ a ≤ c)) := by
  unfold impl_inside.f
  by_cases h : a ≥ b
  · rw [if_pos h]; simp [h]
  · rw [if_neg h]; simp; omega
set_option maxHeartbeats 1000000 in
theorem impl_areCoefficients.clos (x : Int) (w : World) : Calls Try.prog 58 #[.int .i64 x] w fun e w' => e = .returned (.bool (!decide ((-1000000000000000) ≤ x ∧ x ≤ 1000000000000000))) ∧ Drawn0 w w' := by
  have HI := Aside0.mk (impl_areCoefficients.ins x (-1000000000000000) 1000000000000000)
  generalize decide ((-1000000000000000) ≤ x ∧ x ≤ 1000000000000000) = b at HI ⊢
  cases b <;>
  · go_enter Try.func58, Try.ntmps58
    go_wp2_with (first | (go_at_call 52; (with_reducible refine (impl_inside.calls _ _ _ _ _ HI.out).mono ?_); rintro e w' ⟨rfl, ⟨nd, rfl⟩⟩))
    go_ret
    exact ⟨by first | rfl | simp, by repeat (first | exact Drawn0.refl _ | apply Drawn0.step)⟩
/-- The cell of an element. -/
theorem impl_areCoefficients.int_at {w : World} {A0 : Option Addr} {l0 : List Int} (h : Kd.C (Kd.int .i64) w A0 l0.length l0) (k : Nat) (hk : k < l0.length) : ∃ ad, A0 = some ad ∧ w.cell? (ad.add k) = some (.int .i64 l0[k]) := by
  obtain ⟨ad, e, hc⟩ := h.2.2 (by omega)
  obtain ⟨cs, hl, rfl, h3⟩ := hc k _ (List.getElem?_eq_getElem hk)
  have := h3 0 _ rfl
  have hs : (Kd.int .i64).sz = 1 := rfl
  rw [hs, Nat.mul_one, Nat.add_zero] at this
  exact ⟨ad, e, this⟩
/-- The first place from k on, or -1. -/
def impl_areCoefficients.idxI (p : Int → Bool) : List Int → Nat → Int
  | [], _ => -1
  | x :: r, k => if p x = true then k else impl_areCoefficients.idxI p r (k + 1)
theorem impl_areCoefficients.idxI_any (p : Int → Bool) : ∀ (l : List Int) (k : Nat), decide (0 ≤ impl_areCoefficients.idxI p l k) = l.any p := by
  intro l
  induction l with
  | nil => intro k; rfl
  | cons x r ih =>
    intro k
    unfold impl_areCoefficients.idxI
    cases hp : p x with
    | true => rw [if_pos rfl]; simp [hp]
    | false => rw [if_neg (by simp), ih]; simp [hp]
set_option maxHeartbeats 1000000 in
theorem impl_areCoefficients.idx (p : Int → Bool) (hf : ∀ (x : Int) (W : World), Calls Try.prog 58 #[.int .i64 x] W fun e w' => e = .returned (.bool (p x)) ∧ Drawn0 W w')
    (A0 : Option Addr) (c0 : Nat) (l0 : List Int) (w : World) (hr0 : Kd.C (Kd.int .i64) w A0 l0.length l0) :
    Calls Try.prog 72 #[.slice A0 l0.length c0, .func (Fn.func 58) #[] #[]] w fun e w' => e = .returned (.int .i64 (impl_areCoefficients.idxI p l0 0)) ∧ Drawn0 w w' := by
  have HR := Aside0.mk hr0
  have HF := Aside0.mk hf
  have hn : l0.length ≤ 9223372036854775807 := hr0.2.1
  clear hr0 hf
  go_enter Try.func72, Try.ntmps72
  go_wp2_with fail
  go_loopg [8] (l0.length + 1) (fun kq v8 w' => ∃ k : Nat, k ≤ l0.length ∧ v8 = .int .i64 (k : Int) ∧ Aside0 (impl_areCoefficients.idxI p l0 0 = impl_areCoefficients.idxI p (l0.drop k) k) ∧ Aside0 (l0.length < kq + k) ∧ Drawn0 w w')
  case atStart => exact ⟨0, Nat.zero_le _, rfl, ⟨by rw [List.drop_zero]⟩, ⟨by omega⟩, by repeat (first | exact Drawn0.refl _ | apply Drawn0.step)⟩
  case round =>
    obtain ⟨k, hk, rfl, HI, HK, ⟨m1, rfl⟩⟩ := hrel
    cases gk with
    | zero => exact absurd HK.out (by omega)
    | succ k1 =>
    by_cases hlt : k < l0.length
    · obtain ⟨ad, rfl, hcell⟩ := impl_areCoefficients.int_at HR.out k hlt
      have hd := List.drop_eq_getElem_cons hlt
      cases hp : p l0[k] with
      | true =>
        have HV : Aside0 (impl_areCoefficients.idxI p l0 0 = (k : Int)) := ⟨by rw [HI.out, hd, impl_areCoefficients.idxI, if_pos hp]⟩
        have HC : Aside0 (∀ W : World, Calls Try.prog 58 #[.int .i64 l0[k]] W fun e w' => e = .returned (.bool true) ∧ Drawn0 W w') := ⟨fun W => by have := HF.out l0[k] W; rwa [hp] at this⟩
        clear hd hp HI
        go_wp2_with (first | (go_at_call 58; refine (HC.out _).mono ?_; rintro e w' ⟨rfl, ⟨nd, rfl⟩⟩))
        go_ret
        exact ⟨by rw [HV.out]; rfl, by repeat (first | exact Drawn0.refl _ | apply Drawn0.step)⟩
      | false =>
        have HV : Aside0 (impl_areCoefficients.idxI p l0 0 = impl_areCoefficients.idxI p (l0.drop (k + 1)) (k + 1)) := ⟨by rw [HI.out, hd, impl_areCoefficients.idxI, if_neg (by rw [hp]; simp)]⟩
        have HC : Aside0 (∀ W : World, Calls Try.prog 58 #[.int .i64 l0[k]] W fun e w' => e = .returned (.bool false) ∧ Drawn0 W w') := ⟨fun W => by have := HF.out l0[k] W; rwa [hp] at this⟩
        clear hd hp HI
        go_wp2_with (first | (go_at_call 58; refine (HC.out _).mono ?_; rintro e w' ⟨rfl, ⟨nd, rfl⟩⟩))
        go_roundg k1
        case measure => have := HK.out; omega
        case rel => exact ⟨k + 1, by omega, by go_num, HV, ⟨by have := HK.out; omega⟩, by repeat (first | exact Drawn0.refl _ | apply Drawn0.step)⟩
    · obtain rfl : k = l0.length := by omega
      have HV : Aside0 (impl_areCoefficients.idxI p l0 0 = -1) := ⟨by rw [HI.out, List.drop_length]; rfl⟩
      clear HI
      go_wp2
      go_ret
      exact ⟨by rw [HV.out]; rfl, by repeat (first | exact Drawn0.refl _ | apply Drawn0.step)⟩
set_option maxHeartbeats 1000000 in
theorem impl_areCoefficients.cont (p : Int → Bool) (hf : ∀ (x : Int) (W : World), Calls Try.prog 58 #[.int .i64 x] W fun e w' => e = .returned (.bool (p x)) ∧ Drawn0 W w')
    (A0 : Option Addr) (c0 : Nat) (l0 : List Int) (w : World) (hr0 : Kd.C (Kd.int .i64) w A0 l0.length l0) :
    Calls Try.prog 57 #[.slice A0 l0.length c0, .func (Fn.func 58) #[] #[]] w fun e w' => e = .returned (.bool (l0.any p)) ∧ Drawn0 w w' := by
  have HI := Aside0.mk (impl_areCoefficients.idxI_any p l0 0)
  have HX := Aside0.mk (impl_areCoefficients.idx p hf A0 c0 l0 w hr0)
  clear hr0 hf
  obtain ⟨v, hv⟩ : ∃ v, v = impl_areCoefficients.idxI p l0 0 := ⟨_, rfl⟩
  rw [← hv] at HX HI
  clear hv
  rw [← HI.out]
  go_enter Try.func57, Try.ntmps57
  go_wp2_with (first | (go_at_call 72; refine HX.out.mono ?_; rintro e w' ⟨rfl, ⟨nd, rfl⟩⟩))
  go_ret
  exact ⟨by first | rfl | simp, by repeat (first | exact Drawn0.refl _ | apply Drawn0.step)⟩
def impl_areCoefficients.f (l0 : List Int) : Option Bool := some (decide (1 ≤ l0.length ∧ l0.length ≤ 5) && !l0.any (fun x => !decide ((-1000000000000000) ≤ x ∧ x ≤ 1000000000000000)))
set_option maxHeartbeats 1000000 in
theorem impl_areCoefficients.calls (A0 : Option Addr) (c0 : Nat) (l0 : List Int) (r : Bool) (w : World) (hr0 : Kd.C (Kd.int .i64) w A0 l0.length l0) (hc0 : l0.length ≤ c0) (h : impl_areCoefficients.f l0 = some r) :
    Calls Try.prog 40 #[.slice A0 l0.length c0] w fun e w' => e = .returned (.bool r) ∧ Drawn0 w w' := by
  obtain rfl := Option.some.inj h
  have HX := Aside0.mk (fun W (hW : Kd.C (Kd.int .i64) W A0 l0.length l0) => impl_areCoefficients.cont _ impl_areCoefficients.clos A0 c0 l0 W hW)
  have HR := Aside0.mk hr0
  have hn : l0.length ≤ 9223372036854775807 := hr0.2.1
  have HB := Aside0.mk (impl_areCoefficients.ins (l0.length : Int) 1 5)
  have hb : decide (1 ≤ l0.length ∧ l0.length ≤ 5) = decide (1 ≤ (l0.length : Int) ∧ (l0.length : Int) ≤ 5) := by
    by_cases h1 : 1 ≤ l0.length ∧ l0.length ≤ 5
    · rw [decide_eq_true h1, decide_eq_true (by omega)]
    · rw [decide_eq_false h1, decide_eq_false (by omega)]
  rw [hb]
  clear hr0 h hb
  generalize decide (1 ≤ (l0.length : Int) ∧ (l0.length : Int) ≤ 5) = d at HB ⊢
  generalize l0.any (fun x => !decide ((-1000000000000000) ≤ x ∧ x ≤ 1000000000000000)) = b at HX ⊢
  cases d
  · go_enter Try.func40, Try.ntmps40
    go_wp2_with (first | (go_at_call 52; (with_reducible refine (impl_inside.calls _ _ _ _ _ HB.out).mono ?_); rintro e w' ⟨rfl, ⟨nd, rfl⟩⟩))
    go_ret
    exact ⟨by first | rfl | simp, by repeat (first | exact Drawn0.refl _ | apply Drawn0.step)⟩
  · cases b <;>
    · go_enter Try.func40, Try.ntmps40
      go_wp2_with (first | (go_at_call 52; (with_reducible refine (impl_inside.calls _ _ _ _ _ HB.out).mono ?_); rintro e w' ⟨rfl, ⟨nd, rfl⟩⟩) | (go_at_call 57; refine (HX.out _ (by first | exact HR.out | exact Kd.C_drewN HR.out _ | exact Kd.C_drewN (Kd.C_drewN HR.out _) _ | exact Kd.C_drewN (Kd.C_drew HR.out) _)).mono ?_; rintro e w' ⟨rfl, ⟨nd2, rfl⟩⟩))
      go_ret
      exact ⟨by first | rfl | simp, by repeat (first | exact Drawn0.refl _ | apply Drawn0.step)⟩
end Go.Proofs.Ytecohjcliahbnaa.X

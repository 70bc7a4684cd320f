import Derived.Test.YtoifmopgchigoaaXfA
namespace Go.Proofs.Ytoifmopgchigoaa.X
open Go.RowKit Go.Proofs.YtoifmopgchigoaaW.PrintWords Go.Proofs.YtoifmopgchigoaaW.PrintLast Go.Proofs.YtoifmopgchigoaaW.PrintMore
attribute [local go_sem] max2_int min2_int max_two min_two max_three min_three max_four min_four
set_option linter.unusedVariables false
set_option linter.unusedSimpArgs false
set_option maxHeartbeats 1000000 in
theorem reas.clos (x : Int) (w : World) : Calls Try.prog 91 #[.int .i64 x] w fun e w' => e = .returned (.bool (!decide (0 ≤ x ∧ x ≤ 3))) ∧ w' = w := by
  by_cases h1 : 0 ≤ x
  · by_cases h2 : x ≤ 3
    · have e1 : decide (0 ≤ x) = true := decide_eq_true h1
      have e2 : decide (x ≤ 3) = true := decide_eq_true h2
      have e3 : (!decide (0 ≤ x ∧ x ≤ 3)) = false := by simp [h1, h2]
      rw [e3]
      clear e3 h1 h2
      go_enter Try.func91, Try.ntmps91
      go_wp2
      go_ret
      exact ⟨rfl, rfl⟩
    · have e1 : decide (0 ≤ x) = true := decide_eq_true h1
      have e2 : decide (x ≤ 3) = false := decide_eq_false h2
      have e3 : (!decide (0 ≤ x ∧ x ≤ 3)) = true := by simp [h2]
      rw [e3]
      clear e3 h1 h2
      go_enter Try.func91, Try.ntmps91
      go_wp2
      go_ret
      exact ⟨rfl, rfl⟩
  · have e1 : decide (0 ≤ x) = false := decide_eq_false h1
    have e3 : (!decide (0 ≤ x ∧ x ≤ 3)) = true := by simp [h1]
    rw [e3]
    clear e3 h1
    go_enter Try.func91, Try.ntmps91
    go_wp2
    go_ret
    exact ⟨rfl, rfl⟩
/-- The cell of an element. -/
theorem int_at {w : World} {A0 : Option Addr} {l0 : List Int} (h : Kd.C (Kd.int .i64) w A0 l0.length l0) (k : Nat) (hk : k < l0.length) : ∃ ad, A0 = some ad ∧ w.cell? (ad.add k) = some (.int .i64 l0[k]) := by
  obtain ⟨ad, e, hc⟩ := h.2.2 (by omega)
  obtain ⟨cs, hl, rfl, h3⟩ := hc k _ (List.getElem?_eq_getElem hk)
  have := h3 0 _ rfl
  have hs : (Kd.int .i64).sz = 1 := rfl
  rw [hs, Nat.mul_one, Nat.add_zero] at this
  exact ⟨ad, e, this⟩
/-- The first place from k on, or -1. -/
def idxI (p : Int → Bool) : List Int → Nat → Int
  | [], _ => -1
  | x :: r, k => if p x = true then k else idxI p r (k + 1)
theorem idxI_any (p : Int → Bool) : ∀ (l : List Int) (k : Nat), decide (0 ≤ idxI p l k) = l.any p := by
  intro l
  induction l with
  | nil => intro k; rfl
  | cons x r ih =>
    intro k
    unfold idxI
    cases hp : p x with
    | true => rw [if_pos rfl]; simp [hp]
    | false => rw [if_neg (by simp), ih]; simp [hp]
set_option maxHeartbeats 1000000 in
theorem reas.idx (p : Int → Bool) (hf : ∀ (x : Int) (W : World), Calls Try.prog 91 #[.int .i64 x] W fun e w' => e = .returned (.bool (p x)) ∧ w' = W)
    (A0 : Option Addr) (c0 : Nat) (l0 : List Int) (w : World) (hr0 : Kd.C (Kd.int .i64) w A0 l0.length l0) :
    Calls Try.prog 104 #[.slice A0 l0.length c0, .func (Fn.func 91) #[] #[]] w fun e w' => e = .returned (.int .i64 (idxI p l0 0)) ∧ w' = w := by
  have HR := Aside0.mk hr0
  have HF := Aside0.mk hf
  have hn : l0.length ≤ 9223372036854775807 := hr0.2.1
  clear hr0 hf
  go_enter Try.func104, Try.ntmps104
  go_wp2_with fail
  go_loop [8] (fun v8 => ∃ k : Nat, k ≤ l0.length ∧ v8 = .int .i64 k ∧ Aside0 (idxI p l0 0 = idxI p (l0.drop k) k)) (fun i => l0.length - (intOf i).toNat)
  case atStart => exact ⟨0, Nat.zero_le _, rfl, ⟨by rw [List.drop_zero]⟩⟩
  case round =>
    obtain ⟨k, hk, rfl, HI⟩ := hrel
    by_cases hlt : k < l0.length
    · obtain ⟨ad, rfl, hcell⟩ := int_at HR.out k hlt
      have hd := List.drop_eq_getElem_cons hlt
      cases hp : p l0[k] with
      | true =>
        have HV : Aside0 (idxI p l0 0 = (k : Int)) := ⟨by rw [HI.out, hd, idxI, if_pos hp]⟩
        have HC : Aside0 (∀ W : World, Calls Try.prog 91 #[.int .i64 l0[k]] W fun e w' => e = .returned (.bool true) ∧ w' = W) := ⟨fun W => by have := HF.out l0[k] W; rwa [hp] at this⟩
        clear hd hp HI
        go_wp2_with (first | (go_at_call 91; refine (HC.out _).mono ?_; rintro e w' ⟨rfl, rfl⟩))
        go_ret
        exact ⟨by rw [HV.out]; rfl, rfl⟩
      | false =>
        have HV : Aside0 (idxI p l0 0 = idxI p (l0.drop (k + 1)) (k + 1)) := ⟨by rw [HI.out, hd, idxI, if_neg (by rw [hp]; simp)]⟩
        have HC : Aside0 (∀ W : World, Calls Try.prog 91 #[.int .i64 l0[k]] W fun e w' => e = .returned (.bool false) ∧ w' = W) := ⟨fun W => by have := HF.out l0[k] W; rwa [hp] at this⟩
        clear hd hp HI
        go_wp2_with (first | (go_at_call 91; refine (HC.out _).mono ?_; rintro e w' ⟨rfl, rfl⟩))
        go_round
        case rel => exact ⟨k + 1, by omega, by go_num, HV⟩
        case measure => simp [intOf]; omega
    · obtain rfl : k = l0.length := by omega
      have HV : Aside0 (idxI p l0 0 = -1) := ⟨by rw [HI.out, List.drop_length]; rfl⟩
      clear HI
      go_wp2
      go_ret
      exact ⟨by rw [HV.out]; rfl, rfl⟩
set_option maxHeartbeats 1000000 in
theorem reas.cont (p : Int → Bool) (hf : ∀ (x : Int) (W : World), Calls Try.prog 91 #[.int .i64 x] W fun e w' => e = .returned (.bool (p x)) ∧ w' = W)
    (A0 : Option Addr) (c0 : Nat) (l0 : List Int) (w : World) (hr0 : Kd.C (Kd.int .i64) w A0 l0.length l0) :
    Calls Try.prog 90 #[.slice A0 l0.length c0, .func (Fn.func 91) #[] #[]] w fun e w' => e = .returned (.bool (l0.any p)) ∧ w' = w := by
  have HI := Aside0.mk (idxI_any p l0 0)
  have HX := Aside0.mk (reas.idx p hf A0 c0 l0 w hr0)
  clear hr0 hf
  obtain ⟨v, hv⟩ : ∃ v, v = idxI p l0 0 := ⟨_, rfl⟩
  rw [← hv] at HX HI
  clear hv
  rw [← HI.out]
  go_enter Try.func90, Try.ntmps90
  go_wp2_with (first | (go_at_call 104; refine HX.out.mono ?_; rintro e w' ⟨rfl, rfl⟩))
  go_ret
  exact ⟨by first | rfl | simp, rfl⟩
def impl_areReasons.f (l0 : List Int) : Option Bool := some (decide (l0.length ≤ 128) && !l0.any (fun x => !decide (0 ≤ x ∧ x ≤ 3)))
set_option maxHeartbeats 1000000 in
theorem impl_areReasons.calls (A0 : Option Addr) (c0 : Nat) (l0 : List Int) (r : Bool) (w : World) (hr0 : Kd.C (Kd.int .i64) w A0 l0.length l0) (hc0 : l0.length ≤ c0) (h : impl_areReasons.f l0 = some r) :
    Calls Try.prog 60 #[.slice A0 l0.length c0] w fun e w' => e = .returned (.bool r) ∧ Below w.heap.size w w' := by
  obtain rfl := Option.some.inj h
  have HX := Aside0.mk (fun W (hW : Kd.C (Kd.int .i64) W A0 l0.length l0) => reas.cont _ reas.clos A0 c0 l0 W hW)
  have HR := Aside0.mk hr0
  have hn : l0.length ≤ 9223372036854775807 := hr0.2.1
  clear hr0 h
  by_cases h1 : l0.length ≤ 128
  · have h3 : decide ((l0.length : Int) ≤ 128) = true := decide_eq_true (by omega)
    rw [decide_eq_true h1, Bool.true_and]
    generalize l0.any (fun x => !decide (0 ≤ x ∧ x ≤ 3)) = b at HX ⊢
    cases b with
    | true =>
      clear h1
      go_enter Try.func60, Try.ntmps60
      go_wp2_with (first | (go_at_call 90; refine (HX.out _ HR.out).mono ?_; rintro e w' ⟨rfl, rfl⟩))
      go_ret
      exact ⟨rfl, Below.refl _ _⟩
    | false =>
      clear h1
      go_enter Try.func60, Try.ntmps60
      go_wp2_with (first | (go_at_call 90; refine (HX.out _ HR.out).mono ?_; rintro e w' ⟨rfl, rfl⟩))
      go_ret
      exact ⟨rfl, Below.refl _ _⟩
  · have h3 : decide ((l0.length : Int) ≤ 128) = false := decide_eq_false (by omega)
    rw [decide_eq_false h1, Bool.false_and]
    clear h1
    go_enter Try.func60, Try.ntmps60
    go_wp2_with fail
    go_ret
    exact ⟨rfl, Below.refl _ _⟩
end Go.Proofs.Ytoifmopgchigoaa.X

import Derived.Test.YtoifmopgchigoaaXB
/-! Rows with spare cells: what stands behind a slice's length, up to 'sp xs'. -/
namespace Go.Proofs.Ytoifmopgchigoaa.X
open Go.RowKit Go.Proofs.YtoifmopgchigoaaW.PrintWords Go.Proofs.YtoifmopgchigoaaW.PrintLast Go.Proofs.YtoifmopgchigoaaW.PrintMore
set_option linter.unusedVariables false
theorem own_len (A : Option Addr) (x y c : Nat) : (Value.slice A x c).ownBlock = (Value.slice A y c).ownBlock := by cases A <;> rfl
namespace Kx
/-- A row xs of the call's own; behind it, in the spare capacity, stands sp xs. -/
def R {α : Type} (sp : List α → List α) (d : Kd α) (e : Nat) (w : World) (base : Nat) (ok : Nat → Prop) (v : Value) (xs : List α) : Prop :=
  ∃ A c, v = .slice A xs.length c ∧ d.R e w base ok (.slice A (xs ++ sp xs).length c) (xs ++ sp xs)
section
variable {α : Type} {sp : List α → List α} {d : Kd α} {e : Nat} {w w1 W : World} {base base' : Nat} {ok ok' : Nat → Prop} {v u : Value} {xs : List α}
theorem of (h : d.R e w base ok v xs) : R (fun _ => []) d e w base ok v xs := by
  obtain ⟨A, c, rfl⟩ := Kd.R_slice h
  exact ⟨A, c, rfl, by simpa using h⟩
theorem toR (h : R sp d e w base ok v xs) : d.R e w base ok v xs := by
  obtain ⟨A, c, rfl, h⟩ := h
  have := Kd.R_take (m := xs.length) h (by simp)
  rwa [List.take_left] at this
theorem R_below (h : R sp d e w base ok v xs) (hb : Below w.heap.size w w1) : R sp d e w1 base ok v xs := by
  obtain ⟨A, c, rfl, h⟩ := h
  exact ⟨A, c, rfl, Kd.R_below h hb⟩
theorem R_alloc (h : R sp d e w base ok v xs) (o : Obj) : R sp d e (w.alloc o) base ok v xs := by
  obtain ⟨A, c, rfl, h⟩ := h
  exact ⟨A, c, rfl, Kd.R_alloc h o⟩
theorem R_drew (h : R sp d e w base ok v xs) : R sp d e w.drew base ok v xs := by
  obtain ⟨A, c, rfl, h⟩ := h
  exact ⟨A, c, rfl, Kd.R_drew h⟩
theorem R_drewN (h : R sp d e w base ok v xs) (m : Nat) : R sp d e (w.drewN m) base ok v xs := by
  obtain ⟨A, c, rfl, h⟩ := h
  exact ⟨A, c, rfl, Kd.R_drewN h m⟩
theorem R_mono (h : R sp d e w base ok v xs) (hok : ∀ k, ok k → ok' k) : R sp d e w base ok' v xs := by
  obtain ⟨A, c, rfl, h⟩ := h
  exact ⟨A, c, rfl, Kd.R_mono h hok⟩
theorem R_lower (h : R sp d e w base ok v xs) (hb : base' ≤ base) : R sp d e w base' ok v xs := by
  obtain ⟨A, c, rfl, h⟩ := h
  exact ⟨A, c, rfl, Kd.R_lower h hb⟩
theorem R_lt (h : R sp d e w base ok v xs) : ∀ k, v.ownBlock = some k → k < w.heap.size := Kd.R_lt (toR h)
theorem R_base (h : R sp d e w base ok v xs) : ∀ k, v.ownBlock = some k → base ≤ k := Kd.R_base (toR h)
theorem R_slice (h : R sp d e w base ok v xs) : ∃ A c, v = .slice A xs.length c := by
  obtain ⟨A, c, rfl, h⟩ := h
  exact ⟨A, c, rfl⟩
theorem R_reads' {A : Option Addr} {n c : Nat} (h : R sp d e w base ok (.slice A n c) xs) : n = xs.length ∧ n ≤ c ∧ d.C w A xs.length xs := Kd.R_reads' (toR h)
theorem R_elder' (hu : R sp d e W base ok u xs) (hbase : ∀ k, v.ownBlock = some k → W.heap.size ≤ k) (hb : Below W.heap.size W w1) : R sp d e w1 base (fun k => ok k ∧ some k ≠ v.ownBlock) u xs := by
  obtain ⟨A, c, rfl, h⟩ := hu
  exact ⟨A, c, rfl, Kd.R_elder' h hbase hb⟩
theorem R_new' (h : R sp d e w1 W.heap.size ok v xs) (hlt : ∀ k, u.ownBlock = some k → k < W.heap.size) : R sp d e w1 W.heap.size (fun k => ok k ∧ some k ≠ u.ownBlock) v xs := by
  obtain ⟨A, c, rfl, h⟩ := h
  exact ⟨A, c, rfl, Kd.R_new' h hlt⟩
end
end Kx
end Go.Proofs.Ytoifmopgchigoaa.X

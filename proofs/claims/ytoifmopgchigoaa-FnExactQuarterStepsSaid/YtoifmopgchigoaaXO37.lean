import Derived.Test.YtoifmopgchigoaaXB
namespace Go.Proofs.Ytoifmopgchigoaa.X
open Go.RowKit Go.ChangeShapes Go.WideShapes Go.Deep Go.Proofs.YtoifmopgchigoaaW.PrintWords
set_option linter.unusedVariables false
instance : Inhabited S37 := ⟨z37⟩
theorem opn37 {H : Type} {enc : TypeId × Value → H} {w : World} : Opn enc Try.prog w 37 k37 (fun s => (Lit.int .i64 s.f0).wf = true ∧ (Lit.int .i64 s.f1).wf = true) := by
  intro n cs y h
  obtain ⟨xs, m, _, _, hl, hx, hf⟩ := DataW.trod_struct Try.underlying37 h
  have hC : Try.prog.cellsOf 37 = 2 := by kernel_rfl
  have hc : Try.prog.cellsOf 3 = 1 := by kernel_rfl
  rw [hC] at hl
  have hx2 : xs.length = 2 := hx
  match cs, hl with
  | [v0, v1], _ =>
    have f0 := hf 0 _ rfl
    have f1 := hf 1 _ rfl
    rw [List.getElem?_eq_getElem (by omega)] at f0 f1
    change DataW.trod enc Try.prog w 0 (fun _ => true) true m 3 (([v0, v1].drop 0).take (Try.prog.cellsOf 3)) = _ at f0
    change DataW.trod enc Try.prog w 0 (fun _ => true) true m 3 (([v0, v1].drop 1).take (Try.prog.cellsOf 3)) = _ at f1
    rw [hc] at f0 f1
    obtain ⟨a, e0, _, w0⟩ := DataW.trod_int Try.underlying3 f0
    obtain ⟨b, e1, _, w1⟩ := DataW.trod_int Try.underlying3 f1
    simp at e0 e1
    subst e0 e1
    exact ⟨⟨a, b⟩, k37_mk w ⟨a, b⟩, w0, w1⟩
end Go.Proofs.Ytoifmopgchigoaa.X

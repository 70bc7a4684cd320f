import Derived.Test.YtoifmopgchigoaaXi19
import Derived.Test.YtoifmopgchigoaaXfA
namespace Go.Proofs.Ytoifmopgchigoaa.X
open Go.RowKit Go.Proofs.YtoifmopgchigoaaW.PrintWords Go.Proofs.YtoifmopgchigoaaW.PrintLast Go.Proofs.YtoifmopgchigoaaW.PrintMore
set_option linter.unusedVariables false
theorem eqSpotS_refl (l : List S40) (hb : l.length ≤ 4611686018427387904) : ∀ (d k i : Nat), l.length - i = d → i ≤ l.length → d < k → laws_eqSpotS.l0 k l l i = some true := by
  intro d
  induction d with
  | zero =>
    intro k i hd hi hk
    obtain ⟨k, rfl⟩ : ∃ m, k = m + 1 := ⟨k - 1, by omega⟩
    simp only [laws_eqSpotS.l0]
    rw [if_neg (by omega)]
  | succ d ih =>
    intro k i hd hi hk
    obtain ⟨k, rfl⟩ : ∃ m, k = m + 1 := ⟨k - 1, by omega⟩
    simp only [laws_eqSpotS.l0, laws_eqSpot.f]
    rw [if_pos (by omega), if_pos (by omega), if_pos (by omega), if_pos trivial, if_pos trivial, Option.bind_some, if_pos rfl, wrap_succ (n := l.length) (by omega) (by omega) (by omega), show ((i : Int) + 1) = ((i + 1 : Nat) : Int) from by omega]
    exact ih k (i + 1) (by omega) (by omega) (by omega)
theorem eqSpotS_self (l : List S40) (k : Nat) (hb : l.length ≤ 4611686018427387904) (hk : l.length < k) : laws_eqSpotS.f k l l = some true := by
  unfold laws_eqSpotS.f
  rw [if_pos rfl]
  exact eqSpotS_refl l hb l.length k 0 (by omega) (by omega) hk
theorem intactSpotS_self (l : List S40) (k : Nat) (h : l.length ≤ 1000000) (hk : 2 * l.length + 2 ≤ k) : laws_intactSpotS.f k l l = some true := by
  have hr := room_le l.length
  have hlen : (l ++ laws_toSpotS.sp false l).length = l.length + room l.length := by simp [laws_toSpotS.sp, spare]
  unfold laws_intactSpotS.f
  rw [if_pos ⟨rfl, h⟩, eqSpotS_self _ k (by rw [hlen]; omega) (by rw [hlen]; omega), Option.bind_some, if_pos rfl]
theorem szSpotS_big (l : List S37) (hb : l.length ≤ 9223372036854775807) (h : 1000000 < l.length) : laws_szSpotS.f l 1000000 = some (-1) := by
  unfold laws_szSpotS.f
  rw [if_pos (by unfold wrap64; omega)]
theorem szSpotS_small (l : List S37) (h : l.length ≤ 1000000) : laws_szSpotS.f l 1000000 = some (1000000 - (l.length : Int)) := by
  have e : wrap64 (1000000 - (l.length : Int)) = 1000000 - (l.length : Int) := by unfold wrap64; omega
  unfold laws_szSpotS.f
  rw [e, if_neg (by omega)]
theorem toSpotS_f (l : List S37) (k : Nat) (b : Bool) (h : l.length ≤ 1000000) : laws_toSpotS.f k l b = some (l.map laws_toSpotS.cv) := by
  unfold laws_toSpotS.f
  rw [if_pos h]
end Go.Proofs.Ytoifmopgchigoaa.X

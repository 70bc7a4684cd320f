/- The functions of the program that are reached, told over data: the shallow functions (.f), and that the program's functions bear them (.sound). -/
import Derived.Test.YtecohjcliahbnaaDoorProg
import Derived.Test.YtecohjcliahbnaaDoorEvB
import Derived.KernelRfl
set_option linter.unusedVariables false
set_option maxRecDepth 100000
namespace Go.Proofs.YtecohjcliahbnaaDoor.Z
open Go.Proofs.YtecohjcliahbnaaDoor.Ev
noncomputable section
def T : Tab := [(4, ⟨.bool, false, []⟩), (3, ⟨(.int .i64), false, []⟩), (9, ⟨.str, false, []⟩), (28, ⟨(.slice 3 (.int .i64)), false, []⟩), (33, ⟨(.slice 51 (.pair (.int .i64) (.int .i64))), false, []⟩), (36, ⟨(.slice 49 (.pair (.int .i64) (.int .i64))), false, []⟩), (51, ⟨(.pair (.int .i64) (.int .i64)), true, [(0, 3), (1, 3)]⟩), (49, ⟨(.pair (.int .i64) (.int .i64)), true, [(0, 3), (1, 3)]⟩), (53, ⟨(.slice 9 .str), false, []⟩), (5, ⟨(.int .u8), false, []⟩), (67, ⟨(.slice 5 (.int .u8)), false, []⟩), (2, ⟨(.int .i64), false, []⟩), (21, ⟨(.int .i32), false, []⟩), (88, ⟨(.int .u64), false, []⟩), (87, ⟨(.int .u64), false, []⟩), (100, ⟨(.int .u32), false, []⟩), (107, ⟨.str, true, [(0, 9)]⟩), (114, ⟨(.pair (.int .u8) (.int .u8)), true, [(0, 5), (1, 5)]⟩)]
def B : List (Nat × Nat) := [(3, 8), (51, 16), (49, 16), (9, 16), (5, 1)]
theorem tabs : tabOk Tryd.prog T = true := by kernel_rfl
theorem byts : bOk Tryd.prog B = true := by kernel_rfl
theorem mixed : Tryd.prog.follows .mixedOrders = true := by kernel_rfl
-- loop.example/g01009/spec.l1In
def fn_spec_l1In.F (n : Nat) : List (Nat × List Con) := []
def fn_spec_l1In.E (n : Nat) : Env := ⟨T, B, conOf (fn_spec_l1In.F n)⟩
def fn_spec_l1In.f (n : Nat) (a0 : Int) (a1 : Int) (a2 : Int) : Option Bool := br ((leI a1 a0)) (some ((leI a0 a2))) (some false)
def fn_spec_l1In.con (n : Nat) : Con := ⟨[.rd (.int .i64), .rd (.int .i64), .rd (.int .i64)], [.rd .bool true], false, fun x => fn_spec_l1In.f n x.1 x.2.1 x.2.2⟩
def fn_spec_l1In.A (n : Nat) : Ann := ⟨[], [], [], some [⟨6, false⟩]⟩
theorem fn_spec_l1In.run (n : Nat) (x : (Int × (Int × Int))) : runE (fn_spec_l1In.E n) (fn_spec_l1In.A n) n Tryd.f50 [.rd (.int .i64), .rd (.int .i64), .rd (.int .i64)] [.rd .bool true] x = fn_spec_l1In.f n x.1 x.2.1 x.2.2 := by kernel_rfl
theorem fn_spec_l1In.sound (n : Nat) : Sound Tryd.prog 50 (fn_spec_l1In.con n) := fn_sound tabs byts mixed (l := fn_spec_l1In.F n) trivial (A := fn_spec_l1In.A n) (c := fn_spec_l1In.con n) Tryd.func50 (by kernel_rfl) (by kernel_rfl) (by kernel_rfl) (ok_end (by kernel_rfl)) (fn_spec_l1In.run n)
-- loop.example/g01009/spec.exReason
def fn_spec_exReason.F (n : Nat) : List (Nat × List Con) := [(50, [fn_spec_l1In.con n])]
def fn_spec_exReason.E (n : Nat) : Env := ⟨T, B, conOf (fn_spec_exReason.F n)⟩
def fn_spec_exReason.f (n : Nat) (a0 : Int) : Option Bool := ((fn_spec_l1In.f n a0 ((0 : Int)) ((8 : Int)))).bind fun (y0 : Bool) => some y0
def fn_spec_exReason.con (n : Nat) : Con := ⟨[.rd (.int .i64)], [.rd .bool true], false, fun x => fn_spec_exReason.f n x⟩
def fn_spec_exReason.A (n : Nat) : Ann := ⟨[], [], [], some [⟨2, false⟩]⟩
theorem fn_spec_exReason.run (n : Nat) (x : Int) : runE (fn_spec_exReason.E n) (fn_spec_exReason.A n) n Tryd.f26 [.rd (.int .i64)] [.rd .bool true] x = fn_spec_exReason.f n x := by kernel_rfl
theorem fn_spec_exReason.sound (n : Nat) : Sound Tryd.prog 26 (fn_spec_exReason.con n) := fn_sound tabs byts mixed (l := fn_spec_exReason.F n) ⟨(consS (fn_spec_l1In.sound n) nilS), trivial⟩ (A := fn_spec_exReason.A n) (c := fn_spec_exReason.con n) Tryd.func26 (by kernel_rfl) (by kernel_rfl) (by kernel_rfl) (ok_end (by kernel_rfl)) (fn_spec_exReason.run n)
-- loop.example/g01009/spec.l1Num
def fn_spec_l1Num.F (n : Nat) : List (Nat × List Con) := []
def fn_spec_l1Num.E (n : Nat) : Env := ⟨T, B, conOf (fn_spec_l1Num.F n)⟩
def fn_spec_l1Num.f (n : Nat) (a0 : Int) : Option ByteArray := br ((ltI a0 ((10 : Int)))) (some ((bytesStr (((IntKind.wrap .u8 (add .i64 ((48 : Int)) a0)) :: ([] : List Int)))))) ((none /- order of region 3 -/))
def fn_spec_l1Num.con (n : Nat) : Con := ⟨[.rd (.int .i64)], [.rd .str true], false, fun x => fn_spec_l1Num.f n x⟩
def fn_spec_l1Num.A (n : Nat) : Ann := ⟨[], [], [(3, [0, 1, 3, 4, 5, 6, 2, 7, 8, 9, 10])], some [⟨2, false⟩]⟩
theorem fn_spec_l1Num.run (n : Nat) (x : Int) : runE (fn_spec_l1Num.E n) (fn_spec_l1Num.A n) n Tryd.f32 [.rd (.int .i64)] [.rd .str true] x = fn_spec_l1Num.f n x := by kernel_rfl
theorem fn_spec_l1Num.sound (n : Nat) : Sound Tryd.prog 32 (fn_spec_l1Num.con n) := fn_sound tabs byts mixed (l := fn_spec_l1Num.F n) trivial (A := fn_spec_l1Num.A n) (c := fn_spec_l1Num.con n) Tryd.func32 (by kernel_rfl) (by kernel_rfl) (by kernel_rfl) (ok_end (by kernel_rfl)) (fn_spec_l1Num.run n)
-- loop.example/g01009/spec.exName
def fn_spec_exName.F (n : Nat) : List (Nat × List Con) := [(32, [fn_spec_l1Num.con n])]
def fn_spec_exName.E (n : Nat) : Env := ⟨T, B, conOf (fn_spec_exName.F n)⟩
def fn_spec_exName.f (n : Nat) (a0 : Int) : Option ByteArray := br ((eqI ((3 : Int)) ((0 : Int)))) (none) (br ((eqI ((3 : Int)) ((0 : Int)))) (none) (br ((okLHM ((quo .i64 a0 ((3 : Int)))) ((add .i64 ((quo .i64 a0 ((3 : Int)))) ((1 : Int)))) ((inat ((ByteArray.size ((ByteArray.mk #[98, 118, 109])))))))) (br ((eqI ((3 : Int)) ((0 : Int)))) (none) (((fn_spec_l1Num.f n ((rem a0 ((3 : Int)))))).bind fun (y0 : ByteArray) => br ((okCat ((strSub ((ByteArray.mk #[98, 118, 109])) ((nat ((quo .i64 a0 ((3 : Int)))))) ((nat ((add .i64 ((quo .i64 a0 ((3 : Int)))) ((1 : Int)))))))) y0)) (some ((strApp ((strSub ((ByteArray.mk #[98, 118, 109])) ((nat ((quo .i64 a0 ((3 : Int)))))) ((nat ((add .i64 ((quo .i64 a0 ((3 : Int)))) ((1 : Int)))))))) y0))) (none))) (none)))
def fn_spec_exName.con (n : Nat) : Con := ⟨[.rd (.int .i64)], [.rd .str true], false, fun x => fn_spec_exName.f n x⟩
def fn_spec_exName.A (n : Nat) : Ann := ⟨[], [], [(1, [0, 1, 2, 3, 4, 5, 6, 7, 8, 9, 10])], some [⟨2, false⟩]⟩
theorem fn_spec_exName.run (n : Nat) (x : Int) : runE (fn_spec_exName.E n) (fn_spec_exName.A n) n Tryd.f27 [.rd (.int .i64)] [.rd .str true] x = fn_spec_exName.f n x := by kernel_rfl
theorem fn_spec_exName.sound (n : Nat) : Sound Tryd.prog 27 (fn_spec_exName.con n) := fn_sound tabs byts mixed (l := fn_spec_exName.F n) ⟨(consS (fn_spec_l1Num.sound n) nilS), trivial⟩ (A := fn_spec_exName.A n) (c := fn_spec_exName.con n) Tryd.func27 (by kernel_rfl) (by kernel_rfl) (by kernel_rfl) (ok_end (by kernel_rfl)) (fn_spec_exName.run n)
-- loop.example/g01009/spec.ReasonName
def fn_spec_ReasonName.F (n : Nat) : List (Nat × List Con) := [(26, [fn_spec_exReason.con n]), (27, [fn_spec_exName.con n])]
def fn_spec_ReasonName.E (n : Nat) : Env := ⟨T, B, conOf (fn_spec_ReasonName.F n)⟩
def fn_spec_ReasonName.f (n : Nat) (a0 : Int) : Option (ByteArray × Bool) := ((fn_spec_exReason.f n a0)).bind fun (y0 : Bool) => br ((bnot y0)) (some (((ByteArray.mk #[]), false))) (((fn_spec_exName.f n a0)).bind fun (y1 : ByteArray) => some ((y1, true)))
def fn_spec_ReasonName.con (n : Nat) : Con := ⟨[.rd (.int .i64)], [.rd .str true, .rd .bool true], false, fun x => fn_spec_ReasonName.f n x⟩
def fn_spec_ReasonName.A (n : Nat) : Ann := ⟨[], [], [], some [⟨2, false⟩, ⟨3, false⟩]⟩
theorem fn_spec_ReasonName.run (n : Nat) (x : Int) : runE (fn_spec_ReasonName.E n) (fn_spec_ReasonName.A n) n Tryd.f8 [.rd (.int .i64)] [.rd .str true, .rd .bool true] x = fn_spec_ReasonName.f n x := by kernel_rfl
theorem fn_spec_ReasonName.sound (n : Nat) : Sound Tryd.prog 8 (fn_spec_ReasonName.con n) := fn_sound tabs byts mixed (l := fn_spec_ReasonName.F n) ⟨(consS (fn_spec_exReason.sound n) nilS), ⟨(consS (fn_spec_exName.sound n) nilS), trivial⟩⟩ (A := fn_spec_ReasonName.A n) (c := fn_spec_ReasonName.con n) Tryd.func8 (by kernel_rfl) (by kernel_rfl) (by kernel_rfl) (ok_end (by kernel_rfl)) (fn_spec_ReasonName.run n)
-- loop.example/g01009/impl.inside
def fn_impl_inside.F (n : Nat) : List (Nat × List Con) := []
def fn_impl_inside.E (n : Nat) : Env := ⟨T, B, conOf (fn_impl_inside.F n)⟩
def fn_impl_inside.f (n : Nat) (a0 : Int) (a1 : Int) (a2 : Int) : Option Bool := br ((leI a1 a0)) (some ((leI a0 a2))) (some false)
def fn_impl_inside.con (n : Nat) : Con := ⟨[.rd (.int .i64), .rd (.int .i64), .rd (.int .i64)], [.rd .bool true], false, fun x => fn_impl_inside.f n x.1 x.2.1 x.2.2⟩
def fn_impl_inside.A (n : Nat) : Ann := ⟨[], [], [], some [⟨6, false⟩]⟩
theorem fn_impl_inside.run (n : Nat) (x : (Int × (Int × Int))) : runE (fn_impl_inside.E n) (fn_impl_inside.A n) n Tryd.f51 [.rd (.int .i64), .rd (.int .i64), .rd (.int .i64)] [.rd .bool true] x = fn_impl_inside.f n x.1 x.2.1 x.2.2 := by kernel_rfl
theorem fn_impl_inside.sound (n : Nat) : Sound Tryd.prog 51 (fn_impl_inside.con n) := fn_sound tabs byts mixed (l := fn_impl_inside.F n) trivial (A := fn_impl_inside.A n) (c := fn_impl_inside.con n) Tryd.func51 (by kernel_rfl) (by kernel_rfl) (by kernel_rfl) (ok_end (by kernel_rfl)) (fn_impl_inside.run n)
-- loop.example/g01009/impl.isReason
def fn_impl_isReason.F (n : Nat) : List (Nat × List Con) := [(51, [fn_impl_inside.con n])]
def fn_impl_isReason.E (n : Nat) : Env := ⟨T, B, conOf (fn_impl_isReason.F n)⟩
def fn_impl_isReason.f (n : Nat) (a0 : Int) : Option Bool := ((fn_impl_inside.f n a0 ((0 : Int)) ((8 : Int)))).bind fun (y0 : Bool) => some y0
def fn_impl_isReason.con (n : Nat) : Con := ⟨[.rd (.int .i64)], [.rd .bool true], false, fun x => fn_impl_isReason.f n x⟩
def fn_impl_isReason.A (n : Nat) : Ann := ⟨[], [], [], some [⟨2, false⟩]⟩
theorem fn_impl_isReason.run (n : Nat) (x : Int) : runE (fn_impl_isReason.E n) (fn_impl_isReason.A n) n Tryd.f28 [.rd (.int .i64)] [.rd .bool true] x = fn_impl_isReason.f n x := by kernel_rfl
theorem fn_impl_isReason.sound (n : Nat) : Sound Tryd.prog 28 (fn_impl_isReason.con n) := fn_sound tabs byts mixed (l := fn_impl_isReason.F n) ⟨(consS (fn_impl_inside.sound n) nilS), trivial⟩ (A := fn_impl_isReason.A n) (c := fn_impl_isReason.con n) Tryd.func28 (by kernel_rfl) (by kernel_rfl) (by kernel_rfl) (ok_end (by kernel_rfl)) (fn_impl_isReason.run n)
-- internal/strconv.small
def fn_strconv_small.F (n : Nat) : List (Nat × List Con) := []
def fn_strconv_small.E (n : Nat) : Env := ⟨T, B, conOf (fn_strconv_small.F n)⟩
def fn_strconv_small.f (n : Nat) (a0 : Int) : Option ByteArray := br ((ltI a0 ((10 : Int)))) (br ((okLHM a0 ((add .i64 a0 ((1 : Int)))) ((inat ((ByteArray.size ((ByteArray.mk #[48, 49, 50, 51, 52, 53, 54, 55, 56, 57, 97, 98, 99, 100, 101, 102, 103, 104, 105, 106, 107, 108, 109, 110, 111, 112, 113, 114, 115, 116, 117, 118, 119, 120, 121, 122])))))))) (some ((strSub ((ByteArray.mk #[48, 49, 50, 51, 52, 53, 54, 55, 56, 57, 97, 98, 99, 100, 101, 102, 103, 104, 105, 106, 107, 108, 109, 110, 111, 112, 113, 114, 115, 116, 117, 118, 119, 120, 121, 122])) ((nat a0)) ((nat ((add .i64 a0 ((1 : Int))))))))) (none)) (br ((okLHM ((mul .i64 a0 ((2 : Int)))) ((add .i64 ((mul .i64 a0 ((2 : Int)))) ((2 : Int)))) ((inat ((ByteArray.size ((ByteArray.mk #[48, 48, 48, 49, 48, 50, 48, 51, 48, 52, 48, 53, 48, 54, 48, 55, 48, 56, 48, 57, 49, 48, 49, 49, 49, 50, 49, 51, 49, 52, 49, 53, 49, 54, 49, 55, 49, 56, 49, 57, 50, 48, 50, 49, 50, 50, 50, 51, 50, 52, 50, 53, 50, 54, 50, 55, 50, 56, 50, 57, 51, 48, 51, 49, 51, 50, 51, 51, 51, 52, 51, 53, 51, 54, 51, 55, 51, 56, 51, 57, 52, 48, 52, 49, 52, 50, 52, 51, 52, 52, 52, 53, 52, 54, 52, 55, 52, 56, 52, 57, 53, 48, 53, 49, 53, 50, 53, 51, 53, 52, 53, 53, 53, 54, 53, 55, 53, 56, 53, 57, 54, 48, 54, 49, 54, 50, 54, 51, 54, 52, 54, 53, 54, 54, 54, 55, 54, 56, 54, 57, 55, 48, 55, 49, 55, 50, 55, 51, 55, 52, 55, 53, 55, 54, 55, 55, 55, 56, 55, 57, 56, 48, 56, 49, 56, 50, 56, 51, 56, 52, 56, 53, 56, 54, 56, 55, 56, 56, 56, 57, 57, 48, 57, 49, 57, 50, 57, 51, 57, 52, 57, 53, 57, 54, 57, 55, 57, 56, 57, 57])))))))) (some ((strSub ((ByteArray.mk #[48, 48, 48, 49, 48, 50, 48, 51, 48, 52, 48, 53, 48, 54, 48, 55, 48, 56, 48, 57, 49, 48, 49, 49, 49, 50, 49, 51, 49, 52, 49, 53, 49, 54, 49, 55, 49, 56, 49, 57, 50, 48, 50, 49, 50, 50, 50, 51, 50, 52, 50, 53, 50, 54, 50, 55, 50, 56, 50, 57, 51, 48, 51, 49, 51, 50, 51, 51, 51, 52, 51, 53, 51, 54, 51, 55, 51, 56, 51, 57, 52, 48, 52, 49, 52, 50, 52, 51, 52, 52, 52, 53, 52, 54, 52, 55, 52, 56, 52, 57, 53, 48, 53, 49, 53, 50, 53, 51, 53, 52, 53, 53, 53, 54, 53, 55, 53, 56, 53, 57, 54, 48, 54, 49, 54, 50, 54, 51, 54, 52, 54, 53, 54, 54, 54, 55, 54, 56, 54, 57, 55, 48, 55, 49, 55, 50, 55, 51, 55, 52, 55, 53, 55, 54, 55, 55, 55, 56, 55, 57, 56, 48, 56, 49, 56, 50, 56, 51, 56, 52, 56, 53, 56, 54, 56, 55, 56, 56, 56, 57, 57, 48, 57, 49, 57, 50, 57, 51, 57, 52, 57, 53, 57, 54, 57, 55, 57, 56, 57, 57])) ((nat ((mul .i64 a0 ((2 : Int)))))) ((nat ((add .i64 ((mul .i64 a0 ((2 : Int)))) ((2 : Int))))))))) (none))
def fn_strconv_small.con (n : Nat) : Con := ⟨[.rd (.int .i64)], [.rd .str true], false, fun x => fn_strconv_small.f n x⟩
def fn_strconv_small.A (n : Nat) : Ann := ⟨[], [], [], some [⟨2, false⟩]⟩
theorem fn_strconv_small.run (n : Nat) (x : Int) : runE (fn_strconv_small.E n) (fn_strconv_small.A n) n Tryd.f88 [.rd (.int .i64)] [.rd .str true] x = fn_strconv_small.f n x := by kernel_rfl
theorem fn_strconv_small.sound (n : Nat) : Sound Tryd.prog 88 (fn_strconv_small.con n) := fn_sound tabs byts mixed (l := fn_strconv_small.F n) trivial (A := fn_strconv_small.A n) (c := fn_strconv_small.con n) Tryd.func88 (by kernel_rfl) (by kernel_rfl) (by kernel_rfl) (ok_end (by kernel_rfl)) (fn_strconv_small.run n)
-- internal/strconv.FormatInt
def fn_strconv_FormatInt.F (n : Nat) : List (Nat × List Con) := [(88, [fn_strconv_small.con n])]
def fn_strconv_FormatInt.E (n : Nat) : Env := ⟨T, B, conOf (fn_strconv_FormatInt.F n)⟩
def fn_strconv_FormatInt.f (n : Nat) (a0 : Int) (a1 : Int) : Option ByteArray := br ((eqI a1 ((10 : Int)))) (br ((leI ((0 : Int)) a0)) (br ((ltI a0 ((100 : Int)))) (((fn_strconv_small.f n a0)).bind fun (y0 : ByteArray) => some y0) ((none /- not covered: Go.Op.alloc at itoa.go:34 -/))) ((none /- not covered: Go.Op.alloc at itoa.go:34 -/))) ((none /- not covered: Go.Op.call at itoa.go:47 -/))
def fn_strconv_FormatInt.con (n : Nat) : Con := ⟨[.rd (.int .i64), .rd (.int .i64)], [.rd .str true], false, fun x => fn_strconv_FormatInt.f n x.1 x.2⟩
def fn_strconv_FormatInt.A (n : Nat) : Ann := ⟨[], [], [], some [⟨4, false⟩]⟩
theorem fn_strconv_FormatInt.run (n : Nat) (x : (Int × Int)) : runE (fn_strconv_FormatInt.E n) (fn_strconv_FormatInt.A n) n Tryd.f77 [.rd (.int .i64), .rd (.int .i64)] [.rd .str true] x = fn_strconv_FormatInt.f n x.1 x.2 := by kernel_rfl
theorem fn_strconv_FormatInt.sound (n : Nat) : Sound Tryd.prog 77 (fn_strconv_FormatInt.con n) := fn_sound tabs byts mixed (l := fn_strconv_FormatInt.F n) ⟨(consS (fn_strconv_small.sound n) nilS), trivial⟩ (A := fn_strconv_FormatInt.A n) (c := fn_strconv_FormatInt.con n) Tryd.func77 (by kernel_rfl) (by kernel_rfl) (by kernel_rfl) (ok_end (by kernel_rfl)) (fn_strconv_FormatInt.run n)
-- internal/strconv.Itoa
def fn_strconv_Itoa_65.F (n : Nat) : List (Nat × List Con) := [(77, [fn_strconv_FormatInt.con n])]
def fn_strconv_Itoa_65.E (n : Nat) : Env := ⟨T, B, conOf (fn_strconv_Itoa_65.F n)⟩
def fn_strconv_Itoa_65.f (n : Nat) (a0 : Int) : Option ByteArray := ((fn_strconv_FormatInt.f n a0 ((10 : Int)))).bind fun (y0 : ByteArray) => some y0
def fn_strconv_Itoa_65.con (n : Nat) : Con := ⟨[.rd (.int .i64)], [.rd .str true], false, fun x => fn_strconv_Itoa_65.f n x⟩
def fn_strconv_Itoa_65.A (n : Nat) : Ann := ⟨[], [], [], some [⟨2, false⟩]⟩
theorem fn_strconv_Itoa_65.run (n : Nat) (x : Int) : runE (fn_strconv_Itoa_65.E n) (fn_strconv_Itoa_65.A n) n Tryd.f65 [.rd (.int .i64)] [.rd .str true] x = fn_strconv_Itoa_65.f n x := by kernel_rfl
theorem fn_strconv_Itoa_65.sound (n : Nat) : Sound Tryd.prog 65 (fn_strconv_Itoa_65.con n) := fn_sound tabs byts mixed (l := fn_strconv_Itoa_65.F n) ⟨(consS (fn_strconv_FormatInt.sound n) nilS), trivial⟩ (A := fn_strconv_Itoa_65.A n) (c := fn_strconv_Itoa_65.con n) Tryd.func65 (by kernel_rfl) (by kernel_rfl) (by kernel_rfl) (ok_end (by kernel_rfl)) (fn_strconv_Itoa_65.run n)
-- strconv.Itoa
def fn_strconv_Itoa.F (n : Nat) : List (Nat × List Con) := [(65, [fn_strconv_Itoa_65.con n])]
def fn_strconv_Itoa.E (n : Nat) : Env := ⟨T, B, conOf (fn_strconv_Itoa.F n)⟩
def fn_strconv_Itoa.f (n : Nat) (a0 : Int) : Option ByteArray := ((fn_strconv_Itoa_65.f n a0)).bind fun (y0 : ByteArray) => some y0
def fn_strconv_Itoa.con (n : Nat) : Con := ⟨[.rd (.int .i64)], [.rd .str true], false, fun x => fn_strconv_Itoa.f n x⟩
def fn_strconv_Itoa.A (n : Nat) : Ann := ⟨[], [], [], some [⟨2, false⟩]⟩
theorem fn_strconv_Itoa.run (n : Nat) (x : Int) : runE (fn_strconv_Itoa.E n) (fn_strconv_Itoa.A n) n Tryd.f52 [.rd (.int .i64)] [.rd .str true] x = fn_strconv_Itoa.f n x := by kernel_rfl
theorem fn_strconv_Itoa.sound (n : Nat) : Sound Tryd.prog 52 (fn_strconv_Itoa.con n) := fn_sound tabs byts mixed (l := fn_strconv_Itoa.F n) ⟨(consS (fn_strconv_Itoa_65.sound n) nilS), trivial⟩ (A := fn_strconv_Itoa.A n) (c := fn_strconv_Itoa.con n) Tryd.func52 (by kernel_rfl) (by kernel_rfl) (by kernel_rfl) (ok_end (by kernel_rfl)) (fn_strconv_Itoa.run n)
-- loop.example/g01009/impl.reasonName
def fn_impl_reasonName.F (n : Nat) : List (Nat × List Con) := [(52, [fn_strconv_Itoa.con n])]
def fn_impl_reasonName.E (n : Nat) : Env := ⟨T, B, conOf (fn_impl_reasonName.F n)⟩
def fn_impl_reasonName.f (n : Nat) (a0 : Int) : Option ByteArray := br ((eqI ((3 : Int)) ((0 : Int)))) (none) (br ((eqI ((3 : Int)) ((0 : Int)))) (none) (br ((okLHM ((quo .i64 a0 ((3 : Int)))) ((add .i64 ((quo .i64 a0 ((3 : Int)))) ((1 : Int)))) ((inat ((ByteArray.size ((ByteArray.mk #[98, 118, 109])))))))) (br ((eqI ((3 : Int)) ((0 : Int)))) (none) (((fn_strconv_Itoa.f n ((rem a0 ((3 : Int)))))).bind fun (y0 : ByteArray) => br ((okCat ((strSub ((ByteArray.mk #[98, 118, 109])) ((nat ((quo .i64 a0 ((3 : Int)))))) ((nat ((add .i64 ((quo .i64 a0 ((3 : Int)))) ((1 : Int)))))))) y0)) (some ((strApp ((strSub ((ByteArray.mk #[98, 118, 109])) ((nat ((quo .i64 a0 ((3 : Int)))))) ((nat ((add .i64 ((quo .i64 a0 ((3 : Int)))) ((1 : Int)))))))) y0))) (none))) (none)))
def fn_impl_reasonName.con (n : Nat) : Con := ⟨[.rd (.int .i64)], [.rd .str true], false, fun x => fn_impl_reasonName.f n x⟩
def fn_impl_reasonName.A (n : Nat) : Ann := ⟨[], [], [(1, [0, 1, 2, 3, 4, 5, 6, 7, 8, 9, 10])], some [⟨2, false⟩]⟩
theorem fn_impl_reasonName.run (n : Nat) (x : Int) : runE (fn_impl_reasonName.E n) (fn_impl_reasonName.A n) n Tryd.f29 [.rd (.int .i64)] [.rd .str true] x = fn_impl_reasonName.f n x := by kernel_rfl
theorem fn_impl_reasonName.sound (n : Nat) : Sound Tryd.prog 29 (fn_impl_reasonName.con n) := fn_sound tabs byts mixed (l := fn_impl_reasonName.F n) ⟨(consS (fn_strconv_Itoa.sound n) nilS), trivial⟩ (A := fn_impl_reasonName.A n) (c := fn_impl_reasonName.con n) Tryd.func29 (by kernel_rfl) (by kernel_rfl) (by kernel_rfl) (ok_end (by kernel_rfl)) (fn_impl_reasonName.run n)
-- loop.example/g01009/impl.ReasonName
def fn_impl_ReasonName.F (n : Nat) : List (Nat × List Con) := [(28, [fn_impl_isReason.con n]), (29, [fn_impl_reasonName.con n])]
def fn_impl_ReasonName.E (n : Nat) : Env := ⟨T, B, conOf (fn_impl_ReasonName.F n)⟩
def fn_impl_ReasonName.f (n : Nat) (a0 : Int) : Option (ByteArray × Bool) := ((fn_impl_isReason.f n a0)).bind fun (y0 : Bool) => br ((bnot y0)) (some (((ByteArray.mk #[]), false))) (((fn_impl_reasonName.f n a0)).bind fun (y1 : ByteArray) => some ((y1, true)))
def fn_impl_ReasonName.con (n : Nat) : Con := ⟨[.rd (.int .i64)], [.rd .str true, .rd .bool true], false, fun x => fn_impl_ReasonName.f n x⟩
def fn_impl_ReasonName.A (n : Nat) : Ann := ⟨[], [], [], some [⟨2, false⟩, ⟨3, false⟩]⟩
theorem fn_impl_ReasonName.run (n : Nat) (x : Int) : runE (fn_impl_ReasonName.E n) (fn_impl_ReasonName.A n) n Tryd.f9 [.rd (.int .i64)] [.rd .str true, .rd .bool true] x = fn_impl_ReasonName.f n x := by kernel_rfl
theorem fn_impl_ReasonName.sound (n : Nat) : Sound Tryd.prog 9 (fn_impl_ReasonName.con n) := fn_sound tabs byts mixed (l := fn_impl_ReasonName.F n) ⟨(consS (fn_impl_isReason.sound n) nilS), ⟨(consS (fn_impl_reasonName.sound n) nilS), trivial⟩⟩ (A := fn_impl_ReasonName.A n) (c := fn_impl_ReasonName.con n) Tryd.func9 (by kernel_rfl) (by kernel_rfl) (by kernel_rfl) (ok_end (by kernel_rfl)) (fn_impl_ReasonName.run n)
-- loop.example/g01009/laws.FnExactReasonName
def fn_laws_FnExactReasonName.F (n : Nat) : List (Nat × List Con) := [(8, [fn_spec_ReasonName.con n]), (9, [fn_impl_ReasonName.con n])]
def fn_laws_FnExactReasonName.E (n : Nat) : Env := ⟨T, B, conOf (fn_laws_FnExactReasonName.F n)⟩
def fn_laws_FnExactReasonName.f (n : Nat) (a0 : Int) : Option Bool := ((fn_spec_ReasonName.f n a0)).bind fun (y0 : (ByteArray × Bool)) => ((fn_impl_ReasonName.f n a0)).bind fun (y1 : (ByteArray × Bool)) => br ((bnot ((strEq y1.1 y0.1)))) (some false) (br ((bnot ((boolEq y1.2 y0.2)))) (some false) (some true))
def fn_laws_FnExactReasonName.con (n : Nat) : Con := ⟨[.rd (.int .i64)], [.rd .bool true], false, fun x => fn_laws_FnExactReasonName.f n x⟩
def fn_laws_FnExactReasonName.A (n : Nat) : Ann := ⟨[], [], [], some [⟨2, false⟩]⟩
theorem fn_laws_FnExactReasonName.run (n : Nat) (x : Int) : runE (fn_laws_FnExactReasonName.E n) (fn_laws_FnExactReasonName.A n) n Tryd.f3 [.rd (.int .i64)] [.rd .bool true] x = fn_laws_FnExactReasonName.f n x := by kernel_rfl
theorem fn_laws_FnExactReasonName.law (n : Nat) (x : Args (fn_laws_FnExactReasonName.con n).ps) (hx : (fn_laws_FnExactReasonName.con n).f x = some true) (w : World) (vs : List Value) (ha : ArgsR w (fun k => k < w.heap.size) (fn_laws_FnExactReasonName.con n).ps x vs []) : Calls Tryd.prog 3 vs.toArray w fun e w' => ∃ v, e = .returned v ∧ Post (fn_laws_FnExactReasonName.con n).ps (fn_laws_FnExactReasonName.con n).rs x true w (fun k => k < w.heap.size) [] v w' := fn_calls tabs byts mixed (l := fn_laws_FnExactReasonName.F n) ⟨(consS (fn_spec_ReasonName.sound n) nilS), ⟨(consS (fn_impl_ReasonName.sound n) nilS), trivial⟩⟩ (A := fn_laws_FnExactReasonName.A n) (c := fn_laws_FnExactReasonName.con n) Tryd.func3 (by kernel_rfl) (ok_end (by kernel_rfl)) (fn_laws_FnExactReasonName.run n) x true hx w vs ha
-- loop.example/g01009/spec.exParse
def fn_spec_exParse.F (n : Nat) : List (Nat × List Con) := [(27, [fn_spec_exName.con n])]
def fn_spec_exParse.E (n : Nat) : Env := ⟨T, B, conOf (fn_spec_exParse.F n)⟩
def fn_spec_exParse.l2 {R : Type} (n : Nat) : Nat → ByteArray → Int → (Int → Bool → Option R) → (Unit → Option R) → Option R
  | 0, _, _, _, _ => none
  | k + 1, x0, x1, K0, K1 => br ((leI x1 ((8 : Int)))) (((fn_spec_exName.f n x1)).bind fun (y2 : ByteArray) => br ((strEq y2 x0)) (K0 x1 true) (fn_spec_exParse.l2 n k x0 ((add .i64 x1 ((1 : Int)))) K0 K1)) (K1 ())
def fn_spec_exParse.f (n : Nat) (a0 : ByteArray) : Option (Int × Bool) := fn_spec_exParse.l2 n n a0 ((0 : Int)) (fun (z3 : Int) (z4 : Bool) => some ((z3, z4))) (fun _ => some (((0 : Int), false)))
def fn_spec_exParse.con (n : Nat) : Con := ⟨[.rd .str], [.rd (.int .i64) true, .rd .bool true], false, fun x => fn_spec_exParse.f n x⟩
def fn_spec_exParse.l2_sh : Shape := ⟨[.one (.str), .dead, .dead, .dead, .one (.int .i64), .dead, .dead, .dead, .dead, .dead, .dead, .dead, .dead, .dead], [], []⟩
def fn_spec_exParse.l2_y0 : Shape := ⟨[.dead, .dead, .one (.int .i64), .one (.bool), .dead, .dead, .dead, .dead, .dead, .dead, .dead, .dead, .dead, .dead], [], []⟩
def fn_spec_exParse.l2_y1 : Shape := ⟨[.dead, .dead, .dead, .dead, .dead, .dead, .dead, .dead, .dead, .dead, .dead, .dead, .dead, .dead], [], []⟩
def fn_spec_exParse.l2_ (n : Nat) : Sub := ⟨[⟨0, false⟩, ⟨4, false⟩], fn_spec_exParse.l2_sh, [⟨0, false⟩, ⟨4, false⟩], [(.ret, fn_spec_exParse.l2_y0), ((.exit 0), fn_spec_exParse.l2_y1)], fun R k (x : (ByteArray × Int)) (ks : (((Int × Bool) → Option R) × (Unit → Option R))) => fn_spec_exParse.l2 n k x.1 x.2 (fun b0 b1 => ks.1 (b0, b1)) ks.2⟩
def fn_spec_exParse.A (n : Nat) : Ann := ⟨[(5, fn_spec_exParse.l2_ n)], [(1, [⟨0, false⟩, ⟨4, false⟩]), (0, [])], [], some [⟨2, false⟩, ⟨3, false⟩]⟩
theorem fn_spec_exParse.l2_ok (n : Nat) : OkLoop (fn_spec_exParse.E n) (fn_spec_exParse.A n) n (getP (partsOf (fn_spec_exParse.A n) (bodyOf Tryd.f30)) 0).2.1 (getP (partsOf (fn_spec_exParse.A n) (bodyOf Tryd.f30)) 0).2.2 := ⟨fun R x ks => by kernel_rfl, fun R k x ks => by kernel_rfl⟩
theorem fn_spec_exParse.run (n : Nat) (x : ByteArray) : runE (fn_spec_exParse.E n) (fn_spec_exParse.A n) n Tryd.f30 [.rd .str] [.rd (.int .i64) true, .rd .bool true] x = fn_spec_exParse.f n x := by kernel_rfl
theorem fn_spec_exParse.sound (n : Nat) : Sound Tryd.prog 30 (fn_spec_exParse.con n) := fn_sound tabs byts mixed (l := fn_spec_exParse.F n) ⟨(consS (fn_spec_exName.sound n) nilS), trivial⟩ (A := fn_spec_exParse.A n) (c := fn_spec_exParse.con n) Tryd.func30 (by kernel_rfl) (by kernel_rfl) (by kernel_rfl) (ok_loop (by kernel_rfl) (fn_spec_exParse.l2_ok n) (ok_end (by kernel_rfl))) (fn_spec_exParse.run n)
-- loop.example/g01009/spec.ParseReasonName
def fn_spec_ParseReasonName.F (n : Nat) : List (Nat × List Con) := [(30, [fn_spec_exParse.con n])]
def fn_spec_ParseReasonName.E (n : Nat) : Env := ⟨T, B, conOf (fn_spec_ParseReasonName.F n)⟩
def fn_spec_ParseReasonName.f (n : Nat) (a0 : ByteArray) : Option (Int × Bool) := ((fn_spec_exParse.f n a0)).bind fun (y0 : (Int × Bool)) => some y0
def fn_spec_ParseReasonName.con (n : Nat) : Con := ⟨[.rd .str], [.rd (.int .i64) true, .rd .bool true], false, fun x => fn_spec_ParseReasonName.f n x⟩
def fn_spec_ParseReasonName.A (n : Nat) : Ann := ⟨[], [], [], some [⟨2, false⟩, ⟨3, false⟩]⟩
theorem fn_spec_ParseReasonName.run (n : Nat) (x : ByteArray) : runE (fn_spec_ParseReasonName.E n) (fn_spec_ParseReasonName.A n) n Tryd.f10 [.rd .str] [.rd (.int .i64) true, .rd .bool true] x = fn_spec_ParseReasonName.f n x := by kernel_rfl
theorem fn_spec_ParseReasonName.sound (n : Nat) : Sound Tryd.prog 10 (fn_spec_ParseReasonName.con n) := fn_sound tabs byts mixed (l := fn_spec_ParseReasonName.F n) ⟨(consS (fn_spec_exParse.sound n) nilS), trivial⟩ (A := fn_spec_ParseReasonName.A n) (c := fn_spec_ParseReasonName.con n) Tryd.func10 (by kernel_rfl) (by kernel_rfl) (by kernel_rfl) (ok_end (by kernel_rfl)) (fn_spec_ParseReasonName.run n)
-- loop.example/g01009/impl.ParseReasonName
def fn_impl_ParseReasonName.F (n : Nat) : List (Nat × List Con) := [(29, [fn_impl_reasonName.con n])]
def fn_impl_ParseReasonName.E (n : Nat) : Env := ⟨T, B, conOf (fn_impl_ParseReasonName.F n)⟩
def fn_impl_ParseReasonName.l2 {R : Type} (n : Nat) : Nat → ByteArray → Int → (Int → Bool → Option R) → (Unit → Option R) → Option R
  | 0, _, _, _, _ => none
  | k + 1, x0, x1, K0, K1 => br ((ltI x1 ((9 : Int)))) (((fn_impl_reasonName.f n x1)).bind fun (y2 : ByteArray) => br ((strEq y2 x0)) (K0 x1 true) (fn_impl_ParseReasonName.l2 n k x0 ((add .i64 x1 ((1 : Int)))) K0 K1)) (K1 ())
def fn_impl_ParseReasonName.f (n : Nat) (a0 : ByteArray) : Option (Int × Bool) := fn_impl_ParseReasonName.l2 n n a0 ((0 : Int)) (fun (z3 : Int) (z4 : Bool) => some ((z3, z4))) (fun _ => some (((0 : Int), false)))
def fn_impl_ParseReasonName.con (n : Nat) : Con := ⟨[.rd .str], [.rd (.int .i64) true, .rd .bool true], false, fun x => fn_impl_ParseReasonName.f n x⟩
def fn_impl_ParseReasonName.l2_sh : Shape := ⟨[.one (.str), .dead, .dead, .dead, .dead, .one (.int .i64), .dead, .dead, .dead, .dead, .dead, .dead, .dead, .dead], [], []⟩
def fn_impl_ParseReasonName.l2_y0 : Shape := ⟨[.dead, .dead, .one (.int .i64), .one (.bool), .dead, .dead, .dead, .dead, .dead, .dead, .dead, .dead, .dead, .dead], [], []⟩
def fn_impl_ParseReasonName.l2_y1 : Shape := ⟨[.dead, .dead, .dead, .dead, .dead, .dead, .dead, .dead, .dead, .dead, .dead, .dead, .dead, .dead], [], []⟩
def fn_impl_ParseReasonName.l2_ (n : Nat) : Sub := ⟨[⟨0, false⟩, ⟨5, false⟩], fn_impl_ParseReasonName.l2_sh, [⟨0, false⟩, ⟨5, false⟩], [(.ret, fn_impl_ParseReasonName.l2_y0), ((.exit 0), fn_impl_ParseReasonName.l2_y1)], fun R k (x : (ByteArray × Int)) (ks : (((Int × Bool) → Option R) × (Unit → Option R))) => fn_impl_ParseReasonName.l2 n k x.1 x.2 (fun b0 b1 => ks.1 (b0, b1)) ks.2⟩
def fn_impl_ParseReasonName.A (n : Nat) : Ann := ⟨[(5, fn_impl_ParseReasonName.l2_ n)], [(1, [⟨0, false⟩, ⟨5, false⟩]), (0, [])], [], some [⟨2, false⟩, ⟨3, false⟩]⟩
theorem fn_impl_ParseReasonName.l2_ok (n : Nat) : OkLoop (fn_impl_ParseReasonName.E n) (fn_impl_ParseReasonName.A n) n (getP (partsOf (fn_impl_ParseReasonName.A n) (bodyOf Tryd.f11)) 0).2.1 (getP (partsOf (fn_impl_ParseReasonName.A n) (bodyOf Tryd.f11)) 0).2.2 := ⟨fun R x ks => by kernel_rfl, fun R k x ks => by kernel_rfl⟩
theorem fn_impl_ParseReasonName.run (n : Nat) (x : ByteArray) : runE (fn_impl_ParseReasonName.E n) (fn_impl_ParseReasonName.A n) n Tryd.f11 [.rd .str] [.rd (.int .i64) true, .rd .bool true] x = fn_impl_ParseReasonName.f n x := by kernel_rfl
theorem fn_impl_ParseReasonName.sound (n : Nat) : Sound Tryd.prog 11 (fn_impl_ParseReasonName.con n) := fn_sound tabs byts mixed (l := fn_impl_ParseReasonName.F n) ⟨(consS (fn_impl_reasonName.sound n) nilS), trivial⟩ (A := fn_impl_ParseReasonName.A n) (c := fn_impl_ParseReasonName.con n) Tryd.func11 (by kernel_rfl) (by kernel_rfl) (by kernel_rfl) (ok_loop (by kernel_rfl) (fn_impl_ParseReasonName.l2_ok n) (ok_end (by kernel_rfl))) (fn_impl_ParseReasonName.run n)
-- loop.example/g01009/laws.FnExactParseReasonName
def fn_laws_FnExactParseReasonName.F (n : Nat) : List (Nat × List Con) := [(10, [fn_spec_ParseReasonName.con n]), (11, [fn_impl_ParseReasonName.con n])]
def fn_laws_FnExactParseReasonName.E (n : Nat) : Env := ⟨T, B, conOf (fn_laws_FnExactParseReasonName.F n)⟩
def fn_laws_FnExactParseReasonName.f (n : Nat) (a0 : ByteArray) : Option Bool := br ((ltI ((1000000 : Int)) ((inat ((ByteArray.size a0)))))) (some true) (((fn_spec_ParseReasonName.f n a0)).bind fun (y0 : (Int × Bool)) => ((fn_impl_ParseReasonName.f n a0)).bind fun (y1 : (Int × Bool)) => br ((neI y1.1 y0.1)) (some false) (br ((bnot ((boolEq y1.2 y0.2)))) (some false) (some true)))
def fn_laws_FnExactParseReasonName.con (n : Nat) : Con := ⟨[.rd .str], [.rd .bool true], false, fun x => fn_laws_FnExactParseReasonName.f n x⟩
def fn_laws_FnExactParseReasonName.A (n : Nat) : Ann := ⟨[], [], [], some [⟨2, false⟩]⟩
theorem fn_laws_FnExactParseReasonName.run (n : Nat) (x : ByteArray) : runE (fn_laws_FnExactParseReasonName.E n) (fn_laws_FnExactParseReasonName.A n) n Tryd.f4 [.rd .str] [.rd .bool true] x = fn_laws_FnExactParseReasonName.f n x := by kernel_rfl
theorem fn_laws_FnExactParseReasonName.law (n : Nat) (x : Args (fn_laws_FnExactParseReasonName.con n).ps) (hx : (fn_laws_FnExactParseReasonName.con n).f x = some true) (w : World) (vs : List Value) (ha : ArgsR w (fun k => k < w.heap.size) (fn_laws_FnExactParseReasonName.con n).ps x vs []) : Calls Tryd.prog 4 vs.toArray w fun e w' => ∃ v, e = .returned v ∧ Post (fn_laws_FnExactParseReasonName.con n).ps (fn_laws_FnExactParseReasonName.con n).rs x true w (fun k => k < w.heap.size) [] v w' := fn_calls tabs byts mixed (l := fn_laws_FnExactParseReasonName.F n) ⟨(consS (fn_spec_ParseReasonName.sound n) nilS), ⟨(consS (fn_impl_ParseReasonName.sound n) nilS), trivial⟩⟩ (A := fn_laws_FnExactParseReasonName.A n) (c := fn_laws_FnExactParseReasonName.con n) Tryd.func4 (by kernel_rfl) (ok_end (by kernel_rfl)) (fn_laws_FnExactParseReasonName.run n) x true hx w vs ha
-- loop.example/g01009/laws.roomBehind
def fn_laws_roomBehind.F (n : Nat) : List (Nat × List Con) := []
def fn_laws_roomBehind.E (n : Nat) : Env := ⟨T, B, conOf (fn_laws_roomBehind.F n)⟩
def fn_laws_roomBehind.f (n : Nat) (a0 : Int) : Option Int := br ((eqI ((6 : Int)) ((0 : Int)))) (none) (br ((eqI ((rem a0 ((6 : Int)))) ((5 : Int)))) (some ((0 : Int))) (br ((eqI ((3 : Int)) ((0 : Int)))) (none) (br ((eqI ((rem a0 ((3 : Int)))) ((0 : Int)))) (some ((1 : Int))) (some a0))))
def fn_laws_roomBehind.con (n : Nat) : Con := ⟨[.rd (.int .i64)], [.rd (.int .i64) true], false, fun x => fn_laws_roomBehind.f n x⟩
def fn_laws_roomBehind.A (n : Nat) : Ann := ⟨[], [], [], some [⟨2, false⟩]⟩
theorem fn_laws_roomBehind.run (n : Nat) (x : Int) : runE (fn_laws_roomBehind.E n) (fn_laws_roomBehind.A n) n Tryd.f33 [.rd (.int .i64)] [.rd (.int .i64) true] x = fn_laws_roomBehind.f n x := by kernel_rfl
theorem fn_laws_roomBehind.sound (n : Nat) : Sound Tryd.prog 33 (fn_laws_roomBehind.con n) := fn_sound tabs byts mixed (l := fn_laws_roomBehind.F n) trivial (A := fn_laws_roomBehind.A n) (c := fn_laws_roomBehind.con n) Tryd.func33 (by kernel_rfl) (by kernel_rfl) (by kernel_rfl) (ok_end (by kernel_rfl)) (fn_laws_roomBehind.run n)
-- loop.example/g01009/laws.toIntS
def fn_laws_toIntS.F (n : Nat) : List (Nat × List Con) := [(33, [fn_laws_roomBehind.con n])]
def fn_laws_toIntS.E (n : Nat) : Env := ⟨T, B, conOf (fn_laws_toIntS.F n)⟩
def fn_laws_toIntS.l5 {R : Type} (n : Nat) : Nat → (List Int) → (List Int) → Int → ((List Int) → (List Int) → Option R) → Option R
  | 0, _, _, _, _ => none
  | k + 1, x1, x2, x3, K0 => br ((ltI x3 ((ilen x1)))) (br ((okIx x3 ((ilen x1)))) (br ((okIx x3 ((ilen x2)))) (fn_laws_toIntS.l5 n k x1 ((setL x2 ((nat x3)) ((rd (.int .i64) x1 (nat x3))))) ((add .i64 x3 ((1 : Int)))) K0) (none)) (none)) (K0 x1 x2)
def fn_laws_toIntS.l9 {R : Type} (n : Nat) : Nat → (List Int) → (List Int) → Int → ((List Int) → (List Int) → Option R) → Option R
  | 0, _, _, _, _ => none
  | k + 1, x6, x7, x8, K0 => br ((ltI x8 ((ilen x7)))) (br ((okIx x8 ((ilen x7)))) (fn_laws_toIntS.l9 n k x6 ((setL x7 ((nat x8)) ((-7000000000000000101 : Int)))) ((add .i64 x8 ((1 : Int)))) K0) (none)) (K0 x6 x7)
def fn_laws_toIntS.f (n : Nat) (a0 : (List Int)) (a1 : Bool) : Option (List Int × Nat) := br a1 (br ((eqI ((ilen a0)) ((0 : Int)))) (some ((([] : List Int), (llen (([] : List Int)))))) (((fn_laws_roomBehind.f n ((ilen a0)))).bind fun (y0 : Int) => br ((okMake ((add .i64 ((ilen a0)) y0)) ((add .i64 ((ilen a0)) y0)) 8)) (fn_laws_toIntS.l5 n n a0 ((repL ((nat ((add .i64 ((ilen a0)) y0)))) ((0 : Int)))) ((0 : Int)) (fun (z4 : (List Int)) (z5 : (List Int)) => fn_laws_toIntS.l9 n n z4 z5 ((ilen z4)) (fun (z9 : (List Int)) (z10 : (List Int)) => br ((okSl ((ilen z9)) ((ilen z10)))) (some ((z10, (nat ((ilen z9)))))) (none)))) (none))) (((fn_laws_roomBehind.f n ((ilen a0)))).bind fun (y11 : Int) => br ((okMake ((add .i64 ((ilen a0)) y11)) ((add .i64 ((ilen a0)) y11)) 8)) (fn_laws_toIntS.l5 n n a0 ((repL ((nat ((add .i64 ((ilen a0)) y11)))) ((0 : Int)))) ((0 : Int)) (fun (z12 : (List Int)) (z13 : (List Int)) => fn_laws_toIntS.l9 n n z12 z13 ((ilen z12)) (fun (z14 : (List Int)) (z15 : (List Int)) => br ((okSl ((ilen z14)) ((ilen z15)))) (some ((z15, (nat ((ilen z14)))))) (none)))) (none))
def fn_laws_toIntS.con (n : Nat) : Con := ⟨[.rd (.slice 3 (.int .i64)), .rd .bool], [.ow 3 (.int .i64) true], false, fun x => fn_laws_toIntS.f n x.1 x.2⟩
def fn_laws_toIntS.l5_sh : Shape := ⟨[.one (.ref 0), .dead, .dead, .dead, .dead, .one (.ref 1), .one (.int .i64), .dead, .dead, .dead, .dead, .dead, .dead, .dead, .dead, .dead, .dead, .dead, .dead, .dead, .dead, .dead, .dead, .dead, .dead, .dead, .dead, .dead, .dead, .dead, .dead, .dead, .dead, .dead, .dead, .dead, .dead, .dead, .dead, .dead, .dead, .dead, .dead, .dead, .dead, .dead, .dead, .dead, .dead], [], [⟨3, (.int .i64), false, false⟩, ⟨3, (.int .i64), true, true⟩]⟩
def fn_laws_toIntS.l5_y0 : Shape := ⟨[.one (.ref 0), .dead, .dead, .dead, .dead, .one (.ref 1), .dead, .dead, .dead, .dead, .dead, .dead, .dead, .dead, .dead, .dead, .dead, .dead, .dead, .dead, .dead, .dead, .dead, .dead, .dead, .dead, .dead, .dead, .dead, .dead, .dead, .dead, .dead, .dead, .dead, .dead, .dead, .dead, .dead, .dead, .dead, .dead, .dead, .dead, .dead, .dead, .dead, .dead, .dead], [], [⟨3, (.int .i64), false, false⟩, ⟨3, (.int .i64), true, true⟩]⟩
def fn_laws_toIntS.l5_ (n : Nat) : Sub := ⟨[⟨0, false⟩, ⟨5, false⟩, ⟨6, false⟩], fn_laws_toIntS.l5_sh, [⟨0, false⟩, ⟨5, false⟩, ⟨6, false⟩], [((.exit 0), fn_laws_toIntS.l5_y0)], fun R k (x : ((List Int) × ((List Int) × Int))) (ks : (((List Int) × (List Int)) → Option R)) => fn_laws_toIntS.l5 n k x.1 x.2.1 x.2.2 (fun b0 b1 => ks (b0, b1))⟩
def fn_laws_toIntS.l9_sh : Shape := ⟨[.one (.ref 0), .dead, .dead, .dead, .dead, .one (.ref 1), .dead, .one (.int .i64), .dead, .dead, .dead, .dead, .dead, .dead, .dead, .dead, .dead, .dead, .dead, .dead, .dead, .dead, .dead, .dead, .dead, .dead, .dead, .dead, .dead, .dead, .dead, .dead, .dead, .dead, .dead, .dead, .dead, .dead, .dead, .dead, .dead, .dead, .dead, .dead, .dead, .dead, .dead, .dead, .dead], [], [⟨3, (.int .i64), false, false⟩, ⟨3, (.int .i64), true, true⟩]⟩
def fn_laws_toIntS.l9_y0 : Shape := ⟨[.one (.ref 0), .dead, .dead, .dead, .dead, .one (.ref 1), .dead, .dead, .dead, .dead, .dead, .dead, .dead, .dead, .dead, .dead, .dead, .dead, .dead, .dead, .dead, .dead, .dead, .dead, .dead, .dead, .dead, .dead, .dead, .dead, .dead, .dead, .dead, .dead, .dead, .dead, .dead, .dead, .dead, .dead, .dead, .dead, .dead, .dead, .dead, .dead, .dead, .dead, .dead], [], [⟨3, (.int .i64), false, false⟩, ⟨3, (.int .i64), true, true⟩]⟩
def fn_laws_toIntS.l9_ (n : Nat) : Sub := ⟨[⟨0, false⟩, ⟨5, false⟩, ⟨7, false⟩], fn_laws_toIntS.l9_sh, [⟨0, false⟩, ⟨5, false⟩, ⟨7, false⟩], [((.exit 2), fn_laws_toIntS.l9_y0)], fun R k (x : ((List Int) × ((List Int) × Int))) (ks : (((List Int) × (List Int)) → Option R)) => fn_laws_toIntS.l9 n k x.1 x.2.1 x.2.2 (fun b0 b1 => ks (b0, b1))⟩
def fn_laws_toIntS.A (n : Nat) : Ann := ⟨[(11, fn_laws_toIntS.l5_ n), (19, fn_laws_toIntS.l9_ n)], [(1, [⟨0, false⟩, ⟨5, false⟩, ⟨6, false⟩]), (0, [⟨0, false⟩, ⟨5, false⟩]), (3, [⟨0, false⟩, ⟨5, false⟩, ⟨7, false⟩]), (2, [⟨0, false⟩, ⟨5, false⟩])], [], none⟩
theorem fn_laws_toIntS.l5_ok (n : Nat) : OkLoop (fn_laws_toIntS.E n) (fn_laws_toIntS.A n) n (getP (partsOf (fn_laws_toIntS.A n) (bodyOf Tryd.f13)) 0).2.1 (getP (partsOf (fn_laws_toIntS.A n) (bodyOf Tryd.f13)) 0).2.2 := ⟨fun R x ks => by kernel_rfl, fun R k x ks => by kernel_rfl⟩
theorem fn_laws_toIntS.l9_ok (n : Nat) : OkLoop (fn_laws_toIntS.E n) (fn_laws_toIntS.A n) n (getP (partsOf (fn_laws_toIntS.A n) (bodyOf Tryd.f13)) 1).2.1 (getP (partsOf (fn_laws_toIntS.A n) (bodyOf Tryd.f13)) 1).2.2 := ⟨fun R x ks => by kernel_rfl, fun R k x ks => by kernel_rfl⟩
theorem fn_laws_toIntS.run (n : Nat) (x : ((List Int) × Bool)) : runE (fn_laws_toIntS.E n) (fn_laws_toIntS.A n) n Tryd.f13 [.rd (.slice 3 (.int .i64)), .rd .bool] [.ow 3 (.int .i64) true] x = fn_laws_toIntS.f n x.1 x.2 := by kernel_rfl
theorem fn_laws_toIntS.sound (n : Nat) : Sound Tryd.prog 13 (fn_laws_toIntS.con n) := fn_sound tabs byts mixed (l := fn_laws_toIntS.F n) ⟨(consS (fn_laws_roomBehind.sound n) nilS), trivial⟩ (A := fn_laws_toIntS.A n) (c := fn_laws_toIntS.con n) Tryd.func13 (by kernel_rfl) (by kernel_rfl) (by kernel_rfl) (ok_loop (by kernel_rfl) (fn_laws_toIntS.l5_ok n) (ok_loop (by kernel_rfl) (fn_laws_toIntS.l9_ok n) (ok_end (by kernel_rfl)))) (fn_laws_toIntS.run n)
-- loop.example/g01009/spec.l1All
def fn_spec_l1All.F (n : Nat) : List (Nat × List Con) := [(50, [fn_spec_l1In.con n])]
def fn_spec_l1All.E (n : Nat) : Env := ⟨T, B, conOf (fn_spec_l1All.F n)⟩
def fn_spec_l1All.l2 {R : Type} (n : Nat) : Nat → (List Int) → Int → Int → Int → Int → (Bool → Option R) → (Unit → Option R) → Option R
  | 0, _, _, _, _, _, _, _ => none
  | k + 1, x0, x1, x2, x3, x4, K0, K1 => br ((ltI x4 x3)) (br ((okIx x4 ((ilen x0)))) (((fn_spec_l1In.f n ((rd (.int .i64) x0 (nat x4))) x1 x2)).bind fun (y5 : Bool) => br ((bnot y5)) (K0 false) (fn_spec_l1All.l2 n k x0 x1 x2 x3 ((add .i64 x4 ((1 : Int)))) K0 K1)) (none)) (K1 ())
def fn_spec_l1All.f (n : Nat) (a0 : (List Int)) (a1 : Int) (a2 : Int) : Option Bool := fn_spec_l1All.l2 n n a0 a1 a2 ((ilen a0)) ((0 : Int)) (fun (z6 : Bool) => some z6) (fun _ => some true)
def fn_spec_l1All.con (n : Nat) : Con := ⟨[.rd (.slice 3 (.int .i64)), .rd (.int .i64), .rd (.int .i64)], [.rd .bool true], false, fun x => fn_spec_l1All.f n x.1 x.2.1 x.2.2⟩
def fn_spec_l1All.l2_sh : Shape := ⟨[.dead, .one (.int .i64), .one (.int .i64), .dead, .dead, .dead, .dead, .dead, .dead, .one (.ref 0), .one (.int .i64), .one (.int .i64), .dead, .dead, .dead, .dead, .dead, .dead, .dead, .dead, .dead], [], [⟨3, (.int .i64), false, false⟩]⟩
def fn_spec_l1All.l2_y0 : Shape := ⟨[.dead, .dead, .dead, .dead, .dead, .dead, .one (.bool), .dead, .dead, .dead, .dead, .dead, .dead, .dead, .dead, .dead, .dead, .dead, .dead, .dead, .dead], [], []⟩
def fn_spec_l1All.l2_y1 : Shape := ⟨[.dead, .dead, .dead, .dead, .dead, .dead, .dead, .dead, .dead, .dead, .dead, .dead, .dead, .dead, .dead, .dead, .dead, .dead, .dead, .dead, .dead], [], []⟩
def fn_spec_l1All.l2_ (n : Nat) : Sub := ⟨[⟨1, false⟩, ⟨2, false⟩, ⟨9, false⟩, ⟨10, false⟩, ⟨11, false⟩], fn_spec_l1All.l2_sh, [⟨1, false⟩, ⟨2, false⟩, ⟨9, false⟩, ⟨10, false⟩, ⟨11, false⟩], [(.ret, fn_spec_l1All.l2_y0), ((.exit 0), fn_spec_l1All.l2_y1)], fun R k (x : ((List Int) × (Int × (Int × (Int × Int))))) (ks : ((Bool → Option R) × (Unit → Option R))) => fn_spec_l1All.l2 n k x.1 x.2.1 x.2.2.1 x.2.2.2.1 x.2.2.2.2 ks.1 ks.2⟩
def fn_spec_l1All.A (n : Nat) : Ann := ⟨[(5, fn_spec_l1All.l2_ n)], [(1, [⟨1, false⟩, ⟨2, false⟩, ⟨9, false⟩, ⟨10, false⟩, ⟨11, false⟩]), (0, [])], [], some [⟨6, false⟩]⟩
theorem fn_spec_l1All.l2_ok (n : Nat) : OkLoop (fn_spec_l1All.E n) (fn_spec_l1All.A n) n (getP (partsOf (fn_spec_l1All.A n) (bodyOf Tryd.f53)) 0).2.1 (getP (partsOf (fn_spec_l1All.A n) (bodyOf Tryd.f53)) 0).2.2 := ⟨fun R x ks => by kernel_rfl, fun R k x ks => by kernel_rfl⟩
theorem fn_spec_l1All.run (n : Nat) (x : ((List Int) × (Int × Int))) : runE (fn_spec_l1All.E n) (fn_spec_l1All.A n) n Tryd.f53 [.rd (.slice 3 (.int .i64)), .rd (.int .i64), .rd (.int .i64)] [.rd .bool true] x = fn_spec_l1All.f n x.1 x.2.1 x.2.2 := by kernel_rfl
theorem fn_spec_l1All.sound (n : Nat) : Sound Tryd.prog 53 (fn_spec_l1All.con n) := fn_sound tabs byts mixed (l := fn_spec_l1All.F n) ⟨(consS (fn_spec_l1In.sound n) nilS), trivial⟩ (A := fn_spec_l1All.A n) (c := fn_spec_l1All.con n) Tryd.func53 (by kernel_rfl) (by kernel_rfl) (by kernel_rfl) (ok_loop (by kernel_rfl) (fn_spec_l1All.l2_ok n) (ok_end (by kernel_rfl))) (fn_spec_l1All.run n)
-- loop.example/g01009/spec.imList
def fn_spec_imList.F (n : Nat) : List (Nat × List Con) := [(53, [fn_spec_l1All.con n])]
def fn_spec_imList.E (n : Nat) : Env := ⟨T, B, conOf (fn_spec_imList.F n)⟩
def fn_spec_imList.f (n : Nat) (a0 : (List Int)) : Option Bool := br ((leI ((ilen a0)) ((128 : Int)))) (((fn_spec_l1All.f n a0 ((0 : Int)) ((3 : Int)))).bind fun (y0 : Bool) => some y0) (some false)
def fn_spec_imList.con (n : Nat) : Con := ⟨[.rd (.slice 3 (.int .i64))], [.rd .bool true], false, fun x => fn_spec_imList.f n x⟩
def fn_spec_imList.A (n : Nat) : Ann := ⟨[], [], [], some [⟨2, false⟩]⟩
theorem fn_spec_imList.run (n : Nat) (x : (List Int)) : runE (fn_spec_imList.E n) (fn_spec_imList.A n) n Tryd.f31 [.rd (.slice 3 (.int .i64))] [.rd .bool true] x = fn_spec_imList.f n x := by kernel_rfl
theorem fn_spec_imList.sound (n : Nat) : Sound Tryd.prog 31 (fn_spec_imList.con n) := fn_sound tabs byts mixed (l := fn_spec_imList.F n) ⟨(consS (fn_spec_l1All.sound n) nilS), trivial⟩ (A := fn_spec_imList.A n) (c := fn_spec_imList.con n) Tryd.func31 (by kernel_rfl) (by kernel_rfl) (by kernel_rfl) (ok_end (by kernel_rfl)) (fn_spec_imList.run n)
-- loop.example/g01009/spec.ReasonsText
def fn_spec_ReasonsText.F (n : Nat) : List (Nat × List Con) := [(31, [fn_spec_imList.con n]), (32, [fn_spec_l1Num.con n])]
def fn_spec_ReasonsText.E (n : Nat) : Env := ⟨T, B, conOf (fn_spec_ReasonsText.F n)⟩
def fn_spec_ReasonsText.l5 {R : Type} (n : Nat) : Nat → (List Int) → ByteArray → Int → Int → (ByteArray → Option R) → Option R
  | 0, _, _, _, _, _ => none
  | k + 1, x1, x2, x3, x4, K0 => br ((ltI x4 x3)) (br ((okIx x4 ((ilen x1)))) (((fn_spec_l1Num.f n ((rd (.int .i64) x1 (nat x4))))).bind fun (y5 : ByteArray) => br ((okCat x2 y5)) (fn_spec_ReasonsText.l5 n k x1 ((strApp x2 y5)) x3 ((add .i64 x4 ((1 : Int)))) K0) (none)) (none)) (K0 x2)
def fn_spec_ReasonsText.f (n : Nat) (a0 : (List Int)) : Option (ByteArray × Bool) := ((fn_spec_imList.f n a0)).bind fun (y0 : Bool) => br ((bnot y0)) (some (((ByteArray.mk #[]), false))) (fn_spec_ReasonsText.l5 n n a0 ((ByteArray.mk #[])) ((ilen a0)) ((0 : Int)) (fun (z6 : ByteArray) => some ((z6, true))))
def fn_spec_ReasonsText.con (n : Nat) : Con := ⟨[.rd (.slice 3 (.int .i64))], [.rd .str true, .rd .bool true], false, fun x => fn_spec_ReasonsText.f n x⟩
def fn_spec_ReasonsText.l5_sh : Shape := ⟨[.dead, .dead, .dead, .dead, .one (.str), .dead, .dead, .dead, .dead, .dead, .one (.ref 0), .one (.int .i64), .one (.int .i64), .dead, .dead, .dead, .dead, .dead, .dead, .dead, .dead, .dead], [], [⟨3, (.int .i64), false, false⟩]⟩
def fn_spec_ReasonsText.l5_y0 : Shape := ⟨[.dead, .dead, .dead, .dead, .one (.str), .dead, .dead, .dead, .dead, .dead, .dead, .dead, .dead, .dead, .dead, .dead, .dead, .dead, .dead, .dead, .dead, .dead], [], []⟩
def fn_spec_ReasonsText.l5_ (n : Nat) : Sub := ⟨[⟨4, false⟩, ⟨10, false⟩, ⟨11, false⟩, ⟨12, false⟩], fn_spec_ReasonsText.l5_sh, [⟨4, false⟩, ⟨10, false⟩, ⟨11, false⟩, ⟨12, false⟩], [((.exit 0), fn_spec_ReasonsText.l5_y0)], fun R k (x : ((List Int) × (ByteArray × (Int × Int)))) (ks : (ByteArray → Option R)) => fn_spec_ReasonsText.l5 n k x.1 x.2.1 x.2.2.1 x.2.2.2 ks⟩
def fn_spec_ReasonsText.A (n : Nat) : Ann := ⟨[(11, fn_spec_ReasonsText.l5_ n)], [(1, [⟨4, false⟩, ⟨10, false⟩, ⟨11, false⟩, ⟨12, false⟩]), (0, [⟨4, false⟩])], [], some [⟨2, false⟩, ⟨3, false⟩]⟩
theorem fn_spec_ReasonsText.l5_ok (n : Nat) : OkLoop (fn_spec_ReasonsText.E n) (fn_spec_ReasonsText.A n) n (getP (partsOf (fn_spec_ReasonsText.A n) (bodyOf Tryd.f12)) 0).2.1 (getP (partsOf (fn_spec_ReasonsText.A n) (bodyOf Tryd.f12)) 0).2.2 := ⟨fun R x ks => by kernel_rfl, fun R k x ks => by kernel_rfl⟩
theorem fn_spec_ReasonsText.run (n : Nat) (x : (List Int)) : runE (fn_spec_ReasonsText.E n) (fn_spec_ReasonsText.A n) n Tryd.f12 [.rd (.slice 3 (.int .i64))] [.rd .str true, .rd .bool true] x = fn_spec_ReasonsText.f n x := by kernel_rfl
theorem fn_spec_ReasonsText.sound (n : Nat) : Sound Tryd.prog 12 (fn_spec_ReasonsText.con n) := fn_sound tabs byts mixed (l := fn_spec_ReasonsText.F n) ⟨(consS (fn_spec_imList.sound n) nilS), ⟨(consS (fn_spec_l1Num.sound n) nilS), trivial⟩⟩ (A := fn_spec_ReasonsText.A n) (c := fn_spec_ReasonsText.con n) Tryd.func12 (by kernel_rfl) (by kernel_rfl) (by kernel_rfl) (ok_loop (by kernel_rfl) (fn_spec_ReasonsText.l5_ok n) (ok_end (by kernel_rfl))) (fn_spec_ReasonsText.run n)
-- loop.example/g01009/impl.areReasons$1
def fn_impl_areReasons_1.F (n : Nat) : List (Nat × List Con) := [(51, [fn_impl_inside.con n])]
def fn_impl_areReasons_1.E (n : Nat) : Env := ⟨T, B, conOf (fn_impl_areReasons_1.F n)⟩
def fn_impl_areReasons_1.f (n : Nat) (a0 : Int) : Option Bool := ((fn_impl_inside.f n a0 ((0 : Int)) ((3 : Int)))).bind fun (y0 : Bool) => some ((bnot y0))
def fn_impl_areReasons_1.con (n : Nat) : Con := ⟨[.rd (.int .i64)], [.rd .bool true], false, fun x => fn_impl_areReasons_1.f n x⟩
def fn_impl_areReasons_1.A (n : Nat) : Ann := ⟨[], [], [], some [⟨2, false⟩]⟩
theorem fn_impl_areReasons_1.run (n : Nat) (x : Int) : runE (fn_impl_areReasons_1.E n) (fn_impl_areReasons_1.A n) n Tryd.f55 [.rd (.int .i64)] [.rd .bool true] x = fn_impl_areReasons_1.f n x := by kernel_rfl
theorem fn_impl_areReasons_1.sound (n : Nat) : Sound Tryd.prog 55 (fn_impl_areReasons_1.con n) := fn_sound tabs byts mixed (l := fn_impl_areReasons_1.F n) ⟨(consS (fn_impl_inside.sound n) nilS), trivial⟩ (A := fn_impl_areReasons_1.A n) (c := fn_impl_areReasons_1.con n) Tryd.func55 (by kernel_rfl) (by kernel_rfl) (by kernel_rfl) (ok_end (by kernel_rfl)) (fn_impl_areReasons_1.run n)
-- slices.IndexFunc[[]int,int]
def fn_slices_IndexFunc___int_int__f55.F (n : Nat) : List (Nat × List Con) := [(55, [fn_impl_areReasons_1.con n])]
def fn_slices_IndexFunc___int_int__f55.E (n : Nat) : Env := ⟨T, B, conOf (fn_slices_IndexFunc___int_int__f55.F n)⟩
def fn_slices_IndexFunc___int_int__f55.l2 {R : Type} (n : Nat) : Nat → (List Int) → Int → Int → (Int → Option R) → (Unit → Option R) → Option R
  | 0, _, _, _, _, _ => none
  | k + 1, x0, x1, x2, K0, K1 => br ((ltI x2 x1)) (br ((okIx x2 ((ilen x0)))) (((fn_impl_areReasons_1.f n ((rd (.int .i64) x0 (nat x2))))).bind fun (y3 : Bool) => br y3 (K0 x2) (fn_slices_IndexFunc___int_int__f55.l2 n k x0 x1 ((add .i64 x2 ((1 : Int)))) K0 K1)) (none)) (K1 ())
def fn_slices_IndexFunc___int_int__f55.f (n : Nat) (a0 : (List Int)) (a1 : Unit) : Option Int := fn_slices_IndexFunc___int_int__f55.l2 n n a0 ((ilen a0)) ((0 : Int)) (fun (z4 : Int) => some z4) (fun _ => some ((-1 : Int)))
def fn_slices_IndexFunc___int_int__f55.con (n : Nat) : Con := ⟨[.rd (.slice 3 (.int .i64)), .fn 55], [.rd (.int .i64) true], false, fun x => fn_slices_IndexFunc___int_int__f55.f n x.1 x.2⟩
def fn_slices_IndexFunc___int_int__f55.l2_sh : Shape := ⟨[.one (.ref 0), .one (.fn 55), .dead, .dead, .dead, .dead, .dead, .one (.int .i64), .one (.int .i64), .dead, .dead, .dead, .dead, .dead, .dead, .dead, .dead, .dead, .dead], [], [⟨3, (.int .i64), false, false⟩]⟩
def fn_slices_IndexFunc___int_int__f55.l2_y0 : Shape := ⟨[.dead, .dead, .dead, .dead, .one (.int .i64), .dead, .dead, .dead, .dead, .dead, .dead, .dead, .dead, .dead, .dead, .dead, .dead, .dead, .dead], [], []⟩
def fn_slices_IndexFunc___int_int__f55.l2_y1 : Shape := ⟨[.dead, .dead, .dead, .dead, .dead, .dead, .dead, .dead, .dead, .dead, .dead, .dead, .dead, .dead, .dead, .dead, .dead, .dead, .dead], [], []⟩
def fn_slices_IndexFunc___int_int__f55.l2_ (n : Nat) : Sub := ⟨[⟨0, false⟩, ⟨1, false⟩, ⟨7, false⟩, ⟨8, false⟩], fn_slices_IndexFunc___int_int__f55.l2_sh, [⟨0, false⟩, ⟨1, false⟩, ⟨7, false⟩, ⟨8, false⟩], [(.ret, fn_slices_IndexFunc___int_int__f55.l2_y0), ((.exit 0), fn_slices_IndexFunc___int_int__f55.l2_y1)], fun R k (x : ((List Int) × (Int × Int))) (ks : ((Int → Option R) × (Unit → Option R))) => fn_slices_IndexFunc___int_int__f55.l2 n k x.1 x.2.1 x.2.2 ks.1 ks.2⟩
def fn_slices_IndexFunc___int_int__f55.A (n : Nat) : Ann := ⟨[(5, fn_slices_IndexFunc___int_int__f55.l2_ n)], [(1, [⟨0, false⟩, ⟨1, false⟩, ⟨7, false⟩, ⟨8, false⟩]), (0, [])], [], some [⟨4, false⟩]⟩
theorem fn_slices_IndexFunc___int_int__f55.l2_ok (n : Nat) : OkLoop (fn_slices_IndexFunc___int_int__f55.E n) (fn_slices_IndexFunc___int_int__f55.A n) n (getP (partsOf (fn_slices_IndexFunc___int_int__f55.A n) (bodyOf Tryd.f66)) 0).2.1 (getP (partsOf (fn_slices_IndexFunc___int_int__f55.A n) (bodyOf Tryd.f66)) 0).2.2 := ⟨fun R x ks => by kernel_rfl, fun R k x ks => by kernel_rfl⟩
theorem fn_slices_IndexFunc___int_int__f55.run (n : Nat) (x : ((List Int) × Unit)) : runE (fn_slices_IndexFunc___int_int__f55.E n) (fn_slices_IndexFunc___int_int__f55.A n) n Tryd.f66 [.rd (.slice 3 (.int .i64)), .fn 55] [.rd (.int .i64) true] x = fn_slices_IndexFunc___int_int__f55.f n x.1 x.2 := by kernel_rfl
theorem fn_slices_IndexFunc___int_int__f55.sound (n : Nat) : Sound Tryd.prog 66 (fn_slices_IndexFunc___int_int__f55.con n) := fn_sound tabs byts mixed (l := fn_slices_IndexFunc___int_int__f55.F n) ⟨(consS (fn_impl_areReasons_1.sound n) nilS), trivial⟩ (A := fn_slices_IndexFunc___int_int__f55.A n) (c := fn_slices_IndexFunc___int_int__f55.con n) Tryd.func66 (by kernel_rfl) (by kernel_rfl) (by kernel_rfl) (ok_loop (by kernel_rfl) (fn_slices_IndexFunc___int_int__f55.l2_ok n) (ok_end (by kernel_rfl))) (fn_slices_IndexFunc___int_int__f55.run n)
-- slices.ContainsFunc[[]int,int]
def fn_slices_ContainsFunc___int_int__f55.F (n : Nat) : List (Nat × List Con) := [(66, [fn_slices_IndexFunc___int_int__f55.con n]), (55, [fn_impl_areReasons_1.con n])]
def fn_slices_ContainsFunc___int_int__f55.E (n : Nat) : Env := ⟨T, B, conOf (fn_slices_ContainsFunc___int_int__f55.F n)⟩
def fn_slices_ContainsFunc___int_int__f55.f (n : Nat) (a0 : (List Int)) (a1 : Unit) : Option Bool := ((fn_slices_IndexFunc___int_int__f55.f n a0 ())).bind fun (y0 : Int) => some ((leI ((0 : Int)) y0))
def fn_slices_ContainsFunc___int_int__f55.con (n : Nat) : Con := ⟨[.rd (.slice 3 (.int .i64)), .fn 55], [.rd .bool true], false, fun x => fn_slices_ContainsFunc___int_int__f55.f n x.1 x.2⟩
def fn_slices_ContainsFunc___int_int__f55.A (n : Nat) : Ann := ⟨[], [], [], some [⟨4, false⟩]⟩
theorem fn_slices_ContainsFunc___int_int__f55.run (n : Nat) (x : ((List Int) × Unit)) : runE (fn_slices_ContainsFunc___int_int__f55.E n) (fn_slices_ContainsFunc___int_int__f55.A n) n Tryd.f54 [.rd (.slice 3 (.int .i64)), .fn 55] [.rd .bool true] x = fn_slices_ContainsFunc___int_int__f55.f n x.1 x.2 := by kernel_rfl
theorem fn_slices_ContainsFunc___int_int__f55.sound (n : Nat) : Sound Tryd.prog 54 (fn_slices_ContainsFunc___int_int__f55.con n) := fn_sound tabs byts mixed (l := fn_slices_ContainsFunc___int_int__f55.F n) ⟨(consS (fn_slices_IndexFunc___int_int__f55.sound n) nilS), ⟨(consS (fn_impl_areReasons_1.sound n) nilS), trivial⟩⟩ (A := fn_slices_ContainsFunc___int_int__f55.A n) (c := fn_slices_ContainsFunc___int_int__f55.con n) Tryd.func54 (by kernel_rfl) (by kernel_rfl) (by kernel_rfl) (ok_end (by kernel_rfl)) (fn_slices_ContainsFunc___int_int__f55.run n)
-- loop.example/g01009/impl.areReasons
def fn_impl_areReasons.F (n : Nat) : List (Nat × List Con) := [(54, [fn_slices_ContainsFunc___int_int__f55.con n])]
def fn_impl_areReasons.E (n : Nat) : Env := ⟨T, B, conOf (fn_impl_areReasons.F n)⟩
def fn_impl_areReasons.f (n : Nat) (a0 : (List Int)) : Option Bool := br ((leI ((ilen a0)) ((128 : Int)))) (((fn_slices_ContainsFunc___int_int__f55.f n a0 ())).bind fun (y0 : Bool) => some ((bnot y0))) (some false)
def fn_impl_areReasons.con (n : Nat) : Con := ⟨[.rd (.slice 3 (.int .i64))], [.rd .bool true], false, fun x => fn_impl_areReasons.f n x⟩
def fn_impl_areReasons.A (n : Nat) : Ann := ⟨[], [], [], some [⟨2, false⟩]⟩
theorem fn_impl_areReasons.run (n : Nat) (x : (List Int)) : runE (fn_impl_areReasons.E n) (fn_impl_areReasons.A n) n Tryd.f34 [.rd (.slice 3 (.int .i64))] [.rd .bool true] x = fn_impl_areReasons.f n x := by kernel_rfl
theorem fn_impl_areReasons.sound (n : Nat) : Sound Tryd.prog 34 (fn_impl_areReasons.con n) := fn_sound tabs byts mixed (l := fn_impl_areReasons.F n) ⟨(consS (fn_slices_ContainsFunc___int_int__f55.sound n) nilS), trivial⟩ (A := fn_impl_areReasons.A n) (c := fn_impl_areReasons.con n) Tryd.func34 (by kernel_rfl) (by kernel_rfl) (by kernel_rfl) (ok_end (by kernel_rfl)) (fn_impl_areReasons.run n)
-- loop.example/g01009/impl.digitsText
def fn_impl_digitsText.F (n : Nat) : List (Nat × List Con) := [(52, [fn_strconv_Itoa.con n])]
def fn_impl_digitsText.E (n : Nat) : Env := ⟨T, B, conOf (fn_impl_digitsText.F n)⟩
def fn_impl_digitsText.l3 {R : Type} (n : Nat) : Nat → (List Int) → ByteArray → Int → Int → (ByteArray → Option R) → Option R
  | 0, _, _, _, _, _ => none
  | k + 1, x0, x1, x2, x3, K0 => br ((ltI x3 x2)) (br ((okIx x3 ((ilen x0)))) (((fn_strconv_Itoa.f n ((rd (.int .i64) x0 (nat x3))))).bind fun (y4 : ByteArray) => br ((okCat x1 y4)) (fn_impl_digitsText.l3 n k x0 ((strApp x1 y4)) x2 ((add .i64 x3 ((1 : Int)))) K0) (none)) (none)) (K0 x1)
def fn_impl_digitsText.f (n : Nat) (a0 : (List Int)) : Option ByteArray := fn_impl_digitsText.l3 n n a0 ((ByteArray.mk #[])) ((ilen a0)) ((0 : Int)) (fun (z5 : ByteArray) => some z5)
def fn_impl_digitsText.con (n : Nat) : Con := ⟨[.rd (.slice 3 (.int .i64))], [.rd .str true], false, fun x => fn_impl_digitsText.f n x⟩
def fn_impl_digitsText.l3_sh : Shape := ⟨[.dead, .dead, .dead, .one (.str), .dead, .dead, .one (.ref 0), .one (.int .i64), .one (.int .i64), .dead, .dead, .dead, .dead, .dead, .dead, .dead, .dead, .dead], [], [⟨3, (.int .i64), false, false⟩]⟩
def fn_impl_digitsText.l3_y0 : Shape := ⟨[.dead, .dead, .dead, .one (.str), .dead, .dead, .dead, .dead, .dead, .dead, .dead, .dead, .dead, .dead, .dead, .dead, .dead, .dead], [], []⟩
def fn_impl_digitsText.l3_ (n : Nat) : Sub := ⟨[⟨3, false⟩, ⟨6, false⟩, ⟨7, false⟩, ⟨8, false⟩], fn_impl_digitsText.l3_sh, [⟨3, false⟩, ⟨6, false⟩, ⟨7, false⟩, ⟨8, false⟩], [((.exit 0), fn_impl_digitsText.l3_y0)], fun R k (x : ((List Int) × (ByteArray × (Int × Int)))) (ks : (ByteArray → Option R)) => fn_impl_digitsText.l3 n k x.1 x.2.1 x.2.2.1 x.2.2.2 ks⟩
def fn_impl_digitsText.A (n : Nat) : Ann := ⟨[(7, fn_impl_digitsText.l3_ n)], [(1, [⟨3, false⟩, ⟨6, false⟩, ⟨7, false⟩, ⟨8, false⟩]), (0, [⟨3, false⟩])], [], some [⟨2, false⟩]⟩
theorem fn_impl_digitsText.l3_ok (n : Nat) : OkLoop (fn_impl_digitsText.E n) (fn_impl_digitsText.A n) n (getP (partsOf (fn_impl_digitsText.A n) (bodyOf Tryd.f35)) 0).2.1 (getP (partsOf (fn_impl_digitsText.A n) (bodyOf Tryd.f35)) 0).2.2 := ⟨fun R x ks => by kernel_rfl, fun R k x ks => by kernel_rfl⟩
theorem fn_impl_digitsText.run (n : Nat) (x : (List Int)) : runE (fn_impl_digitsText.E n) (fn_impl_digitsText.A n) n Tryd.f35 [.rd (.slice 3 (.int .i64))] [.rd .str true] x = fn_impl_digitsText.f n x := by kernel_rfl
theorem fn_impl_digitsText.sound (n : Nat) : Sound Tryd.prog 35 (fn_impl_digitsText.con n) := fn_sound tabs byts mixed (l := fn_impl_digitsText.F n) ⟨(consS (fn_strconv_Itoa.sound n) nilS), trivial⟩ (A := fn_impl_digitsText.A n) (c := fn_impl_digitsText.con n) Tryd.func35 (by kernel_rfl) (by kernel_rfl) (by kernel_rfl) (ok_loop (by kernel_rfl) (fn_impl_digitsText.l3_ok n) (ok_end (by kernel_rfl))) (fn_impl_digitsText.run n)
-- loop.example/g01009/impl.ReasonsText
def fn_impl_ReasonsText.F (n : Nat) : List (Nat × List Con) := [(34, [fn_impl_areReasons.con n]), (35, [fn_impl_digitsText.con n])]
def fn_impl_ReasonsText.E (n : Nat) : Env := ⟨T, B, conOf (fn_impl_ReasonsText.F n)⟩
def fn_impl_ReasonsText.f (n : Nat) (a0 : (List Int)) : Option (ByteArray × Bool) := ((fn_impl_areReasons.f n a0)).bind fun (y0 : Bool) => br ((bnot y0)) (some (((ByteArray.mk #[]), false))) (((fn_impl_digitsText.f n a0)).bind fun (y1 : ByteArray) => some ((y1, true)))
def fn_impl_ReasonsText.con (n : Nat) : Con := ⟨[.rd (.slice 3 (.int .i64))], [.rd .str true, .rd .bool true], false, fun x => fn_impl_ReasonsText.f n x⟩
def fn_impl_ReasonsText.A (n : Nat) : Ann := ⟨[], [], [], some [⟨2, false⟩, ⟨3, false⟩]⟩
theorem fn_impl_ReasonsText.run (n : Nat) (x : (List Int)) : runE (fn_impl_ReasonsText.E n) (fn_impl_ReasonsText.A n) n Tryd.f14 [.rd (.slice 3 (.int .i64))] [.rd .str true, .rd .bool true] x = fn_impl_ReasonsText.f n x := by kernel_rfl
theorem fn_impl_ReasonsText.sound (n : Nat) : Sound Tryd.prog 14 (fn_impl_ReasonsText.con n) := fn_sound tabs byts mixed (l := fn_impl_ReasonsText.F n) ⟨(consS (fn_impl_areReasons.sound n) nilS), ⟨(consS (fn_impl_digitsText.sound n) nilS), trivial⟩⟩ (A := fn_impl_ReasonsText.A n) (c := fn_impl_ReasonsText.con n) Tryd.func14 (by kernel_rfl) (by kernel_rfl) (by kernel_rfl) (ok_end (by kernel_rfl)) (fn_impl_ReasonsText.run n)
-- loop.example/g01009/laws.eqIntS
def fn_laws_eqIntS.F (n : Nat) : List (Nat × List Con) := []
def fn_laws_eqIntS.E (n : Nat) : Env := ⟨T, B, conOf (fn_laws_eqIntS.F n)⟩
def fn_laws_eqIntS.l4 {R : Type} (n : Nat) : Nat → (List Int) → (List Int) → Int → (Bool → Option R) → (Unit → Option R) → Option R
  | 0, _, _, _, _, _ => none
  | k + 1, x0, x1, x2, K0, K1 => br ((ltI x2 ((ilen x0)))) (br ((okIx x2 ((ilen x0)))) (br ((okIx x2 ((ilen x1)))) (br ((neI ((rd (.int .i64) x0 (nat x2))) ((rd (.int .i64) x1 (nat x2))))) (K0 false) (fn_laws_eqIntS.l4 n k x0 x1 ((add .i64 x2 ((1 : Int)))) K0 K1)) (none)) (none)) (K1 ())
def fn_laws_eqIntS.f (n : Nat) (a0 : (List Int)) (a1 : (List Int)) : Option Bool := br ((neI ((ilen a0)) ((ilen a1)))) (some false) (fn_laws_eqIntS.l4 n n a0 a1 ((0 : Int)) (fun (z3 : Bool) => some z3) (fun _ => some true))
def fn_laws_eqIntS.con (n : Nat) : Con := ⟨[.rd (.slice 3 (.int .i64)), .rd (.slice 3 (.int .i64))], [.rd .bool true], false, fun x => fn_laws_eqIntS.f n x.1 x.2⟩
def fn_laws_eqIntS.l4_sh : Shape := ⟨[.one (.ref 0), .one (.ref 1), .dead, .dead, .dead, .one (.int .i64), .dead, .dead, .dead, .dead, .dead, .dead, .dead, .dead, .dead, .dead, .dead, .dead, .dead, .dead, .dead, .dead, .dead, .dead, .dead, .dead], [], [⟨3, (.int .i64), false, false⟩, ⟨3, (.int .i64), false, false⟩]⟩
def fn_laws_eqIntS.l4_y0 : Shape := ⟨[.dead, .dead, .dead, .dead, .one (.bool), .dead, .dead, .dead, .dead, .dead, .dead, .dead, .dead, .dead, .dead, .dead, .dead, .dead, .dead, .dead, .dead, .dead, .dead, .dead, .dead, .dead], [], []⟩
def fn_laws_eqIntS.l4_y1 : Shape := ⟨[.dead, .dead, .dead, .dead, .dead, .dead, .dead, .dead, .dead, .dead, .dead, .dead, .dead, .dead, .dead, .dead, .dead, .dead, .dead, .dead, .dead, .dead, .dead, .dead, .dead, .dead], [], []⟩
def fn_laws_eqIntS.l4_ (n : Nat) : Sub := ⟨[⟨0, false⟩, ⟨1, false⟩, ⟨5, false⟩], fn_laws_eqIntS.l4_sh, [⟨0, false⟩, ⟨1, false⟩, ⟨5, false⟩], [(.ret, fn_laws_eqIntS.l4_y0), ((.exit 0), fn_laws_eqIntS.l4_y1)], fun R k (x : ((List Int) × ((List Int) × Int))) (ks : ((Bool → Option R) × (Unit → Option R))) => fn_laws_eqIntS.l4 n k x.1 x.2.1 x.2.2 ks.1 ks.2⟩
def fn_laws_eqIntS.A (n : Nat) : Ann := ⟨[(9, fn_laws_eqIntS.l4_ n)], [(1, [⟨0, false⟩, ⟨1, false⟩, ⟨5, false⟩]), (0, [])], [(6, [0, 1, 2, 4, 5, 6, 3, 7, 8])], some [⟨4, false⟩]⟩
theorem fn_laws_eqIntS.l4_ok (n : Nat) : OkLoop (fn_laws_eqIntS.E n) (fn_laws_eqIntS.A n) n (getP (partsOf (fn_laws_eqIntS.A n) (bodyOf Tryd.f36)) 0).2.1 (getP (partsOf (fn_laws_eqIntS.A n) (bodyOf Tryd.f36)) 0).2.2 := ⟨fun R x ks => by kernel_rfl, fun R k x ks => by kernel_rfl⟩
theorem fn_laws_eqIntS.run (n : Nat) (x : ((List Int) × (List Int))) : runE (fn_laws_eqIntS.E n) (fn_laws_eqIntS.A n) n Tryd.f36 [.rd (.slice 3 (.int .i64)), .rd (.slice 3 (.int .i64))] [.rd .bool true] x = fn_laws_eqIntS.f n x.1 x.2 := by kernel_rfl
theorem fn_laws_eqIntS.sound (n : Nat) : Sound Tryd.prog 36 (fn_laws_eqIntS.con n) := fn_sound tabs byts mixed (l := fn_laws_eqIntS.F n) trivial (A := fn_laws_eqIntS.A n) (c := fn_laws_eqIntS.con n) Tryd.func36 (by kernel_rfl) (by kernel_rfl) (by kernel_rfl) (ok_loop (by kernel_rfl) (fn_laws_eqIntS.l4_ok n) (ok_end (by kernel_rfl))) (fn_laws_eqIntS.run n)
-- loop.example/g01009/laws.intactIntS
def fn_laws_intactIntS.F (n : Nat) : List (Nat × List Con) := [(33, [fn_laws_roomBehind.con n]), (36, [fn_laws_eqIntS.con n])]
def fn_laws_intactIntS.E (n : Nat) : Env := ⟨T, B, conOf (fn_laws_intactIntS.F n)⟩
def fn_laws_intactIntS.f (n : Nat) (a0 : ((List Int) × Nat)) (a1 : ((List Int) × Nat)) : Option (Bool × ((List Int) × (List Int))) := ((fn_laws_roomBehind.f n ((inat a1.2)))).bind fun (y0 : Int) => br ((eqI ((inat a0.2)) ((inat a1.2)))) (br ((okSl ((add .i64 ((inat a1.2)) y0)) ((ilen a0.1)))) (br ((okSl ((add .i64 ((inat a1.2)) y0)) ((ilen a1.1)))) (((fn_laws_eqIntS.f n ((preL a0.1 ((nat ((add .i64 ((inat a1.2)) y0)))))) ((preL a1.1 ((nat ((add .i64 ((inat a1.2)) y0)))))))).bind fun (y1 : Bool) => some ((y1, (a0.1, a1.1)))) (none)) (none)) (some ((false, (a0.1, a1.1))))
def fn_laws_intactIntS.con (n : Nat) : Con := ⟨[.ow 3 (.int .i64) false true, .ow 3 (.int .i64) false true], [.rd .bool true], false, fun x => fn_laws_intactIntS.f n x.1 x.2⟩
def fn_laws_intactIntS.A (n : Nat) : Ann := ⟨[], [], [(2, [0, 1, 2, 3, 4, 5, 6, 7, 8, 9, 10, 11, 12, 13, 14])], some [⟨4, false⟩]⟩
theorem fn_laws_intactIntS.run (n : Nat) (x : ((List Int × Nat) × (List Int × Nat))) : runE (fn_laws_intactIntS.E n) (fn_laws_intactIntS.A n) n Tryd.f15 [.ow 3 (.int .i64) false true, .ow 3 (.int .i64) false true] [.rd .bool true] x = fn_laws_intactIntS.f n x.1 x.2 := by kernel_rfl
theorem fn_laws_intactIntS.sound (n : Nat) : Sound Tryd.prog 15 (fn_laws_intactIntS.con n) := fn_sound tabs byts mixed (l := fn_laws_intactIntS.F n) ⟨(consS (fn_laws_roomBehind.sound n) nilS), ⟨(consS (fn_laws_eqIntS.sound n) nilS), trivial⟩⟩ (A := fn_laws_intactIntS.A n) (c := fn_laws_intactIntS.con n) Tryd.func15 (by kernel_rfl) (by kernel_rfl) (by kernel_rfl) (ok_end (by kernel_rfl)) (fn_laws_intactIntS.run n)
-- loop.example/g01009/laws.FnExactReasonsText
def fn_laws_FnExactReasonsText.F (n : Nat) : List (Nat × List Con) := [(13, [fn_laws_toIntS.con n]), (12, [fn_spec_ReasonsText.con n]), (14, [fn_impl_ReasonsText.con n]), (15, [fn_laws_intactIntS.con n])]
def fn_laws_FnExactReasonsText.E (n : Nat) : Env := ⟨T, B, conOf (fn_laws_FnExactReasonsText.F n)⟩
def fn_laws_FnExactReasonsText.f (n : Nat) (a0 : (List Int)) : Option Bool := br ((ltI ((1000000 : Int)) ((ilen a0)))) (some true) (((fn_laws_toIntS.f n a0 false)).bind fun (y0 : ((List Int) × Nat)) => ((fn_spec_ReasonsText.f n ((preL y0.1 y0.2)))).bind fun (y1 : (ByteArray × Bool)) => ((fn_laws_toIntS.f n a0 false)).bind fun (y2 : ((List Int) × Nat)) => ((fn_impl_ReasonsText.f n ((preL y2.1 y2.2)))).bind fun (y3 : (ByteArray × Bool)) => br ((bnot ((strEq y3.1 y1.1)))) (some false) (br ((bnot ((boolEq y3.2 y1.2)))) (some false) (((fn_laws_toIntS.f n a0 false)).bind fun (y4 : ((List Int) × Nat)) => ((fn_laws_intactIntS.f n y2 y4)).bind fun (y5 : (Bool × ((List Int) × (List Int)))) => br ((bnot y5.1)) (some false) (((fn_laws_toIntS.f n a0 true)).bind fun (y6 : ((List Int) × Nat)) => ((fn_impl_ReasonsText.f n ((preL y6.1 y6.2)))).bind fun (y7 : (ByteArray × Bool)) => br ((bnot ((strEq y7.1 y1.1)))) (some false) (br ((bnot ((boolEq y7.2 y1.2)))) (some false) (some true))))))
def fn_laws_FnExactReasonsText.con (n : Nat) : Con := ⟨[.rd (.slice 3 (.int .i64))], [.rd .bool true], false, fun x => fn_laws_FnExactReasonsText.f n x⟩
def fn_laws_FnExactReasonsText.A (n : Nat) : Ann := ⟨[], [], [], some [⟨2, false⟩]⟩
theorem fn_laws_FnExactReasonsText.run (n : Nat) (x : (List Int)) : runE (fn_laws_FnExactReasonsText.E n) (fn_laws_FnExactReasonsText.A n) n Tryd.f5 [.rd (.slice 3 (.int .i64))] [.rd .bool true] x = fn_laws_FnExactReasonsText.f n x := by kernel_rfl
theorem fn_laws_FnExactReasonsText.law (n : Nat) (x : Args (fn_laws_FnExactReasonsText.con n).ps) (hx : (fn_laws_FnExactReasonsText.con n).f x = some true) (w : World) (vs : List Value) (ha : ArgsR w (fun k => k < w.heap.size) (fn_laws_FnExactReasonsText.con n).ps x vs []) : Calls Tryd.prog 5 vs.toArray w fun e w' => ∃ v, e = .returned v ∧ Post (fn_laws_FnExactReasonsText.con n).ps (fn_laws_FnExactReasonsText.con n).rs x true w (fun k => k < w.heap.size) [] v w' := fn_calls tabs byts mixed (l := fn_laws_FnExactReasonsText.F n) ⟨(consS (fn_laws_toIntS.sound n) nilS), ⟨(consS (fn_spec_ReasonsText.sound n) nilS), ⟨(consS (fn_impl_ReasonsText.sound n) nilS), ⟨(consS (fn_laws_intactIntS.sound n) nilS), trivial⟩⟩⟩⟩ (A := fn_laws_FnExactReasonsText.A n) (c := fn_laws_FnExactReasonsText.con n) Tryd.func5 (by kernel_rfl) (ok_end (by kernel_rfl)) (fn_laws_FnExactReasonsText.run n) x true hx w vs ha
end
end Go.Proofs.YtecohjcliahbnaaDoor.Z

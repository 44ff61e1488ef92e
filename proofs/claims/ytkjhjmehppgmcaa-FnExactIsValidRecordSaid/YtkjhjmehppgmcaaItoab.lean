/- Contracts of the library at this dump, as the kit's own tool lays them (plain), the few that are wanted here. -/
import Derived.Shelf.LaysM
import Derived.Shelf.Strings.Search3
import Derived.Test.YtkjhjmehppgmcaaProg
namespace Go.Proofs
open Go.Shelf
def Try.lays144_ren : Go.Shelf.Ren := ⟨fun | 144 => 14 | 143 => 16 | 219 => 17 | 217 => 18 | 225 => 19 | 224 => 20 | 267 => 21 | 266 => 22 | 314 => 23 | n => n, fun | 9 => 9 | 4 => 4 | 3 => 3 | 5 => 5 | 46 => 37 | 146 => 39 | 51 => 38 | n => n, fun | 1 => 0 | n => n⟩
theorem Try.lays144 : Go.Proofs.Lays.n144 Try.prog Try.lays144_ren := {
  mixed := by kernel_rfl
  f143 := Try.func16.trans (congrArg some (by kernel_rfl))
  f144 := Try.func14.trans (congrArg some (by kernel_rfl))
  f217 := Try.func18.trans (congrArg some (by kernel_rfl))
  f219 := Try.func17.trans (congrArg some (by kernel_rfl))
  f224 := Try.func20.trans (congrArg some (by kernel_rfl))
  f225 := Try.func19.trans (congrArg some (by kernel_rfl))
  f266 := Try.func22.trans (congrArg some (by kernel_rfl))
  f267 := Try.func21.trans (congrArg some (by kernel_rfl))
  f314 := Try.func23.trans (congrArg some (by kernel_rfl))
  t3 := Try.underlying3
  a3 := Try.isAgg3
  z3 := Try.sizeOf3
  v3 := Try.zeroValue3
  t4 := Try.underlying4
  a4 := Try.isAgg4
  z4 := Try.sizeOf4
  v4 := Try.zeroValue4
  t5 := Try.underlying5
  a5 := Try.isAgg5
  z5 := Try.sizeOf5
  v5 := Try.zeroValue5
  t9 := Try.underlying9
  a9 := Try.isAgg9
  z9 := Try.sizeOf9
  v9 := Try.zeroValue9
  t46 := Try.underlying37
  a46 := Try.isAgg37
  z46 := Try.sizeOf37
  v46 := Try.zeroValue37
  t51 := Try.underlying38
  a51 := Try.isAgg38
  z51 := Try.sizeOf38
  v51 := Try.zeroValue38
  t146 := Try.underlying39
  a146 := Try.isAgg39
  z146 := Try.sizeOf39
  v146 := Try.zeroValue39
  g1 := by kernel_rfl }
open Go.RowKit Go.Lib in
theorem Try.strings_Contains_one (s : ByteArray) (c : UInt8) (w : World) :
    Calls Try.prog 14 #[.string s, .string ⟨#[c]⟩] w fun e w' => e = .returned (.bool (decide (0 ≤ Lib.indexByte s.data.toList c))) ∧ w' = w := Any.strings_Contains_one Try.lays144 s c w
end Go.Proofs

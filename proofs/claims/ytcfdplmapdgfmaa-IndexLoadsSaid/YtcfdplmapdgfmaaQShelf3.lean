import Derived.Shelf.Strings.BuilderK
import Derived.Test.YtcfdplmapdgfmaaProg
namespace Go.Proofs
open Go.Shelf
def Try.lays166_ren : Go.Shelf.Ren := ⟨fun | 166 => 74 | 240 => 97 | 276 => 119 | n => n, fun | 0 => 0 | 3 => 3 | 4 => 4 | 9 => 9 | 20 => 20 | 37 => 46 | 70 => 134 | 72 => 136 | 75 => 138 | 164 => 189 | 5 => 5 | 80 => 74 | n => n, fun | n => n⟩
theorem Try.lays166 : Go.Proofs.Lays.n166 Try.prog Try.lays166_ren := {
 mixed := by kernel_rfl
 f166 := Try.func74.trans (congrArg some (by kernel_rfl))
 f240 := Try.func97.trans (congrArg some (by kernel_rfl))
 f276 := Try.func119.trans (congrArg some (by kernel_rfl))
 t0 := Try.underlying0
 a0 := Try.isAgg0
 z0 := Try.sizeOf0
 v0 := Try.zeroValue0
 t3 := Try.underlying3
 a3 := Try.isAgg3
 z3 := Try.sizeOf3
 v3 := Try.zeroValue3
 t4 := Try.underlying4
 a4 := Try.isAgg4
 z4 := Try.sizeOf4
 v4 := Try.zeroValue4
 t9 := Try.underlying9
 a9 := Try.isAgg9
 z9 := Try.sizeOf9
 v9 := Try.zeroValue9
 t20 := Try.underlying20
 a20 := Try.isAgg20
 z20 := Try.sizeOf20
 v20 := Try.zeroValue20
 t37 := Try.underlying46
 a37 := Try.isAgg46
 z37 := Try.sizeOf46
 v37 := Try.zeroValue46
 t70 := Try.underlying134
 a70 := Try.isAgg134
 z70 := Try.sizeOf134
 v70 := Try.zeroValue134
 t72 := Try.underlying136
 a72 := Try.isAgg136
 z72 := Try.sizeOf136
 v72 := Try.zeroValue136
 t75 := Try.underlying138
 a75 := Try.isAgg138
 z75 := Try.sizeOf138
 v75 := Try.zeroValue138
 t164 := Try.underlying189
 a164 := Try.isAgg189
 z164 := Try.sizeOf189
 v164 := Try.zeroValue189 }
theorem Try.Builder_Extra_166 : Builder.Extra Try.prog Try.lays166_ren := {
 sizeBuilder := by kernel_rfl
 liesBuilder := by kernel_rfl
 t5 := Try.underlying5
 a5 := Try.isAgg5
 z5 := Try.sizeOf5
 v5 := Try.zeroValue5
 infoByte := by kernel_rfl
 cellsByte := by kernel_rfl
 sizeByte := by kernel_rfl
 neB5 := by decide }
end Go.Proofs

/- Contracts on a map's copy and on two maps held against each other, laid at this seat. (Its numbers are one seat's own: printed by wip/mkeq.py.) -/
import Derived.Shelf.SlMaps.Clone
import Derived.Shelf.SlMaps.Equal
import Derived.Ground.SlmcProg
import Derived.Ground.SlmeProg
import Derived.Test.YthfgblchlgodmaaProg
namespace Go.Proofs.Ythfgblchlgodmaa
open Go.RowKit Go.Maps Go.Shelf
set_option linter.unusedVariables false
def Try.clone36_ren : Go.Shelf.Ren := ⟨fun | 5 => 36 | 7 => 49 | n => n, fun | 23 => 71 | 25 => 9 | 3 => 9 | 4 => 4 | 20 => 20 | n => n, fun | n => n⟩
theorem Try.clone36 : Go.Proofs.SlLaysW.n5 Try.prog Try.clone36_ren := {
  mixed := by kernel_rfl
  f5 := ⟨Try.f36.name, by decide, Try.func36.trans (congrArg some (by kernel_rfl))⟩
  f7 := Try.func49.trans (congrArg some (by kernel_rfl))
  t4 := Try.underlying4
  a4 := Try.isAgg4
  z4 := Try.sizeOf4
  v4 := Try.zeroValue4
  t20 := Try.underlying20
  a20 := Try.isAgg20
  z20 := Try.sizeOf20
  v20 := Try.zeroValue20
  t23 := Try.underlying71
  a23 := Try.isAgg71
  z23 := Try.sizeOf71
  v23 := Try.zeroValue71 }
def Try.equal39_ren : Go.Shelf.Ren := ⟨fun | 6 => 39 | n => n, fun | 23 => 71 | 24 => 71 | 26 => 9 | 27 => 9 | 4 => 4 | 3 => 3 | 0 => 0 | 36 => 33 | n => n, fun | n => n⟩
theorem Try.equal39 : Go.Proofs.SlLaysEq.n6 Try.prog Try.equal39_ren := {
  mixed := by kernel_rfl
  f6 := ⟨Try.f39.name, by decide, Try.func39.trans (congrArg some (by kernel_rfl))⟩
  t0 := Try.underlying0
  a0 := Try.isAgg0
  z0 := Try.sizeOf0
  v0 := Try.zeroValue0
  t3 := Try.underlying3
  a3 := Try.isAgg3
  z3 := Try.sizeOf3
  v3 := Try.zeroValue3
  t4 := Try.underlying4
  a4 := Try.isAgg4
  z4 := Try.sizeOf4
  v4 := Try.zeroValue4
  t23 := Try.underlying71
  a23 := Try.isAgg71
  z23 := Try.sizeOf71
  v23 := Try.zeroValue71
  t24 := Try.underlying71
  a24 := Try.isAgg71
  z24 := Try.sizeOf71
  v24 := Try.zeroValue71
  a26 := Try.isAgg9
  z26 := Try.sizeOf9
  a27 := Try.isAgg9
  z27 := Try.sizeOf9
  t36 := Try.underlying33
  a36 := Try.isAgg33
  z36 := Try.sizeOf33 }
end Go.Proofs.Ythfgblchlgodmaa

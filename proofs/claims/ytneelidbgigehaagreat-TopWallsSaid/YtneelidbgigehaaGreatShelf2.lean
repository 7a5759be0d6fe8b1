/-
  DERIVED: THE SHELF's CONTRACTS AT THIS DUMP, IN PLAIN WORDS (tools/lay-plain.mjs out of 'YtneelidbgigehaaGreatShelf2.lean', which tools/lay-shelf.mjs wrote): THE SAME DECLARATIONS UNDER THE SAME NAMES: 'import', 'namespace', 'open', 'def', 'theorem' AND NOTHING ELSE: no command of the shelf's: FOR A HAND-IN. Each laying: the table of numbers ('.._ren') and one theorem, a field a fact of the dump's own or the kernel's comparison; each contract: ONE APPLICATION.
-/
import Derived.Shelf.SortG.Plain
import Derived.Shelf.SortG.SortNone
import Derived.Shelf.SlicesG.CompactI
import Derived.Ground.SlgnProg
import Derived.Test.YtneelidbgigehaaGreatProg
namespace Go.Proofs
open Go.Shelf
def Tryz.sortInts_ren : Go.Shelf.Ren := ⟨fun | 53 => 108 | 64 => 56 | 63 => 146 | 78 => 101 | 79 => 102 | 70 => 172 | 71 => 173 | 72 => 174 | 73 => 175 | 74 => 176 | 75 => 177 | 59 => 178 | 76 => 179 | 77 => 180 | 88 => 189 | 89 => 142 | 90 => 143 | 91 => 190 | 92 => 191 | 68 => 119 | 96 => 194 | n => n, fun | 22 => 163 | 23 => 3 | 3 => 3 | 51 => 104 | 0 => 0 | 67 => 154 | 69 => 156 | 4 => 4 | 61 => 147 | 60 => 146 | 44 => 151 | 5 => 5 | 9 => 9 | 75 => 189 | 79 => 193 | 83 => 212 | 84 => 57 | n => n, fun | n => n⟩
theorem Tryz.sortInts : Go.Proofs.SlLaysN.n53 Tryz.prog Tryz.sortInts_ren := {
  mixed := by kernel_rfl
  f53 := ⟨Tryz.f108.name, by decide, Tryz.func108.trans (congrArg some (by kernel_rfl))⟩
  f59 := ⟨Tryz.f178.name, by decide, Tryz.func178.trans (congrArg some (by kernel_rfl))⟩
  f63 := ⟨Tryz.f146.name, by decide, Tryz.func146.trans (congrArg some (by kernel_rfl))⟩
  f64 := Tryz.func56.trans (congrArg some (by kernel_rfl))
  f68 := ⟨Tryz.f119.name, by decide, Tryz.func119.trans (congrArg some (by kernel_rfl))⟩
  f70 := ⟨Tryz.f172.name, by decide, Tryz.func172.trans (congrArg some (by kernel_rfl))⟩
  f71 := ⟨Tryz.f173.name, by decide, Tryz.func173.trans (congrArg some (by kernel_rfl))⟩
  f72 := ⟨Tryz.f174.name, by decide, Tryz.func174.trans (congrArg some (by kernel_rfl))⟩
  f73 := ⟨Tryz.f175.name, by decide, Tryz.func175.trans (congrArg some (by kernel_rfl))⟩
  f74 := ⟨Tryz.f176.name, by decide, Tryz.func176.trans (congrArg some (by kernel_rfl))⟩
  f75 := ⟨Tryz.f177.name, by decide, Tryz.func177.trans (congrArg some (by kernel_rfl))⟩
  f76 := ⟨Tryz.f179.name, by decide, Tryz.func179.trans (congrArg some (by kernel_rfl))⟩
  f77 := ⟨Tryz.f180.name, by decide, Tryz.func180.trans (congrArg some (by kernel_rfl))⟩
  f78 := Tryz.func101.trans (congrArg some (by kernel_rfl))
  f79 := Tryz.func102.trans (congrArg some (by kernel_rfl))
  f88 := ⟨Tryz.f189.name, by decide, Tryz.func189.trans (congrArg some (by kernel_rfl))⟩
  f89 := Tryz.func142.trans (congrArg some (by kernel_rfl))
  f90 := Tryz.func143.trans (congrArg some (by kernel_rfl))
  f91 := ⟨Tryz.f190.name, by decide, Tryz.func190.trans (congrArg some (by kernel_rfl))⟩
  f92 := ⟨Tryz.f191.name, by decide, Tryz.func191.trans (congrArg some (by kernel_rfl))⟩
  f96 := ⟨Tryz.f194.name, by decide, Tryz.func194.trans (congrArg some (by kernel_rfl))⟩
  t0 := Tryz.underlying0
  a0 := Tryz.isAgg0
  z0 := Tryz.sizeOf0
  v0 := Tryz.zeroValue0
  t3 := Tryz.underlying3
  a3 := Tryz.isAgg3
  z3 := Tryz.sizeOf3
  v3 := Tryz.zeroValue3
  t4 := Tryz.underlying4
  a4 := Tryz.isAgg4
  z4 := Tryz.sizeOf4
  v4 := Tryz.zeroValue4
  t5 := Tryz.underlying5
  a5 := Tryz.isAgg5
  z5 := Tryz.sizeOf5
  v5 := Tryz.zeroValue5
  t9 := Tryz.underlying9
  a9 := Tryz.isAgg9
  z9 := Tryz.sizeOf9
  v9 := Tryz.zeroValue9
  t22 := Tryz.underlying163
  a22 := Tryz.isAgg163
  z22 := Tryz.sizeOf163
  v22 := Tryz.zeroValue163
  t23 := Tryz.underlying3
  a23 := Tryz.isAgg3
  z23 := Tryz.sizeOf3
  v23 := Tryz.zeroValue3
  t44 := Tryz.underlying151
  a44 := Tryz.isAgg151
  z44 := Tryz.sizeOf151
  v44 := Tryz.zeroValue151
  t51 := Tryz.underlying104
  a51 := Tryz.isAgg104
  z51 := Tryz.sizeOf104
  v51 := Tryz.zeroValue104
  t60 := Tryz.underlying146
  a60 := Tryz.isAgg146
  z60 := Tryz.sizeOf146
  v60 := Tryz.zeroValue146
  t61 := Tryz.underlying147
  a61 := Tryz.isAgg147
  z61 := Tryz.sizeOf147
  v61 := Tryz.zeroValue147
  t67 := Tryz.underlying154
  a67 := Tryz.isAgg154
  z67 := Tryz.sizeOf154
  v67 := Tryz.zeroValue154
  t69 := Tryz.underlying156
  a69 := Tryz.isAgg156
  z69 := Tryz.sizeOf156
  v69 := Tryz.zeroValue156
  t75 := Tryz.underlying189
  a75 := Tryz.isAgg189
  z75 := Tryz.sizeOf189
  v75 := Tryz.zeroValue189
  t79 := Tryz.underlying193
  a79 := Tryz.isAgg193
  z79 := Tryz.sizeOf193
  v79 := Tryz.zeroValue193
  t83 := Tryz.underlying212
  a83 := Tryz.isAgg212
  z83 := Tryz.sizeOf212
  v83 := Tryz.zeroValue212
  t84 := Tryz.underlying57
  a84 := Tryz.isAgg57
  z84 := Tryz.sizeOf57
  v84 := Tryz.zeroValue57 }
def Tryz.compactInts_ren : Go.Shelf.Ren := ⟨fun | 43 => 109 | n => n, fun | 22 => 163 | 23 => 3 | 3 => 3 | 4 => 4 | 0 => 0 | n => n, fun | n => n⟩
theorem Tryz.compactInts : Go.Proofs.SlLaysN.n43 Tryz.prog Tryz.compactInts_ren := {
  mixed := by kernel_rfl
  f43 := ⟨Tryz.f109.name, by decide, Tryz.func109.trans (congrArg some (by kernel_rfl))⟩
  t0 := Tryz.underlying0
  a0 := Tryz.isAgg0
  z0 := Tryz.sizeOf0
  v0 := Tryz.zeroValue0
  t3 := Tryz.underlying3
  a3 := Tryz.isAgg3
  z3 := Tryz.sizeOf3
  v3 := Tryz.zeroValue3
  t4 := Tryz.underlying4
  a4 := Tryz.isAgg4
  z4 := Tryz.sizeOf4
  v4 := Tryz.zeroValue4
  t22 := Tryz.underlying163
  a22 := Tryz.isAgg163
  z22 := Tryz.sizeOf163
  v22 := Tryz.zeroValue163
  t23 := Tryz.underlying3
  a23 := Tryz.isAgg3
  z23 := Tryz.sizeOf3
  v23 := Tryz.zeroValue3
  i23 := by kernel_rfl }
end Go.Proofs

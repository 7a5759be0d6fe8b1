/-
  DERIVED: THE SHELF's CONTRACTS AT THIS DUMP, IN PLAIN WORDS (tools/lay-plain.mjs out of 'YtjppaknajdbkgaaShelf2.lean', which tools/lay-shelf.mjs wrote): THE SAME DECLARATIONS UNDER THE SAME NAMES: 'import', 'namespace', 'open', 'def', 'theorem' AND NOTHING ELSE: no command of the shelf's: FOR A HAND-IN. Each laying: the table of numbers ('.._ren') and one theorem, a field a fact of the dump's own or the kernel's comparison; each contract: ONE APPLICATION.
-/
import Derived.Shelf.SortG.Plain
import Derived.Shelf.SortG.SortNone
import Derived.Shelf.SlicesG.CompactI
import Derived.Ground.SlgnProg
import Derived.Test.YtjppaknajdbkgaaProg
namespace Go.Proofs
open Go.Shelf
def Try.sortInts_ren : Go.Shelf.Ren := ⟨fun | 53 => 86 | 64 => 105 | 63 => 104 | 78 => 119 | 79 => 120 | 70 => 110 | 71 => 111 | 72 => 112 | 73 => 113 | 74 => 114 | 75 => 115 | 59 => 116 | 76 => 117 | 77 => 118 | 88 => 121 | 89 => 122 | 90 => 123 | 91 => 124 | 92 => 125 | 68 => 103 | 96 => 126 | n => n, fun | 22 => 86 | 23 => 3 | 3 => 3 | 51 => 101 | 0 => 0 | 67 => 117 | 69 => 119 | 4 => 4 | 61 => 110 | 60 => 109 | 44 => 82 | 5 => 5 | 9 => 9 | 75 => 120 | 79 => 124 | 83 => 126 | 84 => 127 | n => n, fun | n => n⟩
theorem Try.sortInts : Go.Proofs.SlLaysN.n53 Try.prog Try.sortInts_ren := {
  mixed := by kernel_rfl
  f53 := ⟨Try.f86.name, by decide, Try.func86.trans (congrArg some (by kernel_rfl))⟩
  f59 := ⟨Try.f116.name, by decide, Try.func116.trans (congrArg some (by kernel_rfl))⟩
  f63 := ⟨Try.f104.name, by decide, Try.func104.trans (congrArg some (by kernel_rfl))⟩
  f64 := Try.func105.trans (congrArg some (by kernel_rfl))
  f68 := ⟨Try.f103.name, by decide, Try.func103.trans (congrArg some (by kernel_rfl))⟩
  f70 := ⟨Try.f110.name, by decide, Try.func110.trans (congrArg some (by kernel_rfl))⟩
  f71 := ⟨Try.f111.name, by decide, Try.func111.trans (congrArg some (by kernel_rfl))⟩
  f72 := ⟨Try.f112.name, by decide, Try.func112.trans (congrArg some (by kernel_rfl))⟩
  f73 := ⟨Try.f113.name, by decide, Try.func113.trans (congrArg some (by kernel_rfl))⟩
  f74 := ⟨Try.f114.name, by decide, Try.func114.trans (congrArg some (by kernel_rfl))⟩
  f75 := ⟨Try.f115.name, by decide, Try.func115.trans (congrArg some (by kernel_rfl))⟩
  f76 := ⟨Try.f117.name, by decide, Try.func117.trans (congrArg some (by kernel_rfl))⟩
  f77 := ⟨Try.f118.name, by decide, Try.func118.trans (congrArg some (by kernel_rfl))⟩
  f78 := Try.func119.trans (congrArg some (by kernel_rfl))
  f79 := Try.func120.trans (congrArg some (by kernel_rfl))
  f88 := ⟨Try.f121.name, by decide, Try.func121.trans (congrArg some (by kernel_rfl))⟩
  f89 := Try.func122.trans (congrArg some (by kernel_rfl))
  f90 := Try.func123.trans (congrArg some (by kernel_rfl))
  f91 := ⟨Try.f124.name, by decide, Try.func124.trans (congrArg some (by kernel_rfl))⟩
  f92 := ⟨Try.f125.name, by decide, Try.func125.trans (congrArg some (by kernel_rfl))⟩
  f96 := ⟨Try.f126.name, by decide, Try.func126.trans (congrArg some (by kernel_rfl))⟩
  t0 := Try.underlying0
  a0 := Try.isAgg0
  z0 := Try.sizeOf0
  v0 := Try.zeroValue0
  t3 := Try.underlying3
  a3 := Try.isAgg3
  z3 := Try.sizeOf3
  v3 := Try.zeroValue3
  t4 := Try.underlying4
  a4 := Try.isAgg4
  z4 := Try.sizeOf4
  v4 := Try.zeroValue4
  t5 := Try.underlying5
  a5 := Try.isAgg5
  z5 := Try.sizeOf5
  v5 := Try.zeroValue5
  t9 := Try.underlying9
  a9 := Try.isAgg9
  z9 := Try.sizeOf9
  v9 := Try.zeroValue9
  t22 := Try.underlying86
  a22 := Try.isAgg86
  z22 := Try.sizeOf86
  v22 := Try.zeroValue86
  t23 := Try.underlying3
  a23 := Try.isAgg3
  z23 := Try.sizeOf3
  v23 := Try.zeroValue3
  t44 := Try.underlying82
  a44 := Try.isAgg82
  z44 := Try.sizeOf82
  v44 := Try.zeroValue82
  t51 := Try.underlying101
  a51 := Try.isAgg101
  z51 := Try.sizeOf101
  v51 := Try.zeroValue101
  t60 := Try.underlying109
  a60 := Try.isAgg109
  z60 := Try.sizeOf109
  v60 := Try.zeroValue109
  t61 := Try.underlying110
  a61 := Try.isAgg110
  z61 := Try.sizeOf110
  v61 := Try.zeroValue110
  t67 := Try.underlying117
  a67 := Try.isAgg117
  z67 := Try.sizeOf117
  v67 := Try.zeroValue117
  t69 := Try.underlying119
  a69 := Try.isAgg119
  z69 := Try.sizeOf119
  v69 := Try.zeroValue119
  t75 := Try.underlying120
  a75 := Try.isAgg120
  z75 := Try.sizeOf120
  v75 := Try.zeroValue120
  t79 := Try.underlying124
  a79 := Try.isAgg124
  z79 := Try.sizeOf124
  v79 := Try.zeroValue124
  t83 := Try.underlying126
  a83 := Try.isAgg126
  z83 := Try.sizeOf126
  v83 := Try.zeroValue126
  t84 := Try.underlying127
  a84 := Try.isAgg127
  z84 := Try.sizeOf127
  v84 := Try.zeroValue127 }
def Try.compactInts_ren : Go.Shelf.Ren := ⟨fun | 43 => 87 | n => n, fun | 22 => 86 | 23 => 3 | 3 => 3 | 4 => 4 | 0 => 0 | n => n, fun | n => n⟩
theorem Try.compactInts : Go.Proofs.SlLaysN.n43 Try.prog Try.compactInts_ren := {
  mixed := by kernel_rfl
  f43 := ⟨Try.f87.name, by decide, Try.func87.trans (congrArg some (by kernel_rfl))⟩
  t0 := Try.underlying0
  a0 := Try.isAgg0
  z0 := Try.sizeOf0
  v0 := Try.zeroValue0
  t3 := Try.underlying3
  a3 := Try.isAgg3
  z3 := Try.sizeOf3
  v3 := Try.zeroValue3
  t4 := Try.underlying4
  a4 := Try.isAgg4
  z4 := Try.sizeOf4
  v4 := Try.zeroValue4
  t22 := Try.underlying86
  a22 := Try.isAgg86
  z22 := Try.sizeOf86
  v22 := Try.zeroValue86
  t23 := Try.underlying3
  a23 := Try.isAgg3
  z23 := Try.sizeOf3
  v23 := Try.zeroValue3
  i23 := by kernel_rfl }
end Go.Proofs

/-
  DERIVED: THE SHELF's CONTRACTS AT THIS DUMP, IN PLAIN WORDS (tools/lay-plain.mjs out of 'YtfoedkdmckhihaaShelf2.lean', which tools/lay-shelf.mjs wrote): THE SAME DECLARATIONS UNDER THE SAME NAMES: 'import', 'namespace', 'open', 'def', 'theorem' AND NOTHING ELSE: no command of the shelf's: FOR A HAND-IN. Each laying: the table of numbers ('.._ren') and one theorem, a field a fact of the dump's own or the kernel's comparison; each contract: ONE APPLICATION.
-/
import Derived.Shelf.SortG.Plain
import Derived.Shelf.SortG.SortNone
import Derived.Shelf.SlicesG.CompactI
import Derived.Ground.SlgnProg
import Derived.Test.YtfoedkdmckhihaaProg
namespace Go.Proofs
open Go.Shelf
def Try.sortInts_ren : Go.Shelf.Ren := ⟨fun | 53 => 74 | 64 => 89 | 63 => 88 | 78 => 107 | 79 => 108 | 70 => 98 | 71 => 99 | 72 => 100 | 73 => 101 | 74 => 102 | 75 => 103 | 59 => 104 | 76 => 105 | 77 => 106 | 88 => 112 | 89 => 113 | 90 => 114 | 91 => 115 | 92 => 116 | 68 => 87 | 96 => 118 | n => n, fun | 22 => 88 | 23 => 3 | 3 => 3 | 51 => 98 | 0 => 0 | 67 => 117 | 69 => 119 | 4 => 4 | 61 => 110 | 60 => 109 | 44 => 84 | 5 => 5 | 9 => 9 | 75 => 122 | 79 => 126 | 83 => 129 | 84 => 130 | n => n, fun | n => n⟩
theorem Try.sortInts : Go.Proofs.SlLaysN.n53 Try.prog Try.sortInts_ren := {
  mixed := by kernel_rfl
  f53 := ⟨Try.f74.name, by decide, Try.func74.trans (congrArg some (by kernel_rfl))⟩
  f59 := ⟨Try.f104.name, by decide, Try.func104.trans (congrArg some (by kernel_rfl))⟩
  f63 := ⟨Try.f88.name, by decide, Try.func88.trans (congrArg some (by kernel_rfl))⟩
  f64 := Try.func89.trans (congrArg some (by kernel_rfl))
  f68 := ⟨Try.f87.name, by decide, Try.func87.trans (congrArg some (by kernel_rfl))⟩
  f70 := ⟨Try.f98.name, by decide, Try.func98.trans (congrArg some (by kernel_rfl))⟩
  f71 := ⟨Try.f99.name, by decide, Try.func99.trans (congrArg some (by kernel_rfl))⟩
  f72 := ⟨Try.f100.name, by decide, Try.func100.trans (congrArg some (by kernel_rfl))⟩
  f73 := ⟨Try.f101.name, by decide, Try.func101.trans (congrArg some (by kernel_rfl))⟩
  f74 := ⟨Try.f102.name, by decide, Try.func102.trans (congrArg some (by kernel_rfl))⟩
  f75 := ⟨Try.f103.name, by decide, Try.func103.trans (congrArg some (by kernel_rfl))⟩
  f76 := ⟨Try.f105.name, by decide, Try.func105.trans (congrArg some (by kernel_rfl))⟩
  f77 := ⟨Try.f106.name, by decide, Try.func106.trans (congrArg some (by kernel_rfl))⟩
  f78 := Try.func107.trans (congrArg some (by kernel_rfl))
  f79 := Try.func108.trans (congrArg some (by kernel_rfl))
  f88 := ⟨Try.f112.name, by decide, Try.func112.trans (congrArg some (by kernel_rfl))⟩
  f89 := Try.func113.trans (congrArg some (by kernel_rfl))
  f90 := Try.func114.trans (congrArg some (by kernel_rfl))
  f91 := ⟨Try.f115.name, by decide, Try.func115.trans (congrArg some (by kernel_rfl))⟩
  f92 := ⟨Try.f116.name, by decide, Try.func116.trans (congrArg some (by kernel_rfl))⟩
  f96 := ⟨Try.f118.name, by decide, Try.func118.trans (congrArg some (by kernel_rfl))⟩
  t0 := Try.underlying0
  a0 := Try.isAgg0
  z0 := Try.sizeOf0
  v0 := Try.zeroValue0
  t3 := Try.underlying3
  a3 := Try.isAgg3
  z3 := Try.sizeOf3
  v3 := Try.zeroValue3
  t4 := Try.underlying4
  a4 := Try.isAgg4
  z4 := Try.sizeOf4
  v4 := Try.zeroValue4
  t5 := Try.underlying5
  a5 := Try.isAgg5
  z5 := Try.sizeOf5
  v5 := Try.zeroValue5
  t9 := Try.underlying9
  a9 := Try.isAgg9
  z9 := Try.sizeOf9
  v9 := Try.zeroValue9
  t22 := Try.underlying88
  a22 := Try.isAgg88
  z22 := Try.sizeOf88
  v22 := Try.zeroValue88
  t23 := Try.underlying3
  a23 := Try.isAgg3
  z23 := Try.sizeOf3
  v23 := Try.zeroValue3
  t44 := Try.underlying84
  a44 := Try.isAgg84
  z44 := Try.sizeOf84
  v44 := Try.zeroValue84
  t51 := Try.underlying98
  a51 := Try.isAgg98
  z51 := Try.sizeOf98
  v51 := Try.zeroValue98
  t60 := Try.underlying109
  a60 := Try.isAgg109
  z60 := Try.sizeOf109
  v60 := Try.zeroValue109
  t61 := Try.underlying110
  a61 := Try.isAgg110
  z61 := Try.sizeOf110
  v61 := Try.zeroValue110
  t67 := Try.underlying117
  a67 := Try.isAgg117
  z67 := Try.sizeOf117
  v67 := Try.zeroValue117
  t69 := Try.underlying119
  a69 := Try.isAgg119
  z69 := Try.sizeOf119
  v69 := Try.zeroValue119
  t75 := Try.underlying122
  a75 := Try.isAgg122
  z75 := Try.sizeOf122
  v75 := Try.zeroValue122
  t79 := Try.underlying126
  a79 := Try.isAgg126
  z79 := Try.sizeOf126
  v79 := Try.zeroValue126
  t83 := Try.underlying129
  a83 := Try.isAgg129
  z83 := Try.sizeOf129
  v83 := Try.zeroValue129
  t84 := Try.underlying130
  a84 := Try.isAgg130
  z84 := Try.sizeOf130
  v84 := Try.zeroValue130 }
def Try.compactInts_ren : Go.Shelf.Ren := ⟨fun | 43 => 75 | n => n, fun | 22 => 88 | 23 => 3 | 3 => 3 | 4 => 4 | 0 => 0 | n => n, fun | n => n⟩
theorem Try.compactInts : Go.Proofs.SlLaysN.n43 Try.prog Try.compactInts_ren := {
  mixed := by kernel_rfl
  f43 := ⟨Try.f75.name, by decide, Try.func75.trans (congrArg some (by kernel_rfl))⟩
  t0 := Try.underlying0
  a0 := Try.isAgg0
  z0 := Try.sizeOf0
  v0 := Try.zeroValue0
  t3 := Try.underlying3
  a3 := Try.isAgg3
  z3 := Try.sizeOf3
  v3 := Try.zeroValue3
  t4 := Try.underlying4
  a4 := Try.isAgg4
  z4 := Try.sizeOf4
  v4 := Try.zeroValue4
  t22 := Try.underlying88
  a22 := Try.isAgg88
  z22 := Try.sizeOf88
  v22 := Try.zeroValue88
  t23 := Try.underlying3
  a23 := Try.isAgg3
  z23 := Try.sizeOf3
  v23 := Try.zeroValue3
  i23 := by kernel_rfl }
end Go.Proofs

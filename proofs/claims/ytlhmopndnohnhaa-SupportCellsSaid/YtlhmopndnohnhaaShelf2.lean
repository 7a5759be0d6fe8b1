/-
  DERIVED: THE SHELF's CONTRACTS AT THIS DUMP, IN PLAIN WORDS (tools/lay-plain.mjs out of 'YtlhmopndnohnhaaShelf2.lean', which tools/lay-shelf.mjs wrote): THE SAME DECLARATIONS UNDER THE SAME NAMES: 'import', 'namespace', 'open', 'def', 'theorem' AND NOTHING ELSE: no command of the shelf's: FOR A HAND-IN. Each laying: the table of numbers ('.._ren') and one theorem, a field a fact of the dump's own or the kernel's comparison; each contract: ONE APPLICATION.
-/
import Derived.Shelf.SortG.Plain
import Derived.Shelf.SortG.SortNone
import Derived.Shelf.SlicesG.CompactI
import Derived.Ground.SlgnProg
import Derived.Test.YtlhmopndnohnhaaProg
namespace Go.Proofs
open Go.Shelf
def Try.sortInts_ren : Go.Shelf.Ren := ⟨fun | 53 => 58 | 64 => 77 | 63 => 76 | 78 => 94 | 79 => 95 | 70 => 85 | 71 => 86 | 72 => 87 | 73 => 88 | 74 => 89 | 75 => 90 | 59 => 91 | 76 => 92 | 77 => 93 | 88 => 97 | 89 => 98 | 90 => 99 | 91 => 100 | 92 => 101 | 68 => 79 | 96 => 102 | n => n, fun | 22 => 76 | 23 => 3 | 3 => 3 | 51 => 94 | 0 => 0 | 67 => 109 | 69 => 111 | 4 => 4 | 61 => 102 | 60 => 101 | 44 => 82 | 5 => 5 | 9 => 9 | 75 => 113 | 79 => 117 | 83 => 119 | 84 => 120 | n => n, fun | n => n⟩
theorem Try.sortInts : Go.Proofs.SlLaysN.n53 Try.prog Try.sortInts_ren := {
  mixed := by kernel_rfl
  f53 := ⟨Try.f58.name, by decide, Try.func58.trans (congrArg some (by kernel_rfl))⟩
  f59 := ⟨Try.f91.name, by decide, Try.func91.trans (congrArg some (by kernel_rfl))⟩
  f63 := ⟨Try.f76.name, by decide, Try.func76.trans (congrArg some (by kernel_rfl))⟩
  f64 := Try.func77.trans (congrArg some (by kernel_rfl))
  f68 := ⟨Try.f79.name, by decide, Try.func79.trans (congrArg some (by kernel_rfl))⟩
  f70 := ⟨Try.f85.name, by decide, Try.func85.trans (congrArg some (by kernel_rfl))⟩
  f71 := ⟨Try.f86.name, by decide, Try.func86.trans (congrArg some (by kernel_rfl))⟩
  f72 := ⟨Try.f87.name, by decide, Try.func87.trans (congrArg some (by kernel_rfl))⟩
  f73 := ⟨Try.f88.name, by decide, Try.func88.trans (congrArg some (by kernel_rfl))⟩
  f74 := ⟨Try.f89.name, by decide, Try.func89.trans (congrArg some (by kernel_rfl))⟩
  f75 := ⟨Try.f90.name, by decide, Try.func90.trans (congrArg some (by kernel_rfl))⟩
  f76 := ⟨Try.f92.name, by decide, Try.func92.trans (congrArg some (by kernel_rfl))⟩
  f77 := ⟨Try.f93.name, by decide, Try.func93.trans (congrArg some (by kernel_rfl))⟩
  f78 := Try.func94.trans (congrArg some (by kernel_rfl))
  f79 := Try.func95.trans (congrArg some (by kernel_rfl))
  f88 := ⟨Try.f97.name, by decide, Try.func97.trans (congrArg some (by kernel_rfl))⟩
  f89 := Try.func98.trans (congrArg some (by kernel_rfl))
  f90 := Try.func99.trans (congrArg some (by kernel_rfl))
  f91 := ⟨Try.f100.name, by decide, Try.func100.trans (congrArg some (by kernel_rfl))⟩
  f92 := ⟨Try.f101.name, by decide, Try.func101.trans (congrArg some (by kernel_rfl))⟩
  f96 := ⟨Try.f102.name, by decide, Try.func102.trans (congrArg some (by kernel_rfl))⟩
  t0 := Try.underlying0
  a0 := Try.isAgg0
  z0 := Try.sizeOf0
  v0 := Try.zeroValue0
  t3 := Try.underlying3
  a3 := Try.isAgg3
  z3 := Try.sizeOf3
  v3 := Try.zeroValue3
  t4 := Try.underlying4
  a4 := Try.isAgg4
  z4 := Try.sizeOf4
  v4 := Try.zeroValue4
  t5 := Try.underlying5
  a5 := Try.isAgg5
  z5 := Try.sizeOf5
  v5 := Try.zeroValue5
  t9 := Try.underlying9
  a9 := Try.isAgg9
  z9 := Try.sizeOf9
  v9 := Try.zeroValue9
  t22 := Try.underlying76
  a22 := Try.isAgg76
  z22 := Try.sizeOf76
  v22 := Try.zeroValue76
  t23 := Try.underlying3
  a23 := Try.isAgg3
  z23 := Try.sizeOf3
  v23 := Try.zeroValue3
  t44 := Try.underlying82
  a44 := Try.isAgg82
  z44 := Try.sizeOf82
  v44 := Try.zeroValue82
  t51 := Try.underlying94
  a51 := Try.isAgg94
  z51 := Try.sizeOf94
  v51 := Try.zeroValue94
  t60 := Try.underlying101
  a60 := Try.isAgg101
  z60 := Try.sizeOf101
  v60 := Try.zeroValue101
  t61 := Try.underlying102
  a61 := Try.isAgg102
  z61 := Try.sizeOf102
  v61 := Try.zeroValue102
  t67 := Try.underlying109
  a67 := Try.isAgg109
  z67 := Try.sizeOf109
  v67 := Try.zeroValue109
  t69 := Try.underlying111
  a69 := Try.isAgg111
  z69 := Try.sizeOf111
  v69 := Try.zeroValue111
  t75 := Try.underlying113
  a75 := Try.isAgg113
  z75 := Try.sizeOf113
  v75 := Try.zeroValue113
  t79 := Try.underlying117
  a79 := Try.isAgg117
  z79 := Try.sizeOf117
  v79 := Try.zeroValue117
  t83 := Try.underlying119
  a83 := Try.isAgg119
  z83 := Try.sizeOf119
  v83 := Try.zeroValue119
  t84 := Try.underlying120
  a84 := Try.isAgg120
  z84 := Try.sizeOf120
  v84 := Try.zeroValue120 }
def Try.compactInts_ren : Go.Shelf.Ren := ⟨fun | 43 => 59 | n => n, fun | 22 => 76 | 23 => 3 | 3 => 3 | 4 => 4 | 0 => 0 | n => n, fun | n => n⟩
theorem Try.compactInts : Go.Proofs.SlLaysN.n43 Try.prog Try.compactInts_ren := {
  mixed := by kernel_rfl
  f43 := ⟨Try.f59.name, by decide, Try.func59.trans (congrArg some (by kernel_rfl))⟩
  t0 := Try.underlying0
  a0 := Try.isAgg0
  z0 := Try.sizeOf0
  v0 := Try.zeroValue0
  t3 := Try.underlying3
  a3 := Try.isAgg3
  z3 := Try.sizeOf3
  v3 := Try.zeroValue3
  t4 := Try.underlying4
  a4 := Try.isAgg4
  z4 := Try.sizeOf4
  v4 := Try.zeroValue4
  t22 := Try.underlying76
  a22 := Try.isAgg76
  z22 := Try.sizeOf76
  v22 := Try.zeroValue76
  t23 := Try.underlying3
  a23 := Try.isAgg3
  z23 := Try.sizeOf3
  v23 := Try.zeroValue3
  i23 := by kernel_rfl }
end Go.Proofs

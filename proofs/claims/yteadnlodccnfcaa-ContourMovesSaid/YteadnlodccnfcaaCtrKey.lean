/- Points as keys of maps. -/
import Derived.Test.YteadnlodccnfcaaMapEnt
import Derived.Test.YteadnlodccnfcaaMapStruct
import Derived.Test.YteadnlodccnfcaaRowKit
import Derived.DeepKeys4
namespace Go.Proofs.Yteadnlodccnfcaa
set_option linter.unusedSimpArgs false
set_option linter.unusedVariables false
set_option maxRecDepth 100000
open Go Go.Maps Go.RowKit
theorem ptRow : (36 : TypeId) < Try.prog.types.size := of_decide_eq_true (by kernel_rfl)
theorem ptLaw : Go.WideMaps.KeyLaw Try.prog 36 := deep_law_laid laidOut (m := 2) (by omega) ptRow (by kernel_rfl) (by rw [Try.underlying36])
theorem ptKeyed : Keyed Try.prog 36 := Keyed.of_law ptLaw
theorem ptKey : KeyT Try.prog 36 :=
  keyT_of (I := 3) ptKeyed Try.underlying36 (by decide) (by decide) Try.underlying3 (by kernel_rfl) (by kernel_rfl) (by kernel_rfl) ⟨Try.prog.types.size - 1, (Nat.sub_add_cancel (Nat.succ_le_of_lt (Nat.lt_of_le_of_lt (Nat.zero_le _) ptRow))).symm⟩
end Go.Proofs.Yteadnlodccnfcaa

/- Points as keys of maps. -/
import Derived.Test.YtneelidbgigehaaGreatMapEnt
import Derived.Test.YtneelidbgigehaaGreatMapStruct
import Derived.Test.YtneelidbgigehaaGreatRowKit
import Derived.DeepKeys4
namespace Go.Proofs.YtneelidbgigehaaGreat
set_option linter.unusedSimpArgs false
set_option linter.unusedVariables false
set_option maxRecDepth 100000
open Go Go.Maps Go.RowKit
theorem ptRow : (60 : TypeId) < Tryz.prog.types.size := of_decide_eq_true (by kernel_rfl)
theorem ptLaw : Go.WideMaps.KeyLaw Tryz.prog 60 := deep_law_laid laidOut (m := 2) (by omega) ptRow (by kernel_rfl) (by rw [Tryz.underlying60])
theorem ptKeyed : Keyed Tryz.prog 60 := Keyed.of_law ptLaw
theorem ptKey : KeyT Tryz.prog 60 :=
  keyT_of (I := 3) ptKeyed Tryz.underlying60 (by decide) (by decide) Tryz.underlying3 (by kernel_rfl) (by kernel_rfl) (by kernel_rfl) ⟨Tryz.prog.types.size - 1, (Nat.sub_add_cancel (Nat.succ_le_of_lt (Nat.lt_of_le_of_lt (Nat.zero_le _) ptRow))).symm⟩
end Go.Proofs.YtneelidbgigehaaGreat

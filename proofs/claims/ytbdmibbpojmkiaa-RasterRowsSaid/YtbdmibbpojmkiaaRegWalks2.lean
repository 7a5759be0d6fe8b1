/- What region.Valid returns. -/
import Derived.Test.YtbdmibbpojmkiaaRegWalks
import Derived.Test.YtbdmibbpojmkiaaPlain
namespace Go.Proofs.Ytbdmibbpojmkiaa
set_option linter.unusedSimpArgs false
set_option linter.unusedVariables false
open Go.RowKit Runs Reg
attribute [local go_sem] Kin.cell Kin.frozen Kin.lt0 Kin.lt1 Kin.lt2 Kin.lt3 run_mkf
theorem fine_empty {l : List Run} (h : l.length = 0) : fine l = false := by
  have : l = [] := List.eq_nil_of_length_eq_zero h
  subst this; rfl
theorem fine_invalid {l : List Run} (h : valid l = false) : fine l = false := by unfold fine; rw [h]; rfl
theorem vreg_bd {rows : List Reg.Row} (h : VReg rows) : RBd rows := ⟨Nat.le_trans (vreg_len h).1 (by decide), fun w hw => Nat.le_trans ((vreg_len h).2 w hw) (by decide)⟩
end Go.Proofs.Ytbdmibbpojmkiaa

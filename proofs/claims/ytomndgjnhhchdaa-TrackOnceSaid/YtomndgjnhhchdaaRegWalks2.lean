/- What region.Valid returns. -/
import Derived.Test.YtomndgjnhhchdaaRegWalks
import Derived.Test.YtomndgjnhhchdaaPlain
namespace Go.Proofs.Ytomndgjnhhchdaa
set_option linter.unusedSimpArgs false
set_option linter.unusedVariables false
open Go.RowKit Runs Reg
attribute [local go_sem] Kin.cell Kin.frozen Kin.lt0 Kin.lt1 Kin.lt2 Kin.lt3 run_mkf
theorem fine_empty {l : List Run} (h : l.length = 0) : fine l = false := by
  have : l = [] := List.eq_nil_of_length_eq_zero h
  subst this; rfl
theorem fine_invalid {l : List Run} (h : valid l = false) : fine l = false := by unfold fine; rw [h]; rfl
theorem valid18_is {b : Bool} (v : Value) (rows : List Reg.Row) (w : World) (h : RdReg w v rows) (hbd : RBd rows) (hv : rvalid rows = b) :
    Calls Try.prog 41 #[v] w fun e w' => e = .returned (.bool b) ∧ Below w.heap.size w w' := by subst hv; exact valid18_any v rows w h hbd
theorem vreg_bd {rows : List Reg.Row} (h : VReg rows) : RBd rows := ⟨Nat.le_trans (vreg_len h).1 (by decide), fun w hw => Nat.le_trans ((vreg_len h).2 w hw) (by decide)⟩
end Go.Proofs.Ytomndgjnhhchdaa

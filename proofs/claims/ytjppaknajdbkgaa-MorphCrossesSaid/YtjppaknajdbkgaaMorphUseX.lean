/- Contracts of the chapter's morphology in the forms that the laws use. -/
import Derived.Test.YtjppaknajdbkgaaMorphRefX
import Derived.Test.YtjppaknajdbkgaaMorphRefE
namespace Go.Proofs.Ytjppaknajdbkgaa
set_option linter.unusedSimpArgs false
set_option linter.unusedVariables false
open Go.RowKit Runs Reg
attribute [local go_sem] Kin.cell Kin.frozen Kin.lt0 Kin.lt1 Kin.lt2 Kin.lt3 run_mkf
theorem rdcr_at {E : Int} {R : List Reg.Row} (v : Value) (rows : List Reg.Row) (k : Int) (w : World) (h : RdReg w v rows) (hbd : RBd rows) (hE : dilE rows k = E) (hR : dcrR rows k = R) :
    Calls Try.prog 28 #[v, .int .i64 k] w fun e w' => (∃ A n c, e = .returned (.tuple #[.agg #[.slice A n c], .int .i64 E]) ∧ RdReg w' (.agg #[.slice A n c]) R) ∧ Below w.heap.size w w' := by subst hE hR; exact rdcr_any v rows k w h hbd
theorem recr_at {R : List Reg.Row} (v : Value) (rows : List Reg.Row) (k : Int) (w : World) (h : RdReg w v rows) (hbd : RBd rows) (hR : ecrR rows k = R) :
    Calls Try.prog 30 #[v, .int .i64 k] w fun e w' => (∃ A n c, e = .returned (.agg #[.slice A n c]) ∧ RdReg w' (.agg #[.slice A n c]) R) ∧ Below w.heap.size w w' := by subst hR; exact recr_any v rows k w h hbd
end Go.Proofs.Ytjppaknajdbkgaa

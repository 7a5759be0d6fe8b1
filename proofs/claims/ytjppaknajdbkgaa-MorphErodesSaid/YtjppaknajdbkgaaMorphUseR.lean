/- Contracts of the chapter's morphology in the forms that the laws use. -/
import Derived.Test.YtjppaknajdbkgaaMorphRefF
namespace Go.Proofs.Ytjppaknajdbkgaa
set_option linter.unusedSimpArgs false
set_option linter.unusedVariables false
open Go.RowKit Runs Reg
attribute [local go_sem] Kin.cell Kin.frozen Kin.lt0 Kin.lt1 Kin.lt2 Kin.lt3 run_mkf
theorem rdil_at {E : Int} {R : List Reg.Row} (v : Value) (rows : List Reg.Row) (k : Int) (w : World) (h : RdReg w v rows) (hbd : RBd rows) (hE : dilE rows k = E) (hR : dilR rows k = R) :
    Calls Try.prog 17 #[v, .int .i64 k] w fun e w' => (∃ A n c, e = .returned (.tuple #[.agg #[.slice A n c], .int .i64 E]) ∧ RdReg w' (.agg #[.slice A n c]) R) ∧ Below w.heap.size w w' := by subst hE hR; exact rdil_any v rows k w h hbd
theorem rclose_at {E : Int} {R : List Reg.Row} (v : Value) (rows : List Reg.Row) (k : Int) (w : World) (h : RdReg w v rows) (hbd : RBd rows) (hE : dilE rows k = E) (hR : cloR rows k = R) :
    Calls Try.prog 19 #[v, .int .i64 k] w fun e w' => (∃ A n c, e = .returned (.tuple #[.agg #[.slice A n c], .int .i64 E]) ∧ RdReg w' (.agg #[.slice A n c]) R) ∧ Below w.heap.size w w' := by subst hE hR; exact rclose_any v rows k w h hbd
theorem rero_at {R : List Reg.Row} (v : Value) (rows : List Reg.Row) (k : Int) (w : World) (h : RdReg w v rows) (hbd : RBd rows) (hR : eroR rows k = R) :
    Calls Try.prog 22 #[v, .int .i64 k] w fun e w' => (∃ A n c, e = .returned (.agg #[.slice A n c]) ∧ RdReg w' (.agg #[.slice A n c]) R) ∧ Below w.heap.size w w' := by subst hR; exact rero_any v rows k w h hbd
theorem ropen_at {R : List Reg.Row} (v : Value) (rows : List Reg.Row) (k : Int) (w : World) (h : RdReg w v rows) (hbd : RBd rows) (hR : opnR rows k = R) :
    Calls Try.prog 24 #[v, .int .i64 k] w fun e w' => (∃ A n c, e = .returned (.agg #[.slice A n c]) ∧ RdReg w' (.agg #[.slice A n c]) R) ∧ Below w.heap.size w w' := by subst hR; exact ropen_any v rows k w h hbd
theorem rring_at {R : List Reg.Row} (v : Value) (rows : List Reg.Row) (w : World) (h : RdReg w v rows) (hbd : RBd rows) (hR : rop (opf 0) rows (eroR rows 1) = R) :
    Calls Try.prog 26 #[v] w fun e w' => (∃ A n c, e = .returned (.agg #[.slice A n c]) ∧ RdReg w' (.agg #[.slice A n c]) R) ∧ Below w.heap.size w w' := by subst hR; exact rring_any v rows w h hbd
end Go.Proofs.Ytjppaknajdbkgaa

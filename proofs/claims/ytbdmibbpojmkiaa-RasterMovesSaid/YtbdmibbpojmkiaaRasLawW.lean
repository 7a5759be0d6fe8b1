/- What the functions of the raster layer return, as the laws ask for it. -/
import Derived.Test.YtbdmibbpojmkiaaRasAwk
import Derived.Test.YtbdmibbpojmkiaaRasRefR
import Derived.Test.YtbdmibbpojmkiaaRasSome
namespace Go.Proofs.Ytbdmibbpojmkiaa
set_option linter.unusedSimpArgs false
set_option linter.unusedVariables false
set_option maxRecDepth 100000
open Go.ChangeShapes Go.WideShapes Go.ChangeAt Go.RowKit Go.Joins Runs Reg Ras
attribute [local go_sem] Kin.cell Kin.frozen Kin.lt0 Kin.lt1 Kin.lt2 Kin.lt3 run_mkf
theorem refRaster_is {E : Int} {R : List Reg.Row} (v : Value) (l : List (List P2)) (p : Int) (w : World) (h : RdPols w v l) (hf : FewP l) (hE : rasE l p = E) (hR : rasO l p = R) :
    Calls Try.prog 14 #[v, .int .i64 p] w fun e w' => (∃ A n c, e = .returned (.tuple #[.agg #[.slice A n c], .int .i64 E]) ∧ RdReg w' (.agg #[.slice A n c]) R) ∧ Below w.heap.size w w' := by subst hE hR; exact refRaster_any v l p w h hf
theorem rasO_valid (l : List (List P2)) (p : Int) : rvalid (rasO l p) = true := by
  unfold rasO
  split
  · exact rvalid_iff.2 (rasR_spec l p).1
  · exact rvalid_nil
theorem rasRow_is {E : Int} {R : List Run} (v : Value) (l : List (List P2)) (p y : Int) (w : World) (h : RdPols w v l) (hf : FewP l) (hE : rowE l p y = E) (hR : rowO l p y = R) :
    Calls Try.prog 17 #[v, .int .i64 p, .int .i64 y] w fun e w' => (∃ u, e = .returned (.tuple #[u, .int .i64 E]) ∧ Rd 2 encRun w' u R) ∧ Below w.heap.size w w' := by subst hE hR; exact rasRow_any v l p y w h hf
theorem refRow_is {E : Int} {R : List Run} (v : Value) (l : List (List P2)) (p y : Int) (w : World) (h : RdPols w v l) (hf : FewP l) (hE : rowE l p y = E) (hR : rowO l p y = R) :
    Calls Try.prog 18 #[v, .int .i64 p, .int .i64 y] w fun e w' => (∃ u, e = .returned (.tuple #[u, .int .i64 E]) ∧ Rd 2 encRun w' u R) ∧ Below w.heap.size w w' := by subst hE hR; exact refRow_any v l p y w h hf
theorem rowO_len (l : List (List P2)) (p y : Int) : (rowO l p y).length ≤ 8192 := by
  unfold rowO
  split
  · exact sepIn_len (rowP_in l p y)
  · simp
end Go.Proofs.Ytbdmibbpojmkiaa

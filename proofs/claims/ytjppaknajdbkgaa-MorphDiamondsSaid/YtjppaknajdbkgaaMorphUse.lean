/- Contracts of the morphology in the forms that the laws use. -/
import Derived.Test.YtjppaknajdbkgaaMorphOpn
import Derived.Test.YtjppaknajdbkgaaMorphCrs
import Derived.Test.YtjppaknajdbkgaaMorphEcr
import Derived.Test.YtjppaknajdbkgaaMorphIn
namespace Go.Proofs.Ytjppaknajdbkgaa
set_option linter.unusedSimpArgs false
set_option linter.unusedVariables false
open Go.RowKit Runs Reg
attribute [local go_sem] Kin.cell Kin.frozen Kin.lt0 Kin.lt1 Kin.lt2 Kin.lt3 run_mkf
theorem dil_at {E : Int} {R : List Reg.Row} (v : Value) (rows : List Reg.Row) (k : Int) (w : World) (h : RdReg w v rows) (hbd : RBd rows) (hE : dilE rows k = E) (hR : dilR rows k = R) :
    Calls Try.prog 16 #[v, .int .i64 k] w fun e w' => (∃ A n c, e = .returned (.tuple #[.agg #[.slice A n c], .int .i64 E]) ∧ RdReg w' (.agg #[.slice A n c]) R) ∧ Below w.heap.size w w' := by subst hE hR; exact dil_any v rows k w h hbd
theorem dcr_at {E : Int} {R : List Reg.Row} (v : Value) (rows : List Reg.Row) (k : Int) (w : World) (h : RdReg w v rows) (hbd : RBd rows) (hE : dilE rows k = E) (hR : dcrR rows k = R) :
    Calls Try.prog 27 #[v, .int .i64 k] w fun e w' => (∃ A n c, e = .returned (.tuple #[.agg #[.slice A n c], .int .i64 E]) ∧ RdReg w' (.agg #[.slice A n c]) R) ∧ Below w.heap.size w w' := by subst hE hR; exact dcr_any v rows k w h hbd
theorem close_at {E : Int} {R : List Reg.Row} (v : Value) (rows : List Reg.Row) (k : Int) (w : World) (h : RdReg w v rows) (hbd : RBd rows) (hE : dilE rows k = E) (hR : cloR rows k = R) :
    Calls Try.prog 18 #[v, .int .i64 k] w fun e w' => (∃ A n c, e = .returned (.tuple #[.agg #[.slice A n c], .int .i64 E]) ∧ RdReg w' (.agg #[.slice A n c]) R) ∧ Below w.heap.size w w' := by subst hE hR; exact close_any v rows k w h hbd
theorem ero_at {R : List Reg.Row} (v : Value) (rows : List Reg.Row) (k : Int) (w : World) (h : RdReg w v rows) (hbd : RBd rows) (hR : eroR rows k = R) :
    Calls Try.prog 21 #[v, .int .i64 k] w fun e w' => (∃ A n c, e = .returned (.agg #[.slice A n c]) ∧ RdReg w' (.agg #[.slice A n c]) R) ∧ Below w.heap.size w w' := by subst hR; exact ero_any v rows k w h hbd
theorem ecr_at {R : List Reg.Row} (v : Value) (rows : List Reg.Row) (k : Int) (w : World) (h : RdReg w v rows) (hbd : RBd rows) (hR : ecrR rows k = R) :
    Calls Try.prog 29 #[v, .int .i64 k] w fun e w' => (∃ A n c, e = .returned (.agg #[.slice A n c]) ∧ RdReg w' (.agg #[.slice A n c]) R) ∧ Below w.heap.size w w' := by subst hR; exact ecr_any v rows k w h hbd
theorem open_at {R : List Reg.Row} (v : Value) (rows : List Reg.Row) (k : Int) (w : World) (h : RdReg w v rows) (hbd : RBd rows) (hR : opnR rows k = R) :
    Calls Try.prog 23 #[v, .int .i64 k] w fun e w' => (∃ A n c, e = .returned (.agg #[.slice A n c]) ∧ RdReg w' (.agg #[.slice A n c]) R) ∧ Below w.heap.size w w' := by subst hR; exact open_any v rows k w h hbd
theorem ring_at {R : List Reg.Row} (v : Value) (rows : List Reg.Row) (w : World) (h : RdReg w v rows) (hbd : RBd rows) (hR : rop (opf 0) rows (eroR rows 1) = R) :
    Calls Try.prog 25 #[v] w fun e w' => (∃ A n c, e = .returned (.agg #[.slice A n c]) ∧ RdReg w' (.agg #[.slice A n c]) R) ∧ Below w.heap.size w w' := by subst hR; exact ring_any v rows w h hbd
theorem union18_at {R : List Reg.Row} (v u : Value) (a b : List Reg.Row) (w : World) (ha : RdReg w v a) (hb : RdReg w u b) (va : RBd a) (vb : RBd b) (hR : rop (opf 2) a b = R) :
    Calls Try.prog 40 #[v, u] w fun e w' => (∃ A n c, e = .returned (.agg #[.slice A n c]) ∧ RdReg w' (.agg #[.slice A n c]) R) ∧ Below w.heap.size w w' := by subst hR; exact union18_two v u a b w ha hb va vb
theorem unionReg_at {R : List Reg.Row} (v u : Value) (a b : List Reg.Row) (w : World) (ha : RdReg w v a) (hb : RdReg w u b) (va : RBd a) (vb : RBd b) (hR : rop (opf 2) a b = R) :
    Calls Try.prog 36 #[v, u] w fun e w' => (∃ A n c, e = .returned (.agg #[.slice A n c]) ∧ RdReg w' (.agg #[.slice A n c]) R) ∧ Below w.heap.size w w' := by subst hR; exact unionReg_two v u a b w ha hb va vb
theorem intersectReg_at {R : List Reg.Row} (v u : Value) (a b : List Reg.Row) (w : World) (ha : RdReg w v a) (hb : RdReg w u b) (va : RBd a) (vb : RBd b) (hR : rop (opf 1) a b = R) :
    Calls Try.prog 37 #[v, u] w fun e w' => (∃ A n c, e = .returned (.agg #[.slice A n c]) ∧ RdReg w' (.agg #[.slice A n c]) R) ∧ Below w.heap.size w w' := by subst hR; exact intersectReg_two v u a b w ha hb va vb
theorem sameReg_at {a b : List Reg.Row} (v u : Value) (w : World) (ha : RdReg w v a) (hb : RdReg w u b) (va : rvalid a = true) (he : a = b) :
    Calls Try.prog 35 #[v, u] w fun e w' => e = .returned (.bool true) ∧ Below w.heap.size w w' := by
  subst he
  have := same_reg v u a a w ha hb (rvalid_bd va) (rvalid_bd va)
  rw [va] at this
  simpa using this
theorem new_at1 {y z : World} {t : TypeId} {cs : Array Value} (h : Below ((y.drew).alloc (.cells cs t)).heap.size ((y.drew).alloc (.cells cs t)) z) : Blk z y.heap.size t cs := (Blk.new y.drew t cs).below h
theorem new_at2 {y z : World} {t : TypeId} {cs : Array Value} (h : Below ((y.alloc (.cells cs t)).drew).heap.size ((y.alloc (.cells cs t)).drew) z) : Blk z y.heap.size t cs := Blk.below (w := (y.alloc (.cells cs t)).drew) (Blk.new y t cs) h
theorem new_at3 {y z : World} {t : TypeId} {cs : Array Value} (h : Below (y.alloc (.cells cs t)).heap.size (y.alloc (.cells cs t)) z) : Blk z y.heap.size t cs := Blk.below (Blk.new y t cs) h
end Go.Proofs.Ytjppaknajdbkgaa

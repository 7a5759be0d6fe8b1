/- Contracts of Dilate, Union and Subtract in the forms that the laws use. -/
import Derived.Test.YtjppaknajdbkgaaMorphDil
import Derived.Test.YtjppaknajdbkgaaRegUse
namespace Go.Proofs.Ytjppaknajdbkgaa
set_option linter.unusedSimpArgs false
set_option linter.unusedVariables false
open Go.RowKit Runs Reg
attribute [local go_sem] Kin.cell Kin.frozen Kin.lt0 Kin.lt1 Kin.lt2 Kin.lt3 run_mkf
theorem dilE_three (rows : List Reg.Row) (k : Int) : dilE rows k = 0 ∨ dilE rows k = 1 ∨ dilE rows k = 8 := by
  by_cases h : (reachOk k && rvalid rows) = true
  · rcases dilE_two h with h | h
    · exact .inl h
    · exact .inr (.inr h)
  · exact .inr (.inl (dilE_bad (by simpa using h)))
theorem dil_is {E : Int} (v : Value) (rows : List Reg.Row) (k : Int) (w : World) (h : RdReg w v rows) (hbd : RBd rows) (hE : dilE rows k = E) :
    Calls Try.prog 16 #[v, .int .i64 k] w fun e w' => (∃ A n c, e = .returned (.tuple #[.agg #[.slice A n c], .int .i64 E]) ∧ RdReg w' (.agg #[.slice A n c]) (dilR rows k)) ∧ Below w.heap.size w w' := by
  subst hE; exact dil_any v rows k w h hbd
theorem subtract18_two (v u : Value) (a b : List Reg.Row) (w : World) (ha : RdReg w v a) (hb : RdReg w u b) (va : RBd a) (vb : RBd b) :
    Calls Try.prog 54 #[v, u] w fun e w' => (∃ A n c, e = .returned (.agg #[.slice A n c]) ∧ n = (rop (opf 0) a b).length ∧ RdReg w' (.agg #[.slice A n c]) (rop (opf 0) a b)) ∧ Below w.heap.size w w' :=
  (subtract18_any v u a b w ha hb va vb).mono fun e w' ⟨⟨A, c, he, hr⟩, hb⟩ => ⟨⟨A, _, c, he, rfl, hr⟩, hb⟩
theorem union18_two (v u : Value) (a b : List Reg.Row) (w : World) (ha : RdReg w v a) (hb : RdReg w u b) (va : RBd a) (vb : RBd b) :
    Calls Try.prog 40 #[v, u] w fun e w' => (∃ A n c, e = .returned (.agg #[.slice A n c]) ∧ RdReg w' (.agg #[.slice A n c]) (rop (opf 2) a b)) ∧ Below w.heap.size w w' :=
  (union18_any v u a b w ha hb va vb).mono fun e w' ⟨⟨A, c, he, hr⟩, hb⟩ => ⟨⟨A, _, c, he, hr⟩, hb⟩
end Go.Proofs.Ytjppaknajdbkgaa

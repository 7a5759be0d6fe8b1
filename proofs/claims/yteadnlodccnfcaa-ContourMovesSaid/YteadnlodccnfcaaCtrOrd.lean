/- The order of points and of segments. -/
import Derived.Test.YteadnlodccnfcaaCtrKit
namespace Go.Proofs.Yteadnlodccnfcaa
set_option linter.unusedSimpArgs false
set_option linter.unusedVariables false
set_option maxRecDepth 100000
open Go.RowKit Planar
attribute [local go_sem] Kin.cell Kin.frozen Kin.lt0 Kin.lt1 Kin.lt2 Kin.lt3
def eqP (a b : Pt) : Bool := a.1 == b.1 && a.2 == b.2
theorem eqP_iff {a b : Pt} : eqP a b = true ↔ a = b := by simp [eqP, Prod.ext_iff]
theorem eqP_run {a b : Pt} {r : Bool} (h : eqP a b = r) : ∀ w : World, (binOp .eql 36 (.agg #[.int .i64 a.1, .int .i64 a.2]) (.agg #[.int .i64 b.1, .int .i64 b.2])).run Try.prog w = .ok (.bool r) w := fun w => by
  subst h
  by_cases h1 : a.1 = b.1 <;> by_cases h2 : a.2 = b.2 <;> simp [go_sem, eqP, h1, h2]
theorem eqP_ne {a b : Pt} (h : a ≠ b) : eqP a b = false := by
  cases he : eqP a b
  · rfl
  · exact absurd (eqP_iff.1 he) h
/-- by X, then by Y -/
def ltX (a b : Pt) : Prop := a.1 < b.1 ∨ a.1 = b.1 ∧ a.2 < b.2
instance (a b : Pt) : Decidable (ltX a b) := inferInstanceAs (Decidable (_ ∨ _ ∧ _))
end Go.Proofs.Yteadnlodccnfcaa

/- What the chapter's definitions on runs return: Valid, Normal, Norm, Length, Contains, Same; and the first runs of a list. -/
import Derived.Test.YtfoedkdmckhihaaRunsFns
namespace Go.Proofs.Ytfoedkdmckhihaa
set_option linter.unusedSimpArgs false
set_option linter.unusedVariables false
open Go.RowKit Runs
attribute [local go_sem] Kin.cell Kin.frozen Kin.lt0 Kin.lt1 Kin.lt2 Kin.lt3 run_mkf
def okI (x : Int) : Bool := decide (-1048576 ≤ x ∧ x ≤ 1048576)
theorem fits_okI (r : Run) : fits r = (okI r.1 && okI r.2) := by
  rw [Bool.eq_iff_iff]; simp [fits, okI]; omega
set_option maxHeartbeats 400000 in
theorem ok_any (x : Int) (w : World) : Calls Try.prog 94 #[.int .i64 x] w fun e w' => e = .returned (.bool (okI x)) ∧ Below w.heap.size w w' := by
  go_enter Try.func94, Try.ntmps94
  go_wp2
  all_goals
    go_ret
    exact ⟨ret_bool (by simp [okI, *] <;> omega), (by repeat (first | with_reducible exact Below.refl _ _ | with_reducible exact Nat.le_refl _ | with_reducible refine Kin.below _ ?_ | with_reducible refine Below.alloc ?_ ?_ _ | with_reducible refine Below.drew ?_ | with_reducible refine Kin.le _ ?_ | with_reducible refine le_alloc ?_ _ | with_reducible refine le_drew ?_ | with_reducible refine Below.setCell ?_ ?_ _ | with_reducible exact Nat.le_refl _ | (simp only [World.size_alloc]; omega) | (simp <;> omega)))⟩
theorem vstep_f4 {l : List Run} {k : Nat} {r : Run} (hr : l[k]? = some r) (h : (!okI r.1) = true) : vstep l k = false := vstep_f2 hr (by rw [fits_okI]; simp at h; simp [h])
theorem vstep_f5 {l : List Run} {k : Nat} {r : Run} (hr : l[k]? = some r) (h : (!okI r.2) = true) : vstep l k = false := vstep_f2 hr (by rw [fits_okI]; simp at h; simp [h])
theorem vstep_t2 {l : List Run} {k : Nat} {r q : Run} (hr : l[k]? = some r) (hq : ∀ x, l[k - 1]? = some x → x = q) (h1 : r.1 < r.2) (h2 : (!okI r.1) = false) (h2' : (!okI r.2) = false) (h3 : 0 < k → ¬ r.1 ≤ q.2) : vstep l k = true :=
  vstep_t hr hq (by omega) (by rw [fits_okI]; simp at h2 h2'; simp [h2, h2']) h3
theorem run_neqRun (p q : Run) (w : World) : (binOp .neq 60 (.agg #[.int .i64 p.1, .int .i64 p.2]) (.agg #[.int .i64 q.1, .int .i64 q.2])).run Try.prog w = .ok (.bool (!eqp p q)) w := by
  by_cases h1 : p.1 = q.1 <;> by_cases h2 : p.2 = q.2 <;> simp [go_sem, eqp, h1, h2]
end Go.Proofs.Ytfoedkdmckhihaa

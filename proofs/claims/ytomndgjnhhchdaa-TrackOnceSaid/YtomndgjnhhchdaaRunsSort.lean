/- slices.SortFunc at runs, as Norm calls it: the runs sorted by From. -/
import Derived.Test.YtomndgjnhhchdaaRunsA
import Derived.Test.YtomndgjnhhchdaaSortOwn
import Derived.Test.YtomndgjnhhchdaaShelf
namespace Go.Sort
end Go.Sort
namespace Go.Shelf
end Go.Shelf
namespace Go.Proofs.Ytomndgjnhhchdaa
set_option linter.unusedSimpArgs false
set_option linter.unusedVariables false
open Go.Shelf Go.RowKit Go.Lib Go.Sort Go.Proofs Runs
/-- a run within the bounds -/
abbrev FRun := { r : Run // fits r = true }
instance : Inhabited FRun := ⟨⟨(0, 0), by decide⟩⟩
def encF (r : FRun) : List Value := encRun r.1
theorem fits_bdS {r : Run} (h : fits r = true) : -1048576 ≤ r.1 ∧ r.1 ≤ 1048576 ∧ -1048576 ≤ r.2 ∧ r.2 ≤ 1048576 := by simpa [fits] using h
def cfF (x y : FRun) : Int := x.1.1 - y.1.1
theorem ltF (x y : FRun) : ltOf cfF x y = decide (x.1.1 < y.1.1) := by
  unfold ltOf cfF
  by_cases h : x.1.1 < y.1.1 <;> simp [h] <;> omega
theorem swoF : SWO (ltOf cfF) where
  irrefl x := by rw [ltF]; simp
  trans x y z h1 h2 := by rw [ltF] at *; simp at *; omega
  ntrans x y z h1 h2 := by rw [ltF] at *; simp at *; omega
theorem attachF : ∀ (xs : List Run), (∀ r ∈ xs, fits r = true) → ∃ ys : List FRun, ys.map Subtype.val = xs
  | [], _ => ⟨[], rfl⟩
  | x :: xs, h => by
    obtain ⟨ys, hy⟩ := attachF xs (fun r hr => h r (by simp [hr]))
    exact ⟨⟨x, h x (by simp)⟩ :: ys, by simp [hy]⟩
theorem flatF (ys : List FRun) : ys.flatMap encF = (ys.map Subtype.val).flatMap encRun := by
  induction ys with
  | nil => rfl
  | cons y ys ih => simp [ih, encF]
end Go.Proofs.Ytomndgjnhhchdaa

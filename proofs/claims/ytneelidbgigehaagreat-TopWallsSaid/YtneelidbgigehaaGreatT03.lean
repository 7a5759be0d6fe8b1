/- Lemmas: UpFrom. -/
import Derived.Test.YtneelidbgigehaaGreatT02
/- The numbers from one on. -/
namespace Go.Proofs.YtneelidbgigehaaGreat
set_option linter.unusedSimpArgs false
set_option linter.unusedVariables false
open Go.RowKit Runs Reg
/-- the n numbers from lo on -/
def upFrom (lo : Int) (n : Nat) : List Int := (List.range n).map fun j => lo + (j : Nat)
theorem upFrom_succ (lo : Int) (n : Nat) : upFrom lo (n + 1) = upFrom lo n ++ [lo + n] := by simp [upFrom, List.range_succ]
theorem upFrom_len (lo : Int) (n : Nat) : (upFrom lo n).length = n := by simp [upFrom]
theorem mem_upFrom {lo y : Int} {n : Nat} : y ∈ upFrom lo n ↔ lo ≤ y ∧ y < lo + n := by
  unfold upFrom
  rw [List.mem_map]
  constructor
  · rintro ⟨j, hj, rfl⟩
    have := List.mem_range.1 hj
    omega
  · rintro ⟨h1, h2⟩
    exact ⟨(y - lo).toNat, List.mem_range.2 (by omega), by omega⟩
theorem upFrom_asc (lo : Int) (n : Nat) : Asc (upFrom lo n) := by
  unfold Asc upFrom
  rw [List.pairwise_map]
  exact List.pairwise_lt_range.imp fun {a b} h => by omega
end Go.Proofs.YtneelidbgigehaaGreat

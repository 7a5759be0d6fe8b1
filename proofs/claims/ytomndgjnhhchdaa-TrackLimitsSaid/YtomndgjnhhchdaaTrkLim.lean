/- The limit of cells: plain law. -/
import Derived.Test.YtomndgjnhhchdaaTrkMath
namespace Go.Proofs.Ytomndgjnhhchdaa
set_option linter.unusedSimpArgs false
set_option linter.unusedVariables false
namespace Trk
/-- cells from left to right and back -/
def altL (n : Nat) : List Cl := (List.range n).map fun i => (((i % 2 : Nat) : Int), 0)
theorem altL_len (n : Nat) : (altL n).length = n := by simp [altL]
theorem altL_succ (n : Nat) : altL (n + 1) = altL n ++ [(((n % 2 : Nat) : Int), 0)] := by simp [altL, List.range_succ]
theorem altL_get {n i : Nat} {c : Cl} (h : (altL n)[i]? = some c) : c = (((i % 2 : Nat) : Int), 0) := by
  unfold altL at h
  rw [List.getElem?_map] at h
  obtain ⟨j, hj, e⟩ := Option.map_eq_some_iff.1 h
  have := List.getElem?_eq_some_iff.1 hj
  obtain ⟨h1, h2⟩ := this
  rw [List.getElem_range] at h2
  subst h2
  exact e.symm
theorem altL_ok (n : Nat) : stepOk (altL n) = true := by
  rw [stepOk_iff]
  intro i c hc
  have e1 := altL_get hc
  subst e1
  have hm : i % 2 = 0 ∨ i % 2 = 1 := by omega
  refine ⟨okc_iff.2 ⟨⟨by simp only; omega, by simp only; omega⟩, by simp, by simp⟩, fun d hd => ?_⟩
  have e2 := altL_get hd
  subst e2
  rcases hm with h | h
  · have h2 : (i + 1) % 2 = 1 := by omega
    rw [h, h2]; decide
  · have h2 : (i + 1) % 2 = 0 := by omega
    rw [h, h2]; decide
theorem altL_val {r : Int} (hr : 1 ≤ r ∧ r ≤ 7) (n : Nat) : tval ((r, false), altL n) = decide (1 ≤ n ∧ n ≤ 65536) := by
  unfold tval
  simp only [altL_len, altL_ok, Bool.not_false, Bool.true_or, Bool.and_true]
  rw [Bool.eq_iff_iff]
  simp only [decide_eq_true_eq]
  omega
end Trk
end Go.Proofs.Ytomndgjnhhchdaa

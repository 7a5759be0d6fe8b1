/- What the chapter's Normal, Norm and set operations on runs return. -/
import Derived.Test.YtneelidbgigehaaGreatRunsB
import Derived.Test.YtneelidbgigehaaGreatRunsNorm
namespace Go.Proofs.YtneelidbgigehaaGreat
set_option linter.unusedSimpArgs false
set_option linter.unusedVariables false
open Go.RowKit Runs
attribute [local go_sem] Kin.cell Kin.frozen Kin.lt0 Kin.lt1 Kin.lt2 Kin.lt3 run_mkf
theorem at_some {b : List Int} {k : Nat} {r : Int} (h : b[k]? = some r) : at_ b k = r := by simp [at_, h]
theorem sw_yes {P : Int → Bool} {b : List Int} {k : Nat} {r s : Int} (hr : b[k]? = some r) (hs : b[k + 1]? = some s) (h : P r = true) : swTo P b (k + 1) = put (swTo P b k) r s := by
  rw [swTo_succ]; unfold swStep; rw [at_some hr, at_some hs, if_pos h]
theorem sw_no {P : Int → Bool} {b : List Int} {k : Nat} {r : Int} (hr : b[k]? = some r) (h : P r = false) : swTo P b (k + 1) = swTo P b k := by
  rw [swTo_succ]; unfold swStep; rw [at_some hr, h]; rfl
theorem norm_normal (l : List Run) : normal l = norm l := by
  obtain ⟨a, b⟩ := normal_spec l
  obtain ⟨c, d⟩ := norm_spec l
  exact sep_ext a c (fun x => by rw [b, d])
theorem normOkTo {l : List Run} {k : Nat} {r : Run} (h : l[k]? = some r) (hm : normOk (l.take k) = true) (hr : r.1 < r.2 → okI r.1 = true ∧ okI r.2 = true) : normOk (l.take (k + 1)) = true := by
  unfold normOk full at *
  rw [List.take_add_one, h, List.filter_append, List.all_append, hm]
  by_cases h1 : r.1 < r.2
  · obtain ⟨a, b⟩ := hr h1
    simp [h1, fits_okI, a, b]
  · simp [h1]
/-- the three set operations, numbered as in the chapter's text -/
def opf (n : Int) (x y : Bool) : Bool := if n = 2 then x || y else if n = 1 then x && y else x && !y
theorem opf_ff (n : Int) : opf n false false = false := by unfold opf; split <;> (try split) <;> rfl
end Go.Proofs.YtneelidbgigehaaGreat

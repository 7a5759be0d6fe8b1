/- What Norm returns: the list of the set, or an error. -/
import Derived.Test.YtomndgjnhhchdaaRunsA
import Derived.Test.YtomndgjnhhchdaaRunsSort
namespace Go.Proofs.Ytomndgjnhhchdaa
set_option linter.unusedSimpArgs false
set_option linter.unusedVariables false
open Go.RowKit Runs
attribute [local go_sem] Kin.cell Kin.frozen
theorem fits_bd {r : Run} (h : fits r = true) : -1048576 ≤ r.1 ∧ r.1 ≤ 1048576 ∧ -1048576 ≤ r.2 ∧ r.2 ≤ 1048576 := by simpa [fits] using h
def full (l : List Run) : List Run := l.filter (fun r => decide (r.1 < r.2))
def fullTo (l : List Run) (k : Nat) : List Run := full (l.take k)
/-- all runs that are not empty are in range -/
def normOk (l : List Run) : Bool := (full l).all fits
/-- the list of the set of all integers in runs of l -/
def norm (l : List Run) : List Run := jn ((full l).mergeSort (fun a b => decide (a.1 ≤ b.1)))
theorem fullTo_yes {l : List Run} {k : Nat} {r : Run} (h : l[k]? = some r) (hr : r.1 < r.2) : fullTo l (k + 1) = fullTo l k ++ [r] := by
  unfold fullTo full
  rw [List.take_add_one, h, List.filter_append]
  simp [hr]
theorem fullTo_no {l : List Run} {k : Nat} {r : Run} (h : l[k]? = some r) (hr : r.2 ≤ r.1) : fullTo l (k + 1) = fullTo l k := by
  unfold fullTo full
  rw [List.take_add_one, h, List.filter_append]
  simp; omega
theorem fullTo_len (l : List Run) (k : Nat) : (fullTo l k).length ≤ k := by
  unfold fullTo full
  have := List.length_filter_le (fun r : Run => decide (r.1 < r.2)) (l.take k)
  have := List.length_take_le k l
  omega
theorem fullTo_all (l : List Run) : fullTo l l.length = full l := by unfold fullTo; rw [List.take_length]
theorem normOk_no {l : List Run} {k : Nat} {r : Run} (h : l[k]? = some r) (hr : r.1 < r.2) (hf : (!fits r) = true) : normOk l = false := by
  unfold normOk full
  rw [List.all_eq_false]
  exact ⟨r, by simp [List.mem_of_getElem? h, hr], by simpa using hf⟩
theorem full_mem (l : List Run) (x : Int) : mem (full l) x = mem l x := by
  rw [Bool.eq_iff_iff, mem_iff, mem_iff]
  unfold full
  constructor
  · rintro ⟨r, hr, h⟩; exact ⟨r, (List.mem_filter.1 hr).1, h⟩
  · rintro ⟨r, hr, h⟩; exact ⟨r, List.mem_filter.2 ⟨hr, by simp; omega⟩, h⟩
theorem mem_perm {a b : List Run} (h : a.Perm b) (x : Int) : mem a x = mem b x := by
  rw [Bool.eq_iff_iff, mem_iff, mem_iff]
  constructor
  · rintro ⟨r, hr, h'⟩; exact ⟨r, h.mem_iff.1 hr, h'⟩
  · rintro ⟨r, hr, h'⟩; exact ⟨r, h.mem_iff.2 hr, h'⟩
/-- any sorted order of the runs gives the same joined list -/
theorem jn_sorted {l ys : List Run} (hp : ys.Perm (full l)) (hs : ys.Pairwise (fun a b => a.1 ≤ b.1)) : Sep (jn ys) ∧ ∀ x, mem (jn ys) x = mem l x := by
  have h1 : ∀ r ∈ ys, r.1 < r.2 := by
    intro r hr
    have := hp.mem_iff.1 hr
    unfold full at this
    simpa using (List.mem_filter.1 this).2
  obtain ⟨a, b⟩ := jn_spec h1 hs
  exact ⟨a, fun x => by rw [b, mem_perm hp, full_mem]⟩
theorem norm_sorted (l : List Run) : ((full l).mergeSort (fun a b => decide (a.1 ≤ b.1))).Perm (full l) ∧ ((full l).mergeSort (fun a b => decide (a.1 ≤ b.1))).Pairwise (fun a b => a.1 ≤ b.1) := by
  refine ⟨List.mergeSort_perm _ _, ?_⟩
  have := List.pairwise_mergeSort (le := fun a b : Run => decide (a.1 ≤ b.1)) (fun a b c h1 h2 => by simp at *; omega) (fun a b => by simp; omega) (full l)
  exact this.imp (fun h => by simpa using h)
theorem norm_spec (l : List Run) : Sep (norm l) ∧ ∀ x, mem (norm l) x = mem l x := jn_sorted (norm_sorted l).1 (norm_sorted l).2
theorem jn_norm {l ys : List Run} (hp : ys.Perm (full l)) (hs : ys.Pairwise (fun a b => a.1 ≤ b.1)) : jn ys = norm l := by
  obtain ⟨a, b⟩ := jn_sorted hp hs
  obtain ⟨c, d⟩ := norm_spec l
  exact sep_ext a c (fun x => by rw [b, d])
def normR (l : List Run) : List Run := if normOk l then norm l else []
def normE (l : List Run) : Int := if normOk l then 0 else 8
theorem jn_len (l : List Run) : (jn l).length ≤ l.length := by
  have := jnTo_len l l.length
  unfold jnTo at this
  rwa [List.take_length] at this
theorem normR_len (l : List Run) : (normR l).length ≤ l.length := by
  unfold normR norm
  split
  · refine Nat.le_trans (jn_len _) ?_
    rw [List.length_mergeSort]
    exact List.length_filter_le _ _
  · simp
end Go.Proofs.Ytomndgjnhhchdaa

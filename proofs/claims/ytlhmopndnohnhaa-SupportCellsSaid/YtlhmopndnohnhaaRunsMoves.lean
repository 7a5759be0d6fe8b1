/- What Shift, Grow and Shrink return, of the program and of the chapter. -/
import Derived.Test.YtlhmopndnohnhaaRunsRef3
namespace Go.Proofs.Ytlhmopndnohnhaa
set_option linter.unusedSimpArgs false
set_option linter.unusedVariables false
open Go.RowKit Runs
attribute [local go_sem] Kin.cell Kin.frozen Kin.lt0 Kin.lt1 Kin.lt2 Kin.lt3 run_mkf
/-- the runs that stay when each end comes k nearer -/
def shr (k : Int) (l : List Run) : List Run := (l.filter (fun r => decide (r.1 + k < r.2 - k))).map (fun r => (r.1 + k, r.2 - k))
def shrinkOk (l : List Run) (k : Int) : Bool := valid l && decide (0 ≤ k ∧ k ≤ 1048576)
def shrinkL (l : List Run) (k : Int) : List Run := if shrinkOk l k then shr k l else []
theorem shr_yes {l : List Run} {k : Int} {i : Nat} {r : Run} (h : l[i]? = some r) (hr : r.1 + k < r.2 - k) : shr k (l.take (i + 1)) = shr k (l.take i) ++ [(r.1 + k, r.2 - k)] := by
  unfold shr; rw [List.take_add_one, h, List.filter_append]; simp [hr]
theorem shr_no {l : List Run} {k : Int} {i : Nat} {r : Run} (h : l[i]? = some r) (hr : ¬ r.1 + k < r.2 - k) : shr k (l.take (i + 1)) = shr k (l.take i) := by
  unfold shr; rw [List.take_add_one, h, List.filter_append]; simp [hr]
theorem shr_len (l : List Run) (k : Int) (i : Nat) : (shr k (l.take i)).length ≤ i := by
  unfold shr; rw [List.length_map]
  exact Nat.le_trans (List.length_filter_le _ _) (List.length_take_le _ _)
def sh (d : Int) (r : Run) : Run := (r.1 + d, r.2 + d)
def shiftOk (l : List Run) (d : Int) : Bool := l.all (fun r => fits (sh d r))
def shiftL (l : List Run) (d : Int) : List Run := if valid l && shiftOk l d then l.map (sh d) else []
def shiftE (l : List Run) (d : Int) : Int := if valid l then (if shiftOk l d then 0 else 8) else 1
/-- between the first and the last run -/
theorem sep_between {l : List Run} (h : Sep l) {n : Nat} {r q x : Run} (hl : l.length = n + 1) (hr : l[0]? = some r) (hq : l[n]? = some q) (hx : x ∈ l) : r.1 ≤ x.1 ∧ x.2 ≤ q.2 ∧ x.1 < x.2 := by
  obtain ⟨i, hi, rfl⟩ := List.getElem_of_mem hx
  have hp := List.pairwise_iff_getElem.1 h.2
  have h1 := h.1 _ (List.getElem_mem hi)
  rw [List.getElem?_eq_getElem (by omega)] at hr hq
  injection hr with hr
  injection hq with hq
  subst hr hq
  have h2 := h.1 l[0] (List.getElem_mem _)
  have h3 := h.1 l[n] (List.getElem_mem _)
  refine ⟨?_, ?_, h1⟩
  · rcases Nat.eq_zero_or_pos i with h0 | h0
    · subst h0; exact Int.le_refl _
    · have := hp 0 i (by omega) hi h0; omega
  · rcases Nat.lt_or_ge i n with h0 | h0
    · have := hp i n hi (by omega) h0; omega
    · have : i = n := by omega
      subst this; exact Int.le_refl _
theorem shift_bad {l : List Run} (hv : valid l = true) {n : Nat} {r q : Run} {d : Int} (hl : l.length = n + 1) (hr : l[0]? = some r) (hq : l[n]? = some q) (h : d < -2097152 ∨ 2097152 < d ∨ r.1 + d < -1048576 ∨ 1048576 < q.2 + d) : shiftOk l d = false := by
  rw [Bool.eq_false_iff]
  intro hs
  have h1 := List.all_eq_true.1 hs r (List.mem_of_getElem? hr)
  have h2 := List.all_eq_true.1 hs q (List.mem_of_getElem? hq)
  have h3 := valid_fits hv hr
  have h4 := valid_fits hv hq
  have h1 := fits_bd h1
  have h2 := fits_bd h2
  simp only [sh] at h1 h2
  omega
theorem shift_good {l : List Run} (hv : valid l = true) {n : Nat} {r q : Run} {d : Int} (hl : l.length = n + 1) (hr : l[0]? = some r) (hq : l[n]? = some q) (h1 : -1048576 ≤ r.1 + d) (h2 : q.2 + d ≤ 1048576) : shiftOk l d = true := by
  refine List.all_eq_true.2 fun x hx => ?_
  have := sep_between (valid_iff.1 hv).1 hl hr hq hx
  have h5 := valid_iff.1 hv
  unfold fits sh
  rw [decide_eq_true_eq]
  simp only
  omega
end Go.Proofs.Ytlhmopndnohnhaa

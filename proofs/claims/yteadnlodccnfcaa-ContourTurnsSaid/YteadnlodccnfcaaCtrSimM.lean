/- Simplify: plain laws. -/
import Derived.Test.YteadnlodccnfcaaCtrSome
namespace Go.Proofs.Yteadnlodccnfcaa
set_option linter.unusedSimpArgs false
set_option linter.unusedVariables false
open Planar
/-- no turn at a vertex -/
def flatAt (l : List Pt) (i : Nat) : Bool := decide (turn (ptAt l ((i + l.length - 1) % l.length)) (ptAt l i) (ptAt l ((i + 1) % l.length)) = 0)
def simP (l : List Pt) : List Pt :=
  match h : (List.range l.length).find? (flatAt l) with
  | none => l
  | some i => simP (l.eraseIdx i)
termination_by l.length
decreasing_by
  have h1 := List.mem_of_find?_eq_some h
  have h2 := List.mem_range.1 h1
  rw [List.length_eraseIdx, if_pos h2]
  omega
theorem simP_none {l : List Pt} (h : ∀ i, i < l.length → flatAt l i = false) : simP l = l := by
  rw [simP]
  split
  · rfl
  · rename_i i e
    have h1 := List.mem_range.1 (List.mem_of_find?_eq_some e)
    have h2 := List.find?_some e
    rw [h i h1] at h2; cases h2
theorem simP_step {l : List Pt} {i : Nat} (hi : i < l.length) (hf : flatAt l i = true) (hb : ∀ j, j < i → flatAt l j = false) : simP l = simP (l.eraseIdx i) := by
  rw [simP]
  split
  · rename_i e
    have := List.find?_eq_none.1 e i (List.mem_range.2 hi)
    rw [hf] at this; exact absurd rfl this
  · rename_i j e
    have h1 := List.mem_range.1 (List.mem_of_find?_eq_some e)
    have h2 := List.find?_some e
    have e2 : j = i := by
      rcases Nat.lt_trichotomy j i with h | h | h
      · rw [hb j h] at h2; cases h2
      · exact h
      · obtain ⟨_, pre, bs, h4, h5⟩ := List.find?_eq_some_iff_append.1 e
        have h6 : pre.length = j := by
          have h7 : (List.range l.length)[pre.length]? = some j := by rw [h4]; simp
          rw [List.getElem?_eq_some_iff] at h7
          obtain ⟨h8, h9⟩ := h7
          rw [List.getElem_range] at h9
          exact h9
        have h7 : i ∈ pre := by
          have h8 : (List.range l.length)[i]? = some i := List.getElem?_range hi
          rw [h4, List.getElem?_append_left (by omega)] at h8
          exact List.mem_of_getElem? h8
        have := h5 i h7
        rw [hf] at this; simp at this
    rw [e2]
theorem simP_done (l : List Pt) : ∀ i, i < (simP l).length → flatAt (simP l) i = false := by
  match h : (List.range l.length).find? (flatAt l) with
  | none =>
    have h1 : ∀ i, i < l.length → flatAt l i = false := fun i hi => by
      have := List.find?_eq_none.1 h i (List.mem_range.2 hi)
      simpa using this
    rw [simP_none h1]; exact h1
  | some i =>
    have h1 := List.mem_range.1 (List.mem_of_find?_eq_some h)
    have e : simP l = simP (l.eraseIdx i) := by
      rw [simP]
      split
      · rename_i e; rw [h] at e; cases e
      · rename_i j e; rw [h] at e; injection e with e; rw [e]
    have hlt : (l.eraseIdx i).length < l.length := by rw [List.length_eraseIdx, if_pos h1]; omega
    rw [e]
    exact simP_done (l.eraseIdx i)
termination_by l.length
theorem simP_len (l : List Pt) : (simP l).length ≤ l.length := by
  match h : (List.range l.length).find? (flatAt l) with
  | none =>
    have h1 : ∀ i, i < l.length → flatAt l i = false := fun i hi => by
      have := List.find?_eq_none.1 h i (List.mem_range.2 hi)
      simpa using this
    rw [simP_none h1]; exact Nat.le_refl _
  | some i =>
    have h1 := List.mem_range.1 (List.mem_of_find?_eq_some h)
    have e : simP l = simP (l.eraseIdx i) := by
      rw [simP]
      split
      · rename_i e; rw [h] at e; cases e
      · rename_i j e; rw [h] at e; injection e with e; rw [e]
    have hlt : (l.eraseIdx i).length < l.length := by rw [List.length_eraseIdx, if_pos h1]; omega
    rw [e]
    exact Nat.le_trans (simP_len (l.eraseIdx i)) (Nat.le_of_lt hlt)
termination_by l.length
/-- what Simplify returns -/
def resP (l : List Pt) : List Pt := if (simP l).length < 3 then [] else simP l
theorem ptAt_erase_lt {l : List Pt} {i j : Nat} (h : j < i) : ptAt (l.eraseIdx i) j = ptAt l j := by
  unfold ptAt; rw [List.getElem?_eraseIdx_of_lt h]
theorem ptAt_erase_ge {l : List Pt} {i j : Nat} (h : i ≤ j) : ptAt (l.eraseIdx i) j = ptAt l (j + 1) := by
  unfold ptAt; rw [List.getElem?_eraseIdx_of_ge h]
/-- behind the removal of a vertex that is not the last one, those well ahead of it are what they were -/
theorem flat_keep {l : List Pt} {i j : Nat} (hi : i + 1 < l.length) (hj : j + 1 < i) : flatAt (l.eraseIdx i) j = flatAt l j := by
  unfold flatAt
  have hl : (l.eraseIdx i).length = l.length - 1 := by rw [List.length_eraseIdx, if_pos (by omega)]
  rw [hl, ptAt_erase_lt (show j < i by omega)]
  have e1 : (j + 1) % (l.length - 1) = j + 1 := Nat.mod_eq_of_lt (by omega)
  have e2 : (j + 1) % l.length = j + 1 := Nat.mod_eq_of_lt (by omega)
  rw [e1, e2, ptAt_erase_lt (show j + 1 < i by omega)]
  rcases Nat.eq_zero_or_pos j with h0 | h0
  · subst h0
    have e3 : (0 + (l.length - 1) - 1) % (l.length - 1) = l.length - 2 := by rw [Nat.mod_eq_of_lt (by omega)]; omega
    have e4 : (0 + l.length - 1) % l.length = l.length - 1 := by rw [Nat.mod_eq_of_lt (by omega)]; omega
    rw [e3, e4, ptAt_erase_ge (show i ≤ l.length - 2 by omega), show l.length - 2 + 1 = l.length - 1 by omega]
  · have e3 : (j + (l.length - 1) - 1) % (l.length - 1) = j - 1 := by
      rw [show j + (l.length - 1) - 1 = (j - 1) + (l.length - 1) by omega, Nat.add_mod_right, Nat.mod_eq_of_lt (by omega)]
    have e4 : (j + l.length - 1) % l.length = j - 1 := by
      rw [show j + l.length - 1 = (j - 1) + l.length by omega, Nat.add_mod_right, Nat.mod_eq_of_lt (by omega)]
    rw [e3, e4, ptAt_erase_lt (show j - 1 < i by omega)]
end Go.Proofs.Yteadnlodccnfcaa

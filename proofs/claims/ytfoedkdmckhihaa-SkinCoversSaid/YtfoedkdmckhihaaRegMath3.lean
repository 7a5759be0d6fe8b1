/- How many cells a region has. -/
import Derived.Test.YtfoedkdmckhihaaRegMath2
import Derived.Test.YtfoedkdmckhihaaRunsFns
namespace Go.Proofs.Ytfoedkdmckhihaa
set_option linter.unusedSimpArgs false
set_option linter.unusedVariables false
namespace Reg
open Runs
theorem sumL_nil : sumL [] = 0 := rfl
theorem sumL_cons (r : Run) (l : List Run) : sumL (r :: l) = (r.2 - r.1) + sumL l := rfl
theorem sumL_in {l : List Run} (h : SepIn l) : 0 ≤ sumL l ∧ sumL l ≤ 8192 := by
  have : ∀ (l : List Run) (lo : Int), SepIn l → lo ≤ 4096 → (∀ r ∈ l, lo ≤ r.1) → 0 ≤ sumL l ∧ sumL l ≤ 4096 - lo := by
    intro l
    induction l with
    | nil => intro lo _ h _; rw [sumL_nil]; omega
    | cons r l ih =>
      intro lo h h0 hlo
      obtain ⟨h1, h2, h3⟩ := sep_cons.1 h.1
      have h4 := h.2 r (by simp)
      have h5 := hlo r (by simp)
      have := ih r.2 ⟨h3, fun q hq => h.2 q (by simp [hq])⟩ (by omega) (fun q hq => by have := h2 q hq; omega)
      rw [sumL_cons]
      omega
  have := this l (-4096) h (by omega) (fun r hr => (h.2 r hr).1)
  omega
theorem sepIn_take {l : List Run} (h : SepIn l) (k : Nat) : SepIn (l.take k) :=
  ⟨⟨fun r hr => h.1.1 r (List.mem_of_mem_take hr), h.1.2.sublist (List.take_sublist _ _)⟩, fun r hr => h.2 r (List.mem_of_mem_take hr)⟩
def sumR (rows : List Row) : Int := (rows.map fun w => sumL w.2).sum
theorem sumR_succ {rows : List Row} {k : Nat} {w : Row} (h : rows[k]? = some w) : sumR (rows.take (k + 1)) = sumR (rows.take k) + sumL w.2 := by
  unfold sumR; rw [List.take_add_one, h]; simp [List.sum_append]
theorem sumR_bd {rows : List Row} (h : VReg rows) : ∀ k, k ≤ rows.length → 0 ≤ sumR (rows.take k) ∧ sumR (rows.take k) ≤ 8192 * k := by
  intro k
  induction k with
  | zero => intro _; simp [sumR]
  | succ k ih =>
    intro hk
    have hw : rows[k]? = some rows[k] := List.getElem?_eq_getElem (by omega)
    have := ih (by omega)
    have := sumL_in (fine_sepIn.1 (h.1 _ (List.getElem_mem (by omega : k < rows.length))).2).1
    rw [sumR_succ hw]
    omega
def cntR (rows : List Row) : Int := if rvalid rows then sumR rows else 0
theorem cntR_bd (rows : List Row) : 0 ≤ cntR rows ∧ cntR rows ≤ 67108864 := by
  unfold cntR
  split
  · rename_i h
    have hv := rvalid_iff.1 h
    have h1 := sumR_bd hv _ (Nat.le_refl _)
    have h2 := (vreg_len hv).1
    rw [List.take_length] at h1
    omega
  · omega
def smallR (rows : List Row) : Bool := decide (rows.length ≤ 40) && rows.all (fun w => decide (w.2.length ≤ 40)) && decide (cntR rows ≤ 600)
end Reg
end Go.Proofs.Ytfoedkdmckhihaa

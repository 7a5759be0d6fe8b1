/- How many cells a region has. (joined: RegMath3 RegCellsM) -/
import Derived.Test.YtneelidbgigehaaGreatPlain
import Derived.Test.YtneelidbgigehaaGreatRunsB
/- How many cells a region has. -/
namespace Go.Proofs.YtneelidbgigehaaGreat
set_option linter.unusedSimpArgs false
set_option linter.unusedVariables false
namespace Reg
open Runs
theorem sumL_nil : sumL [] = 0 := rfl
theorem sumL_cons (r : Run) (l : List Run) : sumL (r :: l) = (r.2 - r.1) + sumL l := rfl
theorem sumL_in {l : List Run} (h : SepIn l) : 0 ≤ sumL l ∧ sumL l ≤ 8192 := by
  have : ∀ (l : List Run) (lo : Int), SepIn l → lo ≤ 4096 → (∀ r ∈ l, lo ≤ r.1) → 0 ≤ sumL l ∧ sumL l ≤ 4096 - lo := by
    intro l
    induction l with
    | nil => intro lo _ h _; rw [sumL_nil]; omega
    | cons r l ih =>
      intro lo h h0 hlo
      obtain ⟨h1, h2, h3⟩ := sep_cons.1 h.1
      have h4 := h.2 r (by simp)
      have h5 := hlo r (by simp)
      have := ih r.2 ⟨h3, fun q hq => h.2 q (by simp [hq])⟩ (by omega) (fun q hq => by have := h2 q hq; omega)
      rw [sumL_cons]
      omega
  have := this l (-4096) h (by omega) (fun r hr => (h.2 r hr).1)
  omega
theorem sepIn_take {l : List Run} (h : SepIn l) (k : Nat) : SepIn (l.take k) :=
  ⟨⟨fun r hr => h.1.1 r (List.mem_of_mem_take hr), h.1.2.sublist (List.take_sublist _ _)⟩, fun r hr => h.2 r (List.mem_of_mem_take hr)⟩
def sumR (rows : List Row) : Int := (rows.map fun w => sumL w.2).sum
theorem sumR_succ {rows : List Row} {k : Nat} {w : Row} (h : rows[k]? = some w) : sumR (rows.take (k + 1)) = sumR (rows.take k) + sumL w.2 := by
  unfold sumR; rw [List.take_add_one, h]; simp [List.sum_append]
theorem sumR_bd {rows : List Row} (h : VReg rows) : ∀ k, k ≤ rows.length → 0 ≤ sumR (rows.take k) ∧ sumR (rows.take k) ≤ 8192 * k := by
  intro k
  induction k with
  | zero => intro _; simp [sumR]
  | succ k ih =>
    intro hk
    have hw : rows[k]? = some rows[k] := List.getElem?_eq_getElem (by omega)
    have := ih (by omega)
    have := sumL_in (fine_sepIn.1 (h.1 _ (List.getElem_mem (by omega : k < rows.length))).2).1
    rw [sumR_succ hw]
    omega
def cntR (rows : List Row) : Int := if rvalid rows then sumR rows else 0
theorem cntR_bd (rows : List Row) : 0 ≤ cntR rows ∧ cntR rows ≤ 67108864 := by
  unfold cntR
  split
  · rename_i h
    have hv := rvalid_iff.1 h
    have h1 := sumR_bd hv _ (Nat.le_refl _)
    have h2 := (vreg_len hv).1
    rw [List.take_length] at h1
    omega
  · omega
def smallR (rows : List Row) : Bool := decide (rows.length ≤ 40) && rows.all (fun w => decide (w.2.length ≤ 40)) && decide (cntR rows ≤ 600)
end Reg
end Go.Proofs.YtneelidbgigehaaGreat
/- The cells of a region as a list; with no program in sight. -/
namespace Go.Proofs.YtneelidbgigehaaGreat
set_option linter.unusedSimpArgs false
set_option linter.unusedVariables false
namespace Reg
open Runs
/-- the first n cells of a run in the row y -/
def runC (y : Int) (r : Run) (n : Nat) : List (Int × Int) := (List.range n).map fun (k : Nat) => (r.1 + (k : Int), y)
def runCells (y : Int) (r : Run) : List (Int × Int) := runC y r (r.2 - r.1).toNat
def rowCells (w : Row) (k : Nat) : List (Int × Int) := (w.2.take k).flatMap (runCells w.1)
def cellsTo (rows : List Row) (i : Nat) : List (Int × Int) := (rows.take i).flatMap fun w => w.2.flatMap (runCells w.1)
def cellsR (rows : List Row) : List (Int × Int) := if rvalid rows then cellsTo rows rows.length else []
theorem runC_succ (y : Int) (r : Run) (n : Nat) : runC y r (n + 1) = runC y r n ++ [(r.1 + (n : Int), y)] := by simp [runC, List.range_succ]
theorem runC_len (y : Int) (r : Run) (n : Nat) : (runC y r n).length = n := by simp [runC]
theorem rowCells_succ {w : Row} {k : Nat} {r : Run} (h : w.2[k]? = some r) : rowCells w (k + 1) = rowCells w k ++ runCells w.1 r := by
  unfold rowCells; rw [List.take_add_one, h]; simp
theorem cellsTo_succ {rows : List Row} {i : Nat} {w : Row} (h : rows[i]? = some w) : cellsTo rows (i + 1) = cellsTo rows i ++ rowCells w w.2.length := by
  unfold cellsTo rowCells; rw [List.take_add_one, h, List.take_length]; simp
theorem runCells_len {y : Int} {r : Run} (h : r.1 < r.2) : ((runCells y r).length : Int) = r.2 - r.1 := by rw [runCells, runC_len]; omega
theorem rowCells_len {w : Row} (h : SepIn w.2) (k : Nat) : ((rowCells w k).length : Int) = sumL (w.2.take k) := by
  have : ∀ l : List Run, (∀ r ∈ l, r.1 < r.2) → ((l.flatMap (runCells w.1)).length : Int) = sumL l := by
    intro l
    induction l with
    | nil => intro _; simp [sumL]
    | cons r l ih =>
      intro hl
      rw [List.flatMap_cons, List.length_append, sumL_cons]
      have h1 := runCells_len (y := w.1) (hl r (by simp))
      have h2 := ih (fun q hq => hl q (by simp [hq]))
      push_cast
      omega
  exact this _ fun r hr => h.1.1 r (List.mem_of_mem_take hr)
theorem cellsTo_len {rows : List Row} (h : VReg rows) : ∀ i, i ≤ rows.length → ((cellsTo rows i).length : Int) = sumR (rows.take i) := by
  intro i
  induction i with
  | zero => intro _; simp [cellsTo, sumR]
  | succ i ih =>
    intro hi
    have hw : rows[i]? = some rows[i] := List.getElem?_eq_getElem (by omega)
    have h1 := ih (by omega)
    have h2 := rowCells_len (fine_sepIn.1 (h.1 _ (List.getElem_mem (by omega : i < rows.length))).2).1 rows[i].2.length
    rw [List.take_length] at h2
    rw [cellsTo_succ hw, sumR_succ hw, List.length_append]
    push_cast
    omega
theorem cellsR_len (rows : List Row) : ((cellsR rows).length : Int) = cntR rows := by
  unfold cellsR cntR
  split
  · rename_i h
    rw [cellsTo_len (rvalid_iff.1 h) _ (Nat.le_refl _), List.take_length]
  · rfl
theorem mem_runCells {y : Int} {r : Run} {c : Int × Int} : c ∈ runCells y r ↔ c.2 = y ∧ r.1 ≤ c.1 ∧ c.1 < r.2 := by
  unfold runCells runC
  rw [List.mem_map]
  constructor
  · rintro ⟨k, hk, rfl⟩
    rw [List.mem_range] at hk
    exact ⟨rfl, (show r.1 ≤ r.1 + (k : Int) by omega), (show r.1 + (k : Int) < r.2 by omega)⟩
  · rintro ⟨h1, h2, h3⟩
    refine ⟨(c.1 - r.1).toNat, by rw [List.mem_range]; omega, ?_⟩
    apply Prod.ext
    · simp; omega
    · exact h1.symm
theorem mem_cellsR {rows : List Row} {c : Int × Int} : c ∈ cellsR rows ↔ rvalid rows = true ∧ memC rows c.1 c.2 = true := by
  unfold cellsR
  split
  · rename_i h
    rw [cellsTo, List.take_length, memC_iff]
    simp only [h, true_and, List.mem_flatMap, mem_runCells, mem_iff]
    constructor
    · rintro ⟨w, hw, r, hr, h1, h2, h3⟩; exact ⟨w, hw, h1.symm, r, hr, h2, h3⟩
    · rintro ⟨w, hw, h1, r, hr, h2, h3⟩; exact ⟨w, hw, r, hr, h1.symm, h2, h3⟩
  · rename_i h
    simp [h]
theorem runC_nodup (y : Int) (r : Run) (n : Nat) : (runC y r n).Nodup := by
  unfold runC
  rw [List.nodup_iff_pairwise_ne, List.pairwise_map]
  refine List.Pairwise.imp ?_ (List.nodup_iff_pairwise_ne.1 List.nodup_range)
  intro a b hab h
  apply hab
  have := congrArg Prod.fst h
  simp at this
  omega
theorem flat_nodup {α β : Type} {l : List α} {f : α → List β} (h1 : ∀ a ∈ l, (f a).Nodup) (h2 : l.Pairwise fun a b => ∀ x ∈ f a, x ∉ f b) : (l.flatMap f).Nodup := by
  induction l with
  | nil => simp
  | cons a l ih =>
    obtain ⟨h3, h4⟩ := List.pairwise_cons.1 h2
    rw [List.flatMap_cons, List.nodup_append]
    refine ⟨h1 a (by simp), ih (fun b hb => h1 b (by simp [hb])) h4, fun x hx y hy hxy => ?_⟩
    subst hxy
    obtain ⟨b, hb, hy⟩ := List.mem_flatMap.1 hy
    exact h3 b hb x hx hy
theorem cellsR_nodup (rows : List Row) : (cellsR rows).Nodup := by
  unfold cellsR
  split
  · rename_i h
    have hv := rvalid_iff.1 h
    rw [cellsTo, List.take_length]
    refine flat_nodup (fun w hw => flat_nodup (fun r hr => runC_nodup _ _ _) ?_) ?_
    · have hs := (fine_sepIn.1 (hv.1 w hw).2).1.1
      refine List.Pairwise.imp ?_ hs.2
      intro a b hab x hx hy
      have := mem_runCells.1 hx
      have := mem_runCells.1 hy
      omega
    · refine List.Pairwise.imp ?_ hv.2
      intro a b hab x hx hy
      obtain ⟨r, _, hx⟩ := List.mem_flatMap.1 hx
      obtain ⟨q, _, hy⟩ := List.mem_flatMap.1 hy
      have := (mem_runCells.1 hx).1
      have := (mem_runCells.1 hy).1
      omega
  · exact List.nodup_nil
/-- what divides a region has as many cells -/
theorem cntR_add {a b c : List Row} (va : rvalid a = true) (vb : rvalid b = true) (vc : rvalid c = true) (h1 : ∀ x y, memC c x y = (memC a x y || memC b x y)) (h2 : ∀ x y, memC a x y = true → memC b x y = false) : cntR a + cntR b = cntR c := by
  rw [← cellsR_len, ← cellsR_len, ← cellsR_len]
  have hp : (cellsR a ++ cellsR b).Perm (cellsR c) := by
    refine (List.perm_ext_iff_of_nodup ?_ (cellsR_nodup c)).2 fun x => ?_
    · rw [List.nodup_append]
      refine ⟨cellsR_nodup a, cellsR_nodup b, fun x hx y hy hxy => ?_⟩
      subst hxy
      have h3 := (mem_cellsR.1 hx).2
      have h4 := (mem_cellsR.1 hy).2
      rw [h2 _ _ h3] at h4
      cases h4
    · rw [List.mem_append, mem_cellsR, mem_cellsR, mem_cellsR, h1]
      simp [va, vb, vc]
  have := hp.length_eq
  rw [List.length_append] at this
  omega
end Reg
end Go.Proofs.YtneelidbgigehaaGreat

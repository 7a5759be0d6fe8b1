/- What the supports satisfy; with no program in sight. -/
import Derived.Test.YtlhmopndnohnhaaSupLawW
namespace Go.Proofs.Ytlhmopndnohnhaa
set_option linter.unusedSimpArgs false
set_option linter.unusedVariables false
open Runs Reg
theorem supE_three (rs : List (List Reg.Row)) (R G : Int) : supE rs R G = 0 ∨ supE rs R G = 1 ∨ supE rs R G = 8 := by
  unfold supE
  split
  · exact .inr (.inl rfl)
  · split
    · exact .inl rfl
    · exact .inr (.inr rfl)
theorem supR_no {rs : List (List Reg.Row)} {R G : Int} (h : supE rs R G ≠ 0) : supR rs R G = [] := by unfold supR; rw [if_neg h]
theorem supE_zero {rs : List (List Reg.Row)} {R G : Int} (h : supE rs R G = 0) : rs.all rvalid = true ∧ reachOk R = true ∧ reachOk G = true ∧ (∀ i, i < rs.length - 1 → dilE (rsAt rs i) R = 0 ∧ dilE (rsAt rs i) G = 0) ∧ supR rs R G = supL rs R G (rs.length - 1) := by
  have h2 : supR rs R G = supL rs R G (rs.length - 1) := by unfold supR; rw [if_pos h]
  unfold supE at h
  split at h
  · cases h
  rename_i h3
  split at h
  · rename_i h4
    have h3 : (rs.all rvalid && reachOk R && reachOk G) = true := by cases hh : (rs.all rvalid && reachOk R && reachOk G) <;> simp_all
    rw [Bool.and_eq_true, Bool.and_eq_true] at h3
    refine ⟨h3.1.1, h3.1.2, h3.2, fun i hi => ?_, h2⟩
    have := List.all_eq_true.1 h4 i (List.mem_range.2 hi)
    unfold supOk at this
    rwa [Bool.and_eq_true, decide_eq_true_eq, decide_eq_true_eq] at this
  · cases h
theorem rsAt_valid {rs : List (List Reg.Row)} (h : rs.all rvalid = true) (i : Nat) : rvalid (rsAt rs i) = true := by
  unfold rsAt
  cases hr : rs[i]? with
  | none => exact rvalid_nil
  | some r => exact List.all_eq_true.1 h r (List.mem_of_getElem? hr)
/-- the support of the layer j -/
def sAt (rs : List (List Reg.Row)) (R G : Int) (j : Nat) : List Reg.Row := supS rs R G (rs.length - 1 - j)
theorem sAt_valid (rs : List (List Reg.Row)) (R G : Int) (j : Nat) : rvalid (sAt rs R G j) = true := supS_valid _ _ _ _
theorem supR_get {rs : List (List Reg.Row)} {R G : Int} (h : supE rs R G = 0) {j : Nat} (hj : j < rs.length) : (supR rs R G)[j]? = some (sAt rs R G j) := by
  rw [(supE_zero h).2.2.2.2, supL_get hj, if_pos (by omega)]; rfl
theorem supR_length {rs : List (List Reg.Row)} {R G : Int} (h : supE rs R G = 0) : (supR rs R G).length = rs.length := by rw [(supE_zero h).2.2.2.2, supL_len]
theorem sAt_top (rs : List (List Reg.Row)) (R G : Int) {j : Nat} (h : rs.length ≤ j + 1) : sAt rs R G j = [] := by
  unfold sAt; rw [show rs.length - 1 - j = 0 by omega]; rfl
theorem sAt_step {rs : List (List Reg.Row)} {R G : Int} {i : Nat} (h : i + 1 < rs.length) :
    sAt rs R G i = rop (opf 0) (rop (opf 2) (sAt rs R G (i + 1)) (ovR (rsAt rs (i + 1)) (rsAt rs i) R)) (dilR (rsAt rs i) G) := by
  unfold sAt
  obtain ⟨m, hm⟩ : ∃ m, m = rs.length - 1 - (i + 1) := ⟨_, rfl⟩
  rw [show rs.length - 1 - i = m + 1 by omega, ← hm, supS, show rs.length - 1 - m = i + 1 by omega, show rs.length - 2 - m = i by omega]
theorem sAt_mem {rs : List (List Reg.Row)} {R G : Int} {i : Nat} (h : i + 1 < rs.length) (x y : Int) :
    memC (sAt rs R G i) x y = true ↔ (memC (sAt rs R G (i + 1)) x y = true ∨ memC (ovR (rsAt rs (i + 1)) (rsAt rs i) R) x y = true) ∧ ¬ memC (dilR (rsAt rs i) G) x y = true := by
  rw [sAt_step h, rop0_mem (rop_valid (opf_ff 2) _ _) (dilR_valid _ _), rop2_mem (sAt_valid _ _ _ _) (ovR_valid _ _ _)]
theorem ovR_mem {r b : List Reg.Row} {k : Int} (hr : rvalid r = true) (h : dilE b k = 0) (x y : Int) : memC (ovR r b k) x y = true ↔ memC r x y = true ∧ ¬ memC (dilR b k) x y = true := by
  unfold ovR
  rw [if_pos ((ovE_valid hr).trans h), rop0_mem hr (dilR_valid _ _)]
/-- every overhanging cell has a support below it, or the part within the gap -/
theorem holds_within {rs : List (List Reg.Row)} {R G : Int} {i : Nat} (h : i + 1 < rs.length) :
    withinR (rop (opf 2) (ovR (rsAt rs (i + 1)) (rsAt rs i) R) (sAt rs R G (i + 1))) (rop (opf 2) (sAt rs R G i) (dilR (rsAt rs i) G)) = true := by
  rw [within_iff (rop_valid (opf_ff 2) _ _) (rop_valid (opf_ff 2) _ _)]
  intro x y hx
  rw [rop2_mem (ovR_valid _ _ _) (sAt_valid _ _ _ _)] at hx
  rw [rop2_mem (sAt_valid _ _ _ _) (dilR_valid _ _), sAt_mem h]
  by_cases hd : memC (dilR (rsAt rs i) G) x y = true
  · exact .inr hd
  · exact .inl ⟨hx.symm, hd⟩
/-- no support lies within the gap -/
theorem clear_none {rs : List (List Reg.Row)} {R G : Int} {i : Nat} (h : i + 1 < rs.length) : rop (opf 1) (sAt rs R G i) (dilR (rsAt rs i) G) = [] := by
  refine reg_ext (rop_valid (opf_ff 1) _ _) rvalid_nil fun x y => ?_
  rw [rop1_mem (sAt_valid _ _ _ _) (dilR_valid _ _), sAt_mem h, memC_nil]
  constructor
  · rintro ⟨⟨_, h1⟩, h2⟩; exact absurd h2 h1
  · intro h1; cases h1
theorem clear_within {rs : List (List Reg.Row)} {R G : Int} (hE : supE rs R G = 0) {i : Nat} (h : i + 1 < rs.length) : withinR (sAt rs R G i) (rop (opf 2) (rsAt rs (i + 1)) (sAt rs R G (i + 1))) = true := by
  have hz := supE_zero hE
  have hv := rsAt_valid hz.1 (i + 1)
  rw [within_iff (sAt_valid _ _ _ _) (rop_valid (opf_ff 2) _ _)]
  intro x y hx
  rw [rop2_mem hv (sAt_valid _ _ _ _)]
  rcases ((sAt_mem h x y).1 hx).1 with h1 | h1
  · exact .inr h1
  · exact .inl ((ovR_mem hv (hz.2.2.2.1 i (by omega)).1 x y).1 h1).1
/-- with a greater reach no support becomes greater -/
theorem reach_sub {rs : List (List Reg.Row)} {R R' G : Int} (hR : R ≤ R') (h : supE rs R G = 0) (h' : supE rs R' G = 0) : ∀ m, m + 1 ≤ rs.length → subR (supS rs R' G m) (supS rs R G m)
  | 0, _ => fun x y hx => hx
  | m + 1, hm => by
    have ih := reach_sub hR h h' m (by omega)
    have z := supE_zero h
    have z' := supE_zero h'
    have hv := rsAt_valid z.1 (rs.length - 1 - m)
    have d := (z.2.2.2.1 (rs.length - 2 - m) (by omega)).1
    have d' := (z'.2.2.2.1 (rs.length - 2 - m) (by omega)).1
    intro x y hx
    rw [supS, rop0_mem (rop_valid (opf_ff 2) _ _) (dilR_valid _ _), rop2_mem (supS_valid _ _ _ _) (ovR_valid _ _ _)] at hx ⊢
    refine ⟨?_, hx.2⟩
    rcases hx.1 with h1 | h1
    · exact .inl (ih x y h1)
    · right
      rw [ovR_mem hv d'] at h1
      rw [ovR_mem hv d]
      refine ⟨h1.1, fun h2 => h1.2 ?_⟩
      obtain ⟨j, i, h3, h4, h5, h6, h7⟩ := (dilR_mem d x y).1 h2
      exact (dilR_mem d' x y).2 ⟨j, i, by omega, by omega, by omega, by omega, h7⟩
theorem reach_within {rs : List (List Reg.Row)} {R R' G : Int} (hR : R ≤ R') (h : supE rs R G = 0) (h' : supE rs R' G = 0) {i : Nat} (hi : i < rs.length) : withinR (sAt rs R' G i) (sAt rs R G i) = true :=
  (within_iff (sAt_valid _ _ _ _) (sAt_valid _ _ _ _)).2 (reach_sub hR h h' _ (by omega))
end Go.Proofs.Ytlhmopndnohnhaa

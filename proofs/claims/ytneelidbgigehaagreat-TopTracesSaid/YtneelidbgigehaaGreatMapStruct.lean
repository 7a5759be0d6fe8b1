/- The law of keys that are structs of two ints. -/
import Derived.Test.YtneelidbgigehaaGreatMapKit
namespace Go.Proofs.YtneelidbgigehaaGreat
set_option linter.unusedSimpArgs false
set_option linter.unusedVariables false
set_option maxRecDepth 100000
open Go Go.Maps Go.RowKit
theorem keyT_of {P : Program} {K I : TypeId} {f0 f1 : Field} (law : Keyed P K) (hu : P.underlying K = some (.struct #[f0, f1])) (h0 : f0.type = I ∧ f0.offset = 0 ∧ (f0.name != "_") = true) (h1 : f1.type = I ∧ f1.offset = 1 ∧ (f1.name != "_") = true)
    (hi : P.underlying I = some (.int .i64)) (hc : P.cellsOf K = 2) (hci : P.cellsOf I = 1) (hkt : P.keyType K = true) (hsz : ∃ m, P.types.size = m + 1) : KeyT P K := by
  obtain ⟨m, hm⟩ := hsz
  have lits : ∀ cs : List Value, P.keyLits (P.types.size + 1) K cs = (if cs.length = 2 then ((P.keyLits (m + 1) I (cs.take 1)).bind fun a => (P.keyLits (m + 1) I ((cs.drop 1).take 1)).map fun b => a ++ b) else none) := fun cs => by
    rw [hm]
    conv => lhs; unfold Program.keyLits
    simp only [hu]
    rw [hc]
    have e : (#[f0, f1].all fun x => x.name != "_") = true := by simp [h0.2.2, h1.2.2]
    by_cases hl : cs.length = 2
    · rw [if_pos ⟨hl, e⟩, if_pos hl]
      simp only [List.mapM_cons, List.mapM_nil, h0.1, h0.2.1, h1.1, h1.2.1, hci, List.drop_zero]
      rcases P.keyLits (m + 1) I (cs.take 1) with _ | la
      · rfl
      · rcases P.keyLits (m + 1) I ((cs.drop 1).take 1) with _ | lb
        · rfl
        · simp
    · rw [if_neg (fun h => hl h.1), if_neg hl]
  have int1 : ∀ x : Int, (Lit.int .i64 x).wf = true → P.keyLits (m + 1) I [.int .i64 x] = some [.int .i64 x] := fun x hx => by
    unfold Program.keyLits; simp [hi, hx]
  have inv1 : ∀ (cs : List Value) ls, cs.length = 1 → P.keyLits (m + 1) I cs = some ls → ∃ x : Int, cs = [.int .i64 x] ∧ (Lit.int .i64 x).wf = true ∧ ls = [.int .i64 x] := fun cs ls hl h => by
    match cs, hl with
    | [v], _ =>
      unfold Program.keyLits at h
      rw [hi] at h
      cases v <;> simp at h
      obtain ⟨⟨rfl, hw⟩, rfl⟩ := h
      exact ⟨_, rfl, hw, rfl⟩
  refine ⟨law, fun c hcw => ?_, fun v l h => ?_⟩
  · unfold keyOf
    simp only [hu]
    rw [if_pos (by simp [hkt, kv, Value.formed, hu, hc])]
    show Option.map _ (P.keyLits (P.types.size + 1) K [.int .i64 c.1, .int .i64 c.2]) = _
    have hll : ([Value.int .i64 c.1, Value.int .i64 c.2] : List Value).length = 2 := rfl
    rw [lits, if_pos hll]
    show Option.map _ ((P.keyLits (m + 1) I [.int .i64 c.1]).bind fun a => (P.keyLits (m + 1) I [.int .i64 c.2]).map fun b => a ++ b) = _
    rw [int1 c.1 hcw.1, int1 c.2 hcw.2]
    rfl
  · unfold keyOf at h
    simp only [hu] at h
    split at h
    · rename_i hf
      simp only [Bool.and_eq_true] at hf
      cases v <;> simp [Value.formed, hu, hc] at hf
      rename_i cs
      simp only [Value.cells] at h
      rw [lits] at h
      have hl : cs.toList.length = 2 := by simpa using hf.2
      rw [if_pos hl] at h
      match hcs : cs.toList, hl with
      | [a, b], _ =>
        rw [hcs] at h
        simp only [List.take_succ_cons, List.take_zero, List.drop_succ_cons, List.drop_zero] at h
        cases h1 : P.keyLits (m + 1) I [a] with
        | none => rw [h1] at h; simp at h
        | some la =>
          cases h2 : P.keyLits (m + 1) I [b] with
          | none => rw [h1, h2] at h; simp at h
          | some lb =>
            obtain ⟨x, e1, w1, rfl⟩ := inv1 _ _ rfl h1
            obtain ⟨y, e2, w2, rfl⟩ := inv1 _ _ rfl h2
            rw [h1, h2] at h
            simp at h e1 e2
            subst e1 e2
            refine ⟨(x, y), ?_, ⟨w1, w2⟩, h.symm⟩
            unfold kv
            have : cs = #[.int .i64 x, .int .i64 y] := by rw [← Array.toArray_toList (xs := cs), hcs]
            rw [this]
    · cases h
end Go.Proofs.YtneelidbgigehaaGreat

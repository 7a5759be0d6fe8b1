/- Balanced: plain laws. -/
import Derived.Test.YteadnlodccnfcaaCtrKit
namespace Go.Proofs.Yteadnlodccnfcaa
set_option linter.unusedSimpArgs false
set_option linter.unusedVariables false
open Planar
def balP (l : List Sg) (p : Pt) : Int := (l.countP fun s => decide (s.1 = p) : Nat) - (l.countP fun s => decide (s.2 = p) : Nat)
def balB (l : List Sg) : Bool := l.all fun s => decide (balP l s.1 = 0) && decide (balP l s.2 = 0)
def updB (m : Pt → Option Int) (p : Pt) (d : Int) : Pt → Option Int := fun q => if q = p then some ((m p).getD 0 + d) else m q
def stepB (m : Pt → Option Int) (s : Sg) : Pt → Option Int := updB (updB m s.1 1) s.2 (-1)
def mapB (l : List Sg) : Pt → Option Int := l.foldl stepB fun _ => none
theorem updB_get (m : Pt → Option Int) (p q : Pt) (d : Int) : ((updB m p d) q).getD 0 = (m q).getD 0 + if q = p then d else 0 := by
  unfold updB
  by_cases h : q = p
  · subst h; simp
  · simp [h]
theorem updB_some (m : Pt → Option Int) (p q : Pt) (d : Int) : ((updB m p d) q).isSome = (decide (q = p) || (m q).isSome) := by
  unfold updB
  by_cases h : q = p
  · subst h; simp
  · simp [h]
theorem foldB : ∀ (l : List Sg) (m : Pt → Option Int) (p : Pt), ((l.foldl stepB m) p).getD 0 = (m p).getD 0 + balP l p ∧ (((l.foldl stepB m) p).isSome = true ↔ (m p).isSome = true ∨ ∃ s ∈ l, s.1 = p ∨ s.2 = p)
  | [], m, p => by simp [balP]
  | s :: l, m, p => by
    obtain ⟨h1, h2⟩ := foldB l (stepB m s) p
    rw [List.foldl_cons]
    refine ⟨?_, ?_⟩
    · rw [h1]
      unfold stepB
      rw [updB_get, updB_get]
      unfold balP
      rw [List.countP_cons, List.countP_cons]
      by_cases e1 : p = s.1 <;> by_cases e2 : p = s.2
      · simp [e1.symm, e2.symm]; omega
      · have : ¬ s.2 = p := fun e => e2 e.symm
        simp [e1.symm, this, e2]; omega
      · have : ¬ s.1 = p := fun e => e1 e.symm
        simp [e2.symm, this, e1]; omega
      · have h3 : ¬ s.1 = p := fun e => e1 e.symm
        have h4 : ¬ s.2 = p := fun e => e2 e.symm
        simp [h3, h4, e1, e2]
    · rw [h2]
      unfold stepB
      rw [updB_some, updB_some]
      simp only [Bool.or_eq_true, decide_eq_true_eq, List.mem_cons, exists_eq_or_imp]
      constructor
      · rintro ((h | h | h) | h)
        · exact .inr (.inl (.inr h.symm))
        · exact .inr (.inl (.inl h.symm))
        · exact .inl h
        · exact .inr (.inr h)
      · rintro (h | (h | h) | h)
        · exact .inl (.inr (.inr h))
        · exact .inl (.inr (.inl h.symm))
        · exact .inl (.inl h.symm)
        · exact .inr h
theorem mapB_get (l : List Sg) (p : Pt) : (mapB l p).getD 0 = balP l p := by
  have := (foldB l (fun _ => none) p).1
  simpa [mapB] using this
theorem mapB_some (l : List Sg) (p : Pt) : (mapB l p).isSome = true ↔ ∃ s ∈ l, s.1 = p ∨ s.2 = p := by
  have := (foldB l (fun _ => none) p).2
  simpa [mapB] using this
theorem mapB_snoc (l : List Sg) (s : Sg) : mapB (l ++ [s]) = stepB (mapB l) s := by simp [mapB]
theorem balP_bd (l : List Sg) (p : Pt) : -(l.length : Int) ≤ balP l p ∧ balP l p ≤ l.length := by
  unfold balP
  have h1 := List.countP_le_length (l := l) (p := fun s => decide (s.1 = p))
  have h2 := List.countP_le_length (l := l) (p := fun s => decide (s.2 = p))
  omega
theorem balB_iff (l : List Sg) : balB l = true ↔ ∀ p v, mapB l p = some v → v = 0 := by
  unfold balB
  rw [List.all_eq_true]
  constructor
  · intro h p v hv
    have e := mapB_get l p
    rw [hv] at e
    obtain ⟨s, hs, he⟩ := (mapB_some l p).1 (by rw [hv]; rfl)
    have := h s hs
    simp only [Bool.and_eq_true, decide_eq_true_eq] at this
    simp at e
    rcases he with rfl | rfl
    · rw [e]; exact this.1
    · rw [e]; exact this.2
  · intro h s hs
    have key : ∀ p, (s.1 = p ∨ s.2 = p) → balP l p = 0 := fun p hp => by
      have := (mapB_some l p).2 ⟨s, hs, hp⟩
      obtain ⟨v, hv⟩ := Option.isSome_iff_exists.1 this
      rw [← mapB_get, hv]
      exact h p v hv
    simp only [Bool.and_eq_true, decide_eq_true_eq]
    exact ⟨key _ (.inl rfl), key _ (.inr rfl)⟩
theorem balB_nz {l : List Sg} {p : Pt} {v : Int} (h : mapB l p = some v) (hv : v ≠ 0) : balB l = false := by
  cases hb : balB l
  · rfl
  · exact absurd ((balB_iff l).1 hb p v h) hv
end Go.Proofs.Yteadnlodccnfcaa

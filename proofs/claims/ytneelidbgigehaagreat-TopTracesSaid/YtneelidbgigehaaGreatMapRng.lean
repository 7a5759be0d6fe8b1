/- A range over a map whose keys are structs of two ints: the map told as a function, and the keys still to come. -/
import Derived.Test.YtneelidbgigehaaGreatMapKit
namespace Go.Proofs.YtneelidbgigehaaGreat
set_option linter.unusedSimpArgs false
set_option linter.unusedVariables false
open Go Go.Maps Go.RowKit
section
variable {P : Program} {K : TypeId}
def RngM (P : Program) (K : TypeId) (w : World) (b r n : Nat) (F : Key → Option Value) (left : Key → Bool) (cnt : Nat) : Prop :=
  ∃ D L, w.ranges P K heldR b r n D L cnt ∧ (∀ c, wfK c → ∀ z, D.atKey (kl c) z = (match F c with | some v => .held v | none => z)) ∧ ∀ c, wfK c → L (kl c) = left c
theorem OwnM.range {w : World} {b n : Nat} {F : Key → Option Value} {t e : TypeId} (h : OwnM P K w b n F) (T : KeyT P K) (ht : P.underlying t = some (.map K e)) :
    ∃ w' cnt, (Instr.range t (.map (some b))).run P w = .ok (.pointer (some ⟨w.heap.size, 0, none⟩)) w' ∧ RngM P K w' b w.heap.size n F (fun c => (F c).isSome) cnt ∧ w.grownBy w' none ∧ w'.heap.size = w.heap.size + 1 := by
  obtain ⟨D, h1, h2⟩ := h
  obtain ⟨w', hrun, r1, r2, r3⟩ := h1.range T.law ht
  exact ⟨w', _, hrun, ⟨D, _, r1, h2, fun c hc => OwnM.has (w := w) (b := b) (n := n) h2 hc⟩, r2, r3⟩
theorem RngM.next {w : World} {b r n cnt : Nat} {F : Key → Option Value} {left : Key → Bool} (h : RngM P K w b r n F left cnt) (T : KeyT P K) (ty : TypeId) :
    (cnt = 0 ∧ (∀ c, wfK c → left c = false) ∧ (Instr.next (.pointer (some ⟨r, 0, none⟩)) false ty).run P w = .ok (.tuple #[.bool false]) w) ∨
    ∃ c v w' cnt', wfK c ∧ left c = true ∧ F c = some v ∧ (Instr.next (.pointer (some ⟨r, 0, none⟩)) false ty).run P w = .ok (.tuple #[.bool true, kv c, v]) w' ∧
      RngM P K w' b r n F (fun d => left d && decide (d ≠ c)) cnt' ∧ cnt' < cnt ∧ w.grownBy w' (some r) ∧ w'.heap.size = w.heap.size ∧ (Instr.entry (.pointer (some ⟨r, 0, none⟩))).run P w' = .ok (.tuple #[kv c, v]) w' := by
  obtain ⟨D, L, h1, h2, h3⟩ := h
  rcases h1.next T.law ty with ⟨h0, hl, hrun⟩ | ⟨key, v, l, y, w', cnt', hkey, hlk, hv, hat, hrun, hrg, hlt, hgr, hsz, hen⟩
  · exact Or.inl ⟨h0, fun c hc => by rw [← h3 c hc]; exact hl _, hrun⟩
  · obtain ⟨c, rfl, hc, rfl⟩ := T.inv key l hkey
    have e := heldR_inv hv
    subst e
    have hF : F c = some v := by
      cases hF : F c with
      | none =>
        have a1 := hat (.held (.bool true))
        have a2 := hat (.held (.bool false))
        rw [h2 c hc, hF] at a1 a2
        rw [← a2] at a1
        injection a1 with a1
        injection a1 with a1
        cases a1
      | some u =>
        have a1 := hat (.held v)
        rw [h2 c hc, hF] at a1
        injection a1 with a1
        rw [a1]
    refine Or.inr ⟨c, v, w', cnt', hc, by rw [← h3 c hc]; exact hlk, hF, hrun, ⟨D, _, hrg, h2, fun d hd => ?_⟩, hlt, hgr, hsz, hen⟩
    show (L (kl d) && !(kl d).sameKey (kl c)) = _
    rw [h3 d hd]
    by_cases hdc : d = c
    · subst hdc; simp [WideAt.sameKey_self (T.isKey hd)]
    · rw [sameKey_ne (fun e => hdc (T.inj hd hc e))]; simp [hdc]
end
end Go.Proofs.YtneelidbgigehaaGreat

/- Regions behind a store into a variable. -/
import Derived.Test.YtfoedkdmckhihaaRegKit2
namespace Go.Proofs.Ytfoedkdmckhihaa
set_option linter.unusedSimpArgs false
set_option linter.unusedVariables false
open Go.RowKit Runs Reg
theorem heads_far {W : World} {v : Value} {hs : List RowH} {p : Nat} {t : TypeId} {A : Option Addr} {n c : Nat} (h : Rd 2 encRow W v hs) (hB : Blk W p t #[.slice A n c]) : hs = [] ∨ v.ownBlock ≠ some p := by
  obtain ⟨A', cap, rfl, _, h⟩ := h
  rcases h with h | ⟨b, off, rfl, hlt, hcell⟩
  · exact .inl h
  rcases hs with _ | ⟨r, l⟩
  · exact .inl rfl
  right
  intro e
  have e : b = p := by simpa [Value.ownBlock] using e
  subst e
  have h0 := hcell 0 r rfl 0 _ rfl
  rw [hB.cell] at h0
  generalize off + 0 * 2 + 0 = k at h0
  match k, h0 with
  | 0, h0 => simp at h0
  | k + 1, h0 => simp at h0
theorem RdRows.grown_ {W W' : World} {s : Value} {rows : List Reg.Row} {p : Nat} {t : TypeId} {A : Option Addr} {n c : Nat} (h : RdRows W s rows) (hB : Blk W p t #[.slice A n c]) (hg : W.grownBy W' (some p)) : RdRows W' s rows := by
  obtain ⟨hs, h1, h2⟩ := h
  exact ⟨hs, h1.grown hg (heads_far h1 hB), h2.1, fun j y x hy hx => ⟨(h2.2 j y x hy hx).1, (h2.2 j y x hy hx).2.grown hg (runs_far (h2.2 j y x hy hx).2 hB)⟩⟩
theorem RdReg.set_ {W : World} {v : Value} {rows : List Reg.Row} {p i : Nat} {t : TypeId} {A : Option Addr} {n c : Nat} {u : Value} (h : RdReg W v rows) (hB : Blk W p t #[.slice A n c]) : RdReg (W.setCell ⟨p, i, none⟩ u) v rows := by
  obtain ⟨s, rfl, h⟩ := h
  exact ⟨s, rfl, h.grown_ hB (grownBy_set u)⟩
theorem RdReg.slice_ {W : World} {v : Value} {rows : List Reg.Row} (h : RdReg W v rows) : ∃ (A : Option Addr) (cap : Nat), v = .agg #[.slice A rows.length cap] := by
  obtain ⟨s, rfl, h⟩ := h
  obtain ⟨A, cap, rfl, _⟩ := rows_open h
  exact ⟨A, cap, rfl⟩
end Go.Proofs.Ytfoedkdmckhihaa

/- Three variables that hold points. -/
import Derived.Test.YtceamihampfdiaaHullPlain
namespace Go.Proofs.Ytceamihampfdiaa
set_option linter.unusedSimpArgs false
set_option linter.unusedVariables false
open Go.RowKit Go.Proofs Planar
theorem cutR {A : Type} {F : Nat → Nat → Nat → A → Prop} {R : Nat → Nat → Nat → A → Prop} {P : Prop} (main : (∀ Ga Gb Gc y, F Ga Gb Gc y → R Ga Gb Gc y) → P) (pf : ∀ Ga Gb Gc y, F Ga Gb Gc y → R Ga Gb Gc y) : P := main pf
theorem three_cells (w : World) (t : TypeId) (x1 x2 x3 : Pt) : ∀ W3 : World, W3 = (((w.alloc (.cells #[.int .i64 x1.1, .int .i64 x1.2] t)).alloc (.cells #[.int .i64 x2.1, .int .i64 x2.2] t)).alloc (.cells #[.int .i64 x3.1, .int .i64 x3.2] t)).drew →
    (W3.cell? ⟨w.heap.size, 0, none⟩ = some (.int .i64 x1.1) ∧ W3.cell? ⟨w.heap.size, 1, none⟩ = some (.int .i64 x1.2)) ∧ (W3.cell? ⟨w.heap.size + 1, 0, none⟩ = some (.int .i64 x2.1) ∧ W3.cell? ⟨w.heap.size + 1, 1, none⟩ = some (.int .i64 x2.2)) ∧
    (W3.cell? ⟨w.heap.size + 1 + 1, 0, none⟩ = some (.int .i64 x3.1) ∧ W3.cell? ⟨w.heap.size + 1 + 1, 1, none⟩ = some (.int .i64 x3.2)) ∧ w.heap.size < W3.heap.size ∧ w.heap.size + 1 < W3.heap.size ∧ w.heap.size + 1 + 1 < W3.heap.size := by
  intro W3 h
  have hh : W3.heap = ((w.heap.push (.cells #[.int .i64 x1.1, .int .i64 x1.2] t)).push (.cells #[.int .i64 x2.1, .int .i64 x2.2] t)).push (.cells #[.int .i64 x3.1, .int .i64 x3.2] t) := by rw [h]; rfl
  have h1 : W3.heap[w.heap.size]? = some (.cells #[.int .i64 x1.1, .int .i64 x1.2] t) := by
    rw [hh, Array.getElem?_push, if_neg (by simp; omega), Array.getElem?_push, if_neg (by simp), Array.getElem?_push, if_pos rfl]
  have h2 : W3.heap[w.heap.size + 1]? = some (.cells #[.int .i64 x2.1, .int .i64 x2.2] t) := by
    rw [hh, Array.getElem?_push, if_neg (by simp), Array.getElem?_push, if_pos (by simp)]
  have h3 : W3.heap[w.heap.size + 1 + 1]? = some (.cells #[.int .i64 x3.1, .int .i64 x3.2] t) := by
    rw [hh, Array.getElem?_push, if_pos (by simp)]
  have hs : W3.heap.size = w.heap.size + 1 + 1 + 1 := by rw [hh]; simp
  refine ⟨⟨?_, ?_⟩, ⟨?_, ?_⟩, ⟨?_, ?_⟩, by omega, by omega, by omega⟩ <;> simp [World.cell?, h1, h2, h3]
/-- the variables a, b, c lie in memory -/
def Vars (w : World) (a b c : Pt) (Ga Gb Gc : Nat) (y : Kin w) : Prop :=
  (y.1.cell? ⟨Ga, 0, none⟩ = some (.int .i64 a.1) ∧ y.1.cell? ⟨Ga, 1, none⟩ = some (.int .i64 a.2)) ∧ (y.1.cell? ⟨Gb, 0, none⟩ = some (.int .i64 b.1) ∧ y.1.cell? ⟨Gb, 1, none⟩ = some (.int .i64 b.2)) ∧
  (y.1.cell? ⟨Gc, 0, none⟩ = some (.int .i64 c.1) ∧ y.1.cell? ⟨Gc, 1, none⟩ = some (.int .i64 c.2)) ∧ Ga < y.1.heap.size ∧ Gb < y.1.heap.size ∧ Gc < y.1.heap.size
end Go.Proofs.Ytceamihampfdiaa

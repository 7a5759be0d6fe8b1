/- The rows' last steps for the planar statements: arguments opened to points, segments, lists of points. -/
import Derived.Test.YtceamihampfdiaaRowKit
import Derived.Test.YtceamihampfdiaaPlanarArea
namespace Go.Proofs.Ytceamihampfdiaa
set_option linter.unusedSimpArgs false
set_option linter.unusedVariables false
open Go.ChangeShapes Go.WideShapes Go.ChangeAt Go.RowKit Go.Joins
open Planar
def IsPt (v : Value) : Prop := ∃ p : Pt, v = pv p ∧ i64 p.1 ∧ i64 p.2
def IsPts (W : World) (v : Value) : Prop := ∃ l : List Pt, Rd 2 encPt W v l ∧ ∀ p ∈ l, i64 p.1 ∧ i64 p.2
def IsSeg (v : Value) : Prop := ∃ a b : Pt, v = sv a b ∧ (i64 a.1 ∧ i64 a.2) ∧ (i64 b.1 ∧ i64 b.2)
section
variable {H : Type} {enc : TypeId × Value → H} {W : World} {base : Nat} {spare : Nat → Bool} {held : Bool} {r : Reach} {b0 : Nat} {v : Value} {d : DataW H} {ps : List MemPlace}
theorem trod_pt {fuel : Nat} {cs : List Value} {x : DataW H × List MemPlace} (h : DataW.trod enc Try.prog W base spare held fuel 23 cs = some x) : ∃ p : Pt, cs = [.int .i64 p.1, .int .i64 p.2] ∧ i64 p.1 ∧ i64 p.2 := by
  obtain ⟨y0, y1, n, _, hl, t0, t1⟩ := trod_struct2 Try.underlying23 h
  have hc : Try.prog.cellsOf 23 = 2 := by kernel_rfl
  have hi : Try.prog.cellsOf 3 = 1 := by kernel_rfl
  rw [hc] at hl
  match cs, hl with
  | [c0, c1], _ =>
    simp only [hi] at t0 t1
    obtain ⟨n0, e0, _, w0⟩ := DataW.trod_int Try.underlying3 t0
    obtain ⟨n1, e1, _, w1⟩ := DataW.trod_int Try.underlying3 t1
    simp at e0 e1
    subst e0 e1
    exact ⟨(n0, n1), rfl, i64_of w0, i64_of w1⟩
theorem open_pt (hv : Value.okWide Try.prog W r b0 23 v) (h : DataW.Trod enc Try.prog W base spare held 23 v d ps) : IsPt v := by
  obtain ⟨cs, rfl, hsz⟩ := okWide_struct Try.underlying23 hv
  obtain ⟨fuel, hf⟩ := h
  obtain ⟨p, hp, h1, h2⟩ := trod_pt hf
  refine ⟨p, ?_, h1, h2⟩
  simp only [Value.cells] at hp
  obtain ⟨l⟩ := cs
  simp only at hp
  rw [hp]
theorem open_seg (hv : Value.okWide Try.prog W r b0 25 v) (h : DataW.Trod enc Try.prog W base spare held 25 v d ps) : IsSeg v := by
  obtain ⟨cs, rfl, hsz⟩ := okWide_struct Try.underlying25 hv
  obtain ⟨fuel, hf⟩ := h
  obtain ⟨y0, y1, n, _, hl, t0, t1⟩ := trod_struct2 Try.underlying25 hf
  have hc : Try.prog.cellsOf 25 = 4 := by kernel_rfl
  have hp : Try.prog.cellsOf 23 = 2 := by kernel_rfl
  obtain ⟨l⟩ := cs
  simp only [Value.cells] at hl t0 t1
  rw [hc] at hl
  match l, hl with
  | [c0, c1, c2, c3], _ =>
    simp only [hp] at t0 t1
    obtain ⟨a, e0, w0⟩ := trod_pt t0
    obtain ⟨b, e1, w1⟩ := trod_pt t1
    simp at e0 e1
    obtain ⟨rfl, rfl⟩ := e0
    obtain ⟨rfl, rfl⟩ := e1
    exact ⟨a, b, rfl, w0, w1⟩
theorem open_pts {b0 : Nat} (hv : Value.okWide Try.prog W r b0 35 v) (h : DataW.Trod enc Try.prog W 0 spare held 35 v d ps) : IsPts W v := by
  obtain ⟨a0, len, cap, rfl⟩ := okWide_slice Try.underlying35 hv
  obtain ⟨fuel, hf⟩ := h
  exact rd_slice (R := fun p : Pt => i64 p.1 ∧ i64 p.2) Try.underlying35 (by kernel_rfl) (by omega) encPt_len (fun n cs y hy => by
    obtain ⟨p, hp, h1, h2⟩ := trod_pt hy
    exact ⟨p, hp, h1, h2⟩) hf
end
end Go.Proofs.Ytceamihampfdiaa

/- Numbers and lists of numbers as arguments. -/
import Derived.Test.YteadnlodccnfcaaCtrSome
namespace Go.Proofs.Yteadnlodccnfcaa
set_option linter.unusedSimpArgs false
set_option linter.unusedVariables false
set_option maxRecDepth 100000
open Go.ChangeShapes Go.WideShapes Go.ChangeAt Go.RowKit Go.Joins Planar
def IsInt (v : Value) : Prop := ∃ n : Int, v = .int .i64 n ∧ i64 n
def IsInts (W : World) (v : Value) : Prop := ∃ l : List Int, Rd 1 encI W v l ∧ ∀ x ∈ l, i64 x
section
variable {H : Type} {enc : TypeId × Value → H} {W : World} {base : Nat} {spare : Nat → Bool} {held : Bool} {r : Reach} {b0 : Nat} {v : Value} {d : DataW H} {ps : List MemPlace}
theorem trod_i {fuel : Nat} {cs : List Value} {x : DataW H × List MemPlace} (h : DataW.trod enc Try.prog W base spare held fuel 3 cs = some x) : ∃ n : Int, cs = encI n ∧ i64 n := by
  obtain ⟨n0, e0, _, w0⟩ := DataW.trod_int Try.underlying3 h
  exact ⟨n0, e0, i64_of w0⟩
theorem open_ints (hv : Value.okWide Try.prog W r b0 43 v) (h : DataW.Trod enc Try.prog W 0 spare held 43 v d ps) : IsInts W v := by
  obtain ⟨a0, len, cap, rfl⟩ := okWide_slice Try.underlying43 hv
  obtain ⟨fuel, hf⟩ := h
  exact rd_slice (R := fun n : Int => i64 n) Try.underlying43 (by kernel_rfl) (by omega) encI_len (fun n cs y hy => trod_i hy) hf
end
end Go.Proofs.Yteadnlodccnfcaa

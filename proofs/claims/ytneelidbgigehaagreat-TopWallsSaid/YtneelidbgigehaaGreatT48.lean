/- Lemmas: TopKit. -/
import Derived.Test.YtneelidbgigehaaGreatT18
import Derived.Test.YtneelidbgigehaaGreatT19
import Derived.Test.YtneelidbgigehaaGreatT16
import Derived.Test.YtneelidbgigehaaGreatT06
/- Arguments that are regions whose lists Go can hold. (joined: TopIn TopBox TopLen) -/
/- Arguments that are regions whose lists Go can hold. -/
namespace Go.Proofs.YtneelidbgigehaaGreat
set_option linter.unusedSimpArgs false
set_option linter.unusedVariables false
set_option maxRecDepth 100000
open Go.ChangeShapes Go.WideShapes Go.ChangeAt Go.RowKit Go.Joins Runs Reg
def IsRegB (W : World) (v : Value) : Prop := ∃ rows : List Reg.Row, RdReg W v rows ∧ RBd rows
section
variable {H : Type} {enc : TypeId × Value → H} {W : World} {base : Nat} {spare : Nat → Bool} {held : Bool} {r : Reach} {b0 : Nat} {v : Value} {d : DataW H} {ps : List MemPlace}
theorem slice_max {α : Type} {k : Nat} {en : α → List Value} {t e : TypeId} (ht : Tryz.prog.underlying t = some (.slice e)) {fuel : Nat} {x : DataW H × List MemPlace} (h : DataW.trod enc Tryz.prog W 0 spare held fuel t [v] = some x) {l : List α} (hl : Rd k en W v l) : l.length ≤ 9223372036854775807 := by
  obtain ⟨A, cap, rfl, _⟩ := hl.open_
  rcases Go.Deep.open_slice ht h with ⟨hc, _⟩ | ⟨a, len, cap, m, n, D, Pl, hc, _, h1, h2, _⟩
  · simp at hc
    omega
  · simp at hc
    have : cap ≤ 2 ^ 63 - 1 := h2
    omega
theorem trod_rowB {fuel : Nat} {cs : List Value} {x : DataW H × List MemPlace} (h : DataW.trod enc Tryz.prog W 0 spare held fuel 44 cs = some x) : ∃ p : RowH, cs = encRow p ∧ ∃ l, Rd 2 encRun W (rsl p) l ∧ l.length ≤ 9223372036854775807 := by
  obtain ⟨y0, y1, n, _, hl, t0, t1⟩ := trod_struct2 Tryz.underlying44 h
  have hc : Tryz.prog.cellsOf 44 = 2 := by kernel_rfl
  have hi : Tryz.prog.cellsOf 3 = 1 := by kernel_rfl
  have hj : Tryz.prog.cellsOf 42 = 1 := by kernel_rfl
  rw [hc] at hl
  match cs, hl with
  | [c0, c1], _ =>
    simp only [hi, hj] at t0 t1
    obtain ⟨n0, e0, _, w0⟩ := DataW.trod_int Tryz.underlying3 t0
    simp at e0 t1
    subst e0
    obtain ⟨l, hrd⟩ := runs_rd t1
    have hm := slice_max Tryz.underlying42 t1 hrd
    obtain ⟨A, cap, rfl, _⟩ := hrd.open_
    exact ⟨(n0, A, l.length, cap), rfl, l, hrd, hm⟩
theorem nest_ofB {hs : List RowH} (h : ∀ p ∈ hs, ∃ l, Rd 2 encRun W (rsl p) l ∧ l.length ≤ 9223372036854775807) : ∃ rows : List Reg.Row, NestAt rsl rtag 2 encRun (fun w : Reg.Row => w.2) W hs rows ∧ ∀ w ∈ rows, w.2.length ≤ 9223372036854775807 := by
  induction hs with
  | nil => exact ⟨[], ⟨rfl, fun i h x hh => by simp at hh⟩, by simp⟩
  | cons p hs ih =>
    obtain ⟨rows, ⟨h1, h2⟩, h3⟩ := ih (fun q hq => h q (by simp [hq]))
    obtain ⟨l, hl, hm⟩ := h p (by simp)
    refine ⟨(p.1, l) :: rows, ⟨by simp [h1], fun i q x hq hx => ?_⟩, ?_⟩
    · match i, hq, hx with
      | 0, hq, hx => simp at hq hx; subst hq hx; exact ⟨rfl, hl⟩
      | i + 1, hq, hx => exact h2 i q x (by simpa using hq) (by simpa using hx)
    · intro w hw
      rcases List.mem_cons.1 hw with rfl | hw
      · exact hm
      · exact h3 w hw
theorem rows_rdB {fuel : Nat} {v : Value} {x : DataW H × List MemPlace} (h : DataW.trod enc Tryz.prog W 0 spare held fuel 22 [v] = some x) : ∃ rows, RdRows W v rows ∧ RBd rows := by
  obtain ⟨hs, h1, h2⟩ := rd_slice (R := fun p : RowH => ∃ l, Rd 2 encRun W (rsl p) l ∧ l.length ≤ 9223372036854775807) Tryz.underlying22 (by kernel_rfl) (by omega) encRow_len (fun n cs y hy => trod_rowB hy) h
  have hm := slice_max Tryz.underlying22 h h1
  obtain ⟨rows, h3, h4⟩ := nest_ofB h2
  exact ⟨rows, ⟨hs, h1, h3⟩, h3.1 ▸ hm, h4⟩
theorem trod_regB {fuel : Nat} {cs : List Value} {x : DataW H × List MemPlace} (h : DataW.trod enc Tryz.prog W 0 spare held fuel 24 cs = some x) : ∃ A n c, cs = [.slice A n c] ∧ IsRegB W (.agg #[.slice A n c]) := by
  obtain ⟨y0, n, _, hl, t0⟩ := trod_struct1 Tryz.underlying24 h
  have hc : Tryz.prog.cellsOf 24 = 1 := by kernel_rfl
  have hj : Tryz.prog.cellsOf 22 = 1 := by kernel_rfl
  rw [hc] at hl
  match cs, hl with
  | [c0], _ =>
    simp only [hj] at t0
    simp at t0
    obtain ⟨rows, hrd, hb⟩ := rows_rdB t0
    obtain ⟨A, cap, rfl, _⟩ := rows_open hrd
    exact ⟨A, rows.length, cap, rfl, rows, ⟨_, rfl, hrd⟩, hb⟩
theorem open_regB (hv : Value.okWide Tryz.prog W r b0 24 v) (h : DataW.Trod enc Tryz.prog W 0 spare held 24 v d ps) : IsRegB W v := by
  obtain ⟨cs, rfl, hsz⟩ := okWide_struct Tryz.underlying24 hv
  obtain ⟨fuel, hf⟩ := h
  obtain ⟨A, n, c, hp, hr⟩ := trod_regB hf
  obtain ⟨l⟩ := cs
  simp only [Value.cells] at hp
  rw [hp]
  exact hr
end
end Go.Proofs.YtneelidbgigehaaGreat
/- Cells lie within a region's bounds. -/
namespace Go.Proofs.YtneelidbgigehaaGreat
set_option linter.unusedSimpArgs false
set_option linter.unusedVariables false
open Runs Reg Trc
end Go.Proofs.YtneelidbgigehaaGreat
/- The number of cracks: Length, walked. -/
namespace Go.Proofs.YtneelidbgigehaaGreat
set_option linter.unusedSimpArgs false
set_option linter.unusedVariables false
set_option maxRecDepth 100000
open Go.RowKit Trc Runs Reg
attribute [local go_sem] Kin.cell Kin.frozen Kin.lt0 Kin.lt1 Kin.lt2 Kin.lt3 run_mkf
end Go.Proofs.YtneelidbgigehaaGreat

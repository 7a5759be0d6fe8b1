/- Arguments opened to regions and lists of regions. -/
import Derived.Test.YtfoedkdmckhihaaSkinKit
import Derived.Test.YtfoedkdmckhihaaRowKit
namespace Go.Proofs.Ytfoedkdmckhihaa
set_option linter.unusedSimpArgs false
set_option linter.unusedVariables false
set_option maxRecDepth 100000
open Go.ChangeShapes Go.WideShapes Go.ChangeAt Go.RowKit Go.Joins Runs Reg
def IsInt (v : Value) : Prop := ∃ n : Int, v = .int .i64 n ∧ i64 n
def IsReg (W : World) (v : Value) : Prop := ∃ rows : List Reg.Row, RdReg W v rows
def IsRegs (W : World) (v : Value) : Prop := ∃ rs : List (List Reg.Row), RdRegs W v rs
section
variable {H : Type} {enc : TypeId × Value → H} {W : World} {base : Nat} {spare : Nat → Bool} {held : Bool} {r : Reach} {b0 : Nat} {v : Value} {d : DataW H} {ps : List MemPlace}
theorem trod_run {fuel : Nat} {cs : List Value} {x : DataW H × List MemPlace} (h : DataW.trod enc Try.prog W base spare held fuel 60 cs = some x) : ∃ p : Run, cs = encRun p ∧ True := by
  obtain ⟨y0, y1, n, _, hl, t0, t1⟩ := trod_struct2 Try.underlying60 h
  have hc : Try.prog.cellsOf 60 = 2 := by kernel_rfl
  have hi : Try.prog.cellsOf 3 = 1 := by kernel_rfl
  rw [hc] at hl
  match cs, hl with
  | [c0, c1], _ =>
    simp only [hi] at t0 t1
    obtain ⟨n0, e0, _, w0⟩ := DataW.trod_int Try.underlying3 t0
    obtain ⟨n1, e1, _, w1⟩ := DataW.trod_int Try.underlying3 t1
    simp at e0 e1
    subst e0 e1
    exact ⟨(n0, n1), rfl, trivial⟩
theorem runs_rd {fuel : Nat} {v : Value} {x : DataW H × List MemPlace} (h : DataW.trod enc Try.prog W 0 spare held fuel 56 [v] = some x) : ∃ l : List Run, Rd 2 encRun W v l := by
  obtain ⟨l, hl, _⟩ := rd_slice (R := fun p : Run => True) Try.underlying56 (by kernel_rfl) (by omega) encRun_len (fun n cs y hy => trod_run hy) h
  exact ⟨l, hl⟩
theorem trod_row {fuel : Nat} {cs : List Value} {x : DataW H × List MemPlace} (h : DataW.trod enc Try.prog W 0 spare held fuel 58 cs = some x) : ∃ p : RowH, cs = encRow p ∧ ∃ l, Rd 2 encRun W (rsl p) l := by
  obtain ⟨y0, y1, n, _, hl, t0, t1⟩ := trod_struct2 Try.underlying58 h
  have hc : Try.prog.cellsOf 58 = 2 := by kernel_rfl
  have hi : Try.prog.cellsOf 3 = 1 := by kernel_rfl
  have hj : Try.prog.cellsOf 56 = 1 := by kernel_rfl
  rw [hc] at hl
  match cs, hl with
  | [c0, c1], _ =>
    simp only [hi, hj] at t0 t1
    obtain ⟨n0, e0, _, w0⟩ := DataW.trod_int Try.underlying3 t0
    simp at e0 t1
    subst e0
    obtain ⟨l, hrd⟩ := runs_rd t1
    obtain ⟨A, cap, rfl, _⟩ := hrd.open_
    exact ⟨(n0, A, l.length, cap), rfl, l, hrd⟩
theorem nest_of {hs : List RowH} (h : ∀ p ∈ hs, ∃ l, Rd 2 encRun W (rsl p) l) : ∃ rows : List Reg.Row, NestAt rsl rtag 2 encRun (fun w : Reg.Row => w.2) W hs rows := by
  induction hs with
  | nil => exact ⟨[], rfl, fun i h x hh => by simp at hh⟩
  | cons p hs ih =>
    obtain ⟨rows, h1, h2⟩ := ih (fun q hq => h q (by simp [hq]))
    obtain ⟨l, hl⟩ := h p (by simp)
    refine ⟨(p.1, l) :: rows, by simp [h1], fun i q x hq hx => ?_⟩
    match i, hq, hx with
    | 0, hq, hx => simp at hq hx; subst hq hx; exact ⟨rfl, hl⟩
    | i + 1, hq, hx => exact h2 i q x (by simpa using hq) (by simpa using hx)
theorem rows_rd {fuel : Nat} {v : Value} {x : DataW H × List MemPlace} (h : DataW.trod enc Try.prog W 0 spare held fuel 27 [v] = some x) : ∃ rows, RdRows W v rows := by
  obtain ⟨hs, h1, h2⟩ := rd_slice (R := fun p : RowH => ∃ l, Rd 2 encRun W (rsl p) l) Try.underlying27 (by kernel_rfl) (by omega) encRow_len (fun n cs y hy => trod_row hy) h
  obtain ⟨rows, h3⟩ := nest_of h2
  exact ⟨rows, hs, h1, h3⟩
theorem trod_reg {fuel : Nat} {cs : List Value} {x : DataW H × List MemPlace} (h : DataW.trod enc Try.prog W 0 spare held fuel 29 cs = some x) : ∃ p : RegH, cs = encReg p ∧ ∃ rows, RdReg W (.agg #[.slice p.1 p.2.1 p.2.2]) rows := by
  obtain ⟨y0, n, _, hl, t0⟩ := trod_struct1 Try.underlying29 h
  have hc : Try.prog.cellsOf 29 = 1 := by kernel_rfl
  have hj : Try.prog.cellsOf 27 = 1 := by kernel_rfl
  rw [hc] at hl
  match cs, hl with
  | [c0], _ =>
    simp only [hj] at t0
    simp at t0
    obtain ⟨rows, hrd⟩ := rows_rd t0
    obtain ⟨A, cap, rfl, _⟩ := rows_open hrd
    exact ⟨(A, rows.length, cap), rfl, rows, _, rfl, hrd⟩
theorem regs_of {hs : List RegH} (h : ∀ p ∈ hs, ∃ rows, RdReg W (.agg #[.slice p.1 p.2.1 p.2.2]) rows) : ∃ rs : List (List Reg.Row), hs.length = rs.length ∧ ∀ (i : Nat) (h : RegH) (r : List Reg.Row), hs[i]? = some h → rs[i]? = some r → RdReg W (.agg #[.slice h.1 h.2.1 h.2.2]) r := by
  induction hs with
  | nil => exact ⟨[], rfl, fun i h x hh => by simp at hh⟩
  | cons p hs ih =>
    obtain ⟨rs, h1, h2⟩ := ih (fun q hq => h q (by simp [hq]))
    obtain ⟨l, hl⟩ := h p (by simp)
    refine ⟨l :: rs, by simp [h1], fun i q x hq hx => ?_⟩
    match i, hq, hx with
    | 0, hq, hx => simp at hq hx; subst hq hx; exact hl
    | i + 1, hq, hx => exact h2 i q x (by simpa using hq) (by simpa using hx)
theorem regs_rd {fuel : Nat} {v : Value} {x : DataW H × List MemPlace} (h : DataW.trod enc Try.prog W 0 spare held fuel 22 [v] = some x) : IsRegs W v := by
  obtain ⟨hs, h1, h2⟩ := rd_slice (R := fun p : RegH => ∃ rows, RdReg W (.agg #[.slice p.1 p.2.1 p.2.2]) rows) Try.underlying22 (by kernel_rfl) (by omega) encReg_len (fun n cs y hy => trod_reg hy) h
  obtain ⟨rs, h3, h4⟩ := regs_of h2
  exact ⟨rs, hs, h1, h3, h4⟩
theorem open_regs (hv : Value.okWide Try.prog W r b0 22 v) (h : DataW.Trod enc Try.prog W 0 spare held 22 v d ps) : IsRegs W v := by
  obtain ⟨a0, len, cap, rfl⟩ := okWide_slice Try.underlying22 hv
  obtain ⟨fuel, hf⟩ := h
  exact regs_rd hf
theorem open_reg (hv : Value.okWide Try.prog W r b0 29 v) (h : DataW.Trod enc Try.prog W 0 spare held 29 v d ps) : IsReg W v := by
  obtain ⟨cs, rfl, hsz⟩ := okWide_struct Try.underlying29 hv
  obtain ⟨fuel, hf⟩ := h
  obtain ⟨p, hp, rows, hr⟩ := trod_reg hf
  obtain ⟨l⟩ := cs
  simp only [Value.cells] at hp
  rw [hp]
  exact ⟨rows, hr⟩
/-- a list of layers with three numbers -/
def IsAsk (W : World) (v : Value) : Prop := ∃ (s : Value) (i t b : Int), v = .agg #[s, .int .i64 i, .int .i64 t, .int .i64 b] ∧ i64 i ∧ i64 t ∧ i64 b ∧ IsRegs W s
theorem open_ask (hv : Value.okWide Try.prog W r b0 24 v) (h : DataW.Trod enc Try.prog W 0 spare held 24 v d ps) : IsAsk W v := by
  obtain ⟨cs, rfl, hsz⟩ := okWide_struct Try.underlying24 hv
  obtain ⟨fuel, hf⟩ := h
  obtain ⟨xs, n, _, _, hl, hlen, hfs⟩ := DataW.trod_struct Try.underlying24 hf
  have hc : Try.prog.cellsOf 24 = 4 := by kernel_rfl
  have hi : Try.prog.cellsOf 3 = 1 := by kernel_rfl
  have hj : Try.prog.cellsOf 22 = 1 := by kernel_rfl
  obtain ⟨l⟩ := cs
  simp only [Value.cells] at hl hfs
  rw [hc] at hl
  match l, hl with
  | [c0, c1, c2, c3], _ =>
    match xs, hlen with
    | [y0, y1, y2, y3], _ =>
      have t0 := hfs 0 _ rfl
      have t1 := hfs 1 _ rfl
      have t2 := hfs 2 _ rfl
      have t3 := hfs 3 _ rfl
      simp [hi, hj] at t0 t1 t2 t3
      obtain ⟨n1, e1, _, w1⟩ := DataW.trod_int Try.underlying3 t1
      obtain ⟨n2, e2, _, w2⟩ := DataW.trod_int Try.underlying3 t2
      obtain ⟨n3, e3, _, w3⟩ := DataW.trod_int Try.underlying3 t3
      simp at e1 e2 e3
      subst e1 e2 e3
      exact ⟨c0, n1, n2, n3, rfl, i64_of w1, i64_of w2, i64_of w3, regs_rd t0⟩
end
end Go.Proofs.Ytfoedkdmckhihaa

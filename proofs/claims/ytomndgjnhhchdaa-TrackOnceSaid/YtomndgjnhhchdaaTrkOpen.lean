/- Arguments opened to tracks and lists of tracks. -/
import Derived.Test.YtomndgjnhhchdaaTrkMem
import Derived.Deep.Strs
namespace Go.Proofs.Ytomndgjnhhchdaa
set_option linter.unusedSimpArgs false
set_option linter.unusedVariables false
set_option maxRecDepth 100000
open Go.ChangeShapes Go.WideShapes Go.ChangeAt Go.RowKit Go.Joins Trk
def IsTrk (W : World) (v : Value) : Prop := ∃ t : Tr, RdT W v t ∧ i64 t.1.1
def IsTrks (W : World) (v : Value) : Prop := ∃ l : List Tr, RdTrs W v l
section
variable {H : Type} {enc : TypeId × Value → H} {W : World} {base : Nat} {spare : Nat → Bool} {held : Bool} {r : Reach} {b0 : Nat} {v : Value} {d : DataW H} {ps : List MemPlace}
theorem trod_cell {fuel : Nat} {cs : List Value} {x : DataW H × List MemPlace} (h : DataW.trod enc Try.prog W base spare held fuel 31 cs = some x) : ∃ p : Cl, cs = encPt p ∧ True := by
  obtain ⟨y0, y1, n, _, hl, t0, t1⟩ := trod_struct2 Try.underlying31 h
  have hc : Try.prog.cellsOf 31 = 2 := by kernel_rfl
  have hi : Try.prog.cellsOf 3 = 1 := by kernel_rfl
  rw [hc] at hl
  match cs, hl with
  | [c0, c1], _ =>
    simp only [hi] at t0 t1
    obtain ⟨n0, e0, _, w0⟩ := DataW.trod_int Try.underlying3 t0
    obtain ⟨n1, e1, _, w1⟩ := DataW.trod_int Try.underlying3 t1
    simp at e0 e1
    subst e0 e1
    exact ⟨(n0, n1), rfl, trivial⟩
theorem cells_rd {fuel : Nat} {v : Value} {x : DataW H × List MemPlace} (h : DataW.trod enc Try.prog W 0 spare held fuel 22 [v] = some x) : ∃ l : List Cl, Rd 2 encPt W v l := by
  obtain ⟨l, hl, _⟩ := rd_slice (R := fun p : Cl => True) Try.underlying22 (by kernel_rfl) (by omega) encPt_len (fun n cs y hy => trod_cell hy) h
  exact ⟨l, hl⟩
theorem trod_trk {fuel : Nat} {cs : List Value} {x : DataW H × List MemPlace} (h : DataW.trod enc Try.prog W 0 spare held fuel 24 cs = some x) : ∃ p : TrH, cs = encTr p ∧ ∃ l : List Cl, Rd 2 encPt W (tsl p) l ∧ p.2.2.1 = l.length := by
  obtain ⟨y0, y1, y2, n, _, hl, t0, t1, t2⟩ := Go.Deep.trod_struct3 Try.underlying24 h
  have hc : Try.prog.cellsOf 24 = 3 := by kernel_rfl
  have hi : Try.prog.cellsOf 3 = 1 := by kernel_rfl
  have hb : Try.prog.cellsOf 4 = 1 := by kernel_rfl
  have hj : Try.prog.cellsOf 22 = 1 := by kernel_rfl
  rw [hc] at hl
  match cs, hl with
  | [c0, c1, c2], _ =>
    simp only [hi, hb, hj] at t0 t1 t2
    obtain ⟨n0, e0, _, w0⟩ := DataW.trod_int Try.underlying3 t0
    obtain ⟨b1, e1, _⟩ := DataW.trod_bool Try.underlying4 t1
    simp at e0 e1 t2
    subst e0 e1
    obtain ⟨l, hrd⟩ := cells_rd t2
    obtain ⟨A, cap, rfl, _⟩ := hrd.open_
    exact ⟨((n0, b1), (A, l.length, cap)), rfl, l, hrd, rfl⟩
theorem nest_trks {hs : List TrH} (h : ∀ p ∈ hs, ∃ l : List Cl, Rd 2 encPt W (tsl p) l ∧ p.2.2.1 = l.length) : ∃ l : List Tr, NestAt tsl ttag 2 encPt (fun t : Tr => t.2) W hs l := by
  induction hs with
  | nil => exact ⟨[], rfl, fun i h x hh => by simp at hh⟩
  | cons p hs ih =>
    obtain ⟨rows, h1, h2⟩ := ih (fun q hq => h q (by simp [hq]))
    obtain ⟨l, hl, _⟩ := h p (by simp)
    refine ⟨(p.1, l) :: rows, by simp [h1], fun i q x hq hx => ?_⟩
    match i, hq, hx with
    | 0, hq, hx => simp at hq hx; subst hq hx; exact ⟨rfl, hl⟩
    | i + 1, hq, hx => exact h2 i q x (by simpa using hq) (by simpa using hx)
theorem trks_rd {fuel : Nat} {v : Value} {x : DataW H × List MemPlace} (h : DataW.trod enc Try.prog W 0 spare held fuel 33 [v] = some x) : IsTrks W v := by
  obtain ⟨hs, h1, h2⟩ := rd_slice (R := fun p : TrH => ∃ l : List Cl, Rd 2 encPt W (tsl p) l ∧ p.2.2.1 = l.length) Try.underlying33 (by kernel_rfl) (by omega) encTr_len (fun n cs y hy => trod_trk hy) h
  obtain ⟨l, h3⟩ := nest_trks h2
  exact ⟨l, hs, h1, h3⟩
theorem open_trks (hv : Value.okWide Try.prog W r b0 33 v) (h : DataW.Trod enc Try.prog W 0 spare held 33 v d ps) : IsTrks W v := by
  obtain ⟨a0, len, cap, rfl⟩ := okWide_slice Try.underlying33 hv
  obtain ⟨fuel, hf⟩ := h
  exact trks_rd hf
theorem open_trk (hv : Value.okWide Try.prog W r b0 24 v) (h : DataW.Trod enc Try.prog W 0 spare held 24 v d ps) : ∃ t : Tr, RdT W v t := by
  obtain ⟨cs, rfl, hsz⟩ := okWide_struct Try.underlying24 hv
  obtain ⟨fuel, hf⟩ := h
  obtain ⟨p, hp, l, hr, hn⟩ := trod_trk hf
  obtain ⟨c⟩ := cs
  obtain ⟨⟨r0, b1⟩, A, n, cap⟩ := p
  simp only at hn
  subst hn
  simp only [Value.cells] at hp
  rw [hp]
  exact ⟨((r0, b1), l), A, cap, rfl, hr⟩
end
end Go.Proofs.Ytomndgjnhhchdaa

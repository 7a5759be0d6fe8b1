/- Polygons and segments in memory. -/
import Derived.Test.YteadnlodccnfcaaRowKit
import Derived.Test.YteadnlodccnfcaaPlanarArea
import Derived.Test.YteadnlodccnfcaaCtrKey
namespace Go.Proofs.Yteadnlodccnfcaa
set_option linter.unusedSimpArgs false
set_option linter.unusedVariables false
set_option maxRecDepth 100000
open Go.ChangeShapes Go.WideShapes Go.ChangeAt Go.RowKit Go.Joins Planar
abbrev PolH := Option Addr × Nat × Nat
def psl (h : PolH) : Value := .slice h.1 h.2.1 h.2.2
def encPol (h : PolH) : List Value := [psl h]
theorem encPol_len (h : PolH) : (encPol h).length = 1 := rfl
theorem onePol : OneC encPol := fun x u hu => by simp [encPol, psl] at hu; rcases hu with rfl; rfl
def ptag (h : PolH) (o : List Pt) : Prop := True
abbrev RdPols (W : World) (v : Value) (l : List (List Pt)) : Prop := RdN 1 encPol psl ptag 2 encPt (fun o : List Pt => o) W v l
theorem pols_each {W : World} {b off : Nat} {l : List (List Pt)}
    (h : ∀ (i : Nat) (x : List Pt), l[i]? = some x → ∃ h : PolH, ptag h x ∧ Rd 2 encPt W (psl h) x ∧ ∀ (j : Nat) (u : Value), (encPol h)[j]? = some u → W.cell? ⟨b, off + i * 1 + j, none⟩ = some u) :
    ∀ (i : Nat) (o : List Pt), l[i]? = some o → ∃ (S : Option Addr) (c : Nat), W.cell? ⟨b, off + i, none⟩ = some (.slice S o.length c) ∧ o.length ≤ c ∧ Rd 2 encPt W (.slice S o.length c) o := by
  intro i o ho
  obtain ⟨⟨S, n, c⟩, _, hr, hc⟩ := h i o ho
  obtain ⟨S', c', e, hle, _⟩ := hr.open_
  unfold psl at e hr
  injection e with e1 e2 e3
  simp only at e1 e2 e3 hr
  subst e1 e2 e3
  refine ⟨S, c, ?_, hle, hr⟩
  have := hc 0 _ rfl
  rwa [Nat.mul_one] at this
theorem pols_open {W : World} {s : Value} {l : List (List Pt)} (h : RdPols W s l) : ∃ (A : Option Addr) (cap : Nat), s = .slice A l.length cap ∧ l.length ≤ cap ∧
    ∀ (i : Nat) (o : List Pt), l[i]? = some o → ∃ b off, A = some ⟨b, off, none⟩ ∧ b < W.heap.size ∧
      ∀ (i : Nat) (o : List Pt), l[i]? = some o → ∃ (S : Option Addr) (c : Nat), W.cell? ⟨b, off + i, none⟩ = some (.slice S o.length c) ∧ o.length ≤ c ∧ Rd 2 encPt W (.slice S o.length c) o := by
  obtain ⟨A, cap, hv, hc, ho⟩ := RdN.open_ h
  refine ⟨A, cap, hv, hc, fun i w hw => ?_⟩
  obtain ⟨b, off, hA, hb, hcell⟩ := ho i w hw
  exact ⟨b, off, hA, hb, pols_each hcell⟩
theorem oneP : OneC encPt := fun x u hu => by simp [encPt] at hu; rcases hu with rfl | rfl <;> rfl
/-- a polygon with points that are keys -/
def wfO (o : List Pt) : Prop := ∀ p ∈ o, wfK p
theorem infoPol : (Try.prog.info? 42).map (fun i => (i.zero, i.size, i.bytes)) = some (some (.agg #[.slice none 0 0]), 1, 24) := by kernel_rfl
theorem infoPt2 : (Try.prog.info? 36).map (fun i => (i.zero, i.size, i.bytes)) = some (some (.agg #[.int .i64 0, .int .i64 0]), 2, 16) := by kernel_rfl
def IsPols (W : World) (v : Value) : Prop := ∃ l : List (List Pt), RdPols W v l ∧ ∀ o ∈ l, wfO o
section
variable {H : Type} {enc : TypeId × Value → H} {W : World} {base : Nat} {spare : Nat → Bool} {held : Bool} {r : Reach} {b0 : Nat} {v : Value} {d : DataW H} {ps : List MemPlace}
theorem trod_pt {fuel : Nat} {cs : List Value} {x : DataW H × List MemPlace} (h : DataW.trod enc Try.prog W base spare held fuel 36 cs = some x) : ∃ p : Pt, cs = encPt p ∧ wfK p := by
  obtain ⟨y0, y1, n, _, hl, t0, t1⟩ := trod_struct2 Try.underlying36 h
  have hc : Try.prog.cellsOf 36 = 2 := by kernel_rfl
  have hi : Try.prog.cellsOf 3 = 1 := by kernel_rfl
  rw [hc] at hl
  match cs, hl with
  | [c0, c1], _ =>
    simp only [hi] at t0 t1
    obtain ⟨n0, e0, _, w0⟩ := DataW.trod_int Try.underlying3 t0
    obtain ⟨n1, e1, _, w1⟩ := DataW.trod_int Try.underlying3 t1
    simp at e0 e1
    subst e0 e1
    exact ⟨(n0, n1), rfl, w0, w1⟩
theorem pts_rd {fuel : Nat} {v : Value} {x : DataW H × List MemPlace} (h : DataW.trod enc Try.prog W 0 spare held fuel 40 [v] = some x) : ∃ l : List Pt, Rd 2 encPt W v l ∧ wfO l := by
  obtain ⟨l, hl, hw⟩ := rd_slice (R := fun p : Pt => wfK p) Try.underlying40 (by kernel_rfl) (by omega) encPt_len (fun n cs y hy => trod_pt hy) h
  exact ⟨l, hl, hw⟩
theorem trod_pol {fuel : Nat} {cs : List Value} {x : DataW H × List MemPlace} (h : DataW.trod enc Try.prog W 0 spare held fuel 42 cs = some x) : ∃ p : PolH, cs = encPol p ∧ ∃ o, Rd 2 encPt W (psl p) o ∧ wfO o := by
  obtain ⟨y0, n, _, hl, t0⟩ := trod_struct1 Try.underlying42 h
  have hc : Try.prog.cellsOf 42 = 1 := by kernel_rfl
  have hj : Try.prog.cellsOf 40 = 1 := by kernel_rfl
  rw [hc] at hl
  match cs, hl with
  | [c0], _ =>
    simp only [hj] at t0
    simp at t0
    obtain ⟨o, hrd, hw⟩ := pts_rd t0
    obtain ⟨A, cap, rfl, _⟩ := hrd.open_
    exact ⟨(A, o.length, cap), rfl, o, hrd, hw⟩
theorem nest_pols {hs : List PolH} (h : ∀ p ∈ hs, ∃ o, Rd 2 encPt W (psl p) o ∧ wfO o) : ∃ l : List (List Pt), NestAt psl ptag 2 encPt (fun o : List Pt => o) W hs l ∧ ∀ o ∈ l, wfO o := by
  induction hs with
  | nil => exact ⟨[], ⟨rfl, fun i h x hh => by simp at hh⟩, fun o ho => by cases ho⟩
  | cons p hs ih =>
    obtain ⟨l, ⟨h1, h2⟩, h3⟩ := ih (fun q hq => h q (by simp [hq]))
    obtain ⟨o, ho, hw⟩ := h p (by simp)
    refine ⟨o :: l, ⟨by simp [h1], fun i q x hq hx => ?_⟩, fun q hq => ?_⟩
    · match i, hq, hx with
      | 0, hq, hx => simp at hq hx; subst hq hx; exact ⟨trivial, ho⟩
      | i + 1, hq, hx => exact h2 i q x (by simpa using hq) (by simpa using hx)
    · rcases List.mem_cons.1 hq with rfl | hq
      · exact hw
      · exact h3 q hq
theorem open_pols (hv : Value.okWide Try.prog W r b0 24 v) (h : DataW.Trod enc Try.prog W 0 spare held 24 v d ps) : IsPols W v := by
  obtain ⟨a0, len, cap, rfl⟩ := okWide_slice Try.underlying24 hv
  obtain ⟨fuel, hf⟩ := h
  obtain ⟨hs, h1, h2⟩ := rd_slice (R := fun p : PolH => ∃ o, Rd 2 encPt W (psl p) o ∧ wfO o) Try.underlying24 (by kernel_rfl) (by omega) encPol_len (fun n cs y hy => trod_pol hy) hf
  obtain ⟨l, h3, h4⟩ := nest_pols h2
  exact ⟨l, ⟨hs, h1, h3⟩, h4⟩
theorem open_pol (hv : Value.okWide Try.prog W r b0 42 v) (h : DataW.Trod enc Try.prog W 0 spare held 42 v d ps) : ∃ (A : Option Addr) (n c : Nat) (o : List Pt), v = .agg #[.slice A n c] ∧ Rd 2 encPt W (.slice A n c) o ∧ wfO o := by
  obtain ⟨cs, rfl, hsz⟩ := okWide_struct Try.underlying42 hv
  obtain ⟨fuel, hf⟩ := h
  obtain ⟨⟨A, n, c⟩, hp, o, ho, hw⟩ := trod_pol hf
  refine ⟨A, n, c, o, ?_, ho, hw⟩
  simp only [Value.cells] at hp
  obtain ⟨l⟩ := cs
  simp only at hp
  rw [hp]
  rfl
end
abbrev Sg := Pt × Pt
def encSg (s : Sg) : List Value := [.int .i64 s.1.1, .int .i64 s.1.2, .int .i64 s.2.1, .int .i64 s.2.2]
theorem encSg_len (s : Sg) : (encSg s).length = 4 := rfl
theorem oneSg : OneC encSg := fun x u hu => by simp [encSg] at hu; rcases hu with rfl | rfl | rfl | rfl <;> rfl
theorem infoSg : (Try.prog.info? 38).map (fun i => (i.zero, i.size, i.bytes)) = some (some (.agg #[.int .i64 0, .int .i64 0, .int .i64 0, .int .i64 0]), 4, 32) := by kernel_rfl
def wfS (s : Sg) : Prop := wfK s.1 ∧ wfK s.2
def IsSegs (W : World) (v : Value) : Prop := ∃ l : List Sg, Rd 4 encSg W v l ∧ ∀ s ∈ l, wfS s
section
variable {H : Type} {enc : TypeId × Value → H} {W : World} {base : Nat} {spare : Nat → Bool} {held : Bool} {r : Reach} {b0 : Nat} {v : Value} {d : DataW H} {ps : List MemPlace}
theorem trod_seg {fuel : Nat} {cs : List Value} {x : DataW H × List MemPlace} (h : DataW.trod enc Try.prog W base spare held fuel 38 cs = some x) : ∃ s : Sg, cs = encSg s ∧ wfS s := by
  obtain ⟨y0, y1, n, _, hl, t0, t1⟩ := trod_struct2 Try.underlying38 h
  have hc : Try.prog.cellsOf 38 = 4 := by kernel_rfl
  have hp : Try.prog.cellsOf 36 = 2 := by kernel_rfl
  rw [hc] at hl
  match cs, hl with
  | [c0, c1, c2, c3], _ =>
    simp only [hp] at t0 t1
    obtain ⟨a, e0, w0⟩ := trod_pt t0
    obtain ⟨b, e1, w1⟩ := trod_pt t1
    simp [encPt] at e0 e1
    obtain ⟨rfl, rfl⟩ := e0
    obtain ⟨rfl, rfl⟩ := e1
    exact ⟨(a, b), rfl, w0, w1⟩
theorem open_segs (hv : Value.okWide Try.prog W r b0 22 v) (h : DataW.Trod enc Try.prog W 0 spare held 22 v d ps) : IsSegs W v := by
  obtain ⟨a0, len, cap, rfl⟩ := okWide_slice Try.underlying22 hv
  obtain ⟨fuel, hf⟩ := h
  exact rd_slice (R := fun s : Sg => wfS s) Try.underlying22 (by kernel_rfl) (by omega) encSg_len (fun n cs y hy => trod_seg hy) hf
end
end Go.Proofs.Yteadnlodccnfcaa

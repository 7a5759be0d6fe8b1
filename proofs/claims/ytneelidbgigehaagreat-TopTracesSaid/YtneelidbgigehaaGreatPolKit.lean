/- Polygons in memory: a slice of structs, each with a slice of points. -/
import Derived.Test.YtneelidbgigehaaGreatRowKit
import Derived.Test.YtneelidbgigehaaGreatRegCells
import Derived.Test.YtneelidbgigehaaGreatRasMathA
namespace Go.Proofs.YtneelidbgigehaaGreat
set_option linter.unusedSimpArgs false
set_option linter.unusedVariables false
set_option maxRecDepth 100000
open Go.ChangeShapes Go.WideShapes Go.ChangeAt Go.RowKit Go.Joins Ras
/-- a polygon as it lies in memory: the slice of its points -/
abbrev PolH := Option Addr × Nat × Nat
def psl (h : PolH) : Value := .slice h.1 h.2.1 h.2.2
def encPol (h : PolH) : List Value := [psl h]
theorem encPol_len (h : PolH) : (encPol h).length = 1 := rfl
theorem onePol : OneC encPol := fun x u hu => by simp [encPol, psl] at hu; rcases hu with rfl; rfl
def ptag (h : PolH) (o : List P2) : Prop := True
abbrev RdPols (W : World) (v : Value) (l : List (List P2)) : Prop := RdN 1 encPol psl ptag 2 encPt (fun o : List P2 => o) W v l
theorem pols_each {W : World} {b off : Nat} {l : List (List P2)}
    (h : ∀ (i : Nat) (x : List P2), l[i]? = some x → ∃ h : PolH, ptag h x ∧ Rd 2 encPt W (psl h) x ∧ ∀ (j : Nat) (u : Value), (encPol h)[j]? = some u → W.cell? ⟨b, off + i * 1 + j, none⟩ = some u) :
    ∀ (i : Nat) (o : List P2), l[i]? = some o → ∃ (S : Option Addr) (c : Nat), W.cell? ⟨b, off + i, none⟩ = some (.slice S o.length c) ∧ o.length ≤ c ∧ Rd 2 encPt W (.slice S o.length c) o := by
  intro i o ho
  obtain ⟨⟨S, n, c⟩, _, hr, hc⟩ := h i o ho
  obtain ⟨S', c', e, hle, _⟩ := hr.open_
  unfold psl at e hr
  injection e with e1 e2 e3
  simp only at e1 e2 e3 hr
  subst e1 e2 e3
  refine ⟨S, c, ?_, hle, hr⟩
  have := hc 0 _ rfl
  rwa [Nat.mul_one] at this
theorem pols_open {W : World} {s : Value} {l : List (List P2)} (h : RdPols W s l) : ∃ (A : Option Addr) (cap : Nat), s = .slice A l.length cap ∧ l.length ≤ cap ∧
    ∀ (i : Nat) (o : List P2), l[i]? = some o → ∃ b off, A = some ⟨b, off, none⟩ ∧ b < W.heap.size ∧
      ∀ (i : Nat) (o : List P2), l[i]? = some o → ∃ (S : Option Addr) (c : Nat), W.cell? ⟨b, off + i, none⟩ = some (.slice S o.length c) ∧ o.length ≤ c ∧ Rd 2 encPt W (.slice S o.length c) o := by
  obtain ⟨A, cap, hv, hc, ho⟩ := RdN.open_ h
  refine ⟨A, cap, hv, hc, fun i w hw => ?_⟩
  obtain ⟨b, off, hA, hb, hcell⟩ := ho i w hw
  exact ⟨b, off, hA, hb, pols_each hcell⟩
theorem infoPol : (Tryz.prog.info? 53).map (fun i => (i.zero, i.size, i.bytes)) = some (some (.agg #[.slice none 0 0]), 1, 24) := by kernel_rfl
theorem infoPt2 : (Tryz.prog.info? 60).map (fun i => (i.zero, i.size, i.bytes)) = some (some (.agg #[.int .i64 0, .int .i64 0]), 2, 16) := by kernel_rfl
/-- an edge in memory -/
def encEd (e : Ed) : List Value := [.int .i64 e.1.1.1, .int .i64 e.1.1.2, .int .i64 e.1.2.1, .int .i64 e.1.2.2, .int .i64 e.2]
theorem encEd_len (e : Ed) : (encEd e).length = 5 := rfl
theorem oneEd : OneC encEd := fun x u hu => by simp [encEd] at hu; rcases hu with rfl | rfl | rfl | rfl | rfl <;> rfl
theorem infoEd : (Tryz.prog.info? 85).map (fun i => (i.zero, i.size, i.bytes)) = some (some (.agg #[.int .i64 0, .int .i64 0, .int .i64 0, .int .i64 0, .int .i64 0]), 5, 40) := by kernel_rfl
theorem infoStep : (Tryz.prog.info? 93).map (fun i => (i.zero, i.size, i.bytes)) = some (some (.agg #[.int .i64 0, .int .i64 0]), 2, 16) := by kernel_rfl
def IsPols (W : World) (v : Value) : Prop := ∃ l : List (List P2), RdPols W v l
section
variable {H : Type} {enc : TypeId × Value → H} {W : World} {base : Nat} {spare : Nat → Bool} {held : Bool} {r : Reach} {b0 : Nat} {v : Value} {d : DataW H} {ps : List MemPlace}
theorem trod_pt {fuel : Nat} {cs : List Value} {x : DataW H × List MemPlace} (h : DataW.trod enc Tryz.prog W base spare held fuel 60 cs = some x) : ∃ p : P2, cs = encPt p ∧ True := by
  obtain ⟨y0, y1, n, _, hl, t0, t1⟩ := trod_struct2 Tryz.underlying60 h
  have hc : Tryz.prog.cellsOf 60 = 2 := by kernel_rfl
  have hi : Tryz.prog.cellsOf 3 = 1 := by kernel_rfl
  rw [hc] at hl
  match cs, hl with
  | [c0, c1], _ =>
    simp only [hi] at t0 t1
    obtain ⟨n0, e0, _, w0⟩ := DataW.trod_int Tryz.underlying3 t0
    obtain ⟨n1, e1, _, w1⟩ := DataW.trod_int Tryz.underlying3 t1
    simp at e0 e1
    subst e0 e1
    exact ⟨(n0, n1), rfl, trivial⟩
theorem pts_rd {fuel : Nat} {v : Value} {x : DataW H × List MemPlace} (h : DataW.trod enc Tryz.prog W 0 spare held fuel 51 [v] = some x) : ∃ l : List P2, Rd 2 encPt W v l := by
  obtain ⟨l, hl, _⟩ := rd_slice (R := fun p : P2 => True) Tryz.underlying51 (by kernel_rfl) (by omega) encPt_len (fun n cs y hy => trod_pt hy) h
  exact ⟨l, hl⟩
theorem trod_pol {fuel : Nat} {cs : List Value} {x : DataW H × List MemPlace} (h : DataW.trod enc Tryz.prog W 0 spare held fuel 53 cs = some x) : ∃ p : PolH, cs = encPol p ∧ ∃ o, Rd 2 encPt W (psl p) o := by
  obtain ⟨y0, n, _, hl, t0⟩ := trod_struct1 Tryz.underlying53 h
  have hc : Tryz.prog.cellsOf 53 = 1 := by kernel_rfl
  have hj : Tryz.prog.cellsOf 51 = 1 := by kernel_rfl
  rw [hc] at hl
  match cs, hl with
  | [c0], _ =>
    simp only [hj] at t0
    simp at t0
    obtain ⟨o, hrd⟩ := pts_rd t0
    obtain ⟨A, cap, rfl, _⟩ := hrd.open_
    exact ⟨(A, o.length, cap), rfl, o, hrd⟩
theorem nest_pols {hs : List PolH} (h : ∀ p ∈ hs, ∃ o, Rd 2 encPt W (psl p) o) : ∃ l : List (List P2), NestAt psl ptag 2 encPt (fun o : List P2 => o) W hs l := by
  induction hs with
  | nil => exact ⟨[], rfl, fun i h x hh => by simp at hh⟩
  | cons p hs ih =>
    obtain ⟨l, h1, h2⟩ := ih (fun q hq => h q (by simp [hq]))
    obtain ⟨o, ho⟩ := h p (by simp)
    refine ⟨o :: l, by simp [h1], fun i q x hq hx => ?_⟩
    match i, hq, hx with
    | 0, hq, hx => simp at hq hx; subst hq hx; exact ⟨trivial, ho⟩
    | i + 1, hq, hx => exact h2 i q x (by simpa using hq) (by simpa using hx)
theorem open_pols (hv : Value.okWide Tryz.prog W r b0 30 v) (h : DataW.Trod enc Tryz.prog W 0 spare held 30 v d ps) : IsPols W v := by
  obtain ⟨a0, len, cap, rfl⟩ := okWide_slice Tryz.underlying30 hv
  obtain ⟨fuel, hf⟩ := h
  obtain ⟨hs, h1, h2⟩ := rd_slice (R := fun p : PolH => ∃ o, Rd 2 encPt W (psl p) o) Tryz.underlying30 (by kernel_rfl) (by omega) encPol_len (fun n cs y hy => trod_pol hy) hf
  obtain ⟨l, h3⟩ := nest_pols h2
  exact ⟨l, hs, h1, h3⟩
end
end Go.Proofs.YtneelidbgigehaaGreat

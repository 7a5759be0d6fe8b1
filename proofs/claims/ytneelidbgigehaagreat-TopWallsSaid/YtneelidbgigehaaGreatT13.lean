/- Lemmas: PolKit. -/
import Derived.Test.YtneelidbgigehaaGreatT10
import Derived.Test.YtneelidbgigehaaGreatT07
import Derived.Test.YtneelidbgigehaaGreatT05
/- Polygons in memory: a slice of structs, each with a slice of points. -/
namespace Go.Proofs.YtneelidbgigehaaGreat
set_option linter.unusedSimpArgs false
set_option linter.unusedVariables false
set_option maxRecDepth 100000
open Go.ChangeShapes Go.WideShapes Go.ChangeAt Go.RowKit Go.Joins Ras
/-- a polygon as it lies in memory: the slice of its points -/
abbrev PolH := Option Addr × Nat × Nat
def psl (h : PolH) : Value := .slice h.1 h.2.1 h.2.2
def encPol (h : PolH) : List Value := [psl h]
theorem encPol_len (h : PolH) : (encPol h).length = 1 := rfl
theorem onePol : OneC encPol := fun x u hu => by simp [encPol, psl] at hu; rcases hu with rfl; rfl
def ptag (h : PolH) (o : List P2) : Prop := True
abbrev RdPols (W : World) (v : Value) (l : List (List P2)) : Prop := RdN 1 encPol psl ptag 2 encPt (fun o : List P2 => o) W v l
theorem pols_each {W : World} {b off : Nat} {l : List (List P2)}
    (h : ∀ (i : Nat) (x : List P2), l[i]? = some x → ∃ h : PolH, ptag h x ∧ Rd 2 encPt W (psl h) x ∧ ∀ (j : Nat) (u : Value), (encPol h)[j]? = some u → W.cell? ⟨b, off + i * 1 + j, none⟩ = some u) :
    ∀ (i : Nat) (o : List P2), l[i]? = some o → ∃ (S : Option Addr) (c : Nat), W.cell? ⟨b, off + i, none⟩ = some (.slice S o.length c) ∧ o.length ≤ c ∧ Rd 2 encPt W (.slice S o.length c) o := by
  intro i o ho
  obtain ⟨⟨S, n, c⟩, _, hr, hc⟩ := h i o ho
  obtain ⟨S', c', e, hle, _⟩ := hr.open_
  unfold psl at e hr
  injection e with e1 e2 e3
  simp only at e1 e2 e3 hr
  subst e1 e2 e3
  refine ⟨S, c, ?_, hle, hr⟩
  have := hc 0 _ rfl
  rwa [Nat.mul_one] at this
theorem pols_open {W : World} {s : Value} {l : List (List P2)} (h : RdPols W s l) : ∃ (A : Option Addr) (cap : Nat), s = .slice A l.length cap ∧ l.length ≤ cap ∧
    ∀ (i : Nat) (o : List P2), l[i]? = some o → ∃ b off, A = some ⟨b, off, none⟩ ∧ b < W.heap.size ∧
      ∀ (i : Nat) (o : List P2), l[i]? = some o → ∃ (S : Option Addr) (c : Nat), W.cell? ⟨b, off + i, none⟩ = some (.slice S o.length c) ∧ o.length ≤ c ∧ Rd 2 encPt W (.slice S o.length c) o := by
  obtain ⟨A, cap, hv, hc, ho⟩ := RdN.open_ h
  refine ⟨A, cap, hv, hc, fun i w hw => ?_⟩
  obtain ⟨b, off, hA, hb, hcell⟩ := ho i w hw
  exact ⟨b, off, hA, hb, pols_each hcell⟩
theorem infoPol : (Tryz.prog.info? 53).map (fun i => (i.zero, i.size, i.bytes)) = some (some (.agg #[.slice none 0 0]), 1, 24) := by kernel_rfl
theorem infoPt2 : (Tryz.prog.info? 60).map (fun i => (i.zero, i.size, i.bytes)) = some (some (.agg #[.int .i64 0, .int .i64 0]), 2, 16) := by kernel_rfl
section
variable {H : Type} {enc : TypeId × Value → H} {W : World} {base : Nat} {spare : Nat → Bool} {held : Bool} {r : Reach} {b0 : Nat} {v : Value} {d : DataW H} {ps : List MemPlace}
end
end Go.Proofs.YtneelidbgigehaaGreat

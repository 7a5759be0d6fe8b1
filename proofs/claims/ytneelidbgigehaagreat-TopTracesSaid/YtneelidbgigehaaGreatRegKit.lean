/- Regions in memory: rows, each with a slice of runs. -/
import Derived.Test.YtneelidbgigehaaGreatBase
import Derived.Test.YtneelidbgigehaaGreatRunsB
import Derived.Test.YtneelidbgigehaaGreatPlain
namespace Go.Proofs.YtneelidbgigehaaGreat
set_option linter.unusedSimpArgs false
set_option linter.unusedVariables false
open Go.RowKit Runs
/-- a row as it lies in memory: its Y and the slice of its runs -/
abbrev RowH := Int × Option Addr × Nat × Nat
def rsl (h : RowH) : Value := .slice h.2.1 h.2.2.1 h.2.2.2
def encRow (h : RowH) : List Value := [.int .i64 h.1, .slice h.2.1 h.2.2.1 h.2.2.2]
theorem encRow_len (h : RowH) : (encRow h).length = 2 := rfl
theorem oneRow : OneC encRow := fun x u hu => by simp [encRow] at hu; rcases hu with rfl | rfl <;> rfl
def rtag (h : RowH) (w : Reg.Row) : Prop := h.1 = w.1
abbrev RdRows (W : World) (v : Value) (rows : List Reg.Row) : Prop := RdN 2 encRow rsl rtag 2 encRun (fun w : Reg.Row => w.2) W v rows
/-- a region: a struct of the one slice -/
def RdReg (W : World) (v : Value) (rows : List Reg.Row) : Prop := ∃ s, v = .agg #[s] ∧ RdRows W s rows
theorem RdReg.below {W W' : World} {v : Value} {rows : List Reg.Row} (h : RdReg W v rows) (hb : Below W.heap.size W W') : RdReg W' v rows := by
  obtain ⟨s, h1, h2⟩ := h
  exact ⟨s, h1, h2.below hb⟩
theorem RdReg.nil {W : World} : RdReg W (.agg #[.slice none 0 0]) [] := ⟨_, rfl, RdN.nil⟩
theorem rows_each {W : World} {b off : Nat} {rows : List Reg.Row}
    (h : ∀ (i : Nat) (x : Reg.Row), rows[i]? = some x → ∃ h : RowH, rtag h x ∧ Rd 2 encRun W (rsl h) x.2 ∧ ∀ (j : Nat) (u : Value), (encRow h)[j]? = some u → W.cell? ⟨b, off + i * 2 + j, none⟩ = some u) :
    ∀ (i : Nat) (w : Reg.Row), rows[i]? = some w → ∃ (S : Option Addr) (c : Nat), W.cell? ⟨b, off + i * 2, none⟩ = some (.int .i64 w.1) ∧ W.cell? ⟨b, off + i * 2 + 1, none⟩ = some (.slice S w.2.length c) ∧ w.2.length ≤ c ∧ Rd 2 encRun W (.slice S w.2.length c) w.2 := by
  intro i w hw
  obtain ⟨⟨y, S, n, c⟩, ht, hr, hc⟩ := h i w hw
  obtain ⟨S', c', e, hle, _⟩ := hr.open_
  unfold rsl at e hr
  injection e with e1 e2 e3
  simp only at e1 e2 e3 hr
  subst e1 e2 e3
  refine ⟨S, c, ?_, hc 1 _ rfl, hle, hr⟩
  have := hc 0 _ rfl
  rw [show y = w.1 from ht] at this
  exact this
theorem rows_open {W : World} {s : Value} {rows : List Reg.Row} (h : RdRows W s rows) : ∃ (A : Option Addr) (cap : Nat), s = .slice A rows.length cap ∧ rows.length ≤ cap ∧
    ∀ (i : Nat) (w : Reg.Row), rows[i]? = some w → ∃ b off, A = some ⟨b, off, none⟩ ∧ b < W.heap.size ∧
      ∀ (i : Nat) (w : Reg.Row), rows[i]? = some w → ∃ (S : Option Addr) (c : Nat), W.cell? ⟨b, off + i * 2, none⟩ = some (.int .i64 w.1) ∧ W.cell? ⟨b, off + i * 2 + 1, none⟩ = some (.slice S w.2.length c) ∧ w.2.length ≤ c ∧ Rd 2 encRun W (.slice S w.2.length c) w.2 := by
  obtain ⟨A, cap, hv, hc, ho⟩ := RdN.open_ h
  refine ⟨A, cap, hv, hc, fun i w hw => ?_⟩
  obtain ⟨b, off, hA, hb, hcell⟩ := ho i w hw
  exact ⟨b, off, hA, hb, rows_each hcell⟩
end Go.Proofs.YtneelidbgigehaaGreat

/- Lists of regions in memory; arguments opened to regions; results in variables. -/
import Derived.Test.YtneelidbgigehaaGreatRegKitA
import Derived.Test.YtneelidbgigehaaGreatRegSameA
import Derived.Test.YtneelidbgigehaaGreatRegRowA
import Derived.Test.YtneelidbgigehaaGreatRowKit
import Derived.Deep.RegionHeld
namespace Go.Proofs.YtneelidbgigehaaGreat
set_option linter.unusedSimpArgs false
set_option linter.unusedVariables false
open Go.RowKit Runs Reg
attribute [local go_sem] Kin.cell Kin.frozen Kin.lt0 Kin.lt1 Kin.lt2 Kin.lt3 run_mkf
abbrev RegH := Option Addr × Nat × Nat
def encReg (h : RegH) : List Value := [.slice h.1 h.2.1 h.2.2]
theorem encReg_len (h : RegH) : (encReg h).length = 1 := rfl
/-- a list of regions -/
def RdRegs (W : World) (v : Value) (rs : List (List Reg.Row)) : Prop := ∃ hs : List RegH, Rd 1 encReg W v hs ∧ hs.length = rs.length ∧ ∀ (i : Nat) (h : RegH) (r : List Reg.Row), hs[i]? = some h → rs[i]? = some r → RdReg W (.agg #[.slice h.1 h.2.1 h.2.2]) r
theorem RdRegs.below {W W' : World} {v : Value} {rs : List (List Reg.Row)} (h : RdRegs W v rs) (hb : Below W.heap.size W W') : RdRegs W' v rs := by
  obtain ⟨hs, h1, h2, h3⟩ := h
  exact ⟨hs, h1.below hb, h2, fun i h r hh hr => (h3 i h r hh hr).below hb⟩
theorem regs_open {W : World} {v : Value} {rs : List (List Reg.Row)} (h : RdRegs W v rs) : ∃ (A : Option Addr) (cap : Nat), v = .slice A rs.length cap ∧ rs.length ≤ cap ∧
    ∀ (i : Nat) (r : List Reg.Row), rs[i]? = some r → ∃ b off, A = some ⟨b, off, none⟩ ∧ b < W.heap.size ∧
      ∀ (i : Nat) (r : List Reg.Row), rs[i]? = some r → ∃ (S : Option Addr) (n c : Nat), W.cell? ⟨b, off + i, none⟩ = some (.slice S n c) ∧ RdReg W (.agg #[.slice S n c]) r := by
  obtain ⟨hs, h1, hl, h2⟩ := h
  obtain ⟨A, cap, hv, hc, ho⟩ := h1.open_
  refine ⟨A, cap, by rw [hv, hl], by omega, fun i r hr => ?_⟩
  have some_h : ∀ (i : Nat) (r : List Reg.Row), rs[i]? = some r → ∃ h, hs[i]? = some h := fun i r hr => by
    have := (List.getElem?_eq_some_iff.1 hr).1
    exact ⟨_, List.getElem?_eq_getElem (by omega)⟩
  obtain ⟨h, hh⟩ := some_h i r hr
  obtain ⟨b, off, hA, hb, hcell⟩ := ho i h hh
  refine ⟨b, off, hA, hb, fun j s hs' => ?_⟩
  obtain ⟨g, hg⟩ := some_h j s hs'
  have := hcell j g hg 0 _ rfl
  exact ⟨g.1, g.2.1, g.2.2, by simpa using this, h2 j g s hg hs'⟩
theorem regs_op {W : World} {A : Option Addr} {n cap : Nat} {rs : List (List Reg.Row)} (h : RdRegs W (.slice A n cap) rs) :
    ∀ (i : Nat) (r : List Reg.Row), rs[i]? = some r → ∃ b off, A = some ⟨b, off, none⟩ ∧ b < W.heap.size ∧
      ∀ (i : Nat) (r : List Reg.Row), rs[i]? = some r → ∃ (S : Option Addr) (n c : Nat), W.cell? ⟨b, off + i, none⟩ = some (.slice S n c) ∧ RdReg W (.agg #[.slice S n c]) r := by
  obtain ⟨A', cap', e, _, ho⟩ := regs_open h
  injection e with e1
  subst e1
  exact ho
theorem results_cells2 {P : Program} {fn : Func} {p q : Tmp} {ty : TypeId} (h : fn.results = #[.cell p ty, .cell q ty]) (tmps : Array Value) (w : World) {g g' : Nat} {t t' : TypeId} {cs cs' : Array Value} (fr fr' : Nat × Nat) {d : TypeDesc}
    (hp : tmps.getD p undef = .pointer (some ⟨g, 0, none⟩)) (hg : w.heap[g]? = some (.cells cs t fr)) (hq : tmps.getD q undef = .pointer (some ⟨g', 0, none⟩)) (hg' : w.heap[g']? = some (.cells cs' t' fr'))
    (hu : P.underlying ty = some d) (hd : (match d with | .struct _ | .array _ _ => true | _ => false) = true) (hi : (P.info? ty).map (·.size) = some cs.size) (hi' : cs'.size = cs.size := by rfl) :
    (results fn tmps).run P w = .ok (.tuple #[.agg cs, .agg cs']) w := by
  have hp' : tmps[p]?.getD undef = .pointer (some ⟨g, 0, none⟩) := by simpa using hp
  have hq' : tmps[q]?.getD undef = .pointer (some ⟨g', 0, none⟩) := by simpa using hq
  simp [results, h, hp', hq', asAddr, run_loadVar_row w g t ty cs fr d hg hu hd hi, run_loadVar_row w g' t' ty cs' fr' d hg' hu hd (by rw [hi, hi'])]
theorem results_cell_t {P : Program} {fn : Func} {p q : Tmp} {ty : TypeId} (h : fn.results = #[.cell p ty, .tmp q]) (tmps : Array Value) (w : World) {g : Nat} {t : TypeId} {cs : Array Value} (fr : Nat × Nat) {d : TypeDesc}
    (hp : tmps.getD p undef = .pointer (some ⟨g, 0, none⟩)) (hg : w.heap[g]? = some (.cells cs t fr))
    (hu : P.underlying ty = some d) (hd : (match d with | .struct _ | .array _ _ => true | _ => false) = true) (hi : (P.info? ty).map (·.size) = some cs.size) :
    (results fn tmps).run P w = .ok (.tuple #[.agg cs, tmps.getD q undef]) w := by
  have hp' : tmps[p]?.getD undef = .pointer (some ⟨g, 0, none⟩) := by simpa using hp
  simp [results, h, hp', asAddr, run_loadVar_row w g t ty cs fr d hg hu hd hi]
theorem kin_alloc {w : World} {o : Obj} {x : World} (h : Below (w.heap.size + 1) (w.alloc o) x) : Below (w.alloc o).heap.size (w.alloc o) x := by rw [World.size_alloc]; exact h
theorem alloc_kin {w : World} {o : Obj} {x : World} (h : Below (w.alloc o).heap.size (w.alloc o) x) : Below (w.heap.size + 1) (w.alloc o) x := by rwa [World.size_alloc] at h
theorem blk_alloc2 (w : World) (o : Obj) (t : TypeId) (c : Array Value) : Blk ((w.alloc o).alloc (.cells c t)) (w.heap.size + 1) t c := by
  have := Blk.new (w.alloc o) t c
  rwa [World.size_alloc] at this
theorem rvalid_bd {rows : List Reg.Row} (h : rvalid rows = true) : RBd rows := vreg_bd (rvalid_iff.1 h)
theorem same18_t {a b : List Reg.Row} (v u : Value) (w : World) (ha : RdReg w v a) (hb : RdReg w u b) (ba : RBd a) (bb : RBd b) (he : a = b) :
    Calls Tryz.prog 11 #[v, u] w fun e w' => e = .returned (.bool true) ∧ Below w.heap.size w w' := by
  have := same18_any v u a b w ha hb ba bb
  rwa [decide_eq_true he] at this
end Go.Proofs.YtneelidbgigehaaGreat
/- Arguments opened to regions and lists of regions. -/
namespace Go.Proofs.YtneelidbgigehaaGreat
set_option linter.unusedSimpArgs false
set_option linter.unusedVariables false
set_option maxRecDepth 100000
open Go.ChangeShapes Go.WideShapes Go.ChangeAt Go.RowKit Go.Joins Runs Reg
def IsInt (v : Value) : Prop := ∃ n : Int, v = .int .i64 n ∧ i64 n
def IsReg (W : World) (v : Value) : Prop := ∃ rows : List Reg.Row, RdReg W v rows
def IsRegs (W : World) (v : Value) : Prop := ∃ rs : List (List Reg.Row), RdRegs W v rs
section
variable {H : Type} {enc : TypeId × Value → H} {W : World} {base : Nat} {spare : Nat → Bool} {held : Bool} {r : Reach} {b0 : Nat} {v : Value} {d : DataW H} {ps : List MemPlace}
theorem trod_run {fuel : Nat} {cs : List Value} {x : DataW H × List MemPlace} (h : DataW.trod enc Tryz.prog W base spare held fuel 69 cs = some x) : ∃ p : Run, cs = encRun p ∧ True := by
  obtain ⟨y0, y1, n, _, hl, t0, t1⟩ := trod_struct2 Tryz.underlying69 h
  have hc : Tryz.prog.cellsOf 69 = 2 := by kernel_rfl
  have hi : Tryz.prog.cellsOf 3 = 1 := by kernel_rfl
  rw [hc] at hl
  match cs, hl with
  | [c0, c1], _ =>
    simp only [hi] at t0 t1
    obtain ⟨n0, e0, _, w0⟩ := DataW.trod_int Tryz.underlying3 t0
    obtain ⟨n1, e1, _, w1⟩ := DataW.trod_int Tryz.underlying3 t1
    simp at e0 e1
    subst e0 e1
    exact ⟨(n0, n1), rfl, trivial⟩
theorem runs_rd {fuel : Nat} {v : Value} {x : DataW H × List MemPlace} (h : DataW.trod enc Tryz.prog W 0 spare held fuel 42 [v] = some x) : ∃ l : List Run, Rd 2 encRun W v l := by
  obtain ⟨l, hl, _⟩ := rd_slice (R := fun p : Run => True) Tryz.underlying42 (by kernel_rfl) (by omega) encRun_len (fun n cs y hy => trod_run hy) h
  exact ⟨l, hl⟩
theorem trod_row {fuel : Nat} {cs : List Value} {x : DataW H × List MemPlace} (h : DataW.trod enc Tryz.prog W 0 spare held fuel 44 cs = some x) : ∃ p : RowH, cs = encRow p ∧ ∃ l, Rd 2 encRun W (rsl p) l := by
  obtain ⟨y0, y1, n, _, hl, t0, t1⟩ := trod_struct2 Tryz.underlying44 h
  have hc : Tryz.prog.cellsOf 44 = 2 := by kernel_rfl
  have hi : Tryz.prog.cellsOf 3 = 1 := by kernel_rfl
  have hj : Tryz.prog.cellsOf 42 = 1 := by kernel_rfl
  rw [hc] at hl
  match cs, hl with
  | [c0, c1], _ =>
    simp only [hi, hj] at t0 t1
    obtain ⟨n0, e0, _, w0⟩ := DataW.trod_int Tryz.underlying3 t0
    simp at e0 t1
    subst e0
    obtain ⟨l, hrd⟩ := runs_rd t1
    obtain ⟨A, cap, rfl, _⟩ := hrd.open_
    exact ⟨(n0, A, l.length, cap), rfl, l, hrd⟩
theorem nest_of {hs : List RowH} (h : ∀ p ∈ hs, ∃ l, Rd 2 encRun W (rsl p) l) : ∃ rows : List Reg.Row, NestAt rsl rtag 2 encRun (fun w : Reg.Row => w.2) W hs rows := by
  induction hs with
  | nil => exact ⟨[], rfl, fun i h x hh => by simp at hh⟩
  | cons p hs ih =>
    obtain ⟨rows, h1, h2⟩ := ih (fun q hq => h q (by simp [hq]))
    obtain ⟨l, hl⟩ := h p (by simp)
    refine ⟨(p.1, l) :: rows, by simp [h1], fun i q x hq hx => ?_⟩
    match i, hq, hx with
    | 0, hq, hx => simp at hq hx; subst hq hx; exact ⟨rfl, hl⟩
    | i + 1, hq, hx => exact h2 i q x (by simpa using hq) (by simpa using hx)
theorem rows_rd {fuel : Nat} {v : Value} {x : DataW H × List MemPlace} (h : DataW.trod enc Tryz.prog W 0 spare held fuel 22 [v] = some x) : ∃ rows, RdRows W v rows := by
  obtain ⟨hs, h1, h2⟩ := rd_slice (R := fun p : RowH => ∃ l, Rd 2 encRun W (rsl p) l) Tryz.underlying22 (by kernel_rfl) (by omega) encRow_len (fun n cs y hy => trod_row hy) h
  obtain ⟨rows, h3⟩ := nest_of h2
  exact ⟨rows, hs, h1, h3⟩
theorem trod_reg {fuel : Nat} {cs : List Value} {x : DataW H × List MemPlace} (h : DataW.trod enc Tryz.prog W 0 spare held fuel 24 cs = some x) : ∃ p : RegH, cs = encReg p ∧ ∃ rows, RdReg W (.agg #[.slice p.1 p.2.1 p.2.2]) rows := by
  obtain ⟨y0, n, _, hl, t0⟩ := trod_struct1 Tryz.underlying24 h
  have hc : Tryz.prog.cellsOf 24 = 1 := by kernel_rfl
  have hj : Tryz.prog.cellsOf 22 = 1 := by kernel_rfl
  rw [hc] at hl
  match cs, hl with
  | [c0], _ =>
    simp only [hj] at t0
    simp at t0
    obtain ⟨rows, hrd⟩ := rows_rd t0
    obtain ⟨A, cap, rfl, _⟩ := rows_open hrd
    exact ⟨(A, rows.length, cap), rfl, rows, _, rfl, hrd⟩
theorem regs_of {hs : List RegH} (h : ∀ p ∈ hs, ∃ rows, RdReg W (.agg #[.slice p.1 p.2.1 p.2.2]) rows) : ∃ rs : List (List Reg.Row), hs.length = rs.length ∧ ∀ (i : Nat) (h : RegH) (r : List Reg.Row), hs[i]? = some h → rs[i]? = some r → RdReg W (.agg #[.slice h.1 h.2.1 h.2.2]) r := by
  induction hs with
  | nil => exact ⟨[], rfl, fun i h x hh => by simp at hh⟩
  | cons p hs ih =>
    obtain ⟨rs, h1, h2⟩ := ih (fun q hq => h q (by simp [hq]))
    obtain ⟨l, hl⟩ := h p (by simp)
    refine ⟨l :: rs, by simp [h1], fun i q x hq hx => ?_⟩
    match i, hq, hx with
    | 0, hq, hx => simp at hq hx; subst hq hx; exact hl
    | i + 1, hq, hx => exact h2 i q x (by simpa using hq) (by simpa using hx)
theorem open_reg (hv : Value.okWide Tryz.prog W r b0 24 v) (h : DataW.Trod enc Tryz.prog W 0 spare held 24 v d ps) : IsReg W v := by
  obtain ⟨cs, rfl, hsz⟩ := okWide_struct Tryz.underlying24 hv
  obtain ⟨fuel, hf⟩ := h
  obtain ⟨p, hp, rows, hr⟩ := trod_reg hf
  obtain ⟨l⟩ := cs
  simp only [Value.cells] at hp
  rw [hp]
  exact ⟨rows, hr⟩
end
end Go.Proofs.YtneelidbgigehaaGreat

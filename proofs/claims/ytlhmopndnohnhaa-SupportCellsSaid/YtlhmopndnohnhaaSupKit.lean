/- A list of regions that the call owns, and what Supports returns in plain form. -/
import Derived.Test.YtlhmopndnohnhaaSup
namespace Go.Proofs.Ytlhmopndnohnhaa
set_option linter.unusedSimpArgs false
set_option linter.unusedVariables false
open Go.RowKit Runs Reg
/-- a list whose first value is an int lies in no block of slices -/
theorem ints_first_far {α : Type} {k : Nat} {enc : α → List Value} {W : World} {v : Value} {l : List α} {g : Nat} (h : Rd k enc W v l) (he : ∀ x, ∃ (n : Int) (t : List Value), enc x = .int .i64 n :: t)
    (hg : ∀ j u, W.cell? ⟨g, j, none⟩ = some u → ∃ A n c, u = .slice A n c) : l = [] ∨ v.ownBlock ≠ some g := by
  obtain ⟨A', cap, rfl, _, h⟩ := h
  rcases h with h | ⟨b, off, rfl, hlt, hcell⟩
  · exact .inl h
  rcases l with _ | ⟨r, l⟩
  · exact .inl rfl
  right
  intro e
  have e : b = g := by simpa [Value.ownBlock] using e
  subst e
  obtain ⟨n, t, hx⟩ := he r
  have h0 := hcell 0 r rfl 0 (.int .i64 n) (by rw [hx]; rfl)
  obtain ⟨A, m, c, hc⟩ := hg _ _ h0
  cases hc
/-- a region reads as before behind a change of a block of slices alone -/
theorem RdReg.far_ {W W' : World} {v : Value} {rows : List Reg.Row} {g : Nat} (h : RdReg W v rows) (hb : W.grownBy W' (some g)) (hg : ∀ j u, W.cell? ⟨g, j, none⟩ = some u → ∃ A n c, u = .slice A n c) : RdReg W' v rows := by
  obtain ⟨s, rfl, hs, h1, h2⟩ := h
  refine ⟨s, rfl, hs, h1.grown hb (ints_first_far h1 (fun x => ⟨x.1, _, rfl⟩) hg), h2.1, fun i y x hy hx => ⟨(h2.2 i y x hy hx).1, ?_⟩⟩
  exact (h2.2 i y x hy hx).2.grown hb (ints_first_far (h2.2 i y x hy hx).2 (fun x => ⟨x.1, _, rfl⟩) hg)
/-- n regions in a block g of the call's own -/
def OwnRegs (base : Nat) (W : World) (g n : Nat) (rs : List (List Reg.Row)) : Prop :=
  ∃ hs : List RegH, W.ownsRow base 24 1 (.slice (some ⟨g, 0, none⟩) n n) n (hs.flatMap encReg) ∧ hs.length = rs.length ∧ rs.length = n ∧ ∀ (i : Nat) (h : RegH) (r : List Reg.Row), hs[i]? = some h → rs[i]? = some r → RdReg W (.agg #[.slice h.1 h.2.1 h.2.2]) r
theorem OwnRegs.below {base : Nat} {W W' : World} {g n : Nat} {rs : List (List Reg.Row)} (h : OwnRegs base W g n rs) (hb : Below W.heap.size W W') : OwnRegs base W' g n rs := by
  obtain ⟨hs, h1, h2, h3, h4⟩ := h
  exact ⟨hs, own_below h1 hb, h2, h3, fun i h r hh hr => (h4 i h r hh hr).below hb⟩
theorem flat_reg (hs : List RegH) : hs.flatMap encReg = hs.map (fun h => (.slice h.1 h.2.1 h.2.2 : Value)) := by
  induction hs with
  | nil => rfl
  | cons h hs ih => simp [ih, encReg]
theorem OwnRegs.slices {base : Nat} {W : World} {g n : Nat} {rs : List (List Reg.Row)} (h : OwnRegs base W g n rs) : ∀ j u, W.cell? ⟨g, j, none⟩ = some u → ∃ A n c, u = .slice A n c := by
  obtain ⟨hs, h1, h2, h3, _⟩ := h
  intro j u hu
  by_cases hj : j < n
  · have h5 := h1.cellAt j (by omega)
    rw [hu, flat_reg, List.getElem?_map] at h5
    have hjh : j < hs.length := by omega
    rw [List.getElem?_eq_getElem hjh] at h5
    simp at h5
    exact ⟨_, _, _, h5⟩
  · exfalso
    have h6 := h1
    rcases h1.2 with ⟨e, _⟩ | ⟨g', cap, cur, e, hb, hh, hc1, hc2, hc3, hc4⟩
    · cases e
    · cases e
      rw [cell_of_row W g j cur _ _ hh] at hu
      have : cur.size ≤ j := by omega
      rw [Array.getElem?_eq_none this] at hu
      cases hu
theorem OwnRegs.lt {base : Nat} {W : World} {g n : Nat} {rs : List (List Reg.Row)} (h : OwnRegs base W g n rs) : base ≤ g ∧ g < W.heap.size := by
  obtain ⟨hs, h1, _⟩ := h
  exact h1.lt _ rfl
theorem OwnRegs.rd {base : Nat} {W : World} {g n : Nat} {rs : List (List Reg.Row)} (h : OwnRegs base W g n rs) : RdRegs W (.slice (some ⟨g, 0, none⟩) n n) rs := by
  obtain ⟨hs, h1, h2, h3, h4⟩ := h
  refine ⟨hs, Rd.own encReg_len (by rw [show hs.length = n by omega]; exact h1), h2, h4⟩
/-- an element -/
theorem OwnRegs.at_ {base : Nat} {W : World} {g n : Nat} {rs : List (List Reg.Row)} (h : OwnRegs base W g n rs) {i : Nat} {r : List Reg.Row} (hr : rs[i]? = some r) : ∃ (S : Option Addr) (m c : Nat), W.cell? ⟨g, i, none⟩ = some (.slice S m c) ∧ RdReg W (.agg #[.slice S m c]) r := by
  obtain ⟨hs, h1, h2, h3, h4⟩ := h
  have hi := (List.getElem?_eq_some_iff.1 hr).1
  have hh : hs[i]? = some hs[i] := List.getElem?_eq_getElem (by omega)
  have h5 := h1.cellAt i (by omega)
  rw [flat_reg, List.getElem?_map, hh] at h5
  exact ⟨_, _, _, h5, h4 i _ r hh hr⟩
theorem flat_set0 {hs : List RegH} {i : Nat} {h : RegH} : (hs.flatMap encReg).set i (.slice h.1 h.2.1 h.2.2) = (hs.set i h).flatMap encReg := by
  rw [flat_reg, flat_reg, List.map_set]
/-- behind a store of a region -/
theorem OwnRegs.store {base : Nat} {W : World} {g n : Nat} {rs : List (List Reg.Row)} (h : OwnRegs base W g n rs) {i : Nat} (hi : i < n) {S : Option Addr} {m c : Nat} {r : List Reg.Row} (hr : RdReg W (.agg #[.slice S m c]) r) :
    OwnRegs base (W.setCell ⟨g, i, none⟩ (.slice S m c)) g n (rs.set i r) := by
  have hsl := h.slices
  obtain ⟨hs, h1, h2, h3, h4⟩ := h
  have hg : W.grownBy (W.setCell ⟨g, i, none⟩ (.slice S m c)) (some g) := grownBy_set _
  refine ⟨hs.set i (S, m, c), ?_, by simp [h2], by simp [h3], fun j y x hy hx => ?_⟩
  · have h5 := (h1.stored i (.slice S m c)).1
    rw [show (.slice S m c : Value) = .slice (S, m, c).1 (S, m, c).2.1 (S, m, c).2.2 from rfl, flat_set0] at h5
    exact h5
  · rw [List.getElem?_set] at hy hx
    by_cases e : i = j
    · subst e
      rw [if_pos rfl, if_pos (by omega)] at hy hx
      cases hy; cases hx
      exact hr.far_ hg hsl
    · rw [if_neg e] at hy hx
      exact (h4 j y x hy hx).far_ hg hsl
theorem OwnRegs.made {base : Nat} {W : World} {g n : Nat} (h : W.ownsRow base 24 1 (.slice (some ⟨g, 0, none⟩) n n) n ((List.replicate n ((none, 0, 0) : RegH)).flatMap encReg)) : OwnRegs base W g n (List.replicate n []) := by
  refine ⟨_, h, by simp, by simp, fun i y x hy hx => ?_⟩
  have e1 := List.mem_of_getElem? hy
  have e2 := List.mem_of_getElem? hx
  rw [List.mem_replicate] at e1 e2
  rw [e1.2, e2.2]
  exact RdReg.nil
/-- the region number i; none beyond the list -/
def rsAt (rs : List (List Reg.Row)) (i : Nat) : List Reg.Row := (rs[i]?).getD []
theorem rsAt_some {rs : List (List Reg.Row)} {i : Nat} {r : List Reg.Row} (h : rs[i]? = some r) : rsAt rs i = r := by unfold rsAt; rw [h]; rfl
/-- the support m layers below the top -/
def supS (rs : List (List Reg.Row)) (R G : Int) : Nat → List Reg.Row
  | 0 => []
  | m + 1 => rop (opf 0) (rop (opf 2) (supS rs R G m) (ovR (rsAt rs (rs.length - 1 - m)) (rsAt rs (rs.length - 2 - m)) R)) (dilR (rsAt rs (rs.length - 2 - m)) G)
theorem supS_valid (rs : List (List Reg.Row)) (R G : Int) : ∀ m, rvalid (supS rs R G m) = true
  | 0 => rvalid_nil
  | m + 1 => rop_valid (opf_ff 0) _ _
/-- the supports of the m + 1 topmost layers, none below -/
def supL (rs : List (List Reg.Row)) (R G : Int) (m : Nat) : List (List Reg.Row) := (List.range rs.length).map fun j => if rs.length ≤ j + 1 + m then supS rs R G (rs.length - 1 - j) else []
theorem supL_len (rs : List (List Reg.Row)) (R G : Int) (m : Nat) : (supL rs R G m).length = rs.length := by simp [supL]
theorem supL_get {rs : List (List Reg.Row)} {R G : Int} {m j : Nat} (h : j < rs.length) : (supL rs R G m)[j]? = some (if rs.length ≤ j + 1 + m then supS rs R G (rs.length - 1 - j) else []) := by
  simp [supL, List.getElem?_map, List.getElem?_range h]
theorem supL_zero (rs : List (List Reg.Row)) (R G : Int) : supL rs R G 0 = List.replicate rs.length [] := by
  refine List.ext_getElem? fun j => ?_
  by_cases h : j < rs.length
  · rw [supL_get h, List.getElem?_replicate, if_pos h]
    split
    · rw [show rs.length - 1 - j = 0 by omega]; rfl
    · rfl
  · rw [List.getElem?_eq_none (by rw [supL_len]; omega), List.getElem?_eq_none (by simp; omega)]
theorem supL_step {rs : List (List Reg.Row)} {R G : Int} {m : Nat} (h : m + 2 ≤ rs.length) : (supL rs R G m).set (rs.length - 2 - m) (supS rs R G (m + 1)) = supL rs R G (m + 1) := by
  refine List.ext_getElem? fun j => ?_
  rw [List.getElem?_set]
  by_cases hj : j < rs.length
  · rw [supL_get hj, supL_get hj, supL_len]
    by_cases e : rs.length - 2 - m = j
    · rw [if_pos e, if_pos (by omega), if_pos (by omega), show rs.length - 1 - j = m + 1 by omega]
    · rw [if_neg e]
      by_cases h2 : rs.length ≤ j + 1 + m
      · rw [if_pos h2, if_pos (by omega)]
      · rw [if_neg h2, if_neg (by omega)]
  · rw [List.getElem?_eq_none (l := supL rs R G (m + 1)) (by rw [supL_len]; omega), if_neg (by omega), List.getElem?_eq_none (by rw [supL_len]; omega)]
/-- whether the layer i and the one above it are in range -/
def supOk (rs : List (List Reg.Row)) (R G : Int) (i : Nat) : Bool := decide (dilE (rsAt rs i) R = 0) && decide (dilE (rsAt rs i) G = 0)
/-- the error: 0 OK, 1 ErrArg, 8 ErrRange (at most 256 layers) -/
def supE (rs : List (List Reg.Row)) (R G : Int) : Int :=
  if (rs.all rvalid && reachOk R && reachOk G) = false then 1 else if (List.range (rs.length - 1)).all (supOk rs R G) then 0 else 8
def supR (rs : List (List Reg.Row)) (R G : Int) : List (List Reg.Row) := if supE rs R G = 0 then supL rs R G (rs.length - 1) else []
theorem RdRegs.nil {W : World} : RdRegs W (.slice none 0 0) [] := ⟨[], Rd.nil, rfl, fun i h r hh => by simp at hh⟩
theorem supL_top {rs : List (List Reg.Row)} {R G : Int} {m j : Nat} (h : j < rs.length) (hj : j + 1 + m = rs.length) : (supL rs R G m)[j]? = some (supS rs R G m) := by
  rw [supL_get h, if_pos (by omega), show rs.length - 1 - j = m by omega]
theorem OwnRegs.frozen {base : Nat} {W : World} {g n : Nat} {rs : List (List Reg.Row)} (h : OwnRegs base W g n rs) (i : Nat) : W.frozen? ⟨g, i, none⟩ = false := by
  obtain ⟨hs, h1, _⟩ := h
  exact h1.frozenAt _
end Go.Proofs.Ytlhmopndnohnhaa

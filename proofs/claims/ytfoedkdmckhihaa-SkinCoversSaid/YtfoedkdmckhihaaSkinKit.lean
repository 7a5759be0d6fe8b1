/- Lists of regions in memory; the layers of the skin. -/
import Derived.Test.YtfoedkdmckhihaaRegKit3
import Derived.Test.YtfoedkdmckhihaaRegOpU
import Derived.Test.YtfoedkdmckhihaaRegOpI
import Derived.Test.YtfoedkdmckhihaaRegOpS
import Derived.Test.YtfoedkdmckhihaaRegSame2
import Derived.Test.YtfoedkdmckhihaaRegRow2
namespace Go.Proofs.Ytfoedkdmckhihaa
set_option linter.unusedSimpArgs false
set_option linter.unusedVariables false
open Go.RowKit Runs Reg
attribute [local go_sem] Kin.cell Kin.frozen Kin.lt0 Kin.lt1 Kin.lt2 Kin.lt3 run_mkf
abbrev RegH := Option Addr × Nat × Nat
def encReg (h : RegH) : List Value := [.slice h.1 h.2.1 h.2.2]
theorem encReg_len (h : RegH) : (encReg h).length = 1 := rfl
/-- a list of regions -/
def RdRegs (W : World) (v : Value) (rs : List (List Reg.Row)) : Prop := ∃ hs : List RegH, Rd 1 encReg W v hs ∧ hs.length = rs.length ∧ ∀ (i : Nat) (h : RegH) (r : List Reg.Row), hs[i]? = some h → rs[i]? = some r → RdReg W (.agg #[.slice h.1 h.2.1 h.2.2]) r
theorem RdRegs.below {W W' : World} {v : Value} {rs : List (List Reg.Row)} (h : RdRegs W v rs) (hb : Below W.heap.size W W') : RdRegs W' v rs := by
  obtain ⟨hs, h1, h2, h3⟩ := h
  exact ⟨hs, h1.below hb, h2, fun i h r hh hr => (h3 i h r hh hr).below hb⟩
theorem regs_open {W : World} {v : Value} {rs : List (List Reg.Row)} (h : RdRegs W v rs) : ∃ (A : Option Addr) (cap : Nat), v = .slice A rs.length cap ∧ rs.length ≤ cap ∧
    ∀ (i : Nat) (r : List Reg.Row), rs[i]? = some r → ∃ b off, A = some ⟨b, off, none⟩ ∧ b < W.heap.size ∧
      ∀ (i : Nat) (r : List Reg.Row), rs[i]? = some r → ∃ (S : Option Addr) (n c : Nat), W.cell? ⟨b, off + i, none⟩ = some (.slice S n c) ∧ RdReg W (.agg #[.slice S n c]) r := by
  obtain ⟨hs, h1, hl, h2⟩ := h
  obtain ⟨A, cap, hv, hc, ho⟩ := h1.open_
  refine ⟨A, cap, by rw [hv, hl], by omega, fun i r hr => ?_⟩
  have some_h : ∀ (i : Nat) (r : List Reg.Row), rs[i]? = some r → ∃ h, hs[i]? = some h := fun i r hr => by
    have := (List.getElem?_eq_some_iff.1 hr).1
    exact ⟨_, List.getElem?_eq_getElem (by omega)⟩
  obtain ⟨h, hh⟩ := some_h i r hr
  obtain ⟨b, off, hA, hb, hcell⟩ := ho i h hh
  refine ⟨b, off, hA, hb, fun j s hs' => ?_⟩
  obtain ⟨g, hg⟩ := some_h j s hs'
  have := hcell j g hg 0 _ rfl
  exact ⟨g.1, g.2.1, g.2.2, by simpa using this, h2 j g s hg hs'⟩
theorem regs_op {W : World} {A : Option Addr} {n cap : Nat} {rs : List (List Reg.Row)} (h : RdRegs W (.slice A n cap) rs) :
    ∀ (i : Nat) (r : List Reg.Row), rs[i]? = some r → ∃ b off, A = some ⟨b, off, none⟩ ∧ b < W.heap.size ∧
      ∀ (i : Nat) (r : List Reg.Row), rs[i]? = some r → ∃ (S : Option Addr) (n c : Nat), W.cell? ⟨b, off + i, none⟩ = some (.slice S n c) ∧ RdReg W (.agg #[.slice S n c]) r := by
  obtain ⟨A', cap', e, _, ho⟩ := regs_open h
  injection e with e1
  subst e1
  exact ho
/-- a layer; one that does not exist or is not valid has no cells -/
def layR (rs : List (List Reg.Row)) (i : Int) : List Reg.Row := if 0 ≤ i then (match rs[i.toNat]? with | some r => if rvalid r then r else [] | none => []) else []
theorem layR_valid (rs : List (List Reg.Row)) (i : Int) : rvalid (layR rs i) = true := by
  unfold layR
  split
  · split
    · split
      · assumption
      · exact rvalid_nil
    · exact rvalid_nil
  · exact rvalid_nil
/-- the value of a layer -/
def LayIs (W : World) (v : Value) (rs : List (List Reg.Row)) (i : Int) (u : Value) : Prop :=
  (∃ (k b off cap : Nat) (S : Option Addr) (n c : Nat) (r : List Reg.Row), i = (k : Int) ∧ rs[k]? = some r ∧ v = .slice (some ⟨b, off, none⟩) rs.length cap ∧ b < W.heap.size ∧ W.cell? ⟨b, off + k, none⟩ = some (.slice S n c) ∧ RdReg W (.agg #[.slice S n c]) r ∧
    u = if rvalid r then .agg #[.slice S n c] else .agg #[.slice none 0 0]) ∨ ((i < 0 ∨ (rs.length : Int) ≤ i) ∧ u = .agg #[.slice none 0 0] ∧ ∃ A cap, v = .slice A rs.length cap)
theorem LayIs.below {W W' : World} {v : Value} {rs : List (List Reg.Row)} {i : Int} {u : Value} (h : LayIs W v rs i u) (hb : Below W.heap.size W W') : LayIs W' v rs i u := by
  rcases h with ⟨k, b, off, cap, S, n, c, r, h1, h2, h3, h4, h5, h6, h7⟩ | h
  · exact .inl ⟨k, b, off, cap, S, n, c, r, h1, h2, h3, Nat.lt_of_lt_of_le h4 hb.size, (hb.cell (p := ⟨b, _, none⟩) h4).trans h5, h6.below hb, h7⟩
  · exact .inr h
theorem layIs_some {W : World} {v : Value} {rs : List (List Reg.Row)} (h : RdRegs W v rs) (i : Int) : ∃ u, LayIs W v rs i u ∧ RdReg W u (layR rs i) := by
  obtain ⟨A, cap, rfl, hcap, hop⟩ := regs_open h
  by_cases hi : 0 ≤ i ∧ i < (rs.length : Int)
  · obtain ⟨k, rfl⟩ : ∃ k : Nat, i = (k : Int) := ⟨i.toNat, by omega⟩
    have hk : k < rs.length := by omega
    have hr : rs[k]? = some rs[k] := List.getElem?_eq_getElem hk
    obtain ⟨b, off, rfl, hb, hc⟩ := hop k _ hr
    obtain ⟨S, n, c, h1, h2⟩ := hc k _ hr
    refine ⟨_, .inl ⟨k, b, off, cap, S, n, c, _, rfl, hr, rfl, hb, h1, h2, rfl⟩, ?_⟩
    have e : layR rs (k : Int) = if rvalid rs[k] then rs[k] else [] := by simp [layR, hr]
    rw [e]
    by_cases hv : rvalid rs[k] = true
    · simp only [hv, if_true]; exact h2
    · simp only [hv, if_false]; exact RdReg.nil
  · refine ⟨_, .inr ⟨by omega, rfl, A, cap, rfl⟩, ?_⟩
    have e : layR rs i = [] := by
      unfold layR
      split
      · rw [List.getElem?_eq_none (by omega)]
      · rfl
    rw [e]; exact RdReg.nil
set_option maxRecDepth 100000 in
set_option maxHeartbeats 4000000 in
theorem layer_any (v : Value) (rs : List (List Reg.Row)) (i : Int) (u : Value) (w : World) (hbd : ∀ r ∈ rs, RBd r) (hlen : rs.length ≤ 17179869184) (hu : LayIs w v rs i u) :
    Calls Try.prog 37 #[v, .int .i64 i] w fun e w' => e = .returned u ∧ Below w.heap.size w w' := by
  rcases hu with ⟨k, b, off, cap, S, n, c, r, rfl, h2, rfl, h4, h5, h6, rfl⟩ | ⟨h1, rfl, A, cap, rfl⟩
  · have hk : k < rs.length := (List.getElem?_eq_some_iff.1 h2).1
    have Hbd := Lib.hid (hbd r (List.mem_of_getElem? h2))
    have H6 := Lib.hid h6
    clear h6 h2 hbd
    have hb42 : b < w.heap.size + 1 := by omega
    go_enter Try.func37, Try.ntmps37
    cases hv : rvalid r
    · go_wp2_with (go_at_call 25; go_loud ((with_reducible refine (Kin.callK (W := w.alloc (.cells #[.slice none 0 0] 29)) (by repeat (first | with_reducible exact Below.refl _ _ | with_reducible exact Nat.le_refl _ | with_reducible refine Kin.below _ ?_ | with_reducible refine Below.alloc ?_ ?_ _ | with_reducible refine Below.drew ?_ | with_reducible refine Kin.le _ ?_ | with_reducible refine le_alloc ?_ _ | with_reducible refine le_drew ?_ | with_reducible refine Below.setCell ?_ ?_ _ | with_reducible exact Nat.le_refl _ | (simp only [World.size_alloc]; omega) | (simp <;> omega))) (rvalid_is _ r _ (H6.out.below (by repeat (first | with_reducible exact Below.refl _ _ | with_reducible exact Nat.le_refl _ | with_reducible refine Kin.below _ ?_ | with_reducible refine Below.alloc ?_ ?_ _ | with_reducible refine Below.drew ?_ | with_reducible refine Kin.le _ ?_ | with_reducible refine le_alloc ?_ _ | with_reducible refine le_drew ?_ | with_reducible refine Below.setCell ?_ ?_ _ | with_reducible exact Nat.le_refl _ | (simp only [World.size_alloc]; omega) | (simp <;> omega)))) Hbd.out hv)).mono ?_); rintro e w' ⟨z, rfl, hz, rfl⟩))
      have hB := (Blk.new w 29 #[.slice none 0 0]).below z.2
      ((try simp only [Exit.inBlock, Exit.then]); refine bodyPost_ret (results_cell_row rfl _ _ _ _ _ (0, 0) _ rfl (hB.set_ 0 _) Try.underlying29 rfl (by kernel_rfl)) rfl ?_)
      exact ⟨by simp, (by repeat (first | with_reducible exact Below.refl _ _ | with_reducible exact Nat.le_refl _ | with_reducible refine Kin.below _ ?_ | with_reducible refine Below.alloc ?_ ?_ _ | with_reducible refine Below.drew ?_ | with_reducible refine Kin.le _ ?_ | with_reducible refine le_alloc ?_ _ | with_reducible refine le_drew ?_ | with_reducible refine Below.setCell ?_ ?_ _ | with_reducible exact Nat.le_refl _ | (simp only [World.size_alloc]; omega) | (simp <;> omega)))⟩
    · go_wp2_with (go_at_call 25; go_loud ((with_reducible refine (Kin.callK (W := w.alloc (.cells #[.slice none 0 0] 29)) (by repeat (first | with_reducible exact Below.refl _ _ | with_reducible exact Nat.le_refl _ | with_reducible refine Kin.below _ ?_ | with_reducible refine Below.alloc ?_ ?_ _ | with_reducible refine Below.drew ?_ | with_reducible refine Kin.le _ ?_ | with_reducible refine le_alloc ?_ _ | with_reducible refine le_drew ?_ | with_reducible refine Below.setCell ?_ ?_ _ | with_reducible exact Nat.le_refl _ | (simp only [World.size_alloc]; omega) | (simp <;> omega))) (rvalid_is _ r _ (H6.out.below (by repeat (first | with_reducible exact Below.refl _ _ | with_reducible exact Nat.le_refl _ | with_reducible refine Kin.below _ ?_ | with_reducible refine Below.alloc ?_ ?_ _ | with_reducible refine Below.drew ?_ | with_reducible refine Kin.le _ ?_ | with_reducible refine le_alloc ?_ _ | with_reducible refine le_drew ?_ | with_reducible refine Below.setCell ?_ ?_ _ | with_reducible exact Nat.le_refl _ | (simp only [World.size_alloc]; omega) | (simp <;> omega)))) Hbd.out hv)).mono ?_); rintro e w' ⟨z, rfl, hz, rfl⟩; (have hB := Lib.hid ((Blk.new w 29 #[.slice none 0 0]).below z.2); have q0 : (Kin.wd z).cell? ⟨w.heap.size, 0, none⟩ = some (.slice none 0 0) := hB.out.cell 0; have qf : (Kin.wd z).frozen? ⟨w.heap.size, 0, none⟩ = false := hB.out.frozen 0; have ql := hB.out.lt)))
      ((try simp only [Exit.inBlock, Exit.then]); refine bodyPost_ret (results_cell_row rfl _ _ _ _ _ (0, 0) _ rfl (hB.out.set_ 0 _) Try.underlying29 rfl (by kernel_rfl)) rfl ?_)
      exact ⟨by simp, (by repeat (first | with_reducible exact Below.refl _ _ | with_reducible exact Nat.le_refl _ | with_reducible refine Kin.below _ ?_ | with_reducible refine Below.alloc ?_ ?_ _ | with_reducible refine Below.drew ?_ | with_reducible refine Kin.le _ ?_ | with_reducible refine le_alloc ?_ _ | with_reducible refine le_drew ?_ | with_reducible refine Below.setCell ?_ ?_ _ | with_reducible exact Nat.le_refl _ | (simp only [World.size_alloc]; omega) | (simp <;> omega)))⟩
  · go_enter Try.func37, Try.ntmps37
    rcases h1 with h1 | h1
    · go_wp2
      ((try simp only [Exit.inBlock, Exit.then]); refine bodyPost_ret (results_cell_row rfl _ _ _ _ _ (0, 0) _ rfl ((Blk.new w 29 #[.slice none 0 0])) Try.underlying29 rfl (by kernel_rfl)) rfl ?_)
      exact ⟨rfl, (by repeat (first | with_reducible exact Below.refl _ _ | with_reducible exact Nat.le_refl _ | with_reducible refine Kin.below _ ?_ | with_reducible refine Below.alloc ?_ ?_ _ | with_reducible refine Below.drew ?_ | with_reducible refine Kin.le _ ?_ | with_reducible refine le_alloc ?_ _ | with_reducible refine le_drew ?_ | with_reducible refine Below.setCell ?_ ?_ _ | with_reducible exact Nat.le_refl _ | (simp only [World.size_alloc]; omega) | (simp <;> omega)))⟩
    · go_wp2
      ((try simp only [Exit.inBlock, Exit.then]); refine bodyPost_ret (results_cell_row rfl _ _ _ _ _ (0, 0) _ rfl ((Blk.new w 29 #[.slice none 0 0])) Try.underlying29 rfl (by kernel_rfl)) rfl ?_)
      exact ⟨rfl, (by repeat (first | with_reducible exact Below.refl _ _ | with_reducible exact Nat.le_refl _ | with_reducible refine Kin.below _ ?_ | with_reducible refine Below.alloc ?_ ?_ _ | with_reducible refine Below.drew ?_ | with_reducible refine Kin.le _ ?_ | with_reducible refine le_alloc ?_ _ | with_reducible refine le_drew ?_ | with_reducible refine Below.setCell ?_ ?_ _ | with_reducible exact Nat.le_refl _ | (simp only [World.size_alloc]; omega) | (simp <;> omega)))⟩
end Go.Proofs.Ytfoedkdmckhihaa

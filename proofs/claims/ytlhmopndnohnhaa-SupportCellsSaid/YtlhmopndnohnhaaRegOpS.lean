/- Subtract of regions. -/
import Derived.Test.YtlhmopndnohnhaaRegCombS
import Derived.Test.YtlhmopndnohnhaaRegKitA
namespace Go.Proofs.Ytlhmopndnohnhaa
set_option linter.unusedSimpArgs false
set_option linter.unusedVariables false
open Go.RowKit Runs Reg
attribute [local go_sem] Kin.cell Kin.frozen Kin.lt0 Kin.lt1 Kin.lt2 Kin.lt3 run_mkf
set_option maxRecDepth 100000 in
set_option maxHeartbeats 4000000 in
theorem subtractReg_any (v u : Value) (a b : List Reg.Row) (w : World) (ha : RdReg w v a) (hb : RdReg w u b) (ba : RBd a) (bb : RBd b) :
    Calls Try.prog 29 #[v, u] w fun e w' => (∃ r, e = .returned r ∧ RdReg w' r (rop (opf 0) a b)) ∧ Below w.heap.size w w' := by
  have HA := Lib.hid ha
  have HB := Lib.hid hb
  obtain ⟨A, capA, rfl⟩ := ha.slice_
  obtain ⟨B, capB, rfl⟩ := hb.slice_
  clear ha hb
  go_enter Try.func29, Try.ntmps29
  go_wp2_with (go_at_call 40; (with_reducible refine (Kin.callK (W := ((w.alloc (.cells #[.slice A a.length capA] 24)).alloc (.cells #[.slice B b.length capB] 24)).alloc (.cells #[.slice none 0 0] 24)) (by repeat (first | with_reducible exact Below.refl _ _ | with_reducible exact Nat.le_refl _ | with_reducible refine Kin.below _ ?_ | with_reducible refine Below.alloc ?_ ?_ _ | with_reducible refine Below.drew ?_ | with_reducible refine Kin.le _ ?_ | with_reducible refine le_alloc ?_ _ | with_reducible refine le_drew ?_ | with_reducible refine Below.setCell ?_ ?_ _ | with_reducible exact Nat.le_refl _ | (simp only [World.size_alloc]; omega) | (simp <;> omega))) (combineS_any _ _ a b _ (HA.out.below (by repeat (first | with_reducible exact Below.refl _ _ | with_reducible exact Nat.le_refl _ | with_reducible refine Kin.below _ ?_ | with_reducible refine Below.alloc ?_ ?_ _ | with_reducible refine Below.drew ?_ | with_reducible refine Kin.le _ ?_ | with_reducible refine le_alloc ?_ _ | with_reducible refine le_drew ?_ | with_reducible refine Below.setCell ?_ ?_ _ | with_reducible exact Nat.le_refl _ | (simp only [World.size_alloc]; omega) | (simp <;> omega)))) (HB.out.below (by repeat (first | with_reducible exact Below.refl _ _ | with_reducible exact Nat.le_refl _ | with_reducible refine Kin.below _ ?_ | with_reducible refine Below.alloc ?_ ?_ _ | with_reducible refine Below.drew ?_ | with_reducible refine Kin.le _ ?_ | with_reducible refine le_alloc ?_ _ | with_reducible refine le_drew ?_ | with_reducible refine Below.setCell ?_ ?_ _ | with_reducible exact Nat.le_refl _ | (simp only [World.size_alloc]; omega) | (simp <;> omega)))) ba bb)).mono ?_); rintro e w' ⟨z, ⟨r, rfl, hr⟩, hz, rfl⟩; ((obtain ⟨R, capR, rfl⟩ := hr.slice_); have HR := Lib.hid hr; have B3 := Lib.hid z.boxes3.2.2; have q0 : (Kin.wd z).cell? ⟨w.heap.size + 2, 0, none⟩ = some (.slice none 0 0) := B3.out.cell 0; have qf : (Kin.wd z).frozen? ⟨w.heap.size + 2, 0, none⟩ = false := B3.out.frozen 0; have ql := B3.out.lt; clear hr))
  ((try simp only [Exit.inBlock, Exit.then]); refine bodyPost_ret (results_cell_row rfl _ _ _ _ _ (0, 0) _ rfl (B3.out.set_ 0 _) Try.underlying24 rfl (by kernel_rfl)) rfl ?_)
  exact ⟨⟨_, rfl, HR.out.set_ B3.out⟩, (by repeat (first | with_reducible exact Below.refl _ _ | with_reducible exact Nat.le_refl _ | with_reducible refine Kin.below _ ?_ | with_reducible refine Below.alloc ?_ ?_ _ | with_reducible refine Below.drew ?_ | with_reducible refine Kin.le _ ?_ | with_reducible refine le_alloc ?_ _ | with_reducible refine le_drew ?_ | with_reducible refine Below.setCell ?_ ?_ _ | with_reducible exact Nat.le_refl _ | (simp only [World.size_alloc]; omega) | (simp <;> omega)))⟩
end Go.Proofs.Ytlhmopndnohnhaa

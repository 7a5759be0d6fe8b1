/- What Open, Close and Ring return. -/
import Derived.Test.YtjppaknajdbkgaaMorphEro
import Derived.Test.YtjppaknajdbkgaaSupA
namespace Go.Proofs.Ytjppaknajdbkgaa
set_option linter.unusedSimpArgs false
set_option linter.unusedVariables false
open Go.RowKit Runs Reg
attribute [local go_sem] Kin.cell Kin.frozen Kin.lt0 Kin.lt1 Kin.lt2 Kin.lt3 run_mkf
set_option maxRecDepth 100000 in
set_option maxHeartbeats 8000000 in
theorem open_any (v : Value) (rows : List Reg.Row) (k : Int) (w : World) (h : RdReg w v rows) (hbd : RBd rows) :
    Calls Try.prog 23 #[v, .int .i64 k] w fun e w' => (∃ A n c, e = .returned (.agg #[.slice A n c]) ∧ RdReg w' (.agg #[.slice A n c]) (opnR rows k)) ∧ Below w.heap.size w w' := by
  have H := Lib.hid h
  have Hbd := Lib.hid hbd
  obtain ⟨A, capA, rfl⟩ := h.slice_
  clear h hbd
  go_enter Try.func23, Try.ntmps23
  go_wp2_with (first
    | (go_at_call 21; (with_reducible refine (Kin.callK (W := (w.alloc (.cells #[.slice A rows.length capA] 24)).alloc (.cells #[.slice none 0 0] 24)) (by repeat (first | with_reducible (first | exact blA | exact blB | refine blC _ ?_ | refine blD ?_ ?_ _ | refine blE ?_ | refine blF _ ?_ | refine blG ?_ _ | refine blH ?_ | refine blI ?_ ?_ _) | (simp only [World.size_alloc]; omega) | (simp <;> omega))) (ero_any _ rows k _ (H.out.below (by repeat (first | with_reducible (first | exact blA | exact blB | refine blC _ ?_ | refine blD ?_ ?_ _ | refine blE ?_ | refine blF _ ?_ | refine blG ?_ _ | refine blH ?_ | refine blI ?_ ?_ _) | (simp only [World.size_alloc]; omega) | (simp <;> omega)))) Hbd.out)).mono ?_); rintro e w' ⟨z, ⟨E, nE, cE, rfl, he⟩, hz, rfl⟩; (have HE := Lib.hid he; clear he))
    | (go_at_call 16; (with_reducible refine (Kin.callK (W := (w.alloc (.cells #[.slice A rows.length capA] 24)).alloc (.cells #[.slice none 0 0] 24)) (by repeat (first | with_reducible (first | exact blA | exact blB | refine blC _ ?_ | refine blD ?_ ?_ _ | refine blE ?_ | refine blF _ ?_ | refine blG ?_ _ | refine blH ?_ | refine blI ?_ ?_ _) | (simp only [World.size_alloc]; omega) | (simp <;> omega))) (dil_any _ (eroR rows k) k _ (HE.out.below (by repeat (first | with_reducible (first | exact blA | exact blB | refine blC _ ?_ | refine blD ?_ ?_ _ | refine blE ?_ | refine blF _ ?_ | refine blG ?_ _ | refine blH ?_ | refine blI ?_ ?_ _) | (simp only [World.size_alloc]; omega) | (simp <;> omega)))) (rvalid_bd (eroR_valid rows k)))).mono ?_); rintro e w' ⟨z2, ⟨D, nD, cD, rfl, hd⟩, hz2, rfl⟩; (have HD := Lib.hid hd; have hB := Lib.hid z2.boxes2.2; have q0 : (Kin.wd z2).cell? ⟨w.heap.size + 1, 0, none⟩ = some (.slice none 0 0) := hB.out.cell 0; have qf : (Kin.wd z2).frozen? ⟨w.heap.size + 1, 0, none⟩ = false := hB.out.frozen 0; have ql := hB.out.lt; have ql1 := Nat.lt_succ_of_lt ql; clear hd)))
  ((try simp only [Exit.inBlock, Exit.then]); refine bodyPost_ret (results_cell_row rfl _ _ _ _ _ (0, 0) _ rfl (((hB.out.set_ 0 _).below (Below.alloc (Below.refl _ _) (Nat.le_refl _) _))) Try.underlying24 rfl (by kernel_rfl)) rfl ?_)
  exact ⟨⟨_, _, _, rfl, (HD.out.set_ hB.out).below (Below.alloc (Below.refl _ _) (Nat.le_refl _) _)⟩, (by repeat (first | with_reducible (first | exact blA | exact blB | refine blC _ ?_ | refine blD ?_ ?_ _ | refine blE ?_ | refine blF _ ?_ | refine blG ?_ _ | refine blH ?_ | refine blI ?_ ?_ _) | (simp only [World.size_alloc]; omega) | (simp <;> omega)))⟩
set_option maxRecDepth 100000 in
set_option maxHeartbeats 8000000 in
theorem close_any (v : Value) (rows : List Reg.Row) (k : Int) (w : World) (h : RdReg w v rows) (hbd : RBd rows) :
    Calls Try.prog 18 #[v, .int .i64 k] w fun e w' => (∃ A n c, e = .returned (.tuple #[.agg #[.slice A n c], .int .i64 (dilE rows k)]) ∧ RdReg w' (.agg #[.slice A n c]) (cloR rows k)) ∧ Below w.heap.size w w' := by
  have H := Lib.hid h
  have Hbd := Lib.hid hbd
  obtain ⟨A, capA, rfl⟩ := h.slice_
  clear h hbd
  rcases dilE_three rows k with hE | hE | hE
  · have e2 : cloR rows k = eroR (dilR rows k) k := by unfold cloR; rw [if_pos hE]
    rw [hE, e2]
    clear e2
    go_enter Try.func18, Try.ntmps18
    go_wp2_with (first
      | (go_at_call 16; (with_reducible refine (Kin.callK (W := (w.alloc (.cells #[.slice A rows.length capA] 24)).alloc (.cells #[.slice none 0 0] 24)) (by repeat (first | with_reducible (first | exact blA | exact blB | refine blC _ ?_ | refine blD ?_ ?_ _ | refine blE ?_ | refine blF _ ?_ | refine blG ?_ _ | refine blH ?_ | refine blI ?_ ?_ _) | (simp only [World.size_alloc]; omega) | (simp <;> omega))) (dil_is _ rows k _ (H.out.below (by repeat (first | with_reducible (first | exact blA | exact blB | refine blC _ ?_ | refine blD ?_ ?_ _ | refine blE ?_ | refine blF _ ?_ | refine blG ?_ _ | refine blH ?_ | refine blI ?_ ?_ _) | (simp only [World.size_alloc]; omega) | (simp <;> omega)))) Hbd.out hE)).mono ?_); rintro e w' ⟨z, ⟨D, nD, cD, rfl, hd⟩, hz, rfl⟩; (have HD := Lib.hid hd; clear hd))
      | (go_at_call 21; (with_reducible refine (Kin.callK (W := (w.alloc (.cells #[.slice A rows.length capA] 24)).alloc (.cells #[.slice none 0 0] 24)) (by repeat (first | with_reducible (first | exact blA | exact blB | refine blC _ ?_ | refine blD ?_ ?_ _ | refine blE ?_ | refine blF _ ?_ | refine blG ?_ _ | refine blH ?_ | refine blI ?_ ?_ _) | (simp only [World.size_alloc]; omega) | (simp <;> omega))) (ero_any _ (dilR rows k) k _ (HD.out.below (by repeat (first | with_reducible (first | exact blA | exact blB | refine blC _ ?_ | refine blD ?_ ?_ _ | refine blE ?_ | refine blF _ ?_ | refine blG ?_ _ | refine blH ?_ | refine blI ?_ ?_ _) | (simp only [World.size_alloc]; omega) | (simp <;> omega)))) (rvalid_bd (dilR_valid rows k)))).mono ?_); rintro e w' ⟨z2, ⟨E, nE, cE, rfl, he⟩, hz2, rfl⟩; (have HEE := Lib.hid he; have hB := Lib.hid z2.boxes2.2; have q0 : (Kin.wd z2).cell? ⟨w.heap.size + 1, 0, none⟩ = some (.slice none 0 0) := hB.out.cell 0; have qf : (Kin.wd z2).frozen? ⟨w.heap.size + 1, 0, none⟩ = false := hB.out.frozen 0; have ql := hB.out.lt; clear he)))
    ((try simp only [Exit.inBlock, Exit.then]); refine bodyPost_ret (results_cell_t rfl _ _ (0, 0) rfl (hB.out.set_ 0 _) Try.underlying24 rfl (by kernel_rfl)) rfl ?_)
    exact ⟨⟨_, _, _, rfl, HEE.out.set_ hB.out⟩, (by repeat (first | with_reducible (first | exact blA | exact blB | refine blC _ ?_ | refine blD ?_ ?_ _ | refine blE ?_ | refine blF _ ?_ | refine blG ?_ _ | refine blH ?_ | refine blI ?_ ?_ _) | (simp only [World.size_alloc]; omega) | (simp <;> omega)))⟩
  all_goals
    have e2 : cloR rows k = [] := by unfold cloR; rw [if_neg (by rw [hE]; decide)]
    rw [hE, e2]
    clear e2
    go_enter Try.func18, Try.ntmps18
    go_wp2_with (go_at_call 16; (with_reducible refine (Kin.callK (W := (w.alloc (.cells #[.slice A rows.length capA] 24)).alloc (.cells #[.slice none 0 0] 24)) (by repeat (first | with_reducible (first | exact blA | exact blB | refine blC _ ?_ | refine blD ?_ ?_ _ | refine blE ?_ | refine blF _ ?_ | refine blG ?_ _ | refine blH ?_ | refine blI ?_ ?_ _) | (simp only [World.size_alloc]; omega) | (simp <;> omega))) (dil_is _ rows k _ (H.out.below (by repeat (first | with_reducible (first | exact blA | exact blB | refine blC _ ?_ | refine blD ?_ ?_ _ | refine blE ?_ | refine blF _ ?_ | refine blG ?_ _ | refine blH ?_ | refine blI ?_ ?_ _) | (simp only [World.size_alloc]; omega) | (simp <;> omega)))) Hbd.out hE)).mono ?_); rintro e w' ⟨z, ⟨D, nD, cD, rfl, hd⟩, hz, rfl⟩; (have hB := Lib.hid z.boxes2.2; have q0 : (Kin.wd z).cell? ⟨w.heap.size + 1, 0, none⟩ = some (.slice none 0 0) := hB.out.cell 0; have qf : (Kin.wd z).frozen? ⟨w.heap.size + 1, 0, none⟩ = false := hB.out.frozen 0; have ql := hB.out.lt; have ql1 := Nat.lt_succ_of_lt ql; clear hd))
    ((try simp only [Exit.inBlock, Exit.then]); refine bodyPost_ret (results_cell_t rfl _ _ (0, 0) rfl ((hB.out.set_ 0 _).below (Below.alloc (Below.refl _ _) (Nat.le_refl _) _)) Try.underlying24 rfl (by kernel_rfl)) rfl ?_)
    exact ⟨⟨_, _, _, rfl, RdReg.nil⟩, (by repeat (first | with_reducible (first | exact blA | exact blB | refine blC _ ?_ | refine blD ?_ ?_ _ | refine blE ?_ | refine blF _ ?_ | refine blG ?_ _ | refine blH ?_ | refine blI ?_ ?_ _) | (simp only [World.size_alloc]; omega) | (simp <;> omega)))⟩
set_option maxRecDepth 100000 in
set_option maxHeartbeats 8000000 in
theorem ring_any (v : Value) (rows : List Reg.Row) (w : World) (h : RdReg w v rows) (hbd : RBd rows) :
    Calls Try.prog 25 #[v] w fun e w' => (∃ A n c, e = .returned (.agg #[.slice A n c]) ∧ RdReg w' (.agg #[.slice A n c]) (rop (opf 0) rows (eroR rows 1))) ∧ Below w.heap.size w w' := by
  have H := Lib.hid h
  have Hbd := Lib.hid hbd
  obtain ⟨A, capA, rfl⟩ := h.slice_
  clear h hbd
  go_enter Try.func25, Try.ntmps25
  go_wp2
  obtain ⟨yb, hX⟩ : ∃ yb : Kin w, yb.1 = (w.alloc (.cells #[.slice A rows.length capA] 24)).alloc (.cells #[.slice none 0 0] 24) := ⟨⟨(w.alloc (.cells #[.slice A rows.length capA] 24)).alloc (.cells #[.slice none 0 0] 24), (by repeat (first | with_reducible (first | exact blA | exact blB | refine blC _ ?_ | refine blD ?_ ?_ _ | refine blE ?_ | refine blF _ ?_ | refine blG ?_ _ | refine blH ?_ | refine blI ?_ ?_ _) | (simp only [World.size_alloc]; omega) | (simp <;> omega)))⟩, rfl⟩
  rw [← hX]
  have HA := Lib.hid (show Blk yb.1 w.heap.size 24 #[.slice A rows.length capA] from hX ▸ (Blk.new w _ _).below (Below.alloc (Below.refl _ _) (Nat.le_refl _) _))
  have HB := Lib.hid (show Blk yb.1 (w.heap.size + 1) 24 #[.slice none 0 0] from hX ▸ (by have h := Blk.new (w.alloc (.cells #[.slice A rows.length capA] 24)) 24 #[.slice none 0 0]; simpa using h))
  have k0 : yb.1.cell? ⟨w.heap.size, 0, none⟩ = some (.slice A rows.length capA) := HA.out.cell 0
  have kl := HA.out.lt
  have kb := HB.out.lt
  clear hX
  go_region_held (fun w' => w'.cell? ⟨w.heap.size, 0, none⟩ = some (.slice A rows.length capA)) (first | assumption | (refine (Kin.cell (W := (Kin.wd yb)) _ ?_).trans ?_ <;> assumption) | simp [*, World.cell?_alloc_some, World.cell?_setCell_far] | ((refine (World.cell?_setCell_other (by simp)).trans ?_); first | assumption | simp [*])) (first
    | (go_at_call 21; (with_reducible refine (Kin.callK (W := (Kin.wd yb)) (by repeat (first | with_reducible (first | exact blA | exact blB | refine blC _ ?_ | refine blD ?_ ?_ _ | refine blE ?_ | refine blF _ ?_ | refine blG ?_ _ | refine blH ?_ | refine blI ?_ ?_ _) | (simp only [World.size_alloc]; omega) | (simp <;> omega))) (ero_any _ rows 1 _ (H.out.below (by repeat (first | with_reducible (first | exact blA | exact blB | refine blC _ ?_ | refine blD ?_ ?_ _ | refine blE ?_ | refine blF _ ?_ | refine blG ?_ _ | refine blH ?_ | refine blI ?_ ?_ _) | (simp only [World.size_alloc]; omega) | (simp <;> omega)))) Hbd.out)).mono ?_); rintro e w' ⟨z, ⟨E, nE, cE, rfl, he⟩, hz, rfl⟩; (have HE := Lib.hid he; clear he))
    | (go_at_call 53; (with_reducible refine (Kin.callK (W := (Kin.wd yb)) (by repeat (first | with_reducible (first | exact blA | exact blB | refine blC _ ?_ | refine blD ?_ ?_ _ | refine blE ?_ | refine blF _ ?_ | refine blG ?_ _ | refine blH ?_ | refine blI ?_ ?_ _) | (simp only [World.size_alloc]; omega) | (simp <;> omega))) (subtractReg_two _ _ rows (eroR rows 1) _ (H.out.below (by repeat (first | with_reducible (first | exact blA | exact blB | refine blC _ ?_ | refine blD ?_ ?_ _ | refine blE ?_ | refine blF _ ?_ | refine blG ?_ _ | refine blH ?_ | refine blI ?_ ?_ _) | (simp only [World.size_alloc]; omega) | (simp <;> omega)))) (HE.out.below (by repeat (first | with_reducible (first | exact blA | exact blB | refine blC _ ?_ | refine blD ?_ ?_ _ | refine blE ?_ | refine blF _ ?_ | refine blG ?_ _ | refine blH ?_ | refine blI ?_ ?_ _) | (simp only [World.size_alloc]; omega) | (simp <;> omega)))) Hbd.out (rvalid_bd (eroR_valid rows 1)))).mono ?_); rintro e w' ⟨z2, ⟨R, nR, cR, rfl, hn, hr⟩, hz2, rfl⟩; (have HR := Lib.hid hr; have hB2 := Lib.hid (HB.out.below z2.2); have q0 : (Kin.wd z2).cell? ⟨w.heap.size + 1, 0, none⟩ = some (.slice none 0 0) := hB2.out.cell 0; have qf : (Kin.wd z2).frozen? ⟨w.heap.size + 1, 0, none⟩ = false := hB2.out.frozen 0; have ql := hB2.out.lt; have t1 : ((Kin.wd z2).setCell ⟨w.heap.size + 1, 0, none⟩ (.slice R nR cR)).cell? ⟨w.heap.size, 0, none⟩ = some (.slice A rows.length capA) := ((World.cell?_setCell_far _ _ _ _ (Nat.succ_ne_self _))).trans ((z2.cell kl).trans k0); clear hr hn)))
  all_goals
    go_wp2
    ((try simp only [Exit.inBlock, Exit.then]); refine bodyPost_ret (results_cell_row rfl _ _ _ _ _ (0, 0) _ rfl (hB2.out.set_ 0 _) Try.underlying24 rfl (by kernel_rfl)) rfl ?_)
    exact ⟨⟨_, _, _, rfl, HR.out.set_ hB2.out⟩, Below.setCell (yb.2.trans (z2.2.mono yb.2.size)) (Nat.le_succ _) _⟩
end Go.Proofs.Ytjppaknajdbkgaa

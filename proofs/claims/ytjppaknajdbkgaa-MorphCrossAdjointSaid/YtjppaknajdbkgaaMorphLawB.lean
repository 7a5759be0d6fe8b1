/- MorphCrossAdjoint: for every input the laws return true. No condition. -/
import Derived.Test.YtjppaknajdbkgaaMorphAwk
namespace Go.Proofs.Ytjppaknajdbkgaa
set_option linter.unusedSimpArgs false
set_option linter.unusedVariables false
open Go.ChangeShapes Go.WideShapes Go.ChangeAt Go.RowKit Go.Joins Runs Reg
attribute [local go_sem] Kin.cell Kin.frozen Kin.lt0 Kin.lt1 Kin.lt2 Kin.lt3 run_mkf
set_option maxRecDepth 100000 in
set_option maxHeartbeats 32000000 in
theorem morphCrossAdjoint_walk (W : World) (v : Value) (h : IsPair W v) : Calls Try.prog 7 #[v] W fun e W' => e = .returned (.bool true) ∧ Below W.heap.size W W' := by
  obtain ⟨AA, nA, cA, AB, nB, cB, k, rfl, ⟨a, ha, bda⟩, ⟨b, hb, bdb⟩, hk⟩ := h
  have HA := Lib.hid ha
  have HB := Lib.hid hb
  have BA := Lib.hid bda
  have BB := Lib.hid bdb
  clear ha hb bda bdb
  cases ha : heavyR a
  rotate_left
  · go_enter Try.func7, Try.ntmps7
    go_wp2_with (first | (go_at_call 14; (with_reducible refine (Kin.callK (W := (W.alloc (.cells #[.slice AA nA cA, .slice AB nB cB, .int .i64 k] 35))) (by repeat (first | with_reducible (first | exact blA | exact blB | refine blC _ ?_ | refine blD ?_ ?_ _ | refine blE ?_ | refine blF _ ?_ | refine blG ?_ _ | refine blH ?_ | refine blI ?_ ?_ _) | (simp only [World.size_alloc]; omega) | (simp <;> omega))) (heavy_is _ a _ (HA.out.below (by repeat (first | with_reducible (first | exact blA | exact blB | refine blC _ ?_ | refine blD ?_ ?_ _ | refine blE ?_ | refine blF _ ?_ | refine blG ?_ _ | refine blH ?_ | refine blI ?_ ?_ _) | (simp only [World.size_alloc]; omega) | (simp <;> omega)))) BA.out ha)).mono ?_); rintro e w' ⟨z, rfl, hz, rfl⟩) | (go_at_call 15; (with_reducible refine (Kin.callK (W := (W.alloc (.cells #[.slice AA nA cA, .slice AB nB cB, .int .i64 k] 35))) (by repeat (first | with_reducible (first | exact blA | exact blB | refine blC _ ?_ | refine blD ?_ ?_ _ | refine blE ?_ | refine blF _ ?_ | refine blG ?_ _ | refine blH ?_ | refine blI ?_ ?_ _) | (simp only [World.size_alloc]; omega) | (simp <;> omega))) (awake20_any _)).mono ?_); rintro e w' ⟨z, rfl, hz, rfl⟩))
    go_ret
    exact ⟨rfl, (by repeat (first | with_reducible (first | exact blA | exact blB | refine blC _ ?_ | refine blD ?_ ?_ _ | refine blE ?_ | refine blF _ ?_ | refine blG ?_ _ | refine blH ?_ | refine blI ?_ ?_ _) | (simp only [World.size_alloc]; omega) | (simp <;> omega)))⟩
  cases hb : heavyR b
  rotate_left
  · go_enter Try.func7, Try.ntmps7
    go_wp2_with (first | (go_at_call 14; (with_reducible refine (Kin.callK (W := (W.alloc (.cells #[.slice AA nA cA, .slice AB nB cB, .int .i64 k] 35))) (by repeat (first | with_reducible (first | exact blA | exact blB | refine blC _ ?_ | refine blD ?_ ?_ _ | refine blE ?_ | refine blF _ ?_ | refine blG ?_ _ | refine blH ?_ | refine blI ?_ ?_ _) | (simp only [World.size_alloc]; omega) | (simp <;> omega))) (heavy_is _ a _ (HA.out.below (by repeat (first | with_reducible (first | exact blA | exact blB | refine blC _ ?_ | refine blD ?_ ?_ _ | refine blE ?_ | refine blF _ ?_ | refine blG ?_ _ | refine blH ?_ | refine blI ?_ ?_ _) | (simp only [World.size_alloc]; omega) | (simp <;> omega)))) BA.out ha)).mono ?_); rintro e w' ⟨z, rfl, hz, rfl⟩) | (go_at_call 14; (with_reducible refine (Kin.callK (W := (W.alloc (.cells #[.slice AA nA cA, .slice AB nB cB, .int .i64 k] 35))) (by repeat (first | with_reducible (first | exact blA | exact blB | refine blC _ ?_ | refine blD ?_ ?_ _ | refine blE ?_ | refine blF _ ?_ | refine blG ?_ _ | refine blH ?_ | refine blI ?_ ?_ _) | (simp only [World.size_alloc]; omega) | (simp <;> omega))) (heavy_is _ b _ (HB.out.below (by repeat (first | with_reducible (first | exact blA | exact blB | refine blC _ ?_ | refine blD ?_ ?_ _ | refine blE ?_ | refine blF _ ?_ | refine blG ?_ _ | refine blH ?_ | refine blI ?_ ?_ _) | (simp only [World.size_alloc]; omega) | (simp <;> omega)))) BB.out hb)).mono ?_); rintro e w' ⟨z, rfl, hz, rfl⟩) | (go_at_call 15; (with_reducible refine (Kin.callK (W := (W.alloc (.cells #[.slice AA nA cA, .slice AB nB cB, .int .i64 k] 35))) (by repeat (first | with_reducible (first | exact blA | exact blB | refine blC _ ?_ | refine blD ?_ ?_ _ | refine blE ?_ | refine blF _ ?_ | refine blG ?_ _ | refine blH ?_ | refine blI ?_ ?_ _) | (simp only [World.size_alloc]; omega) | (simp <;> omega))) (awake20_any _)).mono ?_); rintro e w' ⟨z, rfl, hz, rfl⟩))
    go_ret
    exact ⟨rfl, (by repeat (first | with_reducible (first | exact blA | exact blB | refine blC _ ?_ | refine blD ?_ ?_ _ | refine blE ?_ | refine blF _ ?_ | refine blG ?_ _ | refine blH ?_ | refine blI ?_ ?_ _) | (simp only [World.size_alloc]; omega) | (simp <;> omega)))⟩
  cases hv : rvalid b
  · go_enter Try.func7, Try.ntmps7
    go_wp2_with (first | (go_at_call 14; (with_reducible refine (Kin.callK (W := (W.alloc (.cells #[.slice AA nA cA, .slice AB nB cB, .int .i64 k] 35))) (by repeat (first | with_reducible (first | exact blA | exact blB | refine blC _ ?_ | refine blD ?_ ?_ _ | refine blE ?_ | refine blF _ ?_ | refine blG ?_ _ | refine blH ?_ | refine blI ?_ ?_ _) | (simp only [World.size_alloc]; omega) | (simp <;> omega))) (heavy_is _ a _ (HA.out.below (by repeat (first | with_reducible (first | exact blA | exact blB | refine blC _ ?_ | refine blD ?_ ?_ _ | refine blE ?_ | refine blF _ ?_ | refine blG ?_ _ | refine blH ?_ | refine blI ?_ ?_ _) | (simp only [World.size_alloc]; omega) | (simp <;> omega)))) BA.out ha)).mono ?_); rintro e w' ⟨z, rfl, hz, rfl⟩) | (go_at_call 14; (with_reducible refine (Kin.callK (W := (W.alloc (.cells #[.slice AA nA cA, .slice AB nB cB, .int .i64 k] 35))) (by repeat (first | with_reducible (first | exact blA | exact blB | refine blC _ ?_ | refine blD ?_ ?_ _ | refine blE ?_ | refine blF _ ?_ | refine blG ?_ _ | refine blH ?_ | refine blI ?_ ?_ _) | (simp only [World.size_alloc]; omega) | (simp <;> omega))) (heavy_is _ b _ (HB.out.below (by repeat (first | with_reducible (first | exact blA | exact blB | refine blC _ ?_ | refine blD ?_ ?_ _ | refine blE ?_ | refine blF _ ?_ | refine blG ?_ _ | refine blH ?_ | refine blI ?_ ?_ _) | (simp only [World.size_alloc]; omega) | (simp <;> omega)))) BB.out hb)).mono ?_); rintro e w' ⟨z, rfl, hz, rfl⟩) | (go_at_call 31; (with_reducible refine (Kin.callK (W := (W.alloc (.cells #[.slice AA nA cA, .slice AB nB cB, .int .i64 k] 35))) (by repeat (first | with_reducible (first | exact blA | exact blB | refine blC _ ?_ | refine blD ?_ ?_ _ | refine blE ?_ | refine blF _ ?_ | refine blG ?_ _ | refine blH ?_ | refine blI ?_ ?_ _) | (simp only [World.size_alloc]; omega) | (simp <;> omega))) (valid18_is _ b _ (HB.out.below (by repeat (first | with_reducible (first | exact blA | exact blB | refine blC _ ?_ | refine blD ?_ ?_ _ | refine blE ?_ | refine blF _ ?_ | refine blG ?_ _ | refine blH ?_ | refine blI ?_ ?_ _) | (simp only [World.size_alloc]; omega) | (simp <;> omega)))) BB.out hv)).mono ?_); rintro e w' ⟨z, rfl, hz, rfl⟩) | (go_at_call 15; (with_reducible refine (Kin.callK (W := (W.alloc (.cells #[.slice AA nA cA, .slice AB nB cB, .int .i64 k] 35))) (by repeat (first | with_reducible (first | exact blA | exact blB | refine blC _ ?_ | refine blD ?_ ?_ _ | refine blE ?_ | refine blF _ ?_ | refine blG ?_ _ | refine blH ?_ | refine blI ?_ ?_ _) | (simp only [World.size_alloc]; omega) | (simp <;> omega))) (awake20_any _)).mono ?_); rintro e w' ⟨z, rfl, hz, rfl⟩))
    go_ret
    exact ⟨rfl, (by repeat (first | with_reducible (first | exact blA | exact blB | refine blC _ ?_ | refine blD ?_ ?_ _ | refine blE ?_ | refine blF _ ?_ | refine blG ?_ _ | refine blH ?_ | refine blI ?_ ?_ _) | (simp only [World.size_alloc]; omega) | (simp <;> omega)))⟩
  rcases dilE_three a k with hE | hE | hE
  · have hva := (dilE_iff.1 hE).2.1
    have hq : withinR (dcrR a k) b = withinR a (ecrR b k) := by
      rw [Bool.eq_iff_iff, within_iff (dcrR_valid _ _) hv, within_iff hva (ecrR_valid _ _)]
      exact dcr_adj hE hv
    have HE := Lib.hid hE
    obtain ⟨q, hq1⟩ : ∃ q, withinR (dcrR a k) b = q := ⟨_, rfl⟩
    have HQ1 := Lib.hid hq1
    have HQ2 := Lib.hid (hq.symm.trans hq1)
    clear hva hq hq1 hE
    go_enter Try.func7, Try.ntmps7
    go_wp2_with (first | (go_at_call 14; (with_reducible refine (Kin.callK (W := (W.alloc (.cells #[.slice AA nA cA, .slice AB nB cB, .int .i64 k] 35))) (by repeat (first | with_reducible (first | exact blA | exact blB | refine blC _ ?_ | refine blD ?_ ?_ _ | refine blE ?_ | refine blF _ ?_ | refine blG ?_ _ | refine blH ?_ | refine blI ?_ ?_ _) | (simp only [World.size_alloc]; omega) | (simp <;> omega))) (heavy_is _ a _ (HA.out.below (by repeat (first | with_reducible (first | exact blA | exact blB | refine blC _ ?_ | refine blD ?_ ?_ _ | refine blE ?_ | refine blF _ ?_ | refine blG ?_ _ | refine blH ?_ | refine blI ?_ ?_ _) | (simp only [World.size_alloc]; omega) | (simp <;> omega)))) BA.out ha)).mono ?_); rintro e w' ⟨z, rfl, hz, rfl⟩) | (go_at_call 14; (with_reducible refine (Kin.callK (W := (W.alloc (.cells #[.slice AA nA cA, .slice AB nB cB, .int .i64 k] 35))) (by repeat (first | with_reducible (first | exact blA | exact blB | refine blC _ ?_ | refine blD ?_ ?_ _ | refine blE ?_ | refine blF _ ?_ | refine blG ?_ _ | refine blH ?_ | refine blI ?_ ?_ _) | (simp only [World.size_alloc]; omega) | (simp <;> omega))) (heavy_is _ b _ (HB.out.below (by repeat (first | with_reducible (first | exact blA | exact blB | refine blC _ ?_ | refine blD ?_ ?_ _ | refine blE ?_ | refine blF _ ?_ | refine blG ?_ _ | refine blH ?_ | refine blI ?_ ?_ _) | (simp only [World.size_alloc]; omega) | (simp <;> omega)))) BB.out hb)).mono ?_); rintro e w' ⟨z, rfl, hz, rfl⟩) | (go_at_call 31; (with_reducible refine (Kin.callK (W := (W.alloc (.cells #[.slice AA nA cA, .slice AB nB cB, .int .i64 k] 35))) (by repeat (first | with_reducible (first | exact blA | exact blB | refine blC _ ?_ | refine blD ?_ ?_ _ | refine blE ?_ | refine blF _ ?_ | refine blG ?_ _ | refine blH ?_ | refine blI ?_ ?_ _) | (simp only [World.size_alloc]; omega) | (simp <;> omega))) (valid18_is _ b _ (HB.out.below (by repeat (first | with_reducible (first | exact blA | exact blB | refine blC _ ?_ | refine blD ?_ ?_ _ | refine blE ?_ | refine blF _ ?_ | refine blG ?_ _ | refine blH ?_ | refine blI ?_ ?_ _) | (simp only [World.size_alloc]; omega) | (simp <;> omega)))) BB.out hv)).mono ?_); rintro e w' ⟨z, rfl, hz, rfl⟩))
    have P0 := Lib.hid ((Blk.new W 35 #[.slice AA nA cA, .slice AB nB cB, .int .i64 k]).below z.2)
    have QA := Lib.hid (HA.out.below (show Below W.heap.size W z.1 from (by repeat (first | with_reducible (first | exact blA | exact blB | refine blC _ ?_ | refine blD ?_ ?_ _ | refine blE ?_ | refine blF _ ?_ | refine blG ?_ _ | refine blH ?_ | refine blI ?_ ?_ _) | (simp only [World.size_alloc]; omega) | (simp <;> omega)))))
    have QB := Lib.hid (HB.out.below (show Below W.heap.size W z.1 from (by repeat (first | with_reducible (first | exact blA | exact blB | refine blC _ ?_ | refine blD ?_ ?_ _ | refine blE ?_ | refine blF _ ?_ | refine blG ?_ _ | refine blH ?_ | refine blI ?_ ?_ _) | (simp only [World.size_alloc]; omega) | (simp <;> omega)))))
    obtain ⟨y0, hX⟩ : ∃ y : Kin W, y.1 = z.1 := ⟨⟨z.1, (by repeat (first | with_reducible (first | exact blA | exact blB | refine blC _ ?_ | refine blD ?_ ?_ _ | refine blE ?_ | refine blF _ ?_ | refine blG ?_ _ | refine blH ?_ | refine blI ?_ ?_ _) | (simp only [World.size_alloc]; omega) | (simp <;> omega)))⟩, rfl⟩
    rw [← hX] at P0 QA QB ⊢
    clear hX hz
    have P0k0 : y0.1.cell? ⟨W.heap.size, 0, none⟩ = some (.slice AA nA cA) := P0.out.cell 0
    have P0k1 : y0.1.cell? ⟨W.heap.size, 1, none⟩ = some (.slice AB nB cB) := P0.out.cell 1
    have P0k2 : y0.1.cell? ⟨W.heap.size, 2, none⟩ = some (.int .i64 k) := P0.out.cell 2
    have P0l := P0.out.lt
    go_wp2_with (go_at_call 27; (with_reducible refine (Kin.callK (W := (Kin.wd y0)) (by repeat (first | with_reducible (first | exact blA | exact blB | refine blC _ ?_ | refine blD ?_ ?_ _ | refine blE ?_ | refine blF _ ?_ | refine blG ?_ _ | refine blH ?_ | refine blI ?_ ?_ _) | (simp only [World.size_alloc]; omega) | (simp <;> omega))) (dcr_at _ (a) k _ (QA.out.below (by repeat (first | with_reducible (first | exact blA | exact blB | refine blC _ ?_ | refine blD ?_ ?_ _ | refine blE ?_ | refine blF _ ?_ | refine blG ?_ _ | refine blH ?_ | refine blI ?_ ?_ _) | (simp only [World.size_alloc]; omega) | (simp <;> omega)))) BA.out (HE.out) (rfl))).mono ?_); rintro e w' ⟨zb, ⟨A1, n1, c1, rfl, h2⟩, hz2, rfl⟩; (have H2 := Lib.hid h2; clear h2))
    clear P0k0 P0k1 P0k2 P0l
    obtain ⟨y1, hX⟩ : ∃ y : Kin W, y.1 = zb.1.alloc (.cells #[.slice A1 n1 c1] 24) := ⟨⟨zb.1.alloc (.cells #[.slice A1 n1 c1] 24), (by repeat (first | with_reducible (first | exact blA | exact blB | refine blC _ ?_ | refine blD ?_ ?_ _ | refine blE ?_ | refine blF _ ?_ | refine blG ?_ _ | refine blH ?_ | refine blI ?_ ?_ _) | (simp only [World.size_alloc]; omega) | (simp <;> omega)))⟩, rfl⟩
    rw [← hX]
    have P1 := Lib.hid (show Blk y1.1 zb.1.heap.size 24 #[.slice A1 n1 c1] from hX ▸ Blk.new _ _ _)
    have Q1 := Lib.hid (show RdReg y1.1 (.agg #[.slice A1 n1 c1]) (dcrR a k) from hX ▸ H2.out.below (Below.alloc (Below.refl _ _) (Nat.le_refl _) _))
    have hby : Below y0.1.heap.size y0.1 y1.1 := by rw [hX]; exact (by repeat (first | with_reducible (first | exact blA | exact blB | refine blC _ ?_ | refine blD ?_ ?_ _ | refine blE ?_ | refine blF _ ?_ | refine blG ?_ _ | refine blH ?_ | refine blI ?_ ?_ _) | (simp only [World.size_alloc]; omega) | (simp <;> omega)))
    replace P0 := Lib.hid (P0.out.below hby)
    replace QA := Lib.hid (QA.out.below hby)
    replace QB := Lib.hid (QB.out.below hby)
    generalize zb.1.heap.size = g1 at P1 ⊢
    clear hX hby H2 hz2
    have P0k0 : y1.1.cell? ⟨W.heap.size, 0, none⟩ = some (.slice AA nA cA) := P0.out.cell 0
    have P0k1 : y1.1.cell? ⟨W.heap.size, 1, none⟩ = some (.slice AB nB cB) := P0.out.cell 1
    have P0k2 : y1.1.cell? ⟨W.heap.size, 2, none⟩ = some (.int .i64 k) := P0.out.cell 2
    have P0l := P0.out.lt
    have P1k0 : y1.1.cell? ⟨g1, 0, none⟩ = some (.slice A1 n1 c1) := P1.out.cell 0
    have P1l := P1.out.lt
    cases q
    all_goals
      go_region_held (fun w' => w'.cell? ⟨W.heap.size, 0, none⟩ = some (.slice AA nA cA) ∧ w'.cell? ⟨W.heap.size, 1, none⟩ = some (.slice AB nB cB) ∧ w'.cell? ⟨W.heap.size, 2, none⟩ = some (.int .i64 k) ∧ w'.cell? ⟨g1, 0, none⟩ = some (.slice A1 n1 c1)) (refine ⟨?_, ?_, ?_, ?_⟩ <;> first | assumption | (refine (Kin.cell (W := (Kin.wd y1)) _ ?_).trans ?_ <;> assumption) | simp [*, World.cell?_alloc_some, World.cell?_setCell_far] | ((refine (World.cell?_setCell_other (by simp)).trans ?_); first | assumption | simp [*])) (first | (go_at_call 32; (with_reducible refine (Kin.callK (W := (Kin.wd y1)) (by repeat (first | with_reducible (first | exact blA | exact blB | refine blC _ ?_ | refine blD ?_ ?_ _ | refine blE ?_ | refine blF _ ?_ | refine blG ?_ _ | refine blH ?_ | refine blI ?_ ?_ _) | (simp only [World.size_alloc]; omega) | (simp <;> omega))) (within_is _ _ (dcrR a k) (b) _ (Q1.out.below (by repeat (first | with_reducible (first | exact blA | exact blB | refine blC _ ?_ | refine blD ?_ ?_ _ | refine blE ?_ | refine blF _ ?_ | refine blG ?_ _ | refine blH ?_ | refine blI ?_ ?_ _) | (simp only [World.size_alloc]; omega) | (simp <;> omega)))) (QB.out.below (by repeat (first | with_reducible (first | exact blA | exact blB | refine blC _ ?_ | refine blD ?_ ?_ _ | refine blE ?_ | refine blF _ ?_ | refine blG ?_ _ | refine blH ?_ | refine blI ?_ ?_ _) | (simp only [World.size_alloc]; omega) | (simp <;> omega)))) (rvalid_bd (dcrR_valid _ _)) BB.out HQ1.out)).mono ?_); rintro e w' ⟨z, rfl, hz, rfl⟩; skip) | (go_at_call 29; (with_reducible refine (Kin.callK (W := (Kin.wd y1)) (by repeat (first | with_reducible (first | exact blA | exact blB | refine blC _ ?_ | refine blD ?_ ?_ _ | refine blE ?_ | refine blF _ ?_ | refine blG ?_ _ | refine blH ?_ | refine blI ?_ ?_ _) | (simp only [World.size_alloc]; omega) | (simp <;> omega))) (ecr_at _ (b) k _ (QB.out.below (by repeat (first | with_reducible (first | exact blA | exact blB | refine blC _ ?_ | refine blD ?_ ?_ _ | refine blE ?_ | refine blF _ ?_ | refine blG ?_ _ | refine blH ?_ | refine blI ?_ ?_ _) | (simp only [World.size_alloc]; omega) | (simp <;> omega)))) BB.out (rfl))).mono ?_); rintro e w' ⟨z3, ⟨z3A, z3n, z3c, rfl, h2⟩, hz, rfl⟩; (have J3 := Lib.hid h2; clear h2)) | (go_at_call 32; (with_reducible refine (Kin.callK (W := (Kin.wd y1)) (by repeat (first | with_reducible (first | exact blA | exact blB | refine blC _ ?_ | refine blD ?_ ?_ _ | refine blE ?_ | refine blF _ ?_ | refine blG ?_ _ | refine blH ?_ | refine blI ?_ ?_ _) | (simp only [World.size_alloc]; omega) | (simp <;> omega))) (within_is _ _ (a) (ecrR b k) _ (QA.out.below (by repeat (first | with_reducible (first | exact blA | exact blB | refine blC _ ?_ | refine blD ?_ ?_ _ | refine blE ?_ | refine blF _ ?_ | refine blG ?_ _ | refine blH ?_ | refine blI ?_ ?_ _) | (simp only [World.size_alloc]; omega) | (simp <;> omega)))) (J3.out.below (by repeat (first | with_reducible (first | exact blA | exact blB | refine blC _ ?_ | refine blD ?_ ?_ _ | refine blE ?_ | refine blF _ ?_ | refine blG ?_ _ | refine blH ?_ | refine blI ?_ ?_ _) | (simp only [World.size_alloc]; omega) | (simp <;> omega)))) BA.out (rvalid_bd (ecrR_valid _ _)) HQ2.out)).mono ?_); rintro e w' ⟨z, rfl, hz, rfl⟩; skip) | (go_at_call 15; (with_reducible refine (Kin.callK (W := (Kin.wd y1)) (by repeat (first | with_reducible (first | exact blA | exact blB | refine blC _ ?_ | refine blD ?_ ?_ _ | refine blE ?_ | refine blF _ ?_ | refine blG ?_ _ | refine blH ?_ | refine blI ?_ ?_ _) | (simp only [World.size_alloc]; omega) | (simp <;> omega))) (awake20_any _)).mono ?_); rintro e w' ⟨z, rfl, hz, rfl⟩))
      all_goals
        go_wp2
        go_ret
        exact ⟨rfl, (by repeat (first | with_reducible (first | exact blA | exact blB | refine blC _ ?_ | refine blD ?_ ?_ _ | refine blE ?_ | refine blF _ ?_ | refine blG ?_ _ | refine blH ?_ | refine blI ?_ ?_ _) | (simp only [World.size_alloc]; omega) | (simp <;> omega)))⟩
  all_goals
    have HE := Lib.hid hE
    clear hE
    go_enter Try.func7, Try.ntmps7
    go_wp2_with (first | (go_at_call 14; (with_reducible refine (Kin.callK (W := (W.alloc (.cells #[.slice AA nA cA, .slice AB nB cB, .int .i64 k] 35))) (by repeat (first | with_reducible (first | exact blA | exact blB | refine blC _ ?_ | refine blD ?_ ?_ _ | refine blE ?_ | refine blF _ ?_ | refine blG ?_ _ | refine blH ?_ | refine blI ?_ ?_ _) | (simp only [World.size_alloc]; omega) | (simp <;> omega))) (heavy_is _ a _ (HA.out.below (by repeat (first | with_reducible (first | exact blA | exact blB | refine blC _ ?_ | refine blD ?_ ?_ _ | refine blE ?_ | refine blF _ ?_ | refine blG ?_ _ | refine blH ?_ | refine blI ?_ ?_ _) | (simp only [World.size_alloc]; omega) | (simp <;> omega)))) BA.out ha)).mono ?_); rintro e w' ⟨z, rfl, hz, rfl⟩) | (go_at_call 14; (with_reducible refine (Kin.callK (W := (W.alloc (.cells #[.slice AA nA cA, .slice AB nB cB, .int .i64 k] 35))) (by repeat (first | with_reducible (first | exact blA | exact blB | refine blC _ ?_ | refine blD ?_ ?_ _ | refine blE ?_ | refine blF _ ?_ | refine blG ?_ _ | refine blH ?_ | refine blI ?_ ?_ _) | (simp only [World.size_alloc]; omega) | (simp <;> omega))) (heavy_is _ b _ (HB.out.below (by repeat (first | with_reducible (first | exact blA | exact blB | refine blC _ ?_ | refine blD ?_ ?_ _ | refine blE ?_ | refine blF _ ?_ | refine blG ?_ _ | refine blH ?_ | refine blI ?_ ?_ _) | (simp only [World.size_alloc]; omega) | (simp <;> omega)))) BB.out hb)).mono ?_); rintro e w' ⟨z, rfl, hz, rfl⟩) | (go_at_call 31; (with_reducible refine (Kin.callK (W := (W.alloc (.cells #[.slice AA nA cA, .slice AB nB cB, .int .i64 k] 35))) (by repeat (first | with_reducible (first | exact blA | exact blB | refine blC _ ?_ | refine blD ?_ ?_ _ | refine blE ?_ | refine blF _ ?_ | refine blG ?_ _ | refine blH ?_ | refine blI ?_ ?_ _) | (simp only [World.size_alloc]; omega) | (simp <;> omega))) (valid18_is _ b _ (HB.out.below (by repeat (first | with_reducible (first | exact blA | exact blB | refine blC _ ?_ | refine blD ?_ ?_ _ | refine blE ?_ | refine blF _ ?_ | refine blG ?_ _ | refine blH ?_ | refine blI ?_ ?_ _) | (simp only [World.size_alloc]; omega) | (simp <;> omega)))) BB.out hv)).mono ?_); rintro e w' ⟨z, rfl, hz, rfl⟩))
    have P0 := Lib.hid ((Blk.new W 35 #[.slice AA nA cA, .slice AB nB cB, .int .i64 k]).below z.2)
    have QA := Lib.hid (HA.out.below (show Below W.heap.size W z.1 from (by repeat (first | with_reducible (first | exact blA | exact blB | refine blC _ ?_ | refine blD ?_ ?_ _ | refine blE ?_ | refine blF _ ?_ | refine blG ?_ _ | refine blH ?_ | refine blI ?_ ?_ _) | (simp only [World.size_alloc]; omega) | (simp <;> omega)))))
    have QB := Lib.hid (HB.out.below (show Below W.heap.size W z.1 from (by repeat (first | with_reducible (first | exact blA | exact blB | refine blC _ ?_ | refine blD ?_ ?_ _ | refine blE ?_ | refine blF _ ?_ | refine blG ?_ _ | refine blH ?_ | refine blI ?_ ?_ _) | (simp only [World.size_alloc]; omega) | (simp <;> omega)))))
    obtain ⟨y0, hX⟩ : ∃ y : Kin W, y.1 = z.1 := ⟨⟨z.1, (by repeat (first | with_reducible (first | exact blA | exact blB | refine blC _ ?_ | refine blD ?_ ?_ _ | refine blE ?_ | refine blF _ ?_ | refine blG ?_ _ | refine blH ?_ | refine blI ?_ ?_ _) | (simp only [World.size_alloc]; omega) | (simp <;> omega)))⟩, rfl⟩
    rw [← hX] at P0 QA QB ⊢
    clear hX hz
    have P0k0 : y0.1.cell? ⟨W.heap.size, 0, none⟩ = some (.slice AA nA cA) := P0.out.cell 0
    have P0k1 : y0.1.cell? ⟨W.heap.size, 1, none⟩ = some (.slice AB nB cB) := P0.out.cell 1
    have P0k2 : y0.1.cell? ⟨W.heap.size, 2, none⟩ = some (.int .i64 k) := P0.out.cell 2
    have P0l := P0.out.lt
    go_wp2_with (go_at_call 27; (with_reducible refine (Kin.callK (W := (Kin.wd y0)) (by repeat (first | with_reducible (first | exact blA | exact blB | refine blC _ ?_ | refine blD ?_ ?_ _ | refine blE ?_ | refine blF _ ?_ | refine blG ?_ _ | refine blH ?_ | refine blI ?_ ?_ _) | (simp only [World.size_alloc]; omega) | (simp <;> omega))) (dcr_at _ (a) k _ (QA.out.below (by repeat (first | with_reducible (first | exact blA | exact blB | refine blC _ ?_ | refine blD ?_ ?_ _ | refine blE ?_ | refine blF _ ?_ | refine blG ?_ _ | refine blH ?_ | refine blI ?_ ?_ _) | (simp only [World.size_alloc]; omega) | (simp <;> omega)))) BA.out (HE.out) (rfl))).mono ?_); rintro e w' ⟨zb, ⟨A1, n1, c1, rfl, h2⟩, hz2, rfl⟩; (have H2 := Lib.hid h2; clear h2))
    clear P0k0 P0k1 P0k2 P0l
    obtain ⟨y1, hX⟩ : ∃ y : Kin W, y.1 = zb.1.alloc (.cells #[.slice A1 n1 c1] 24) := ⟨⟨zb.1.alloc (.cells #[.slice A1 n1 c1] 24), (by repeat (first | with_reducible (first | exact blA | exact blB | refine blC _ ?_ | refine blD ?_ ?_ _ | refine blE ?_ | refine blF _ ?_ | refine blG ?_ _ | refine blH ?_ | refine blI ?_ ?_ _) | (simp only [World.size_alloc]; omega) | (simp <;> omega)))⟩, rfl⟩
    rw [← hX]
    have P1 := Lib.hid (show Blk y1.1 zb.1.heap.size 24 #[.slice A1 n1 c1] from hX ▸ Blk.new _ _ _)
    have Q1 := Lib.hid (show RdReg y1.1 (.agg #[.slice A1 n1 c1]) (dcrR a k) from hX ▸ H2.out.below (Below.alloc (Below.refl _ _) (Nat.le_refl _) _))
    have hby : Below y0.1.heap.size y0.1 y1.1 := by rw [hX]; exact (by repeat (first | with_reducible (first | exact blA | exact blB | refine blC _ ?_ | refine blD ?_ ?_ _ | refine blE ?_ | refine blF _ ?_ | refine blG ?_ _ | refine blH ?_ | refine blI ?_ ?_ _) | (simp only [World.size_alloc]; omega) | (simp <;> omega)))
    replace P0 := Lib.hid (P0.out.below hby)
    replace QA := Lib.hid (QA.out.below hby)
    replace QB := Lib.hid (QB.out.below hby)
    generalize zb.1.heap.size = g1 at P1 ⊢
    clear hX hby H2 hz2
    have P0k0 : y1.1.cell? ⟨W.heap.size, 0, none⟩ = some (.slice AA nA cA) := P0.out.cell 0
    have P0k1 : y1.1.cell? ⟨W.heap.size, 1, none⟩ = some (.slice AB nB cB) := P0.out.cell 1
    have P0k2 : y1.1.cell? ⟨W.heap.size, 2, none⟩ = some (.int .i64 k) := P0.out.cell 2
    have P0l := P0.out.lt
    have P1k0 : y1.1.cell? ⟨g1, 0, none⟩ = some (.slice A1 n1 c1) := P1.out.cell 0
    have P1l := P1.out.lt
    ((refine wp_region_kinK (W := (Kin.wd y1)) (by kernel_rfl) (by kernel_rfl) (by repeat (first | with_reducible (first | exact blA | exact blB | refine blC _ ?_ | refine blD ?_ ?_ _ | refine blE ?_ | refine blF _ ?_ | refine blG ?_ _ | refine blH ?_ | refine blI ?_ ?_ _) | (simp only [World.size_alloc]; omega) | (simp <;> omega))) ?_); (repeat' (first | go_big_quiet_step ((go_at_call 15; exact Kin.quiet _ (awake20_any _))) | ((refine wpQuiet_guard rfl rfl rfl rfl (fun hg => ?_) (fun hg => ?_)) <;> (fail_if_success (first | guard_hyp hg : true = true | guard_hyp hg : false = false)) <;> (try simp only [decide_eq_true_eq, decide_eq_false_iff_not] at hg) <;> simp only [Act.put, List.setIfInBounds_toArray, List.set_cons_zero, List.set_cons_succ]))); all_goals ((with_reducible refine wpQuiet_nil ?_); intro zq hz))
    all_goals
      go_wp2
      go_ret
      exact ⟨rfl, (by repeat (first | with_reducible (first | exact blA | exact blB | refine blC _ ?_ | refine blD ?_ ?_ _ | refine blE ?_ | refine blF _ ?_ | refine blG ?_ _ | refine blH ?_ | refine blI ?_ ?_ _) | (simp only [World.size_alloc]; omega) | (simp <;> omega)))⟩
set_option maxRecDepth 100000 in
theorem morphCrossAdjoint_lifted (os : Os) (started : os.Started) (H : Type) (enc : TypeId × Value → H) :
    ReturnsInHanded {} Try.checked os 7 .any (Rows.morphCrossAdjointSpec.pre6 enc Try.prog Try.f7 Rows.morphCrossAdjointRow.domain false) (Rows.morphCrossAdjointSpec.post enc Try.prog Try.f7 false true false false) := by
  refine returnsInHanded_of_change (C := Try.checked) own started (by kernel_rfl) Try.func7
    (ChangeSpec.witness6 (enc := enc) (C := Try.checked) false ⟨#[], #[.agg #[.slice none 0 0, .slice none 0 0, .int .i64 0]], []⟩ 8 (by kernel_rfl) (by kernel_rfl) (by kernel_rfl) (by kernel_rfl)) ?_
  intro W base args ds gs before hval0 hW hcnd _
  have hval : ∀ (j : Nat) t v, Try.f7.params[j]? = some t → args[j]? = some v → Value.okWide Try.prog W .any base t v := hval0
  have hW' := hW
  obtain ⟨p, q, hA0, hV, rfl, hfz, hnd⟩ := hW
  have hA : DataW.TrodAll enc Try.prog W 0 (fun _ => true) true Try.f7.params.toList args.toList ds p := hA0
  rw [Try.params7] at hA hval
  have hAA := hA
  obtain ⟨v0, vs0, d0, ds0, p0, q0, hargs, rfl, rfl, h0, r0⟩ := trodAll_cons hA
  obtain ⟨rfl, rfl, rfl⟩ := trodAll_nil r0
  obtain rfl : args = #[v0] := by cases args; simp_all
  obtain ⟨rfl, rfl⟩ := trodVars_none hV
  have o0 := open_pair (hval 0 35 v0 rfl rfl) h0
  have hlt : ∀ x ∈ p0 ++ [], x.block < W.heap.size := fun x hx => hW'.lt x (by simpa using hx)
  refine (morphCrossAdjoint_walk W _ o0).mono fun e W' ⟨he, bel⟩ => ?_
  subst he
  exact ⟨_, rfl, _, _, _, [], _, [], hW', trodAll_mk1 (shut_bool Try.underlying4 _), below_trodAll laidOut bel _ _ _ _ (by
    intro t ht
    have hcl : ([35] : List TypeId).all (fun t => Try.prog.readableRec t && decide (t < Try.prog.types.size)) = true := by kernel_rfl
    have := List.all_eq_true.1 hcl t ht
    simpa using this) hlt hAA, rfl, bel.frame _, fun h => by cases h⟩
theorem morphCrossAdjoint_heard : (Try.checked.prog.stopsHeard = true ∧ Try.checked.prog.mayEnter = true) ∧ Try.checked.prog.liftsFinal = Rows.morphCrossAdjointRow.lifted := ⟨⟨by kernel_rfl, by kernel_rfl⟩, by kernel_rfl⟩
theorem morphCrossAdjoint_calls : (Try.checked.prog.inPlace 7 = Rows.morphCrossAdjointRow.inPlace ∧ Try.checked.prog.unfollowed 7 = Rows.morphCrossAdjointRow.unfollowed) ∧ (Try.checked.prog.recurses 7 = Rows.morphCrossAdjointRow.recurses ∧ Try.checked.prog.varsNamed 7 = Rows.morphCrossAdjointRow.named) := ⟨⟨by kernel_rfl, by kernel_rfl⟩, ⟨by kernel_rfl, by kernel_rfl⟩⟩
theorem morphCrossAdjoint_closed : joinedFacts Try.checked.prog 7 Try.f7 Rows.morphCrossAdjointSpec Rows.morphCrossAdjointRow = true := by
  unfold joinedFacts
  rw [morphCrossAdjoint_calls.1.1, morphCrossAdjoint_calls.1.2, morphCrossAdjoint_calls.2.1, morphCrossAdjoint_calls.2.2, morphCrossAdjoint_heard.1.1, morphCrossAdjoint_heard.1.2, morphCrossAdjoint_heard.2]
  kernel_rfl
/-- MorphCrossAdjoint: for every input the call returns true, and the arguments read behind it as before. No condition. -/
theorem morphCrossAdjoint_holds : Rows.MorphCrossAdjointSaid :=
  OpenClaim.holds_of_wide 7 Try.f7 rfl rfl rfl rfl rfl rfl rfl ⟨rfl, rfl, rfl, rfl, rfl⟩ rfl rfl rfl rfl rfl (by kernel_rfl) Try.func7 morphCrossAdjoint_closed
    (of_decide_eq_true (by kernel_rfl)) (by unfold Func.isWrapper; rw [if_neg (of_decide_eq_false (by kernel_rfl))]; exact ⟨rfl, rfl⟩)
    (fun os started H enc _ => morphCrossAdjoint_lifted os started H enc)

end Go.Proofs.Ytjppaknajdbkgaa

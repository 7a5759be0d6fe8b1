/- MorphDilates: for every input the laws return true. No condition. -/
import Derived.Test.YtjppaknajdbkgaaMorphAwk
import Derived.Test.YtjppaknajdbkgaaMorphUseR
namespace Go.Proofs.Ytjppaknajdbkgaa
set_option linter.unusedSimpArgs false
set_option linter.unusedVariables false
open Go.ChangeShapes Go.WideShapes Go.ChangeAt Go.RowKit Go.Joins Runs Reg
attribute [local go_sem] Kin.cell Kin.frozen Kin.lt0 Kin.lt1 Kin.lt2 Kin.lt3 run_mkf
set_option maxRecDepth 100000 in
set_option maxHeartbeats 32000000 in
theorem morphDilates_walk (W : World) (v : Value) (h : IsRegB W v) (nk : Value) (hnk : IsInt nk) : Calls Try.prog 3 #[v, nk] W fun e W' => e = .returned (.bool true) ∧ Below W.heap.size W W' := by
  obtain ⟨r, h, hbd⟩ := h
  obtain ⟨k, rfl, hik⟩ := hnk
  have H := Lib.hid h
  have BD := Lib.hid hbd
  obtain ⟨A, capA, rfl⟩ := h.slice_
  clear h hbd
  cases hh : heavyR r
  rotate_left
  · go_enter Try.func3, Try.ntmps3
    go_wp2_with (first | (go_at_call 14; (with_reducible refine (Kin.callK (W := (W.alloc (.cells #[.slice A r.length capA] 24))) (by repeat (first | with_reducible (first | exact blA | exact blB | refine blC _ ?_ | refine blD ?_ ?_ _ | refine blE ?_ | refine blF _ ?_ | refine blG ?_ _ | refine blH ?_ | refine blI ?_ ?_ _) | (simp only [World.size_alloc]; omega) | (simp <;> omega))) (heavy_is _ r _ (H.out.below (by repeat (first | with_reducible (first | exact blA | exact blB | refine blC _ ?_ | refine blD ?_ ?_ _ | refine blE ?_ | refine blF _ ?_ | refine blG ?_ _ | refine blH ?_ | refine blI ?_ ?_ _) | (simp only [World.size_alloc]; omega) | (simp <;> omega)))) BD.out hh)).mono ?_); rintro e w' ⟨z, rfl, hz, rfl⟩) | (go_at_call 15; (with_reducible refine (Kin.callK (W := (W.alloc (.cells #[.slice A r.length capA] 24))) (by repeat (first | with_reducible (first | exact blA | exact blB | refine blC _ ?_ | refine blD ?_ ?_ _ | refine blE ?_ | refine blF _ ?_ | refine blG ?_ _ | refine blH ?_ | refine blI ?_ ?_ _) | (simp only [World.size_alloc]; omega) | (simp <;> omega))) (awake20_any _)).mono ?_); rintro e w' ⟨z, rfl, hz, rfl⟩))
    go_ret
    exact ⟨rfl, (by repeat (first | with_reducible (first | exact blA | exact blB | refine blC _ ?_ | refine blD ?_ ?_ _ | refine blE ?_ | refine blF _ ?_ | refine blG ?_ _ | refine blH ?_ | refine blI ?_ ?_ _) | (simp only [World.size_alloc]; omega) | (simp <;> omega)))⟩
  obtain ⟨E, hE⟩ : ∃ E, dilE r k = E := ⟨_, rfl⟩
  have HE := Lib.hid hE
  have ee : (E == E) = true := beq_self_eq_true E
  clear hE
  go_enter Try.func3, Try.ntmps3
  go_wp2_with (first | (go_at_call 14; (with_reducible refine (Kin.callK (W := (W.alloc (.cells #[.slice A r.length capA] 24))) (by repeat (first | with_reducible (first | exact blA | exact blB | refine blC _ ?_ | refine blD ?_ ?_ _ | refine blE ?_ | refine blF _ ?_ | refine blG ?_ _ | refine blH ?_ | refine blI ?_ ?_ _) | (simp only [World.size_alloc]; omega) | (simp <;> omega))) (heavy_is _ r _ (H.out.below (by repeat (first | with_reducible (first | exact blA | exact blB | refine blC _ ?_ | refine blD ?_ ?_ _ | refine blE ?_ | refine blF _ ?_ | refine blG ?_ _ | refine blH ?_ | refine blI ?_ ?_ _) | (simp only [World.size_alloc]; omega) | (simp <;> omega)))) BD.out hh)).mono ?_); rintro e w' ⟨z, rfl, hz, rfl⟩))
  have P0 := Lib.hid ((Blk.new W 24 #[.slice A r.length capA]).below z.2)
  have Q0 := Lib.hid (H.out.below (show Below W.heap.size W z.1 from (by repeat (first | with_reducible (first | exact blA | exact blB | refine blC _ ?_ | refine blD ?_ ?_ _ | refine blE ?_ | refine blF _ ?_ | refine blG ?_ _ | refine blH ?_ | refine blI ?_ ?_ _) | (simp only [World.size_alloc]; omega) | (simp <;> omega)))))
  obtain ⟨y0, hX⟩ : ∃ y : Kin W, y.1 = z.1 := ⟨⟨z.1, (by repeat (first | with_reducible (first | exact blA | exact blB | refine blC _ ?_ | refine blD ?_ ?_ _ | refine blE ?_ | refine blF _ ?_ | refine blG ?_ _ | refine blH ?_ | refine blI ?_ ?_ _) | (simp only [World.size_alloc]; omega) | (simp <;> omega)))⟩, rfl⟩
  rw [← hX] at P0 Q0 ⊢
  clear hX hz
  have P0k0 : y0.1.cell? ⟨W.heap.size, 0, none⟩ = some (.slice A r.length capA) := P0.out.cell 0
  have P0l := P0.out.lt
  go_wp2_with (go_at_call 16; (with_reducible refine (Kin.callK (W := (Kin.wd y0)) (by repeat (first | with_reducible (first | exact blA | exact blB | refine blC _ ?_ | refine blD ?_ ?_ _ | refine blE ?_ | refine blF _ ?_ | refine blG ?_ _ | refine blH ?_ | refine blI ?_ ?_ _) | (simp only [World.size_alloc]; omega) | (simp <;> omega))) (dil_at _ (r) k _ (Q0.out.below (by repeat (first | with_reducible (first | exact blA | exact blB | refine blC _ ?_ | refine blD ?_ ?_ _ | refine blE ?_ | refine blF _ ?_ | refine blG ?_ _ | refine blH ?_ | refine blI ?_ ?_ _) | (simp only [World.size_alloc]; omega) | (simp <;> omega)))) BD.out (HE.out) (rfl))).mono ?_); rintro e w' ⟨zb, ⟨A1, n1, c1, rfl, h2⟩, hz2, rfl⟩; (have H2 := Lib.hid h2; clear h2))
  clear P0k0 P0l
  obtain ⟨y1, hX⟩ : ∃ y : Kin W, y.1 = zb.1.alloc (.cells #[.slice A1 n1 c1] 24) := ⟨⟨zb.1.alloc (.cells #[.slice A1 n1 c1] 24), (by repeat (first | with_reducible (first | exact blA | exact blB | refine blC _ ?_ | refine blD ?_ ?_ _ | refine blE ?_ | refine blF _ ?_ | refine blG ?_ _ | refine blH ?_ | refine blI ?_ ?_ _) | (simp only [World.size_alloc]; omega) | (simp <;> omega)))⟩, rfl⟩
  rw [← hX]
  have P1 := Lib.hid (show Blk y1.1 zb.1.heap.size 24 #[.slice A1 n1 c1] from hX ▸ Blk.new _ _ _)
  have Q1 := Lib.hid (show RdReg y1.1 (.agg #[.slice A1 n1 c1]) (dilR r k) from hX ▸ H2.out.below (Below.alloc (Below.refl _ _) (Nat.le_refl _) _))
  have hby : Below y0.1.heap.size y0.1 y1.1 := by rw [hX]; exact (by repeat (first | with_reducible (first | exact blA | exact blB | refine blC _ ?_ | refine blD ?_ ?_ _ | refine blE ?_ | refine blF _ ?_ | refine blG ?_ _ | refine blH ?_ | refine blI ?_ ?_ _) | (simp only [World.size_alloc]; omega) | (simp <;> omega)))
  replace P0 := Lib.hid (P0.out.below hby)
  replace Q0 := Lib.hid (Q0.out.below hby)
  generalize zb.1.heap.size = g1 at P1 ⊢
  clear hX hby H2 hz2
  have P0k0 : y1.1.cell? ⟨W.heap.size, 0, none⟩ = some (.slice A r.length capA) := P0.out.cell 0
  have P0l := P0.out.lt
  have P1k0 : y1.1.cell? ⟨g1, 0, none⟩ = some (.slice A1 n1 c1) := P1.out.cell 0
  have P1l := P1.out.lt
  go_wp2_with (go_at_call 17; (with_reducible refine (Kin.callK (W := (Kin.wd y1)) (by repeat (first | with_reducible (first | exact blA | exact blB | refine blC _ ?_ | refine blD ?_ ?_ _ | refine blE ?_ | refine blF _ ?_ | refine blG ?_ _ | refine blH ?_ | refine blI ?_ ?_ _) | (simp only [World.size_alloc]; omega) | (simp <;> omega))) (rdil_at _ (r) k _ (Q0.out.below (by repeat (first | with_reducible (first | exact blA | exact blB | refine blC _ ?_ | refine blD ?_ ?_ _ | refine blE ?_ | refine blF _ ?_ | refine blG ?_ _ | refine blH ?_ | refine blI ?_ ?_ _) | (simp only [World.size_alloc]; omega) | (simp <;> omega)))) BD.out (HE.out) (rfl))).mono ?_); rintro e w' ⟨zb, ⟨A2, n2, c2, rfl, h2⟩, hz2, rfl⟩; (have H2 := Lib.hid h2; clear h2))
  clear P0k0 P1k0 P0l P1l
  obtain ⟨y2, hX⟩ : ∃ y : Kin W, y.1 = zb.1.alloc (.cells #[.slice A2 n2 c2] 24) := ⟨⟨zb.1.alloc (.cells #[.slice A2 n2 c2] 24), (by repeat (first | with_reducible (first | exact blA | exact blB | refine blC _ ?_ | refine blD ?_ ?_ _ | refine blE ?_ | refine blF _ ?_ | refine blG ?_ _ | refine blH ?_ | refine blI ?_ ?_ _) | (simp only [World.size_alloc]; omega) | (simp <;> omega)))⟩, rfl⟩
  rw [← hX]
  have P2 := Lib.hid (show Blk y2.1 zb.1.heap.size 24 #[.slice A2 n2 c2] from hX ▸ Blk.new _ _ _)
  have Q2 := Lib.hid (show RdReg y2.1 (.agg #[.slice A2 n2 c2]) (dilR r k) from hX ▸ H2.out.below (Below.alloc (Below.refl _ _) (Nat.le_refl _) _))
  have hby : Below y1.1.heap.size y1.1 y2.1 := by rw [hX]; exact (by repeat (first | with_reducible (first | exact blA | exact blB | refine blC _ ?_ | refine blD ?_ ?_ _ | refine blE ?_ | refine blF _ ?_ | refine blG ?_ _ | refine blH ?_ | refine blI ?_ ?_ _) | (simp only [World.size_alloc]; omega) | (simp <;> omega)))
  replace P0 := Lib.hid (P0.out.below hby)
  replace P1 := Lib.hid (P1.out.below hby)
  replace Q0 := Lib.hid (Q0.out.below hby)
  replace Q1 := Lib.hid (Q1.out.below hby)
  generalize zb.1.heap.size = g2 at P2 ⊢
  clear hX hby H2 hz2
  have P0k0 : y2.1.cell? ⟨W.heap.size, 0, none⟩ = some (.slice A r.length capA) := P0.out.cell 0
  have P0l := P0.out.lt
  have P1k0 : y2.1.cell? ⟨g1, 0, none⟩ = some (.slice A1 n1 c1) := P1.out.cell 0
  have P1l := P1.out.lt
  have P2k0 : y2.1.cell? ⟨g2, 0, none⟩ = some (.slice A2 n2 c2) := P2.out.cell 0
  have P2l := P2.out.lt
  go_wp2_with (go_at_call 18; (with_reducible refine (Kin.callK (W := (Kin.wd y2)) (by repeat (first | with_reducible (first | exact blA | exact blB | refine blC _ ?_ | refine blD ?_ ?_ _ | refine blE ?_ | refine blF _ ?_ | refine blG ?_ _ | refine blH ?_ | refine blI ?_ ?_ _) | (simp only [World.size_alloc]; omega) | (simp <;> omega))) (close_at _ (r) k _ (Q0.out.below (by repeat (first | with_reducible (first | exact blA | exact blB | refine blC _ ?_ | refine blD ?_ ?_ _ | refine blE ?_ | refine blF _ ?_ | refine blG ?_ _ | refine blH ?_ | refine blI ?_ ?_ _) | (simp only [World.size_alloc]; omega) | (simp <;> omega)))) BD.out (HE.out) (rfl))).mono ?_); rintro e w' ⟨zb, ⟨A3, n3, c3, rfl, h2⟩, hz2, rfl⟩; (have H2 := Lib.hid h2; clear h2))
  clear P0k0 P1k0 P2k0 P0l P1l P2l
  obtain ⟨y3, hX⟩ : ∃ y : Kin W, y.1 = zb.1.alloc (.cells #[.slice A3 n3 c3] 24) := ⟨⟨zb.1.alloc (.cells #[.slice A3 n3 c3] 24), (by repeat (first | with_reducible (first | exact blA | exact blB | refine blC _ ?_ | refine blD ?_ ?_ _ | refine blE ?_ | refine blF _ ?_ | refine blG ?_ _ | refine blH ?_ | refine blI ?_ ?_ _) | (simp only [World.size_alloc]; omega) | (simp <;> omega)))⟩, rfl⟩
  rw [← hX]
  have P3 := Lib.hid (show Blk y3.1 zb.1.heap.size 24 #[.slice A3 n3 c3] from hX ▸ Blk.new _ _ _)
  have Q3 := Lib.hid (show RdReg y3.1 (.agg #[.slice A3 n3 c3]) (cloR r k) from hX ▸ H2.out.below (Below.alloc (Below.refl _ _) (Nat.le_refl _) _))
  have hby : Below y2.1.heap.size y2.1 y3.1 := by rw [hX]; exact (by repeat (first | with_reducible (first | exact blA | exact blB | refine blC _ ?_ | refine blD ?_ ?_ _ | refine blE ?_ | refine blF _ ?_ | refine blG ?_ _ | refine blH ?_ | refine blI ?_ ?_ _) | (simp only [World.size_alloc]; omega) | (simp <;> omega)))
  replace P0 := Lib.hid (P0.out.below hby)
  replace P1 := Lib.hid (P1.out.below hby)
  replace P2 := Lib.hid (P2.out.below hby)
  replace Q0 := Lib.hid (Q0.out.below hby)
  replace Q1 := Lib.hid (Q1.out.below hby)
  replace Q2 := Lib.hid (Q2.out.below hby)
  generalize zb.1.heap.size = g3 at P3 ⊢
  clear hX hby H2 hz2
  have P0k0 : y3.1.cell? ⟨W.heap.size, 0, none⟩ = some (.slice A r.length capA) := P0.out.cell 0
  have P0l := P0.out.lt
  have P1k0 : y3.1.cell? ⟨g1, 0, none⟩ = some (.slice A1 n1 c1) := P1.out.cell 0
  have P1l := P1.out.lt
  have P2k0 : y3.1.cell? ⟨g2, 0, none⟩ = some (.slice A2 n2 c2) := P2.out.cell 0
  have P2l := P2.out.lt
  have P3k0 : y3.1.cell? ⟨g3, 0, none⟩ = some (.slice A3 n3 c3) := P3.out.cell 0
  have P3l := P3.out.lt
  go_wp2_with (go_at_call 19; (with_reducible refine (Kin.callK (W := (Kin.wd y3)) (by repeat (first | with_reducible (first | exact blA | exact blB | refine blC _ ?_ | refine blD ?_ ?_ _ | refine blE ?_ | refine blF _ ?_ | refine blG ?_ _ | refine blH ?_ | refine blI ?_ ?_ _) | (simp only [World.size_alloc]; omega) | (simp <;> omega))) (rclose_at _ (r) k _ (Q0.out.below (by repeat (first | with_reducible (first | exact blA | exact blB | refine blC _ ?_ | refine blD ?_ ?_ _ | refine blE ?_ | refine blF _ ?_ | refine blG ?_ _ | refine blH ?_ | refine blI ?_ ?_ _) | (simp only [World.size_alloc]; omega) | (simp <;> omega)))) BD.out (HE.out) (rfl))).mono ?_); rintro e w' ⟨zb, ⟨A4, n4, c4, rfl, h2⟩, hz2, rfl⟩; (have H2 := Lib.hid h2; clear h2))
  clear P0k0 P1k0 P2k0 P3k0 P0l P1l P2l P3l
  obtain ⟨y4, hX⟩ : ∃ y : Kin W, y.1 = zb.1.alloc (.cells #[.slice A4 n4 c4] 24) := ⟨⟨zb.1.alloc (.cells #[.slice A4 n4 c4] 24), (by repeat (first | with_reducible (first | exact blA | exact blB | refine blC _ ?_ | refine blD ?_ ?_ _ | refine blE ?_ | refine blF _ ?_ | refine blG ?_ _ | refine blH ?_ | refine blI ?_ ?_ _) | (simp only [World.size_alloc]; omega) | (simp <;> omega)))⟩, rfl⟩
  rw [← hX]
  have P4 := Lib.hid (show Blk y4.1 zb.1.heap.size 24 #[.slice A4 n4 c4] from hX ▸ Blk.new _ _ _)
  have Q4 := Lib.hid (show RdReg y4.1 (.agg #[.slice A4 n4 c4]) (cloR r k) from hX ▸ H2.out.below (Below.alloc (Below.refl _ _) (Nat.le_refl _) _))
  have hby : Below y3.1.heap.size y3.1 y4.1 := by rw [hX]; exact (by repeat (first | with_reducible (first | exact blA | exact blB | refine blC _ ?_ | refine blD ?_ ?_ _ | refine blE ?_ | refine blF _ ?_ | refine blG ?_ _ | refine blH ?_ | refine blI ?_ ?_ _) | (simp only [World.size_alloc]; omega) | (simp <;> omega)))
  replace P0 := Lib.hid (P0.out.below hby)
  replace P1 := Lib.hid (P1.out.below hby)
  replace P2 := Lib.hid (P2.out.below hby)
  replace P3 := Lib.hid (P3.out.below hby)
  replace Q0 := Lib.hid (Q0.out.below hby)
  replace Q1 := Lib.hid (Q1.out.below hby)
  replace Q2 := Lib.hid (Q2.out.below hby)
  replace Q3 := Lib.hid (Q3.out.below hby)
  generalize zb.1.heap.size = g4 at P4 ⊢
  clear hX hby H2 hz2
  have P0k0 : y4.1.cell? ⟨W.heap.size, 0, none⟩ = some (.slice A r.length capA) := P0.out.cell 0
  have P0l := P0.out.lt
  have P1k0 : y4.1.cell? ⟨g1, 0, none⟩ = some (.slice A1 n1 c1) := P1.out.cell 0
  have P1l := P1.out.lt
  have P2k0 : y4.1.cell? ⟨g2, 0, none⟩ = some (.slice A2 n2 c2) := P2.out.cell 0
  have P2l := P2.out.lt
  have P3k0 : y4.1.cell? ⟨g3, 0, none⟩ = some (.slice A3 n3 c3) := P3.out.cell 0
  have P3l := P3.out.lt
  have P4k0 : y4.1.cell? ⟨g4, 0, none⟩ = some (.slice A4 n4 c4) := P4.out.cell 0
  have P4l := P4.out.lt
  go_wp2_with (first
    | (go_at_call 20; (with_reducible refine (Kin.callK (W := (Kin.wd y4)) (by repeat (first | with_reducible (first | exact blA | exact blB | refine blC _ ?_ | refine blD ?_ ?_ _ | refine blE ?_ | refine blF _ ?_ | refine blG ?_ _ | refine blH ?_ | refine blI ?_ ?_ _) | (simp only [World.size_alloc]; omega) | (simp <;> omega))) (same18_t (a := dilR r k) (b := dilR r k) _ _ _ (Q1.out.below (by repeat (first | with_reducible (first | exact blA | exact blB | refine blC _ ?_ | refine blD ?_ ?_ _ | refine blE ?_ | refine blF _ ?_ | refine blG ?_ _ | refine blH ?_ | refine blI ?_ ?_ _) | (simp only [World.size_alloc]; omega) | (simp <;> omega)))) (Q2.out.below (by repeat (first | with_reducible (first | exact blA | exact blB | refine blC _ ?_ | refine blD ?_ ?_ _ | refine blE ?_ | refine blF _ ?_ | refine blG ?_ _ | refine blH ?_ | refine blI ?_ ?_ _) | (simp only [World.size_alloc]; omega) | (simp <;> omega)))) (rvalid_bd (dilR_valid _ _)) (rvalid_bd (dilR_valid _ _)) rfl)).mono ?_); rintro e w' ⟨z, rfl, hz, rfl⟩)
    | (go_at_call 20; (with_reducible refine (Kin.callK (W := (Kin.wd y4)) (by repeat (first | with_reducible (first | exact blA | exact blB | refine blC _ ?_ | refine blD ?_ ?_ _ | refine blE ?_ | refine blF _ ?_ | refine blG ?_ _ | refine blH ?_ | refine blI ?_ ?_ _) | (simp only [World.size_alloc]; omega) | (simp <;> omega))) (same18_t (a := cloR r k) (b := cloR r k) _ _ _ (Q3.out.below (by repeat (first | with_reducible (first | exact blA | exact blB | refine blC _ ?_ | refine blD ?_ ?_ _ | refine blE ?_ | refine blF _ ?_ | refine blG ?_ _ | refine blH ?_ | refine blI ?_ ?_ _) | (simp only [World.size_alloc]; omega) | (simp <;> omega)))) (Q4.out.below (by repeat (first | with_reducible (first | exact blA | exact blB | refine blC _ ?_ | refine blD ?_ ?_ _ | refine blE ?_ | refine blF _ ?_ | refine blG ?_ _ | refine blH ?_ | refine blI ?_ ?_ _) | (simp only [World.size_alloc]; omega) | (simp <;> omega)))) (rvalid_bd (clo_valid _ _)) (rvalid_bd (clo_valid _ _)) rfl)).mono ?_); rintro e w' ⟨z, rfl, hz, rfl⟩)
    | (go_at_call 15; (with_reducible refine (Kin.callK (W := (Kin.wd y4)) (by repeat (first | with_reducible (first | exact blA | exact blB | refine blC _ ?_ | refine blD ?_ ?_ _ | refine blE ?_ | refine blF _ ?_ | refine blG ?_ _ | refine blH ?_ | refine blI ?_ ?_ _) | (simp only [World.size_alloc]; omega) | (simp <;> omega))) (awake20_any _)).mono ?_); rintro e w' ⟨z, rfl, hz, rfl⟩))
  go_ret
  exact ⟨rfl, (by repeat (first | with_reducible (first | exact blA | exact blB | refine blC _ ?_ | refine blD ?_ ?_ _ | refine blE ?_ | refine blF _ ?_ | refine blG ?_ _ | refine blH ?_ | refine blI ?_ ?_ _) | (simp only [World.size_alloc]; omega) | (simp <;> omega)))⟩
set_option maxRecDepth 100000 in
theorem morphDilates_lifted (os : Os) (started : os.Started) (H : Type) (enc : TypeId × Value → H) :
    ReturnsInHanded {} Try.checked os 3 .any (Rows.morphDilatesSpec.pre6 enc Try.prog Try.f3 Rows.morphDilatesRow.domain false) (Rows.morphDilatesSpec.post enc Try.prog Try.f3 false true false false) := by
  refine returnsInHanded_of_change (C := Try.checked) own started (by kernel_rfl) Try.func3
    (ChangeSpec.witness6 (enc := enc) (C := Try.checked) false ⟨#[], #[.agg #[.slice none 0 0], .int .i64 0], []⟩ 8 (by kernel_rfl) (by kernel_rfl) (by kernel_rfl) (by kernel_rfl)) ?_
  intro W base args ds gs before hval0 hW hcnd _
  have hval : ∀ (j : Nat) t v, Try.f3.params[j]? = some t → args[j]? = some v → Value.okWide Try.prog W .any base t v := hval0
  have hW' := hW
  obtain ⟨p, q, hA0, hV, rfl, hfz, hnd⟩ := hW
  have hA : DataW.TrodAll enc Try.prog W 0 (fun _ => true) true Try.f3.params.toList args.toList ds p := hA0
  rw [Try.params3] at hA hval
  have hAA := hA
  obtain ⟨v0, vs0, d0, ds0, p0, q0, hargs, rfl, rfl, h0, r0⟩ := trodAll_cons hA
  obtain ⟨v1, vs1, d1, ds1, p1, q1, rfl, rfl, rfl, h1, r1⟩ := trodAll_cons r0
  obtain ⟨rfl, rfl, rfl⟩ := trodAll_nil r1
  obtain rfl : args = #[v0, v1] := by cases args; simp_all
  obtain ⟨rfl, rfl⟩ := trodVars_none hV
  have o0 := open_regB (hval 0 24 v0 rfl rfl) h0
  have o1 := open_i64 (hval 1 3 v1 rfl rfl) h1
  have hlt : ∀ x ∈ p0 ++ (p1 ++ []), x.block < W.heap.size := fun x hx => hW'.lt x (by simpa using hx)
  refine (morphDilates_walk W _ o0 _ o1).mono fun e W' ⟨he, bel⟩ => ?_
  subst he
  exact ⟨_, rfl, _, _, _, [], _, [], hW', trodAll_mk1 (shut_bool Try.underlying4 _), below_trodAll laidOut bel _ _ _ _ (by
    intro t ht
    have hcl : ([24, 3] : List TypeId).all (fun t => Try.prog.readableRec t && decide (t < Try.prog.types.size)) = true := by kernel_rfl
    have := List.all_eq_true.1 hcl t ht
    simpa using this) hlt hAA, rfl, bel.frame _, fun h => by cases h⟩
theorem morphDilates_heard : (Try.checked.prog.stopsHeard = true ∧ Try.checked.prog.mayEnter = true) ∧ Try.checked.prog.liftsFinal = Rows.morphDilatesRow.lifted := ⟨⟨by kernel_rfl, by kernel_rfl⟩, by kernel_rfl⟩
theorem morphDilates_calls : (Try.checked.prog.inPlace 3 = Rows.morphDilatesRow.inPlace ∧ Try.checked.prog.unfollowed 3 = Rows.morphDilatesRow.unfollowed) ∧ (Try.checked.prog.recurses 3 = Rows.morphDilatesRow.recurses ∧ Try.checked.prog.varsNamed 3 = Rows.morphDilatesRow.named) := ⟨⟨by kernel_rfl, by kernel_rfl⟩, ⟨by kernel_rfl, by kernel_rfl⟩⟩
theorem morphDilates_closed : joinedFacts Try.checked.prog 3 Try.f3 Rows.morphDilatesSpec Rows.morphDilatesRow = true := by
  unfold joinedFacts
  rw [morphDilates_calls.1.1, morphDilates_calls.1.2, morphDilates_calls.2.1, morphDilates_calls.2.2, morphDilates_heard.1.1, morphDilates_heard.1.2, morphDilates_heard.2]
  kernel_rfl
/-- MorphDilates: for every input the call returns true, and the arguments read behind it as before. No condition. -/
theorem morphDilates_holds : Rows.MorphDilatesSaid :=
  OpenClaim.holds_of_wide 3 Try.f3 rfl rfl rfl rfl rfl rfl rfl ⟨rfl, rfl, rfl, rfl, rfl⟩ rfl rfl rfl rfl rfl (by kernel_rfl) Try.func3 morphDilates_closed
    (of_decide_eq_true (by kernel_rfl)) (by unfold Func.isWrapper; rw [if_neg (of_decide_eq_false (by kernel_rfl))]; exact ⟨rfl, rfl⟩)
    (fun os started H enc _ => morphDilates_lifted os started H enc)

end Go.Proofs.Ytjppaknajdbkgaa

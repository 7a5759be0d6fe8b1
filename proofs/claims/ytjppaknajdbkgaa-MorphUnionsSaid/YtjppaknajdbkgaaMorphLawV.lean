/- the case of MorphUnions in which both regions can be dilated: for every input the laws return true. No condition. -/
import Derived.Test.YtjppaknajdbkgaaMorphAwk
namespace Go.Proofs.Ytjppaknajdbkgaa
set_option linter.unusedSimpArgs false
set_option linter.unusedVariables false
open Go.ChangeShapes Go.WideShapes Go.ChangeAt Go.RowKit Go.Joins Runs Reg
attribute [local go_sem] Kin.cell Kin.frozen Kin.lt0 Kin.lt1 Kin.lt2 Kin.lt3 run_mkf
set_option maxRecDepth 100000 in
set_option maxHeartbeats 32000000 in
theorem unions_both (W : World) (AA : Option Addr) (nA cA : Nat) (AB : Option Addr) (nB cB : Nat) (k : Int) (a b : List Reg.Row) (HA : Hid (RdReg W (.agg #[.slice AA nA cA]) a)) (HB : Hid (RdReg W (.agg #[.slice AB nB cB]) b)) (BA : Hid (RBd a)) (BB : Hid (RBd b)) (ha : heavyR a = false) (hb : heavyR b = false) (HI : Hid (eroR (rop (opf 1) a b) k = rop (opf 1) (eroR a k) (eroR b k))) (HE : Hid (dilE a k = 0)) (HF : Hid (dilE b k = 0)) :
    Calls Try.prog 12 #[.agg #[.slice AA nA cA, .slice AB nB cB, .int .i64 k]] W fun e W' => e = .returned (.bool true) ∧ Below W.heap.size W W' := by
  have HU := Lib.hid (dil_unionE HE.out HF.out)
  have HV := Lib.hid (dil_union HE.out HF.out)
  go_enter Try.func12, Try.ntmps12
  go_wp2_with (first | (go_at_call 14; (with_reducible refine (Kin.callK (W := (W.alloc (.cells #[.slice AA nA cA, .slice AB nB cB, .int .i64 k] 35))) (by repeat (first | with_reducible (first | exact blA | exact blB | refine blC _ ?_ | refine blD ?_ ?_ _ | refine blE ?_ | refine blF _ ?_ | refine blG ?_ _ | refine blH ?_ | refine blI ?_ ?_ _) | (simp only [World.size_alloc]; omega) | (simp <;> omega))) (heavy_is _ a _ (HA.out.below (by repeat (first | with_reducible (first | exact blA | exact blB | refine blC _ ?_ | refine blD ?_ ?_ _ | refine blE ?_ | refine blF _ ?_ | refine blG ?_ _ | refine blH ?_ | refine blI ?_ ?_ _) | (simp only [World.size_alloc]; omega) | (simp <;> omega)))) BA.out ha)).mono ?_); rintro e w' ⟨z, rfl, hz, rfl⟩) | (go_at_call 14; (with_reducible refine (Kin.callK (W := (W.alloc (.cells #[.slice AA nA cA, .slice AB nB cB, .int .i64 k] 35))) (by repeat (first | with_reducible (first | exact blA | exact blB | refine blC _ ?_ | refine blD ?_ ?_ _ | refine blE ?_ | refine blF _ ?_ | refine blG ?_ _ | refine blH ?_ | refine blI ?_ ?_ _) | (simp only [World.size_alloc]; omega) | (simp <;> omega))) (heavy_is _ b _ (HB.out.below (by repeat (first | with_reducible (first | exact blA | exact blB | refine blC _ ?_ | refine blD ?_ ?_ _ | refine blE ?_ | refine blF _ ?_ | refine blG ?_ _ | refine blH ?_ | refine blI ?_ ?_ _) | (simp only [World.size_alloc]; omega) | (simp <;> omega)))) BB.out hb)).mono ?_); rintro e w' ⟨z, rfl, hz, rfl⟩))
  have P0 := Lib.hid ((Blk.new W 35 #[.slice AA nA cA, .slice AB nB cB, .int .i64 k]).below z.2)
  have QA := Lib.hid (HA.out.below (show Below W.heap.size W z.1 from (by repeat (first | with_reducible (first | exact blA | exact blB | refine blC _ ?_ | refine blD ?_ ?_ _ | refine blE ?_ | refine blF _ ?_ | refine blG ?_ _ | refine blH ?_ | refine blI ?_ ?_ _) | (simp only [World.size_alloc]; omega) | (simp <;> omega)))))
  have QB := Lib.hid (HB.out.below (show Below W.heap.size W z.1 from (by repeat (first | with_reducible (first | exact blA | exact blB | refine blC _ ?_ | refine blD ?_ ?_ _ | refine blE ?_ | refine blF _ ?_ | refine blG ?_ _ | refine blH ?_ | refine blI ?_ ?_ _) | (simp only [World.size_alloc]; omega) | (simp <;> omega)))))
  obtain ⟨y0, hX⟩ : ∃ y : Kin W, y.1 = z.1 := ⟨⟨z.1, (by repeat (first | with_reducible (first | exact blA | exact blB | refine blC _ ?_ | refine blD ?_ ?_ _ | refine blE ?_ | refine blF _ ?_ | refine blG ?_ _ | refine blH ?_ | refine blI ?_ ?_ _) | (simp only [World.size_alloc]; omega) | (simp <;> omega)))⟩, rfl⟩
  rw [← hX] at P0 QA QB ⊢
  clear hX hz
  have P0k0 : y0.1.cell? ⟨W.heap.size, 0, none⟩ = some (.slice AA nA cA) := P0.out.cell 0
  have P0k1 : y0.1.cell? ⟨W.heap.size, 1, none⟩ = some (.slice AB nB cB) := P0.out.cell 1
  have P0k2 : y0.1.cell? ⟨W.heap.size, 2, none⟩ = some (.int .i64 k) := P0.out.cell 2
  have P0l := P0.out.lt
  go_wp2_with (go_at_call 16; (with_reducible refine (Kin.callK (W := (Kin.wd y0)) (by repeat (first | with_reducible (first | exact blA | exact blB | refine blC _ ?_ | refine blD ?_ ?_ _ | refine blE ?_ | refine blF _ ?_ | refine blG ?_ _ | refine blH ?_ | refine blI ?_ ?_ _) | (simp only [World.size_alloc]; omega) | (simp <;> omega))) (dil_at _ (a) k _ (QA.out.below (by repeat (first | with_reducible (first | exact blA | exact blB | refine blC _ ?_ | refine blD ?_ ?_ _ | refine blE ?_ | refine blF _ ?_ | refine blG ?_ _ | refine blH ?_ | refine blI ?_ ?_ _) | (simp only [World.size_alloc]; omega) | (simp <;> omega)))) BA.out (HE.out) (rfl))).mono ?_); rintro e w' ⟨zb, ⟨A1, n1, c1, rfl, h2⟩, hz2, rfl⟩; (have H2 := Lib.hid h2; clear h2))
  clear P0k0 P0k1 P0k2 P0l
  obtain ⟨y1, hX⟩ : ∃ y : Kin W, y.1 = zb.1.alloc (.cells #[.slice A1 n1 c1] 24) := ⟨⟨zb.1.alloc (.cells #[.slice A1 n1 c1] 24), (by repeat (first | with_reducible (first | exact blA | exact blB | refine blC _ ?_ | refine blD ?_ ?_ _ | refine blE ?_ | refine blF _ ?_ | refine blG ?_ _ | refine blH ?_ | refine blI ?_ ?_ _) | (simp only [World.size_alloc]; omega) | (simp <;> omega)))⟩, rfl⟩
  rw [← hX]
  have P1 := Lib.hid (show Blk y1.1 zb.1.heap.size 24 #[.slice A1 n1 c1] from hX ▸ Blk.new _ _ _)
  have Q1 := Lib.hid (show RdReg y1.1 (.agg #[.slice A1 n1 c1]) (dilR a k) from hX ▸ H2.out.below (Below.alloc (Below.refl _ _) (Nat.le_refl _) _))
  have hby : Below y0.1.heap.size y0.1 y1.1 := by rw [hX]; exact (by repeat (first | with_reducible (first | exact blA | exact blB | refine blC _ ?_ | refine blD ?_ ?_ _ | refine blE ?_ | refine blF _ ?_ | refine blG ?_ _ | refine blH ?_ | refine blI ?_ ?_ _) | (simp only [World.size_alloc]; omega) | (simp <;> omega)))
  replace P0 := Lib.hid (P0.out.below hby)
  replace QA := Lib.hid (QA.out.below hby)
  replace QB := Lib.hid (QB.out.below hby)
  generalize zb.1.heap.size = g1 at P1 ⊢
  clear hX hby H2 hz2
  have P0k0 : y1.1.cell? ⟨W.heap.size, 0, none⟩ = some (.slice AA nA cA) := P0.out.cell 0
  have P0k1 : y1.1.cell? ⟨W.heap.size, 1, none⟩ = some (.slice AB nB cB) := P0.out.cell 1
  have P0k2 : y1.1.cell? ⟨W.heap.size, 2, none⟩ = some (.int .i64 k) := P0.out.cell 2
  have P0l := P0.out.lt
  have P1k0 : y1.1.cell? ⟨g1, 0, none⟩ = some (.slice A1 n1 c1) := P1.out.cell 0
  have P1l := P1.out.lt
  go_wp2_with (go_at_call 16; (with_reducible refine (Kin.callK (W := (Kin.wd y1)) (by repeat (first | with_reducible (first | exact blA | exact blB | refine blC _ ?_ | refine blD ?_ ?_ _ | refine blE ?_ | refine blF _ ?_ | refine blG ?_ _ | refine blH ?_ | refine blI ?_ ?_ _) | (simp only [World.size_alloc]; omega) | (simp <;> omega))) (dil_at _ (b) k _ (QB.out.below (by repeat (first | with_reducible (first | exact blA | exact blB | refine blC _ ?_ | refine blD ?_ ?_ _ | refine blE ?_ | refine blF _ ?_ | refine blG ?_ _ | refine blH ?_ | refine blI ?_ ?_ _) | (simp only [World.size_alloc]; omega) | (simp <;> omega)))) BB.out (HF.out) (rfl))).mono ?_); rintro e w' ⟨zb, ⟨A2, n2, c2, rfl, h2⟩, hz2, rfl⟩; (have H2 := Lib.hid h2; clear h2))
  clear P0k0 P0k1 P0k2 P1k0 P0l P1l
  obtain ⟨y2, hX⟩ : ∃ y : Kin W, y.1 = zb.1.alloc (.cells #[.slice A2 n2 c2] 24) := ⟨⟨zb.1.alloc (.cells #[.slice A2 n2 c2] 24), (by repeat (first | with_reducible (first | exact blA | exact blB | refine blC _ ?_ | refine blD ?_ ?_ _ | refine blE ?_ | refine blF _ ?_ | refine blG ?_ _ | refine blH ?_ | refine blI ?_ ?_ _) | (simp only [World.size_alloc]; omega) | (simp <;> omega)))⟩, rfl⟩
  rw [← hX]
  have P2 := Lib.hid (show Blk y2.1 zb.1.heap.size 24 #[.slice A2 n2 c2] from hX ▸ Blk.new _ _ _)
  have Q2 := Lib.hid (show RdReg y2.1 (.agg #[.slice A2 n2 c2]) (dilR b k) from hX ▸ H2.out.below (Below.alloc (Below.refl _ _) (Nat.le_refl _) _))
  have hby : Below y1.1.heap.size y1.1 y2.1 := by rw [hX]; exact (by repeat (first | with_reducible (first | exact blA | exact blB | refine blC _ ?_ | refine blD ?_ ?_ _ | refine blE ?_ | refine blF _ ?_ | refine blG ?_ _ | refine blH ?_ | refine blI ?_ ?_ _) | (simp only [World.size_alloc]; omega) | (simp <;> omega)))
  replace P0 := Lib.hid (P0.out.below hby)
  replace P1 := Lib.hid (P1.out.below hby)
  replace QA := Lib.hid (QA.out.below hby)
  replace QB := Lib.hid (QB.out.below hby)
  replace Q1 := Lib.hid (Q1.out.below hby)
  generalize zb.1.heap.size = g2 at P2 ⊢
  clear hX hby H2 hz2
  have P0k0 : y2.1.cell? ⟨W.heap.size, 0, none⟩ = some (.slice AA nA cA) := P0.out.cell 0
  have P0k1 : y2.1.cell? ⟨W.heap.size, 1, none⟩ = some (.slice AB nB cB) := P0.out.cell 1
  have P0k2 : y2.1.cell? ⟨W.heap.size, 2, none⟩ = some (.int .i64 k) := P0.out.cell 2
  have P0l := P0.out.lt
  have P1k0 : y2.1.cell? ⟨g1, 0, none⟩ = some (.slice A1 n1 c1) := P1.out.cell 0
  have P1l := P1.out.lt
  have P2k0 : y2.1.cell? ⟨g2, 0, none⟩ = some (.slice A2 n2 c2) := P2.out.cell 0
  have P2l := P2.out.lt
  clear P0k0 P0k1 P0k2 P1k0 P2k0 P0l P1l P2l
  have P0k0 : y2.1.cell? ⟨W.heap.size, 0, none⟩ = some (.slice AA nA cA) := P0.out.cell 0
  have P0k1 : y2.1.cell? ⟨W.heap.size, 1, none⟩ = some (.slice AB nB cB) := P0.out.cell 1
  have P0k2 : y2.1.cell? ⟨W.heap.size, 2, none⟩ = some (.int .i64 k) := P0.out.cell 2
  have P0l := P0.out.lt
  go_wp2
  have P0ne : y2.1.heap.size ≠ W.heap.size := Nat.ne_of_gt P0l
  go_region_held (fun w' => w'.cell? ⟨W.heap.size, 0, none⟩ = some (.slice AA nA cA) ∧ w'.cell? ⟨W.heap.size, 1, none⟩ = some (.slice AB nB cB) ∧ w'.cell? ⟨W.heap.size, 2, none⟩ = some (.int .i64 k)) (refine ⟨?_, ?_, ?_⟩ <;> first | assumption | (refine (Kin.cell (W := (Kin.wd y2)) _ ?_).trans ?_ <;> assumption) | (refine (World.cell?_setCell_far _ _ _ _ ?_).trans ?_ <;> assumption) | (refine (World.cell?_alloc_lt _ _ _ ?_).trans ?_ <;> assumption) | simp [*, World.cell?_alloc_some, World.cell?_setCell_far]) (first | (go_at_call 36; (with_reducible refine (Kin.callK (W := (Kin.wd y2)) (by repeat (first | with_reducible (first | exact blA | exact blB | refine blC _ ?_ | refine blD ?_ ?_ _ | refine blE ?_ | refine blF _ ?_ | refine blG ?_ _ | refine blH ?_ | refine blI ?_ ?_ _) | (simp only [World.size_alloc]; omega) | (simp <;> omega))) (unionReg_at _ _ a b _ (QA.out.below (by repeat (first | with_reducible (first | exact blA | exact blB | refine blC _ ?_ | refine blD ?_ ?_ _ | refine blE ?_ | refine blF _ ?_ | refine blG ?_ _ | refine blH ?_ | refine blI ?_ ?_ _) | (simp only [World.size_alloc]; omega) | (simp <;> omega)))) (QB.out.below (by repeat (first | with_reducible (first | exact blA | exact blB | refine blC _ ?_ | refine blD ?_ ?_ _ | refine blE ?_ | refine blF _ ?_ | refine blG ?_ _ | refine blH ?_ | refine blI ?_ ?_ _) | (simp only [World.size_alloc]; omega) | (simp <;> omega)))) BA.out BB.out rfl)).mono ?_); rintro e w' ⟨zu, ⟨uA, un, uc, rfl, h2⟩, hz, rfl⟩; (have JU := Lib.hid h2; clear h2; have P0zuk0 : (Kin.wd zu).cell? ⟨W.heap.size, 0, none⟩ = some (.slice AA nA cA) := (zu.cell P0l).trans P0k0; have P0zuk1 : (Kin.wd zu).cell? ⟨W.heap.size, 1, none⟩ = some (.slice AB nB cB) := (zu.cell P0l).trans P0k1; have P0zuk2 : (Kin.wd zu).cell? ⟨W.heap.size, 2, none⟩ = some (.int .i64 k) := (zu.cell P0l).trans P0k2; have P0zul := zu.lt0 P0l; have P0neu : (Kin.wd zu).heap.size ≠ W.heap.size := Nat.ne_of_gt (zu.lt0 P0l); (first | have KU := Lib.hid (new_at1 hz) | have KU := Lib.hid (new_at2 hz) | have KU := Lib.hid (new_at3 hz) | skip))) | (go_at_call 16; (with_reducible refine (Kin.callK (W := (Kin.wd y2)) (by repeat (first | with_reducible (first | exact blA | exact blB | refine blC _ ?_ | refine blD ?_ ?_ _ | refine blE ?_ | refine blF _ ?_ | refine blG ?_ _ | refine blH ?_ | refine blI ?_ ?_ _) | (simp only [World.size_alloc]; omega) | (simp <;> omega))) (dil_at _ (rop (opf 2) a b) k _ (JU.out.below (by repeat (first | with_reducible (first | exact blA | exact blB | refine blC _ ?_ | refine blD ?_ ?_ _ | refine blE ?_ | refine blF _ ?_ | refine blG ?_ _ | refine blH ?_ | refine blI ?_ ?_ _) | (simp only [World.size_alloc]; omega) | (simp <;> omega)))) (rvalid_bd (rop_valid (opf_ff 2) _ _)) (HU.out) (HV.out))).mono ?_); rintro e w' ⟨zb, ⟨A3, n3, c3, rfl, h2⟩, hz2, rfl⟩; (have H2 := Lib.hid h2; clear h2; have P0zbk0 : (Kin.wd zb).cell? ⟨W.heap.size, 0, none⟩ = some (.slice AA nA cA) := (zb.cell P0l).trans P0k0; have P0zbk1 : (Kin.wd zb).cell? ⟨W.heap.size, 1, none⟩ = some (.slice AB nB cB) := (zb.cell P0l).trans P0k1; have P0zbk2 : (Kin.wd zb).cell? ⟨W.heap.size, 2, none⟩ = some (.int .i64 k) := (zb.cell P0l).trans P0k2; have P0zbl := zb.lt0 P0l; (first | have KV := Lib.hid (KU.out.below hz2) | have KV := Lib.hid (new_at1 hz2) | have KV := Lib.hid (new_at2 hz2) | have KV := Lib.hid (new_at3 hz2) | skip); (first | (have kv0 := KV.out.cell 0; have kvf := KV.out.frozen 0; have kvl := KV.out.lt; simp at kv0) | skip))))
  all_goals
    clear P0k0 P0k1 P0k2 P0l
    clear P0zbk0 P0zbk1 P0zbk2 P0zuk0 P0zuk1 P0zuk2 P0ne P0neu P0zbl P0zul
    first
    | (obtain ⟨y3, hX⟩ : ∃ y : Kin W, y.1 = zb.1.alloc (.cells #[.slice A3 n3 c3] 24) := ⟨⟨zb.1.alloc (.cells #[.slice A3 n3 c3] 24), (by repeat (first | with_reducible (first | exact blA | exact blB | refine blC _ ?_ | refine blD ?_ ?_ _ | refine blE ?_ | refine blF _ ?_ | refine blG ?_ _ | refine blH ?_ | refine blI ?_ ?_ _) | (simp only [World.size_alloc]; omega) | (simp <;> omega)))⟩, rfl⟩
       rw [← hX]
       have P3 := Lib.hid (show Blk y3.1 zb.1.heap.size 24 #[.slice A3 n3 c3] from hX ▸ Blk.new _ _ _)
       have Q3 := Lib.hid (show RdReg y3.1 (.agg #[.slice A3 n3 c3]) (rop (opf 2) (dilR a k) (dilR b k)) from hX ▸ H2.out.below (Below.alloc (Below.refl _ _) (Nat.le_refl _) _))
       have hby : Below y2.1.heap.size y2.1 y3.1 := by rw [hX]; exact (by repeat (first | with_reducible (first | exact blA | exact blB | refine blC _ ?_ | refine blD ?_ ?_ _ | refine blE ?_ | refine blF _ ?_ | refine blG ?_ _ | refine blH ?_ | refine blI ?_ ?_ _) | (simp only [World.size_alloc]; omega) | (simp <;> omega)))
       generalize zb.1.heap.size = g3 at P3 ⊢
       clear hX)
    | (obtain ⟨y3, hX⟩ : ∃ y : Kin W, y.1 = zb.1.setCell ⟨y2.1.heap.size, 0, none⟩ (.slice A3 n3 c3) := ⟨⟨zb.1.setCell ⟨y2.1.heap.size, 0, none⟩ (.slice A3 n3 c3), (by repeat (first | with_reducible (first | exact blA | exact blB | refine blC _ ?_ | refine blD ?_ ?_ _ | refine blE ?_ | refine blF _ ?_ | refine blG ?_ _ | refine blH ?_ | refine blI ?_ ?_ _) | (simp only [World.size_alloc]; omega) | (simp <;> omega)))⟩, rfl⟩
       rw [← hX]
       obtain ⟨g3, hpe⟩ : ∃ po, po = y2.1.heap.size := ⟨_, rfl⟩
       have P3 := Lib.hid (show Blk y3.1 g3 24 #[.slice A3 n3 c3] from by rw [hpe, hX]; exact KV.out.set_ 0 _)
       have Q3 := Lib.hid (show RdReg y3.1 (.agg #[.slice A3 n3 c3]) (rop (opf 2) (dilR a k) (dilR b k)) from hX ▸ H2.out.set_ KV.out)
       have hby : Below y2.1.heap.size y2.1 y3.1 := by rw [hX]; exact (by repeat (first | with_reducible (first | exact blA | exact blB | refine blC _ ?_ | refine blD ?_ ?_ _ | refine blE ?_ | refine blF _ ?_ | refine blG ?_ _ | refine blH ?_ | refine blI ?_ ?_ _) | (simp only [World.size_alloc]; omega) | (simp <;> omega)))
       rw [show (⟨y2.1.heap.size, 0, none⟩ : Addr) = ⟨g3, 0, none⟩ from by rw [hpe]]
       clear hX hpe KV kv0 kvf kvl)
    | (obtain ⟨y3, hX⟩ : ∃ y : Kin W, y.1 = zb.1.setCell ⟨zu.1.heap.size, 0, none⟩ (.slice A3 n3 c3) := ⟨⟨zb.1.setCell ⟨zu.1.heap.size, 0, none⟩ (.slice A3 n3 c3), (by repeat (first | with_reducible (first | exact blA | exact blB | refine blC _ ?_ | refine blD ?_ ?_ _ | refine blE ?_ | refine blF _ ?_ | refine blG ?_ _ | refine blH ?_ | refine blI ?_ ?_ _) | (simp only [World.size_alloc]; omega) | (simp <;> omega)))⟩, rfl⟩
       rw [← hX]
       obtain ⟨g3, hpe⟩ : ∃ po, po = zu.1.heap.size := ⟨_, rfl⟩
       have P3 := Lib.hid (show Blk y3.1 g3 24 #[.slice A3 n3 c3] from by rw [hpe, hX]; exact KV.out.set_ 0 _)
       have Q3 := Lib.hid (show RdReg y3.1 (.agg #[.slice A3 n3 c3]) (rop (opf 2) (dilR a k) (dilR b k)) from hX ▸ H2.out.set_ KV.out)
       have hby : Below y2.1.heap.size y2.1 y3.1 := by rw [hX]; exact (by repeat (first | with_reducible (first | exact blA | exact blB | refine blC _ ?_ | refine blD ?_ ?_ _ | refine blE ?_ | refine blF _ ?_ | refine blG ?_ _ | refine blH ?_ | refine blI ?_ ?_ _) | (simp only [World.size_alloc]; omega) | (simp <;> omega)))
       rw [show (⟨zu.1.heap.size, 0, none⟩ : Addr) = ⟨g3, 0, none⟩ from by rw [hpe]]
       clear hX hpe KV kv0 kvf kvl)
    replace P0 := Lib.hid (P0.out.below hby)
    replace P1 := Lib.hid (P1.out.below hby)
    replace P2 := Lib.hid (P2.out.below hby)
    replace QA := Lib.hid (QA.out.below hby)
    replace QB := Lib.hid (QB.out.below hby)
    replace Q1 := Lib.hid (Q1.out.below hby)
    replace Q2 := Lib.hid (Q2.out.below hby)
    clear hby H2 hz2 JU hz
    have P0k0 : y3.1.cell? ⟨W.heap.size, 0, none⟩ = some (.slice AA nA cA) := P0.out.cell 0
    have P0k1 : y3.1.cell? ⟨W.heap.size, 1, none⟩ = some (.slice AB nB cB) := P0.out.cell 1
    have P0k2 : y3.1.cell? ⟨W.heap.size, 2, none⟩ = some (.int .i64 k) := P0.out.cell 2
    have P0l := P0.out.lt
    have P3k0 : y3.1.cell? ⟨g3, 0, none⟩ = some (.slice A3 n3 c3) := P3.out.cell 0
    have P3l := P3.out.lt
    go_wp2
    clear P0k0 P0k1 P0k2 P3k0 P0l P3l
    have P1k0 : y3.1.cell? ⟨g1, 0, none⟩ = some (.slice A1 n1 c1) := P1.out.cell 0
    have P1l := P1.out.lt
    have P2k0 : y3.1.cell? ⟨g2, 0, none⟩ = some (.slice A2 n2 c2) := P2.out.cell 0
    have P2l := P2.out.lt
    have P3k0 : y3.1.cell? ⟨g3, 0, none⟩ = some (.slice A3 n3 c3) := P3.out.cell 0
    have P3l := P3.out.lt
    go_region_held (fun w' => w'.cell? ⟨g1, 0, none⟩ = some (.slice A1 n1 c1) ∧ w'.cell? ⟨g2, 0, none⟩ = some (.slice A2 n2 c2) ∧ w'.cell? ⟨g3, 0, none⟩ = some (.slice A3 n3 c3)) (refine ⟨?_, ?_, ?_⟩ <;> first | assumption | (refine (Kin.cell (W := (Kin.wd y3)) _ ?_).trans ?_ <;> assumption) | simp [*, World.cell?_alloc_some, World.cell?_setCell_far] | ((refine (World.cell?_setCell_other (by simp)).trans ?_); first | assumption | simp [*])) (first | (go_at_call 36; (with_reducible refine (Kin.callK (W := (Kin.wd y3)) (by repeat (first | with_reducible (first | exact blA | exact blB | refine blC _ ?_ | refine blD ?_ ?_ _ | refine blE ?_ | refine blF _ ?_ | refine blG ?_ _ | refine blH ?_ | refine blI ?_ ?_ _) | (simp only [World.size_alloc]; omega) | (simp <;> omega))) (unionReg_at _ _ (dilR a k) (dilR b k) _ (Q1.out.below (by repeat (first | with_reducible (first | exact blA | exact blB | refine blC _ ?_ | refine blD ?_ ?_ _ | refine blE ?_ | refine blF _ ?_ | refine blG ?_ _ | refine blH ?_ | refine blI ?_ ?_ _) | (simp only [World.size_alloc]; omega) | (simp <;> omega)))) (Q2.out.below (by repeat (first | with_reducible (first | exact blA | exact blB | refine blC _ ?_ | refine blD ?_ ?_ _ | refine blE ?_ | refine blF _ ?_ | refine blG ?_ _ | refine blH ?_ | refine blI ?_ ?_ _) | (simp only [World.size_alloc]; omega) | (simp <;> omega)))) (rvalid_bd (dilR_valid _ _)) (rvalid_bd (dilR_valid _ _)) (rfl))).mono ?_); rintro e w' ⟨z6, ⟨z6A, z6n, z6c, rfl, h2⟩, hz, rfl⟩; (have J6 := Lib.hid h2; clear h2)) | (go_at_call 35; (with_reducible refine (Kin.callK (W := (Kin.wd y3)) (by repeat (first | with_reducible (first | exact blA | exact blB | refine blC _ ?_ | refine blD ?_ ?_ _ | refine blE ?_ | refine blF _ ?_ | refine blG ?_ _ | refine blH ?_ | refine blI ?_ ?_ _) | (simp only [World.size_alloc]; omega) | (simp <;> omega))) (sameReg_at (a := rop (opf 2) (dilR a k) (dilR b k)) (b := rop (opf 2) (dilR a k) (dilR b k)) _ _ _ (Q3.out.below (by repeat (first | with_reducible (first | exact blA | exact blB | refine blC _ ?_ | refine blD ?_ ?_ _ | refine blE ?_ | refine blF _ ?_ | refine blG ?_ _ | refine blH ?_ | refine blI ?_ ?_ _) | (simp only [World.size_alloc]; omega) | (simp <;> omega)))) (J6.out.below (by repeat (first | with_reducible (first | exact blA | exact blB | refine blC _ ?_ | refine blD ?_ ?_ _ | refine blE ?_ | refine blF _ ?_ | refine blG ?_ _ | refine blH ?_ | refine blI ?_ ?_ _) | (simp only [World.size_alloc]; omega) | (simp <;> omega)))) (rop_valid (opf_ff 2) _ _) rfl)).mono ?_); rintro e w' ⟨z, rfl, hz, rfl⟩))
    all_goals
      clear P1k0 P2k0 P3k0 P1l P2l P3l
      obtain ⟨y4, hX⟩ : ∃ y : Kin W, y.1 = z.1 := ⟨⟨z.1, (by repeat (first | with_reducible (first | exact blA | exact blB | refine blC _ ?_ | refine blD ?_ ?_ _ | refine blE ?_ | refine blF _ ?_ | refine blG ?_ _ | refine blH ?_ | refine blI ?_ ?_ _) | (simp only [World.size_alloc]; omega) | (simp <;> omega)))⟩, rfl⟩
      have hby : Below y3.1.heap.size y3.1 y4.1 := by rw [hX]; exact (by repeat (first | with_reducible (first | exact blA | exact blB | refine blC _ ?_ | refine blD ?_ ?_ _ | refine blE ?_ | refine blF _ ?_ | refine blG ?_ _ | refine blH ?_ | refine blI ?_ ?_ _) | (simp only [World.size_alloc]; omega) | (simp <;> omega)))
      rw [← hX]
      clear hX P1 P2 P3 Q1 Q2 Q3
      replace P0 := Lib.hid (P0.out.below hby)
      replace QA := Lib.hid (QA.out.below hby)
      replace QB := Lib.hid (QB.out.below hby)
      clear hby
      have P0k0 : y4.1.cell? ⟨W.heap.size, 0, none⟩ = some (.slice AA nA cA) := P0.out.cell 0
      have P0k1 : y4.1.cell? ⟨W.heap.size, 1, none⟩ = some (.slice AB nB cB) := P0.out.cell 1
      have P0k2 : y4.1.cell? ⟨W.heap.size, 2, none⟩ = some (.int .i64 k) := P0.out.cell 2
      have P0l := P0.out.lt
      go_wp2
      have P0ne : y4.1.heap.size ≠ W.heap.size := Nat.ne_of_gt P0l
      go_region_held (fun w' => w'.cell? ⟨W.heap.size, 0, none⟩ = some (.slice AA nA cA) ∧ w'.cell? ⟨W.heap.size, 1, none⟩ = some (.slice AB nB cB) ∧ w'.cell? ⟨W.heap.size, 2, none⟩ = some (.int .i64 k)) (refine ⟨?_, ?_, ?_⟩ <;> first | assumption | (refine (Kin.cell (W := (Kin.wd y4)) _ ?_).trans ?_ <;> assumption) | (refine (World.cell?_setCell_far _ _ _ _ ?_).trans ?_ <;> assumption) | (refine (World.cell?_alloc_lt _ _ _ ?_).trans ?_ <;> assumption) | simp [*, World.cell?_alloc_some, World.cell?_setCell_far]) (first | (go_at_call 37; (with_reducible refine (Kin.callK (W := (Kin.wd y4)) (by repeat (first | with_reducible (first | exact blA | exact blB | refine blC _ ?_ | refine blD ?_ ?_ _ | refine blE ?_ | refine blF _ ?_ | refine blG ?_ _ | refine blH ?_ | refine blI ?_ ?_ _) | (simp only [World.size_alloc]; omega) | (simp <;> omega))) (intersectReg_at _ _ a b _ (QA.out.below (by repeat (first | with_reducible (first | exact blA | exact blB | refine blC _ ?_ | refine blD ?_ ?_ _ | refine blE ?_ | refine blF _ ?_ | refine blG ?_ _ | refine blH ?_ | refine blI ?_ ?_ _) | (simp only [World.size_alloc]; omega) | (simp <;> omega)))) (QB.out.below (by repeat (first | with_reducible (first | exact blA | exact blB | refine blC _ ?_ | refine blD ?_ ?_ _ | refine blE ?_ | refine blF _ ?_ | refine blG ?_ _ | refine blH ?_ | refine blI ?_ ?_ _) | (simp only [World.size_alloc]; omega) | (simp <;> omega)))) BA.out BB.out rfl)).mono ?_); rintro e w' ⟨zu, ⟨uA, un, uc, rfl, h2⟩, hz, rfl⟩; (have JU := Lib.hid h2; clear h2; have P0zuk0 : (Kin.wd zu).cell? ⟨W.heap.size, 0, none⟩ = some (.slice AA nA cA) := (zu.cell P0l).trans P0k0; have P0zuk1 : (Kin.wd zu).cell? ⟨W.heap.size, 1, none⟩ = some (.slice AB nB cB) := (zu.cell P0l).trans P0k1; have P0zuk2 : (Kin.wd zu).cell? ⟨W.heap.size, 2, none⟩ = some (.int .i64 k) := (zu.cell P0l).trans P0k2; have P0zul := zu.lt0 P0l; have P0neu : (Kin.wd zu).heap.size ≠ W.heap.size := Nat.ne_of_gt (zu.lt0 P0l); (first | have KU := Lib.hid (new_at1 hz) | have KU := Lib.hid (new_at2 hz) | have KU := Lib.hid (new_at3 hz) | skip))) | (go_at_call 21; (with_reducible refine (Kin.callK (W := (Kin.wd y4)) (by repeat (first | with_reducible (first | exact blA | exact blB | refine blC _ ?_ | refine blD ?_ ?_ _ | refine blE ?_ | refine blF _ ?_ | refine blG ?_ _ | refine blH ?_ | refine blI ?_ ?_ _) | (simp only [World.size_alloc]; omega) | (simp <;> omega))) (ero_at _ (rop (opf 1) a b) k _ (JU.out.below (by repeat (first | with_reducible (first | exact blA | exact blB | refine blC _ ?_ | refine blD ?_ ?_ _ | refine blE ?_ | refine blF _ ?_ | refine blG ?_ _ | refine blH ?_ | refine blI ?_ ?_ _) | (simp only [World.size_alloc]; omega) | (simp <;> omega)))) (rvalid_bd (rop_valid (opf_ff 1) _ _)) (HI.out))).mono ?_); rintro e w' ⟨zb, ⟨A5, n5, c5, rfl, h2⟩, hz2, rfl⟩; (have H2 := Lib.hid h2; clear h2; have P0zbk0 : (Kin.wd zb).cell? ⟨W.heap.size, 0, none⟩ = some (.slice AA nA cA) := (zb.cell P0l).trans P0k0; have P0zbk1 : (Kin.wd zb).cell? ⟨W.heap.size, 1, none⟩ = some (.slice AB nB cB) := (zb.cell P0l).trans P0k1; have P0zbk2 : (Kin.wd zb).cell? ⟨W.heap.size, 2, none⟩ = some (.int .i64 k) := (zb.cell P0l).trans P0k2; have P0zbl := zb.lt0 P0l; (first | have KV := Lib.hid (KU.out.below hz2) | have KV := Lib.hid (new_at1 hz2) | have KV := Lib.hid (new_at2 hz2) | have KV := Lib.hid (new_at3 hz2) | skip); (first | (have kv0 := KV.out.cell 0; have kvf := KV.out.frozen 0; have kvl := KV.out.lt; simp at kv0) | skip))))
      all_goals
        clear P0k0 P0k1 P0k2 P0l
        clear P0zbk0 P0zbk1 P0zbk2 P0zuk0 P0zuk1 P0zuk2 P0ne P0neu P0zbl P0zul
        first
        | (obtain ⟨y5, hX⟩ : ∃ y : Kin W, y.1 = zb.1.alloc (.cells #[.slice A5 n5 c5] 24) := ⟨⟨zb.1.alloc (.cells #[.slice A5 n5 c5] 24), (by repeat (first | with_reducible (first | exact blA | exact blB | refine blC _ ?_ | refine blD ?_ ?_ _ | refine blE ?_ | refine blF _ ?_ | refine blG ?_ _ | refine blH ?_ | refine blI ?_ ?_ _) | (simp only [World.size_alloc]; omega) | (simp <;> omega)))⟩, rfl⟩
           rw [← hX]
           have P5 := Lib.hid (show Blk y5.1 zb.1.heap.size 24 #[.slice A5 n5 c5] from hX ▸ Blk.new _ _ _)
           have Q5 := Lib.hid (show RdReg y5.1 (.agg #[.slice A5 n5 c5]) (rop (opf 1) (eroR a k) (eroR b k)) from hX ▸ H2.out.below (Below.alloc (Below.refl _ _) (Nat.le_refl _) _))
           have hby : Below y4.1.heap.size y4.1 y5.1 := by rw [hX]; exact (by repeat (first | with_reducible (first | exact blA | exact blB | refine blC _ ?_ | refine blD ?_ ?_ _ | refine blE ?_ | refine blF _ ?_ | refine blG ?_ _ | refine blH ?_ | refine blI ?_ ?_ _) | (simp only [World.size_alloc]; omega) | (simp <;> omega)))
           generalize zb.1.heap.size = g5 at P5 ⊢
           clear hX)
        | (obtain ⟨y5, hX⟩ : ∃ y : Kin W, y.1 = zb.1.setCell ⟨y4.1.heap.size, 0, none⟩ (.slice A5 n5 c5) := ⟨⟨zb.1.setCell ⟨y4.1.heap.size, 0, none⟩ (.slice A5 n5 c5), (by repeat (first | with_reducible (first | exact blA | exact blB | refine blC _ ?_ | refine blD ?_ ?_ _ | refine blE ?_ | refine blF _ ?_ | refine blG ?_ _ | refine blH ?_ | refine blI ?_ ?_ _) | (simp only [World.size_alloc]; omega) | (simp <;> omega)))⟩, rfl⟩
           rw [← hX]
           obtain ⟨g5, hpe⟩ : ∃ po, po = y4.1.heap.size := ⟨_, rfl⟩
           have P5 := Lib.hid (show Blk y5.1 g5 24 #[.slice A5 n5 c5] from by rw [hpe, hX]; exact KV.out.set_ 0 _)
           have Q5 := Lib.hid (show RdReg y5.1 (.agg #[.slice A5 n5 c5]) (rop (opf 1) (eroR a k) (eroR b k)) from hX ▸ H2.out.set_ KV.out)
           have hby : Below y4.1.heap.size y4.1 y5.1 := by rw [hX]; exact (by repeat (first | with_reducible (first | exact blA | exact blB | refine blC _ ?_ | refine blD ?_ ?_ _ | refine blE ?_ | refine blF _ ?_ | refine blG ?_ _ | refine blH ?_ | refine blI ?_ ?_ _) | (simp only [World.size_alloc]; omega) | (simp <;> omega)))
           rw [show (⟨y4.1.heap.size, 0, none⟩ : Addr) = ⟨g5, 0, none⟩ from by rw [hpe]]
           clear hX hpe KV kv0 kvf kvl)
        | (obtain ⟨y5, hX⟩ : ∃ y : Kin W, y.1 = zb.1.setCell ⟨zu.1.heap.size, 0, none⟩ (.slice A5 n5 c5) := ⟨⟨zb.1.setCell ⟨zu.1.heap.size, 0, none⟩ (.slice A5 n5 c5), (by repeat (first | with_reducible (first | exact blA | exact blB | refine blC _ ?_ | refine blD ?_ ?_ _ | refine blE ?_ | refine blF _ ?_ | refine blG ?_ _ | refine blH ?_ | refine blI ?_ ?_ _) | (simp only [World.size_alloc]; omega) | (simp <;> omega)))⟩, rfl⟩
           rw [← hX]
           obtain ⟨g5, hpe⟩ : ∃ po, po = zu.1.heap.size := ⟨_, rfl⟩
           have P5 := Lib.hid (show Blk y5.1 g5 24 #[.slice A5 n5 c5] from by rw [hpe, hX]; exact KV.out.set_ 0 _)
           have Q5 := Lib.hid (show RdReg y5.1 (.agg #[.slice A5 n5 c5]) (rop (opf 1) (eroR a k) (eroR b k)) from hX ▸ H2.out.set_ KV.out)
           have hby : Below y4.1.heap.size y4.1 y5.1 := by rw [hX]; exact (by repeat (first | with_reducible (first | exact blA | exact blB | refine blC _ ?_ | refine blD ?_ ?_ _ | refine blE ?_ | refine blF _ ?_ | refine blG ?_ _ | refine blH ?_ | refine blI ?_ ?_ _) | (simp only [World.size_alloc]; omega) | (simp <;> omega)))
           rw [show (⟨zu.1.heap.size, 0, none⟩ : Addr) = ⟨g5, 0, none⟩ from by rw [hpe]]
           clear hX hpe KV kv0 kvf kvl)
        replace P0 := Lib.hid (P0.out.below hby)
        replace QA := Lib.hid (QA.out.below hby)
        replace QB := Lib.hid (QB.out.below hby)
        clear hby H2 hz2 JU hz
        have P0k0 : y5.1.cell? ⟨W.heap.size, 0, none⟩ = some (.slice AA nA cA) := P0.out.cell 0
        have P0k1 : y5.1.cell? ⟨W.heap.size, 1, none⟩ = some (.slice AB nB cB) := P0.out.cell 1
        have P0k2 : y5.1.cell? ⟨W.heap.size, 2, none⟩ = some (.int .i64 k) := P0.out.cell 2
        have P0l := P0.out.lt
        have P5k0 : y5.1.cell? ⟨g5, 0, none⟩ = some (.slice A5 n5 c5) := P5.out.cell 0
        have P5l := P5.out.lt
        go_wp2
        go_region_held (fun w' => w'.cell? ⟨W.heap.size, 0, none⟩ = some (.slice AA nA cA) ∧ w'.cell? ⟨W.heap.size, 1, none⟩ = some (.slice AB nB cB) ∧ w'.cell? ⟨W.heap.size, 2, none⟩ = some (.int .i64 k) ∧ w'.cell? ⟨g5, 0, none⟩ = some (.slice A5 n5 c5)) (refine ⟨?_, ?_, ?_, ?_⟩ <;> first | assumption | (refine (Kin.cell (W := (Kin.wd y5)) _ ?_).trans ?_ <;> assumption) | simp [*, World.cell?_alloc_some, World.cell?_setCell_far] | ((refine (World.cell?_setCell_other (by simp)).trans ?_); first | assumption | simp [*])) (first | (go_at_call 21; (with_reducible refine (Kin.callK (W := (Kin.wd y5)) (by repeat (first | with_reducible (first | exact blA | exact blB | refine blC _ ?_ | refine blD ?_ ?_ _ | refine blE ?_ | refine blF _ ?_ | refine blG ?_ _ | refine blH ?_ | refine blI ?_ ?_ _) | (simp only [World.size_alloc]; omega) | (simp <;> omega))) (ero_at _ (a) k _ (QA.out.below (by repeat (first | with_reducible (first | exact blA | exact blB | refine blC _ ?_ | refine blD ?_ ?_ _ | refine blE ?_ | refine blF _ ?_ | refine blG ?_ _ | refine blH ?_ | refine blI ?_ ?_ _) | (simp only [World.size_alloc]; omega) | (simp <;> omega)))) BA.out (rfl))).mono ?_); rintro e w' ⟨z1, ⟨z1A, z1n, z1c, rfl, h2⟩, hz, rfl⟩; (have J1 := Lib.hid h2; clear h2)) | (go_at_call 21; (with_reducible refine (Kin.callK (W := (Kin.wd y5)) (by repeat (first | with_reducible (first | exact blA | exact blB | refine blC _ ?_ | refine blD ?_ ?_ _ | refine blE ?_ | refine blF _ ?_ | refine blG ?_ _ | refine blH ?_ | refine blI ?_ ?_ _) | (simp only [World.size_alloc]; omega) | (simp <;> omega))) (ero_at _ (b) k _ (QB.out.below (by repeat (first | with_reducible (first | exact blA | exact blB | refine blC _ ?_ | refine blD ?_ ?_ _ | refine blE ?_ | refine blF _ ?_ | refine blG ?_ _ | refine blH ?_ | refine blI ?_ ?_ _) | (simp only [World.size_alloc]; omega) | (simp <;> omega)))) BB.out (rfl))).mono ?_); rintro e w' ⟨z2, ⟨z2A, z2n, z2c, rfl, h2⟩, hz, rfl⟩; (have J2 := Lib.hid h2; clear h2; have J3 := Lib.hid (J1.out.below hz))) | (go_at_call 37; (with_reducible refine (Kin.callK (W := (Kin.wd y5)) (by repeat (first | with_reducible (first | exact blA | exact blB | refine blC _ ?_ | refine blD ?_ ?_ _ | refine blE ?_ | refine blF _ ?_ | refine blG ?_ _ | refine blH ?_ | refine blI ?_ ?_ _) | (simp only [World.size_alloc]; omega) | (simp <;> omega))) (intersectReg_at _ _ (eroR a k) (eroR b k) _ (J3.out.below (by repeat (first | with_reducible (first | exact blA | exact blB | refine blC _ ?_ | refine blD ?_ ?_ _ | refine blE ?_ | refine blF _ ?_ | refine blG ?_ _ | refine blH ?_ | refine blI ?_ ?_ _) | (simp only [World.size_alloc]; omega) | (simp <;> omega)))) (J2.out.below (by repeat (first | with_reducible (first | exact blA | exact blB | refine blC _ ?_ | refine blD ?_ ?_ _ | refine blE ?_ | refine blF _ ?_ | refine blG ?_ _ | refine blH ?_ | refine blI ?_ ?_ _) | (simp only [World.size_alloc]; omega) | (simp <;> omega)))) (rvalid_bd (eroR_valid _ _)) (rvalid_bd (eroR_valid _ _)) (rfl))).mono ?_); rintro e w' ⟨z4, ⟨z4A, z4n, z4c, rfl, h2⟩, hz, rfl⟩; (have J4 := Lib.hid h2; clear h2)) | (go_at_call 35; (with_reducible refine (Kin.callK (W := (Kin.wd y5)) (by repeat (first | with_reducible (first | exact blA | exact blB | refine blC _ ?_ | refine blD ?_ ?_ _ | refine blE ?_ | refine blF _ ?_ | refine blG ?_ _ | refine blH ?_ | refine blI ?_ ?_ _) | (simp only [World.size_alloc]; omega) | (simp <;> omega))) (sameReg_at (a := rop (opf 1) (eroR a k) (eroR b k)) (b := rop (opf 1) (eroR a k) (eroR b k)) _ _ _ (Q5.out.below (by repeat (first | with_reducible (first | exact blA | exact blB | refine blC _ ?_ | refine blD ?_ ?_ _ | refine blE ?_ | refine blF _ ?_ | refine blG ?_ _ | refine blH ?_ | refine blI ?_ ?_ _) | (simp only [World.size_alloc]; omega) | (simp <;> omega)))) (J4.out.below (by repeat (first | with_reducible (first | exact blA | exact blB | refine blC _ ?_ | refine blD ?_ ?_ _ | refine blE ?_ | refine blF _ ?_ | refine blG ?_ _ | refine blH ?_ | refine blI ?_ ?_ _) | (simp only [World.size_alloc]; omega) | (simp <;> omega)))) (rop_valid (opf_ff 1) _ _) rfl)).mono ?_); rintro e w' ⟨z, rfl, hz, rfl⟩) | (go_at_call 15; (with_reducible refine (Kin.callK (W := (Kin.wd y5)) (by repeat (first | with_reducible (first | exact blA | exact blB | refine blC _ ?_ | refine blD ?_ ?_ _ | refine blE ?_ | refine blF _ ?_ | refine blG ?_ _ | refine blH ?_ | refine blI ?_ ?_ _) | (simp only [World.size_alloc]; omega) | (simp <;> omega))) (awake20_any _)).mono ?_); rintro e w' ⟨z, rfl, hz, rfl⟩))
        all_goals
          go_wp2
          go_ret
          exact ⟨rfl, (by repeat (first | with_reducible (first | exact blA | exact blB | refine blC _ ?_ | refine blD ?_ ?_ _ | refine blE ?_ | refine blF _ ?_ | refine blG ?_ _ | refine blH ?_ | refine blI ?_ ?_ _) | (simp only [World.size_alloc]; omega) | (simp <;> omega)))⟩
end Go.Proofs.Ytjppaknajdbkgaa

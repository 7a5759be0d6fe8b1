/- Contracts of the regions' functions in the forms that the laws use. -/
import Derived.Test.YtjppaknajdbkgaaMorphMathA
namespace Go.Proofs.Ytjppaknajdbkgaa
set_option linter.unusedSimpArgs false
set_option linter.unusedVariables false
open Go.RowKit Runs Reg
attribute [local go_sem] Kin.cell Kin.frozen Kin.lt0 Kin.lt1 Kin.lt2 Kin.lt3 run_mkf
theorem count18_is {n : Int} (v : Value) (rows : List Reg.Row) (w : World) (h : RdReg w v rows) (hbd : RBd rows) (hn : cntR rows = n) :
    Calls Try.prog 38 #[v] w fun e w' => e = .returned (.int .i64 n) ∧ Below w.heap.size w w' := by subst hn; exact count18_any v rows w h hbd
theorem same_is {b : Bool} (v u : Value) (p q : List Reg.Row) (w : World) (ha : RdReg w v p) (hb : RdReg w u q) (ba : RBd p) (bb : RBd q) (he : (rvalid p && rvalid q && decide (p = q)) = b) :
    Calls Try.prog 35 #[v, u] w fun e w' => e = .returned (.bool b) ∧ Below w.heap.size w w' := by subst he; exact same_reg v u p q w ha hb ba bb
theorem same18_is {b : Bool} (v u : Value) (p q : List Reg.Row) (w : World) (ha : RdReg w v p) (hb : RdReg w u q) (ba : RBd p) (bb : RBd q) (he : decide (p = q) = b) :
    Calls Try.prog 20 #[v, u] w fun e w' => e = .returned (.bool b) ∧ Below w.heap.size w w' := by subst he; exact same18_any v u p q w ha hb ba bb
theorem contains18_is {b : Bool} (v : Value) (rows : List Reg.Row) (x y : Int) (w : World) (h : RdReg w v rows) (hbd : RBd rows) (hb : (rvalid rows && memC rows x y) = b) :
    Calls Try.prog 33 #[v, .agg #[.int .i64 x, .int .i64 y]] w fun e w' => e = .returned (.bool b) ∧ Below w.heap.size w w' := by subst hb; exact contains18_any v rows x y w h hbd
theorem containsC_is {b : Bool} (v : Value) (rows : List Reg.Row) (x y : Int) (w : World) (h : RdReg w v rows) (hbd : RBd rows) (hb : (rvalid rows && memC rows x y) = b) :
    Calls Try.prog 34 #[v, .agg #[.int .i64 x, .int .i64 y]] w fun e w' => e = .returned (.bool b) ∧ Below w.heap.size w w' := by subst hb; exact containsC_any v rows x y w h hbd
theorem unionReg_two (v u : Value) (a b : List Reg.Row) (w : World) (ha : RdReg w v a) (hb : RdReg w u b) (va : RBd a) (vb : RBd b) :
    Calls Try.prog 36 #[v, u] w fun e w' => (∃ A n c, e = .returned (.agg #[.slice A n c]) ∧ RdReg w' (.agg #[.slice A n c]) (rop (opf 2) a b)) ∧ Below w.heap.size w w' :=
  (unionReg_any v u a b w ha hb va vb).mono fun e w' ⟨⟨r, he, hr⟩, hb⟩ => ⟨by obtain ⟨A, c, rfl⟩ := hr.slice_; exact ⟨A, _, c, he, hr⟩, hb⟩
theorem intersectReg_two (v u : Value) (a b : List Reg.Row) (w : World) (ha : RdReg w v a) (hb : RdReg w u b) (va : RBd a) (vb : RBd b) :
    Calls Try.prog 37 #[v, u] w fun e w' => (∃ A n c, e = .returned (.agg #[.slice A n c]) ∧ RdReg w' (.agg #[.slice A n c]) (rop (opf 1) a b)) ∧ Below w.heap.size w w' :=
  (intersectReg_any v u a b w ha hb va vb).mono fun e w' ⟨⟨r, he, hr⟩, hb⟩ => ⟨by obtain ⟨A, c, rfl⟩ := hr.slice_; exact ⟨A, _, c, he, hr⟩, hb⟩
theorem subtractReg_two (v u : Value) (a b : List Reg.Row) (w : World) (ha : RdReg w v a) (hb : RdReg w u b) (va : RBd a) (vb : RBd b) :
    Calls Try.prog 53 #[v, u] w fun e w' => (∃ A n c, e = .returned (.agg #[.slice A n c]) ∧ n = (rop (opf 0) a b).length ∧ RdReg w' (.agg #[.slice A n c]) (rop (opf 0) a b)) ∧ Below w.heap.size w w' :=
  (subtractReg_any v u a b w ha hb va vb).mono fun e w' ⟨⟨r, he, hr⟩, hb⟩ => ⟨by obtain ⟨A, c, rfl⟩ := hr.slice_; exact ⟨A, _, c, he, rfl, hr⟩, hb⟩
theorem run_fieldR (A : Option Addr) (n c : Nat) (w : World) : (Instr.field 24 (.agg #[.slice A n c]) 0).run Try.prog w = .ok (.slice A n c) w := by
  have h := Try.underlying24
  simp [Instr.field, run_underlying h, go_sem, part, asAgg]
set_option maxRecDepth 100000 in
set_option maxHeartbeats 8000000 in
theorem within_is {b : Bool} (v u : Value) (p q : List Reg.Row) (w : World) (ha : RdReg w v p) (hb : RdReg w u q) (ba : RBd p) (bb : RBd q) (he : withinR p q = b) :
    Calls Try.prog 32 #[v, u] w fun e w' => e = .returned (.bool b) ∧ Below w.heap.size w w' := by
  subst he
  have HA := Lib.hid ha
  have HB := Lib.hid hb
  have BA := Lib.hid ba
  have BB := Lib.hid bb
  obtain ⟨A, capA, rfl⟩ := ha.slice_
  obtain ⟨B, capB, rfl⟩ := hb.slice_
  have hfr := run_fieldR
  clear ha hb ba bb
  unfold withinR
  cases va : rvalid p
  · simp only [Bool.false_and]
    go_enter Try.func32, Try.ntmps32
    go_wp2_with (go_at_call 60; (with_reducible refine (Kin.callK (W := (w.alloc (.cells #[.slice A p.length capA] 24)).alloc (.cells #[.slice B q.length capB] 24)) (by repeat (first | with_reducible (first | exact blA | exact blB | refine blC _ ?_ | refine blD ?_ ?_ _ | refine blE ?_ | refine blF _ ?_ | refine blG ?_ _ | refine blH ?_ | refine blI ?_ ?_ _) | (simp only [World.size_alloc]; omega) | (simp <;> omega))) (rvalid_is _ p _ (HA.out.below (by repeat (first | with_reducible (first | exact blA | exact blB | refine blC _ ?_ | refine blD ?_ ?_ _ | refine blE ?_ | refine blF _ ?_ | refine blG ?_ _ | refine blH ?_ | refine blI ?_ ?_ _) | (simp only [World.size_alloc]; omega) | (simp <;> omega)))) BA.out va)).mono ?_); rintro e w' ⟨z, rfl, hz, rfl⟩)
    go_ret
    exact ⟨rfl, (by repeat (first | with_reducible (first | exact blA | exact blB | refine blC _ ?_ | refine blD ?_ ?_ _ | refine blE ?_ | refine blF _ ?_ | refine blG ?_ _ | refine blH ?_ | refine blI ?_ ?_ _) | (simp only [World.size_alloc]; omega) | (simp <;> omega)))⟩
  cases vb : rvalid q
  · simp only [Bool.false_and, Bool.and_false]
    go_enter Try.func32, Try.ntmps32
    go_wp2_with (first | (go_at_call 60; (with_reducible refine (Kin.callK (W := (w.alloc (.cells #[.slice A p.length capA] 24)).alloc (.cells #[.slice B q.length capB] 24)) (by repeat (first | with_reducible (first | exact blA | exact blB | refine blC _ ?_ | refine blD ?_ ?_ _ | refine blE ?_ | refine blF _ ?_ | refine blG ?_ _ | refine blH ?_ | refine blI ?_ ?_ _) | (simp only [World.size_alloc]; omega) | (simp <;> omega))) (rvalid_is _ p _ (HA.out.below (by repeat (first | with_reducible (first | exact blA | exact blB | refine blC _ ?_ | refine blD ?_ ?_ _ | refine blE ?_ | refine blF _ ?_ | refine blG ?_ _ | refine blH ?_ | refine blI ?_ ?_ _) | (simp only [World.size_alloc]; omega) | (simp <;> omega)))) BA.out va)).mono ?_); rintro e w' ⟨z, rfl, hz, rfl⟩) | (go_at_call 60; (with_reducible refine (Kin.callK (W := (w.alloc (.cells #[.slice A p.length capA] 24)).alloc (.cells #[.slice B q.length capB] 24)) (by repeat (first | with_reducible (first | exact blA | exact blB | refine blC _ ?_ | refine blD ?_ ?_ _ | refine blE ?_ | refine blF _ ?_ | refine blG ?_ _ | refine blH ?_ | refine blI ?_ ?_ _) | (simp only [World.size_alloc]; omega) | (simp <;> omega))) (rvalid_is _ q _ (HB.out.below (by repeat (first | with_reducible (first | exact blA | exact blB | refine blC _ ?_ | refine blD ?_ ?_ _ | refine blE ?_ | refine blF _ ?_ | refine blG ?_ _ | refine blH ?_ | refine blI ?_ ?_ _) | (simp only [World.size_alloc]; omega) | (simp <;> omega)))) BB.out vb)).mono ?_); rintro e w' ⟨z, rfl, hz, rfl⟩))
    go_ret
    exact ⟨rfl, (by repeat (first | with_reducible (first | exact blA | exact blB | refine blC _ ?_ | refine blD ?_ ?_ _ | refine blE ?_ | refine blF _ ?_ | refine blG ?_ _ | refine blH ?_ | refine blI ?_ ?_ _) | (simp only [World.size_alloc]; omega) | (simp <;> omega)))⟩
  simp only [Bool.true_and]
  obtain ⟨n, hn⟩ : ∃ n, (rop (opf 0) p q).length = n := ⟨_, rfl⟩
  have HN := Lib.hid hn
  have e : (rop (opf 0) p q).isEmpty = decide (n = 0) := by
    cases hr : rop (opf 0) p q <;> rw [hr] at hn <;> simp at hn <;> subst hn <;> simp
  rw [e]
  clear e hn
  go_enter Try.func32, Try.ntmps32
  go_wp2_with (first
    | (go_at_call 60; (with_reducible refine (Kin.callK (W := (w.alloc (.cells #[.slice A p.length capA] 24)).alloc (.cells #[.slice B q.length capB] 24)) (by repeat (first | with_reducible (first | exact blA | exact blB | refine blC _ ?_ | refine blD ?_ ?_ _ | refine blE ?_ | refine blF _ ?_ | refine blG ?_ _ | refine blH ?_ | refine blI ?_ ?_ _) | (simp only [World.size_alloc]; omega) | (simp <;> omega))) (rvalid_is _ p _ (HA.out.below (by repeat (first | with_reducible (first | exact blA | exact blB | refine blC _ ?_ | refine blD ?_ ?_ _ | refine blE ?_ | refine blF _ ?_ | refine blG ?_ _ | refine blH ?_ | refine blI ?_ ?_ _) | (simp only [World.size_alloc]; omega) | (simp <;> omega)))) BA.out va)).mono ?_); rintro e w' ⟨z, rfl, hz, rfl⟩)
    | (go_at_call 60; (with_reducible refine (Kin.callK (W := (w.alloc (.cells #[.slice A p.length capA] 24)).alloc (.cells #[.slice B q.length capB] 24)) (by repeat (first | with_reducible (first | exact blA | exact blB | refine blC _ ?_ | refine blD ?_ ?_ _ | refine blE ?_ | refine blF _ ?_ | refine blG ?_ _ | refine blH ?_ | refine blI ?_ ?_ _) | (simp only [World.size_alloc]; omega) | (simp <;> omega))) (rvalid_is _ q _ (HB.out.below (by repeat (first | with_reducible (first | exact blA | exact blB | refine blC _ ?_ | refine blD ?_ ?_ _ | refine blE ?_ | refine blF _ ?_ | refine blG ?_ _ | refine blH ?_ | refine blI ?_ ?_ _) | (simp only [World.size_alloc]; omega) | (simp <;> omega)))) BB.out vb)).mono ?_); rintro e w' ⟨z, rfl, hz, rfl⟩)
    | (go_at_call 53; (with_reducible refine (Kin.callK (W := (w.alloc (.cells #[.slice A p.length capA] 24)).alloc (.cells #[.slice B q.length capB] 24)) (by repeat (first | with_reducible (first | exact blA | exact blB | refine blC _ ?_ | refine blD ?_ ?_ _ | refine blE ?_ | refine blF _ ?_ | refine blG ?_ _ | refine blH ?_ | refine blI ?_ ?_ _) | (simp only [World.size_alloc]; omega) | (simp <;> omega))) (subtractReg_two _ _ p q _ (HA.out.below (by repeat (first | with_reducible (first | exact blA | exact blB | refine blC _ ?_ | refine blD ?_ ?_ _ | refine blE ?_ | refine blF _ ?_ | refine blG ?_ _ | refine blH ?_ | refine blI ?_ ?_ _) | (simp only [World.size_alloc]; omega) | (simp <;> omega)))) (HB.out.below (by repeat (first | with_reducible (first | exact blA | exact blB | refine blC _ ?_ | refine blD ?_ ?_ _ | refine blE ?_ | refine blF _ ?_ | refine blG ?_ _ | refine blH ?_ | refine blI ?_ ?_ _) | (simp only [World.size_alloc]; omega) | (simp <;> omega)))) BA.out BB.out)).mono ?_); rintro e w' ⟨z, ⟨R, nR, cR, rfl, hR, hr⟩, hz, rfl⟩; (rw [HN.out] at hR; subst hR; clear hr)))
  go_ret
  exact ⟨ret_bool (by first | rfl | (simp; done) | (rw [Bool.eq_iff_iff]; simp)), (by repeat (first | with_reducible (first | exact blA | exact blB | refine blC _ ?_ | refine blD ?_ ?_ _ | refine blE ?_ | refine blF _ ?_ | refine blG ?_ _ | refine blH ?_ | refine blI ?_ ?_ _) | (simp only [World.size_alloc]; omega) | (simp <;> omega)))⟩
end Go.Proofs.Ytjppaknajdbkgaa

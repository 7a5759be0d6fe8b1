/- What region.Valid returns. -/
import Derived.Test.YtneelidbgigehaaGreatRegWalks
import Derived.Test.YtneelidbgigehaaGreatPlain
namespace Go.Proofs.YtneelidbgigehaaGreat
set_option linter.unusedSimpArgs false
set_option linter.unusedVariables false
open Go.RowKit Runs Reg
attribute [local go_sem] Kin.cell Kin.frozen Kin.lt0 Kin.lt1 Kin.lt2 Kin.lt3 run_mkf
theorem fine_empty {l : List Run} (h : l.length = 0) : fine l = false := by
  have : l = [] := List.eq_nil_of_length_eq_zero h
  subst this; rfl
theorem fine_invalid {l : List Run} (h : valid l = false) : fine l = false := by unfold fine; rw [h]; rfl
set_option maxRecDepth 100000 in
set_option maxHeartbeats 4000000 in
theorem rvalid_any (v : Value) (rows : List Reg.Row) (w : World) (h : RdReg w v rows) (hbd : RBd rows) :
    Calls Tryz.prog 27 #[v] w fun e w' => e = .returned (.bool (rvalid rows)) ∧ Below w.heap.size w w' := by
  obtain ⟨s, rfl, h⟩ := h
  obtain ⟨A, capA, rfl, hcapA, hopA⟩ := rows_open h
  have HA := Lib.hid hopA
  have HLA := Lib.hid h
  clear hopA h
  have hlen := hbd.1
  have Hbd := Lib.hid hbd.2
  clear hbd
  go_enter Tryz.func27, Tryz.ntmps27
  go_wp2
  go_loopw [8] (fun i wr => ∃ k : Nat, k ≤ rows.length ∧ i = .int .i64 k ∧ Hid (rvalidTo rows k = true) ∧ ∃ z : Kin (w.alloc (.cells #[.slice A rows.length capA] 24)), z.1 = wr) (fun i _ => rows.length - (intOf i).toNat)
  case atStart => exact ⟨0, Nat.zero_le _, rfl, rfl, ⟨_, Below.refl _ _⟩, rfl⟩
  case round =>
    obtain ⟨k, hk, rfl, hval, z, rfl⟩ := hrel
    by_cases hlt : k < rows.length
    · obtain ⟨r, hr⟩ : ∃ el_, (rows)[k]? = some el_ := ⟨_, List.getElem?_eq_getElem (by first | exact hlt | omega)⟩
      obtain ⟨bA, offA, ⟨⟩, hbA, hcA⟩ := HA.out (k) _ hr
      have hbA2 : bA < w.heap.size + 1 := by omega
      have HAc := Lib.hid hcA
      clear hcA
      obtain ⟨S, capS, r_0, r_1, hcapS, hrS⟩ := HAc.out (k) r hr
      have HLS := Lib.hid hrS
      have Hr := Lib.hid hr
      clear hr hrS
      obtain ⟨q, hq⟩ : ∃ q : Reg.Row, ∀ x, rows[k - 1]? = some x → x = q := ⟨(rows[k - 1]?).getD (0, []), fun x hx => by simp [hx]⟩
      have cq : (0 : Int) < (k : Int) → w.cell? ⟨bA, offA + (k - 1) * 2, none⟩ = some (.int .i64 q.1) := fun h0 => by
        have hl : rows[k - 1]? = some rows[k - 1] := List.getElem?_eq_getElem (by omega)
        obtain ⟨_, _, this, _⟩ := HAc.out (k - 1) _ hl
        rw [hq _ hl] at this
        exact this
      have Hq := Lib.hid hq
      clear hq
      have hrl := Hbd.out r (List.mem_of_getElem? Hr.out)
      by_cases h0 : r.2.length = 0
      · have hf0 := Lib.hid (fine_empty h0)
        have hb0 : (((r.2.length : Nat) : Int) == 0) = true := by simp [h0]
        clear h0
        go_wp2
        ((refine wp_region_kinK (W := w.alloc (.cells #[.slice (some ⟨bA, offA, none⟩) rows.length capA] 24)) (by kernel_rfl) (by kernel_rfl) (by repeat (first | with_reducible (first | exact blA | exact blB | refine blC _ ?_ | refine blD ?_ ?_ _ | refine blE ?_ | refine blF _ ?_ | refine blG ?_ _ | refine blH ?_ | refine blI ?_ ?_ _) | (simp only [World.size_alloc]; omega) | (simp <;> omega))) ?_); (repeat' (first | go_big_quiet_step (first | (go_at_call 52; exact Kin.quiet _ (okC_any _ _)) | (go_at_call 53; exact Kin.quiet _ (valid_any _ r.2 _ (HLS.out.below (by repeat (first | with_reducible (first | exact blA | exact blB | refine blC _ ?_ | refine blD ?_ ?_ _ | refine blE ?_ | refine blF _ ?_ | refine blG ?_ _ | refine blH ?_ | refine blI ?_ ?_ _) | (simp only [World.size_alloc]; omega) | (simp <;> omega)))) (by omega)))) | ((refine wpQuiet_guard rfl rfl rfl rfl (fun hg => ?_) (fun hg => ?_)) <;> (fail_if_success (first | guard_hyp hg : true = true | guard_hyp hg : false = false)) <;> (try simp only [decide_eq_true_eq, decide_eq_false_iff_not] at hg) <;> simp only [Act.put, List.setIfInBounds_toArray, List.set_cons_zero, List.set_cons_succ]))); all_goals ((with_reducible refine wpQuiet_nil ?_); intro zq hz))
        all_goals go_wp2
        all_goals (go_ret; refine ⟨ret_bool ?_, (by repeat (first | with_reducible (first | exact blA | exact blB | refine blC _ ?_ | refine blD ?_ ?_ _ | refine blE ?_ | refine blF _ ?_ | refine blG ?_ _ | refine blH ?_ | refine blI ?_ ?_ _) | (simp only [World.size_alloc]; omega) | (simp <;> omega)))⟩; refine (rvalid_false hlt ?_).symm; first | exact rstep_f2 Hr.out hf0.out | (refine rstep_f1 Hr.out ?_; exact not_t (by assumption)) | (refine rstep_f3 Hr.out Hq.out ?_ ?_ <;> omega))
      · have HS := Lib.hid (Rd.op HLS.out)
        have HLS := Lib.hid HLS.out
        obtain ⟨e, he⟩ : ∃ el_, (r.2)[0]? = some el_ := ⟨_, List.getElem?_eq_getElem (by first | exact (by omega) | omega)⟩
        obtain ⟨bS, offS, rfl, hbS, hcS⟩ := HS.out (0) _ he
        have e_0 : w.cell? ⟨bS, offS + 0 * 2, none⟩ = some (.int .i64 e.1) := by exact hcS (0) _ he 0 _ rfl
        have e_1 : w.cell? ⟨bS, offS + 0 * 2 + 1, none⟩ = some (.int .i64 e.2) := by exact hcS (0) _ he 1 _ rfl
        have hbS2 : bS < w.heap.size + 1 := by omega
        have HSc := Lib.hid hcS
        have He := Lib.hid he
        clear he hcS
        rw [show offS + 0 * 2 = offS from by omega] at e_0
        obtain ⟨f, hf⟩ : ∃ el_, (r.2)[r.2.length - 1]? = some el_ := ⟨_, List.getElem?_eq_getElem (by first | exact (by omega) | omega)⟩
        have f_0 : w.cell? ⟨bS, offS + (r.2.length - 1) * 2, none⟩ = some (.int .i64 f.1) := by exact HSc.out (r.2.length - 1) _ hf 0 _ rfl
        have f_1 : w.cell? ⟨bS, offS + (r.2.length - 1) * 2 + 1, none⟩ = some (.int .i64 f.2) := by exact HSc.out (r.2.length - 1) _ hf 1 _ rfl
        have Hf := Lib.hid hf
        clear hf
        have hb0 : (((r.2.length : Nat) : Int) == 0) = false := by rw [beq_eq_false_iff_ne]; omega
        go_wp2
        ((refine wp_region_kinK (W := w.alloc (.cells #[.slice (some ⟨bA, offA, none⟩) rows.length capA] 24)) (by kernel_rfl) (by kernel_rfl) (by repeat (first | with_reducible (first | exact blA | exact blB | refine blC _ ?_ | refine blD ?_ ?_ _ | refine blE ?_ | refine blF _ ?_ | refine blG ?_ _ | refine blH ?_ | refine blI ?_ ?_ _) | (simp only [World.size_alloc]; omega) | (simp <;> omega))) ?_); (repeat' (first | go_big_quiet_step (first | (go_at_call 52; exact Kin.quiet _ (okC_any _ _)) | (go_at_call 53; exact Kin.quiet _ (valid_any _ r.2 _ (HLS.out.below (by repeat (first | with_reducible (first | exact blA | exact blB | refine blC _ ?_ | refine blD ?_ ?_ _ | refine blE ?_ | refine blF _ ?_ | refine blG ?_ _ | refine blH ?_ | refine blI ?_ ?_ _) | (simp only [World.size_alloc]; omega) | (simp <;> omega)))) (by omega)))) | ((refine wpQuiet_guard rfl rfl rfl rfl (fun hg => ?_) (fun hg => ?_)) <;> (fail_if_success (first | guard_hyp hg : true = true | guard_hyp hg : false = false)) <;> (try simp only [decide_eq_true_eq, decide_eq_false_iff_not] at hg) <;> simp only [Act.put, List.setIfInBounds_toArray, List.set_cons_zero, List.set_cons_succ]))); all_goals ((with_reducible refine wpQuiet_nil ?_); intro zq hz))
        all_goals
          have hP := Lib.hid ((Blk.new z.1 44 #[.int .i64 r.1, .slice (some ⟨bS, offS, none⟩) r.2.length capS]).below hz)
          have p1 : zq.1.cell? ⟨z.1.heap.size, 1, none⟩ = some (.slice (some ⟨bS, offS, none⟩) r.2.length capS) := hP.out.cell 1
          have plt := hP.out.lt
          go_wp2_with (go_at_call 52; (with_reducible refine (Kin.callK (W := w.alloc (.cells #[.slice (some ⟨bA, offA, none⟩) rows.length capA] 24)) (by repeat (first | with_reducible (first | exact blA | exact blB | refine blC _ ?_ | refine blD ?_ ?_ _ | refine blE ?_ | refine blF _ ?_ | refine blG ?_ _ | refine blH ?_ | refine blI ?_ ?_ _) | (simp only [World.size_alloc]; omega) | (simp <;> omega))) (okC_any _ _)).mono ?_); rintro e w' ⟨z3, rfl, hz3, rfl⟩; (first | (have p3 : (Kin.wd z3).cell? ⟨(Kin.wd z).heap.size, 1, none⟩ = some (.slice (some ⟨bS, offS, none⟩) r.2.length capS) := (hP.out.below hz3).cell 1; have plt3 := (hP.out.below hz3).lt; clear p1 plt) | skip))
        all_goals first
          | (go_ret; refine ⟨ret_bool ?_, (by repeat (first | with_reducible (first | exact blA | exact blB | refine blC _ ?_ | refine blD ?_ ?_ _ | refine blE ?_ | refine blF _ ?_ | refine blG ?_ _ | refine blH ?_ | refine blI ?_ ?_ _) | (simp only [World.size_alloc]; omega) | (simp <;> omega)))⟩; refine (rvalid_false hlt ?_).symm; first | (refine rstep_f1 Hr.out ?_; exact not_t (by assumption)) | (refine rstep_f3 Hr.out Hq.out ?_ ?_ <;> omega) | (refine rstep_f2 Hr.out (fine_invalid ?_); exact not_t (by assumption)))
          | skip
        all_goals
          have hv : valid r.2 = true := not_f (by assumption)
          have ho : okC r.1 = true := not_f (by assumption)
          have hb := valid_fits hv Hf.out
          have hw : wrap64 (f.2 - 1) = f.2 - 1 := IntWalk.wrap64_in _ (by omega)
          have hfe := fine_ends hv (n := r.2.length - 1) (by omega) He.out Hf.out
          first
            | (go_ret; refine ⟨ret_bool ?_, (by repeat (first | with_reducible (first | exact blA | exact blB | refine blC _ ?_ | refine blD ?_ ?_ _ | refine blE ?_ | refine blF _ ?_ | refine blG ?_ _ | refine blH ?_ | refine blI ?_ ?_ _) | (simp only [World.size_alloc]; omega) | (simp <;> omega)))⟩; refine (rvalid_false hlt (rstep_f2 Hr.out ?_)).symm; rw [hfe]; simp only [Bool.and_eq_false_iff]; first | (left; rw [Bool.eq_false_iff]; assumption) | (right; rw [← hw]; apply not_t; assumption))
            | (have hf : fine r.2 = true := by (rw [hfe]; simp only [Bool.and_eq_true]; constructor; assumption; rw [← hw]; apply not_f; assumption)
               go_roundw
               case rel => exact ⟨k + 1, by omega, by go_num, rvalidTo_succ hval.out (rstep_t Hr.out Hq.out ho hf (by omega)), z3, rfl⟩
               case measure => simp [intOf]; omega)
    · go_wp2
      go_ret
      have : k = rows.length := by omega
      exact ⟨ret_bool (by rw [rvalid, ← this]; exact hval.out.symm), (by repeat (first | with_reducible (first | exact blA | exact blB | refine blC _ ?_ | refine blD ?_ ?_ _ | refine blE ?_ | refine blF _ ?_ | refine blG ?_ _ | refine blH ?_ | refine blI ?_ ?_ _) | (simp only [World.size_alloc]; omega) | (simp <;> omega)))⟩
theorem rvalid_is {b : Bool} (v : Value) (rows : List Reg.Row) (w : World) (h : RdReg w v rows) (hbd : RBd rows) (hv : rvalid rows = b) :
    Calls Tryz.prog 27 #[v] w fun e w' => e = .returned (.bool b) ∧ Below w.heap.size w w' := by subst hv; exact rvalid_any v rows w h hbd
theorem valid18_is {b : Bool} (v : Value) (rows : List Reg.Row) (w : World) (h : RdReg w v rows) (hbd : RBd rows) (hv : rvalid rows = b) :
    Calls Tryz.prog 5 #[v] w fun e w' => e = .returned (.bool b) ∧ Below w.heap.size w w' := by subst hv; exact valid18_any v rows w h hbd
theorem vreg_bd {rows : List Reg.Row} (h : VReg rows) : RBd rows := ⟨Nat.le_trans (vreg_len h).1 (by decide), fun w hw => Nat.le_trans ((vreg_len h).2 w hw) (by decide)⟩
end Go.Proofs.YtneelidbgigehaaGreat

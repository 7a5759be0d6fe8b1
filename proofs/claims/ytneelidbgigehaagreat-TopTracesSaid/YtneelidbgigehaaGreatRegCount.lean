/- Counting the cells of regions. -/
import Derived.Test.YtneelidbgigehaaGreatRegMathB
import Derived.Test.YtneelidbgigehaaGreatRegWalks2
namespace Go.Proofs.YtneelidbgigehaaGreat
set_option linter.unusedSimpArgs false
set_option linter.unusedVariables false
open Go.RowKit Runs Reg
attribute [local go_sem] Kin.cell Kin.frozen Kin.lt0 Kin.lt1 Kin.lt2 Kin.lt3 run_mkf
set_option maxRecDepth 100000 in
set_option maxHeartbeats 8000000 in
theorem count18_any (v : Value) (rows : List Reg.Row) (w : World) (h : RdReg w v rows) (hbd : RBd rows) :
    Calls Tryz.prog 18 #[v] w fun e w' => e = .returned (.int .i64 (cntR rows)) ∧ Below w.heap.size w w' := by
  have H := Lib.hid h
  have Hbd := Lib.hid hbd
  obtain ⟨s, rfl, h⟩ := h
  obtain ⟨A, capA, rfl, hcapA, hopA⟩ := rows_open h
  have HA := Lib.hid hopA
  have HLA := Lib.hid h
  clear hopA h
  clear hbd
  cases hv : rvalid rows
  · go_enter Tryz.func18, Tryz.ntmps18
    go_wp2_with (go_at_call 5; (with_reducible refine (Kin.callK (W := w) (by repeat (first | with_reducible (first | exact blA | exact blB | refine blC _ ?_ | refine blD ?_ ?_ _ | refine blE ?_ | refine blF _ ?_ | refine blG ?_ _ | refine blH ?_ | refine blI ?_ ?_ _) | (simp only [World.size_alloc]; omega) | (simp <;> omega))) (valid18_is _ rows _ (H.out.below (by repeat (first | with_reducible (first | exact blA | exact blB | refine blC _ ?_ | refine blD ?_ ?_ _ | refine blE ?_ | refine blF _ ?_ | refine blG ?_ _ | refine blH ?_ | refine blI ?_ ?_ _) | (simp only [World.size_alloc]; omega) | (simp <;> omega)))) Hbd.out hv)).mono ?_); rintro e w' ⟨z, rfl, hz, rfl⟩)
    go_ret
    exact ⟨ret_int (by simp [cntR, hv]), (by repeat (first | with_reducible (first | exact blA | exact blB | refine blC _ ?_ | refine blD ?_ ?_ _ | refine blE ?_ | refine blF _ ?_ | refine blG ?_ _ | refine blH ?_ | refine blI ?_ ?_ _) | (simp only [World.size_alloc]; omega) | (simp <;> omega)))⟩
  · have hlen : rows.length ≤ 8192 := (vreg_len (rvalid_iff.1 hv)).1
    have HV := Lib.hid (rvalid_iff.1 hv)
    go_enter Tryz.func18, Tryz.ntmps18
    go_wp2_with (go_at_call 5; (with_reducible refine (Kin.callK (W := w.alloc (.cells #[.slice A rows.length capA] 24)) (by repeat (first | with_reducible (first | exact blA | exact blB | refine blC _ ?_ | refine blD ?_ ?_ _ | refine blE ?_ | refine blF _ ?_ | refine blG ?_ _ | refine blH ?_ | refine blI ?_ ?_ _) | (simp only [World.size_alloc]; omega) | (simp <;> omega))) (valid18_is _ rows _ (H.out.below (by repeat (first | with_reducible (first | exact blA | exact blB | refine blC _ ?_ | refine blD ?_ ?_ _ | refine blE ?_ | refine blF _ ?_ | refine blG ?_ _ | refine blH ?_ | refine blI ?_ ?_ _) | (simp only [World.size_alloc]; omega) | (simp <;> omega)))) Hbd.out hv)).mono ?_); rintro e w' ⟨z, rfl, hz, rfl⟩)
    go_loopw [3, 4] (fun n i wr => ∃ k : Nat, k ≤ rows.length ∧ i = .int .i64 k ∧ n = .int .i64 (sumR (rows.take k)) ∧ ∃ z : Kin (w.alloc (.cells #[.slice A rows.length capA] 24)), z.1 = wr) (fun _ i _ => rows.length - (intOf i).toNat)
    case atStart => exact ⟨0, Nat.zero_le _, rfl, rfl, z, rfl⟩
    case round =>
      obtain ⟨k, hk, rfl, rfl, z, rfl⟩ := hrel
      have hsum := sumR_bd HV.out k hk
      by_cases hlt : k < rows.length
      · obtain ⟨r, hr⟩ : ∃ el_, (rows)[k]? = some el_ := ⟨_, List.getElem?_eq_getElem (by first | exact hlt | omega)⟩
        obtain ⟨bA, offA, ⟨⟩, hbA, hcA⟩ := HA.out (k) _ hr
        have hbA2 : bA < w.heap.size + 1 := by omega
        have HAc := Lib.hid hcA
        clear hcA
        obtain ⟨S, capS, r_0, r_1, hcapS, hrS⟩ := HAc.out (k) r hr
        have HLS := Lib.hid hrS
        have Hr := Lib.hid hr
        clear hr hrS
        have hin : SepIn r.2 := (fine_sepIn.1 (HV.out.1 r (List.mem_of_getElem? Hr.out)).2).1
        have hll := sepIn_len hin
        have HIN := Lib.hid hin
        have HS := Lib.hid (Rd.op HLS.out)
        have HLS := Lib.hid HLS.out
        clear hin
        go_wp2
        go_loopw [3, 5] (fun n i wr => ∃ j : Nat, j ≤ r.2.length ∧ i = .int .i64 j ∧ n = .int .i64 (sumR (rows.take k) + sumL (r.2.take j)) ∧ ∃ z : Kin (w.alloc (.cells #[.slice (some ⟨bA, offA, none⟩) rows.length capA] 24)), z.1 = wr) (fun _ i _ => r.2.length - (intOf i).toNat)
        case atStart => exact ⟨0, Nat.zero_le _, rfl, by simp [sumL], z, rfl⟩
        case round =>
          obtain ⟨j, hj, rfl, rfl, z2, rfl⟩ := hrel
          have hs2 := sumL_in (sepIn_take HIN.out j)
          by_cases hlt2 : j < r.2.length
          · obtain ⟨e, he⟩ : ∃ el_, (r.2)[j]? = some el_ := ⟨_, List.getElem?_eq_getElem (by first | exact hlt2 | omega)⟩
            obtain ⟨bS, offS, rfl, hbS, hcS⟩ := HS.out (j) _ he
            have e_0 : w.cell? ⟨bS, offS + j * 2, none⟩ = some (.int .i64 e.1) := by exact hcS (j) _ he 0 _ rfl
            have e_1 : w.cell? ⟨bS, offS + j * 2 + 1, none⟩ = some (.int .i64 e.2) := by exact hcS (j) _ he 1 _ rfl
            have hbS2 : bS < w.heap.size + 1 := by omega
            have HSc := Lib.hid hcS
            have He := Lib.hid he
            clear he hcS
            have hs3 := sumL_in (sepIn_take HIN.out (j + 1))
            rw [sumL_succ He.out] at hs3
            have hei := HIN.out.2 e (List.mem_of_getElem? He.out)
            have hw1 : IntKind.i64.wrap (e.2 - e.1) = e.2 - e.1 := IntWalk.i64_in _ (by have := HIN.out.1.1 e (List.mem_of_getElem? He.out); omega)
            have hw2 : IntKind.i64.wrap (sumR (rows.take k) + sumL (r.2.take j) + (e.2 - e.1)) = sumR (rows.take k) + sumL (r.2.take j) + (e.2 - e.1) := IntWalk.i64_in _ (by omega)
            go_wp2
            ((refine wp_region_kinK (W := w.alloc (.cells #[.slice (some ⟨bA, offA, none⟩) rows.length capA] 24)) (by kernel_rfl) (by kernel_rfl) (by repeat (first | with_reducible (first | exact blA | exact blB | refine blC _ ?_ | refine blD ?_ ?_ _ | refine blE ?_ | refine blF _ ?_ | refine blG ?_ _ | refine blH ?_ | refine blI ?_ ?_ _) | (simp only [World.size_alloc]; omega) | (simp <;> omega))) ?_); (repeat' (first | go_big_quiet_step (fail) | ((refine wpQuiet_guard rfl rfl rfl rfl (fun hg => ?_) (fun hg => ?_)) <;> (fail_if_success (first | guard_hyp hg : true = true | guard_hyp hg : false = false)) <;> (try simp only [decide_eq_true_eq, decide_eq_false_iff_not] at hg) <;> simp only [Act.put, List.setIfInBounds_toArray, List.set_cons_zero, List.set_cons_succ]))); all_goals ((with_reducible refine wpQuiet_nil ?_); intro zq hz))
            go_wp2
            go_roundw
            case rel => exact ⟨j + 1, by omega, by go_num, by rw [sumL_succ He.out, Int.add_assoc], zq, rfl⟩
            case measure => simp [intOf]; omega
          · have ej : j = r.2.length := by omega
            go_wp2
            go_roundw
            case rel => exact ⟨k + 1, by omega, by go_num, by rw [sumR_succ Hr.out, ej, List.take_length], z2, rfl⟩
            case measure => simp [intOf]; omega
      · go_wp2
        go_ret
        have : k = rows.length := by omega
        exact ⟨ret_int (by simp [cntR, hv, this]), (by repeat (first | with_reducible (first | exact blA | exact blB | refine blC _ ?_ | refine blD ?_ ?_ _ | refine blE ?_ | refine blF _ ?_ | refine blG ?_ _ | refine blH ?_ | refine blI ?_ ?_ _) | (simp only [World.size_alloc]; omega) | (simp <;> omega)))⟩
end Go.Proofs.YtneelidbgigehaaGreat

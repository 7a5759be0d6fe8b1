/- The least segment of the chapter, walked. -/
import Derived.Test.YteadnlodccnfcaaCtrChS
namespace Go.Proofs.Yteadnlodccnfcaa
set_option linter.unusedSimpArgs false
set_option linter.unusedVariables false
set_option maxRecDepth 100000
open Go.RowKit Planar
attribute [local go_sem] Kin.cell Kin.frozen Kin.lt0 Kin.lt1 Kin.lt2 Kin.lt3 run_mkf
set_option maxHeartbeats 16000000 in
theorem leastR_any (v dv : Value) (l : List Sg) (dn : List Bool) (st : Bool) (p : Pt) (w : World) (h : Rd 4 encSg w v l) (hd : Rd 1 encB w dv dn) (hdl : dn.length = l.length) (hl : l.length ≤ 1000000000) :
    Calls Try.prog 38 #[v, dv, .bool st, .agg #[.int .i64 p.1, .int .i64 p.2]] w fun e w' => (∃ r, e = .returned (.int .i64 r) ∧ LeastP l dn st p l.length r) ∧ Below w.heap.size w w' := by
  obtain ⟨A, capA, rfl, hcapA, hopA⟩ := h.open_
  have HA := Lib.hid hopA
  have HLA := Lib.hid h
  clear hopA h
  obtain ⟨D, capD, rfl, hcapD, hopD⟩ := hd.open_
  have HD := Lib.hid hopD
  have HLD := Lib.hid hd
  clear hopD hd
  have HDL := Lib.hid hdl
  rw [hdl] at hcapD ⊢
  clear hdl
  go_enter Try.func38, Try.ntmps38
  go_wp2_with fail
  obtain ⟨y0, hy0⟩ : ∃ y0 : Kin w, y0.1 = w.alloc (.cells #[.int .i64 p.1, .int .i64 p.2] 36) := ⟨⟨w.alloc _, (by repeat (first | with_reducible (first | exact blA | exact blB | refine blC _ ?_ | refine blD ?_ ?_ _ | refine blE ?_ | refine blF _ ?_ | refine blG ?_ _ | refine blH ?_ | refine blI ?_ ?_ _) | (simp only [World.size_alloc]; omega) | (simp <;> omega)))⟩, rfl⟩
  have B0 := Blk.new w 36 #[.int .i64 p.1, .int .i64 p.2]
  rw [← hy0] at B0 ⊢
  have HB0 := Lib.hid B0
  clear B0 hy0
  go_wp2_with fail
  go_loopw [9, 10] (fun m i wr => ∃ (k : Nat) (r : Int), k ≤ l.length ∧ i = .int .i64 k ∧ m = .int .i64 r ∧ Hid (LeastP l dn st p k r) ∧ ∃ y : Kin y0.1, y.1 = wr) (fun _ i _ => l.length - (intOf i).toNat)
  case atStart => exact ⟨0, -1, Nat.zero_le _, rfl, rfl, Lib.hid (.inl ⟨rfl, fun j t hj => by omega⟩), ⟨y0.1, Below.refl _ _⟩, rfl⟩
  case round =>
    obtain ⟨k, r, hk, rfl, rfl, HP, y, rfl⟩ := hrel
    have q_0 : y0.1.cell? ⟨w.heap.size, 0, none⟩ = some (.int .i64 p.1) := HB0.out.cell 0
    have q_1 : y0.1.cell? ⟨w.heap.size, 1, none⟩ = some (.int .i64 p.2) := HB0.out.cell 1
    have ql := HB0.out.lt
    by_cases hlt : k < l.length
    · obtain ⟨s, hs⟩ : ∃ s, l[k]? = some s := ⟨_, List.getElem?_eq_getElem hlt⟩
      obtain ⟨d, hd⟩ : ∃ d, dn[k]? = some d := ⟨_, List.getElem?_eq_getElem (by rw [HDL.out]; exact hlt)⟩
      obtain ⟨bA, offA, rfl, hbA, hcA⟩ := HA.out k s hs
      obtain ⟨bD, offD, rfl, hbD, hcD⟩ := HD.out k d hd
      have s_0 : y0.1.cell? ⟨bA, offA + k * 4, none⟩ = some (.int .i64 s.1.1) := (y0.cell hbA).trans (hcA k s hs 0 _ rfl)
      have s_1 : y0.1.cell? ⟨bA, offA + k * 4 + 1, none⟩ = some (.int .i64 s.1.2) := (y0.cell hbA).trans (hcA k s hs 1 _ rfl)
      have s_2 : y0.1.cell? ⟨bA, offA + k * 4 + 2, none⟩ = some (.int .i64 s.2.1) := (y0.cell hbA).trans (hcA k s hs 2 _ rfl)
      have s_3 : y0.1.cell? ⟨bA, offA + k * 4 + 3, none⟩ = some (.int .i64 s.2.2) := (y0.cell hbA).trans (hcA k s hs 3 _ rfl)
      have s_2' : y0.1.cell? ⟨bA, offA + (k * 4 + 2), none⟩ = some (.int .i64 s.2.1) := by rw [← Nat.add_assoc]; exact s_2
      have s_3' : y0.1.cell? ⟨bA, offA + (k * 4 + 2) + 1, none⟩ = some (.int .i64 s.2.2) := by rw [← Nat.add_assoc]; exact s_3
      have d_0 : y0.1.cell? ⟨bD, offD + k, none⟩ = some (.bool d) := (y0.cell hbD).trans (by have := hcD k d hd 0 _ rfl; simpa using this)
      have hbY : bA < y0.1.heap.size := y0.lt0 hbA
      have hbDY : bD < y0.1.heap.size := y0.lt0 hbD
      have HS := Lib.hid hs
      have HDK := Lib.hid hd
      have HAC := Lib.hid hcA
      clear hcA hcD hs hd
      cases d
      · rcases hf : full s with _ | _
        · have hrun := eqP_run (show eqP s.1 s.2 = true by rw [full_eq hf]; rfl)
          have HSK := Lib.hid (least_skip HP.out (fun t ht => by
            have h1 := HS.out.symm.trans ht.1
            injection h1 with h1; subst h1
            have h2 := ht.2.2.1; rw [hf] at h2; cases h2))
          clear hf
          go_wp2_with fail
          ((refine wp_region_kinK (W := (Kin.wd y0)) (by kernel_rfl) (by kernel_rfl) (by repeat (first | with_reducible (first | exact blA | exact blB | refine blC _ ?_ | refine blD ?_ ?_ _ | refine blE ?_ | refine blF _ ?_ | refine blG ?_ _ | refine blH ?_ | refine blI ?_ ?_ _) | (simp only [World.size_alloc]; omega) | (simp <;> omega))) ?_); (repeat' (first | go_big_quiet_step (fail) | ((refine wpQuiet_guard rfl rfl rfl rfl (fun hg => ?_) (fun hg => ?_)) <;> (fail_if_success (first | guard_hyp hg : true = true | guard_hyp hg : false = false)) <;> (try simp only [decide_eq_true_eq, decide_eq_false_iff_not] at hg) <;> simp only [Act.put, List.setIfInBounds_toArray, List.set_cons_zero, List.set_cons_succ]))); all_goals ((with_reducible refine wpQuiet_nil ?_); intro zq hz))
          all_goals (try (exfalso; first | omega | (simp_all; done)))
          clear hz
          go_wp2_with fail
          refine ⟨⟨k + 1, r, by omega, by go_num, rfl, HSK, zq, rfl⟩, by simp [intOf]; omega⟩
        · have hrun := eqP_run (show eqP s.1 s.2 = false by rw [full_eq hf]; rfl)
          have HF := Lib.hid hf
          clear hf
          by_cases hst : st = true ∧ s.1 ≠ p
          · obtain ⟨rfl, hsp⟩ := hst
            have hrun2 := neqP_run (r := true) (show eqP s.1 p = !true from eqP_ne hsp)
            have HSK := Lib.hid (least_skip HP.out (fun t ht => by
              have h1 := HS.out.symm.trans ht.1
              injection h1 with h1; subst h1
              exact hsp (ht.2.2.2 rfl)))
            clear hsp
            go_wp2_with fail
            ((refine wp_region_kinK (W := (Kin.wd y0)) (by kernel_rfl) (by kernel_rfl) (by repeat (first | with_reducible (first | exact blA | exact blB | refine blC _ ?_ | refine blD ?_ ?_ _ | refine blE ?_ | refine blF _ ?_ | refine blG ?_ _ | refine blH ?_ | refine blI ?_ ?_ _) | (simp only [World.size_alloc]; omega) | (simp <;> omega))) ?_); (repeat' (first | go_big_quiet_step (fail) | ((refine wpQuiet_guard rfl rfl rfl rfl (fun hg => ?_) (fun hg => ?_)) <;> (fail_if_success (first | guard_hyp hg : true = true | guard_hyp hg : false = false)) <;> (try simp only [decide_eq_true_eq, decide_eq_false_iff_not] at hg) <;> simp only [Act.put, List.setIfInBounds_toArray, List.set_cons_zero, List.set_cons_succ]))); all_goals ((with_reducible refine wpQuiet_nil ?_); intro zq hz))
            all_goals (try (exfalso; first | omega | (simp_all; done)))
            clear hz
            go_wp2_with fail
            refine ⟨⟨k + 1, r, by omega, by go_num, rfl, HSK, zq, rfl⟩, by simp [intOf]; omega⟩
          · have hca : Cand l dn st p k s := ⟨HS.out, HDK.out, HF.out, fun e => by
              by_cases e2 : s.1 = p
              · exact e2
              · exact absurd ⟨e, e2⟩ hst⟩
            have HCA := Lib.hid hca
            have hrun2 : st = true → ∀ w : World, (binOp .neq 36 (.agg #[.int .i64 s.1.1, .int .i64 s.1.2]) (.agg #[.int .i64 p.1, .int .i64 p.2])).run Try.prog w = .ok (.bool false) w := fun e => neqP_run (r := false) (show eqP s.1 p = !false from eqP_iff.2 (hca.2.2.2 e))
            have HR2 := Lib.hid hrun2
            clear hca hst hrun2
            rcases hr : decide (r < 0) with _ | _
            · rcases HP.out with ⟨e, _⟩ | ⟨i, t0, rfl, hi, hci, _⟩
              · rw [e] at hr; cases hr
              · have t_0 : y0.1.cell? ⟨bA, offA + i * 4, none⟩ = some (.int .i64 t0.1.1) := (y0.cell hbA).trans (HAC.out i t0 hci.1 0 _ rfl)
                have t_1 : y0.1.cell? ⟨bA, offA + i * 4 + 1, none⟩ = some (.int .i64 t0.1.2) := (y0.cell hbA).trans (HAC.out i t0 hci.1 1 _ rfl)
                have t_2 : y0.1.cell? ⟨bA, offA + i * 4 + 2, none⟩ = some (.int .i64 t0.2.1) := (y0.cell hbA).trans (HAC.out i t0 hci.1 2 _ rfl)
                have t_3 : y0.1.cell? ⟨bA, offA + i * 4 + 3, none⟩ = some (.int .i64 t0.2.2) := (y0.cell hbA).trans (HAC.out i t0 hci.1 3 _ rfl)
                have HT0 := Lib.hid hci.1
                have hi0 : ¬ (i : Int) < 0 := by omega
                have hil : i < l.length := by omega
                clear hci hr
                rcases hls : decide (ltS s t0) with _ | _
                · have HLS := Lib.hid hls
                  have HN := Lib.hid (least_worse HP.out HT0.out HS.out (of_decide_eq_false hls))
                  clear hls
                  cases st
                  · go_wp2_with fail
                    ((refine wp_region_kinK (W := (Kin.wd y0)) (by kernel_rfl) (by kernel_rfl) (by repeat (first | with_reducible (first | exact blA | exact blB | refine blC _ ?_ | refine blD ?_ ?_ _ | refine blE ?_ | refine blF _ ?_ | refine blG ?_ _ | refine blH ?_ | refine blI ?_ ?_ _) | (simp only [World.size_alloc]; omega) | (simp <;> omega))) ?_); (repeat' (first | go_big_quiet_step (fail) | ((refine wpQuiet_guard rfl rfl rfl rfl (fun hg => ?_) (fun hg => ?_)) <;> (fail_if_success (first | guard_hyp hg : true = true | guard_hyp hg : false = false)) <;> (try simp only [decide_eq_true_eq, decide_eq_false_iff_not] at hg) <;> simp only [Act.put, List.setIfInBounds_toArray, List.set_cons_zero, List.set_cons_succ]))); all_goals ((with_reducible refine wpQuiet_nil ?_); intro zq hz))
                    all_goals (try (exfalso; first | omega | (simp_all; done)))
                    clear hz
                    go_wp2_with fail
                    ((refine wp_region_kinK (W := (Kin.wd y0)) (by kernel_rfl) (by kernel_rfl) (by repeat (first | with_reducible (first | exact blA | exact blB | refine blC _ ?_ | refine blD ?_ ?_ _ | refine blE ?_ | refine blF _ ?_ | refine blG ?_ _ | refine blH ?_ | refine blI ?_ ?_ _) | (simp only [World.size_alloc]; omega) | (simp <;> omega))) ?_); (repeat' (first | go_big_quiet_step ((go_at_call 54; exact Kin.quiet _ (less_is s t0 _ HLS.out))) | ((refine wpQuiet_guard rfl rfl rfl rfl (fun hg => ?_) (fun hg => ?_)) <;> (fail_if_success (first | guard_hyp hg : true = true | guard_hyp hg : false = false)) <;> (try simp only [decide_eq_true_eq, decide_eq_false_iff_not] at hg) <;> simp only [Act.put, List.setIfInBounds_toArray, List.set_cons_zero, List.set_cons_succ]))); all_goals ((with_reducible refine wpQuiet_nil ?_); intro zq hz))
                    all_goals (try (exfalso; first | omega | (simp_all; done)))
                    clear hz
                    go_wp2_with fail
                    refine ⟨⟨k + 1, (i : Int), by omega, by go_num, rfl, HN, zq, rfl⟩, by simp [intOf]; omega⟩
                  · have hrun3 := HR2.out rfl
                    go_wp2_with fail
                    ((refine wp_region_kinK (W := (Kin.wd y0)) (by kernel_rfl) (by kernel_rfl) (by repeat (first | with_reducible (first | exact blA | exact blB | refine blC _ ?_ | refine blD ?_ ?_ _ | refine blE ?_ | refine blF _ ?_ | refine blG ?_ _ | refine blH ?_ | refine blI ?_ ?_ _) | (simp only [World.size_alloc]; omega) | (simp <;> omega))) ?_); (repeat' (first | go_big_quiet_step (fail) | ((refine wpQuiet_guard rfl rfl rfl rfl (fun hg => ?_) (fun hg => ?_)) <;> (fail_if_success (first | guard_hyp hg : true = true | guard_hyp hg : false = false)) <;> (try simp only [decide_eq_true_eq, decide_eq_false_iff_not] at hg) <;> simp only [Act.put, List.setIfInBounds_toArray, List.set_cons_zero, List.set_cons_succ]))); all_goals ((with_reducible refine wpQuiet_nil ?_); intro zq hz))
                    all_goals (try (exfalso; first | omega | (simp_all; done)))
                    clear hz
                    go_wp2_with fail
                    ((refine wp_region_kinK (W := (Kin.wd y0)) (by kernel_rfl) (by kernel_rfl) (by repeat (first | with_reducible (first | exact blA | exact blB | refine blC _ ?_ | refine blD ?_ ?_ _ | refine blE ?_ | refine blF _ ?_ | refine blG ?_ _ | refine blH ?_ | refine blI ?_ ?_ _) | (simp only [World.size_alloc]; omega) | (simp <;> omega))) ?_); (repeat' (first | go_big_quiet_step ((go_at_call 54; exact Kin.quiet _ (less_is s t0 _ HLS.out))) | ((refine wpQuiet_guard rfl rfl rfl rfl (fun hg => ?_) (fun hg => ?_)) <;> (fail_if_success (first | guard_hyp hg : true = true | guard_hyp hg : false = false)) <;> (try simp only [decide_eq_true_eq, decide_eq_false_iff_not] at hg) <;> simp only [Act.put, List.setIfInBounds_toArray, List.set_cons_zero, List.set_cons_succ]))); all_goals ((with_reducible refine wpQuiet_nil ?_); intro zq hz))
                    all_goals (try (exfalso; first | omega | (simp_all; done)))
                    clear hz
                    go_wp2_with fail
                    refine ⟨⟨k + 1, (i : Int), by omega, by go_num, rfl, HN, zq, rfl⟩, by simp [intOf]; omega⟩
                · have HLS := Lib.hid hls
                  have HN := Lib.hid (least_better HP.out HT0.out HCA.out (of_decide_eq_true hls))
                  clear hls
                  cases st
                  · go_wp2_with fail
                    ((refine wp_region_kinK (W := (Kin.wd y0)) (by kernel_rfl) (by kernel_rfl) (by repeat (first | with_reducible (first | exact blA | exact blB | refine blC _ ?_ | refine blD ?_ ?_ _ | refine blE ?_ | refine blF _ ?_ | refine blG ?_ _ | refine blH ?_ | refine blI ?_ ?_ _) | (simp only [World.size_alloc]; omega) | (simp <;> omega))) ?_); (repeat' (first | go_big_quiet_step (fail) | ((refine wpQuiet_guard rfl rfl rfl rfl (fun hg => ?_) (fun hg => ?_)) <;> (fail_if_success (first | guard_hyp hg : true = true | guard_hyp hg : false = false)) <;> (try simp only [decide_eq_true_eq, decide_eq_false_iff_not] at hg) <;> simp only [Act.put, List.setIfInBounds_toArray, List.set_cons_zero, List.set_cons_succ]))); all_goals ((with_reducible refine wpQuiet_nil ?_); intro zq hz))
                    all_goals (try (exfalso; first | omega | (simp_all; done)))
                    clear hz
                    go_wp2_with fail
                    ((refine wp_region_kinK (W := (Kin.wd y0)) (by kernel_rfl) (by kernel_rfl) (by repeat (first | with_reducible (first | exact blA | exact blB | refine blC _ ?_ | refine blD ?_ ?_ _ | refine blE ?_ | refine blF _ ?_ | refine blG ?_ _ | refine blH ?_ | refine blI ?_ ?_ _) | (simp only [World.size_alloc]; omega) | (simp <;> omega))) ?_); (repeat' (first | go_big_quiet_step ((go_at_call 54; exact Kin.quiet _ (less_is s t0 _ HLS.out))) | ((refine wpQuiet_guard rfl rfl rfl rfl (fun hg => ?_) (fun hg => ?_)) <;> (fail_if_success (first | guard_hyp hg : true = true | guard_hyp hg : false = false)) <;> (try simp only [decide_eq_true_eq, decide_eq_false_iff_not] at hg) <;> simp only [Act.put, List.setIfInBounds_toArray, List.set_cons_zero, List.set_cons_succ]))); all_goals ((with_reducible refine wpQuiet_nil ?_); intro zq hz))
                    all_goals (try (exfalso; first | omega | (simp_all; done)))
                    clear hz
                    go_wp2_with fail
                    refine ⟨⟨k + 1, (k : Int), by omega, by go_num, rfl, HN, zq, rfl⟩, by simp [intOf]; omega⟩
                  · have hrun3 := HR2.out rfl
                    go_wp2_with fail
                    ((refine wp_region_kinK (W := (Kin.wd y0)) (by kernel_rfl) (by kernel_rfl) (by repeat (first | with_reducible (first | exact blA | exact blB | refine blC _ ?_ | refine blD ?_ ?_ _ | refine blE ?_ | refine blF _ ?_ | refine blG ?_ _ | refine blH ?_ | refine blI ?_ ?_ _) | (simp only [World.size_alloc]; omega) | (simp <;> omega))) ?_); (repeat' (first | go_big_quiet_step (fail) | ((refine wpQuiet_guard rfl rfl rfl rfl (fun hg => ?_) (fun hg => ?_)) <;> (fail_if_success (first | guard_hyp hg : true = true | guard_hyp hg : false = false)) <;> (try simp only [decide_eq_true_eq, decide_eq_false_iff_not] at hg) <;> simp only [Act.put, List.setIfInBounds_toArray, List.set_cons_zero, List.set_cons_succ]))); all_goals ((with_reducible refine wpQuiet_nil ?_); intro zq hz))
                    all_goals (try (exfalso; first | omega | (simp_all; done)))
                    clear hz
                    go_wp2_with fail
                    ((refine wp_region_kinK (W := (Kin.wd y0)) (by kernel_rfl) (by kernel_rfl) (by repeat (first | with_reducible (first | exact blA | exact blB | refine blC _ ?_ | refine blD ?_ ?_ _ | refine blE ?_ | refine blF _ ?_ | refine blG ?_ _ | refine blH ?_ | refine blI ?_ ?_ _) | (simp only [World.size_alloc]; omega) | (simp <;> omega))) ?_); (repeat' (first | go_big_quiet_step ((go_at_call 54; exact Kin.quiet _ (less_is s t0 _ HLS.out))) | ((refine wpQuiet_guard rfl rfl rfl rfl (fun hg => ?_) (fun hg => ?_)) <;> (fail_if_success (first | guard_hyp hg : true = true | guard_hyp hg : false = false)) <;> (try simp only [decide_eq_true_eq, decide_eq_false_iff_not] at hg) <;> simp only [Act.put, List.setIfInBounds_toArray, List.set_cons_zero, List.set_cons_succ]))); all_goals ((with_reducible refine wpQuiet_nil ?_); intro zq hz))
                    all_goals (try (exfalso; first | omega | (simp_all; done)))
                    clear hz
                    go_wp2_with fail
                    refine ⟨⟨k + 1, (k : Int), by omega, by go_num, rfl, HN, zq, rfl⟩, by simp [intOf]; omega⟩
            · have hr1 : r = -1 := by
                have h1 := of_decide_eq_true hr
                rcases HP.out with ⟨e, _⟩ | ⟨i, t0, e, _⟩
                · exact e
                · omega
              subst hr1
              have HN := Lib.hid (least_new HP.out HCA.out)
              clear hr
              cases st
              · go_wp2_with fail
                ((refine wp_region_kinK (W := (Kin.wd y0)) (by kernel_rfl) (by kernel_rfl) (by repeat (first | with_reducible (first | exact blA | exact blB | refine blC _ ?_ | refine blD ?_ ?_ _ | refine blE ?_ | refine blF _ ?_ | refine blG ?_ _ | refine blH ?_ | refine blI ?_ ?_ _) | (simp only [World.size_alloc]; omega) | (simp <;> omega))) ?_); (repeat' (first | go_big_quiet_step (fail) | ((refine wpQuiet_guard rfl rfl rfl rfl (fun hg => ?_) (fun hg => ?_)) <;> (fail_if_success (first | guard_hyp hg : true = true | guard_hyp hg : false = false)) <;> (try simp only [decide_eq_true_eq, decide_eq_false_iff_not] at hg) <;> simp only [Act.put, List.setIfInBounds_toArray, List.set_cons_zero, List.set_cons_succ]))); all_goals ((with_reducible refine wpQuiet_nil ?_); intro zq hz))
                all_goals (try (exfalso; first | omega | (simp_all; done)))
                clear hz
                go_wp2_with fail
                ((refine wp_region_kinK (W := (Kin.wd y0)) (by kernel_rfl) (by kernel_rfl) (by repeat (first | with_reducible (first | exact blA | exact blB | refine blC _ ?_ | refine blD ?_ ?_ _ | refine blE ?_ | refine blF _ ?_ | refine blG ?_ _ | refine blH ?_ | refine blI ?_ ?_ _) | (simp only [World.size_alloc]; omega) | (simp <;> omega))) ?_); (repeat' (first | go_big_quiet_step (fail) | ((refine wpQuiet_guard rfl rfl rfl rfl (fun hg => ?_) (fun hg => ?_)) <;> (fail_if_success (first | guard_hyp hg : true = true | guard_hyp hg : false = false)) <;> (try simp only [decide_eq_true_eq, decide_eq_false_iff_not] at hg) <;> simp only [Act.put, List.setIfInBounds_toArray, List.set_cons_zero, List.set_cons_succ]))); all_goals ((with_reducible refine wpQuiet_nil ?_); intro zq hz))
                all_goals (try (exfalso; first | omega | (simp_all; done)))
                clear hz
                go_wp2_with fail
                refine ⟨⟨k + 1, (k : Int), by omega, by go_num, rfl, HN, zq, rfl⟩, by simp [intOf]; omega⟩
              · have hrun3 := HR2.out rfl
                go_wp2_with fail
                ((refine wp_region_kinK (W := (Kin.wd y0)) (by kernel_rfl) (by kernel_rfl) (by repeat (first | with_reducible (first | exact blA | exact blB | refine blC _ ?_ | refine blD ?_ ?_ _ | refine blE ?_ | refine blF _ ?_ | refine blG ?_ _ | refine blH ?_ | refine blI ?_ ?_ _) | (simp only [World.size_alloc]; omega) | (simp <;> omega))) ?_); (repeat' (first | go_big_quiet_step (fail) | ((refine wpQuiet_guard rfl rfl rfl rfl (fun hg => ?_) (fun hg => ?_)) <;> (fail_if_success (first | guard_hyp hg : true = true | guard_hyp hg : false = false)) <;> (try simp only [decide_eq_true_eq, decide_eq_false_iff_not] at hg) <;> simp only [Act.put, List.setIfInBounds_toArray, List.set_cons_zero, List.set_cons_succ]))); all_goals ((with_reducible refine wpQuiet_nil ?_); intro zq hz))
                all_goals (try (exfalso; first | omega | (simp_all; done)))
                clear hz
                go_wp2_with fail
                ((refine wp_region_kinK (W := (Kin.wd y0)) (by kernel_rfl) (by kernel_rfl) (by repeat (first | with_reducible (first | exact blA | exact blB | refine blC _ ?_ | refine blD ?_ ?_ _ | refine blE ?_ | refine blF _ ?_ | refine blG ?_ _ | refine blH ?_ | refine blI ?_ ?_ _) | (simp only [World.size_alloc]; omega) | (simp <;> omega))) ?_); (repeat' (first | go_big_quiet_step (fail) | ((refine wpQuiet_guard rfl rfl rfl rfl (fun hg => ?_) (fun hg => ?_)) <;> (fail_if_success (first | guard_hyp hg : true = true | guard_hyp hg : false = false)) <;> (try simp only [decide_eq_true_eq, decide_eq_false_iff_not] at hg) <;> simp only [Act.put, List.setIfInBounds_toArray, List.set_cons_zero, List.set_cons_succ]))); all_goals ((with_reducible refine wpQuiet_nil ?_); intro zq hz))
                all_goals (try (exfalso; first | omega | (simp_all; done)))
                clear hz
                go_wp2_with fail
                refine ⟨⟨k + 1, (k : Int), by omega, by go_num, rfl, HN, zq, rfl⟩, by simp [intOf]; omega⟩
      · have HSK := Lib.hid (least_skip HP.out (fun t ht => by
          have h1 := HDK.out.symm.trans ht.2.1
          injection h1 with h1; cases h1))
        go_wp2_with fail
        ((refine wp_region_kinK (W := (Kin.wd y0)) (by kernel_rfl) (by kernel_rfl) (by repeat (first | with_reducible (first | exact blA | exact blB | refine blC _ ?_ | refine blD ?_ ?_ _ | refine blE ?_ | refine blF _ ?_ | refine blG ?_ _ | refine blH ?_ | refine blI ?_ ?_ _) | (simp only [World.size_alloc]; omega) | (simp <;> omega))) ?_); (repeat' (first | go_big_quiet_step (fail) | ((refine wpQuiet_guard rfl rfl rfl rfl (fun hg => ?_) (fun hg => ?_)) <;> (fail_if_success (first | guard_hyp hg : true = true | guard_hyp hg : false = false)) <;> (try simp only [decide_eq_true_eq, decide_eq_false_iff_not] at hg) <;> simp only [Act.put, List.setIfInBounds_toArray, List.set_cons_zero, List.set_cons_succ]))); all_goals ((with_reducible refine wpQuiet_nil ?_); intro zq hz))
        all_goals (try (exfalso; first | omega | (simp_all; done)))
        clear hz
        go_wp2_with fail
        refine ⟨⟨k + 1, r, by omega, by go_num, rfl, HSK, zq, rfl⟩, by simp [intOf]; omega⟩
    · have HE := Lib.hid (show LeastP l dn st p l.length r by rw [show l.length = k by omega]; exact HP.out)
      go_wp2_with fail
      go_ret
      exact ⟨⟨r, rfl, HE.out⟩, (by repeat (first | with_reducible (first | exact blA | exact blB | refine blC _ ?_ | refine blD ?_ ?_ _ | refine blE ?_ | refine blF _ ?_ | refine blG ?_ _ | refine blH ?_ | refine blI ?_ ?_ _) | (simp only [World.size_alloc]; omega) | (simp <;> omega)))⟩
end Go.Proofs.Yteadnlodccnfcaa

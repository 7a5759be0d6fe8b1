/- Nest of the chapter, walked. -/
import Derived.Test.YteadnlodccnfcaaCtrNestS
namespace Go.Proofs.Yteadnlodccnfcaa
set_option linter.unusedSimpArgs false
set_option linter.unusedVariables false
set_option maxRecDepth 100000
open Go.RowKit Planar Go.Sort
attribute [local go_sem] Kin.cell Kin.frozen Kin.lt0 Kin.lt1 Kin.lt2 Kin.lt3 run_mkf
theorem leastOf_is {p : Pt} (v : Value) (l : List Pt) (w : World) (h : Rd 2 encPt w v l) (h0 : l ≠ []) (hl : l.length ≤ 1000000000) (hp : minP l = p) :
    Calls Try.prog 45 #[v] w fun e w' => e = .returned (.agg #[.int .i64 p.1, .int .i64 p.2]) ∧ Below w.heap.size w w' := by subst hp; exact leastOf_any v l w h h0 hl
theorem vldR_is {b : Bool} (p : Pt) (w : World) (h : vld p = b) : Calls Try.prog 29 #[.agg #[.int .i64 p.1, .int .i64 p.2]] w fun e w' => e = .returned (.bool b) ∧ Below w.heap.size w w' := by subst h; exact valid_ref p w
theorem sumN_mono (l : List (List Pt)) (k : Nat) : sumN (l.take k) ≤ sumN l := by
  conv => rhs; rw [← List.take_append_drop k l]
  unfold sumN
  rw [List.map_append, List.sum_append]
  omega
set_option maxHeartbeats 16000000 in
theorem nestR_any (v : Value) (l : List (List Pt)) (w : World) (h : RdPols w v l) (hl : l.length ≤ 1000) (hb : ∀ o ∈ l, o.length ≤ 1000) :
    Calls Try.prog 26 #[v] w fun e w' => (∃ u, e = .returned (.tuple #[u, .int .i64 (nestE l)]) ∧ w'.ownsRow w.heap.size 3 1 u (nestL l).length ((nestL l).flatMap encI)) ∧ Below w.heap.size w w' := by
  obtain ⟨A, capA, rfl, hcapA, hopA⟩ := pols_open h
  have HA := Lib.hid hopA
  have HLA := Lib.hid h
  clear hopA h
  have HBD := Lib.hid hb
  obtain ⟨n, hL⟩ : ∃ n, l.length = n := ⟨_, rfl⟩
  have HL := Lib.hid hL
  rw [hL] at hcapA hl ⊢
  clear hL hb HLA
  go_enter Try.func26, Try.ntmps26
  go_wp2_with fail
  go_loopw [4, 5] (fun s i wr => ∃ k : Nat, k ≤ n ∧ k ≤ 64 ∧ i = .int .i64 k ∧ s = .int .i64 (sumN (l.take k)) ∧ sumN (l.take k) ≤ 1024 ∧ ∃ y : Kin w, y.1 = wr) (fun _ i _ => n - (intOf i).toNat)
  case atStart => exact ⟨0, Nat.zero_le _, by omega, rfl, rfl, by simp [sumN], ⟨w, Below.refl _ _⟩, rfl⟩
  case round =>
    obtain ⟨k, hk, hk64, rfl, rfl, hsk, y1, rfl⟩ := hrel
    by_cases hlt : k < n
    · obtain ⟨o, ho⟩ : ∃ el_, (l)[k]? = some el_ := ⟨_, List.getElem?_eq_getElem (by first | exact (by rw [HL.out]; exact hlt) | omega)⟩
      obtain ⟨bA, offA, rfl, hbA, hcA⟩ := HA.out (k) _ ho
      have hbA2 : bA < w.heap.size + 1 := by omega
      obtain ⟨S, capS, o_0, hcapS, hrS⟩ := hcA (k) o ho
      have HLS := Lib.hid hrS
      have HAc := Lib.hid hcA
      have Ho := Lib.hid ho
      clear ho hrS hcA
      have HST := Lib.hid (sumN_take Ho.out)
      have hsm := sumN_mono l (k + 1)
      rw [HST.out] at hsm
      have ho1 : o.length ≤ 1000 := HBD.out o (List.mem_of_getElem? Ho.out)
      have hwr : IntKind.i64.wrap ((sumN (l.take k) : Int) + (o.length : Int)) = (sumN (l.take k) : Int) + (o.length : Int) := IntWalk.i64_in _ (by omega)
      by_cases hbad : k ≥ 64 ∨ sumN (l.take k) + o.length > 1024
      · have HE1 := Lib.hid (show nestE l = 2 by unfold nestE; rw [if_pos]; rw [HL.out]; omega)
        have HE2 := Lib.hid (show nestL l = [] by unfold nestL; rw [HE1.out]; rfl)
        by_cases h64 : (k : Int) ≥ 64
        all_goals
          have h1024 : k ≥ 64 ∨ (sumN (l.take k) : Int) + (o.length : Int) > 1024 := by omega
          (try have h1025 : (sumN (l.take k) : Int) + (o.length : Int) > 1024 := by omega)
          clear h1024 hbad
          go_wp2_with fail
          go_ret2
          rw [HE1.out, HE2.out]
          exact ⟨⟨_, rfl, World.ownsRow_nil _ _ _ _⟩, y1.2⟩
      · have h64 : ¬ (k : Int) ≥ 64 := by omega
        have h1025 : ¬ (sumN (l.take k) : Int) + (o.length : Int) > 1024 := by omega
        have hs2 : sumN (l.take k) + o.length ≤ 1024 := by omega
        clear hbad
        go_wp2_with fail
        refine ⟨⟨k + 1, by omega, by omega, by go_num, by rw [HST.out]; rfl, by rw [HST.out]; exact hs2, y1, rfl⟩, by simp [intOf]; omega⟩
    · have hkn : n = k := by omega
      subst hkn
      have HLIM := Lib.hid (show ¬ (l.length > 64 ∨ sumN l > 1024) by
        rw [List.take_of_length_le (by rw [HL.out]; exact Nat.le_refl _)] at hsk
        rw [HL.out]; omega)
      obtain ⟨N, hN⟩ : ∃ N, sumN (l.take n) = N := ⟨_, rfl⟩
      rw [hN] at hsk ⊢
      clear hN
      go_wp2_with fail
      go_loopw [6] (fun i wr => ∃ k : Nat, k ≤ n ∧ i = .int .i64 k ∧ Hid (validL (l.take k) = true) ∧ ∃ y : Kin w, y.1 = wr) (fun i _ => n - (intOf i).toNat)
      case atStart => exact ⟨0, Nat.zero_le _, rfl, Lib.hid rfl, y1, rfl⟩
      case round =>
        obtain ⟨k, hk, rfl, HVL, y, rfl⟩ := hrel
        by_cases hlt : k < n
        · obtain ⟨o, ho⟩ : ∃ el_, (l)[k]? = some el_ := ⟨_, List.getElem?_eq_getElem (by first | exact (by rw [HL.out]; exact hlt) | omega)⟩
          obtain ⟨bA, offA, rfl, hbA, hcA⟩ := HA.out (k) _ ho
          have hbA2 : bA < w.heap.size + 1 := by omega
          obtain ⟨S, capS, o_0, hcapS, hrS⟩ := hcA (k) o ho
          have HLS := Lib.hid hrS
          have HAc := Lib.hid hcA
          have Ho := Lib.hid ho
          clear ho hrS hcA
          have HVT := Lib.hid (validL_take Ho.out)
          have ho1 : o.length ≤ 1000 := HBD.out o (List.mem_of_getElem? Ho.out)
          go_wp2_with fail
          go_loopw [7] (fun i wr => ∃ j : Nat, j ≤ o.length ∧ i = .int .i64 j ∧ Hid ((o.take j).all vld = true) ∧ ∃ y : Kin w, y.1 = wr) (fun i _ => o.length - (intOf i).toNat)
          case atStart => exact ⟨0, Nat.zero_le _, rfl, Lib.hid rfl, y, rfl⟩
          case round =>
            obtain ⟨j, hj, rfl, HVO, y2, rfl⟩ := hrel
            by_cases hjl : j < o.length
            · obtain ⟨p, hp⟩ : ∃ x, o[j]? = some x := ⟨_, List.getElem?_eq_getElem hjl⟩
              obtain ⟨bS, offS, rfl, hbS, hcS⟩ := Rd.op HLS.out j p hp
              have p_0 : w.cell? ⟨bS, offS + j * 2, none⟩ = some (.int .i64 p.1) := hcS j p hp 0 _ rfl
              have p_1 : w.cell? ⟨bS, offS + j * 2 + 1, none⟩ = some (.int .i64 p.2) := hcS j p hp 1 _ rfl
              have HP := Lib.hid hp
              clear hcS hp
              go_wp2_with fail
              rcases hv : vld p with _ | _
              · (go_at_call 29; (with_reducible refine (Kin.callK (W := w) (by repeat (first | with_reducible (first | exact blA | exact blB | refine blC _ ?_ | refine blD ?_ ?_ _ | refine blE ?_ | refine blF _ ?_ | refine blG ?_ _ | refine blH ?_ | refine blI ?_ ?_ _) | (simp only [World.size_alloc]; omega) | (simp <;> omega))) (vldR_is p _ hv)).mono ?_); rintro e w' ⟨z1, rfl, hz1, rfl⟩; skip)
                have HE1 := Lib.hid (show nestE l = 8 by
                  unfold nestE
                  rw [if_neg HLIM.out, if_neg]
                  unfold validL
                  rw [Bool.not_eq_true, List.all_eq_false]
                  refine ⟨o, List.mem_of_getElem? Ho.out, ?_⟩
                  rw [Bool.not_eq_true, List.all_eq_false]
                  exact ⟨p, List.mem_of_getElem? HP.out, by rw [hv]; simp⟩)
                have HE2 := Lib.hid (show nestL l = [] by unfold nestL; rw [HE1.out]; rfl)
                clear hv hz1
                go_wp2_with fail
                go_ret2
                rw [HE1.out, HE2.out]
                exact ⟨⟨_, rfl, World.ownsRow_nil _ _ _ _⟩, z1.2⟩
              · (go_at_call 29; (with_reducible refine (Kin.callK (W := w) (by repeat (first | with_reducible (first | exact blA | exact blB | refine blC _ ?_ | refine blD ?_ ?_ _ | refine blE ?_ | refine blF _ ?_ | refine blG ?_ _ | refine blH ?_ | refine blI ?_ ?_ _) | (simp only [World.size_alloc]; omega) | (simp <;> omega))) (vldR_is p _ hv)).mono ?_); rintro e w' ⟨z1, rfl, hz1, rfl⟩; skip)
                have HV2 := Lib.hid (show (o.take (j + 1)).all vld = true by rw [List.take_add_one, HP.out, List.all_append, HVO.out]; simp [hv])
                clear hv hz1
                go_wp2_with fail
                refine ⟨⟨j + 1, by omega, by go_num, HV2, z1, rfl⟩, by simp [intOf]; omega⟩
            · have HV2 := Lib.hid (show validL (l.take (k + 1)) = true by
                have h := HVO.out
                rw [List.take_of_length_le (by omega)] at h
                rw [HVT.out, HVL.out, h]; rfl)
              go_wp2_with fail
              go_roundw
              case rel => exact ⟨k + 1, by omega, by go_num, HV2, y2, rfl⟩
              case measure => simp [intOf]; omega
        · have hkn : n = k := by omega
          subst hkn
          have HVA := Lib.hid (show validL l = true by have := HVL.out; rwa [List.take_of_length_le (by rw [HL.out]; exact Nat.le_refl _)] at this)
          have HE1 := Lib.hid (show nestE l = 0 by unfold nestE; rw [if_neg HLIM.out, if_pos HVA.out])
          have HE2 := Lib.hid (show nestL l = nestTo l n by unfold nestL; rw [HE1.out, if_pos rfl, HL.out])
          go_wp2_with fail
          go_loopw [8, 9] (fun u i wr => ∃ k : Nat, k ≤ n ∧ i = .int .i64 k ∧ Hid (wr.ownsRow w.heap.size 3 1 u (nestTo l k).length ((nestTo l k).flatMap encI)) ∧ ∃ y : Kin w, y.1 = wr) (fun _ i _ => n - (intOf i).toNat)
          case atStart => exact ⟨0, Nat.zero_le _, rfl, Lib.hid (World.ownsRow_nil _ _ _ _), y, rfl⟩
          case round =>
            obtain ⟨k, hk, rfl, HO, y3, rfl⟩ := hrel
            by_cases hlt : k < n
            · obtain ⟨o, ho⟩ : ∃ o, l[k]? = some o := ⟨_, List.getElem?_eq_getElem (by rw [HL.out]; exact hlt)⟩
              obtain ⟨bA, offA, rfl, hbA, hcA⟩ := HA.out k o ho
              obtain ⟨S, cS, o_0, hcS, hrS⟩ := hcA k o ho
              have HAC := Lib.hid hcA
              have HOK := Lib.hid ho
              have HRS := Lib.hid hrS
              have ho1 : o.length ≤ 1000 := HBD.out o (List.mem_of_getElem? ho)
              have hnl : (nestTo l k).length ≤ 1000 := by rw [nestTo_len]; omega
              clear ho hrS hcA
              obtain ⟨p, hp⟩ : ∃ p, minP o = p := ⟨_, rfl⟩
              have HP := Lib.hid hp
              clear hp
              go_wp2_with fail
              have oy_0 : y3.1.cell? ⟨bA, offA + k, none⟩ = some (.slice S o.length cS) := (y3.cell hbA).trans o_0
              have hbY : bA < y3.1.heap.size := y3.lt0 hbA
              clear o_0
              by_cases h0 : o.length = 0
              · have h0' : ¬ (0 < (o.length : Int)) := by omega
                have HSK := Lib.hid (show nestTo l (k + 1) = nestTo l k ++ [0] by rw [nestTo_succ, nestAt_nil HOK.out h0])
                go_loopw [10, 11] (fun d i wr => ∃ j : Nat, j ≤ n ∧ i = .int .i64 j ∧ d = .int .i64 0 ∧ ∃ z : Kin y3.1, z.1 = wr) (fun _ i _ => n - (intOf i).toNat)
                case atStart => exact ⟨0, Nat.zero_le _, rfl, rfl, ⟨y3.1, Below.refl _ _⟩, rfl⟩
                case round =>
                  obtain ⟨j, hj, rfl, rfl, z, rfl⟩ := hrel
                  by_cases hjl : j < n
                  · by_cases hjk : j = k
                    · subst hjk
                      go_wp2_with fail
                      ((refine wp_region_kinK (W := (Kin.wd y3)) (by kernel_rfl) (by kernel_rfl) (by repeat (first | with_reducible (first | exact blA | exact blB | refine blC _ ?_ | refine blD ?_ ?_ _ | refine blE ?_ | refine blF _ ?_ | refine blG ?_ _ | refine blH ?_ | refine blI ?_ ?_ _) | (simp only [World.size_alloc]; omega) | (simp <;> omega))) ?_); (repeat' (first | go_big_quiet_step (fail) | ((refine wpQuiet_guard rfl rfl rfl rfl (fun hg => ?_) (fun hg => ?_)) <;> (fail_if_success (first | guard_hyp hg : true = true | guard_hyp hg : false = false)) <;> (try simp only [decide_eq_true_eq, decide_eq_false_iff_not] at hg) <;> simp only [Act.put, List.setIfInBounds_toArray, List.set_cons_zero, List.set_cons_succ]))); all_goals ((with_reducible refine wpQuiet_nil ?_); intro zq hz))
                      all_goals (try (exfalso; first | omega | (simp_all; done)))
                      clear hz
                      go_wp2_with fail
                      refine ⟨⟨j + 1, by omega, by go_num, rfl, zq, rfl⟩, by simp [intOf]; omega⟩
                    · have hjk1 : ((j : Int) == (k : Int)) = false := by rw [beq_eq_false_iff_ne]; omega
                      have hjk2 : ((j : Int) != (k : Int)) = true := by rw [bne_iff_ne]; omega
                      go_wp2_with fail
                      ((refine wp_region_kinK (W := (Kin.wd y3)) (by kernel_rfl) (by kernel_rfl) (by repeat (first | with_reducible (first | exact blA | exact blB | refine blC _ ?_ | refine blD ?_ ?_ _ | refine blE ?_ | refine blF _ ?_ | refine blG ?_ _ | refine blH ?_ | refine blI ?_ ?_ _) | (simp only [World.size_alloc]; omega) | (simp <;> omega))) ?_); (repeat' (first | go_big_quiet_step (fail) | ((refine wpQuiet_guard rfl rfl rfl rfl (fun hg => ?_) (fun hg => ?_)) <;> (fail_if_success (first | guard_hyp hg : true = true | guard_hyp hg : false = false)) <;> (try simp only [decide_eq_true_eq, decide_eq_false_iff_not] at hg) <;> simp only [Act.put, List.setIfInBounds_toArray, List.set_cons_zero, List.set_cons_succ]))); all_goals ((with_reducible refine wpQuiet_nil ?_); intro zq hz))
                      all_goals (try (exfalso; first | omega | (simp_all; done)))
                      clear hz
                      go_wp2_with fail
                      refine ⟨⟨j + 1, by omega, by go_num, rfl, zq, rfl⟩, by simp [intOf]; omega⟩
                  · go_wp2_with (at_builtin; refine wpList_app _ rfl _ _ 43 rfl encI_len (by decide) oneI w.heap.size 3 (.int .i64 0) 8 infoInt rfl Try.underlying43 _ _ _ _ rfl ((own_below HO.out z.2).alloc _) _ _ _ rfl (rd_one _ encI_len _ (0 : Int) _ rfl rfl) ?c1 (by decide) ?c2 ?_; (case c1 => (first | (simp only [List.length_append, List.length_cons, List.length_nil]; omega) | omega | (simp; omega))); (case c2 => exact (by repeat (first | with_reducible exact Nat.le_refl _ | assumption | with_reducible refine le_alloc ?_ _ | with_reducible refine le_drew ?_ | with_reducible refine Kin.le _ ?_ | assumption | omega | (simp only [World.size_alloc]; omega)))); intro v' w1 hown' hg hbel hat'; ((obtain ⟨y5, rfl⟩ : ∃ y5 : Kin w, y5.1 = w1 := ⟨⟨w1, Below.trans (by repeat (first | with_reducible (first | exact blA | exact blB | refine blC _ ?_ | refine blD ?_ ?_ _ | refine blE ?_ | refine blF _ ?_ | refine blG ?_ _ | refine blH ?_ | refine blI ?_ ?_ _) | (simp only [World.size_alloc]; omega) | (simp <;> omega))) hbel⟩, rfl⟩); have HO2 := Lib.hid hown'; clear hown' hg hbel hat'))
                    go_roundw
                    case rel => exact ⟨k + 1, by omega, by go_num, Lib.hid (by rw [HSK.out]; exact HO2.out), y5, rfl⟩
                    case measure => simp [intOf]; omega
              · have h0' : 0 < (o.length : Int) := by omega
                have hne : o ≠ [] := fun e => h0 (by rw [e]; rfl)
                have HSK := Lib.hid (show nestTo l (k + 1) = nestTo l k ++ [(cntN l k p n : Int)] by rw [nestTo_succ, nestAt_cnt HOK.out h0, HP.out, HL.out])
                go_loopw [10, 11] (fun d i wr => ∃ j : Nat, j ≤ n ∧ i = .int .i64 j ∧ d = .int .i64 (cntN l k p j) ∧ ∃ z : Kin y3.1, z.1 = wr) (fun _ i _ => n - (intOf i).toNat)
                case atStart => exact ⟨0, Nat.zero_le _, rfl, rfl, ⟨y3.1, Below.refl _ _⟩, rfl⟩
                case round =>
                  obtain ⟨j, hj, rfl, rfl, z, rfl⟩ := hrel
                  by_cases hjl : j < n
                  · by_cases hjk : j = k
                    · subst hjk
                      have HCO := Lib.hid (cntN_own l j p)
                      go_wp2_with fail
                      ((refine wp_region_kinK (W := (Kin.wd y3)) (by kernel_rfl) (by kernel_rfl) (by repeat (first | with_reducible (first | exact blA | exact blB | refine blC _ ?_ | refine blD ?_ ?_ _ | refine blE ?_ | refine blF _ ?_ | refine blG ?_ _ | refine blH ?_ | refine blI ?_ ?_ _) | (simp only [World.size_alloc]; omega) | (simp <;> omega))) ?_); (repeat' (first | go_big_quiet_step (fail) | ((refine wpQuiet_guard rfl rfl rfl rfl (fun hg => ?_) (fun hg => ?_)) <;> (fail_if_success (first | guard_hyp hg : true = true | guard_hyp hg : false = false)) <;> (try simp only [decide_eq_true_eq, decide_eq_false_iff_not] at hg) <;> simp only [Act.put, List.setIfInBounds_toArray, List.set_cons_zero, List.set_cons_succ]))); all_goals ((with_reducible refine wpQuiet_nil ?_); intro zq hz))
                      all_goals (try (exfalso; first | omega | (simp_all; done)))
                      clear hz
                      go_wp2_with fail
                      refine ⟨⟨j + 1, by omega, by go_num, by rw [HCO.out], zq, rfl⟩, by simp [intOf]; omega⟩
                    · have hjk1 : ((j : Int) == (k : Int)) = false := by rw [beq_eq_false_iff_ne]; omega
                      have hjk2 : ((j : Int) != (k : Int)) = true := by rw [bne_iff_ne]; omega
                      obtain ⟨oj, hoj⟩ : ∃ o, l[j]? = some o := ⟨_, List.getElem?_eq_getElem (by rw [HL.out]; exact hjl)⟩
                      obtain ⟨Sj, cj, oj_0, hcj, hrj⟩ := HAC.out j oj hoj
                      have ojy_0 : y3.1.cell? ⟨bA, offA + j, none⟩ = some (.slice Sj oj.length cj) := (y3.cell hbA).trans oj_0
                      have hj1 : oj.length ≤ 1000 := HBD.out oj (List.mem_of_getElem? hoj)
                      have HOJ := Lib.hid hoj
                      have HRJ := Lib.hid (hrj.below y3.2)
                      have HRO := Lib.hid (HRS.out.below y3.2)
                      have hcl := cntN_le l k p j
                      clear hoj hrj oj_0
                      rcases hcp : conP (segsO oj) p with _ | _
                      all_goals
                        have HCP := Lib.hid hcp
                        have HCN := Lib.hid (show cntN l k p (j + 1) = _ from (by first | exact cntN_no (i := k) HOJ.out hcp | exact cntN_yes (i := k) HOJ.out hjk hcp))
                        clear hcp
                        go_wp2_with fail
                        ((refine wp_region_kinK (W := (Kin.wd y3)) (by kernel_rfl) (by kernel_rfl) (by repeat (first | with_reducible (first | exact blA | exact blB | refine blC _ ?_ | refine blD ?_ ?_ _ | refine blE ?_ | refine blF _ ?_ | refine blG ?_ _ | refine blH ?_ | refine blI ?_ ?_ _) | (simp only [World.size_alloc]; omega) | (simp <;> omega))) ?_); (repeat' (first | go_big_quiet_step ((first | (go_at_call 45; exact Kin.quiet _ (leastOf_is _ o _ (HRO.out.below (by repeat (first | with_reducible (first | exact blA | exact blB | refine blC _ ?_ | refine blD ?_ ?_ _ | refine blE ?_ | refine blF _ ?_ | refine blG ?_ _ | refine blH ?_ | refine blI ?_ ?_ _) | (simp only [World.size_alloc]; omega) | (simp <;> omega)))) hne (by omega) HP.out)) | (go_at_call 44; exact Kin.quiet _ (containsR_is _ _ _ oj p _ (HRJ.out.below (by repeat (first | with_reducible (first | exact blA | exact blB | refine blC _ ?_ | refine blD ?_ ?_ _ | refine blE ?_ | refine blF _ ?_ | refine blG ?_ _ | refine blH ?_ | refine blI ?_ ?_ _) | (simp only [World.size_alloc]; omega) | (simp <;> omega)))) hj1 HCP.out)))) | ((refine wpQuiet_guard rfl rfl rfl rfl (fun hg => ?_) (fun hg => ?_)) <;> (fail_if_success (first | guard_hyp hg : true = true | guard_hyp hg : false = false)) <;> (try simp only [decide_eq_true_eq, decide_eq_false_iff_not] at hg) <;> simp only [Act.put, List.setIfInBounds_toArray, List.set_cons_zero, List.set_cons_succ]))); all_goals ((with_reducible refine wpQuiet_nil ?_); intro zq hz))
                        all_goals (try (exfalso; first | omega | (simp_all; done)))
                        clear hz
                        have hw2 : IntKind.i64.wrap ((cntN l k p j : Int) + 1) = (cntN l k p j : Int) + 1 := IntWalk.i64_in _ (by omega)
                        go_wp2_with fail
                        refine ⟨⟨j + 1, by omega, by go_num, (by rw [HCN.out]; try simp), zq, rfl⟩, by simp [intOf]; omega⟩
                  · have hjn : n = j := by omega
                    subst hjn
                    go_wp2_with (at_builtin; refine wpList_app _ rfl _ _ 43 rfl encI_len (by decide) oneI w.heap.size 3 (.int .i64 0) 8 infoInt rfl Try.underlying43 _ _ _ _ rfl ((own_below HO.out z.2).alloc _) _ _ _ rfl (rd_one _ encI_len _ (cntN l k p n : Int) _ rfl) ?c1 (by decide) ?c2 ?_; (case c1 => (first | (simp only [List.length_append, List.length_cons, List.length_nil]; omega) | omega | (simp; omega))); (case c2 => exact (by repeat (first | with_reducible exact Nat.le_refl _ | assumption | with_reducible refine le_alloc ?_ _ | with_reducible refine le_drew ?_ | with_reducible refine Kin.le _ ?_ | assumption | omega | (simp only [World.size_alloc]; omega)))); intro v' w1 hown' hg hbel hat'; ((obtain ⟨y5, rfl⟩ : ∃ y5 : Kin w, y5.1 = w1 := ⟨⟨w1, Below.trans (by repeat (first | with_reducible (first | exact blA | exact blB | refine blC _ ?_ | refine blD ?_ ?_ _ | refine blE ?_ | refine blF _ ?_ | refine blG ?_ _ | refine blH ?_ | refine blI ?_ ?_ _) | (simp only [World.size_alloc]; omega) | (simp <;> omega))) hbel⟩, rfl⟩); have HO2 := Lib.hid hown'; clear hown' hg hbel hat'))
                    go_roundw
                    case rel => exact ⟨k + 1, by omega, by go_num, Lib.hid (by rw [HSK.out]; exact HO2.out), y5, rfl⟩
                    case measure => simp [intOf]; omega
            · have hkn : n = k := by omega
              subst hkn
              go_wp2_with fail
              go_ret2
              rw [HE1.out, HE2.out]
              exact ⟨⟨_, rfl, HO.out⟩, y3.2⟩
end Go.Proofs.Yteadnlodccnfcaa

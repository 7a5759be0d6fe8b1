/- ContourUses: for every input the law returns true. No condition. -/
import Derived.Test.YteadnlodccnfcaaCtrLawA
import Derived.Test.YteadnlodccnfcaaCtrCount
namespace Go.Proofs.Yteadnlodccnfcaa
set_option linter.unusedSimpArgs false
set_option linter.unusedVariables false
set_option maxRecDepth 100000
open Go.ChangeShapes Go.WideShapes Go.ChangeAt Go.RowKit Go.Joins Planar
attribute [local go_sem] Kin.cell Kin.frozen Kin.lt0 Kin.lt1 Kin.lt2 Kin.lt3 run_mkf
theorem cntS_full {l : List Sg} {s : Sg} (hs : full s = true) : cntS (l.filter full) s = cntS l s := by
  unfold cntS
  rw [List.countP_filter]
  apply List.countP_congr
  intro t _
  constructor
  · intro h; rw [Bool.and_eq_true] at h; exact h.1
  · intro h; rw [Bool.and_eq_true]; refine ⟨h, ?_⟩; rw [eqSg_iff.1 h]; exact hs
theorem cntF_take {l : List Sg} {k : Nat} {s : Sg} {b : Bool} (h : l[k]? = some s) (hc : full s = b) : ((l.take (k + 1)).countP full) = (l.take k).countP full + (if b then 1 else 0) := by
  rw [List.take_add_one, h, List.countP_append]
  subst hc
  simp
theorem cntF_le (l : List Sg) (k : Nat) : (l.take k).countP full ≤ k := Nat.le_trans List.countP_le_length (List.length_take_le _ _)
theorem segs_err {l : List (List Pt)} (hl : (segsL l).length ≤ 8192) : chErr (segsL l) = 0 ∨ chErr (segsL l) = 8 := by
  unfold chErr
  rw [if_neg (by omega), balB_segsL]
  by_cases h : validS (segsL l) = false
  · rw [if_pos h]; exact .inr rfl
  · rw [if_neg h]; exact .inl (by simp)
theorem full_eq {s : Sg} {b : Bool} (h : full s = b) : eqP s.1 s.2 = !b := by
  subst h
  unfold full
  by_cases e : s.1 = s.2
  · rw [eqP_iff.2 e]; simp [e]
  · rw [eqP_ne e]; simp [e]
set_option maxHeartbeats 16000000 in
theorem ctrUses_walk (W : World) (v : Value) (h : IsPols W v) : Calls Try.prog 5 #[v] W fun e W' => e = .returned (.bool true) ∧ Below W.heap.size W W' := by
  obtain ⟨l, h, hw⟩ := h
  have h8 := someP_len l
  have hwf := segsL_wf (someP_wf hw)
  have hsl : (segsL (someP l)).length ≤ 8 * 20 := segsL_bd h8 (fun o ho => someP_each ho)
  obtain ⟨q, hq⟩ : ∃ q, someP l = q := ⟨_, rfl⟩
  rw [hq] at h8 hwf hsl
  have HQ := Lib.hid hq
  have hse := segs_err (l := q) (by omega)
  obtain ⟨s, hs⟩ : ∃ s, segsL q = s := ⟨_, rfl⟩
  rw [hs] at hwf hsl hse
  have HS := Lib.hid hs
  have HWF := Lib.hid hwf
  clear hq hw hwf hs
  rcases hse with hE0 | hE8
  · have HSM := Lib.hid (chLst_small hsl)
    have hlA := chLen hE0
    have HU1 := Lib.hid (chain_uses hE0)
    obtain ⟨C, hC⟩ : ∃ C, chLst s = C := ⟨_, rfl⟩
    rw [hC] at hlA HU1 HSM
    have HC := Lib.hid hC
    have HE0 := Lib.hid hE0
    clear hC hE0
    have hcl := HSM.out.1
    obtain ⟨T, hT⟩ : ∃ T, segsL C = T := ⟨_, rfl⟩
    rw [hT] at hlA HU1
    have HT := Lib.hid hT
    clear hT
    go_enter Try.func5, Try.ntmps5
    go_wp2_with fail
    (go_at_call 20; (with_reducible refine (Kin.callK (W := W) (by repeat (first | with_reducible (first | exact blA | exact blB | refine blC _ ?_ | refine blD ?_ ?_ _ | refine blE ?_ | refine blF _ ?_ | refine blG ?_ _ | refine blH ?_ | refine blI ?_ ?_ _) | (simp only [World.size_alloc]; omega) | (simp <;> omega))) (some16_any _ l _ h)).mono ?_); rintro e w' ⟨z1, ⟨u, rfl, hu⟩, hz1, rfl⟩; skip)
    rw [HQ.out] at hu
    have HU := Lib.hid hu
    clear hu hz1 h
    go_wp2_with fail
    have hsq : (segsL q).length ≤ 1000000000 := by rw [HS.out]; omega
    (go_at_call 21; (with_reducible refine (Kin.callK (W := W) (by repeat (first | with_reducible (first | exact blA | exact blB | refine blC _ ?_ | refine blD ?_ ?_ _ | refine blE ?_ | refine blF _ ?_ | refine blG ?_ _ | refine blH ?_ | refine blI ?_ ?_ _) | (simp only [World.size_alloc]; omega) | (simp <;> omega))) (segs_any _ q _ HU.out (by omega) hsq)).mono ?_); rintro e w' ⟨z2, ⟨u2, rfl, hu2⟩, hz2, rfl⟩; skip)
    rw [HS.out] at hu2
    obtain ⟨A2, c2, rfl⟩ := own_slc hu2
    have H2 := Lib.hid (Rd.own encSg_len hu2)
    clear hu2 hz2 hsq
    go_wp2_with fail
    (go_at_call 14; (with_reducible refine (Kin.callK (W := W) (by repeat (first | with_reducible (first | exact blA | exact blB | refine blC _ ?_ | refine blD ?_ ?_ _ | refine blE ?_ | refine blF _ ?_ | refine blG ?_ _ | refine blH ?_ | refine blI ?_ ?_ _) | (simp only [World.size_alloc]; omega) | (simp <;> omega))) (chain_own _ s _ H2.out HWF.out HE0.out HC.out)).mono ?_); rintro e w' ⟨z3, ⟨A3, c3, rfl, h3⟩, hz3, rfl⟩; skip)
    replace H2 := Lib.hid (H2.out.below hz3)
    have H3 := Lib.hid h3
    clear h3 hz3
    go_wp2_with fail
    have hsT : (segsL C).length ≤ 1000000000 := by rw [HT.out]; omega
    (go_at_call 21; (with_reducible refine (Kin.callK (W := W) (by repeat (first | with_reducible (first | exact blA | exact blB | refine blC _ ?_ | refine blD ?_ ?_ _ | refine blE ?_ | refine blF _ ?_ | refine blG ?_ _ | refine blH ?_ | refine blI ?_ ?_ _) | (simp only [World.size_alloc]; omega) | (simp <;> omega))) (segs_any _ C _ H3.out (by omega) hsT)).mono ?_); rintro e w' ⟨z4, ⟨u4, rfl, hu4⟩, hz4, rfl⟩; skip)
    rw [HT.out] at hu4
    obtain ⟨A4, c4, rfl⟩ := own_slc hu4
    replace H2 := Lib.hid (H2.out.below hz4)
    replace H3 := Lib.hid (H3.out.below hz4)
    have H4 := Lib.hid (Rd.own encSg_len hu4)
    clear hu4 hz4 hsT
    go_wp2_with fail
    go_loopw [7, 8] (fun m i wr => ∃ k : Nat, k ≤ s.length ∧ i = .int .i64 k ∧ m = .int .i64 ((s.take k).countP full) ∧ ∃ y : Kin z4.1, y.1 = wr) (fun _ i _ => s.length - (intOf i).toNat)
    case atStart => exact ⟨0, Nat.zero_le _, rfl, rfl, ⟨z4.1, Below.refl _ _⟩, rfl⟩
    case round =>
      obtain ⟨k, hk, rfl, rfl, y, rfl⟩ := hrel
      have hfl := cntF_le s k
      by_cases hlt : k < s.length
      · obtain ⟨t, ht⟩ : ∃ t, s[k]? = some t := ⟨_, List.getElem?_eq_getElem hlt⟩
        obtain ⟨bA, offA, rfl, hbA, hcA⟩ := Rd.op H2.out k t ht
        have s_0 : z4.1.cell? ⟨bA, offA + k * 4, none⟩ = some (.int .i64 t.1.1) := hcA k t ht 0 _ rfl
        have s_1 : z4.1.cell? ⟨bA, offA + k * 4 + 1, none⟩ = some (.int .i64 t.1.2) := hcA k t ht 1 _ rfl
        have s_2 : z4.1.cell? ⟨bA, offA + k * 4 + 2, none⟩ = some (.int .i64 t.2.1) := hcA k t ht 2 _ rfl
        have s_3 : z4.1.cell? ⟨bA, offA + k * 4 + 3, none⟩ = some (.int .i64 t.2.2) := hcA k t ht 3 _ rfl
        have HTK := Lib.hid ht
        clear hcA ht
        have hw2 : IntKind.i64.wrap (((s.take k).countP full : Int) + 1) = ((s.take k).countP full : Int) + 1 := IntWalk.i64_in _ (by omega)
        rcases hf : full t with _ | _
        · have hrun := neqP_run (r := false) (by have := full_eq hf; simpa using this)
          have HFT := Lib.hid (cntF_take HTK.out hf)
          clear hf
          go_wp2_with fail
          ((refine wp_region_kinK (W := (Kin.wd z4)) (by kernel_rfl) (by kernel_rfl) (by repeat (first | with_reducible (first | exact blA | exact blB | refine blC _ ?_ | refine blD ?_ ?_ _ | refine blE ?_ | refine blF _ ?_ | refine blG ?_ _ | refine blH ?_ | refine blI ?_ ?_ _) | (simp only [World.size_alloc]; omega) | (simp <;> omega))) ?_); (repeat' (first | go_big_quiet_step (fail) | ((refine wpQuiet_guard rfl rfl rfl rfl (fun hg => ?_) (fun hg => ?_)) <;> (fail_if_success (first | guard_hyp hg : true = true | guard_hyp hg : false = false)) <;> (try simp only [decide_eq_true_eq, decide_eq_false_iff_not] at hg) <;> simp only [Act.put, List.setIfInBounds_toArray, List.set_cons_zero, List.set_cons_succ]))); all_goals ((with_reducible refine wpQuiet_nil ?_); intro zq hz))
          clear hz
          go_wp2_with fail
          refine ⟨⟨k + 1, by omega, by go_num, (by rw [HFT.out]; try simp), zq, rfl⟩, by simp [intOf]; omega⟩
        · have hrun := neqP_run (r := true) (by have := full_eq hf; simpa using this)
          have HFT := Lib.hid (cntF_take HTK.out hf)
          obtain ⟨m, hm⟩ : ∃ m, cntS s t = m := ⟨_, rfl⟩
          have HM1 := Lib.hid hm
          have HM2 := Lib.hid (show cntS T t = m by
            have e1 := cntS_full (l := s) hf
            rw [← hm, ← e1]
            unfold cntS
            exact (HU1.out.1.countP_eq _).symm)
          clear hf hm
          go_wp2_with fail
          ((refine wp_region_kinK (W := (Kin.wd z4)) (by kernel_rfl) (by kernel_rfl) (by repeat (first | with_reducible (first | exact blA | exact blB | refine blC _ ?_ | refine blD ?_ ?_ _ | refine blE ?_ | refine blF _ ?_ | refine blG ?_ _ | refine blH ?_ | refine blI ?_ ?_ _) | (simp only [World.size_alloc]; omega) | (simp <;> omega))) ?_); (repeat' (first | go_big_quiet_step (fail) | ((refine wpQuiet_guard rfl rfl rfl rfl (fun hg => ?_) (fun hg => ?_)) <;> (fail_if_success (first | guard_hyp hg : true = true | guard_hyp hg : false = false)) <;> (try simp only [decide_eq_true_eq, decide_eq_false_iff_not] at hg) <;> simp only [Act.put, List.setIfInBounds_toArray, List.set_cons_zero, List.set_cons_succ]))); all_goals ((with_reducible refine wpQuiet_nil ?_); intro zq hz))
          clear hz
          go_wp2_with fail
          ((refine wp_region_kinK (W := (Kin.wd z4)) (by kernel_rfl) (by kernel_rfl) (by repeat (first | with_reducible (first | exact blA | exact blB | refine blC _ ?_ | refine blD ?_ ?_ _ | refine blE ?_ | refine blF _ ?_ | refine blG ?_ _ | refine blH ?_ | refine blI ?_ ?_ _) | (simp only [World.size_alloc]; omega) | (simp <;> omega))) ?_); (repeat' (first | go_big_quiet_step ((go_at_call 24; exact Kin.quiet _ (count_pair _ _ _ s T t _ (H2.out.below (by repeat (first | with_reducible (first | exact blA | exact blB | refine blC _ ?_ | refine blD ?_ ?_ _ | refine blE ?_ | refine blF _ ?_ | refine blG ?_ _ | refine blH ?_ | refine blI ?_ ?_ _) | (simp only [World.size_alloc]; omega) | (simp <;> omega)))) (H4.out.below (by repeat (first | with_reducible (first | exact blA | exact blB | refine blC _ ?_ | refine blD ?_ ?_ _ | refine blE ?_ | refine blF _ ?_ | refine blG ?_ _ | refine blH ?_ | refine blI ?_ ?_ _) | (simp only [World.size_alloc]; omega) | (simp <;> omega)))) (by omega) (by omega) HM1.out HM2.out (by first | exact .inl rfl | exact .inr rfl)))) | ((refine wpQuiet_guard rfl rfl rfl rfl (fun hg => ?_) (fun hg => ?_)) <;> (fail_if_success (first | guard_hyp hg : true = true | guard_hyp hg : false = false)) <;> (try simp only [decide_eq_true_eq, decide_eq_false_iff_not] at hg) <;> simp only [Act.put, List.setIfInBounds_toArray, List.set_cons_zero, List.set_cons_succ]))); all_goals ((with_reducible refine wpQuiet_nil ?_); intro zq hz))
          clear hz
          go_wp2_with fail
          refine ⟨⟨k + 1, by omega, by go_num, (by rw [HFT.out]; try simp), zq, rfl⟩, by simp [intOf]; omega⟩
      · have HCF := Lib.hid (show (s.take k).countP full = T.length by
          rw [List.take_of_length_le (by omega), ← HU1.out.1.length_eq, List.countP_eq_length_filter])
        rw [HCF.out]
        go_wp2_with fail
        go_loopw [9] (fun i wr => ∃ k : Nat, k ≤ C.length ∧ i = .int .i64 k ∧ ∃ y : Kin z4.1, y.1 = wr) (fun i _ => C.length - (intOf i).toNat)
        case atStart => exact ⟨0, Nat.zero_le _, rfl, y, rfl⟩
        case round =>
          obtain ⟨j, hj, rfl, y, rfl⟩ := hrel
          by_cases hjl : j < C.length
          · obtain ⟨o, ho⟩ : ∃ o, C[j]? = some o := ⟨_, List.getElem?_eq_getElem hjl⟩
            obtain ⟨bP, offP, rfl, hbP, hcP⟩ := pols_op H3.out j o ho
            obtain ⟨S, cS, o_0, hcS, hrS⟩ := hcP j o ho
            have HRS := Lib.hid hrS
            have ho1 : o.length ≤ 160 := HSM.out.2 o (List.mem_of_getElem? ho)
            obtain ⟨f, r, hfr, hne⟩ := HU1.out.2 o (List.mem_of_getElem? ho)
            have HFR := Lib.hid hfr
            have HNE := Lib.hid hne
            clear ho hcP hrS hfr hne
            go_wp2_with fail
            go_loopw [10] (fun i wr => ∃ j : Nat, 1 ≤ j ∧ j ≤ max 1 o.length ∧ i = .int .i64 j ∧ ∃ y : Kin z4.1, y.1 = wr) (fun i _ => o.length - (intOf i).toNat)
            case atStart => exact ⟨1, by omega, by omega, rfl, y, rfl⟩
            case round =>
              obtain ⟨i, hi1, hi, rfl, y, rfl⟩ := hrel
              by_cases hil : i < o.length
              · obtain ⟨x, hx⟩ : ∃ x, o[i]? = some x := ⟨_, List.getElem?_eq_getElem hil⟩
                have hf0 : o[0]? = some f := by rw [HFR.out]; rfl
                obtain ⟨bS, offS, rfl, hbS, hcS'⟩ := Rd.op HRS.out i x hx
                have x_0 : z4.1.cell? ⟨bS, offS + i * 2, none⟩ = some (.int .i64 x.1) := hcS' i x hx 0 _ rfl
                have x_1 : z4.1.cell? ⟨bS, offS + i * 2 + 1, none⟩ = some (.int .i64 x.2) := hcS' i x hx 1 _ rfl
                have f_0 : z4.1.cell? ⟨bS, offS, none⟩ = some (.int .i64 f.1) := by have := hcS' 0 f hf0 0 _ rfl; simpa using this
                have f_1 : z4.1.cell? ⟨bS, offS + 1, none⟩ = some (.int .i64 f.2) := by have := hcS' 0 f hf0 1 _ rfl; simpa using this
                have hxf : x ≠ f := HNE.out x (by
                  rw [HFR.out] at hx
                  obtain ⟨i', rfl⟩ : ∃ i', i = i' + 1 := ⟨i - 1, by omega⟩
                  rw [List.getElem?_cons_succ] at hx
                  exact List.mem_of_getElem? hx)
                have hrun := eqP_run (eqP_ne hxf)
                have hpo : 0 < o.length := by omega
                clear hcS' hx hf0 hxf
                go_wp2_with fail
                ((refine wp_region_kinK (W := (Kin.wd z4)) (by kernel_rfl) (by kernel_rfl) (by repeat (first | with_reducible (first | exact blA | exact blB | refine blC _ ?_ | refine blD ?_ ?_ _ | refine blE ?_ | refine blF _ ?_ | refine blG ?_ _ | refine blH ?_ | refine blI ?_ ?_ _) | (simp only [World.size_alloc]; omega) | (simp <;> omega))) ?_); (repeat' (first | go_big_quiet_step (fail) | ((refine wpQuiet_guard rfl rfl rfl rfl (fun hg => ?_) (fun hg => ?_)) <;> (fail_if_success (first | guard_hyp hg : true = true | guard_hyp hg : false = false)) <;> (try simp only [decide_eq_true_eq, decide_eq_false_iff_not] at hg) <;> simp only [Act.put, List.setIfInBounds_toArray, List.set_cons_zero, List.set_cons_succ]))); all_goals ((with_reducible refine wpQuiet_nil ?_); intro zq hz))
                clear hz
                go_wp2_with fail
                refine ⟨⟨i + 1, by omega, by omega, by go_num, zq, rfl⟩, by simp [intOf]; omega⟩
              · go_wp2_with fail
                go_roundw
                case rel => exact ⟨j + 1, by omega, by go_num, y, rfl⟩
                case measure => simp [intOf]; omega
          · have ee : ((T.length : Int) == (T.length : Int)) = true := beq_self_eq_true _
            go_wp2_with fail
            (go_at_call 19; (with_reducible refine (Kin.callK (W := W) (by repeat (first | with_reducible (first | exact blA | exact blB | refine blC _ ?_ | refine blD ?_ ?_ _ | refine blE ?_ | refine blF _ ?_ | refine blG ?_ _ | refine blH ?_ | refine blI ?_ ?_ _) | (simp only [World.size_alloc]; omega) | (simp <;> omega))) (awake16_any _)).mono ?_); rintro e w' ⟨z6, rfl, hz6, rfl⟩; skip)
            go_wp2_with fail
            go_ret
            exact ⟨rfl, z6.2⟩
  · obtain ⟨C, hC⟩ : ∃ C, chLst s = C := ⟨_, rfl⟩
    have HC := Lib.hid hC
    have HE8 := Lib.hid hE8
    clear hC hE8
    go_enter Try.func5, Try.ntmps5
    go_wp2_with fail
    (go_at_call 20; (with_reducible refine (Kin.callK (W := W) (by repeat (first | with_reducible (first | exact blA | exact blB | refine blC _ ?_ | refine blD ?_ ?_ _ | refine blE ?_ | refine blF _ ?_ | refine blG ?_ _ | refine blH ?_ | refine blI ?_ ?_ _) | (simp only [World.size_alloc]; omega) | (simp <;> omega))) (some16_any _ l _ h)).mono ?_); rintro e w' ⟨z1, ⟨u, rfl, hu⟩, hz1, rfl⟩; skip)
    rw [HQ.out] at hu
    have HU := Lib.hid hu
    clear hu hz1 h
    go_wp2_with fail
    have hsq : (segsL q).length ≤ 1000000000 := by rw [HS.out]; omega
    (go_at_call 21; (with_reducible refine (Kin.callK (W := W) (by repeat (first | with_reducible (first | exact blA | exact blB | refine blC _ ?_ | refine blD ?_ ?_ _ | refine blE ?_ | refine blF _ ?_ | refine blG ?_ _ | refine blH ?_ | refine blI ?_ ?_ _) | (simp only [World.size_alloc]; omega) | (simp <;> omega))) (segs_any _ q _ HU.out (by omega) hsq)).mono ?_); rintro e w' ⟨z2, ⟨u2, rfl, hu2⟩, hz2, rfl⟩; skip)
    rw [HS.out] at hu2
    have H2 := Lib.hid (Rd.own encSg_len hu2)
    clear hu2 hz2 hsq
    go_wp2_with fail
    (go_at_call 14; (with_reducible refine (Kin.callK (W := W) (by repeat (first | with_reducible (first | exact blA | exact blB | refine blC _ ?_ | refine blD ?_ ?_ _ | refine blE ?_ | refine blF _ ?_ | refine blG ?_ _ | refine blH ?_ | refine blI ?_ ?_ _) | (simp only [World.size_alloc]; omega) | (simp <;> omega))) (chain_own _ s _ H2.out HWF.out HE8.out HC.out)).mono ?_); rintro e w' ⟨z3, ⟨A3, c3, rfl, h3⟩, hz3, rfl⟩; skip)
    clear h3 hz3
    go_wp2_with fail
    (go_at_call 19; (with_reducible refine (Kin.callK (W := W) (by repeat (first | with_reducible (first | exact blA | exact blB | refine blC _ ?_ | refine blD ?_ ?_ _ | refine blE ?_ | refine blF _ ?_ | refine blG ?_ _ | refine blH ?_ | refine blI ?_ ?_ _) | (simp only [World.size_alloc]; omega) | (simp <;> omega))) (awake16_any _)).mono ?_); rintro e w' ⟨z6, rfl, hz6, rfl⟩; skip)
    go_wp2_with fail
    go_ret
    exact ⟨rfl, z6.2⟩
set_option maxRecDepth 100000 in
theorem contourUses_lifted (os : Os) (started : os.Started) (H : Type) (enc : TypeId × Value → H) :
    ReturnsInHanded {} Try.checked os 5 .any (Rows.contourUsesSpec.pre6 enc Try.prog Try.f5 Rows.contourUsesRow.domain false) (Rows.contourUsesSpec.post enc Try.prog Try.f5 false true false false) := by
  refine returnsInHanded_of_change (C := Try.checked) own started (by kernel_rfl) Try.func5
    (ChangeSpec.witness6 (enc := enc) (C := Try.checked) false ⟨#[], #[.slice none 0 0], []⟩ 8 (by kernel_rfl) (by kernel_rfl) (by kernel_rfl) (by kernel_rfl)) ?_
  intro W base args ds gs before hval0 hW hcnd _
  have hval : ∀ (j : Nat) t v, Try.f5.params[j]? = some t → args[j]? = some v → Value.okWide Try.prog W .any base t v := hval0
  have hW' := hW
  obtain ⟨p, q, hA0, hV, rfl, hfz, hnd⟩ := hW
  have hA : DataW.TrodAll enc Try.prog W 0 (fun _ => true) true Try.f5.params.toList args.toList ds p := hA0
  rw [Try.params5] at hA hval
  have hAA := hA
  obtain ⟨v0, vs0, d0, ds0, p0, q0, hargs, rfl, rfl, h0, r0⟩ := trodAll_cons hA
  obtain ⟨rfl, rfl, rfl⟩ := trodAll_nil r0
  obtain rfl : args = #[v0] := by cases args; simp_all
  obtain ⟨rfl, rfl⟩ := trodVars_none hV
  have o0 := open_pols (hval 0 24 v0 rfl rfl) h0
  have hlt : ∀ x ∈ p0 ++ [], x.block < W.heap.size := fun x hx => hW'.lt x (by simpa using hx)
  refine (ctrUses_walk W _ o0).mono fun e W' ⟨he, bel⟩ => ?_
  subst he
  exact ⟨_, rfl, _, _, _, [], _, [], hW', trodAll_mk1 (shut_bool Try.underlying4 _), below_trodAll laidOut bel _ _ _ _ (by
    intro t ht
    have hcl : ([24] : List TypeId).all (fun t => Try.prog.readableRec t && decide (t < Try.prog.types.size)) = true := by kernel_rfl
    have := List.all_eq_true.1 hcl t ht
    simpa using this) hlt hAA, rfl, bel.frame _, fun h => by cases h⟩
theorem contourUses_heard : (Try.checked.prog.stopsHeard = true ∧ Try.checked.prog.mayEnter = true) ∧ Try.checked.prog.liftsFinal = Rows.contourUsesRow.lifted := ⟨⟨by kernel_rfl, by kernel_rfl⟩, by kernel_rfl⟩
theorem contourUses_calls : (Try.checked.prog.inPlace 5 = Rows.contourUsesRow.inPlace ∧ Try.checked.prog.unfollowed 5 = Rows.contourUsesRow.unfollowed) ∧ (Try.checked.prog.recurses 5 = Rows.contourUsesRow.recurses ∧ Try.checked.prog.varsNamed 5 = Rows.contourUsesRow.named) := ⟨⟨by kernel_rfl, by kernel_rfl⟩, ⟨by kernel_rfl, by kernel_rfl⟩⟩
theorem contourUses_closed : joinedFacts Try.checked.prog 5 Try.f5 Rows.contourUsesSpec Rows.contourUsesRow = true := by
  unfold joinedFacts
  rw [contourUses_calls.1.1, contourUses_calls.1.2, contourUses_calls.2.1, contourUses_calls.2.2, contourUses_heard.1.1, contourUses_heard.1.2, contourUses_heard.2]
  kernel_rfl
/-- ContourUses: for every input the call returns true, and the arguments read behind it as before. No condition. -/
theorem contourUses_holds : Rows.ContourUsesSaid :=
  OpenClaim.holds_of_wide 5 Try.f5 rfl rfl rfl rfl rfl rfl rfl ⟨rfl, rfl, rfl, rfl, rfl⟩ rfl rfl rfl rfl rfl (by kernel_rfl) Try.func5 contourUses_closed
    (of_decide_eq_true (by kernel_rfl)) (by unfold Func.isWrapper; rw [if_neg (of_decide_eq_false (by kernel_rfl))]; exact ⟨rfl, rfl⟩)
    (fun os started H enc _ => contourUses_lifted os started H enc)

end Go.Proofs.Yteadnlodccnfcaa

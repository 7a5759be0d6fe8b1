/- ContourTurns: for every input the law returns true. No condition. -/
import Derived.Test.YteadnlodccnfcaaCtrLawS
import Derived.Test.YteadnlodccnfcaaCtrTurnM
import Derived.Test.YteadnlodccnfcaaPlanarArea2
namespace Go.Proofs.Yteadnlodccnfcaa
set_option linter.unusedSimpArgs false
set_option linter.unusedVariables false
set_option maxRecDepth 100000
open Go.ChangeShapes Go.WideShapes Go.ChangeAt Go.RowKit Go.Joins Planar
attribute [local go_sem] Kin.cell Kin.frozen Kin.lt0 Kin.lt1 Kin.lt2 Kin.lt3 run_mkf
theorem area_at {X : Int} (v : Value) (l : List Pt) (w : World) (h : Rd 2 encPt w v l) (hlen : l.length ≤ 1099511627776) (hX : area2 l = X) :
    Calls Try.prog 33 #[v] w fun e w' => e = .returned (.int .i64 X) ∧ Below w.heap.size w w' := by
  subst hX
  exact area_ref v l w h hlen
set_option maxHeartbeats 8000000 in
theorem ctrTurns_walk (W : World) (v : Value) (h : IsPol W v) : Calls Try.prog 12 #[v] W fun e W' => e = .returned (.bool true) ∧ Below W.heap.size W W' := by
  obtain ⟨A, n, c, o, rfl, h, hw⟩ := h
  have hnc : n = o.length ∧ n ≤ c := by
    obtain ⟨A', c', e, hc, _⟩ := h
    injection e with e1 e2 e3
    subst e2 e3
    exact ⟨rfl, hc⟩
  have hnc2 := hnc.2
  by_cases h40 : 40 < n
  · obtain ⟨q, hq⟩ : ∃ q, o.take 40 = q := ⟨_, rfl⟩
    have hr := rd_cut h 40 c (by omega) (by omega)
    rw [hq] at hr
    have hql : q.length = 40 := by rw [← hq, List.length_take]; omega
    obtain ⟨R, hR⟩ : ∃ R, resP q = R := ⟨_, rfl⟩
    have HR := Lib.hid hR
    have HQ := Lib.hid hr
    have HL := Lib.hid hql
    clear hr hq hql hR h hw hnc
    go_enter Try.func12, Try.ntmps12
    go_wp2_with fail
    have b_0 := (Blk.new W 42 #[.slice A 40 c]).cell 0
    have bl := (Blk.new W 42 #[.slice A 40 c]).lt
    replace HQ := Lib.hid (HQ.out.below (Below.alloc (Below.refl _ _) (Nat.le_refl _) (.cells #[.slice A 40 c] 42)))
    have hbw : Below W.heap.size W (W.alloc (.cells #[.slice A 40 c] 42)) := Below.alloc (Below.refl _ _) (Nat.le_refl _) _
    obtain ⟨W0, hW0⟩ : ∃ W0, W.alloc (.cells #[.slice A 40 c] 42) = W0 := ⟨_, rfl⟩
    rw [hW0] at b_0 bl HQ hbw ⊢
    have HBW := Lib.hid hbw
    clear hW0 hbw
    change W0.cell? ⟨W.heap.size, 0, none⟩ = some (.slice A 40 c) at b_0
    rw [show decide ((40 : Int) < (n : Int)) = true by simp; omega]
    go_loopw [3] (fun i wr => ∃ k : Nat, k ≤ 40 ∧ i = .int .i64 k ∧ Hid (∀ j p, j < k → q[j]? = some p → vld p = true) ∧ ∃ y : Kin W0, y.1 = wr) (fun i _ => 40 - (intOf i).toNat)
    case atStart => exact ⟨0, Nat.zero_le _, rfl, Lib.hid (fun j p h => absurd h (by omega)), ⟨_, Below.refl _ _⟩, rfl⟩
    case round =>
      obtain ⟨k, hk, rfl, HV, y, rfl⟩ := hrel
      by_cases hlt : k < 40
      · obtain ⟨a, ha⟩ : ∃ a, q[k]? = some a := ⟨_, List.getElem?_eq_getElem (by rw [HL.out]; exact hlt)⟩
        obtain ⟨g, off, rfl, hg, hcc⟩ := Rd.op HQ.out k a ha
        have a_0 : W0.cell? ⟨g, off + k * 2, none⟩ = some (.int .i64 a.1) := hcc k a ha 0 _ rfl
        have a_1 : W0.cell? ⟨g, off + k * 2 + 1, none⟩ = some (.int .i64 a.2) := hcc k a ha 1 _ rfl
        have HA := Lib.hid ha
        clear hcc ha
        cases hv : vld a
        · go_wp2_with (first
            | (go_at_call 29; (with_reducible refine (Kin.callK (W := W0) (by repeat (first | with_reducible (first | exact blA | exact blB | refine blC _ ?_ | refine blD ?_ ?_ _ | refine blE ?_ | refine blF _ ?_ | refine blG ?_ _ | refine blH ?_ | refine blI ?_ ?_ _) | (simp only [World.size_alloc]; omega) | (simp <;> omega))) (valid_ref a _)).mono ?_); rintro e w' ⟨z1, rfl, hz1, rfl⟩; skip)
            | (go_at_call 19; (with_reducible refine (Kin.callK (W := W0) (by repeat (first | with_reducible (first | exact blA | exact blB | refine blC _ ?_ | refine blD ?_ ?_ _ | refine blE ?_ | refine blF _ ?_ | refine blG ?_ _ | refine blH ?_ | refine blI ?_ ?_ _) | (simp only [World.size_alloc]; omega) | (simp <;> omega))) (awake16_any _)).mono ?_); rintro e w' ⟨z2, rfl, hz2, rfl⟩; skip))
          go_ret
          exact ⟨rfl, HBW.out.trans (Below.mono (by repeat (first | with_reducible (first | exact blA | exact blB | refine blC _ ?_ | refine blD ?_ ?_ _ | refine blE ?_ | refine blF _ ?_ | refine blG ?_ _ | refine blH ?_ | refine blI ?_ ?_ _) | (simp only [World.size_alloc]; omega) | (simp <;> omega))) HBW.out.size)⟩
        · have HVA := Lib.hid hv
          go_wp2_with (go_at_call 29; (with_reducible refine (Kin.callK (W := W0) (by repeat (first | with_reducible (first | exact blA | exact blB | refine blC _ ?_ | refine blD ?_ ?_ _ | refine blE ?_ | refine blF _ ?_ | refine blG ?_ _ | refine blH ?_ | refine blI ?_ ?_ _) | (simp only [World.size_alloc]; omega) | (simp <;> omega))) (valid_ref a _)).mono ?_); rintro e w' ⟨z1, rfl, hz1, rfl⟩; skip)
          go_roundw
          case rel => exact ⟨k + 1, by omega, by go_num, Lib.hid (vld_step HV.out HA.out HVA.out), z1, rfl⟩
          case measure => simp [intOf]; omega
      · have hav : allVld q = true := allVld_of (fun j p hj hp => HV.out j p (by rw [HL.out] at hj; omega) hp)
        have hql := HL.out
        have hRq := HR.out
        have hflat := resP_flat q
        have har := resP_area hav (by omega)
        have hag := resP_again q
        have hno := resP_no q
        have hle := resP_len q
        rw [hRq] at hflat har hag hno hle
        rw [hql] at hle
        have HRR := Lib.hid hag
        have HRF := Lib.hid hflat
        obtain ⟨X, hX⟩ : ∃ X, area2 R = X := ⟨_, rfl⟩
        have HX1 := Lib.hid hX
        have HX2 := Lib.hid (har.symm.trans hX)
        have ee : (X == X) = true := beq_self_eq_true X
        clear hav hql hRq hflat har hag hX HV
        go_wp2_with (go_at_call 30; (with_reducible refine (Kin.callK (W := W0) (by repeat (first | with_reducible (first | exact blA | exact blB | refine blC _ ?_ | refine blD ?_ ?_ _ | refine blE ?_ | refine blF _ ?_ | refine blG ?_ _ | refine blH ?_ | refine blI ?_ ?_ _) | (simp only [World.size_alloc]; omega) | (simp <;> omega))) (simplify_at _ A 40 c q (HQ.out.below (by repeat (first | with_reducible (first | exact blA | exact blB | refine blC _ ?_ | refine blD ?_ ?_ _ | refine blE ?_ | refine blF _ ?_ | refine blG ?_ _ | refine blH ?_ | refine blI ?_ ?_ _) | (simp only [World.size_alloc]; omega) | (simp <;> omega)))) (by rw [HL.out]; omega) HR.out)).mono ?_); rintro e w' ⟨z1, ⟨S1, m1, d1, rfl, hu1⟩, hz1, rfl⟩; (have HU1 := Lib.hid hu1; clear hu1 hz1))
        have hm1 : m1 = R.length := by
          obtain ⟨A', c', e, _⟩ := HU1.out
          injection e with _ e2
        rw [← hm1] at hno hle
        have hn1 := hno.1
        have hn2 := hno.2
        have hb1 : ((m1 : Int) != 1) = true := by simp; omega
        have hb2 : ((m1 : Int) != 2) = true := by simp; omega
        have HRL := Lib.hid hm1.symm
        have hRl : R.length ≤ 40 := by omega
        clear hm1 hno
        have d_0 := (Blk.new z1.1 42 #[.slice S1 m1 d1]).cell 0
        have dl := (Blk.new z1.1 42 #[.slice S1 m1 d1]).lt
        have hb01 : Below W0.heap.size W0 (z1.1.alloc (.cells #[.slice S1 m1 d1] 42)) := z1.2.alloc z1.2.size _
        have HQ1 := Lib.hid (HU1.out.below (Below.alloc (Below.refl _ _) (Nat.le_refl _) (.cells #[.slice S1 m1 d1] 42)))
        obtain ⟨W1, hW1⟩ : ∃ W1, z1.1.alloc (.cells #[.slice S1 m1 d1] 42) = W1 := ⟨_, rfl⟩
        rw [hW1] at d_0 dl hb01 HQ1
        obtain ⟨g1, hg1⟩ : ∃ g1, z1.1.heap.size = g1 := ⟨_, rfl⟩
        rw [hg1] at d_0 dl
        rw [hW1, hg1]
        have HB01 := Lib.hid hb01
        replace HQ := Lib.hid (HQ.out.below hb01)
        have e_0 : W1.cell? ⟨W.heap.size, 0, none⟩ = some (.slice A 40 c) := (hb01.cell (p := ⟨W.heap.size, 0, none⟩) bl).trans b_0
        have el : W.heap.size < W1.heap.size := Nat.lt_of_lt_of_le bl hb01.size
        change W1.cell? ⟨g1, 0, none⟩ = some (.slice S1 m1 d1) at d_0
        clear hb01 hW1 hg1 HU1 b_0 bl hn1 hn2
        go_loopw [6] (fun i wr => ∃ k : Nat, k ≤ m1 ∧ i = .int .i64 k ∧ ∃ y : Kin W1, y.1 = wr) (fun i _ => m1 - (intOf i).toNat)
        case atStart => exact ⟨0, Nat.zero_le _, rfl, ⟨_, Below.refl _ _⟩, rfl⟩
        case round =>
          obtain ⟨i, hi', rfl, y1, rfl⟩ := hrel
          by_cases hi : i < m1
          · obtain ⟨q1, hq1⟩ : ∃ q, (i + m1 - 1) % m1 = q := ⟨_, rfl⟩
            obtain ⟨q2, hq2⟩ : ∃ q, (i + 1) % m1 = q := ⟨_, rfl⟩
            have l1 : q1 < m1 := by rw [← hq1]; exact Nat.mod_lt _ (by omega)
            have l2 : q2 < m1 := by rw [← hq2]; exact Nat.mod_lt _ (by omega)
            obtain ⟨a, ha⟩ : ∃ a, R[q1]? = some a := ⟨_, List.getElem?_eq_getElem (by rw [HRL.out]; exact l1)⟩
            obtain ⟨b, hb⟩ : ∃ b, R[i]? = some b := ⟨_, List.getElem?_eq_getElem (by rw [HRL.out]; exact hi)⟩
            obtain ⟨c', hc⟩ : ∃ c, R[q2]? = some c := ⟨_, List.getElem?_eq_getElem (by rw [HRL.out]; exact l2)⟩
            have hF := (flatAt_is HRL.out hq1 hq2 ha hb hc).symm.trans (HRF.out i (by rw [HRL.out]; exact hi))
            have hfb : turn a b c' ≠ 0 := by simpa using hF
            obtain ⟨g, off, rfl, hg, hcc⟩ := Rd.op HQ1.out q1 a ha
            have a_0 : W1.cell? ⟨g, off + q1 * 2, none⟩ = some (.int .i64 a.1) := hcc q1 a ha 0 _ rfl
            have a_1 : W1.cell? ⟨g, off + q1 * 2 + 1, none⟩ = some (.int .i64 a.2) := hcc q1 a ha 1 _ rfl
            have b_0 : W1.cell? ⟨g, off + i * 2, none⟩ = some (.int .i64 b.1) := hcc i b hb 0 _ rfl
            have b_1 : W1.cell? ⟨g, off + i * 2 + 1, none⟩ = some (.int .i64 b.2) := hcc i b hb 1 _ rfl
            have c_0 : W1.cell? ⟨g, off + q2 * 2, none⟩ = some (.int .i64 c'.1) := hcc q2 c' hc 0 _ rfl
            have c_1 : W1.cell? ⟨g, off + q2 * 2 + 1, none⟩ = some (.int .i64 c'.2) := hcc q2 c' hc 1 _ rfl
            have e0 : IntKind.i64.wrap ((i : Int) + (m1 : Int)) = (i : Int) + (m1 : Int) := IntWalk.i64_in _ (by omega)
            have e1 : IntKind.i64.wrap ((i : Int) + (m1 : Int) - 1) = (i : Int) + (m1 : Int) - 1 := IntWalk.i64_in _ (by omega)
            have e2b : ((i : Int) + (m1 : Int) - 1) % (m1 : Int) = (q1 : Int) := by rw [← hq1]; rw [Int.natCast_emod]; congr 1; omega
            have e2 : ((i : Int) + (m1 : Int) - 1).tmod (m1 : Int) = (q1 : Int) := by rw [Int.tmod_eq_emod_of_nonneg (by omega)]; exact e2b
            have e3 : IntKind.i64.wrap (q1 : Int) = (q1 : Int) := IntWalk.i64_in _ (by omega)
            have f1 : IntKind.i64.wrap ((i : Int) + 1) = (i : Int) + 1 := IntWalk.i64_in _ (by omega)
            have f2b : ((i : Int) + 1) % (m1 : Int) = (q2 : Int) := by rw [← hq2]; rfl
            have f2 : ((i : Int) + 1).tmod (m1 : Int) = (q2 : Int) := by rw [Int.tmod_eq_emod_of_nonneg (by omega)]; exact f2b
            have f3 : IntKind.i64.wrap (q2 : Int) = (q2 : Int) := IntWalk.i64_in _ (by omega)
            have e4 : ¬ (m1 : Int) = 0 := by omega
            have e4b : ¬ m1 = 0 := by omega
            have e5 : (q1 : Int) < (m1 : Int) := by omega
            have f5 : (q2 : Int) < (m1 : Int) := by omega
            clear hcc ha hb hc hq1 hq2 hF
            go_wp2
            ((refine wp_region_kinK (W := W1) (by kernel_rfl) (by kernel_rfl) (by repeat (first | with_reducible (first | exact blA | exact blB | refine blC _ ?_ | refine blD ?_ ?_ _ | refine blE ?_ | refine blF _ ?_ | refine blG ?_ _ | refine blH ?_ | refine blI ?_ ?_ _) | (simp only [World.size_alloc]; omega) | (simp <;> omega))) ?_); (repeat' (first | go_big_quiet_step ((go_at_call 32; exact Kin.quiet _ (turn_ref a b c' _))) | ((refine wpQuiet_guard rfl rfl rfl rfl (fun hg => ?_) (fun hg => ?_)) <;> (fail_if_success (first | guard_hyp hg : true = true | guard_hyp hg : false = false)) <;> (try simp only [decide_eq_true_eq, decide_eq_false_iff_not] at hg) <;> simp only [Act.put, List.setIfInBounds_toArray, List.set_cons_zero, List.set_cons_succ]))); all_goals ((with_reducible refine wpQuiet_nil ?_); intro zq hz))
            go_wp2
            go_roundw
            case rel => exact ⟨i + 1, by omega, by go_num, _, rfl⟩
            case measure => simp [intOf]; omega
          · go_wp2_with fail
            go_region_held (fun w' => w'.cell? ⟨W.heap.size, 0, none⟩ = some (.slice A 40 c) ∧ w'.cell? ⟨g1, 0, none⟩ = some (.slice S1 m1 d1)) (refine ⟨?_, ?_⟩ <;> first | assumption | (refine (Kin.cell (W := W1) _ ?_).trans ?_ <;> assumption) | simp [*, World.cell?_alloc_some, World.cell?_setCell_far] | ((refine (World.cell?_setCell_other (by simp)).trans ?_); first | assumption | simp [*])) (first | (go_at_call 33; (with_reducible refine (Kin.callK (W := W1) (by repeat (first | with_reducible (first | exact blA | exact blB | refine blC _ ?_ | refine blD ?_ ?_ _ | refine blE ?_ | refine blF _ ?_ | refine blG ?_ _ | refine blH ?_ | refine blI ?_ ?_ _) | (simp only [World.size_alloc]; omega) | (simp <;> omega))) (area_at _ R _ (HQ1.out.below (by repeat (first | with_reducible (first | exact blA | exact blB | refine blC _ ?_ | refine blD ?_ ?_ _ | refine blE ?_ | refine blF _ ?_ | refine blG ?_ _ | refine blH ?_ | refine blI ?_ ?_ _) | (simp only [World.size_alloc]; omega) | (simp <;> omega)))) (by rw [HRL.out]; omega) HX1.out)).mono ?_); rintro e w' ⟨za, rfl, hza, rfl⟩; skip) | (go_at_call 33; (with_reducible refine (Kin.callK (W := W1) (by repeat (first | with_reducible (first | exact blA | exact blB | refine blC _ ?_ | refine blD ?_ ?_ _ | refine blE ?_ | refine blF _ ?_ | refine blG ?_ _ | refine blH ?_ | refine blI ?_ ?_ _) | (simp only [World.size_alloc]; omega) | (simp <;> omega))) (area_at _ q _ (HQ.out.below (by repeat (first | with_reducible (first | exact blA | exact blB | refine blC _ ?_ | refine blD ?_ ?_ _ | refine blE ?_ | refine blF _ ?_ | refine blG ?_ _ | refine blH ?_ | refine blI ?_ ?_ _) | (simp only [World.size_alloc]; omega) | (simp <;> omega)))) (by rw [HL.out]; omega) HX2.out)).mono ?_); rintro e w' ⟨zb, rfl, hzb, rfl⟩; skip) | (go_at_call 30; (with_reducible refine (Kin.callK (W := W1) (by repeat (first | with_reducible (first | exact blA | exact blB | refine blC _ ?_ | refine blD ?_ ?_ _ | refine blE ?_ | refine blF _ ?_ | refine blG ?_ _ | refine blH ?_ | refine blI ?_ ?_ _) | (simp only [World.size_alloc]; omega) | (simp <;> omega))) (simplify_at _ S1 m1 d1 R (HQ1.out.below (by repeat (first | with_reducible (first | exact blA | exact blB | refine blC _ ?_ | refine blD ?_ ?_ _ | refine blE ?_ | refine blF _ ?_ | refine blG ?_ _ | refine blH ?_ | refine blI ?_ ?_ _) | (simp only [World.size_alloc]; omega) | (simp <;> omega)))) (by rw [HRL.out]; omega) HRR.out)).mono ?_); rintro e w' ⟨z2, ⟨S2, m2, d2, rfl, hu2⟩, hz2, rfl⟩; (have HU2 := Lib.hid hu2; have HZ2 := Lib.hid hz2; clear hu2 hz2)) | (go_at_call 16; (with_reducible refine (Kin.callK (W := W1) (by repeat (first | with_reducible (first | exact blA | exact blB | refine blC _ ?_ | refine blD ?_ ?_ _ | refine blE ?_ | refine blF _ ?_ | refine blG ?_ _ | refine blH ?_ | refine blI ?_ ?_ _) | (simp only [World.size_alloc]; omega) | (simp <;> omega))) (samePols_true _ _ [R] _ ((rdPols_at (HQ1.out.kin zb)).below (Below.alloc HZ2.out HZ2.out.size _)) (rdPols_at HU2.out) (by simp) (fun x hx => by rw [List.mem_singleton.1 hx]; omega))).mono ?_); rintro e w' ⟨z3, rfl, hz3, rfl⟩; skip) | (go_at_call 16; (with_reducible refine (Kin.callK (W := W1) (by repeat (first | with_reducible (first | exact blA | exact blB | refine blC _ ?_ | refine blD ?_ ?_ _ | refine blE ?_ | refine blF _ ?_ | refine blG ?_ _ | refine blH ?_ | refine blI ?_ ?_ _) | (simp only [World.size_alloc]; omega) | (simp <;> omega))) (samePols_true _ _ [R] _ ((rdPols_at (HQ1.out.kin z2)).below (Below.alloc (Below.refl _ _) (Nat.le_refl _) _)) (rdPols_at (HU2.out.below (Below.alloc (Below.refl _ _) (Nat.le_refl _) _))) (by simp) (fun x hx => by rw [List.mem_singleton.1 hx]; omega))).mono ?_); rintro e w' ⟨z3, rfl, hz3, rfl⟩; skip) | (go_at_call 16; (with_reducible refine (Kin.callK (W := W1) (by repeat (first | with_reducible (first | exact blA | exact blB | refine blC _ ?_ | refine blD ?_ ?_ _ | refine blE ?_ | refine blF _ ?_ | refine blG ?_ _ | refine blH ?_ | refine blI ?_ ?_ _) | (simp only [World.size_alloc]; omega) | (simp <;> omega))) (samePols_true _ _ [R] _ (rdPols_at ((HQ1.out.kin z2).below (Below.alloc (Below.refl _ _) (Nat.le_refl _) _))) ((rdPols_at HU2.out).below (Below.alloc (Below.refl _ _) (Nat.le_refl _) _)) (by simp) (fun x hx => by rw [List.mem_singleton.1 hx]; omega))).mono ?_); rintro e w' ⟨z3, rfl, hz3, rfl⟩; skip) | (go_at_call 19; (with_reducible refine (Kin.callK (W := W1) (by repeat (first | with_reducible (first | exact blA | exact blB | refine blC _ ?_ | refine blD ?_ ?_ _ | refine blE ?_ | refine blF _ ?_ | refine blG ?_ _ | refine blH ?_ | refine blI ?_ ?_ _) | (simp only [World.size_alloc]; omega) | (simp <;> omega))) (awake16_any _)).mono ?_); rintro e w' ⟨z4, rfl, hz4, rfl⟩; skip))
            all_goals
              go_wp2
              go_ret
              exact ⟨rfl, HBW.out.trans ((HB01.out.mono HBW.out.size).trans (Below.mono (by repeat (first | with_reducible (first | exact blA | exact blB | refine blC _ ?_ | refine blD ?_ ?_ _ | refine blE ?_ | refine blF _ ?_ | refine blG ?_ _ | refine blH ?_ | refine blI ?_ ?_ _) | (simp only [World.size_alloc]; omega) | (simp <;> omega))) (Nat.le_trans HBW.out.size HB01.out.size)))⟩
  · obtain ⟨q, hq⟩ : ∃ q, o = q := ⟨_, rfl⟩
    have hr := h
    rw [hq] at hr
    have hql : q.length = n := by rw [← hq]; exact hnc.1.symm
    obtain ⟨R, hR⟩ : ∃ R, resP q = R := ⟨_, rfl⟩
    have HR := Lib.hid hR
    have HQ := Lib.hid hr
    have HL := Lib.hid hql
    clear hr hq hql hR h hw hnc
    go_enter Try.func12, Try.ntmps12
    go_wp2_with fail
    have b_0 := (Blk.new W 42 #[.slice A n c]).cell 0
    have bl := (Blk.new W 42 #[.slice A n c]).lt
    replace HQ := Lib.hid (HQ.out.below (Below.alloc (Below.refl _ _) (Nat.le_refl _) (.cells #[.slice A n c] 42)))
    have hbw : Below W.heap.size W (W.alloc (.cells #[.slice A n c] 42)) := Below.alloc (Below.refl _ _) (Nat.le_refl _) _
    obtain ⟨W0, hW0⟩ : ∃ W0, W.alloc (.cells #[.slice A n c] 42) = W0 := ⟨_, rfl⟩
    rw [hW0] at b_0 bl HQ hbw ⊢
    have HBW := Lib.hid hbw
    clear hW0 hbw
    change W0.cell? ⟨W.heap.size, 0, none⟩ = some (.slice A n c) at b_0
    skip
    go_loopw [3] (fun i wr => ∃ k : Nat, k ≤ n ∧ i = .int .i64 k ∧ Hid (∀ j p, j < k → q[j]? = some p → vld p = true) ∧ ∃ y : Kin W0, y.1 = wr) (fun i _ => n - (intOf i).toNat)
    case atStart => exact ⟨0, Nat.zero_le _, rfl, Lib.hid (fun j p h => absurd h (by omega)), ⟨_, Below.refl _ _⟩, rfl⟩
    case round =>
      obtain ⟨k, hk, rfl, HV, y, rfl⟩ := hrel
      by_cases hlt : k < n
      · obtain ⟨a, ha⟩ : ∃ a, q[k]? = some a := ⟨_, List.getElem?_eq_getElem (by rw [HL.out]; exact hlt)⟩
        obtain ⟨g, off, rfl, hg, hcc⟩ := Rd.op HQ.out k a ha
        have a_0 : W0.cell? ⟨g, off + k * 2, none⟩ = some (.int .i64 a.1) := hcc k a ha 0 _ rfl
        have a_1 : W0.cell? ⟨g, off + k * 2 + 1, none⟩ = some (.int .i64 a.2) := hcc k a ha 1 _ rfl
        have HA := Lib.hid ha
        clear hcc ha
        cases hv : vld a
        · go_wp2_with (first
            | (go_at_call 29; (with_reducible refine (Kin.callK (W := W0) (by repeat (first | with_reducible (first | exact blA | exact blB | refine blC _ ?_ | refine blD ?_ ?_ _ | refine blE ?_ | refine blF _ ?_ | refine blG ?_ _ | refine blH ?_ | refine blI ?_ ?_ _) | (simp only [World.size_alloc]; omega) | (simp <;> omega))) (valid_ref a _)).mono ?_); rintro e w' ⟨z1, rfl, hz1, rfl⟩; skip)
            | (go_at_call 19; (with_reducible refine (Kin.callK (W := W0) (by repeat (first | with_reducible (first | exact blA | exact blB | refine blC _ ?_ | refine blD ?_ ?_ _ | refine blE ?_ | refine blF _ ?_ | refine blG ?_ _ | refine blH ?_ | refine blI ?_ ?_ _) | (simp only [World.size_alloc]; omega) | (simp <;> omega))) (awake16_any _)).mono ?_); rintro e w' ⟨z2, rfl, hz2, rfl⟩; skip))
          go_ret
          exact ⟨rfl, HBW.out.trans (Below.mono (by repeat (first | with_reducible (first | exact blA | exact blB | refine blC _ ?_ | refine blD ?_ ?_ _ | refine blE ?_ | refine blF _ ?_ | refine blG ?_ _ | refine blH ?_ | refine blI ?_ ?_ _) | (simp only [World.size_alloc]; omega) | (simp <;> omega))) HBW.out.size)⟩
        · have HVA := Lib.hid hv
          go_wp2_with (go_at_call 29; (with_reducible refine (Kin.callK (W := W0) (by repeat (first | with_reducible (first | exact blA | exact blB | refine blC _ ?_ | refine blD ?_ ?_ _ | refine blE ?_ | refine blF _ ?_ | refine blG ?_ _ | refine blH ?_ | refine blI ?_ ?_ _) | (simp only [World.size_alloc]; omega) | (simp <;> omega))) (valid_ref a _)).mono ?_); rintro e w' ⟨z1, rfl, hz1, rfl⟩; skip)
          go_roundw
          case rel => exact ⟨k + 1, by omega, by go_num, Lib.hid (vld_step HV.out HA.out HVA.out), z1, rfl⟩
          case measure => simp [intOf]; omega
      · have hav : allVld q = true := allVld_of (fun j p hj hp => HV.out j p (by rw [HL.out] at hj; omega) hp)
        have hql := HL.out
        have hRq := HR.out
        have hflat := resP_flat q
        have har := resP_area hav (by omega)
        have hag := resP_again q
        have hno := resP_no q
        have hle := resP_len q
        rw [hRq] at hflat har hag hno hle
        rw [hql] at hle
        have HRR := Lib.hid hag
        have HRF := Lib.hid hflat
        obtain ⟨X, hX⟩ : ∃ X, area2 R = X := ⟨_, rfl⟩
        have HX1 := Lib.hid hX
        have HX2 := Lib.hid (har.symm.trans hX)
        have ee : (X == X) = true := beq_self_eq_true X
        clear hav hql hRq hflat har hag hX HV
        go_wp2_with (go_at_call 30; (with_reducible refine (Kin.callK (W := W0) (by repeat (first | with_reducible (first | exact blA | exact blB | refine blC _ ?_ | refine blD ?_ ?_ _ | refine blE ?_ | refine blF _ ?_ | refine blG ?_ _ | refine blH ?_ | refine blI ?_ ?_ _) | (simp only [World.size_alloc]; omega) | (simp <;> omega))) (simplify_at _ A n c q (HQ.out.below (by repeat (first | with_reducible (first | exact blA | exact blB | refine blC _ ?_ | refine blD ?_ ?_ _ | refine blE ?_ | refine blF _ ?_ | refine blG ?_ _ | refine blH ?_ | refine blI ?_ ?_ _) | (simp only [World.size_alloc]; omega) | (simp <;> omega)))) (by rw [HL.out]; omega) HR.out)).mono ?_); rintro e w' ⟨z1, ⟨S1, m1, d1, rfl, hu1⟩, hz1, rfl⟩; (have HU1 := Lib.hid hu1; clear hu1 hz1))
        have hm1 : m1 = R.length := by
          obtain ⟨A', c', e, _⟩ := HU1.out
          injection e with _ e2
        rw [← hm1] at hno hle
        have hn1 := hno.1
        have hn2 := hno.2
        have hb1 : ((m1 : Int) != 1) = true := by simp; omega
        have hb2 : ((m1 : Int) != 2) = true := by simp; omega
        have HRL := Lib.hid hm1.symm
        have hRl : R.length ≤ 40 := by omega
        clear hm1 hno
        have d_0 := (Blk.new z1.1 42 #[.slice S1 m1 d1]).cell 0
        have dl := (Blk.new z1.1 42 #[.slice S1 m1 d1]).lt
        have hb01 : Below W0.heap.size W0 (z1.1.alloc (.cells #[.slice S1 m1 d1] 42)) := z1.2.alloc z1.2.size _
        have HQ1 := Lib.hid (HU1.out.below (Below.alloc (Below.refl _ _) (Nat.le_refl _) (.cells #[.slice S1 m1 d1] 42)))
        obtain ⟨W1, hW1⟩ : ∃ W1, z1.1.alloc (.cells #[.slice S1 m1 d1] 42) = W1 := ⟨_, rfl⟩
        rw [hW1] at d_0 dl hb01 HQ1
        obtain ⟨g1, hg1⟩ : ∃ g1, z1.1.heap.size = g1 := ⟨_, rfl⟩
        rw [hg1] at d_0 dl
        rw [hW1, hg1]
        have HB01 := Lib.hid hb01
        replace HQ := Lib.hid (HQ.out.below hb01)
        have e_0 : W1.cell? ⟨W.heap.size, 0, none⟩ = some (.slice A n c) := (hb01.cell (p := ⟨W.heap.size, 0, none⟩) bl).trans b_0
        have el : W.heap.size < W1.heap.size := Nat.lt_of_lt_of_le bl hb01.size
        change W1.cell? ⟨g1, 0, none⟩ = some (.slice S1 m1 d1) at d_0
        clear hb01 hW1 hg1 HU1 b_0 bl hn1 hn2
        go_loopw [6] (fun i wr => ∃ k : Nat, k ≤ m1 ∧ i = .int .i64 k ∧ ∃ y : Kin W1, y.1 = wr) (fun i _ => m1 - (intOf i).toNat)
        case atStart => exact ⟨0, Nat.zero_le _, rfl, ⟨_, Below.refl _ _⟩, rfl⟩
        case round =>
          obtain ⟨i, hi', rfl, y1, rfl⟩ := hrel
          by_cases hi : i < m1
          · obtain ⟨q1, hq1⟩ : ∃ q, (i + m1 - 1) % m1 = q := ⟨_, rfl⟩
            obtain ⟨q2, hq2⟩ : ∃ q, (i + 1) % m1 = q := ⟨_, rfl⟩
            have l1 : q1 < m1 := by rw [← hq1]; exact Nat.mod_lt _ (by omega)
            have l2 : q2 < m1 := by rw [← hq2]; exact Nat.mod_lt _ (by omega)
            obtain ⟨a, ha⟩ : ∃ a, R[q1]? = some a := ⟨_, List.getElem?_eq_getElem (by rw [HRL.out]; exact l1)⟩
            obtain ⟨b, hb⟩ : ∃ b, R[i]? = some b := ⟨_, List.getElem?_eq_getElem (by rw [HRL.out]; exact hi)⟩
            obtain ⟨c', hc⟩ : ∃ c, R[q2]? = some c := ⟨_, List.getElem?_eq_getElem (by rw [HRL.out]; exact l2)⟩
            have hF := (flatAt_is HRL.out hq1 hq2 ha hb hc).symm.trans (HRF.out i (by rw [HRL.out]; exact hi))
            have hfb : turn a b c' ≠ 0 := by simpa using hF
            obtain ⟨g, off, rfl, hg, hcc⟩ := Rd.op HQ1.out q1 a ha
            have a_0 : W1.cell? ⟨g, off + q1 * 2, none⟩ = some (.int .i64 a.1) := hcc q1 a ha 0 _ rfl
            have a_1 : W1.cell? ⟨g, off + q1 * 2 + 1, none⟩ = some (.int .i64 a.2) := hcc q1 a ha 1 _ rfl
            have b_0 : W1.cell? ⟨g, off + i * 2, none⟩ = some (.int .i64 b.1) := hcc i b hb 0 _ rfl
            have b_1 : W1.cell? ⟨g, off + i * 2 + 1, none⟩ = some (.int .i64 b.2) := hcc i b hb 1 _ rfl
            have c_0 : W1.cell? ⟨g, off + q2 * 2, none⟩ = some (.int .i64 c'.1) := hcc q2 c' hc 0 _ rfl
            have c_1 : W1.cell? ⟨g, off + q2 * 2 + 1, none⟩ = some (.int .i64 c'.2) := hcc q2 c' hc 1 _ rfl
            have e0 : IntKind.i64.wrap ((i : Int) + (m1 : Int)) = (i : Int) + (m1 : Int) := IntWalk.i64_in _ (by omega)
            have e1 : IntKind.i64.wrap ((i : Int) + (m1 : Int) - 1) = (i : Int) + (m1 : Int) - 1 := IntWalk.i64_in _ (by omega)
            have e2b : ((i : Int) + (m1 : Int) - 1) % (m1 : Int) = (q1 : Int) := by rw [← hq1]; rw [Int.natCast_emod]; congr 1; omega
            have e2 : ((i : Int) + (m1 : Int) - 1).tmod (m1 : Int) = (q1 : Int) := by rw [Int.tmod_eq_emod_of_nonneg (by omega)]; exact e2b
            have e3 : IntKind.i64.wrap (q1 : Int) = (q1 : Int) := IntWalk.i64_in _ (by omega)
            have f1 : IntKind.i64.wrap ((i : Int) + 1) = (i : Int) + 1 := IntWalk.i64_in _ (by omega)
            have f2b : ((i : Int) + 1) % (m1 : Int) = (q2 : Int) := by rw [← hq2]; rfl
            have f2 : ((i : Int) + 1).tmod (m1 : Int) = (q2 : Int) := by rw [Int.tmod_eq_emod_of_nonneg (by omega)]; exact f2b
            have f3 : IntKind.i64.wrap (q2 : Int) = (q2 : Int) := IntWalk.i64_in _ (by omega)
            have e4 : ¬ (m1 : Int) = 0 := by omega
            have e4b : ¬ m1 = 0 := by omega
            have e5 : (q1 : Int) < (m1 : Int) := by omega
            have f5 : (q2 : Int) < (m1 : Int) := by omega
            clear hcc ha hb hc hq1 hq2 hF
            go_wp2
            ((refine wp_region_kinK (W := W1) (by kernel_rfl) (by kernel_rfl) (by repeat (first | with_reducible (first | exact blA | exact blB | refine blC _ ?_ | refine blD ?_ ?_ _ | refine blE ?_ | refine blF _ ?_ | refine blG ?_ _ | refine blH ?_ | refine blI ?_ ?_ _) | (simp only [World.size_alloc]; omega) | (simp <;> omega))) ?_); (repeat' (first | go_big_quiet_step ((go_at_call 32; exact Kin.quiet _ (turn_ref a b c' _))) | ((refine wpQuiet_guard rfl rfl rfl rfl (fun hg => ?_) (fun hg => ?_)) <;> (fail_if_success (first | guard_hyp hg : true = true | guard_hyp hg : false = false)) <;> (try simp only [decide_eq_true_eq, decide_eq_false_iff_not] at hg) <;> simp only [Act.put, List.setIfInBounds_toArray, List.set_cons_zero, List.set_cons_succ]))); all_goals ((with_reducible refine wpQuiet_nil ?_); intro zq hz))
            go_wp2
            go_roundw
            case rel => exact ⟨i + 1, by omega, by go_num, _, rfl⟩
            case measure => simp [intOf]; omega
          · go_wp2_with fail
            go_region_held (fun w' => w'.cell? ⟨W.heap.size, 0, none⟩ = some (.slice A n c) ∧ w'.cell? ⟨g1, 0, none⟩ = some (.slice S1 m1 d1)) (refine ⟨?_, ?_⟩ <;> first | assumption | (refine (Kin.cell (W := W1) _ ?_).trans ?_ <;> assumption) | simp [*, World.cell?_alloc_some, World.cell?_setCell_far] | ((refine (World.cell?_setCell_other (by simp)).trans ?_); first | assumption | simp [*])) (first | (go_at_call 33; (with_reducible refine (Kin.callK (W := W1) (by repeat (first | with_reducible (first | exact blA | exact blB | refine blC _ ?_ | refine blD ?_ ?_ _ | refine blE ?_ | refine blF _ ?_ | refine blG ?_ _ | refine blH ?_ | refine blI ?_ ?_ _) | (simp only [World.size_alloc]; omega) | (simp <;> omega))) (area_at _ R _ (HQ1.out.below (by repeat (first | with_reducible (first | exact blA | exact blB | refine blC _ ?_ | refine blD ?_ ?_ _ | refine blE ?_ | refine blF _ ?_ | refine blG ?_ _ | refine blH ?_ | refine blI ?_ ?_ _) | (simp only [World.size_alloc]; omega) | (simp <;> omega)))) (by rw [HRL.out]; omega) HX1.out)).mono ?_); rintro e w' ⟨za, rfl, hza, rfl⟩; skip) | (go_at_call 33; (with_reducible refine (Kin.callK (W := W1) (by repeat (first | with_reducible (first | exact blA | exact blB | refine blC _ ?_ | refine blD ?_ ?_ _ | refine blE ?_ | refine blF _ ?_ | refine blG ?_ _ | refine blH ?_ | refine blI ?_ ?_ _) | (simp only [World.size_alloc]; omega) | (simp <;> omega))) (area_at _ q _ (HQ.out.below (by repeat (first | with_reducible (first | exact blA | exact blB | refine blC _ ?_ | refine blD ?_ ?_ _ | refine blE ?_ | refine blF _ ?_ | refine blG ?_ _ | refine blH ?_ | refine blI ?_ ?_ _) | (simp only [World.size_alloc]; omega) | (simp <;> omega)))) (by rw [HL.out]; omega) HX2.out)).mono ?_); rintro e w' ⟨zb, rfl, hzb, rfl⟩; skip) | (go_at_call 30; (with_reducible refine (Kin.callK (W := W1) (by repeat (first | with_reducible (first | exact blA | exact blB | refine blC _ ?_ | refine blD ?_ ?_ _ | refine blE ?_ | refine blF _ ?_ | refine blG ?_ _ | refine blH ?_ | refine blI ?_ ?_ _) | (simp only [World.size_alloc]; omega) | (simp <;> omega))) (simplify_at _ S1 m1 d1 R (HQ1.out.below (by repeat (first | with_reducible (first | exact blA | exact blB | refine blC _ ?_ | refine blD ?_ ?_ _ | refine blE ?_ | refine blF _ ?_ | refine blG ?_ _ | refine blH ?_ | refine blI ?_ ?_ _) | (simp only [World.size_alloc]; omega) | (simp <;> omega)))) (by rw [HRL.out]; omega) HRR.out)).mono ?_); rintro e w' ⟨z2, ⟨S2, m2, d2, rfl, hu2⟩, hz2, rfl⟩; (have HU2 := Lib.hid hu2; have HZ2 := Lib.hid hz2; clear hu2 hz2)) | (go_at_call 16; (with_reducible refine (Kin.callK (W := W1) (by repeat (first | with_reducible (first | exact blA | exact blB | refine blC _ ?_ | refine blD ?_ ?_ _ | refine blE ?_ | refine blF _ ?_ | refine blG ?_ _ | refine blH ?_ | refine blI ?_ ?_ _) | (simp only [World.size_alloc]; omega) | (simp <;> omega))) (samePols_true _ _ [R] _ ((rdPols_at (HQ1.out.kin zb)).below (Below.alloc HZ2.out HZ2.out.size _)) (rdPols_at HU2.out) (by simp) (fun x hx => by rw [List.mem_singleton.1 hx]; omega))).mono ?_); rintro e w' ⟨z3, rfl, hz3, rfl⟩; skip) | (go_at_call 16; (with_reducible refine (Kin.callK (W := W1) (by repeat (first | with_reducible (first | exact blA | exact blB | refine blC _ ?_ | refine blD ?_ ?_ _ | refine blE ?_ | refine blF _ ?_ | refine blG ?_ _ | refine blH ?_ | refine blI ?_ ?_ _) | (simp only [World.size_alloc]; omega) | (simp <;> omega))) (samePols_true _ _ [R] _ ((rdPols_at (HQ1.out.kin z2)).below (Below.alloc (Below.refl _ _) (Nat.le_refl _) _)) (rdPols_at (HU2.out.below (Below.alloc (Below.refl _ _) (Nat.le_refl _) _))) (by simp) (fun x hx => by rw [List.mem_singleton.1 hx]; omega))).mono ?_); rintro e w' ⟨z3, rfl, hz3, rfl⟩; skip) | (go_at_call 16; (with_reducible refine (Kin.callK (W := W1) (by repeat (first | with_reducible (first | exact blA | exact blB | refine blC _ ?_ | refine blD ?_ ?_ _ | refine blE ?_ | refine blF _ ?_ | refine blG ?_ _ | refine blH ?_ | refine blI ?_ ?_ _) | (simp only [World.size_alloc]; omega) | (simp <;> omega))) (samePols_true _ _ [R] _ (rdPols_at ((HQ1.out.kin z2).below (Below.alloc (Below.refl _ _) (Nat.le_refl _) _))) ((rdPols_at HU2.out).below (Below.alloc (Below.refl _ _) (Nat.le_refl _) _)) (by simp) (fun x hx => by rw [List.mem_singleton.1 hx]; omega))).mono ?_); rintro e w' ⟨z3, rfl, hz3, rfl⟩; skip) | (go_at_call 19; (with_reducible refine (Kin.callK (W := W1) (by repeat (first | with_reducible (first | exact blA | exact blB | refine blC _ ?_ | refine blD ?_ ?_ _ | refine blE ?_ | refine blF _ ?_ | refine blG ?_ _ | refine blH ?_ | refine blI ?_ ?_ _) | (simp only [World.size_alloc]; omega) | (simp <;> omega))) (awake16_any _)).mono ?_); rintro e w' ⟨z4, rfl, hz4, rfl⟩; skip))
            all_goals
              go_wp2
              go_ret
              exact ⟨rfl, HBW.out.trans ((HB01.out.mono HBW.out.size).trans (Below.mono (by repeat (first | with_reducible (first | exact blA | exact blB | refine blC _ ?_ | refine blD ?_ ?_ _ | refine blE ?_ | refine blF _ ?_ | refine blG ?_ _ | refine blH ?_ | refine blI ?_ ?_ _) | (simp only [World.size_alloc]; omega) | (simp <;> omega))) (Nat.le_trans HBW.out.size HB01.out.size)))⟩
set_option maxRecDepth 100000 in
theorem contourTurns_lifted (os : Os) (started : os.Started) (H : Type) (enc : TypeId × Value → H) :
    ReturnsInHanded {} Try.checked os 12 .any (Rows.contourTurnsSpec.pre6 enc Try.prog Try.f12 Rows.contourTurnsRow.domain false) (Rows.contourTurnsSpec.post enc Try.prog Try.f12 false true false false) := by
  refine returnsInHanded_of_change (C := Try.checked) own started (by kernel_rfl) Try.func12
    (ChangeSpec.witness6 (enc := enc) (C := Try.checked) false ⟨#[], #[.agg #[.slice none 0 0]], []⟩ 8 (by kernel_rfl) (by kernel_rfl) (by kernel_rfl) (by kernel_rfl)) ?_
  intro W base args ds gs before hval0 hW hcnd _
  have hval : ∀ (j : Nat) t v, Try.f12.params[j]? = some t → args[j]? = some v → Value.okWide Try.prog W .any base t v := hval0
  have hW' := hW
  obtain ⟨p, q, hA0, hV, rfl, hfz, hnd⟩ := hW
  have hA : DataW.TrodAll enc Try.prog W 0 (fun _ => true) true Try.f12.params.toList args.toList ds p := hA0
  rw [Try.params12] at hA hval
  have hAA := hA
  obtain ⟨v0, vs0, d0, ds0, p0, q0, hargs, rfl, rfl, h0, r0⟩ := trodAll_cons hA
  obtain ⟨rfl, rfl, rfl⟩ := trodAll_nil r0
  obtain rfl : args = #[v0] := by cases args; simp_all
  obtain ⟨rfl, rfl⟩ := trodVars_none hV
  have o0 := open_pol (hval 0 42 v0 rfl rfl) h0
  have hlt : ∀ x ∈ p0 ++ [], x.block < W.heap.size := fun x hx => hW'.lt x (by simpa using hx)
  refine (ctrTurns_walk W _ o0).mono fun e W' ⟨he, bel⟩ => ?_
  subst he
  exact ⟨_, rfl, _, _, _, [], _, [], hW', trodAll_mk1 (shut_bool Try.underlying4 _), below_trodAll laidOut bel _ _ _ _ (by
    intro t ht
    have hcl : ([42] : List TypeId).all (fun t => Try.prog.readableRec t && decide (t < Try.prog.types.size)) = true := by kernel_rfl
    have := List.all_eq_true.1 hcl t ht
    simpa using this) hlt hAA, rfl, bel.frame _, fun h => by cases h⟩
theorem contourTurns_heard : (Try.checked.prog.stopsHeard = true ∧ Try.checked.prog.mayEnter = true) ∧ Try.checked.prog.liftsFinal = Rows.contourTurnsRow.lifted := ⟨⟨by kernel_rfl, by kernel_rfl⟩, by kernel_rfl⟩
theorem contourTurns_calls : (Try.checked.prog.inPlace 12 = Rows.contourTurnsRow.inPlace ∧ Try.checked.prog.unfollowed 12 = Rows.contourTurnsRow.unfollowed) ∧ (Try.checked.prog.recurses 12 = Rows.contourTurnsRow.recurses ∧ Try.checked.prog.varsNamed 12 = Rows.contourTurnsRow.named) := ⟨⟨by kernel_rfl, by kernel_rfl⟩, ⟨by kernel_rfl, by kernel_rfl⟩⟩
theorem contourTurns_closed : joinedFacts Try.checked.prog 12 Try.f12 Rows.contourTurnsSpec Rows.contourTurnsRow = true := by
  unfold joinedFacts
  rw [contourTurns_calls.1.1, contourTurns_calls.1.2, contourTurns_calls.2.1, contourTurns_calls.2.2, contourTurns_heard.1.1, contourTurns_heard.1.2, contourTurns_heard.2]
  kernel_rfl
/-- ContourTurns: for every input the call returns true, and the arguments read behind it as before. No condition. -/
theorem contourTurns_holds : Rows.ContourTurnsSaid :=
  OpenClaim.holds_of_wide 12 Try.f12 rfl rfl rfl rfl rfl rfl rfl ⟨rfl, rfl, rfl, rfl, rfl⟩ rfl rfl rfl rfl rfl (by kernel_rfl) Try.func12 contourTurns_closed
    (of_decide_eq_true (by kernel_rfl)) (by unfold Func.isWrapper; rw [if_neg (of_decide_eq_false (by kernel_rfl))]; exact ⟨rfl, rfl⟩)
    (fun os started H enc _ => contourTurns_lifted os started H enc)

end Go.Proofs.Yteadnlodccnfcaa

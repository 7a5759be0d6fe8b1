/- Lemmas: RegCombU. -/
import Derived.Deep.RegionLaw
import Derived.Test.YtneelidbgigehaaGreatT07
import Derived.Test.YtneelidbgigehaaGreatT18
import Derived.Test.YtneelidbgigehaaGreatT41
import Derived.Test.YtneelidbgigehaaGreatT30
/- What Union of regions returns. (joined: RegCombU RegOpU) -/
/- What Union of regions returns. -/
namespace Go.Proofs.YtneelidbgigehaaGreat
set_option linter.unusedSimpArgs false
set_option linter.unusedVariables false
open Go.RowKit Runs Reg
attribute [local go_sem] Kin.cell Kin.frozen Kin.lt0 Kin.lt1 Kin.lt2 Kin.lt3 run_mkf run_idx0 run_idx1
set_option maxRecDepth 100000 in
set_option maxHeartbeats 8000000 in
theorem combineU_any (v u : Value) (a b : List Reg.Row) (w : World) (ha : RdReg w v a) (hb : RdReg w u b) (ba : RBd a) (bb : RBd b) :
    Calls Tryz.prog 67 #[v, u, .func (.func 68) #[] #[]] w fun e w' => (∃ r, e = .returned r ∧ RdReg w' r (rop (opf 2) a b)) ∧ Below w.heap.size w w' := by
  have HA := Lib.hid ha
  have HB := Lib.hid hb
  have Ba := Lib.hid ba
  have Bb := Lib.hid bb
  obtain ⟨s, rfl, ha⟩ := ha
  obtain ⟨t, rfl, hb⟩ := hb
  cases hva : rvalid a
  · clear ha hb ba bb
    go_enter Tryz.func67, Tryz.ntmps67
    go_wp2_with (go_at_call 27; (with_reducible refine (Kin.callK (W := ((w.alloc (.cells #[s] 24)).alloc (.cells #[t] 24)).alloc (.cells #[.slice none 0 0] 24)) gRw (rvalid_is _ a _ (HA.out.below gRw) Ba.out hva)).mono ?_); rintro e w' ⟨z, rfl, hz, rfl⟩)
    ((try simp only [Exit.inBlock, Exit.then]); refine bodyPost_ret (results_cell_row rfl _ _ _ _ _ (0, 0) _ rfl (z.boxes3.2.2.set_ 0 _) Tryz.underlying24 rfl (by kernel_rfl)) rfl ?_)
    exact ⟨⟨_, rfl, by rw [rop_bad (by simp [hva])]; exact RdReg.nil⟩, gRw⟩
  · cases hvb : rvalid b
    · clear ha hb ba bb
      go_enter Tryz.func67, Tryz.ntmps67
      go_wp2_with (first | (go_at_call 27; (with_reducible refine (Kin.callK (W := ((w.alloc (.cells #[s] 24)).alloc (.cells #[t] 24)).alloc (.cells #[.slice none 0 0] 24)) gRw (rvalid_is _ a _ (HA.out.below gRw) Ba.out hva)).mono ?_); rintro e w' ⟨z, rfl, hz, rfl⟩) | (go_at_call 27; (with_reducible refine (Kin.callK (W := ((w.alloc (.cells #[s] 24)).alloc (.cells #[t] 24)).alloc (.cells #[.slice none 0 0] 24)) gRw (rvalid_is _ b _ (HB.out.below gRw) Bb.out hvb)).mono ?_); rintro e w' ⟨z, rfl, hz, rfl⟩))
      ((try simp only [Exit.inBlock, Exit.then]); refine bodyPost_ret (results_cell_row rfl _ _ _ _ _ (0, 0) _ rfl (z.boxes3.2.2.set_ 0 _) Tryz.underlying24 rfl (by kernel_rfl)) rfl ?_)
      exact ⟨⟨_, rfl, by rw [rop_bad (by simp [hvb])]; exact RdReg.nil⟩, gRw⟩
    · have la := (vreg_len (rvalid_iff.1 hva)).1
      have lb := (vreg_len (rvalid_iff.1 hvb)).1
      obtain ⟨A, capA, rfl, hcapA, _⟩ := rows_open ha
      obtain ⟨B, capB, rfl, hcapB, _⟩ := rows_open hb
      have HRA := Lib.hid ha
      have HRB := Lib.hid hb
      clear ha hb ba bb
      go_enter Tryz.func67, Tryz.ntmps67
      go_wp2_with (first | (go_at_call 27; (with_reducible refine (Kin.callK (W := ((w.alloc (.cells #[.slice A a.length capA] 24)).alloc (.cells #[.slice B b.length capB] 24)).alloc (.cells #[.slice none 0 0] 24)) gRw (rvalid_is _ a _ (HA.out.below gRw) Ba.out hva)).mono ?_); rintro e w' ⟨z, rfl, hz, rfl⟩) | (go_at_call 27; (with_reducible refine (Kin.callK (W := ((w.alloc (.cells #[.slice A a.length capA] 24)).alloc (.cells #[.slice B b.length capB] 24)).alloc (.cells #[.slice none 0 0] 24)) gRw (rvalid_is _ b _ (HB.out.below gRw) Bb.out hvb)).mono ?_); rintro e w' ⟨z, rfl, hz, rfl⟩))
      obtain ⟨b1, b2, b3⟩ := z.boxes3
      have c1 := b1.cell 0
      have c2 := b2.cell 0
      simp at c1 c2
      have l1 := b1.lt
      have l2 := b2.lt
      have B3 := Lib.hid b3
      have hzw : Below w.heap.size w z.1 := gRw
      have hA := Lib.hid (rows_op (HRA.out.below hzw))
      have hB := Lib.hid (rows_op (HRB.out.below hzw))
      have HA := Lib.hid (HA.out.below hzw)
      have HB := Lib.hid (HB.out.below hzw)
      clear b1 b2 b3 HRA HRB
      go_loopw [7, 28] (fun ys i wr => ((i = .int .i64 0 ∧ Hid (OwnI z.1.heap.size wr ys [])) ∨ (i = .int .i64 1 ∧ Hid (OwnI z.1.heap.size wr ys (a.map (·.1)))) ∨ (i = .int .i64 2 ∧ Hid (OwnI z.1.heap.size wr ys (a.map (·.1) ++ b.map (·.1))))) ∧ Hid (Below z.1.heap.size z.1 wr)) (fun _ i _ => 2 - (intOf i).toNat)
      case atStart => exact ⟨.inl ⟨rfl, Lib.hid OwnI.nil⟩, Lib.hid (Below.refl _ _)⟩
      case round =>
        obtain ⟨hrel, hyB⟩ := hrel
        obtain ⟨y, rfl⟩ : ∃ y : Kin z.1, y.1 = wr := ⟨⟨wr, hyB.out⟩, rfl⟩
        clear hyB
        rcases hrel with ⟨rfl, HY⟩ | ⟨rfl, HY⟩ | ⟨rfl, HY⟩
        · go_wp2
          go_loopw [7, 11, 34] (fun ys p i wr => ∃ j : Nat, j ≤ a.length ∧ i = .int .i64 j ∧ Hid (OwnI z.1.heap.size wr ys ((a.map (·.1)).take j)) ∧ Hid (Below z.1.heap.size z.1 wr)) (fun _ _ i _ => a.length - (intOf i).toNat)
          case atStart => exact ⟨0, Nat.zero_le _, rfl, Lib.hid (by have h := fun o => OwnI.alloc HY.out o; simpa using h _), Lib.hid gRw⟩
          case round =>
            obtain ⟨j, hj, rfl, HY2, hyB⟩ := hrel
            obtain ⟨y2, rfl⟩ : ∃ y : Kin z.1, y.1 = wr := ⟨⟨wr, hyB.out⟩, rfl⟩
            clear hyB
            by_cases hlt : j < a.length
            · obtain ⟨r, hr⟩ : ∃ el_, a[j]? = some el_ := ⟨_, List.getElem?_eq_getElem hlt⟩
              obtain ⟨bA, offA, rfl, hbA, hcA⟩ := hA.out j _ hr
              obtain ⟨S, capS, r_0, r_1, _⟩ := hcA j r hr
              have Hr := Lib.hid hr
              clear hr hcA
              have hlen : ((a.map (·.1)).take j).length ≤ 16384 := by simp; omega
              go_wp2_with (at_builtin; refine wpList_app _ rfl _ _ 163 rfl encI_len (by decide) oneI z.1.heap.size 3 (.int .i64 0) 8 infoInt rfl Tryz.underlying163 _ _ _ _ rfl ((HY2.out.own.alloc _).alloc _) _ _ _ rfl (rd_one _ encI_len _ r.1 _ rfl) ?c1 (by decide) ?c2 ?_; (case c1 => (first | (simp only [List.length_append, List.length_cons, List.length_nil]; omega) | omega | (simp; omega))); (case c2 => exact lEw); intro v' w1 hown' hg hbel hat'; (obtain ⟨y, rfl⟩ : ∃ y : Kin z.1, y.1 = w1 := ⟨⟨w1, Below.trans gRw hbel⟩, rfl⟩); clear hbel hg hat')
              go_roundw
              case rel => exact ⟨j + 1, by omega, by go_num, Lib.hid (by rw [take_map_succ (f := fun x : Reg.Row => x.1) Hr.out]; simpa [OwnI, List.append_assoc] using OwnI.snoc hown'), Lib.hid y.2⟩
              case measure => simp [intOf]; omega
            · have ej : j = a.length := by omega
              go_wp2
              go_roundw
              case rel => exact ⟨.inr (.inl ⟨rfl, Lib.hid (by have := HY2.out; rw [ej, List.take_of_length_le (by simp)] at this; exact this)⟩), Lib.hid y2.2⟩
              case measure => simp [intOf]
        · go_wp2
          go_loopw [7, 11, 34] (fun ys p i wr => ∃ j : Nat, j ≤ b.length ∧ i = .int .i64 j ∧ Hid (OwnI z.1.heap.size wr ys (a.map (·.1) ++ (b.map (·.1)).take j)) ∧ Hid (Below z.1.heap.size z.1 wr)) (fun _ _ i _ => b.length - (intOf i).toNat)
          case atStart => exact ⟨0, Nat.zero_le _, rfl, Lib.hid (by have h := fun o => OwnI.alloc HY.out o; simpa using h _), Lib.hid gRw⟩
          case round =>
            obtain ⟨j, hj, rfl, HY2, hyB⟩ := hrel
            obtain ⟨y2, rfl⟩ : ∃ y : Kin z.1, y.1 = wr := ⟨⟨wr, hyB.out⟩, rfl⟩
            clear hyB
            by_cases hlt : j < b.length
            · obtain ⟨r, hr⟩ : ∃ el_, b[j]? = some el_ := ⟨_, List.getElem?_eq_getElem hlt⟩
              obtain ⟨bB, offB, rfl, hbB, hcB⟩ := hB.out j _ hr
              obtain ⟨S, capS, r_0, r_1, _⟩ := hcB j r hr
              have Hr := Lib.hid hr
              clear hr hcB
              have hlen : (a.map (·.1) ++ (b.map (·.1)).take j).length ≤ 16384 := by simp; omega
              go_wp2_with (at_builtin; refine wpList_app _ rfl _ _ 163 rfl encI_len (by decide) oneI z.1.heap.size 3 (.int .i64 0) 8 infoInt rfl Tryz.underlying163 _ _ _ _ rfl ((HY2.out.own.alloc _).alloc _) _ _ _ rfl (rd_one _ encI_len _ r.1 _ rfl) ?c1 (by decide) ?c2 ?_; (case c1 => (first | (simp only [List.length_append, List.length_cons, List.length_nil]; omega) | omega | (simp; omega))); (case c2 => exact lEw); intro v' w1 hown' hg hbel hat'; (obtain ⟨y, rfl⟩ : ∃ y : Kin z.1, y.1 = w1 := ⟨⟨w1, Below.trans gRw hbel⟩, rfl⟩); clear hbel hg hat')
              go_roundw
              case rel => exact ⟨j + 1, by omega, by go_num, Lib.hid (by rw [take_map_succ (f := fun x : Reg.Row => x.1) Hr.out]; simpa [OwnI, List.append_assoc] using OwnI.snoc hown'), Lib.hid y.2⟩
              case measure => simp [intOf]; omega
            · have ej : j = b.length := by omega
              go_wp2
              go_roundw
              case rel => exact ⟨.inr (.inr ⟨rfl, Lib.hid (by have := HY2.out; rw [ej, List.take_of_length_le (by simp)] at this; exact this)⟩), Lib.hid y2.2⟩
              case measure => simp [intOf]
        · have hylen : (a.map (·.1) ++ b.map (·.1)).length ≤ 16384 := by simp; omega
          go_wp2_with (first
            | (go_at_call 108; (with_reducible refine (sort_ints _ _ _ _ HY.out.own (by omega)).mono ?_); rintro e w' ⟨rfl, zs, hperm, hsort, hown2, hg⟩; (obtain ⟨y3, rfl⟩ : ∃ y3 : Kin z.1, y3.1 = w' := ⟨⟨w', own_grown (base := z.1.heap.size) y.2 HY.out.own hg (Nat.le_refl _) y.2.size⟩, rfl⟩); have HO2 := Lib.hid hown2; have hzl := hperm.length_eq; have HP := Lib.hid hperm; have HS := Lib.hid hsort; clear hown2 hg hperm hsort)
            | (go_at_call 109; (with_reducible refine (compact_ints _ _ _ _ (HO2.out.alloc _) (by omega)).mono ?_); rintro e w5 ⟨⟨uy, rfl, hry⟩, hg⟩; have hcl := compact_len zs; have hcs := compact_spec HS.out; (obtain ⟨ys, hys⟩ : ∃ ys, ys = Lib.compact zs := ⟨_, rfl⟩); rw [← hys] at hry hcl hcs; clear hys; have HCS := Lib.hid hcs; (obtain ⟨Y, capY, rfl, hcapY, hopY⟩ := hry.open_); have HRY := Lib.hid hry; have HP5 := Lib.hid ((Blk.new y3.1 24 #[.slice none 0 0]).grown hg (Ne.symm (own_ne (HO2.out.alloc _) (Blk.new y3.1 24 #[.slice none 0 0]) (by decide)))); (obtain ⟨y5, rfl⟩ : ∃ y5 : Kin z.1, y5.1 = w5 := ⟨⟨w5, own_grown (base := z.1.heap.size) (Below.alloc y3.2 y3.2.size _) (HO2.out.alloc _) hg (Nat.le_refl _) (le_alloc y3.2.size _)⟩, rfl⟩); clear hg hry hopY hcs))
          have hpz := y3.2.size
          have hp5 := HP5.out.lt
          go_loopw [50] (fun i wr => ∃ k : Nat, k ≤ ys.length ∧ i = .int .i64 k ∧ ∃ S : Value, Hid (OwnRows y5.1.heap.size wr S (rowsOn (fun y => Runs.choose (opf 2) (rwAt a y) (rwAt b y)) (ys.take k))) ∧ Hid (Blk wr y3.1.heap.size 24 #[S]) ∧ Hid (y5.1.grownBy wr (some y3.1.heap.size)) ∧ Hid (Below z.1.heap.size z.1 wr)) (fun i _ => ys.length - (intOf i).toNat)
          case atStart => exact ⟨0, Nat.zero_le _, rfl, _, Lib.hid OwnN.nil, HP5, Lib.hid (World.grownBy.refl _ _), Lib.hid y5.2⟩
          case round =>
            obtain ⟨k, hk, rfl, S, HO, HP6, HG6, hyB⟩ := hrel
            obtain ⟨y6, rfl⟩ : ∃ y : Kin z.1, y.1 = wr := ⟨⟨wr, hyB.out⟩, rfl⟩
            clear hyB
            by_cases hlt : k < ys.length
            · have hrd6 : Rd 1 encI y6.1 (.slice Y ys.length capY) ys := HRY.out.grown HG6.out (ints_far HRY.out HP5.out)
              obtain ⟨yy, hyy⟩ : ∃ el_, ys[k]? = some el_ := ⟨_, List.getElem?_eq_getElem hlt⟩
              obtain ⟨bY, offY, rfl, hbY, hcY⟩ := Rd.op hrd6 k _ hyy
              have e_0 : y6.1.cell? ⟨bY, offY + k, none⟩ = some (.int .i64 yy) := by have := hcY k _ hyy 0 _ rfl; simpa using this
              have Hyy := Lib.hid hyy
              obtain ⟨ua, hua, hra⟩ := rowIs_some (HA.out.below y6.2) yy
              obtain ⟨ub, hub, hrb⟩ := rowIs_some (HB.out.below y6.2) yy
              have HUA := Lib.hid hua
              have HUB := Lib.hid hub
              have HRa := Lib.hid hra
              have HRb := Lib.hid hrb
              have hA6 := Lib.hid (HA.out.below y6.2)
              have hB6 := Lib.hid (HB.out.below y6.2)
              have HVA := Lib.hid (rvalid_iff.1 hva)
              have HVB := Lib.hid (rvalid_iff.1 hvb)
              have lra := sepIn_len (rwAt_in HVA.out yy)
              have lrb := sepIn_len (rwAt_in HVB.out yy)
              have HC := Lib.hid (choose_in (opf_ff 2) (rwAt_in HVA.out yy) (rwAt_in HVB.out yy))
              have lch := sepIn_len HC.out
              have HSE := Lib.hid (show setop (opf 2) (rwAt a yy) (rwAt b yy) = Runs.choose (opf 2) (rwAt a yy) (rwAt b yy) from by unfold setop; rw [sepIn_valid (rwAt_in HVA.out yy), sepIn_valid (rwAt_in HVB.out yy)]; rfl)
              have c1' := (y6.cell l1).trans c1
              have c2' := (y6.cell l2).trans c2
              have l1' := y6.lt0 l1
              have l2' := y6.lt0 l2
              obtain ⟨hs, hown, hnest, hap⟩ := HO.out
              obtain ⟨AS, nS, cS, rfl⟩ := own_slice hown
              have HOW := Lib.hid hown
              have HNE := Lib.hid hnest
              have HAP := Lib.hid hap
              have hhl := hnest.1
              have hrl := rowsOn_len (fun y => Runs.choose (opf 2) (rwAt a y) (rwAt b y)) (ys.take k)
              have htl : (ys.take k).length ≤ k := by simp; omega
              have p0 : y6.1.cell? ⟨y3.1.heap.size, 0, none⟩ = some (.slice AS nS cS) := HP6.out.cell 0
              have pl := HP6.out.lt
              have h56 := HG6.out.size
              clear hyy hcY hrd6 hua hub hra hrb hown hnest hap c1 c2
              go_wp2
              ((refine wp_region_tailK (W := (Kin.wd y6)) 7 (by kernel_rfl) (by kernel_rfl) gRw ?_); simp only [List.take_succ_cons, List.take_zero, List.drop_succ_cons, List.drop_zero]; (repeat' (first | go_big_quiet_step (first | (go_at_call 110; exact Kin.quiet _ (row_any _ a yy ua _ (hA6.out.below gRw) HVA.out (HUA.out.below gRw))) | (go_at_call 110; exact Kin.quiet _ (row_any _ b yy ub _ (hB6.out.below gRw) HVB.out (HUB.out.below gRw)))) | ((refine wpQuiet_guard rfl rfl rfl rfl (fun hg => ?_) (fun hg => ?_)) <;> (fail_if_success (first | guard_hyp hg : true = true | guard_hyp hg : false = false)) <;> (try simp only [decide_eq_true_eq, decide_eq_false_iff_not] at hg) <;> simp only [Act.put, List.setIfInBounds_toArray, List.set_cons_zero, List.set_cons_succ]))); all_goals ((with_reducible refine wpQuiet_nil ?_); intro zq hz))
              go_wp2_with (go_at_call 68; (with_reducible refine (Kin.callK (W := (Kin.wd y6)) gRw (union_any ua ub (rwAt a yy) (rwAt b yy) _ (HRa.out.below gRw) (HRb.out.below gRw) (by omega) (by omega))).mono ?_); rintro e w' ⟨zu, ⟨lv, rfl, hl⟩, hzu, rfl⟩; (rw [HSE.out] at hl; (obtain ⟨L, capL, rfl, hcapL, _⟩ := hl.open_); have HL := Lib.hid hl; clear hl))
              · go_region_law (first
                  | (go_simp; (go_at_call 111; (with_reducible refine (Kin.callK (W := (Kin.wd y6)) gRw (clone_any _ (Runs.choose (opf 2) (rwAt a yy) (rwAt b yy)) _ (HL.out.below gRw) (by omega))).mono ?_); rintro e w' ⟨zc, ⟨uc, rfl, huc⟩, hzc, rfl⟩; (have hrc := Rd.own encRun_len huc; (obtain ⟨AC, capC, rfl, hcapC, _⟩ := hrc.open_); have HRC := Lib.hid hrc; have HFR := Lib.hid (own_fresh huc (v2 := .slice AS nS cS) (fun q e => Nat.lt_of_lt_of_le (HOW.out.lt q e).2 zu.2.size)); clear hrc huc)))
                  | (skip; (refine step_app _ rfl _ _ 22 rfl encRow_len (by decide) oneRow y5.1.heap.size 44 (.agg #[.int .i64 0, .slice none 0 0]) 32 infoRow rfl Tryz.underlying22 (.slice AS nS cS) _ _ _ (by first | rfl | simp [Act.eval, Act.put]) ((own_below HOW.out zc.2).alloc _) _ _ _ (by first | rfl | simp [Act.eval, Act.put]) (rd_one _ encRow_len _ (hd yy AC (Runs.choose (opf 2) (rwAt a yy) (rwAt b yy)).length capC) _ rfl) ?c1 (by decide) ?c2 ?_; (case c1 => (first | (simp only [List.length_append, List.length_cons, List.length_nil]; omega) | omega | (simp; omega))); (case c2 => exact lEw); intro v' w1 hown' hg hbel hat'; ((obtain ⟨AV, nV, cV, rfl⟩ := own_slice hown'); have hPn : Blk (zc.1.alloc (.cells #[.int .i64 yy, .slice AC (Runs.choose (opf 2) (rwAt a yy) (rwAt b yy)).length capC] 44)) y3.1.heap.size 24 #[.slice AS nS cS] := (HP6.out.below zc.2).below (Below.alloc (Below.refl _ _) (Nat.le_refl _) _); have HP1 := Lib.hid (hPn.grown hg (Ne.symm (own_ne ((own_below HOW.out zc.2).alloc _) hPn (by decide)))); have p1 : w1.cell? ⟨y3.1.heap.size, 0, none⟩ = some (.slice AS nS cS) := HP1.out.cell 0; have pf1 : w1.frozen? ⟨y3.1.heap.size, 0, none⟩ = false := HP1.out.frozen 0; have pl1 := HP1.out.lt; have HPU := Lib.hid (OwnRows.push ((own_below HOW.out zc.2).alloc _) (HNE.out.below gRw) HAP.out hown' hg hat' (HRC.out.below gRw) (HFR.out.imp List.eq_nil_of_length_eq_zero id) hPn); have HBE := Lib.hid hbel; clear hown' hg hbel hat'))))
                all_goals
                  have hne : (Runs.choose (opf 2) (rwAt a yy) (rwAt b yy)).isEmpty = false := by
                    rw [List.isEmpty_eq_false_iff]; intro e; have : (Runs.choose (opf 2) (rwAt a yy) (rwAt b yy)).length = 0 := (by rw [e]; rfl); omega
                  have hb56 : Below y5.1.heap.size y6.1 (zc.1.alloc (.cells #[.int .i64 yy, .slice AC (Runs.choose (opf 2) (rwAt a yy) (rwAt b yy)).length capC] 44)) := Below.alloc (zc.2.mono h56) lEw _
                  have hb5 := hb56.trans HBE.out
                  have hzl5 := y5.2.size
                  go_wp2
                  go_roundw
                  case rel => exact ⟨k + 1, by omega, by go_num, _, Lib.hid (by rw [List.take_add_one, Hyy.out]; simp only [Option.toList_some]; rw [rowsOn_snoc, hne]; exact HPU.out.1), Lib.hid HPU.out.2, Lib.hid (grownBy_trans (grownBy_below2 HG6.out hb5) (grownBy_set _)), Lib.hid (Below.setCell (y6.2.trans (hb5.mono hzl5)) hpz _)⟩
                  case measure => simp [intOf]; omega
              · have hne : (Runs.choose (opf 2) (rwAt a yy) (rwAt b yy)).isEmpty = true := by
                  rw [List.isEmpty_iff]; rename_i h; exact List.eq_nil_of_length_eq_zero (by omega)
                have hzl5 := y5.2.size
                go_roundw
                case rel => exact ⟨k + 1, by omega, by go_num, _, Lib.hid (by rw [List.take_add_one, Hyy.out]; simp only [Option.toList_some]; rw [rowsOn_snoc, hne]; simpa using HO.out.below zu.2), Lib.hid (HP6.out.below zu.2), Lib.hid (grownBy_below2 HG6.out (zu.2.mono h56)), Lib.hid (y6.2.trans (zu.2.mono y6.2.size))⟩
                case measure => simp [intOf]; omega
            · have ek : k = ys.length := by omega
              obtain ⟨hs, hown, _⟩ := HO.out
              obtain ⟨AS, nS, cS, rfl⟩ := own_slice hown
              have p0 : y6.1.cell? ⟨y3.1.heap.size, 0, none⟩ = some (.slice AS nS cS) := HP6.out.cell 0
              have pl := HP6.out.lt
              have B36 := Lib.hid (B3.out.below y6.2)
              have q0 : y6.1.cell? ⟨w.heap.size + 2, 0, none⟩ = some (.slice none 0 0) := B36.out.cell 0
              have qf : y6.1.frozen? ⟨w.heap.size + 2, 0, none⟩ = false := B36.out.frozen 0
              have ql := B36.out.lt
              clear hown
              go_wp2
              ((try simp only [Exit.inBlock, Exit.then]); refine bodyPost_ret (results_cell_row rfl _ _ _ _ _ (0, 0) _ rfl (B36.out.set_ 0 _) Tryz.underlying24 rfl (by kernel_rfl)) rfl ?_)
              refine ⟨⟨_, rfl, ?_⟩, gRw⟩
              have h1 := Reg.rows_op (opf_ff 2) (rvalid_iff.1 hva) (rvalid_iff.1 hvb) HCS.out.1 (fun y => (HCS.out.2 y).trans HP.out.mem_iff)
              rw [← rop_eq (opf_ff 2) hva hvb h1.1 h1.2]
              have h2 := HO.out.set_ (i := 0) (u := .slice AS nS cS) B36.out (by decide)
              rw [ek, List.take_length] at h2
              exact h2.reg
end Go.Proofs.YtneelidbgigehaaGreat
/- Union of regions. -/
namespace Go.Proofs.YtneelidbgigehaaGreat
set_option linter.unusedSimpArgs false
set_option linter.unusedVariables false
open Go.RowKit Runs Reg
attribute [local go_sem] Kin.cell Kin.frozen Kin.lt0 Kin.lt1 Kin.lt2 Kin.lt3 run_mkf
set_option maxRecDepth 100000 in
set_option maxHeartbeats 4000000 in
theorem unionReg_any (v u : Value) (a b : List Reg.Row) (w : World) (ha : RdReg w v a) (hb : RdReg w u b) (ba : RBd a) (bb : RBd b) :
    Calls Tryz.prog 33 #[v, u] w fun e w' => (∃ r, e = .returned r ∧ RdReg w' r (rop (opf 2) a b)) ∧ Below w.heap.size w w' := by
  have HA := Lib.hid ha
  have HB := Lib.hid hb
  obtain ⟨A, capA, rfl⟩ := ha.slice_
  obtain ⟨B, capB, rfl⟩ := hb.slice_
  clear ha hb
  go_enter Tryz.func33, Tryz.ntmps33
  go_wp2_with (go_at_call 67; (with_reducible refine (Kin.callK (W := ((w.alloc (.cells #[.slice A a.length capA] 24)).alloc (.cells #[.slice B b.length capB] 24)).alloc (.cells #[.slice none 0 0] 24)) gRw (combineU_any _ _ a b _ (HA.out.below gRw) (HB.out.below gRw) ba bb)).mono ?_); rintro e w' ⟨z, ⟨r, rfl, hr⟩, hz, rfl⟩; ((obtain ⟨R, capR, rfl⟩ := hr.slice_); have HR := Lib.hid hr; have B3 := Lib.hid z.boxes3.2.2; have q0 : (Kin.wd z).cell? ⟨w.heap.size + 2, 0, none⟩ = some (.slice none 0 0) := B3.out.cell 0; have qf : (Kin.wd z).frozen? ⟨w.heap.size + 2, 0, none⟩ = false := B3.out.frozen 0; have ql := B3.out.lt; clear hr))
  ((try simp only [Exit.inBlock, Exit.then]); refine bodyPost_ret (results_cell_row rfl _ _ _ _ _ (0, 0) _ rfl (B3.out.set_ 0 _) Tryz.underlying24 rfl (by kernel_rfl)) rfl ?_)
  exact ⟨⟨_, rfl, HR.out.set_ B3.out⟩, gRw⟩
end Go.Proofs.YtneelidbgigehaaGreat

/- Balanced of the program, walked. -/
import Derived.Test.YteadnlodccnfcaaCtrBalM
import Derived.Test.YteadnlodccnfcaaMapEnt
import Derived.Test.YteadnlodccnfcaaMapRng
import Derived.Test.YteadnlodccnfcaaFloatT
namespace Go.Proofs.Yteadnlodccnfcaa
set_option linter.unusedSimpArgs false
set_option linter.unusedVariables false
set_option maxRecDepth 100000
open Go.RowKit Planar
attribute [local go_sem] Kin.cell Kin.frozen Kin.lt0 Kin.lt1 Kin.lt2 Kin.lt3
theorem run_mkmap16 (t : TypeId) (w : World) : (Instr.makeMap t none).run Try.prog w = .ok (.map (some w.heap.size)) (w.alloc (.map #[] 0)) := rfl
attribute [local go_sem] run_mkmap16
/-- the map's elements -/
def mapV (m : Pt → Option Int) (c : Key) : Option Value := (m c).map (Value.int .i64)
theorem mapV_upd (m : Pt → Option Int) (p : Pt) (d v : Int) (hv : (m p).getD 0 + d = v) : updM (mapV m) p (.int .i64 v) = mapV (updB m p d) := by
  funext q
  unfold updM mapV updB
  by_cases h : q = p
  · subst h; simp [hv]
  · rw [if_neg h, if_neg h]
theorem mapV_getD (m : Pt → Option Int) (p : Pt) : (mapV m p).getD (.int .i64 0) = .int .i64 ((m p).getD 0) := by
  unfold mapV
  cases m p <;> rfl
theorem zero_int (u : World) : (zeroValue 3).run Try.prog u = .ok (.int .i64 0) u := by
  simp [go_sem]
set_option maxHeartbeats 8000000 in
theorem balanced_any (v : Value) (l : List Sg) (w : World) (h : Rd 4 encSg w v l) (hw : ∀ s ∈ l, wfS s) (hl : l.length ≤ 1000000000) :
    Calls Try.prog 17 #[v] w fun e w' => e = .returned (.bool (balB l)) ∧ Below w.heap.size w w' := by
  have HWF := Lib.hid hw
  obtain ⟨A, capA, rfl, hcapA, hopA⟩ := h.open_
  have HA := Lib.hid hopA
  have HLA := Lib.hid h
  clear hopA h
  obtain ⟨n, hL⟩ : ∃ n, l.length = n := ⟨_, rfl⟩
  have HL := Lib.hid hL
  rw [hL] at hcapA hl ⊢
  clear hL hw
  go_enter Try.func17, Try.ntmps17
  go_wp2_with fail
  go_loopw [11] (fun i wr => ∃ k : Nat, k ≤ n ∧ i = .int .i64 k ∧ Hid (OwnM Try.prog 36 wr w.heap.size (2 * k) (mapV (mapB (l.take k)))) ∧ ∃ y : Kin w, y.1 = wr) (fun i _ => n - (intOf i).toNat)
  case atStart => exact ⟨0, Nat.zero_le _, rfl, Lib.hid ((OwnM.made w).ext fun c hc => rfl), ⟨w.alloc _, (by repeat (first | with_reducible (first | exact blA | exact blB | refine blC _ ?_ | refine blD ?_ ?_ _ | refine blE ?_ | refine blF _ ?_ | refine blG ?_ _ | refine blH ?_ | refine blI ?_ ?_ _) | (simp only [World.size_alloc]; omega) | (simp <;> omega)))⟩, rfl⟩
  case round =>
    obtain ⟨k, hk, rfl, HM, y, rfl⟩ := hrel
    by_cases hlt : k < n
    · obtain ⟨s, hs⟩ : ∃ el_, (l)[k]? = some el_ := ⟨_, List.getElem?_eq_getElem (by first | exact (by rw [HL.out]; exact hlt) | omega)⟩
      obtain ⟨bA, offA, rfl, hbA, hcA⟩ := HA.out (k) _ hs
      have s_0 : w.cell? ⟨bA, offA + k * 4, none⟩ = some (.int .i64 s.1.1) := by exact hcA (k) _ hs 0 _ rfl
      have s_1 : w.cell? ⟨bA, offA + k * 4 + 1, none⟩ = some (.int .i64 s.1.2) := by exact hcA (k) _ hs 1 _ rfl
      have s_2 : w.cell? ⟨bA, offA + k * 4 + 2, none⟩ = some (.int .i64 s.2.1) := by exact hcA (k) _ hs 2 _ rfl
      have s_3 : w.cell? ⟨bA, offA + k * 4 + 3, none⟩ = some (.int .i64 s.2.2) := by exact hcA (k) _ hs 3 _ rfl
      have hbA2 : bA < w.heap.size + 1 := by omega
      have HAc := Lib.hid hcA
      have Hs := Lib.hid hs
      clear hs hcA
      go_wp2_with fail
      have HWS := Lib.hid (HWF.out s (List.mem_of_getElem? Hs.out))
      obtain ⟨M, hM⟩ : ∃ M, mapB (l.take k) = M := ⟨_, rfl⟩
      have HMB := Lib.hid hM
      rw [hM] at HM
      obtain ⟨y5, hy5⟩ : ∃ y5 : Kin w, y5.1 = y.1.alloc (.cells #[.int .i64 s.1.1, .int .i64 s.1.2, .int .i64 s.2.1, .int .i64 s.2.2] 38) := ⟨⟨y.1.alloc _, (by repeat (first | with_reducible (first | exact blA | exact blB | refine blC _ ?_ | refine blD ?_ ?_ _ | refine blE ?_ | refine blF _ ?_ | refine blG ?_ _ | refine blH ?_ | refine blI ?_ ?_ _) | (simp only [World.size_alloc]; omega) | (simp <;> omega)))⟩, rfl⟩
      obtain ⟨g5, hg5⟩ : ∃ g, y.1.heap.size = g := ⟨_, rfl⟩
      have B5 := Blk.new y.1 38 #[.int .i64 s.1.1, .int .i64 s.1.2, .int .i64 s.2.1, .int .i64 s.2.2]
      have HM5 := Lib.hid (HM.out.alloc (.cells #[.int .i64 s.1.1, .int .i64 s.1.2, .int .i64 s.2.1, .int .i64 s.2.2] 38))
      rw [← hy5, hg5] at B5
      rw [← hy5] at HM5
      rw [← hy5, hg5]
      have HB5 := Lib.hid B5
      have hbm := HM5.out.lt
      have hgm : g5 ≠ w.heap.size := by
        have h1 := HM.out.lt
        have h2 : w.heap.size < y.1.heap.size := h1
        omega
      clear hy5 hg5 B5 HM hM
      have v1 : IntKind.i64.wrap ((M s.1).getD 0 + 1) = (M s.1).getD 0 + 1 := IntWalk.i64_in _ (by rw [← HMB.out, mapB_get]; have := balP_bd (l.take k) s.1; have := List.length_take_le k l; omega)
      refine wp_region_floatT 5 5 (fun w' => Blk w' g5 38 #[.int .i64 s.1.1, .int .i64 s.1.2, .int .i64 s.2.1, .int .i64 s.2.2] ∧ (Instr.lookup 63 (.map (some w.heap.size)) (.agg #[.int .i64 s.1.1, .int .i64 s.1.2]) false).run Try.prog w' = .ok (.int .i64 ((M s.1).getD 0)) w') (by kernel_rfl) (by kernel_rfl) (by kernel_rfl) (fun z_ => ⟨HB5.out.below z_.2, ?_⟩) ?_
      · have h9 := (HM5.out.below z_.2 hbm).look ptKey Try.underlying63 (zero_int _) HWS.out.1
        rw [mapV_getD] at h9
        exact h9
      simp only [List.take_succ_cons, List.take_zero, List.drop_succ_cons, List.drop_zero]
      refine @takeS_cons _ _ _ _ _ _ _ ?_ rfl (fun w' hSw => ?_) ?_
      rotate_left
      · ((obtain ⟨S1, S2⟩ := hSw); have r0 : w'.cell? ⟨g5, 0, none⟩ = some (.int .i64 s.1.1) := S1.cell 0; have r1 : w'.cell? ⟨g5, 1, none⟩ = some (.int .i64 s.1.2) := S1.cell 1; go_simp; try with_reducible rfl)
      try simp only [Act.put, List.setIfInBounds_toArray, List.set_cons_zero, List.set_cons_succ]
      refine @takeS_cons _ _ _ _ _ _ _ ?_ rfl (fun w' hSw => ?_) ?_
      rotate_left
      · ((obtain ⟨S1, S2⟩ := hSw); have r0 : w'.cell? ⟨g5, 0, none⟩ = some (.int .i64 s.1.1) := S1.cell 0; have r1 : w'.cell? ⟨g5, 1, none⟩ = some (.int .i64 s.1.2) := S1.cell 1; go_simp; try with_reducible rfl)
      try simp only [Act.put, List.setIfInBounds_toArray, List.set_cons_zero, List.set_cons_succ]
      refine @takeS_cons _ _ _ _ _ _ _ ?_ rfl (fun w' hSw => ?_) ?_
      rotate_left
      · ((obtain ⟨S1, S2⟩ := hSw); have r0 : w'.cell? ⟨g5, 0, none⟩ = some (.int .i64 s.1.1) := S1.cell 0; have r1 : w'.cell? ⟨g5, 1, none⟩ = some (.int .i64 s.1.2) := S1.cell 1; go_simp; try with_reducible rfl)
      try simp only [Act.put, List.setIfInBounds_toArray, List.set_cons_zero, List.set_cons_succ]
      refine @takeS_cons _ _ _ _ _ _ _ ?_ rfl (fun w' hSw => ?_) ?_
      rotate_left
      · ((obtain ⟨S1, S2⟩ := hSw); have r0 : w'.cell? ⟨g5, 0, none⟩ = some (.int .i64 s.1.1) := S1.cell 0; have r1 : w'.cell? ⟨g5, 1, none⟩ = some (.int .i64 s.1.2) := S1.cell 1; go_simp; try with_reducible rfl)
      try simp only [Act.put, List.setIfInBounds_toArray, List.set_cons_zero, List.set_cons_succ]
      refine @takeS_cons _ _ _ _ _ _ _ ?_ rfl (fun w' hSw => ?_) ?_
      rotate_left
      · ((obtain ⟨S1, S2⟩ := hSw); have r0 : w'.cell? ⟨g5, 0, none⟩ = some (.int .i64 s.1.1) := S1.cell 0; have r1 : w'.cell? ⟨g5, 1, none⟩ = some (.int .i64 s.1.2) := S1.cell 1; go_simp; try with_reducible rfl)
      try simp only [Act.put, List.setIfInBounds_toArray, List.set_cons_zero, List.set_cons_succ]
      refine takeS_nil ?_
      ((repeat' (first | go_big_quiet_step (fail) | ((refine wpQuiet_guard rfl rfl rfl rfl (fun hg => ?_) (fun hg => ?_)) <;> (fail_if_success (first | guard_hyp hg : true = true | guard_hyp hg : false = false)) <;> (try simp only [decide_eq_true_eq, decide_eq_false_iff_not] at hg) <;> simp only [Act.put, List.setIfInBounds_toArray, List.set_cons_zero, List.set_cons_succ]))); all_goals ((with_reducible refine wpQuiet_nil ?_); intro zq))
      have HM6 := Lib.hid (HM5.out.below zq.2 hbm)
      have HB6 := Lib.hid (HB5.out.below zq.2)
      intro K5 hK5
      refine step_entry rfl (.tmp 15) (.tmp 17) 63 rfl 36 3 ptKey ptLaw Try.underlying63 (.int .i64 0) zero_int w.heap.size (2 * k) (mapV M) rfl HM6.out (by unfold maxLen; omega) s.1 rfl HWS.out.1 ?_
      intro st w1 hg1 hs1 hE1 hl1
      rw [mapV_getD] at hl1
      rw [mapV_getD]
      refine hK5 _ _ (.inr ⟨HB6.out.grown hg1 (by intro e; injection e with e; exact hgm e), hl1⟩) ?_
      intro K6 hK6
      go_simp
      refine hK6 _ _ (.inr ⟨HB6.out.grown hg1 (by intro e; injection e with e; exact hgm e), hl1⟩) ?_
      intro K7 hK7
      refine step_entrySt rfl (.tmp 15) (.tmp 21) (.tmp 19) 63 rfl 36 w.heap.size (2 * k) (mapV M) s.1 st _ hE1 rfl rfl rfl _ rfl ?_
      intro w3 hm3 hg3 hs3
      refine hK7 _ _ (.inl rfl) ?_
      refine wpListT_nil ?_
      have bw : Below w.heap.size w zq.1 := zq.below y5.2
      have bw1 := bw.grown hg1 bw.size (fun k e => by injection e with e; omega)
      have bw3 := bw1.grown hg3 bw1.size (fun k e => by injection e with e; omega)
      have HB7 := Lib.hid ((HB6.out.grown hg1 (by intro e; injection e with e; exact hgm e)).grown hg3 (by intro e; injection e with e; exact hgm e))
      have hm4 : OwnM Try.prog 36 w3 w.heap.size (2 * k + 1) (mapV (updB M s.1 1)) := by
        rw [← mapV_upd M s.1 1 _ rfl]; exact hm3
      have HM7 := Lib.hid hm4
      obtain ⟨y3, rfl⟩ : ∃ y3 : Kin w, y3.1 = w3 := ⟨⟨w3, bw3⟩, rfl⟩
      clear hg1 hg3 hs1 hs3 hm4 hm3 hl1 hE1 bw bw1 bw3 HM6 HB6
      simp only [Exit.then]
      go_wp2_with fail
      obtain ⟨M2, hM2⟩ : ∃ M2, updB M s.1 1 = M2 := ⟨_, rfl⟩
      rw [hM2] at HM7
      have hbm7 := HM7.out.lt
      have v2 : IntKind.i64.wrap ((M2 s.2).getD 0 - 1) = (M2 s.2).getD 0 - 1 := IntWalk.i64_in _ (by
        have h1 : (M2 s.2).getD 0 = (M s.2).getD 0 ∨ (M2 s.2).getD 0 = (M s.1).getD 0 + 1 := by
          rw [← hM2]; unfold updB; by_cases e : s.2 = s.1
          · right; simp [e]
          · left; simp [e]
        have h2 := balP_bd (l.take k) s.1
        have h3 := balP_bd (l.take k) s.2
        have h4 := List.length_take_le k l
        rw [← HMB.out, mapB_get, mapB_get] at h1
        omega)
      refine wp_region_floatT 5 5 (fun w' => Blk w' g5 38 #[.int .i64 s.1.1, .int .i64 s.1.2, .int .i64 s.2.1, .int .i64 s.2.2] ∧ (Instr.lookup 63 (.map (some w.heap.size)) (.agg #[.int .i64 s.2.1, .int .i64 s.2.2]) false).run Try.prog w' = .ok (.int .i64 ((M2 s.2).getD 0)) w') (by kernel_rfl) (by kernel_rfl) (by kernel_rfl) (fun z_ => ⟨HB7.out.below z_.2, ?_⟩) ?_
      · have h9 := (HM7.out.below z_.2 hbm7).look ptKey Try.underlying63 (zero_int _) HWS.out.2
        rw [mapV_getD] at h9
        exact h9
      simp only [List.take_succ_cons, List.take_zero, List.drop_succ_cons, List.drop_zero]
      refine @takeS_cons _ _ _ _ _ _ _ ?_ rfl (fun w' hSw => ?_) ?_
      rotate_left
      · ((obtain ⟨S1, S2⟩ := hSw); have r0 : w'.cell? ⟨g5, 1 + 1, none⟩ = some (.int .i64 s.2.1) := S1.cell 2; have r1 : w'.cell? ⟨g5, 1 + 1 + 1, none⟩ = some (.int .i64 s.2.2) := S1.cell 3; have r2 : w'.cell? ⟨g5, 2, none⟩ = some (.int .i64 s.2.1) := S1.cell 2; have r3 : w'.cell? ⟨g5, 3, none⟩ = some (.int .i64 s.2.2) := S1.cell 3; go_simp; try with_reducible rfl)
      try simp only [Act.put, List.setIfInBounds_toArray, List.set_cons_zero, List.set_cons_succ]
      refine @takeS_cons _ _ _ _ _ _ _ ?_ rfl (fun w' hSw => ?_) ?_
      rotate_left
      · ((obtain ⟨S1, S2⟩ := hSw); have r0 : w'.cell? ⟨g5, 1 + 1, none⟩ = some (.int .i64 s.2.1) := S1.cell 2; have r1 : w'.cell? ⟨g5, 1 + 1 + 1, none⟩ = some (.int .i64 s.2.2) := S1.cell 3; have r2 : w'.cell? ⟨g5, 2, none⟩ = some (.int .i64 s.2.1) := S1.cell 2; have r3 : w'.cell? ⟨g5, 3, none⟩ = some (.int .i64 s.2.2) := S1.cell 3; go_simp; try with_reducible rfl)
      try simp only [Act.put, List.setIfInBounds_toArray, List.set_cons_zero, List.set_cons_succ]
      refine @takeS_cons _ _ _ _ _ _ _ ?_ rfl (fun w' hSw => ?_) ?_
      rotate_left
      · ((obtain ⟨S1, S2⟩ := hSw); have r0 : w'.cell? ⟨g5, 1 + 1, none⟩ = some (.int .i64 s.2.1) := S1.cell 2; have r1 : w'.cell? ⟨g5, 1 + 1 + 1, none⟩ = some (.int .i64 s.2.2) := S1.cell 3; have r2 : w'.cell? ⟨g5, 2, none⟩ = some (.int .i64 s.2.1) := S1.cell 2; have r3 : w'.cell? ⟨g5, 3, none⟩ = some (.int .i64 s.2.2) := S1.cell 3; go_simp; try with_reducible rfl)
      try simp only [Act.put, List.setIfInBounds_toArray, List.set_cons_zero, List.set_cons_succ]
      refine @takeS_cons _ _ _ _ _ _ _ ?_ rfl (fun w' hSw => ?_) ?_
      rotate_left
      · ((obtain ⟨S1, S2⟩ := hSw); have r0 : w'.cell? ⟨g5, 1 + 1, none⟩ = some (.int .i64 s.2.1) := S1.cell 2; have r1 : w'.cell? ⟨g5, 1 + 1 + 1, none⟩ = some (.int .i64 s.2.2) := S1.cell 3; have r2 : w'.cell? ⟨g5, 2, none⟩ = some (.int .i64 s.2.1) := S1.cell 2; have r3 : w'.cell? ⟨g5, 3, none⟩ = some (.int .i64 s.2.2) := S1.cell 3; go_simp; try with_reducible rfl)
      try simp only [Act.put, List.setIfInBounds_toArray, List.set_cons_zero, List.set_cons_succ]
      refine @takeS_cons _ _ _ _ _ _ _ ?_ rfl (fun w' hSw => ?_) ?_
      rotate_left
      · ((obtain ⟨S1, S2⟩ := hSw); have r0 : w'.cell? ⟨g5, 1 + 1, none⟩ = some (.int .i64 s.2.1) := S1.cell 2; have r1 : w'.cell? ⟨g5, 1 + 1 + 1, none⟩ = some (.int .i64 s.2.2) := S1.cell 3; have r2 : w'.cell? ⟨g5, 2, none⟩ = some (.int .i64 s.2.1) := S1.cell 2; have r3 : w'.cell? ⟨g5, 3, none⟩ = some (.int .i64 s.2.2) := S1.cell 3; go_simp; try with_reducible rfl)
      try simp only [Act.put, List.setIfInBounds_toArray, List.set_cons_zero, List.set_cons_succ]
      refine takeS_nil ?_
      ((repeat' (first | go_big_quiet_step (fail) | ((refine wpQuiet_guard rfl rfl rfl rfl (fun hg => ?_) (fun hg => ?_)) <;> (fail_if_success (first | guard_hyp hg : true = true | guard_hyp hg : false = false)) <;> (try simp only [decide_eq_true_eq, decide_eq_false_iff_not] at hg) <;> simp only [Act.put, List.setIfInBounds_toArray, List.set_cons_zero, List.set_cons_succ]))); all_goals ((with_reducible refine wpQuiet_nil ?_); intro zq))
      have HM8 := Lib.hid (HM7.out.below zq.2 hbm7)
      have HB8 := Lib.hid (HB7.out.below zq.2)
      intro K5 hK5
      refine step_entry rfl (.tmp 22) (.tmp 24) 63 rfl 36 3 ptKey ptLaw Try.underlying63 (.int .i64 0) zero_int w.heap.size (2 * k + 1) (mapV M2) rfl HM8.out (by unfold maxLen; omega) s.2 rfl HWS.out.2 ?_
      intro st2 w1 hg1 hs1 hE1 hl1
      rw [mapV_getD] at hl1
      rw [mapV_getD]
      refine hK5 _ _ (.inr ⟨HB8.out.grown hg1 (by intro e; injection e with e; exact hgm e), hl1⟩) ?_
      intro K6 hK6
      go_simp
      refine hK6 _ _ (.inr ⟨HB8.out.grown hg1 (by intro e; injection e with e; exact hgm e), hl1⟩) ?_
      intro K7 hK7
      refine step_entrySt rfl (.tmp 22) (.tmp 28) (.tmp 26) 63 rfl 36 w.heap.size (2 * k + 1) (mapV M2) s.2 st2 _ hE1 rfl rfl rfl _ rfl ?_
      intro w3 hm3 hg3 hs3
      refine hK7 _ _ (.inl rfl) ?_
      refine wpListT_nil ?_
      have bw : Below w.heap.size w zq.1 := zq.below y3.2
      have bw1 := bw.grown hg1 bw.size (fun k e => by injection e with e; omega)
      have bw3 := bw1.grown hg3 bw1.size (fun k e => by injection e with e; omega)
      have hm4 : OwnM Try.prog 36 w3 w.heap.size (2 * k + 1 + 1) (mapV (updB M2 s.2 (-1))) := by
        rw [← mapV_upd M2 s.2 (-1) _ rfl]; exact hm3
      have HM9 := Lib.hid hm4
      obtain ⟨y4, rfl⟩ : ∃ y4 : Kin w, y4.1 = w3 := ⟨⟨w3, bw3⟩, rfl⟩
      clear hg1 hg3 hs1 hs3 hm4 hm3 hl1 hE1 bw bw1 bw3 HM8 HB8
      simp only [Exit.then]
      go_wp2_with fail
      have ht : mapB (l.take (k + 1)) = updB M2 s.2 (-1) := by
        rw [List.take_add_one, Hs.out, Option.toList_some, mapB_snoc, HMB.out, stepB, hM2]
      refine ⟨⟨k + 1, hlt, by simp, ?_, y4, rfl⟩, ?_⟩
      · rw [ht]; exact HM9
      · simp only [intOf]; omega
    · go_wp2_with fail
      have hkn : k = n := by omega
      rw [hkn, ← HL.out, List.take_length] at HM
      obtain ⟨w1, c1, hr1, HR0, hg1, hs1⟩ := HM.out.range ptKey (t := 63) (e := 3) Try.underlying63
      rw [hr1]
      have HR := Lib.hid HR0
      go_simp
      obtain ⟨y2, rfl⟩ : ∃ y2 : Kin w, y2.1 = w1 := ⟨⟨w1, y.2.grown hg1 y.2.size (fun k e => by cases e)⟩, rfl⟩
      obtain ⟨r, hr⟩ : ∃ r, y.1.heap.size = r := ⟨_, rfl⟩
      have hwr : w.heap.size ≤ r := by rw [← hr]; exact y.2.size
      rw [hr] at HR ⊢
      clear hr1 HR0 hg1 hs1 hr HM
      go_wp2_with fail
      go_loopw [] (fun wr => ∃ left cnt, Hid (RngM Try.prog 36 wr w.heap.size r (2 * l.length) (mapV (mapB l)) left cnt) ∧ (∀ c v, wfK c → mapB l c = some v → left c = false → v = 0) ∧ ∃ y : Kin w, y.1 = wr) (fun wr => wr.rangeLeft w.heap.size r)
      case atStart =>
        refine ⟨_, _, HR, fun c v hc h1 h2 => ?_, y2, rfl⟩
        have h3 : (mapV (mapB l) c).isSome = false := h2
        unfold mapV at h3; rw [h1] at h3; cases h3
      case round =>
        obtain ⟨left, cnt, HRR, hz, y3, rfl⟩ := hrel
        rcases HRR.out.next ptKey 0 with ⟨h0, hl0, hrun⟩ | ⟨c, v, w5, cnt5, hc, hlc, hFc, hrun, HR5, hlt5, hg5, hs5, hen5⟩
        · go_wp2_with fail
          have hb : balB l = true := (balB_iff l).2 fun p v hp => by
            have wp : wfK p := by
              obtain ⟨s, hs, e⟩ := (mapB_some l p).1 (by rw [hp]; rfl)
              have := HWF.out s hs
              rcases e with rfl | rfl
              · exact this.1
              · exact this.2
            exact hz p v wp hp (hl0 p wp)
          go_ret
          exact ⟨by rw [hb]; rfl, y3.2⟩
        · obtain ⟨u, hu, rfl⟩ : ∃ u, mapB l c = some u ∧ Value.int .i64 u = v := by
            unfold mapV at hFc
            cases h : mapB l c with
            | none => rw [h] at hFc; cases hFc
            | some u => rw [h] at hFc; exact ⟨u, rfl, Option.some.inj hFc⟩
          by_cases hu0 : u = 0
          · subst hu0
            go_wp2_with fail
            refine ⟨⟨_, _, Lib.hid HR5, fun d x hd hdx hl5 => ?_, ⟨w5, y3.2.grown hg5 y3.2.size (fun k e => by injection e with e; omega)⟩, rfl⟩, ?_⟩
            · by_cases e : d = c
              · subst e; rw [hu] at hdx; exact (Option.some.inj hdx).symm
              · exact hz d x hd hdx (by simpa [e] using hl5)
            · obtain ⟨_, _, q1, _⟩ := HR5
              obtain ⟨_, _, q2, _⟩ := HRR.out
              rw [q1.left_eq, q2.left_eq]; exact hlt5
          · have hbf : balB l = false := balB_nz hu hu0
            go_wp2_with fail
            go_ret
            exact ⟨by rw [hbf]; rfl, y3.2.grown hg5 y3.2.size (fun k e => by injection e with e; omega)⟩
end Go.Proofs.Yteadnlodccnfcaa

/- Nest of the chapter, walked. -/
import Derived.Test.YteadnlodccnfcaaCtrAwk
namespace Go.Proofs.Yteadnlodccnfcaa
set_option linter.unusedSimpArgs false
set_option linter.unusedVariables false
set_option maxRecDepth 100000
open Go.RowKit Planar Go.Sort
attribute [local go_sem] Kin.cell Kin.frozen Kin.lt0 Kin.lt1 Kin.lt2 Kin.lt3 run_mkf
set_option maxHeartbeats 8000000 in
theorem crsR_any (s : Sg) (p : Pt) (w : World) : Calls Try.prog 59 #[.agg #[.int .i64 s.1.1, .int .i64 s.1.2, .int .i64 s.2.1, .int .i64 s.2.2], .agg #[.int .i64 p.1, .int .i64 p.2]] w fun e w' => e = .returned (.bool (crsS s p)) ∧ Below w.heap.size w w' := by
  by_cases h1 : s.2.2 < s.1.2
  · have HE := Lib.hid (show crsS s p = (decide (s.2.2 ≤ p.2) && decide (p.2 < s.1.2) && decide (0 < turn s.2 s.1 p)) by unfold crsS; rw [if_pos h1])
    by_cases h2 : s.2.2 ≤ p.2 <;> by_cases h3 : p.2 < s.1.2
    all_goals (try (exfalso; omega))
    all_goals
      go_enter Try.func59, Try.ntmps59
      go_wp2_with fail
      (try ((go_at_call 32; (with_reducible refine (Kin.callK (W := w) (by repeat (first | with_reducible (first | exact blA | exact blB | refine blC _ ?_ | refine blD ?_ ?_ _ | refine blE ?_ | refine blF _ ?_ | refine blG ?_ _ | refine blH ?_ | refine blI ?_ ?_ _) | (simp only [World.size_alloc]; omega) | (simp <;> omega))) (turn_ref s.2 s.1 p _)).mono ?_); rintro e w' ⟨z1, rfl, hz1, rfl⟩; skip); go_wp2_with fail))
      go_ret
      rw [HE.out]
      exact ⟨ret_bool (by simp [h2, h3] <;> omega), (by repeat (first | with_reducible (first | exact blA | exact blB | refine blC _ ?_ | refine blD ?_ ?_ _ | refine blE ?_ | refine blF _ ?_ | refine blG ?_ _ | refine blH ?_ | refine blI ?_ ?_ _) | (simp only [World.size_alloc]; omega) | (simp <;> omega)))⟩
  · have HE := Lib.hid (show crsS s p = (decide (s.1.2 ≤ p.2) && decide (p.2 < s.2.2) && decide (0 < turn s.1 s.2 p)) by unfold crsS; rw [if_neg h1])
    by_cases h2 : s.1.2 ≤ p.2 <;> by_cases h3 : p.2 < s.2.2
    all_goals (try (exfalso; omega))
    all_goals
      go_enter Try.func59, Try.ntmps59
      go_wp2_with fail
      (try ((go_at_call 32; (with_reducible refine (Kin.callK (W := w) (by repeat (first | with_reducible (first | exact blA | exact blB | refine blC _ ?_ | refine blD ?_ ?_ _ | refine blE ?_ | refine blF _ ?_ | refine blG ?_ _ | refine blH ?_ | refine blI ?_ ?_ _) | (simp only [World.size_alloc]; omega) | (simp <;> omega))) (turn_ref s.1 s.2 p _)).mono ?_); rintro e w' ⟨z1, rfl, hz1, rfl⟩; skip); go_wp2_with fail))
      go_ret
      rw [HE.out]
      exact ⟨ret_bool (by simp [h2, h3] <;> omega), (by repeat (first | with_reducible (first | exact blA | exact blB | refine blC _ ?_ | refine blD ?_ ?_ _ | refine blE ?_ | refine blF _ ?_ | refine blG ?_ _ | refine blH ?_ | refine blI ?_ ?_ _) | (simp only [World.size_alloc]; omega) | (simp <;> omega)))⟩
theorem crsR_is {b : Bool} (s : Sg) (p : Pt) (w : World) (h : crsS s p = b) : Calls Try.prog 59 #[.agg #[.int .i64 s.1.1, .int .i64 s.1.2, .int .i64 s.2.1, .int .i64 s.2.2], .agg #[.int .i64 p.1, .int .i64 p.2]] w fun e w' => e = .returned (.bool b) ∧ Below w.heap.size w w' := by subst h; exact crsR_any s p w
theorem onR_is {b : Bool} (s : Sg) (p : Pt) (w : World) (h : onS s p = b) : Calls Try.prog 58 #[.agg #[.int .i64 p.1, .int .i64 p.2], .agg #[.int .i64 s.1.1, .int .i64 s.1.2, .int .i64 s.2.1, .int .i64 s.2.2]] w fun e w' => e = .returned (.bool b) ∧ Below w.heap.size w w' := by subst h; exact on_ref p s.1 s.2 w
def cntC (l : List Sg) (p : Pt) : Nat := l.countP fun s => crsS s p
theorem cntC_take {l : List Sg} {k : Nat} {s : Sg} {p : Pt} {b : Bool} (h : l[k]? = some s) (hc : crsS s p = b) : cntC (l.take (k + 1)) p = cntC (l.take k) p + (if b then 1 else 0) := by
  unfold cntC
  rw [List.take_add_one, h, List.countP_append]
  subst hc
  simp
theorem cntC_le (l : List Sg) (p : Pt) (k : Nat) : cntC (l.take k) p ≤ k := Nat.le_trans List.countP_le_length (List.length_take_le _ _)
set_option maxHeartbeats 8000000 in
theorem containsR_any (S : Option Addr) (n c : Nat) (o : List Pt) (p : Pt) (w : World) (h : Rd 2 encPt w (.slice S n c) o) (hl : o.length ≤ 1000) :
    Calls Try.prog 44 #[.agg #[.slice S n c], .agg #[.int .i64 p.1, .int .i64 p.2]] w fun e w' => e = .returned (.bool (conP (segsO o) p)) ∧ Below w.heap.size w w' := by
  have HR := Lib.hid h
  have hsl : (segsL [o]).length ≤ 1000000000 := by simp [segsL, segsO, segsTo_len]; omega
  have hs1 : segsL [o] = segsO o := by simp [segsL]
  have hsn : (segsO o).length ≤ 1000 := by unfold segsO; rw [segsTo_len]; exact hl
  clear h
  go_enter Try.func44, Try.ntmps44
  go_wp2_with fail
  obtain ⟨y0, hy0⟩ : ∃ y0 : Kin w, y0.1 = (w.alloc (.cells #[.slice S n c] 42)).alloc (.cells #[.int .i64 p.1, .int .i64 p.2] 36) := ⟨⟨(w.alloc _).alloc _, (by repeat (first | with_reducible (first | exact blA | exact blB | refine blC _ ?_ | refine blD ?_ ?_ _ | refine blE ?_ | refine blF _ ?_ | refine blG ?_ _ | refine blH ?_ | refine blI ?_ ?_ _) | (simp only [World.size_alloc]; omega) | (simp <;> omega)))⟩, rfl⟩
  have B0 := Blk.new (w.alloc (.cells #[.slice S n c] 42)) 36 #[.int .i64 p.1, .int .i64 p.2]
  rw [World.size_alloc] at B0
  rw [← hy0] at B0 ⊢
  have hr0 := rdPols_one y0.1 (HR.out.below y0.2)
  have hys : y0.1.heap.size = w.heap.size + 1 + 1 := by rw [hy0]; simp only [World.size_alloc]
  rw [hys] at hr0
  clear hys
  have HB0 := Lib.hid (B0.al_ (.cells #[.slice S n c] 42))
  clear B0 hy0
  (go_at_call 23; (with_reducible refine (Kin.callK (W := w) (by repeat (first | with_reducible (first | exact blA | exact blB | refine blC _ ?_ | refine blD ?_ ?_ _ | refine blE ?_ | refine blF _ ?_ | refine blG ?_ _ | refine blH ?_ | refine blI ?_ ?_ _) | (simp only [World.size_alloc]; omega) | (simp <;> omega))) (segsR_any _ [o] _ hr0 (by simp) hsl)).mono ?_); rintro e w' ⟨z1, ⟨u, rfl, hu⟩, hz1, rfl⟩; skip)
  have HB := Lib.hid (HB0.out.below hz1)
  obtain ⟨Au, cu, rfl⟩ := own_slc hu
  rw [hs1] at hu ⊢
  have hrd := Rd.own encSg_len hu
  obtain ⟨L, hL⟩ : ∃ L, segsO o = L := ⟨_, rfl⟩
  rw [hL] at hrd hsn ⊢
  have HRL := Lib.hid hrd
  have HLL := Lib.hid hL
  clear HB0 hz1 hr0 hs1 hsl hu hrd hL
  go_wp2_with fail
  go_loopw [6, 7] (fun m i wr => ∃ k : Nat, k ≤ L.length ∧ i = .int .i64 k ∧ m = .int .i64 (cntC (L.take k) p) ∧ Hid ((L.take k).any (fun s => onS s p) = false) ∧ ∃ y : Kin z1.1, y.1 = wr) (fun _ i _ => L.length - (intOf i).toNat)
  case atStart => exact ⟨0, Nat.zero_le _, rfl, rfl, Lib.hid rfl, ⟨z1.1, Below.refl _ _⟩, rfl⟩
  case round =>
    obtain ⟨k, hk, rfl, rfl, HN, y, rfl⟩ := hrel
    have q_0 : z1.1.cell? ⟨w.heap.size + 1, 0, none⟩ = some (.int .i64 p.1) := HB.out.cell 0
    have q_1 : z1.1.cell? ⟨w.heap.size + 1, 1, none⟩ = some (.int .i64 p.2) := HB.out.cell 1
    have ql := HB.out.lt
    have hcl := cntC_le L p k
    by_cases hlt : k < L.length
    · obtain ⟨s, hs⟩ : ∃ s, L[k]? = some s := ⟨_, List.getElem?_eq_getElem hlt⟩
      obtain ⟨bA, offA, rfl, hbA, hcA⟩ := Rd.op HRL.out k s hs
      have s_0 : z1.1.cell? ⟨bA, offA + k * 4, none⟩ = some (.int .i64 s.1.1) := hcA k s hs 0 _ rfl
      have s_1 : z1.1.cell? ⟨bA, offA + k * 4 + 1, none⟩ = some (.int .i64 s.1.2) := hcA k s hs 1 _ rfl
      have s_2 : z1.1.cell? ⟨bA, offA + k * 4 + 2, none⟩ = some (.int .i64 s.2.1) := hcA k s hs 2 _ rfl
      have s_3 : z1.1.cell? ⟨bA, offA + k * 4 + 3, none⟩ = some (.int .i64 s.2.2) := hcA k s hs 3 _ rfl
      have HS := Lib.hid hs
      clear hcA hs
      rcases ho : onS s p with _ | _
      · have HO := Lib.hid ho
        have HN2 := Lib.hid (show (L.take (k + 1)).any (fun s => onS s p) = false by rw [List.take_add_one, HS.out, List.any_append, HN.out]; simp [ho])
        clear ho
        go_wp2_with fail
        ((refine wp_region_kinK (W := (Kin.wd z1)) (by kernel_rfl) (by kernel_rfl) (by repeat (first | with_reducible (first | exact blA | exact blB | refine blC _ ?_ | refine blD ?_ ?_ _ | refine blE ?_ | refine blF _ ?_ | refine blG ?_ _ | refine blH ?_ | refine blI ?_ ?_ _) | (simp only [World.size_alloc]; omega) | (simp <;> omega))) ?_); (repeat' (first | go_big_quiet_step ((go_at_call 58; exact Kin.quiet _ (onR_is s p _ HO.out))) | ((refine wpQuiet_guard rfl rfl rfl rfl (fun hg => ?_) (fun hg => ?_)) <;> (fail_if_success (first | guard_hyp hg : true = true | guard_hyp hg : false = false)) <;> (try simp only [decide_eq_true_eq, decide_eq_false_iff_not] at hg) <;> simp only [Act.put, List.setIfInBounds_toArray, List.set_cons_zero, List.set_cons_succ]))); all_goals ((with_reducible refine wpQuiet_nil ?_); intro zq hz))
        clear hz
        go_wp2_with fail
        rcases hc : crsS s p with _ | _
        all_goals
          have HC := Lib.hid hc
          have HCT := Lib.hid (cntC_take HS.out hc)
          clear hc
          ((refine wp_region_kinK (W := (Kin.wd z1)) (by kernel_rfl) (by kernel_rfl) (by repeat (first | with_reducible (first | exact blA | exact blB | refine blC _ ?_ | refine blD ?_ ?_ _ | refine blE ?_ | refine blF _ ?_ | refine blG ?_ _ | refine blH ?_ | refine blI ?_ ?_ _) | (simp only [World.size_alloc]; omega) | (simp <;> omega))) ?_); (repeat' (first | go_big_quiet_step ((go_at_call 59; exact Kin.quiet _ (crsR_is s p _ HC.out))) | ((refine wpQuiet_guard rfl rfl rfl rfl (fun hg => ?_) (fun hg => ?_)) <;> (fail_if_success (first | guard_hyp hg : true = true | guard_hyp hg : false = false)) <;> (try simp only [decide_eq_true_eq, decide_eq_false_iff_not] at hg) <;> simp only [Act.put, List.setIfInBounds_toArray, List.set_cons_zero, List.set_cons_succ]))); all_goals ((with_reducible refine wpQuiet_nil ?_); intro zq hz))
          clear hz
          have hw2 : IntKind.i64.wrap ((cntC (L.take k) p : Int) + 1) = (cntC (L.take k) p : Int) + 1 := IntWalk.i64_in _ (by omega)
          go_wp2_with fail
          refine ⟨⟨k + 1, by omega, by go_num, by rw [HCT.out]; rfl, HN2, zq, rfl⟩, by simp [intOf]; omega⟩
      · have HO := Lib.hid ho
        have HR0 := Lib.hid (show conP (segsO o) p = false by
          rw [HLL.out]
          unfold conP
          have : L.any (fun s => onS s p) = true := List.any_eq_true.2 ⟨s, List.mem_of_getElem? HS.out, ho⟩
          rw [this]; rfl)
        clear ho
        go_wp2_with fail
        ((refine wp_region_kinK (W := (Kin.wd z1)) (by kernel_rfl) (by kernel_rfl) (by repeat (first | with_reducible (first | exact blA | exact blB | refine blC _ ?_ | refine blD ?_ ?_ _ | refine blE ?_ | refine blF _ ?_ | refine blG ?_ _ | refine blH ?_ | refine blI ?_ ?_ _) | (simp only [World.size_alloc]; omega) | (simp <;> omega))) ?_); (repeat' (first | go_big_quiet_step ((go_at_call 58; exact Kin.quiet _ (onR_is s p _ HO.out))) | ((refine wpQuiet_guard rfl rfl rfl rfl (fun hg => ?_) (fun hg => ?_)) <;> (fail_if_success (first | guard_hyp hg : true = true | guard_hyp hg : false = false)) <;> (try simp only [decide_eq_true_eq, decide_eq_false_iff_not] at hg) <;> simp only [Act.put, List.setIfInBounds_toArray, List.set_cons_zero, List.set_cons_succ]))); all_goals ((with_reducible refine wpQuiet_nil ?_); intro zq hz))
        go_wp2_with fail
        go_ret
        rw [HR0.out]
        exact ⟨rfl, (by repeat (first | with_reducible (first | exact blA | exact blB | refine blC _ ?_ | refine blD ?_ ?_ _ | refine blE ?_ | refine blF _ ?_ | refine blG ?_ _ | refine blH ?_ | refine blI ?_ ?_ _) | (simp only [World.size_alloc]; omega) | (simp <;> omega)))⟩
    · have HR0 := Lib.hid (show conP (segsO o) p = decide (cntC (L.take k) p % 2 = 1) by
        have h1 := HN.out
        rw [List.take_of_length_le (by omega)] at h1 ⊢
        rw [HLL.out]
        unfold conP
        rw [h1]; rfl)
      have e1 : ((cntC (L.take k) p : Int).tmod 2) = ((cntC (L.take k) p % 2 : Nat) : Int) := by rw [Int.tmod_eq_emod_of_nonneg (by omega)]; rfl
      have e2 : IntKind.i64.wrap ((cntC (L.take k) p % 2 : Nat) : Int) = ((cntC (L.take k) p % 2 : Nat) : Int) := IntWalk.i64_in _ (by omega)
      go_wp2_with fail
      go_ret
      rw [HR0.out]
      refine ⟨ret_bool ?_, (by repeat (first | with_reducible (first | exact blA | exact blB | refine blC _ ?_ | refine blD ?_ ?_ _ | refine blE ?_ | refine blF _ ?_ | refine blG ?_ _ | refine blH ?_ | refine blI ?_ ?_ _) | (simp only [World.size_alloc]; omega) | (simp <;> omega)))⟩
      rw [Bool.eq_iff_iff]
      simp only [beq_iff_eq, decide_eq_true_eq]
      omega
end Go.Proofs.Yteadnlodccnfcaa

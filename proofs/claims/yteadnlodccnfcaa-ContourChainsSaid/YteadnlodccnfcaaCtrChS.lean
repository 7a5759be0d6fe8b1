/- The balance, and the least segment, of the chapter, walked. -/
import Derived.Test.YteadnlodccnfcaaCtrChR
namespace Go.Proofs.Yteadnlodccnfcaa
set_option linter.unusedSimpArgs false
set_option linter.unusedVariables false
set_option maxRecDepth 100000
open Go.RowKit Planar
attribute [local go_sem] Kin.cell Kin.frozen Kin.lt0 Kin.lt1 Kin.lt2 Kin.lt3 run_mkf
theorem balP_take {l : List Sg} {k : Nat} {s : Sg} {p : Pt} {a b : Bool} (h : l[k]? = some s) (ha : eqP s.1 p = a) (hb : eqP s.2 p = b) : balP (l.take (k + 1)) p = balP (l.take k) p + (if a then 1 else 0) - (if b then 1 else 0) := by
  rw [List.take_add_one, h, Option.toList_some, balP_app]
  have e : balP [s] p = (if a then 1 else 0) - (if b then 1 else 0) := by
    have h1 : balP [s] p = balP [] p + (if p = s.1 then 1 else 0) - (if p = s.2 then 1 else 0) := balP_cons s [] p
    have h2 : balP [] p = 0 := rfl
    rw [h1, h2]
    subst ha hb
    have h3 : (p = s.1) ↔ eqP s.1 p = true := by rw [eqP_iff]; exact eq_comm
    have h4 : (p = s.2) ↔ eqP s.2 p = true := by rw [eqP_iff]; exact eq_comm
    simp only [h3, h4]
    omega
  rw [e]; omega
set_option maxHeartbeats 8000000 in
theorem balR_any (v : Value) (l : List Sg) (p : Pt) (w : World) (h : Rd 4 encSg w v l) (hl : l.length ≤ 1000000000) :
    Calls Try.prog 39 #[v, .agg #[.int .i64 p.1, .int .i64 p.2]] w fun e w' => e = .returned (.int .i64 (balP l p)) ∧ Below w.heap.size w w' := by
  obtain ⟨A, capA, rfl, hcapA, hopA⟩ := h.open_
  have HA := Lib.hid hopA
  have HLA := Lib.hid h
  clear hopA h
  go_enter Try.func39, Try.ntmps39
  go_wp2_with fail
  obtain ⟨y0, hy0⟩ : ∃ y0 : Kin w, y0.1 = w.alloc (.cells #[.int .i64 p.1, .int .i64 p.2] 36) := ⟨⟨w.alloc _, (by repeat (first | with_reducible (first | exact blA | exact blB | refine blC _ ?_ | refine blD ?_ ?_ _ | refine blE ?_ | refine blF _ ?_ | refine blG ?_ _ | refine blH ?_ | refine blI ?_ ?_ _) | (simp only [World.size_alloc]; omega) | (simp <;> omega)))⟩, rfl⟩
  have B0 := Blk.new w 36 #[.int .i64 p.1, .int .i64 p.2]
  rw [← hy0] at B0 ⊢
  have HB0 := Lib.hid B0
  clear B0 hy0
  go_wp2_with fail
  go_loopw [5, 6] (fun m i wr => ∃ k : Nat, k ≤ l.length ∧ i = .int .i64 k ∧ m = .int .i64 (balP (l.take k) p) ∧ ∃ y : Kin y0.1, y.1 = wr) (fun _ i _ => l.length - (intOf i).toNat)
  case atStart => exact ⟨0, Nat.zero_le _, rfl, rfl, ⟨y0.1, Below.refl _ _⟩, rfl⟩
  case round =>
    obtain ⟨k, hk, rfl, rfl, y, rfl⟩ := hrel
    have q_0 : y0.1.cell? ⟨w.heap.size, 0, none⟩ = some (.int .i64 p.1) := HB0.out.cell 0
    have q_1 : y0.1.cell? ⟨w.heap.size, 1, none⟩ = some (.int .i64 p.2) := HB0.out.cell 1
    have ql := HB0.out.lt
    have hbd := balP_bd (l.take k) p
    have hlk := List.length_take_le k l
    by_cases hlt : k < l.length
    · obtain ⟨s, hs⟩ : ∃ s, l[k]? = some s := ⟨_, List.getElem?_eq_getElem hlt⟩
      obtain ⟨bA, offA, rfl, hbA, hcA⟩ := HA.out k s hs
      have s_0 : y0.1.cell? ⟨bA, offA + k * 4, none⟩ = some (.int .i64 s.1.1) := (y0.cell hbA).trans (hcA k s hs 0 _ rfl)
      have s_1 : y0.1.cell? ⟨bA, offA + k * 4 + 1, none⟩ = some (.int .i64 s.1.2) := (y0.cell hbA).trans (hcA k s hs 1 _ rfl)
      have s_2 : y0.1.cell? ⟨bA, offA + k * 4 + 2, none⟩ = some (.int .i64 s.2.1) := (y0.cell hbA).trans (hcA k s hs 2 _ rfl)
      have s_3 : y0.1.cell? ⟨bA, offA + k * 4 + 3, none⟩ = some (.int .i64 s.2.2) := (y0.cell hbA).trans (hcA k s hs 3 _ rfl)
      have s_2' : y0.1.cell? ⟨bA, offA + (k * 4 + 2), none⟩ = some (.int .i64 s.2.1) := by rw [← Nat.add_assoc]; exact s_2
      have s_3' : y0.1.cell? ⟨bA, offA + (k * 4 + 2) + 1, none⟩ = some (.int .i64 s.2.2) := by rw [← Nat.add_assoc]; exact s_3
      have hbY : bA < y0.1.heap.size := y0.lt0 hbA
      have HS := Lib.hid hs
      clear hcA hs
      rcases ha : eqP s.1 p with _ | _ <;> rcases hb : eqP s.2 p with _ | _
      all_goals
        have hrun1 := eqP_run ha
        have hrun2 := eqP_run hb
        have HBT := Lib.hid (balP_take HS.out ha hb)
        clear ha hb
        have hw1 : IntKind.i64.wrap (balP (l.take k) p + 1) = balP (l.take k) p + 1 := IntWalk.i64_in _ (by omega)
        have hw2 : IntKind.i64.wrap (balP (l.take k) p - 1) = balP (l.take k) p - 1 := IntWalk.i64_in _ (by omega)
        have hw3 : IntKind.i64.wrap (balP (l.take k) p + 1 - 1) = balP (l.take k) p + 1 - 1 := IntWalk.i64_in _ (by omega)
        go_wp2_with fail
        ((refine wp_region_kinK (W := (Kin.wd y0)) (by kernel_rfl) (by kernel_rfl) (by repeat (first | with_reducible (first | exact blA | exact blB | refine blC _ ?_ | refine blD ?_ ?_ _ | refine blE ?_ | refine blF _ ?_ | refine blG ?_ _ | refine blH ?_ | refine blI ?_ ?_ _) | (simp only [World.size_alloc]; omega) | (simp <;> omega))) ?_); (repeat' (first | go_big_quiet_step (fail) | ((refine wpQuiet_guard rfl rfl rfl rfl (fun hg => ?_) (fun hg => ?_)) <;> (fail_if_success (first | guard_hyp hg : true = true | guard_hyp hg : false = false)) <;> (try simp only [decide_eq_true_eq, decide_eq_false_iff_not] at hg) <;> simp only [Act.put, List.setIfInBounds_toArray, List.set_cons_zero, List.set_cons_succ]))); all_goals ((with_reducible refine wpQuiet_nil ?_); intro zq hz))
        clear hz
        go_wp2_with fail
        ((refine wp_region_kinK (W := (Kin.wd y0)) (by kernel_rfl) (by kernel_rfl) (by repeat (first | with_reducible (first | exact blA | exact blB | refine blC _ ?_ | refine blD ?_ ?_ _ | refine blE ?_ | refine blF _ ?_ | refine blG ?_ _ | refine blH ?_ | refine blI ?_ ?_ _) | (simp only [World.size_alloc]; omega) | (simp <;> omega))) ?_); (repeat' (first | go_big_quiet_step (fail) | ((refine wpQuiet_guard rfl rfl rfl rfl (fun hg => ?_) (fun hg => ?_)) <;> (fail_if_success (first | guard_hyp hg : true = true | guard_hyp hg : false = false)) <;> (try simp only [decide_eq_true_eq, decide_eq_false_iff_not] at hg) <;> simp only [Act.put, List.setIfInBounds_toArray, List.set_cons_zero, List.set_cons_succ]))); all_goals ((with_reducible refine wpQuiet_nil ?_); intro zq hz))
        clear hz
        go_wp2_with fail
        refine ⟨⟨k + 1, by omega, by go_num, (by rw [HBT.out]; first | rfl | (simp; done) | (simp; omega)), zq, rfl⟩, by simp [intOf]; omega⟩
    · have HE := Lib.hid (show balP (l.take k) p = balP l p by rw [List.take_of_length_le (by omega)])
      go_wp2_with fail
      go_ret
      rw [HE.out]
      exact ⟨rfl, (by repeat (first | with_reducible (first | exact blA | exact blB | refine blC _ ?_ | refine blD ?_ ?_ _ | refine blE ?_ | refine blF _ ?_ | refine blG ?_ _ | refine blH ?_ | refine blI ?_ ?_ _) | (simp only [World.size_alloc]; omega) | (simp <;> omega)))⟩
theorem balR_is {m : Int} (v : Value) (l : List Sg) (p : Pt) (w : World) (h : Rd 4 encSg w v l) (hl : l.length ≤ 1000000000) (hm : balP l p = m) :
    Calls Try.prog 39 #[v, .agg #[.int .i64 p.1, .int .i64 p.2]] w fun e w' => e = .returned (.int .i64 m) ∧ Below w.heap.size w w' := by subst hm; exact balR_any v l p w h hl
theorem balB_bad {l : List Sg} {p : Pt} (h : balP l p ≠ 0) : balB l = false := by
  cases hb : balB l
  · rfl
  · exact absurd (balB_all hb p) h
set_option maxHeartbeats 8000000 in
theorem balancedR_any (v : Value) (l : List Sg) (w : World) (h : Rd 4 encSg w v l) (hl : l.length ≤ 1000000000) :
    Calls Try.prog 18 #[v] w fun e w' => e = .returned (.bool (balB l)) ∧ Below w.heap.size w w' := by
  obtain ⟨A, capA, rfl, hcapA, hopA⟩ := h.open_
  have HA := Lib.hid hopA
  have HLA := Lib.hid h
  clear hopA h
  go_enter Try.func18, Try.ntmps18
  go_wp2_with fail
  go_loopw [3] (fun i wr => ∃ k : Nat, k ≤ l.length ∧ i = .int .i64 k ∧ Hid (∀ s ∈ l.take k, balP l s.1 = 0 ∧ balP l s.2 = 0) ∧ ∃ y : Kin w, y.1 = wr) (fun i _ => l.length - (intOf i).toNat)
  case atStart => exact ⟨0, Nat.zero_le _, rfl, Lib.hid (fun s hs => by simp at hs), ⟨w, Below.refl _ _⟩, rfl⟩
  case round =>
    obtain ⟨k, hk, rfl, HZ, y, rfl⟩ := hrel
    by_cases hlt : k < l.length
    · obtain ⟨s, hs⟩ : ∃ el_, (l)[k]? = some el_ := ⟨_, List.getElem?_eq_getElem (by first | exact hlt | omega)⟩
      obtain ⟨bA, offA, rfl, hbA, hcA⟩ := HA.out (k) _ hs
      have s_0 : w.cell? ⟨bA, offA + k * 4, none⟩ = some (.int .i64 s.1.1) := by exact hcA (k) _ hs 0 _ rfl
      have s_1 : w.cell? ⟨bA, offA + k * 4 + 1, none⟩ = some (.int .i64 s.1.2) := by exact hcA (k) _ hs 1 _ rfl
      have s_2 : w.cell? ⟨bA, offA + k * 4 + 2, none⟩ = some (.int .i64 s.2.1) := by exact hcA (k) _ hs 2 _ rfl
      have s_3 : w.cell? ⟨bA, offA + k * 4 + 3, none⟩ = some (.int .i64 s.2.2) := by exact hcA (k) _ hs 3 _ rfl
      have hbA2 : bA < w.heap.size + 1 := by omega
      have HAc := Lib.hid hcA
      have Hs := Lib.hid hs
      clear hs hcA
      have s_2' : w.cell? ⟨bA, offA + (k * 4 + 2), none⟩ = some (.int .i64 s.2.1) := by rw [← Nat.add_assoc]; exact s_2
      have s_3' : w.cell? ⟨bA, offA + (k * 4 + 2) + 1, none⟩ = some (.int .i64 s.2.2) := by rw [← Nat.add_assoc]; exact s_3
      have hry := HLA.out.below y.2
      go_wp2_with fail
      by_cases h1 : balP l s.1 = 0
      · (go_at_call 39; (with_reducible refine (Kin.callK (W := w) (by repeat (first | with_reducible (first | exact blA | exact blB | refine blC _ ?_ | refine blD ?_ ?_ _ | refine blE ?_ | refine blF _ ?_ | refine blG ?_ _ | refine blH ?_ | refine blI ?_ ?_ _) | (simp only [World.size_alloc]; omega) | (simp <;> omega))) (balR_is _ l s.1 _ hry hl h1)).mono ?_); rintro e w' ⟨z1, rfl, hz1, rfl⟩; skip)
        have H1 := Lib.hid h1
        have hrz := HLA.out.below z1.2
        clear h1 hz1 hry
        go_wp2_with fail
        by_cases h2 : balP l s.2 = 0
        · (go_at_call 39; (with_reducible refine (Kin.callK (W := w) (by repeat (first | with_reducible (first | exact blA | exact blB | refine blC _ ?_ | refine blD ?_ ?_ _ | refine blE ?_ | refine blF _ ?_ | refine blG ?_ _ | refine blH ?_ | refine blI ?_ ?_ _) | (simp only [World.size_alloc]; omega) | (simp <;> omega))) (balR_is _ l s.2 _ hrz hl h2)).mono ?_); rintro e w' ⟨z2, rfl, hz2, rfl⟩; skip)
          have HZ2 := Lib.hid (show ∀ s ∈ l.take (k + 1), balP l s.1 = 0 ∧ balP l s.2 = 0 from fun t ht => by
            rw [List.take_add_one, Hs.out, Option.toList_some] at ht
            rcases List.mem_append.1 ht with ht | ht
            · exact HZ.out t ht
            · simp at ht; subst ht; exact ⟨H1.out, h2⟩)
          clear h2 hz2 hrz
          go_wp2_with fail
          refine ⟨⟨k + 1, by omega, by go_num, HZ2, z2, rfl⟩, by simp [intOf]; omega⟩
        · obtain ⟨m, hm⟩ : ∃ m, balP l s.2 = m := ⟨_, rfl⟩
          (go_at_call 39; (with_reducible refine (Kin.callK (W := w) (by repeat (first | with_reducible (first | exact blA | exact blB | refine blC _ ?_ | refine blD ?_ ?_ _ | refine blE ?_ | refine blF _ ?_ | refine blG ?_ _ | refine blH ?_ | refine blI ?_ ?_ _) | (simp only [World.size_alloc]; omega) | (simp <;> omega))) (balR_is _ l s.2 _ hrz hl hm)).mono ?_); rintro e w' ⟨z2, rfl, hz2, rfl⟩; skip)
          have HB := Lib.hid (balB_bad h2)
          have hm0 : (m != 0) = true := by rw [bne_iff_ne, ← hm]; exact h2
          clear h2 hz2 hrz hm
          go_wp2_with fail
          go_ret
          rw [HB.out]
          exact ⟨rfl, z2.2⟩
      · obtain ⟨m, hm⟩ : ∃ m, balP l s.1 = m := ⟨_, rfl⟩
        (go_at_call 39; (with_reducible refine (Kin.callK (W := w) (by repeat (first | with_reducible (first | exact blA | exact blB | refine blC _ ?_ | refine blD ?_ ?_ _ | refine blE ?_ | refine blF _ ?_ | refine blG ?_ _ | refine blH ?_ | refine blI ?_ ?_ _) | (simp only [World.size_alloc]; omega) | (simp <;> omega))) (balR_is _ l s.1 _ hry hl hm)).mono ?_); rintro e w' ⟨z2, rfl, hz2, rfl⟩; skip)
        have HB := Lib.hid (balB_bad h1)
        have hm0 : (m != 0) = true := by rw [bne_iff_ne, ← hm]; exact h1
        clear h1 hz2 hry hm
        go_wp2_with fail
        go_ret
        rw [HB.out]
        exact ⟨rfl, z2.2⟩
    · have HB := Lib.hid (show balB l = true by
        have h := HZ.out
        rw [List.take_of_length_le (by omega)] at h
        unfold balB
        rw [List.all_eq_true]
        intro s hs
        rw [(h s hs).1, (h s hs).2]; rfl)
      go_wp2_with fail
      go_ret
      rw [HB.out]
      exact ⟨rfl, y.2⟩
end Go.Proofs.Yteadnlodccnfcaa

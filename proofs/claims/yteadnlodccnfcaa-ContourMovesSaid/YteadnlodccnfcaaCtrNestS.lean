/- The least vertex, and Nest, of the chapter, walked. -/
import Derived.Test.YteadnlodccnfcaaCtrNestR
namespace Go.Proofs.Yteadnlodccnfcaa
set_option linter.unusedSimpArgs false
set_option linter.unusedVariables false
set_option maxRecDepth 100000
open Go.RowKit Planar Go.Sort
attribute [local go_sem] Kin.cell Kin.frozen Kin.lt0 Kin.lt1 Kin.lt2 Kin.lt3 run_mkf
theorem containsR_is {b : Bool} (S : Option Addr) (n c : Nat) (o : List Pt) (p : Pt) (w : World) (h : Rd 2 encPt w (.slice S n c) o) (hl : o.length ≤ 1000) (hb : conP (segsO o) p = b) :
    Calls Try.prog 44 #[.agg #[.slice S n c], .agg #[.int .i64 p.1, .int .i64 p.2]] w fun e w' => e = .returned (.bool b) ∧ Below w.heap.size w w' := by subst hb; exact containsR_any S n c o p w h hl
set_option maxHeartbeats 8000000 in
theorem leastOf_any (v : Value) (l : List Pt) (w : World) (h : Rd 2 encPt w v l) (h0 : l ≠ []) (hl : l.length ≤ 1000000000) :
    Calls Try.prog 45 #[v] w fun e w' => e = .returned (.agg #[.int .i64 (minP l).1, .int .i64 (minP l).2]) ∧ Below w.heap.size w w' := by
  obtain ⟨A, capA, rfl, hcapA, hopA⟩ := h.open_
  have HA := Lib.hid hopA
  have HLA := Lib.hid h
  clear hopA h
  have hpos : 0 < l.length := List.length_pos_iff.2 h0
  obtain ⟨p, hp⟩ : ∃ el_, (l)[0]? = some el_ := ⟨_, List.getElem?_eq_getElem (by first | exact hpos | omega)⟩
  obtain ⟨bA, offA, rfl, hbA, hcA⟩ := HA.out (0) _ hp
  have p_0 : w.cell? ⟨bA, offA + 0 * 2, none⟩ = some (.int .i64 p.1) := by exact hcA (0) _ hp 0 _ rfl
  have p_1 : w.cell? ⟨bA, offA + 0 * 2 + 1, none⟩ = some (.int .i64 p.2) := by exact hcA (0) _ hp 1 _ rfl
  have hbA2 : bA < w.heap.size + 1 := by omega
  have HAc := Lib.hid hcA
  have Hp := Lib.hid hp
  clear hp hcA
  have HP0 := Lib.hid (show minP (l.take 1) = p by
    cases l with
    | nil => exact absurd rfl h0
    | cons x t => have := Hp.out; simp at this; simp [minP, this])
  have q_0 : w.cell? ⟨bA, offA, none⟩ = some (.int .i64 p.1) := by simpa using p_0
  have q_1 : w.cell? ⟨bA, offA + 1, none⟩ = some (.int .i64 p.2) := by simpa using p_1
  clear p_0 p_1
  go_enter Try.func45, Try.ntmps45
  go_wp2_with fail
  obtain ⟨y0, hy0⟩ : ∃ y0 : Kin w, y0.1 = (w.alloc (.cells #[.int .i64 0, .int .i64 0] 36)).alloc (.cells #[.int .i64 p.1, .int .i64 p.2] 36) := ⟨⟨(w.alloc _).alloc _, (by repeat (first | with_reducible (first | exact blA | exact blB | refine blC _ ?_ | refine blD ?_ ?_ _ | refine blE ?_ | refine blF _ ?_ | refine blG ?_ _ | refine blH ?_ | refine blI ?_ ?_ _) | (simp only [World.size_alloc]; omega) | (simp <;> omega)))⟩, rfl⟩
  have B4 := (Blk.new w 36 #[.int .i64 0, .int .i64 0]).al_ (.cells #[.int .i64 p.1, .int .i64 p.2] 36)
  have B5 := Blk.new (w.alloc (.cells #[.int .i64 0, .int .i64 0] 36)) 36 #[.int .i64 p.1, .int .i64 p.2]
  rw [World.size_alloc] at B5
  rw [← hy0] at B4 B5 ⊢
  obtain ⟨g5, hg5⟩ : ∃ g5, w.heap.size + 1 = g5 := ⟨_, rfl⟩
  have h45 : w.heap.size < g5 := by omega
  have hw4 : w.heap.size ≤ w.heap.size := Nat.le_refl _
  rw [hg5] at B5 ⊢
  have HB4 := Lib.hid B4
  have HB5 := Lib.hid (show Blk y0.1 g5 36 #[.int .i64 (minP (l.take 1)).1, .int .i64 (minP (l.take 1)).2] by rw [HP0.out]; exact B5)
  clear B4 B5 hy0 hg5
  go_wp2_with fail
  go_loopw [4] (fun i wr => ∃ k : Nat, k + 1 ≤ l.length ∧ i = .int .i64 ((k : Int) + 1) ∧ Hid (Blk wr w.heap.size 36 #[.int .i64 0, .int .i64 0]) ∧ Hid (Blk wr g5 36 #[.int .i64 (minP (l.take (k + 1))).1, .int .i64 (minP (l.take (k + 1))).2]) ∧ ∃ y : Kin w, y.1 = wr) (fun i _ => l.length - (intOf i).toNat)
  case atStart => exact ⟨0, by omega, rfl, HB4, HB5, y0, rfl⟩
  case round =>
    clear HB4 HB5
    obtain ⟨k, hk, rfl, HB4, HB5, y, rfl⟩ := hrel
    obtain ⟨mm, hmm⟩ : ∃ mm, minP (l.take (k + 1)) = mm := ⟨_, rfl⟩
    have HMM := Lib.hid hmm
    rw [hmm] at HB5
    clear hmm
    have m_0 : y.1.cell? ⟨g5, 0, none⟩ = some (.int .i64 mm.1) := HB5.out.cell 0
    have m_1 : y.1.cell? ⟨g5, 1, none⟩ = some (.int .i64 mm.2) := HB5.out.cell 1
    have f_0 : y.1.frozen? ⟨g5, 0, none⟩ = false := HB5.out.frozen 0
    have f_1 : y.1.frozen? ⟨g5, 1, none⟩ = false := HB5.out.frozen 1
    have l_5 := HB5.out.lt
    have n_0 : y.1.cell? ⟨w.heap.size, 0, none⟩ = some (.int .i64 0) := HB4.out.cell 0
    have n_1 : y.1.cell? ⟨w.heap.size, 1, none⟩ = some (.int .i64 0) := HB4.out.cell 1
    have e_0 : y.1.frozen? ⟨w.heap.size, 0, none⟩ = false := HB4.out.frozen 0
    have e_1 : y.1.frozen? ⟨w.heap.size, 1, none⟩ = false := HB4.out.frozen 1
    have l_4 := HB4.out.lt
    by_cases hlt : k + 1 < l.length
    · obtain ⟨x, hx⟩ : ∃ el_, (l)[k + 1]? = some el_ := ⟨_, List.getElem?_eq_getElem (by first | exact hlt | omega)⟩
      have x_0 : w.cell? ⟨bA, offA + (k + 1) * 2, none⟩ = some (.int .i64 x.1) := by exact HAc.out (k + 1) _ hx 0 _ rfl
      have x_1 : w.cell? ⟨bA, offA + (k + 1) * 2 + 1, none⟩ = some (.int .i64 x.2) := by exact HAc.out (k + 1) _ hx 1 _ rfl
      have Hx := Lib.hid hx
      clear hx
      have HMT := Lib.hid (minP_take Hx.out)
      by_cases c1 : x.1 < mm.1
      · have HN := Lib.hid (show minP (l.take (k + 1 + 1)) = x by rw [HMT.out, HMM.out, if_pos (.inl c1)])
        go_wp2_with fail
        ((refine wp_region_kinK (W := w) (by kernel_rfl) (by kernel_rfl) (by repeat (first | with_reducible (first | exact blA | exact blB | refine blC _ ?_ | refine blD ?_ ?_ _ | refine blE ?_ | refine blF _ ?_ | refine blG ?_ _ | refine blH ?_ | refine blI ?_ ?_ _) | (simp only [World.size_alloc]; omega) | (simp <;> omega))) ?_); (repeat' (first | go_big_quiet_step (fail) | ((refine wpQuiet_guard rfl rfl rfl rfl (fun hg => ?_) (fun hg => ?_)) <;> (fail_if_success (first | guard_hyp hg : true = true | guard_hyp hg : false = false)) <;> (try simp only [decide_eq_true_eq, decide_eq_false_iff_not] at hg) <;> simp only [Act.put, List.setIfInBounds_toArray, List.set_cons_zero, List.set_cons_succ]))); all_goals ((with_reducible refine wpQuiet_nil ?_); intro zq hz))
        all_goals (try (exfalso; first | omega | (simp_all; done)))
        have HB4z := Lib.hid (HB4.out.below hz)
        have HB5z := Lib.hid (HB5.out.below hz)
        have z_0 : zq.1.cell? ⟨g5, 0, none⟩ = some (.int .i64 mm.1) := HB5z.out.cell 0
        have z_1 : zq.1.cell? ⟨g5, 1, none⟩ = some (.int .i64 mm.2) := HB5z.out.cell 1
        have zf_0 : zq.1.frozen? ⟨g5, 0, none⟩ = false := HB5z.out.frozen 0
        have zf_1 : zq.1.frozen? ⟨g5, 1, none⟩ = false := HB5z.out.frozen 1
        have zl := HB5z.out.lt
        clear hz
        go_wp2_with fail
        refine ⟨⟨k + 1, by omega, by go_num, Lib.hid ((HB4z.out.far (by show w.heap.size ≠ g5; omega) _).far (by show w.heap.size ≠ g5; omega) _), Lib.hid (by rw [HN.out]; exact (HB5z.out.set_ 0 _).set_ 1 _), ⟨_, (zq.2.setCell (Nat.le_of_lt h45) _).setCell (Nat.le_of_lt h45) _⟩, rfl⟩, by simp [intOf]; omega⟩
      · rcases c2 : (x.1 == mm.1) with _ | _
        · have HN := Lib.hid (show minP (l.take (k + 1 + 1)) = mm by
            rw [HMT.out, HMM.out, if_neg]
            rintro (h | ⟨h, _⟩)
            · exact c1 h
            · rw [h] at c2; simp at c2)
          go_wp2_with fail
          ((refine wp_region_kinK (W := w) (by kernel_rfl) (by kernel_rfl) (by repeat (first | with_reducible (first | exact blA | exact blB | refine blC _ ?_ | refine blD ?_ ?_ _ | refine blE ?_ | refine blF _ ?_ | refine blG ?_ _ | refine blH ?_ | refine blI ?_ ?_ _) | (simp only [World.size_alloc]; omega) | (simp <;> omega))) ?_); (repeat' (first | go_big_quiet_step (fail) | ((refine wpQuiet_guard rfl rfl rfl rfl (fun hg => ?_) (fun hg => ?_)) <;> (fail_if_success (first | guard_hyp hg : true = true | guard_hyp hg : false = false)) <;> (try simp only [decide_eq_true_eq, decide_eq_false_iff_not] at hg) <;> simp only [Act.put, List.setIfInBounds_toArray, List.set_cons_zero, List.set_cons_succ]))); all_goals ((with_reducible refine wpQuiet_nil ?_); intro zq hz))
          all_goals (try (exfalso; first | omega | (simp_all; done)))
          have HB4z := Lib.hid (HB4.out.below hz)
          have HB5z := Lib.hid (HB5.out.below hz)
          have z_0 : zq.1.cell? ⟨g5, 0, none⟩ = some (.int .i64 mm.1) := HB5z.out.cell 0
          have z_1 : zq.1.cell? ⟨g5, 1, none⟩ = some (.int .i64 mm.2) := HB5z.out.cell 1
          have zf_0 : zq.1.frozen? ⟨g5, 0, none⟩ = false := HB5z.out.frozen 0
          have zf_1 : zq.1.frozen? ⟨g5, 1, none⟩ = false := HB5z.out.frozen 1
          have zl := HB5z.out.lt
          clear hz
          go_wp2_with fail
          refine ⟨⟨k + 1, by omega, by go_num, HB4z, Lib.hid (by rw [HN.out]; exact HB5z.out), zq, rfl⟩, by simp [intOf]; omega⟩
        · by_cases c3 : x.2 < mm.2
          · have HN := Lib.hid (show minP (l.take (k + 1 + 1)) = x by rw [HMT.out, HMM.out, if_pos (.inr ⟨by simpa using c2, c3⟩)])
            go_wp2_with fail
            ((refine wp_region_kinK (W := w) (by kernel_rfl) (by kernel_rfl) (by repeat (first | with_reducible (first | exact blA | exact blB | refine blC _ ?_ | refine blD ?_ ?_ _ | refine blE ?_ | refine blF _ ?_ | refine blG ?_ _ | refine blH ?_ | refine blI ?_ ?_ _) | (simp only [World.size_alloc]; omega) | (simp <;> omega))) ?_); (repeat' (first | go_big_quiet_step (fail) | ((refine wpQuiet_guard rfl rfl rfl rfl (fun hg => ?_) (fun hg => ?_)) <;> (fail_if_success (first | guard_hyp hg : true = true | guard_hyp hg : false = false)) <;> (try simp only [decide_eq_true_eq, decide_eq_false_iff_not] at hg) <;> simp only [Act.put, List.setIfInBounds_toArray, List.set_cons_zero, List.set_cons_succ]))); all_goals ((with_reducible refine wpQuiet_nil ?_); intro zq hz))
            all_goals (try (exfalso; first | omega | (simp_all; done)))
            have HB4z := Lib.hid (HB4.out.below hz)
            have HB5z := Lib.hid (HB5.out.below hz)
            have z_0 : zq.1.cell? ⟨g5, 0, none⟩ = some (.int .i64 mm.1) := HB5z.out.cell 0
            have z_1 : zq.1.cell? ⟨g5, 1, none⟩ = some (.int .i64 mm.2) := HB5z.out.cell 1
            have zf_0 : zq.1.frozen? ⟨g5, 0, none⟩ = false := HB5z.out.frozen 0
            have zf_1 : zq.1.frozen? ⟨g5, 1, none⟩ = false := HB5z.out.frozen 1
            have zl := HB5z.out.lt
            clear hz
            go_wp2_with fail
            refine ⟨⟨k + 1, by omega, by go_num, Lib.hid ((HB4z.out.far (by show w.heap.size ≠ g5; omega) _).far (by show w.heap.size ≠ g5; omega) _), Lib.hid (by rw [HN.out]; exact (HB5z.out.set_ 0 _).set_ 1 _), ⟨_, (zq.2.setCell (Nat.le_of_lt h45) _).setCell (Nat.le_of_lt h45) _⟩, rfl⟩, by simp [intOf]; omega⟩
          · have HN := Lib.hid (show minP (l.take (k + 1 + 1)) = mm by
              rw [HMT.out, HMM.out, if_neg]
              rintro (h | ⟨_, h⟩)
              · exact c1 h
              · exact c3 h)
            go_wp2_with fail
            ((refine wp_region_kinK (W := w) (by kernel_rfl) (by kernel_rfl) (by repeat (first | with_reducible (first | exact blA | exact blB | refine blC _ ?_ | refine blD ?_ ?_ _ | refine blE ?_ | refine blF _ ?_ | refine blG ?_ _ | refine blH ?_ | refine blI ?_ ?_ _) | (simp only [World.size_alloc]; omega) | (simp <;> omega))) ?_); (repeat' (first | go_big_quiet_step (fail) | ((refine wpQuiet_guard rfl rfl rfl rfl (fun hg => ?_) (fun hg => ?_)) <;> (fail_if_success (first | guard_hyp hg : true = true | guard_hyp hg : false = false)) <;> (try simp only [decide_eq_true_eq, decide_eq_false_iff_not] at hg) <;> simp only [Act.put, List.setIfInBounds_toArray, List.set_cons_zero, List.set_cons_succ]))); all_goals ((with_reducible refine wpQuiet_nil ?_); intro zq hz))
            all_goals (try (exfalso; first | omega | (simp_all; done)))
            have HB4z := Lib.hid (HB4.out.below hz)
            have HB5z := Lib.hid (HB5.out.below hz)
            have z_0 : zq.1.cell? ⟨g5, 0, none⟩ = some (.int .i64 mm.1) := HB5z.out.cell 0
            have z_1 : zq.1.cell? ⟨g5, 1, none⟩ = some (.int .i64 mm.2) := HB5z.out.cell 1
            have zf_0 : zq.1.frozen? ⟨g5, 0, none⟩ = false := HB5z.out.frozen 0
            have zf_1 : zq.1.frozen? ⟨g5, 1, none⟩ = false := HB5z.out.frozen 1
            have zl := HB5z.out.lt
            clear hz
            go_wp2_with fail
            refine ⟨⟨k + 1, by omega, by go_num, HB4z, Lib.hid (by rw [HN.out]; exact HB5z.out), zq, rfl⟩, by simp [intOf]; omega⟩
    · have HE := Lib.hid (show minP l = mm by rw [← HMM.out, List.take_of_length_le (by omega)])
      go_wp2_with fail
      ((try simp only [Exit.inBlock, Exit.then]); refine bodyPost_ret (results_cell_row rfl _ _ _ _ _ (0, 0) _ rfl ((HB4.out.set_ 0 _).set_ 1 _) Try.underlying36 rfl (by kernel_rfl)) rfl ?_)
      rw [HE.out]
      exact ⟨rfl, (y.2.setCell hw4 _).setCell hw4 _⟩
end Go.Proofs.Yteadnlodccnfcaa

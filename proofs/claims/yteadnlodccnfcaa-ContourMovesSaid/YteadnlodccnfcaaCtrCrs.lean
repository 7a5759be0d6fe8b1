/- crosses and contains of the program, walked. -/
import Derived.Test.YteadnlodccnfcaaCtrNs
import Derived.RegionTactic
import Derived.BigRegion
namespace Go.Proofs.Yteadnlodccnfcaa
set_option linter.unusedSimpArgs false
set_option linter.unusedVariables false
set_option maxRecDepth 100000
open Go.RowKit Planar Go.Sort
attribute [local go_sem] Kin.cell Kin.frozen Kin.lt0 Kin.lt1 Kin.lt2 Kin.lt3
set_option maxHeartbeats 8000000 in
theorem crosses_any (s : Sg) (p : Pt) (w : World) : Calls Try.prog 57 #[.agg #[.int .i64 s.1.1, .int .i64 s.1.2, .int .i64 s.2.1, .int .i64 s.2.2], .agg #[.int .i64 p.1, .int .i64 p.2]] w fun e w' => e = .returned (.bool (crsS s p)) ∧ Below w.heap.size w w' := by
  have mixed : Try.prog.follows .mixedOrders = true := by kernel_rfl
  by_cases h1 : s.2.2 < s.1.2
  · have he : crsS s p = (decide (s.2.2 ≤ p.2) && decide (p.2 < s.1.2) && decide (0 < turn s.2 s.1 p)) := by unfold crsS; rw [if_pos h1]
    have HE := Lib.hid he
    clear he
    go_enter Try.func57, Try.ntmps57
    go_wp2_with fail
    go_big_region_o
    all_goals
      (try simp only [Exit.then])
      by_cases h2 : s.2.2 ≤ p.2 <;> by_cases h3 : p.2 < s.1.2
      all_goals (try (exfalso; omega))
      all_goals
        go_wp2_with fail
        (try ((go_at_call 60; (with_reducible refine (Kin.callK (W := w) (by repeat (first | with_reducible (first | exact blA | exact blB | refine blC _ ?_ | refine blD ?_ ?_ _ | refine blE ?_ | refine blF _ ?_ | refine blG ?_ _ | refine blH ?_ | refine blI ?_ ?_ _) | (simp only [World.size_alloc]; omega) | (simp <;> omega))) (turn_any s.2 s.1 p _)).mono ?_); rintro e w' ⟨z1, rfl, hz1, rfl⟩; skip); go_wp2_with fail))
        go_ret
        rw [HE.out]
        exact ⟨ret_bool (by simp [h2, h3] <;> omega), (by repeat (first | with_reducible (first | exact blA | exact blB | refine blC _ ?_ | refine blD ?_ ?_ _ | refine blE ?_ | refine blF _ ?_ | refine blG ?_ _ | refine blH ?_ | refine blI ?_ ?_ _) | (simp only [World.size_alloc]; omega) | (simp <;> omega)))⟩
  · have he : crsS s p = (decide (s.1.2 ≤ p.2) && decide (p.2 < s.2.2) && decide (0 < turn s.1 s.2 p)) := by unfold crsS; rw [if_neg h1]
    have HE := Lib.hid he
    clear he
    go_enter Try.func57, Try.ntmps57
    go_wp2_with fail
    go_big_region_o
    all_goals
      (try simp only [Exit.then])
      by_cases h2 : s.1.2 ≤ p.2 <;> by_cases h3 : p.2 < s.2.2
      all_goals (try (exfalso; omega))
      all_goals
        go_wp2_with fail
        (try ((go_at_call 60; (with_reducible refine (Kin.callK (W := w) (by repeat (first | with_reducible (first | exact blA | exact blB | refine blC _ ?_ | refine blD ?_ ?_ _ | refine blE ?_ | refine blF _ ?_ | refine blG ?_ _ | refine blH ?_ | refine blI ?_ ?_ _) | (simp only [World.size_alloc]; omega) | (simp <;> omega))) (turn_any s.1 s.2 p _)).mono ?_); rintro e w' ⟨z1, rfl, hz1, rfl⟩; skip); go_wp2_with fail))
        go_ret
        rw [HE.out]
        exact ⟨ret_bool (by simp [h2, h3] <;> omega), (by repeat (first | with_reducible (first | exact blA | exact blB | refine blC _ ?_ | refine blD ?_ ?_ _ | refine blE ?_ | refine blF _ ?_ | refine blG ?_ _ | refine blH ?_ | refine blI ?_ ?_ _) | (simp only [World.size_alloc]; omega) | (simp <;> omega)))⟩
theorem crosses_is {b : Bool} (s : Sg) (p : Pt) (w : World) (h : crsS s p = b) : Calls Try.prog 57 #[.agg #[.int .i64 s.1.1, .int .i64 s.1.2, .int .i64 s.2.1, .int .i64 s.2.2], .agg #[.int .i64 p.1, .int .i64 p.2]] w fun e w' => e = .returned (.bool b) ∧ Below w.heap.size w w' := by subst h; exact crosses_any s p w
theorem on_is {b : Bool} (s : Sg) (p : Pt) (w : World) (h : onS s p = b) : Calls Try.prog 56 #[.agg #[.int .i64 p.1, .int .i64 p.2], .agg #[.int .i64 s.1.1, .int .i64 s.1.2, .int .i64 s.2.1, .int .i64 s.2.2]] w fun e w' => e = .returned (.bool b) ∧ Below w.heap.size w w' := by subst h; exact on_any p s.1 s.2 w
theorem odd_take {l : List Sg} {k : Nat} {s : Sg} {p : Pt} (h : l[k]? = some s) : odd (l.take (k + 1)) p = (if crsS s p then !(odd (l.take k) p) else odd (l.take k) p) := by
  unfold odd
  rw [List.take_add_one, h, List.countP_append]
  by_cases hc : crsS s p = true
  · simp [hc]
    by_cases h2 : (List.countP (fun s => crsS s p) (l.take k)) % 2 = 1
    · rw [decide_eq_true h2, decide_eq_false (by omega)]; rfl
    · rw [decide_eq_false h2, decide_eq_true (by omega)]; rfl
  · simp [hc]
set_option maxHeartbeats 4000000 in
theorem contains_any (v : Value) (l : List Sg) (p : Pt) (w : World) (h : Rd 4 encSg w v l) (hl : l.length ≤ 1000000000) :
    Calls Try.prog 43 #[v, .agg #[.int .i64 p.1, .int .i64 p.2]] w fun e w' => e = .returned (.bool (conP l p)) ∧ Below w.heap.size w w' := by
  obtain ⟨A, capA, rfl, hcapA, hopA⟩ := h.open_
  have HA := Lib.hid hopA
  have HLA := Lib.hid h
  clear hopA h
  go_enter Try.func43, Try.ntmps43
  go_wp2_with fail
  obtain ⟨y0, hy0⟩ : ∃ y0 : Kin w, y0.1 = w.alloc (.cells #[.int .i64 p.1, .int .i64 p.2] 36) := ⟨⟨w.alloc _, (by repeat (first | with_reducible (first | exact blA | exact blB | refine blC _ ?_ | refine blD ?_ ?_ _ | refine blE ?_ | refine blF _ ?_ | refine blG ?_ _ | refine blH ?_ | refine blI ?_ ?_ _) | (simp only [World.size_alloc]; omega) | (simp <;> omega)))⟩, rfl⟩
  have B0 := Blk.new w 36 #[.int .i64 p.1, .int .i64 p.2]
  rw [← hy0] at B0 ⊢
  have HB0 := Lib.hid B0
  clear B0 hy0
  go_wp2_with fail
  go_loopw [5, 10] (fun o i wr => ∃ k : Nat, k ≤ l.length ∧ i = .int .i64 k ∧ (∃ q : Bool, o = .bool q ∧ Hid (odd (l.take k) p = q)) ∧ Hid ((l.take k).any (fun s => onS s p) = false) ∧ Hid (Blk wr w.heap.size 36 #[.int .i64 p.1, .int .i64 p.2]) ∧ ∃ y : Kin w, y.1 = wr) (fun _ i _ => l.length - (intOf i).toNat)
  case atStart => exact ⟨0, Nat.zero_le _, rfl, ⟨_, rfl, Lib.hid rfl⟩, Lib.hid rfl, HB0, y0, rfl⟩
  case round =>
    clear HB0
    obtain ⟨k, hk, rfl, ⟨q, rfl, HQ⟩, HN, HB, y, rfl⟩ := hrel
    have q_0 : y.1.cell? ⟨w.heap.size, 0, none⟩ = some (.int .i64 p.1) := HB.out.cell 0
    have q_1 : y.1.cell? ⟨w.heap.size, 1, none⟩ = some (.int .i64 p.2) := HB.out.cell 1
    have ql := HB.out.lt
    by_cases hlt : k < l.length
    · obtain ⟨s, hs⟩ : ∃ el_, (l)[k]? = some el_ := ⟨_, List.getElem?_eq_getElem (by first | exact hlt | omega)⟩
      obtain ⟨bA, offA, rfl, hbA, hcA⟩ := HA.out (k) _ hs
      have s_0 : w.cell? ⟨bA, offA + k * 4, none⟩ = some (.int .i64 s.1.1) := by exact hcA (k) _ hs 0 _ rfl
      have s_1 : w.cell? ⟨bA, offA + k * 4 + 1, none⟩ = some (.int .i64 s.1.2) := by exact hcA (k) _ hs 1 _ rfl
      have s_2 : w.cell? ⟨bA, offA + k * 4 + 2, none⟩ = some (.int .i64 s.2.1) := by exact hcA (k) _ hs 2 _ rfl
      have s_3 : w.cell? ⟨bA, offA + k * 4 + 3, none⟩ = some (.int .i64 s.2.2) := by exact hcA (k) _ hs 3 _ rfl
      have hbA2 : bA < w.heap.size + 1 := by omega
      have HAc := Lib.hid hcA
      have Hs := Lib.hid hs
      clear hs hcA
      have HQT := Lib.hid (odd_take (p := p) Hs.out)
      go_wp2_with fail
      obtain ⟨y5, hy5⟩ : ∃ y5 : Kin w, y5.1 = y.1.alloc (.cells #[.int .i64 s.1.1, .int .i64 s.1.2, .int .i64 s.2.1, .int .i64 s.2.2] 38) := ⟨⟨y.1.alloc _, (by repeat (first | with_reducible (first | exact blA | exact blB | refine blC _ ?_ | refine blD ?_ ?_ _ | refine blE ?_ | refine blF _ ?_ | refine blG ?_ _ | refine blH ?_ | refine blI ?_ ?_ _) | (simp only [World.size_alloc]; omega) | (simp <;> omega)))⟩, rfl⟩
      have B1 := HB.out.al_ (.cells #[.int .i64 s.1.1, .int .i64 s.1.2, .int .i64 s.2.1, .int .i64 s.2.2] 38)
      have B5 := Blk.new y.1 38 #[.int .i64 s.1.1, .int .i64 s.1.2, .int .i64 s.2.1, .int .i64 s.2.2]
      obtain ⟨g5, hg5⟩ : ∃ g5, y.1.heap.size = g5 := ⟨_, rfl⟩
      rw [← hy5, hg5] at B5
      rw [← hy5] at B1
      rw [← hy5, hg5]
      have HB5 := Lib.hid B5
      have HB1 := Lib.hid B1
      clear hy5 hg5 B5 B1
      rcases ho : onS s p with _ | _
      · (go_at_call 56; (with_reducible refine (Kin.callK (W := w) (by repeat (first | with_reducible (first | exact blA | exact blB | refine blC _ ?_ | refine blD ?_ ?_ _ | refine blE ?_ | refine blF _ ?_ | refine blG ?_ _ | refine blH ?_ | refine blI ?_ ?_ _) | (simp only [World.size_alloc]; omega) | (simp <;> omega))) (on_is s p _ ho)).mono ?_); rintro e w' ⟨z1, rfl, hz1, rfl⟩; skip)
        have HN2 := Lib.hid (show (l.take (k + 1)).any (fun s => onS s p) = false by rw [List.take_add_one, Hs.out, List.any_append, HN.out]; simp [ho])
        have HB5z := Lib.hid (HB5.out.below hz1)
        have HB1z := Lib.hid (HB1.out.below hz1)
        have s_0' : z1.1.cell? ⟨g5, 0, none⟩ = some (.int .i64 s.1.1) := HB5z.out.cell 0
        have s_1' : z1.1.cell? ⟨g5, 1, none⟩ = some (.int .i64 s.1.2) := HB5z.out.cell 1
        have s_2' : z1.1.cell? ⟨g5, 2, none⟩ = some (.int .i64 s.2.1) := HB5z.out.cell 2
        have s_3' : z1.1.cell? ⟨g5, 3, none⟩ = some (.int .i64 s.2.2) := HB5z.out.cell 3
        have q_0' : z1.1.cell? ⟨w.heap.size, 0, none⟩ = some (.int .i64 p.1) := HB1z.out.cell 0
        have q_1' : z1.1.cell? ⟨w.heap.size, 1, none⟩ = some (.int .i64 p.2) := HB1z.out.cell 1
        have l5 := HB5z.out.lt
        have l1 := HB1z.out.lt
        clear ho hz1
        go_wp2_with fail
        rcases hc : crsS s p with _ | _
        all_goals
          have HQ2 := Lib.hid (show odd (l.take (k + 1)) p = _ by rw [HQT.out, hc, HQ.out])
          (go_at_call 57; (with_reducible refine (Kin.callK (W := w) (by repeat (first | with_reducible (first | exact blA | exact blB | refine blC _ ?_ | refine blD ?_ ?_ _ | refine blE ?_ | refine blF _ ?_ | refine blG ?_ _ | refine blH ?_ | refine blI ?_ ?_ _) | (simp only [World.size_alloc]; omega) | (simp <;> omega))) (crosses_is s p _ hc)).mono ?_); rintro e w' ⟨z2, rfl, hz2, rfl⟩; skip)
          have HB2z := Lib.hid (HB1z.out.below hz2)
          clear hc hz2
          go_wp2_with fail
          go_roundw
          case rel => exact ⟨k + 1, by omega, by go_num, ⟨_, rfl, by first | exact HQ2 | exact Lib.hid (by simpa using HQ2.out)⟩, HN2, HB2z, z2, rfl⟩
          case measure => simp [intOf]; omega
      · (go_at_call 56; (with_reducible refine (Kin.callK (W := w) (by repeat (first | with_reducible (first | exact blA | exact blB | refine blC _ ?_ | refine blD ?_ ?_ _ | refine blE ?_ | refine blF _ ?_ | refine blG ?_ _ | refine blH ?_ | refine blI ?_ ?_ _) | (simp only [World.size_alloc]; omega) | (simp <;> omega))) (on_is s p _ ho)).mono ?_); rintro e w' ⟨z1, rfl, hz1, rfl⟩; skip)
        have HR := Lib.hid (show conP l p = false by
          unfold conP
          have : l.any (fun s => onS s p) = true := List.any_eq_true.2 ⟨s, List.mem_of_getElem? Hs.out, ho⟩
          rw [this]; rfl)
        clear ho hz1
        go_wp2_with fail
        go_ret
        rw [HR.out]
        exact ⟨rfl, z1.2⟩
    · have HR := Lib.hid (show conP l p = q by
        have h1 := HN.out
        have h2 := HQ.out
        rw [List.take_of_length_le (by omega)] at h1 h2
        unfold conP
        rw [h1, h2]; rfl)
      go_wp2_with fail
      go_ret
      rw [HR.out]
      exact ⟨rfl, y.2⟩
end Go.Proofs.Yteadnlodccnfcaa

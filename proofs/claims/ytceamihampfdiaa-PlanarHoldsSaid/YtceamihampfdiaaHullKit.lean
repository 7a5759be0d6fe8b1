/- pts and hulled of the laws on hulls. -/
import Derived.Test.YtceamihampfdiaaHullWalk
import Derived.Test.YtceamihampfdiaaPlanarAwake
namespace Go.Proofs.Ytceamihampfdiaa
set_option linter.unusedSimpArgs false
set_option linter.unusedVariables false
set_option maxRecDepth 100000
open Go.RowKit Go.Proofs Planar
attribute [local go_sem] Kin.cell Kin.frozen Kin.lt0 Kin.lt1 Kin.lt2 Kin.lt3 run_mkf
set_option maxHeartbeats 4000000 in
theorem pts_any (u v : Value) (a b : List Pt) (w : World) (ha : Rd 2 encPt w u a) (hb : Rd 2 encPt w v b) (hla : a.length ≤ 1099511627776) :
    Calls Try.prog 31 #[u, v] w fun e w' => e = .returned (.bool (decide (a = b))) ∧ Below w.heap.size w w' := by
  obtain ⟨A, capA, rfl, hcapA, hopA⟩ := ha.open_
  have HA := Lib.hid hopA
  have HLA := Lib.hid ha
  clear hopA ha
  obtain ⟨B, capB, rfl, hcapB, hopB⟩ := hb.open_
  have HB := Lib.hid hopB
  have HLB := Lib.hid hb
  clear hopB hb
  by_cases hl : a.length = b.length
  · obtain ⟨n, hn⟩ : ∃ n, a.length = n := ⟨_, rfl⟩
    have HN := Lib.hid (And.intro hn (hl.symm.trans hn))
    rw [hn] at hla hcapA HLA ⊢
    rw [HN.out.2] at hcapB HLB ⊢
    clear hl hn HLA HLB
    have hrn := run_neq2
    go_enter Try.func31, Try.ntmps31
    go_wp2
    go_loopw [5] (fun i wr => ∃ k : Nat, k ≤ n ∧ i = .int .i64 k ∧ a.take k = b.take k ∧ ∃ y : Kin w, y.1 = wr) (fun i _ => n - (intOf i).toNat)
    case atStart => exact ⟨0, Nat.zero_le _, rfl, rfl, ⟨w, Below.refl _ _⟩, rfl⟩
    case round =>
      obtain ⟨k, hk, rfl, hval, y, rfl⟩ := hrel
      have HV := Lib.hid hval
      clear hval
      by_cases hlt : k < n
      · obtain ⟨p, hp⟩ : ∃ el_, (a)[k]? = some el_ := ⟨_, List.getElem?_eq_getElem (by first | exact (by rw [HN.out.1]; exact hlt) | omega)⟩
        obtain ⟨bA, offA, rfl, hbA, hcA⟩ := HA.out (k) _ hp
        have p_0 : w.cell? ⟨bA, offA + k * 2, none⟩ = some (.int .i64 p.1) := by exact hcA (k) _ hp 0 _ rfl
        have p_1 : w.cell? ⟨bA, offA + k * 2 + 1, none⟩ = some (.int .i64 p.2) := by exact hcA (k) _ hp 1 _ rfl
        have hbA2 : bA < w.heap.size + 1 := by omega
        have HAc := Lib.hid hcA
        have Hp := Lib.hid hp
        clear hp hcA
        obtain ⟨q, hq⟩ : ∃ el_, (b)[k]? = some el_ := ⟨_, List.getElem?_eq_getElem (by first | exact (by rw [HN.out.2]; exact hlt) | omega)⟩
        obtain ⟨bB, offB, rfl, hbB, hcB⟩ := HB.out (k) _ hq
        have q_0 : w.cell? ⟨bB, offB + k * 2, none⟩ = some (.int .i64 q.1) := by exact hcB (k) _ hq 0 _ rfl
        have q_1 : w.cell? ⟨bB, offB + k * 2 + 1, none⟩ = some (.int .i64 q.2) := by exact hcB (k) _ hq 1 _ rfl
        have hbB2 : bB < w.heap.size + 1 := by omega
        have HBc := Lib.hid hcB
        have Hq := Lib.hid hq
        clear hq hcB
        cases he : eq2 p.1 p.2 q.1 q.2
        · have HF := Lib.hid (show decide (a = b) = false by
            rw [decide_eq_false_iff_not]
            intro e
            subst e
            have : p = q := by have h1 := Hp.out; have h2 := Hq.out; rw [h1] at h2; exact Option.some.inj h2
            rw [(eq2_iff p q).2 this] at he; cases he)
          go_wp2
          ((first | refine wp_region_kin _ (by kernel_rfl) (by kernel_rfl) ?_ | refine wp_region_kin0 (by kernel_rfl) (by kernel_rfl) ?_); (repeat' (first | go_big_quiet_step (fail) | ((refine wpQuiet_guard rfl rfl rfl rfl (fun hg => ?_) (fun hg => ?_)) <;> (fail_if_success (first | guard_hyp hg : true = true | guard_hyp hg : false = false)) <;> (try simp only [decide_eq_true_eq, decide_eq_false_iff_not] at hg) <;> simp only [Act.put, List.setIfInBounds_toArray, List.set_cons_zero, List.set_cons_succ]))); all_goals ((with_reducible refine wpQuiet_nil ?_); rintro _ ⟨z, rfl⟩))
          go_wp2
          go_ret
          exact ⟨by rw [HF.out]; rfl, (by repeat (first | with_reducible (first | exact blA | exact blB | refine blC _ ?_ | refine blD ?_ ?_ _ | refine blE ?_ | refine blF _ ?_ | refine blG ?_ _ | refine blH ?_ | refine blI ?_ ?_ _) | (simp only [World.size_alloc]; omega) | (simp <;> omega)))⟩
        · go_wp2
          ((first | refine wp_region_kin _ (by kernel_rfl) (by kernel_rfl) ?_ | refine wp_region_kin0 (by kernel_rfl) (by kernel_rfl) ?_); (repeat' (first | go_big_quiet_step (fail) | ((refine wpQuiet_guard rfl rfl rfl rfl (fun hg => ?_) (fun hg => ?_)) <;> (fail_if_success (first | guard_hyp hg : true = true | guard_hyp hg : false = false)) <;> (try simp only [decide_eq_true_eq, decide_eq_false_iff_not] at hg) <;> simp only [Act.put, List.setIfInBounds_toArray, List.set_cons_zero, List.set_cons_succ]))); all_goals ((with_reducible refine wpQuiet_nil ?_); rintro _ ⟨z, rfl⟩))
          go_wp2
          go_roundw
          case rel =>
            refine ⟨k + 1, by omega, by go_num, take_eq_succ Hp.out Hq.out HV.out ((eq2_iff p q).1 he), z, rfl⟩
          case measure => simp [intOf]; omega
      · have HF := Lib.hid (show decide (a = b) = true by
          rw [decide_eq_true_eq]
          have := HV.out
          rwa [List.take_of_length_le (by rw [HN.out.1]; omega), List.take_of_length_le (by rw [HN.out.2]; omega)] at this)
        go_wp2
        go_ret
        exact ⟨by rw [HF.out]; rfl, (by repeat (first | with_reducible (first | exact blA | exact blB | refine blC _ ?_ | refine blD ?_ ?_ _ | refine blE ?_ | refine blF _ ?_ | refine blG ?_ _ | refine blH ?_ | refine blI ?_ ?_ _) | (simp only [World.size_alloc]; omega) | (simp <;> omega)))⟩
  · have HF := Lib.hid (show decide (a = b) = false by
      rw [decide_eq_false_iff_not]
      intro e
      exact hl (by rw [e]))
    have hl2 : ¬ (a.length : Int) = (b.length : Int) := by omega
    clear hl
    go_enter Try.func31, Try.ntmps31
    go_wp2
    go_ret
    exact ⟨by rw [HF.out]; rfl, Below.refl _ _⟩
theorem hulled_list : hullP [(0, 0), (2, 0), (1, 0), (2, 2), (1, 1), (0, 2)] = [(0, 0), (2, 0), (2, 2), (0, 2)] := by decide
theorem hulled_any (w : World) : Calls Try.prog 34 #[] w fun e w' => e = .returned (.bool true) ∧ Below w.heap.size w w' := by
  go_enter Try.func34, Try.ntmps34
  go_wp2_with (first
    | (go_at_call 32; (with_reducible refine (Kin.callK (W := w) (by repeat (first | with_reducible (first | exact blA | exact blB | refine blC _ ?_ | refine blD ?_ ?_ _ | refine blE ?_ | refine blF _ ?_ | refine blG ?_ _ | refine blH ?_ | refine blI ?_ ?_ _) | (simp only [World.size_alloc]; omega) | (simp <;> omega))) (hull_any _ [(0, 0), (2, 0), (1, 0), (2, 2), (1, 1), (0, 2)] _ (rd_lit _ encPt_len 23 [(0, 0), (2, 0), (1, 0), (2, 2), (1, 1), (0, 2)]))).mono ?_); rintro e w' ⟨z1, ⟨s1, rfl, hs1⟩, hz1, rfl⟩; (rw [hulled_list] at hs1; have HS1 := Lib.hid (Rd.own encPt_len hs1); clear hs1))
    | (go_at_call 31; (with_reducible refine (Kin.callK (W := w) (by repeat (first | with_reducible (first | exact blA | exact blB | refine blC _ ?_ | refine blD ?_ ?_ _ | refine blE ?_ | refine blF _ ?_ | refine blG ?_ _ | refine blH ?_ | refine blI ?_ ?_ _) | (simp only [World.size_alloc]; omega) | (simp <;> omega))) (pts_any _ _ [(0, 0), (2, 0), (2, 2), (0, 2)] [(0, 0), (2, 0), (2, 2), (0, 2)] _ (HS1.out.below (by repeat (first | with_reducible (first | exact blA | exact blB | refine blC _ ?_ | refine blD ?_ ?_ _ | refine blE ?_ | refine blF _ ?_ | refine blG ?_ _ | refine blH ?_ | refine blI ?_ ?_ _) | (simp only [World.size_alloc]; omega) | (simp <;> omega)))) (rd_lit _ encPt_len 23 [(0, 0), (2, 0), (2, 2), (0, 2)]) (by decide))).mono ?_); rintro e w' ⟨z, rfl, hz, rfl⟩)
    | (go_at_call 17; (with_reducible refine (Kin.callK (W := w) (by repeat (first | with_reducible (first | exact blA | exact blB | refine blC _ ?_ | refine blD ?_ ?_ _ | refine blE ?_ | refine blF _ ?_ | refine blG ?_ _ | refine blH ?_ | refine blI ?_ ?_ _) | (simp only [World.size_alloc]; omega) | (simp <;> omega))) (awake_any _)).mono ?_); rintro e w' ⟨z, rfl, hz, rfl⟩))
  go_ret
  exact ⟨rfl, (by repeat (first | with_reducible (first | exact blA | exact blB | refine blC _ ?_ | refine blD ?_ ?_ _ | refine blE ?_ | refine blF _ ?_ | refine blG ?_ _ | refine blH ?_ | refine blI ?_ ?_ _) | (simp only [World.size_alloc]; omega) | (simp <;> omega)))⟩
end Go.Proofs.Ytceamihampfdiaa

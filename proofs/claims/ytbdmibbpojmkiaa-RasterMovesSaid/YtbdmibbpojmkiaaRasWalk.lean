/- What the small functions of the raster layer and of its chapter return. -/
import Derived.Lib.MinMax
import Derived.Test.YtbdmibbpojmkiaaPolKit
namespace Go.Proofs.Ytbdmibbpojmkiaa
set_option linter.unusedSimpArgs false
set_option linter.unusedVariables false
set_option maxRecDepth 100000
open Go.RowKit Runs Reg Ras
attribute [local go_sem] Kin.cell Kin.frozen Kin.lt0 Kin.lt1 Kin.lt2 Kin.lt3 run_mkf
theorem okcI {x : Int} : okC x = true ↔ -4096 ≤ x ∧ x < 4096 := by simp [okC]
theorem half_go {p : Int} (h : 0 ≤ p) : Int.tdiv p 2 = p / 2 := Int.tdiv_eq_ediv_of_nonneg h
theorem rgrid_is {b : Bool} (n : Int) (w : World) (hb : okC n = b) :
    Calls Try.prog 24 #[.int .i64 n] w fun e w' => e = .returned (.bool b) ∧ Below w.heap.size w w' := by
  subst hb
  go_enter Try.func24, Try.ntmps24
  go_wp2
  all_goals
    go_ret
    exact ⟨ret_bool (by simp [okC, *] <;> omega), (by repeat (first | with_reducible (first | exact blA | exact blB | refine blC _ ?_ | refine blD ?_ ?_ _ | refine blE ?_ | refine blF _ ?_ | refine blG ?_ _ | refine blH ?_ | refine blI ?_ ?_ _) | (simp only [World.size_alloc]; omega) | (simp <;> omega)))⟩
theorem ctr_in {n p : Int} (h : -4096 ≤ n ∧ n < 4096) (hp : 32 ≤ p ∧ p ≤ 1024) : -4194304 ≤ n * p ∧ n * p ≤ 4194304 ∧ 16 ≤ p / 2 ∧ p / 2 ≤ 512 := by
  have := mul_bd (x := n) (y := p) (M := 4096) (N := 1024) (by omega) (by omega)
  omega
theorem rcenter_any (n p : Int) (w : World) (h : -4096 ≤ n ∧ n < 4096) (hp : 32 ≤ p ∧ p ≤ 1024) :
    Calls Try.prog 25 #[.int .i64 n, .int .i64 p] w fun e w' => e = .returned (.int .i64 (ctr n p)) ∧ Below w.heap.size w w' := by
  have hc := ctr_in h hp
  have h2 := half_go (p := p) (by omega)
  have e1 : IntKind.i64.wrap (n * p) = n * p := IntWalk.i64_in _ (by omega)
  have e2 : IntKind.i64.wrap (n * p + p / 2) = n * p + p / 2 := IntWalk.i64_in _ (by omega)
  go_enter Try.func25, Try.ntmps25
  go_wp2
  go_ret
  exact ⟨rfl, (by repeat (first | with_reducible (first | exact blA | exact blB | refine blC _ ?_ | refine blD ?_ ?_ _ | refine blE ?_ | refine blF _ ?_ | refine blG ?_ _ | refine blH ?_ | refine blI ?_ ?_ _) | (simp only [World.size_alloc]; omega) | (simp <;> omega)))⟩
theorem blk_new2 (w : World) (o : Obj) (t : TypeId) (cs : Array Value) : Blk ((w.alloc o).alloc (.cells cs t)) (w.heap.size + 1) t cs := by
  have := Blk.new (w.alloc o) t cs
  rwa [World.size_alloc] at this
/-- the center of a cell, or the point 0 -/
def cenOk (x y p : Int) : Bool := okC x && okC y && decide (32 ≤ p ∧ p ≤ 1024)
def cenR (x y p : Int) : P2 := if cenOk x y p then (ctr x p, ctr y p) else (0, 0)
theorem cenOk_iff {x y p : Int} : cenOk x y p = true ↔ (-4096 ≤ x ∧ x < 4096) ∧ (-4096 ≤ y ∧ y < 4096) ∧ 32 ≤ p ∧ p ≤ 1024 := by simp [cenOk, okC, and_assoc]
set_option maxHeartbeats 1000000 in
theorem rasCenter_any (x y p : Int) (w : World) :
    Calls Try.prog 9 #[.agg #[.int .i64 x, .int .i64 y], .int .i64 p] w fun e w' => e = .returned (.agg #[.int .i64 (cenR x y p).1, .int .i64 (cenR x y p).2]) ∧ Below w.heap.size w w' := by
  by_cases hok : cenOk x y p = true
  · have e0 : cenR x y p = (ctr x p, ctr y p) := by unfold cenR; rw [if_pos hok]
    rw [e0]
    clear e0
    obtain ⟨h1, h2, h3⟩ := cenOk_iff.1 hok
    have k1 : okC x = true := okcI.2 h1
    have k2 : okC y = true := okcI.2 h2
    clear hok
    go_enter Try.func9, Try.ntmps9
    go_wp2_with (first
      | (go_at_call 24; (with_reducible refine (Kin.callK (W := ((w.alloc (.cells #[.int .i64 x, .int .i64 y] 23)).alloc (.cells #[.int .i64 0, .int .i64 0] 24))) (by repeat (first | with_reducible (first | exact blA | exact blB | refine blC _ ?_ | refine blD ?_ ?_ _ | refine blE ?_ | refine blF _ ?_ | refine blG ?_ _ | refine blH ?_ | refine blI ?_ ?_ _) | (simp only [World.size_alloc]; omega) | (simp <;> omega))) (rgrid_is _ _ k1)).mono ?_); rintro e w' ⟨z, rfl, hz, rfl⟩)
      | (go_at_call 24; (with_reducible refine (Kin.callK (W := ((w.alloc (.cells #[.int .i64 x, .int .i64 y] 23)).alloc (.cells #[.int .i64 0, .int .i64 0] 24))) (by repeat (first | with_reducible (first | exact blA | exact blB | refine blC _ ?_ | refine blD ?_ ?_ _ | refine blE ?_ | refine blF _ ?_ | refine blG ?_ _ | refine blH ?_ | refine blI ?_ ?_ _) | (simp only [World.size_alloc]; omega) | (simp <;> omega))) (rgrid_is _ _ k2)).mono ?_); rintro e w' ⟨z, rfl, hz, rfl⟩)
      | (go_at_call 25; (with_reducible refine (Kin.callK (W := ((w.alloc (.cells #[.int .i64 x, .int .i64 y] 23)).alloc (.cells #[.int .i64 0, .int .i64 0] 24))) (by repeat (first | with_reducible (first | exact blA | exact blB | refine blC _ ?_ | refine blD ?_ ?_ _ | refine blE ?_ | refine blF _ ?_ | refine blG ?_ _ | refine blH ?_ | refine blI ?_ ?_ _) | (simp only [World.size_alloc]; omega) | (simp <;> omega))) (rcenter_any x p _ h1 h3)).mono ?_); rintro e w' ⟨z, rfl, hz, rfl⟩)
      | (go_at_call 25; (with_reducible refine (Kin.callK (W := ((w.alloc (.cells #[.int .i64 x, .int .i64 y] 23)).alloc (.cells #[.int .i64 0, .int .i64 0] 24))) (by repeat (first | with_reducible (first | exact blA | exact blB | refine blC _ ?_ | refine blD ?_ ?_ _ | refine blE ?_ | refine blF _ ?_ | refine blG ?_ _ | refine blH ?_ | refine blI ?_ ?_ _) | (simp only [World.size_alloc]; omega) | (simp <;> omega))) (rcenter_any y p _ h2 h3)).mono ?_); rintro e w' ⟨z, rfl, hz, rfl⟩))
    have hA := Lib.hid z.boxes2.1
    have a0 : z.1.cell? ⟨w.heap.size, 0, none⟩ = some (.int .i64 x) := hA.out.cell 0
    have a1 : z.1.cell? ⟨w.heap.size, 1, none⟩ = some (.int .i64 y) := hA.out.cell 1
    have al := hA.out.lt
    ((refine wp_region_tailK (W := ((w.alloc (.cells #[.int .i64 x, .int .i64 y] 23)).alloc (.cells #[.int .i64 0, .int .i64 0] 24))) 9 (by kernel_rfl) (by kernel_rfl) (by repeat (first | with_reducible (first | exact blA | exact blB | refine blC _ ?_ | refine blD ?_ ?_ _ | refine blE ?_ | refine blF _ ?_ | refine blG ?_ _ | refine blH ?_ | refine blI ?_ ?_ _) | (simp only [World.size_alloc]; omega) | (simp <;> omega))) ?_); simp only [List.take_succ_cons, List.take_zero, List.drop_succ_cons, List.drop_zero]; (repeat' (first | go_big_quiet_step ((go_at_call 25; exact Kin.quiet _ (rcenter_any _ p _ (by assumption) h3))) | ((refine wpQuiet_guard rfl rfl rfl rfl (fun hg => ?_) (fun hg => ?_)) <;> (fail_if_success (first | guard_hyp hg : true = true | guard_hyp hg : false = false)) <;> (try simp only [decide_eq_true_eq, decide_eq_false_iff_not] at hg) <;> simp only [Act.put, List.setIfInBounds_toArray, List.set_cons_zero, List.set_cons_succ]))); all_goals ((with_reducible refine wpQuiet_nil ?_); intro zq hz))
    all_goals
      have hB := Lib.hid zq.boxes2.2
      have q0 : zq.1.cell? ⟨w.heap.size + 1, 0, none⟩ = some (.int .i64 0) := hB.out.cell 0
      have q1 : zq.1.cell? ⟨w.heap.size + 1, 1, none⟩ = some (.int .i64 0) := hB.out.cell 1
      have f0 : zq.1.frozen? ⟨w.heap.size + 1, 0, none⟩ = false := hB.out.frozen 0
      have f1 : zq.1.frozen? ⟨w.heap.size + 1, 1, none⟩ = false := hB.out.frozen 1
      have ql := hB.out.lt
      go_wp2
      ((try simp only [Exit.inBlock, Exit.then]); refine bodyPost_ret (results_cell_row rfl _ _ _ _ _ (0, 0) _ rfl ((hB.out.set_ 0 _).set_ 1 _) Try.underlying24 rfl (by kernel_rfl)) rfl ?_)
      exact ⟨rfl, (by repeat (first | with_reducible (first | exact blA | exact blB | refine blC _ ?_ | refine blD ?_ ?_ _ | refine blE ?_ | refine blF _ ?_ | refine blG ?_ _ | refine blH ?_ | refine blI ?_ ?_ _) | (simp only [World.size_alloc]; omega) | (simp <;> omega)))⟩
  · have e0 : cenR x y p = (0, 0) := by unfold cenR; rw [if_neg hok]
    rw [e0]
    clear e0
    have hc : okC x = false ∨ (okC x = true ∧ okC y = false) ∨ (okC x = true ∧ okC y = true ∧ p < 32) ∨ (okC x = true ∧ okC y = true ∧ ¬ p < 32 ∧ 1024 < p) := by
      unfold cenOk at hok
      cases hx : okC x <;> cases hy : okC y <;> simp_all
      omega
    clear hok
    rcases hc with k1 | ⟨k1, k2⟩ | ⟨k1, k2, k3⟩ | ⟨k1, k2, k3, k4⟩
    all_goals
      go_enter Try.func9, Try.ntmps9
      go_wp2_with (first
        | (go_at_call 24; (with_reducible refine (Kin.callK (W := ((w.alloc (.cells #[.int .i64 x, .int .i64 y] 23)).alloc (.cells #[.int .i64 0, .int .i64 0] 24))) (by repeat (first | with_reducible (first | exact blA | exact blB | refine blC _ ?_ | refine blD ?_ ?_ _ | refine blE ?_ | refine blF _ ?_ | refine blG ?_ _ | refine blH ?_ | refine blI ?_ ?_ _) | (simp only [World.size_alloc]; omega) | (simp <;> omega))) (rgrid_is _ _ k1)).mono ?_); rintro e w' ⟨z, rfl, hz, rfl⟩)
        | (go_at_call 24; (with_reducible refine (Kin.callK (W := ((w.alloc (.cells #[.int .i64 x, .int .i64 y] 23)).alloc (.cells #[.int .i64 0, .int .i64 0] 24))) (by repeat (first | with_reducible (first | exact blA | exact blB | refine blC _ ?_ | refine blD ?_ ?_ _ | refine blE ?_ | refine blF _ ?_ | refine blG ?_ _ | refine blH ?_ | refine blI ?_ ?_ _) | (simp only [World.size_alloc]; omega) | (simp <;> omega))) (rgrid_is _ _ k2)).mono ?_); rintro e w' ⟨z, rfl, hz, rfl⟩))
      have hB := Lib.hid z.boxes2.2
      ((try simp only [Exit.inBlock, Exit.then]); refine bodyPost_ret (results_cell_row rfl _ _ _ _ _ (0, 0) _ rfl ((hB.out.set_ 0 _).set_ 1 _) Try.underlying24 rfl (by kernel_rfl)) rfl ?_)
      exact ⟨rfl, (by repeat (first | with_reducible (first | exact blA | exact blB | refine blC _ ?_ | refine blD ?_ ?_ _ | refine blE ?_ | refine blF _ ?_ | refine blG ?_ _ | refine blH ?_ | refine blI ?_ ?_ _) | (simp only [World.size_alloc]; omega) | (simp <;> omega)))⟩
set_option maxHeartbeats 1000000 in
theorem refCenter_any (x y p : Int) (w : World) :
    Calls Try.prog 10 #[.agg #[.int .i64 x, .int .i64 y], .int .i64 p] w fun e w' => e = .returned (.agg #[.int .i64 (cenR x y p).1, .int .i64 (cenR x y p).2]) ∧ Below w.heap.size w w' := by
  by_cases hok : cenOk x y p = true
  · have e0 : cenR x y p = (ctr x p, ctr y p) := by unfold cenR; rw [if_pos hok]
    rw [e0]
    clear e0
    obtain ⟨h1, h2, h3⟩ := cenOk_iff.1 hok
    clear hok
    have hx := ctr_in h1 h3
    have hy := ctr_in h2 h3
    have hh := half_go (p := p) (by omega)
    have e1 : IntKind.i64.wrap (x * p) = x * p := IntWalk.i64_in _ (by omega)
    have e2 : IntKind.i64.wrap (x * p + p / 2) = x * p + p / 2 := IntWalk.i64_in _ (by omega)
    have e3 : IntKind.i64.wrap (y * p) = y * p := IntWalk.i64_in _ (by omega)
    have e4 : IntKind.i64.wrap (y * p + p / 2) = y * p + p / 2 := IntWalk.i64_in _ (by omega)
    go_enter Try.func10, Try.ntmps10
    go_wp2
    ((try simp only [Exit.inBlock, Exit.then]); refine bodyPost_ret (results_cell_row rfl _ _ _ _ _ (0, 0) _ rfl (blk_new2 _ _ _ _) Try.underlying24 rfl (by kernel_rfl)) rfl ?_)
    exact ⟨rfl, (by repeat (first | with_reducible (first | exact blA | exact blB | refine blC _ ?_ | refine blD ?_ ?_ _ | refine blE ?_ | refine blF _ ?_ | refine blG ?_ _ | refine blH ?_ | refine blI ?_ ?_ _) | (simp only [World.size_alloc]; omega) | (simp <;> omega)))⟩
  · have e0 : cenR x y p = (0, 0) := by unfold cenR; rw [if_neg hok]
    rw [e0]
    clear e0
    have hc : x < -4096 ∨ (¬ x < -4096 ∧ 4096 ≤ x) ∨ (¬ x < -4096 ∧ ¬ 4096 ≤ x ∧ y < -4096) ∨ (¬ x < -4096 ∧ ¬ 4096 ≤ x ∧ ¬ y < -4096 ∧ 4096 ≤ y) ∨ (¬ x < -4096 ∧ ¬ 4096 ≤ x ∧ ¬ y < -4096 ∧ ¬ 4096 ≤ y ∧ p < 32) ∨ (¬ x < -4096 ∧ ¬ 4096 ≤ x ∧ ¬ y < -4096 ∧ ¬ 4096 ≤ y ∧ ¬ p < 32 ∧ 1024 < p) := by
      rw [cenOk_iff] at hok
      omega
    clear hok
    rcases hc with k1 | ⟨k1, k2⟩ | ⟨k1, k2, k3⟩ | ⟨k1, k2, k3, k4⟩ | ⟨k1, k2, k3, k4, k5⟩ | ⟨k1, k2, k3, k4, k5, k6⟩
    all_goals
      go_enter Try.func10, Try.ntmps10
      go_wp2
      ((try simp only [Exit.inBlock, Exit.then]); refine bodyPost_ret (results_cell_row rfl _ _ _ _ _ (0, 0) _ rfl (blk_new2 _ _ _ _) Try.underlying24 rfl (by kernel_rfl)) rfl ?_)
      exact ⟨rfl, (by repeat (first | with_reducible (first | exact blA | exact blB | refine blC _ ?_ | refine blD ?_ ?_ _ | refine blE ?_ | refine blF _ ?_ | refine blG ?_ _ | refine blH ?_ | refine blI ?_ ?_ _) | (simp only [World.size_alloc]; omega) | (simp <;> omega)))⟩
/-- floor -/
theorem floor_any (a b : Int) (w : World) (hb : 0 < b ∧ b ≤ 4611686018427387904) (ha : -4611686018427387904 ≤ a ∧ a ≤ 4611686018427387904) :
    Calls Try.prog 45 #[.int .i64 a, .int .i64 b] w fun e w' => e = .returned (.tuple #[.int .i64 (a / b), .int .i64 0]) ∧ Below w.heap.size w w' := by
  have hf := floor_go (a := a) hb.1
  have b0 : ¬ b = 0 := by omega
  have b1 : ¬ b < 0 := by omega
  have a0 : ¬ a = -9223372036854775808 := by omega
  have hq : -4611686018427387904 ≤ a.tdiv b ∧ a.tdiv b ≤ 4611686018427387904 := by
    by_cases h : 0 ≤ a
    · have h1 := Int.tdiv_nonneg h (by omega : 0 ≤ b)
      have h2 := Int.tdiv_le_self (a := a) b h
      omega
    · have h1 := Int.tdiv_nonneg (show 0 ≤ -a by omega) (by omega : 0 ≤ b)
      have h2 := Int.tdiv_le_self (a := -a) b (by omega)
      rw [Int.neg_tdiv] at h1 h2
      omega
  have hr : -4611686018427387904 ≤ a.tmod b ∧ a.tmod b ≤ 4611686018427387904 := by
    by_cases h : 0 ≤ a
    · have h1 := Int.tmod_nonneg b h
      have h2 := Int.tmod_lt_of_pos a (by omega : 0 < b)
      omega
    · have h1 := Int.tmod_nonneg b (show 0 ≤ -a by omega)
      have h2 := Int.tmod_lt_of_pos (-a) (by omega : 0 < b)
      rw [Int.neg_tmod] at h1 h2
      omega
  generalize hQ : a.tdiv b = Q at *
  generalize hR : a.tmod b = R at *
  have e1 : IntKind.i64.wrap Q = Q := IntWalk.i64_in _ (by omega)
  have e2 : IntKind.i64.wrap R = R := IntWalk.i64_in _ (by omega)
  have e3 : IntKind.i64.wrap (Q - 1) = Q - 1 := IntWalk.i64_in _ (by omega)
  rw [← hf]
  by_cases hc : R = 0
  · have hcc : (R != 0) = false := by simpa using hc
    rw [if_neg (by omega)]
    go_enter Try.func45, Try.ntmps45
    go_wp2
    go_ret2
    exact ⟨rfl, (by repeat (first | with_reducible (first | exact blA | exact blB | refine blC _ ?_ | refine blD ?_ ?_ _ | refine blE ?_ | refine blF _ ?_ | refine blG ?_ _ | refine blH ?_ | refine blI ?_ ?_ _) | (simp only [World.size_alloc]; omega) | (simp <;> omega)))⟩
  · have hcc : (R != 0) = true := by simpa using hc
    by_cases hs : a < 0
    · rw [if_pos ⟨hc, hs⟩]
      go_enter Try.func45, Try.ntmps45
      go_wp2
      go_ret2
      exact ⟨rfl, (by repeat (first | with_reducible (first | exact blA | exact blB | refine blC _ ?_ | refine blD ?_ ?_ _ | refine blE ?_ | refine blF _ ?_ | refine blG ?_ _ | refine blH ?_ | refine blI ?_ ?_ _) | (simp only [World.size_alloc]; omega) | (simp <;> omega)))⟩
    · rw [if_neg (by omega)]
      go_enter Try.func45, Try.ntmps45
      go_wp2
      go_ret2
      exact ⟨rfl, (by repeat (first | with_reducible (first | exact blA | exact blB | refine blC _ ?_ | refine blD ?_ ?_ _ | refine blE ?_ | refine blF _ ?_ | refine blG ?_ _ | refine blH ?_ | refine blI ?_ ?_ _) | (simp only [World.size_alloc]; omega) | (simp <;> omega)))⟩
end Go.Proofs.Ytbdmibbpojmkiaa

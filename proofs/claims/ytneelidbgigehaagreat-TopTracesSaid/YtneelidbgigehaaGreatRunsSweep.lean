/- What the sweep over the bounds of two lists returns. -/
import Derived.Lib.MinMax
import Derived.Test.YtneelidbgigehaaGreatPlain
import Derived.Test.YtneelidbgigehaaGreatRunsRef3
import Derived.Test.YtneelidbgigehaaGreatBase
namespace Go.Proofs.YtneelidbgigehaaGreat
set_option linter.unusedSimpArgs false
set_option linter.unusedVariables false
open Go.RowKit Runs
attribute [local go_sem] Kin.cell Kin.frozen Kin.lt0 Kin.lt1 Kin.lt2 Kin.lt3 run_mkf
/-- the cells of a 'bounds' -/
abbrev bcs (A : Option Addr) (n cap i : Nat) : Array Value := #[.slice A n cap, .int .i64 i]
set_option maxHeartbeats 4000000 in
theorem over_any (p : Nat) (A : Option Addr) (n cap i : Nat) (w : World) (h : Blk w p 175 (bcs A n cap i)) (hn : n ≤ 1099511627776) (hi : i ≤ 2 * n) :
    Calls Tryz.prog 120 #[.pointer (some ⟨p, 0, none⟩)] w fun e w' => e = .returned (.bool (decide (i = 2 * n))) ∧ Below w.heap.size w w' := by
  have hp := h.lt
  have c0 : w.cell? ⟨p, 0, none⟩ = some (.slice A n cap) := h.cell 0
  have c1 : w.cell? ⟨p, 1, none⟩ = some (.int .i64 i) := h.cell 1
  have hw : IntKind.i64.wrap (2 * (n : Int)) = 2 * (n : Int) := IntWalk.i64_in _ (by omega)
  clear h
  go_enter Tryz.func120, Tryz.ntmps120
  go_wp2
  ((refine wp_region_kinK (W := w) (by kernel_rfl) (by kernel_rfl) (by repeat (first | with_reducible (first | exact blA | exact blB | refine blC _ ?_ | refine blD ?_ ?_ _ | refine blE ?_ | refine blF _ ?_ | refine blG ?_ _ | refine blH ?_ | refine blI ?_ ?_ _) | (simp only [World.size_alloc]; omega) | (simp <;> omega))) ?_); (repeat' (first | go_big_quiet_step (fail) | ((refine wpQuiet_guard rfl rfl rfl rfl (fun hg => ?_) (fun hg => ?_)) <;> (fail_if_success (first | guard_hyp hg : true = true | guard_hyp hg : false = false)) <;> (try simp only [decide_eq_true_eq, decide_eq_false_iff_not] at hg) <;> simp only [Act.put, List.setIfInBounds_toArray, List.set_cons_zero, List.set_cons_succ]))); all_goals ((with_reducible refine wpQuiet_nil ?_); intro zq hz))
  go_wp2
  go_ret
  exact ⟨ret_bool (by rw [Bool.eq_iff_iff]; simp; omega), (by repeat (first | with_reducible (first | exact blA | exact blB | refine blC _ ?_ | refine blD ?_ ?_ _ | refine blE ?_ | refine blF _ ?_ | refine blG ?_ _ | refine blH ?_ | refine blI ?_ ?_ _) | (simp only [World.size_alloc]; omega) | (simp <;> omega)))⟩
set_option maxHeartbeats 4000000 in
theorem inside_any (p : Nat) (A : Option Addr) (n cap i : Nat) (w : World) (h : Blk w p 175 (bcs A n cap i)) (hn : n ≤ 1099511627776) (hi : i ≤ 2 * n) :
    Calls Tryz.prog 123 #[.pointer (some ⟨p, 0, none⟩)] w fun e w' => e = .returned (.bool (odd i)) ∧ Below w.heap.size w w' := by
  have hp := h.lt
  have c0 : w.cell? ⟨p, 0, none⟩ = some (.slice A n cap) := h.cell 0
  have c1 : w.cell? ⟨p, 1, none⟩ = some (.int .i64 i) := h.cell 1
  clear h
  go_enter Tryz.func123, Tryz.ntmps123
  go_wp2
  go_ret
  exact ⟨ret_bool (by rw [Bool.eq_iff_iff]; simp [odd]; omega), (by repeat (first | with_reducible (first | exact blA | exact blB | refine blC _ ?_ | refine blD ?_ ?_ _ | refine blE ?_ | refine blF _ ?_ | refine blG ?_ _ | refine blH ?_ | refine blI ?_ ?_ _) | (simp only [World.size_alloc]; omega) | (simp <;> omega)))⟩
set_option maxHeartbeats 4000000 in
theorem next_any (p : Nat) (A : Option Addr) (cap i : Nat) (l : List Run) (w : World) (h : Blk w p 175 (bcs A l.length cap i)) (hr : Rd 2 encRun w (.slice A l.length cap) l) (hn : l.length ≤ 1099511627776) (hi : i ≤ 2 * l.length) :
    Calls Tryz.prog 121 #[.pointer (some ⟨p, 0, none⟩)] w fun e w' => e = .returned (.int .i64 (nextB l i)) ∧ Below w.heap.size w w' := by
  have hp := h.lt
  have HB := Lib.hid h
  have c0 : w.cell? ⟨p, 0, none⟩ = some (.slice A l.length cap) := h.cell 0
  have c1 : w.cell? ⟨p, 1, none⟩ = some (.int .i64 i) := h.cell 1
  clear h
  by_cases hov : i = 2 * l.length
  · have hd : decide (i = 2 * l.length) = true := by simp [hov]
    have hx : nextB l i = 1048577 := by unfold nextB; rw [if_pos hov]
    clear hov
    go_enter Tryz.func121, Tryz.ntmps121
    go_wp2_with (go_at_call 120; (with_reducible refine (Kin.callK (W := w) (by repeat (first | with_reducible (first | exact blA | exact blB | refine blC _ ?_ | refine blD ?_ ?_ _ | refine blE ?_ | refine blF _ ?_ | refine blG ?_ _ | refine blH ?_ | refine blI ?_ ?_ _) | (simp only [World.size_alloc]; omega) | (simp <;> omega))) (over_any p A l.length cap i _ (HB.out.below (by repeat (first | with_reducible (first | exact blA | exact blB | refine blC _ ?_ | refine blD ?_ ?_ _ | refine blE ?_ | refine blF _ ?_ | refine blG ?_ _ | refine blH ?_ | refine blI ?_ ?_ _) | (simp only [World.size_alloc]; omega) | (simp <;> omega)))) hn hi)).mono ?_); rintro e w' ⟨z, rfl, hz, rfl⟩)
    go_ret
    exact ⟨ret_int hx.symm, (by repeat (first | with_reducible (first | exact blA | exact blB | refine blC _ ?_ | refine blD ?_ ?_ _ | refine blE ?_ | refine blF _ ?_ | refine blG ?_ _ | refine blH ?_ | refine blI ?_ ?_ _) | (simp only [World.size_alloc]; omega) | (simp <;> omega)))⟩
  · have hd : decide (i = 2 * l.length) = false := by simp [hov]
    have hlt : i / 2 < l.length := by omega
    have hx : nextB l i = bdAt l i := by unfold nextB; rw [if_neg hov]
    clear hov
    obtain ⟨m, hm⟩ : ∃ m, m = i / 2 := ⟨_, rfl⟩
    have hm2 : ((i : Int) / 2).toNat = m := by omega
    have hm3 : (i : Int) / 2 < (l.length : Int) := by omega
    have hm4 : 0 ≤ (i : Int) / 2 := by omega
    rw [← hm] at hlt
    have HA := Lib.hid (Rd.op hr)
    have HLA := Lib.hid hr
    clear hr
    obtain ⟨r, hr⟩ : ∃ el_, (l)[m]? = some el_ := ⟨_, List.getElem?_eq_getElem (by first | exact hlt | omega)⟩
    obtain ⟨bA, offA, rfl, hbA, hcA⟩ := HA.out (m) _ hr
    have r_0 : w.cell? ⟨bA, offA + m * 2, none⟩ = some (.int .i64 r.1) := by exact hcA (m) _ hr 0 _ rfl
    have r_1 : w.cell? ⟨bA, offA + m * 2 + 1, none⟩ = some (.int .i64 r.2) := by exact hcA (m) _ hr 1 _ rfl
    have hbA2 : bA < w.heap.size + 1 := by omega
    have HAc := Lib.hid hcA
    have Hr := Lib.hid hr
    clear hr hcA
    have Hx := Lib.hid hx
    have Hm := Lib.hid hm
    clear hx hm
    cases ho : odd i
    · have hx2 := Lib.hid (show bdAt l i = r.1 by
        unfold odd at ho; unfold bdAt
        rw [if_neg (by simpa using ho), ← Hm.out, Hr.out]; rfl)
      go_enter Tryz.func121, Tryz.ntmps121
      go_wp2_with (first | (go_at_call 120; (with_reducible refine (Kin.callK (W := w) (by repeat (first | with_reducible (first | exact blA | exact blB | refine blC _ ?_ | refine blD ?_ ?_ _ | refine blE ?_ | refine blF _ ?_ | refine blG ?_ _ | refine blH ?_ | refine blI ?_ ?_ _) | (simp only [World.size_alloc]; omega) | (simp <;> omega))) (over_any p _ l.length cap i _ (HB.out.below (by repeat (first | with_reducible (first | exact blA | exact blB | refine blC _ ?_ | refine blD ?_ ?_ _ | refine blE ?_ | refine blF _ ?_ | refine blG ?_ _ | refine blH ?_ | refine blI ?_ ?_ _) | (simp only [World.size_alloc]; omega) | (simp <;> omega)))) hn hi)).mono ?_); rintro e w' ⟨z, rfl, hz, rfl⟩) | (go_at_call 123; (with_reducible refine (Kin.callK (W := w) (by repeat (first | with_reducible (first | exact blA | exact blB | refine blC _ ?_ | refine blD ?_ ?_ _ | refine blE ?_ | refine blF _ ?_ | refine blG ?_ _ | refine blH ?_ | refine blI ?_ ?_ _) | (simp only [World.size_alloc]; omega) | (simp <;> omega))) (inside_any p _ l.length cap i _ (HB.out.below (by repeat (first | with_reducible (first | exact blA | exact blB | refine blC _ ?_ | refine blD ?_ ?_ _ | refine blE ?_ | refine blF _ ?_ | refine blG ?_ _ | refine blH ?_ | refine blI ?_ ?_ _) | (simp only [World.size_alloc]; omega) | (simp <;> omega)))) hn hi)).mono ?_); rintro e w' ⟨z, rfl, hz, rfl⟩))
      ((refine wp_region_kinK (W := w) (by kernel_rfl) (by kernel_rfl) (by repeat (first | with_reducible (first | exact blA | exact blB | refine blC _ ?_ | refine blD ?_ ?_ _ | refine blE ?_ | refine blF _ ?_ | refine blG ?_ _ | refine blH ?_ | refine blI ?_ ?_ _) | (simp only [World.size_alloc]; omega) | (simp <;> omega))) ?_); (repeat' (first | go_big_quiet_step (fail) | ((refine wpQuiet_guard rfl rfl rfl rfl (fun hg => ?_) (fun hg => ?_)) <;> (fail_if_success (first | guard_hyp hg : true = true | guard_hyp hg : false = false)) <;> (try simp only [decide_eq_true_eq, decide_eq_false_iff_not] at hg) <;> simp only [Act.put, List.setIfInBounds_toArray, List.set_cons_zero, List.set_cons_succ]))); all_goals ((with_reducible refine wpQuiet_nil ?_); intro zq hz))
      go_wp2
      go_ret
      exact ⟨ret_int (by rw [Hx.out, hx2.out]), (by repeat (first | with_reducible (first | exact blA | exact blB | refine blC _ ?_ | refine blD ?_ ?_ _ | refine blE ?_ | refine blF _ ?_ | refine blG ?_ _ | refine blH ?_ | refine blI ?_ ?_ _) | (simp only [World.size_alloc]; omega) | (simp <;> omega)))⟩
    · have hx2 := Lib.hid (show bdAt l i = r.2 by
        unfold odd at ho; unfold bdAt
        rw [if_pos (by simpa using ho), ← Hm.out, Hr.out]; rfl)
      go_enter Tryz.func121, Tryz.ntmps121
      go_wp2_with (first | (go_at_call 120; (with_reducible refine (Kin.callK (W := w) (by repeat (first | with_reducible (first | exact blA | exact blB | refine blC _ ?_ | refine blD ?_ ?_ _ | refine blE ?_ | refine blF _ ?_ | refine blG ?_ _ | refine blH ?_ | refine blI ?_ ?_ _) | (simp only [World.size_alloc]; omega) | (simp <;> omega))) (over_any p _ l.length cap i _ (HB.out.below (by repeat (first | with_reducible (first | exact blA | exact blB | refine blC _ ?_ | refine blD ?_ ?_ _ | refine blE ?_ | refine blF _ ?_ | refine blG ?_ _ | refine blH ?_ | refine blI ?_ ?_ _) | (simp only [World.size_alloc]; omega) | (simp <;> omega)))) hn hi)).mono ?_); rintro e w' ⟨z, rfl, hz, rfl⟩) | (go_at_call 123; (with_reducible refine (Kin.callK (W := w) (by repeat (first | with_reducible (first | exact blA | exact blB | refine blC _ ?_ | refine blD ?_ ?_ _ | refine blE ?_ | refine blF _ ?_ | refine blG ?_ _ | refine blH ?_ | refine blI ?_ ?_ _) | (simp only [World.size_alloc]; omega) | (simp <;> omega))) (inside_any p _ l.length cap i _ (HB.out.below (by repeat (first | with_reducible (first | exact blA | exact blB | refine blC _ ?_ | refine blD ?_ ?_ _ | refine blE ?_ | refine blF _ ?_ | refine blG ?_ _ | refine blH ?_ | refine blI ?_ ?_ _) | (simp only [World.size_alloc]; omega) | (simp <;> omega)))) hn hi)).mono ?_); rintro e w' ⟨z, rfl, hz, rfl⟩))
      ((refine wp_region_kinK (W := w) (by kernel_rfl) (by kernel_rfl) (by repeat (first | with_reducible (first | exact blA | exact blB | refine blC _ ?_ | refine blD ?_ ?_ _ | refine blE ?_ | refine blF _ ?_ | refine blG ?_ _ | refine blH ?_ | refine blI ?_ ?_ _) | (simp only [World.size_alloc]; omega) | (simp <;> omega))) ?_); (repeat' (first | go_big_quiet_step (fail) | ((refine wpQuiet_guard rfl rfl rfl rfl (fun hg => ?_) (fun hg => ?_)) <;> (fail_if_success (first | guard_hyp hg : true = true | guard_hyp hg : false = false)) <;> (try simp only [decide_eq_true_eq, decide_eq_false_iff_not] at hg) <;> simp only [Act.put, List.setIfInBounds_toArray, List.set_cons_zero, List.set_cons_succ]))); all_goals ((with_reducible refine wpQuiet_nil ?_); intro zq hz))
      go_wp2
      go_ret
      exact ⟨ret_int (by rw [Hx.out, hx2.out]), (by repeat (first | with_reducible (first | exact blA | exact blB | refine blC _ ?_ | refine blD ?_ ?_ _ | refine blE ?_ | refine blF _ ?_ | refine blG ?_ _ | refine blH ?_ | refine blI ?_ ?_ _) | (simp only [World.size_alloc]; omega) | (simp <;> omega)))⟩
set_option maxHeartbeats 4000000 in
theorem pass_any (p : Nat) (A : Option Addr) (cap i : Nat) (l : List Run) (x : Int) (w : World) (h : Blk w p 175 (bcs A l.length cap i)) (hr : Rd 2 encRun w (.slice A l.length cap) l) (hn : l.length ≤ 1099511627776) (hi : i ≤ 2 * l.length) :
    Calls Tryz.prog 122 #[.pointer (some ⟨p, 0, none⟩), .int .i64 x] w fun e w' => e = .returned (.tuple #[]) ∧ Blk w' p 175 (bcs A l.length cap (passB l i x)) ∧ w.grownBy w' (some p) := by
  have hp := h.lt
  have HB := Lib.hid h
  have HR := Lib.hid hr
  have c0 : w.cell? ⟨p, 0, none⟩ = some (.slice A l.length cap) := h.cell 0
  have c1 : w.cell? ⟨p, 1, none⟩ = some (.int .i64 i) := h.cell 1
  have f1 : w.frozen? ⟨p, 1, none⟩ = false := h.frozen 1
  clear h hr
  by_cases hx : nextB l i = x
  · have hx2 : (nextB l i == x) = true := by simp [hx]
    have Hp := Lib.hid (show passB l i x = i + 1 by unfold passB; rw [if_pos hx])
    clear hx
    go_enter Tryz.func122, Tryz.ntmps122
    go_wp2_with (go_at_call 121; (with_reducible refine (Kin.callK (W := w) (by repeat (first | with_reducible (first | exact blA | exact blB | refine blC _ ?_ | refine blD ?_ ?_ _ | refine blE ?_ | refine blF _ ?_ | refine blG ?_ _ | refine blH ?_ | refine blI ?_ ?_ _) | (simp only [World.size_alloc]; omega) | (simp <;> omega))) (next_any p A cap i l _ (HB.out.below (by repeat (first | with_reducible (first | exact blA | exact blB | refine blC _ ?_ | refine blD ?_ ?_ _ | refine blE ?_ | refine blF _ ?_ | refine blG ?_ _ | refine blH ?_ | refine blI ?_ ?_ _) | (simp only [World.size_alloc]; omega) | (simp <;> omega)))) (HR.out.below (by repeat (first | with_reducible (first | exact blA | exact blB | refine blC _ ?_ | refine blD ?_ ?_ _ | refine blE ?_ | refine blF _ ?_ | refine blG ?_ _ | refine blH ?_ | refine blI ?_ ?_ _) | (simp only [World.size_alloc]; omega) | (simp <;> omega)))) hn hi)).mono ?_); rintro e w' ⟨z, rfl, hz, rfl⟩)
    go_end0
    refine ⟨rfl, ?_, grownBy_trans (below_grownBy hz) (grownBy_set _)⟩
    rw [Hp.out]
    have := (HB.out.below hz).set_ 1 (.int .i64 ((i : Int) + 1))
    simpa [bcs] using this
  · have hx2 : (nextB l i == x) = false := by simp [hx]
    have Hp := Lib.hid (show passB l i x = i by unfold passB; rw [if_neg hx])
    clear hx
    go_enter Tryz.func122, Tryz.ntmps122
    go_wp2_with (go_at_call 121; (with_reducible refine (Kin.callK (W := w) (by repeat (first | with_reducible (first | exact blA | exact blB | refine blC _ ?_ | refine blD ?_ ?_ _ | refine blE ?_ | refine blF _ ?_ | refine blG ?_ _ | refine blH ?_ | refine blI ?_ ?_ _) | (simp only [World.size_alloc]; omega) | (simp <;> omega))) (next_any p A cap i l _ (HB.out.below (by repeat (first | with_reducible (first | exact blA | exact blB | refine blC _ ?_ | refine blD ?_ ?_ _ | refine blE ?_ | refine blF _ ?_ | refine blG ?_ _ | refine blH ?_ | refine blI ?_ ?_ _) | (simp only [World.size_alloc]; omega) | (simp <;> omega)))) (HR.out.below (by repeat (first | with_reducible (first | exact blA | exact blB | refine blC _ ?_ | refine blD ?_ ?_ _ | refine blE ?_ | refine blF _ ?_ | refine blG ?_ _ | refine blH ?_ | refine blI ?_ ?_ _) | (simp only [World.size_alloc]; omega) | (simp <;> omega)))) hn hi)).mono ?_); rintro e w' ⟨z, rfl, hz, rfl⟩)
    go_end0
    exact ⟨rfl, by rw [Hp.out]; exact HB.out.below hz, below_grownBy hz⟩
/-- the place of a sweep in one list, as the memory has it -/
def mz (p : Nat) (w : World) : Nat := match w.cell? ⟨p, 1, none⟩ with | some v => (intOf v).toNat | none => 0
theorem mz_of {p n cap i : Nat} {A : Option Addr} {w : World} {t : TypeId} (h : Blk w p t (bcs A n cap i)) : mz p w = i := by
  have : w.cell? ⟨p, 1, none⟩ = some (.int .i64 i) := h.cell 1
  unfold mz; rw [this]; simp [intOf]
theorem setTo_cells (E : List Run) (q : Run) (x : Int) : ((E ++ [q]).flatMap encRun).set (E.length * 2 + 1) (.int .i64 x) = (setTo (E ++ [q]) x).flatMap encRun := by rw [setTo_last, set_last]
end Go.Proofs.YtneelidbgigehaaGreat

/- count of the laws, walked. -/
import Derived.Test.YteadnlodccnfcaaCtrSome
namespace Go.Proofs.Yteadnlodccnfcaa
set_option linter.unusedSimpArgs false
set_option linter.unusedVariables false
set_option maxRecDepth 100000
open Go.RowKit Planar Go.Sort
attribute [local go_sem] Kin.cell Kin.frozen Kin.lt0 Kin.lt1 Kin.lt2 Kin.lt3 run_mkf
def eqSg (a b : Sg) : Bool := eqP a.1 b.1 && eqP a.2 b.2
theorem eqSg_iff {a b : Sg} : eqSg a b = true ↔ a = b := by
  unfold eqSg; rw [Bool.and_eq_true, eqP_iff, eqP_iff]
  exact ⟨fun ⟨h1, h2⟩ => Prod.ext h1 h2, fun e => by subst e; exact ⟨rfl, rfl⟩⟩
theorem eqSg_run {a b : Sg} {r : Bool} (h : eqSg a b = r) (w : World) : (binOp .eql 38 (.agg #[.int .i64 a.1.1, .int .i64 a.1.2, .int .i64 a.2.1, .int .i64 a.2.2]) (.agg #[.int .i64 b.1.1, .int .i64 b.1.2, .int .i64 b.2.1, .int .i64 b.2.2])).run Try.prog w = .ok (.bool r) w := by
  subst h
  by_cases h1 : a.1.1 = b.1.1 <;> by_cases h2 : a.1.2 = b.1.2 <;> by_cases h3 : a.2.1 = b.2.1 <;> by_cases h4 : a.2.2 = b.2.2 <;> simp [go_sem, eqSg, eqP, h1, h2, h3, h4]
def cntS (l : List Sg) (s : Sg) : Nat := l.countP fun t => eqSg t s
theorem cntS_take {l : List Sg} {k : Nat} {t s : Sg} {b : Bool} (h : l[k]? = some t) (hc : eqSg t s = b) : cntS (l.take (k + 1)) s = cntS (l.take k) s + (if b then 1 else 0) := by
  unfold cntS
  rw [List.take_add_one, h, List.countP_append]
  subst hc
  simp
theorem cntS_le (l : List Sg) (s : Sg) (k : Nat) : cntS (l.take k) s ≤ k := Nat.le_trans List.countP_le_length (List.length_take_le _ _)
set_option maxHeartbeats 4000000 in
theorem count_any (v : Value) (l : List Sg) (s : Sg) (w : World) (h : Rd 4 encSg w v l) (hl : l.length ≤ 1000000000) :
    Calls Try.prog 24 #[v, .agg #[.int .i64 s.1.1, .int .i64 s.1.2, .int .i64 s.2.1, .int .i64 s.2.2]] w fun e w' => e = .returned (.int .i64 (cntS l s)) ∧ Below w.heap.size w w' := by
  obtain ⟨A, capA, rfl, hcapA, hopA⟩ := h.open_
  have HA := Lib.hid hopA
  have HLA := Lib.hid h
  clear hopA h
  go_enter Try.func24, Try.ntmps24
  go_wp2_with fail
  obtain ⟨y0, hy0⟩ : ∃ y0 : Kin w, y0.1 = w.alloc (.cells #[.int .i64 s.1.1, .int .i64 s.1.2, .int .i64 s.2.1, .int .i64 s.2.2] 38) := ⟨⟨w.alloc _, (by repeat (first | with_reducible (first | exact blA | exact blB | refine blC _ ?_ | refine blD ?_ ?_ _ | refine blE ?_ | refine blF _ ?_ | refine blG ?_ _ | refine blH ?_ | refine blI ?_ ?_ _) | (simp only [World.size_alloc]; omega) | (simp <;> omega)))⟩, rfl⟩
  have B0 := Blk.new w 38 #[.int .i64 s.1.1, .int .i64 s.1.2, .int .i64 s.2.1, .int .i64 s.2.2]
  rw [← hy0] at B0 ⊢
  have HB0 := Lib.hid B0
  clear B0 hy0
  go_wp2_with fail
  go_loopw [5, 6] (fun m i wr => ∃ k : Nat, k ≤ l.length ∧ i = .int .i64 k ∧ m = .int .i64 (cntS (l.take k) s) ∧ ∃ y : Kin y0.1, y.1 = wr) (fun _ i _ => l.length - (intOf i).toNat)
  case atStart => exact ⟨0, Nat.zero_le _, rfl, rfl, ⟨y0.1, Below.refl _ _⟩, rfl⟩
  case round =>
    obtain ⟨k, hk, rfl, rfl, y, rfl⟩ := hrel
    have q_0 : y0.1.cell? ⟨w.heap.size, 0, none⟩ = some (.int .i64 s.1.1) := HB0.out.cell 0
    have q_1 : y0.1.cell? ⟨w.heap.size, 1, none⟩ = some (.int .i64 s.1.2) := HB0.out.cell 1
    have q_2 : y0.1.cell? ⟨w.heap.size, 2, none⟩ = some (.int .i64 s.2.1) := HB0.out.cell 2
    have q_3 : y0.1.cell? ⟨w.heap.size, 3, none⟩ = some (.int .i64 s.2.2) := HB0.out.cell 3
    have ql := HB0.out.lt
    have hcl := cntS_le l s k
    by_cases hlt : k < l.length
    · obtain ⟨t, ht⟩ : ∃ t, l[k]? = some t := ⟨_, List.getElem?_eq_getElem hlt⟩
      obtain ⟨bA, offA, rfl, hbA, hcA⟩ := HA.out k t ht
      have s_0 : y0.1.cell? ⟨bA, offA + k * 4, none⟩ = some (.int .i64 t.1.1) := (y0.cell hbA).trans (hcA k t ht 0 _ rfl)
      have s_1 : y0.1.cell? ⟨bA, offA + k * 4 + 1, none⟩ = some (.int .i64 t.1.2) := (y0.cell hbA).trans (hcA k t ht 1 _ rfl)
      have s_2 : y0.1.cell? ⟨bA, offA + k * 4 + 2, none⟩ = some (.int .i64 t.2.1) := (y0.cell hbA).trans (hcA k t ht 2 _ rfl)
      have s_3 : y0.1.cell? ⟨bA, offA + k * 4 + 3, none⟩ = some (.int .i64 t.2.2) := (y0.cell hbA).trans (hcA k t ht 3 _ rfl)
      have hbY : bA < y0.1.heap.size := y0.lt0 hbA
      have HT := Lib.hid ht
      clear hcA ht
      rcases hc : eqSg t s with _ | _
      all_goals
        have hrun := eqSg_run hc
        have HCT := Lib.hid (cntS_take HT.out hc)
        clear hc
        have hw2 : IntKind.i64.wrap ((cntS (l.take k) s : Int) + 1) = (cntS (l.take k) s : Int) + 1 := IntWalk.i64_in _ (by omega)
        go_wp2_with fail
        ((refine wp_region_kinK (W := (Kin.wd y0)) (by kernel_rfl) (by kernel_rfl) (by repeat (first | with_reducible (first | exact blA | exact blB | refine blC _ ?_ | refine blD ?_ ?_ _ | refine blE ?_ | refine blF _ ?_ | refine blG ?_ _ | refine blH ?_ | refine blI ?_ ?_ _) | (simp only [World.size_alloc]; omega) | (simp <;> omega))) ?_); (repeat' (first | go_big_quiet_step (fail) | ((refine wpQuiet_guard rfl rfl rfl rfl (fun hg => ?_) (fun hg => ?_)) <;> (fail_if_success (first | guard_hyp hg : true = true | guard_hyp hg : false = false)) <;> (try simp only [decide_eq_true_eq, decide_eq_false_iff_not] at hg) <;> simp only [Act.put, List.setIfInBounds_toArray, List.set_cons_zero, List.set_cons_succ]))); all_goals ((with_reducible refine wpQuiet_nil ?_); intro zq hz))
        clear hz
        go_wp2_with fail
        refine ⟨⟨k + 1, by omega, by go_num, (by rw [HCT.out]; try simp), zq, rfl⟩, by simp [intOf]; omega⟩
    · have HE := Lib.hid (show cntS (l.take k) s = cntS l s by rw [List.take_of_length_le (by omega)])
      go_wp2_with fail
      go_ret
      rw [HE.out]
      exact ⟨rfl, (by repeat (first | with_reducible (first | exact blA | exact blB | refine blC _ ?_ | refine blD ?_ ?_ _ | refine blE ?_ | refine blF _ ?_ | refine blG ?_ _ | refine blH ?_ | refine blI ?_ ?_ _) | (simp only [World.size_alloc]; omega) | (simp <;> omega)))⟩
theorem count_pair {m : Nat} (v v1 v2 : Value) (l1 l2 : List Sg) (s : Sg) (w : World) (h1 : Rd 4 encSg w v1 l1) (h2 : Rd 4 encSg w v2 l2) (hl1 : l1.length ≤ 1000000000) (hl2 : l2.length ≤ 1000000000) (e1 : cntS l1 s = m) (e2 : cntS l2 s = m) (hv : v = v1 ∨ v = v2) :
    Calls Try.prog 24 #[v, .agg #[.int .i64 s.1.1, .int .i64 s.1.2, .int .i64 s.2.1, .int .i64 s.2.2]] w fun e w' => e = .returned (.int .i64 m) ∧ Below w.heap.size w w' := by
  rcases hv with rfl | rfl
  · rw [← e1]; exact count_any _ l1 s w h1 hl1
  · rw [← e2]; exact count_any _ l2 s w h2 hl2
theorem full_eq {s : Sg} {b : Bool} (h : full s = b) : eqP s.1 s.2 = !b := by
  subst h
  unfold full
  by_cases e : s.1 = s.2
  · rw [eqP_iff.2 e]; simp [e]
  · rw [eqP_ne e]; simp [e]
end Go.Proofs.Yteadnlodccnfcaa

/- straight, and the chapter's flat: walked. -/
import Derived.Test.YteadnlodccnfcaaCtrSim
import Derived.Test.YteadnlodccnfcaaCtrNestR
namespace Go.Proofs.Yteadnlodccnfcaa
set_option linter.unusedSimpArgs false
set_option linter.unusedVariables false
set_option maxRecDepth 100000
open Go.RowKit Planar
attribute [local go_sem] Kin.cell Kin.frozen Kin.lt0 Kin.lt1 Kin.lt2 Kin.lt3 run_mkf
theorem flatAt_is {l : List Pt} {i n q1 q2 : Nat} {a b c : Pt} (hn : l.length = n) (h1 : (i + n - 1) % n = q1) (h2 : (i + 1) % n = q2) (ha : l[q1]? = some a) (hb : l[i]? = some b) (hc : l[q2]? = some c) : flatAt l i = (turn a b c == 0) := by
  unfold flatAt
  rw [hn, h1, h2, ptAt_some ha, ptAt_some hb, ptAt_some hc]
  rfl
set_option maxHeartbeats 8000000 in
theorem straight_any (v : Value) (l : List Pt) (i : Nat) (w : World) (h : Rd 2 encPt w v l) (hi : i < l.length) (hl : l.length ≤ 1000000) :
    Calls Try.prog 47 #[v, .int .i64 i] w fun e w' => e = .returned (.bool (flatAt l i)) ∧ Below w.heap.size w w' := by
  obtain ⟨A, cap, rfl, hcap, hopen⟩ := h.open_
  obtain ⟨n, hn⟩ : ∃ n, l.length = n := ⟨_, rfl⟩
  rw [hn] at hcap hi hl ⊢
  obtain ⟨q1, hq1⟩ : ∃ q, (i + n - 1) % n = q := ⟨_, rfl⟩
  obtain ⟨q2, hq2⟩ : ∃ q, (i + 1) % n = q := ⟨_, rfl⟩
  have l1 : q1 < n := by rw [← hq1]; exact Nat.mod_lt _ (by omega)
  have l2 : q2 < n := by rw [← hq2]; exact Nat.mod_lt _ (by omega)
  obtain ⟨a, ha⟩ : ∃ a, l[q1]? = some a := ⟨_, List.getElem?_eq_getElem (by rw [hn]; exact l1)⟩
  obtain ⟨b, hb⟩ : ∃ b, l[i]? = some b := ⟨_, List.getElem?_eq_getElem (by rw [hn]; exact hi)⟩
  obtain ⟨c, hc⟩ : ∃ c, l[q2]? = some c := ⟨_, List.getElem?_eq_getElem (by rw [hn]; exact l2)⟩
  have HF := Lib.hid (flatAt_is hn hq1 hq2 ha hb hc)
  obtain ⟨g, off, rfl, hg, hcc⟩ := hopen q1 a ha
  have a_0 : w.cell? ⟨g, off + q1 * 2, none⟩ = some (.int .i64 a.1) := hcc q1 a ha 0 _ rfl
  have a_1 : w.cell? ⟨g, off + q1 * 2 + 1, none⟩ = some (.int .i64 a.2) := hcc q1 a ha 1 _ rfl
  have b_0 : w.cell? ⟨g, off + i * 2, none⟩ = some (.int .i64 b.1) := hcc i b hb 0 _ rfl
  have b_1 : w.cell? ⟨g, off + i * 2 + 1, none⟩ = some (.int .i64 b.2) := hcc i b hb 1 _ rfl
  have c_0 : w.cell? ⟨g, off + q2 * 2, none⟩ = some (.int .i64 c.1) := hcc q2 c hc 0 _ rfl
  have c_1 : w.cell? ⟨g, off + q2 * 2 + 1, none⟩ = some (.int .i64 c.2) := hcc q2 c hc 1 _ rfl
  have e0 : IntKind.i64.wrap ((i : Int) + (n : Int)) = (i : Int) + (n : Int) := IntWalk.i64_in _ (by omega)
  have e1 : IntKind.i64.wrap ((i : Int) + (n : Int) - 1) = (i : Int) + (n : Int) - 1 := IntWalk.i64_in _ (by omega)
  have e2b : ((i : Int) + (n : Int) - 1) % (n : Int) = (q1 : Int) := by rw [← hq1]; rw [Int.natCast_emod]; congr 1; omega
  have e2 : ((i : Int) + (n : Int) - 1).tmod (n : Int) = (q1 : Int) := by rw [Int.tmod_eq_emod_of_nonneg (by omega)]; exact e2b
  have e3 : IntKind.i64.wrap (q1 : Int) = (q1 : Int) := IntWalk.i64_in _ (by omega)
  have f1 : IntKind.i64.wrap ((i : Int) + 1) = (i : Int) + 1 := IntWalk.i64_in _ (by omega)
  have f2b : ((i : Int) + 1) % (n : Int) = (q2 : Int) := by rw [← hq2]; rfl
  have f2 : ((i : Int) + 1).tmod (n : Int) = (q2 : Int) := by rw [Int.tmod_eq_emod_of_nonneg (by omega)]; exact f2b
  have f3 : IntKind.i64.wrap (q2 : Int) = (q2 : Int) := IntWalk.i64_in _ (by omega)
  have e4 : ¬ (n : Int) = 0 := by omega
  have e4b : ¬ n = 0 := by omega
  have e5 : (q1 : Int) < (n : Int) := by omega
  have f5 : (q2 : Int) < (n : Int) := by omega
  clear hopen h hcc ha hb hc hq1 hq2
  go_enter Try.func47, Try.ntmps47
  go_wp2
  ((refine wp_region_kinK (W := w) (by kernel_rfl) (by kernel_rfl) (by repeat (first | with_reducible (first | exact blA | exact blB | refine blC _ ?_ | refine blD ?_ ?_ _ | refine blE ?_ | refine blF _ ?_ | refine blG ?_ _ | refine blH ?_ | refine blI ?_ ?_ _) | (simp only [World.size_alloc]; omega) | (simp <;> omega))) ?_); (repeat' (first | go_big_quiet_step ((go_at_call 60; exact Kin.quiet _ (turn_any a b c _))) | ((refine wpQuiet_guard rfl rfl rfl rfl (fun hg => ?_) (fun hg => ?_)) <;> (fail_if_success (first | guard_hyp hg : true = true | guard_hyp hg : false = false)) <;> (try simp only [decide_eq_true_eq, decide_eq_false_iff_not] at hg) <;> simp only [Act.put, List.setIfInBounds_toArray, List.set_cons_zero, List.set_cons_succ]))); all_goals ((with_reducible refine wpQuiet_nil ?_); intro zq hz))
  go_wp2
  go_ret
  exact ⟨ret_bool HF.out.symm, (by repeat (first | with_reducible (first | exact blA | exact blB | refine blC _ ?_ | refine blD ?_ ?_ _ | refine blE ?_ | refine blF _ ?_ | refine blG ?_ _ | refine blH ?_ | refine blI ?_ ?_ _) | (simp only [World.size_alloc]; omega) | (simp <;> omega)))⟩
/-- the first vertex without a turn, or -1 -/
def flatF (l : List Pt) : Int := match (List.range l.length).find? (flatAt l) with
  | none => -1
  | some i => i
theorem flatF_none {l : List Pt} (h : ∀ i, i < l.length → flatAt l i = false) : flatF l = -1 := by
  unfold flatF
  rw [List.find?_eq_none.2 (fun i hi => by rw [h i (List.mem_range.1 hi)]; simp)]
theorem find_first {p : Nat → Bool} {n i : Nat} (hi : i < n) (hf : p i = true) (hb : ∀ j, j < i → p j = false) : (List.range n).find? p = some i := by
  rw [List.find?_eq_some_iff_append]
  refine ⟨hf, List.range i, List.range' (i + 1) (n - i - 1), ?_, fun j hj => by rw [hb j (List.mem_range.1 hj)]; rfl⟩
  rw [List.range_eq_range', List.range_eq_range', ← List.range'_succ (s := i) (n := n - i - 1) (step := 1)]
  have := List.range'_append_1 (s := 0) (m := i) (n := n - i - 1 + 1)
  simp only [Nat.zero_add] at this
  rw [this]; congr 1; omega
theorem flatF_some {l : List Pt} {i : Nat} (hi : i < l.length) (hf : flatAt l i = true) (hb : ∀ j, j < i → flatAt l j = false) : flatF l = i := by
  unfold flatF
  rw [find_first hi hf hb]
set_option maxHeartbeats 8000000 in
theorem flatR_any (v : Value) (l : List Pt) (w : World) (h : Rd 2 encPt w v l) (hl : l.length ≤ 1000000) :
    Calls Try.prog 49 #[v] w fun e w' => e = .returned (.int .i64 (flatF l)) ∧ Below w.heap.size w w' := by
  obtain ⟨A, cap, rfl, hcap, hopen⟩ := h.open_
  have HOP := Lib.hid hopen
  obtain ⟨n, hn⟩ : ∃ n, l.length = n := ⟨_, rfl⟩
  have HN := Lib.hid hn
  rw [hn] at hcap hl ⊢
  clear hopen h hn
  go_enter Try.func49, Try.ntmps49
  go_wp2_with fail
  go_loopw [4] (fun i wr => ∃ k : Nat, k ≤ n ∧ i = .int .i64 k ∧ Hid (∀ j, j < k → flatAt l j = false) ∧ ∃ y : Kin w, y.1 = wr) (fun i _ => n - (intOf i).toNat)
  case atStart => exact ⟨0, Nat.zero_le _, rfl, Lib.hid (fun j h => absurd h (by omega)), ⟨_, Below.refl _ _⟩, rfl⟩
  case round =>
    obtain ⟨i, hk, rfl, HB, y, rfl⟩ := hrel
    by_cases hi : i < n
    · obtain ⟨q1, hq1⟩ : ∃ q, (i + n - 1) % n = q := ⟨_, rfl⟩
      obtain ⟨q2, hq2⟩ : ∃ q, (i + 1) % n = q := ⟨_, rfl⟩
      have l1 : q1 < n := by rw [← hq1]; exact Nat.mod_lt _ (by omega)
      have l2 : q2 < n := by rw [← hq2]; exact Nat.mod_lt _ (by omega)
      obtain ⟨a, ha⟩ : ∃ a, l[q1]? = some a := ⟨_, List.getElem?_eq_getElem (by rw [HN.out]; exact l1)⟩
      obtain ⟨b, hb⟩ : ∃ b, l[i]? = some b := ⟨_, List.getElem?_eq_getElem (by rw [HN.out]; exact hi)⟩
      obtain ⟨c, hc⟩ : ∃ c, l[q2]? = some c := ⟨_, List.getElem?_eq_getElem (by rw [HN.out]; exact l2)⟩
      have HF := Lib.hid (flatAt_is HN.out hq1 hq2 ha hb hc)
      obtain ⟨g, off, rfl, hg, hcc⟩ := HOP.out q1 a ha
      have a_0 : w.cell? ⟨g, off + q1 * 2, none⟩ = some (.int .i64 a.1) := hcc q1 a ha 0 _ rfl
      have a_1 : w.cell? ⟨g, off + q1 * 2 + 1, none⟩ = some (.int .i64 a.2) := hcc q1 a ha 1 _ rfl
      have b_0 : w.cell? ⟨g, off + i * 2, none⟩ = some (.int .i64 b.1) := hcc i b hb 0 _ rfl
      have b_1 : w.cell? ⟨g, off + i * 2 + 1, none⟩ = some (.int .i64 b.2) := hcc i b hb 1 _ rfl
      have c_0 : w.cell? ⟨g, off + q2 * 2, none⟩ = some (.int .i64 c.1) := hcc q2 c hc 0 _ rfl
      have c_1 : w.cell? ⟨g, off + q2 * 2 + 1, none⟩ = some (.int .i64 c.2) := hcc q2 c hc 1 _ rfl
      have e0 : IntKind.i64.wrap ((i : Int) + (n : Int)) = (i : Int) + (n : Int) := IntWalk.i64_in _ (by omega)
      have e1 : IntKind.i64.wrap ((i : Int) + (n : Int) - 1) = (i : Int) + (n : Int) - 1 := IntWalk.i64_in _ (by omega)
      have e2b : ((i : Int) + (n : Int) - 1) % (n : Int) = (q1 : Int) := by rw [← hq1]; rw [Int.natCast_emod]; congr 1; omega
      have e2 : ((i : Int) + (n : Int) - 1).tmod (n : Int) = (q1 : Int) := by rw [Int.tmod_eq_emod_of_nonneg (by omega)]; exact e2b
      have e3 : IntKind.i64.wrap (q1 : Int) = (q1 : Int) := IntWalk.i64_in _ (by omega)
      have f1 : IntKind.i64.wrap ((i : Int) + 1) = (i : Int) + 1 := IntWalk.i64_in _ (by omega)
      have f2b : ((i : Int) + 1) % (n : Int) = (q2 : Int) := by rw [← hq2]; rfl
      have f2 : ((i : Int) + 1).tmod (n : Int) = (q2 : Int) := by rw [Int.tmod_eq_emod_of_nonneg (by omega)]; exact f2b
      have f3 : IntKind.i64.wrap (q2 : Int) = (q2 : Int) := IntWalk.i64_in _ (by omega)
      have e4 : ¬ (n : Int) = 0 := by omega
      have e4b : ¬ n = 0 := by omega
      have e5 : (q1 : Int) < (n : Int) := by omega
      have f5 : (q2 : Int) < (n : Int) := by omega
      clear hcc ha hb hc hq1 hq2 HOP
      cases hf : turn a b c == 0
      · have HG := Lib.hid (HF.out.trans hf)
        have hfb : turn a b c ≠ 0 := by simpa using hf
        clear hf HF
        go_wp2
        ((refine wp_region_kinK (W := w) (by kernel_rfl) (by kernel_rfl) (by repeat (first | with_reducible (first | exact blA | exact blB | refine blC _ ?_ | refine blD ?_ ?_ _ | refine blE ?_ | refine blF _ ?_ | refine blG ?_ _ | refine blH ?_ | refine blI ?_ ?_ _) | (simp only [World.size_alloc]; omega) | (simp <;> omega))) ?_); (repeat' (first | go_big_quiet_step ((go_at_call 32; exact Kin.quiet _ (turn_ref a b c _))) | ((refine wpQuiet_guard rfl rfl rfl rfl (fun hg => ?_) (fun hg => ?_)) <;> (fail_if_success (first | guard_hyp hg : true = true | guard_hyp hg : false = false)) <;> (try simp only [decide_eq_true_eq, decide_eq_false_iff_not] at hg) <;> simp only [Act.put, List.setIfInBounds_toArray, List.set_cons_zero, List.set_cons_succ]))); all_goals ((with_reducible refine wpQuiet_nil ?_); intro zq hz))
        go_wp2
        go_roundw
        case rel => exact ⟨i + 1, by omega, by go_num, Lib.hid (fun j hj => by rcases Nat.lt_or_ge j i with h | h; exact HB.out j h; rw [show j = i by omega]; exact HG.out), _, rfl⟩
        case measure => simp [intOf]; omega
      · have HG := Lib.hid (HF.out.trans hf)
        have hfb : turn a b c = 0 := by simpa using hf
        clear hf HF
        go_wp2
        ((refine wp_region_kinK (W := w) (by kernel_rfl) (by kernel_rfl) (by repeat (first | with_reducible (first | exact blA | exact blB | refine blC _ ?_ | refine blD ?_ ?_ _ | refine blE ?_ | refine blF _ ?_ | refine blG ?_ _ | refine blH ?_ | refine blI ?_ ?_ _) | (simp only [World.size_alloc]; omega) | (simp <;> omega))) ?_); (repeat' (first | go_big_quiet_step ((go_at_call 32; exact Kin.quiet _ (turn_ref a b c _))) | ((refine wpQuiet_guard rfl rfl rfl rfl (fun hg => ?_) (fun hg => ?_)) <;> (fail_if_success (first | guard_hyp hg : true = true | guard_hyp hg : false = false)) <;> (try simp only [decide_eq_true_eq, decide_eq_false_iff_not] at hg) <;> simp only [Act.put, List.setIfInBounds_toArray, List.set_cons_zero, List.set_cons_succ]))); all_goals ((with_reducible refine wpQuiet_nil ?_); intro zq hz))
        go_wp2
        go_ret
        exact ⟨ret_int (flatF_some (by rw [HN.out]; exact hi) HG.out HB.out).symm, (by repeat (first | with_reducible (first | exact blA | exact blB | refine blC _ ?_ | refine blD ?_ ?_ _ | refine blE ?_ | refine blF _ ?_ | refine blG ?_ _ | refine blH ?_ | refine blI ?_ ?_ _) | (simp only [World.size_alloc]; omega) | (simp <;> omega)))⟩
    · go_wp2_with fail
      go_ret
      exact ⟨ret_int (flatF_none (fun j hj => HB.out j (by rw [HN.out] at hj; omega))).symm, y.2⟩
end Go.Proofs.Yteadnlodccnfcaa

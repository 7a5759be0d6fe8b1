/- place of the chapter, walked. -/
import Derived.Test.YtomndgjnhhchdaaTrkRefM
import Derived.Test.YtomndgjnhhchdaaTrkMem
namespace Go.Proofs.Ytomndgjnhhchdaa
set_option linter.unusedSimpArgs false
set_option linter.unusedVariables false
set_option maxRecDepth 100000
open Go.RowKit Trk
attribute [local go_sem] Kin.cell Kin.frozen Kin.lt0 Kin.lt1 Kin.lt2 Kin.lt3
set_option maxHeartbeats 8000000 in
theorem place_any {n : Nat} (A : Option Addr) (cap : Nat) (S : List Cl) (c : Cl) (w : World) (hn : S.length = n) (h : Rd 2 encPt w (.slice A n cap) S) (hs : SortC S) (hlen : n ≤ 1099511627776) :
    Calls Try.prog 59 #[.slice A n cap, .agg #[.int .i64 c.1, .int .i64 c.2]] w fun e w' => e = .returned (.int .i64 (plcC S c)) ∧ Below w.heap.size w w' := by
  have HL := Lib.hid hn
  have HSO := Lib.hid hs
  have hpl := plcC_le S c
  rw [hn] at hpl
  obtain ⟨q, hq⟩ : ∃ q, plcC S c = q := ⟨_, rfl⟩
  have HQ := Lib.hid hq
  rw [hq] at hpl ⊢
  have HRD := Lib.hid h
  clear hn hs hq h
  go_enter Try.func59, Try.ntmps59
  go_wp2_with fail
  obtain ⟨W1, hW1⟩ : ∃ W1, W1 = w.alloc (.cells #[.int .i64 c.1, .int .i64 c.2] 31) := ⟨_, rfl⟩
  have HBW := Lib.hid (show Below w.heap.size w W1 from hW1 ▸ (by repeat (first | with_reducible (first | exact blA | exact blB | refine blC _ ?_ | refine blD ?_ ?_ _ | refine blE ?_ | refine blF _ ?_ | refine blG ?_ _ | refine blH ?_ | refine blI ?_ ?_ _) | (simp only [World.size_alloc]; omega) | (simp <;> omega))))
  have HB1 := Lib.hid (show Blk W1 w.heap.size 31 #[.int .i64 c.1, .int .i64 c.2] from hW1 ▸ Blk.new _ _ _)
  have HR1 := Lib.hid (HRD.out.below HBW.out)
  have c0 : W1.cell? ⟨w.heap.size, 0, none⟩ = some (.int .i64 c.1) := HB1.out.cell 0
  have c1 : W1.cell? ⟨w.heap.size, 1, none⟩ = some (.int .i64 c.2) := HB1.out.cell 1
  have cl := HB1.out.lt
  rw [← hW1]
  clear hW1
  go_loopw [5, 6] (fun lo hi wr => ∃ a b : Nat, a ≤ q ∧ q ≤ b ∧ b ≤ n ∧ lo = .int .i64 a ∧ hi = .int .i64 b ∧ ∃ y : Kin W1, y.1 = wr) (fun lo hi _ => (intOf hi).toNat - (intOf lo).toNat)
  case atStart => exact ⟨0, n, Nat.zero_le _, hpl, Nat.le_refl _, rfl, rfl, ⟨_, Below.refl _ _⟩, rfl⟩
  case round =>
    obtain ⟨a, b, ha, hb, hbn, rfl, rfl, y, rfl⟩ := hrel
    by_cases hlt : a < b
    · obtain ⟨m, hm⟩ : ∃ m, (a + b) / 2 = m := ⟨_, rfl⟩
      have hm1 : a ≤ m ∧ m < b := by omega
      have e1 : IntKind.i64.wrap ((a : Int) + (b : Int)) = (a : Int) + (b : Int) := IntWalk.i64_in _ (by omega)
      have e2 : ((a : Int) + (b : Int)).tdiv 2 = (m : Int) := by rw [Int.tdiv_eq_ediv_of_nonneg (by omega)]; omega
      have e3 : IntKind.i64.wrap (m : Int) = (m : Int) := IntWalk.i64_in _ (by omega)
      have e4 : IntKind.i64.wrap ((m : Int) + 1) = (m : Int) + 1 := IntWalk.i64_in _ (by omega)
      have e5 : (m : Int) < (n : Int) := by omega
      have e6 : m < n := by omega
      clear hm
      obtain ⟨x, hx⟩ : ∃ x, S[m]? = some x := ⟨_, List.getElem?_eq_getElem (by rw [HL.out]; omega)⟩
      obtain ⟨bA, offA, rfl, hbA, hcA⟩ := Rd.op HR1.out m x hx
      have x_0 : W1.cell? ⟨bA, offA + m * 2, none⟩ = some (.int .i64 x.1) := hcA m x hx 0 _ rfl
      have x_1 : W1.cell? ⟨bA, offA + m * 2 + 1, none⟩ = some (.int .i64 x.2) := hcA m x hx 1 _ rfl
      have HP := Lib.hid (plc_iff HSO.out c hx)
      clear hx hcA
      have cases4 : (x.2 < c.2) ∨ (¬ x.2 < c.2 ∧ x.2 = c.2 ∧ x.1 < c.1) ∨ (¬ x.2 < c.2 ∧ x.2 = c.2 ∧ ¬ x.1 < c.1) ∨ (¬ x.2 < c.2 ∧ ¬ x.2 = c.2) := by omega
      rcases cases4 with h1 | ⟨h1, h2, h3⟩ | ⟨h1, h2, h3⟩ | ⟨h1, h2⟩
      · have hq2 : m < q := by have := (HP.out).1 (by rw [ltC_iff]; exact .inl h1); rwa [HQ.out] at this
        go_wp2_with fail
        ((refine wp_region_kinK (W := W1) (by kernel_rfl) (by kernel_rfl) (by repeat (first | with_reducible (first | exact blA | exact blB | refine blC _ ?_ | refine blD ?_ ?_ _ | refine blE ?_ | refine blF _ ?_ | refine blG ?_ _ | refine blH ?_ | refine blI ?_ ?_ _) | (simp only [World.size_alloc]; omega) | (simp <;> omega))) ?_); (repeat' (first | go_big_quiet_step (fail) | ((refine wpQuiet_guard rfl rfl rfl rfl (fun hg => ?_) (fun hg => ?_)) <;> (fail_if_success (first | guard_hyp hg : true = true | guard_hyp hg : false = false)) <;> (try simp only [decide_eq_true_eq, decide_eq_false_iff_not] at hg) <;> simp only [Act.put, List.setIfInBounds_toArray, List.set_cons_zero, List.set_cons_succ]))); all_goals ((with_reducible refine wpQuiet_nil ?_); intro zq hz))
        go_wp2_with fail
        exact ⟨⟨m + 1, b, by omega, by omega, by omega, by go_num, rfl, zq, rfl⟩, by simp [intOf]; omega⟩
      · have hq2 : m < q := by have := (HP.out).1 (by rw [ltC_iff]; exact .inr ⟨h2, h3⟩); rwa [HQ.out] at this
        go_wp2_with fail
        ((refine wp_region_kinK (W := W1) (by kernel_rfl) (by kernel_rfl) (by repeat (first | with_reducible (first | exact blA | exact blB | refine blC _ ?_ | refine blD ?_ ?_ _ | refine blE ?_ | refine blF _ ?_ | refine blG ?_ _ | refine blH ?_ | refine blI ?_ ?_ _) | (simp only [World.size_alloc]; omega) | (simp <;> omega))) ?_); (repeat' (first | go_big_quiet_step (fail) | ((refine wpQuiet_guard rfl rfl rfl rfl (fun hg => ?_) (fun hg => ?_)) <;> (fail_if_success (first | guard_hyp hg : true = true | guard_hyp hg : false = false)) <;> (try simp only [decide_eq_true_eq, decide_eq_false_iff_not] at hg) <;> simp only [Act.put, List.setIfInBounds_toArray, List.set_cons_zero, List.set_cons_succ]))); all_goals ((with_reducible refine wpQuiet_nil ?_); intro zq hz))
        go_wp2_with fail
        exact ⟨⟨m + 1, b, by omega, by omega, by omega, by go_num, rfl, zq, rfl⟩, by simp [intOf]; omega⟩
      · have hq2 : ¬ m < q := fun hc => by have := (HP.out).2 (by rw [HQ.out]; exact hc); rw [ltC_iff] at this; omega
        go_wp2_with fail
        ((refine wp_region_kinK (W := W1) (by kernel_rfl) (by kernel_rfl) (by repeat (first | with_reducible (first | exact blA | exact blB | refine blC _ ?_ | refine blD ?_ ?_ _ | refine blE ?_ | refine blF _ ?_ | refine blG ?_ _ | refine blH ?_ | refine blI ?_ ?_ _) | (simp only [World.size_alloc]; omega) | (simp <;> omega))) ?_); (repeat' (first | go_big_quiet_step (fail) | ((refine wpQuiet_guard rfl rfl rfl rfl (fun hg => ?_) (fun hg => ?_)) <;> (fail_if_success (first | guard_hyp hg : true = true | guard_hyp hg : false = false)) <;> (try simp only [decide_eq_true_eq, decide_eq_false_iff_not] at hg) <;> simp only [Act.put, List.setIfInBounds_toArray, List.set_cons_zero, List.set_cons_succ]))); all_goals ((with_reducible refine wpQuiet_nil ?_); intro zq hz))
        go_wp2_with fail
        exact ⟨⟨a, m, ha, by omega, by omega, by go_num, by go_num, zq, rfl⟩, by simp [intOf]; omega⟩
      · have hq2 : ¬ m < q := fun hc => by have := (HP.out).2 (by rw [HQ.out]; exact hc); rw [ltC_iff] at this; omega
        go_wp2_with fail
        ((refine wp_region_kinK (W := W1) (by kernel_rfl) (by kernel_rfl) (by repeat (first | with_reducible (first | exact blA | exact blB | refine blC _ ?_ | refine blD ?_ ?_ _ | refine blE ?_ | refine blF _ ?_ | refine blG ?_ _ | refine blH ?_ | refine blI ?_ ?_ _) | (simp only [World.size_alloc]; omega) | (simp <;> omega))) ?_); (repeat' (first | go_big_quiet_step (fail) | ((refine wpQuiet_guard rfl rfl rfl rfl (fun hg => ?_) (fun hg => ?_)) <;> (fail_if_success (first | guard_hyp hg : true = true | guard_hyp hg : false = false)) <;> (try simp only [decide_eq_true_eq, decide_eq_false_iff_not] at hg) <;> simp only [Act.put, List.setIfInBounds_toArray, List.set_cons_zero, List.set_cons_succ]))); all_goals ((with_reducible refine wpQuiet_nil ?_); intro zq hz))
        all_goals first
          | (exfalso; exact h2 (by simpa using hg))
          | (go_wp2_with fail; exact ⟨⟨a, m, ha, by omega, by omega, by go_num, by go_num, zq, rfl⟩, by simp [intOf]; omega⟩)
    · have haq : a = q := by omega
      subst haq
      go_wp2_with fail
      go_ret
      exact ⟨rfl, HBW.out.trans (y.2.mono HBW.out.size)⟩
end Go.Proofs.Ytomndgjnhhchdaa

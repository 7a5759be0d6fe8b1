/- What the chapter's definitions on runs return: Valid, Normal, Norm, Length, Contains, Same; and the first runs of a list. -/
import Derived.Test.YtoahfkblbhoddaaRunsFns
namespace Go.Proofs.Ytoahfkblbhoddaa
set_option linter.unusedSimpArgs false
set_option linter.unusedVariables false
open Go.RowKit Runs
attribute [local go_sem] Kin.cell Kin.frozen Kin.lt0 Kin.lt1 Kin.lt2 Kin.lt3 run_mkf
def okI (x : Int) : Bool := decide (-1048576 ≤ x ∧ x ≤ 1048576)
theorem fits_okI (r : Run) : fits r = (okI r.1 && okI r.2) := by
  rw [Bool.eq_iff_iff]; simp [fits, okI]; omega
set_option maxHeartbeats 400000 in
theorem ok_any (x : Int) (w : World) : Calls Try.prog 35 #[.int .i64 x] w fun e w' => e = .returned (.bool (okI x)) ∧ Below w.heap.size w w' := by
  go_enter Try.func35, Try.ntmps35
  go_wp2
  all_goals
    go_ret
    exact ⟨ret_bool (by simp [okI, *] <;> omega), (by repeat (first | with_reducible exact Below.refl _ _ | with_reducible exact Nat.le_refl _ | with_reducible refine Kin.below _ ?_ | with_reducible refine Below.alloc ?_ ?_ _ | with_reducible refine Below.drew ?_ | with_reducible refine Kin.le _ ?_ | with_reducible refine le_alloc ?_ _ | with_reducible refine le_drew ?_ | with_reducible refine Below.setCell ?_ ?_ _ | with_reducible exact Nat.le_refl _ | (simp only [World.size_alloc]; omega) | (simp <;> omega)))⟩
theorem vstep_f4 {l : List Run} {k : Nat} {r : Run} (hr : l[k]? = some r) (h : (!okI r.1) = true) : vstep l k = false := vstep_f2 hr (by rw [fits_okI]; simp at h; simp [h])
theorem vstep_f5 {l : List Run} {k : Nat} {r : Run} (hr : l[k]? = some r) (h : (!okI r.2) = true) : vstep l k = false := vstep_f2 hr (by rw [fits_okI]; simp at h; simp [h])
theorem vstep_t2 {l : List Run} {k : Nat} {r q : Run} (hr : l[k]? = some r) (hq : ∀ x, l[k - 1]? = some x → x = q) (h1 : r.1 < r.2) (h2 : (!okI r.1) = false) (h2' : (!okI r.2) = false) (h3 : 0 < k → ¬ r.1 ≤ q.2) : vstep l k = true :=
  vstep_t hr hq (by omega) (by rw [fits_okI]; simp at h2 h2'; simp [h2, h2']) h3
set_option maxRecDepth 100000 in
set_option maxHeartbeats 4000000 in
theorem validR_any (v : Value) (l : List Run) (w : World) (h : Rd 2 encRun w v l) (hlen : l.length ≤ 1099511627776) :
    Calls Try.prog 13 #[v] w fun e w' => e = .returned (.bool (valid l)) ∧ Below w.heap.size w w' := by
  obtain ⟨A, capA, rfl, hcapA, hopA⟩ := h.open_
  have HA := Lib.hid hopA
  have HLA := Lib.hid h
  clear hopA h
  go_enter Try.func13, Try.ntmps13
  go_wp2
  go_loopw [3] (fun i wr => ∃ k : Nat, k ≤ l.length ∧ i = .int .i64 k ∧ Hid (validTo l k = true) ∧ ∃ z : Kin w, z.1 = wr) (fun i _ => l.length - (intOf i).toNat)
  case atStart => exact ⟨0, Nat.zero_le _, rfl, rfl, ⟨w, Below.refl _ _⟩, rfl⟩
  case round =>
    obtain ⟨k, hk, rfl, hval, z, rfl⟩ := hrel
    by_cases hlt : k < l.length
    · obtain ⟨r, hr⟩ : ∃ r, (l)[k]? = some r := ⟨_, List.getElem?_eq_getElem (by first | exact hlt | omega)⟩
      obtain ⟨bA, offA, rfl, hbA, hcA⟩ := HA.out (k) _ hr
      have r_0 : w.cell? ⟨bA, offA + k * 2, none⟩ = some (.int .i64 r.1) := by exact hcA (k) _ hr 0 _ rfl
      have r_1 : w.cell? ⟨bA, offA + k * 2 + 1, none⟩ = some (.int .i64 r.2) := by exact hcA (k) _ hr 1 _ rfl
      have HAc := Lib.hid hcA
      have Hr := Lib.hid hr
      clear hr hcA
      obtain ⟨q, hq⟩ : ∃ q : Run, ∀ x, l[k - 1]? = some x → x = q := ⟨(l[k - 1]?).getD (0, 0), fun x hx => by simp [hx]⟩
      have cq : (0 : Int) < (k : Int) → w.cell? ⟨bA, offA + (k - 1) * 2 + 1, none⟩ = some (.int .i64 q.2) := fun h0 => by
        have hl : l[k - 1]? = some l[k - 1] := List.getElem?_eq_getElem (by omega)
        have := HAc.out (k - 1) _ hl 1 _ rfl
        rw [hq _ hl] at this
        exact this
      have Hq := Lib.hid hq
      clear hq
      go_wp2
      ((refine wp_region_kin0 (by kernel_rfl) (by kernel_rfl) ?_); (repeat' (first | go_big_quiet_step ((go_at_call 35; exact Kin.quiet _ (ok_any _ _))) | ((refine wpQuiet_guard rfl rfl rfl rfl (fun hg => ?_) (fun hg => ?_)) <;> (try simp only [decide_eq_true_eq, decide_eq_false_iff_not] at hg) <;> simp only [Act.put, List.setIfInBounds_toArray, List.set_cons_zero, List.set_cons_succ]))); all_goals ((with_reducible refine wpQuiet_nil ?_); rintro _ ⟨zq, rfl⟩))
      all_goals go_wp2
      all_goals first
        | (go_ret; refine ⟨ret_bool ?_, (by repeat (first | with_reducible exact Below.refl _ _ | with_reducible exact Nat.le_refl _ | with_reducible refine Kin.below _ ?_ | with_reducible refine Below.alloc ?_ ?_ _ | with_reducible refine Below.drew ?_ | with_reducible refine Kin.le _ ?_ | with_reducible refine le_alloc ?_ _ | with_reducible refine le_drew ?_ | with_reducible refine Below.setCell ?_ ?_ _ | with_reducible exact Nat.le_refl _ | (simp only [World.size_alloc]; omega) | (simp <;> omega)))⟩; refine (valid_false hlt ?_).symm; first | (refine vstep_f1 Hr.out ?_; omega) | (refine vstep_f4 Hr.out ?_; assumption) | (refine vstep_f5 Hr.out ?_; assumption) | (refine vstep_f3 Hr.out Hq.out ?_ ?_ <;> omega))
        | (go_roundw
           case rel =>
             refine ⟨k + 1, by omega, by go_num, validTo_succ hval.out (vstep_t2 Hr.out Hq.out (by omega) (by assumption) (by assumption) (by omega)), ⟨_, (by repeat (first | with_reducible exact Below.refl _ _ | with_reducible exact Nat.le_refl _ | with_reducible refine Kin.below _ ?_ | with_reducible refine Below.alloc ?_ ?_ _ | with_reducible refine Below.drew ?_ | with_reducible refine Kin.le _ ?_ | with_reducible refine le_alloc ?_ _ | with_reducible refine le_drew ?_ | with_reducible refine Below.setCell ?_ ?_ _ | with_reducible exact Nat.le_refl _ | (simp only [World.size_alloc]; omega) | (simp <;> omega)))⟩, rfl⟩
           case measure => simp [intOf]; omega)
    · go_wp2
      go_ret
      have : k = l.length := by omega
      exact ⟨ret_bool (by rw [valid, ← this]; exact hval.out.symm), (by repeat (first | with_reducible exact Below.refl _ _ | with_reducible exact Nat.le_refl _ | with_reducible refine Kin.below _ ?_ | with_reducible refine Below.alloc ?_ ?_ _ | with_reducible refine Below.drew ?_ | with_reducible refine Kin.le _ ?_ | with_reducible refine le_alloc ?_ _ | with_reducible refine le_drew ?_ | with_reducible refine Below.setCell ?_ ?_ _ | with_reducible exact Nat.le_refl _ | (simp only [World.size_alloc]; omega) | (simp <;> omega)))⟩
set_option maxHeartbeats 4000000 in
theorem containsR_any (v : Value) (l : List Run) (x : Int) (w : World) (h : Rd 2 encRun w v l) (hlen : l.length ≤ 1099511627776) :
    Calls Try.prog 17 #[v, .int .i64 x] w fun e w' => e = .returned (.bool (valid l && mem l x)) ∧ Below w.heap.size w w' := by
  obtain ⟨A, capA, rfl, hcapA, hopA⟩ := h.open_
  have HA := Lib.hid hopA
  have HLA := Lib.hid h
  clear hopA h
  cases hv : valid l
  all_goals
    go_enter Try.func17, Try.ntmps17
    go_wp2_with (first | (go_at_call 13; first | ((with_reducible refine (Kin.call _ (validR_any _ l _ (HLA.out.below (by repeat (first | with_reducible exact Below.refl _ _ | with_reducible exact Nat.le_refl _ | with_reducible refine Kin.below _ ?_ | with_reducible refine Below.alloc ?_ ?_ _ | with_reducible refine Below.drew ?_ | with_reducible refine Kin.le _ ?_ | with_reducible refine le_alloc ?_ _ | with_reducible refine le_drew ?_ | with_reducible refine Below.setCell ?_ ?_ _ | with_reducible exact Nat.le_refl _ | (simp only [World.size_alloc]; omega) | (simp <;> omega)))) (by omega))).mono ?_); rintro e w' ⟨z, rfl, rfl⟩) | ((with_reducible refine (Kin.call0 (validR_any _ l _ (HLA.out.below (by repeat (first | with_reducible exact Below.refl _ _ | with_reducible exact Nat.le_refl _ | with_reducible refine Kin.below _ ?_ | with_reducible refine Below.alloc ?_ ?_ _ | with_reducible refine Below.drew ?_ | with_reducible refine Kin.le _ ?_ | with_reducible refine le_alloc ?_ _ | with_reducible refine le_drew ?_ | with_reducible refine Below.setCell ?_ ?_ _ | with_reducible exact Nat.le_refl _ | (simp only [World.size_alloc]; omega) | (simp <;> omega)))) (by omega))).mono ?_); rintro e w' ⟨z, rfl, rfl⟩)) | (go_at_call 39; first | ((with_reducible refine (Kin.call _ (in_any _ l x _ (HLA.out.below (by repeat (first | with_reducible exact Below.refl _ _ | with_reducible exact Nat.le_refl _ | with_reducible refine Kin.below _ ?_ | with_reducible refine Below.alloc ?_ ?_ _ | with_reducible refine Below.drew ?_ | with_reducible refine Kin.le _ ?_ | with_reducible refine le_alloc ?_ _ | with_reducible refine le_drew ?_ | with_reducible refine Below.setCell ?_ ?_ _ | with_reducible exact Nat.le_refl _ | (simp only [World.size_alloc]; omega) | (simp <;> omega)))) (by omega))).mono ?_); rintro e w' ⟨z, rfl, rfl⟩) | ((with_reducible refine (Kin.call0 (in_any _ l x _ (HLA.out.below (by repeat (first | with_reducible exact Below.refl _ _ | with_reducible exact Nat.le_refl _ | with_reducible refine Kin.below _ ?_ | with_reducible refine Below.alloc ?_ ?_ _ | with_reducible refine Below.drew ?_ | with_reducible refine Kin.le _ ?_ | with_reducible refine le_alloc ?_ _ | with_reducible refine le_drew ?_ | with_reducible refine Below.setCell ?_ ?_ _ | with_reducible exact Nat.le_refl _ | (simp only [World.size_alloc]; omega) | (simp <;> omega)))) (by omega))).mono ?_); rintro e w' ⟨z, rfl, rfl⟩)))
    go_ret
    exact ⟨rfl, (by repeat (first | with_reducible exact Below.refl _ _ | with_reducible exact Nat.le_refl _ | with_reducible refine Kin.below _ ?_ | with_reducible refine Below.alloc ?_ ?_ _ | with_reducible refine Below.drew ?_ | with_reducible refine Kin.le _ ?_ | with_reducible refine le_alloc ?_ _ | with_reducible refine le_drew ?_ | with_reducible refine Below.setCell ?_ ?_ _ | with_reducible exact Nat.le_refl _ | (simp only [World.size_alloc]; omega) | (simp <;> omega)))⟩
set_option maxHeartbeats 4000000 in
theorem lengthR_any (v : Value) (l : List Run) (w : World) (h : Rd 2 encRun w v l) (hlen : l.length ≤ 1099511627776) :
    Calls Try.prog 15 #[v] w fun e w' => e = .returned (.int .i64 (lenL l)) ∧ Below w.heap.size w w' := by
  obtain ⟨A, capA, rfl, hcapA, hopA⟩ := h.open_
  have HA := Lib.hid hopA
  have HLA := Lib.hid h
  clear hopA h
  go_enter Try.func15, Try.ntmps15
  go_wp2
  cases hv : valid l
  · go_loopw [3, 4] (fun n i wr => n = .int .i64 0 ∧ i = .int .i64 0 ∧ ∃ z : Kin w, z.1 = wr) (fun _ i _ => l.length - (intOf i).toNat)
    case atStart => exact ⟨rfl, rfl, ⟨w, Below.refl _ _⟩, rfl⟩
    case round =>
      obtain ⟨rfl, rfl, z, rfl⟩ := hrel
      by_cases h0 : 0 < l.length
      all_goals
        go_wp2_with (go_at_call 13; first | ((with_reducible refine (Kin.call _ (validR_any _ l _ (HLA.out.below (by repeat (first | with_reducible exact Below.refl _ _ | with_reducible exact Nat.le_refl _ | with_reducible refine Kin.below _ ?_ | with_reducible refine Below.alloc ?_ ?_ _ | with_reducible refine Below.drew ?_ | with_reducible refine Kin.le _ ?_ | with_reducible refine le_alloc ?_ _ | with_reducible refine le_drew ?_ | with_reducible refine Below.setCell ?_ ?_ _ | with_reducible exact Nat.le_refl _ | (simp only [World.size_alloc]; omega) | (simp <;> omega)))) (by omega))).mono ?_); rintro e w' ⟨z, rfl, rfl⟩) | ((with_reducible refine (Kin.call0 (validR_any _ l _ (HLA.out.below (by repeat (first | with_reducible exact Below.refl _ _ | with_reducible exact Nat.le_refl _ | with_reducible refine Kin.below _ ?_ | with_reducible refine Below.alloc ?_ ?_ _ | with_reducible refine Below.drew ?_ | with_reducible refine Kin.le _ ?_ | with_reducible refine le_alloc ?_ _ | with_reducible refine le_drew ?_ | with_reducible refine Below.setCell ?_ ?_ _ | with_reducible exact Nat.le_refl _ | (simp only [World.size_alloc]; omega) | (simp <;> omega)))) (by omega))).mono ?_); rintro e w' ⟨z, rfl, rfl⟩))
        go_ret
        exact ⟨ret_int (by simp [lenL, hv]), (by repeat (first | with_reducible exact Below.refl _ _ | with_reducible exact Nat.le_refl _ | with_reducible refine Kin.below _ ?_ | with_reducible refine Below.alloc ?_ ?_ _ | with_reducible refine Below.drew ?_ | with_reducible refine Kin.le _ ?_ | with_reducible refine le_alloc ?_ _ | with_reducible refine le_drew ?_ | with_reducible refine Below.setCell ?_ ?_ _ | with_reducible exact Nat.le_refl _ | (simp only [World.size_alloc]; omega) | (simp <;> omega)))⟩
  · go_loopw [3, 4] (fun n i wr => ∃ k : Nat, k ≤ l.length ∧ i = .int .i64 k ∧ n = .int .i64 (sumL (l.take k)) ∧ ∃ z : Kin w, z.1 = wr) (fun _ i _ => l.length - (intOf i).toNat)
    case atStart => exact ⟨0, Nat.zero_le _, rfl, rfl, ⟨w, Below.refl _ _⟩, rfl⟩
    case round =>
      obtain ⟨k, hk, rfl, rfl, z, rfl⟩ := hrel
      have hbd := sumL_bd hv k hk
      by_cases hlt : k < l.length
      · obtain ⟨r, hr⟩ : ∃ r, (l)[k]? = some r := ⟨_, List.getElem?_eq_getElem (by first | exact hlt | omega)⟩
        obtain ⟨bA, offA, rfl, hbA, hcA⟩ := HA.out (k) _ hr
        have r_0 : w.cell? ⟨bA, offA + k * 2, none⟩ = some (.int .i64 r.1) := by exact hcA (k) _ hr 0 _ rfl
        have r_1 : w.cell? ⟨bA, offA + k * 2 + 1, none⟩ = some (.int .i64 r.2) := by exact hcA (k) _ hr 1 _ rfl
        have HAc := Lib.hid hcA
        have Hr := Lib.hid hr
        clear hr hcA
        have hf := valid_fits hv Hr.out
        go_wp2_with (go_at_call 13; first | ((with_reducible refine (Kin.call _ (validR_any _ l _ (HLA.out.below (by repeat (first | with_reducible exact Below.refl _ _ | with_reducible exact Nat.le_refl _ | with_reducible refine Kin.below _ ?_ | with_reducible refine Below.alloc ?_ ?_ _ | with_reducible refine Below.drew ?_ | with_reducible refine Kin.le _ ?_ | with_reducible refine le_alloc ?_ _ | with_reducible refine le_drew ?_ | with_reducible refine Below.setCell ?_ ?_ _ | with_reducible exact Nat.le_refl _ | (simp only [World.size_alloc]; omega) | (simp <;> omega)))) (by omega))).mono ?_); rintro e w' ⟨z, rfl, rfl⟩) | ((with_reducible refine (Kin.call0 (validR_any _ l _ (HLA.out.below (by repeat (first | with_reducible exact Below.refl _ _ | with_reducible exact Nat.le_refl _ | with_reducible refine Kin.below _ ?_ | with_reducible refine Below.alloc ?_ ?_ _ | with_reducible refine Below.drew ?_ | with_reducible refine Kin.le _ ?_ | with_reducible refine le_alloc ?_ _ | with_reducible refine le_drew ?_ | with_reducible refine Below.setCell ?_ ?_ _ | with_reducible exact Nat.le_refl _ | (simp only [World.size_alloc]; omega) | (simp <;> omega)))) (by omega))).mono ?_); rintro e w' ⟨z, rfl, rfl⟩))
        ((refine wp_region_kin0 (by kernel_rfl) (by kernel_rfl) ?_); (repeat' (first | go_big_quiet_step (fail) | ((refine wpQuiet_guard rfl rfl rfl rfl (fun hg => ?_) (fun hg => ?_)) <;> (try simp only [decide_eq_true_eq, decide_eq_false_iff_not] at hg) <;> simp only [Act.put, List.setIfInBounds_toArray, List.set_cons_zero, List.set_cons_succ]))); all_goals ((with_reducible refine wpQuiet_nil ?_); rintro _ ⟨zq, rfl⟩))
        go_wp2
        go_roundw
        case rel => exact ⟨k + 1, by omega, by go_num, by rw [sumL_succ Hr.out]; go_num, ⟨_, (by repeat (first | with_reducible exact Below.refl _ _ | with_reducible exact Nat.le_refl _ | with_reducible refine Kin.below _ ?_ | with_reducible refine Below.alloc ?_ ?_ _ | with_reducible refine Below.drew ?_ | with_reducible refine Kin.le _ ?_ | with_reducible refine le_alloc ?_ _ | with_reducible refine le_drew ?_ | with_reducible refine Below.setCell ?_ ?_ _ | with_reducible exact Nat.le_refl _ | (simp only [World.size_alloc]; omega) | (simp <;> omega)))⟩, rfl⟩
        case measure => simp [intOf]; omega
      · go_wp2
        go_ret
        have : k = l.length := by omega
        exact ⟨ret_int (by simp [lenL, hv, this]), (by repeat (first | with_reducible exact Below.refl _ _ | with_reducible exact Nat.le_refl _ | with_reducible refine Kin.below _ ?_ | with_reducible refine Below.alloc ?_ ?_ _ | with_reducible refine Below.drew ?_ | with_reducible refine Kin.le _ ?_ | with_reducible refine le_alloc ?_ _ | with_reducible refine le_drew ?_ | with_reducible refine Below.setCell ?_ ?_ _ | with_reducible exact Nat.le_refl _ | (simp only [World.size_alloc]; omega) | (simp <;> omega)))⟩
theorem run_neqRun (p q : Run) (w : World) : (binOp .neq 38 (.agg #[.int .i64 p.1, .int .i64 p.2]) (.agg #[.int .i64 q.1, .int .i64 q.2])).run Try.prog w = .ok (.bool (!eqp p q)) w := by
  by_cases h1 : p.1 = q.1 <;> by_cases h2 : p.2 = q.2 <;> simp [go_sem, eqp, h1, h2]
set_option maxHeartbeats 4000000 in
theorem same_any (v u : Value) (a b : List Run) (w : World) (ha : Rd 2 encRun w v a) (hb : Rd 2 encRun w u b) (hlen : a.length ≤ 1099511627776) (hlen2 : b.length ≤ 1099511627776) :
    Calls Try.prog 11 #[v, u] w fun e w' => e = .returned (.bool (decide (a = b))) ∧ Below w.heap.size w w' := by
  obtain ⟨A, capA, rfl, hcapA, hopA⟩ := ha.open_
  have HA := Lib.hid hopA
  have HLA := Lib.hid ha
  clear hopA ha
  obtain ⟨B, capB, rfl, hcapB, hopB⟩ := hb.open_
  have HB := Lib.hid hopB
  have HLB := Lib.hid hb
  clear hopB hb
  have heq := run_neqRun
  by_cases hl : a.length = b.length
  · rw [hl]
    have Hl := Lib.hid hl
    have hl2 : a.length ≤ b.length ∧ b.length ≤ a.length := by omega
    clear hl
    go_enter Try.func11, Try.ntmps11
    go_wp2
    go_loopw [5] (fun i wr => ∃ k : Nat, k ≤ b.length ∧ i = .int .i64 k ∧ Hid (a.take k = b.take k) ∧ ∃ z : Kin w, z.1 = wr) (fun i _ => b.length - (intOf i).toNat)
    case atStart => exact ⟨0, Nat.zero_le _, rfl, rfl, ⟨w, Below.refl _ _⟩, rfl⟩
    case round =>
      obtain ⟨k, hk, rfl, hm, z, rfl⟩ := hrel
      by_cases hlt : k < b.length
      · obtain ⟨r, hr⟩ : ∃ r, (a)[k]? = some r := ⟨_, List.getElem?_eq_getElem (by first | exact hlt | omega)⟩
        obtain ⟨bA, offA, rfl, hbA, hcA⟩ := HA.out (k) _ hr
        have r_0 : w.cell? ⟨bA, offA + k * 2, none⟩ = some (.int .i64 r.1) := by exact hcA (k) _ hr 0 _ rfl
        have r_1 : w.cell? ⟨bA, offA + k * 2 + 1, none⟩ = some (.int .i64 r.2) := by exact hcA (k) _ hr 1 _ rfl
        have HAc := Lib.hid hcA
        have Hr := Lib.hid hr
        clear hr hcA
        obtain ⟨q, hq⟩ : ∃ r, (b)[k]? = some r := ⟨_, List.getElem?_eq_getElem (by first | exact hlt | omega)⟩
        obtain ⟨bB, offB, rfl, hbB, hcB⟩ := HB.out (k) _ hq
        have q_0 : w.cell? ⟨bB, offB + k * 2, none⟩ = some (.int .i64 q.1) := by exact hcB (k) _ hq 0 _ rfl
        have q_1 : w.cell? ⟨bB, offB + k * 2 + 1, none⟩ = some (.int .i64 q.2) := by exact hcB (k) _ hq 1 _ rfl
        have HBc := Lib.hid hcB
        have Hq := Lib.hid hq
        clear hq hcB
        go_wp2
        ((refine wp_region_kin0 (by kernel_rfl) (by kernel_rfl) ?_); (repeat' (first | go_big_quiet_step (fail) | ((refine wpQuiet_guard rfl rfl rfl rfl (fun hg => ?_) (fun hg => ?_)) <;> (try simp only [decide_eq_true_eq, decide_eq_false_iff_not] at hg) <;> simp only [Act.put, List.setIfInBounds_toArray, List.set_cons_zero, List.set_cons_succ]))); all_goals ((with_reducible refine wpQuiet_nil ?_); rintro _ ⟨zq, rfl⟩))
        go_wp2
        all_goals first
          | (go_ret
             refine ⟨ret_bool ?_, (by repeat (first | with_reducible exact Below.refl _ _ | with_reducible exact Nat.le_refl _ | with_reducible refine Kin.below _ ?_ | with_reducible refine Below.alloc ?_ ?_ _ | with_reducible refine Below.drew ?_ | with_reducible refine Kin.le _ ?_ | with_reducible refine le_alloc ?_ _ | with_reducible refine le_drew ?_ | with_reducible refine Below.setCell ?_ ?_ _ | with_reducible exact Nat.le_refl _ | (simp only [World.size_alloc]; omega) | (simp <;> omega)))⟩
             have hne : r ≠ q := by simp_all [eqp_no]
             symm
             rw [decide_eq_false_iff_not]
             rintro rfl
             exact hne (Option.some.inj (Hr.out.symm.trans Hq.out)))
          | (go_roundw
             case rel => exact ⟨k + 1, by omega, by go_num, take_eq_succ Hr.out Hq.out hm.out (by simp_all [eqp_iff]), ⟨_, (by repeat (first | with_reducible exact Below.refl _ _ | with_reducible exact Nat.le_refl _ | with_reducible refine Kin.below _ ?_ | with_reducible refine Below.alloc ?_ ?_ _ | with_reducible refine Below.drew ?_ | with_reducible refine Kin.le _ ?_ | with_reducible refine le_alloc ?_ _ | with_reducible refine le_drew ?_ | with_reducible refine Below.setCell ?_ ?_ _ | with_reducible exact Nat.le_refl _ | (simp only [World.size_alloc]; omega) | (simp <;> omega)))⟩, rfl⟩
             case measure => simp [intOf]; omega)
      · go_wp2
        go_ret
        have : k = b.length := by omega
        refine ⟨ret_bool ?_, (by repeat (first | with_reducible exact Below.refl _ _ | with_reducible exact Nat.le_refl _ | with_reducible refine Kin.below _ ?_ | with_reducible refine Below.alloc ?_ ?_ _ | with_reducible refine Below.drew ?_ | with_reducible refine Kin.le _ ?_ | with_reducible refine le_alloc ?_ _ | with_reducible refine le_drew ?_ | with_reducible refine Below.setCell ?_ ?_ _ | with_reducible exact Nat.le_refl _ | (simp only [World.size_alloc]; omega) | (simp <;> omega)))⟩
        have h3 := hm.out
        rw [this, List.take_length, ← Hl.out, List.take_length] at h3
        rw [h3]; simp
  · have hl' : ((a.length : Int) != (b.length : Int)) = true := by simp; omega
    go_enter Try.func11, Try.ntmps11
    go_wp2
    go_ret
    refine ⟨ret_bool ?_, (by repeat (first | with_reducible exact Below.refl _ _ | with_reducible exact Nat.le_refl _ | with_reducible refine Kin.below _ ?_ | with_reducible refine Below.alloc ?_ ?_ _ | with_reducible refine Below.drew ?_ | with_reducible refine Kin.le _ ?_ | with_reducible refine le_alloc ?_ _ | with_reducible refine le_drew ?_ | with_reducible refine Below.setCell ?_ ?_ _ | with_reducible exact Nat.le_refl _ | (simp only [World.size_alloc]; omega) | (simp <;> omega)))⟩
    symm
    rw [decide_eq_false_iff_not]
    rintro rfl
    exact hl rfl
set_option maxHeartbeats 4000000 in
theorem few_any (v : Value) (l : List Run) (w : World) (h : Rd 2 encRun w v l) :
    Calls Try.prog 8 #[v] w fun e w' => (∃ u, e = .returned u ∧ Rd 2 encRun w' u (l.take 40)) ∧ Below w.heap.size w w' := by
  obtain ⟨A, capA, rfl, hcapA, hopA⟩ := h.open_
  have HA := Lib.hid hopA
  have HLA := Lib.hid h
  clear hopA h
  have ht := Lib.hid (fun hm => HLA.out.take (m := 40) hm)
  by_cases h40 : 40 < l.length
  · go_enter Try.func8, Try.ntmps8
    go_wp2
    go_ret
    exact ⟨⟨_, rfl, ht.out (by omega)⟩, (by repeat (first | with_reducible exact Below.refl _ _ | with_reducible exact Nat.le_refl _ | with_reducible refine Kin.below _ ?_ | with_reducible refine Below.alloc ?_ ?_ _ | with_reducible refine Below.drew ?_ | with_reducible refine Kin.le _ ?_ | with_reducible refine le_alloc ?_ _ | with_reducible refine le_drew ?_ | with_reducible refine Below.setCell ?_ ?_ _ | with_reducible exact Nat.le_refl _ | (simp only [World.size_alloc]; omega) | (simp <;> omega)))⟩
  · go_enter Try.func8, Try.ntmps8
    go_wp2
    go_ret
    exact ⟨⟨_, rfl, by rw [List.take_of_length_le (by omega)]; exact HLA.out⟩, (by repeat (first | with_reducible exact Below.refl _ _ | with_reducible exact Nat.le_refl _ | with_reducible refine Kin.below _ ?_ | with_reducible refine Below.alloc ?_ ?_ _ | with_reducible refine Below.drew ?_ | with_reducible refine Kin.le _ ?_ | with_reducible refine le_alloc ?_ _ | with_reducible refine le_drew ?_ | with_reducible refine Below.setCell ?_ ?_ _ | with_reducible exact Nat.le_refl _ | (simp only [World.size_alloc]; omega) | (simp <;> omega)))⟩
end Go.Proofs.Ytoahfkblbhoddaa

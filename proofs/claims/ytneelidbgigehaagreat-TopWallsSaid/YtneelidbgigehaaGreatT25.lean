/- Lemmas: TrkWalk TrkKit TrkRot TrkPlain. -/
import Derived.Deep.RegionLaw
import Derived.Test.YtneelidbgigehaaGreatT07
import Derived.Test.YtneelidbgigehaaGreatT21
import Derived.Test.YtneelidbgigehaaGreatT11
import Derived.Test.YtneelidbgigehaaGreatT18
/- Tracks: Valid of the program and of the chapter, walked. -/
namespace Go.Proofs.YtneelidbgigehaaGreat
set_option linter.unusedSimpArgs false
set_option linter.unusedVariables false
set_option maxRecDepth 100000
open Go.RowKit Trk
attribute [local go_sem] Kin.cell Kin.frozen Kin.lt0 Kin.lt1 Kin.lt2 Kin.lt3
abbrev cv (c : Cl) : Value := .agg #[.int .i64 c.1, .int .i64 c.2]
abbrev tv (r : Int) (cl : Bool) (A : Option Addr) (n cap : Nat) : Value := .agg #[.int .i64 r, .bool cl, .slice A n cap]
theorem onGrid_is {b : Bool} (c : Cl) (w : World) (h : okc c = b) : Calls Tryz.prog 78 #[cv c] w fun e w' => e = .returned (.bool b) ∧ Below w.heap.size w w' := by
  subst h
  go_enter Tryz.func78, Tryz.ntmps78
  go_wp2
  all_goals
    go_ret
    exact ⟨ret_bool (by simp [okc, *] <;> omega), gRw⟩
theorem sq_bd {x : Int} (h : -8192 ≤ x ∧ x ≤ 8192) : 0 ≤ x * x ∧ x * x ≤ 67108864 := by
  rcases Int.le_total 0 x with h0 | h0
  · exact ⟨Int.mul_nonneg h0 h0, Int.le_trans (Int.mul_le_mul_of_nonneg_right h.2 h0) (by omega)⟩
  · have k1 := Int.mul_nonneg (Int.neg_nonneg.2 h0) (Int.neg_nonneg.2 h0)
    have k2 := Int.mul_le_mul_of_nonneg_right (show -x ≤ 8192 by omega) (show 0 ≤ -x by omega)
    rw [Int.neg_mul_neg] at k1 k2
    exact ⟨k1, Int.le_trans k2 (by omega)⟩
set_option maxHeartbeats 1000000 in
theorem neighbors_is {r : Bool} (a b : Cl) (w : World) (ha : okc a = true) (hb : okc b = true) (h : nb a b = r) : Calls Tryz.prog 79 #[cv a, cv b] w fun e w' => e = .returned (.bool r) ∧ Below w.heap.size w w' := by
  subst h
  have h1 := okc_iff.1 ha
  have h2 := okc_iff.1 hb
  have e1 : IntKind.i64.wrap (a.1 - b.1) = a.1 - b.1 := IntWalk.i64_in _ (by omega)
  have e2 : IntKind.i64.wrap (a.2 - b.2) = a.2 - b.2 := IntWalk.i64_in _ (by omega)
  have s1 := sq_bd (x := a.1 - b.1) (by omega)
  have s2 := sq_bd (x := a.2 - b.2) (by omega)
  have e3 : IntKind.i64.wrap ((a.1 - b.1) * (a.1 - b.1)) = (a.1 - b.1) * (a.1 - b.1) := IntWalk.i64_in _ (by omega)
  have e4 : IntKind.i64.wrap ((a.2 - b.2) * (a.2 - b.2)) = (a.2 - b.2) * (a.2 - b.2) := IntWalk.i64_in _ (by omega)
  have e5 : IntKind.i64.wrap ((a.1 - b.1) * (a.1 - b.1) + (a.2 - b.2) * (a.2 - b.2)) = (a.1 - b.1) * (a.1 - b.1) + (a.2 - b.2) * (a.2 - b.2) := IntWalk.i64_in _ (by omega)
  go_enter Tryz.func79, Tryz.ntmps79
  go_wp2
  ((first | refine wp_region_kin _ (by kernel_rfl) (by kernel_rfl) ?_ | refine wp_region_kin0 (by kernel_rfl) (by kernel_rfl) ?_); (repeat' (first | go_big_quiet_step (fail) | ((refine wpQuiet_guard rfl rfl rfl rfl (fun hg => ?_) (fun hg => ?_)) <;> (fail_if_success (first | guard_hyp hg : true = true | guard_hyp hg : false = false)) <;> (try simp only [decide_eq_true_eq, decide_eq_false_iff_not] at hg) <;> simp only [Act.put, List.setIfInBounds_toArray, List.set_cons_zero, List.set_cons_succ]))); all_goals ((with_reducible refine wpQuiet_nil ?_); rintro _ ⟨z, rfl⟩))
  go_wp2
  go_ret
  exact ⟨ret_bool (by simp [nb, e1, e2, e3, e4, e5]; try rfl), gRw⟩
set_option maxHeartbeats 16000000 in
theorem validT (r : Int) (cl : Bool) (A : Option Addr) (cap : Nat) (l : List Cl) (w : World) (h : Rd 2 encPt w (.slice A l.length cap) l) :
    Calls Tryz.prog 39 #[tv r cl A l.length cap] w fun e w' => e = .returned (.bool (tval ((r, cl), l))) ∧ Below w.heap.size w w' := by
  by_cases h4 : 1 ≤ r ∧ r ≤ 7 ∧ 1 ≤ l.length ∧ l.length ≤ 65536
  case neg =>
    rw [tval_false1 (cl := cl) h4]
    clear h
    obtain ⟨n, hL⟩ : ∃ n, l.length = n := ⟨_, rfl⟩
    rw [hL] at h4 ⊢
    clear hL
    by_cases h1 : r < 1
    · go_enter Tryz.func39, Tryz.ntmps39
      go_wp2
      go_ret
      exact ⟨rfl, gRw⟩
    · by_cases h2 : 7 < r
      · go_enter Tryz.func39, Tryz.ntmps39
        go_wp2
        go_ret
        exact ⟨rfl, gRw⟩
      · by_cases h3 : n < 1
        · go_enter Tryz.func39, Tryz.ntmps39
          go_wp2
          go_ret
          exact ⟨rfl, gRw⟩
        · have h5 : 65536 < n := by omega
          clear h4
          go_enter Tryz.func39, Tryz.ntmps39
          go_wp2
          go_ret
          exact ⟨rfl, gRw⟩
  have HA := Lib.hid (Rd.op h)
  have HLA := Lib.hid h
  clear h
  obtain ⟨n, hL⟩ : ∃ n, l.length = n := ⟨_, rfl⟩
  have HL := Lib.hid hL
  have H4 := Lib.hid h4
  rw [hL] at h4 HLA ⊢
  clear hL
  obtain ⟨h1, h2, h3, h5⟩ := h4
  obtain ⟨W1, hW1⟩ : ∃ W1, W1 = w.alloc (.cells #[.int .i64 r, .bool cl, .slice A n cap] 72) := ⟨_, rfl⟩
  have HB1 := Lib.hid (show Blk W1 w.heap.size 72 #[.int .i64 r, .bool cl, .slice A n cap] from hW1 ▸ Blk.new _ _ _)
  have HBW := Lib.hid (show Below w.heap.size w W1 from hW1 ▸ gRw)
  go_enter Tryz.func39, Tryz.ntmps39
  go_wp2
  rw [← hW1]
  clear hW1
  go_loopw [28] (fun i wr => ∃ k : Nat, k ≤ n ∧ i = .int .i64 k ∧ Hid (okTo l k) ∧ ∃ y : Kin W1, y.1 = wr) (fun i _ => n - (intOf i).toNat)
  case atStart => exact ⟨0, Nat.zero_le _, rfl, Lib.hid (fun i hi => absurd hi (by omega)), ⟨W1, Below.refl _ _⟩, rfl⟩
  case round =>
    obtain ⟨k, hk, rfl, hok, y, rfl⟩ := hrel
    have q2 : y.1.cell? ⟨w.heap.size, 2, none⟩ = some (.slice A n cap) := (HB1.out.below y.2).cell 2
    have q1 : y.1.cell? ⟨w.heap.size, 1, none⟩ = some (.bool cl) := (HB1.out.below y.2).cell 1
    have ql : w.heap.size < y.1.heap.size := (HB1.out.below y.2).lt
    have hyw : Below w.heap.size w y.1 := HBW.out.trans (y.2.mono HBW.out.size)
    have hgw := HBW.out.size
    by_cases hlt : k < n
    · obtain ⟨c, hc⟩ : ∃ el_, (l)[k]? = some el_ := ⟨_, List.getElem?_eq_getElem (by first | exact (by rw [HL.out]; exact hlt) | omega)⟩
      obtain ⟨bA, offA, rfl, hbA, hcA⟩ := HA.out (k) _ hc
      have c_0 : w.cell? ⟨bA, offA + k * 2, none⟩ = some (.int .i64 c.1) := by exact hcA (k) _ hc 0 _ rfl
      have c_1 : w.cell? ⟨bA, offA + k * 2 + 1, none⟩ = some (.int .i64 c.2) := by exact hcA (k) _ hc 1 _ rfl
      have hbA2 : bA < w.heap.size + 1 := by omega
      have HAc := Lib.hid hcA
      have Hc := Lib.hid hc
      clear hc hcA
      have d_0 : y.1.cell? ⟨bA, offA + k * 2, none⟩ = some (.int .i64 c.1) := (hyw.cell (p := ⟨bA, _, none⟩) hbA).trans c_0
      have d_1 : y.1.cell? ⟨bA, offA + k * 2 + 1, none⟩ = some (.int .i64 c.2) := (hyw.cell (p := ⟨bA, _, none⟩) hbA).trans c_1
      have hbA3 : bA < y.1.heap.size := Nat.lt_of_lt_of_le hbA hyw.size
      clear c_0 c_1 hbA2
      cases hc : okc c
      · have HF := Lib.hid (tval_false2 (r := r) (cl := cl) (stepOk_bad1 Hc.out hc))
        go_wp2
        ((refine wp_region_kinK (W := W1) (by kernel_rfl) (by kernel_rfl) gRw ?_); (repeat' (first | go_big_quiet_step ((go_at_call 78; exact Kin.quiet _ (onGrid_is c _ hc))) | ((refine wpQuiet_guard rfl rfl rfl rfl (fun hg => ?_) (fun hg => ?_)) <;> (fail_if_success (first | guard_hyp hg : true = true | guard_hyp hg : false = false)) <;> (try simp only [decide_eq_true_eq, decide_eq_false_iff_not] at hg) <;> simp only [Act.put, List.setIfInBounds_toArray, List.set_cons_zero, List.set_cons_succ]))); all_goals ((with_reducible refine wpQuiet_nil ?_); intro zq hz))
        go_wp2
        go_ret
        exact ⟨ret_bool HF.out.symm, HBW.out.trans (zq.2.mono hgw)⟩
      · by_cases h0 : k = 0
        · subst h0
          have d_2 : y.1.cell? ⟨bA, offA, none⟩ = some (.int .i64 c.1) := by simpa using d_0
          have d_3 : y.1.cell? ⟨bA, offA + 1, none⟩ = some (.int .i64 c.2) := by simpa using d_1
          go_wp2
          ((refine wp_region_kinK (W := W1) (by kernel_rfl) (by kernel_rfl) gRw ?_); (repeat' (first | go_big_quiet_step ((go_at_call 78; exact Kin.quiet _ (onGrid_is c _ hc))) | ((refine wpQuiet_guard rfl rfl rfl rfl (fun hg => ?_) (fun hg => ?_)) <;> (fail_if_success (first | guard_hyp hg : true = true | guard_hyp hg : false = false)) <;> (try simp only [decide_eq_true_eq, decide_eq_false_iff_not] at hg) <;> simp only [Act.put, List.setIfInBounds_toArray, List.set_cons_zero, List.set_cons_succ]))); all_goals ((with_reducible refine wpQuiet_nil ?_); intro zq hz))
          go_wp2
          go_roundw
          case rel => exact ⟨0 + 1, by omega, by go_num, Lib.hid (okTo_succ hok.out Hc.out hc (fun d h0 => absurd h0 (by omega))), zq, rfl⟩
          case measure => simp [intOf]; omega
        · have h00 : 0 < k := by omega
          obtain ⟨m, rfl⟩ : ∃ m, k = m + 1 := ⟨k - 1, by omega⟩
          obtain ⟨d, hd⟩ : ∃ el_, (l)[m]? = some el_ := ⟨_, List.getElem?_eq_getElem (by first | exact (by rw [HL.out]; omega) | omega)⟩
          have d_0 : w.cell? ⟨bA, offA + m * 2, none⟩ = some (.int .i64 d.1) := by exact HAc.out (m) _ hd 0 _ rfl
          have d_1 : w.cell? ⟨bA, offA + m * 2 + 1, none⟩ = some (.int .i64 d.2) := by exact HAc.out (m) _ hd 1 _ rfl
          have Hd := Lib.hid hd
          clear hd
          have e_0 : y.1.cell? ⟨bA, offA + m * 2, none⟩ = some (.int .i64 d.1) := (hyw.cell (p := ⟨bA, _, none⟩) hbA).trans d_0
          have e_1 : y.1.cell? ⟨bA, offA + m * 2 + 1, none⟩ = some (.int .i64 d.2) := (hyw.cell (p := ⟨bA, _, none⟩) hbA).trans d_1
          clear d_0 d_1
          have f_0 : y.1.cell? ⟨bA, offA + (m + 1) * 2, none⟩ = some (.int .i64 c.1) := by assumption
          have hw1 : IntKind.i64.wrap (((m + 1 : Nat) : Int) - 1) = (m : Int) := by rw [IntWalk.i64_in _ (by omega)]; omega
          have hw2 : ((m : Int) + 1) - 1 = (m : Int) := by omega
          have hw3 : IntKind.i64.wrap ((m : Int) + 1 - 1) = (m : Int) := by rw [IntWalk.i64_in _ (by omega)]; omega
          have hw4 : (0 : Int) < (m : Int) + 1 := by omega
          have hmn : m < n := by omega
          have hd : okc d = true := (hok.out m (by omega) d Hd.out).1
          cases hn : nb d c
          · have HF := Lib.hid (tval_false2 (r := r) (cl := cl) (stepOk_bad2 Hc.out (by omega) Hd.out hn))
            go_wp2
            ((refine wp_region_kinK (W := W1) (by kernel_rfl) (by kernel_rfl) gRw ?_); (repeat' (first | go_big_quiet_step (first | (go_at_call 78; exact Kin.quiet _ (onGrid_is c _ hc)) | (go_at_call 79; exact Kin.quiet _ (neighbors_is d c _ hd hc hn))) | ((refine wpQuiet_guard rfl rfl rfl rfl (fun hg => ?_) (fun hg => ?_)) <;> (fail_if_success (first | guard_hyp hg : true = true | guard_hyp hg : false = false)) <;> (try simp only [decide_eq_true_eq, decide_eq_false_iff_not] at hg) <;> simp only [Act.put, List.setIfInBounds_toArray, List.set_cons_zero, List.set_cons_succ]))); all_goals ((with_reducible refine wpQuiet_nil ?_); intro zq hz))
            go_wp2
            go_ret
            exact ⟨ret_bool HF.out.symm, HBW.out.trans (zq.2.mono hgw)⟩
          · have HPV := Lib.hid (show ∀ d', 0 < m + 1 → l[m + 1 - 1]? = some d' → nb d' c = true from fun d' _ hd' => by rw [Nat.add_sub_cancel, Hd.out] at hd'; injection hd' with hd'; rw [← hd']; exact hn)
            go_wp2
            ((refine wp_region_kinK (W := W1) (by kernel_rfl) (by kernel_rfl) gRw ?_); (repeat' (first | go_big_quiet_step (first | (go_at_call 78; exact Kin.quiet _ (onGrid_is c _ hc)) | (go_at_call 79; exact Kin.quiet _ (neighbors_is d c _ hd hc hn))) | ((refine wpQuiet_guard rfl rfl rfl rfl (fun hg => ?_) (fun hg => ?_)) <;> (fail_if_success (first | guard_hyp hg : true = true | guard_hyp hg : false = false)) <;> (try simp only [decide_eq_true_eq, decide_eq_false_iff_not] at hg) <;> simp only [Act.put, List.setIfInBounds_toArray, List.set_cons_zero, List.set_cons_succ]))); all_goals ((with_reducible refine wpQuiet_nil ?_); intro zq hz))
            go_wp2
            go_roundw
            case rel => exact ⟨m + 1 + 1, by omega, by go_num, Lib.hid (okTo_succ hok.out Hc.out hc HPV.out), zq, rfl⟩
            case measure => simp [intOf]; omega
    · have hkn : k = n := by omega
      subst hkn
      have HSO := Lib.hid (show stepOk l = true from okTo_all.1 (by rw [HL.out]; exact hok.out))
      have HE := Lib.hid (tval_end (r := r) (cl := cl) H4.out HSO.out)
      cases cl
      · go_wp2
        ((refine wp_region_kinK (W := W1) (by kernel_rfl) (by kernel_rfl) gRw ?_); (repeat' (first | go_big_quiet_step (fail) | ((refine wpQuiet_guard rfl rfl rfl rfl (fun hg => ?_) (fun hg => ?_)) <;> (fail_if_success (first | guard_hyp hg : true = true | guard_hyp hg : false = false)) <;> (try simp only [decide_eq_true_eq, decide_eq_false_iff_not] at hg) <;> simp only [Act.put, List.setIfInBounds_toArray, List.set_cons_zero, List.set_cons_succ]))); all_goals ((with_reducible refine wpQuiet_nil ?_); intro zq hz))
        go_wp2
        go_ret
        exact ⟨ret_bool HE.out.symm, HBW.out.trans (zq.2.mono hgw)⟩
      · by_cases hk1 : k = 1
        · go_wp2
          ((refine wp_region_kinK (W := W1) (by kernel_rfl) (by kernel_rfl) gRw ?_); (repeat' (first | go_big_quiet_step (fail) | ((refine wpQuiet_guard rfl rfl rfl rfl (fun hg => ?_) (fun hg => ?_)) <;> (fail_if_success (first | guard_hyp hg : true = true | guard_hyp hg : false = false)) <;> (try simp only [decide_eq_true_eq, decide_eq_false_iff_not] at hg) <;> simp only [Act.put, List.setIfInBounds_toArray, List.set_cons_zero, List.set_cons_succ]))); all_goals ((with_reducible refine wpQuiet_nil ?_); intro zq hz))
          go_wp2
          go_ret
          exact ⟨ret_bool (by rw [HE.out, HL.out, hk1]; rfl), HBW.out.trans (zq.2.mono hgw)⟩
        · obtain ⟨a, ha⟩ : ∃ el_, (l)[k - 1]? = some el_ := ⟨_, List.getElem?_eq_getElem (by first | exact (by rw [HL.out]; omega) | omega)⟩
          obtain ⟨bA, offA, rfl, hbA, hcA⟩ := HA.out (k - 1) _ ha
          have a_0 : w.cell? ⟨bA, offA + (k - 1) * 2, none⟩ = some (.int .i64 a.1) := by exact hcA (k - 1) _ ha 0 _ rfl
          have a_1 : w.cell? ⟨bA, offA + (k - 1) * 2 + 1, none⟩ = some (.int .i64 a.2) := by exact hcA (k - 1) _ ha 1 _ rfl
          have hbA2 : bA < w.heap.size + 1 := by omega
          have HAc := Lib.hid hcA
          have Ha := Lib.hid ha
          clear ha hcA
          obtain ⟨b, hb⟩ : ∃ el_, (l)[0]? = some el_ := ⟨_, List.getElem?_eq_getElem (by first | exact (by rw [HL.out]; omega) | omega)⟩
          have b_0 : w.cell? ⟨bA, offA + 0 * 2, none⟩ = some (.int .i64 b.1) := by exact HAc.out (0) _ hb 0 _ rfl
          have b_1 : w.cell? ⟨bA, offA + 0 * 2 + 1, none⟩ = some (.int .i64 b.2) := by exact HAc.out (0) _ hb 1 _ rfl
          have Hb := Lib.hid hb
          clear hb
          have e_0 : y.1.cell? ⟨bA, offA + (k - 1) * 2, none⟩ = some (.int .i64 a.1) := (hyw.cell (p := ⟨bA, _, none⟩) hbA).trans a_0
          have e_1 : y.1.cell? ⟨bA, offA + (k - 1) * 2 + 1, none⟩ = some (.int .i64 a.2) := (hyw.cell (p := ⟨bA, _, none⟩) hbA).trans a_1
          have f_0 : y.1.cell? ⟨bA, offA, none⟩ = some (.int .i64 b.1) := (hyw.cell (p := ⟨bA, _, none⟩) hbA).trans (by simpa using b_0)
          have f_1 : y.1.cell? ⟨bA, offA + 1, none⟩ = some (.int .i64 b.2) := (hyw.cell (p := ⟨bA, _, none⟩) hbA).trans (by simpa using b_1)
          have hbA3 : bA < y.1.heap.size := Nat.lt_of_lt_of_le hbA hyw.size
          clear a_0 a_1 b_0 b_1 hbA2
          have hw1 : IntKind.i64.wrap ((k : Int) - 1) = (k : Int) - 1 := IntWalk.i64_in _ (by omega)
          have hw2 : 0 ≤ (k : Int) - 1 := by omega
          have hw3 : ((k : Int) - 1).toNat = k - 1 := by omega
          have hw4 : k - 1 < k := by omega
          have hw5 : (k : Int) - 1 < (k : Int) := by omega
          have hw6 : ¬ (k : Int) = 1 := by omega
          have hw7 : ((k : Int) == 1) = false := by simp; omega
          have h0k : 0 < k := by omega
          have ha : okc a = true := stepOk_ok HSO.out Ha.out
          have hb : okc b = true := stepOk_ok HSO.out Hb.out
          have HEN := Lib.hid (show tval ((r, true), l) = nb a b by
            rw [HE.out, endsOk_of (by rw [HL.out]; exact Ha.out) Hb.out, HL.out]; simp [hk1])
          cases hr : nb a b
          · have HRR := Lib.hid (HEN.out.trans hr)
            go_wp2
            ((refine wp_region_kinK (W := W1) (by kernel_rfl) (by kernel_rfl) gRw ?_); (repeat' (first | go_big_quiet_step ((go_at_call 79; exact Kin.quiet _ (neighbors_is a b _ ha hb hr))) | ((refine wpQuiet_guard rfl rfl rfl rfl (fun hg => ?_) (fun hg => ?_)) <;> (fail_if_success (first | guard_hyp hg : true = true | guard_hyp hg : false = false)) <;> (try simp only [decide_eq_true_eq, decide_eq_false_iff_not] at hg) <;> simp only [Act.put, List.setIfInBounds_toArray, List.set_cons_zero, List.set_cons_succ]))); all_goals ((with_reducible refine wpQuiet_nil ?_); intro zq hz))
            go_wp2
            go_ret
            exact ⟨ret_bool HRR.out.symm, HBW.out.trans (zq.2.mono hgw)⟩
          · have HRR := Lib.hid (HEN.out.trans hr)
            go_wp2
            ((refine wp_region_kinK (W := W1) (by kernel_rfl) (by kernel_rfl) gRw ?_); (repeat' (first | go_big_quiet_step ((go_at_call 79; exact Kin.quiet _ (neighbors_is a b _ ha hb hr))) | ((refine wpQuiet_guard rfl rfl rfl rfl (fun hg => ?_) (fun hg => ?_)) <;> (fail_if_success (first | guard_hyp hg : true = true | guard_hyp hg : false = false)) <;> (try simp only [decide_eq_true_eq, decide_eq_false_iff_not] at hg) <;> simp only [Act.put, List.setIfInBounds_toArray, List.set_cons_zero, List.set_cons_succ]))); all_goals ((with_reducible refine wpQuiet_nil ?_); intro zq hz))
            go_wp2
            go_ret
            exact ⟨ret_bool HRR.out.symm, HBW.out.trans (zq.2.mono hgw)⟩
end Go.Proofs.YtneelidbgigehaaGreat

/- Tracks in memory: words for the walks. -/
namespace Go.Proofs.YtneelidbgigehaaGreat
set_option linter.unusedSimpArgs false
set_option linter.unusedVariables false
set_option maxRecDepth 100000
open Go.RowKit Trk
attribute [local go_sem] Kin.cell Kin.frozen Kin.lt0 Kin.lt1 Kin.lt2 Kin.lt3
/-- a track as a value: its cells lie in memory -/
def RdT (W : World) (v : Value) (t : Tr) : Prop := ∃ (A : Option Addr) (cap : Nat), v = tv t.1.1 t.1.2 A t.2.length cap ∧ Rd 2 encPt W (.slice A t.2.length cap) t.2
theorem RdT.below {W W' : World} {v : Value} {t : Tr} (h : RdT W v t) (hb : Below W.heap.size W W') : RdT W' v t := by
  obtain ⟨A, cap, h1, h2⟩ := h; exact ⟨A, cap, h1, h2.below hb⟩
theorem validT_is {b : Bool} {n : Nat} (r : Int) (cl : Bool) (A : Option Addr) (cap : Nat) (l : List Cl) (w : World) (hn : l.length = n) (h : Rd 2 encPt w (.slice A n cap) l) (hb : tval ((r, cl), l) = b) :
    Calls Tryz.prog 39 #[tv r cl A n cap] w fun e w' => e = .returned (.bool b) ∧ Below w.heap.size w w' := by subst hn; rw [← hb]; exact validT r cl A cap l w h
end Go.Proofs.YtneelidbgigehaaGreat

/- rotated and Turned, walked. -/
namespace Go.Proofs.YtneelidbgigehaaGreat
set_option linter.unusedSimpArgs false
set_option linter.unusedVariables false
set_option maxRecDepth 100000
open Go.RowKit Trk
attribute [local go_sem] Kin.cell Kin.frozen Kin.lt0 Kin.lt1 Kin.lt2 Kin.lt3
/-- what a slice's rest reads -/
theorem Rd.drop {α : Type} {k : Nat} {enc : α → List Value} {W : World} {A : Option Addr} {n c m : Nat} {xs : List α} (h : Rd k enc W (.slice A n c) xs) (hm : m ≤ n) :
    Rd k enc W (.slice (if c = m then A else A.map (fun x => x.add (m * k))) (n - m) (c - m)) (xs.drop m) := by
  obtain ⟨A', c', e, hc, ho⟩ := h
  injection e with e1 e2 e3
  subst e1 e2 e3
  refine ⟨_, _, by rw [List.length_drop], by rw [List.length_drop]; omega, ?_⟩
  by_cases hcm : c = m
  · left; exact List.drop_of_length_le (by omega)
  · rcases ho with ho | ⟨b, off, rfl, hb, hcell⟩
    · left; rw [ho]; simp
    · right
      refine ⟨b, off + m * k, by rw [if_neg hcm, Option.map_some]; unfold Addr.add; split <;> simp_all, hb, fun i x hx j u hu => ?_⟩
      rw [List.getElem?_drop] at hx
      have := hcell (m + i) x hx j u hu
      rw [Nat.add_mul] at this
      rw [show off + m * k + i * k + j = off + (m * k + i * k) + j by omega]
      exact this
end Go.Proofs.YtneelidbgigehaaGreat

/- Once: plain laws. -/
namespace Go.Proofs.YtneelidbgigehaaGreat
set_option linter.unusedSimpArgs false
set_option linter.unusedVariables false
namespace Trk
/-- the last track gets another cell -/
def addLast (xs : List Tr) (c : Cl) : List Tr := match xs.getLast? with | some x => xs.dropLast ++ [(x.1, x.2 ++ [c])] | none => xs
theorem addLast_snoc (E : List Tr) (x : Tr) (c : Cl) : addLast (E ++ [x]) c = E ++ [(x.1, x.2 ++ [c])] := by simp [addLast]
/-- the pieces of the first i cells -/
def pcsTo (r : Int) (l : List Cl) (ks : List Bool) : Nat → List Tr
  | 0 => []
  | i + 1 => match l[i]?, ks[i]? with
    | some c, some true => if i = 0 ∨ ks[i - 1]? = some false then pcsTo r l ks i ++ [((r, false), [c])] else addLast (pcsTo r l ks i) c
    | _, _ => pcsTo r l ks i
theorem pcsTo_skip {r : Int} {l : List Cl} {ks : List Bool} {i : Nat} (hk : ks[i]? = some false) : pcsTo r l ks (i + 1) = pcsTo r l ks i := by
  rw [pcsTo, hk]; split <;> simp_all
theorem pcsTo_new {r : Int} {l : List Cl} {ks : List Bool} {i : Nat} {c : Cl} (hc : l[i]? = some c) (hk : ks[i]? = some true) (h : i = 0 ∨ ks[i - 1]? = some false) : pcsTo r l ks (i + 1) = pcsTo r l ks i ++ [((r, false), [c])] := by
  rw [pcsTo, hk, hc]; simp only; rw [if_pos h]
theorem pcsTo_more {r : Int} {l : List Cl} {ks : List Bool} {i : Nat} {c : Cl} (hc : l[i]? = some c) (hk : ks[i]? = some true) (h : ¬ (i = 0 ∨ ks[i - 1]? = some false)) : pcsTo r l ks (i + 1) = addLast (pcsTo r l ks i) c := by
  rw [pcsTo, hk, hc]; simp only; rw [if_neg h]
theorem addLast_ne {xs : List Tr} {c : Cl} (h : xs ≠ []) : addLast xs c ≠ [] := by
  rcases List.eq_nil_or_concat xs with h0 | ⟨E, x, h0⟩
  · exact absurd h0 h
  · subst h0; rw [List.concat_eq_append, addLast_snoc]; simp
theorem pcsTo_ne {r : Int} {l : List Cl} {ks : List Bool} : ∀ {i : Nat}, i < l.length → ks[i]? = some true → pcsTo r l ks (i + 1) ≠ []
  | 0, hi, hk => by
    rw [pcsTo_new (List.getElem?_eq_getElem hi) hk (.inl rfl)]; simp
  | i + 1, hi, hk => by
    by_cases h : ks[i + 1 - 1]? = some false
    · rw [pcsTo_new (List.getElem?_eq_getElem hi) hk (.inr h)]; simp
    · rw [pcsTo_more (List.getElem?_eq_getElem hi) hk (by rintro (h1 | h1); omega; exact h h1)]
      have h2 : ks[i]? = some true := by
        have hlt := (List.getElem?_eq_some_iff.1 hk).1
        cases hb : ks[i]? with
        | none => rw [List.getElem?_eq_none_iff] at hb; omega
        | some b =>
          cases b
          · exact absurd hb (by simpa using h)
          · rfl
      exact addLast_ne (pcsTo_ne (by omega) h2)
theorem addLast_len (xs : List Tr) (c : Cl) : (addLast xs c).length = xs.length := by
  rcases List.eq_nil_or_concat xs with h0 | ⟨E, x, h0⟩
  · subst h0; rfl
  · subst h0; rw [List.concat_eq_append, addLast_snoc]; simp
theorem pcsTo_len (r : Int) (l : List Cl) (ks : List Bool) : ∀ i, (pcsTo r l ks i).length ≤ i
  | 0 => by simp [pcsTo]
  | i + 1 => by
    have ih := pcsTo_len r l ks i
    rw [pcsTo]
    split
    · split
      · simp; omega
      · rw [addLast_len]; omega
    · omega
theorem pcsTo_cells (r : Int) (l : List Cl) (ks : List Bool) : ∀ i, ∀ t ∈ pcsTo r l ks i, t.2.length ≤ i
  | 0, t, ht => by simp [pcsTo] at ht
  | i + 1, t, ht => by
    have ih := pcsTo_cells r l ks i
    rw [pcsTo] at ht
    split at ht
    · split at ht
      · rcases List.mem_append.1 ht with h | h
        · have := ih t h; omega
        · rw [List.mem_singleton] at h; rw [h]; simp
      · rcases List.eq_nil_or_concat (pcsTo r l ks i) with h0 | ⟨E, x, h0⟩
        · rw [h0] at ht; simp [addLast] at ht
        · rw [h0, List.concat_eq_append, addLast_snoc] at ht
          rcases List.mem_append.1 ht with h | h
          · have := ih t (by rw [h0]; simp [h]); omega
          · rw [List.mem_singleton] at h
            have := ih x (by rw [h0]; simp)
            rw [h]; simp; omega
    · have := ih t ht; omega
/-- which cells occur for the first time, S having occurred before -/
def keptL (S : List Cl) : List Cl → List Bool
  | [] => []
  | c :: r => (!S.contains c) :: keptL (c :: S) r
theorem keptL_len : ∀ (l S : List Cl), (keptL S l).length = l.length
  | [], _ => rfl
  | c :: r, S => by simp [keptL, keptL_len r]
theorem keptL_snoc : ∀ (l S : List Cl) (c : Cl), keptL S (l ++ [c]) = keptL S l ++ [!((l.reverse ++ S).contains c)]
  | [], S, c => rfl
  | d :: r, S, c => by
    rw [List.cons_append, keptL, keptL, keptL_snoc r (d :: S) c]
    simp
def pcsT (t : Tr) (ks : List Bool) : List Tr := pcsTo t.1.1 t.2 ks t.2.length
def oncS (st : List Tr × List Cl) (t : Tr) : List Tr × List Cl :=
  if tval t then (st.1 ++ (if (keptL st.2 t.2).all id then [t] else pcsT t (keptL st.2 t.2)), t.2.reverse ++ st.2) else st
def oncTo (l : List Tr) (k : Nat) : List Tr × List Cl := (l.take k).foldl oncS ([], [])
def oncT (l : List Tr) : List Tr := (l.foldl oncS ([], [])).1
theorem oncTo_succ {l : List Tr} {k : Nat} {t : Tr} (h : l[k]? = some t) : oncTo l (k + 1) = oncS (oncTo l k) t := by
  unfold oncTo
  rw [List.take_add_one, h]; simp
theorem oncTo_all (l : List Tr) : (oncTo l l.length).1 = oncT l := by unfold oncTo oncT; rw [List.take_length]
theorem oncTo_bd (l : List Tr) : ∀ k, (oncTo l k).1.length ≤ 65537 * k ∧ (oncTo l k).2.length ≤ 65536 * k
  | 0 => by simp [oncTo]
  | k + 1 => by
    have ih := oncTo_bd l k
    cases hk : l[k]? with
    | none =>
      have : oncTo l (k + 1) = oncTo l k := by
        unfold oncTo
        rw [List.take_add_one, hk]; simp
      rw [this]; omega
    | some t =>
      rw [oncTo_succ hk]
      unfold oncS
      split
      · rename_i hv
        have ht := (tval_len hv).2.2
        constructor
        · rw [List.length_append]
          split
          · simp; omega
          · have := pcsTo_len t.1.1 t.2 (keptL (oncTo l k).2 t.2) t.2.length
            unfold pcsT; omega
        · simp; omega
      · omega
end Trk
end Go.Proofs.YtneelidbgigehaaGreat

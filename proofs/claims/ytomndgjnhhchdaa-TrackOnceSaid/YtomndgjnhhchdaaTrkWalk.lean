/- Tracks: Valid of the program and of the chapter, walked. -/
import Derived.Test.YtomndgjnhhchdaaRegCells
import Derived.Test.YtomndgjnhhchdaaTrkMath
namespace Go.Proofs.Ytomndgjnhhchdaa
set_option linter.unusedSimpArgs false
set_option linter.unusedVariables false
set_option maxRecDepth 100000
open Go.RowKit Trk
attribute [local go_sem] Kin.cell Kin.frozen Kin.lt0 Kin.lt1 Kin.lt2 Kin.lt3
abbrev cv (c : Cl) : Value := .agg #[.int .i64 c.1, .int .i64 c.2]
abbrev tv (r : Int) (cl : Bool) (A : Option Addr) (n cap : Nat) : Value := .agg #[.int .i64 r, .bool cl, .slice A n cap]
theorem onGrid_is {b : Bool} (c : Cl) (w : World) (h : okc c = b) : Calls Try.prog 34 #[cv c] w fun e w' => e = .returned (.bool b) ∧ Below w.heap.size w w' := by
  subst h
  go_enter Try.func34, Try.ntmps34
  go_wp2
  all_goals
    go_ret
    exact ⟨ret_bool (by simp [okc, *] <;> omega), (by repeat (first | with_reducible (first | exact blA | exact blB | refine blC _ ?_ | refine blD ?_ ?_ _ | refine blE ?_ | refine blF _ ?_ | refine blG ?_ _ | refine blH ?_ | refine blI ?_ ?_ _) | (simp only [World.size_alloc]; omega) | (simp <;> omega)))⟩
theorem onGrid_isR {b : Bool} (c : Cl) (w : World) (h : okc c = b) : Calls Try.prog 36 #[cv c] w fun e w' => e = .returned (.bool b) ∧ Below w.heap.size w w' := by
  subst h
  go_enter Try.func36, Try.ntmps36
  go_wp2
  all_goals
    go_ret
    exact ⟨ret_bool (by simp [okc, *] <;> omega), (by repeat (first | with_reducible (first | exact blA | exact blB | refine blC _ ?_ | refine blD ?_ ?_ _ | refine blE ?_ | refine blF _ ?_ | refine blG ?_ _ | refine blH ?_ | refine blI ?_ ?_ _) | (simp only [World.size_alloc]; omega) | (simp <;> omega)))⟩
theorem sq_bd {x : Int} (h : -8192 ≤ x ∧ x ≤ 8192) : 0 ≤ x * x ∧ x * x ≤ 67108864 := by
  rcases Int.le_total 0 x with h0 | h0
  · exact ⟨Int.mul_nonneg h0 h0, Int.le_trans (Int.mul_le_mul_of_nonneg_right h.2 h0) (by omega)⟩
  · have k1 := Int.mul_nonneg (Int.neg_nonneg.2 h0) (Int.neg_nonneg.2 h0)
    have k2 := Int.mul_le_mul_of_nonneg_right (show -x ≤ 8192 by omega) (show 0 ≤ -x by omega)
    rw [Int.neg_mul_neg] at k1 k2
    exact ⟨k1, Int.le_trans k2 (by omega)⟩
set_option maxHeartbeats 1000000 in
theorem neighbors_is {r : Bool} (a b : Cl) (w : World) (ha : okc a = true) (hb : okc b = true) (h : nb a b = r) : Calls Try.prog 35 #[cv a, cv b] w fun e w' => e = .returned (.bool r) ∧ Below w.heap.size w w' := by
  subst h
  have h1 := okc_iff.1 ha
  have h2 := okc_iff.1 hb
  have e1 : IntKind.i64.wrap (a.1 - b.1) = a.1 - b.1 := IntWalk.i64_in _ (by omega)
  have e2 : IntKind.i64.wrap (a.2 - b.2) = a.2 - b.2 := IntWalk.i64_in _ (by omega)
  have s1 := sq_bd (x := a.1 - b.1) (by omega)
  have s2 := sq_bd (x := a.2 - b.2) (by omega)
  have e3 : IntKind.i64.wrap ((a.1 - b.1) * (a.1 - b.1)) = (a.1 - b.1) * (a.1 - b.1) := IntWalk.i64_in _ (by omega)
  have e4 : IntKind.i64.wrap ((a.2 - b.2) * (a.2 - b.2)) = (a.2 - b.2) * (a.2 - b.2) := IntWalk.i64_in _ (by omega)
  have e5 : IntKind.i64.wrap ((a.1 - b.1) * (a.1 - b.1) + (a.2 - b.2) * (a.2 - b.2)) = (a.1 - b.1) * (a.1 - b.1) + (a.2 - b.2) * (a.2 - b.2) := IntWalk.i64_in _ (by omega)
  go_enter Try.func35, Try.ntmps35
  go_wp2
  ((first | refine wp_region_kin _ (by kernel_rfl) (by kernel_rfl) ?_ | refine wp_region_kin0 (by kernel_rfl) (by kernel_rfl) ?_); (repeat' (first | go_big_quiet_step (fail) | ((refine wpQuiet_guard rfl rfl rfl rfl (fun hg => ?_) (fun hg => ?_)) <;> (fail_if_success (first | guard_hyp hg : true = true | guard_hyp hg : false = false)) <;> (try simp only [decide_eq_true_eq, decide_eq_false_iff_not] at hg) <;> simp only [Act.put, List.setIfInBounds_toArray, List.set_cons_zero, List.set_cons_succ]))); all_goals ((with_reducible refine wpQuiet_nil ?_); rintro _ ⟨z, rfl⟩))
  go_wp2
  go_ret
  exact ⟨ret_bool (by simp [nb, e1, e2, e3, e4, e5]; try rfl), (by repeat (first | with_reducible (first | exact blA | exact blB | refine blC _ ?_ | refine blD ?_ ?_ _ | refine blE ?_ | refine blF _ ?_ | refine blG ?_ _ | refine blH ?_ | refine blI ?_ ?_ _) | (simp only [World.size_alloc]; omega) | (simp <;> omega)))⟩
theorem size_any (x : Int) (w : World) (h : -1000000 ≤ x ∧ x ≤ 1000000) : Calls Try.prog 48 #[.int .i64 x] w fun e w' => e = .returned (.int .i64 (max x (-x))) ∧ Below w.heap.size w w' := by
  have e1 : IntKind.i64.wrap (-x) = -x := IntWalk.i64_in _ (by omega)
  go_enter Try.func48, Try.ntmps48
  go_wp2
  all_goals
    go_ret
    exact ⟨ret_int (by first | omega | (simp [e1]; omega) | rfl), (by repeat (first | with_reducible (first | exact blA | exact blB | refine blC _ ?_ | refine blD ?_ ?_ _ | refine blE ?_ | refine blF _ ?_ | refine blG ?_ _ | refine blH ?_ | refine blI ?_ ?_ _) | (simp only [World.size_alloc]; omega) | (simp <;> omega)))⟩
set_option maxHeartbeats 1000000 in
theorem neighbors_isR {r : Bool} (a b : Cl) (w : World) (ha : okc a = true) (hb : okc b = true) (h : nb a b = r) : Calls Try.prog 37 #[cv a, cv b] w fun e w' => e = .returned (.bool r) ∧ Below w.heap.size w w' := by
  subst h
  rw [← nb_abs]
  have h1 := okc_iff.1 ha
  have h2 := okc_iff.1 hb
  have e1 : IntKind.i64.wrap (a.1 - b.1) = a.1 - b.1 := IntWalk.i64_in _ (by omega)
  have e2 : IntKind.i64.wrap (a.2 - b.2) = a.2 - b.2 := IntWalk.i64_in _ (by omega)
  have e5 : IntKind.i64.wrap (max (a.1 - b.1) (-(a.1 - b.1)) + max (a.2 - b.2) (-(a.2 - b.2))) = max (a.1 - b.1) (-(a.1 - b.1)) + max (a.2 - b.2) (-(a.2 - b.2)) := IntWalk.i64_in _ (by omega)
  go_enter Try.func37, Try.ntmps37
  go_wp2
  ((first | refine wp_region_kin _ (by kernel_rfl) (by kernel_rfl) ?_ | refine wp_region_kin0 (by kernel_rfl) (by kernel_rfl) ?_); (repeat' (first | go_big_quiet_step ((go_at_call 48; exact Kin.quiet _ (size_any _ _ (by omega)))) | ((refine wpQuiet_guard rfl rfl rfl rfl (fun hg => ?_) (fun hg => ?_)) <;> (fail_if_success (first | guard_hyp hg : true = true | guard_hyp hg : false = false)) <;> (try simp only [decide_eq_true_eq, decide_eq_false_iff_not] at hg) <;> simp only [Act.put, List.setIfInBounds_toArray, List.set_cons_zero, List.set_cons_succ]))); all_goals ((with_reducible refine wpQuiet_nil ?_); rintro _ ⟨z, rfl⟩))
  go_wp2
  go_ret
  exact ⟨ret_bool (by simp [nbA, e1, e2, e5]; try rfl), (by repeat (first | with_reducible (first | exact blA | exact blB | refine blC _ ?_ | refine blD ?_ ?_ _ | refine blE ?_ | refine blF _ ?_ | refine blG ?_ _ | refine blH ?_ | refine blI ?_ ?_ _) | (simp only [World.size_alloc]; omega) | (simp <;> omega)))⟩
set_option maxHeartbeats 16000000 in
theorem validT (r : Int) (cl : Bool) (A : Option Addr) (cap : Nat) (l : List Cl) (w : World) (h : Rd 2 encPt w (.slice A l.length cap) l) :
    Calls Try.prog 11 #[tv r cl A l.length cap] w fun e w' => e = .returned (.bool (tval ((r, cl), l))) ∧ Below w.heap.size w w' := by
  by_cases h4 : 1 ≤ r ∧ r ≤ 7 ∧ 1 ≤ l.length ∧ l.length ≤ 65536
  case neg =>
    rw [tval_false1 (cl := cl) h4]
    clear h
    obtain ⟨n, hL⟩ : ∃ n, l.length = n := ⟨_, rfl⟩
    rw [hL] at h4 ⊢
    clear hL
    by_cases h1 : r < 1
    · go_enter Try.func11, Try.ntmps11
      go_wp2
      go_ret
      exact ⟨rfl, (by repeat (first | with_reducible (first | exact blA | exact blB | refine blC _ ?_ | refine blD ?_ ?_ _ | refine blE ?_ | refine blF _ ?_ | refine blG ?_ _ | refine blH ?_ | refine blI ?_ ?_ _) | (simp only [World.size_alloc]; omega) | (simp <;> omega)))⟩
    · by_cases h2 : 7 < r
      · go_enter Try.func11, Try.ntmps11
        go_wp2
        go_ret
        exact ⟨rfl, (by repeat (first | with_reducible (first | exact blA | exact blB | refine blC _ ?_ | refine blD ?_ ?_ _ | refine blE ?_ | refine blF _ ?_ | refine blG ?_ _ | refine blH ?_ | refine blI ?_ ?_ _) | (simp only [World.size_alloc]; omega) | (simp <;> omega)))⟩
      · by_cases h3 : n < 1
        · go_enter Try.func11, Try.ntmps11
          go_wp2
          go_ret
          exact ⟨rfl, (by repeat (first | with_reducible (first | exact blA | exact blB | refine blC _ ?_ | refine blD ?_ ?_ _ | refine blE ?_ | refine blF _ ?_ | refine blG ?_ _ | refine blH ?_ | refine blI ?_ ?_ _) | (simp only [World.size_alloc]; omega) | (simp <;> omega)))⟩
        · have h5 : 65536 < n := by omega
          clear h4
          go_enter Try.func11, Try.ntmps11
          go_wp2
          go_ret
          exact ⟨rfl, (by repeat (first | with_reducible (first | exact blA | exact blB | refine blC _ ?_ | refine blD ?_ ?_ _ | refine blE ?_ | refine blF _ ?_ | refine blG ?_ _ | refine blH ?_ | refine blI ?_ ?_ _) | (simp only [World.size_alloc]; omega) | (simp <;> omega)))⟩
  have HA := Lib.hid (Rd.op h)
  have HLA := Lib.hid h
  clear h
  obtain ⟨n, hL⟩ : ∃ n, l.length = n := ⟨_, rfl⟩
  have HL := Lib.hid hL
  have H4 := Lib.hid h4
  rw [hL] at h4 HLA ⊢
  clear hL
  obtain ⟨h1, h2, h3, h5⟩ := h4
  obtain ⟨W1, hW1⟩ : ∃ W1, W1 = w.alloc (.cells #[.int .i64 r, .bool cl, .slice A n cap] 24) := ⟨_, rfl⟩
  have HB1 := Lib.hid (show Blk W1 w.heap.size 24 #[.int .i64 r, .bool cl, .slice A n cap] from hW1 ▸ Blk.new _ _ _)
  have HBW := Lib.hid (show Below w.heap.size w W1 from hW1 ▸ (by repeat (first | with_reducible (first | exact blA | exact blB | refine blC _ ?_ | refine blD ?_ ?_ _ | refine blE ?_ | refine blF _ ?_ | refine blG ?_ _ | refine blH ?_ | refine blI ?_ ?_ _) | (simp only [World.size_alloc]; omega) | (simp <;> omega))))
  go_enter Try.func11, Try.ntmps11
  go_wp2
  rw [← hW1]
  clear hW1
  go_loopw [28] (fun i wr => ∃ k : Nat, k ≤ n ∧ i = .int .i64 k ∧ Hid (okTo l k) ∧ ∃ y : Kin W1, y.1 = wr) (fun i _ => n - (intOf i).toNat)
  case atStart => exact ⟨0, Nat.zero_le _, rfl, Lib.hid (fun i hi => absurd hi (by omega)), ⟨W1, Below.refl _ _⟩, rfl⟩
  case round =>
    obtain ⟨k, hk, rfl, hok, y, rfl⟩ := hrel
    have q2 : y.1.cell? ⟨w.heap.size, 2, none⟩ = some (.slice A n cap) := (HB1.out.below y.2).cell 2
    have q1 : y.1.cell? ⟨w.heap.size, 1, none⟩ = some (.bool cl) := (HB1.out.below y.2).cell 1
    have ql : w.heap.size < y.1.heap.size := (HB1.out.below y.2).lt
    have hyw : Below w.heap.size w y.1 := HBW.out.trans (y.2.mono HBW.out.size)
    have hgw := HBW.out.size
    by_cases hlt : k < n
    · obtain ⟨c, hc⟩ : ∃ el_, (l)[k]? = some el_ := ⟨_, List.getElem?_eq_getElem (by first | exact (by rw [HL.out]; exact hlt) | omega)⟩
      obtain ⟨bA, offA, rfl, hbA, hcA⟩ := HA.out (k) _ hc
      have c_0 : w.cell? ⟨bA, offA + k * 2, none⟩ = some (.int .i64 c.1) := by exact hcA (k) _ hc 0 _ rfl
      have c_1 : w.cell? ⟨bA, offA + k * 2 + 1, none⟩ = some (.int .i64 c.2) := by exact hcA (k) _ hc 1 _ rfl
      have hbA2 : bA < w.heap.size + 1 := by omega
      have HAc := Lib.hid hcA
      have Hc := Lib.hid hc
      clear hc hcA
      have d_0 : y.1.cell? ⟨bA, offA + k * 2, none⟩ = some (.int .i64 c.1) := (hyw.cell (p := ⟨bA, _, none⟩) hbA).trans c_0
      have d_1 : y.1.cell? ⟨bA, offA + k * 2 + 1, none⟩ = some (.int .i64 c.2) := (hyw.cell (p := ⟨bA, _, none⟩) hbA).trans c_1
      have hbA3 : bA < y.1.heap.size := Nat.lt_of_lt_of_le hbA hyw.size
      clear c_0 c_1 hbA2
      cases hc : okc c
      · have HF := Lib.hid (tval_false2 (r := r) (cl := cl) (stepOk_bad1 Hc.out hc))
        go_wp2
        ((refine wp_region_kinK (W := W1) (by kernel_rfl) (by kernel_rfl) (by repeat (first | with_reducible (first | exact blA | exact blB | refine blC _ ?_ | refine blD ?_ ?_ _ | refine blE ?_ | refine blF _ ?_ | refine blG ?_ _ | refine blH ?_ | refine blI ?_ ?_ _) | (simp only [World.size_alloc]; omega) | (simp <;> omega))) ?_); (repeat' (first | go_big_quiet_step ((go_at_call 34; exact Kin.quiet _ (onGrid_is c _ hc))) | ((refine wpQuiet_guard rfl rfl rfl rfl (fun hg => ?_) (fun hg => ?_)) <;> (fail_if_success (first | guard_hyp hg : true = true | guard_hyp hg : false = false)) <;> (try simp only [decide_eq_true_eq, decide_eq_false_iff_not] at hg) <;> simp only [Act.put, List.setIfInBounds_toArray, List.set_cons_zero, List.set_cons_succ]))); all_goals ((with_reducible refine wpQuiet_nil ?_); intro zq hz))
        go_wp2
        go_ret
        exact ⟨ret_bool HF.out.symm, HBW.out.trans (zq.2.mono hgw)⟩
      · by_cases h0 : k = 0
        · subst h0
          have d_2 : y.1.cell? ⟨bA, offA, none⟩ = some (.int .i64 c.1) := by simpa using d_0
          have d_3 : y.1.cell? ⟨bA, offA + 1, none⟩ = some (.int .i64 c.2) := by simpa using d_1
          go_wp2
          ((refine wp_region_kinK (W := W1) (by kernel_rfl) (by kernel_rfl) (by repeat (first | with_reducible (first | exact blA | exact blB | refine blC _ ?_ | refine blD ?_ ?_ _ | refine blE ?_ | refine blF _ ?_ | refine blG ?_ _ | refine blH ?_ | refine blI ?_ ?_ _) | (simp only [World.size_alloc]; omega) | (simp <;> omega))) ?_); (repeat' (first | go_big_quiet_step ((go_at_call 34; exact Kin.quiet _ (onGrid_is c _ hc))) | ((refine wpQuiet_guard rfl rfl rfl rfl (fun hg => ?_) (fun hg => ?_)) <;> (fail_if_success (first | guard_hyp hg : true = true | guard_hyp hg : false = false)) <;> (try simp only [decide_eq_true_eq, decide_eq_false_iff_not] at hg) <;> simp only [Act.put, List.setIfInBounds_toArray, List.set_cons_zero, List.set_cons_succ]))); all_goals ((with_reducible refine wpQuiet_nil ?_); intro zq hz))
          go_wp2
          go_roundw
          case rel => exact ⟨0 + 1, by omega, by go_num, Lib.hid (okTo_succ hok.out Hc.out hc (fun d h0 => absurd h0 (by omega))), zq, rfl⟩
          case measure => simp [intOf]; omega
        · have h00 : 0 < k := by omega
          obtain ⟨m, rfl⟩ : ∃ m, k = m + 1 := ⟨k - 1, by omega⟩
          obtain ⟨d, hd⟩ : ∃ el_, (l)[m]? = some el_ := ⟨_, List.getElem?_eq_getElem (by first | exact (by rw [HL.out]; omega) | omega)⟩
          have d_0 : w.cell? ⟨bA, offA + m * 2, none⟩ = some (.int .i64 d.1) := by exact HAc.out (m) _ hd 0 _ rfl
          have d_1 : w.cell? ⟨bA, offA + m * 2 + 1, none⟩ = some (.int .i64 d.2) := by exact HAc.out (m) _ hd 1 _ rfl
          have Hd := Lib.hid hd
          clear hd
          have e_0 : y.1.cell? ⟨bA, offA + m * 2, none⟩ = some (.int .i64 d.1) := (hyw.cell (p := ⟨bA, _, none⟩) hbA).trans d_0
          have e_1 : y.1.cell? ⟨bA, offA + m * 2 + 1, none⟩ = some (.int .i64 d.2) := (hyw.cell (p := ⟨bA, _, none⟩) hbA).trans d_1
          clear d_0 d_1
          have f_0 : y.1.cell? ⟨bA, offA + (m + 1) * 2, none⟩ = some (.int .i64 c.1) := by assumption
          have hw1 : IntKind.i64.wrap (((m + 1 : Nat) : Int) - 1) = (m : Int) := by rw [IntWalk.i64_in _ (by omega)]; omega
          have hw2 : ((m : Int) + 1) - 1 = (m : Int) := by omega
          have hw3 : IntKind.i64.wrap ((m : Int) + 1 - 1) = (m : Int) := by rw [IntWalk.i64_in _ (by omega)]; omega
          have hw4 : (0 : Int) < (m : Int) + 1 := by omega
          have hmn : m < n := by omega
          have hd : okc d = true := (hok.out m (by omega) d Hd.out).1
          cases hn : nb d c
          · have HF := Lib.hid (tval_false2 (r := r) (cl := cl) (stepOk_bad2 Hc.out (by omega) Hd.out hn))
            go_wp2
            ((refine wp_region_kinK (W := W1) (by kernel_rfl) (by kernel_rfl) (by repeat (first | with_reducible (first | exact blA | exact blB | refine blC _ ?_ | refine blD ?_ ?_ _ | refine blE ?_ | refine blF _ ?_ | refine blG ?_ _ | refine blH ?_ | refine blI ?_ ?_ _) | (simp only [World.size_alloc]; omega) | (simp <;> omega))) ?_); (repeat' (first | go_big_quiet_step (first | (go_at_call 34; exact Kin.quiet _ (onGrid_is c _ hc)) | (go_at_call 35; exact Kin.quiet _ (neighbors_is d c _ hd hc hn))) | ((refine wpQuiet_guard rfl rfl rfl rfl (fun hg => ?_) (fun hg => ?_)) <;> (fail_if_success (first | guard_hyp hg : true = true | guard_hyp hg : false = false)) <;> (try simp only [decide_eq_true_eq, decide_eq_false_iff_not] at hg) <;> simp only [Act.put, List.setIfInBounds_toArray, List.set_cons_zero, List.set_cons_succ]))); all_goals ((with_reducible refine wpQuiet_nil ?_); intro zq hz))
            go_wp2
            go_ret
            exact ⟨ret_bool HF.out.symm, HBW.out.trans (zq.2.mono hgw)⟩
          · have HPV := Lib.hid (show ∀ d', 0 < m + 1 → l[m + 1 - 1]? = some d' → nb d' c = true from fun d' _ hd' => by rw [Nat.add_sub_cancel, Hd.out] at hd'; injection hd' with hd'; rw [← hd']; exact hn)
            go_wp2
            ((refine wp_region_kinK (W := W1) (by kernel_rfl) (by kernel_rfl) (by repeat (first | with_reducible (first | exact blA | exact blB | refine blC _ ?_ | refine blD ?_ ?_ _ | refine blE ?_ | refine blF _ ?_ | refine blG ?_ _ | refine blH ?_ | refine blI ?_ ?_ _) | (simp only [World.size_alloc]; omega) | (simp <;> omega))) ?_); (repeat' (first | go_big_quiet_step (first | (go_at_call 34; exact Kin.quiet _ (onGrid_is c _ hc)) | (go_at_call 35; exact Kin.quiet _ (neighbors_is d c _ hd hc hn))) | ((refine wpQuiet_guard rfl rfl rfl rfl (fun hg => ?_) (fun hg => ?_)) <;> (fail_if_success (first | guard_hyp hg : true = true | guard_hyp hg : false = false)) <;> (try simp only [decide_eq_true_eq, decide_eq_false_iff_not] at hg) <;> simp only [Act.put, List.setIfInBounds_toArray, List.set_cons_zero, List.set_cons_succ]))); all_goals ((with_reducible refine wpQuiet_nil ?_); intro zq hz))
            go_wp2
            go_roundw
            case rel => exact ⟨m + 1 + 1, by omega, by go_num, Lib.hid (okTo_succ hok.out Hc.out hc HPV.out), zq, rfl⟩
            case measure => simp [intOf]; omega
    · have hkn : k = n := by omega
      subst hkn
      have HSO := Lib.hid (show stepOk l = true from okTo_all.1 (by rw [HL.out]; exact hok.out))
      have HE := Lib.hid (tval_end (r := r) (cl := cl) H4.out HSO.out)
      cases cl
      · go_wp2
        ((refine wp_region_kinK (W := W1) (by kernel_rfl) (by kernel_rfl) (by repeat (first | with_reducible (first | exact blA | exact blB | refine blC _ ?_ | refine blD ?_ ?_ _ | refine blE ?_ | refine blF _ ?_ | refine blG ?_ _ | refine blH ?_ | refine blI ?_ ?_ _) | (simp only [World.size_alloc]; omega) | (simp <;> omega))) ?_); (repeat' (first | go_big_quiet_step (fail) | ((refine wpQuiet_guard rfl rfl rfl rfl (fun hg => ?_) (fun hg => ?_)) <;> (fail_if_success (first | guard_hyp hg : true = true | guard_hyp hg : false = false)) <;> (try simp only [decide_eq_true_eq, decide_eq_false_iff_not] at hg) <;> simp only [Act.put, List.setIfInBounds_toArray, List.set_cons_zero, List.set_cons_succ]))); all_goals ((with_reducible refine wpQuiet_nil ?_); intro zq hz))
        go_wp2
        go_ret
        exact ⟨ret_bool HE.out.symm, HBW.out.trans (zq.2.mono hgw)⟩
      · by_cases hk1 : k = 1
        · go_wp2
          ((refine wp_region_kinK (W := W1) (by kernel_rfl) (by kernel_rfl) (by repeat (first | with_reducible (first | exact blA | exact blB | refine blC _ ?_ | refine blD ?_ ?_ _ | refine blE ?_ | refine blF _ ?_ | refine blG ?_ _ | refine blH ?_ | refine blI ?_ ?_ _) | (simp only [World.size_alloc]; omega) | (simp <;> omega))) ?_); (repeat' (first | go_big_quiet_step (fail) | ((refine wpQuiet_guard rfl rfl rfl rfl (fun hg => ?_) (fun hg => ?_)) <;> (fail_if_success (first | guard_hyp hg : true = true | guard_hyp hg : false = false)) <;> (try simp only [decide_eq_true_eq, decide_eq_false_iff_not] at hg) <;> simp only [Act.put, List.setIfInBounds_toArray, List.set_cons_zero, List.set_cons_succ]))); all_goals ((with_reducible refine wpQuiet_nil ?_); intro zq hz))
          go_wp2
          go_ret
          exact ⟨ret_bool (by rw [HE.out, HL.out, hk1]; rfl), HBW.out.trans (zq.2.mono hgw)⟩
        · obtain ⟨a, ha⟩ : ∃ el_, (l)[k - 1]? = some el_ := ⟨_, List.getElem?_eq_getElem (by first | exact (by rw [HL.out]; omega) | omega)⟩
          obtain ⟨bA, offA, rfl, hbA, hcA⟩ := HA.out (k - 1) _ ha
          have a_0 : w.cell? ⟨bA, offA + (k - 1) * 2, none⟩ = some (.int .i64 a.1) := by exact hcA (k - 1) _ ha 0 _ rfl
          have a_1 : w.cell? ⟨bA, offA + (k - 1) * 2 + 1, none⟩ = some (.int .i64 a.2) := by exact hcA (k - 1) _ ha 1 _ rfl
          have hbA2 : bA < w.heap.size + 1 := by omega
          have HAc := Lib.hid hcA
          have Ha := Lib.hid ha
          clear ha hcA
          obtain ⟨b, hb⟩ : ∃ el_, (l)[0]? = some el_ := ⟨_, List.getElem?_eq_getElem (by first | exact (by rw [HL.out]; omega) | omega)⟩
          have b_0 : w.cell? ⟨bA, offA + 0 * 2, none⟩ = some (.int .i64 b.1) := by exact HAc.out (0) _ hb 0 _ rfl
          have b_1 : w.cell? ⟨bA, offA + 0 * 2 + 1, none⟩ = some (.int .i64 b.2) := by exact HAc.out (0) _ hb 1 _ rfl
          have Hb := Lib.hid hb
          clear hb
          have e_0 : y.1.cell? ⟨bA, offA + (k - 1) * 2, none⟩ = some (.int .i64 a.1) := (hyw.cell (p := ⟨bA, _, none⟩) hbA).trans a_0
          have e_1 : y.1.cell? ⟨bA, offA + (k - 1) * 2 + 1, none⟩ = some (.int .i64 a.2) := (hyw.cell (p := ⟨bA, _, none⟩) hbA).trans a_1
          have f_0 : y.1.cell? ⟨bA, offA, none⟩ = some (.int .i64 b.1) := (hyw.cell (p := ⟨bA, _, none⟩) hbA).trans (by simpa using b_0)
          have f_1 : y.1.cell? ⟨bA, offA + 1, none⟩ = some (.int .i64 b.2) := (hyw.cell (p := ⟨bA, _, none⟩) hbA).trans (by simpa using b_1)
          have hbA3 : bA < y.1.heap.size := Nat.lt_of_lt_of_le hbA hyw.size
          clear a_0 a_1 b_0 b_1 hbA2
          have hw1 : IntKind.i64.wrap ((k : Int) - 1) = (k : Int) - 1 := IntWalk.i64_in _ (by omega)
          have hw2 : 0 ≤ (k : Int) - 1 := by omega
          have hw3 : ((k : Int) - 1).toNat = k - 1 := by omega
          have hw4 : k - 1 < k := by omega
          have hw5 : (k : Int) - 1 < (k : Int) := by omega
          have hw6 : ¬ (k : Int) = 1 := by omega
          have hw7 : ((k : Int) == 1) = false := by simp; omega
          have h0k : 0 < k := by omega
          have ha : okc a = true := stepOk_ok HSO.out Ha.out
          have hb : okc b = true := stepOk_ok HSO.out Hb.out
          have HEN := Lib.hid (show tval ((r, true), l) = nb a b by
            rw [HE.out, endsOk_of (by rw [HL.out]; exact Ha.out) Hb.out, HL.out]; simp [hk1])
          cases hr : nb a b
          · have HRR := Lib.hid (HEN.out.trans hr)
            go_wp2
            ((refine wp_region_kinK (W := W1) (by kernel_rfl) (by kernel_rfl) (by repeat (first | with_reducible (first | exact blA | exact blB | refine blC _ ?_ | refine blD ?_ ?_ _ | refine blE ?_ | refine blF _ ?_ | refine blG ?_ _ | refine blH ?_ | refine blI ?_ ?_ _) | (simp only [World.size_alloc]; omega) | (simp <;> omega))) ?_); (repeat' (first | go_big_quiet_step ((go_at_call 35; exact Kin.quiet _ (neighbors_is a b _ ha hb hr))) | ((refine wpQuiet_guard rfl rfl rfl rfl (fun hg => ?_) (fun hg => ?_)) <;> (fail_if_success (first | guard_hyp hg : true = true | guard_hyp hg : false = false)) <;> (try simp only [decide_eq_true_eq, decide_eq_false_iff_not] at hg) <;> simp only [Act.put, List.setIfInBounds_toArray, List.set_cons_zero, List.set_cons_succ]))); all_goals ((with_reducible refine wpQuiet_nil ?_); intro zq hz))
            go_wp2
            go_ret
            exact ⟨ret_bool HRR.out.symm, HBW.out.trans (zq.2.mono hgw)⟩
          · have HRR := Lib.hid (HEN.out.trans hr)
            go_wp2
            ((refine wp_region_kinK (W := W1) (by kernel_rfl) (by kernel_rfl) (by repeat (first | with_reducible (first | exact blA | exact blB | refine blC _ ?_ | refine blD ?_ ?_ _ | refine blE ?_ | refine blF _ ?_ | refine blG ?_ _ | refine blH ?_ | refine blI ?_ ?_ _) | (simp only [World.size_alloc]; omega) | (simp <;> omega))) ?_); (repeat' (first | go_big_quiet_step ((go_at_call 35; exact Kin.quiet _ (neighbors_is a b _ ha hb hr))) | ((refine wpQuiet_guard rfl rfl rfl rfl (fun hg => ?_) (fun hg => ?_)) <;> (fail_if_success (first | guard_hyp hg : true = true | guard_hyp hg : false = false)) <;> (try simp only [decide_eq_true_eq, decide_eq_false_iff_not] at hg) <;> simp only [Act.put, List.setIfInBounds_toArray, List.set_cons_zero, List.set_cons_succ]))); all_goals ((with_reducible refine wpQuiet_nil ?_); intro zq hz))
            go_wp2
            go_ret
            exact ⟨ret_bool HRR.out.symm, HBW.out.trans (zq.2.mono hgw)⟩
set_option maxHeartbeats 16000000 in
theorem validTR (r : Int) (cl : Bool) (A : Option Addr) (cap : Nat) (l : List Cl) (w : World) (h : Rd 2 encPt w (.slice A l.length cap) l) :
    Calls Try.prog 12 #[tv r cl A l.length cap] w fun e w' => e = .returned (.bool (tval ((r, cl), l))) ∧ Below w.heap.size w w' := by
  by_cases h4 : 1 ≤ r ∧ r ≤ 7 ∧ 1 ≤ l.length ∧ l.length ≤ 65536
  case neg =>
    rw [tval_false1 (cl := cl) h4]
    clear h
    obtain ⟨n, hL⟩ : ∃ n, l.length = n := ⟨_, rfl⟩
    rw [hL] at h4 ⊢
    clear hL
    by_cases h1 : r < 1
    · go_enter Try.func12, Try.ntmps12
      go_wp2
      go_ret
      exact ⟨rfl, (by repeat (first | with_reducible (first | exact blA | exact blB | refine blC _ ?_ | refine blD ?_ ?_ _ | refine blE ?_ | refine blF _ ?_ | refine blG ?_ _ | refine blH ?_ | refine blI ?_ ?_ _) | (simp only [World.size_alloc]; omega) | (simp <;> omega)))⟩
    · by_cases h2 : 7 < r
      · go_enter Try.func12, Try.ntmps12
        go_wp2
        go_ret
        exact ⟨rfl, (by repeat (first | with_reducible (first | exact blA | exact blB | refine blC _ ?_ | refine blD ?_ ?_ _ | refine blE ?_ | refine blF _ ?_ | refine blG ?_ _ | refine blH ?_ | refine blI ?_ ?_ _) | (simp only [World.size_alloc]; omega) | (simp <;> omega)))⟩
      · by_cases h3 : n < 1
        · go_enter Try.func12, Try.ntmps12
          go_wp2
          go_ret
          exact ⟨rfl, (by repeat (first | with_reducible (first | exact blA | exact blB | refine blC _ ?_ | refine blD ?_ ?_ _ | refine blE ?_ | refine blF _ ?_ | refine blG ?_ _ | refine blH ?_ | refine blI ?_ ?_ _) | (simp only [World.size_alloc]; omega) | (simp <;> omega)))⟩
        · have h5 : 65536 < n := by omega
          clear h4
          go_enter Try.func12, Try.ntmps12
          go_wp2
          go_ret
          exact ⟨rfl, (by repeat (first | with_reducible (first | exact blA | exact blB | refine blC _ ?_ | refine blD ?_ ?_ _ | refine blE ?_ | refine blF _ ?_ | refine blG ?_ _ | refine blH ?_ | refine blI ?_ ?_ _) | (simp only [World.size_alloc]; omega) | (simp <;> omega)))⟩
  have HA := Lib.hid (Rd.op h)
  have HLA := Lib.hid h
  clear h
  obtain ⟨n, hL⟩ : ∃ n, l.length = n := ⟨_, rfl⟩
  have HL := Lib.hid hL
  have H4 := Lib.hid h4
  rw [hL] at h4 HLA ⊢
  clear hL
  obtain ⟨h1, h2, h3, h5⟩ := h4
  obtain ⟨W1, hW1⟩ : ∃ W1, W1 = w.alloc (.cells #[.int .i64 r, .bool cl, .slice A n cap] 24) := ⟨_, rfl⟩
  have HB1 := Lib.hid (show Blk W1 w.heap.size 24 #[.int .i64 r, .bool cl, .slice A n cap] from hW1 ▸ Blk.new _ _ _)
  have HBW := Lib.hid (show Below w.heap.size w W1 from hW1 ▸ (by repeat (first | with_reducible (first | exact blA | exact blB | refine blC _ ?_ | refine blD ?_ ?_ _ | refine blE ?_ | refine blF _ ?_ | refine blG ?_ _ | refine blH ?_ | refine blI ?_ ?_ _) | (simp only [World.size_alloc]; omega) | (simp <;> omega))))
  go_enter Try.func12, Try.ntmps12
  go_wp2
  rw [← hW1]
  clear hW1
  go_loopw [28] (fun i wr => ∃ k : Nat, k ≤ n ∧ i = .int .i64 k ∧ Hid (okTo l k) ∧ ∃ y : Kin W1, y.1 = wr) (fun i _ => n - (intOf i).toNat)
  case atStart => exact ⟨0, Nat.zero_le _, rfl, Lib.hid (fun i hi => absurd hi (by omega)), ⟨W1, Below.refl _ _⟩, rfl⟩
  case round =>
    obtain ⟨k, hk, rfl, hok, y, rfl⟩ := hrel
    have q2 : y.1.cell? ⟨w.heap.size, 2, none⟩ = some (.slice A n cap) := (HB1.out.below y.2).cell 2
    have q1 : y.1.cell? ⟨w.heap.size, 1, none⟩ = some (.bool cl) := (HB1.out.below y.2).cell 1
    have ql : w.heap.size < y.1.heap.size := (HB1.out.below y.2).lt
    have hyw : Below w.heap.size w y.1 := HBW.out.trans (y.2.mono HBW.out.size)
    have hgw := HBW.out.size
    by_cases hlt : k < n
    · obtain ⟨c, hc⟩ : ∃ el_, (l)[k]? = some el_ := ⟨_, List.getElem?_eq_getElem (by first | exact (by rw [HL.out]; exact hlt) | omega)⟩
      obtain ⟨bA, offA, rfl, hbA, hcA⟩ := HA.out (k) _ hc
      have c_0 : w.cell? ⟨bA, offA + k * 2, none⟩ = some (.int .i64 c.1) := by exact hcA (k) _ hc 0 _ rfl
      have c_1 : w.cell? ⟨bA, offA + k * 2 + 1, none⟩ = some (.int .i64 c.2) := by exact hcA (k) _ hc 1 _ rfl
      have hbA2 : bA < w.heap.size + 1 := by omega
      have HAc := Lib.hid hcA
      have Hc := Lib.hid hc
      clear hc hcA
      have d_0 : y.1.cell? ⟨bA, offA + k * 2, none⟩ = some (.int .i64 c.1) := (hyw.cell (p := ⟨bA, _, none⟩) hbA).trans c_0
      have d_1 : y.1.cell? ⟨bA, offA + k * 2 + 1, none⟩ = some (.int .i64 c.2) := (hyw.cell (p := ⟨bA, _, none⟩) hbA).trans c_1
      have hbA3 : bA < y.1.heap.size := Nat.lt_of_lt_of_le hbA hyw.size
      clear c_0 c_1 hbA2
      cases hc : okc c
      · have HF := Lib.hid (tval_false2 (r := r) (cl := cl) (stepOk_bad1 Hc.out hc))
        go_wp2
        ((refine wp_region_kinK (W := W1) (by kernel_rfl) (by kernel_rfl) (by repeat (first | with_reducible (first | exact blA | exact blB | refine blC _ ?_ | refine blD ?_ ?_ _ | refine blE ?_ | refine blF _ ?_ | refine blG ?_ _ | refine blH ?_ | refine blI ?_ ?_ _) | (simp only [World.size_alloc]; omega) | (simp <;> omega))) ?_); (repeat' (first | go_big_quiet_step ((go_at_call 36; exact Kin.quiet _ (onGrid_isR c _ hc))) | ((refine wpQuiet_guard rfl rfl rfl rfl (fun hg => ?_) (fun hg => ?_)) <;> (fail_if_success (first | guard_hyp hg : true = true | guard_hyp hg : false = false)) <;> (try simp only [decide_eq_true_eq, decide_eq_false_iff_not] at hg) <;> simp only [Act.put, List.setIfInBounds_toArray, List.set_cons_zero, List.set_cons_succ]))); all_goals ((with_reducible refine wpQuiet_nil ?_); intro zq hz))
        go_wp2
        go_ret
        exact ⟨ret_bool HF.out.symm, HBW.out.trans (zq.2.mono hgw)⟩
      · by_cases h0 : k = 0
        · subst h0
          have d_2 : y.1.cell? ⟨bA, offA, none⟩ = some (.int .i64 c.1) := by simpa using d_0
          have d_3 : y.1.cell? ⟨bA, offA + 1, none⟩ = some (.int .i64 c.2) := by simpa using d_1
          go_wp2
          ((refine wp_region_kinK (W := W1) (by kernel_rfl) (by kernel_rfl) (by repeat (first | with_reducible (first | exact blA | exact blB | refine blC _ ?_ | refine blD ?_ ?_ _ | refine blE ?_ | refine blF _ ?_ | refine blG ?_ _ | refine blH ?_ | refine blI ?_ ?_ _) | (simp only [World.size_alloc]; omega) | (simp <;> omega))) ?_); (repeat' (first | go_big_quiet_step ((go_at_call 36; exact Kin.quiet _ (onGrid_isR c _ hc))) | ((refine wpQuiet_guard rfl rfl rfl rfl (fun hg => ?_) (fun hg => ?_)) <;> (fail_if_success (first | guard_hyp hg : true = true | guard_hyp hg : false = false)) <;> (try simp only [decide_eq_true_eq, decide_eq_false_iff_not] at hg) <;> simp only [Act.put, List.setIfInBounds_toArray, List.set_cons_zero, List.set_cons_succ]))); all_goals ((with_reducible refine wpQuiet_nil ?_); intro zq hz))
          go_wp2
          go_roundw
          case rel => exact ⟨0 + 1, by omega, by go_num, Lib.hid (okTo_succ hok.out Hc.out hc (fun d h0 => absurd h0 (by omega))), zq, rfl⟩
          case measure => simp [intOf]; omega
        · have h00 : 0 < k := by omega
          obtain ⟨m, rfl⟩ : ∃ m, k = m + 1 := ⟨k - 1, by omega⟩
          obtain ⟨d, hd⟩ : ∃ el_, (l)[m]? = some el_ := ⟨_, List.getElem?_eq_getElem (by first | exact (by rw [HL.out]; omega) | omega)⟩
          have d_0 : w.cell? ⟨bA, offA + m * 2, none⟩ = some (.int .i64 d.1) := by exact HAc.out (m) _ hd 0 _ rfl
          have d_1 : w.cell? ⟨bA, offA + m * 2 + 1, none⟩ = some (.int .i64 d.2) := by exact HAc.out (m) _ hd 1 _ rfl
          have Hd := Lib.hid hd
          clear hd
          have e_0 : y.1.cell? ⟨bA, offA + m * 2, none⟩ = some (.int .i64 d.1) := (hyw.cell (p := ⟨bA, _, none⟩) hbA).trans d_0
          have e_1 : y.1.cell? ⟨bA, offA + m * 2 + 1, none⟩ = some (.int .i64 d.2) := (hyw.cell (p := ⟨bA, _, none⟩) hbA).trans d_1
          clear d_0 d_1
          have f_0 : y.1.cell? ⟨bA, offA + (m + 1) * 2, none⟩ = some (.int .i64 c.1) := by assumption
          have hw1 : IntKind.i64.wrap (((m + 1 : Nat) : Int) - 1) = (m : Int) := by rw [IntWalk.i64_in _ (by omega)]; omega
          have hw2 : ((m : Int) + 1) - 1 = (m : Int) := by omega
          have hw3 : IntKind.i64.wrap ((m : Int) + 1 - 1) = (m : Int) := by rw [IntWalk.i64_in _ (by omega)]; omega
          have hw4 : (0 : Int) < (m : Int) + 1 := by omega
          have hmn : m < n := by omega
          have hd : okc d = true := (hok.out m (by omega) d Hd.out).1
          cases hn : nb d c
          · have HF := Lib.hid (tval_false2 (r := r) (cl := cl) (stepOk_bad2 Hc.out (by omega) Hd.out hn))
            go_wp2
            ((refine wp_region_kinK (W := W1) (by kernel_rfl) (by kernel_rfl) (by repeat (first | with_reducible (first | exact blA | exact blB | refine blC _ ?_ | refine blD ?_ ?_ _ | refine blE ?_ | refine blF _ ?_ | refine blG ?_ _ | refine blH ?_ | refine blI ?_ ?_ _) | (simp only [World.size_alloc]; omega) | (simp <;> omega))) ?_); (repeat' (first | go_big_quiet_step (first | (go_at_call 36; exact Kin.quiet _ (onGrid_isR c _ hc)) | (go_at_call 37; exact Kin.quiet _ (neighbors_isR d c _ hd hc hn))) | ((refine wpQuiet_guard rfl rfl rfl rfl (fun hg => ?_) (fun hg => ?_)) <;> (fail_if_success (first | guard_hyp hg : true = true | guard_hyp hg : false = false)) <;> (try simp only [decide_eq_true_eq, decide_eq_false_iff_not] at hg) <;> simp only [Act.put, List.setIfInBounds_toArray, List.set_cons_zero, List.set_cons_succ]))); all_goals ((with_reducible refine wpQuiet_nil ?_); intro zq hz))
            go_wp2
            go_ret
            exact ⟨ret_bool HF.out.symm, HBW.out.trans (zq.2.mono hgw)⟩
          · have HPV := Lib.hid (show ∀ d', 0 < m + 1 → l[m + 1 - 1]? = some d' → nb d' c = true from fun d' _ hd' => by rw [Nat.add_sub_cancel, Hd.out] at hd'; injection hd' with hd'; rw [← hd']; exact hn)
            go_wp2
            ((refine wp_region_kinK (W := W1) (by kernel_rfl) (by kernel_rfl) (by repeat (first | with_reducible (first | exact blA | exact blB | refine blC _ ?_ | refine blD ?_ ?_ _ | refine blE ?_ | refine blF _ ?_ | refine blG ?_ _ | refine blH ?_ | refine blI ?_ ?_ _) | (simp only [World.size_alloc]; omega) | (simp <;> omega))) ?_); (repeat' (first | go_big_quiet_step (first | (go_at_call 36; exact Kin.quiet _ (onGrid_isR c _ hc)) | (go_at_call 37; exact Kin.quiet _ (neighbors_isR d c _ hd hc hn))) | ((refine wpQuiet_guard rfl rfl rfl rfl (fun hg => ?_) (fun hg => ?_)) <;> (fail_if_success (first | guard_hyp hg : true = true | guard_hyp hg : false = false)) <;> (try simp only [decide_eq_true_eq, decide_eq_false_iff_not] at hg) <;> simp only [Act.put, List.setIfInBounds_toArray, List.set_cons_zero, List.set_cons_succ]))); all_goals ((with_reducible refine wpQuiet_nil ?_); intro zq hz))
            go_wp2
            go_roundw
            case rel => exact ⟨m + 1 + 1, by omega, by go_num, Lib.hid (okTo_succ hok.out Hc.out hc HPV.out), zq, rfl⟩
            case measure => simp [intOf]; omega
    · have hkn : k = n := by omega
      subst hkn
      have HSO := Lib.hid (show stepOk l = true from okTo_all.1 (by rw [HL.out]; exact hok.out))
      have HE := Lib.hid (tval_end (r := r) (cl := cl) H4.out HSO.out)
      cases cl
      · go_wp2
        ((refine wp_region_kinK (W := W1) (by kernel_rfl) (by kernel_rfl) (by repeat (first | with_reducible (first | exact blA | exact blB | refine blC _ ?_ | refine blD ?_ ?_ _ | refine blE ?_ | refine blF _ ?_ | refine blG ?_ _ | refine blH ?_ | refine blI ?_ ?_ _) | (simp only [World.size_alloc]; omega) | (simp <;> omega))) ?_); (repeat' (first | go_big_quiet_step (fail) | ((refine wpQuiet_guard rfl rfl rfl rfl (fun hg => ?_) (fun hg => ?_)) <;> (fail_if_success (first | guard_hyp hg : true = true | guard_hyp hg : false = false)) <;> (try simp only [decide_eq_true_eq, decide_eq_false_iff_not] at hg) <;> simp only [Act.put, List.setIfInBounds_toArray, List.set_cons_zero, List.set_cons_succ]))); all_goals ((with_reducible refine wpQuiet_nil ?_); intro zq hz))
        go_wp2
        go_ret
        exact ⟨ret_bool HE.out.symm, HBW.out.trans (zq.2.mono hgw)⟩
      · by_cases hk1 : k = 1
        · go_wp2
          ((refine wp_region_kinK (W := W1) (by kernel_rfl) (by kernel_rfl) (by repeat (first | with_reducible (first | exact blA | exact blB | refine blC _ ?_ | refine blD ?_ ?_ _ | refine blE ?_ | refine blF _ ?_ | refine blG ?_ _ | refine blH ?_ | refine blI ?_ ?_ _) | (simp only [World.size_alloc]; omega) | (simp <;> omega))) ?_); (repeat' (first | go_big_quiet_step (fail) | ((refine wpQuiet_guard rfl rfl rfl rfl (fun hg => ?_) (fun hg => ?_)) <;> (fail_if_success (first | guard_hyp hg : true = true | guard_hyp hg : false = false)) <;> (try simp only [decide_eq_true_eq, decide_eq_false_iff_not] at hg) <;> simp only [Act.put, List.setIfInBounds_toArray, List.set_cons_zero, List.set_cons_succ]))); all_goals ((with_reducible refine wpQuiet_nil ?_); intro zq hz))
          go_wp2
          go_ret
          exact ⟨ret_bool (by rw [HE.out, HL.out, hk1]; rfl), HBW.out.trans (zq.2.mono hgw)⟩
        · obtain ⟨a, ha⟩ : ∃ el_, (l)[k - 1]? = some el_ := ⟨_, List.getElem?_eq_getElem (by first | exact (by rw [HL.out]; omega) | omega)⟩
          obtain ⟨bA, offA, rfl, hbA, hcA⟩ := HA.out (k - 1) _ ha
          have a_0 : w.cell? ⟨bA, offA + (k - 1) * 2, none⟩ = some (.int .i64 a.1) := by exact hcA (k - 1) _ ha 0 _ rfl
          have a_1 : w.cell? ⟨bA, offA + (k - 1) * 2 + 1, none⟩ = some (.int .i64 a.2) := by exact hcA (k - 1) _ ha 1 _ rfl
          have hbA2 : bA < w.heap.size + 1 := by omega
          have HAc := Lib.hid hcA
          have Ha := Lib.hid ha
          clear ha hcA
          obtain ⟨b, hb⟩ : ∃ el_, (l)[0]? = some el_ := ⟨_, List.getElem?_eq_getElem (by first | exact (by rw [HL.out]; omega) | omega)⟩
          have b_0 : w.cell? ⟨bA, offA + 0 * 2, none⟩ = some (.int .i64 b.1) := by exact HAc.out (0) _ hb 0 _ rfl
          have b_1 : w.cell? ⟨bA, offA + 0 * 2 + 1, none⟩ = some (.int .i64 b.2) := by exact HAc.out (0) _ hb 1 _ rfl
          have Hb := Lib.hid hb
          clear hb
          have e_0 : y.1.cell? ⟨bA, offA + (k - 1) * 2, none⟩ = some (.int .i64 a.1) := (hyw.cell (p := ⟨bA, _, none⟩) hbA).trans a_0
          have e_1 : y.1.cell? ⟨bA, offA + (k - 1) * 2 + 1, none⟩ = some (.int .i64 a.2) := (hyw.cell (p := ⟨bA, _, none⟩) hbA).trans a_1
          have f_0 : y.1.cell? ⟨bA, offA, none⟩ = some (.int .i64 b.1) := (hyw.cell (p := ⟨bA, _, none⟩) hbA).trans (by simpa using b_0)
          have f_1 : y.1.cell? ⟨bA, offA + 1, none⟩ = some (.int .i64 b.2) := (hyw.cell (p := ⟨bA, _, none⟩) hbA).trans (by simpa using b_1)
          have hbA3 : bA < y.1.heap.size := Nat.lt_of_lt_of_le hbA hyw.size
          clear a_0 a_1 b_0 b_1 hbA2
          have hw1 : IntKind.i64.wrap ((k : Int) - 1) = (k : Int) - 1 := IntWalk.i64_in _ (by omega)
          have hw2 : 0 ≤ (k : Int) - 1 := by omega
          have hw3 : ((k : Int) - 1).toNat = k - 1 := by omega
          have hw4 : k - 1 < k := by omega
          have hw5 : (k : Int) - 1 < (k : Int) := by omega
          have hw6 : ¬ (k : Int) = 1 := by omega
          have hw7 : ((k : Int) == 1) = false := by simp; omega
          have h0k : 0 < k := by omega
          have ha : okc a = true := stepOk_ok HSO.out Ha.out
          have hb : okc b = true := stepOk_ok HSO.out Hb.out
          have HEN := Lib.hid (show tval ((r, true), l) = nb a b by
            rw [HE.out, endsOk_of (by rw [HL.out]; exact Ha.out) Hb.out, HL.out]; simp [hk1])
          cases hr : nb a b
          · have HRR := Lib.hid (HEN.out.trans hr)
            go_wp2
            ((refine wp_region_kinK (W := W1) (by kernel_rfl) (by kernel_rfl) (by repeat (first | with_reducible (first | exact blA | exact blB | refine blC _ ?_ | refine blD ?_ ?_ _ | refine blE ?_ | refine blF _ ?_ | refine blG ?_ _ | refine blH ?_ | refine blI ?_ ?_ _) | (simp only [World.size_alloc]; omega) | (simp <;> omega))) ?_); (repeat' (first | go_big_quiet_step ((go_at_call 37; exact Kin.quiet _ (neighbors_isR a b _ ha hb hr))) | ((refine wpQuiet_guard rfl rfl rfl rfl (fun hg => ?_) (fun hg => ?_)) <;> (fail_if_success (first | guard_hyp hg : true = true | guard_hyp hg : false = false)) <;> (try simp only [decide_eq_true_eq, decide_eq_false_iff_not] at hg) <;> simp only [Act.put, List.setIfInBounds_toArray, List.set_cons_zero, List.set_cons_succ]))); all_goals ((with_reducible refine wpQuiet_nil ?_); intro zq hz))
            go_wp2
            go_ret
            exact ⟨ret_bool HRR.out.symm, HBW.out.trans (zq.2.mono hgw)⟩
          · have HRR := Lib.hid (HEN.out.trans hr)
            go_wp2
            ((refine wp_region_kinK (W := W1) (by kernel_rfl) (by kernel_rfl) (by repeat (first | with_reducible (first | exact blA | exact blB | refine blC _ ?_ | refine blD ?_ ?_ _ | refine blE ?_ | refine blF _ ?_ | refine blG ?_ _ | refine blH ?_ | refine blI ?_ ?_ _) | (simp only [World.size_alloc]; omega) | (simp <;> omega))) ?_); (repeat' (first | go_big_quiet_step ((go_at_call 37; exact Kin.quiet _ (neighbors_isR a b _ ha hb hr))) | ((refine wpQuiet_guard rfl rfl rfl rfl (fun hg => ?_) (fun hg => ?_)) <;> (fail_if_success (first | guard_hyp hg : true = true | guard_hyp hg : false = false)) <;> (try simp only [decide_eq_true_eq, decide_eq_false_iff_not] at hg) <;> simp only [Act.put, List.setIfInBounds_toArray, List.set_cons_zero, List.set_cons_succ]))); all_goals ((with_reducible refine wpQuiet_nil ?_); intro zq hz))
            go_wp2
            go_ret
            exact ⟨ret_bool HRR.out.symm, HBW.out.trans (zq.2.mono hgw)⟩
end Go.Proofs.Ytomndgjnhhchdaa

/- TrackCorners: for every input the law returns true. No condition. -/
import Derived.Test.YtomndgjnhhchdaaTrkAwk
import Derived.Test.YtomndgjnhhchdaaTrkCornP
import Derived.Test.YtomndgjnhhchdaaTrkOpen
namespace Go.Proofs.Ytomndgjnhhchdaa
set_option linter.unusedSimpArgs false
set_option linter.unusedVariables false
set_option maxRecDepth 100000
open Go.ChangeShapes Go.WideShapes Go.ChangeAt Go.RowKit Go.Joins Trk Reg
attribute [local go_sem] Kin.cell Kin.frozen Kin.lt0 Kin.lt1 Kin.lt2 Kin.lt3
theorem eq_selfC (x y : Int) (w : World) : (binOp .eql 31 (.agg #[.int .i64 x, .int .i64 y]) (.agg #[.int .i64 x, .int .i64 y])).run Try.prog w = .ok (.bool true) w := by
  simp [go_sem]
theorem abs_bd {z : Int} {B : Int} (h : -B ≤ z ∧ z ≤ B) : 0 ≤ max z (-z) ∧ max z (-z) ≤ B := by
  refine ⟨?_, Int.max_le.2 ⟨h.2, by omega⟩⟩
  rcases Int.le_total 0 z with h | h
  · exact Int.le_trans h (Int.le_max_left _ _)
  · exact Int.le_trans (by omega) (Int.le_max_right _ _)
theorem totTo_bd {l : List Cl} (h : ∀ c ∈ l, okc c = true) : ∀ k, 0 ≤ totTo l k ∧ totTo l k ≤ 16384 * k
  | 0 => by simp [totTo]
  | k + 1 => by
    have ih := totTo_bd h k
    rw [totTo]
    split
    · rename_i a b ha hb
      have oa := okc_iff.1 (h a (List.mem_of_getElem? ha))
      have ob := okc_iff.1 (h b (List.mem_of_getElem? hb))
      have h1 := abs_bd (z := b.1 - a.1) (B := 8192) (by omega)
      have h2 := abs_bd (z := b.2 - a.2) (B := 8192) (by omega)
      have h0 : 0 ≤ dst b a ∧ dst b a ≤ 16384 := by unfold dst; omega
      split <;> omega
    · omega
theorem corn_mem {t : Tr} {c : Cl} (h : c ∈ cornT t) : c ∈ t.2 := by
  unfold cornT at h
  split at h
  · have : ∀ k, c ∈ cornTo t.2 k → c ∈ t.2 := by
      intro k
      induction k with
      | zero => intro h; simp [cornTo] at h
      | succ k ih =>
        intro h
        rw [cornTo] at h
        rcases List.mem_append.1 h with h | h
        · exact ih h
        · split at h
          · rename_i d hd
            split at h
            · simp at h; subst h; exact List.mem_of_getElem? hd
            · cases h
          · cases h
    exact this _ h
  · cases h
set_option maxHeartbeats 8000000 in
theorem cornersL_walk (W : World) (v : Value) (h : ∃ t : Tr, RdT W v t) : Calls Try.prog 4 #[v] W fun e W' => e = .returned (.bool true) ∧ Below W.heap.size W W' := by
  obtain ⟨⟨⟨r, cl⟩, l⟩, A, cap, rfl, hr⟩ := h
  obtain ⟨n, hL⟩ : ∃ n, l.length = n := ⟨_, rfl⟩
  simp only at hr ⊢
  rw [hL] at hr ⊢
  have HL := Lib.hid hL
  have HR := Lib.hid hr
  clear hr hL
  by_cases h3 : n > 300
  · have h3' : (n : Int) > 300 := by omega
    go_enter Try.func4, Try.ntmps4
    go_wp2_with fail
    (go_at_call 10; (with_reducible refine (Kin.callK (W := W) (by repeat (first | with_reducible (first | exact blA | exact blB | refine blC _ ?_ | refine blD ?_ ?_ _ | refine blE ?_ | refine blF _ ?_ | refine blG ?_ _ | refine blH ?_ | refine blI ?_ ?_ _) | (simp only [World.size_alloc]; omega) | (simp <;> omega))) (awake23_any _)).mono ?_); rintro e w' ⟨z, rfl, hz, rfl⟩)
    go_wp2_with fail
    go_ret
    exact ⟨rfl, (by repeat (first | with_reducible (first | exact blA | exact blB | refine blC _ ?_ | refine blD ?_ ?_ _ | refine blE ?_ | refine blF _ ?_ | refine blG ?_ _ | refine blH ?_ | refine blI ?_ ?_ _) | (simp only [World.size_alloc]; omega) | (simp <;> omega)))⟩
  · have h3' : ¬ (n : Int) > 300 := by omega
    cases hv : tval ((r, cl), l)
    · go_enter Try.func4, Try.ntmps4
      go_wp2_with (first
        | (go_at_call 11; (with_reducible refine (Kin.callK (W := W) (by repeat (first | with_reducible (first | exact blA | exact blB | refine blC _ ?_ | refine blD ?_ ?_ _ | refine blE ?_ | refine blF _ ?_ | refine blG ?_ _ | refine blH ?_ | refine blI ?_ ?_ _) | (simp only [World.size_alloc]; omega) | (simp <;> omega))) (validT_is (b := false) (n := n) r cl _ _ l _ HL.out (HR.out.below (by repeat (first | with_reducible (first | exact blA | exact blB | refine blC _ ?_ | refine blD ?_ ?_ _ | refine blE ?_ | refine blF _ ?_ | refine blG ?_ _ | refine blH ?_ | refine blI ?_ ?_ _) | (simp only [World.size_alloc]; omega) | (simp <;> omega)))) hv)).mono ?_); rintro e w' ⟨z, rfl, hz, rfl⟩)
        | (go_at_call 10; (with_reducible refine (Kin.callK (W := W) (by repeat (first | with_reducible (first | exact blA | exact blB | refine blC _ ?_ | refine blD ?_ ?_ _ | refine blE ?_ | refine blF _ ?_ | refine blG ?_ _ | refine blH ?_ | refine blI ?_ ?_ _) | (simp only [World.size_alloc]; omega) | (simp <;> omega))) (awake23_any _)).mono ?_); rintro e w' ⟨z, rfl, hz, rfl⟩))
      go_ret
      exact ⟨rfl, (by repeat (first | with_reducible (first | exact blA | exact blB | refine blC _ ?_ | refine blD ?_ ?_ _ | refine blE ?_ | refine blF _ ?_ | refine blG ?_ _ | refine blH ?_ | refine blI ?_ ?_ _) | (simp only [World.size_alloc]; omega) | (simp <;> omega)))⟩
    · have HF := Lib.hid (corn_facts hv)
      have HOK := Lib.hid (fun c (hc : c ∈ cornT ((r, cl), l)) => tval_ok hv (corn_mem hc))
      obtain ⟨cs, hcs⟩ : ∃ cs, cornT ((r, cl), l) = cs := ⟨_, rfl⟩
      obtain ⟨m, hm⟩ : ∃ m, cs.length = m := ⟨_, rfl⟩
      have HCS := Lib.hid hcs
      have HM := Lib.hid hm
      have hcl : m ≤ 65536 := by
        have h1 := cornTo_len l l.length
        have h2 := HL.out
        have h4 := (tval_len hv).2.2
        simp only at h4
        rw [← hm, ← hcs]
        unfold cornT
        rw [hv]
        simp only [if_true]
        omega
      rw [hcs] at HF HOK
      rw [hm] at HF
      have hm0 : 0 < m := HF.out.2.2.1
      have hn0 : 1 ≤ n := by have := (tval_len hv).2.1; have := HL.out; simp only at *; omega
      clear hcs hm
      go_enter Try.func4, Try.ntmps4
      go_wp2_with fail
      obtain ⟨y0, hy0⟩ : ∃ y0 : Kin W, y0.1 = W.alloc (.cells #[.int .i64 r, .bool cl, .slice A n cap] 24) := ⟨⟨W.alloc _, (by repeat (first | with_reducible (first | exact blA | exact blB | refine blC _ ?_ | refine blD ?_ ?_ _ | refine blE ?_ | refine blF _ ?_ | refine blG ?_ _ | refine blH ?_ | refine blI ?_ ?_ _) | (simp only [World.size_alloc]; omega) | (simp <;> omega)))⟩, rfl⟩
      rw [← hy0]
      have B0 := Blk.new W 24 #[.int .i64 r, .bool cl, .slice A n cap]
      rw [← hy0] at B0
      have t0 : y0.1.cell? ⟨W.heap.size, 0, none⟩ = some (.int .i64 r) := B0.cell 0
      have t1 : y0.1.cell? ⟨W.heap.size, 1, none⟩ = some (.bool cl) := B0.cell 1
      have t2 : y0.1.cell? ⟨W.heap.size, 2, none⟩ = some (.slice A n cap) := B0.cell 2
      have lt := B0.lt
      have HB0 := Lib.hid B0
      have HR0 := Lib.hid (HR.out.below y0.2)
      clear hy0 B0
      go_wp2_with (first
        | (go_at_call 11; (with_reducible refine (Kin.callK (W := (Kin.wd y0)) (by repeat (first | with_reducible (first | exact blA | exact blB | refine blC _ ?_ | refine blD ?_ ?_ _ | refine blE ?_ | refine blF _ ?_ | refine blG ?_ _ | refine blH ?_ | refine blI ?_ ?_ _) | (simp only [World.size_alloc]; omega) | (simp <;> omega))) (validT_is (b := true) (n := n) r cl _ _ l _ HL.out (HR0.out.below (by repeat (first | with_reducible (first | exact blA | exact blB | refine blC _ ?_ | refine blD ?_ ?_ _ | refine blE ?_ | refine blF _ ?_ | refine blG ?_ _ | refine blH ?_ | refine blI ?_ ?_ _) | (simp only [World.size_alloc]; omega) | (simp <;> omega)))) hv)).mono ?_); rintro e w' ⟨z, rfl, hz, rfl⟩)
        | (go_at_call 16; (with_reducible refine (Kin.callK (W := (Kin.wd y0)) (by repeat (first | with_reducible (first | exact blA | exact blB | refine blC _ ?_ | refine blD ?_ ?_ _ | refine blE ?_ | refine blF _ ?_ | refine blG ?_ _ | refine blH ?_ | refine blI ?_ ?_ _) | (simp only [World.size_alloc]; omega) | (simp <;> omega))) (corn_is (cs := cs) r cl _ _ l (n := n) m _ HL.out (HR0.out.below (by repeat (first | with_reducible (first | exact blA | exact blB | refine blC _ ?_ | refine blD ?_ ?_ _ | refine blE ?_ | refine blF _ ?_ | refine blG ?_ _ | refine blH ?_ | refine blI ?_ ?_ _) | (simp only [World.size_alloc]; omega) | (simp <;> omega)))) HCS.out HM.out)).mono ?_); rintro e w' ⟨z, ⟨AC, cC, rfl, hC⟩, hz, rfl⟩; (have HRC := Lib.hid hC; have s0 := t0; have s1 := t1; have s2 := t2; rw [← Kin.cell z lt] at s0 s1 s2; have HRz := Lib.hid (HR0.out.below z.2); have ltz : W.heap.size < (Kin.wd z).heap.size := Nat.lt_of_lt_of_le lt z.2.size)))
      have hm1 : (0 : Int) < (m : Int) := by omega
      have hmw : IntKind.i64.wrap ((m : Int) - 1) = (m : Int) - 1 := IntWalk.i64_in _ (by omega)
      have hnw : IntKind.i64.wrap ((n : Int) - 1) = (n : Int) - 1 := IntWalk.i64_in _ (by omega)
      clear t0 t1 t2 lt hz
      have HC := Lib.hid (Rd.op HRC.out)
      have HLC := Lib.hid HRC.out
      go_loopw [4, 5] (fun s i wr => ∃ k : Nat, 1 ≤ k ∧ k ≤ m ∧ i = .int .i64 k ∧ s = .int .i64 (totTo cs k) ∧ ∃ y : Kin z.1, y.1 = wr) (fun _ i _ => m - (intOf i).toNat)
      case atStart => exact ⟨1, Nat.le_refl _, hm0, rfl, by rw [totTo_one], ⟨_, Below.refl _ _⟩, rfl⟩
      case round =>
        obtain ⟨k, hk1, hk, rfl, rfl, y, rfl⟩ := hrel
        by_cases hlt : k < m
        · obtain ⟨j, rfl⟩ : ∃ j, k = j + 1 := ⟨k - 1, by omega⟩
          have hjm : j < m := by omega
          obtain ⟨b, hb⟩ : ∃ el_, (cs)[j + 1]? = some el_ := ⟨_, List.getElem?_eq_getElem (by first | exact (by rw [HM.out]; exact hlt) | omega)⟩
          obtain ⟨bC, offC, rfl, hbC, hcC⟩ := HC.out (j + 1) _ hb
          have b_0 : z.1.cell? ⟨bC, offC + (j + 1) * 2, none⟩ = some (.int .i64 b.1) := by exact hcC (j + 1) _ hb 0 _ rfl
          have b_1 : z.1.cell? ⟨bC, offC + (j + 1) * 2 + 1, none⟩ = some (.int .i64 b.2) := by exact hcC (j + 1) _ hb 1 _ rfl
          have hbC2 : bC < z.1.heap.size + 1 := by omega
          have HCc := Lib.hid hcC
          have Hb := Lib.hid hb
          clear hb hcC
          obtain ⟨a, ha⟩ : ∃ el_, (cs)[j]? = some el_ := ⟨_, List.getElem?_eq_getElem (by first | exact (by rw [HM.out]; omega) | omega)⟩
          have a_0 : z.1.cell? ⟨bC, offC + j * 2, none⟩ = some (.int .i64 a.1) := by exact HCc.out (j) _ ha 0 _ rfl
          have a_1 : z.1.cell? ⟨bC, offC + j * 2 + 1, none⟩ = some (.int .i64 a.2) := by exact HCc.out (j) _ ha 1 _ rfl
          have Ha := Lib.hid ha
          clear ha
          have oa := okc_iff.1 (HOK.out a (List.mem_of_getElem? Ha.out))
          have ob := okc_iff.1 (HOK.out b (List.mem_of_getElem? Hb.out))
          have HS := Lib.hid (totTo_succ Ha.out Hb.out)
          have HST := Lib.hid (HF.out.1 j a b Ha.out Hb.out)
          have htb := totTo_bd HOK.out (j + 1)
          have hdb := abs_bd (z := b.1 - a.1) (B := 8192) (by omega)
          have hdb2 := abs_bd (z := b.2 - a.2) (B := 8192) (by omega)
          have w0 : IntKind.i64.wrap (((j + 1 : Nat) : Int) - 1) = (j : Int) := by rw [IntWalk.i64_in _ (by omega)]; omega
          have w1 : IntKind.i64.wrap (b.1 - a.1) = b.1 - a.1 := IntWalk.i64_in _ (by omega)
          have w2 : IntKind.i64.wrap (b.2 - a.2) = b.2 - a.2 := IntWalk.i64_in _ (by omega)
          have w3 : IntKind.i64.wrap (-(b.1 - a.1)) = -(b.1 - a.1) := IntWalk.i64_in _ (by omega)
          have w4 : IntKind.i64.wrap (-(b.2 - a.2)) = -(b.2 - a.2) := IntWalk.i64_in _ (by omega)
          have w5 : IntKind.i64.wrap (max (b.1 - a.1) (-(b.1 - a.1)) + max (b.2 - a.2) (-(b.2 - a.2))) = max (b.1 - a.1) (-(b.1 - a.1)) + max (b.2 - a.2) (-(b.2 - a.2)) := IntWalk.i64_in _ (by omega)
          have w6 : IntKind.i64.wrap (totTo cs (j + 1) + (max (b.1 - a.1) (-(b.1 - a.1)) + max (b.2 - a.2) (-(b.2 - a.2)))) = totTo cs (j + 1) + (max (b.1 - a.1) (-(b.1 - a.1)) + max (b.2 - a.2) (-(b.2 - a.2))) := IntWalk.i64_in _ (by omega)
          have w7 : IntKind.i64.wrap (j : Int) = (j : Int) := IntWalk.i64_in _ (by omega)
          have w8 : IntKind.i64.wrap ((j : Int) + 1 + 1) = (j : Int) + 1 + 1 := IntWalk.i64_in _ (by omega)
          have x1 : (0 : Int) ≤ (j : Int) + 1 := by omega
          have x2 : ((j : Int) + 1).toNat = j + 1 := by omega
          have x3 : (j : Int) < (m : Int) := by omega
          have x4 : (j : Int) + 1 < (m : Int) := by omega
          have x5 : (j : Int) + 1 - 1 = (j : Int) := by omega
          clear hdb hdb2 htb
          cases hx : (b.1 != a.1)
          · go_wp2_with fail
            ((refine wp_region_kinK (W := (Kin.wd z)) (by kernel_rfl) (by kernel_rfl) (by repeat (first | with_reducible (first | exact blA | exact blB | refine blC _ ?_ | refine blD ?_ ?_ _ | refine blE ?_ | refine blF _ ?_ | refine blG ?_ _ | refine blH ?_ | refine blI ?_ ?_ _) | (simp only [World.size_alloc]; omega) | (simp <;> omega))) ?_); (repeat' (first | go_big_quiet_step (fail) | ((refine wpQuiet_guard rfl rfl rfl rfl (fun hg => ?_) (fun hg => ?_)) <;> (fail_if_success (first | guard_hyp hg : true = true | guard_hyp hg : false = false)) <;> (try simp only [decide_eq_true_eq, decide_eq_false_iff_not] at hg) <;> simp only [Act.put, List.setIfInBounds_toArray, List.set_cons_zero, List.set_cons_succ]))); all_goals ((with_reducible refine wpQuiet_nil ?_); intro zq hz))
            all_goals
              go_wp2_with fail
              ((refine wp_region_kinK (W := (Kin.wd z)) (by kernel_rfl) (by kernel_rfl) (by repeat (first | with_reducible (first | exact blA | exact blB | refine blC _ ?_ | refine blD ?_ ?_ _ | refine blE ?_ | refine blF _ ?_ | refine blG ?_ _ | refine blH ?_ | refine blI ?_ ?_ _) | (simp only [World.size_alloc]; omega) | (simp <;> omega))) ?_); (repeat' (first | go_big_quiet_step ((go_at_call 18; exact Kin.quiet _ (size_l _ _ (by omega)))) | ((refine wpQuiet_guard rfl rfl rfl rfl (fun hg => ?_) (fun hg => ?_)) <;> (fail_if_success (first | guard_hyp hg : true = true | guard_hyp hg : false = false)) <;> (try simp only [decide_eq_true_eq, decide_eq_false_iff_not] at hg) <;> simp only [Act.put, List.setIfInBounds_toArray, List.set_cons_zero, List.set_cons_succ]))); all_goals ((with_reducible refine wpQuiet_nil ?_); intro zq hz))
              go_wp2_with fail
              exact ⟨⟨j + 1 + 1, by omega, by omega, by go_num, by rw [HS.out]; rfl, zq, rfl⟩, by simp [intOf]; omega⟩
          · have hy : (b.2 != a.2) = false := by
              rcases HST.out with h | h
              · simp at hx; exact absurd h hx
              · simp [h]
            go_wp2_with fail
            ((refine wp_region_kinK (W := (Kin.wd z)) (by kernel_rfl) (by kernel_rfl) (by repeat (first | with_reducible (first | exact blA | exact blB | refine blC _ ?_ | refine blD ?_ ?_ _ | refine blE ?_ | refine blF _ ?_ | refine blG ?_ _ | refine blH ?_ | refine blI ?_ ?_ _) | (simp only [World.size_alloc]; omega) | (simp <;> omega))) ?_); (repeat' (first | go_big_quiet_step (fail) | ((refine wpQuiet_guard rfl rfl rfl rfl (fun hg => ?_) (fun hg => ?_)) <;> (fail_if_success (first | guard_hyp hg : true = true | guard_hyp hg : false = false)) <;> (try simp only [decide_eq_true_eq, decide_eq_false_iff_not] at hg) <;> simp only [Act.put, List.setIfInBounds_toArray, List.set_cons_zero, List.set_cons_succ]))); all_goals ((with_reducible refine wpQuiet_nil ?_); intro zq hz))
            all_goals
              go_wp2_with fail
              ((refine wp_region_kinK (W := (Kin.wd z)) (by kernel_rfl) (by kernel_rfl) (by repeat (first | with_reducible (first | exact blA | exact blB | refine blC _ ?_ | refine blD ?_ ?_ _ | refine blE ?_ | refine blF _ ?_ | refine blG ?_ _ | refine blH ?_ | refine blI ?_ ?_ _) | (simp only [World.size_alloc]; omega) | (simp <;> omega))) ?_); (repeat' (first | go_big_quiet_step ((go_at_call 18; exact Kin.quiet _ (size_l _ _ (by omega)))) | ((refine wpQuiet_guard rfl rfl rfl rfl (fun hg => ?_) (fun hg => ?_)) <;> (fail_if_success (first | guard_hyp hg : true = true | guard_hyp hg : false = false)) <;> (try simp only [decide_eq_true_eq, decide_eq_false_iff_not] at hg) <;> simp only [Act.put, List.setIfInBounds_toArray, List.set_cons_zero, List.set_cons_succ]))); all_goals ((with_reducible refine wpQuiet_nil ?_); intro zq hz))
              go_wp2_with fail
              exact ⟨⟨j + 1 + 1, by omega, by omega, by go_num, by rw [HS.out]; rfl, zq, rfl⟩, by simp [intOf]; omega⟩
        · have hkm : k = m := by omega
          subst hkm
          have HT := Lib.hid (show totTo cs k = (n : Int) - 1 by rw [HF.out.2.1]; have := HL.out; omega)
          obtain ⟨x0, hx0⟩ : ∃ x, cs[0]? = some x := ⟨_, List.getElem?_eq_getElem (by rw [HM.out]; exact hm0)⟩
          obtain ⟨x1, hx1⟩ : ∃ x, cs[k - 1]? = some x := ⟨_, List.getElem?_eq_getElem (by rw [HM.out]; omega)⟩
          have h0 : l[0]? = some x0 := HF.out.2.2.2.1.symm.trans hx0
          have h1 : l[n - 1]? = some x1 := by have := HF.out.2.2.2.2.symm.trans hx1; rwa [HL.out] at this
          obtain ⟨bC, offC, rfl, hbC, hcC⟩ := HC.out 0 x0 hx0
          have c_0 : z.1.cell? ⟨bC, offC, none⟩ = some (.int .i64 x0.1) := by simpa using hcC 0 x0 hx0 0 _ rfl
          have c_1 : z.1.cell? ⟨bC, offC + 1, none⟩ = some (.int .i64 x0.2) := by simpa using hcC 0 x0 hx0 1 _ rfl
          have d_0 : z.1.cell? ⟨bC, offC + (k - 1) * 2, none⟩ = some (.int .i64 x1.1) := hcC _ x1 hx1 0 _ rfl
          have d_1 : z.1.cell? ⟨bC, offC + (k - 1) * 2 + 1, none⟩ = some (.int .i64 x1.2) := hcC _ x1 hx1 1 _ rfl
          obtain ⟨bA, offA, rfl, hbA, hcA⟩ := Rd.op HRz.out 0 x0 h0
          have a_0 : z.1.cell? ⟨bA, offA, none⟩ = some (.int .i64 x0.1) := by simpa using hcA 0 x0 h0 0 _ rfl
          have a_1 : z.1.cell? ⟨bA, offA + 1, none⟩ = some (.int .i64 x0.2) := by simpa using hcA 0 x0 h0 1 _ rfl
          have b_0 : z.1.cell? ⟨bA, offA + (n - 1) * 2, none⟩ = some (.int .i64 x1.1) := hcA _ x1 h1 0 _ rfl
          have b_1 : z.1.cell? ⟨bA, offA + (n - 1) * 2 + 1, none⟩ = some (.int .i64 x1.2) := hcA _ x1 h1 1 _ rfl
          have y1 : (0 : Int) < (k : Int) := by omega
          have y2 : (0 : Int) ≤ (k : Int) - 1 := by omega
          have y3 : ((k : Int) - 1).toNat = k - 1 := by omega
          have y4 : (0 : Int) ≤ (n : Int) - 1 := by omega
          have y5 : ((n : Int) - 1).toNat = n - 1 := by omega
          have y6 : (n : Int) - 1 < (n : Int) := by omega
          have y7 : (k : Int) - 1 < (k : Int) := by omega
          have y8 : (0 : Int) < (n : Int) := by omega
          rw [HT.out]
          clear hcC hcA hx0 hx1 h0 h1 HT
          go_wp2_with fail
          ((refine wp_region_kinK (W := (Kin.wd z)) (by kernel_rfl) (by kernel_rfl) (by repeat (first | with_reducible (first | exact blA | exact blB | refine blC _ ?_ | refine blD ?_ ?_ _ | refine blE ?_ | refine blF _ ?_ | refine blG ?_ _ | refine blH ?_ | refine blI ?_ ?_ _) | (simp only [World.size_alloc]; omega) | (simp <;> omega))) ?_); (repeat' (first | go_big_quiet_step ((go_at_call 10; exact Kin.quiet _ (awake23_any _))) | ((refine wpQuiet_guard rfl rfl rfl rfl (fun hg => ?_) (fun hg => ?_)) <;> (fail_if_success (first | guard_hyp hg : true = true | guard_hyp hg : false = false)) <;> (try simp only [decide_eq_true_eq, decide_eq_false_iff_not] at hg) <;> simp only [Act.put, List.setIfInBounds_toArray, List.set_cons_zero, List.set_cons_succ]))); all_goals ((with_reducible refine wpQuiet_nil ?_); intro zq hz))
          go_wp2_with fail
          go_ret
          exact ⟨rfl, (y0.2.trans (z.2.mono y0.2.size)).trans (zq.2.mono (Nat.le_trans y0.2.size z.2.size))⟩
set_option maxRecDepth 100000 in
theorem trackCorners_lifted (os : Os) (started : os.Started) (H : Type) (enc : TypeId × Value → H) :
    ReturnsInHanded {} Try.checked os 4 .any (Rows.trackCornersSpec.pre6 enc Try.prog Try.f4 Rows.trackCornersRow.domain false) (Rows.trackCornersSpec.post enc Try.prog Try.f4 false true false false) := by
  refine returnsInHanded_of_change (C := Try.checked) own started (by kernel_rfl) Try.func4
    (ChangeSpec.witness6 (enc := enc) (C := Try.checked) false ⟨#[], #[.agg #[.int .i64 0, .bool false, .slice none 0 0]], []⟩ 8 (by kernel_rfl) (by kernel_rfl) (by kernel_rfl) (by kernel_rfl)) ?_
  intro W base args ds gs before hval0 hW hcnd _
  have hval : ∀ (j : Nat) t v, Try.f4.params[j]? = some t → args[j]? = some v → Value.okWide Try.prog W .any base t v := hval0
  have hW' := hW
  obtain ⟨p, q, hA0, hV, rfl, hfz, hnd⟩ := hW
  have hA : DataW.TrodAll enc Try.prog W 0 (fun _ => true) true Try.f4.params.toList args.toList ds p := hA0
  rw [Try.params4] at hA hval
  have hAA := hA
  obtain ⟨v0, vs0, d0, ds0, p0, q0, hargs, rfl, rfl, h0, r0⟩ := trodAll_cons hA
  obtain ⟨rfl, rfl, rfl⟩ := trodAll_nil r0
  obtain rfl : args = #[v0] := by cases args; simp_all
  obtain ⟨rfl, rfl⟩ := trodVars_none hV
  have o0 := open_trk (hval 0 24 v0 rfl rfl) h0
  have hlt : ∀ x ∈ p0 ++ [], x.block < W.heap.size := fun x hx => hW'.lt x (by simpa using hx)
  refine (cornersL_walk W _ o0).mono fun e W' ⟨he, bel⟩ => ?_
  subst he
  exact ⟨_, rfl, _, _, _, [], _, [], hW', trodAll_mk1 (shut_bool Try.underlying4 _), below_trodAll laidOut bel _ _ _ _ (by
    intro t ht
    have hcl : ([24] : List TypeId).all (fun t => Try.prog.readableRec t && decide (t < Try.prog.types.size)) = true := by kernel_rfl
    have := List.all_eq_true.1 hcl t ht
    simpa using this) hlt hAA, rfl, bel.frame _, fun h => by cases h⟩
theorem trackCorners_heard : (Try.checked.prog.stopsHeard = true ∧ Try.checked.prog.mayEnter = true) ∧ Try.checked.prog.liftsFinal = Rows.trackCornersRow.lifted := ⟨⟨by kernel_rfl, by kernel_rfl⟩, by kernel_rfl⟩
theorem trackCorners_calls : (Try.checked.prog.inPlace 4 = Rows.trackCornersRow.inPlace ∧ Try.checked.prog.unfollowed 4 = Rows.trackCornersRow.unfollowed) ∧ (Try.checked.prog.recurses 4 = Rows.trackCornersRow.recurses ∧ Try.checked.prog.varsNamed 4 = Rows.trackCornersRow.named) := ⟨⟨by kernel_rfl, by kernel_rfl⟩, ⟨by kernel_rfl, by kernel_rfl⟩⟩
theorem trackCorners_closed : joinedFacts Try.checked.prog 4 Try.f4 Rows.trackCornersSpec Rows.trackCornersRow = true := by
  unfold joinedFacts
  rw [trackCorners_calls.1.1, trackCorners_calls.1.2, trackCorners_calls.2.1, trackCorners_calls.2.2, trackCorners_heard.1.1, trackCorners_heard.1.2, trackCorners_heard.2]
  kernel_rfl
/-- TrackCorners: for every input the call returns true, and the arguments read behind it as before. No condition. -/
theorem trackCorners_holds : Rows.TrackCornersSaid :=
  OpenClaim.holds_of_wide 4 Try.f4 rfl rfl rfl rfl rfl rfl rfl ⟨rfl, rfl, rfl, rfl, rfl⟩ rfl rfl rfl rfl rfl (by kernel_rfl) Try.func4 trackCorners_closed
    (of_decide_eq_true (by kernel_rfl)) (by unfold Func.isWrapper; rw [if_neg (of_decide_eq_false (by kernel_rfl))]; exact ⟨rfl, rfl⟩)
    (fun os started H enc _ => trackCorners_lifted os started H enc)

end Go.Proofs.Ytomndgjnhhchdaa

/- TrackChecks: for every input the law returns true. No condition. -/
import Derived.Test.YtomndgjnhhchdaaTrkAwk
import Derived.Test.YtomndgjnhhchdaaTrkCornR
import Derived.Test.YtomndgjnhhchdaaTrkRef
import Derived.Test.YtomndgjnhhchdaaTrkOpen
namespace Go.Proofs.Ytomndgjnhhchdaa
set_option linter.unusedSimpArgs false
set_option linter.unusedVariables false
set_option maxRecDepth 100000
open Go.ChangeShapes Go.WideShapes Go.ChangeAt Go.RowKit Go.Joins Trk Reg
attribute [local go_sem] Kin.cell Kin.frozen Kin.lt0 Kin.lt1 Kin.lt2 Kin.lt3
set_option maxHeartbeats 8000000 in
theorem checks_walk (W : World) (v : Value) (h : ∃ t : Tr, RdT W v t) : Calls Try.prog 3 #[v] W fun e W' => e = .returned (.bool true) ∧ Below W.heap.size W W' := by
  obtain ⟨⟨⟨r, cl⟩, l⟩, A, cap, rfl, hr⟩ := h
  obtain ⟨n, hL⟩ : ∃ n, l.length = n := ⟨_, rfl⟩
  simp only at hr ⊢
  rw [hL] at hr ⊢
  have HL := Lib.hid hL
  have HR := Lib.hid hr
  clear hr hL
  by_cases h3 : n > 300
  · have h3' : (n : Int) > 300 := by omega
    go_enter Try.func3, Try.ntmps3
    go_wp2_with fail
    (go_at_call 10; (with_reducible refine (Kin.callK (W := W) (by repeat (first | with_reducible (first | exact blA | exact blB | refine blC _ ?_ | refine blD ?_ ?_ _ | refine blE ?_ | refine blF _ ?_ | refine blG ?_ _ | refine blH ?_ | refine blI ?_ ?_ _) | (simp only [World.size_alloc]; omega) | (simp <;> omega))) (awake23_any _)).mono ?_); rintro e w' ⟨z, rfl, hz, rfl⟩)
    go_wp2_with fail
    go_ret
    exact ⟨rfl, (by repeat (first | with_reducible (first | exact blA | exact blB | refine blC _ ?_ | refine blD ?_ ?_ _ | refine blE ?_ | refine blF _ ?_ | refine blG ?_ _ | refine blH ?_ | refine blI ?_ ?_ _) | (simp only [World.size_alloc]; omega) | (simp <;> omega)))⟩
  · have h3' : ¬ (n : Int) > 300 := by omega
    obtain ⟨b, hb⟩ : ∃ b, tval ((r, cl), l) = b := ⟨_, rfl⟩
    obtain ⟨E, hE⟩ : ∃ E, stepsT ((r, cl), l) = E := ⟨_, rfl⟩
    have hcl : (cornT ((r, cl), l)).length ≤ 1099511627776 := by
      unfold cornT
      split
      · have := cornTo_len l l.length
        have := HL.out
        simp only at *
        omega
      · simp
    go_enter Try.func3, Try.ntmps3
    go_wp2_with fail
    have mixed : Try.prog.follows .mixedOrders = true := by kernel_rfl
    obtain ⟨y0, hy0⟩ : ∃ y0 : Kin W, y0.1 = W.alloc (.cells #[.int .i64 r, .bool cl, .slice A n cap] 24) := ⟨⟨W.alloc _, (by repeat (first | with_reducible (first | exact blA | exact blB | refine blC _ ?_ | refine blD ?_ ?_ _ | refine blE ?_ | refine blF _ ?_ | refine blG ?_ _ | refine blH ?_ | refine blI ?_ ?_ _) | (simp only [World.size_alloc]; omega) | (simp <;> omega)))⟩, rfl⟩
    rw [← hy0]
    have B0 := Blk.new W 24 #[.int .i64 r, .bool cl, .slice A n cap]
    rw [← hy0] at B0
    have t0 : y0.1.cell? ⟨W.heap.size, 0, none⟩ = some (.int .i64 r) := B0.cell 0
    have t1 : y0.1.cell? ⟨W.heap.size, 1, none⟩ = some (.bool cl) := B0.cell 1
    have t2 : y0.1.cell? ⟨W.heap.size, 2, none⟩ = some (.slice A n cap) := B0.cell 2
    have lt := B0.lt
    have HR0 := Lib.hid (HR.out.below y0.2)
    clear hy0 B0
    refine wp_region_held_drew (S := fun w' => Below y0.1.heap.size y0.1 w') (by kernel_rfl) (by repeat (first | with_reducible (first | exact blA | exact blB | refine blC _ ?_ | refine blD ?_ ?_ _ | refine blE ?_ | refine blF _ ?_ | refine blG ?_ _ | refine blH ?_ | refine blI ?_ ?_ _) | (simp only [World.size_alloc]; omega) | (simp <;> omega))) (fun hHeld => ?_)
    try simp only [List.size_toArray, List.length_cons, List.length_nil, Nat.zero_add, Nat.reduceAdd, List.replicate, Array.replicate]
    refine wpAnyH_take (i := 0) (v := ?_) rfl (by kernel_rfl) (by kernel_rfl) (by kernel_rfl) (fun _ _ _ h => h) (Or.inl ⟨by kernel_rfl, ?_⟩) (by assumption) ?_
    rotate_left
    · (intro w' hSw; have s0 := (hSw.cell (p := ⟨W.heap.size, 0, none⟩) lt).trans (t0); have s1 := (hSw.cell (p := ⟨W.heap.size, 1, none⟩) lt).trans (t1); have s2 := (hSw.cell (p := ⟨W.heap.size, 2, none⟩) lt).trans (t2); go_simp; try with_reducible rfl)
    try simp only [List.getElem_toArray, List.getElem_cons_succ, List.getElem_cons_zero, Act.put, List.setIfInBounds_toArray, List.set_cons_zero, List.set_cons_succ]
    refine wpAnyH_take (i := 2) (v := ?_) rfl (by kernel_rfl) (by kernel_rfl) (by kernel_rfl) (fun _ _ _ h => h) (Or.inl ⟨by kernel_rfl, ?_⟩) (by assumption) ?_
    rotate_left
    · (intro w' hSw; have s0 := (hSw.cell (p := ⟨W.heap.size, 0, none⟩) lt).trans (t0); have s1 := (hSw.cell (p := ⟨W.heap.size, 1, none⟩) lt).trans (t1); have s2 := (hSw.cell (p := ⟨W.heap.size, 2, none⟩) lt).trans (t2); go_simp; try with_reducible rfl)
    try simp only [List.getElem_toArray, List.getElem_cons_succ, List.getElem_cons_zero, Act.put, List.setIfInBounds_toArray, List.set_cons_zero, List.set_cons_succ]
    refine wpAnyH_ready (rs := [1]) (by kernel_rfl) (by simp) (AllReadyH.cons rfl (fun K hK => ?_) AllReadyH.nil)
    go_simp
    (go_at_call 11; (with_reducible refine (Kin.callK (W := (Kin.wd y0)) (by repeat (first | with_reducible (first | exact blA | exact blB | refine blC _ ?_ | refine blD ?_ ?_ _ | refine blE ?_ | refine blF _ ?_ | refine blG ?_ _ | refine blH ?_ | refine blI ?_ ?_ _) | (simp only [World.size_alloc]; omega) | (simp <;> omega))) (validT_is (b := b) (n := n) r cl _ _ l _ HL.out (HR0.out.below (by repeat (first | with_reducible (first | exact blA | exact blB | refine blC _ ?_ | refine blD ?_ ?_ _ | refine blE ?_ | refine blF _ ?_ | refine blG ?_ _ | refine blH ?_ | refine blI ?_ ?_ _) | (simp only [World.size_alloc]; omega) | (simp <;> omega)))) hb)).mono ?_); rintro e w' ⟨z1, rfl, hz1, rfl⟩; skip)
    refine hK.out _ _ (by repeat (first | with_reducible (first | exact blA | exact blB | refine blC _ ?_ | refine blD ?_ ?_ _ | refine blE ?_ | refine blF _ ?_ | refine blG ?_ _ | refine blH ?_ | refine blI ?_ ?_ _) | (simp only [World.size_alloc]; omega) | (simp <;> omega))) (fun hHeld2 => ?_)
    clear hK hHeld
    have hHeld := hHeld2
    clear hHeld2 K
    try simp only [List.getElem_toArray, List.getElem_cons_succ, List.getElem_cons_zero, Act.put, List.setIfInBounds_toArray, List.set_cons_zero, List.set_cons_succ]
    refine wpAnyH_ready (rs := [3]) (by kernel_rfl) (by simp) (AllReadyH.cons rfl (fun K hK => ?_) AllReadyH.nil)
    go_simp
    (go_at_call 12; (with_reducible refine (Kin.callK (W := (Kin.wd y0)) (by repeat (first | with_reducible (first | exact blA | exact blB | refine blC _ ?_ | refine blD ?_ ?_ _ | refine blE ?_ | refine blF _ ?_ | refine blG ?_ _ | refine blH ?_ | refine blI ?_ ?_ _) | (simp only [World.size_alloc]; omega) | (simp <;> omega))) (validR_is (b := b) (n := n) r cl _ _ l _ HL.out (HR0.out.below (by repeat (first | with_reducible (first | exact blA | exact blB | refine blC _ ?_ | refine blD ?_ ?_ _ | refine blE ?_ | refine blF _ ?_ | refine blG ?_ _ | refine blH ?_ | refine blI ?_ ?_ _) | (simp only [World.size_alloc]; omega) | (simp <;> omega)))) hb)).mono ?_); rintro e w' ⟨z2, rfl, hz2, rfl⟩; skip)
    refine hK.out _ _ (by repeat (first | with_reducible (first | exact blA | exact blB | refine blC _ ?_ | refine blD ?_ ?_ _ | refine blE ?_ | refine blF _ ?_ | refine blG ?_ _ | refine blH ?_ | refine blI ?_ ?_ _) | (simp only [World.size_alloc]; omega) | (simp <;> omega))) (fun hHeld2 => ?_)
    clear hK hHeld
    have hHeld := hHeld2
    clear hHeld2 K
    try simp only [List.getElem_toArray, List.getElem_cons_succ, List.getElem_cons_zero, Act.put, List.setIfInBounds_toArray, List.set_cons_zero, List.set_cons_succ]
    refine wpAnyH_take (i := 4) (v := ?_) rfl (by kernel_rfl) (by kernel_rfl) (by kernel_rfl) (fun _ _ _ h => h) (Or.inl ⟨by kernel_rfl, ?_⟩) (by assumption) ?_
    rotate_left
    · (intro w' hSw; have s0 := (hSw.cell (p := ⟨W.heap.size, 0, none⟩) lt).trans (t0); have s1 := (hSw.cell (p := ⟨W.heap.size, 1, none⟩) lt).trans (t1); have s2 := (hSw.cell (p := ⟨W.heap.size, 2, none⟩) lt).trans (t2); go_simp; try with_reducible rfl)
    try simp only [List.getElem_toArray, List.getElem_cons_succ, List.getElem_cons_zero, Act.put, List.setIfInBounds_toArray, List.set_cons_zero, List.set_cons_succ]
    refine wpAnyH_take (i := 5) (v := ?_) rfl (by kernel_rfl) (by kernel_rfl) (by kernel_rfl) (fun _ _ _ h => h) (Or.inl ⟨by kernel_rfl, ?_⟩) (by assumption) ?_
    rotate_left
    · (intro w' hSw; have s0 := (hSw.cell (p := ⟨W.heap.size, 0, none⟩) lt).trans (t0); have s1 := (hSw.cell (p := ⟨W.heap.size, 1, none⟩) lt).trans (t1); have s2 := (hSw.cell (p := ⟨W.heap.size, 2, none⟩) lt).trans (t2); go_simp; try with_reducible rfl)
    try simp only [List.getElem_toArray, List.getElem_cons_succ, List.getElem_cons_zero, Act.put, List.setIfInBounds_toArray, List.set_cons_zero, List.set_cons_succ]
    refine wpAnyH_take (i := 6) (v := ?_) rfl (by kernel_rfl) (by kernel_rfl) (by kernel_rfl) (fun _ _ _ h => h) (Or.inl ⟨by kernel_rfl, ?_⟩) (by assumption) ?_
    rotate_left
    · (intro w' hSw; have s0 := (hSw.cell (p := ⟨W.heap.size, 0, none⟩) lt).trans (t0); have s1 := (hSw.cell (p := ⟨W.heap.size, 1, none⟩) lt).trans (t1); have s2 := (hSw.cell (p := ⟨W.heap.size, 2, none⟩) lt).trans (t2); go_simp; try with_reducible rfl)
    try simp only [List.getElem_toArray, List.getElem_cons_succ, List.getElem_cons_zero, Act.put, List.setIfInBounds_toArray, List.set_cons_zero, List.set_cons_succ]
    refine wpAnyH_take (i := 8) (v := ?_) rfl (by kernel_rfl) (by kernel_rfl) (by kernel_rfl) (fun _ _ _ h => h) (Or.inl ⟨by kernel_rfl, ?_⟩) (by assumption) ?_
    rotate_left
    · (intro w' hSw; have s0 := (hSw.cell (p := ⟨W.heap.size, 0, none⟩) lt).trans (t0); have s1 := (hSw.cell (p := ⟨W.heap.size, 1, none⟩) lt).trans (t1); have s2 := (hSw.cell (p := ⟨W.heap.size, 2, none⟩) lt).trans (t2); go_simp; try with_reducible rfl)
    try simp only [List.getElem_toArray, List.getElem_cons_succ, List.getElem_cons_zero, Act.put, List.setIfInBounds_toArray, List.set_cons_zero, List.set_cons_succ]
    refine wpAnyH_ready (rs := [7]) (by kernel_rfl) (by simp) (AllReadyH.cons rfl (fun K hK => ?_) AllReadyH.nil)
    go_simp
    (go_at_call 13; (with_reducible refine (Kin.callK (W := (Kin.wd y0)) (by repeat (first | with_reducible (first | exact blA | exact blB | refine blC _ ?_ | refine blD ?_ ?_ _ | refine blE ?_ | refine blF _ ?_ | refine blG ?_ _ | refine blH ?_ | refine blI ?_ ?_ _) | (simp only [World.size_alloc]; omega) | (simp <;> omega))) (steps_is (E := E) (n := n) r cl _ _ l _ HL.out (HR0.out.below (by repeat (first | with_reducible (first | exact blA | exact blB | refine blC _ ?_ | refine blD ?_ ?_ _ | refine blE ?_ | refine blF _ ?_ | refine blG ?_ _ | refine blH ?_ | refine blI ?_ ?_ _) | (simp only [World.size_alloc]; omega) | (simp <;> omega)))) hE)).mono ?_); rintro e w' ⟨z3, rfl, hz3, rfl⟩; skip)
    refine hK.out _ _ (by repeat (first | with_reducible (first | exact blA | exact blB | refine blC _ ?_ | refine blD ?_ ?_ _ | refine blE ?_ | refine blF _ ?_ | refine blG ?_ _ | refine blH ?_ | refine blI ?_ ?_ _) | (simp only [World.size_alloc]; omega) | (simp <;> omega))) (fun hHeld2 => ?_)
    clear hK hHeld
    have hHeld := hHeld2
    clear hHeld2 K
    try simp only [List.getElem_toArray, List.getElem_cons_succ, List.getElem_cons_zero, Act.put, List.setIfInBounds_toArray, List.set_cons_zero, List.set_cons_succ]
    refine wpAnyH_ready (rs := [9]) (by kernel_rfl) (by simp) (AllReadyH.cons rfl (fun K hK => ?_) AllReadyH.nil)
    go_simp
    (go_at_call 14; (with_reducible refine (Kin.callK (W := (Kin.wd y0)) (by repeat (first | with_reducible (first | exact blA | exact blB | refine blC _ ?_ | refine blD ?_ ?_ _ | refine blE ?_ | refine blF _ ?_ | refine blG ?_ _ | refine blH ?_ | refine blI ?_ ?_ _) | (simp only [World.size_alloc]; omega) | (simp <;> omega))) (stepsR_is (E := E) (n := n) r cl _ _ l _ HL.out (HR0.out.below (by repeat (first | with_reducible (first | exact blA | exact blB | refine blC _ ?_ | refine blD ?_ ?_ _ | refine blE ?_ | refine blF _ ?_ | refine blG ?_ _ | refine blH ?_ | refine blI ?_ ?_ _) | (simp only [World.size_alloc]; omega) | (simp <;> omega)))) hE)).mono ?_); rintro e w' ⟨z4, rfl, hz4, rfl⟩; skip)
    refine hK.out _ _ (by repeat (first | with_reducible (first | exact blA | exact blB | refine blC _ ?_ | refine blD ?_ ?_ _ | refine blE ?_ | refine blF _ ?_ | refine blG ?_ _ | refine blH ?_ | refine blI ?_ ?_ _) | (simp only [World.size_alloc]; omega) | (simp <;> omega))) (fun hHeld2 => ?_)
    clear hK hHeld
    have hHeld := hHeld2
    clear hHeld2 K
    try simp only [List.getElem_toArray, List.getElem_cons_succ, List.getElem_cons_zero, Act.put, List.setIfInBounds_toArray, List.set_cons_zero, List.set_cons_succ]
    refine wpAnyH_take (i := 10) (v := ?_) rfl (by kernel_rfl) (by kernel_rfl) (by kernel_rfl) (fun _ _ _ h => h) (Or.inl ⟨by kernel_rfl, ?_⟩) (by assumption) ?_
    rotate_left
    · (intro w' hSw; have s0 := (hSw.cell (p := ⟨W.heap.size, 0, none⟩) lt).trans (t0); have s1 := (hSw.cell (p := ⟨W.heap.size, 1, none⟩) lt).trans (t1); have s2 := (hSw.cell (p := ⟨W.heap.size, 2, none⟩) lt).trans (t2); go_simp; try with_reducible rfl)
    try simp only [List.getElem_toArray, List.getElem_cons_succ, List.getElem_cons_zero, Act.put, List.setIfInBounds_toArray, List.set_cons_zero, List.set_cons_succ]
    refine wpAnyH_take (i := 11) (v := ?_) rfl (by kernel_rfl) (by kernel_rfl) (by kernel_rfl) (fun _ _ _ h => h) (Or.inl ⟨by kernel_rfl, ?_⟩) (by assumption) ?_
    rotate_left
    · (intro w' hSw; have s0 := (hSw.cell (p := ⟨W.heap.size, 0, none⟩) lt).trans (t0); have s1 := (hSw.cell (p := ⟨W.heap.size, 1, none⟩) lt).trans (t1); have s2 := (hSw.cell (p := ⟨W.heap.size, 2, none⟩) lt).trans (t2); go_simp; try with_reducible rfl)
    try simp only [List.getElem_toArray, List.getElem_cons_succ, List.getElem_cons_zero, Act.put, List.setIfInBounds_toArray, List.set_cons_zero, List.set_cons_succ]
    refine wpAnyH_take (i := 12) (v := ?_) rfl (by kernel_rfl) (by kernel_rfl) (by kernel_rfl) (fun _ _ _ h => h) (Or.inl ⟨by kernel_rfl, ?_⟩) (by assumption) ?_
    rotate_left
    · (intro w' hSw; have s0 := (hSw.cell (p := ⟨W.heap.size, 0, none⟩) lt).trans (t0); have s1 := (hSw.cell (p := ⟨W.heap.size, 1, none⟩) lt).trans (t1); have s2 := (hSw.cell (p := ⟨W.heap.size, 2, none⟩) lt).trans (t2); go_simp; try with_reducible rfl)
    try simp only [List.getElem_toArray, List.getElem_cons_succ, List.getElem_cons_zero, Act.put, List.setIfInBounds_toArray, List.set_cons_zero, List.set_cons_succ]
    refine wpAnyH_take (i := 13) (v := ?_) rfl (by kernel_rfl) (by kernel_rfl) (by kernel_rfl) (fun _ _ _ h => h) (Or.inl ⟨by kernel_rfl, ?_⟩) (by assumption) ?_
    rotate_left
    · (intro w' hSw; have s0 := (hSw.cell (p := ⟨W.heap.size, 0, none⟩) lt).trans (t0); have s1 := (hSw.cell (p := ⟨W.heap.size, 1, none⟩) lt).trans (t1); have s2 := (hSw.cell (p := ⟨W.heap.size, 2, none⟩) lt).trans (t2); go_simp; try with_reducible rfl)
    try simp only [List.getElem_toArray, List.getElem_cons_succ, List.getElem_cons_zero, Act.put, List.setIfInBounds_toArray, List.set_cons_zero, List.set_cons_succ]
    refine wpAnyH_take (i := 15) (v := ?_) rfl (by kernel_rfl) (by kernel_rfl) (by kernel_rfl) (fun _ _ _ h => h) (Or.inl ⟨by kernel_rfl, ?_⟩) (by assumption) ?_
    rotate_left
    · (intro w' hSw; have s0 := (hSw.cell (p := ⟨W.heap.size, 0, none⟩) lt).trans (t0); have s1 := (hSw.cell (p := ⟨W.heap.size, 1, none⟩) lt).trans (t1); have s2 := (hSw.cell (p := ⟨W.heap.size, 2, none⟩) lt).trans (t2); go_simp; try with_reducible rfl)
    try simp only [List.getElem_toArray, List.getElem_cons_succ, List.getElem_cons_zero, Act.put, List.setIfInBounds_toArray, List.set_cons_zero, List.set_cons_succ]
    refine wpAnyH_ready (rs := [14]) (by kernel_rfl) (by simp) (AllReadyH.cons rfl (fun K hK => ?_) AllReadyH.nil)
    go_simp
    (go_at_call 16; (with_reducible refine (Kin.callK (W := (Kin.wd y0)) (by repeat (first | with_reducible (first | exact blA | exact blB | refine blC _ ?_ | refine blD ?_ ?_ _ | refine blE ?_ | refine blF _ ?_ | refine blG ?_ _ | refine blH ?_ | refine blI ?_ ?_ _) | (simp only [World.size_alloc]; omega) | (simp <;> omega))) (corners_any r cl _ _ l (n := n) _ HL.out (HR0.out.below (by repeat (first | with_reducible (first | exact blA | exact blB | refine blC _ ?_ | refine blD ?_ ?_ _ | refine blE ?_ | refine blF _ ?_ | refine blG ?_ _ | refine blH ?_ | refine blI ?_ ?_ _) | (simp only [World.size_alloc]; omega) | (simp <;> omega)))))).mono ?_); rintro e w' ⟨z5, ⟨u5, rfl, hu5⟩, hz5, rfl⟩; skip)
    refine hK.out _ _ (by repeat (first | with_reducible (first | exact blA | exact blB | refine blC _ ?_ | refine blD ?_ ?_ _ | refine blE ?_ | refine blF _ ?_ | refine blG ?_ _ | refine blH ?_ | refine blI ?_ ?_ _) | (simp only [World.size_alloc]; omega) | (simp <;> omega))) (fun hHeld2 => ?_)
    clear hK hHeld
    have hHeld := hHeld2
    clear hHeld2 K
    try simp only [List.getElem_toArray, List.getElem_cons_succ, List.getElem_cons_zero, Act.put, List.setIfInBounds_toArray, List.set_cons_zero, List.set_cons_succ]
    refine wpAnyH_ready (rs := [16]) (by kernel_rfl) (by simp) (AllReadyH.cons rfl (fun K hK => ?_) AllReadyH.nil)
    go_simp
    (go_at_call 17; (with_reducible refine (Kin.callK (W := (Kin.wd y0)) (by repeat (first | with_reducible (first | exact blA | exact blB | refine blC _ ?_ | refine blD ?_ ?_ _ | refine blE ?_ | refine blF _ ?_ | refine blG ?_ _ | refine blH ?_ | refine blI ?_ ?_ _) | (simp only [World.size_alloc]; omega) | (simp <;> omega))) (cornersR_any r cl _ _ l (n := n) _ HL.out (HR0.out.below (by repeat (first | with_reducible (first | exact blA | exact blB | refine blC _ ?_ | refine blD ?_ ?_ _ | refine blE ?_ | refine blF _ ?_ | refine blG ?_ _ | refine blH ?_ | refine blI ?_ ?_ _) | (simp only [World.size_alloc]; omega) | (simp <;> omega)))))).mono ?_); rintro e w' ⟨z6, ⟨u6, rfl, hu6⟩, hz6, rfl⟩; skip)
    refine hK.out _ _ (by repeat (first | with_reducible (first | exact blA | exact blB | refine blC _ ?_ | refine blD ?_ ?_ _ | refine blE ?_ | refine blF _ ?_ | refine blG ?_ _ | refine blH ?_ | refine blI ?_ ?_ _) | (simp only [World.size_alloc]; omega) | (simp <;> omega))) (fun hHeld2 => ?_)
    clear hK hHeld
    have hHeld := hHeld2
    clear hHeld2 K
    try simp only [List.getElem_toArray, List.getElem_cons_succ, List.getElem_cons_zero, Act.put, List.setIfInBounds_toArray, List.set_cons_zero, List.set_cons_succ]
    have hu5' := hu5.below hz6
    refine wpAnyH_ready (rs := [17]) (by kernel_rfl) (by simp) (AllReadyH.cons rfl (fun K hK => ?_) AllReadyH.nil)
    go_simp
    (go_at_call 15; (with_reducible refine (Kin.callK (W := (Kin.wd y0)) (by repeat (first | with_reducible (first | exact blA | exact blB | refine blC _ ?_ | refine blD ?_ ?_ _ | refine blE ?_ | refine blF _ ?_ | refine blG ?_ _ | refine blH ?_ | refine blI ?_ ?_ _) | (simp only [World.size_alloc]; omega) | (simp <;> omega))) (cells_true _ _ _ _ hu5' hu6 hcl)).mono ?_); rintro e w' ⟨z7, rfl, hz7, rfl⟩; skip)
    refine hK.out _ _ (by repeat (first | with_reducible (first | exact blA | exact blB | refine blC _ ?_ | refine blD ?_ ?_ _ | refine blE ?_ | refine blF _ ?_ | refine blG ?_ _ | refine blH ?_ | refine blI ?_ ?_ _) | (simp only [World.size_alloc]; omega) | (simp <;> omega))) (fun hHeld2 => ?_)
    clear hK hHeld
    have hHeld := hHeld2
    clear hHeld2 K
    try simp only [List.getElem_toArray, List.getElem_cons_succ, List.getElem_cons_zero, Act.put, List.setIfInBounds_toArray, List.set_cons_zero, List.set_cons_succ]
    refine wpAnyH_take (i := 18) (v := ?_) rfl (by kernel_rfl) (by kernel_rfl) (by kernel_rfl) (fun _ _ _ h => h) (Or.inl ⟨by kernel_rfl, ?_⟩) (by assumption) ?_
    rotate_left
    · (intro w' hSw; have s0 := (hSw.cell (p := ⟨W.heap.size, 0, none⟩) lt).trans (t0); have s1 := (hSw.cell (p := ⟨W.heap.size, 1, none⟩) lt).trans (t1); have s2 := (hSw.cell (p := ⟨W.heap.size, 2, none⟩) lt).trans (t2); go_simp; try with_reducible rfl)
    try simp only [List.getElem_toArray, List.getElem_cons_succ, List.getElem_cons_zero, Act.put, List.setIfInBounds_toArray, List.set_cons_zero, List.set_cons_succ]
    refine wpAnyH_take (i := 19) (v := ?_) rfl (by kernel_rfl) (by kernel_rfl) (by kernel_rfl) (fun _ _ _ h => h) (Or.inl ⟨by kernel_rfl, ?_⟩) (by assumption) ?_
    rotate_left
    · (intro w' hSw; have s0 := (hSw.cell (p := ⟨W.heap.size, 0, none⟩) lt).trans (t0); have s1 := (hSw.cell (p := ⟨W.heap.size, 1, none⟩) lt).trans (t1); have s2 := (hSw.cell (p := ⟨W.heap.size, 2, none⟩) lt).trans (t2); go_simp; try with_reducible rfl)
    try simp only [List.getElem_toArray, List.getElem_cons_succ, List.getElem_cons_zero, Act.put, List.setIfInBounds_toArray, List.set_cons_zero, List.set_cons_succ]
    refine wpAnyH_ready (rs := [20]) (by kernel_rfl) (by simp) (AllReadyH.cons rfl (fun K hK => ?_) AllReadyH.nil)
    go_simp
    (go_at_call 10; (with_reducible refine (Kin.callK (W := (Kin.wd y0)) (by repeat (first | with_reducible (first | exact blA | exact blB | refine blC _ ?_ | refine blD ?_ ?_ _ | refine blE ?_ | refine blF _ ?_ | refine blG ?_ _ | refine blH ?_ | refine blI ?_ ?_ _) | (simp only [World.size_alloc]; omega) | (simp <;> omega))) (awake23_any _)).mono ?_); rintro e w' ⟨z8, rfl, hz8, rfl⟩; skip)
    refine hK.out _ _ (by repeat (first | with_reducible (first | exact blA | exact blB | refine blC _ ?_ | refine blD ?_ ?_ _ | refine blE ?_ | refine blF _ ?_ | refine blG ?_ _ | refine blH ?_ | refine blI ?_ ?_ _) | (simp only [World.size_alloc]; omega) | (simp <;> omega))) (fun hHeld2 => ?_)
    clear hK hHeld
    have hHeld := hHeld2
    clear hHeld2 K
    try simp only [List.getElem_toArray, List.getElem_cons_succ, List.getElem_cons_zero, Act.put, List.setIfInBounds_toArray, List.set_cons_zero, List.set_cons_succ]
    refine wpAnyH_take (i := 21) (v := ?_) rfl (by kernel_rfl) (by kernel_rfl) (by kernel_rfl) (fun _ _ _ h => h) (Or.inl ⟨by kernel_rfl, ?_⟩) (by assumption) ?_
    rotate_left
    · (intro w' hSw; have s0 := (hSw.cell (p := ⟨W.heap.size, 0, none⟩) lt).trans (t0); have s1 := (hSw.cell (p := ⟨W.heap.size, 1, none⟩) lt).trans (t1); have s2 := (hSw.cell (p := ⟨W.heap.size, 2, none⟩) lt).trans (t2); go_simp; try with_reducible rfl)
    try simp only [List.getElem_toArray, List.getElem_cons_succ, List.getElem_cons_zero, Act.put, List.setIfInBounds_toArray, List.set_cons_zero, List.set_cons_succ]
    refine wpAnyH_take (i := 22) (v := ?_) rfl (by kernel_rfl) (by kernel_rfl) (by kernel_rfl) (fun _ _ _ h => h) (Or.inl ⟨by kernel_rfl, ?_⟩) (by assumption) ?_
    rotate_left
    · (intro w' hSw; have s0 := (hSw.cell (p := ⟨W.heap.size, 0, none⟩) lt).trans (t0); have s1 := (hSw.cell (p := ⟨W.heap.size, 1, none⟩) lt).trans (t1); have s2 := (hSw.cell (p := ⟨W.heap.size, 2, none⟩) lt).trans (t2); go_simp; try with_reducible rfl)
    try simp only [List.getElem_toArray, List.getElem_cons_succ, List.getElem_cons_zero, Act.put, List.setIfInBounds_toArray, List.set_cons_zero, List.set_cons_succ]
    refine wpAnyH_done (by kernel_rfl) ?_ _
    go_wp2_with fail
    go_ret
    exact ⟨rfl, y0.2.trans (z8.2.mono y0.2.size)⟩
set_option maxRecDepth 100000 in
theorem trackChecks_lifted (os : Os) (started : os.Started) (H : Type) (enc : TypeId × Value → H) :
    ReturnsInHanded {} Try.checked os 3 .any (Rows.trackChecksSpec.pre6 enc Try.prog Try.f3 Rows.trackChecksRow.domain false) (Rows.trackChecksSpec.post enc Try.prog Try.f3 false true false false) := by
  refine returnsInHanded_of_change (C := Try.checked) own started (by kernel_rfl) Try.func3
    (ChangeSpec.witness6 (enc := enc) (C := Try.checked) false ⟨#[], #[.agg #[.int .i64 0, .bool false, .slice none 0 0]], []⟩ 8 (by kernel_rfl) (by kernel_rfl) (by kernel_rfl) (by kernel_rfl)) ?_
  intro W base args ds gs before hval0 hW hcnd _
  have hval : ∀ (j : Nat) t v, Try.f3.params[j]? = some t → args[j]? = some v → Value.okWide Try.prog W .any base t v := hval0
  have hW' := hW
  obtain ⟨p, q, hA0, hV, rfl, hfz, hnd⟩ := hW
  have hA : DataW.TrodAll enc Try.prog W 0 (fun _ => true) true Try.f3.params.toList args.toList ds p := hA0
  rw [Try.params3] at hA hval
  have hAA := hA
  obtain ⟨v0, vs0, d0, ds0, p0, q0, hargs, rfl, rfl, h0, r0⟩ := trodAll_cons hA
  obtain ⟨rfl, rfl, rfl⟩ := trodAll_nil r0
  obtain rfl : args = #[v0] := by cases args; simp_all
  obtain ⟨rfl, rfl⟩ := trodVars_none hV
  have o0 := open_trk (hval 0 24 v0 rfl rfl) h0
  have hlt : ∀ x ∈ p0 ++ [], x.block < W.heap.size := fun x hx => hW'.lt x (by simpa using hx)
  refine (checks_walk W _ o0).mono fun e W' ⟨he, bel⟩ => ?_
  subst he
  exact ⟨_, rfl, _, _, _, [], _, [], hW', trodAll_mk1 (shut_bool Try.underlying4 _), below_trodAll laidOut bel _ _ _ _ (by
    intro t ht
    have hcl : ([24] : List TypeId).all (fun t => Try.prog.readableRec t && decide (t < Try.prog.types.size)) = true := by kernel_rfl
    have := List.all_eq_true.1 hcl t ht
    simpa using this) hlt hAA, rfl, bel.frame _, fun h => by cases h⟩
theorem trackChecks_heard : (Try.checked.prog.stopsHeard = true ∧ Try.checked.prog.mayEnter = true) ∧ Try.checked.prog.liftsFinal = Rows.trackChecksRow.lifted := ⟨⟨by kernel_rfl, by kernel_rfl⟩, by kernel_rfl⟩
theorem trackChecks_calls : (Try.checked.prog.inPlace 3 = Rows.trackChecksRow.inPlace ∧ Try.checked.prog.unfollowed 3 = Rows.trackChecksRow.unfollowed) ∧ (Try.checked.prog.recurses 3 = Rows.trackChecksRow.recurses ∧ Try.checked.prog.varsNamed 3 = Rows.trackChecksRow.named) := ⟨⟨by kernel_rfl, by kernel_rfl⟩, ⟨by kernel_rfl, by kernel_rfl⟩⟩
theorem trackChecks_closed : joinedFacts Try.checked.prog 3 Try.f3 Rows.trackChecksSpec Rows.trackChecksRow = true := by
  unfold joinedFacts
  rw [trackChecks_calls.1.1, trackChecks_calls.1.2, trackChecks_calls.2.1, trackChecks_calls.2.2, trackChecks_heard.1.1, trackChecks_heard.1.2, trackChecks_heard.2]
  kernel_rfl
/-- TrackChecks: for every input the call returns true, and the arguments read behind it as before. No condition. -/
theorem trackChecks_holds : Rows.TrackChecksSaid :=
  OpenClaim.holds_of_wide 3 Try.f3 rfl rfl rfl rfl rfl rfl rfl ⟨rfl, rfl, rfl, rfl, rfl⟩ rfl rfl rfl rfl rfl (by kernel_rfl) Try.func3 trackChecks_closed
    (of_decide_eq_true (by kernel_rfl)) (by unfold Func.isWrapper; rw [if_neg (of_decide_eq_false (by kernel_rfl))]; exact ⟨rfl, rfl⟩)
    (fun os started H enc _ => trackChecks_lifted os started H enc)

end Go.Proofs.Ytomndgjnhhchdaa

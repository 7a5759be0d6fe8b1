/- Proved: ContourMoves returns true for every input, and the arguments read behind the call as before. No condition. -/
import Derived.Test.YteadnlodccnfcaaCtrMov
import Derived.Test.YteadnlodccnfcaaCtrLawN
import Derived.Test.YteadnlodccnfcaaCtrLawL
import Derived.Test.YteadnlodccnfcaaHeldT
namespace Go.Proofs.Yteadnlodccnfcaa
set_option linter.unusedSimpArgs false
set_option linter.unusedVariables false
set_option maxRecDepth 100000
open Go.ChangeShapes Go.WideShapes Go.ChangeAt Go.RowKit Go.Joins Planar
attribute [local go_sem] Kin.cell Kin.frozen Kin.lt0 Kin.lt1 Kin.lt2 Kin.lt3 run_mkf
theorem nest_vld {l : List (List Pt)} (h0 : nestE l = 0) : ∀ o ∈ l, ∀ a ∈ o, vld a = true := by
  unfold nestE at h0
  split at h0
  · exact absurd h0 (by decide)
  · split at h0
    · rename_i h; exact fun o ho a ha => List.all_eq_true.1 (List.all_eq_true.1 h o ho) a ha
    · exact absurd h0 (by decide)
set_option maxHeartbeats 8000000 in
theorem ctrMoves_walk (W : World) (v : Value) (h : IsPols W v) (vx : Value) (hvx : IsInt vx) (vy : Value) (hvy : IsInt vy) : Calls Try.prog 9 #[v, vx, vy] W fun e W' => e = .returned (.bool true) ∧ Below W.heap.size W W' := by
  obtain ⟨l, h, hw⟩ := h
  obtain ⟨dx, rfl, hdx⟩ := hvx
  obtain ⟨dy, rfl, hdy⟩ := hvy
  have h8 := someP_len l
  have HB := Lib.hid (fun o (ho : o ∈ someP l) => someP_each ho)
  obtain ⟨q, hq⟩ : ∃ q, someP l = q := ⟨_, rfl⟩
  rw [hq] at h8 HB
  have HQ := Lib.hid hq
  have hnl := nestL_len q
  obtain ⟨E, hE⟩ : ∃ E, nestE q = E := ⟨_, rfl⟩
  obtain ⟨R, hR⟩ : ∃ R, nestL q = R := ⟨_, rfl⟩
  rw [hR] at hnl
  have HE := Lib.hid hE
  have HR := Lib.hid hR
  have HB2 := Lib.hid (fun o (ho : o ∈ q) => Nat.le_trans (HB.out o ho) (show 20 ≤ 1000 by decide))
  clear hq hw hE hR
  by_cases hbad : E ≠ 0 ∨ dx < -1000000 ∨ 1000000 < dx ∨ dy < -1000000 ∨ 1000000 < dy
  · by_cases hE0 : E = 0 <;> by_cases h1 : dx < -1000000 <;> by_cases h2 : 1000000 < dx <;> by_cases h3 : dy < -1000000 <;> by_cases h4 : 1000000 < dy
    all_goals (try (exfalso; omega))
    all_goals
      clear hbad
      (try subst hE0)
      go_enter Try.func9, Try.ntmps9
      go_wp2_with fail
      (go_at_call 20; (with_reducible refine (Kin.callK (W := W) (by repeat (first | with_reducible (first | exact blA | exact blB | refine blC _ ?_ | refine blD ?_ ?_ _ | refine blE ?_ | refine blF _ ?_ | refine blG ?_ _ | refine blH ?_ | refine blI ?_ ?_ _) | (simp only [World.size_alloc]; omega) | (simp <;> omega))) (some16_any _ l _ h)).mono ?_); rintro e w' ⟨z1, ⟨u, rfl, hu⟩, hz1, rfl⟩; skip)
      rw [HQ.out] at hu
      have HU := Lib.hid hu
      clear hu hz1 h
      go_wp2_with fail
      (go_at_call 25; (with_reducible refine (Kin.callK (W := W) (by repeat (first | with_reducible (first | exact blA | exact blB | refine blC _ ?_ | refine blD ?_ ?_ _ | refine blE ?_ | refine blF _ ?_ | refine blG ?_ _ | refine blH ?_ | refine blI ?_ ?_ _) | (simp only [World.size_alloc]; omega) | (simp <;> omega))) (nest_is _ q _ HU.out (by omega) HB2.out HE.out HR.out)).mono ?_); rintro e w' ⟨z2, ⟨u2, rfl, hu2⟩, hz2, rfl⟩; skip)
      clear hu2 hz2
      go_wp2_with fail
      (go_at_call 19; (with_reducible refine (Kin.callK (W := W) (by repeat (first | with_reducible (first | exact blA | exact blB | refine blC _ ?_ | refine blD ?_ ?_ _ | refine blE ?_ | refine blF _ ?_ | refine blG ?_ _ | refine blH ?_ | refine blI ?_ ?_ _) | (simp only [World.size_alloc]; omega) | (simp <;> omega))) (awake16_any _)).mono ?_); rintro e w' ⟨z6, rfl, hz6, rfl⟩; skip)
      go_wp2_with fail
      go_ret
      exact ⟨rfl, z6.2⟩
  · have hE0 : E = 0 := by omega
    subst hE0
    have hx1 : ¬ dx < -1000000 := by omega
    have hx2 : ¬ 1000000 < dx := by omega
    have hy1 : ¬ dy < -1000000 := by omega
    have hy2 : ¬ 1000000 < dy := by omega
    clear hbad
    go_enter Try.func9, Try.ntmps9
    go_wp2_with fail
    (go_at_call 20; (with_reducible refine (Kin.callK (W := W) (by repeat (first | with_reducible (first | exact blA | exact blB | refine blC _ ?_ | refine blD ?_ ?_ _ | refine blE ?_ | refine blF _ ?_ | refine blG ?_ _ | refine blH ?_ | refine blI ?_ ?_ _) | (simp only [World.size_alloc]; omega) | (simp <;> omega))) (some16_any _ l _ h)).mono ?_); rintro e w' ⟨z1, ⟨u, rfl, hu⟩, hz1, rfl⟩; skip)
    rw [HQ.out] at hu
    have HU := Lib.hid hu
    clear hu hz1 h
    go_wp2_with fail
    (go_at_call 25; (with_reducible refine (Kin.callK (W := W) (by repeat (first | with_reducible (first | exact blA | exact blB | refine blC _ ?_ | refine blD ?_ ?_ _ | refine blE ?_ | refine blF _ ?_ | refine blG ?_ _ | refine blH ?_ | refine blI ?_ ?_ _) | (simp only [World.size_alloc]; omega) | (simp <;> omega))) (nest_is _ q _ HU.out (by omega) HB2.out HE.out HR.out)).mono ?_); rintro e w' ⟨z2, ⟨u2, rfl, hu2⟩, hz2, rfl⟩; skip)
    replace HU := Lib.hid (HU.out.below hz2)
    have H2 := Lib.hid hu2
    clear hu2 hz2
    go_wp2_with fail
    have hbw := z2.2
    obtain ⟨W2, hW2⟩ : ∃ W2, z2.1 = W2 := ⟨_, rfl⟩
    rw [hW2] at HU H2 hbw ⊢
    have HBW := Lib.hid hbw
    clear hW2 hbw
    obtain ⟨A, capA, rfl, hcapA, hopA⟩ := pols_open HU.out
    have HA := Lib.hid hopA
    obtain ⟨n, hN⟩ : ∃ n, q.length = n := ⟨_, rfl⟩
    have HN := Lib.hid hN
    rw [hN] at hcapA h8 hnl ⊢
    clear hopA hN HU
    go_loopw [9, 10, 11] (fun s t i wr => ∃ k : Nat, k ≤ n ∧ i = .int .i64 k ∧ Hid (Mov W2.heap.size wr s ((q.take k).map fun o => o.map (movP dx dy)) t ((q.take k).map List.reverse)) ∧ Hid (∀ o ∈ q.take k, ∀ a ∈ o, vld (movP dx dy a) = true) ∧ ∃ y : Kin W2, y.1 = wr) (fun _ _ i _ => n - (intOf i).toNat)
    case atStart => exact ⟨0, Nat.zero_le _, rfl, Lib.hid (Mov.nil _ _), Lib.hid (fun o ho => by simp at ho), ⟨_, Below.refl _ _⟩, rfl⟩
    case round =>
      obtain ⟨k, hk, rfl, HM, HV, y, rfl⟩ := hrel
      by_cases hlt : k < n
      · obtain ⟨o, ho⟩ : ∃ o, q[k]? = some o := ⟨_, List.getElem?_eq_getElem (by rw [HN.out]; exact hlt)⟩
        obtain ⟨bA, offA, rfl, hbA, hcA⟩ := HA.out k o ho
        obtain ⟨S, cS, o_0, hcS, hrS⟩ := hcA k o ho
        have h20 := HB.out o (List.mem_of_getElem? ho)
        obtain ⟨m, hm⟩ : ∃ m, o.length = m := ⟨_, rfl⟩
        rw [hm] at o_0 hcS hrS h20
        have HO := Lib.hid ho
        have HML := Lib.hid hm
        have HRS := Lib.hid hrS
        clear hcA ho hm hrS
        go_wp2_with fail
        have HBP0 := ((Blk.new y.1 42 #[.slice none 0 0]).up (.cells #[.slice none 0 0] 42))
        have HBQ0 := Blk.new (y.1.alloc (.cells #[.slice none 0 0] 42)) 42 #[.slice none 0 0]
        simp only [World.size_alloc] at HBQ0
        have hby : Below y.1.heap.size y.1 ((y.1.alloc (.cells #[.slice none 0 0] 42)).alloc (.cells #[.slice none 0 0] 42)) := (by repeat (first | with_reducible (first | exact blA | exact blB | refine blC _ ?_ | refine blD ?_ ?_ _ | refine blE ?_ | refine blF _ ?_ | refine blG ?_ _ | refine blH ?_ | refine blI ?_ ?_ _) | (simp only [World.size_alloc]; omega) | (simp <;> omega)))
        obtain ⟨Y, hY⟩ : ∃ Y, y.1 = Y := ⟨_, rfl⟩
        have hyk := y.2
        rw [hY] at HBP0 HBQ0 hby HM hyk ⊢
        obtain ⟨Y2, hY2⟩ : ∃ Y2, (Y.alloc (.cells #[.slice none 0 0] 42)).alloc (.cells #[.slice none 0 0] 42) = Y2 := ⟨_, rfl⟩
        rw [hY2] at HBP0 HBQ0 hby ⊢
        obtain ⟨gp, hgp⟩ : ∃ gp, Y.heap.size = gp := ⟨_, rfl⟩
        have HGP := Lib.hid hgp
        have HYK := Lib.hid hyk
        have HBY := Lib.hid hby
        have HBP := Lib.hid (show Blk Y2 gp 42 #[.slice none 0 0] from hgp ▸ HBP0)
        have HBQ := Lib.hid (show Blk Y2 (gp + 1) 42 #[.slice none 0 0] from hgp ▸ HBQ0)
        rw [hgp]
        clear hyk hby HBP0 HBQ0 hY hY2 hgp
        go_loopw [15] (fun i wr => ∃ (j : Nat) (P Q : Value), j ≤ m ∧ i = .int .i64 j ∧ Hid (Blk wr gp 42 #[P]) ∧ Hid (Blk wr (gp + 1) 42 #[Q]) ∧ Hid (wr.ownsRow (gp + 1 + 1) 36 2 P ((o.take j).map (movP dx dy)).length (((o.take j).map (movP dx dy)).flatMap encPt)) ∧ Hid (wr.ownsRow (gp + 1 + 1) 36 2 Q (o.reverse.take j).length ((o.reverse.take j).flatMap encPt)) ∧ Hid (P.ownBlock = none ∨ P.ownBlock ≠ Q.ownBlock) ∧ Hid (∀ a ∈ o.take j, vld (movP dx dy a) = true) ∧ Hid (Below Y.heap.size Y wr)) (fun i _ => m - (intOf i).toNat)
        case atStart => exact ⟨0, _, _, Nat.zero_le _, rfl, HBP, HBQ, Lib.hid (World.ownsRow_nil _ _ _ _), Lib.hid (World.ownsRow_nil _ _ _ _), Lib.hid (.inl rfl), Lib.hid (fun a h => by simp at h), HBY⟩
        case round =>
          clear HBP HBQ
          obtain ⟨j, P, Q, hj, rfl, HBP, HBQ, HOP, HOQ, HPQ, HVA, HYW⟩ := hrel
          by_cases hjm : j < m
          · obtain ⟨a, ha⟩ : ∃ a, o[j]? = some a := ⟨_, List.getElem?_eq_getElem (by rw [HML.out]; exact hjm)⟩
            obtain ⟨bS, offS, rfl, hbS, hcc⟩ := Rd.op HRS.out j a ha
            have hyw : Below W2.heap.size W2 wr := HYK.out.trans (HYW.out.mono HYK.out.size)
            have w_o : wr.cell? ⟨bA, offA + k, none⟩ = some (.slice (some ⟨bS, offS, none⟩) m cS) := (hyw.cell (p := ⟨bA, offA + k, none⟩) hbA).trans o_0
            have a_0 : wr.cell? ⟨bS, offS + j * 2, none⟩ = some (.int .i64 a.1) := (hyw.cell (p := ⟨bS, offS + j * 2, none⟩) hbS).trans (hcc j a ha 0 _ rfl)
            have a_1 : wr.cell? ⟨bS, offS + j * 2 + 1, none⟩ = some (.int .i64 a.2) := (hyw.cell (p := ⟨bS, offS + j * 2 + 1, none⟩) hbS).trans (hcc j a ha 1 _ rfl)
            have HAJ := Lib.hid ha
            have HYW2 := Lib.hid hyw
            clear ha hyw
            have hva := nest_vld HE.out o (List.mem_of_getElem? HO.out) a (List.mem_of_getElem? HAJ.out)
            obtain ⟨vb1, vb2, vb3, vb4⟩ := vld_bd hva
            have e1 : IntKind.i64.wrap (a.1 + dx) = a.1 + dx := IntWalk.i64_in _ (by omega)
            have e2 : IntKind.i64.wrap (a.2 + dy) = a.2 + dy := IntWalk.i64_in _ (by omega)
            obtain ⟨r, hr⟩ : ∃ r, m - 1 - j = r := ⟨_, rfl⟩
            have hrm : r < m := by omega
            obtain ⟨b, hb⟩ : ∃ b, o[r]? = some b := ⟨_, List.getElem?_eq_getElem (by rw [HML.out]; exact hrm)⟩
            have b_0 : wr.cell? ⟨bS, offS + r * 2, none⟩ = some (.int .i64 b.1) := (HYW2.out.cell (p := ⟨bS, offS + r * 2, none⟩) hbS).trans (hcc r b hb 0 _ rfl)
            have b_1 : wr.cell? ⟨bS, offS + r * 2 + 1, none⟩ = some (.int .i64 b.2) := (HYW2.out.cell (p := ⟨bS, offS + r * 2 + 1, none⟩) hbS).trans (hcc r b hb 1 _ rfl)
            have e3 : IntKind.i64.wrap ((m : Int) - 1) = (m : Int) - 1 := IntWalk.i64_in _ (by omega)
            have e4 : IntKind.i64.wrap ((m : Int) - 1 - (j : Int)) = (r : Int) := by rw [IntWalk.i64_in _ (by omega)]; omega
            have HRB := Lib.hid (show o.reverse[j]? = some b by rw [List.getElem?_reverse (by rw [HML.out]; exact hjm), HML.out, hr]; exact hb)
            have hbA2 : bA < wr.heap.size := Nat.lt_of_lt_of_le hbA HYW2.out.size
            have hbS2 : bS < wr.heap.size := Nat.lt_of_lt_of_le hbS HYW2.out.size
            have mixed : Try.prog.follows .mixedOrders = true := by kernel_rfl
            have e5 : (r : Int) < (m : Int) := by omega
            have b2_0 : W2.cell? ⟨bS, offS + r * 2, none⟩ = some (.int .i64 b.1) := hcc r b hb 0 _ rfl
            have b2_1 : W2.cell? ⟨bS, offS + r * 2 + 1, none⟩ = some (.int .i64 b.2) := hcc r b hb 1 _ rfl
            clear hcc hb hr hva
            go_wp2_with fail
            refine wp_region_held_drew (S := fun w' => Below wr.heap.size wr w') (by kernel_rfl) ((Below.refl _ _).drew) (fun hHeld => ?_)
            try simp only [List.size_toArray, List.length_cons, List.length_nil, Nat.zero_add, Nat.reduceAdd, List.replicate, Array.replicate]
            refine wpAnyH_take (i := 0) (v := ?_) rfl (by kernel_rfl) (by kernel_rfl) (by kernel_rfl) (fun _ _ _ h => h) (Or.inl ⟨by kernel_rfl, ?_⟩) (by assumption) ?_
            rotate_left
            · (intro w' hSw; have S1 := hSw; have r0 := (S1.cell (p := ⟨bA, offA + k, none⟩) hbA2).trans w_o; have r1 := (S1.cell (p := ⟨bS, offS + j * 2, none⟩) hbS2).trans a_0; have r2 := (S1.cell (p := ⟨bS, offS + j * 2 + 1, none⟩) hbS2).trans a_1; clear S1; go_simp; try with_reducible rfl)
            try simp only [List.getElem_toArray, List.getElem_cons_succ, List.getElem_cons_zero, Act.put, List.setIfInBounds_toArray, List.set_cons_zero, List.set_cons_succ]
            refine wpAnyH_take (i := 1) (v := ?_) rfl (by kernel_rfl) (by kernel_rfl) (by kernel_rfl) (fun _ _ _ h => h) (Or.inl ⟨by kernel_rfl, ?_⟩) (by assumption) ?_
            rotate_left
            · (intro w' hSw; have S1 := hSw; have r0 := (S1.cell (p := ⟨bA, offA + k, none⟩) hbA2).trans w_o; have r1 := (S1.cell (p := ⟨bS, offS + j * 2, none⟩) hbS2).trans a_0; have r2 := (S1.cell (p := ⟨bS, offS + j * 2 + 1, none⟩) hbS2).trans a_1; clear S1; go_simp; try with_reducible rfl)
            try simp only [List.getElem_toArray, List.getElem_cons_succ, List.getElem_cons_zero, Act.put, List.setIfInBounds_toArray, List.set_cons_zero, List.set_cons_succ]
            refine wpAnyH_take (i := 2) (v := ?_) rfl (by kernel_rfl) (by kernel_rfl) (by kernel_rfl) (fun _ _ _ h => h) (Or.inl ⟨by kernel_rfl, ?_⟩) (by assumption) ?_
            rotate_left
            · (intro w' hSw; have S1 := hSw; have r0 := (S1.cell (p := ⟨bA, offA + k, none⟩) hbA2).trans w_o; have r1 := (S1.cell (p := ⟨bS, offS + j * 2, none⟩) hbS2).trans a_0; have r2 := (S1.cell (p := ⟨bS, offS + j * 2 + 1, none⟩) hbS2).trans a_1; clear S1; go_simp; try with_reducible rfl)
            try simp only [List.getElem_toArray, List.getElem_cons_succ, List.getElem_cons_zero, Act.put, List.setIfInBounds_toArray, List.set_cons_zero, List.set_cons_succ]
            refine wpAnyH_take (i := 3) (v := ?_) rfl (by kernel_rfl) (by kernel_rfl) (by kernel_rfl) (fun _ _ _ h => h) (Or.inl ⟨by kernel_rfl, ?_⟩) (by assumption) ?_
            rotate_left
            · (intro w' hSw; have S1 := hSw; have r0 := (S1.cell (p := ⟨bA, offA + k, none⟩) hbA2).trans w_o; have r1 := (S1.cell (p := ⟨bS, offS + j * 2, none⟩) hbS2).trans a_0; have r2 := (S1.cell (p := ⟨bS, offS + j * 2 + 1, none⟩) hbS2).trans a_1; clear S1; go_simp; try with_reducible rfl)
            try simp only [List.getElem_toArray, List.getElem_cons_succ, List.getElem_cons_zero, Act.put, List.setIfInBounds_toArray, List.set_cons_zero, List.set_cons_succ]
            refine wpAnyH_take (i := 4) (v := ?_) rfl (by kernel_rfl) (by kernel_rfl) (by kernel_rfl) (fun _ _ _ h => h) (Or.inl ⟨by kernel_rfl, ?_⟩) (by assumption) ?_
            rotate_left
            · (intro w' hSw; have S1 := hSw; have r0 := (S1.cell (p := ⟨bA, offA + k, none⟩) hbA2).trans w_o; have r1 := (S1.cell (p := ⟨bS, offS + j * 2, none⟩) hbS2).trans a_0; have r2 := (S1.cell (p := ⟨bS, offS + j * 2 + 1, none⟩) hbS2).trans a_1; clear S1; go_simp; try with_reducible rfl)
            try simp only [List.getElem_toArray, List.getElem_cons_succ, List.getElem_cons_zero, Act.put, List.setIfInBounds_toArray, List.set_cons_zero, List.set_cons_succ]
            refine wpAnyH_take (i := 5) (v := ?_) rfl (by kernel_rfl) (by kernel_rfl) (by kernel_rfl) (fun _ _ _ h => h) (Or.inl ⟨by kernel_rfl, ?_⟩) (by assumption) ?_
            rotate_left
            · (intro w' hSw; have S1 := hSw; have r0 := (S1.cell (p := ⟨bA, offA + k, none⟩) hbA2).trans w_o; have r1 := (S1.cell (p := ⟨bS, offS + j * 2, none⟩) hbS2).trans a_0; have r2 := (S1.cell (p := ⟨bS, offS + j * 2 + 1, none⟩) hbS2).trans a_1; clear S1; go_simp; try with_reducible rfl)
            try simp only [List.getElem_toArray, List.getElem_cons_succ, List.getElem_cons_zero, Act.put, List.setIfInBounds_toArray, List.set_cons_zero, List.set_cons_succ]
            refine wpAnyH_take (i := 6) (v := ?_) rfl (by kernel_rfl) (by kernel_rfl) (by kernel_rfl) (fun _ _ _ h => h) (Or.inl ⟨by kernel_rfl, ?_⟩) (by assumption) ?_
            rotate_left
            · (intro w' hSw; have S1 := hSw; have r0 := (S1.cell (p := ⟨bA, offA + k, none⟩) hbA2).trans w_o; have r1 := (S1.cell (p := ⟨bS, offS + j * 2, none⟩) hbS2).trans a_0; have r2 := (S1.cell (p := ⟨bS, offS + j * 2 + 1, none⟩) hbS2).trans a_1; clear S1; go_simp; try with_reducible rfl)
            try simp only [List.getElem_toArray, List.getElem_cons_succ, List.getElem_cons_zero, Act.put, List.setIfInBounds_toArray, List.set_cons_zero, List.set_cons_succ]
            refine wpAnyH_take (i := 7) (v := ?_) rfl (by kernel_rfl) (by kernel_rfl) (by kernel_rfl) (fun _ _ _ h => h) (Or.inl ⟨by kernel_rfl, ?_⟩) (by assumption) ?_
            rotate_left
            · (intro w' hSw; have S1 := hSw; have r0 := (S1.cell (p := ⟨bA, offA + k, none⟩) hbA2).trans w_o; have r1 := (S1.cell (p := ⟨bS, offS + j * 2, none⟩) hbS2).trans a_0; have r2 := (S1.cell (p := ⟨bS, offS + j * 2 + 1, none⟩) hbS2).trans a_1; clear S1; go_simp; try with_reducible rfl)
            try simp only [List.getElem_toArray, List.getElem_cons_succ, List.getElem_cons_zero, Act.put, List.setIfInBounds_toArray, List.set_cons_zero, List.set_cons_succ]
            refine wpAnyH_take (i := 8) (v := ?_) rfl (by kernel_rfl) (by kernel_rfl) (by kernel_rfl) (fun _ _ _ h => h) (Or.inl ⟨by kernel_rfl, ?_⟩) (by assumption) ?_
            rotate_left
            · (intro w' hSw; have S1 := hSw; have r0 := (S1.cell (p := ⟨bA, offA + k, none⟩) hbA2).trans w_o; have r1 := (S1.cell (p := ⟨bS, offS + j * 2, none⟩) hbS2).trans a_0; have r2 := (S1.cell (p := ⟨bS, offS + j * 2 + 1, none⟩) hbS2).trans a_1; clear S1; go_simp; try with_reducible rfl)
            try simp only [List.getElem_toArray, List.getElem_cons_succ, List.getElem_cons_zero, Act.put, List.setIfInBounds_toArray, List.set_cons_zero, List.set_cons_succ]
            refine wpAnyH_take (i := 9) (v := ?_) rfl (by kernel_rfl) (by kernel_rfl) (by kernel_rfl) (fun _ _ _ h => h) (Or.inl ⟨by kernel_rfl, ?_⟩) (by assumption) ?_
            rotate_left
            · (intro w' hSw; have S1 := hSw; have r0 := (S1.cell (p := ⟨bA, offA + k, none⟩) hbA2).trans w_o; have r1 := (S1.cell (p := ⟨bS, offS + j * 2, none⟩) hbS2).trans a_0; have r2 := (S1.cell (p := ⟨bS, offS + j * 2 + 1, none⟩) hbS2).trans a_1; clear S1; go_simp; try with_reducible rfl)
            try simp only [List.getElem_toArray, List.getElem_cons_succ, List.getElem_cons_zero, Act.put, List.setIfInBounds_toArray, List.set_cons_zero, List.set_cons_succ]
            refine wpAnyH_take (i := 10) (v := ?_) rfl (by kernel_rfl) (by kernel_rfl) (by kernel_rfl) (fun _ _ _ h => h) (Or.inl ⟨by kernel_rfl, ?_⟩) (by assumption) ?_
            rotate_left
            · (intro w' hSw; have S1 := hSw; have r0 := (S1.cell (p := ⟨bA, offA + k, none⟩) hbA2).trans w_o; have r1 := (S1.cell (p := ⟨bS, offS + j * 2, none⟩) hbS2).trans a_0; have r2 := (S1.cell (p := ⟨bS, offS + j * 2 + 1, none⟩) hbS2).trans a_1; clear S1; go_simp; try with_reducible rfl)
            try simp only [List.getElem_toArray, List.getElem_cons_succ, List.getElem_cons_zero, Act.put, List.setIfInBounds_toArray, List.set_cons_zero, List.set_cons_succ]
            refine wpAnyH_take (i := 11) (v := ?_) rfl (by kernel_rfl) (by kernel_rfl) (by kernel_rfl) (fun _ _ _ h => h) (Or.inl ⟨by kernel_rfl, ?_⟩) (by assumption) ?_
            rotate_left
            · (intro w' hSw; have S1 := hSw; have r0 := (S1.cell (p := ⟨bA, offA + k, none⟩) hbA2).trans w_o; have r1 := (S1.cell (p := ⟨bS, offS + j * 2, none⟩) hbS2).trans a_0; have r2 := (S1.cell (p := ⟨bS, offS + j * 2 + 1, none⟩) hbS2).trans a_1; clear S1; go_simp; try with_reducible rfl)
            try simp only [List.getElem_toArray, List.getElem_cons_succ, List.getElem_cons_zero, Act.put, List.setIfInBounds_toArray, List.set_cons_zero, List.set_cons_succ]
            refine wpAnyH_take (i := 12) (v := ?_) rfl (by kernel_rfl) (by kernel_rfl) (by kernel_rfl) (fun _ _ _ h => h) (Or.inl ⟨by kernel_rfl, ?_⟩) (by assumption) ?_
            rotate_left
            · (intro w' hSw; have S1 := hSw; have r0 := (S1.cell (p := ⟨bA, offA + k, none⟩) hbA2).trans w_o; have r1 := (S1.cell (p := ⟨bS, offS + j * 2, none⟩) hbS2).trans a_0; have r2 := (S1.cell (p := ⟨bS, offS + j * 2 + 1, none⟩) hbS2).trans a_1; clear S1; go_simp; try with_reducible rfl)
            try simp only [List.getElem_toArray, List.getElem_cons_succ, List.getElem_cons_zero, Act.put, List.setIfInBounds_toArray, List.set_cons_zero, List.set_cons_succ]
            refine wpAnyH_take (i := 13) (v := ?_) rfl (by kernel_rfl) (by kernel_rfl) (by kernel_rfl) (fun _ _ _ h => h) (Or.inl ⟨by kernel_rfl, ?_⟩) (by assumption) ?_
            rotate_left
            · (intro w' hSw; have S1 := hSw; have r0 := (S1.cell (p := ⟨bA, offA + k, none⟩) hbA2).trans w_o; have r1 := (S1.cell (p := ⟨bS, offS + j * 2, none⟩) hbS2).trans a_0; have r2 := (S1.cell (p := ⟨bS, offS + j * 2 + 1, none⟩) hbS2).trans a_1; clear S1; go_simp; try with_reducible rfl)
            try simp only [List.getElem_toArray, List.getElem_cons_succ, List.getElem_cons_zero, Act.put, List.setIfInBounds_toArray, List.set_cons_zero, List.set_cons_succ]
            refine wpAnyH_take (i := 14) (v := ?_) rfl (by kernel_rfl) (by kernel_rfl) (by kernel_rfl) (fun _ _ _ h => h) (Or.inl ⟨by kernel_rfl, ?_⟩) (by assumption) ?_
            rotate_left
            · (intro w' hSw; have S1 := hSw; have r0 := (S1.cell (p := ⟨bA, offA + k, none⟩) hbA2).trans w_o; have r1 := (S1.cell (p := ⟨bS, offS + j * 2, none⟩) hbS2).trans a_0; have r2 := (S1.cell (p := ⟨bS, offS + j * 2 + 1, none⟩) hbS2).trans a_1; clear S1; go_simp; try with_reducible rfl)
            try simp only [List.getElem_toArray, List.getElem_cons_succ, List.getElem_cons_zero, Act.put, List.setIfInBounds_toArray, List.set_cons_zero, List.set_cons_succ]
            refine wpAnyH_take (i := 15) (v := ?_) rfl (by kernel_rfl) (by kernel_rfl) (by kernel_rfl) (fun _ _ _ h => h) (Or.inl ⟨by kernel_rfl, ?_⟩) (by assumption) ?_
            rotate_left
            · (intro w' hSw; have S1 := hSw; have r0 := (S1.cell (p := ⟨bA, offA + k, none⟩) hbA2).trans w_o; have r1 := (S1.cell (p := ⟨bS, offS + j * 2, none⟩) hbS2).trans a_0; have r2 := (S1.cell (p := ⟨bS, offS + j * 2 + 1, none⟩) hbS2).trans a_1; clear S1; go_simp; try with_reducible rfl)
            try simp only [List.getElem_toArray, List.getElem_cons_succ, List.getElem_cons_zero, Act.put, List.setIfInBounds_toArray, List.set_cons_zero, List.set_cons_succ]
            refine wpAnyH_take (i := 16) (v := ?_) rfl (by kernel_rfl) (by kernel_rfl) (by kernel_rfl) (fun _ _ _ h => h) (Or.inl ⟨by kernel_rfl, ?_⟩) (by assumption) ?_
            rotate_left
            · (intro w' hSw; have S1 := hSw; have r0 := (S1.cell (p := ⟨bA, offA + k, none⟩) hbA2).trans w_o; have r1 := (S1.cell (p := ⟨bS, offS + j * 2, none⟩) hbS2).trans a_0; have r2 := (S1.cell (p := ⟨bS, offS + j * 2 + 1, none⟩) hbS2).trans a_1; clear S1; go_simp; try with_reducible rfl)
            try simp only [List.getElem_toArray, List.getElem_cons_succ, List.getElem_cons_zero, Act.put, List.setIfInBounds_toArray, List.set_cons_zero, List.set_cons_succ]
            refine wpAnyH_take (i := 17) (v := ?_) rfl (by kernel_rfl) (by kernel_rfl) (by kernel_rfl) (fun _ _ _ h => h) (Or.inl ⟨by kernel_rfl, ?_⟩) (by assumption) ?_
            rotate_left
            · (intro w' hSw; have S1 := hSw; have r0 := (S1.cell (p := ⟨bA, offA + k, none⟩) hbA2).trans w_o; have r1 := (S1.cell (p := ⟨bS, offS + j * 2, none⟩) hbS2).trans a_0; have r2 := (S1.cell (p := ⟨bS, offS + j * 2 + 1, none⟩) hbS2).trans a_1; clear S1; go_simp; try with_reducible rfl)
            try simp only [List.getElem_toArray, List.getElem_cons_succ, List.getElem_cons_zero, Act.put, List.setIfInBounds_toArray, List.set_cons_zero, List.set_cons_succ]
            refine wpAnyH_take (i := 18) (v := ?_) rfl (by kernel_rfl) (by kernel_rfl) (by kernel_rfl) (fun _ _ _ h => h) (Or.inl ⟨by kernel_rfl, ?_⟩) (by assumption) ?_
            rotate_left
            · (intro w' hSw; have S1 := hSw; have r0 := (S1.cell (p := ⟨bA, offA + k, none⟩) hbA2).trans w_o; have r1 := (S1.cell (p := ⟨bS, offS + j * 2, none⟩) hbS2).trans a_0; have r2 := (S1.cell (p := ⟨bS, offS + j * 2 + 1, none⟩) hbS2).trans a_1; clear S1; go_simp; try with_reducible rfl)
            try simp only [List.getElem_toArray, List.getElem_cons_succ, List.getElem_cons_zero, Act.put, List.setIfInBounds_toArray, List.set_cons_zero, List.set_cons_succ]
            refine wpAnyH_take (i := 19) (v := ?_) rfl (by kernel_rfl) (by kernel_rfl) (by kernel_rfl) (fun _ _ _ h => h) (Or.inl ⟨by kernel_rfl, ?_⟩) (by assumption) ?_
            rotate_left
            · (intro w' hSw; have S1 := hSw; have r0 := (S1.cell (p := ⟨bA, offA + k, none⟩) hbA2).trans w_o; have r1 := (S1.cell (p := ⟨bS, offS + j * 2, none⟩) hbS2).trans a_0; have r2 := (S1.cell (p := ⟨bS, offS + j * 2 + 1, none⟩) hbS2).trans a_1; clear S1; go_simp; try with_reducible rfl)
            try simp only [List.getElem_toArray, List.getElem_cons_succ, List.getElem_cons_zero, Act.put, List.setIfInBounds_toArray, List.set_cons_zero, List.set_cons_succ]
            refine wpAnyH_take (i := 20) (v := ?_) rfl (by kernel_rfl) (by kernel_rfl) (by kernel_rfl) (fun _ _ _ h => h) (Or.inl ⟨by kernel_rfl, ?_⟩) (by assumption) ?_
            rotate_left
            · (intro w' hSw; have S1 := hSw; have r0 := (S1.cell (p := ⟨bA, offA + k, none⟩) hbA2).trans w_o; have r1 := (S1.cell (p := ⟨bS, offS + j * 2, none⟩) hbS2).trans a_0; have r2 := (S1.cell (p := ⟨bS, offS + j * 2 + 1, none⟩) hbS2).trans a_1; clear S1; go_simp; try with_reducible rfl)
            try simp only [List.getElem_toArray, List.getElem_cons_succ, List.getElem_cons_zero, Act.put, List.setIfInBounds_toArray, List.set_cons_zero, List.set_cons_succ]
            refine wpAnyH_take (i := 21) (v := ?_) rfl (by kernel_rfl) (by kernel_rfl) (by kernel_rfl) (fun _ _ _ h => h) (Or.inl ⟨by kernel_rfl, ?_⟩) (by assumption) ?_
            rotate_left
            · (intro w' hSw; have S1 := hSw; have r0 := (S1.cell (p := ⟨bA, offA + k, none⟩) hbA2).trans w_o; have r1 := (S1.cell (p := ⟨bS, offS + j * 2, none⟩) hbS2).trans a_0; have r2 := (S1.cell (p := ⟨bS, offS + j * 2 + 1, none⟩) hbS2).trans a_1; clear S1; go_simp; try with_reducible rfl)
            try simp only [List.getElem_toArray, List.getElem_cons_succ, List.getElem_cons_zero, Act.put, List.setIfInBounds_toArray, List.set_cons_zero, List.set_cons_succ]
            refine wpAnyH_take (i := 22) (v := ?_) rfl (by kernel_rfl) (by kernel_rfl) (by kernel_rfl) (fun _ _ _ h => h) (Or.inl ⟨by kernel_rfl, ?_⟩) (by assumption) ?_
            rotate_left
            · (intro w' hSw; have S1 := hSw; have r0 := (S1.cell (p := ⟨bA, offA + k, none⟩) hbA2).trans w_o; have r1 := (S1.cell (p := ⟨bS, offS + j * 2, none⟩) hbS2).trans a_0; have r2 := (S1.cell (p := ⟨bS, offS + j * 2 + 1, none⟩) hbS2).trans a_1; clear S1; go_simp; try with_reducible rfl)
            try simp only [List.getElem_toArray, List.getElem_cons_succ, List.getElem_cons_zero, Act.put, List.setIfInBounds_toArray, List.set_cons_zero, List.set_cons_succ]
            refine wpAnyH_ready (rs := [23]) (by kernel_rfl) (by simp) (AllReadyH.cons rfl (fun K hK => ?_) AllReadyH.nil)
            go_simp
            refine hK.out _ _ (((Below.refl _ _).alloc (Nat.le_refl _) _).drew) (fun hHeld2 => ?_)
            clear hK hHeld
            have hHeld := hHeld2
            clear hHeld2 K
            try simp only [List.getElem_toArray, List.getElem_cons_succ, List.getElem_cons_zero, Act.put, List.setIfInBounds_toArray, List.set_cons_zero, List.set_cons_succ]
            refine wpAnyH_ready (rs := [24]) (by kernel_rfl) (by simp) (AllReadyH.cons rfl (fun K hK => ?_) AllReadyH.nil)
            go_simp
            refine hK.out _ _ ((by repeat (first | with_reducible (first | exact blA | exact blB | refine blC _ ?_ | refine blD ?_ ?_ _ | refine blE ?_ | refine blF _ ?_ | refine blG ?_ _ | refine blH ?_ | refine blI ?_ ?_ _) | (simp only [World.size_alloc]; omega) | (simp <;> omega)))) (fun hHeld2 => ?_)
            clear hK hHeld
            have hHeld := hHeld2
            clear hHeld2 K
            try simp only [List.getElem_toArray, List.getElem_cons_succ, List.getElem_cons_zero, Act.put, List.setIfInBounds_toArray, List.set_cons_zero, List.set_cons_succ]
            refine wpAnyH_done (by kernel_rfl) ?_ _
            obtain ⟨W3, hW3⟩ : ∃ W3, (wr.alloc (.cells #[.int .i64 (a.1 + dx), .int .i64 (a.2 + dy)] 36)).drew = W3 := ⟨_, rfl⟩
            have hb3 : Below wr.heap.size wr W3 := hW3 ▸ ((Below.refl _ _).alloc (Nat.le_refl _) _).drew
            have BX : Blk W3 wr.heap.size 36 #[.int .i64 (a.1 + dx), .int .i64 (a.2 + dy)] := by rw [← hW3]; exact (Blk.new wr 36 #[.int .i64 (a.1 + dx), .int .i64 (a.2 + dy)]).below ((Below.refl _ _).drew)
            rw [hW3]
            obtain ⟨gx, hgx⟩ : ∃ gx, wr.heap.size = gx := ⟨_, rfl⟩
            have hgxl : gp + 1 < gx := by rw [← hgx]; exact HBQ.out.lt
            have HGX := Lib.hid hgx
            rw [hgx] at BX ⊢
            have x_0 : W3.cell? ⟨gx, 0, none⟩ = some (.int .i64 (a.1 + dx)) := BX.cell 0
            have x_1 : W3.cell? ⟨gx, 1, none⟩ = some (.int .i64 (a.2 + dy)) := BX.cell 1
            have xl := BX.lt
            have HBX := Lib.hid BX
            have HB3 := Lib.hid hb3
            clear hHeld hW3 hgx BX hb3 a_0 a_1 b_0 b_1 w_o
            cases hv : vld (movP dx dy a) with
            | false =>
              have HV0 := Lib.hid (show ∀ w, Calls Try.prog 29 #[.agg #[.int .i64 (a.1 + dx), .int .i64 (a.2 + dy)]] w fun e w' => e = .returned (.bool false) ∧ Below w.heap.size w w' from fun w => vldR_is (movP dx dy a) w hv)
              clear hv
              go_wp2_with fail
              (go_at_call 29; (with_reducible refine (Kin.callK (W := W3) (by repeat (first | with_reducible (first | exact blA | exact blB | refine blC _ ?_ | refine blD ?_ ?_ _ | refine blE ?_ | refine blF _ ?_ | refine blG ?_ _ | refine blH ?_ | refine blI ?_ ?_ _) | (simp only [World.size_alloc]; omega) | (simp <;> omega))) (HV0.out _)).mono ?_); rintro e w' ⟨z7, rfl, hz7, rfl⟩; skip)
              go_wp2_with fail
              (go_at_call 19; (with_reducible refine (Kin.callK (W := W3) (by repeat (first | with_reducible (first | exact blA | exact blB | refine blC _ ?_ | refine blD ?_ ?_ _ | refine blE ?_ | refine blF _ ?_ | refine blG ?_ _ | refine blH ?_ | refine blI ?_ ?_ _) | (simp only [World.size_alloc]; omega) | (simp <;> omega))) (awake16_any _)).mono ?_); rintro e w' ⟨z8, rfl, hz8, rfl⟩; skip)
              go_wp2_with fail
              go_ret
              have q1 : Below W.heap.size W wr := HBW.out.trans (HYW2.out.mono HBW.out.size)
              have q2 : Below W.heap.size W W3 := q1.trans (HB3.out.mono q1.size)
              exact ⟨rfl, q2.trans (z8.2.mono q2.size)⟩
            | true =>
              have HVT := Lib.hid hv
              have HV1 := Lib.hid (show ∀ w, Calls Try.prog 29 #[.agg #[.int .i64 (a.1 + dx), .int .i64 (a.2 + dy)]] w fun e w' => e = .returned (.bool true) ∧ Below w.heap.size w w' from fun w => vldR_is (movP dx dy a) w hv)
              clear hv
              go_wp2_with fail
              (go_at_call 29; (with_reducible refine (Kin.callK (W := W3) (by repeat (first | with_reducible (first | exact blA | exact blB | refine blC _ ?_ | refine blD ?_ ?_ _ | refine blE ?_ | refine blF _ ?_ | refine blG ?_ _ | refine blH ?_ | refine blI ?_ ?_ _) | (simp only [World.size_alloc]; omega) | (simp <;> omega))) (HV1.out _)).mono ?_); rintro e w' ⟨z7, rfl, hz7, rfl⟩; skip)
              obtain ⟨W4, hW4⟩ : ∃ W4, z7.1 = W4 := ⟨_, rfl⟩
              rw [hW4] at hz7 ⊢
              have hb4 : Below wr.heap.size wr W4 := HB3.out.trans (hz7.mono HB3.out.size)
              have HB4 := Lib.hid hb4
              have HBX4 := HBX.out.below hz7
              have x4_0 : W4.cell? ⟨gx, 0, none⟩ = some (.int .i64 (a.1 + dx)) := HBX4.cell 0
              have x4_1 : W4.cell? ⟨gx, 1, none⟩ = some (.int .i64 (a.2 + dy)) := HBX4.cell 1
              have xl4 := HBX4.lt
              have HBP4 := HBP.out.below hb4
              have HBQ4 := HBQ.out.below hb4
              have p_0 : W4.cell? ⟨gp, 0, none⟩ = some P := HBP4.cell 0
              have pl := HBP4.lt
              have hgs : gp + 1 + 1 ≤ W4.heap.size := HBQ4.lt
              have HP4 := Lib.hid HBP4
              have HQ4 := Lib.hid HBQ4
              have HOP4 := Lib.hid (own_below HOP.out hb4)
              have HOQ4 := Lib.hid (own_below HOQ.out hb4)
              have hl4 : ((o.take j).map (movP dx dy)).length ≤ 20 := by rw [List.length_map, List.length_take]; omega
              have hl5 : (o.reverse.take j).length ≤ 20 := by rw [List.length_take]; omega
              have HTP := Lib.hid (show (o.take j).map (movP dx dy) ++ [movP dx dy a] = (o.take (j + 1)).map (movP dx dy) by rw [List.take_add_one, HAJ.out]; simp)
              have HTQ := Lib.hid (show o.reverse.take j ++ [b] = o.reverse.take (j + 1) by rw [List.take_add_one, HRB.out]; rfl)
              clear hW4 hz7 hb4 HBX4 HBP4 HBQ4 x_0 x_1 xl
              go_wp2_with (at_builtin; refine Shut.out ?_)
              unfold Shut
              refine wpList_app _ rfl _ _ 40 rfl encPt_len (by decide) oneP (gp + 1 + 1) 36 (.agg #[.int .i64 0, .int .i64 0]) 16 infoPt2 rfl Try.underlying40 _ _ _ _ rfl (HOP4.out.alloc _) _ _ _ rfl (rd_one _ encPt_len _ (movP dx dy a) _ rfl) ?c1 (by decide) ?c2 ?_
              case c1 => (first | (simp only [List.length_append, List.length_cons, List.length_nil]; omega) | omega | (simp; omega))
              case c2 => exact (by repeat (first | with_reducible exact Nat.le_refl _ | assumption | with_reducible refine le_alloc ?_ _ | with_reducible refine le_drew ?_ | with_reducible refine Kin.le _ ?_ | assumption | omega | (simp only [World.size_alloc]; omega)))
              intro v1 w1 hown1 hg1 hbel1 hat1
              obtain ⟨n1, hn1⟩ : ∃ n1, ((o.take j).map (movP dx dy) ++ [movP dx dy a]).length = n1 := ⟨_, rfl⟩
              have HN1 := Lib.hid hn1
              rw [hn1] at hown1
              obtain ⟨A1, c1, rfl⟩ := own_slc hown1
              clear hn1
              have HP5 := (HP4.out.up (.cells #[.int .i64 (a.1 + dx), .int .i64 (a.2 + dy)] 36)).grown hg1 (fun e => own_ne HOP4.out HP4.out (by decide) e.symm)
              have p5_0 : w1.cell? ⟨gp, 0, none⟩ = some P := HP5.cell 0
              have p5_f : w1.frozen? ⟨gp, 0, none⟩ = false := HP5.frozen 0
              have p5_l := HP5.lt
              have HO5 := Lib.hid hown1
              have HG5 := Lib.hid hg1
              have HL5 := Lib.hid hbel1
              have HA5 := Lib.hid hat1
              have HP5h := Lib.hid HP5
              clear hown1 hg1 hbel1 hat1 HP5
              go_wp2_with fail
              have hat1 : (Value.slice A1 n1 c1).ownBlock = P.ownBlock ∨ (Value.slice A1 n1 c1).ownBlock = some (W4.heap.size + 1) := by have := HA5.out; rw [World.size_alloc] at this; exact this
              have hg1 : (W4.alloc (.cells #[.int .i64 (a.1 + dx), .int .i64 (a.2 + dy)] 36)).grownBy w1 P.ownBlock := HG5.out
              have hbelY : Below Y.heap.size Y w1 := by
                have q1 : Below Y.heap.size wr W4 := HB4.out.mono HYW.out.size
                have q2 := (HYW.out.trans q1).alloc (HYW.out.trans q1).size (.cells #[.int .i64 (a.1 + dx), .int .i64 (a.2 + dy)] 36)
                exact q2.trans (HL5.out.mono (by rw [HGP.out]; omega))
              have HBY1 := Lib.hid hbelY
              have HQ5 := (HQ4.out.up (.cells #[.int .i64 (a.1 + dx), .int .i64 (a.2 + dy)] 36)).grown hg1 (fun e => own_ne HOP4.out HQ4.out (by decide) e.symm)
              have HOQ5 : w1.ownsRow (gp + 1 + 1) 36 2 Q (o.reverse.take j).length ((o.reverse.take j).flatMap encPt) := (HOQ4.out.alloc _).kept hg1 (by
                rcases HPQ.out with e | e
                · cases hq : Q.ownBlock with
                  | none => exact .inl rfl
                  | some kq => right; rw [e]; intro e; cases e
                · exact .inr (fun e2 => e e2.symm))
              have hap5 : (Value.slice A1 n1 c1).ownBlock = none ∨ (Value.slice A1 n1 c1).ownBlock ≠ Q.ownBlock := by
                rcases hat1 with e | e
                · rw [e]; exact HPQ.out
                · right; rw [e]; intro e2; have := (HOQ4.out.lt _ e2.symm).2; omega
              obtain ⟨W5, hW5⟩ : ∃ W5, w1.setCell ⟨gp, 0, none⟩ (.slice A1 n1 c1) = W5 := ⟨_, rfl⟩
              rw [hW5]
              have hg6 : w1.grownBy W5 (some gp) := hW5 ▸ grownBy_set _
              have hb6 : Below Y.heap.size Y W5 := hbelY.grown hg6 hbelY.size (fun k e => by injection e with e; rw [HGP.out]; omega)
              have HP6 : Blk W5 gp 42 #[.slice A1 n1 c1] := hW5 ▸ HP5h.out.set_ 0 _
              have HQ6 : Blk W5 (gp + 1) 42 #[Q] := HQ5.grown hg6 (by intro e; injection e with e; omega)
              have HOP6 : W5.ownsRow (gp + 1 + 1) 36 2 (.slice A1 n1 c1) n1 (((o.take j).map (movP dx dy) ++ [movP dx dy a]).flatMap encPt) := own_grownBy HO5.out hg6 (own_ne HO5.out HP5h.out (by decide))
              have HOQ6 : W5.ownsRow (gp + 1 + 1) 36 2 Q (o.reverse.take j).length ((o.reverse.take j).flatMap encPt) := own_grownBy HOQ5 hg6 (own_ne HOQ5 HP5h.out (by decide))
              have hgs5 : gp + 1 + 1 ≤ W5.heap.size := HQ6.lt
              have HK6 := Lib.hid hb6
              have HPB6 := Lib.hid HP6
              have HQB6 := Lib.hid HQ6
              have HPO6 := Lib.hid HOP6
              have HQO6 := Lib.hid HOQ6
              have HAP := Lib.hid hap5
              have hyw6 : Below W2.heap.size W2 W5 := HYK.out.trans (hb6.mono HYK.out.size)
              have HYW6 := Lib.hid hyw6
              clear hat1 hg1 hbelY HQ5 HOQ5 hap5 hW5 hg6 hb6 HP6 HQ6 HOP6 HOQ6 HO5 HG5 HL5 HA5 HP5h p5_0 p5_f p5_l p_0 pl hgs x4_0 x4_1 xl4 hyw6 HBY1
              refine wp_region_heldT (S := fun w' => Below W2.heap.size W2 w' ∧ Blk w' (gp + 1) 42 #[Q]) 16 (by kernel_rfl) (⟨HYW6.out.drew, HQB6.out.below ((Below.refl _ _).drew)⟩) (fun hHeld => ?_)
              try simp only [List.size_toArray, List.length_cons, List.length_nil, Nat.zero_add, Nat.reduceAdd, List.replicate, Array.replicate]
              obtain ⟨W6, hW6⟩ : ∃ W6, W5.drew = W6 := ⟨_, rfl⟩
              rw [hW6] at hHeld ⊢
              have hb56 : Below W5.heap.size W5 W6 := hW6 ▸ (Below.refl _ _).drew
              have HB56 := Lib.hid hb56
              have HQO7 := Lib.hid (own_below HQO6.out hb56)
              have hgs6 : gp + 1 + 1 ≤ W6.heap.size := Nat.le_trans hgs5 hb56.size
              have hlow : W2.heap.size ≤ gp + 1 + 1 := by have := HYK.out.size; rw [HGP.out] at this; omega
              clear hW6 hb56
              refine wpAnyT_take (m := 16) (i := 0) (v := ?_) (by kernel_rfl) (by decide) rfl (by kernel_rfl) (by kernel_rfl) (by kernel_rfl) (fun _ _ _ h => h) (Or.inl ⟨by kernel_rfl, ?_⟩) (by assumption) ?_
              rotate_left
              · (intro w' hSw; obtain ⟨S1, S2⟩ := hSw; have r0 : w'.cell? ⟨gp + 1, 0, none⟩ = some Q := S2.cell 0; have r1 := (S1.cell (p := ⟨bA, offA + k, none⟩) hbA).trans o_0; have r2 := (S1.cell (p := ⟨bS, offS + r * 2, none⟩) hbS).trans b2_0; have r3 := (S1.cell (p := ⟨bS, offS + r * 2 + 1, none⟩) hbS).trans b2_1; clear S1 S2; go_simp; try with_reducible rfl)
              try simp only [List.getElem_toArray, List.getElem_cons_succ, List.getElem_cons_zero, Act.put, List.setIfInBounds_toArray, List.set_cons_zero, List.set_cons_succ]
              refine wpAnyT_take (m := 16) (i := 1) (v := ?_) (by kernel_rfl) (by decide) rfl (by kernel_rfl) (by kernel_rfl) (by kernel_rfl) (fun _ _ _ h => h) (Or.inl ⟨by kernel_rfl, ?_⟩) (by assumption) ?_
              rotate_left
              · (intro w' hSw; obtain ⟨S1, S2⟩ := hSw; have r0 : w'.cell? ⟨gp + 1, 0, none⟩ = some Q := S2.cell 0; have r1 := (S1.cell (p := ⟨bA, offA + k, none⟩) hbA).trans o_0; have r2 := (S1.cell (p := ⟨bS, offS + r * 2, none⟩) hbS).trans b2_0; have r3 := (S1.cell (p := ⟨bS, offS + r * 2 + 1, none⟩) hbS).trans b2_1; clear S1 S2; go_simp; try with_reducible rfl)
              try simp only [List.getElem_toArray, List.getElem_cons_succ, List.getElem_cons_zero, Act.put, List.setIfInBounds_toArray, List.set_cons_zero, List.set_cons_succ]
              refine wpAnyT_take (m := 16) (i := 2) (v := ?_) (by kernel_rfl) (by decide) rfl (by kernel_rfl) (by kernel_rfl) (by kernel_rfl) (fun _ _ _ h => h) (Or.inl ⟨by kernel_rfl, ?_⟩) (by assumption) ?_
              rotate_left
              · (intro w' hSw; obtain ⟨S1, S2⟩ := hSw; have r0 : w'.cell? ⟨gp + 1, 0, none⟩ = some Q := S2.cell 0; have r1 := (S1.cell (p := ⟨bA, offA + k, none⟩) hbA).trans o_0; have r2 := (S1.cell (p := ⟨bS, offS + r * 2, none⟩) hbS).trans b2_0; have r3 := (S1.cell (p := ⟨bS, offS + r * 2 + 1, none⟩) hbS).trans b2_1; clear S1 S2; go_simp; try with_reducible rfl)
              try simp only [List.getElem_toArray, List.getElem_cons_succ, List.getElem_cons_zero, Act.put, List.setIfInBounds_toArray, List.set_cons_zero, List.set_cons_succ]
              refine wpAnyT_take (m := 16) (i := 3) (v := ?_) (by kernel_rfl) (by decide) rfl (by kernel_rfl) (by kernel_rfl) (by kernel_rfl) (fun _ _ _ h => h) (Or.inl ⟨by kernel_rfl, ?_⟩) (by assumption) ?_
              rotate_left
              · (intro w' hSw; obtain ⟨S1, S2⟩ := hSw; have r0 : w'.cell? ⟨gp + 1, 0, none⟩ = some Q := S2.cell 0; have r1 := (S1.cell (p := ⟨bA, offA + k, none⟩) hbA).trans o_0; have r2 := (S1.cell (p := ⟨bS, offS + r * 2, none⟩) hbS).trans b2_0; have r3 := (S1.cell (p := ⟨bS, offS + r * 2 + 1, none⟩) hbS).trans b2_1; clear S1 S2; go_simp; try with_reducible rfl)
              try simp only [List.getElem_toArray, List.getElem_cons_succ, List.getElem_cons_zero, Act.put, List.setIfInBounds_toArray, List.set_cons_zero, List.set_cons_succ]
              refine wpAnyT_take (m := 16) (i := 4) (v := ?_) (by kernel_rfl) (by decide) rfl (by kernel_rfl) (by kernel_rfl) (by kernel_rfl) (fun _ _ _ h => h) (Or.inl ⟨by kernel_rfl, ?_⟩) (by assumption) ?_
              rotate_left
              · (intro w' hSw; obtain ⟨S1, S2⟩ := hSw; have r0 : w'.cell? ⟨gp + 1, 0, none⟩ = some Q := S2.cell 0; have r1 := (S1.cell (p := ⟨bA, offA + k, none⟩) hbA).trans o_0; have r2 := (S1.cell (p := ⟨bS, offS + r * 2, none⟩) hbS).trans b2_0; have r3 := (S1.cell (p := ⟨bS, offS + r * 2 + 1, none⟩) hbS).trans b2_1; clear S1 S2; go_simp; try with_reducible rfl)
              try simp only [List.getElem_toArray, List.getElem_cons_succ, List.getElem_cons_zero, Act.put, List.setIfInBounds_toArray, List.set_cons_zero, List.set_cons_succ]
              refine wpAnyT_take (m := 16) (i := 5) (v := ?_) (by kernel_rfl) (by decide) rfl (by kernel_rfl) (by kernel_rfl) (by kernel_rfl) (fun _ _ _ h => h) (Or.inl ⟨by kernel_rfl, ?_⟩) (by assumption) ?_
              rotate_left
              · (intro w' hSw; obtain ⟨S1, S2⟩ := hSw; have r0 : w'.cell? ⟨gp + 1, 0, none⟩ = some Q := S2.cell 0; have r1 := (S1.cell (p := ⟨bA, offA + k, none⟩) hbA).trans o_0; have r2 := (S1.cell (p := ⟨bS, offS + r * 2, none⟩) hbS).trans b2_0; have r3 := (S1.cell (p := ⟨bS, offS + r * 2 + 1, none⟩) hbS).trans b2_1; clear S1 S2; go_simp; try with_reducible rfl)
              try simp only [List.getElem_toArray, List.getElem_cons_succ, List.getElem_cons_zero, Act.put, List.setIfInBounds_toArray, List.set_cons_zero, List.set_cons_succ]
              refine wpAnyT_take (m := 16) (i := 6) (v := ?_) (by kernel_rfl) (by decide) rfl (by kernel_rfl) (by kernel_rfl) (by kernel_rfl) (fun _ _ _ h => h) (Or.inl ⟨by kernel_rfl, ?_⟩) (by assumption) ?_
              rotate_left
              · (intro w' hSw; obtain ⟨S1, S2⟩ := hSw; have r0 : w'.cell? ⟨gp + 1, 0, none⟩ = some Q := S2.cell 0; have r1 := (S1.cell (p := ⟨bA, offA + k, none⟩) hbA).trans o_0; have r2 := (S1.cell (p := ⟨bS, offS + r * 2, none⟩) hbS).trans b2_0; have r3 := (S1.cell (p := ⟨bS, offS + r * 2 + 1, none⟩) hbS).trans b2_1; clear S1 S2; go_simp; try with_reducible rfl)
              try simp only [List.getElem_toArray, List.getElem_cons_succ, List.getElem_cons_zero, Act.put, List.setIfInBounds_toArray, List.set_cons_zero, List.set_cons_succ]
              refine wpAnyT_take (m := 16) (i := 7) (v := ?_) (by kernel_rfl) (by decide) rfl (by kernel_rfl) (by kernel_rfl) (by kernel_rfl) (fun _ _ _ h => h) (Or.inl ⟨by kernel_rfl, ?_⟩) (by assumption) ?_
              rotate_left
              · (intro w' hSw; obtain ⟨S1, S2⟩ := hSw; have r0 : w'.cell? ⟨gp + 1, 0, none⟩ = some Q := S2.cell 0; have r1 := (S1.cell (p := ⟨bA, offA + k, none⟩) hbA).trans o_0; have r2 := (S1.cell (p := ⟨bS, offS + r * 2, none⟩) hbS).trans b2_0; have r3 := (S1.cell (p := ⟨bS, offS + r * 2 + 1, none⟩) hbS).trans b2_1; clear S1 S2; go_simp; try with_reducible rfl)
              try simp only [List.getElem_toArray, List.getElem_cons_succ, List.getElem_cons_zero, Act.put, List.setIfInBounds_toArray, List.set_cons_zero, List.set_cons_succ]
              refine wpAnyT_take (m := 16) (i := 8) (v := ?_) (by kernel_rfl) (by decide) rfl (by kernel_rfl) (by kernel_rfl) (by kernel_rfl) (fun _ _ _ h => h) (Or.inl ⟨by kernel_rfl, ?_⟩) (by assumption) ?_
              rotate_left
              · (intro w' hSw; obtain ⟨S1, S2⟩ := hSw; have r0 : w'.cell? ⟨gp + 1, 0, none⟩ = some Q := S2.cell 0; have r1 := (S1.cell (p := ⟨bA, offA + k, none⟩) hbA).trans o_0; have r2 := (S1.cell (p := ⟨bS, offS + r * 2, none⟩) hbS).trans b2_0; have r3 := (S1.cell (p := ⟨bS, offS + r * 2 + 1, none⟩) hbS).trans b2_1; clear S1 S2; go_simp; try with_reducible rfl)
              try simp only [List.getElem_toArray, List.getElem_cons_succ, List.getElem_cons_zero, Act.put, List.setIfInBounds_toArray, List.set_cons_zero, List.set_cons_succ]
              refine wpAnyT_take (m := 16) (i := 9) (v := ?_) (by kernel_rfl) (by decide) rfl (by kernel_rfl) (by kernel_rfl) (by kernel_rfl) (fun _ _ _ h => h) (Or.inl ⟨by kernel_rfl, ?_⟩) (by assumption) ?_
              rotate_left
              · (intro w' hSw; obtain ⟨S1, S2⟩ := hSw; have r0 : w'.cell? ⟨gp + 1, 0, none⟩ = some Q := S2.cell 0; have r1 := (S1.cell (p := ⟨bA, offA + k, none⟩) hbA).trans o_0; have r2 := (S1.cell (p := ⟨bS, offS + r * 2, none⟩) hbS).trans b2_0; have r3 := (S1.cell (p := ⟨bS, offS + r * 2 + 1, none⟩) hbS).trans b2_1; clear S1 S2; go_simp; try with_reducible rfl)
              try simp only [List.getElem_toArray, List.getElem_cons_succ, List.getElem_cons_zero, Act.put, List.setIfInBounds_toArray, List.set_cons_zero, List.set_cons_succ]
              refine wpAnyT_take (m := 16) (i := 10) (v := ?_) (by kernel_rfl) (by decide) rfl (by kernel_rfl) (by kernel_rfl) (by kernel_rfl) (fun _ _ _ h => h) (Or.inl ⟨by kernel_rfl, ?_⟩) (by assumption) ?_
              rotate_left
              · (intro w' hSw; obtain ⟨S1, S2⟩ := hSw; have r0 : w'.cell? ⟨gp + 1, 0, none⟩ = some Q := S2.cell 0; have r1 := (S1.cell (p := ⟨bA, offA + k, none⟩) hbA).trans o_0; have r2 := (S1.cell (p := ⟨bS, offS + r * 2, none⟩) hbS).trans b2_0; have r3 := (S1.cell (p := ⟨bS, offS + r * 2 + 1, none⟩) hbS).trans b2_1; clear S1 S2; go_simp; try with_reducible rfl)
              try simp only [List.getElem_toArray, List.getElem_cons_succ, List.getElem_cons_zero, Act.put, List.setIfInBounds_toArray, List.set_cons_zero, List.set_cons_succ]
              refine wpAnyT_take (m := 16) (i := 11) (v := ?_) (by kernel_rfl) (by decide) rfl (by kernel_rfl) (by kernel_rfl) (by kernel_rfl) (fun _ _ _ h => h) (Or.inl ⟨by kernel_rfl, ?_⟩) (by assumption) ?_
              rotate_left
              · (intro w' hSw; obtain ⟨S1, S2⟩ := hSw; have r0 : w'.cell? ⟨gp + 1, 0, none⟩ = some Q := S2.cell 0; have r1 := (S1.cell (p := ⟨bA, offA + k, none⟩) hbA).trans o_0; have r2 := (S1.cell (p := ⟨bS, offS + r * 2, none⟩) hbS).trans b2_0; have r3 := (S1.cell (p := ⟨bS, offS + r * 2 + 1, none⟩) hbS).trans b2_1; clear S1 S2; go_simp; try with_reducible rfl)
              try simp only [List.getElem_toArray, List.getElem_cons_succ, List.getElem_cons_zero, Act.put, List.setIfInBounds_toArray, List.set_cons_zero, List.set_cons_succ]
              refine wpAnyT_take (m := 16) (i := 12) (v := ?_) (by kernel_rfl) (by decide) rfl (by kernel_rfl) (by kernel_rfl) (by kernel_rfl) (fun _ _ _ h => h) (Or.inl ⟨by kernel_rfl, ?_⟩) (by assumption) ?_
              rotate_left
              · (intro w' hSw; obtain ⟨S1, S2⟩ := hSw; have r0 : w'.cell? ⟨gp + 1, 0, none⟩ = some Q := S2.cell 0; have r1 := (S1.cell (p := ⟨bA, offA + k, none⟩) hbA).trans o_0; have r2 := (S1.cell (p := ⟨bS, offS + r * 2, none⟩) hbS).trans b2_0; have r3 := (S1.cell (p := ⟨bS, offS + r * 2 + 1, none⟩) hbS).trans b2_1; clear S1 S2; go_simp; try with_reducible rfl)
              try simp only [List.getElem_toArray, List.getElem_cons_succ, List.getElem_cons_zero, Act.put, List.setIfInBounds_toArray, List.set_cons_zero, List.set_cons_succ]
              refine wpAnyT_step (i := 13) (by kernel_rfl) rfl (fun K hK => ?_)
              go_simp
              refine hK.out _ _ (⟨hHeld.1.alloc hHeld.1.size _, hHeld.2.al_ _⟩) (fun hHeld2 => ?_)
              clear hK hHeld
              have hHeld := hHeld2
              clear hHeld2 K
              try simp only [List.getElem_toArray, List.getElem_cons_succ, List.getElem_cons_zero, Act.put, List.setIfInBounds_toArray, List.set_cons_zero, List.set_cons_succ]
              refine wpAnyT_step (i := 14) (by kernel_rfl) rfl (fun K hK => ?_)
              (skip; (refine step_app _ rfl _ _ 40 rfl encPt_len (by decide) oneP (gp + 1 + 1) 36 (.agg #[.int .i64 0, .int .i64 0]) 16 infoPt2 rfl Try.underlying40 (Q) _ _ _ (by first | rfl | simp [Act.eval, Act.put]) (HQO7.out.alloc _) _ _ _ (by first | rfl | simp [Act.eval, Act.put]) (rd_one _ encPt_len _ b _ rfl) ?c1 (by decide) ?c2 ?_; (case c1 => (first | (simp only [List.length_append, List.length_cons, List.length_nil]; omega) | omega | (simp; omega))); (case c2 => exact (by repeat (first | with_reducible exact Nat.le_refl _ | assumption | with_reducible refine le_alloc ?_ _ | with_reducible refine le_drew ?_ | with_reducible refine Kin.le _ ?_ | assumption | omega | (simp only [World.size_alloc]; omega)))); intro v2 w2 hown2 hg2 hbel2 hat2; skip))
              obtain ⟨n2, hn2⟩ : ∃ n2, (o.reverse.take j ++ [b]).length = n2 := ⟨_, rfl⟩
              have HN2 := Lib.hid hn2
              rw [hn2] at hown2
              obtain ⟨A2, c2, rfl⟩ := own_slc hown2
              have hat2' : (Value.slice A2 n2 c2).ownBlock = Q.ownBlock ∨ (Value.slice A2 n2 c2).ownBlock = some (W6.heap.size + 1) := by rw [World.size_alloc] at hat2; exact hat2
              have hg2' : (W6.alloc (.cells #[.int .i64 b.1, .int .i64 b.2] 36)).grownBy w2 Q.ownBlock := hg2
              have BQ2 := hHeld.2.grown hg2' (fun e => own_ne HQO7.out (HQB6.out.below HB56.out) (by decide) e.symm)
              have hbW2 : Below W2.heap.size W2 w2 := hHeld.1.trans (hbel2.mono hlow)
              have q2_0 : w2.cell? ⟨gp + 1, 0, none⟩ = some Q := BQ2.cell 0
              have q2_f : w2.frozen? ⟨gp + 1, 0, none⟩ = false := BQ2.frozen 0
              have q2_l := BQ2.lt
              have HBQ2 := Lib.hid BQ2
              have HO2 := Lib.hid hown2
              have HG2 := Lib.hid hg2'
              have HA2 := Lib.hid hat2'
              have HL2 := Lib.hid hbel2
              have HBW2 := Lib.hid hbW2
              clear hn2 hown2 hat2 hat2' hg2 hg2' BQ2 hbel2 hbW2
              refine hK.out _ _ (⟨HBW2.out, HBQ2.out⟩) (fun hHeld2 => ?_)
              clear hK hHeld
              have hHeld := hHeld2
              clear hHeld2 K
              try simp only [List.getElem_toArray, List.getElem_cons_succ, List.getElem_cons_zero, Act.put, List.setIfInBounds_toArray, List.set_cons_zero, List.set_cons_succ]
              refine wpAnyT_take (m := 16) (i := 15) (v := ?_) (by kernel_rfl) (by decide) rfl (by kernel_rfl) (by kernel_rfl) (by kernel_rfl) (fun _ _ _ h => h) (Or.inl ⟨by kernel_rfl, ?_⟩) (by assumption) ?_
              rotate_left
              · (intro w' hSw; obtain ⟨S1, S2⟩ := hSw; have r0 : w'.cell? ⟨gp + 1, 0, none⟩ = some Q := S2.cell 0; have r1 := (S1.cell (p := ⟨bA, offA + k, none⟩) hbA).trans o_0; have r2 := (S1.cell (p := ⟨bS, offS + r * 2, none⟩) hbS).trans b2_0; have r3 := (S1.cell (p := ⟨bS, offS + r * 2 + 1, none⟩) hbS).trans b2_1; clear S1 S2; go_simp; try with_reducible rfl)
              try simp only [List.getElem_toArray, List.getElem_cons_succ, List.getElem_cons_zero, Act.put, List.setIfInBounds_toArray, List.set_cons_zero, List.set_cons_succ]
              clear hHeld
              refine wpAnyT_last (by kernel_rfl) rfl (fun K hK => ?_)
              go_simp
              refine hK.out _ _ ?_
              refine wpAnyT_done (by kernel_rfl) ?_ _
              clear hK
              go_wp2_with fail
              have wP6 : (W6.alloc (.cells #[.int .i64 b.1, .int .i64 b.2] 36)).ownsRow (gp + 1 + 1) 36 2 (.slice A1 n1 c1) n1 (((o.take j).map (movP dx dy) ++ [movP dx dy a]).flatMap encPt) := (own_below HPO6.out HB56.out).alloc _
              have wP2 := wP6.kept HG2.out HAP.out
              have wP7 := own_grownBy wP2 (grownBy_set (p := ⟨gp + 1, 0, none⟩) (.slice A2 n2 c2)) (own_ne wP2 HBQ2.out (by decide))
              have wQ7 := own_grownBy HO2.out (grownBy_set (p := ⟨gp + 1, 0, none⟩) (.slice A2 n2 c2)) (own_ne HO2.out HBQ2.out (by decide))
              have bP6 := HPB6.out.below HB56.out
              have bP2 := (bP6.up (.cells #[.int .i64 b.1, .int .i64 b.2] 36)).grown HG2.out (fun e => own_ne HQO7.out bP6 (by decide) e.symm)
              have bP7 := bP2.far (p := ⟨gp + 1, 0, none⟩) (by show gp ≠ gp + 1; omega) (.slice A2 n2 c2)
              have apF : (Value.slice A1 n1 c1).ownBlock = none ∨ (Value.slice A1 n1 c1).ownBlock ≠ (Value.slice A2 n2 c2).ownBlock := by
                rcases HA2.out with e | e
                · rw [e]; exact HAP.out
                · cases hq : (Value.slice A1 n1 c1).ownBlock with
                  | none => exact .inl rfl
                  | some kq => right; rw [e]; intro e2; injection e2 with e2; have := ((own_below HPO6.out HB56.out).lt kq hq).2; omega
              have bwY : Below Y.heap.size Y (w2.setCell ⟨gp + 1, 0, none⟩ (.slice A2 n2 c2)) := by
                have q1 := HK6.out.trans (HB56.out.mono HK6.out.size)
                have q2 := q1.alloc q1.size (.cells #[.int .i64 b.1, .int .i64 b.2] 36)
                have q3 := q2.trans (HL2.out.mono (by rw [HGP.out]; omega))
                exact q3.setCell (by rw [HGP.out]; exact Nat.le_succ _) _
              refine ⟨⟨j + 1, .slice A1 n1 c1, .slice A2 n2 c2, by omega, by go_num, Lib.hid bP7, Lib.hid (HBQ2.out.set_ 0 _), Lib.hid ?_, Lib.hid ?_, Lib.hid apF, Lib.hid (fun a' ha' => ?_), Lib.hid bwY⟩, by simp [intOf]; omega⟩
              · rw [← HTP.out, HN1.out]; exact wP7
              · rw [← HTQ.out, HN2.out]; exact wQ7
              · rw [List.take_add_one, HAJ.out] at ha'
                rcases List.mem_append.1 ha' with h1 | h1
                · exact HVA.out a' h1
                · simp at h1; subst h1; exact HVT.out
          · have hjm2 : j = m := by omega
            subst hjm2
            obtain ⟨SP, cP, rfl⟩ := own_slc HOP.out
            obtain ⟨SQ, cQ, rfl⟩ := own_slc HOQ.out
            have p_0 : wr.cell? ⟨gp, 0, none⟩ = some (.slice SP ((o.take j).map (movP dx dy)).length cP) := HBP.out.cell 0
            have q_0 : wr.cell? ⟨gp + 1, 0, none⟩ = some (.slice SQ (o.reverse.take j).length cQ) := HBQ.out.cell 0
            have pl := HBP.out.lt
            have ql := HBQ.out.lt
            have htk : o.take j = o := List.take_of_length_le (by rw [HML.out]; exact Nat.le_refl _)
            have htr : o.reverse.take j = o.reverse := List.take_of_length_le (by rw [List.length_reverse, HML.out]; exact Nat.le_refl _)
            have hlm : (o.map (movP dx dy)).length = j := by rw [List.length_map, HML.out]
            have hlr : o.reverse.length = j := by rw [List.length_reverse, HML.out]
            rw [htk] at HOP HVA p_0 HBP HPQ
            rw [htr] at HOQ q_0 HBQ HPQ
            rw [hlm] at HOP p_0 HBP HPQ
            rw [hlr] at HOQ q_0 HBQ HPQ
            clear htk htr hlm hlr
            have hm1 := HM.out
            obtain ⟨hs, ks, g1, g2, g3, g4, g5, g6⟩ := hm1
            have HLT1 := Lib.hid (show ∀ b, u9.ownBlock = some b → b < gp from fun b e => by rw [← HGP.out]; exact (g1.lt b e).2)
            have HLT2 := Lib.hid (show ∀ b, u10.ownBlock = some b → b < gp from fun b e => by rw [← HGP.out]; exact (g2.lt b e).2)
            have hws : W2.heap.size ≤ wr.heap.size := Nat.le_trans HYK.out.size HYW.out.size
            have hhl : hs.length ≤ 8 := by have := g3.1; rw [List.length_map, List.length_take] at this; omega
            have HG1 := Lib.hid (own_below g1 HYW.out)
            have hb1 : Below Y.heap.size Y (wr.alloc (.cells #[.slice SP j cP] 42)) := HYW.out.alloc HYW.out.size _
            have hrP := (Rd.own' encPt_len (by decide) HOP.out).below (Below.alloc (Below.refl wr.heap.size wr) (Nat.le_refl _) (.cells #[.slice SP j cP] 42))
            have hrQ := (Rd.own' encPt_len (by decide) HOQ.out).below (Below.alloc (Below.refl wr.heap.size wr) (Nat.le_refl _) (.cells #[.slice SP j cP] 42))
            have apP : ∀ u : Value, (∀ b, u.ownBlock = some b → b < gp) → o.map (movP dx dy) = [] ∨ (psl ((SP, j, cP) : PolH)).ownBlock ≠ u.ownBlock := fun u hu => by
              rcases hrP.blk_lt with h0 | ⟨b, hb, _⟩
              · exact .inl h0
              · right; intro e; have e1 := (HOP.out.lt b hb).1; have e2 := hu b (e.symm.trans hb); omega
            have apQ : ∀ u : Value, (∀ b, u.ownBlock = some b → b < gp) → o.reverse = [] ∨ (psl ((SQ, j, cQ) : PolH)).ownBlock ≠ u.ownBlock := fun u hu => by
              rcases hrQ.blk_lt with h0 | ⟨b, hb, _⟩
              · exact .inl h0
              · right; intro e; have e1 := (HOQ.out.lt b hb).1; have e2 := hu b (e.symm.trans hb); omega
            have HPU := Lib.hid (fun (v1 : Value) (w1 : World) (hown1 : w1.ownsRow W2.heap.size 42 1 v1 (hs ++ [((SP, j, cP) : PolH)]).length ((hs ++ [((SP, j, cP) : PolH)]).flatMap encPol)) (hg : (wr.alloc (.cells #[.slice SP j cP] 42)).grownBy w1 u9.ownBlock) (hat : v1.ownBlock = u9.ownBlock ∨ v1.ownBlock = some (wr.alloc (.cells #[.slice SP j cP] 42)).heap.size) =>
              And.intro (Mov.push (own_below g1 hb1) (own_below g2 hb1) (g3.below hb1) (g4.below hb1) g5 g6 hown1 hg hat hrP (apP u9 HLT1.out) (apP u10 HLT2.out)).swap
                (And.intro (Rd.grown (v := psl ((SQ, j, cQ) : PolH)) hrQ hg (apQ u9 HLT1.out)) (apart_far (h := ((SQ, j, cQ) : PolH)) hrQ (apQ u9 HLT1.out) hat)))
            have HAQ := Lib.hid (apQ u10 HLT2.out)
            have hkl : ∀ ks' : List PolH, ks'.length = ((q.take k).map List.reverse).length → ks'.length ≤ 8 := fun ks' e => by rw [e, List.length_map, List.length_take]; omega
            clear g1 g2 g3 g4 g5 g6 hb1 hrP hrQ apP apQ
            go_wp2_with (first
              | (at_builtin; refine wpList_app _ rfl _ _ 24 rfl encPol_len (by decide) onePol W2.heap.size 42 (.agg #[.slice none 0 0]) 24 infoPol rfl Try.underlying24 _ _ _ _ rfl (HG1.out.alloc _) _ _ _ rfl (rd_one _ encPol_len _ ((SP, j, cP) : PolH) _ rfl) ?c1 (by decide) ?c2 ?_; (case c1 => (first | (simp only [List.length_append, List.length_cons, List.length_nil]; omega) | omega | (simp; omega))); (case c2 => exact (by repeat (first | with_reducible exact Nat.le_refl _ | assumption | with_reducible refine le_alloc ?_ _ | with_reducible refine le_drew ?_ | with_reducible refine Kin.le _ ?_ | assumption | omega | (simp only [World.size_alloc]; omega)))); intro v1 w1 hown1 hg1 hbel1 hat1; (have hp := HPU.out v1 w1 hown1 hg1 hat1; have HRQ := Lib.hid hp.2; have HBL1 := Lib.hid hbel1; (obtain ⟨ks1, hs1, k1, k2, k3, k4, k5, k6⟩ := hp.1); have hkl1 := hkl ks1 k3.1; have HK1 := Lib.hid k1; have HK2 := Lib.hid k2; have HK3 := Lib.hid k3; have HK4 := Lib.hid k4; have HK5 := Lib.hid k5; have HK6 := Lib.hid k6; have HBQ1 := Lib.hid ((HBQ.out.up (.cells #[.slice SP j cP] 42)).grown hg1 (by intro e; have := HLT1.out _ e.symm; omega)); have q_1 : w1.cell? ⟨gp + 1, 0, none⟩ = some (.slice SQ j cQ) := HBQ1.out.cell 0; have ql1 := HBQ1.out.lt; have hws1 : W2.heap.size ≤ w1.heap.size := Nat.le_trans hws (Nat.le_trans (by rw [World.size_alloc]; exact Nat.le_succ _) hg1.size); clear hown1 hg1 hbel1 hat1 hp k1 k2 k3 k4 k5 k6))
              | (at_builtin; refine wpList_app _ rfl _ _ 24 rfl encPol_len (by decide) onePol W2.heap.size 42 (.agg #[.slice none 0 0]) 24 infoPol rfl Try.underlying24 _ _ _ _ rfl (HK1.out.alloc _) _ _ _ rfl (rd_one _ encPol_len _ ((SQ, j, cQ) : PolH) _ rfl) ?c1 (by decide) ?c2 ?_; (case c1 => (first | (simp only [List.length_append, List.length_cons, List.length_nil]; omega) | omega | (simp; omega))); (case c2 => exact (by repeat (first | with_reducible exact Nat.le_refl _ | assumption | with_reducible refine le_alloc ?_ _ | with_reducible refine le_drew ?_ | with_reducible refine Kin.le _ ?_ | assumption | omega | (simp only [World.size_alloc]; omega)))); intro v2 w2 hown2 hg2 hbel2 hat2; (have HO2 := Lib.hid hown2; have HGR2 := Lib.hid hg2; have HAT2 := Lib.hid hat2; have HBL2 := Lib.hid hbel2; clear hown2 hg2 hbel2 hat2)))
            have hb2 : Below w1.heap.size w1 (w1.alloc (.cells #[.slice SQ j cQ] 42)) := Below.alloc (Below.refl _ _) (Nat.le_refl _) _
            have hfin := (Mov.push (HK1.out.alloc _) (HK2.out.alloc _) (HK3.out.below hb2) (HK4.out.below hb2) HK5.out HK6.out HO2.out HGR2.out HAT2.out (HRQ.out.1.below hb2) HAQ.out HRQ.out.2).swap
            have hyw2 : Below W2.heap.size W2 w2 := (HYK.out.trans ((HYW.out.mono HYK.out.size).alloc hws _)).trans (HBL1.out.trans ((Below.alloc (Below.refl _ _) hws1 _).trans HBL2.out))
            have etk : q.take (k + 1) = q.take k ++ [o] := by rw [List.take_add_one, HO.out]; rfl
            refine ⟨⟨k + 1, by omega, by go_num, Lib.hid (by rw [etk, List.map_append, List.map_append]; exact hfin), Lib.hid (fun o' ho' => by rw [etk] at ho'; rcases List.mem_append.1 ho' with h' | h'; exact HV.out o' h'; rw [List.mem_singleton.1 h']; exact HVA.out), ⟨w2, hyw2⟩, rfl⟩, by simp [intOf]; omega⟩
      · have hkn : k = n := by omega
        subst hkn
        have htk : q.take k = q := List.take_of_length_le (by rw [HN.out]; exact Nat.le_refl _)
        have HM2 := HM.out
        have HV2 := HV.out
        rw [htk] at HM2 HV2
        have hmv := nest_mov HE.out HV2
        have hrv := nest_rev HE.out
        have HME := Lib.hid hmv.1
        have HMR := Lib.hid (hmv.2.trans HR.out)
        have HRE := Lib.hid hrv.1
        have HRR := Lib.hid (hrv.2.trans HR.out)
        have HLM := Lib.hid (show (q.map fun o => o.map (movP dx dy)).length = k by rw [List.length_map, HN.out])
        have HLR := Lib.hid (show (q.map List.reverse).length = k by rw [List.length_map, HN.out])
        have HBM := Lib.hid (show ∀ o ∈ q.map (fun o => o.map (movP dx dy)), o.length ≤ 1000 from fun o ho => by
          obtain ⟨o1, h1, rfl⟩ := List.mem_map.1 ho
          rw [List.length_map]; exact HB2.out o1 h1)
        have HBR := Lib.hid (show ∀ o ∈ q.map List.reverse, o.length ≤ 1000 from fun o ho => by
          obtain ⟨o1, h1, rfl⟩ := List.mem_map.1 ho
          rw [List.length_reverse]; exact HB2.out o1 h1)
        have HMM := Lib.hid HM2
        replace H2 := Lib.hid (H2.out.kin y)
        clear htk HM2 HV2 hmv hrv HM HV
        go_wp2_with fail
        (go_at_call 25; (with_reducible refine (Kin.callK (W := W2) (by repeat (first | with_reducible (first | exact blA | exact blB | refine blC _ ?_ | refine blD ?_ ?_ _ | refine blE ?_ | refine blF _ ?_ | refine blG ?_ _ | refine blH ?_ | refine blI ?_ ?_ _) | (simp only [World.size_alloc]; omega) | (simp <;> omega))) (nest_is _ (q.map fun o => o.map (movP dx dy)) _ HMM.out.rd1 (by rw [HLM.out]; omega) HBM.out HME.out HMR.out)).mono ?_); rintro e w' ⟨z3, ⟨u3, rfl, hu3⟩, hz3, rfl⟩; skip)
        replace H2 := Lib.hid (H2.out.below hz3)
        replace HMM := Lib.hid (HMM.out.below hz3)
        have H3 := Lib.hid hu3
        clear hu3 hz3
        go_wp2_with fail
        (go_at_call 25; (with_reducible refine (Kin.callK (W := W2) (by repeat (first | with_reducible (first | exact blA | exact blB | refine blC _ ?_ | refine blD ?_ ?_ _ | refine blE ?_ | refine blF _ ?_ | refine blG ?_ _ | refine blH ?_ | refine blI ?_ ?_ _) | (simp only [World.size_alloc]; omega) | (simp <;> omega))) (nest_is _ (q.map List.reverse) _ HMM.out.rd2 (by rw [HLR.out]; omega) HBR.out HRE.out HRR.out)).mono ?_); rintro e w' ⟨z4, ⟨u4, rfl, hu4⟩, hz4, rfl⟩; skip)
        replace H2 := Lib.hid (H2.out.below hz4)
        replace H3 := Lib.hid (H3.out.below hz4)
        have H4 := Lib.hid hu4
        clear hu4 hz4
        go_wp2_with fail
        (go_at_call 27; (with_reducible refine (Kin.callK (W := W2) (by repeat (first | with_reducible (first | exact blA | exact blB | refine blC _ ?_ | refine blD ?_ ?_ _ | refine blE ?_ | refine blF _ ?_ | refine blG ?_ _ | refine blH ?_ | refine blI ?_ ?_ _) | (simp only [World.size_alloc]; omega) | (simp <;> omega))) (ints_true _ _ R _ H2.out H3.out (by omega))).mono ?_); rintro e w' ⟨z5, rfl, hz5, rfl⟩; skip)
        replace H2 := Lib.hid (H2.out.below hz5)
        replace H4 := Lib.hid (H4.out.below hz5)
        clear hz5
        go_wp2_with fail
        (go_at_call 27; (with_reducible refine (Kin.callK (W := W2) (by repeat (first | with_reducible (first | exact blA | exact blB | refine blC _ ?_ | refine blD ?_ ?_ _ | refine blE ?_ | refine blF _ ?_ | refine blG ?_ _ | refine blH ?_ | refine blI ?_ ?_ _) | (simp only [World.size_alloc]; omega) | (simp <;> omega))) (ints_true _ _ R _ H2.out H4.out (by omega))).mono ?_); rintro e w' ⟨z6, rfl, hz6, rfl⟩; skip)
        clear hz6
        go_wp2_with fail
        (go_at_call 19; (with_reducible refine (Kin.callK (W := W2) (by repeat (first | with_reducible (first | exact blA | exact blB | refine blC _ ?_ | refine blD ?_ ?_ _ | refine blE ?_ | refine blF _ ?_ | refine blG ?_ _ | refine blH ?_ | refine blI ?_ ?_ _) | (simp only [World.size_alloc]; omega) | (simp <;> omega))) (awake16_any _)).mono ?_); rintro e w' ⟨z7, rfl, hz7, rfl⟩; skip)
        go_wp2_with fail
        go_ret
        exact ⟨rfl, HBW.out.trans (z7.2.mono HBW.out.size)⟩
set_option maxRecDepth 100000 in
theorem contourMoves_lifted (os : Os) (started : os.Started) (H : Type) (enc : TypeId × Value → H) :
    ReturnsInHanded {} Try.checked os 9 .any (Rows.contourMovesSpec.pre6 enc Try.prog Try.f9 Rows.contourMovesRow.domain false) (Rows.contourMovesSpec.post enc Try.prog Try.f9 false true false false) := by
  refine returnsInHanded_of_change (C := Try.checked) own started (by kernel_rfl) Try.func9
    (ChangeSpec.witness6 (enc := enc) (C := Try.checked) false ⟨#[], #[.slice none 0 0, .int .i64 0, .int .i64 0], []⟩ 8 (by kernel_rfl) (by kernel_rfl) (by kernel_rfl) (by kernel_rfl)) ?_
  intro W base args ds gs before hval0 hW hcnd _
  have hval : ∀ (j : Nat) t v, Try.f9.params[j]? = some t → args[j]? = some v → Value.okWide Try.prog W .any base t v := hval0
  have hW' := hW
  obtain ⟨p, q, hA0, hV, rfl, hfz, hnd⟩ := hW
  have hA : DataW.TrodAll enc Try.prog W 0 (fun _ => true) true Try.f9.params.toList args.toList ds p := hA0
  rw [Try.params9] at hA hval
  have hAA := hA
  obtain ⟨v0, vs0, d0, ds0, p0, q0, hargs, rfl, rfl, h0, r0⟩ := trodAll_cons hA
  obtain ⟨v1, vs1, d1, ds1, p1, q1, rfl, rfl, rfl, h1, r1⟩ := trodAll_cons r0
  obtain ⟨v2, vs2, d2, ds2, p2, q2, rfl, rfl, rfl, h2, r2⟩ := trodAll_cons r1
  obtain ⟨rfl, rfl, rfl⟩ := trodAll_nil r2
  obtain rfl : args = #[v0, v1, v2] := by cases args; simp_all
  obtain ⟨rfl, rfl⟩ := trodVars_none hV
  have o0 := open_pols (hval 0 24 v0 rfl rfl) h0
  have o1 := open_i64 (hval 1 3 v1 rfl rfl) h1
  have o2 := open_i64 (hval 2 3 v2 rfl rfl) h2
  have hlt : ∀ x ∈ p0 ++ (p1 ++ (p2 ++ [])), x.block < W.heap.size := fun x hx => hW'.lt x (by simpa using hx)
  refine (ctrMoves_walk W _ o0 _ o1 _ o2).mono fun e W' ⟨he, bel⟩ => ?_
  subst he
  exact ⟨_, rfl, _, _, _, [], _, [], hW', trodAll_mk1 (shut_bool Try.underlying4 _), below_trodAll laidOut bel _ _ _ _ (by
    intro t ht
    have hcl : ([24, 3, 3] : List TypeId).all (fun t => Try.prog.readableRec t && decide (t < Try.prog.types.size)) = true := by kernel_rfl
    have := List.all_eq_true.1 hcl t ht
    simpa using this) hlt hAA, rfl, bel.frame _, fun h => by cases h⟩
theorem contourMoves_heard : (Try.checked.prog.stopsHeard = true ∧ Try.checked.prog.mayEnter = true) ∧ Try.checked.prog.liftsFinal = Rows.contourMovesRow.lifted := ⟨⟨by kernel_rfl, by kernel_rfl⟩, by kernel_rfl⟩
theorem contourMoves_calls : (Try.checked.prog.inPlace 9 = Rows.contourMovesRow.inPlace ∧ Try.checked.prog.unfollowed 9 = Rows.contourMovesRow.unfollowed) ∧ (Try.checked.prog.recurses 9 = Rows.contourMovesRow.recurses ∧ Try.checked.prog.varsNamed 9 = Rows.contourMovesRow.named) := ⟨⟨by kernel_rfl, by kernel_rfl⟩, ⟨by kernel_rfl, by kernel_rfl⟩⟩
theorem contourMoves_closed : joinedFacts Try.checked.prog 9 Try.f9 Rows.contourMovesSpec Rows.contourMovesRow = true := by
  unfold joinedFacts
  rw [contourMoves_calls.1.1, contourMoves_calls.1.2, contourMoves_calls.2.1, contourMoves_calls.2.2, contourMoves_heard.1.1, contourMoves_heard.1.2, contourMoves_heard.2]
  kernel_rfl
/-- ContourMoves: for every input the call returns true, and the arguments read behind it as before. No condition. -/
theorem contourMoves_holds : Rows.ContourMovesSaid :=
  OpenClaim.holds_of_wide 9 Try.f9 rfl rfl rfl rfl rfl rfl rfl ⟨rfl, rfl, rfl, rfl, rfl⟩ rfl rfl rfl rfl rfl (by kernel_rfl) Try.func9 contourMoves_closed
    (of_decide_eq_true (by kernel_rfl)) (by unfold Func.isWrapper; rw [if_neg (of_decide_eq_false (by kernel_rfl))]; exact ⟨rfl, rfl⟩)
    (fun os started H enc _ => contourMoves_lifted os started H enc)

end Go.Proofs.Yteadnlodccnfcaa
